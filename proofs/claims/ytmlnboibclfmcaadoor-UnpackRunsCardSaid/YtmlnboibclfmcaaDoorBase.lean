/-
  Small facts that all walks of this seat share: how one world follows another, strings as lists of bytes, a new slice of bytes turned into a string.
-/
import Derived.Test.YtmlnboibclfmcaaDoorRows
import Derived.WalkKit
import Derived.WalkSpells
import Derived.WalkLawsBesides
import Derived.Lib.Hide
import Derived.Lib.Strings
import Derived.Deep.QuietTactic
import Derived.BigQuiet
import Derived.Laws.IdiomStrings
namespace Go.Proofs.YtmlnboibclfmcaaDoor
open Go.RowKit

theorem ret_int {k : IntKind} {a b : Int} (h : a = b) : Ending.returned (.int k a) = .returned (.int k b) := by rw [h]
theorem ret_str {a b : ByteArray} (h : a = b) : Ending.returned (.string a) = .returned (.string b) := by rw [h]
theorem ret_bool {a b : Bool} (h : a = b) : Ending.returned (.bool a) = .returned (.bool b) := by rw [h]

/-- A world behind another one: new blocks, draws; what was there stays. -/
def Aft (w w' : World) : Prop := Below w.heap.size w w'
theorem Aft.refl (w : World) : Aft w w := Below.refl _ _
theorem Aft.trans {a b c : World} (h : Aft a b) (k : Aft b c) : Aft a c := Below.trans h (Below.mono k h.size)
theorem Aft.drew {a b : World} (h : Aft a b) : Aft a b.drew := Below.drew h
theorem Aft.drewN {a b : World} (h : Aft a b) (n : Nat) : Aft a (b.drewN n) := Below.trans h ⟨rfl, rfl, rfl, Nat.le_refl _, fun _ _ => rfl⟩
theorem Aft.alloc {a b : World} (h : Aft a b) (o : Obj) : Aft a (b.alloc o) := Below.alloc h h.size o
theorem Aft.to {w w' : World} (h : Aft w w') : Below w.heap.size w w' := h

theorem bset {B : Nat} {a w : World} (h : Below B a w) (b o : Nat) (v : Value) (hb : B ≤ b) : Below B a (w.setCell ⟨b, o, none⟩ v) := Below.setCell h hb v
theorem bdrawN {B : Nat} {a b : World} (h : Below B a b) (n : Nat) : Below B a (b.drewN n) := Below.trans h ⟨rfl, rfl, rfl, Nat.le_refl _, fun _ _ => rfl⟩

theorem bytes_ext {a b : ByteArray} (h : a.data.toList = b.data.toList) : a = b := by
  cases a with | mk a => cases b with | mk b => rw [ByteArray.mk.injEq]; exact Array.toList_inj.1 h
theorem bytes_eq_of {a b : ByteArray} (h : (a.toList == b.toList) = true) : a.data.toList = b.data.toList := by
  rw [Lib.toList_data, Lib.toList_data] at h; exact eq_of_beq h
theorem bytes_ne_of {a b : ByteArray} (h : (a.toList == b.toList) = false) : a.data.toList ≠ b.data.toList := by
  rw [Lib.toList_data, Lib.toList_data] at h; intro e; rw [e] at h; simp at h
theorem bytes_beq (a b : ByteArray) : (a.toList == b.toList) = (a.data.toList == b.data.toList) := by
  rw [Lib.toList_data, Lib.toList_data]

theorem extract_end (s : ByteArray) (a : Nat) : (s.extract a s.size).data.toList = s.data.toList.drop a := by
  rw [Lib.extract_data, List.take_of_length_le]
  rw [List.length_drop, Lib.size_eq]
  exact Nat.le_refl _
theorem extract_front (s : ByteArray) (a : Nat) : (s.extract 0 a).data.toList = s.data.toList.take a := by
  rw [Lib.extract_data]; simp
theorem size_len (s : ByteArray) : s.data.toList.length = s.size := (Lib.size_eq s).symm
theorem getElem_data (s : ByteArray) (i : Nat) (h : i < s.size) : s[i] = s.data.toList[i]'(by rw [size_len]; exact h) := rfl

/-- The byte that a number leaves. -/
def byteOf (n : Int) : UInt8 := UInt8.ofNat n.toNat

end Go.Proofs.YtmlnboibclfmcaaDoor
