/-
  Small facts that all walks of this seat share: how one world follows another, strings as lists of bytes, a new slice of bytes turned into a string. A new slice of one or two bytes, turned into a string. Small facts on a new block. Slices of bytes: one that the call itself makes and appends to; one that is only read.
-/
import Derived.Test.YtahjoiphajkdcaaDoorRows
import Derived.WalkKit
import Derived.WalkSpells
import Derived.WalkLawsBesides
import Derived.Lib.Hide
import Derived.Lib.Strings
import Derived.Deep.QuietTactic
import Derived.BigQuiet
import Derived.Laws.IdiomStrings
import Derived.OwnWalk
import Derived.Laws.AppendOwnNone
import Derived.Lib.BufferRead
namespace Go.Proofs.YtahjoiphajkdcaaDoor
open Go.RowKit

theorem ret_int {k : IntKind} {a b : Int} (h : a = b) : Ending.returned (.int k a) = .returned (.int k b) := by rw [h]
theorem ret_str {a b : ByteArray} (h : a = b) : Ending.returned (.string a) = .returned (.string b) := by rw [h]
theorem ret_bool {a b : Bool} (h : a = b) : Ending.returned (.bool a) = .returned (.bool b) := by rw [h]

/-- A world behind another one: new blocks, draws; what was there stays. -/
def Aft (w w' : World) : Prop := Below w.heap.size w w'
theorem Aft.refl (w : World) : Aft w w := Below.refl _ _
theorem Aft.trans {a b c : World} (h : Aft a b) (k : Aft b c) : Aft a c := Below.trans h (Below.mono k h.size)
theorem Aft.drew {a b : World} (h : Aft a b) : Aft a b.drew := Below.drew h
theorem Aft.drewN {a b : World} (h : Aft a b) (n : Nat) : Aft a (b.drewN n) := Below.trans h ⟨rfl, rfl, rfl, Nat.le_refl _, fun _ _ => rfl⟩
theorem Aft.alloc {a b : World} (h : Aft a b) (o : Obj) : Aft a (b.alloc o) := Below.alloc h h.size o
theorem Aft.to {w w' : World} (h : Aft w w') : Below w.heap.size w w' := h

theorem bset {B : Nat} {a w : World} (h : Below B a w) (b o : Nat) (v : Value) (hb : B ≤ b) : Below B a (w.setCell ⟨b, o, none⟩ v) := Below.setCell h hb v
theorem bdrawN {B : Nat} {a b : World} (h : Below B a b) (n : Nat) : Below B a (b.drewN n) := Below.trans h ⟨rfl, rfl, rfl, Nat.le_refl _, fun _ _ => rfl⟩

theorem bytes_ext {a b : ByteArray} (h : a.data.toList = b.data.toList) : a = b := by
  cases a with | mk a => cases b with | mk b => rw [ByteArray.mk.injEq]; exact Array.toList_inj.1 h
theorem bytes_eq_of {a b : ByteArray} (h : (a.toList == b.toList) = true) : a.data.toList = b.data.toList := by
  rw [Lib.toList_data, Lib.toList_data] at h; exact eq_of_beq h
theorem bytes_ne_of {a b : ByteArray} (h : (a.toList == b.toList) = false) : a.data.toList ≠ b.data.toList := by
  rw [Lib.toList_data, Lib.toList_data] at h; intro e; rw [e] at h; simp at h
theorem bytes_beq (a b : ByteArray) : (a.toList == b.toList) = (a.data.toList == b.data.toList) := by
  rw [Lib.toList_data, Lib.toList_data]

theorem extract_end (s : ByteArray) (a : Nat) : (s.extract a s.size).data.toList = s.data.toList.drop a := by
  rw [Lib.extract_data, List.take_of_length_le]
  rw [List.length_drop, Lib.size_eq]
  exact Nat.le_refl _
theorem extract_front (s : ByteArray) (a : Nat) : (s.extract 0 a).data.toList = s.data.toList.take a := by
  rw [Lib.extract_data]; simp
theorem size_len (s : ByteArray) : s.data.toList.length = s.size := (Lib.size_eq s).symm
theorem getElem_data (s : ByteArray) (i : Nat) (h : i < s.size) : s[i] = s.data.toList[i]'(by rw [size_len]; exact h) := rfl

/-- The byte that a number leaves. -/
def byteOf (n : Int) : UInt8 := UInt8.ofNat n.toNat

end Go.Proofs.YtahjoiphajkdcaaDoor
namespace Go.Proofs.YtahjoiphajkdcaaDoor
open Go.RowKit

theorem byteOf_toNat {n : Int} (h0 : 0 ≤ n) (h1 : n < 256) : ((byteOf n).toNat : Int) = n := by
  unfold byteOf
  rw [UInt8.toNat_ofNat']
  omega

end Go.Proofs.YtahjoiphajkdcaaDoor
namespace Go.Proofs.YtahjoiphajkdcaaDoor
open Go.RowKit

theorem cell_new1 (w : World) (v : Value) (t : TypeId) : (w.alloc (.cells #[v] t)).cell? ⟨w.heap.size, 0, none⟩ = some v := by simp [go_sem]
theorem le_alloc {w : World} {n : Nat} (h : n ≤ w.heap.size) (o : Obj) : n ≤ (w.alloc o).heap.size := by rw [World.size_alloc]; exact Nat.le_succ_of_le h
end Go.Proofs.YtahjoiphajkdcaaDoor
namespace Go.Proofs.YtahjoiphajkdcaaDoor
open Go.RowKit

def bv (l : List UInt8) : List Value := l.map fun c => .int .u8 (c.toNat : Int)
theorem bv_len (l : List UInt8) : (bv l).length = l.length := by simp [bv]
theorem bv_append (a b : List UInt8) : bv (a ++ b) = bv a ++ bv b := by simp [bv]
theorem info8 : (Tryd.prog.info? 5).map (fun i => (i.zero, i.size, i.bytes)) = some (some (.int .u8 0), 1, 1) := by kernel_rfl

/-- The slice v of bytes is the call's own, in a block from base on: its elements are l. -/
def Own (w : World) (base : Nat) (v : Value) (l : List UInt8) : Prop := w.ownsRow base 5 1 v l.length (bv l)
theorem Own.nil (w : World) (base : Nat) : Own w base (.slice none 0 0) [] := World.ownsRow_nil _ _ _ _
theorem Own.lt {w : World} {base : Nat} {v : Value} {l : List UInt8} (h : Own w base v l) : ∀ k, v.ownBlock = some k → base ≤ k ∧ k < w.heap.size := World.ownsRow.lt h
theorem Own.aft {w w' : World} {base : Nat} {v : Value} {l : List UInt8} (h : Own w base v l) (ha : Aft w w') : Own w' base v l := by
  obtain ⟨h1, h2⟩ := h
  refine ⟨h1, ?_⟩
  rcases h2 with ⟨a, b⟩ | ⟨g, cap, cur, a, b, c, d⟩
  · exact Or.inl ⟨a, b⟩
  · refine Or.inr ⟨g, cap, cur, a, b, ?_, d⟩
    rw [Below.block ha g (by rcases Nat.lt_or_ge g w.heap.size with h | h; exact h; rw [Array.getElem?_eq_none h] at c; cases c)]
    exact c
theorem Own.drewN {w : World} {base : Nat} {v : Value} {l : List UInt8} (h : Own w base v l) (n : Nat) : Own (w.drewN n) base v l := h.aft ((Aft.refl _).drewN n)
theorem Own.shape {w : World} {base : Nat} {v : Value} {l : List UInt8} (h : Own w base v l) : (v = .slice none 0 0 ∧ l = []) ∨ ∃ g cap, v = .slice (some ⟨g, 0, none⟩) l.length cap ∧ base ≤ g ∧ g < w.heap.size ∧ l.length ≤ cap ∧ cap ≤ maxLen := by
  obtain ⟨h1, ⟨a, b⟩ | ⟨g, cap, cur, a, b, c, d, e, _⟩⟩ := id h
  · exact Or.inl ⟨a, List.eq_nil_of_length_eq_zero b⟩
  · exact Or.inr ⟨g, cap, a, b, (h.lt g (by rw [a]; rfl)).2, d, e⟩

theorem Own.base {w : World} {base base' : Nat} {v : Value} {l : List UInt8} (h : Own w base v l) (hb : base' ≤ base) : Own w base' v l := by
  obtain ⟨h1, h2⟩ := h
  refine ⟨h1, ?_⟩
  rcases h2 with h2 | ⟨g, cap, cur, a, b, c⟩
  · exact Or.inl h2
  · exact Or.inr ⟨g, cap, cur, a, by omega, c⟩

/-- The slice v of bytes can be read: its elements are l. -/
def Rb (w : World) (v : Value) (l : List UInt8) : Prop :=
  ((∃ a, v = .slice a 0 0) ∧ l = []) ∨ ∃ b off cap, v = .slice (some ⟨b, off, none⟩) l.length cap ∧ l.length ≤ cap ∧ cap ≤ maxLen ∧ b < w.heap.size ∧ ∀ i (h : i < l.length), w.cell? ⟨b, off + i, none⟩ = some (.int .u8 (l[i].toNat : Int))
theorem Rb.aft {w w' : World} {v : Value} {l : List UInt8} (h : Rb w v l) (ha : Aft w w') : Rb w' v l := by
  rcases h with h | ⟨b, off, cap, a, b1, b2, c, d⟩
  · exact Or.inl h
  · refine Or.inr ⟨b, off, cap, a, b1, b2, Nat.lt_of_lt_of_le c ha.size, fun i hi => ?_⟩
    rw [Below.cell ha.to (p := ⟨b, off + i, none⟩) c]
    exact d i hi
theorem Rb.below {B : Nat} {w w' : World} {v : Value} {l : List UInt8} (h : Rb w v l) (ha : Below B w w') (hB : w.heap.size ≤ B) : Rb w' v l := h.aft (Below.mono ha hB)
theorem Own.rb {w : World} {base : Nat} {v : Value} {l : List UInt8} (h : Own w base v l) : Rb w v l := by
  rcases h.shape with ⟨a, b⟩ | ⟨g, cap, a, b, c, d, e⟩
  · exact Or.inl ⟨⟨none, a⟩, b⟩
  · refine Or.inr ⟨g, 0, cap, a, d, e, c, fun i hi => ?_⟩
    subst a
    have hx := World.ownsRow.cellAt h i (by omega)
    rw [show (0 : Nat) + i = i by omega, hx]
    unfold bv
    rw [List.getElem?_map, List.getElem?_eq_getElem hi]
    rfl


theorem push_below {B base : Nat} {a w w' : World} {v : Value} {l : List UInt8} (h : Below B a w) (ho : Own w base v l) (hg : w.grownBy w' v.ownBlock) (hB : B ≤ base) (hb : base ≤ w.heap.size) : Below B a w' :=
  Below.grown h hg (by omega) (fun k hk => by have := (ho.lt k hk).1; omega)

end Go.Proofs.YtahjoiphajkdcaaDoor
