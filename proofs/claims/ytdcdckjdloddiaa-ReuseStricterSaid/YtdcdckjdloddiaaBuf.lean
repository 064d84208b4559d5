/-
  Small facts that all walks of this seat share: how one world follows another, strings as lists of bytes, a new slice of bytes turned into a string. A new slice of one or two bytes, turned into a string. Small facts on a new block. Slices of bytes: one that the call itself makes and appends to; one that is only read.
-/
import Derived.Test.YtdcdckjdloddiaaRows
import Derived.WalkKit
import Derived.WalkSpells
import Derived.WalkLawsBesides
import Derived.Lib.Hide
import Derived.Lib.Strings
import Derived.Deep.QuietTactic
import Derived.BigQuiet
import Derived.Laws.IdiomStrings
import Derived.OwnWalk
import Derived.Laws.AppendOwnNone
import Derived.Lib.BufferRead
namespace Go.Proofs.Ytdcdckjdloddiaa
open Go.RowKit

theorem ret_int {k : IntKind} {a b : Int} (h : a = b) : Ending.returned (.int k a) = .returned (.int k b) := by rw [h]
theorem ret_str {a b : ByteArray} (h : a = b) : Ending.returned (.string a) = .returned (.string b) := by rw [h]
theorem ret_bool {a b : Bool} (h : a = b) : Ending.returned (.bool a) = .returned (.bool b) := by rw [h]

/-- A world behind another one: new blocks, draws; what was there stays. -/
def Aft (w w' : World) : Prop := Below w.heap.size w w'
theorem Aft.refl (w : World) : Aft w w := Below.refl _ _
theorem Aft.trans {a b c : World} (h : Aft a b) (k : Aft b c) : Aft a c := Below.trans h (Below.mono k h.size)
theorem Aft.drew {a b : World} (h : Aft a b) : Aft a b.drew := Below.drew h
theorem Aft.drewN {a b : World} (h : Aft a b) (n : Nat) : Aft a (b.drewN n) := Below.trans h ⟨rfl, rfl, rfl, Nat.le_refl _, fun _ _ => rfl⟩
theorem Aft.alloc {a b : World} (h : Aft a b) (o : Obj) : Aft a (b.alloc o) := Below.alloc h h.size o
theorem Aft.to {w w' : World} (h : Aft w w') : Below w.heap.size w w' := h

theorem bset {B : Nat} {a w : World} (h : Below B a w) (b o : Nat) (v : Value) (hb : B ≤ b) : Below B a (w.setCell ⟨b, o, none⟩ v) := Below.setCell h hb v
theorem bdrawN {B : Nat} {a b : World} (h : Below B a b) (n : Nat) : Below B a (b.drewN n) := Below.trans h ⟨rfl, rfl, rfl, Nat.le_refl _, fun _ _ => rfl⟩

theorem bytes_ext {a b : ByteArray} (h : a.data.toList = b.data.toList) : a = b := by
  cases a with | mk a => cases b with | mk b => rw [ByteArray.mk.injEq]; exact Array.toList_inj.1 h
theorem bytes_eq_of {a b : ByteArray} (h : (a.toList == b.toList) = true) : a.data.toList = b.data.toList := by
  rw [Lib.toList_data, Lib.toList_data] at h; exact eq_of_beq h
theorem bytes_ne_of {a b : ByteArray} (h : (a.toList == b.toList) = false) : a.data.toList ≠ b.data.toList := by
  rw [Lib.toList_data, Lib.toList_data] at h; intro e; rw [e] at h; simp at h
theorem bytes_beq (a b : ByteArray) : (a.toList == b.toList) = (a.data.toList == b.data.toList) := by
  rw [Lib.toList_data, Lib.toList_data]

theorem extract_end (s : ByteArray) (a : Nat) : (s.extract a s.size).data.toList = s.data.toList.drop a := by
  rw [Lib.extract_data, List.take_of_length_le]
  rw [List.length_drop, Lib.size_eq]
  exact Nat.le_refl _
theorem extract_front (s : ByteArray) (a : Nat) : (s.extract 0 a).data.toList = s.data.toList.take a := by
  rw [Lib.extract_data]; simp
theorem size_len (s : ByteArray) : s.data.toList.length = s.size := (Lib.size_eq s).symm
theorem getElem_data (s : ByteArray) (i : Nat) (h : i < s.size) : s[i] = s.data.toList[i]'(by rw [size_len]; exact h) := rfl

/-- The byte that a number leaves. -/
def byteOf (n : Int) : UInt8 := UInt8.ofNat n.toNat

end Go.Proofs.Ytdcdckjdloddiaa
namespace Go.Proofs.Ytdcdckjdloddiaa
open Go.RowKit

theorem byteOf_toNat {n : Int} (h0 : 0 ≤ n) (h1 : n < 256) : ((byteOf n).toNat : Int) = n := by
  unfold byteOf
  rw [UInt8.toNat_ofNat']
  omega

theorem conv1 (w : World) (b : Int) (h0 : 0 ≤ b) (h1 : b < 256) :
    (convert 81 9 (.slice (some ⟨w.heap.size, 0, none⟩) 1 1)).run Try.prog (w.alloc (.cells #[.int .u8 b] 5)) = .ok (.string ⟨#[byteOf b]⟩) (w.alloc (.cells #[.int .u8 b] 5)) := by
  have h := run_convert_bytes_back (P := Try.prog) (w.alloc (.cells #[.int .u8 b] 5)) 81 9 5 ⟨w.heap.size, 0, none⟩ 1 [byteOf b] Try.underlying81 Try.underlying5 Try.underlying9 (by
    intro j hj
    have : j = 0 := by simpa using hj
    subst this
    show _ = some (Value.int .u8 ((byteOf b).toNat : Int))
    rw [byteOf_toNat h0 h1]
    simp [go_sem, Addr.add])
  exact h

theorem conv1_at (b : Int) (h0 : 0 ≤ b) (h1 : b < 256) (W : World) (a : Addr) (cap : Nat) (hc : W.cell? a = some (.int .u8 b)) :
    (convert 81 9 (.slice (some a) 1 cap)).run Try.prog W = .ok (.string ⟨#[byteOf b]⟩) W := by
  exact run_convert_bytes_back (P := Try.prog) W 81 9 5 a cap [byteOf b] Try.underlying81 Try.underlying5 Try.underlying9 (by
    intro j hj
    have : j = 0 := by simpa using hj
    subst this
    show _ = some (Value.int .u8 ((byteOf b).toNat : Int))
    rw [byteOf_toNat h0 h1]
    simpa [Addr.add] using hc)

theorem conv2 (w : World) (a b : Int) (a0 : 0 ≤ a) (a1 : a < 256) (h0 : 0 ≤ b) (h1 : b < 256) :
    (convert 81 9 (.slice (some ⟨w.heap.size, 0, none⟩) 2 2)).run Try.prog (w.alloc (.cells #[.int .u8 a, .int .u8 b] 5)) = .ok (.string ⟨#[byteOf a, byteOf b]⟩) (w.alloc (.cells #[.int .u8 a, .int .u8 b] 5)) := by
  have h := run_convert_bytes_back (P := Try.prog) (w.alloc (.cells #[.int .u8 a, .int .u8 b] 5)) 81 9 5 ⟨w.heap.size, 0, none⟩ 2 [byteOf a, byteOf b] Try.underlying81 Try.underlying5 Try.underlying9 (by
    intro j hj
    have : j = 0 ∨ j = 1 := by simp at hj; omega
    rcases this with rfl | rfl
    · show _ = some (Value.int .u8 ((byteOf a).toNat : Int))
      rw [byteOf_toNat a0 a1]
      simp [go_sem, Addr.add]
    · show _ = some (Value.int .u8 ((byteOf b).toNat : Int))
      rw [byteOf_toNat h0 h1]
      simp [go_sem, Addr.add])
  exact h

end Go.Proofs.Ytdcdckjdloddiaa
namespace Go.Proofs.Ytdcdckjdloddiaa
open Go.RowKit

theorem cell_new1 (w : World) (v : Value) (t : TypeId) : (w.alloc (.cells #[v] t)).cell? ⟨w.heap.size, 0, none⟩ = some v := by simp [go_sem]
theorem le_alloc {w : World} {n : Nat} (h : n ≤ w.heap.size) (o : Obj) : n ≤ (w.alloc o).heap.size := by rw [World.size_alloc]; exact Nat.le_succ_of_le h
end Go.Proofs.Ytdcdckjdloddiaa
namespace Go.Proofs.Ytdcdckjdloddiaa
open Go.RowKit

def bv (l : List UInt8) : List Value := l.map fun c => .int .u8 (c.toNat : Int)
theorem bv_len (l : List UInt8) : (bv l).length = l.length := by simp [bv]
theorem bv_append (a b : List UInt8) : bv (a ++ b) = bv a ++ bv b := by simp [bv]
theorem info8 : (Try.prog.info? 5).map (fun i => (i.zero, i.size, i.bytes)) = some (some (.int .u8 0), 1, 1) := by kernel_rfl

/-- The slice v of bytes is the call's own, in a block from base on: its elements are l. -/
def Own (w : World) (base : Nat) (v : Value) (l : List UInt8) : Prop := w.ownsRow base 5 1 v l.length (bv l)
theorem Own.nil (w : World) (base : Nat) : Own w base (.slice none 0 0) [] := World.ownsRow_nil _ _ _ _
theorem Own.lt {w : World} {base : Nat} {v : Value} {l : List UInt8} (h : Own w base v l) : ∀ k, v.ownBlock = some k → base ≤ k ∧ k < w.heap.size := World.ownsRow.lt h
theorem Own.aft {w w' : World} {base : Nat} {v : Value} {l : List UInt8} (h : Own w base v l) (ha : Aft w w') : Own w' base v l := by
  obtain ⟨h1, h2⟩ := h
  refine ⟨h1, ?_⟩
  rcases h2 with ⟨a, b⟩ | ⟨g, cap, cur, a, b, c, d⟩
  · exact Or.inl ⟨a, b⟩
  · refine Or.inr ⟨g, cap, cur, a, b, ?_, d⟩
    rw [Below.block ha g (by rcases Nat.lt_or_ge g w.heap.size with h | h; exact h; rw [Array.getElem?_eq_none h] at c; cases c)]
    exact c
theorem Own.drewN {w : World} {base : Nat} {v : Value} {l : List UInt8} (h : Own w base v l) (n : Nat) : Own (w.drewN n) base v l := h.aft ((Aft.refl _).drewN n)
theorem Own.shape {w : World} {base : Nat} {v : Value} {l : List UInt8} (h : Own w base v l) : (v = .slice none 0 0 ∧ l = []) ∨ ∃ g cap, v = .slice (some ⟨g, 0, none⟩) l.length cap ∧ base ≤ g ∧ g < w.heap.size ∧ l.length ≤ cap ∧ cap ≤ maxLen := by
  obtain ⟨h1, ⟨a, b⟩ | ⟨g, cap, cur, a, b, c, d, e, _⟩⟩ := id h
  · exact Or.inl ⟨a, List.eq_nil_of_length_eq_zero b⟩
  · exact Or.inr ⟨g, cap, a, b, (h.lt g (by rw [a]; rfl)).2, d, e⟩

theorem Own.base {w : World} {base base' : Nat} {v : Value} {l : List UInt8} (h : Own w base v l) (hb : base' ≤ base) : Own w base' v l := by
  obtain ⟨h1, h2⟩ := h
  refine ⟨h1, ?_⟩
  rcases h2 with h2 | ⟨g, cap, cur, a, b, c⟩
  · exact Or.inl h2
  · exact Or.inr ⟨g, cap, cur, a, by omega, c⟩

/-- The slice v of bytes can be read: its elements are l. -/
def Rb (w : World) (v : Value) (l : List UInt8) : Prop :=
  ((∃ a, v = .slice a 0 0) ∧ l = []) ∨ ∃ b off cap, v = .slice (some ⟨b, off, none⟩) l.length cap ∧ l.length ≤ cap ∧ cap ≤ maxLen ∧ b < w.heap.size ∧ ∀ i (h : i < l.length), w.cell? ⟨b, off + i, none⟩ = some (.int .u8 (l[i].toNat : Int))
theorem Rb.aft {w w' : World} {v : Value} {l : List UInt8} (h : Rb w v l) (ha : Aft w w') : Rb w' v l := by
  rcases h with h | ⟨b, off, cap, a, b1, b2, c, d⟩
  · exact Or.inl h
  · refine Or.inr ⟨b, off, cap, a, b1, b2, Nat.lt_of_lt_of_le c ha.size, fun i hi => ?_⟩
    rw [Below.cell ha.to (p := ⟨b, off + i, none⟩) c]
    exact d i hi
theorem Rb.below {B : Nat} {w w' : World} {v : Value} {l : List UInt8} (h : Rb w v l) (ha : Below B w w') (hB : w.heap.size ≤ B) : Rb w' v l := h.aft (Below.mono ha hB)
theorem Own.rb {w : World} {base : Nat} {v : Value} {l : List UInt8} (h : Own w base v l) : Rb w v l := by
  rcases h.shape with ⟨a, b⟩ | ⟨g, cap, a, b, c, d, e⟩
  · exact Or.inl ⟨⟨none, a⟩, b⟩
  · refine Or.inr ⟨g, 0, cap, a, d, e, c, fun i hi => ?_⟩
    subst a
    have hx := World.ownsRow.cellAt h i (by omega)
    rw [show (0 : Nat) + i = i by omega, hx]
    unfold bv
    rw [List.getElem?_map, List.getElem?_eq_getElem hi]
    rfl


/-- 'append(out, c)', out the call's own. -/
theorem wpList_push {w : World} {ops : Array Oper} {rest : List Oper} {o : Oper} {a : Act} {Q : Exit → Act → World → Prop} (hgd : o.guard = none) (s x : Operand)
    (ho : o.op = .call { callee := .builtin .append, args := #[s, x], argTypes := #[81, 81] })
    (base : Nat) (v : Value) (l : List UInt8) (hs : a.eval s = v) (hown : Own w base v l) (ad : Addr) (c : Nat) (n : Int) (hx : a.eval x = .slice (some ad) 1 c) (hc : w.cell? ad = some (.int .u8 n))
    (n0 : 0 ≤ n) (n1 : n < 256) (hl : l.length + 1 ≤ 140737488355328) (hbase : base ≤ w.heap.size)
    (h : ∀ v' w', Own w' base v' (l ++ [byteOf n]) → w.grownBy w' v.ownBlock → wpList Try.prog ops Q rest (a.put o.dst v') w') : wpList Try.prog ops Q (o :: rest) a w := by
  obtain ⟨i0, hi, hz0, hz1, hz2⟩ := info_parts info8
  refine wpList_append_own w hgd s x 81 ho base 5 i0 (.int .u8 0) 1 1 Try.underlying81 hi hz0 hz1 hz2 rfl (by decide) v l.length (bv l) hs hown ad 1 c [.int .u8 n] hx rfl ?_ ?_ ?_ ?_ hbase ?_
  · intro j u hj
    match j, hj with
    | 0, hj =>
      simp at hj
      subst hj
      rw [show ad.add 0 = ad by simp [Addr.add]]
      exact hc
    | j + 1, hj => simp at hj
  · intro u hu
    simp at hu
    subst hu
    rfl
  · unfold maxLen; omega
  · omega
  · intro v' w' h1 h2 _
    refine h v' w' ?_ h2
    unfold Own
    rw [bv_append, List.length_append]
    have : bv [byteOf n] = [.int .u8 n] := by simp [bv, byteOf_toNat n0 n1]
    rw [this]
    exact h1
theorem push_below {B base : Nat} {a w w' : World} {v : Value} {l : List UInt8} (h : Below B a w) (ho : Own w base v l) (hg : w.grownBy w' v.ownBlock) (hB : B ≤ base) (hb : base ≤ w.heap.size) : Below B a w' :=
  Below.grown h hg (by omega) (fun k hk => by have := (ho.lt k hk).1; omega)

/-- 'append(out, xs...)', out the call's own. -/
theorem wpList_pushes {w : World} {ops : Array Oper} {rest : List Oper} {o : Oper} {a : Act} {Q : Exit → Act → World → Prop} (hgd : o.guard = none) (s x : Operand)
    (ho : o.op = .call { callee := .builtin .append, args := #[s, x], argTypes := #[81, 81] })
    (base : Nat) (v u : Value) (l m : List UInt8) (hs : a.eval s = v) (hown : Own w base v l) (hx : a.eval x = u) (hr : Rb w u m)
    (hl : l.length + m.length ≤ 140737488355328) (hbase : base ≤ w.heap.size)
    (h : ∀ v' w', Own w' base v' (l ++ m) → w.grownBy w' v.ownBlock → wpList Try.prog ops Q rest (a.put o.dst v') w') : wpList Try.prog ops Q (o :: rest) a w := by
  obtain ⟨i0, hi, hz0, hz1, hz2⟩ := info_parts info8
  rcases hr with ⟨⟨a0, rfl⟩, rfl⟩ | ⟨b, off, cap, rfl, h1, h2, h3, h4⟩
  · cases a0 with
    | none =>
      refine wpList_append_own_none hgd s x 81 ho base 5 i0 1 Try.underlying81 hi v l.length (bv l) hs hown hx ?_
      exact h v w (by rw [List.append_nil]; exact hown) ⟨rfl, rfl, rfl, Nat.le_refl _, fun _ _ _ => rfl⟩
    | some ad =>
      refine wpList_append_own w hgd s x 81 ho base 5 i0 (.int .u8 0) 1 1 Try.underlying81 hi hz0 hz1 hz2 rfl (by decide) v l.length (bv l) hs hown ad 0 0 [] hx rfl (fun j z hj => by simp at hj) (fun z hz => by simp at hz) ?_ ?_ hbase ?_
      · have : ([] : List UInt8).length = 0 := rfl
        unfold maxLen; omega
      · have : ([] : List UInt8).length = 0 := rfl
        omega
      · intro v' w' g1 g2 _
        refine h v' w' ?_ g2
        unfold Own
        rw [bv_append, List.length_append]
        exact g1
  · refine wpList_append_own w hgd s x 81 ho base 5 i0 (.int .u8 0) 1 1 Try.underlying81 hi hz0 hz1 hz2 rfl (by decide) v l.length (bv l) hs hown ⟨b, off, none⟩ m.length cap (bv m) hx (by rw [bv_len, Nat.mul_one]) ?_ ?_ ?_ ?_ hbase ?_
    · intro j z hj
      unfold bv at hj
      rw [List.getElem?_map] at hj
      cases hm : m[j]? with
      | none => rw [hm] at hj; cases hj
      | some c =>
        rw [hm] at hj
        simp only [Option.map_some, Option.some.injEq] at hj
        subst hj
        obtain ⟨hlt, he⟩ := List.getElem?_eq_some_iff.1 hm
        rw [show (⟨b, off, none⟩ : Addr).add j = ⟨b, off + j, none⟩ from Addr.add_lit _ _ _, h4 j hlt, he]
    · intro z hz
      unfold bv at hz
      obtain ⟨c, _, rfl⟩ := List.mem_map.1 hz
      rfl
    · unfold maxLen; omega
    · omega
    · intro v' w' g1 g2 _
      refine h v' w' ?_ g2
      unfold Own
      rw [bv_append, List.length_append]
      exact g1

/-- 'string(out)'. -/
theorem own_string {w : World} {base : Nat} {v : Value} {l : List UInt8} (h : Own w base v l) : (convert 81 9 v).run Try.prog w = .ok (.string ⟨l.toArray⟩) w := by
  rcases h.shape with ⟨a, b⟩ | ⟨g, cap, a, b, c, d, e⟩
  · subst a b
    exact Lib.run_convert_nil_bytes w 81 9 5 0 Try.underlying81 Try.underlying5 Try.underlying9
  · subst a
    refine run_convert_bytes_back (P := Try.prog) w 81 9 5 ⟨g, 0, none⟩ cap l Try.underlying81 Try.underlying5 Try.underlying9 (fun j hj => ?_)
    have hx := World.ownsRow.cellAt h j (by omega)
    rw [show (⟨g, 0, none⟩ : Addr).add j = ⟨g, j, none⟩ by simp [Addr.add]; omega, hx]
    unfold bv
    rw [List.getElem?_map, List.getElem?_eq_getElem hj]
    rfl

end Go.Proofs.Ytdcdckjdloddiaa
