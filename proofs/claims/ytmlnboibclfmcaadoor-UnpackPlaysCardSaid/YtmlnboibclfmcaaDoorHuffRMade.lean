/-
  The walk of the reference's made: the book of codes, by value.
-/
import Derived.Test.YtmlnboibclfmcaaDoorHuffSz
import Derived.Test.YtmlnboibclfmcaaDoorHuffREnc
import Derived.Test.YtmlnboibclfmcaaDoorBuf
import Derived.Laws.Rows
import Derived.Laws.Tables
import Derived.Great.BuildSlice
import Derived.OwnWalk
import Derived.Laws.CopyOwn
namespace Go.Proofs.YtmlnboibclfmcaaDoor
open Go.RowKit

/-- The cells of the reference's book: three arrays of 31 numbers, the symbols. -/
def rrow (f : Nat → Int) (v : Value) : List Value := (List.range 93).map (fun i => .int .i64 (f i)) ++ [v]
theorem rrow_len (f : Nat → Int) (v : Value) : (rrow f v).length = 94 := by simp [rrow]
theorem rrow_get (f : Nat → Int) (v : Value) {i : Nat} (h : i < 93) : (rrow f v)[i]? = some (.int .i64 (f i)) := by
  unfold rrow
  rw [List.getElem?_append_left (by simp; exact h), List.getElem?_map, List.getElem?_range h]
  rfl
theorem rrow_end (f : Nat → Int) (v : Value) : (rrow f v)[93]? = some v := by
  unfold rrow
  rw [List.getElem?_append_right (by simp)]
  simp
theorem rrow_set (f : Nat → Int) (v : Value) {i : Nat} (h : i < 93) (x : Int) : (rrow f v).set i (.int .i64 x) = rrow (upd f i x) v := by
  apply List.ext_getElem?
  intro j
  by_cases hj : j < 93
  · rw [rrow_get _ _ hj, List.getElem?_set]
    unfold upd
    by_cases e : i = j
    · subst e; rw [if_pos rfl, if_pos rfl, rrow_len, if_pos (by omega)]
    · rw [if_neg e, if_neg (Ne.symm e), rrow_get _ _ hj]
  · by_cases e : j = 93
    · subst e; rw [rrow_end, List.getElem?_set, if_neg (by omega), rrow_end]
    · rw [List.getElem?_eq_none (by rw [List.length_set, rrow_len]; omega), List.getElem?_eq_none (by rw [rrow_len]; omega)]
theorem rrow_set93 (f : Nat → Int) (v u : Value) : (rrow f v).set 93 u = rrow f u := by
  unfold rrow
  rw [List.set_append_right _ _ (by simp)]
  simp
theorem rrow_congr {f g : Nat → Int} (v : Value) (h : ∀ i, i < 93 → f i = g i) : rrow f v = rrow g v := by
  unfold rrow
  congr 1
  apply List.map_congr_left
  intro i hi
  rw [h i (List.mem_range.1 hi)]
/-- Block g is a book. -/
def RB (w : World) (g : Nat) (f : Nat → Int) (v : Value) : Prop := w.heap[g]? = some (.cells (rrow f v).toArray 158 (0, 0))
theorem RB.cell {w : World} {g : Nat} {f : Nat → Int} {v : Value} (h : RB w g f v) {i : Nat} (hi : i < 93) : w.cell? ⟨g, i, none⟩ = some (.int .i64 (f i)) := by
  rw [cell_of_row w g i _ _ (0, 0) h]
  simp [rrow_get f v hi]
theorem RB.last {w : World} {g : Nat} {f : Nat → Int} {v : Value} (h : RB w g f v) : w.cell? ⟨g, 93, none⟩ = some v := by
  rw [cell_of_row w g 93 _ _ (0, 0) h]
  simp [rrow_end f v]
theorem RB.free {w : World} {g : Nat} {f : Nat → Int} {v : Value} (h : RB w g f v) (i : Nat) : w.frozen? ⟨g, i, none⟩ = false := frozen_of_row w g i _ _ h
theorem RB.set {w : World} {g : Nat} {f : Nat → Int} {v : Value} (h : RB w g f v) {i : Nat} (hi : i < 93) (x : Int) : RB (w.setCell ⟨g, i, none⟩ (.int .i64 x)) g (upd f i x) v := by
  unfold RB
  rw [heap_setCell_same w g i _ _ _ h, ← rrow_set f v hi x]
  simp
theorem RB.put {w : World} {g : Nat} {f : Nat → Int} {v : Value} (h : RB w g f v) (u : Value) : RB (w.setCell ⟨g, 93, none⟩ u) g f u := by
  unfold RB
  rw [heap_setCell_same w g 93 _ _ _ h, ← rrow_set93 f v u]
  simp
theorem RB.lt {w : World} {g : Nat} {f : Nat → Int} {v : Value} (h : RB w g f v) : g < w.heap.size := by
  rcases Nat.lt_or_ge g w.heap.size with h1 | h1
  · exact h1
  · unfold RB at h; rw [Array.getElem?_eq_none h1] at h; cases h
theorem RB.aft {w w' : World} {g : Nat} {f : Nat → Int} {v : Value} (h : RB w g f v) (ha : Aft w w') : RB w' g f v := (Below.block ha g h.lt).trans h
theorem RB.grown {w w' : World} {g : Nat} {f : Nat → Int} {v : Value} {row : Option Nat} (h : RB w g f v) (hg : w.grownBy w' row) (hr : some g ≠ row) : RB w' g f v := (hg.block g h.lt hr).trans h
theorem RB.far {w : World} {g : Nat} {f : Nat → Int} {v : Value} (h : RB w g f v) {p : Addr} (hp : g ≠ p.block) (u : Value) : RB (w.setCell p u) g f v := by
  unfold RB
  rw [heap_setCell_other w p g u hp]
  exact h
theorem RB.congr {w : World} {g : Nat} {f f' : Nat → Int} {v : Value} (h : RB w g f v) (e : ∀ i, i < 93 → f i = f' i) : RB w g f' v := by
  unfold RB
  rw [← rrow_congr v e]
  exact h

/-! ### a slice of numbers of the call's own -/
def iv (l : List Int) : List Value := l.map (Value.int .i64)
def OwnI (w : World) (base : Nat) (v : Value) (l : List Int) : Prop := w.ownsRow base 3 1 v l.length (iv l)
theorem infoI : (Tryd.prog.info? 3).map (fun i => (i.zero, i.size, i.bytes)) = some (some (.int .i64 0), 1, 8) := by kernel_rfl
theorem OwnI.lt {w : World} {base : Nat} {v : Value} {l : List Int} (h : OwnI w base v l) : ∀ k, v.ownBlock = some k → base ≤ k ∧ k < w.heap.size := World.ownsRow.lt h
theorem OwnI.aft {w w' : World} {base : Nat} {v : Value} {l : List Int} (h : OwnI w base v l) (ha : Aft w w') : OwnI w' base v l := by
  obtain ⟨h1, h2⟩ := h
  refine ⟨h1, ?_⟩
  rcases h2 with ⟨a, b⟩ | ⟨g, cap, cur, a, b, c, d⟩
  · exact Or.inl ⟨a, b⟩
  · refine Or.inr ⟨g, cap, cur, a, b, ?_, d⟩
    rw [Below.block ha g (by rcases Nat.lt_or_ge g w.heap.size with h | h; exact h; rw [Array.getElem?_eq_none h] at c; cases c)]
    exact c
theorem OwnI.far {w : World} {base : Nat} {v : Value} {l : List Int} (h : OwnI w base v l) {p : Addr} (hp : p.block < base) (u : Value) : OwnI (w.setCell p u) base v l := by
  obtain ⟨h1, h2⟩ := h
  refine ⟨h1, ?_⟩
  rcases h2 with h2 | ⟨k, cap, cur, a, b, c, d⟩
  · exact Or.inl h2
  · refine Or.inr ⟨k, cap, cur, a, b, ?_, d⟩
    rw [heap_setCell_other w p k u (by omega)]
    exact c
theorem OwnI.slice {w : World} {base : Nat} {v : Value} {l : List Int} (h : OwnI w base v l) : ∃ a k, v = .slice a l.length k := by
  rcases h.2 with ⟨e, h⟩ | ⟨g, cap, cur, e, _⟩
  · exact ⟨none, 0, by rw [e, h]⟩
  · exact ⟨_, _, e⟩
theorem wpList_pushI {w : World} {ops : Array Oper} {rest : List Oper} {o : Oper} {a : Act} {Q : Exit → Act → World → Prop} (hgd : o.guard = none) (s x : Operand)
    (ho : o.op = .call { callee := .builtin .append, args := #[s, x], argTypes := #[156, 156] })
    (base : Nat) (v : Value) (l : List Int) (hs : a.eval s = v) (hown : OwnI w base v l) (ad : Addr) (c : Nat) (n : Int) (hx : a.eval x = .slice (some ad) 1 c) (hc : w.cell? ad = some (.int .i64 n))
    (hl : l.length + 1 ≤ 17592186044416) (hbase : base ≤ w.heap.size)
    (h : ∀ v' w', OwnI w' base v' (l ++ [n]) → w.grownBy w' v.ownBlock → wpList Tryd.prog ops Q rest (a.put o.dst v') w') : wpList Tryd.prog ops Q (o :: rest) a w := by
  obtain ⟨i0, hi, hz0, hz1, hz2⟩ := info_parts infoI
  refine wpList_append_own w hgd s x 156 ho base 3 i0 (.int .i64 0) 1 8 Tryd.underlying156 hi hz0 hz1 hz2 rfl (by decide) v l.length (iv l) hs hown ad 1 c [.int .i64 n] hx rfl ?_ ?_ ?_ ?_ hbase ?_
  · intro j u hj
    match j, hj with
    | 0, hj =>
      simp at hj
      subst hj
      rw [show ad.add 0 = ad by simp [Addr.add]]
      exact hc
    | j + 1, hj => simp at hj
  · intro u hu
    simp at hu
    subst hu
    rfl
  · unfold maxLen; omega
  · omega
  · intro v' w' h1 h2 _
    refine h v' w' ?_ h2
    unfold OwnI iv
    rw [List.map_append, List.length_append]
    exact h1

/-! ### what the book holds while it is made -/
/-- Of length p the s first symbols have been looked at. -/
def RF (p s i : Nat) : Int := if i < 31 then (if i ≤ p then firstF i else 0) else if i < 62 then (if i - 31 < p then count 257 (i - 31) else if i - 31 = p then count s p else 0) else (if i - 62 ≤ p then startF (i - 62) else 0)
def symsL (p s : Nat) : List Int := ((List.range p).flatMap fun n => ((List.range 257).filter fun x => Hp.lensL.getD x 0 == n).map fun x : Nat => (x : Int)) ++ ((List.range s).filter fun x => Hp.lensL.getD x 0 == p).map fun x : Nat => (x : Int)
theorem syms_end : symsL 30 257 = (List.range 257).map (ordF 257) := by decide +kernel
theorem fil_len (n : Nat) : ∀ s, s ≤ 257 → ((((List.range s).filter fun x => Hp.lensL.getD x 0 == n).length : Nat) : Int) = count s n
  | 0, _ => by rw [count_zero]; rfl
  | s + 1, h => by
    rw [count_succ s n (by omega), ← fil_len n s (by omega), List.range_succ, List.filter_append, List.length_append]
    by_cases e : Hp.lensL.getD s 0 = n
    · have e2 : (Hp.lensL.getD s 0 == n) = true := by rw [beq_iff_eq]; exact e
      rw [if_pos e, List.filter_cons, if_pos e2]
      rfl
    · have e2 : ¬ (Hp.lensL.getD s 0 == n) = true := by rw [beq_iff_eq]; exact e
      rw [if_neg e, List.filter_cons, if_neg e2]
      simp
theorem syms_len (p s : Nat) (hs : s ≤ 257) : ((symsL p s).length : Int) = startF p + count s p := by
  unfold symsL
  rw [List.length_append, List.length_map]
  have h1 := fil_len p s hs
  have h2 : ((((List.range p).flatMap fun n => ((List.range 257).filter fun x => Hp.lensL.getD x 0 == n).map fun x : Nat => (x : Int)).length : Nat) : Int) = startF p := by
    clear h1
    induction p with
    | zero => rfl
    | succ p ih =>
      rw [List.range_succ (n := p), List.flatMap_append, List.length_append]
      have h3 : startF (p + 1) = startF p + count 257 p := rfl
      have h4 := fil_len p 257 (by omega)
      simp only [List.flatMap_cons, List.flatMap_nil, List.append_nil, List.length_map]
      omega
  omega
theorem syms_next (p : Nat) : symsL p 257 = symsL (p + 1) 0 := by
  unfold symsL
  rw [List.range_succ (n := p), List.flatMap_append]
  simp
theorem syms_yes (p s : Nat) (h : Hp.lensL.getD s 0 = p) : symsL p (s + 1) = symsL p s ++ [(s : Int)] := by
  unfold symsL
  have e2 : (Hp.lensL.getD s 0 == p) = true := by rw [beq_iff_eq]; exact h
  rw [List.range_succ (n := s), List.filter_append, List.map_append, List.append_assoc, List.filter_cons, if_pos e2]
  rfl
theorem syms_no (p s : Nat) (h : Hp.lensL.getD s 0 ≠ p) : symsL p (s + 1) = symsL p s := by
  unfold symsL
  have e2 : ¬ (Hp.lensL.getD s 0 == p) = true := by rw [beq_iff_eq]; exact h
  rw [List.range_succ (n := s), List.filter_append, List.map_append, List.filter_cons, if_neg e2]
  simp
theorem RF_zero (i : Nat) (_ : i < 93) : RF 0 257 i = 0 := by
  have h0 : firstF 0 = 0 := rfl
  have h1 : startF 0 = 0 := rfl
  have h2 : count 257 0 = 0 := by decide +kernel
  unfold RF
  by_cases a : i < 31
  · rw [if_pos a]
    by_cases b : i ≤ 0
    · rw [if_pos b, show i = 0 by omega]; exact h0
    · rw [if_neg b]
  · rw [if_neg a]
    by_cases b : i < 62
    · rw [if_pos b, if_neg (by omega)]
      by_cases c : i - 31 = 0
      · rw [if_pos c]; exact h2
      · rw [if_neg c]
    · rw [if_neg b]
      by_cases c : i - 62 ≤ 0
      · rw [if_pos c, show i - 62 = 0 by omega]; exact h1
      · rw [if_neg c]
/-- The head of a length: its first code, where its symbols begin. -/
theorem RF_head (p : Nat) (hp : p + 1 < 31) (i : Nat) (_ : i < 93) : upd (upd (RF p 257) (p + 1) (firstF (p + 1))) (62 + (p + 1)) (startF (p + 1)) i = RF (p + 1) 0 i := by
  unfold upd RF
  by_cases e : i = 62 + (p + 1)
  · subst e
    rw [if_pos rfl, if_neg (by omega), if_neg (by omega), if_pos (by omega), show 62 + (p + 1) - 62 = p + 1 by omega]
  · rw [if_neg e]
    by_cases e2 : i = p + 1
    · subst e2
      rw [if_pos rfl, if_pos hp, if_pos (Nat.le_refl _)]
    · rw [if_neg e2]
      by_cases a : i < 31
      · rw [if_pos a, if_pos a]
        by_cases b : i ≤ p
        · rw [if_pos b, if_pos (by omega)]
        · rw [if_neg b, if_neg (by omega)]
      · rw [if_neg a, if_neg a]
        by_cases b : i < 62
        · rw [if_pos b, if_pos b]
          by_cases c : i - 31 < p
          · rw [if_pos c, if_pos (by omega)]
          · rw [if_neg c]
            by_cases d : i - 31 = p
            · rw [if_pos d, if_pos (by omega), d]
            · rw [if_neg d, if_neg (by omega)]
              by_cases f : i - 31 = p + 1
              · rw [if_pos f, count_zero]
              · rw [if_neg f]
        · rw [if_neg b, if_neg b]
          by_cases c : i - 62 ≤ p
          · rw [if_pos c, if_pos (by omega)]
          · rw [if_neg c, if_neg (by omega)]
theorem RF_yes (p s : Nat) (hp : p < 31) (hs : s < 257) (h : Hp.lensL.getD s 0 = p) (i : Nat) : upd (RF p s) (31 + p) (count s p + 1) i = RF p (s + 1) i := by
  unfold upd
  by_cases e : i = 31 + p
  · subst e
    rw [if_pos rfl]
    unfold RF
    rw [if_neg (by omega), if_pos (by omega), if_neg (by omega), if_pos (by omega), count_succ s p hs, if_pos h]
  · rw [if_neg e]
    unfold RF
    by_cases a : i < 31
    · rw [if_pos a, if_pos a]
    · rw [if_neg a, if_neg a]
      by_cases b : i < 62
      · rw [if_pos b, if_pos b]
        by_cases c : i - 31 < p
        · rw [if_pos c, if_pos c]
        · rw [if_neg c, if_neg c, if_neg (by omega), if_neg (by omega)]
      · rw [if_neg b, if_neg b]
theorem RF_no (p s : Nat) (hs : s < 257) (h : Hp.lensL.getD s 0 ≠ p) (i : Nat) : RF p s i = RF p (s + 1) i := by
  unfold RF
  rw [count_succ s p hs, if_neg h, Int.add_zero]
theorem zeroBook (w : World) : (zeroValue 158).run Tryd.prog w = .ok (.agg (rrow (fun _ => 0) (.slice none 0 0)).toArray) w := by kernel_rfl

theorem sizeBook : (Tryd.prog.info? 158).map (·.size) = some 94 := by kernel_rfl

set_option maxRecDepth 100000 in
set_option maxHeartbeats 2000000 in
theorem rmade_any (w : World) :
    Calls Tryd.prog 108 #[] w fun e w' => ∃ v, e = .returned (.agg (rrow (RF 30 257) v).toArray) ∧ OwnI w' w.heap.size v ((List.range 257).map (ordF 257)) ∧ Aft w w' := by
  have hzv := zeroBook
  have hl0 : ∀ v, (rrow (fun _ => 0) v).toArray.size = 94 := fun v => by simp [rrow]
  go_enter Tryd.func108, Tryd.ntmps108
  go_wp2_with fail
  obtain ⟨g0, hg0⟩ : ∃ g0, w.heap.size = g0 := ⟨_, rfl⟩
  have hA : RB ((w.alloc (.cells (rrow (fun _ => 0) (.slice none 0 0)).toArray 158)).alloc (.cells (rrow (fun _ => 0) (.slice none 0 0)).toArray 158)) (w.heap.size + 1) (RF 0 257) (.slice none 0 0) := by
    have h := heap_alloc_new (w.alloc (.cells (rrow (fun _ => 0) (.slice none 0 0)).toArray 158)) (.cells (rrow (fun _ => 0) (.slice none 0 0)).toArray 158)
    rw [World.size_alloc] at h
    exact RB.congr (f := fun _ => 0) h (fun i hi => (RF_zero i hi).symm)
  have hR : RB ((w.alloc (.cells (rrow (fun _ => 0) (.slice none 0 0)).toArray 158)).alloc (.cells (rrow (fun _ => 0) (.slice none 0 0)).toArray 158)) w.heap.size (fun _ => 0) (.slice none 0 0) :=
    RB.aft (w := w.alloc (.cells (rrow (fun _ => 0) (.slice none 0 0)).toArray 158)) (heap_alloc_new _ _) ((Aft.refl _).alloc _)
  have hW : Below w.heap.size w ((w.alloc (.cells (rrow (fun _ => 0) (.slice none 0 0)).toArray 158)).alloc (.cells (rrow (fun _ => 0) (.slice none 0 0)).toArray 158)) := (Below.alloc (Below.refl _ _) (Nat.le_refl _) _).alloc (by simp) _
  rw [hg0] at hA hR hW ⊢
  have HG0 := Lib.hid hg0
  clear hg0 hzv hl0
  generalize (w.alloc (.cells (rrow (fun _ => 0) (.slice none 0 0)).toArray 158)).alloc (.cells (rrow (fun _ => 0) (.slice none 0 0)).toArray 158) = W0 at *
  have hs0 : symsL 0 257 = [] := by decide +kernel
  have HO : Hid (OwnI W0 (g0 + 2) (.slice none 0 0) (symsL 0 257)) := by rw [hs0]; exact Lib.hid (World.ownsRow_nil _ _ _ _)
  have HA := Lib.hid hA
  have HR := Lib.hid hR
  clear hs0 hA hR
  go_loopw [2, 3, 4] (fun vc vn _ wr => ∃ (p : Nat) (c : Int) (v : Value), p ≤ 30 ∧ vn = .int .i64 ((p : Int) + 1) ∧ vc = .int .i64 c ∧ Hid (c = firstF p + count 257 p) ∧ Hid (RB wr (g0 + 1) (RF p 257) v) ∧ Hid (RB wr g0 (fun _ => 0) (.slice none 0 0)) ∧ Hid (OwnI wr (g0 + 2) v (symsL p 257)) ∧ Below g0 w wr) (fun _ vn _ _ => 31 - (intOf vn).toNat)
  case atStart => exact ⟨0, 0, _, by omega, by go_num, rfl, Lib.hid (by decide +kernel), HA, HR, HO, hW⟩
  case round =>
    obtain ⟨p, c, v, hp, rfl, rfl, HC, HA, HR, HO, hW⟩ := hrel
    by_cases hlt : p < 30
    · have hC : c * 2 = firstF (p + 1) := by
        have h1 : firstF (p + 1) = 2 * (firstF p + count 257 p) := rfl
        have := HC.out
        omega
      have hfb := first_bd (p + 1) (by omega)
      obtain ⟨va, vk, rfl⟩ := OwnI.slice HO.out
      have hsl := syms_len p 257 (by omega)
      have hst : startF (p + 1) = startF p + count 257 p := rfl
      rw [← hst] at hsl
      obtain ⟨L, hL⟩ : ∃ L, (symsL p 257).length = L := ⟨_, rfl⟩
      rw [hL] at HA HO hsl
      have HL := Lib.hid hL
      have HSL := Lib.hid hsl
      clear hL hsl hst
      rw [← hC] at hfb
      have k0 := RB.last HA.out
      have k1 := RB.cell HA.out (i := p + 1) (by omega)
      have k2 := RB.cell HA.out (i := 62 + (p + 1)) (by omega)
      have f1 := RB.free HA.out (p + 1)
      have f2 := RB.free HA.out (62 + (p + 1))
      have HC0 := Lib.hid hC
      have c0 : 0 ≤ c := by omega
      have c1 : c ≤ 4294967296 := by omega
      generalize RF p 257 (p + 1) = o1 at k1
      generalize RF p 257 (62 + (p + 1)) = o2 at k2
      have i1 : (p : Int) + 1 < 31 := by omega
      have hpd : decide ((p : Int) + 1 ≤ 30) = true := by simp; omega
      clear hC
      go_wp2_with fail
      have hA1 : Hid (RB ((wr.setCell ⟨g0 + 1, p + 1, none⟩ (.int .i64 (c * 2))).setCell ⟨g0 + 1, 62 + (p + 1), none⟩ (.int .i64 (L : Int))) (g0 + 1) (RF (p + 1) 0) (.slice va L vk)) := by
        have h := (RB.set HA.out (i := p + 1) (by omega) (c * 2)).set (i := 62 + (p + 1)) (by omega) (L : Int)
        rw [HC0.out, HSL.out] at h
        rw [HC0.out, HSL.out]
        exact Lib.hid (h.congr (fun i hi => RF_head p (by omega) i hi))
      have hR1 : Hid (RB ((wr.setCell ⟨g0 + 1, p + 1, none⟩ (.int .i64 (c * 2))).setCell ⟨g0 + 1, 62 + (p + 1), none⟩ (.int .i64 (L : Int))) g0 (fun _ => 0) (.slice none 0 0)) := Lib.hid ((HR.out.far (by simp) _).far (by simp) _)
      have hO1 : Hid (OwnI ((wr.setCell ⟨g0 + 1, p + 1, none⟩ (.int .i64 (c * 2))).setCell ⟨g0 + 1, 62 + (p + 1), none⟩ (.int .i64 (L : Int))) (g0 + 2) (.slice va L vk) (symsL (p + 1) 0)) := by
        rw [← syms_next]
        exact Lib.hid ((OwnI.far HO.out (p := ⟨g0 + 1, p + 1, none⟩) (by show g0 + 1 < g0 + 2; omega) _).far (p := ⟨g0 + 1, 62 + (p + 1), none⟩) (by show g0 + 1 < g0 + 2; omega) _)
      have hW1 : Below g0 w ((wr.setCell ⟨g0 + 1, p + 1, none⟩ (.int .i64 (c * 2))).setCell ⟨g0 + 1, 62 + (p + 1), none⟩ (.int .i64 (L : Int))) := (hW.setCell (p := ⟨g0 + 1, p + 1, none⟩) (by show g0 ≤ g0 + 1; omega) _).setCell (p := ⟨g0 + 1, 62 + (p + 1), none⟩) (by show g0 ≤ g0 + 1; omega) _
      generalize (wr.setCell ⟨g0 + 1, p + 1, none⟩ (.int .i64 (c * 2))).setCell ⟨g0 + 1, 62 + (p + 1), none⟩ (.int .i64 (L : Int)) = W1 at *
      have hC0 : c * 2 = firstF (p + 1) + count 0 (p + 1) := by rw [HC0.out, count_zero]; omega
      have HC1 := Lib.hid hC0
      clear hC0 k0 k1 k2 f1 f2 HA HR HO hW HC hpd
      go_loopw [2, 4] (fun vc vs wi => ∃ (s : Nat) (C : Int) (v : Value), s ≤ 257 ∧ vs = .int .i64 (s : Int) ∧ vc = .int .i64 C ∧ Hid (C = firstF (p + 1) + count s (p + 1)) ∧ Hid (RB wi (g0 + 1) (RF (p + 1) s) v) ∧ Hid (RB wi g0 (fun _ => 0) (.slice none 0 0)) ∧ Hid (OwnI wi (g0 + 2) v (symsL (p + 1) s)) ∧ Below g0 w wi) (fun _ vs _ => 257 - (intOf vs).toNat)
      case atStart => exact ⟨0, c * 2, _, by omega, by go_num, rfl, HC1, hA1, hR1, hO1, hW1⟩
      case round =>
        clear hA1 hR1 hO1 hW1 HC1
        obtain ⟨s, C, v, hs, rfl, rfl, HC, HA, HR, HO, hW⟩ := hrel
        by_cases hs7 : s < 257
        · go_wp2_with fail
          refine (len_k s hs7 _).mono ?_
          rintro e w2 ⟨n, HLn, hn, rfl, b2⟩
          have HA2 := Lib.hid (HA.out.aft b2)
          have HR2 := Lib.hid (HR.out.aft b2)
          have HO2 := Lib.hid (OwnI.aft HO.out b2)
          have hz1 : g0 + 1 < wr.heap.size := RB.lt HA.out
          have hz2 : g0 + 2 ≤ w2.heap.size := Nat.le_trans hz1 b2.size
          have hW2 : Below g0 w w2 := hW.trans (Below.mono b2 (by omega))
          clear HA HR HO hW
          by_cases hnp : n = p + 1
          · have hB : ((n : Int) == (p : Int) + 1) = true := by rw [beq_iff_eq]; omega
            have hle : (symsL (p + 1) s).length + 1 ≤ 17592186044416 := by
              have h1 := syms_len (p + 1) s hs
              have h2 := start_bd (p + 1) (by omega)
              have h3 := count_bd s (p + 1)
              omega
            have k0 := RB.last HA2.out
            have f0 := RB.free HA2.out 93
            have hcs := HC.out
            have hfb2 := first_bd (p + 1) (by omega)
            have hcb2 := count_bd s (p + 1)
            have C0 : 0 ≤ C := by omega
            have C1 : C ≤ 4294967296 + 257 := by omega
            have hCn : C + 1 = firstF (p + 1) + count (s + 1) (p + 1) := by
              rw [count_succ s _ hs7, if_pos (by rw [HLn.out, hnp])]
              omega
            have hsy := syms_yes (p + 1) s (by rw [HLn.out, hnp])
            have hrf : ∀ i, upd (RF (p + 1) s) (31 + (p + 1)) (count s (p + 1) + 1) i = RF (p + 1) (s + 1) i := RF_yes (p + 1) s (by omega) hs7 (by rw [HLn.out, hnp])
            have HCN := Lib.hid hCn
            have HSY := Lib.hid hsy
            have HRF := Lib.hid hrf
            have hpa : RF (p + 1) s (31 + (p + 1)) = count s (p + 1) := by
              unfold RF
              rw [if_neg (by omega), if_pos (by omega), if_neg (by omega), if_pos (by omega)]
            have HPA := Lib.hid hpa
            clear hcs hfb2 hCn hsy hrf hpa hnp
            go_wp2_with (at_builtin; refine wpList_pushI rfl (.tmp 30) (.tmp 32) rfl (g0 + 2) v (symsL (p + 1) s) rfl (OwnI.aft HO2.out ((Aft.refl _).alloc _)) ⟨w2.heap.size, 0, none⟩ 1 (s : Int) rfl (cell_new1 _ _ _) hle (le_alloc hz2 _) ?_; intro v6 w6 o6 g6; obtain ⟨a6, k6, rfl⟩ := OwnI.slice o6; have O6 := Lib.hid o6; clear o6; have HA6 := Lib.hid (RB.grown (RB.aft HA2.out ((Aft.refl _).alloc _)) g6 (by intro e; have := (OwnI.lt HO2.out _ e.symm).1; omega)); have j0 := RB.last HA6.out; have j1 := RB.free HA6.out 93; have j2 := RB.cell HA6.out (i := 31 + (p + 1)) (by omega); have j3 := RB.free HA6.out (31 + (p + 1)); rw [HPA.out] at j2)
            go_roundw
            case rel =>
              have hR6 : RB w6 g0 (fun _ => 0) (.slice none 0 0) := RB.grown (RB.aft HR2.out ((Aft.refl _).alloc _)) g6 (by intro e; have := (OwnI.lt HO2.out _ e.symm).1; omega)
              have hW6 : Below g0 w w6 := Below.grown (hW2.alloc (by omega) _) g6 (by rw [World.size_alloc]; omega) (fun k hk => by have := (OwnI.lt HO2.out k hk).1; omega)
              have hll : (symsL (p + 1) s ++ [(s : Int)]).length = (symsL (p + 1) s).length + 1 := by simp
              rw [hll] at O6
              refine ⟨s + 1, C + 1, .slice a6 ((symsL (p + 1) s).length + 1) k6, by omega, by go_num, rfl, HCN, Lib.hid ?_, Lib.hid ((hR6.far (by simp) _).far (by simp) _), Lib.hid ?_, (hW6.setCell (p := ⟨g0 + 1, 93, none⟩) (by show g0 ≤ g0 + 1; omega) _).setCell (p := ⟨g0 + 1, 31 + (p + 1), none⟩) (by show g0 ≤ g0 + 1; omega) _⟩
              · exact RB.congr ((RB.put HA6.out _).set (i := 31 + (p + 1)) (by omega) _) (fun i _ => HRF.out i)
              · rw [HSY.out]
                exact (OwnI.far O6.out (p := ⟨g0 + 1, 93, none⟩) (by show g0 + 1 < g0 + 2; omega) _).far (p := ⟨g0 + 1, 31 + (p + 1), none⟩) (by show g0 + 1 < g0 + 2; omega) _
            case measure => simp [intOf]; omega
          · have hB : ((n : Int) == (p : Int) + 1) = false := by rw [beq_eq_false_iff_ne]; omega
            have hne : Hp.lensL.getD s 0 ≠ p + 1 := by rw [HLn.out]; exact hnp
            have hcn : C = firstF (p + 1) + count (s + 1) (p + 1) := by
              rw [HC.out, count_succ s _ hs7, if_neg hne]
              omega
            have HCN := Lib.hid hcn
            have HA3 := Lib.hid (RB.congr HA2.out (fun i _ => RF_no (p + 1) s hs7 hne i))
            have HO3 : Hid (OwnI w2 (g0 + 2) v (symsL (p + 1) (s + 1))) := by rw [syms_no (p + 1) s hne]; exact HO2
            clear hcn hne hnp
            go_wp2_with fail
            go_roundw
            case rel => exact ⟨s + 1, C, v, by omega, by go_num, rfl, HCN, HA3, HR2, HO3, hW2⟩
            case measure => simp [intOf]; omega
        · have h257 : s = 257 := by omega
          subst h257
          go_wp2_with fail
          go_roundw
          case rel => exact ⟨p + 1, C, v, by omega, by go_num, rfl, HC, HA, HR, HO, hW⟩
          case measure => simp [intOf]; omega
    · have hp30 : p = 30 := by omega
      subst hp30
      have hsz : (Tryd.prog.info? 158).map (·.size) = some (rrow (RF 30 257) v).toArray.size := by rw [sizeBook]; simp [rrow_len]
      obtain ⟨va, vk, rfl⟩ := OwnI.slice HO.out
      obtain ⟨R, hRR⟩ : ∃ R, R = (rrow (RF 30 257) (.slice va (symsL 30 257).length vk)).toArray := ⟨_, rfl⟩
      rw [← hRR] at hsz
      have hA : wr.heap[g0 + 1]? = some (.cells R 158 (0, 0)) := by rw [hRR]; exact HA.out
      have hone : R.all (·.oneCell') = true := by
        rw [hRR]
        simp [rrow, Value.oneCell']
      have hold : (rrow (fun _ => 0) (.slice none 0 0)).toArray.size = R.size := by rw [hRR]; simp [rrow_len]
      have HRR := Lib.hid hRR
      clear hRR
      go_wp2_with (first | (refine wpList_load_row rfl 158 (.tmp 1) rfl (g0 + 1) rfl _ R (0, 0) _ hA Tryd.underlying158 rfl hsz ?_) | (refine wpList_store_rowTo rfl 158 (.tmp 0) (.tmp 44) rfl rfl g0 R rfl rfl _ _ HR.out hsz hold hone ?_))
      have hset : (wr.setRow g0 R).heap[g0]? = some (.cells R 158 (0, 0)) := by
        have := setRow_heap wr g0 (rrow (fun _ => 0) (.slice none 0 0)).toArray R 158 (0, 0) HR.out
        exact this
      refine bodyPost_ret (results_cell_row rfl _ _ g0 158 R (0, 0) _ rfl hset Tryd.underlying158 rfl hsz) rfl ?_
      refine ⟨_, by rw [HRR.out], ?_, ?_⟩
      · rw [← syms_end, HG0.out]
        obtain ⟨h1, h2⟩ := HO.out
        refine ⟨h1, ?_⟩
        rcases h2 with h2 | ⟨k, cap, cur, a, b, c, d⟩
        · exact Or.inl h2
        · refine Or.inr ⟨k, cap, cur, a, by omega, ?_, d⟩
          rw [setRow_other wr g0 k R (by omega)]
          exact c
      · unfold Aft
        rw [HG0.out]
        exact below_setRow hW (Nat.le_refl _) R

end Go.Proofs.YtmlnboibclfmcaaDoor
