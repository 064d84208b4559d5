/-
  Slices of rows that the call made: append; a How that is set.
-/
import Derived.Test.YtmlnboibclfmcaaDoorPackBd
import Derived.Test.YtmlnboibclfmcaaDoorFlP
namespace Go.Proofs.YtmlnboibclfmcaaDoor
open Go.RowKit
set_option linter.unusedVariables false

theorem infoW : (Tryd.prog.info? 57).map (fun i => (i.zero, i.size, i.bytes)) = some (some (.agg #[.string ⟨#[]⟩, .string ⟨#[]⟩, .int .i64 0]), 3, 40) := by kernel_rfl
theorem rv_append (a b : List RowL) : rv (a ++ b) = rv a ++ rv b := by simp [rv]
theorem rv_one (l : List RowL) : ∀ v ∈ rv l, v.oneCell' = true := by
  intro v hv
  simp only [rv, List.mem_flatMap] at hv
  obtain ⟨r, _, h⟩ := hv
  simp only [List.mem_cons, List.not_mem_nil, or_false] at h
  rcases h with rfl | rfl | rfl <;> rfl
def OwnW (w : World) (base : Nat) (v : Value) (l : List RowL) : Prop := w.ownsRow base 57 3 v l.length (rv l)
theorem OwnW.empty (w : World) (base : Nat) (hb : base ≤ w.heap.size) : OwnW (w.alloc (.cells #[] 57)) base (.slice (some ⟨w.heap.size, 0, none⟩) 0 0) [] := by
  refine ⟨rfl, Or.inr ⟨w.heap.size, 0, #[], rfl, hb, heap_alloc_new w _, Nat.le_refl _, Nat.zero_le _, ?_⟩⟩
  simp [rv]
theorem rv_three (m : List RowL) (j : Nat) (u : Value) (h : (rv m)[j]? = some u) : ∃ k, ∃ hk : k < m.length, (j = k * 3 ∧ u = strV m[k].f.1) ∨ (j = k * 3 + 1 ∧ u = strV m[k].f.2) ∨ (j = k * 3 + 2 ∧ u = .int .i64 m[k].how) := by
  have hj : j < m.length * 3 := by
    rcases Nat.lt_or_ge j (rv m).length with h1 | h1
    · rwa [rv_len] at h1
    · rw [List.getElem?_eq_none h1] at h; cases h
  refine ⟨j / 3, by omega, ?_⟩
  have hg := rv_get m (j / 3) (by omega)
  have h2 : j = j / 3 * 3 ∨ j = j / 3 * 3 + 1 ∨ j = j / 3 * 3 + 2 := by omega
  rcases h2 with h2 | h2 | h2
  · refine Or.inl ⟨h2, ?_⟩
    rw [h2, hg.1] at h
    exact (Option.some.inj h).symm
  · refine Or.inr (Or.inl ⟨h2, ?_⟩)
    rw [h2, hg.2.1] at h
    exact (Option.some.inj h).symm
  · refine Or.inr (Or.inr ⟨h2, ?_⟩)
    rw [h2, hg.2.2] at h
    exact (Option.some.inj h).symm
/-- 'append(out, rows...)', out the call's own. -/
theorem wpList_pushesW {w : World} {ops : Array Oper} {rest : List Oper} {o : Oper} {a : Act} {Q : Exit → Act → World → Prop} (hgd : o.guard = none) (s x : Operand)
    (ho : o.op = .call { callee := .builtin .append, args := #[s, x], argTypes := #[59, 59] })
    (base : Nat) (v u : Value) (l m : List RowL) (hs : a.eval s = v) (hown : OwnW w base v l) (hx : a.eval x = u) (hr : RbW w u m)
    (hl : l.length + m.length ≤ 1000000000000) (hbase : base ≤ w.heap.size)
    (h : ∀ v' w', OwnW w' base v' (l ++ m) → w.grownBy w' v.ownBlock → wpList Tryd.prog ops Q rest (a.put o.dst v') w') : wpList Tryd.prog ops Q (o :: rest) a w := by
  obtain ⟨i0, hi, hz0, hz1, hz2⟩ := info_parts infoW
  rcases hr with ⟨⟨a0, rfl⟩, rfl⟩ | ⟨b, off, cap, rfl, h1, h2, h3, h4⟩
  · cases a0 with
    | none =>
      refine wpList_append_own_none hgd s x 59 ho base 57 i0 3 Tryd.underlying59 hi v l.length (rv l) hs hown hx ?_
      exact h v w (by rw [List.append_nil]; exact hown) ⟨rfl, rfl, rfl, Nat.le_refl _, fun _ _ _ => rfl⟩
    | some ad =>
      refine wpList_append_own w hgd s x 59 ho base 57 i0 _ 3 40 Tryd.underlying59 hi hz0 hz1 hz2 rfl (by decide) v l.length (rv l) hs hown ad 0 0 [] hx rfl (fun j z hj => by simp at hj) (fun z hz => by simp at hz) ?_ ?_ hbase ?_
      · have : ([] : List RowL).length = 0 := rfl
        unfold maxLen; omega
      · have : ([] : List RowL).length = 0 := rfl
        omega
      · intro v' w' g1 g2 _
        refine h v' w' ?_ g2
        unfold OwnW
        rw [rv_append, List.length_append]
        exact g1
  · refine wpList_append_own w hgd s x 59 ho base 57 i0 _ 3 40 Tryd.underlying59 hi hz0 hz1 hz2 rfl (by decide) v l.length (rv l) hs hown ⟨b, off, none⟩ m.length cap (rv m) hx (rv_len m) ?_ ?_ ?_ ?_ hbase ?_
    · intro j z hj
      obtain ⟨k, hk, ⟨rfl, rfl⟩ | ⟨rfl, rfl⟩ | ⟨rfl, rfl⟩⟩ := rv_three m j z hj
      · rw [Addr.add_lit, (h4 k hk).1]
      · rw [Addr.add_lit, ← Nat.add_assoc, (h4 k hk).2.1]
      · rw [Addr.add_lit, ← Nat.add_assoc, (h4 k hk).2.2]
    · exact rv_one m
    · unfold maxLen; omega
    · omega
    · intro v' w' g1 g2 _
      refine h v' w' ?_ g2
      unfold OwnW
      rw [rv_append, List.length_append]
      exact g1
theorem OwnW.push_aft {w0 w w' : World} {base : Nat} {v : Value} {l : List RowL} (a : Aft w0 w) (h : OwnW w base v l) (hg : w.grownBy w' v.ownBlock) (hb : w0.heap.size ≤ base) (hbb : base ≤ w.heap.size) : Aft w0 w' :=
  Below.grown a hg (by omega) (fun k hk => by have := (World.ownsRow.lt h k hk).1; omega)
/-- Rows in a block of the call's own, that can be written. -/
structure CW (w : World) (base g : Nat) (l : List RowL) : Prop where
  blk : ∃ cur, w.heap[g]? = some (.cells cur 57 (0, 0))
  cell : ∀ i (h : i < l.length), w.cell? ⟨g, i * 3, none⟩ = some (strV l[i].f.1) ∧ w.cell? ⟨g, i * 3 + 1, none⟩ = some (strV l[i].f.2) ∧ w.cell? ⟨g, i * 3 + 2, none⟩ = some (.int .i64 l[i].how)
  base : base ≤ g
theorem CW.lt {w : World} {base g : Nat} {l : List RowL} (h : CW w base g l) : g < w.heap.size := by
  obtain ⟨cur, h⟩ := h.blk
  rcases Nat.lt_or_ge g w.heap.size with h1 | h1
  · exact h1
  · rw [Array.getElem?_eq_none h1] at h; cases h
theorem CW.free {w : World} {base g : Nat} {l : List RowL} (h : CW w base g l) (j : Nat) : w.frozen? ⟨g, j, none⟩ = false := by
  obtain ⟨cur, h⟩ := h.blk
  exact frozen_of_row w g j _ _ h
theorem CW.chg {p : Nat → Prop} {w w' : World} {base g : Nat} {l : List RowL} (h : CW w base g l) (hc : Chg p w w') (hp : ¬ p g) : CW w' base g l := by
  have hb := hc.block g h.lt hp
  refine ⟨?_, fun i hi => ?_, h.base⟩
  · obtain ⟨cur, h1⟩ := h.blk
    exact ⟨cur, hb.trans h1⟩
  · obtain ⟨cur, h1⟩ := h.blk
    have h2 := h.cell i hi
    rw [cell_of_row w g _ _ _ (0, 0) h1, cell_of_row w g _ _ _ (0, 0) h1, cell_of_row w g _ _ _ (0, 0) h1] at h2
    rw [cell_of_row w' g _ _ _ (0, 0) (hb.trans h1), cell_of_row w' g _ _ _ (0, 0) (hb.trans h1), cell_of_row w' g _ _ _ (0, 0) (hb.trans h1)]
    exact h2
theorem CW.aft {w w' : World} {base g : Nat} {l : List RowL} (h : CW w base g l) (ha : Aft w w') : CW w' base g l := h.chg (Chg.of_aft (p := fun _ => False) ha) (fun h => h)
theorem CW.put {w : World} {base g : Nat} {l : List RowL} (h : CW w base g l) (k : Nat) (hk : k < l.length) (n : Int) : CW (w.setCell ⟨g, k * 3 + 2, none⟩ (.int .i64 n)) base g (l.set k ⟨l[k].f, n⟩) := by
  obtain ⟨cur, h1⟩ := h.blk
  refine ⟨⟨_, heap_setCell_same w g (k * 3 + 2) _ _ _ h1⟩, fun i hi => ?_, h.base⟩
  have hi2 : i < l.length := by rw [List.length_set] at hi; exact hi
  obtain ⟨c0, c1, c2⟩ := h.cell i hi2
  rw [World.cell?_setCell_other _ _ _ _ (fun e => by have := congrArg Addr.off e; simp at this; omega), World.cell?_setCell_other _ _ _ _ (fun e => by have := congrArg Addr.off e; simp at this; omega)]
  by_cases hik : i = k
  · subst hik
    rw [List.getElem_set_self]
    refine ⟨c0, c1, ?_⟩
    rw [cell_of_row _ g _ _ _ (0, 0) (heap_setCell_same w g (i * 3 + 2) _ _ _ h1)]
    rw [cell_of_row w g _ _ _ (0, 0) h1] at c2
    have hlt : i * 3 + 2 < cur.size := by
      rcases Nat.lt_or_ge (i * 3 + 2) cur.size with h9 | h9
      · exact h9
      · rw [Array.getElem?_eq_none h9] at c2; cases c2
    rw [Array.getElem?_setIfInBounds_self_of_lt hlt]
  · rw [List.getElem_set_ne (by omega), World.cell?_setCell_other _ _ _ _ (fun e => by have := congrArg Addr.off e; simp at this; omega)]
    exact ⟨c0, c1, c2⟩
theorem OwnW.cw {w : World} {base : Nat} {v : Value} {l : List RowL} (h : OwnW w base v l) : (v = .slice none 0 0 ∧ l = []) ∨ ∃ g cap, v = .slice (some ⟨g, 0, none⟩) l.length cap ∧ l.length ≤ cap ∧ cap ≤ maxLen ∧ CW w base g l := by
  obtain ⟨h1, ⟨a, b⟩ | ⟨g, cap, cur, a, b, c, d, e, f, k⟩⟩ := id h
  · exact Or.inl ⟨a, List.eq_nil_of_length_eq_zero b⟩
  · refine Or.inr ⟨g, cap, a, d, e, ⟨cur, c⟩, fun i hi => ?_, b⟩
    subst a
    obtain ⟨r0, r1, r2⟩ := rv_get l i hi
    have hc := World.ownsRow.cellAt h
    rw [hc (i * 3) (by omega), hc (i * 3 + 1) (by omega), hc (i * 3 + 2) (by omega)]
    exact ⟨r0, r1, r2⟩
/-- The slice v of rows is the call's own: its rows l. -/
def RW (w : World) (base : Nat) (v : Value) (l : List RowL) : Prop := (v = .slice none 0 0 ∧ l = []) ∨ ∃ g cap, v = .slice (some ⟨g, 0, none⟩) l.length cap ∧ l.length ≤ cap ∧ cap ≤ maxLen ∧ CW w base g l
theorem RW.rb {w : World} {base : Nat} {v : Value} {l : List RowL} (h : RW w base v l) : RbW w v l := by
  rcases h with h | ⟨g, cap, rfl, h1, h2, h3⟩
  · exact Or.inl ⟨⟨none, h.1⟩, h.2⟩
  · exact Or.inr ⟨g, 0, cap, rfl, h1, h2, h3.lt, fun i hi => by rw [Nat.zero_add]; exact h3.cell i hi⟩
theorem RW.aft {w w' : World} {base : Nat} {v : Value} {l : List RowL} (h : RW w base v l) (a : Aft w w') : RW w' base v l := by
  rcases h with h | ⟨g, cap, rfl, h1, h2, h3⟩
  · exact Or.inl h
  · exact Or.inr ⟨g, cap, rfl, h1, h2, h3.aft a⟩
theorem CW.pk {w : World} {base g0 B gp g : Nat} {vo vk : Value} {l : List FieldL} {most : Int} {told : Bool} {least : Int} {rows : List RowL} (h : CW w base g0 rows) (hp : Pk w B gp g vo vk l most told least) : ¬ PP gp g vo g0 ∧ vk.ownBlock ≠ some g0 := by
  obtain ⟨cur, h⟩ := h.blk
  refine ⟨fun e => ?_, fun e => ?_⟩
  · rcases e with rfl | rfl | e
    · rw [hp.p] at h
      injection h with h
      injection h with _ h
      exact absurd h (by decide)
    · rw [hp.t.blk] at h
      injection h with h
      injection h with _ h
      exact absurd h (by decide)
    · obtain ⟨cur2, h2⟩ := hp.t.own.blk e
      rw [h2] at h
      injection h with h
      injection h with _ h
      exact absurd h (by decide)
  · obtain ⟨cur2, h2⟩ := hp.t.kn.blk e
    rw [h2] at h
    injection h with h
    injection h with _ h
    exact absurd h (by decide)
theorem RW.chg {w : World} {base B gp g : Nat} {v vo vk : Value} {l : List FieldL} {most : Int} {told : Bool} {least : Int} {rows : List RowL} (h : RW w base v rows) (hp : Pk w B gp g vo vk l most told least) : ∀ wx, Chg (PP gp g vo) w wx → RW wx base v rows := fun wx hc => by
  rcases h with h | ⟨g, cap, rfl, h1, h2, h3⟩
  · exact Or.inl h
  · exact Or.inr ⟨g, cap, rfl, h1, h2, h3.chg hc (h3.pk hp).1⟩
theorem Pk.putW {w : World} {base g0 B gp g : Nat} {vo vk : Value} {l : List FieldL} {most : Int} {told : Bool} {least : Int} {rows : List RowL} (hp : Pk w B gp g vo vk l most told least) (h : CW w base g0 rows) (o : Nat) (u : Value) : Pk (w.setCell ⟨g0, o, none⟩ u) B gp g vo vk l most told least := by
  obtain ⟨h1, h2⟩ := h.pk hp
  refine hp.chg (p := fun k => k = g0) ((Chg.refl _ w).set g0 o u (Or.inl rfl)) ?_ ?_ ?_ ?_
  · intro e; exact h1 (Or.inl e.symm)
  · intro e; exact h1 (Or.inr (Or.inl e.symm))
  · intro k hk e; exact h1 (Or.inr (Or.inr (by rw [hk, e])))
  · intro k hk e; exact h2 (by rw [hk, e])
/-- Rows of which the first k have got their How. -/
def stepW (f : Nat → Int) (l : List RowL) (k : Nat) : List RowL := l.mapIdx fun i r => if i < k then ⟨r.f, f i⟩ else r
theorem stepW_len (f : Nat → Int) (l : List RowL) (k : Nat) : (stepW f l k).length = l.length := by simp [stepW]
theorem stepW_get (f : Nat → Int) (l : List RowL) (k i : Nat) (h : i < l.length) : (stepW f l k)[i]'(by rw [stepW_len]; exact h) = if i < k then ⟨l[i].f, f i⟩ else l[i] := by simp [stepW]
theorem stepW_zero (f : Nat → Int) (l : List RowL) : stepW f l 0 = l := by
  apply List.ext_getElem
  · rw [stepW_len]
  · intro i h1 h2
    rw [stepW_get _ _ _ _ h2, if_neg (by omega)]
theorem stepW_next (f : Nat → Int) (l : List RowL) (k : Nat) (h : k < l.length) : (stepW f l k).set k ⟨((stepW f l k)[k]'(by rw [stepW_len]; exact h)).f, f k⟩ = stepW f l (k + 1) := by
  apply List.ext_getElem
  · rw [List.length_set, stepW_len, stepW_len]
  · intro i h1 h2
    have h3 : i < l.length := by rw [stepW_len] at h2; exact h2
    rw [stepW_get f l (k + 1) i h3]
    by_cases hik : i = k
    · subst hik
      rw [List.getElem_set_self, stepW_get f l i i h3, if_neg (by omega), if_pos (by omega)]
    · rw [List.getElem_set_ne (by omega), stepW_get f l k i h3]
      by_cases h3 : i < k
      · rw [if_pos h3, if_pos (by omega)]
      · rw [if_neg h3, if_neg (by omega)]
theorem stepW_f (f : Nat → Int) (l : List RowL) (k : Nat) : (stepW f l k).map (·.f) = l.map (·.f) := by
  apply List.ext_getElem
  · rw [List.length_map, List.length_map, stepW_len]
  · intro i h1 h2
    rw [List.length_map] at h2
    rw [List.getElem_map, List.getElem_map, stepW_get _ _ _ _ h2]
    split <;> rfl
theorem sumR_f (a b : List RowL) (h : a.map (·.f) = b.map (·.f)) : sumR a = sumR b := by
  have e : ∀ l : List RowL, sumR l = ((l.map (·.f)).map fun f => f.1.length + f.2.length + 32).sum := fun l => by
    unfold sumR
    rw [List.map_map]
    rfl
  rw [e, e, h]
theorem stepW_sum (f : Nat → Int) (l : List RowL) (k : Nat) : sumR (stepW f l k) = sumR l := sumR_f _ _ (stepW_f f l k)
theorem stepW_how (f : Nat → Int) (l : List RowL) {P : Int → Prop} (h : ∀ i, P (f i)) : ∀ r ∈ stepW f l l.length, P r.how := by
  intro r hr
  obtain ⟨i, hi, rfl⟩ := List.mem_iff_getElem.1 hr
  rw [stepW_len] at hi
  rw [stepW_get _ _ _ _ hi, if_pos hi]
  exact h i

end Go.Proofs.YtmlnboibclfmcaaDoor
