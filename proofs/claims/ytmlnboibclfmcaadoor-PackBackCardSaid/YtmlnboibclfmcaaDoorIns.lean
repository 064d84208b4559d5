/-
  slices.Insert at fields, one field ahead of a list that the call's own memory holds.
-/
import Derived.Test.YtmlnboibclfmcaaDoorFlP
import Derived.Laws.CopyOwn
import Derived.Laws.CopyRow
import Derived.Lib.Overlaps
import Derived.Lib.AppendZerosOnto
import Derived.Deep.RegionLaw
import Derived.Deep.AppendLies
namespace Go.Proofs.YtmlnboibclfmcaaDoor
open Go.RowKit

theorem run_copy_at {P : Program} (w : World) (dT sT ty elem : TypeId) (size g o dLen dCap : Nat) (a : Addr) (sLen sCap : Nat) (cur : Array Value) (t : TypeId) (cs : List Value)
    (hu : P.underlying dT = some (.slice elem)) (hs : (P.info? elem).map (·.size) = some size)
    (hg : w.heap[g]? = some (.cells cur t (0, 0))) (hn : cs.length = Nat.min sLen dLen * size)
    (hsrc : ∀ j v, cs[j]? = some v → w.cell? (a.add j) = some v) (hfit : o + cs.length ≤ cur.size) (h1 : ∀ v ∈ cs, v.oneCell' = true) :
    (Builtin.copy_ #[dT, sT] ty #[.slice (some ⟨g, o, none⟩) dLen dCap, .slice (some a) sLen sCap]).run P w =
      .ok (goInt (Nat.min sLen dLen)) (w.setRow g (cur.toList.take o ++ cs ++ cur.toList.drop (o + cs.length)).toArray) := by
  have hl := run_loadCells_list (P := P) w a cs hsrc
  have hst := run_storeCells_at P g o t cs 0 cur w hg (by simpa using hfit) h1
  cases hq : P.info? elem with
  | none => simp [hq] at hs
  | some i =>
    have hi : i.size = size := by simpa [hq] using hs
    have hst2 : (storeCells ⟨g, o, none⟩ cs).run P w = .ok () (w.setRow g (cur.toList.take o ++ cs ++ cur.toList.drop (o + cs.length)).toArray) := by simpa using hst
    simp [Builtin.copy_, run_underlying hu, Builtin.lenOf, Builtin.firstCells, sizeOf, typeInfo, hq, hi, ← hn, hl, hst2]
theorem wp_copy_eq {P : Program} {w : World} {o : Oper} {a : Act} {K : Act → World → Prop} {Q : Exit → Act → World → Prop} (d s : Operand) (t t' : TypeId)
    (ho : o.op = .call { callee := .builtin .copy, args := #[d, s], argTypes := #[t, t'] }) (v u : Value) (hd : a.eval d = v) (hs : a.eval s = u) {v' : Value} {w' : World}
    (hr : (Builtin.copy_ #[t, t'] o.type #[v, u]).run P w = .ok v' w') (h : K (a.put o.dst v') w') : o.wp P a w K Q := by
  unfold Oper.wp execOp
  simp only [ho, resolve, invoke, builtin, Sem.run_bind, Sem.run_pure, Result.andThen_ok, List.map_toArray, List.map_cons, List.map_nil, hd, hs, hr]
  exact h
theorem wpList_copy_eq {P : Program} {w : World} {ops : Array Oper} {rest : List Oper} {o : Oper} {a : Act} {Q : Exit → Act → World → Prop} (hgd : o.guard = none) (d s : Operand) (t t' : TypeId)
    (ho : o.op = .call { callee := .builtin .copy, args := #[d, s], argTypes := #[t, t'] }) (v u : Value) (hd : a.eval d = v) (hs : a.eval s = u) {v' : Value} {w' : World}
    (hr : (Builtin.copy_ #[t, t'] o.type #[v, u]).run P w = .ok v' w') (h : wpList P ops Q rest (a.put o.dst v') w') : wpList P ops Q (o :: rest) a w :=
  wpList_plain hgd fun _ hK => wp_copy_eq d s t t' ho v u hd hs hr (hK _ _ h)
theorem step_copy_eq {P : Program} {ops : Array Oper} {o : Oper} {a : Act} {w : World} {K : Act → World → Prop} {Q : Exit → Act → World → Prop} {E : Prop}
    (hg : o.guard = none) (d s : Operand) (t t' : TypeId) (ho : o.op = .call { callee := .builtin .copy, args := #[d, s], argTypes := #[t, t'] })
    (v u : Value) (hd : a.eval d = v) (hs : a.eval s = u) {v' : Value} {w' : World} (hr : (Builtin.copy_ #[t, t'] o.type #[v, u]).run P w = .ok v' w') (h : K (a.put o.dst v') w') :
    if Region.wanted o (yielded ops a.tmps) = true then Oper.wp P o a w K Q else E := by
  have hw : Region.wanted o (yielded ops a.tmps) = true := by simp [Region.wanted, hg]
  rw [if_pos hw]
  exact wp_copy_eq d s t t' ho v u hd hs hr h

theorem row_src {w : World} {g : Nat} {cur : Array Value} {t : TypeId} {cs : List Value} (hg : w.heap[g]? = some (.cells cur t (0, 0))) (h : cur.toList.take cs.length = cs) : ∀ j v, cs[j]? = some v → w.cell? ((⟨g, 0, none⟩ : Addr).add j) = some v := by
  intro j v hj
  rw [Addr.add_lit, Nat.zero_add, cell_of_row w g j _ _ (0, 0) hg]
  rw [← h, List.getElem?_take] at hj
  split at hj
  · rw [← hj, Array.getElem?_toList]
  · cases hj
theorem infoSzF : (Tryd.prog.info? 28).map (·.size) = some 2 := by kernel_rfl
theorem zF (w : World) : (Go.sizeOf 28).run Tryd.prog w = .ok 2 w := by kernel_rfl
theorem grown_setRow {w w1 : World} {row : Option Nat} (h : w.grownBy w1 row) (g : Nat) (cs : Array Value) (hg : row = some g ∨ w.heap.size ≤ g) : w.grownBy (w1.setRow g cs) row := by
  obtain ⟨a, b, c, d, e⟩ := h
  refine ⟨a, b, c, by rw [size_setRow]; exact d, fun k hk hne => ?_⟩
  have hkg : k ≠ g := by
    rcases hg with hg | hg
    · intro e2; subst e2; exact hne hg.symm
    · omega
  rw [setRow_other _ g k _ hkg]
  exact e k hk hne

theorem overlaps_no (w : World) (gf g : Nat) (f : FieldL) (cur : Array Value) (off lb cb : Nat) (hf : FB w gf [f]) (hg : w.heap[g]? = some (.cells cur 28 (0, 0))) (hne : gf ≠ g) (hc : cur.size ≠ 0) :
    (callFunc 75 #[.slice (some ⟨gf, 0, none⟩) 1 1, .slice (some ⟨g, off, none⟩) lb cb]).run Tryd.prog w = .ok (.value (.bool false)) w := by
  have hfb : w.shape? gf = some (28, 2) := by
    unfold FB at hf
    simp [World.shape?, hf, fv]
  have hgb : w.shape? g = some (28, cur.size) := by
    simp [World.shape?, hg]
  rw [run_callFunc_extern Tryd.func75 (by kernel_rfl) (by kernel_rfl) (by kernel_rfl) (e := Extern.SlicesOverlaps.overlaps #[47, 47] #[4]) (by kernel_rfl),
    Lib.run_overlaps_apart w 47 4 28 Tryd.underlying47 2 zF ⟨gf, 0, none⟩ ⟨g, off, none⟩ 1 1 lb cb hne _ _ _ _ hfb hgb hc (hf.free 0) (hf.free 2)]
  rfl

theorem own_or {v : Value} {g H n c : Nat} (h : v.ownBlock = some g ∨ g = H) : ∀ k, (Value.slice (some ⟨g, 0, none⟩) n c).ownBlock = some k → v.ownBlock = some k ∨ H ≤ k := by
  intro k hk
  have e : g = k := Option.some.inj hk
  subst e
  rcases h with h | h
  · exact Or.inl h
  · exact Or.inr (by omega)
theorem wpList_pushL {w : World} {ops : Array Oper} {rest : List Oper} {o : Oper} {a : Act} {Q : Exit → Act → World → Prop} (hgd : o.guard = none) (s x : Operand)
    (ho : o.op = .call { callee := .builtin .append, args := #[s, x], argTypes := #[47, 47] })
    (base : Nat) (v : Value) (l : List FieldL) (hs : a.eval s = v) (hown : OwnF w base v l) (g : Nat) (c : Nat) (n : FieldL) (hx : a.eval x = .slice (some ⟨g, 0, none⟩) 1 c) (h0 : w.cell? ⟨g, 0, none⟩ = some (strV n.1)) (h1 : w.cell? ⟨g, 1, none⟩ = some (strV n.2))
    (hl : l.length + 1 ≤ 1000000000000) (hbase : base ≤ w.heap.size)
    (h : ∀ g' c' w', OwnF w' base (.slice (some ⟨g', 0, none⟩) (l.length + 1) c') (l ++ [n]) → w.grownBy w' v.ownBlock → (v.ownBlock = some g' ∨ g' = w.heap.size) → wpList Tryd.prog ops Q rest (a.put o.dst (.slice (some ⟨g', 0, none⟩) (l.length + 1) c')) w') : wpList Tryd.prog ops Q (o :: rest) a w := by
  obtain ⟨i0, hi, hz0, hz1, hz2⟩ := info_parts infoF
  refine wpList_append_lies w hgd s x 47 ho base 28 i0 _ 2 32 Tryd.underlying47 hi hz0 hz1 hz2 rfl (by decide) v l.length (fv l) hs hown ⟨g, 0, none⟩ 1 c [strV n.1, strV n.2] hx rfl ?_ ?_ (by decide) ?_ ?_ hbase w.heap.size rfl ?_
  · intro j u hj
    match j, hj with
    | 0, hj => simp at hj; subst hj; exact h0
    | 1, hj => simp at hj; subst hj; exact h1
    | j + 2, hj => simp at hj
  · intro u hu
    simp at hu
    rcases hu with rfl | rfl <;> rfl
  · unfold maxLen; omega
  · omega
  · intro g' c' w' g1 g2 g3 _
    refine h g' c' w' ?_ g2 g3
    unfold OwnF
    have e : fv (l ++ [n]) = fv l ++ [strV n.1, strV n.2] := by simp [fv]
    rw [e, List.length_append]
    exact g1

set_option maxHeartbeats 8000000 in
set_option maxRecDepth 100000 in
theorem insert_any (base : Nat) (v : Value) (l : List FieldL) (f : FieldL) (gf : Nat) (w : World) (hown : OwnF w base v l) (hf : FB w gf [f]) (hne : ∀ g, v.ownBlock = some g → gf ≠ g) (hl : l.length ≤ 1000000) (hbase : base ≤ w.heap.size) :
    Calls Tryd.prog 60 #[v, .int .i64 0, .slice (some ⟨gf, 0, none⟩) 1 1] w fun e w' => ∃ v', e = .returned v' ∧ OwnF w' base v' (f :: l) ∧ w.grownBy w' v.ownBlock ∧ ∀ k, v'.ownBlock = some k → v.ownBlock = some k ∨ w.heap.size ≤ k := by
  have hfc := hf.cell (i := 0) (by simp)
  obtain ⟨f0, f1⟩ := hfc
  simp only [Nat.zero_mul, Nat.zero_add, List.getElem_cons_zero] at f0 f1
  obtain ⟨hlen, hcase⟩ := id hown
  by_cases hn0 : l = []
  · subst hn0
    have HOW := Lib.hid hown
    have HF := Lib.hid (And.intro f0 f1)
    have HB := Lib.hid hbase
    have hv : ∃ a c, v = .slice a 0 c ∧ (a = none → c = 0) := by
      rcases hcase with ⟨rfl, _⟩ | ⟨g, cap, cur, rfl, _⟩
      · exact ⟨none, 0, rfl, fun _ => rfl⟩
      · exact ⟨some ⟨g, 0, none⟩, cap, rfl, fun h => by cases h⟩
    obtain ⟨a, c, rfl, hac⟩ := hv
    clear hown hcase hlen f0 f1 hl hbase hf hne
    cases a with
    | none =>
      obtain rfl := hac rfl
      clear hac
      go_enter Tryd.func60, Tryd.ntmps60
      go_wp2_with (at_builtin; refine wpList_pushL rfl (.tmp 23) (.tmp 24) rfl base _ _ rfl HOW.out gf 1 f rfl HF.out.1 HF.out.2 (by simp) HB.out ?_; intro g4 c4 w4 o4 gr4 ho4)
      go_ret
      exact ⟨_, rfl, o4, gr4, own_or ho4⟩
    | some a =>
      obtain ⟨ab, ao, asp⟩ := a
      clear hac
      go_enter Tryd.func60, Tryd.ntmps60
      go_wp2_with (at_builtin; refine wpList_pushL rfl (.tmp 23) (.tmp 24) rfl base _ _ rfl HOW.out gf 1 f rfl HF.out.1 HF.out.2 (by simp) HB.out ?_; intro g4 c4 w4 o4 gr4 ho4)
      all_goals
        go_ret
        exact ⟨_, rfl, o4, gr4, own_or ho4⟩
  · rcases hcase with ⟨_, h0⟩ | ⟨g, cap, cur, rfl, hg0, hg, hnc, hcm, hcs, htk⟩
    · exact absurd (List.eq_nil_of_length_eq_zero h0) hn0
    have hne2 : gf ≠ g := hne g rfl
    have hn1 : 1 ≤ l.length := by
      rcases l with _ | ⟨x, l⟩
      · exact absurd rfl hn0
      · simp
    have hglt : g < w.heap.size := (hown.lt g rfl).2
    have hflt : gf < w.heap.size := hf.lt
    have hfl := fv_len l
    have hfv : (fv (f :: l)).length = (l.length + 1) * 2 := by rw [fv_len, List.length_cons]
    have hsrc := row_src hg (cs := fv l) (by rw [fv_len]; exact htk)
    have hff : ∀ W : World, W.heap[gf]? = w.heap[gf]? → ∀ j u, (fv [f])[j]? = some u → W.cell? ((⟨gf, 0, none⟩ : Addr).add j) = some u := fun W hW => by
      refine row_src (cur := (fv [f]).toArray) (t := 28) ?_ (by simp [fv])
      rw [hW]; exact hf
    obtain ⟨n, hn⟩ : ∃ n, l.length = n := ⟨_, rfl⟩
    rw [hn] at hl hn1 hfl hfv hnc htk ⊢
    unfold maxLen at hcm
    have hz1 : ¬ ((n : Int) = 0) := by omega
    have hz2 : ¬ ((0 : Int) = (n : Int)) := by omega
    have e1 : fv [f] = [strV f.1, strV f.2] := by simp [fv]
    have e2 : fv (f :: l) = fv [f] ++ fv l := by rw [← fv_append]; rfl
    have hm1 : Nat.min (n + 1) n = n := Nat.min_eq_right (by omega)
    have hm2 : Nat.min 1 (n + 1) = 1 := Nat.min_eq_left (by omega)
    have hm3 : Nat.min n n = n := Nat.min_self n
    by_cases hroom : n + 1 ≤ cap
    · -- there is room
      have hr1 : ¬ ((cap : Int) < (n : Int) + 1) := by omega
      have hc1 : ¬ (cap = 1) := by omega
      have hc2 : (1 : Int) ≤ (n : Int) + 1 := by omega
      have hc3 : (0 : Int) ≤ (n : Int) + 1 := by omega
      have hov := fun (off lb cb : Nat) => overlaps_no w gf g f cur off lb cb hf hg hne2 (by omega)
      obtain ⟨R1, hR1⟩ : ∃ R1 : Array Value, R1 = (cur.toList.take 2 ++ fv l ++ cur.toList.drop (2 + (fv l).length)).toArray := ⟨_, rfl⟩
      have hcp1 : ∀ ty dc sc, (Builtin.copy_ #[47, 47] ty #[.slice (some ⟨g, 2, none⟩) n dc, .slice (some ⟨g, 0, none⟩) (n + 1) sc]).run Tryd.prog w.drew = .ok (goInt n) (w.drew.setRow g R1) := fun ty dc sc => by
        have h := run_copy_at (P := Tryd.prog) w.drew 47 47 ty 28 2 g 2 n dc ⟨g, 0, none⟩ (n + 1) sc cur 28 (fv l) Tryd.underlying47 infoSzF hg (by rw [hfl, hm1]) hsrc (by rw [hfl]; omega) (fv_one l)
        rw [hm1, ← hR1] at h
        exact h
      have hg1 : (w.drew.setRow g R1).heap[g]? = some (.cells R1 28 (0, 0)) := setRow_heap _ g cur R1 _ (0, 0) hg
      have hs1 : R1.size = cap * 2 := by
        rw [hR1, ← hcs]
        simp [hfl]
        omega
      obtain ⟨R2, hR2⟩ : ∃ R2 : Array Value, R2 = (R1.toList.take 0 ++ fv [f] ++ R1.toList.drop (0 + (fv [f]).length)).toArray := ⟨_, rfl⟩
      have hcp2 : ∀ ty dc, (Builtin.copy_ #[47, 47] ty #[.slice (some ⟨g, 0, none⟩) (n + 1) dc, .slice (some ⟨gf, 0, none⟩) 1 1]).run Tryd.prog (w.drew.setRow g R1) = .ok (goInt 1) ((w.drew.setRow g R1).setRow g R2) := fun ty dc => by
        have h := run_copy_at (P := Tryd.prog) (w.drew.setRow g R1) 47 47 ty 28 2 g 0 (n + 1) dc ⟨gf, 0, none⟩ 1 1 R1 28 (fv [f]) Tryd.underlying47 infoSzF hg1 (by rw [hm2]; simp [fv]) (hff _ (setRow_other _ g gf R1 hne2)) (by rw [hs1]; simp [fv]; omega) (fv_one [f])
        rw [hm2, ← hR2] at h
        exact h
      have hg2 : ((w.drew.setRow g R1).setRow g R2).heap[g]? = some (.cells R2 28 (0, 0)) := setRow_heap _ g R1 R2 _ (0, 0) hg1
      have hs2 : R2.size = cap * 2 := by
        rw [hR2, ← hs1, e1]
        simp
        omega
      have ht2 : R2.toList.take ((n + 1) * 2) = fv (f :: l) := by
        have hd : R1.toList.drop 2 = fv l ++ cur.toList.drop (2 + (fv l).length) := by
          rw [hR1, List.append_assoc]
          rw [List.drop_left']
          rw [List.length_take]
          simp; omega
        rw [hR2, e2]
        simp only [List.take_zero, List.nil_append, Nat.zero_add]
        rw [e1]
        simp only [List.length_cons, List.length_nil, Nat.zero_add, Nat.reduceAdd]
        rw [hd]
        rw [show (n + 1) * 2 = n * 2 + 1 + 1 by omega]
        simp only [List.cons_append, List.nil_append, List.take_succ_cons]
        rw [List.take_left' hfl]
      have hfin : OwnF ((w.drew.setRow g R1).setRow g R2) base (.slice (some ⟨g, 0, none⟩) (n + 1) cap) (f :: l) := by
        refine ⟨by rw [hfv, List.length_cons, hn], Or.inr ⟨g, cap, R2, by rw [List.length_cons, hn], hg0, hg2, by rw [List.length_cons, hn]; exact hroom, by unfold maxLen; omega, hs2, by rw [List.length_cons, hn]; exact ht2⟩⟩
      have hgr : w.grownBy ((w.drew.setRow g R1).setRow g R2) (some g) := grown_setRow (grown_setRow (show w.grownBy w.drew (some g) from ⟨rfl, rfl, rfl, Nat.le_refl _, fun _ _ _ => rfl⟩) g R1 (Or.inl rfl)) g R2 (Or.inl rfl)
      have HFIN := Lib.hid hfin
      have HGR := Lib.hid hgr
      obtain ⟨W1, hW1⟩ : ∃ W1, w.drew.setRow g R1 = W1 := ⟨_, rfl⟩
      obtain ⟨W2, hW2⟩ : ∃ W2, W1.setRow g R2 = W2 := ⟨_, rfl⟩
      rw [hW1, hW2] at HFIN HGR
      rw [hW1] at hcp1 hcp2
      rw [hW2] at hcp2
      have HC1 := Lib.hid hcp1
      have HC2 := Lib.hid hcp2
      have hw1 : IntKind.i64.wrap ((0 : Int) + 1) = 1 := by rw [IntKind.wrap_i64]; omega
      have hw2 : IntKind.i64.wrap (1 : Int) = 1 := by rw [IntKind.wrap_i64]; omega
      clear hown hlen hne hf f0 f1 hbase hn0 hg0 hg hcs htk hne2 hglt hflt hfl hfv hsrc hff e1 e2 hR1 hcp1 hg1 hs1 hR2 hcp2 hg2 hs2 ht2 hfin hgr hW1 hW2 hn
      go_enter Tryd.func60, Tryd.ntmps60
      go_wp2_with (simp only [hov])
      go_region_law (refine step_copy_eq rfl (.tmp 73) (.tmp 76) 47 47 rfl _ _ (by simp [Act.eval, Act.put]) (by simp [Act.eval, Act.put]) (HC1.out _ (cap - 1) cap) ?_)
      go_wp2_with (with_reducible refine wpList_copy_eq rfl (.tmp 80) (.tmp 81) 47 47 rfl (.slice (some ⟨g, 0, none⟩) (n + 1) cap) (.slice (some ⟨gf, 0, none⟩) 1 1) ?c1 ?c2 (HC2.out _ cap) ?c3)
      case c1 => rfl
      case c2 => rfl
      go_ret
      exact ⟨_, rfl, HFIN.out, HGR.out, own_or (Or.inl rfl)⟩
    · -- a new row
      have hcap : cap = n := by omega
      subst hcap
      obtain ⟨i0, hi0, hz0, hzs, hzb⟩ := info_parts infoF
      obtain ⟨G, hG⟩ : ∃ G, G = grownCap w (0 + (cap + 1)) cap 28 := ⟨_, rfl⟩
      have hG1 : 0 + (cap + 1) ≤ G := by rw [hG]; exact grownCap_ge w _ _ _
      have hG2 : G ≤ 9223372036854775807 := by
        have := grownCap_le_maxLen w (0 + (cap + 1)) cap 28 (by unfold maxLen; omega)
        rw [← hG] at this
        unfold maxLen at this
        omega
      obtain ⟨ROW, hROW⟩ : ∃ ROW : Array Value, ROW = ([] : List Value).toArray ++ Builtin.zeroCells (Value.agg #[.string ⟨#[]⟩, .string ⟨#[]⟩]).cells (cap + 1) ++ Builtin.zeroCells (Value.agg #[.string ⟨#[]⟩, .string ⟨#[]⟩]).cells (G - (0 + (cap + 1))) := ⟨_, rfl⟩
      have hRs : ROW.size = G * 2 := by
        rw [hROW]
        simp [Builtin.zeroCells, Value.cells]
        omega
      obtain ⟨N, hN⟩ : ∃ N, w.heap.size = N := ⟨_, rfl⟩
      have hrz : ∀ ty, (Builtin.append_ #[47, 3] ty #[.slice (some ⟨g, 0, none⟩) 0 cap, .int .i64 ((cap : Int) + 1)]).run Tryd.prog w = .ok (.slice (some ⟨N, 0, none⟩) (cap + 1) G) (w.drew.alloc (.cells ROW 28)) := fun ty => by
        have h := Lib.run_append_grow_zeros (P := Tryd.prog) w 47 3 ty 28 i0 _ .i64 .i64 Tryd.underlying47 Tryd.underlying3 hi0 hz0 (some ⟨g, 0, none⟩) 0 cap [] (by rw [hzs]; exact run_firstCells_some w.drew 2 0 ⟨g, 0, none⟩ 0 cap [] rfl (fun j v hj => by cases hj)) (cap + 1) (by omega) (by omega) (by omega) (by omega) (by rw [hzb]; omega) (by rw [hzb]; exact growslice_fits (by omega) (by omega))
        rw [← hG, ← hROW, hN, Nat.zero_add] at h
        push_cast at h
        exact h
      obtain ⟨W1, hW1⟩ : ∃ W1, w.drew.alloc (.cells ROW 28) = W1 := ⟨_, rfl⟩
      have hN1 : W1.heap[N]? = some (.cells ROW 28 (0, 0)) := by rw [← hW1, ← hN]; exact heap_alloc_new w.drew _
      have ho1 : ∀ k, k < N → W1.heap[k]? = w.heap[k]? := fun k hk => by rw [← hW1]; exact heap_alloc_old w.drew _ (by rw [← hN] at hk; exact hk)
      have hgr1 : w.grownBy W1 (some g) := by
        rw [← hW1]
        exact ⟨rfl, rfl, rfl, by rw [World.size_alloc]; exact Nat.le_succ _, fun k hk _ => heap_alloc_old w.drew _ hk⟩
      obtain ⟨R1, hR1⟩ : ∃ R1 : Array Value, R1 = (ROW.toList.take 0 ++ fv [f] ++ ROW.toList.drop (0 + (fv [f]).length)).toArray := ⟨_, rfl⟩
      have hcp1 : ∀ ty dc, (Builtin.copy_ #[47, 47] ty #[.slice (some ⟨N, 0, none⟩) (cap + 1) dc, .slice (some ⟨gf, 0, none⟩) 1 1]).run Tryd.prog W1 = .ok (goInt 1) (W1.setRow N R1) := fun ty dc => by
        have h := run_copy_at (P := Tryd.prog) W1 47 47 ty 28 2 N 0 (cap + 1) dc ⟨gf, 0, none⟩ 1 1 ROW 28 (fv [f]) Tryd.underlying47 infoSzF hN1 (by rw [hm2]; simp [fv]) (hff _ (ho1 gf (by omega))) (by rw [hRs]; simp [fv]; omega) (fv_one [f])
        rw [hm2, ← hR1] at h
        exact h
      have hN2 : (W1.setRow N R1).heap[N]? = some (.cells R1 28 (0, 0)) := setRow_heap _ N ROW R1 _ (0, 0) hN1
      have hs1 : R1.size = G * 2 := by
        rw [hR1, ← hRs, e1]
        simp
        omega
      obtain ⟨W2, hW2⟩ : ∃ W2, W1.setRow N R1 = W2 := ⟨_, rfl⟩
      rw [hW2] at hN2 hcp1
      have hgr2 : w.grownBy W2 (some g) := by rw [← hW2]; exact grown_setRow hgr1 N R1 (Or.inr (Nat.le_of_eq hN))
      have ho2 : ∀ k, k < N → W2.heap[k]? = w.heap[k]? := fun k hk => by rw [← hW2, setRow_other _ N k R1 (by omega)]; exact ho1 k hk
      obtain ⟨R2, hR2⟩ : ∃ R2 : Array Value, R2 = (R1.toList.take 2 ++ fv l ++ R1.toList.drop (2 + (fv l).length)).toArray := ⟨_, rfl⟩
      have hcp2 : ∀ ty dc sc, (Builtin.copy_ #[47, 47] ty #[.slice (some ⟨N, 2, none⟩) cap dc, .slice (some ⟨g, 0, none⟩) cap sc]).run Tryd.prog W2.drew = .ok (goInt cap) (W2.drew.setRow N R2) := fun ty dc sc => by
        have h := run_copy_at (P := Tryd.prog) W2.drew 47 47 ty 28 2 N 2 cap dc ⟨g, 0, none⟩ cap sc R1 28 (fv l) Tryd.underlying47 infoSzF hN2 (by rw [hfl, hm3]) (row_src (w := W2.drew) (show W2.heap[g]? = _ from (ho2 g (by omega)).trans hg) (by rw [hfl]; exact htk)) (by rw [hfl, hs1]; omega) (fv_one l)
        rw [hm3, ← hR2] at h
        exact h
      have hN3 : (W2.drew.setRow N R2).heap[N]? = some (.cells R2 28 (0, 0)) := setRow_heap _ N R1 R2 _ (0, 0) hN2
      have hs2 : R2.size = G * 2 := by
        rw [hR2, ← hs1]
        simp [hfl]
        omega
      have ht2 : R2.toList.take ((cap + 1) * 2) = fv (f :: l) := by
        have ht : R1.toList.take 2 = fv [f] := by
          rw [hR1, e1]
          simp
        rw [hR2, ht, e2]
        simp only []
        rw [List.append_assoc, ← List.append_assoc, List.take_left']
        rw [List.length_append, hfl]
        simp [fv]; omega
      have hfin : OwnF (W2.drew.setRow N R2) base (.slice (some ⟨N, 0, none⟩) (cap + 1) G) (f :: l) := by
        refine ⟨by rw [hfv, List.length_cons, hn], Or.inr ⟨N, G, R2, by rw [List.length_cons, hn], by rw [← hN]; exact hbase, hN3, by rw [List.length_cons, hn]; omega, by unfold maxLen; omega, hs2, by rw [List.length_cons, hn]; exact ht2⟩⟩
      have hgr : w.grownBy (W2.drew.setRow N R2) (some g) := grown_setRow (show w.grownBy W2.drew (some g) from ⟨hgr2.os, hgr2.tape, hgr2.output, hgr2.size, hgr2.block⟩) N R2 (Or.inr (Nat.le_of_eq hN))
      obtain ⟨W3, hW3⟩ : ∃ W3, W2.drew.setRow N R2 = W3 := ⟨_, rfl⟩
      rw [hW3] at hcp2 hfin hgr
      rw [hW1] at hrz
      have HFIN := Lib.hid hfin
      have HGR := Lib.hid hgr
      have HRZ := Lib.hid hrz
      have HC1 := Lib.hid hcp1
      have HC2 := Lib.hid hcp2
      have HNW := Lib.hid hN
      have hr1 : ((cap : Int) < (cap : Int) + 1) := by omega
      have hw2 : IntKind.i64.wrap (1 : Int) = 1 := by rw [IntKind.wrap_i64]; omega
      have hw1 : IntKind.i64.wrap ((0 : Int) + 1) = 1 := by rw [IntKind.wrap_i64]; omega
      have hG3 : ¬ (G = 1) := by omega
      have hc1 : (1 : Int) ≤ (cap : Int) + 1 := by omega
      have hc2 : (0 : Int) ≤ (cap : Int) := by omega
      clear hown hlen hne hf f0 f1 hbase hn0 hg0 hg hcs htk hne2 hglt hflt hfl hfv hsrc hff e1 e2 hR1 hcp1 hs1 hR2 hcp2 hs2 ht2 hfin hgr hW1 hW2 hW3 hn hrz hN hROW hRs hG hN1 ho1 hgr1 hN2 hgr2 ho2 hN3 hi0 hz0 hzs hzb hm1 hm2 hm3 hroom hnc
      go_enter Tryd.func60, Tryd.ntmps60
      go_wp2_with (first
        | (at_builtin; refine Lib.wpList_append_run _ rfl (.tmp 34) (.tmp 39) _ _ rfl _ _ rfl rfl _ _ (HRZ.out _) ?_)
        | (with_reducible refine wpList_copy_eq rfl (.tmp 43) (.tmp 44) 47 47 rfl (.slice (some ⟨N, 0, none⟩) (cap + 1) G) (.slice (some ⟨gf, 0, none⟩) 1 1) ?d1 ?d2 (HC1.out _ G) ?d3))
      case d1 => rfl
      case d2 => rfl
      go_wp2_with fail
      go_region_law (refine step_copy_eq rfl (.tmp 50) (.tmp 53) 47 47 rfl _ _ (by simp [Act.eval, Act.put]) (by simp [Act.eval, Act.put]) (HC2.out _ (G - 1) cap) ?_)
      go_wp2_with fail
      go_ret
      exact ⟨_, rfl, HFIN.out, HGR.out, own_or (Or.inr HNW.out.symm)⟩

end Go.Proofs.YtmlnboibclfmcaaDoor
