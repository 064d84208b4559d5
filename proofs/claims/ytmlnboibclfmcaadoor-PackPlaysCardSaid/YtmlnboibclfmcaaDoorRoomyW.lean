/-
  The walks of reservoirbook.Roomy and Intact at rows.
-/
import Derived.Test.YtmlnboibclfmcaaDoorUnRuns2
import Derived.Laws.CopyOwn
import Derived.Laws.CopyRow
import Derived.OwnWalk
import Derived.BigQuiet
namespace Go.Proofs.YtmlnboibclfmcaaDoor
open Go.RowKit
set_option linter.unusedVariables false

theorem run_copy_wideW {P : Program} (w : World) (dT sT ty elem : TypeId) (size g dLen dCap : Nat) (a : Addr) (sLen sCap : Nat) (cur : Array Value) (t : TypeId) (cs : List Value)
    (hu : P.underlying dT = some (.slice elem)) (hs : (P.info? elem).map (·.size) = some size)
    (hg : w.heap[g]? = some (.cells cur t (0, 0))) (hn : cs.length = Nat.min sLen dLen * size)
    (hsrc : ∀ j v, cs[j]? = some v → w.cell? (a.add j) = some v) (hfit : cs.length ≤ cur.size) (h1 : ∀ v ∈ cs, v.oneCell' = true) :
    (Builtin.copy_ #[dT, sT] ty #[.slice (some ⟨g, 0, none⟩) dLen dCap, .slice (some a) sLen sCap]).run P w =
      .ok (goInt (Nat.min sLen dLen)) (w.setRow g (cs ++ cur.toList.drop cs.length).toArray) := by
  have hl := run_loadCells_list (P := P) w a cs hsrc
  have hst := run_storeCells_at P g 0 t cs 0 cur w hg (by simpa using hfit) h1
  cases hq : P.info? elem with
  | none => simp [hq] at hs
  | some i =>
    have hi : i.size = size := by simpa [hq] using hs
    have hst2 : (storeCells ⟨g, 0, none⟩ cs).run P w = .ok () (w.setRow g (cs ++ cur.toList.drop cs.length).toArray) := by simpa using hst
    simp [Builtin.copy_, run_underlying hu, Builtin.lenOf, Builtin.firstCells, sizeOf, typeInfo, hq, hi, ← hn, hl, hst2]
def markW : RowL := ⟨([], []), 8⟩
def zeroW : RowL := ⟨([], []), 0⟩
def markedW (l : List RowL) (j : Nat) : List RowL := l ++ (List.replicate j markW ++ List.replicate (80 - j) zeroW)
theorem markedW_len (l : List RowL) {j : Nat} (hj : j ≤ 80) : (markedW l j).length = l.length + 80 := by simp [markedW]; omega
theorem markedW_set (l : List RowL) {j : Nat} (hj : j < 80) : (markedW l j).set (l.length + j) markW = markedW l (j + 1) := by
  unfold markedW
  rw [List.set_append_right _ _ (by omega), show l.length + j - l.length = j by omega, List.set_append_right _ _ (by simp), List.length_replicate, Nat.sub_self, show 80 - j = (80 - (j + 1)) + 1 by omega, List.replicate_succ, List.set_cons_zero, List.replicate_succ']
  simp
theorem rv_cons (r : RowL) (l : List RowL) : rv (r :: l) = strV r.f.1 :: strV r.f.2 :: .int .i64 r.how :: rv l := by simp [rv]
theorem rv_set : ∀ (l : List RowL) (i : Nat) (r : RowL), i < l.length → (((rv l).set (i * 3) (strV r.f.1)).set (i * 3 + 1) (strV r.f.2)).set (i * 3 + 2) (.int .i64 r.how) = rv (l.set i r)
  | g :: l, 0, r, _ => by rw [List.set_cons_zero, rv_cons, rv_cons]; rfl
  | g :: l, i + 1, r, h => by
    rw [List.set_cons_succ, rv_cons, rv_cons, ← rv_set l i r (by simpa using h), show (i + 1) * 3 = (i * 3) + 1 + 1 + 1 by omega]
    rfl
theorem rv_zero_get (n j : Nat) (h : j < n * 3) : (rv (List.replicate n zeroW))[j]? = some (if j % 3 = 2 then .int .i64 0 else .string ⟨#[]⟩) := by
  obtain ⟨h1, h2, h3⟩ := rv_get (List.replicate n zeroW) (j / 3) (by simp; omega)
  rw [List.getElem_replicate] at h1 h2 h3
  rcases (show j = j / 3 * 3 ∨ j = j / 3 * 3 + 1 ∨ j = j / 3 * 3 + 2 by omega) with e | e | e
  · rw [if_neg (by omega), e, h1]; rfl
  · rw [if_neg (by omega), e, h2]; rfl
  · rw [if_pos (by omega), e, h3]; rfl
theorem made_rv (n : Nat) : (madeCells (Value.agg #[.string ⟨#[]⟩, .string ⟨#[]⟩, .int .i64 0]).cells (n * 3)).toList = rv (List.replicate n zeroW) := by
  apply List.ext_getElem?
  intro j
  by_cases hj : j < n * 3
  · rw [rv_zero_get n j hj]
    have h2 : j % 3 = 0 ∨ j % 3 = 1 ∨ j % 3 = 2 := by omega
    rcases h2 with h | h | h <;> simp [madeCells, hj, Value.cells, h]
  · rw [List.getElem?_eq_none (l := rv _) (by rw [rv_len, List.length_replicate]; omega)]
    simp [madeCells, hj]
theorem WB.cell {w : World} {g : Nat} {l : List RowL} (h : WB w g l) {i : Nat} (hi : i < l.length) : w.cell? ⟨g, i * 3, none⟩ = some (strV l[i].f.1) ∧ w.cell? ⟨g, i * 3 + 1, none⟩ = some (strV l[i].f.2) ∧ w.cell? ⟨g, i * 3 + 2, none⟩ = some (.int .i64 l[i].how) := by
  unfold WB at h
  obtain ⟨h1, h2, h3⟩ := rv_get l i hi
  refine ⟨?_, ?_, ?_⟩ <;> rw [cell_of_row w g _ _ _ (0, 0) h] <;> simp only [List.getElem?_toArray]
  · exact h1
  · exact h2
  · exact h3
theorem WB.free {w : World} {g : Nat} {l : List RowL} (h : WB w g l) (j : Nat) : w.frozen? ⟨g, j, none⟩ = false := frozen_of_row w g j _ _ h
theorem WB.put {w : World} {g : Nat} {l : List RowL} (h : WB w g l) {i : Nat} (hi : i < l.length) (r : RowL) : WB (((w.setCell ⟨g, i * 3, none⟩ (strV r.f.1)).setCell ⟨g, i * 3 + 1, none⟩ (strV r.f.2)).setCell ⟨g, i * 3 + 2, none⟩ (.int .i64 r.how)) g (l.set i r) := by
  unfold WB at h ⊢
  have e1 := heap_setCell_same w g (i * 3) _ _ (strV r.f.1) h
  have e2 := heap_setCell_same _ g (i * 3 + 1) _ _ (strV r.f.2) e1
  have e3 := heap_setCell_same _ g (i * 3 + 2) _ _ (.int .i64 r.how) e2
  rw [e3, ← rv_set l i r hi]
  simp
theorem own_blockW {w : World} {base e size g n : Nat} {xs : List Value} (h : w.ownsRow base e size (.slice (some ⟨g, 0, none⟩) n n) n xs) : w.heap[g]? = some (.cells xs.toArray e (0, 0)) := by
  obtain ⟨h1, ⟨h2, _⟩ | ⟨g', cap, cur, h2, h3, h4, h5, h6, h7, h8⟩⟩ := h
  · cases h2
  · injection h2 with e1 _ e2
    injection e1 with e1
    injection e1 with e1
    subst e1 e2
    rw [List.take_of_length_le (by simp [h7])] at h8
    rw [h4, ← h8]
set_option maxRecDepth 100000 in
/-- 'copy(full, l)', full a new block. -/
theorem wpList_copyW {w : World} {ops : Array Oper} {rest : List Oper} {o : Oper} {a : Act} {Q : Exit → Act → World → Prop} (hgd : o.guard = none) (d s : Operand)
    (ho : o.op = .call { callee := .builtin .copy, args := #[d, s], argTypes := #[59, 59] })
    (g : Nat) (v : Value) (l : List RowL) (hd : a.eval d = .slice (some ⟨g, 0, none⟩) (l.length + 80) (l.length + 80)) (hs : a.eval s = v) (hr : RbW w v l) (hb : WB w g (List.replicate (l.length + 80) zeroW))
    (B : Nat) (w0 : World) (hbel : Below B w0 w) (hB : B ≤ g)
    (h : ∀ w', WB w' g (markedW l 0) → Below B w0 w' → wpList Tryd.prog ops Q rest (a.put o.dst (goInt l.length)) w') : wpList Tryd.prog ops Q (o :: rest) a w := by
  obtain ⟨i0, hi, hz0, hz1, hz2⟩ := info_parts infoW
  have hsz : (Tryd.prog.info? 57).map (·.size) = some 3 := by kernel_rfl
  have hmin : Nat.min l.length (l.length + 80) = l.length := Nat.min_eq_left (by omega)
  have hfin : rv l ++ (rv (List.replicate (l.length + 80) zeroW)).toArray.toList.drop (rv l).length = rv (markedW l 0) := by
    have e : List.replicate (l.length + 80) zeroW = List.replicate l.length zeroW ++ List.replicate 80 zeroW := List.replicate_append_replicate.symm
    unfold markedW
    rw [rv_append]
    refine congrArg (fun z => rv l ++ z) ?_
    rw [e, rv_append]
    rw [List.drop_append_of_le_length (by rw [rv_len, rv_len, List.length_replicate]; exact Nat.le_refl _), List.drop_eq_nil_of_le (by rw [rv_len, rv_len, List.length_replicate]; exact Nat.le_refl _)]
    rfl
  have hwide : ∀ (ad : Addr) (c : Nat), (∀ j u, (rv l)[j]? = some u → w.cell? (ad.add j) = some u) → a.eval s = .slice (some ad) l.length c → wpList Tryd.prog ops Q (o :: rest) a w := by
    intro ad c hsrc hs'
    refine wpList_plain hgd fun K hK => ?_
    have hrun := run_copy_wideW (P := Tryd.prog) w 59 59 o.type 57 3 g (l.length + 80) (l.length + 80) ad l.length c (rv (List.replicate (l.length + 80) zeroW)).toArray 57 (rv l) Tryd.underlying59 hsz hb (by rw [rv_len, hmin]) hsrc (by simp [rv_len]; omega) (rv_one l)
    rw [hfin, hmin] at hrun
    unfold Oper.wp
    simp [execOp, ho, resolve, invoke, builtin, hd, hs', hrun, Result.andThen]
    exact hK _ _ (h _ (setRow_heap w g _ _ 57 (0, 0) hb) (below_setRow hbel hB _))
  rcases hr with ⟨⟨a0, rfl⟩, rfl⟩ | ⟨b, off, cap, rfl, h1, h2, h3, h4⟩
  · cases a0 with
    | some ad => exact hwide ad 0 (fun j u hj => by simp [rv] at hj) hs
    | none =>
      refine wpList_plain hgd fun K hK => ?_
      have hrun : (Builtin.copy_ #[59, 59] o.type #[.slice (some ⟨g, 0, none⟩) (([] : List RowL).length + 80) (([] : List RowL).length + 80), .slice none 0 0]).run Tryd.prog w = .ok (goInt 0) w := by
        exact run_copy_nil Tryd.prog w _ _ o.type 57 ⟨g, 0, none⟩ _ _ Tryd.underlying59 (by rw [hsz]; rfl)
      unfold Oper.wp
      simp [execOp, ho, resolve, invoke, builtin, hd, hs, Result.andThen] at hrun ⊢
      rw [hrun]
      exact hK _ _ (h w (by unfold WB; exact hb) hbel)
  · refine hwide ⟨b, off, none⟩ cap (fun j u hj => ?_) hs
    rw [Addr.add_lit]
    obtain ⟨k, hk, ⟨rfl, rfl⟩ | ⟨rfl, rfl⟩ | ⟨rfl, rfl⟩⟩ := rv_three l j u hj
    · exact (h4 k hk).1
    · rw [← Nat.add_assoc]; exact (h4 k hk).2.1
    · rw [← Nat.add_assoc]; exact (h4 k hk).2.2
theorem below_aftW {B : Nat} {w w' : World} (h : Below B w w') (hB : w.heap.size = B) : Aft w w' := by
  subst hB
  exact h

set_option maxHeartbeats 4000000 in
set_option maxRecDepth 100000 in
theorem roomyW_any (v : Value) (l : List RowL) (w : World) (hr : RbW w v l) (hlen : l.length ≤ 1000000) :
    Calls Tryd.prog 43 #[v, .agg #[.string ⟨#[]⟩, .string ⟨#[]⟩, .int .i64 8]] w fun e w' => ∃ g, e = .returned (.slice (some ⟨g, 0, none⟩) (l.length + 80) (l.length + 80)) ∧ Hid (WB w' g (l ++ List.replicate 80 markW)) ∧ Aft w w' ∧ w.heap.size ≤ g := by
  obtain ⟨i0, hi, hz0, hz1, hz2⟩ := info_parts infoW
  have hb2 : i0.bytes * (l.length + 80) ≤ 281474976710656 := by rw [hz2]; omega
  have hb3 : l.length + 80 ≤ maxLen := by unfold maxLen; omega
  obtain ⟨B, hB⟩ : ∃ B, w.heap.size = B := ⟨_, rfl⟩
  have HB := Lib.hid hB
  have hbz : (w.alloc (.cells #[.string ⟨#[]⟩, .string ⟨#[]⟩, .int .i64 8] 57)).heap.size = B + 1 := by rw [World.size_alloc, hB]
  have m0 : (w.alloc (.cells #[.string ⟨#[]⟩, .string ⟨#[]⟩, .int .i64 8] 57)).cell? ⟨B, 0, none⟩ = some (.string ⟨#[]⟩) := by subst hB; simp [go_sem]
  have m1 : (w.alloc (.cells #[.string ⟨#[]⟩, .string ⟨#[]⟩, .int .i64 8] 57)).cell? ⟨B, 1, none⟩ = some (.string ⟨#[]⟩) := by subst hB; simp [go_sem]
  have m2 : (w.alloc (.cells #[.string ⟨#[]⟩, .string ⟨#[]⟩, .int .i64 8] 57)).cell? ⟨B, 2, none⟩ = some (.int .i64 8) := by subst hB; simp [go_sem]
  have HR := Lib.hid (hr.aft ((Aft.refl w).alloc (.cells #[.string ⟨#[]⟩, .string ⟨#[]⟩, .int .i64 8] 57)))
  have HA := Lib.hid ((Aft.refl w).alloc (.cells #[.string ⟨#[]⟩, .string ⟨#[]⟩, .int .i64 8] 57))
  obtain ⟨a1, c1, b1, o1, rfl, _, _, _⟩ := hr.open
  have HM := Lib.hid (And.intro m0 (And.intro m1 m2))
  have HBZ := Lib.hid hbz
  clear hr m0 m1 m2 hbz hB
  go_enter Tryd.func43, Tryd.ntmps43
  go_wp2_with (first | (at_make; refine wpList_make_full _ rfl _ _ 59 rfl (B + 1) 57 i0 (.agg #[.string ⟨#[]⟩, .string ⟨#[]⟩, .int .i64 0]) 3 Tryd.underlying59 hi hz0 hz1 .i64 .i64 _ _ (l.length + 80) rfl rfl (by push_cast; rfl) (by push_cast; rfl) hb2 hb3 (Nat.le_of_eq HBZ.out.symm) ?_; intro w3 hown3 hg3; rw [HBZ.out] at hown3; rw [made_rv] at hown3; have HBK : Hid (WB w3 (B + 1) (List.replicate (l.length + 80) zeroW)) := Lib.hid (own_blockW hown3); have HR3 := Lib.hid (HR.out.aft (Below.grown (Below.refl _ _) hg3 (Nat.le_refl _) (fun k hk => by cases hk))); have HBE := Lib.hid (Below.grown (Below.refl (B + 1) _) hg3 (Nat.le_of_eq HBZ.out.symm) (fun k hk => by cases hk)); rw [HBZ.out, HB.out]; clear hown3 hg3) | (with_reducible refine wpList_copyW rfl (.tmp 11) (.tmp 12) rfl (B + 1) _ l ?r4 ?r5 HR3.out HBK.out (B + 1) _ HBE.out (Nat.le_refl _) ?r6))
  case r4 => rfl
  case r5 => rfl
  case r6 =>
    intro w4 hb4 hbel4
    have hm0 := HM.out.1
    have hm1 := HM.out.2.1
    have hm2 := HM.out.2.2
    have hA := HA.out
    have hZ := HBZ.out
    clear HM HA HBZ HBK HR3 HBE HR hi hz0 hz1 hz2 hb2
    generalize w.alloc (.cells #[.string ⟨#[]⟩, .string ⟨#[]⟩, .int .i64 8] 57) = W1 at hm0 hm1 hm2 hA hZ hbel4
    have H4 := Lib.hid hb4
    have HM0 := Lib.hid hm0
    have HM1 := Lib.hid hm1
    have HM2 := Lib.hid hm2
    have HA := Lib.hid hA
    have HZ := Lib.hid hZ
    clear hb4 hm0 hm1 hm2 hA hZ
    have hl63 : l.length + 80 ≤ 2000000000 := by omega
    clear hb3
    go_wp2_with fail
    go_loopw [6] (fun vi wr => ∃ j : Nat, j ≤ 80 ∧ vi = .int .i64 ((l.length + j : Nat) : Int) ∧ Hid (WB wr (B + 1) (markedW l j)) ∧ Hid (Below (B + 1) W1 wr)) (fun vi _ => l.length + 80 - (intOf vi).toNat)
    case atStart => exact ⟨0, by omega, by go_num, H4, Lib.hid hbel4⟩
    case round =>
      obtain ⟨j, hj, rfl, HB4, hbel⟩ := hrel
      by_cases hlt : j < 80
      · have hjl : l.length + j < (markedW l j).length := by rw [markedW_len l hj]; omega
        obtain ⟨hc0, hc1, hc2⟩ := HB4.out.cell hjl
        have hf0 : wr.frozen? ⟨B + 1, (l.length + j) * 3, none⟩ = false := HB4.out.free _
        have hf1 : wr.frozen? ⟨B + 1, (l.length + j) * 3 + 1, none⟩ = false := HB4.out.free _
        have hf2 : wr.frozen? ⟨B + 1, (l.length + j) * 3 + 2, none⟩ = false := HB4.out.free _
        have hx0 : wr.cell? ⟨B, 0, none⟩ = some (.string ⟨#[]⟩) := by rw [Below.cell hbel.out (p := ⟨B, 0, none⟩) (Nat.lt_succ_self _)]; exact HM0.out
        have hx1 : wr.cell? ⟨B, 1, none⟩ = some (.string ⟨#[]⟩) := by rw [Below.cell hbel.out (p := ⟨B, 1, none⟩) (Nat.lt_succ_self _)]; exact HM1.out
        have hx2 : wr.cell? ⟨B, 2, none⟩ = some (.int .i64 8) := by rw [Below.cell hbel.out (p := ⟨B, 2, none⟩) (Nat.lt_succ_self _)]; exact HM2.out
        have hset := HB4.out.put hjl markW
        rw [markedW_set l hlt] at hset
        generalize strV ((markedW l j)[l.length + j]).f.1 = o0 at hc0
        generalize strV ((markedW l j)[l.length + j]).f.2 = o1' at hc1
        generalize ((markedW l j)[l.length + j]).how = o2' at hc2
        have HS := Lib.hid hset
        clear hset
        have q1 : ((l.length + j : Nat) : Int) < ((l.length + 80 : Nat) : Int) := by omega
        go_wp2_with fail
        go_roundw
        case rel => exact ⟨j + 1, by omega, by go_num, HS, Lib.hid (((hbel.out.setCell (Nat.le_refl _) _).setCell (Nat.le_refl _) _).setCell (Nat.le_refl _) _)⟩
        case measure => simp [intOf] <;> omega
      · have hj8 : j = 80 := by omega
        subst hj8
        go_wp2_with fail
        go_ret
        refine ⟨B + 1, rfl, ?_, HA.out.trans (below_aftW hbel.out HZ.out), by rw [HB.out]; omega⟩
        have := HB4
        unfold markedW at this
        simpa using this

set_option maxHeartbeats 4000000 in
set_option maxRecDepth 100000 in
theorem intactW_any (v1 v2 : Value) (l : List RowL) (w : World) (h1 : RbW w v1 (l ++ List.replicate 80 markW)) (h2 : RbW w v2 l) (hlen : l.length ≤ 1000000) :
    Calls Tryd.prog 45 #[v1, v2, .agg #[.string ⟨#[]⟩, .string ⟨#[]⟩, .int .i64 8]] w fun e w' => e = .returned (.bool true) ∧ Aft w w' := by
  rcases h1 with ⟨_, h⟩ | ⟨b, off, cap, rfl, g1, g2, g3, g4⟩
  · have := congrArg List.length h
    simp at this
  · have hll : (l ++ List.replicate 80 markW).length = l.length + 80 := by simp
    have hcut : RbW w (.slice (some ⟨b, off, none⟩) l.length cap) l := by
      refine Or.inr ⟨b, off, cap, rfl, by omega, g2, g3, fun i hi => ?_⟩
      have := g4 i (by omega)
      rw [List.getElem_append_left hi] at this
      exact this
    have hmk : ∀ j, j < 80 → w.cell? ⟨b, off + (l.length + j) * 3, none⟩ = some (.string ⟨#[]⟩) ∧ w.cell? ⟨b, off + (l.length + j) * 3 + 1, none⟩ = some (.string ⟨#[]⟩) ∧ w.cell? ⟨b, off + (l.length + j) * 3 + 2, none⟩ = some (.int .i64 8) := by
      intro j hj
      have := g4 (l.length + j) (by omega)
      rw [List.getElem_append_right (by omega), List.getElem_replicate] at this
      exact this
    rw [hll] at g1 ⊢
    obtain ⟨a2, cap2, b2, off2, rfl, m2, _, _⟩ := h2.open
    unfold maxLen at g2
    have hb0 : (((l.length + 80 : Nat) : Int) != (l.length : Int) + 80) = false := by rw [bne_eq_false_iff_eq]; omega
    obtain ⟨B, hB⟩ : ∃ B, w.heap.size = B := ⟨_, rfl⟩
    have HB := Lib.hid hB
    have hA := (Aft.refl w).alloc (.cells #[.string ⟨#[]⟩, .string ⟨#[]⟩, .int .i64 8] 57)
    have m0 : (w.alloc (.cells #[.string ⟨#[]⟩, .string ⟨#[]⟩, .int .i64 8] 57)).cell? ⟨B, 0, none⟩ = some (.string ⟨#[]⟩) := by subst hB; simp [go_sem]
    have m1 : (w.alloc (.cells #[.string ⟨#[]⟩, .string ⟨#[]⟩, .int .i64 8] 57)).cell? ⟨B, 1, none⟩ = some (.string ⟨#[]⟩) := by subst hB; simp [go_sem]
    have m3 : (w.alloc (.cells #[.string ⟨#[]⟩, .string ⟨#[]⟩, .int .i64 8] 57)).cell? ⟨B, 2, none⟩ = some (.int .i64 8) := by subst hB; simp [go_sem]
    have HBZ : Hid (B < (w.alloc (.cells #[.string ⟨#[]⟩, .string ⟨#[]⟩, .int .i64 8] 57)).heap.size) := Lib.hid (by rw [World.size_alloc, hB]; omega)
    have HC := Lib.hid (hcut.aft hA)
    have H2 := Lib.hid (h2.aft hA)
    have HMK := Lib.hid hmk
    have HA := Lib.hid hA
    have HX := Lib.hid (And.intro m0 (And.intro m1 m3))
    clear hcut hmk h2 g4 hll m2 m0 m1 m3 hA hB
    go_enter Tryd.func45, Tryd.ntmps45
    go_wp2_with fail
    rw [HB.out]
    refine (sameW_any _ _ l _ HC.out H2.out).mono ?_
    rintro e w1 ⟨rfl, b1⟩
    have hx := HX.out
    have hA := HA.out
    have hZ := HBZ.out
    clear HX HA HBZ HC H2
    generalize w.alloc (.cells #[.string ⟨#[]⟩, .string ⟨#[]⟩, .int .i64 8] 57) = W1 at hx hA hZ b1
    have hx0 : w1.cell? ⟨B, 0, none⟩ = some (.string ⟨#[]⟩) := by rw [Below.cell b1.to (p := ⟨B, 0, none⟩) hZ]; exact hx.1
    have hx1 : w1.cell? ⟨B, 1, none⟩ = some (.string ⟨#[]⟩) := by rw [Below.cell b1.to (p := ⟨B, 1, none⟩) hZ]; exact hx.2.1
    have hx2 : w1.cell? ⟨B, 2, none⟩ = some (.int .i64 8) := by rw [Below.cell b1.to (p := ⟨B, 2, none⟩) hZ]; exact hx.2.2
    have HX := Lib.hid (And.intro hx0 (And.intro hx1 hx2))
    have HA := Lib.hid (hA.trans b1)
    have HZ := Lib.hid (Nat.lt_of_lt_of_le hZ b1.size)
    clear hx hx0 hx1 hx2 hA hZ b1
    go_wp2_with fail
    go_loopw [7] (fun vi wr => ∃ j : Nat, j ≤ 80 ∧ vi = .int .i64 ((l.length + j : Nat) : Int) ∧ Hid (Aft w1 wr)) (fun vi _ => l.length + 80 - (intOf vi).toNat)
    case atStart => exact ⟨0, by omega, by go_num, Lib.hid (Aft.refl _)⟩
    case round =>
      obtain ⟨j, hj, rfl, HW⟩ := hrel
      by_cases hlt : j < 80
      · obtain ⟨k0, k1, k2⟩ := HMK.out j hlt
        have c0 : wr.cell? ⟨b, off + (l.length + j) * 3, none⟩ = some (.string ⟨#[]⟩) := by
          rw [Below.cell (HA.out.trans HW.out).to (p := ⟨b, off + (l.length + j) * 3, none⟩) g3]; exact k0
        have c1 : wr.cell? ⟨b, off + (l.length + j) * 3 + 1, none⟩ = some (.string ⟨#[]⟩) := by
          rw [Below.cell (HA.out.trans HW.out).to (p := ⟨b, off + (l.length + j) * 3 + 1, none⟩) g3]; exact k1
        have c2 : wr.cell? ⟨b, off + (l.length + j) * 3 + 2, none⟩ = some (.int .i64 8) := by
          rw [Below.cell (HA.out.trans HW.out).to (p := ⟨b, off + (l.length + j) * 3 + 2, none⟩) g3]; exact k2
        have d0 : wr.cell? ⟨B, 0, none⟩ = some (.string ⟨#[]⟩) := by rw [Below.cell HW.out.to (p := ⟨B, 0, none⟩) HZ.out]; exact HX.out.1
        have d1 : wr.cell? ⟨B, 1, none⟩ = some (.string ⟨#[]⟩) := by rw [Below.cell HW.out.to (p := ⟨B, 1, none⟩) HZ.out]; exact HX.out.2.1
        have d2 : wr.cell? ⟨B, 2, none⟩ = some (.int .i64 8) := by rw [Below.cell HW.out.to (p := ⟨B, 2, none⟩) HZ.out]; exact HX.out.2.2
        have q1 : ((l.length + j : Nat) : Int) < ((l.length + 80 : Nat) : Int) := by omega
        clear k0 k1 k2
        go_wp2_with fail
        go_quiet (fail)
        go_wp2_with fail
        go_roundw
        case rel => exact ⟨j + 1, by omega, by go_num, Lib.hid (HW.out.drewN _)⟩
        case measure => simp [intOf] <;> omega
      · have hj8 : j = 80 := by omega
        subst hj8
        go_wp2_with fail
        go_ret
        exact ⟨rfl, HA.out.trans HW.out⟩
end Go.Proofs.YtmlnboibclfmcaaDoor
