/-
  The walks of fresh.Lifetime, Age and Left. The walks of fresh.Age and Left.
-/
import Derived.Test.YtdcdckjdloddiaaFrWalk
import Derived.Test.YtdcdckjdloddiaaPlainSt
import Derived.Deep.DeepCutAuto
import Derived.Laws.Tables
import Derived.Laws.CopyOwn
import Derived.Laws.Rows
import Derived.Deep.RegionHeld
namespace Go.Proofs.Ytdcdckjdloddiaa
open Go.RowKit
set_option linter.unusedVariables false

theorem ctl_put (w : World) (c : Ctl) : CB ((w.alloc (.cells (ctlC ctlZ).toArray 48)).setRow w.heap.size (ctlC c).toArray) w.heap.size c ∧ Aft w ((w.alloc (.cells (ctlC ctlZ).toArray 48)).setRow w.heap.size (ctlC c).toArray) := by
  have h : CB (w.alloc (.cells (ctlC ctlZ).toArray 48)) w.heap.size ctlZ := heap_alloc_new w _
  exact ⟨setRow_heap _ _ _ _ _ _ h, below_setRow ((Aft.refl w).alloc _) (Nat.le_refl _) _⟩
/-- A control that a call handed back is stored: the row law's premises. -/
theorem ctl_pre19 (w : World) (c : Ctl) : (w.alloc (.cells (ctlC ctlZ).toArray 48)).heap[w.heap.size]? = some (.cells (ctlC ctlZ).toArray 48 (0, 0)) ∧ (Try.prog.info? 48).map (·.size) = some (ctlC c).toArray.size ∧ (ctlC ctlZ).toArray.size = (ctlC c).toArray.size ∧ (ctlC c).toArray.all (·.oneCell') = true :=
  ⟨heap_alloc_new w _, sizeCtl, rfl, by simp [ctlC, Value.oneCell']⟩
theorem wpList_load_row_w {P : Program} {ops : Array Oper} {rest : List Oper} {o : Oper} {a : Act} {w : World} {Q : Exit → Act → World → Prop} (hw : Region.wanted o (yielded ops a.tmps) = true) (ty : TypeId) (x : Operand) (ho : o.op = .load ty x)
    (g : Nat) (hx : a.eval x = .pointer (some ⟨g, 0, none⟩)) (t : TypeId) (cs : Array Value) (fr : Nat × Nat) (d : TypeDesc) (hg : w.heap[g]? = some (.cells cs t fr))
    (hu : P.underlying ty = some d) (hd : (match d with | .struct _ | .array _ _ => true | _ => false) = true) (hi : (P.info? ty).map (·.size) = some cs.size)
    (h : wpList P ops Q rest (a.put o.dst (.agg cs)) w) : wpList P ops Q (o :: rest) a w :=
  wpList_step fun K hK => by rw [if_pos hw]; exact wp_load_row ty x ho g hx t cs fr d hg hu hd hi (hK _ _ h)
theorem exec_load {P : Program} {a : Act} {o : Oper} {w : World} (ty : TypeId) (x : Operand) (ho : o.op = .load ty x) (g : Nat) (hx : a.eval x = .pointer (some ⟨g, 0, none⟩)) (R : Array Value)
    (hl : (loadVar ty ⟨g, 0, none⟩).run P w = .ok (.agg R) w) : (execOp a.eval o).run P w = .ok (.value (.agg R)) w := by
  unfold execOp
  simp only [ho, hx, Instr.loadAt, Instr.sureAddr, Sem.run_bind, Sem.run_pure, Result.andThen_ok, hl]
theorem EB.load {w : World} {g : Nat} {R : Array Value} (h : EB w g R) {st : Int} {vs : Value} {ask ca : Int} (hR : EntR R st vs ask ca) : (loadVar 28 ⟨g, 0, none⟩).run Try.prog w = .ok (.agg R) w :=
  run_loadVar_row w g _ _ R (0, 0) _ h Try.underlying28 rfl hR.info

set_option maxHeartbeats 8000000 in
set_option maxRecDepth 100000 in
theorem lifetime_any (R : Array Value) (st : Int) (vs : Value) (ask ca : Int) (l : List FieldL) (x : Nat) (w : World) (hR : EntR R st vs ask ca) (hr : RbF w vs l) (hk : FOk l) :
    Calls Try.prog 14 #[.agg R, .float .f64 x] w fun e w' => e = .returned (.int .i64 (lifeF st l ca x)) ∧ Aft w w' := by
  have HOF := Lib.hid (fun w h => of_ctl vs l w h hk.len (hk.join nCC))
  have HDD := Lib.hid (fun w h => dated_any R st vs ask ca l w hR h hk)
  have HDE := Lib.hid (fun w h => date_any vs l ⟨nExp.toArray⟩ w h hk)
  have HDL := Lib.hid (fun w h => date_any vs l ⟨nLast.toArray⟩ w h hk)
  have HPL := Lib.hid (fun w => plain_st st w)
  have HSH := Lib.hid (fun n h0 h1 w => share_any19 n x h0 h1 w)
  have en1 : (⟨nExp.toArray⟩ : ByteArray).data.toList = nExp := rfl
  have en2 : (⟨nLast.toArray⟩ : ByteArray).data.toList = nLast := rfl
  rw [en1] at HDE
  rw [en2] at HDL
  have hA : Aft w (w.alloc (.cells R 28)) := (Aft.refl w).alloc _
  have hB : EB (w.alloc (.cells R 28)) w.heap.size R := heap_alloc_new w _
  have HR := Lib.hid hR
  have HRB := Lib.hid (hr.aft hA)
  have HA := Lib.hid hA
  have HB := Lib.hid hB
  obtain ⟨aq, cq, bq, oq, hvs, -⟩ := hr.open
  unfold lifeF
  have okf := datedF_bd l ca
  have oke := dF_bd nExp l
  have okl := dF_bd nLast l
  rw [show plS19 st = plS st from rfl]
  generalize ctlF l = c at HOF ⊢
  generalize datedF l ca = fr at HDD okf ⊢
  generalize dF nExp l = ex at HDE oke ⊢
  generalize dF nLast l = lm at HDL okl ⊢
  generalize (valsF nExp l).length = ne at HDE ⊢
  generalize (valsF nLast l).length = nl at HDL
  generalize plS st = pl at HPL ⊢
  obtain ⟨L, hL⟩ : ∃ L, lifeB c fr ne ex lm pl x = L := ⟨_, rfl⟩
  rw [hL]
  obtain ⟨ex1, ex2⟩ := ex
  obtain ⟨lm1, lm2⟩ := lm
  obtain ⟨c0, c1, c2, c3, c4, c5, c6, c7, c8, c9⟩ := c
  unfold lifeB at hL
  simp only at hL okf oke okl
  have HL := Lib.hid hL
  obtain ⟨Rc, hRc⟩ : ∃ Rc, (ctlC ⟨c0, c1, c2, c3, c4, c5, c6, c7, c8, c9⟩).toArray = Rc := ⟨_, rfl⟩
  have HPR := Lib.hid (fun w => ctl_pre19 w ⟨c0, c1, c2, c3, c4, c5, c6, c7, c8, c9⟩)
  have HPU := Lib.hid (fun w => ctl_put w ⟨c0, c1, c2, c3, c4, c5, c6, c7, c8, c9⟩)
  rw [show ctlV ⟨c0, c1, c2, c3, c4, c5, c6, c7, c8, c9⟩ = .agg Rc by rw [← hRc]; rfl] at HOF
  rw [hRc] at HPR HPU
  have HINF := Lib.hid hR.info
  subst hvs
  clear hA hB hr hR hk en1 en2 hL hRc
  go_enter Try.func14, Try.ntmps14
  go_upto_region 1 with fail
  generalize w.heap.size = g at HB ⊢
  generalize w.alloc (.cells R 28) = W at HA HB HRB ⊢
  obtain ⟨e6, e7, e10, e11⟩ := HB.out.cells HR.out
  go_wp2_with fail
  refine (HOF.out _ HRB.out).mono ?_
  rintro e w1 ⟨rfl, a1⟩
  have HPR1 := Lib.hid (HPR.out w1)
  obtain ⟨hcb, ha2⟩ := HPU.out w1
  have ha3 := a1.trans ha2
  have HB2 := Lib.hid (HB.out.aft ha3)
  have HRB2 := Lib.hid (HRB.out.aft ha3)
  have HA2 := Lib.hid (HA.out.trans ha3)
  have HCB := Lib.hid hcb
  clear hcb ha2 ha3 a1 e6 e7 e10 e11 HPR HPU HOF HB HRB HA
  go_upto_region 3 with (refine wpList_store_rowTo rfl 48 (.tmp 6) (.tmp 18) rfl rfl w1.heap.size Rc rfl rfl _ _ HPR1.out.1 HPR1.out.2.1 HPR1.out.2.2.1 HPR1.out.2.2.2 ?_)
  obtain ⟨W2, hW2⟩ : ∃ W2, (w1.alloc (.cells (ctlC ctlZ).toArray 48)).setRow w1.heap.size Rc = W2 := ⟨_, rfl⟩
  rw [hW2] at HB2 HRB2 HA2 HCB
  rw [show (w1.alloc (.cells #[.bool false, .bool false, .bool false, .bool false, .bool false, .bool false, .int .i64 0, .int .i64 0, .int .i64 0, .int .i64 0] 48)).setRow w1.heap.size Rc = W2 from hW2]
  clear hW2 HPR1
  generalize w1.heap.size = B9 at HCB ⊢
  obtain ⟨r0, r1, r2, r3, r4, r5, r6, r7, r8, r9⟩ := HCB.out.cells
  obtain ⟨e6, e7, e10, e11⟩ := HB2.out.cells HR.out
  by_cases h7 : c7 ≥ 0
  · have HL2 : Hid (c7 = L) := Lib.hid ((if_pos h7).symm.trans HL.out)
    go_wp2_with fail
    go_ret
    exact ⟨ret_int HL2.out, HA2.out⟩
  have HL7 := Lib.hid ((if_neg h7).symm.trans HL.out)
  by_cases h6 : c6 ≥ 0
  · have HL2 : Hid (c6 = L) := Lib.hid ((if_pos h6).symm.trans HL7.out)
    go_wp2_with fail
    go_ret
    exact ⟨ret_int HL2.out, HA2.out⟩
  have HL6 := Lib.hid ((if_neg h6).symm.trans HL7.out)
  clear HL HL7
  go_wp2_with (refine wpList_load_row rfl 28 (.tmp 2) rfl g rfl _ R (0, 0) _ HB2.out Try.underlying28 rfl HINF.out ?_)
  refine (HDD.out _ HRB2.out).mono ?_
  rintro e w3 ⟨rfl, a3⟩
  have HB3 := Lib.hid (HB2.out.aft a3)
  have HRB3 := Lib.hid (HRB2.out.aft a3)
  have HA3 := Lib.hid (HA2.out.trans a3)
  clear a3 r0 r1 r2 r3 r4 r5 r6 r7 r8 r9 e6 e7 e10 e11 HCB HB2 HRB2 HA2
  go_wp2_with fail
  refine (HDE.out _ HRB3.out).mono ?_
  rintro e w4 ⟨rfl, a4⟩
  have HB4 := Lib.hid (HB3.out.aft a4)
  have HRB4 := Lib.hid (HRB3.out.aft a4)
  have HA4 := Lib.hid (HA3.out.trans a4)
  clear a4 HB3 HRB3 HA3
  by_cases hne : 0 < ne
  · have HLE := Lib.hid ((if_pos hne).symm.trans HL6.out)
    have h9 : (ne : Int) > 0 := by omega
    clear hne HL6
    cases ex2
    · have HL2 : Hid (0 = L) := Lib.hid HLE.out
      go_wp2_with fail
      go_ret
      exact ⟨ret_int HL2.out, HA4.out⟩
    · have HL2 : Hid (max (ex1 - fr) 0 = L) := Lib.hid HLE.out
      have gw : IntKind.i64.wrap (ex1 - fr) = ex1 - fr := IntWalk.i64_in _ (by omega)
      go_wp2_with fail
      go_ret
      exact ⟨ret_int HL2.out, HA4.out⟩
  have HLE := Lib.hid ((if_neg hne).symm.trans HL6.out)
  have h9 : ¬ (ne : Int) > 0 := by omega
  clear hne HL6
  go_wp2_with fail
  refine (HDL.out _ HRB4.out).mono ?_
  rintro e w5 ⟨rfl, a5⟩
  have HB5 := Lib.hid (HB4.out.aft a5)
  have HA5 := Lib.hid (HA4.out.trans a5)
  clear a5 HB4 HRB4 HA4
  obtain ⟨e6, e7, e10, e11⟩ := HB5.out.cells HR.out
  cases lm2
  · have HL2 : Hid (0 = L) := Lib.hid HLE.out
    go_wp2_with fail
    go_ret
    exact ⟨ret_int HL2.out, HA5.out⟩
  by_cases hle : lm1 ≤ fr
  · cases pl
    · have HL2 : Hid (0 = L) := Lib.hid ((if_neg (fun h => by cases h.2.2)).symm.trans HLE.out)
      go_wp2_with fail
      refine (HPL.out _).mono ?_
      rintro e w6 ⟨rfl, rfl⟩
      go_wp2_with fail
      go_ret
      exact ⟨ret_int HL2.out, HA5.out⟩
    · have HL2 : Hid (shareI (fr - lm1) x = L) := Lib.hid ((if_pos ⟨rfl, hle, rfl⟩).symm.trans HLE.out)
      have gw : IntKind.i64.wrap (fr - lm1) = fr - lm1 := IntWalk.i64_in _ (by omega)
      have HSX := Lib.hid (HSH.out (fr - lm1) (by omega) (by omega))
      go_wp2_with fail
      refine (HPL.out _).mono ?_
      rintro e w6 ⟨rfl, rfl⟩
      go_wp2_with fail
      refine (HSX.out _).mono ?_
      rintro e w6 ⟨rfl, rfl⟩
      go_wp2_with fail
      go_ret
      exact ⟨ret_int HL2.out, HA5.out⟩
  · have HL2 : Hid (0 = L) := Lib.hid ((if_neg (fun h => hle h.2.1)).symm.trans HLE.out)
    go_wp2_with fail
    go_ret
    exact ⟨ret_int HL2.out, HA5.out⟩

end Go.Proofs.Ytdcdckjdloddiaa
namespace Go.Proofs.Ytdcdckjdloddiaa
open Go.RowKit
set_option linter.unusedVariables false

theorem max0_comm (a b : Int) : max 0 (max a b) = max (max 0 a) b := by omega
set_option maxHeartbeats 8000000 in
set_option maxRecDepth 100000 in
theorem age_any (R : Array Value) (st : Int) (vs : Value) (ask ca now : Int) (l : List FieldL) (w : World) (hR : EntR R st vs ask ca) (hr : RbF w vs l) (hk : FOk l) :
    Calls Try.prog 13 #[.agg R, .int .i64 now] w fun e w' => e = .returned (.int .i64 (ageF l ask ca now)) ∧ Aft w w' := by
  have HDD := Lib.hid (fun w h => dated_any R st vs ask ca l w hR h hk)
  have HTL := Lib.hid (fun w h => told_any vs l w h hk)
  have HCA := Lib.hid (fun w => clamp_any ask w)
  have HCC := Lib.hid (fun w => clamp_any ca w)
  have HCN := Lib.hid (fun w => clamp_any now w)
  have hA : Aft w (w.alloc (.cells R 28)) := (Aft.refl w).alloc _
  have hB : EB (w.alloc (.cells R 28)) w.heap.size R := heap_alloc_new w _
  have HR := Lib.hid hR
  have HRB := Lib.hid (hr.aft hA)
  have HA := Lib.hid hA
  have HB := Lib.hid hB
  obtain ⟨aq, cq, bq, oq, hvs, -⟩ := hr.open
  unfold ageF ageB
  have okd := datedF_bd l ca
  have okt := toldF_bd l
  have oka := clampI_bd ask
  have okc := clampI_bd ca
  have okn := clampI_bd now
  generalize datedF l ca = d at HDD okd ⊢
  generalize toldF l = t at HTL okt ⊢
  generalize clampI ask = ka at HCA oka ⊢
  generalize clampI ca = kc at HCC okc ⊢
  generalize clampI now = kn at HCN okn ⊢
  obtain ⟨m, hm⟩ : ∃ m, max ka kc = m := ⟨_, rfl⟩
  have okm : 0 ≤ m ∧ m ≤ 2147483647 ∧ ka ≤ m := by omega
  obtain ⟨z, hz⟩ : ∃ z, max m kn = z := ⟨_, rfl⟩
  have okz : 0 ≤ z ∧ z ≤ 2147483647 ∧ m ≤ z := by omega
  rw [hm, hz]
  obtain ⟨y, hy⟩ : ∃ y, max (max 0 (m - d)) (t + m - ka) = y := ⟨_, rfl⟩
  have oky : 0 ≤ y ∧ y ≤ 4294967294 := by omega
  rw [hy]
  have g1 : IntKind.i64.wrap (m - d) = m - d := IntWalk.i64_in _ (by omega)
  have g2 : IntKind.i64.wrap (t + m) = t + m := IntWalk.i64_in _ (by omega)
  have g3 : IntKind.i64.wrap (t + m - ka) = t + m - ka := IntWalk.i64_in _ (by omega)
  have g4 : IntKind.i64.wrap (y + z) = y + z := IntWalk.i64_in _ (by omega)
  have g5 : IntKind.i64.wrap (y + z - m) = y + z - m := IntWalk.i64_in _ (by omega)
  have HY := Lib.hid hy
  subst hvs
  have HBD := Lib.hid (And.intro okd (And.intro okt (And.intro oka (And.intro okm okz))))
  clear hA hB hr hR hk hy okd okt oka okc okn okm okz oky
  go_enter Try.func13, Try.ntmps13
  go_upto_region 1 with fail
  generalize w.heap.size = g at HB ⊢
  generalize w.alloc (.cells R 28) = W at HA HB HRB ⊢
  obtain ⟨e6, e7, e10, e11⟩ := HB.out.cells HR.out
  go_wp2_with fail
  refine (HCA.out _).mono ?_
  rintro e w1 ⟨rfl, rfl⟩
  go_wp2_with fail
  refine (HCC.out _).mono ?_
  rintro e w1 ⟨rfl, rfl⟩
  go_wp2_with fail
  refine (HCN.out _).mono ?_
  rintro e w1 ⟨rfl, rfl⟩
  go_upto_region 4 with fail
  have A5 := (Aft.refl W).drew
  clear e6 e7 e10 e11
  refine wp_region_held_drew (S := fun w' => EB w' g R ∧ RbF w' (.slice aq l.length cq) l) (by kernel_rfl) ⟨HB.out.aft ((Aft.refl W).drew), HRB.out.aft ((Aft.refl W).drew)⟩ (fun hHeld => ?_)
  refine wpAnyH_take (i := 0) (oi := { dst := some 20, op := Go.Op.move (Go.Operand.tmp 6), type := 3, pos := _, after := _, guard := _ }) (v := ?_) rfl (by kernel_rfl) (by kernel_rfl) (by kernel_rfl) (fun _ _ _ h => h) (Or.inl ⟨by rfl, ?_⟩) (by exact hHeld) ?_
  rotate_left
  · intro w hSw; go_simp; try with_reducible rfl
  try simp only [Act.put]
  try simp only [List.setIfInBounds_toArray]
  try simp only [List.set]
  refine wpAnyH_take (i := 1) (oi := { dst := some 21, op := Go.Op.load 28 (Go.Operand.tmp 2), type := 28, pos := _, after := _, guard := _ }) (v := ?_) rfl (by kernel_rfl) (by kernel_rfl) (by kernel_rfl) (fun _ _ _ h => h) (Or.inl ⟨by rfl, ?_⟩) (by exact hHeld) ?_
  rotate_left
  · intro w hSw; refine exec_load _ (.tmp 2) ?_ g ?_ R (hSw.1.load HR.out) <;> rfl
  try simp only [Act.put]
  try simp only [List.setIfInBounds_toArray]
  try simp only [List.set]
  refine wpAnyH_take (i := 4) (oi := { dst := some 24, op := Go.Op.fieldAddr 28 (Go.Operand.tmp 2) 1, type := 0, pos := _, after := _, guard := _ }) (v := ?_) rfl (by kernel_rfl) (by kernel_rfl) (by kernel_rfl) (fun _ _ _ h => h) (Or.inl ⟨by rfl, ?_⟩) (by exact hHeld) ?_
  rotate_left
  · intro w hSw; go_simp; try with_reducible rfl
  try simp only [Act.put]
  try simp only [List.setIfInBounds_toArray]
  try simp only [List.set]
  refine wpAnyH_take (i := 5) (oi := { dst := some 25, op := Go.Op.fieldAddr 26 (Go.Operand.tmp 24) 1, type := 0, pos := _, after := _, guard := _ }) (v := ?_) rfl (by kernel_rfl) (by kernel_rfl) (by kernel_rfl) (fun _ _ _ h => h) (Or.inl ⟨by rfl, ?_⟩) (by exact hHeld) ?_
  rotate_left
  · intro w hSw; go_simp; try with_reducible rfl
  try simp only [Act.put]
  try simp only [List.setIfInBounds_toArray]
  try simp only [List.set]
  refine wpAnyH_take (i := 6) (oi := { dst := some 26, op := Go.Op.load 22 (Go.Operand.tmp 25), type := 22, pos := _, after := _, guard := _ }) (v := ?_) rfl (by kernel_rfl) (by kernel_rfl) (by kernel_rfl) (fun _ _ _ h => h) (Or.inl ⟨by rfl, ?_⟩) (by exact hHeld) ?_
  rotate_left
  · intro w hSw; obtain ⟨e6, e7, e10, e11⟩ := hSw.1.cells HR.out; go_simp; try with_reducible rfl
  try simp only [Act.put]
  try simp only [List.setIfInBounds_toArray]
  try simp only [List.set]
  refine wpAnyH_take (i := 8) (oi := { dst := some 28, op := Go.Op.move (Go.Operand.tmp 6), type := 3, pos := _, after := _, guard := _ }) (v := ?_) rfl (by kernel_rfl) (by kernel_rfl) (by kernel_rfl) (fun _ _ _ h => h) (Or.inl ⟨by rfl, ?_⟩) (by exact hHeld) ?_
  rotate_left
  · intro w hSw; go_simp; try with_reducible rfl
  try simp only [Act.put]
  try simp only [List.setIfInBounds_toArray]
  try simp only [List.set]
  refine wpAnyH_take (i := 10) (oi := { dst := some 30, op := Go.Op.move (Go.Operand.tmp 5), type := 3, pos := _, after := _, guard := _ }) (v := ?_) rfl (by kernel_rfl) (by kernel_rfl) (by kernel_rfl) (fun _ _ _ h => h) (Or.inl ⟨by rfl, ?_⟩) (by exact hHeld) ?_
  rotate_left
  · intro w hSw; go_simp; try with_reducible rfl
  try simp only [Act.put]
  try simp only [List.setIfInBounds_toArray]
  try simp only [List.set]
  refine wpAnyH_ready (rs := [2]) (by kernel_rfl) (by simp) ?_
  refine AllReadyH.cons (o := { dst := some 22, op := Go.Op.call { callee := Go.Callee.value (Go.Operand.func 33), args := #[Go.Operand.tmp 21], argTypes := #[28] }, type := 3, pos := _, after := _, guard := _ }) rfl (fun K hK => ?_) AllReadyH.nil
  go_simp
  go_at_call 33
  refine (HDD.out _ hHeld.2).mono ?_
  rintro e w6 ⟨rfl, a6⟩
  have hS2 := And.intro (hHeld.1.aft a6) (hHeld.2.aft a6)
  have A6 := Aft.trans A5 a6
  clear A5
  have A5 := A6
  clear A6 a6
  clear hHeld
  refine hK.out _ _ hS2 (fun hHeld => ?_)
  clear hK K hS2
  try simp only [Act.put]
  try simp only [List.setIfInBounds_toArray]
  try simp only [List.set]
  refine wpAnyH_take (i := 3) (oi := { dst := some 23, op := Go.Op.binOp Go.BinOp.sub 3 (Go.Operand.tmp 20) (Go.Operand.tmp 22) 3, type := 3, pos := _, after := _, guard := _ }) (v := ?_) rfl (by kernel_rfl) (by kernel_rfl) (by kernel_rfl) (fun _ _ _ h => h) (Or.inl ⟨by rfl, ?_⟩) (by exact hHeld) ?_
  rotate_left
  · intro w hSw; go_simp; try with_reducible rfl
  try simp only [Act.put]
  try simp only [List.setIfInBounds_toArray]
  try simp only [List.set]
  refine wpAnyH_ready (rs := [7]) (by kernel_rfl) (by simp) ?_
  refine AllReadyH.cons (o := { dst := some 27, op := Go.Op.call { callee := Go.Callee.value (Go.Operand.func 34), args := #[Go.Operand.tmp 26], argTypes := #[22] }, type := 3, pos := _, after := _, guard := _ }) rfl (fun K hK => ?_) AllReadyH.nil
  go_simp
  go_at_call 34
  refine (HTL.out _ hHeld.2).mono ?_
  rintro e w6 ⟨rfl, a6⟩
  have hS2 := And.intro (hHeld.1.aft a6) (hHeld.2.aft a6)
  have A6 := Aft.trans A5 a6
  clear A5
  have A5 := A6
  clear A6 a6
  clear hHeld
  refine hK.out _ _ hS2 (fun hHeld => ?_)
  clear hK K hS2
  try simp only [Act.put]
  try simp only [List.setIfInBounds_toArray]
  try simp only [List.set]
  refine wpAnyH_take (i := 9) (oi := { dst := some 29, op := Go.Op.binOp Go.BinOp.add 3 (Go.Operand.tmp 27) (Go.Operand.tmp 28) 3, type := 3, pos := _, after := _, guard := _ }) (v := ?_) rfl (by kernel_rfl) (by kernel_rfl) (by kernel_rfl) (fun _ _ _ h => h) (Or.inl ⟨by rfl, ?_⟩) (by exact hHeld) ?_
  rotate_left
  · intro w hSw; go_simp; try with_reducible rfl
  try simp only [Act.put]
  try simp only [List.setIfInBounds_toArray]
  try simp only [List.set]
  refine wpAnyH_take (i := 11) (oi := { dst := some 31, op := Go.Op.binOp Go.BinOp.sub 3 (Go.Operand.tmp 29) (Go.Operand.tmp 30) 3, type := 3, pos := _, after := _, guard := _ }) (v := ?_) rfl (by kernel_rfl) (by kernel_rfl) (by kernel_rfl) (fun _ _ _ h => h) (Or.inl ⟨by rfl, ?_⟩) (by exact hHeld) ?_
  rotate_left
  · intro w hSw; go_simp; try with_reducible rfl
  try simp only [Act.put]
  try simp only [List.setIfInBounds_toArray]
  try simp only [List.set]
  refine wpAnyH_take (i := 12) (oi := { dst := some 32, op := Go.Op.call { callee := Go.Callee.builtin Go.Builtin.max, args := #[Go.Operand.const (Go.Value.int Go.IntKind.i64 0), Go.Operand.tmp 23, Go.Operand.tmp 31], argTypes := #[3, 3, 3] }, type := 3, pos := _, after := _, guard := _ }) (v := ?_) rfl (by kernel_rfl) (by kernel_rfl) (by kernel_rfl) (fun _ _ _ h => h) (Or.inl ⟨by rfl, ?_⟩) (by exact hHeld) ?_
  rotate_left
  · intro w hSw; go_simp; try with_reducible rfl
  try simp only [Act.put]
  try simp only [List.setIfInBounds_toArray]
  try simp only [List.set]
  refine wpAnyH_take (i := 13) (oi := { dst := some 7, op := Go.Op.assign (Go.Operand.tmp 32), type := 3, pos := _, after := _, guard := _ }) (v := ?_) rfl (by kernel_rfl) (by kernel_rfl) (by kernel_rfl) (fun _ _ _ h => h) (Or.inl ⟨by rfl, ?_⟩) (by exact hHeld) ?_
  rotate_left
  · intro w hSw; go_simp; try with_reducible rfl
  try simp only [Act.put]
  try simp only [List.setIfInBounds_toArray]
  try simp only [List.set]
  refine wpAnyH_done (by kernel_rfl) ?_ _
  have HA5 := Lib.hid (HA.out.trans A5)
  clear hHeld A5 g1 g2 g3 g4 g5
  obtain ⟨⟨b1, b2⟩, ⟨b3, b4⟩, ⟨b5, b6⟩, ⟨b7, b8, b9⟩, b10, b11, b12⟩ := HBD.out
  go_wp2_with fail
  all_goals
    go_ret
    exact ⟨ret_int (by have := HY.out; omega), HA5.out⟩


theorem left_any (R : Array Value) (st : Int) (vs : Value) (ask ca now : Int) (x : Nat) (l : List FieldL) (w : World) (hR : EntR R st vs ask ca) (hr : RbF w vs l) (hk : FOk l) :
    Calls Try.prog 19 #[.agg R, .int .i64 now, .float .f64 x] w fun e w' => e = .returned (.int .i64 (lifeF st l ca x - ageF l ask ca now)) ∧ Aft w w' := by
  have HLF := Lib.hid (fun w h => lifetime_any R st vs ask ca l x w hR h hk)
  have HAG := Lib.hid (fun w h => age_any R st vs ask ca now l w hR h hk)
  have hA : Aft w (w.alloc (.cells R 28)) := (Aft.refl w).alloc _
  have hB : EB (w.alloc (.cells R 28)) w.heap.size R := heap_alloc_new w _
  have HR := Lib.hid hR
  have HRB := Lib.hid (hr.aft hA)
  have HA := Lib.hid hA
  have HB := Lib.hid hB
  obtain ⟨l0, l1⟩ := lifeF_bd st l ca x
  obtain ⟨a0, a1⟩ := ageF_bd l ask ca now
  generalize lifeF st l ca x = L at HLF l0 l1 ⊢
  generalize ageF l ask ca now = G at HAG a0 a1 ⊢
  have gw : IntKind.i64.wrap (L - G) = L - G := IntWalk.i64_in _ (by omega)
  clear hA hB hr hR hk l0 l1 a0 a1
  go_enter Try.func19, Try.ntmps19
  go_upto_region 1 with fail
  generalize w.heap.size = g at HB ⊢
  generalize w.alloc (.cells R 28) = W at HA HB HRB ⊢
  have A5 := (Aft.refl W).drew
  refine wp_region_held_drew (S := fun w' => EB w' g R ∧ RbF w' vs l) (by kernel_rfl) ⟨HB.out.aft ((Aft.refl W).drew), HRB.out.aft ((Aft.refl W).drew)⟩ (fun hHeld => ?_)
  refine wpAnyH_take (i := 0) (oi := { dst := some 7, op := Go.Op.load 28 (Go.Operand.tmp 3), type := 28, pos := _, after := _, guard := _ }) (v := ?_) rfl (by kernel_rfl) (by kernel_rfl) (by kernel_rfl) (fun _ _ _ h => h) (Or.inl ⟨by rfl, ?_⟩) (by exact hHeld) ?_
  rotate_left
  · intro w hSw; refine exec_load _ (.tmp 3) ?_ g ?_ R (hSw.1.load HR.out) <;> rfl
  try simp only [Act.put]
  try simp only [List.setIfInBounds_toArray]
  try simp only [List.set]
  refine wpAnyH_take (i := 1) (oi := { dst := some 8, op := Go.Op.move (Go.Operand.tmp 2), type := 29, pos := _, after := _, guard := _ }) (v := ?_) rfl (by kernel_rfl) (by kernel_rfl) (by kernel_rfl) (fun _ _ _ h => h) (Or.inl ⟨by rfl, ?_⟩) (by exact hHeld) ?_
  rotate_left
  · intro w hSw; go_simp; try with_reducible rfl
  try simp only [Act.put]
  try simp only [List.setIfInBounds_toArray]
  try simp only [List.set]
  refine wpAnyH_take (i := 3) (oi := { dst := some 10, op := Go.Op.load 28 (Go.Operand.tmp 3), type := 28, pos := _, after := _, guard := _ }) (v := ?_) rfl (by kernel_rfl) (by kernel_rfl) (by kernel_rfl) (fun _ _ _ h => h) (Or.inl ⟨by rfl, ?_⟩) (by exact hHeld) ?_
  rotate_left
  · intro w hSw; refine exec_load _ (.tmp 3) ?_ g ?_ R (hSw.1.load HR.out) <;> rfl
  try simp only [Act.put]
  try simp only [List.setIfInBounds_toArray]
  try simp only [List.set]
  refine wpAnyH_take (i := 4) (oi := { dst := some 11, op := Go.Op.move (Go.Operand.tmp 1), type := 3, pos := _, after := _, guard := _ }) (v := ?_) rfl (by kernel_rfl) (by kernel_rfl) (by kernel_rfl) (fun _ _ _ h => h) (Or.inl ⟨by rfl, ?_⟩) (by exact hHeld) ?_
  rotate_left
  · intro w hSw; go_simp; try with_reducible rfl
  try simp only [Act.put]
  try simp only [List.setIfInBounds_toArray]
  try simp only [List.set]
  refine wpAnyH_ready (rs := [2]) (by kernel_rfl) (by simp) ?_
  refine AllReadyH.cons (o := { dst := some 9, op := Go.Op.call { callee := Go.Callee.value (Go.Operand.func 14), args := #[Go.Operand.tmp 7, Go.Operand.tmp 8], argTypes := #[28, 29] }, type := 3, pos := _, after := _, guard := _ }) rfl (fun K hK => ?_) AllReadyH.nil
  go_simp
  go_at_call 14
  refine (HLF.out _ hHeld.2).mono ?_
  rintro e w6 ⟨rfl, a6⟩
  have hS2 := And.intro (hHeld.1.aft a6) (hHeld.2.aft a6)
  have A6 := Aft.trans A5 a6
  clear A5
  have A5 := A6
  clear A6 a6
  clear hHeld
  refine hK.out _ _ hS2 (fun hHeld => ?_)
  clear hK K hS2
  try simp only [Act.put]
  try simp only [List.setIfInBounds_toArray]
  try simp only [List.set]
  refine wpAnyH_ready (rs := [5]) (by kernel_rfl) (by simp) ?_
  refine AllReadyH.cons (o := { dst := some 12, op := Go.Op.call { callee := Go.Callee.value (Go.Operand.func 13), args := #[Go.Operand.tmp 10, Go.Operand.tmp 11], argTypes := #[28, 3] }, type := 3, pos := _, after := _, guard := _ }) rfl (fun K hK => ?_) AllReadyH.nil
  go_simp
  go_at_call 13
  refine (HAG.out _ hHeld.2).mono ?_
  rintro e w6 ⟨rfl, a6⟩
  have hS2 := And.intro (hHeld.1.aft a6) (hHeld.2.aft a6)
  have A6 := Aft.trans A5 a6
  clear A5
  have A5 := A6
  clear A6 a6
  clear hHeld
  refine hK.out _ _ hS2 (fun hHeld => ?_)
  clear hK K hS2
  try simp only [Act.put]
  try simp only [List.setIfInBounds_toArray]
  try simp only [List.set]
  refine wpAnyH_take (i := 6) (oi := { dst := some 13, op := Go.Op.binOp Go.BinOp.sub 3 (Go.Operand.tmp 9) (Go.Operand.tmp 12) 3, type := 3, pos := _, after := _, guard := _ }) (v := ?_) rfl (by kernel_rfl) (by kernel_rfl) (by kernel_rfl) (fun _ _ _ h => h) (Or.inl ⟨by rfl, ?_⟩) (by exact hHeld) ?_
  rotate_left
  · intro w hSw; go_simp; try with_reducible rfl
  try simp only [Act.put]
  try simp only [List.setIfInBounds_toArray]
  try simp only [List.set]
  refine wpAnyH_take (i := 7) (oi := { dst := some 6, op := Go.Op.assign (Go.Operand.tmp 13), type := 3, pos := _, after := _, guard := _ }) (v := ?_) rfl (by kernel_rfl) (by kernel_rfl) (by kernel_rfl) (fun _ _ _ h => h) (Or.inl ⟨by rfl, ?_⟩) (by exact hHeld) ?_
  rotate_left
  · intro w hSw; go_simp; try with_reducible rfl
  try simp only [Act.put]
  try simp only [List.setIfInBounds_toArray]
  try simp only [List.set]
  refine wpAnyH_done (by kernel_rfl) ?_ _
  have HA5 := Lib.hid (HA.out.trans A5)
  clear hHeld A5
  go_wp2_with fail
  go_ret
  exact ⟨rfl, HA5.out⟩

end Go.Proofs.Ytdcdckjdloddiaa
