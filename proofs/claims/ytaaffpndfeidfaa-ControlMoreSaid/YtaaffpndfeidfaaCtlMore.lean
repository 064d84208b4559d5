/-
  ControlMore.
-/
import Derived.Test.YtaaffpndfeidfaaLightP
import Derived.Test.YtaaffpndfeidfaaFlP
import Derived.Test.YtaaffpndfeidfaaArgFR
namespace Go.Proofs.Ytaaffpndfeidfaa
open Go.ChangeShapes Go.WideShapes Go.ChangeAt Go.RowKit
set_option linter.unusedVariables false

theorem lst_any (a b : Int) (h : b < 0 ∨ 0 ≤ a ∧ a ≤ b) (w : World) : Calls Try.prog 16 #[.int .i64 a, .int .i64 b] w fun e w' => e = .returned (.bool true) ∧ w = w' := by
  by_cases hb : b < 0
  · clear h
    go_enter Try.func16, Try.ntmps16
    go_wp2_with fail
    go_ret
    exact ⟨rfl, rfl⟩
  · have h1 : 0 ≤ a := by omega
    have h2 : a ≤ b := by omega
    have h3 : a ≥ 0 := h1
    clear h
    go_enter Try.func16, Try.ntmps16
    go_wp2_with fail
    go_ret
    exact ⟨rfl, rfl⟩
theorem cmb_l (a b : Int) (ha : -1 ≤ a) (hb : -1 ≤ b) : (a < 0 ∨ 0 ≤ cmb a b ∧ cmb a b ≤ a) ∧ (b < 0 ∨ 0 ≤ cmb a b ∧ cmb a b ≤ b) ∧ (cmb a b = a ∨ cmb a b = b) := by
  unfold cmb
  split
  · omega
  · split <;> omega
theorem empty_pushM {w2 w4 : World} (g4 : (w2.alloc (.cells #[] 27)).grownBy w4 (Value.slice (some ⟨w2.heap.size, 0, none⟩) 0 0).ownBlock) : Aft w2 w4 :=
  pushF_below ((Below.refl _ _).alloc (Nat.le_refl _) _) (OwnF.empty w2 w2.heap.size (Nat.le_refl _)) g4 (Nat.le_refl _) (le_alloc (Nat.le_refl _) _)

def optV (c b : Bool) (v : Value) : Value := if c = b then v else undef
theorem optV_self (b : Bool) (v : Value) : optV b b v = v := by unfold optV; rw [if_pos rfl]
/-- An operation whose guard hangs on a bool that is not known. -/
theorem wpList_opt {P : Program} {ops : Array Oper} {Q : Exit → Act → World → Prop} {rest : List Oper} {o : Oper} {a : Act} {w : World} (j : Nat) (b : Bool) (hg : o.guard = some (j, b)) (c : Bool) (hy : yielded ops a.tmps j = some c) (v : Value)
    (hrun : c = b → ∀ K : Act → World → Prop, K (a.put o.dst v) w → o.wp P a w K Q) (h : wpList P ops Q rest (a.put o.dst (optV c b v)) w) : wpList P ops Q (o :: rest) a w := by
  refine wpList_step fun K hK => ?_
  have hk := hK _ _ h
  unfold optV at hk
  have hw : Region.wanted o (yielded ops a.tmps) = (c == b) := by simp [Region.wanted, hg, hy]
  rw [hw]
  by_cases hc : c = b
  · rw [if_pos (by simpa using hc)]
    rw [if_pos hc] at hk
    exact hrun hc K hk
  · rw [if_neg (by simpa using hc)]
    rw [if_neg hc] at hk
    exact hk
theorem wpList_or {P : Program} {ops : Array Oper} {Q : Exit → Act → World → Prop} {rest : List Oper} {o : Oper} {a : Act} {w : World} (hw : Region.wanted o (yielded ops a.tmps) = true) (x y : Operand) (ho : o.op = .pick x (.const (.bool true)) y) (c d e : Bool) (hx : a.eval x = .bool c)
    (hy : a.eval y = optV c false (.bool d)) (he : (c || d) = e) (h : wpList P ops Q rest (a.put o.dst (.bool e)) w) : wpList P ops Q (o :: rest) a w := by
  refine wpList_step fun K hK => ?_
  have hk := hK _ _ h
  rw [if_pos hw]
  unfold Oper.wp
  unfold optV at hy
  simp only [execOp, ho, hx, hy]
  subst he
  cases c
  · simpa [go_sem, Act.eval] using hk
  · simpa [go_sem, Act.eval] using hk

set_option maxHeartbeats 40000000 in
set_option maxRecDepth 100000 in
theorem cmore_any (v0 v1 : Value) (l m : List FieldL) (w : World) (h0 : RbF w v0 l) (h1 : RbF w v1 m) (b0 : FieldsLim l) (b1 : FieldsLim m) :
    Calls Try.prog 4 #[v0, v1] w fun e w' => e = .returned (.bool true) ∧ Aft w w' := by
  have HLA := Lib.hid (fun w h => light16_any v0 l w h b0)
  have HLB := Lib.hid (fun w h => light16_any v1 m w h b1)
  have HA := Lib.hid h0
  have HB := Lib.hid h1
  obtain ⟨aq, cq, bbq, oq, rfl, -⟩ := h0.open
  obtain ⟨as_, cs, bbs, os, rfl, -⟩ := h1.open
  clear h0 h1 b0 b1
  by_cases l1 : ¬ sumL l ≤ 2000
  · have e1 : decide (sumL l ≤ 2000) = false := by simpa using l1
    rw [e1] at HLA
    clear l1 e1 HLB
    go_enter Try.func4, Try.ntmps4
    go_wp2_with fail
    refine (HLA.out _ HA.out).mono ?_
    rintro e w1 ⟨rfl, a1⟩
    go_wp2_with fail
    refine (ctlruns_any _).mono ?_
    rintro e w7 ⟨rfl, a7⟩
    go_wp2_with fail
    go_ret
    exact ⟨rfl, a1.trans a7⟩
  have l1 := Decidable.not_not.1 l1
  have e1 : decide (sumL l ≤ 2000) = true := by simpa using l1
  rw [e1] at HLA
  have HL1 := Lib.hid l1
  clear l1 e1
  by_cases l2 : ¬ sumL m ≤ 2000
  · have e1 : decide (sumL m ≤ 2000) = false := by simpa using l2
    rw [e1] at HLB
    clear l2 e1
    go_enter Try.func4, Try.ntmps4
    go_wp2_with fail
    refine (HLA.out _ HA.out).mono ?_
    rintro e w1 ⟨rfl, a1⟩
    have HA1 := Lib.hid a1
    clear a1
    go_wp2_with fail
    refine (HLB.out _ (HB.out.aft HA1.out)).mono ?_
    rintro e w2 ⟨rfl, a2⟩
    go_wp2_with fail
    refine (ctlruns_any _).mono ?_
    rintro e w7 ⟨rfl, a7⟩
    go_wp2_with fail
    go_ret
    exact ⟨rfl, (HA1.out.trans a2).trans a7⟩
  have l2 := Decidable.not_not.1 l2
  have e1 : decide (sumL m ≤ 2000) = true := by simpa using l2
  rw [e1] at HLB
  have HL2 := Lib.hid l2
  clear l2 e1
  obtain ⟨Js, hJs⟩ : ∃ J : ByteArray, Lib.join (valsF nCC l) [44, 32] = J.data.toList := ⟨⟨(Lib.join (valsF nCC l) [44, 32]).toArray⟩, rfl⟩
  obtain ⟨Jq, hJq⟩ : ∃ J : ByteArray, Lib.join (valsF nCC m) [44, 32] = J.data.toList := ⟨⟨(Lib.join (valsF nCC m) [44, 32]).toArray⟩, rfl⟩
  have HRS := Lib.hid (fun w h => rall_j (.slice aq l.length cq) l w h HL1.out Js hJs)
  have HRQ := Lib.hid (fun w h => rall_j (.slice as_ m.length cs) m w h HL2.out Jq hJq)
  obtain ⟨os1, hos⟩ : ∃ o, (splF Js.data.toList).isSome = o := ⟨_, rfl⟩
  obtain ⟨oq1, hoq⟩ : ∃ o, (splF Jq.data.toList).isSome = o := ⟨_, rfl⟩
  have HSS := Lib.hid (fun w => rsplit_b Js w (join_sz HL1.out hJs) _ hos)
  have HSQ := Lib.hid (fun w => rsplit_b Jq w (join_sz HL2.out hJq) _ hoq)
  have HOS : Hid (os1 = true → ∃ P, splF (Lib.join (valsF nCC l) [44, 32]) = some P) := Lib.hid (fun h => by rw [hJs]; rw [h] at hos; exact Option.isSome_iff_exists.1 hos)
  have HOQ : Hid (oq1 = true → ∃ P, splF (Lib.join (valsF nCC m) [44, 32]) = some P) := Lib.hid (fun h => by rw [hJq]; rw [h] at hoq; exact Option.isSome_iff_exists.1 hoq)
  clear hJs hJq hos hoq
  go_enter Try.func4, Try.ntmps4
  go_wp2_with fail
  refine (HLA.out _ HA.out).mono ?_
  rintro e w1 ⟨rfl, a1⟩
  have HA1 := Lib.hid a1
  clear a1
  go_wp2_with fail
  refine (HLB.out _ (HB.out.aft HA1.out)).mono ?_
  rintro e w2 ⟨rfl, a2⟩
  have HA2 := Lib.hid (HA1.out.trans a2)
  clear a2
  go_wp2_with fail
  refine (HRS.out _ (HA.out.aft HA2.out)).mono ?_
  rintro e w3 ⟨j3, rfl, a3⟩
  have HA3 := Lib.hid (HA2.out.trans a3)
  clear a3
  go_wp2_with fail
  refine (HRQ.out _ (HB.out.aft HA3.out)).mono ?_
  rintro e w4 ⟨j4, rfl, a4⟩
  have HA4 := Lib.hid (HA3.out.trans a4)
  clear a4
  go_wp2_with fail
  refine (HSS.out _).mono ?_
  rintro e w5 ⟨v5, rfl, a5⟩
  have HA5 := Lib.hid (HA4.out.trans a5)
  clear a5
  go_wp2_with fail
  refine (HSQ.out _).mono ?_
  rintro e w6 ⟨v6, rfl, a6⟩
  have HA6 := Lib.hid (HA5.out.trans a6)
  clear a6 HLA HLB HRS HRQ HSS HSQ HA1 HA2 HA3 HA4 HA5
  cases os1
  · go_wp2_with fail
    refine (ctlruns_any _).mono ?_
    rintro e w7 ⟨rfl, a7⟩
    go_wp2_with fail
    go_ret
    exact ⟨rfl, HA6.out.trans a7⟩
  cases oq1
  · go_wp2_with fail
    refine (ctlruns_any _).mono ?_
    rintro e w7 ⟨rfl, a7⟩
    go_wp2_with fail
    go_ret
    exact ⟨rfl, HA6.out.trans a7⟩
  obtain ⟨P, hP⟩ := HOS.out rfl
  obtain ⟨Q, hQ⟩ := HOQ.out rfl
  have hz := ctl_app hP hQ
  have okc := ctlF_ok l
  have okd := ctlF_ok m
  have jc := join_app_sz HL1.out HL2.out
  have HOL := Lib.hid (fun v w h => of_ctl v l w h (light_len HL1.out) (join_sz2 HL1.out))
  have HOM := Lib.hid (fun v w h => of_ctl v m w h (light_len HL2.out) (join_sz2 HL2.out))
  have HOZ := Lib.hid (fun v w h => of_ctl v (l ++ m) w h (by rw [List.length_append]; have := light_len HL1.out; have := sumL_len l; have := sumL_len m; have := HL1.out; have := HL2.out; omega) jc)
  rw [hz] at HOZ
  obtain ⟨c, hc⟩ : ∃ c, ctlF l = c := ⟨_, rfl⟩
  obtain ⟨d, hd⟩ : ∃ d, ctlF m = d := ⟨_, rfl⟩
  rw [hc] at HOL HOZ okc
  rw [hd] at HOM HOZ okd
  obtain ⟨q1, q2, q3, q4⟩ := okc
  obtain ⟨r1, r2, r3, r4⟩ := okd
  have ka := cmb_l c.ma d.ma q1.1 r1.1
  have ks := cmb_l c.sh d.sh q2.1 r2.1
  have kt := cmb_l c.st d.st q3.1 r3.1
  have kf := cmb_l c.fr d.fr q4.1 r4.1
  obtain ⟨Rc, hRc⟩ : ∃ R, R = (ctlC c).toArray := ⟨_, rfl⟩
  obtain ⟨Rd, hRd⟩ : ∃ R, R = (ctlC d).toArray := ⟨_, rfl⟩
  obtain ⟨Rz, hRz⟩ : ∃ R, R = (ctlC (ctlJoin c d)).toArray := ⟨_, rfl⟩
  rw [show ctlV c = .agg Rc by rw [hRc]; rfl] at HOL
  rw [show ctlV d = .agg Rd by rw [hRd]; rfl] at HOM
  rw [show ctlV (ctlJoin c d) = .agg Rz by rw [hRz]; rfl] at HOZ
  have HRc := Lib.hid hRc
  have HRd := Lib.hid hRd
  have HRz := Lib.hid hRz
  have zc : (Try.prog.info? 30).map (·.size) = some Rc.size := by rw [hRc]; exact sizeCtl
  have zd : (Try.prog.info? 30).map (·.size) = some Rd.size := by rw [hRd]; exact sizeCtl
  have zz : (Try.prog.info? 30).map (·.size) = some Rz.size := by rw [hRz]; exact sizeCtl
  have oc : Rc.all (·.oneCell') = true := by rw [hRc]; simp [ctlC, Value.oneCell']
  have od : Rd.all (·.oneCell') = true := by rw [hRd]; simp [ctlC, Value.oneCell']
  have oz : Rz.all (·.oneCell') = true := by rw [hRz]; simp [ctlC, Value.oneCell']
  have nc : (ctlC ctlZ).toArray.size = Rc.size := by rw [hRc]; rfl
  have nd : (ctlC ctlZ).toArray.size = Rd.size := by rw [hRd]; rfl
  have nz : (ctlC ctlZ).toArray.size = Rz.size := by rw [hRz]; rfl
  have HZ := Lib.hid (And.intro (And.intro zc (And.intro zd zz)) (And.intro (And.intro oc (And.intro od oz)) (And.intro nc (And.intro nd nz))))
  have HK := Lib.hid (And.intro ka (And.intro ks (And.intro kt kf)))
  have HLL := Lib.hid (show 0 + l.length ≤ 1000000000000 ∧ l.length + m.length ≤ 1000000000000 by have := light_len HL1.out; have := light_len HL2.out; omega)
  clear hP hQ hz hc hd q1 q2 q3 q4 r1 r2 r3 r4 ka ks kt kf hRc hRd hRz zc zd zz oc od oz nc nd nz jc HL1 HL2 HOS HOQ
  go_wp2_with fail
  refine (HOL.out _ _ (HA.out.aft HA6.out)).mono ?_
  rintro e w7 ⟨rfl, a7⟩
  have HA7 := Lib.hid (HA6.out.trans a7)
  clear a7
  go_wp2_with fail
  refine (HOM.out _ _ (HB.out.aft HA7.out)).mono ?_
  rintro e w8 ⟨rfl, a8⟩
  have HA8 := Lib.hid (HA7.out.trans a8)
  clear a8 HA6 HA7
  obtain ⟨t1, t2⟩ := ctl_two w8 ctlZ ctlZ
  have HT1 := Lib.hid t1
  have HT2 := Lib.hid t2
  have HB8 := Lib.hid (Below.alloc (Below.alloc HA8.out HA8.out.size (.cells (ctlC ctlZ).toArray 30)) (le_alloc HA8.out.size _) (.cells (ctlC ctlZ).toArray 30))
  obtain ⟨B8, hB8⟩ : ∃ B8, w8.heap.size = B8 := ⟨_, rfl⟩
  have HWB : Hid (w.heap.size ≤ B8) := Lib.hid (by rw [← hB8]; exact HA8.out.size)
  rw [hB8] at HT1 HT2
  have HBZ : Hid (((w8.alloc (.cells (ctlC ctlZ).toArray 30)).alloc (.cells (ctlC ctlZ).toArray 30)).heap.size = B8 + 1 + 1) := Lib.hid (by rw [World.size_alloc, World.size_alloc, hB8])
  have HH8 := Lib.hid hB8
  clear t1 t2 hB8
  go_upto_region 10 with (first | (rw [HH8.out]; refine wpList_store_rowTo rfl 30 (.tmp 13) (.tmp 54) rfl rfl B8 Rc rfl rfl _ _ HT1.out HZ.out.1.1 HZ.out.2.2.1 HZ.out.2.1.1 ?_; have HT3 : Hid ((((w8.alloc (.cells (ctlC ctlZ).toArray 30)).alloc (.cells (ctlC ctlZ).toArray 30)).setRow B8 Rc).heap[B8 + 1]? = some (.cells (ctlC ctlZ).toArray 30 (0, 0))) := Lib.hid (by rw [setRow_other _ B8 (B8 + 1) _ (by omega)]; exact HT2.out)) | (refine wpList_store_rowTo rfl 30 (.tmp 14) (.tmp 56) rfl rfl (B8 + 1) Rd rfl rfl _ _ HT3.out HZ.out.1.2.1 HZ.out.2.2.2.1 HZ.out.2.1.2.1 ?_))
  have x1 : CB ((((w8.alloc (.cells (ctlC ctlZ).toArray 30)).alloc (.cells (ctlC ctlZ).toArray 30)).setRow B8 Rc).setRow (B8 + 1) Rd) B8 c := by
    unfold CB
    rw [setRow_other _ (B8 + 1) B8 _ (by omega), ← HRc.out]
    exact setRow_heap _ _ _ _ _ _ HT1.out
  have x2 : CB ((((w8.alloc (.cells (ctlC ctlZ).toArray 30)).alloc (.cells (ctlC ctlZ).toArray 30)).setRow B8 Rc).setRow (B8 + 1) Rd) (B8 + 1) d := by
    unfold CB
    rw [← HRd.out]
    exact setRow_heap _ _ _ _ _ _ HT3.out
  have xA : Aft w ((((w8.alloc (.cells (ctlC ctlZ).toArray 30)).alloc (.cells (ctlC ctlZ).toArray 30)).setRow B8 Rc).setRow (B8 + 1) Rd) := below_setRow (below_setRow HB8.out HWB.out _) (by have := HWB.out; omega) _
  obtain ⟨W, hW⟩ : ∃ W, (((w8.alloc (.cells (ctlC ctlZ).toArray 30)).alloc (.cells (ctlC ctlZ).toArray 30)).setRow B8 Rc).setRow (B8 + 1) Rd = W := ⟨_, rfl⟩
  rw [hW] at x1 x2 xA
  rw [show (((w8.alloc (.cells #[.bool false, .bool false, .bool false, .bool false, .bool false, .bool false, .int .i64 0, .int .i64 0, .int .i64 0, .int .i64 0] 30)).alloc (.cells #[.bool false, .bool false, .bool false, .bool false, .bool false, .bool false, .int .i64 0, .int .i64 0, .int .i64 0, .int .i64 0] 30)).setRow B8 Rc).setRow (B8 + 1) Rd = W from hW]
  have HX1 := Lib.hid x1
  have HX2 := Lib.hid x2
  have HXA := Lib.hid xA
  clear x1 x2 xA hW HT1 HT2 HT3 HB8 HBZ HH8 HA8
  have HE := Lib.hid (OwnF.empty W W.heap.size (Nat.le_refl _))
  have HR0 := Lib.hid ((HA.out.aft HXA.out).aft ((Aft.refl W).alloc (.cells #[] 27)))
  have HR1 := Lib.hid (HB.out.aft HXA.out)
  go_wp2_with (first | (at_builtin; refine wpList_pushesF rfl (.tmp 57) (.tmp 58) rfl W.heap.size _ _ [] l rfl HE.out rfl HR0.out HLL.out.1 (le_alloc (Nat.le_refl _) _) ?_; intro v4 w4 o4 g4) | (at_builtin; refine wpList_pushesF rfl (.tmp 59) (.tmp 60) rfl W.heap.size _ _ l m rfl o4 rfl (HR1.out.aft (empty_pushM g4)) HLL.out.2 (empty_pushM g4).size ?_; intro v5 w5 o5 g5))
  have a5 : Aft W w5 := pushF_below (empty_pushM g4) o4 g5 (Nat.le_refl _) (empty_pushM g4).size
  have O5 := Lib.hid o5.rb
  have HX1' := Lib.hid (HX1.out.aft a5)
  have HX2' := Lib.hid (HX2.out.aft a5)
  have HA5 := Lib.hid (HXA.out.trans a5)
  clear a5 o5 o4 g4 g5 HX1 HX2 HXA HE HR0 HR1
  refine (HOZ.out _ _ O5.out).mono ?_
  rintro e w9 ⟨rfl, a9⟩
  have HY1 := Lib.hid (HX1'.out.aft a9)
  have HY2 := Lib.hid (HX2'.out.aft a9)
  have HA9 := Lib.hid (HA5.out.trans a9)
  have HT5 : Hid (CB (w9.alloc (.cells (ctlC ctlZ).toArray 30)) w9.heap.size ctlZ) := Lib.hid (heap_alloc_new w9 _)
  clear a9 HX1' HX2' HA5 O5
  go_upto_region 11 with (refine wpList_store_rowTo rfl 30 (.tmp 15) (.tmp 62) rfl rfl w9.heap.size Rz rfl rfl _ _ HT5.out HZ.out.1.2.2 HZ.out.2.2.2.2 HZ.out.2.1.2.2 ?_)
  have y3 : CB ((w9.alloc (.cells (ctlC ctlZ).toArray 30)).setRow w9.heap.size Rz) w9.heap.size (ctlJoin c d) := by
    unfold CB
    rw [← HRz.out]
    exact setRow_heap _ _ _ _ _ _ HT5.out
  have n1 : w9.heap.size ≠ B8 := by have := HY1.out.lt; omega
  have n2 : w9.heap.size ≠ B8 + 1 := by have := HY2.out.lt; omega
  have y1 : CB ((w9.alloc (.cells (ctlC ctlZ).toArray 30)).setRow w9.heap.size Rz) B8 c := by
    unfold CB
    rw [setRow_other _ w9.heap.size B8 _ (by omega)]
    exact HY1.out.aft ((Aft.refl _).alloc _)
  have y2 : CB ((w9.alloc (.cells (ctlC ctlZ).toArray 30)).setRow w9.heap.size Rz) (B8 + 1) d := by
    unfold CB
    rw [setRow_other _ w9.heap.size (B8 + 1) _ (by omega)]
    exact HY2.out.aft ((Aft.refl _).alloc _)
  have yA : Aft w ((w9.alloc (.cells (ctlC ctlZ).toArray 30)).setRow w9.heap.size Rz) := below_setRow (HA9.out.alloc _) HA9.out.size _
  obtain ⟨W2, hW2⟩ : ∃ W2, (w9.alloc (.cells (ctlC ctlZ).toArray 30)).setRow w9.heap.size Rz = W2 := ⟨_, rfl⟩
  rw [hW2] at y1 y2 y3 yA
  rw [show (w9.alloc (.cells #[.bool false, .bool false, .bool false, .bool false, .bool false, .bool false, .int .i64 0, .int .i64 0, .int .i64 0, .int .i64 0] 30)).setRow w9.heap.size Rz = W2 from hW2]
  clear hW2 n1 n2 HT5 HY1 HY2
  generalize w9.heap.size = B9 at y3 ⊢
  have HYA := Lib.hid yA
  clear yA
  obtain ⟨c0, c1, c2, c3, c4, c5, c6, c7, c8, c9⟩ := c
  obtain ⟨d0, d1, d2, d3, d4, d5, d6, d7, d8, d9⟩ := d
  have HK2 := HK.out
  clear HK HRc HRd HRz HOL HOM HOZ HZ HA HB HLL HA9 HWB
  simp only at HK2
  unfold ctlJoin at y3
  simp only at y3
  obtain ⟨p0, p1, p2, p3, p4, p5, p6, p7, p8, p9⟩ := CB.cells y1
  obtain ⟨q0, q1, q2, q3, q4, q5, q6, q7, q8, q9⟩ := CB.cells y2
  obtain ⟨r0, r1, r2, r3, r4, r5, r6, r7, r8, r9⟩ := CB.cells y3
  clear y1 y2 y3
  obtain ⟨⟨ka, kb, kc⟩, ⟨kd, -, -⟩, ⟨-, ke, -⟩, kf, -, -⟩ := HK2
  have HKA := Lib.hid ka
  have HKB := Lib.hid kb
  have HKC := Lib.hid kc
  have HKD := Lib.hid kd
  have HKE := Lib.hid ke
  have HKF := Lib.hid kf
  clear ka kb kc kd ke kf
  obtain ⟨z6, hz6⟩ : ∃ z, cmb c6 d6 = z := ⟨_, rfl⟩
  obtain ⟨z7, hz7⟩ : ∃ z, cmb c7 d7 = z := ⟨_, rfl⟩
  obtain ⟨z8, hz8⟩ : ∃ z, cmb c8 d8 = z := ⟨_, rfl⟩
  obtain ⟨z9, hz9⟩ : ∃ z, cmb c9 d9 = z := ⟨_, rfl⟩
  rw [hz6] at r6 HKA HKB HKC
  rw [hz7] at r7 HKD
  rw [hz8] at r8 HKE
  rw [hz9] at r9 HKF
  obtain ⟨e0, he0⟩ : ∃ z, (c0 || d0) = z := ⟨_, rfl⟩
  obtain ⟨e1, he1⟩ : ∃ z, (c1 || d1) = z := ⟨_, rfl⟩
  obtain ⟨e2, he2⟩ : ∃ z, (c2 || d2) = z := ⟨_, rfl⟩
  obtain ⟨e3, he3⟩ : ∃ z, (c3 || d3) = z := ⟨_, rfl⟩
  obtain ⟨e4, he4⟩ : ∃ z, (c4 || d4) = z := ⟨_, rfl⟩
  obtain ⟨e5, he5⟩ : ∃ z, (c5 || d5) = z := ⟨_, rfl⟩
  rw [he0] at r0
  rw [he1] at r1
  rw [he2] at r2
  rw [he3] at r3
  rw [he4] at r4
  rw [he5] at r5
  have HE0 := Lib.hid he0
  have HE1 := Lib.hid he1
  have HE2 := Lib.hid he2
  have HE3 := Lib.hid he3
  have HE4 := Lib.hid he4
  have HE5 := Lib.hid he5
  clear hz6 hz7 hz8 hz9 he0 he1 he2 he3 he4 he5
  apply wp_region_lit
  refine wpList_step (fun K hK => ?_)
  rw [if_pos (by rfl)]
  go_simp
  refine hK _ _ ?_
  clear hK K
  try simp only [Act.put]
  try simp only [List.setIfInBounds_toArray]
  try simp only [List.set]
  refine wpList_step (fun K hK => ?_)
  rw [if_pos (by rfl)]
  go_simp
  refine hK _ _ ?_
  clear hK K
  try simp only [Act.put]
  try simp only [List.setIfInBounds_toArray]
  try simp only [List.set]
  refine wpList_step (fun K hK => ?_)
  rw [if_pos (by rfl)]
  go_simp
  refine hK _ _ ?_
  clear hK K
  try simp only [Act.put]
  try simp only [List.setIfInBounds_toArray]
  try simp only [List.set]
  refine wpList_step (fun K hK => ?_)
  rw [if_pos (by rfl)]
  go_simp
  refine hK _ _ ?_
  clear hK K
  try simp only [Act.put]
  try simp only [List.setIfInBounds_toArray]
  try simp only [List.set]
  refine wpList_step (fun K hK => ?_)
  rw [if_pos (by rfl)]
  go_simp
  refine hK _ _ ?_
  clear hK K
  try simp only [Act.put]
  try simp only [List.setIfInBounds_toArray]
  try simp only [List.set]
  refine wpList_opt 4 false rfl c0 rfl (.pointer (some ⟨B8 + 1, 0, none⟩)) (fun hc K hK => ?_) ?_
  · subst hc; (try simp only [optV_self]); go_simp; exact hK
  try simp only [Act.put]
  try simp only [List.setIfInBounds_toArray]
  try simp only [List.set]
  refine wpList_opt 4 false rfl c0 rfl (.bool d0) (fun hc K hK => ?_) ?_
  · subst hc; (try simp only [optV_self]); go_simp; exact hK
  try simp only [Act.put]
  try simp only [List.setIfInBounds_toArray]
  try simp only [List.set]
  refine wpList_or (by rfl) (.tmp 67) (.tmp 69) rfl c0 d0 e0 rfl rfl HE0.out ?_
  try simp only [Act.put]
  try simp only [List.setIfInBounds_toArray]
  try simp only [List.set]
  refine wpList_step (fun K hK => ?_)
  rw [if_pos (by rfl)]
  go_simp
  refine hK _ _ ?_
  clear hK K
  try simp only [Act.put]
  try simp only [List.setIfInBounds_toArray]
  try simp only [List.set]
  refine wpList_step (fun K hK => ?_)
  rw [if_pos (by rfl)]
  go_simp
  refine hK _ _ ?_
  clear hK K
  try simp only [Act.put]
  try simp only [List.setIfInBounds_toArray]
  try simp only [List.set]
  refine wpList_step (fun K hK => ?_)
  rw [if_pos (by rfl)]
  go_simp
  refine hK _ _ ?_
  clear hK K
  try simp only [Act.put]
  try simp only [List.setIfInBounds_toArray]
  try simp only [List.set]
  refine wpList_step (fun K hK => ?_)
  rw [if_pos (by rfl)]
  go_simp
  refine hK _ _ ?_
  clear hK K
  try simp only [Act.put]
  try simp only [List.setIfInBounds_toArray]
  try simp only [List.set]
  refine wpList_step (fun K hK => ?_)
  rw [if_pos (by rfl)]
  go_simp
  refine hK _ _ ?_
  clear hK K
  try simp only [Act.put]
  try simp only [List.setIfInBounds_toArray]
  try simp only [List.set]
  refine wpList_step (fun K hK => ?_)
  rw [if_pos (by rfl)]
  go_simp
  refine hK _ _ ?_
  clear hK K
  try simp only [Act.put]
  try simp only [List.setIfInBounds_toArray]
  try simp only [List.set]
  refine wpList_step (fun K hK => ?_)
  rw [if_pos (by rfl)]
  go_simp
  refine hK _ _ ?_
  clear hK K
  try simp only [Act.put]
  try simp only [List.setIfInBounds_toArray]
  try simp only [List.set]
  refine wpList_opt 14 false rfl c1 rfl (.pointer (some ⟨B8 + 1, 1, none⟩)) (fun hc K hK => ?_) ?_
  · subst hc; (try simp only [optV_self]); go_simp; exact hK
  try simp only [Act.put]
  try simp only [List.setIfInBounds_toArray]
  try simp only [List.set]
  refine wpList_opt 14 false rfl c1 rfl (.bool d1) (fun hc K hK => ?_) ?_
  · subst hc; (try simp only [optV_self]); go_simp; exact hK
  try simp only [Act.put]
  try simp only [List.setIfInBounds_toArray]
  try simp only [List.set]
  refine wpList_or (by rfl) (.tmp 77) (.tmp 79) rfl c1 d1 e1 rfl rfl HE1.out ?_
  try simp only [Act.put]
  try simp only [List.setIfInBounds_toArray]
  try simp only [List.set]
  refine wpList_step (fun K hK => ?_)
  rw [if_pos (by rfl)]
  go_simp
  refine hK _ _ ?_
  clear hK K
  try simp only [Act.put]
  try simp only [List.setIfInBounds_toArray]
  try simp only [List.set]
  refine wpList_step (fun K hK => ?_)
  rw [if_pos (by rfl)]
  go_simp
  refine hK _ _ ?_
  clear hK K
  try simp only [Act.put]
  try simp only [List.setIfInBounds_toArray]
  try simp only [List.set]
  refine wpList_step (fun K hK => ?_)
  rw [if_pos (by rfl)]
  go_simp
  refine hK _ _ ?_
  clear hK K
  try simp only [Act.put]
  try simp only [List.setIfInBounds_toArray]
  try simp only [List.set]
  refine wpList_step (fun K hK => ?_)
  rw [if_pos (by rfl)]
  go_simp
  refine hK _ _ ?_
  clear hK K
  try simp only [Act.put]
  try simp only [List.setIfInBounds_toArray]
  try simp only [List.set]
  refine wpList_step (fun K hK => ?_)
  rw [if_pos (by rfl)]
  go_simp
  refine hK _ _ ?_
  clear hK K
  try simp only [Act.put]
  try simp only [List.setIfInBounds_toArray]
  try simp only [List.set]
  refine wpList_step (fun K hK => ?_)
  rw [if_pos (by rfl)]
  go_simp
  refine hK _ _ ?_
  clear hK K
  try simp only [Act.put]
  try simp only [List.setIfInBounds_toArray]
  try simp only [List.set]
  refine wpList_step (fun K hK => ?_)
  rw [if_pos (by rfl)]
  go_simp
  refine hK _ _ ?_
  clear hK K
  try simp only [Act.put]
  try simp only [List.setIfInBounds_toArray]
  try simp only [List.set]
  refine wpList_step (fun K hK => ?_)
  rw [if_pos (by rfl)]
  go_simp
  refine hK _ _ ?_
  clear hK K
  try simp only [Act.put]
  try simp only [List.setIfInBounds_toArray]
  try simp only [List.set]
  refine wpList_opt 25 false rfl c2 rfl (.pointer (some ⟨B8 + 1, 2, none⟩)) (fun hc K hK => ?_) ?_
  · subst hc; (try simp only [optV_self]); go_simp; exact hK
  try simp only [Act.put]
  try simp only [List.setIfInBounds_toArray]
  try simp only [List.set]
  refine wpList_opt 25 false rfl c2 rfl (.bool d2) (fun hc K hK => ?_) ?_
  · subst hc; (try simp only [optV_self]); go_simp; exact hK
  try simp only [Act.put]
  try simp only [List.setIfInBounds_toArray]
  try simp only [List.set]
  refine wpList_or (by rfl) (.tmp 88) (.tmp 90) rfl c2 d2 e2 rfl rfl HE2.out ?_
  try simp only [Act.put]
  try simp only [List.setIfInBounds_toArray]
  try simp only [List.set]
  refine wpList_step (fun K hK => ?_)
  rw [if_pos (by rfl)]
  go_simp
  refine hK _ _ ?_
  clear hK K
  try simp only [Act.put]
  try simp only [List.setIfInBounds_toArray]
  try simp only [List.set]
  refine wpList_step (fun K hK => ?_)
  rw [if_pos (by rfl)]
  go_simp
  refine hK _ _ ?_
  clear hK K
  try simp only [Act.put]
  try simp only [List.setIfInBounds_toArray]
  try simp only [List.set]
  refine wpList_step (fun K hK => ?_)
  rw [if_pos (by rfl)]
  go_simp
  refine hK _ _ ?_
  clear hK K
  try simp only [Act.put]
  try simp only [List.setIfInBounds_toArray]
  try simp only [List.set]
  refine wpList_step (fun K hK => ?_)
  rw [if_pos (by rfl)]
  go_simp
  refine hK _ _ ?_
  clear hK K
  try simp only [Act.put]
  try simp only [List.setIfInBounds_toArray]
  try simp only [List.set]
  refine wpList_step (fun K hK => ?_)
  rw [if_pos (by rfl)]
  go_simp
  refine hK _ _ ?_
  clear hK K
  try simp only [Act.put]
  try simp only [List.setIfInBounds_toArray]
  try simp only [List.set]
  refine wpList_step (fun K hK => ?_)
  rw [if_pos (by rfl)]
  go_simp
  refine hK _ _ ?_
  clear hK K
  try simp only [Act.put]
  try simp only [List.setIfInBounds_toArray]
  try simp only [List.set]
  refine wpList_step (fun K hK => ?_)
  rw [if_pos (by rfl)]
  go_simp
  refine hK _ _ ?_
  clear hK K
  try simp only [Act.put]
  try simp only [List.setIfInBounds_toArray]
  try simp only [List.set]
  refine wpList_step (fun K hK => ?_)
  rw [if_pos (by rfl)]
  go_simp
  refine hK _ _ ?_
  clear hK K
  try simp only [Act.put]
  try simp only [List.setIfInBounds_toArray]
  try simp only [List.set]
  refine wpList_opt 36 false rfl c3 rfl (.pointer (some ⟨B8 + 1, 3, none⟩)) (fun hc K hK => ?_) ?_
  · subst hc; (try simp only [optV_self]); go_simp; exact hK
  try simp only [Act.put]
  try simp only [List.setIfInBounds_toArray]
  try simp only [List.set]
  refine wpList_opt 36 false rfl c3 rfl (.bool d3) (fun hc K hK => ?_) ?_
  · subst hc; (try simp only [optV_self]); go_simp; exact hK
  try simp only [Act.put]
  try simp only [List.setIfInBounds_toArray]
  try simp only [List.set]
  refine wpList_or (by rfl) (.tmp 99) (.tmp 101) rfl c3 d3 e3 rfl rfl HE3.out ?_
  try simp only [Act.put]
  try simp only [List.setIfInBounds_toArray]
  try simp only [List.set]
  refine wpList_step (fun K hK => ?_)
  rw [if_pos (by rfl)]
  go_simp
  refine hK _ _ ?_
  clear hK K
  try simp only [Act.put]
  try simp only [List.setIfInBounds_toArray]
  try simp only [List.set]
  refine wpList_step (fun K hK => ?_)
  rw [if_pos (by rfl)]
  go_simp
  refine hK _ _ ?_
  clear hK K
  try simp only [Act.put]
  try simp only [List.setIfInBounds_toArray]
  try simp only [List.set]
  refine wpList_step (fun K hK => ?_)
  rw [if_pos (by rfl)]
  go_simp
  refine hK _ _ ?_
  clear hK K
  try simp only [Act.put]
  try simp only [List.setIfInBounds_toArray]
  try simp only [List.set]
  refine wpList_step (fun K hK => ?_)
  rw [if_pos (by rfl)]
  go_simp
  refine hK _ _ ?_
  clear hK K
  try simp only [Act.put]
  try simp only [List.setIfInBounds_toArray]
  try simp only [List.set]
  refine wpList_step (fun K hK => ?_)
  rw [if_pos (by rfl)]
  go_simp
  refine hK _ _ ?_
  clear hK K
  try simp only [Act.put]
  try simp only [List.setIfInBounds_toArray]
  try simp only [List.set]
  refine wpList_step (fun K hK => ?_)
  rw [if_pos (by rfl)]
  go_simp
  refine hK _ _ ?_
  clear hK K
  try simp only [Act.put]
  try simp only [List.setIfInBounds_toArray]
  try simp only [List.set]
  refine wpList_step (fun K hK => ?_)
  rw [if_pos (by rfl)]
  go_simp
  refine hK _ _ ?_
  clear hK K
  try simp only [Act.put]
  try simp only [List.setIfInBounds_toArray]
  try simp only [List.set]
  refine wpList_step (fun K hK => ?_)
  rw [if_pos (by rfl)]
  go_simp
  refine hK _ _ ?_
  clear hK K
  try simp only [Act.put]
  try simp only [List.setIfInBounds_toArray]
  try simp only [List.set]
  refine wpList_opt 47 false rfl c4 rfl (.pointer (some ⟨B8 + 1, 4, none⟩)) (fun hc K hK => ?_) ?_
  · subst hc; (try simp only [optV_self]); go_simp; exact hK
  try simp only [Act.put]
  try simp only [List.setIfInBounds_toArray]
  try simp only [List.set]
  refine wpList_opt 47 false rfl c4 rfl (.bool d4) (fun hc K hK => ?_) ?_
  · subst hc; (try simp only [optV_self]); go_simp; exact hK
  try simp only [Act.put]
  try simp only [List.setIfInBounds_toArray]
  try simp only [List.set]
  refine wpList_or (by rfl) (.tmp 110) (.tmp 112) rfl c4 d4 e4 rfl rfl HE4.out ?_
  try simp only [Act.put]
  try simp only [List.setIfInBounds_toArray]
  try simp only [List.set]
  refine wpList_step (fun K hK => ?_)
  rw [if_pos (by rfl)]
  go_simp
  refine hK _ _ ?_
  clear hK K
  try simp only [Act.put]
  try simp only [List.setIfInBounds_toArray]
  try simp only [List.set]
  refine wpList_step (fun K hK => ?_)
  rw [if_pos (by rfl)]
  go_simp
  refine hK _ _ ?_
  clear hK K
  try simp only [Act.put]
  try simp only [List.setIfInBounds_toArray]
  try simp only [List.set]
  refine wpList_step (fun K hK => ?_)
  rw [if_pos (by rfl)]
  go_simp
  refine hK _ _ ?_
  clear hK K
  try simp only [Act.put]
  try simp only [List.setIfInBounds_toArray]
  try simp only [List.set]
  refine wpList_step (fun K hK => ?_)
  rw [if_pos (by rfl)]
  go_simp
  refine hK _ _ ?_
  clear hK K
  try simp only [Act.put]
  try simp only [List.setIfInBounds_toArray]
  try simp only [List.set]
  refine wpList_step (fun K hK => ?_)
  rw [if_pos (by rfl)]
  go_simp
  refine hK _ _ ?_
  clear hK K
  try simp only [Act.put]
  try simp only [List.setIfInBounds_toArray]
  try simp only [List.set]
  refine wpList_step (fun K hK => ?_)
  rw [if_pos (by rfl)]
  go_simp
  refine hK _ _ ?_
  clear hK K
  try simp only [Act.put]
  try simp only [List.setIfInBounds_toArray]
  try simp only [List.set]
  refine wpList_step (fun K hK => ?_)
  rw [if_pos (by rfl)]
  go_simp
  refine hK _ _ ?_
  clear hK K
  try simp only [Act.put]
  try simp only [List.setIfInBounds_toArray]
  try simp only [List.set]
  refine wpList_step (fun K hK => ?_)
  rw [if_pos (by rfl)]
  go_simp
  refine hK _ _ ?_
  clear hK K
  try simp only [Act.put]
  try simp only [List.setIfInBounds_toArray]
  try simp only [List.set]
  refine wpList_opt 58 false rfl c5 rfl (.pointer (some ⟨B8 + 1, 5, none⟩)) (fun hc K hK => ?_) ?_
  · subst hc; (try simp only [optV_self]); go_simp; exact hK
  try simp only [Act.put]
  try simp only [List.setIfInBounds_toArray]
  try simp only [List.set]
  refine wpList_opt 58 false rfl c5 rfl (.bool d5) (fun hc K hK => ?_) ?_
  · subst hc; (try simp only [optV_self]); go_simp; exact hK
  try simp only [Act.put]
  try simp only [List.setIfInBounds_toArray]
  try simp only [List.set]
  refine wpList_or (by rfl) (.tmp 121) (.tmp 123) rfl c5 d5 e5 rfl rfl HE5.out ?_
  try simp only [Act.put]
  try simp only [List.setIfInBounds_toArray]
  try simp only [List.set]
  refine wpList_step (fun K hK => ?_)
  rw [if_pos (by rfl)]
  go_simp
  refine hK _ _ ?_
  clear hK K
  try simp only [Act.put]
  try simp only [List.setIfInBounds_toArray]
  try simp only [List.set]
  refine wpList_step (fun K hK => ?_)
  rw [if_pos (by rfl)]
  go_simp
  refine hK _ _ ?_
  clear hK K
  try simp only [Act.put]
  try simp only [List.setIfInBounds_toArray]
  try simp only [List.set]
  refine wpList_step (fun K hK => ?_)
  rw [if_pos (by rfl)]
  go_simp
  refine hK _ _ ?_
  clear hK K
  try simp only [Act.put]
  try simp only [List.setIfInBounds_toArray]
  try simp only [List.set]
  have L1 := Lib.hid (fun w => lst_any z6 c6 HKA.out w)
  have L2 := Lib.hid (fun w => lst_any z6 d6 HKB.out w)
  have L3 := Lib.hid (fun w => lst_any z7 c7 HKD.out w)
  have L4 := Lib.hid (fun w => lst_any z8 d8 HKE.out w)
  have L5 := Lib.hid (fun w => lst_any z9 c9 HKF.out w)
  have hfin : (z6 == c6) = true ∨ ((z6 == c6) = false ∧ (z6 == d6) = true) := by
    by_cases h : z6 = c6
    · exact Or.inl (by simpa using h)
    · exact Or.inr ⟨by simpa using h, by simpa using HKC.out.resolve_left h⟩
  clear p0 p1 p2 p3 p4 p5 q0 q1 q2 q3 q4 q5 r0 r1 r2 r3 r4 r5 HE0 HE1 HE2 HE3 HE4 HE5 HKA HKB HKC HKD HKE HKF
  simp only at p6 p7 p8 p9 q6 q7 q8 q9 r6 r7 r8 r9
  rcases hfin with k1 | ⟨k1, k2⟩
  all_goals
    go_wp2_with (first
      | (go_at_call 16; (first | ((with_reducible refine (L1.out _).mono ?_)) | ((with_reducible refine (L2.out _).mono ?_)) | ((with_reducible refine (L3.out _).mono ?_)) | ((with_reducible refine (L4.out _).mono ?_)) | ((with_reducible refine (L5.out _).mono ?_))); rintro e w10 ⟨rfl, rfl⟩))
    refine (ctlruns_any _).mono ?_
    rintro e w12 ⟨rfl, a12⟩
    go_wp2_with fail
    go_ret
    exact ⟨rfl, HYA.out.trans a12⟩

theorem walkControlMore (w : World) (_hsh : w.ShapedOpen Try.prog) {H : Type} {enc : TypeId × Value → H} {base : Nat} {v0 v1 : Value} {d0 d1 : DataW H} {p0 p1 : List MemPlace}
    (hval0 : Value.okWide Try.prog w .any base 22 v0) (k0 : DataW.Trod enc Try.prog w 0 (fun _ => true) true 22 v0 d0 p0)
    (hval1 : Value.okWide Try.prog w .any base 22 v1) (k1 : DataW.Trod enc Try.prog w 0 (fun _ => true) true 22 v1 d1 p1) (hk : (DataW.weightsEach Try.prog [22, 22] [(d0 : DataW H), d1]).all (· ≤ reachBytes) = true) :
    Calls Try.prog 4 #[v0, v1] w fun e w' => e = .returned (.bool true) ∧ Aft w w' := by
  obtain ⟨l, h0, b0⟩ := open_fieldsR hval0 k0 (wt_at hk (j := 0) rfl rfl)
  obtain ⟨m, h1, b1⟩ := open_fieldsR hval1 k1 (wt_at hk (j := 1) rfl rfl)
  exact cmore_any v0 v1 l m w h0 h1 b0 b1

end Go.Proofs.Ytaaffpndfeidfaa
