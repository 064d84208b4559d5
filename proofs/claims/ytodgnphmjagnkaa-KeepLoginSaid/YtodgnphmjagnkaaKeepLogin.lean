/-
  KeepLogin.
-/
import Derived.Test.YtodgnphmjagnkaaKeepSays
import Derived.Test.YtodgnphmjagnkaaCtlMoreP
namespace Go.Proofs.Ytodgnphmjagnkaa
open Go.RowKit
set_option linter.unusedVariables false

def lqA : List FieldL := [((⟨#[97, 117, 116, 104, 111, 114, 105, 122, 97, 116, 105, 111, 110]⟩ : ByteArray).data.toList, (⟨#[120]⟩ : ByteArray).data.toList)]
theorem may_auth (L : List UInt8) (c : Ctl) (hc : ctlF [(nCC, L)] = c) : mayF true 200 lqA [((⟨#[99, 97, 99, 104, 101, 45, 99, 111, 110, 116, 114, 111, 108]⟩ : ByteArray).data.toList, L)] = mayB true 200 ctl0 c false true false true := by
  have e1 : ctlF lqA = ctl0 := by kernel_rfl
  have e2 : hasF lqA nAuth = true := by kernel_rfl
  have e3 : plS 200 = true := by decide
  have e4 := cc_star L
  have e5 := cc_exp L
  show mayF true 200 lqA [(nCC, L)] = _
  unfold mayF
  rw [e1, e2, e3, e4, e5, hc]
theorem l_shared (n : Nat) (hn : n ≤ 2147483647) : ctlF [(nCC, nShared ++ 61 :: decD n)] = { ctl0 with sh := (n : Int) } := by
  rw [cc_ctl]
  unfold ctlF
  rw [pairs_one (okT_tok (n := nShared) (by decide +kernel) (dig_tok n)), show lowerL nShared = nShared by decide +kernel]
  unfold ctlOf
  rw [List.foldl_cons, List.foldl_nil, step_nShared, numF_dec _ n hn]
  rfl
theorem l_proxy (n : Nat) (hn : n ≤ 2147483647) : ctlF [(nCC, nProxy ++ 44 :: 32 :: (nMaxAge ++ 61 :: decD n))] = { ctl0 with mu := true, ma := (n : Int) } := by
  have hp : tokB nProxy = true := by decide +kernel
  have hk : tokB nMaxAge = true := by decide +kernel
  have h0 := okT_tok (n := nMaxAge) hk (dig_tok n)
  have h1 := (ok_bare hp).spl [] (32 :: (nMaxAge ++ 61 :: decD n))
  have h2 : splT [] (32 :: (nMaxAge ++ 61 :: decD n)) = some [nMaxAge ++ 61 :: decD n] := by
    rw [splT_other _ _ _ (by decide) (by decide), List.nil_append, splT_blank _ _ _ (Nat.le_refl _), h0.fin, h0.ok.elem (Or.inl rfl)]
  have e0 : elemL nProxy = [nProxy] := by simpa using (ok_bare hp).elem (cur := []) (Or.inl rfl)
  have f1 : ofF nProxy = some ⟨nProxy, [], false⟩ := by kernel_rfl
  have hpair : pairsF nCC (ccF [nProxy ++ 44 :: 32 :: (nMaxAge ++ 61 :: decD n)]) = [⟨nProxy, [], false⟩, ⟨lowerL nMaxAge, decD n, true⟩] := by
    unfold pairsF
    rw [parts_cc, h1, h2, List.nil_append, e0]
    simp only [Option.map_some, List.singleton_append, List.filterMap_cons, f1, h0.ok.of_, List.filterMap_nil]
  rw [cc_ctl]
  unfold ctlF
  rw [hpair, show lowerL nMaxAge = nMaxAge by decide +kernel]
  unfold ctlOf
  rw [List.foldl_cons, List.foldl_cons, List.foldl_nil, step_nProxy, step_nMaxAge, numF_dec _ n hn]
  rfl
theorem l_pub : ctlF [(nCC, [112, 117, 98, 108, 105, 99])] = { ctl0 with pu := true } := by kernel_rfl
theorem l_must : ctlF [(nCC, [109, 117, 115, 116, 45, 114, 101, 118, 97, 108, 105, 100, 97, 116, 101])] = { ctl0 with mu := true } := by kernel_rfl
theorem l_noc : ctlF [(nCC, [110, 111, 45, 99, 97, 99, 104, 101])] = { ctl0 with nc := true } := by kernel_rfl
theorem l_x : ctlF [(nCC, [120])] = ctl0 := by kernel_rfl

structure KL (gL : Nat) (w : World) : Prop where
  q : C6 w (gL + 1) (.string ⟨#[71, 69, 84]⟩) (.string ⟨#[]⟩) (.string ⟨#[]⟩) (.string ⟨#[]⟩) (.slice (some ⟨gL, 0, none⟩) 1 1) (.int .i64 0)
  r : RbF w (.slice (some ⟨gL, 0, none⟩) 1 1) lqA
theorem KL.aft {gL : Nat} {w w' : World} (h : KL gL w) (ha : Aft w w') : KL gL w' := ⟨h.q.aft ha, h.r.aft ha⟩

set_option maxHeartbeats 8000000 in
set_option maxRecDepth 100000 in
theorem login_any (wh : Int) (b0 : -9223372036854775808 ≤ wh) (b1 : wh ≤ 9223372036854775807) (n : Nat) (hn : n < 65536) (w : World) :
    Calls Try.prog 12 #[.int .i64 wh, .int .u16 (n : Int)] w fun e w' => e = .returned (.bool true) ∧ Aft w w' := by
  have HWI := Lib.hid (within_any wh 0 6 b0 b1 (by decide) (by decide) (by decide))
  have g0 : wrap64 (n : Int) = (n : Int) := IntWalk.wrap64_in _ ⟨by omega, by omega⟩
  have HD := Lib.hid (fun w => digits_18 n (by omega) w)
  have hdl := decD_len 4 n (by omega)
  have m2 := may_auth _ _ (l_shared n (by omega))
  have m3 := may_auth _ _ (show ctlF [(nCC, nMaxAge ++ 61 :: decD n)] = cq n by rw [cc_ctl]; exact q_bare nMaxAge n (by omega) (by decide +kernel) (by decide +kernel))
  have m5 := may_auth _ _ (l_proxy n (by omega))
  have dn : decide (0 ≤ (n : Int)) = true := by simp
  have M2 : Hid (mayF true 200 lqA [((⟨#[99, 97, 99, 104, 101, 45, 99, 111, 110, 116, 114, 111, 108]⟩ : ByteArray).data.toList, nShared ++ 61 :: decD n)] = true) := Lib.hid (by rw [m2]; unfold mayB ctl0; simp only [dn]; rfl)
  have M3 : Hid (mayF true 200 lqA [((⟨#[99, 97, 99, 104, 101, 45, 99, 111, 110, 116, 114, 111, 108]⟩ : ByteArray).data.toList, nMaxAge ++ 61 :: decD n)] = false) := Lib.hid (by rw [m3]; rfl)
  have M5 : Hid (mayF true 200 lqA [((⟨#[99, 97, 99, 104, 101, 45, 99, 111, 110, 116, 114, 111, 108]⟩ : ByteArray).data.toList, nProxy ++ 44 :: 32 :: (nMaxAge ++ 61 :: decD n))] = true) := Lib.hid (by rw [m5]; unfold mayB ctl0; simp only [dn]; rfl)
  obtain ⟨S, hS⟩ : ∃ S : ByteArray, S = ⟨(decD n).toArray⟩ := ⟨_, rfl⟩
  have hSd : S.data.toList = decD n := by rw [hS]
  have hSz : S.size ≤ 5 := by rw [← size_len, hSd]; exact hdl
  rw [← hS] at HD
  rw [← hSd] at M2 M3 M5
  have HSZ := Lib.hid hSz
  have k1 : 9 + S.size ≤ 140737488355328 := by omega
  have k2 : 8 + S.size ≤ 140737488355328 := by omega
  have k3 : 26 + S.size ≤ 140737488355328 := by omega
  clear hdl hSd hS m2 m3 m5 dn b0 b1 hSz hn
  go_enter Try.func12, Try.ntmps12
  go_wp2_with fail
  refine (of18_any _ _ _).mono ?_
  rintro e w1 ⟨rfl, a1⟩
  have hl := rbF_new ⟨#[97, 117, 116, 104, 111, 114, 105, 122, 97, 116, 105, 111, 110]⟩ ⟨#[120]⟩ w1 _ w1.heap.size (Aft.refl _) rfl
  have hlA : Aft w1 (w1.alloc (.cells #[.string ⟨#[97, 117, 116, 104, 111, 114, 105, 122, 97, 116, 105, 111, 110]⟩, .string ⟨#[120]⟩] 32)) := (Aft.refl _).alloc _
  have hs1 : (w1.alloc (.cells #[.string ⟨#[97, 117, 116, 104, 111, 114, 105, 122, 97, 116, 105, 111, 110]⟩, .string ⟨#[120]⟩] 32)).heap.size = w1.heap.size + 1 := World.size_alloc _ _
  have h3 : C6 ((w1.alloc (.cells #[.string ⟨#[97, 117, 116, 104, 111, 114, 105, 122, 97, 116, 105, 111, 110]⟩, .string ⟨#[120]⟩] 32)).alloc (.cells #[.string ⟨#[71, 69, 84]⟩, .string ⟨#[]⟩, .string ⟨#[]⟩, .string ⟨#[]⟩, .slice (some ⟨w1.heap.size, 0, none⟩) 1 1, .int .i64 0] 51)) (w1.heap.size + 1) (.string ⟨#[71, 69, 84]⟩) (.string ⟨#[]⟩) (.string ⟨#[]⟩) (.string ⟨#[]⟩) (.slice (some ⟨w1.heap.size, 0, none⟩) 1 1) (.int .i64 0) := by
    have := heap_alloc_new (w1.alloc (.cells #[.string ⟨#[97, 117, 116, 104, 111, 114, 105, 122, 97, 116, 105, 111, 110]⟩, .string ⟨#[120]⟩] 32)) (.cells #[.string ⟨#[71, 69, 84]⟩, .string ⟨#[]⟩, .string ⟨#[]⟩, .string ⟨#[]⟩, .slice (some ⟨w1.heap.size, 0, none⟩) 1 1, .int .i64 0] 51)
    rw [hs1] at this
    exact this
  have H3 := Lib.hid h3
  have HL := Lib.hid (hl.aft ((Aft.refl _).alloc (.cells #[.string ⟨#[71, 69, 84]⟩, .string ⟨#[]⟩, .string ⟨#[]⟩, .string ⟨#[]⟩, .slice (some ⟨w1.heap.size, 0, none⟩) 1 1, .int .i64 0] 51)))
  have HA := Lib.hid ((a1.trans hlA).alloc (.cells #[.string ⟨#[71, 69, 84]⟩, .string ⟨#[]⟩, .string ⟨#[]⟩, .string ⟨#[]⟩, .slice (some ⟨w1.heap.size, 0, none⟩) 1 1, .int .i64 0] 51))
  clear hl hlA hs1 h3 a1
  go_wp2_with fail
  generalize (w1.alloc (.cells #[.string ⟨#[97, 117, 116, 104, 111, 114, 105, 122, 97, 116, 105, 111, 110]⟩, .string ⟨#[120]⟩] 32)).alloc (.cells #[.string ⟨#[71, 69, 84]⟩, .string ⟨#[]⟩, .string ⟨#[]⟩, .string ⟨#[]⟩, .slice (some ⟨w1.heap.size, 0, none⟩) 1 1, .int .i64 0] 51) = W at H3 HL HA ⊢
  generalize w1.heap.size = gL at H3 HL ⊢
  refine (HWI.out _).mono ?_
  rintro e w2 ⟨k, rfl, k0, k6, rfl⟩
  go_wp2_with fail
  try rw [g0]
  refine (HD.out _).mono ?_
  rintro e w4 ⟨rfl, a4⟩
  have H34 := Lib.hid (H3.out.aft a4)
  have HL4 := Lib.hid (HL.out.aft a4)
  have HA4 := Lib.hid (HA.out.trans a4)
  clear a4 H3 HL HA
  go_upto_region 4 with fail
  go_cut [8] (fun v8 wx => ∃ (Y : ByteArray) (U : World), U = wx ∧ v8 = .string Y ∧ Hid (Y.data.toList.length ≤ 1000 ∧ mayF true 200 lqA [((⟨#[99, 97, 99, 104, 101, 45, 99, 111, 110, 116, 114, 111, 108]⟩ : ByteArray).data.toList, Y.data.toList)] = (decide (k < 3) || (k == 5))) ∧ Hid (Aft w4 wx))
  case first =>
    have hk : k = 0 ∨ k = 1 ∨ k = 2 ∨ k = 3 ∨ k = 4 ∨ k = 5 ∨ k = 6 := by omega
    clear k0 k6
    rcases hk with rfl | rfl | rfl | rfl | rfl | rfl | rfl
    all_goals
      go_wp2_with fail
      go_meet
      refine ⟨_, _, rfl, rfl, Lib.hid ⟨?_, ?_⟩, Lib.hid ((Aft.refl _).alloc _)⟩
    · decide
    · exact (may_auth _ _ l_pub).trans rfl
    · decide
    · exact (may_auth _ _ l_must).trans rfl
    · rw [ByteArray.data_append, Array.toList_append, List.length_append, size_len]; have := HSZ.out; show 9 + S.size ≤ 1000; omega
    · rw [show ((⟨#[115, 45, 109, 97, 120, 97, 103, 101, 61]⟩ : ByteArray) ++ S).data.toList = nShared ++ 61 :: S.data.toList by rw [ByteArray.data_append, Array.toList_append]; simp [nShared]]
      exact M2.out
    · rw [ByteArray.data_append, Array.toList_append, List.length_append, size_len]; have := HSZ.out; show 8 + S.size ≤ 1000; omega
    · rw [show ((⟨#[109, 97, 120, 45, 97, 103, 101, 61]⟩ : ByteArray) ++ S).data.toList = nMaxAge ++ 61 :: S.data.toList by rw [ByteArray.data_append, Array.toList_append]; simp [nMaxAge]]
      exact M3.out
    · decide
    · exact (may_auth _ _ l_noc).trans rfl
    · rw [ByteArray.data_append, Array.toList_append, List.length_append, size_len]; have := HSZ.out; show 26 + S.size ≤ 1000; omega
    · rw [show ((⟨#[112, 114, 111, 120, 121, 45, 114, 101, 118, 97, 108, 105, 100, 97, 116, 101, 44, 32, 109, 97, 120, 45, 97, 103, 101, 61]⟩ : ByteArray) ++ S).data.toList = nProxy ++ 44 :: 32 :: (nMaxAge ++ 61 :: S.data.toList) by rw [ByteArray.data_append, Array.toList_append]; simp [nProxy, nMaxAge]]
      exact M5.out
    · decide
    · exact (may_auth _ _ l_x).trans rfl
  case rest =>
    obtain ⟨Y, U, hU, rfl, HY, HU⟩ := hcut
    subst hU
    have H35 := H34.out.aft HU.out
    have HL5 := HL4.out.aft HU.out
    have HA5 := HA4.out.trans HU.out
    obtain ⟨bb, hbb⟩ : ∃ bb, (decide (k < 3) || (k == 5)) = bb := ⟨_, rfl⟩
    have hY2 := HY.out.2
    rw [hbb] at hY2
    have HY1 := Lib.hid HY.out.1
    have HY2 := Lib.hid hY2
    have HBB := Lib.hid hbb
    clear hY2 hbb HY HU H34 HL4 HA4 M2 M3 M5 HSZ HD HWI k1 k2 k3
    have hH : KL gL U.drew := ⟨H35.aft ((Aft.refl _).drew), HL5.aft ((Aft.refl _).drew)⟩
    have A5 := HA5.drew
    clear H35 HL5 HA5
    go_upto_region 5 with fail
    refine wp_region_held_drew (S := KL gL) (by kernel_rfl) hH (fun hHeld => ?_)
    refine wpAnyH_take (i := 0) (oi := { dst := some 28, op := Go.Op.load 51 (Go.Operand.tmp 5), type := 51, pos := _, after := _, guard := _ }) (v := ?_) rfl (by kernel_rfl) (by kernel_rfl) (by kernel_rfl) (fun _ _ _ h => h) (Or.inl ⟨by rfl, ?_⟩) (by exact hHeld) ?_
    rotate_left
    · intro w hSw; obtain ⟨la0, la1, la2, la3, la4, la5⟩ := C6.cells hSw.q; go_simp; try with_reducible rfl
    try simp only [Act.put]
    try simp only [List.setIfInBounds_toArray]
    try simp only [List.set]
    refine wpAnyH_take (i := 1) (oi := { dst := some 29, op := Go.Op.move (Go.Operand.tmp 8), type := 9, pos := _, after := _, guard := _ }) (v := ?_) rfl (by kernel_rfl) (by kernel_rfl) (by kernel_rfl) (fun _ _ _ h => h) (Or.inl ⟨by rfl, ?_⟩) (by exact hHeld) ?_
    rotate_left
    · intro w hSw; go_simp; try with_reducible rfl
    try simp only [Act.put]
    try simp only [List.setIfInBounds_toArray]
    try simp only [List.set]
    refine wpAnyH_ready (rs := [2]) (by kernel_rfl) (by simp) ?_
    refine AllReadyH.cons (o := { dst := some 30, op := Go.Op.call { callee := Go.Callee.value (Go.Operand.func 27), args := #[Go.Operand.const (Go.Value.string { data := #[99, 97, 99, 104, 101, 45, 99, 111, 110, 116, 114, 111, 108] }), Go.Operand.tmp 29], argTypes := #[9, 9] }, type := 32, pos := _, after := _, guard := _ }) rfl (fun K hK => ?_) AllReadyH.nil
    go_simp
    go_at_call 27
    refine (of18_any _ _ _).mono ?_
    rintro e w6 ⟨rfl, a6⟩
    have hS2 := KL.aft hHeld a6
    have A6 := Aft.trans A5 a6
    clear A5
    have A5 := A6
    clear A6 a6
    clear hHeld
    refine hK.out _ _ hS2 (fun hHeld => ?_)
    clear hK K hS2
    try simp only [Act.put]
    try simp only [List.setIfInBounds_toArray]
    try simp only [List.set]
    refine wpAnyH_ready (rs := [3]) (by kernel_rfl) (by simp) ?_
    refine AllReadyH.cons (o := { dst := some 31, op := Go.Op.buildSlice 28 1 #[(0, Go.Operand.tmp 30)], type := 28, pos := _, after := _, guard := _ }) rfl (fun K hK => ?_) AllReadyH.nil
    go_simp
    have hl : Aft w6 (w6.alloc (.cells #[.string ⟨#[99, 97, 99, 104, 101, 45, 99, 111, 110, 116, 114, 111, 108]⟩, .string Y] 32)) := (Aft.refl _).alloc _
    have hS2 := KL.aft hHeld hl
    have hRb := rbF_new ⟨#[99, 97, 99, 104, 101, 45, 99, 111, 110, 116, 114, 111, 108]⟩ Y w6 _ w6.heap.size (Aft.refl _) rfl
    have A6 := Aft.trans A5 hl
    clear A5
    have A5 := A6
    clear A6 hl
    clear hHeld
    refine hK.out _ _ hS2 (fun hHeld => ?_)
    clear hK K hS2
    try simp only [Act.put]
    try simp only [List.setIfInBounds_toArray]
    try simp only [List.set]
    refine wpAnyH_take (i := 4) (oi := { dst := some 32, op := Go.Op.build 54 #[(0, Go.Operand.const (Go.Value.int Go.IntKind.i64 200)), (1, Go.Operand.tmp 31)], type := 54, pos := _, after := _, guard := _ }) (v := ?_) rfl (by kernel_rfl) (by kernel_rfl) (by kernel_rfl) (fun _ _ _ h => h) (Or.inl ⟨by rfl, ?_⟩) (by exact hHeld) ?_
    rotate_left
    · intro w hSw; go_simp; try with_reducible rfl
    try simp only [Act.put]
    try simp only [List.setIfInBounds_toArray]
    try simp only [List.set]
    refine wpAnyH_ready (rs := [5]) (by kernel_rfl) (by simp) ?_
    refine AllReadyH.cons (o := { dst := some 33, op := Go.Op.call { callee := Go.Callee.value (Go.Operand.func 29), args := #[Go.Operand.tmp 28, Go.Operand.tmp 32], argTypes := #[51, 54] }, type := 4, pos := _, after := _, guard := _ }) rfl (fun K hK => ?_) AllReadyH.nil
    go_simp
    go_at_call 29
    refine (may_st ⟨#[71, 69, 84]⟩ (.slice (some ⟨gL, 0, none⟩) 1 1) _ 200 lqA _ _ hHeld.r hRb (fok_one _ (by decide)) (fok_one _ HY1.out) bb rfl HY2.out).mono ?_
    rintro e w7 ⟨rfl, a6⟩
    have hS2 := KL.aft hHeld a6
    have A6 := Aft.trans A5 a6
    clear A5
    have A5 := A6
    clear A6 a6 hRb
    clear hHeld
    refine hK.out _ _ hS2 (fun hHeld => ?_)
    clear hK K hS2
    try simp only [Act.put]
    try simp only [List.setIfInBounds_toArray]
    try simp only [List.set]
    refine wpAnyH_take (i := 6) (oi := { dst := some 9, op := Go.Op.assign (Go.Operand.tmp 33), type := 4, pos := _, after := _, guard := _ }) (v := ?_) rfl (by kernel_rfl) (by kernel_rfl) (by kernel_rfl) (fun _ _ _ h => h) (Or.inl ⟨by rfl, ?_⟩) (by exact hHeld) ?_
    rotate_left
    · intro w hSw; go_simp; try with_reducible rfl
    try simp only [Act.put]
    try simp only [List.setIfInBounds_toArray]
    try simp only [List.set]
    refine wpAnyH_done (by kernel_rfl) ?_ _
    have HA6 := Lib.hid A5
    clear hHeld hH A5
    have hbb := HBB.out
    clear HBB HY1 HY2
    by_cases c1 : k < 3
    · obtain rfl : bb = true := by rw [← hbb]; simp [c1]
      have d1 : decide (k < 3) = true := decide_eq_true c1
      clear hbb
      go_wp2_with fail
      refine (keepruns_any _).mono ?_
      rintro e w10 ⟨rfl, a10⟩
      go_wp2_with fail
      go_ret
      exact ⟨rfl, HA6.out.trans a10⟩
    · have d1 : decide (k < 3) = false := decide_eq_false c1
      by_cases c2 : k = 5
      · have b2 : (k == 5) = true := by simpa using c2
        obtain rfl : bb = true := by rw [← hbb, b2]; simp
        clear hbb
        go_wp2_with fail
        refine (keepruns_any _).mono ?_
        rintro e w10 ⟨rfl, a10⟩
        go_wp2_with fail
        go_ret
        exact ⟨rfl, HA6.out.trans a10⟩
      · have b2 : (k == 5) = false := by simpa using c2
        obtain rfl : bb = false := by rw [← hbb, b2, d1]; rfl
        clear hbb
        go_wp2_with fail
        refine (keepruns_any _).mono ?_
        rintro e w10 ⟨rfl, a10⟩
        go_wp2_with fail
        go_ret
        exact ⟨rfl, HA6.out.trans a10⟩

theorem walkKeepLogin (a0 : Int) (w0 : (Lit.int .i64 a0).wf = true) (a1 : Int) (w1 : (Lit.int .u16 a1).wf = true) (w : World) :
    Calls Try.prog 12 #[.int .i64 a0, .int .u16 a1] w fun e w' => e = .returned (.bool true) ∧ Aft w w' := by
  have hb := bounds_i64 w0
  have h2 : 0 ≤ a1 ∧ a1 < 65536 := by have := bounds_u16 w1; omega
  obtain ⟨n, rfl⟩ := Int.eq_ofNat_of_zero_le h2.1
  exact login_any a0 hb.1 hb.2 n (by omega) w

end Go.Proofs.Ytodgnphmjagnkaa
