/-
  The walks of the reference's Number, first and Control.
-/
import Derived.Test.YtdcdckjdloddiaaCtlOf
import Derived.Test.YtdcdckjdloddiaaRPairs
namespace Go.Proofs.Ytdcdckjdloddiaa
open Go.RowKit

set_option maxHeartbeats 1000000 in
theorem rnumber_any (s : ByteArray) (w : World) (hs : s.size ≤ maxLen) :
    Calls Try.prog 46 #[.string s] w fun e w' => e = .returned (.int .i64 (secF s.data.toList)) ∧ w = w' := by
  unfold maxLen at hs
  by_cases he : s.size = 0
  · have hl : s.data.toList = [] := List.eq_nil_of_length_eq_zero (by rw [size_len]; exact he)
    have h0 : (s.toList == []) = true := by rw [Lib.toList_data, hl]; rfl
    have HF : Hid (secF s.data.toList = -1) := Lib.hid (by unfold secF; rw [if_pos hl])
    clear hl he
    go_enter Try.func46, Try.ntmps46
    go_wp2_with fail
    go_ret
    exact ⟨ret_int (by first | (rw [HF.out]; done) | rfl), rfl⟩
  · have hl : s.data.toList ≠ [] := by intro e; have := size_len s; rw [e] at this; simp at this; omega
    have h1 : (s.toList == []) = false := by rw [Lib.toList_data]; simpa using hl
    have HSF : Hid (secF s.data.toList = secGo 0 s.data.toList) := Lib.hid (by unfold secF; rw [if_neg hl])
    clear hl he
    go_enter Try.func46, Try.ntmps46
    go_wp2_with fail
    clear h1
    go_loop [3, 4] (fun vn vk => ∃ (k : Nat) (n : Int), k ≤ s.size ∧ vk = .int .i64 (k : Int) ∧ vn = .int .i64 n ∧ 0 ≤ n ∧ n ≤ 2147483647 ∧ Hid (secGo 0 s.data.toList = secGo n (s.data.toList.drop k))) (fun _ vk => s.size - (intOf vk).toNat)
    case atStart => exact ⟨0, 0, by omega, by go_num, rfl, by omega, by omega, Lib.hid rfl⟩
    case round =>
      obtain ⟨k, n, hk, rfl, rfl, n0, n1, HK⟩ := hrel
      by_cases hlt : k < s.size
      · have hkl : k < s.data.toList.length := by rw [size_len]; exact hlt
        have hd : s.data.toList.drop k = s.data.toList[k] :: s.data.toList.drop (k + 1) := List.drop_eq_getElem_cons hkl
        obtain ⟨c, hc⟩ : ∃ c, s[k]'hlt = c := ⟨_, rfl⟩
        have hc2 : s.data.toList[k] = c := hc
        rw [hc2] at hd
        have h255 : (c.toNat : Int) ≤ 255 := by have := c.toNat_lt; omega
        have h00 : 0 ≤ (c.toNat : Int) := by omega
        have HKK : Hid (secGo 0 s.data.toList = secGo n (c :: s.data.toList.drop (k + 1))) := Lib.hid (by rw [HK.out, hd])
        have HB := Lib.hid (secGo_bad n c (s.data.toList.drop (k + 1)))
        have HG := Lib.hid (secGo_good n c (s.data.toList.drop (k + 1)))
        clear hd hc2 hkl
        obtain ⟨m, hm⟩ : ∃ m : Int, (c.toNat : Int) = m := ⟨_, rfl⟩
        rw [hm] at h255 h00 HB HG
        have hki : (k : Int) < (s.size : Int) := by omega
        by_cases h1 : m < 48
        · go_wp2_with fail
          go_ret
          exact ⟨ret_int (by rw [HSF.out, HKK.out, HB.out (Or.inl h1)]), rfl⟩
        · by_cases h2 : m > 57
          · go_wp2_with fail
            go_ret
            exact ⟨ret_int (by rw [HSF.out, HKK.out, HB.out (Or.inr h2)]), rfl⟩
          · have g1 : IntKind.u8.wrap (m - 48) = m - 48 := IntWalk.u8_in _ (by omega)
            have g2 : IntKind.i64.wrap (n * 10) = n * 10 := IntWalk.i64_in _ (by omega)
            have g3 : IntKind.i64.wrap (m - 48) = m - 48 := IntWalk.i64_in _ (by omega)
            have g4 : IntKind.i64.wrap (n * 10 + (m - 48)) = n * 10 + (m - 48) := IntWalk.i64_in _ (by omega)
            rcases Int.lt_or_le n 2147483647 with hnm | hnm
            · go_wp2_with fail
              go_round
              case rel => exact ⟨k + 1, min (n * 10 + (m - 48)) 2147483647, by omega, by go_num, by first | rfl | (congr 1; omega), by omega, by omega, Lib.hid (by rw [HKK.out, HG.out (by omega) (by omega), show 10 * n + (m - 48) = n * 10 + (m - 48) by omega])⟩
              case measure => simp [intOf]; omega
            · have hn : n = 2147483647 := by omega
              subst hn
              go_wp2_with fail
              go_round
              case rel => exact ⟨k + 1, 2147483647, by omega, by go_num, rfl, by omega, by omega, Lib.hid (by rw [HKK.out, HG.out (by omega) (by omega), show min (10 * 2147483647 + (m - 48)) 2147483647 = 2147483647 by omega])⟩
              case measure => simp [intOf]; omega
      · have hk2 : k = s.size := by omega
        subst hk2
        have hd : s.data.toList.drop s.size = [] := List.drop_of_length_le (by rw [size_len]; omega)
        have HSG : Hid (secGo 0 s.data.toList = n) := Lib.hid (by rw [HK.out, hd]; rfl)
        go_wp2_with fail
        go_ret
        exact ⟨ret_int (by rw [HSF.out, HSG.out]), rfl⟩

theorem rfirst_any (a n : Int) (ha : -1 ≤ a ∧ a ≤ 2147483647) (hn : -1 ≤ n ∧ n ≤ 2147483647) (w : World) :
    Calls Try.prog 50 #[.int .i64 a, .int .i64 n] w fun e w' => e = .returned (.int .i64 (lsF a (max n 0))) ∧ w = w' := by
  obtain ⟨a0, a1⟩ := ha
  obtain ⟨b0, b1⟩ := hn
  by_cases h : a < 0
  · have HF : Hid (lsF a (max n 0) = max n 0) := Lib.hid (by unfold lsF; rw [if_pos h])
    go_enter Try.func50, Try.ntmps50
    go_wp2_with fail
    all_goals
      go_ret
      exact ⟨ret_int (by first | (rw [HF.out]; done) | (rw [HF.out]; omega)), rfl⟩
  · have HF : Hid (lsF a (max n 0) = min a (max n 0)) := Lib.hid (by unfold lsF; rw [if_neg h])
    go_enter Try.func50, Try.ntmps50
    go_wp2_with fail
    all_goals
      go_ret
      exact ⟨ret_int (by first | (rw [HF.out]; done) | (rw [HF.out]; omega)), rfl⟩

set_option maxHeartbeats 20000000 in
set_option maxRecDepth 100000 in
theorem rctl_any (v : Value) (l : List FieldL) (w : World) (hr : RbF w v l) (hlen : l.length ≤ 2000) (hv : ∀ f ∈ l, f.2.length ≤ 2000) :
    Calls Try.prog 24 #[v] w fun e w' => e = .returned (ctlV (ctlF l)) ∧ Aft w w' := by
  have hj : (Lib.join (valsF nCC l) [44, 32]).length ≤ 100000000 := by
    obtain ⟨h1, h2⟩ := vals_len nCC l hv
    have := join_len _ h1
    omega
  have HP := Lib.hid (fun w hr => rpairs_any v l ⟨nCC.toArray⟩ w hr hlen hv)
  have hpl := pairsF_len hj
  have hA0 : Aft w ((w.alloc (.cells (ctlC ctlZ).toArray 48)).alloc (.cells (ctlC ctl0).toArray 48)) := ((Aft.refl w).alloc _).alloc _
  have HR := Lib.hid (hr.aft hA0)
  have HA0 := Lib.hid hA0
  obtain ⟨p0, p1⟩ := ctl_pre w
  have HP0 := Lib.hid p0
  have HP1 := Lib.hid p1
  have HZ0 : Hid (((w.alloc (.cells (ctlC ctlZ).toArray 48)).alloc (.cells (ctlC ctl0).toArray 48)).heap.size = w.heap.size + 2) := Lib.hid (by rw [World.size_alloc, World.size_alloc])
  clear hr hj hv hA0 p0 p1
  obtain ⟨ps, hps⟩ : ∃ ps, pairsF nCC l = ps := ⟨_, rfl⟩
  have HCF : Hid (ctlF l = ctlOf ps) := Lib.hid (by unfold ctlF; rw [hps])
  rw [hps] at hpl
  have HPS : Hid (pairsF (⟨nCC.toArray⟩ : ByteArray).data.toList l = ps) := Lib.hid hps
  have HPL := Lib.hid hpl
  clear hps hpl
  go_enter Try.func24, Try.ntmps24
  go_wp2_with fail
  refine (HP.out _ HR.out).mono ?_
  rintro e w1 ⟨v', rfl, ho, a1⟩
  rw [HPS.out] at ho
  obtain ⟨a, g, K, rfl, m1, m2, q1, r1⟩ := ho.form
  have hB0 := HP0.out.aft a1
  have hB1 := HP1.out.aft a1
  have hAA : Aft w w1 := HA0.out.trans a1
  have hg : ps ≠ [] → w.heap.size + 1 < g ∧ g < w1.heap.size := by
    intro hne
    obtain ⟨rfl, h2⟩ := q1 hne
    have h3 := ho.lt g rfl
    rw [HZ0.out] at h3
    omega
  have hq : ps ≠ [] → a = some ⟨g, 0, none⟩ := fun h => (q1 h).1
  have hpc : PCells w1 g ps := r1
  unfold maxLen at m2
  have HG := Lib.hid hg
  have HQ := Lib.hid hq
  have HPC := Lib.hid hpc
  have HB0 := Lib.hid hB0
  have HB1 := Lib.hid hB1
  have HAA := Lib.hid hAA
  obtain ⟨B0, hb⟩ : ∃ B0, w.heap.size = B0 := ⟨_, rfl⟩
  rw [hb] at HB0 HB1 HG
  have HB := Lib.hid hb
  clear ho q1 r1 hB0 hB1 hAA hg hq hpc a1 HR HP HP0 HP1 HZ0 HA0 HPS
  go_wp2_with fail
  clear hb
  go_loopw [5] (fun vi wr => ∃ (k : Nat) (c : Ctl), k ≤ ps.length ∧ vi = .int .i64 (k : Int) ∧ Hid (ctlOf ps = (ps.drop k).foldl ctlStep c) ∧ Hid c.Ok ∧ Hid (CB wr B0 ctlZ) ∧ Hid (CB wr (B0 + 1) c) ∧ Hid (ps ≠ [] → g < wr.heap.size) ∧ Hid (PCells wr g ps) ∧ Hid (Aft w wr)) (fun vi _ => ps.length - (intOf vi).toNat)
  case atStart => exact ⟨0, ctl0, by omega, by go_num, Lib.hid rfl, Lib.hid ctl0_ok, HB0, HB1, Lib.hid (fun h => (HG.out h).2), HPC, HAA⟩
  case round =>
    obtain ⟨k, c, hk, rfl, HC, HOK, HZ, HCB, HGW, HPW, HAW⟩ := hrel
    by_cases hlt : k < ps.length
    · have hne : ps ≠ [] := by intro e; rw [e] at hlt; simp at hlt
      have hpa := HQ.out hne
      have hx := HPW.out k hlt
      have hd : ctlOf ps = (ps.drop (k + 1)).foldl ctlStep (ctlStep c ps[k]) := by
        rw [HC.out, List.drop_eq_getElem_cons hlt]
        rfl
      have hvl := HPL.out ps[k] (List.getElem_mem hlt)
      have hg1 := (HG.out hne).1
      have HD := Lib.hid hd
      have HOK2 := Lib.hid (ctlStep_ok ps[k] HOK.out)
      generalize ps[k] = p at hx HD hvl HOK2
      obtain ⟨pn, pv, ph⟩ := p
      simp only at hvl
      have hsb := secF_bd pv
      obtain ⟨q, hq⟩ : ∃ q, secF pv = q := ⟨_, rfl⟩
      have hN := fun w => rnumber_any ⟨pv.toArray⟩ w (by show pv.toArray.size ≤ maxLen; unfold maxLen; simp; omega)
      have e1 : (⟨pv.toArray⟩ : ByteArray).data.toList = pv := rfl
      rw [e1, hq] at hN
      rw [hq] at hsb
      have HNU := Lib.hid hN
      have HSB := Lib.hid hsb
      have HQV := Lib.hid hq
      obtain ⟨x0, x1, x2⟩ := hx
      unfold strV at x0 x1
      simp only at x0 x1 x2
      subst hpa
      have hkl : (k : Int) < (ps.length : Int) := by omega
      have HG1 : Hid (B0 + 1 ≠ g ∧ B0 + 1 ≠ B0) := Lib.hid (by omega)
      have HSZ : Hid (w.heap.size ≤ B0 + 1) := Lib.hid (by rw [HB.out]; omega)
      clear hd hvl hne hg1 hN e1 hsb hq
      obtain ⟨z0, z1, z2, z3, z4, z5, z6, z7, z8, z9⟩ := HCB.out.cells
      have hfr := HCB.out.free
      cases ph
      · by_cases hnNoStore : pn = nNoStore
        · subst hnNoStore
          have HS := Lib.hid (step_nNoStore c pv false)
          unfold nNoStore at x0 HD HS HOK2
          go_wp2_with fail
          go_roundw
          case rel => exact ⟨k + 1, { c with ns := true }, by omega, by go_num, Lib.hid (by rw [HD.out, HS.out]), Lib.hid (by have := HOK2.out; rw [HS.out] at this; exact this), Lib.hid (HZ.out.other HG1.out.2 _ _), Lib.hid (HCB.out.put 0 (.bool true) rfl), Lib.hid (fun h => by simp only [World.size_setCell]; exact HGW.out h), Lib.hid (HPW.out.other HG1.out.1 _ _), Lib.hid (bset HAW.out _ _ _ HSZ.out)⟩
          case measure => simp [intOf]; omega
        by_cases hnNoCache : pn = nNoCache
        · subst hnNoCache
          have HS := Lib.hid (step_nNoCache c pv false)
          unfold nNoCache at x0 HD HS HOK2
          go_wp2_with fail
          go_roundw
          case rel => exact ⟨k + 1, { c with nc := true }, by omega, by go_num, Lib.hid (by rw [HD.out, HS.out]), Lib.hid (by have := HOK2.out; rw [HS.out] at this; exact this), Lib.hid (HZ.out.other HG1.out.2 _ _), Lib.hid (HCB.out.put 1 (.bool true) rfl), Lib.hid (fun h => by simp only [World.size_setCell]; exact HGW.out h), Lib.hid (HPW.out.other HG1.out.1 _ _), Lib.hid (bset HAW.out _ _ _ HSZ.out)⟩
          case measure => simp [intOf]; omega
        by_cases hnPrivate : pn = nPrivate
        · subst hnPrivate
          have HS := Lib.hid (step_nPrivate c pv false)
          unfold nPrivate at x0 HD HS HOK2
          go_wp2_with fail
          go_roundw
          case rel => exact ⟨k + 1, { c with pr := true }, by omega, by go_num, Lib.hid (by rw [HD.out, HS.out]), Lib.hid (by have := HOK2.out; rw [HS.out] at this; exact this), Lib.hid (HZ.out.other HG1.out.2 _ _), Lib.hid (HCB.out.put 2 (.bool true) rfl), Lib.hid (fun h => by simp only [World.size_setCell]; exact HGW.out h), Lib.hid (HPW.out.other HG1.out.1 _ _), Lib.hid (bset HAW.out _ _ _ HSZ.out)⟩
          case measure => simp [intOf]; omega
        by_cases hnPublic : pn = nPublic
        · subst hnPublic
          have HS := Lib.hid (step_nPublic c pv false)
          unfold nPublic at x0 HD HS HOK2
          go_wp2_with fail
          go_roundw
          case rel => exact ⟨k + 1, { c with pu := true }, by omega, by go_num, Lib.hid (by rw [HD.out, HS.out]), Lib.hid (by have := HOK2.out; rw [HS.out] at this; exact this), Lib.hid (HZ.out.other HG1.out.2 _ _), Lib.hid (HCB.out.put 3 (.bool true) rfl), Lib.hid (fun h => by simp only [World.size_setCell]; exact HGW.out h), Lib.hid (HPW.out.other HG1.out.1 _ _), Lib.hid (bset HAW.out _ _ _ HSZ.out)⟩
          case measure => simp [intOf]; omega
        by_cases hnOnly : pn = nOnly
        · subst hnOnly
          have HS := Lib.hid (step_nOnly c pv false)
          unfold nOnly at x0 HD HS HOK2
          go_wp2_with fail
          go_roundw
          case rel => exact ⟨k + 1, { c with on := true }, by omega, by go_num, Lib.hid (by rw [HD.out, HS.out]), Lib.hid (by have := HOK2.out; rw [HS.out] at this; exact this), Lib.hid (HZ.out.other HG1.out.2 _ _), Lib.hid (HCB.out.put 5 (.bool true) rfl), Lib.hid (fun h => by simp only [World.size_setCell]; exact HGW.out h), Lib.hid (HPW.out.other HG1.out.1 _ _), Lib.hid (bset HAW.out _ _ _ HSZ.out)⟩
          case measure => simp [intOf]; omega
        by_cases hnMust : pn = nMust
        · subst hnMust
          have HS := Lib.hid (step_nMust c pv false)
          unfold nMust at x0 HD HS HOK2
          go_wp2_with fail
          go_roundw
          case rel => exact ⟨k + 1, { c with mu := true }, by omega, by go_num, Lib.hid (by rw [HD.out, HS.out]), Lib.hid (by have := HOK2.out; rw [HS.out] at this; exact this), Lib.hid (HZ.out.other HG1.out.2 _ _), Lib.hid (HCB.out.put 4 (.bool true) rfl), Lib.hid (fun h => by simp only [World.size_setCell]; exact HGW.out h), Lib.hid (HPW.out.other HG1.out.1 _ _), Lib.hid (bset HAW.out _ _ _ HSZ.out)⟩
          case measure => simp [intOf]; omega
        by_cases hnProxy : pn = nProxy
        · subst hnProxy
          have HS := Lib.hid (step_nProxy c pv false)
          unfold nProxy at x0 HD HS HOK2
          go_wp2_with fail
          go_roundw
          case rel => exact ⟨k + 1, { c with mu := true }, by omega, by go_num, Lib.hid (by rw [HD.out, HS.out]), Lib.hid (by have := HOK2.out; rw [HS.out] at this; exact this), Lib.hid (HZ.out.other HG1.out.2 _ _), Lib.hid (HCB.out.put 4 (.bool true) rfl), Lib.hid (fun h => by simp only [World.size_setCell]; exact HGW.out h), Lib.hid (HPW.out.other HG1.out.1 _ _), Lib.hid (bset HAW.out _ _ _ HSZ.out)⟩
          case measure => simp [intOf]; omega
        by_cases hnMaxAge : pn = nMaxAge
        · subst hnMaxAge
          have HS := Lib.hid (step_nMaxAge c pv false)
          unfold nMaxAge at x0 HD HS HOK2
          have hu : numF ⟨[109, 97, 120, 45, 97, 103, 101], pv, false⟩ 0 = max (-1) 0 := rfl
          rw [hu] at HS
          have HF := Lib.hid (fun w => rfirst_any c.ma (-1) HOK.out.ma (by first | exact HSB.out | omega) w)
          obtain ⟨x, hx⟩ : ∃ x, lsF c.ma (max (-1) 0) = x := ⟨_, rfl⟩
          rw [hx] at HF HS
          clear hu hx
          go_wp2_with fail
          refine (HF.out _).mono ?_
          rintro e w7 ⟨rfl, rfl⟩
          go_wp2_with fail
          go_roundw
          case rel => exact ⟨k + 1, { c with ma := x }, by omega, by go_num, Lib.hid (by rw [HD.out, HS.out]), Lib.hid (by have := HOK2.out; rw [HS.out] at this; exact this), Lib.hid (HZ.out.other HG1.out.2 _ _), Lib.hid (HCB.out.put 6 (.int .i64 x) rfl), Lib.hid (fun h => by simp only [World.size_setCell]; exact HGW.out h), Lib.hid (HPW.out.other HG1.out.1 _ _), Lib.hid (bset HAW.out _ _ _ HSZ.out)⟩
          case measure => simp [intOf]; omega
        by_cases hnShared : pn = nShared
        · subst hnShared
          have HS := Lib.hid (step_nShared c pv false)
          unfold nShared at x0 HD HS HOK2
          have hu : numF ⟨[115, 45, 109, 97, 120, 97, 103, 101], pv, false⟩ 0 = max (-1) 0 := rfl
          rw [hu] at HS
          have HF := Lib.hid (fun w => rfirst_any c.sh (-1) HOK.out.sh (by first | exact HSB.out | omega) w)
          obtain ⟨x, hx⟩ : ∃ x, lsF c.sh (max (-1) 0) = x := ⟨_, rfl⟩
          rw [hx] at HF HS
          clear hu hx
          go_wp2_with fail
          refine (HF.out _).mono ?_
          rintro e w7 ⟨rfl, rfl⟩
          go_wp2_with fail
          go_roundw
          case rel => exact ⟨k + 1, { c with sh := x }, by omega, by go_num, Lib.hid (by rw [HD.out, HS.out]), Lib.hid (by have := HOK2.out; rw [HS.out] at this; exact this), Lib.hid (HZ.out.other HG1.out.2 _ _), Lib.hid (HCB.out.put 7 (.int .i64 x) rfl), Lib.hid (fun h => by simp only [World.size_setCell]; exact HGW.out h), Lib.hid (HPW.out.other HG1.out.1 _ _), Lib.hid (bset HAW.out _ _ _ HSZ.out)⟩
          case measure => simp [intOf]; omega
        by_cases hnFresh : pn = nFresh
        · subst hnFresh
          have HS := Lib.hid (step_nFresh c pv false)
          unfold nFresh at x0 HD HS HOK2
          have hu : numF ⟨[109, 105, 110, 45, 102, 114, 101, 115, 104], pv, false⟩ 0 = max (-1) 0 := rfl
          rw [hu] at HS
          have HF := Lib.hid (fun w => rfirst_any c.fr (-1) HOK.out.fr (by first | exact HSB.out | omega) w)
          obtain ⟨x, hx⟩ : ∃ x, lsF c.fr (max (-1) 0) = x := ⟨_, rfl⟩
          rw [hx] at HF HS
          clear hu hx
          go_wp2_with fail
          refine (HF.out _).mono ?_
          rintro e w7 ⟨rfl, rfl⟩
          go_wp2_with fail
          go_roundw
          case rel => exact ⟨k + 1, { c with fr := x }, by omega, by go_num, Lib.hid (by rw [HD.out, HS.out]), Lib.hid (by have := HOK2.out; rw [HS.out] at this; exact this), Lib.hid (HZ.out.other HG1.out.2 _ _), Lib.hid (HCB.out.put 9 (.int .i64 x) rfl), Lib.hid (fun h => by simp only [World.size_setCell]; exact HGW.out h), Lib.hid (HPW.out.other HG1.out.1 _ _), Lib.hid (bset HAW.out _ _ _ HSZ.out)⟩
          case measure => simp [intOf]; omega
        by_cases hnStale : pn = nStale
        · subst hnStale
          have HS := Lib.hid (step_nStale c pv false)
          unfold nStale at x0 HD HS HOK2
          have hu : numF ⟨[109, 97, 120, 45, 115, 116, 97, 108, 101], pv, false⟩ 2147483647 = max 2147483647 0 := rfl
          rw [hu] at HS
          have HF := Lib.hid (fun w => rfirst_any c.st 2147483647 HOK.out.st (by first | exact HSB.out | omega) w)
          obtain ⟨x, hx⟩ : ∃ x, lsF c.st (max 2147483647 0) = x := ⟨_, rfl⟩
          rw [hx] at HF HS
          clear hu hx
          go_wp2_with fail
          refine (HF.out _).mono ?_
          rintro e w7 ⟨rfl, rfl⟩
          go_wp2_with fail
          go_roundw
          case rel => exact ⟨k + 1, { c with st := x }, by omega, by go_num, Lib.hid (by rw [HD.out, HS.out]), Lib.hid (by have := HOK2.out; rw [HS.out] at this; exact this), Lib.hid (HZ.out.other HG1.out.2 _ _), Lib.hid (HCB.out.put 8 (.int .i64 x) rfl), Lib.hid (fun h => by simp only [World.size_setCell]; exact HGW.out h), Lib.hid (HPW.out.other HG1.out.1 _ _), Lib.hid (bset HAW.out _ _ _ HSZ.out)⟩
          case measure => simp [intOf]; omega
        have HS := Lib.hid (step_no c pn pv false hnNoStore hnNoCache hnPrivate hnPublic hnOnly hnMust hnProxy hnMaxAge hnShared hnFresh hnStale)
        have enNoStore : ((⟨pn.toArray⟩ : ByteArray).toList == nNoStore) = false := by rw [Lib.toList_data]; simpa using hnNoStore
        have enNoCache : ((⟨pn.toArray⟩ : ByteArray).toList == nNoCache) = false := by rw [Lib.toList_data]; simpa using hnNoCache
        have enPrivate : ((⟨pn.toArray⟩ : ByteArray).toList == nPrivate) = false := by rw [Lib.toList_data]; simpa using hnPrivate
        have enPublic : ((⟨pn.toArray⟩ : ByteArray).toList == nPublic) = false := by rw [Lib.toList_data]; simpa using hnPublic
        have enOnly : ((⟨pn.toArray⟩ : ByteArray).toList == nOnly) = false := by rw [Lib.toList_data]; simpa using hnOnly
        have enMust : ((⟨pn.toArray⟩ : ByteArray).toList == nMust) = false := by rw [Lib.toList_data]; simpa using hnMust
        have enProxy : ((⟨pn.toArray⟩ : ByteArray).toList == nProxy) = false := by rw [Lib.toList_data]; simpa using hnProxy
        have enMaxAge : ((⟨pn.toArray⟩ : ByteArray).toList == nMaxAge) = false := by rw [Lib.toList_data]; simpa using hnMaxAge
        have enShared : ((⟨pn.toArray⟩ : ByteArray).toList == nShared) = false := by rw [Lib.toList_data]; simpa using hnShared
        have enFresh : ((⟨pn.toArray⟩ : ByteArray).toList == nFresh) = false := by rw [Lib.toList_data]; simpa using hnFresh
        have enStale : ((⟨pn.toArray⟩ : ByteArray).toList == nStale) = false := by rw [Lib.toList_data]; simpa using hnStale
        unfold nNoStore at enNoStore
        unfold nNoCache at enNoCache
        unfold nPrivate at enPrivate
        unfold nPublic at enPublic
        unfold nOnly at enOnly
        unfold nMust at enMust
        unfold nProxy at enProxy
        unfold nMaxAge at enMaxAge
        unfold nShared at enShared
        unfold nFresh at enFresh
        unfold nStale at enStale
        clear hnNoStore hnNoCache hnPrivate hnPublic hnOnly hnMust hnProxy hnMaxAge hnShared hnFresh hnStale
        have HPX := Lib.hid HPW.out
        generalize (⟨pn.toArray⟩ : ByteArray) = N at x0 enNoStore enNoCache enPrivate enPublic enOnly enMust enProxy enMaxAge enShared enFresh enStale ⊢
        go_wp2_with fail
        go_roundw
        case rel => exact ⟨k + 1, c, by omega, by go_num, Lib.hid (by rw [HD.out, HS.out]), HOK, HZ, HCB, HGW, HPX, HAW⟩
        case measure => simp [intOf]; omega
      · by_cases hnNoStore : pn = nNoStore
        · subst hnNoStore
          have HS := Lib.hid (step_nNoStore c pv true)
          unfold nNoStore at x0 HD HS HOK2
          go_wp2_with fail
          refine (HNU.out _).mono ?_
          rintro e w6 ⟨rfl, rfl⟩
          go_wp2_with fail
          go_roundw
          case rel => exact ⟨k + 1, { c with ns := true }, by omega, by go_num, Lib.hid (by rw [HD.out, HS.out]), Lib.hid (by have := HOK2.out; rw [HS.out] at this; exact this), Lib.hid (HZ.out.other HG1.out.2 _ _), Lib.hid (HCB.out.put 0 (.bool true) rfl), Lib.hid (fun h => by simp only [World.size_setCell]; exact HGW.out h), Lib.hid (HPW.out.other HG1.out.1 _ _), Lib.hid (bset HAW.out _ _ _ HSZ.out)⟩
          case measure => simp [intOf]; omega
        by_cases hnNoCache : pn = nNoCache
        · subst hnNoCache
          have HS := Lib.hid (step_nNoCache c pv true)
          unfold nNoCache at x0 HD HS HOK2
          go_wp2_with fail
          refine (HNU.out _).mono ?_
          rintro e w6 ⟨rfl, rfl⟩
          go_wp2_with fail
          go_roundw
          case rel => exact ⟨k + 1, { c with nc := true }, by omega, by go_num, Lib.hid (by rw [HD.out, HS.out]), Lib.hid (by have := HOK2.out; rw [HS.out] at this; exact this), Lib.hid (HZ.out.other HG1.out.2 _ _), Lib.hid (HCB.out.put 1 (.bool true) rfl), Lib.hid (fun h => by simp only [World.size_setCell]; exact HGW.out h), Lib.hid (HPW.out.other HG1.out.1 _ _), Lib.hid (bset HAW.out _ _ _ HSZ.out)⟩
          case measure => simp [intOf]; omega
        by_cases hnPrivate : pn = nPrivate
        · subst hnPrivate
          have HS := Lib.hid (step_nPrivate c pv true)
          unfold nPrivate at x0 HD HS HOK2
          go_wp2_with fail
          refine (HNU.out _).mono ?_
          rintro e w6 ⟨rfl, rfl⟩
          go_wp2_with fail
          go_roundw
          case rel => exact ⟨k + 1, { c with pr := true }, by omega, by go_num, Lib.hid (by rw [HD.out, HS.out]), Lib.hid (by have := HOK2.out; rw [HS.out] at this; exact this), Lib.hid (HZ.out.other HG1.out.2 _ _), Lib.hid (HCB.out.put 2 (.bool true) rfl), Lib.hid (fun h => by simp only [World.size_setCell]; exact HGW.out h), Lib.hid (HPW.out.other HG1.out.1 _ _), Lib.hid (bset HAW.out _ _ _ HSZ.out)⟩
          case measure => simp [intOf]; omega
        by_cases hnPublic : pn = nPublic
        · subst hnPublic
          have HS := Lib.hid (step_nPublic c pv true)
          unfold nPublic at x0 HD HS HOK2
          go_wp2_with fail
          refine (HNU.out _).mono ?_
          rintro e w6 ⟨rfl, rfl⟩
          go_wp2_with fail
          go_roundw
          case rel => exact ⟨k + 1, { c with pu := true }, by omega, by go_num, Lib.hid (by rw [HD.out, HS.out]), Lib.hid (by have := HOK2.out; rw [HS.out] at this; exact this), Lib.hid (HZ.out.other HG1.out.2 _ _), Lib.hid (HCB.out.put 3 (.bool true) rfl), Lib.hid (fun h => by simp only [World.size_setCell]; exact HGW.out h), Lib.hid (HPW.out.other HG1.out.1 _ _), Lib.hid (bset HAW.out _ _ _ HSZ.out)⟩
          case measure => simp [intOf]; omega
        by_cases hnOnly : pn = nOnly
        · subst hnOnly
          have HS := Lib.hid (step_nOnly c pv true)
          unfold nOnly at x0 HD HS HOK2
          go_wp2_with fail
          refine (HNU.out _).mono ?_
          rintro e w6 ⟨rfl, rfl⟩
          go_wp2_with fail
          go_roundw
          case rel => exact ⟨k + 1, { c with on := true }, by omega, by go_num, Lib.hid (by rw [HD.out, HS.out]), Lib.hid (by have := HOK2.out; rw [HS.out] at this; exact this), Lib.hid (HZ.out.other HG1.out.2 _ _), Lib.hid (HCB.out.put 5 (.bool true) rfl), Lib.hid (fun h => by simp only [World.size_setCell]; exact HGW.out h), Lib.hid (HPW.out.other HG1.out.1 _ _), Lib.hid (bset HAW.out _ _ _ HSZ.out)⟩
          case measure => simp [intOf]; omega
        by_cases hnMust : pn = nMust
        · subst hnMust
          have HS := Lib.hid (step_nMust c pv true)
          unfold nMust at x0 HD HS HOK2
          go_wp2_with fail
          refine (HNU.out _).mono ?_
          rintro e w6 ⟨rfl, rfl⟩
          go_wp2_with fail
          go_roundw
          case rel => exact ⟨k + 1, { c with mu := true }, by omega, by go_num, Lib.hid (by rw [HD.out, HS.out]), Lib.hid (by have := HOK2.out; rw [HS.out] at this; exact this), Lib.hid (HZ.out.other HG1.out.2 _ _), Lib.hid (HCB.out.put 4 (.bool true) rfl), Lib.hid (fun h => by simp only [World.size_setCell]; exact HGW.out h), Lib.hid (HPW.out.other HG1.out.1 _ _), Lib.hid (bset HAW.out _ _ _ HSZ.out)⟩
          case measure => simp [intOf]; omega
        by_cases hnProxy : pn = nProxy
        · subst hnProxy
          have HS := Lib.hid (step_nProxy c pv true)
          unfold nProxy at x0 HD HS HOK2
          go_wp2_with fail
          refine (HNU.out _).mono ?_
          rintro e w6 ⟨rfl, rfl⟩
          go_wp2_with fail
          go_roundw
          case rel => exact ⟨k + 1, { c with mu := true }, by omega, by go_num, Lib.hid (by rw [HD.out, HS.out]), Lib.hid (by have := HOK2.out; rw [HS.out] at this; exact this), Lib.hid (HZ.out.other HG1.out.2 _ _), Lib.hid (HCB.out.put 4 (.bool true) rfl), Lib.hid (fun h => by simp only [World.size_setCell]; exact HGW.out h), Lib.hid (HPW.out.other HG1.out.1 _ _), Lib.hid (bset HAW.out _ _ _ HSZ.out)⟩
          case measure => simp [intOf]; omega
        by_cases hnMaxAge : pn = nMaxAge
        · subst hnMaxAge
          have HS := Lib.hid (step_nMaxAge c pv true)
          unfold nMaxAge at x0 HD HS HOK2
          have hu : numF ⟨[109, 97, 120, 45, 97, 103, 101], pv, true⟩ 0 = max q 0 := by unfold numF; simp only [if_true]; rw [HQV.out]
          rw [hu] at HS
          have HF := Lib.hid (fun w => rfirst_any c.ma q HOK.out.ma (by first | exact HSB.out | omega) w)
          obtain ⟨x, hx⟩ : ∃ x, lsF c.ma (max q 0) = x := ⟨_, rfl⟩
          rw [hx] at HF HS
          clear hu hx
          go_wp2_with fail
          refine (HNU.out _).mono ?_
          rintro e w6 ⟨rfl, rfl⟩
          go_wp2_with fail
          refine (HF.out _).mono ?_
          rintro e w7 ⟨rfl, rfl⟩
          go_wp2_with fail
          go_roundw
          case rel => exact ⟨k + 1, { c with ma := x }, by omega, by go_num, Lib.hid (by rw [HD.out, HS.out]), Lib.hid (by have := HOK2.out; rw [HS.out] at this; exact this), Lib.hid (HZ.out.other HG1.out.2 _ _), Lib.hid (HCB.out.put 6 (.int .i64 x) rfl), Lib.hid (fun h => by simp only [World.size_setCell]; exact HGW.out h), Lib.hid (HPW.out.other HG1.out.1 _ _), Lib.hid (bset HAW.out _ _ _ HSZ.out)⟩
          case measure => simp [intOf]; omega
        by_cases hnShared : pn = nShared
        · subst hnShared
          have HS := Lib.hid (step_nShared c pv true)
          unfold nShared at x0 HD HS HOK2
          have hu : numF ⟨[115, 45, 109, 97, 120, 97, 103, 101], pv, true⟩ 0 = max q 0 := by unfold numF; simp only [if_true]; rw [HQV.out]
          rw [hu] at HS
          have HF := Lib.hid (fun w => rfirst_any c.sh q HOK.out.sh (by first | exact HSB.out | omega) w)
          obtain ⟨x, hx⟩ : ∃ x, lsF c.sh (max q 0) = x := ⟨_, rfl⟩
          rw [hx] at HF HS
          clear hu hx
          go_wp2_with fail
          refine (HNU.out _).mono ?_
          rintro e w6 ⟨rfl, rfl⟩
          go_wp2_with fail
          refine (HF.out _).mono ?_
          rintro e w7 ⟨rfl, rfl⟩
          go_wp2_with fail
          go_roundw
          case rel => exact ⟨k + 1, { c with sh := x }, by omega, by go_num, Lib.hid (by rw [HD.out, HS.out]), Lib.hid (by have := HOK2.out; rw [HS.out] at this; exact this), Lib.hid (HZ.out.other HG1.out.2 _ _), Lib.hid (HCB.out.put 7 (.int .i64 x) rfl), Lib.hid (fun h => by simp only [World.size_setCell]; exact HGW.out h), Lib.hid (HPW.out.other HG1.out.1 _ _), Lib.hid (bset HAW.out _ _ _ HSZ.out)⟩
          case measure => simp [intOf]; omega
        by_cases hnFresh : pn = nFresh
        · subst hnFresh
          have HS := Lib.hid (step_nFresh c pv true)
          unfold nFresh at x0 HD HS HOK2
          have hu : numF ⟨[109, 105, 110, 45, 102, 114, 101, 115, 104], pv, true⟩ 0 = max q 0 := by unfold numF; simp only [if_true]; rw [HQV.out]
          rw [hu] at HS
          have HF := Lib.hid (fun w => rfirst_any c.fr q HOK.out.fr (by first | exact HSB.out | omega) w)
          obtain ⟨x, hx⟩ : ∃ x, lsF c.fr (max q 0) = x := ⟨_, rfl⟩
          rw [hx] at HF HS
          clear hu hx
          go_wp2_with fail
          refine (HNU.out _).mono ?_
          rintro e w6 ⟨rfl, rfl⟩
          go_wp2_with fail
          refine (HF.out _).mono ?_
          rintro e w7 ⟨rfl, rfl⟩
          go_wp2_with fail
          go_roundw
          case rel => exact ⟨k + 1, { c with fr := x }, by omega, by go_num, Lib.hid (by rw [HD.out, HS.out]), Lib.hid (by have := HOK2.out; rw [HS.out] at this; exact this), Lib.hid (HZ.out.other HG1.out.2 _ _), Lib.hid (HCB.out.put 9 (.int .i64 x) rfl), Lib.hid (fun h => by simp only [World.size_setCell]; exact HGW.out h), Lib.hid (HPW.out.other HG1.out.1 _ _), Lib.hid (bset HAW.out _ _ _ HSZ.out)⟩
          case measure => simp [intOf]; omega
        by_cases hnStale : pn = nStale
        · subst hnStale
          have HS := Lib.hid (step_nStale c pv true)
          unfold nStale at x0 HD HS HOK2
          have hu : numF ⟨[109, 97, 120, 45, 115, 116, 97, 108, 101], pv, true⟩ 2147483647 = max q 0 := by unfold numF; simp only [if_true]; rw [HQV.out]
          rw [hu] at HS
          have HF := Lib.hid (fun w => rfirst_any c.st q HOK.out.st (by first | exact HSB.out | omega) w)
          obtain ⟨x, hx⟩ : ∃ x, lsF c.st (max q 0) = x := ⟨_, rfl⟩
          rw [hx] at HF HS
          clear hu hx
          go_wp2_with fail
          refine (HNU.out _).mono ?_
          rintro e w6 ⟨rfl, rfl⟩
          go_wp2_with fail
          refine (HF.out _).mono ?_
          rintro e w7 ⟨rfl, rfl⟩
          go_wp2_with fail
          go_roundw
          case rel => exact ⟨k + 1, { c with st := x }, by omega, by go_num, Lib.hid (by rw [HD.out, HS.out]), Lib.hid (by have := HOK2.out; rw [HS.out] at this; exact this), Lib.hid (HZ.out.other HG1.out.2 _ _), Lib.hid (HCB.out.put 8 (.int .i64 x) rfl), Lib.hid (fun h => by simp only [World.size_setCell]; exact HGW.out h), Lib.hid (HPW.out.other HG1.out.1 _ _), Lib.hid (bset HAW.out _ _ _ HSZ.out)⟩
          case measure => simp [intOf]; omega
        have HS := Lib.hid (step_no c pn pv true hnNoStore hnNoCache hnPrivate hnPublic hnOnly hnMust hnProxy hnMaxAge hnShared hnFresh hnStale)
        have enNoStore : ((⟨pn.toArray⟩ : ByteArray).toList == nNoStore) = false := by rw [Lib.toList_data]; simpa using hnNoStore
        have enNoCache : ((⟨pn.toArray⟩ : ByteArray).toList == nNoCache) = false := by rw [Lib.toList_data]; simpa using hnNoCache
        have enPrivate : ((⟨pn.toArray⟩ : ByteArray).toList == nPrivate) = false := by rw [Lib.toList_data]; simpa using hnPrivate
        have enPublic : ((⟨pn.toArray⟩ : ByteArray).toList == nPublic) = false := by rw [Lib.toList_data]; simpa using hnPublic
        have enOnly : ((⟨pn.toArray⟩ : ByteArray).toList == nOnly) = false := by rw [Lib.toList_data]; simpa using hnOnly
        have enMust : ((⟨pn.toArray⟩ : ByteArray).toList == nMust) = false := by rw [Lib.toList_data]; simpa using hnMust
        have enProxy : ((⟨pn.toArray⟩ : ByteArray).toList == nProxy) = false := by rw [Lib.toList_data]; simpa using hnProxy
        have enMaxAge : ((⟨pn.toArray⟩ : ByteArray).toList == nMaxAge) = false := by rw [Lib.toList_data]; simpa using hnMaxAge
        have enShared : ((⟨pn.toArray⟩ : ByteArray).toList == nShared) = false := by rw [Lib.toList_data]; simpa using hnShared
        have enFresh : ((⟨pn.toArray⟩ : ByteArray).toList == nFresh) = false := by rw [Lib.toList_data]; simpa using hnFresh
        have enStale : ((⟨pn.toArray⟩ : ByteArray).toList == nStale) = false := by rw [Lib.toList_data]; simpa using hnStale
        unfold nNoStore at enNoStore
        unfold nNoCache at enNoCache
        unfold nPrivate at enPrivate
        unfold nPublic at enPublic
        unfold nOnly at enOnly
        unfold nMust at enMust
        unfold nProxy at enProxy
        unfold nMaxAge at enMaxAge
        unfold nShared at enShared
        unfold nFresh at enFresh
        unfold nStale at enStale
        clear hnNoStore hnNoCache hnPrivate hnPublic hnOnly hnMust hnProxy hnMaxAge hnShared hnFresh hnStale
        have HPX := Lib.hid HPW.out
        generalize (⟨pn.toArray⟩ : ByteArray) = N at x0 enNoStore enNoCache enPrivate enPublic enOnly enMust enProxy enMaxAge enShared enFresh enStale ⊢
        go_wp2_with fail
        refine (HNU.out _).mono ?_
        rintro e w6 ⟨rfl, rfl⟩
        go_wp2_with fail
        go_roundw
        case rel => exact ⟨k + 1, c, by omega, by go_num, Lib.hid (by rw [HD.out, HS.out]), HOK, HZ, HCB, HGW, HPX, HAW⟩
        case measure => simp [intOf]; omega
    · have hk2 : k = ps.length := by omega
      subst hk2
      have HC2 : Hid (ctlF l = c) := Lib.hid (by rw [HCF.out, HC.out, List.drop_of_length_le (Nat.le_refl _)]; rfl)
      obtain ⟨R, hRR⟩ : ∃ R, R = (ctlC c).toArray := ⟨_, rfl⟩
      have hA : wr.heap[B0 + 1]? = some (.cells R 48 (0, 0)) := by rw [hRR]; exact HCB.out
      have hsz : (Try.prog.info? 48).map (·.size) = some R.size := by rw [sizeCtl, hRR]; rfl
      have hone : R.all (·.oneCell') = true := by rw [hRR]; simp [ctlC, Value.oneCell']
      have hold : (ctlC ctlZ).toArray.size = R.size := by rw [hRR]; rfl
      have HRR := Lib.hid hRR
      have HZR : Hid (wr.heap[B0]? = some (.cells (ctlC ctlZ).toArray 48 (0, 0))) := Lib.hid HZ.out
      clear hRR
      go_wp2_with (first | (refine wpList_load_row rfl 48 (.tmp 3) rfl (B0 + 1) rfl _ R (0, 0) _ hA Try.underlying48 rfl hsz ?_) | (refine wpList_store_rowTo rfl 48 (.tmp 2) (.tmp 87) rfl rfl B0 R rfl rfl _ _ HZR.out hsz hold hone ?_))
      have hset : (wr.setRow B0 R).heap[B0]? = some (.cells R 48 (0, 0)) := setRow_heap wr B0 (ctlC ctlZ).toArray R 48 (0, 0) HZR.out
      refine bodyPost_ret (results_cell_row rfl _ _ B0 48 R (0, 0) _ rfl hset Try.underlying48 rfl hsz) rfl ?_
      refine ⟨?_, below_setRow HAW.out (by rw [HB.out]; omega) R⟩
      rw [HC2.out, HRR.out]
      rfl

end Go.Proofs.Ytdcdckjdloddiaa
