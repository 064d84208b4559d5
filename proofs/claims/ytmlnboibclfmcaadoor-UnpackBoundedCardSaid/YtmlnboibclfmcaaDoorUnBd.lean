/-
  UnpackBounded: the walk of the law.
-/
import Derived.Test.YtmlnboibclfmcaaDoorUnBdP
import Derived.Test.YtmlnboibclfmcaaDoorHuffWBack
import Derived.Test.YtmlnboibclfmcaaDoorWithin
import Derived.BigQuiet
namespace Go.Proofs.YtmlnboibclfmcaaDoor
open Go.ChangeShapes Go.WideShapes Go.ChangeAt Go.RowKit
set_option linter.unusedVariables false

theorem rb_cut400 {w w00 : World} {u : Value} {l : List UInt8} (h : Rb w u l) : ∃ (a : Option Addr) (cap : Nat), u = .slice a l.length cap ∧ l.length ≤ cap ∧ cap ≤ maxLen ∧ (400 < l.length → ∃ b off, a = some ⟨b, off, none⟩) := by
  rcases h with ⟨⟨a0, rfl⟩, rfl⟩ | ⟨b, off, cap, rfl, h1, h2, h3, h4⟩
  · exact ⟨a0, 0, rfl, Nat.zero_le _, Nat.zero_le _, fun h => by simp at h⟩
  · exact ⟨_, cap, rfl, h1, h2, fun _ => ⟨b, off, rfl⟩⟩
theorem sumR_step (R : List RowL) (j : Nat) (h : j < R.length) : sumR (R.take (j + 1)) = sumR (R.take j) + (R[j].f.1.length + R[j].f.2.length + 32) := by
  rw [List.take_succ_eq_append_getElem h, sumR_append]
  simp [sumR]

set_option linter.unusedSimpArgs false in
set_option maxHeartbeats 32000000 in
set_option maxRecDepth 100000 in
theorem unpackbounded_any (v : Value) (top list : Int) (b0 : -9223372036854775808 ≤ top) (b1 : top ≤ 9223372036854775807) (d0 : -9223372036854775808 ≤ list) (d1 : list ≤ 9223372036854775807) (L : List (List UInt8)) (w : World) (hm : MaxOk w) (hr : RbBB w v L) :
    Calls Tryd.prog 15 #[.int .i64 top, .int .i64 list, v] w fun e w' => e = .returned (.bool true) ∧ Aft w w' := by
  have HMA := Lib.hid (fun w' (a : Aft w w') => hm.aft a)
  have HWM := Lib.hid (within_any top 0 65536 b0 b1 (by decide) (by decide) (by decide) w)
  have HWN := Lib.hid (within_any list 0 5000 d0 d1 (by decide) (by decide) (by decide) w)
  obtain ⟨va, vc, vb, voff, rfl, hvc, hvm, hcell⟩ := hr.open
  unfold maxLen at hvm
  have HCELL := Lib.hid hcell
  clear hr hm b0 b1 d0 d1 hcell
  go_enter Tryd.func15, Tryd.ntmps15
  go_wp2_with fail
  refine HWM.out.mono ?_
  rintro e w0 ⟨m, rfl, m0, m1, rfl⟩
  have HM := Lib.hid (And.intro m0 m1)
  clear m0 m1 HWM
  go_wp2_with fail
  refine HWN.out.mono ?_
  rintro e w0 ⟨n, rfl, n0, n1, rfl⟩
  have HNN := Lib.hid (And.intro n0 n1)
  have HNEW := Lib.hid (unew_yes m n HM.out.1 HM.out.2 n0 (by omega) w (HMA.out w (Aft.refl w)))
  clear n0 n1 HWN
  go_wp2_with fail
  refine HNEW.out.mono ?_
  rintro e w1 ⟨gu, g, vk, rfl, hu1, a1⟩
  have HU1 := Lib.hid hu1
  have HA1 := Lib.hid a1
  clear hu1 a1 HNEW
  go_wp2_with fail
  go_loopw [11, 12] (fun vbad vi wr => ∃ (k : Nat) (bad : Bool) (T : List FieldL) (M : Int) (vo : Value), k ≤ L.length ∧ k ≤ 12 ∧ vi = .int .i64 (k : Int) ∧ vbad = .bool bad ∧ Hid (Un wr w.heap.size gu g vo vk T M m n bad) ∧ Hid ((sumF T : Int) ≤ M ∧ 0 ≤ M ∧ M ≤ m) ∧ Hid (Aft w wr)) (fun _ vi _ => L.length - (intOf vi).toNat)
  case atStart => exact ⟨0, false, [], m, _, by omega, by omega, by go_num, rfl, HU1, Lib.hid ⟨by have := HM.out.1; simpa [sumF] using this, HM.out.1, Int.le_refl _⟩, HA1⟩
  case round =>
    clear HU1 HA1
    obtain ⟨k, bad, T, M, vo, hk, hk12, rfl, rfl, HU, HT, HA⟩ := hrel
    by_cases hlt : k < L.length
    · have i1 : (k : Int) < (L.length : Int) := by omega
      by_cases hlt12 : k < 12
      · have i2 : (k : Int) < 12 := by omega
        obtain ⟨hva, hvb, u, hu, hrb⟩ := HCELL.out k hlt
        subst hva
        have c0 : wr.cell? ⟨vb, voff + k, none⟩ = some u := (Below.cell HA.out.to (p := ⟨vb, voff + k, none⟩) hvb).trans hu
        generalize hLk : L[k] = lb at hrb
        obtain ⟨ba, bc, rfl, hc1, hc2, hsome⟩ := rb_cut400 (w00 := w) hrb
        unfold maxLen at hc2
        have HRB := Lib.hid hrb
        have HLT := Lib.hid hlt
        clear hLk hu hvb hrb hlt hk
        by_cases h400 : lb.length > 400
        · have j1 : (lb.length : Int) > 400 := by omega
          obtain ⟨bb, bo, rfl⟩ := hsome h400
          have j2 : (400 : Int) ≤ (bc : Int) := by omega
          have HRC := Lib.hid (fun wx (a : Aft w wx) => (HRB.out.aft a).cut (k := 400) (by omega))
          have HBLK := Lib.hid (ublock_law (n := 400) HA.out (Nat.le_refl _) HU.out HRC.out (by rw [List.length_take]; omega) (by decide) HT.out.1 HT.out.2.1 HT.out.2.2 HM.out.2 HNN.out.1 (by have := HNN.out.2; omega))
          clear HRC HRB HU HT
          go_wp2_with fail
          refine HBLK.out.mono ?_
          rintro e w2 ⟨a2, ra, rk, E, R, T2, M2, vo2, rfl, hu2, ht1, ht2, ht3, hrb2, hsum, hhow, hbe, hre⟩
          have HA2 := Lib.hid a2
          have HU2 := Lib.hid hu2
          have HT2 := Lib.hid (And.intro ht1 (And.intro ht2 ht3))
          have HR2 := Lib.hid hrb2
          have HSUM := Lib.hid hsum
          have HHOW := Lib.hid hhow
          have HBE := Lib.hid hbe
          have HRE := Lib.hid hre
          clear a2 hu2 ht1 ht2 ht3 hrb2 hsum hhow hbe hre HBLK HA c0
          go_wp2_with fail
          refine (utable_any HU2.out).mono ?_
          rintro e w3 ⟨rfl, a3⟩
          have HA3 := Lib.hid (HA2.out.trans a3)
          have HU3 := Lib.hid (HU2.out.aft a3)
          obtain ⟨pa, pc, pb, poff, hpv, -, hpm, hcell3⟩ := (HR2.out.aft a3).open
          unfold maxLen at hpm
          injection hpv with hpa _ hpc
          subst hpa hpc
          have HC3 := Lib.hid hcell3
          have hRl : R.length ≤ 1000 := by have h1 := sumR_len R; have h2 := HSUM.out; have h3 := HNN.out.2; omega
          clear a3 HA2 HU2 HR2 hcell3
          go_wp2_with fail
          go_loopw [19, 20] (fun vs vj wy => ∃ j : Nat, j ≤ R.length ∧ vj = .int .i64 (j : Int) ∧ vs = .int .i64 (sumR (R.take j) : Int) ∧ Hid (Aft w3 wy)) (fun _ vj _ => R.length - (intOf vj).toNat)
          case atStart => exact ⟨0, by omega, by go_num, rfl, Lib.hid (Aft.refl _)⟩
          case round =>
            obtain ⟨j, hj, rfl, rfl, HX⟩ := hrel
            by_cases hin : j < R.length
            · obtain ⟨rfl, hpb, y0, y1, y2⟩ := HC3.out j hin
              have hss := sumR_step R j hin
              have hst := sumR_take R (j + 1)
              have hhw := HHOW.out _ (List.getElem_mem hin)
              rw [← Below.cell HX.out.to (p := ⟨pb, poff + j * 3, none⟩) hpb] at y0
              rw [← Below.cell HX.out.to (p := ⟨pb, poff + j * 3 + 1, none⟩) hpb] at y1
              rw [← Below.cell HX.out.to (p := ⟨pb, poff + j * 3 + 2, none⟩) hpb] at y2
              generalize R[j] = rj at y0 y1 y2 hss hhw
              obtain ⟨X, hX⟩ : ∃ X : ByteArray, (⟨rj.f.1.toArray⟩ : ByteArray) = X := ⟨_, rfl⟩
              obtain ⟨Y, hY⟩ : ∃ Y : ByteArray, (⟨rj.f.2.toArray⟩ : ByteArray) = Y := ⟨_, rfl⟩
              have zX : X.size = rj.f.1.length := by rw [← hX]; show rj.f.1.toArray.size = _; simp
              have zY : Y.size = rj.f.2.length := by rw [← hY]; show rj.f.2.toArray.size = _; simp
              have e0 : strV rj.f.1 = .string X := by unfold strV; rw [hX]
              have e1 : strV rj.f.2 = .string Y := by unfold strV; rw [hY]
              rw [e0] at y0
              rw [e1] at y1
              rw [← zX, ← zY] at hss
              obtain ⟨hw, hhw2⟩ : ∃ h, rj.how = h := ⟨_, rfl⟩
              rw [hhw2] at y2 hhw
              have hlim : (sumR (R.take (j + 1)) : Int) ≤ 5000 := by have h2 := HSUM.out; have h3 := HNN.out.2; omega
              obtain ⟨N0, hN0⟩ : ∃ N, sumR (R.take j) = N := ⟨_, rfl⟩
              obtain ⟨N1, hN1⟩ : ∃ N, sumR (R.take (j + 1)) = N := ⟨_, rfl⟩
              rw [hN0, hN1] at hss
              rw [hN1] at hlim
              rw [hN0]
              have HN1 := Lib.hid hN1
              have u1 : IntKind.i64.wrap ((N0 : Int) + (X.size : Int)) = (N0 : Int) + (X.size : Int) := IntWalk.i64_in _ (by omega)
              have u2 : IntKind.i64.wrap ((N0 : Int) + (X.size : Int) + (Y.size : Int)) = (N0 : Int) + (X.size : Int) + (Y.size : Int) := IntWalk.i64_in _ (by omega)
              have u3 : IntKind.i64.wrap ((N0 : Int) + (X.size : Int) + (Y.size : Int) + 32) = (N0 : Int) + (X.size : Int) + (Y.size : Int) + 32 := IntWalk.i64_in _ (by omega)
              have HSS : Hid ((N0 : Int) + (X.size : Int) + (Y.size : Int) + 32 = (N1 : Int)) := Lib.hid (by omega)
              have i3 : (j : Int) < (R.length : Int) := by omega
              have q1 : ¬ hw < 1 := by omega
              have q2 : ¬ hw > 3 := by omega
              have HIN := Lib.hid hin
              have HPB := Lib.hid hpb
              clear hss hst hhw hX hY zX zY e0 e1 hhw2 hlim hN0 hN1 hin hj hpb
              go_wp2_with fail
              go_quiet (fail)
              go_wp2_with fail
              go_roundw
              case rel => exact ⟨j + 1, HIN.out, by go_num, congrArg (Value.int .i64) (by rw [HN1.out]; exact HSS.out), Lib.hid (HX.out.drewN _)⟩
              case measure => have := HIN.out; simp [intOf]; omega
            · obtain rfl : j = R.length := by omega
              have i3 : ¬ (R.length : Int) < (R.length : Int) := by omega
              rw [List.take_length]
              have k1 : ¬ ((sumF T2 : Int) > M2) := by have := HT2.out.1; omega
              have k2 : ¬ (M2 > m) := by have := HT2.out.2.2; omega
              have k3 : ¬ ((sumR R : Int) > n) := by have := HSUM.out; omega
              have HAY := Lib.hid (HA3.out.trans HX.out)
              have HUY := Lib.hid (HU3.out.aft HX.out)
              clear HX hj
              cases bad with
              | true =>
                obtain rfl := HBE.out rfl
                obtain rfl := HRE.out (by decide)
                rw [Bool.true_or] at HUY
                clear HBE HRE
                go_wp2_with fail
                refine (ubad_any HUY.out).mono ?_
                rintro e w5 ⟨rfl, rfl⟩
                go_wp2_with fail
                go_roundw
                case rel => exact ⟨k + 1, true, T2, M2, vo2, HLT.out, by omega, by go_num, rfl, HUY, HT2, HAY⟩
                case measure => have := HLT.out; simp [intOf]; omega
              | false =>
                rw [Bool.false_or] at HUY
                by_cases hE : E = 0
                · subst hE
                  rw [show decide ((0 : Int) ≠ 0) = false by decide] at HUY
                  clear HBE HRE
                  go_wp2_with fail
                  refine (ubad_any HUY.out).mono ?_
                  rintro e w5 ⟨rfl, rfl⟩
                  go_wp2_with fail
                  go_roundw
                  case rel => exact ⟨k + 1, false, T2, M2, vo2, HLT.out, by omega, by go_num, rfl, HUY, HT2, HAY⟩
                  case measure => have := HLT.out; simp [intOf]; omega
                · obtain rfl := HRE.out hE
                  rw [show decide (E ≠ 0) = true from decide_eq_true hE] at HUY
                  have hEb : (E != 0) = true := by simpa using hE
                  clear HBE HRE
                  go_wp2_with fail
                  refine (ubad_any HUY.out).mono ?_
                  rintro e w5 ⟨rfl, rfl⟩
                  go_wp2_with fail
                  go_roundw
                  case rel => exact ⟨k + 1, true, T2, M2, vo2, HLT.out, by omega, by go_num, rfl, HUY, HT2, HAY⟩
                  case measure => have := HLT.out; simp [intOf]; omega
        · have j1 : ¬ ((lb.length : Int) > 400) := by omega
          have HBLK := Lib.hid (ublock_law (n := lb.length) HA.out (Nat.le_refl _) HU.out (fun wx (a : Aft w wx) => HRB.out.aft a) rfl (by omega) HT.out.1 HT.out.2.1 HT.out.2.2 HM.out.2 HNN.out.1 (by have := HNN.out.2; omega))
          clear HRB HU HT hsome
          go_wp2_with fail
          refine HBLK.out.mono ?_
          rintro e w2 ⟨a2, ra, rk, E, R, T2, M2, vo2, rfl, hu2, ht1, ht2, ht3, hrb2, hsum, hhow, hbe, hre⟩
          have HA2 := Lib.hid a2
          have HU2 := Lib.hid hu2
          have HT2 := Lib.hid (And.intro ht1 (And.intro ht2 ht3))
          have HR2 := Lib.hid hrb2
          have HSUM := Lib.hid hsum
          have HHOW := Lib.hid hhow
          have HBE := Lib.hid hbe
          have HRE := Lib.hid hre
          clear a2 hu2 ht1 ht2 ht3 hrb2 hsum hhow hbe hre HBLK HA c0
          go_wp2_with fail
          refine (utable_any HU2.out).mono ?_
          rintro e w3 ⟨rfl, a3⟩
          have HA3 := Lib.hid (HA2.out.trans a3)
          have HU3 := Lib.hid (HU2.out.aft a3)
          obtain ⟨pa, pc, pb, poff, hpv, -, hpm, hcell3⟩ := (HR2.out.aft a3).open
          unfold maxLen at hpm
          injection hpv with hpa _ hpc
          subst hpa hpc
          have HC3 := Lib.hid hcell3
          have hRl : R.length ≤ 1000 := by have h1 := sumR_len R; have h2 := HSUM.out; have h3 := HNN.out.2; omega
          clear a3 HA2 HU2 HR2 hcell3
          go_wp2_with fail
          go_loopw [19, 20] (fun vs vj wy => ∃ j : Nat, j ≤ R.length ∧ vj = .int .i64 (j : Int) ∧ vs = .int .i64 (sumR (R.take j) : Int) ∧ Hid (Aft w3 wy)) (fun _ vj _ => R.length - (intOf vj).toNat)
          case atStart => exact ⟨0, by omega, by go_num, rfl, Lib.hid (Aft.refl _)⟩
          case round =>
            obtain ⟨j, hj, rfl, rfl, HX⟩ := hrel
            by_cases hin : j < R.length
            · obtain ⟨rfl, hpb, y0, y1, y2⟩ := HC3.out j hin
              have hss := sumR_step R j hin
              have hst := sumR_take R (j + 1)
              have hhw := HHOW.out _ (List.getElem_mem hin)
              rw [← Below.cell HX.out.to (p := ⟨pb, poff + j * 3, none⟩) hpb] at y0
              rw [← Below.cell HX.out.to (p := ⟨pb, poff + j * 3 + 1, none⟩) hpb] at y1
              rw [← Below.cell HX.out.to (p := ⟨pb, poff + j * 3 + 2, none⟩) hpb] at y2
              generalize R[j] = rj at y0 y1 y2 hss hhw
              obtain ⟨X, hX⟩ : ∃ X : ByteArray, (⟨rj.f.1.toArray⟩ : ByteArray) = X := ⟨_, rfl⟩
              obtain ⟨Y, hY⟩ : ∃ Y : ByteArray, (⟨rj.f.2.toArray⟩ : ByteArray) = Y := ⟨_, rfl⟩
              have zX : X.size = rj.f.1.length := by rw [← hX]; show rj.f.1.toArray.size = _; simp
              have zY : Y.size = rj.f.2.length := by rw [← hY]; show rj.f.2.toArray.size = _; simp
              have e0 : strV rj.f.1 = .string X := by unfold strV; rw [hX]
              have e1 : strV rj.f.2 = .string Y := by unfold strV; rw [hY]
              rw [e0] at y0
              rw [e1] at y1
              rw [← zX, ← zY] at hss
              obtain ⟨hw, hhw2⟩ : ∃ h, rj.how = h := ⟨_, rfl⟩
              rw [hhw2] at y2 hhw
              have hlim : (sumR (R.take (j + 1)) : Int) ≤ 5000 := by have h2 := HSUM.out; have h3 := HNN.out.2; omega
              obtain ⟨N0, hN0⟩ : ∃ N, sumR (R.take j) = N := ⟨_, rfl⟩
              obtain ⟨N1, hN1⟩ : ∃ N, sumR (R.take (j + 1)) = N := ⟨_, rfl⟩
              rw [hN0, hN1] at hss
              rw [hN1] at hlim
              rw [hN0]
              have HN1 := Lib.hid hN1
              have u1 : IntKind.i64.wrap ((N0 : Int) + (X.size : Int)) = (N0 : Int) + (X.size : Int) := IntWalk.i64_in _ (by omega)
              have u2 : IntKind.i64.wrap ((N0 : Int) + (X.size : Int) + (Y.size : Int)) = (N0 : Int) + (X.size : Int) + (Y.size : Int) := IntWalk.i64_in _ (by omega)
              have u3 : IntKind.i64.wrap ((N0 : Int) + (X.size : Int) + (Y.size : Int) + 32) = (N0 : Int) + (X.size : Int) + (Y.size : Int) + 32 := IntWalk.i64_in _ (by omega)
              have HSS : Hid ((N0 : Int) + (X.size : Int) + (Y.size : Int) + 32 = (N1 : Int)) := Lib.hid (by omega)
              have i3 : (j : Int) < (R.length : Int) := by omega
              have q1 : ¬ hw < 1 := by omega
              have q2 : ¬ hw > 3 := by omega
              have HIN := Lib.hid hin
              have HPB := Lib.hid hpb
              clear hss hst hhw hX hY zX zY e0 e1 hhw2 hlim hN0 hN1 hin hj hpb
              go_wp2_with fail
              go_quiet (fail)
              go_wp2_with fail
              go_roundw
              case rel => exact ⟨j + 1, HIN.out, by go_num, congrArg (Value.int .i64) (by rw [HN1.out]; exact HSS.out), Lib.hid (HX.out.drewN _)⟩
              case measure => have := HIN.out; simp [intOf]; omega
            · obtain rfl : j = R.length := by omega
              have i3 : ¬ (R.length : Int) < (R.length : Int) := by omega
              rw [List.take_length]
              have k1 : ¬ ((sumF T2 : Int) > M2) := by have := HT2.out.1; omega
              have k2 : ¬ (M2 > m) := by have := HT2.out.2.2; omega
              have k3 : ¬ ((sumR R : Int) > n) := by have := HSUM.out; omega
              have HAY := Lib.hid (HA3.out.trans HX.out)
              have HUY := Lib.hid (HU3.out.aft HX.out)
              clear HX hj
              cases bad with
              | true =>
                obtain rfl := HBE.out rfl
                obtain rfl := HRE.out (by decide)
                rw [Bool.true_or] at HUY
                clear HBE HRE
                go_wp2_with fail
                refine (ubad_any HUY.out).mono ?_
                rintro e w5 ⟨rfl, rfl⟩
                go_wp2_with fail
                go_roundw
                case rel => exact ⟨k + 1, true, T2, M2, vo2, HLT.out, by omega, by go_num, rfl, HUY, HT2, HAY⟩
                case measure => have := HLT.out; simp [intOf]; omega
              | false =>
                rw [Bool.false_or] at HUY
                by_cases hE : E = 0
                · subst hE
                  rw [show decide ((0 : Int) ≠ 0) = false by decide] at HUY
                  clear HBE HRE
                  go_wp2_with fail
                  refine (ubad_any HUY.out).mono ?_
                  rintro e w5 ⟨rfl, rfl⟩
                  go_wp2_with fail
                  go_roundw
                  case rel => exact ⟨k + 1, false, T2, M2, vo2, HLT.out, by omega, by go_num, rfl, HUY, HT2, HAY⟩
                  case measure => have := HLT.out; simp [intOf]; omega
                · obtain rfl := HRE.out hE
                  rw [show decide (E ≠ 0) = true from decide_eq_true hE] at HUY
                  have hEb : (E != 0) = true := by simpa using hE
                  clear HBE HRE
                  go_wp2_with fail
                  refine (ubad_any HUY.out).mono ?_
                  rintro e w5 ⟨rfl, rfl⟩
                  go_wp2_with fail
                  go_roundw
                  case rel => exact ⟨k + 1, true, T2, M2, vo2, HLT.out, by omega, by go_num, rfl, HUY, HT2, HAY⟩
                  case measure => have := HLT.out; simp [intOf]; omega
      · have i2 : ¬ (k : Int) < 12 := by omega
        clear HU HT
        go_wp2_with fail
        refine (unpackruns_any wr (HMA.out wr HA.out)).mono ?_
        rintro e w5 ⟨rfl, a5⟩
        have HA5 := Lib.hid (HA.out.trans a5)
        clear a5
        go_wp2_with fail
        go_ret
        exact ⟨rfl, HA5.out⟩
    · have i1 : ¬ (k : Int) < (L.length : Int) := by omega
      clear HU HT
      go_wp2_with fail
      refine (unpackruns_any wr (HMA.out wr HA.out)).mono ?_
      rintro e w5 ⟨rfl, a5⟩
      have HA5 := Lib.hid (HA.out.trans a5)
      clear a5
      go_wp2_with fail
      go_ret
      exact ⟨rfl, HA5.out⟩

set_option maxRecDepth 100000 in
theorem walkUnpackBounded (w : World) (hsh : w.ShapedOpen Tryd.prog) {H : Type} {enc : TypeId × Value → H} {base : Nat} {v2 : Value} {d2 : DataW H} {p2 : List MemPlace} (a0 : Int) (w0 : (Lit.int .i64 a0).wf = true) (a1 : Int) (w1 : (Lit.int .i64 a1).wf = true)
    (hval2 : Value.okWide Tryd.prog w .any base 81 v2) (k2 : DataW.Trod enc Tryd.prog w 0 (fun _ => true) true 81 v2 d2 p2) :
    Calls Tryd.prog 15 #[.int .i64 a0, .int .i64 a1, v2] w fun e w' => e = .returned (.bool true) ∧ Aft w w' := by
  obtain ⟨L, hr⟩ := open_blocks hval2 k2
  have hb := bounds_i64 w0
  have hd := bounds_i64 w1
  exact unpackbounded_any v2 a0 a1 hb.1 hb.2 hd.1 hd.2 L w (maxOk_of w hsh) hr
end Go.Proofs.YtmlnboibclfmcaaDoor
