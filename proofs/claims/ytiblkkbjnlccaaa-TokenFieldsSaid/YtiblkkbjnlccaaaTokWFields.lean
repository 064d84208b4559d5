/-
  The walk of TokenFields.
-/
import Derived.Test.YtiblkkbjnlccaaaTokWF1
namespace Go.Proofs.Ytiblkkbjnlccaaa
open Go.ChangeShapes Go.WideShapes Go.ChangeAt Go.RowKit

set_option maxRecDepth 100000 in
set_option maxHeartbeats 8000000 in
theorem walkTokenFields (w : World) {H : Type} {enc : TypeId × Value → H} {base : Nat} {v : Value} {d : DataW H} {p : List MemPlace} (hval : Value.okWide Try.prog w .any base 38 v) (hd : DataW.Trod enc Try.prog w 0 (fun _ => true) true 38 v d p) (name : ByteArray) (hname : name.size ≤ maxLen) :
    Calls Try.prog 7 #[v, .string name] w fun e w' => e = .returned (.bool true) ∧ Aft w w' := by
  obtain ⟨l0, hr⟩ := open_fieldsRb hval hd
  clear hval hd hname
  obtain ⟨a1, c1, b0, o0, rfl, m1, m2, _, _, _⟩ := hr.open
  unfold maxLen at m2
  have HR0 := Lib.hid hr
  clear hr
  obtain ⟨n0, hn0⟩ : ∃ n0, n0 = l0.length := ⟨_, rfl⟩
  by_cases hq : 20 < (l0.length : Int)
  case' pos =>
    obtain ⟨l, hl, hr⟩ := cut_fields HR0.out 20 (by omega)
    have hle : l.length ≤ 20 := by omega
    have hlc : l.length ≤ c1 := by omega
    go_enter Try.func7, Try.ntmps7
    go_wp2_with fail
    rw [show Value.slice a1 20 c1 = Value.slice a1 l.length c1 by rw [hl]]
    rw [← hl] at hr
    clear hl
  case' neg =>
    obtain ⟨l, hl, hr⟩ : ∃ l : List FieldL, l = l0 ∧ RbF w (.slice a1 l.length c1) l := ⟨l0, rfl, HR0.out⟩
    subst hl
    have hle : l.length ≤ 20 := by omega
    have hlc : l.length ≤ c1 := m1
    go_enter Try.func7, Try.ntmps7
    go_wp2_with fail
  all_goals (
    clear HR0
    obtain ⟨a2, c2, b1, o1, hv2, _, _, p1, q1, r1⟩ := hr.open
    injection hv2 with e1 _ e2
    subst e1 e2
    have HR := Lib.hid hr
    have P1 := Lib.hid p1
    have Q1 := Lib.hid q1
    have R1 := Lib.hid r1
    clear hr p1 q1 r1
    go_loopw [5] (fun vi wr => ∃ k : Nat, k ≤ l.length ∧ vi = .int .i64 (k : Int) ∧ w = wr ∧ Hid (∀ i (h : i < l.length), i < k → l[i].2.length ≤ 300)) (fun vi _ => l.length - (intOf vi).toNat)
    case atStart => exact ⟨0, by omega, by go_num, rfl, Lib.hid (fun i h hi => by omega)⟩
    case round =>
      obtain ⟨k, hk, rfl, rfl, HV⟩ := hrel
      by_cases hlt : k < l.length
      · have hne : l ≠ [] := by intro e; rw [e] at hlt; simp at hlt
        have x1 := (R1.out k hlt).2
        obtain ⟨s, hs⟩ : ∃ s : ByteArray, s = ⟨l[k].2.toArray⟩ := ⟨_, rfl⟩
        have hsz : s.size = l[k].2.length := by rw [← size_len, hs]
        have hsv : strV l[k].2 = .string s := by rw [hs]; rfl
        rw [hsv] at x1
        obtain rfl := P1.out hne
        have HS := Lib.hid hsz
        clear hs hsz hsv hne
        have i1 : (k : Int) < (l.length : Int) := by omega
        by_cases hbig : 300 < (s.size : Int)
        · go_wp2_with fail
          refine (tokenruns_any _).mono ?_
          rintro e w4 ⟨rfl, b4⟩
          go_wp2_with fail
          go_ret
          exact ⟨rfl, b4⟩
        · have hnew : Hid (∀ i (h : i < l.length), i < k + 1 → l[i].2.length ≤ 300) := Lib.hid (fun i h hi => by
            by_cases hik : i < k
            · exact HV.out i h hik
            · have : i = k := by omega
              subst this
              have := HS.out
              omega)
          go_wp2_with fail
          go_roundw
          case rel => exact ⟨k + 1, by omega, by go_num, trivial, hnew⟩
          case measure => simp [intOf]; omega
      · have hv : ∀ f ∈ l, f.2.length ≤ 300 := by
          intro f hf
          obtain ⟨i, hi, rfl⟩ := List.mem_iff_getElem.1 hf
          exact HV.out i hi (by omega)
        have HVV := Lib.hid hv
        clear hv HV
        obtain ⟨J, HJ⟩ : ∃ J, Hid ((⟨(Lib.join (valsF name.data.toList l) [44, 32]).toArray⟩ : ByteArray) = J) := ⟨_, Lib.hid rfl⟩
        obtain ⟨N, HN⟩ : ∃ N, Hid ((valsF name.data.toList l).length = N) := ⟨_, Lib.hid rfl⟩
        obtain ⟨ps, HP⟩ : ∃ ps, Hid (pairsF name.data.toList l = ps) := ⟨_, Lib.hid rfl⟩
        clear P1 Q1 R1
        go_wp2_with fail
        refine (roomyF_any _ l _ HR.out (by omega)).mono ?_
        rintro e w1 ⟨g, rfl, HB1, A1⟩
        obtain ⟨hf1, hc1⟩ := full_rb HB1.out hle
        have HF := Lib.hid hf1
        have HC := Lib.hid hc1
        clear hf1 hc1 HB1
        go_wp2_with fail
        refine (all_of _ l name J N _ HC.out hle HVV.out HJ.out HN.out).mono ?_
        rintro e w2 ⟨rfl, A2⟩
        go_wp2_with fail
        refine (rall_of _ l name J N _ (HR.out.aft (A1.trans A2)) hle HVV.out HJ.out HN.out).mono ?_
        rintro e w3 ⟨rfl, A3⟩
        have A13 := A2.trans A3
        go_wp2_with fail
        refine (fpairs_of _ l name ps _ (HC.out.aft A13) hle HVV.out HP.out).mono ?_
        rintro e w4 ⟨v4, rfl, op4, A4⟩
        obtain ⟨aa, ga, ka, rfl, hka1, hka2, hpa, hca⟩ := op4.form
        unfold maxLen at hka2
        have HPA := Lib.hid hpa
        have HCA := Lib.hid hca
        have A14 := Lib.hid ((A1.trans A13).trans A4)
        have A24 := Lib.hid (A13.trans A4)
        clear hpa hca op4
        go_wp2_with fail
        refine (rpairs_of _ l name ps _ (HR.out.aft A14.out) hle HVV.out HP.out).mono ?_
        rintro e w5 ⟨v5, rfl, op5, A5⟩
        obtain ⟨ab, gb, kb, rfl, hkb1, hkb2, hpb, hcb⟩ := op5.form
        unfold maxLen at hkb2
        have HPB := Lib.hid hpb
        have HCB := Lib.hid hcb
        have A5H := Lib.hid A5
        clear hpb hcb op5 HJ HN HP HVV A1 A2 A3 A4 A5 A13
        go_wp2_with fail
        go_loopw [13] (fun vi wi => ∃ j : Nat, j ≤ ps.length ∧ vi = .int .i64 (j : Int) ∧ Hid (Aft w5 wi)) (fun vi _ => ps.length - (intOf vi).toNat)
        case atStart => exact ⟨0, by omega, by go_num, Lib.hid (Aft.refl _)⟩
        case round =>
          obtain ⟨j, hj, rfl, HWI⟩ := hrel
          by_cases hjl : j < ps.length
          · have hnp : ps ≠ [] := by intro e; rw [e] at hjl; simp at hjl
            obtain ⟨hpa1, hpa2⟩ := HPA.out hnp
            obtain ⟨hpb1, hpb2⟩ := HPB.out hnp
            obtain ⟨u0, u1, u2⟩ := HCA.out j hjl
            obtain ⟨z0, z1, z2⟩ := HCB.out j hjl
            rw [← Below.cell (A5H.out.trans HWI.out).to (p := ⟨ga, j * 3, none⟩) hpa2] at u0
            rw [← Below.cell (A5H.out.trans HWI.out).to (p := ⟨ga, j * 3 + 1, none⟩) hpa2] at u1
            rw [← Below.cell (A5H.out.trans HWI.out).to (p := ⟨ga, j * 3 + 2, none⟩) hpa2] at u2
            rw [← Below.cell HWI.out.to (p := ⟨gb, j * 3, none⟩) hpb2] at z0
            rw [← Below.cell HWI.out.to (p := ⟨gb, j * 3 + 1, none⟩) hpb2] at z1
            rw [← Below.cell HWI.out.to (p := ⟨gb, j * 3 + 2, none⟩) hpb2] at z2
            generalize ps[j] = pp at u0 u1 u2 z0 z1 z2
            obtain ⟨q1, q2, q3⟩ := pp
            unfold strV at u0 u1 z0 z1
            simp only at u0 u1 u2 z0 z1 z2
            subst hpa1 hpb1
            have hjl' : (j : Int) < (ps.length : Int) := by omega
            clear hnp
            go_wp2_with fail
            go_quiet (fail)
            go_wp2_with fail
            go_roundw
            case rel => exact ⟨j + 1, by omega, by go_num, Lib.hid (HWI.out.drewN _)⟩
            case measure => simp [intOf]; omega
          · have hjk : j = ps.length := by omega
            go_wp2_with fail
            refine (intactF_any _ _ l _ (HF.out.aft ((A24.out.trans A5H.out).trans HWI.out)) (HR.out.aft ((A14.out.trans A5H.out).trans HWI.out)) (by omega)).mono ?_
            rintro e w6 ⟨rfl, A6⟩
            go_wp2_with fail
            refine (tokenruns_any _).mono ?_
            rintro e w7 ⟨rfl, A7⟩
            go_wp2_with fail
            go_ret
            exact ⟨rfl, ((A14.out.trans A5H.out).trans HWI.out).trans (A6.trans A7)⟩)

end Go.Proofs.Ytiblkkbjnlccaaa
