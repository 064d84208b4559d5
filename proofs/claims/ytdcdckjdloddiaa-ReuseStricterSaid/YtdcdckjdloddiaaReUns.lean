/-
  The walk of reuse.unsure.
-/
import Derived.Test.YtdcdckjdloddiaaRePlain
import Derived.Test.YtdcdckjdloddiaaFrAge
namespace Go.Proofs.Ytdcdckjdloddiaa
open Go.RowKit
set_option linter.unusedVariables false

def reqV21 (m x1 x2 x3 : ByteArray) (v : Value) (n : Int) : Array Value := #[.string m, .string x1, .string x2, .string x3, v, .int .i64 n]
/-- A request's cells. -/
def Q6 (w : World) (g : Nat) (R : Array Value) : Prop := w.heap[g]? = some (.cells R 24 (0, 0))
theorem Q6.lt {w : World} {g : Nat} {R : Array Value} (h : Q6 w g R) : g < w.heap.size := by
  rcases Nat.lt_or_ge g w.heap.size with h1 | h1
  · exact h1
  · unfold Q6 at h; rw [Array.getElem?_eq_none h1] at h; cases h
theorem Q6.aft {w w' : World} {g : Nat} {R : Array Value} (h : Q6 w g R) (ha : Aft w w') : Q6 w' g R := by
  have hl := h.lt
  unfold Q6 at h ⊢
  rw [ha.block g hl]
  exact h
/-- A request whose fields lie in the slice v. -/
structure ReqR (R : Array Value) (v : Value) : Prop where
  size : R.size = 6
  fld : R[4]? = some v
theorem reqV21_ok (m x1 x2 x3 : ByteArray) (v : Value) (n : Int) : ReqR (reqV21 m x1 x2 x3 v n) v := ⟨rfl, rfl⟩
theorem Q6.cell {w : World} {g : Nat} {R : Array Value} (h : Q6 w g R) {v : Value} (hR : ReqR R v) : w.cell? ⟨g, 4, none⟩ = some v := by
  rw [cell_of_row w g 4 _ _ (0, 0) h]
  exact hR.fld
theorem ReqR.info {R : Array Value} {v : Value} (h : ReqR R v) : (Try.prog.info? 24).map (·.size) = some R.size := by rw [h.size]; kernel_rfl
theorem Q6.load {w : World} {g : Nat} {R : Array Value} (h : Q6 w g R) {v : Value} (hR : ReqR R v) : (loadVar 24 ⟨g, 0, none⟩).run Try.prog w = .ok (.agg R) w :=
  run_loadVar_row w g _ _ R (0, 0) _ h Try.underlying24 rfl hR.info

set_option maxHeartbeats 8000000 in
set_option maxRecDepth 100000 in
theorem unsure_any (R : Array Value) (v : Value) (l : List FieldL) (w : World) (hR : ReqR R v) (hr : RbF w v l) (hk : FOk l) :
    Calls Try.prog 63 #[.agg R] w fun e w' => e = .returned (.bool (unsF l)) ∧ Aft w w' := by
  have HAL := Lib.hid (fun w h => all_any v l ⟨nCC.toArray⟩ w h hk.len (hk.join _))
  have HPA := Lib.hid (fun w h => pairs_any v l ⟨nPragma.toArray⟩ w h hk.len (hk.join _))
  have hpl := pairsF_len (hk.join nPragma)
  have e1 : (⟨nCC.toArray⟩ : ByteArray).data.toList = nCC := rfl
  have e2 : (⟨nPragma.toArray⟩ : ByteArray).data.toList = nPragma := rfl
  rw [e1] at HAL
  rw [e2] at HPA
  have hA : Aft w (w.alloc (.cells R 24)) := (Aft.refl w).alloc _
  have hB : Q6 (w.alloc (.cells R 24)) w.heap.size R := heap_alloc_new w _
  have HR := Lib.hid hR
  have HRB := Lib.hid (hr.aft hA)
  have HA := Lib.hid hA
  have HB := Lib.hid hB
  obtain ⟨aq, cq, bq, oq, hvs, -⟩ := hr.open
  obtain ⟨J, hJ⟩ : ∃ J : ByteArray, (⟨(Lib.join (valsF nCC l) [44, 32]).toArray⟩ : ByteArray) = J := ⟨_, rfl⟩
  rw [hJ] at HAL
  obtain ⟨U, hU⟩ : ∃ U, unsF l = U := ⟨_, rfl⟩
  rw [hU]
  unfold unsF at hU
  generalize (valsF nCC l).length = n at HAL hU
  generalize pairsF nPragma l = ps at HPA hpl hU
  have HU := Lib.hid hU
  have HPL := Lib.hid hpl
  subst hvs
  clear hA hB hr hR hk e1 e2 hJ hU hpl
  go_enter Try.func63, Try.ntmps63
  go_upto_region 1 with fail
  generalize w.heap.size = g at HB ⊢
  generalize w.alloc (.cells R 24) = W at HA HB HRB ⊢
  have y4 := HB.out.cell HR.out
  go_wp2_with fail
  refine (HAL.out _ HRB.out).mono ?_
  rintro e w1 ⟨rfl, a1⟩
  have HB1 := Lib.hid (HB.out.aft a1)
  have HRB1 := Lib.hid (HRB.out.aft a1)
  have HA1 := Lib.hid (HA.out.trans a1)
  clear a1 y4 HB HRB HA HAL
  by_cases hn : 0 < n
  · have HU2 : Hid (false = U) := Lib.hid ((if_pos hn).symm.trans HU.out)
    have h9 : (n : Int) > 0 := by omega
    clear hn HU
    go_wp2_with fail
    go_ret
    exact ⟨ret_bool HU2.out, HA1.out⟩
  have HU2 : Hid (hasNC ps = U) := Lib.hid ((if_neg hn).symm.trans HU.out)
  have h9 : ¬ (n : Int) > 0 := by omega
  clear hn HU
  have y4 := HB1.out.cell HR.out
  go_wp2_with fail
  refine (HPA.out _ HRB1.out).mono ?_
  rintro e w2 ⟨v', rfl, ho, a2⟩
  have HA2 := Lib.hid (HA1.out.trans a2)
  obtain ⟨a, g2, K, rfl, m1, m2, q1, r1⟩ := ho.form
  have hpc : PCells w2 g2 ps := r1
  have HQ := Lib.hid q1
  have HPC := Lib.hid hpc
  unfold maxLen at m2
  clear y4 a2 ho q1 r1 hpc HB1 HRB1 HA1 HPA h9
  go_wp2_with fail
  go_loopw [19] (fun vi wr => ∃ k : Nat, k ≤ ps.length ∧ vi = .int .i64 (k : Int) ∧ Hid (hasNC (ps.take k) = false) ∧ Hid (Aft w2 wr)) (fun vi _ => ps.length - (intOf vi).toNat)
  case atStart => exact ⟨0, by omega, by go_num, Lib.hid rfl, Lib.hid (Aft.refl _)⟩
  case round =>
    obtain ⟨k, hk, rfl, HX, HAW⟩ := hrel
    by_cases hlt : k < ps.length
    · have hne : ps ≠ [] := by intro e; rw [e] at hlt; simp at hlt
      obtain ⟨rfl, hg2⟩ := HQ.out hne
      have hx := (HPC.out.aft HAW.out hg2) k hlt
      have HT := Lib.hid (hasNC_take hlt HX.out)
      have HT2 := Lib.hid (fun h => hasNC_true hlt h)
      generalize ps[k] = p at hx HT HT2
      obtain ⟨pn, pv, ph⟩ := p
      obtain ⟨x0, x1, x2⟩ := hx
      unfold strV at x0 x1
      simp only at x0 x1 x2 HT HT2
      have hkl : (k : Int) < (ps.length : Int) := by omega
      obtain ⟨y0, y1, y2⟩ := new3 wr (.string ⟨pn.toArray⟩) (.string ⟨pv.toArray⟩) (.bool ph) 84
      have HAX := Lib.hid (HAW.out.alloc (.cells #[.string ⟨pn.toArray⟩, .string ⟨pv.toArray⟩, .bool ph] 84))
      have HY := Lib.hid y0
      clear y0 y1 y2 hne hg2
      go_upto_region 7 with fail
      clear x0 x1 x2
      generalize wr.alloc (.cells #[.string ⟨pn.toArray⟩, .string ⟨pv.toArray⟩, .bool ph] 84) = W9 at HY HAX ⊢
      generalize wr.heap.size = b5 at HY ⊢
      have y0 := HY.out
      cases hq : (pn == nNoCache)
      · rw [hq] at HT
        have en : ((⟨pn.toArray⟩ : ByteArray).toList == nNoCache) = false := by rw [Lib.toList_data]; exact hq
        unfold nNoCache at en
        clear hq HT2
        generalize (⟨pn.toArray⟩ : ByteArray) = N at y0 HY en
        go_wp2_with fail
        go_roundw
        case rel => exact ⟨k + 1, by omega, by go_num, HT, HAX⟩
        case measure => simp [intOf]; omega
      · have HU3 : Hid (true = U) := Lib.hid ((HT2.out hq).symm.trans HU2.out)
        have en : ((⟨pn.toArray⟩ : ByteArray).toList == nNoCache) = true := by rw [Lib.toList_data]; exact hq
        unfold nNoCache at en
        clear hq HT2 HT
        generalize (⟨pn.toArray⟩ : ByteArray) = N at y0 HY en
        go_wp2_with fail
        go_ret
        exact ⟨ret_bool HU3.out, HA2.out.trans HAX.out⟩
    · have hk2 : k = ps.length := by omega
      have HU3 : Hid (false = U) := Lib.hid (by rw [← HU2.out, ← HX.out, hk2, List.take_length])
      have i1 : ¬ (k : Int) < (ps.length : Int) := by omega
      clear hk2
      go_wp2_with fail
      go_ret
      exact ⟨ret_bool HU3.out, HA2.out.trans HAW.out⟩
end Go.Proofs.Ytdcdckjdloddiaa
