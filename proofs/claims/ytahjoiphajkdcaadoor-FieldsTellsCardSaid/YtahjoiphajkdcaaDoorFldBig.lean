/-
  A field's bytes, their sums that wrap, Roomy and Intact at fields, as large as the form's reach allows.
-/
import Derived.Test.YtahjoiphajkdcaaDoorFldRuns
import Derived.Test.YtahjoiphajkdcaaDoorFldRef
import Derived.Test.YtahjoiphajkdcaaDoorArgFL
namespace Go.Proofs.YtahjoiphajkdcaaDoor
open Go.ChangeShapes Go.WideShapes Go.ChangeAt Go.RowKit
set_option linter.unusedVariables false

theorem wrap_add (a n : Nat) : IntKind.i64.wrap (IntKind.i64.wrap (a : Int) + (n : Int)) = IntKind.i64.wrap ((a + n : Nat) : Int) := by
  rw [IntKind.wrap_i64, IntKind.wrap_i64, IntKind.wrap_i64]
  omega
theorem bytes_big (f : FieldL) (h : fsize f ≤ 1000000000000000000) (w : World) :
    Calls Tryd.prog 8 #[fieldV f] w fun e w' => e = .returned (.int .i64 (fsize f : Int)) ∧ Aft w w' := by
  obtain ⟨n, hn⟩ : ∃ n, (⟨f.1.toArray⟩ : ByteArray).size = n := ⟨_, rfl⟩
  obtain ⟨m, hm⟩ : ∃ m, (⟨f.2.toArray⟩ : ByteArray).size = m := ⟨_, rfl⟩
  have hz : fsize f = n + m + 32 := by
    subst hn hm
    show _ = f.1.toArray.size + f.2.toArray.size + 32
    simp [fsize]
  rw [hz] at h ⊢
  unfold fieldV
  generalize (⟨f.1.toArray⟩ : ByteArray) = A at hn ⊢
  generalize (⟨f.2.toArray⟩ : ByteArray) = B at hm ⊢
  have g1 : IntKind.i64.wrap ((n : Int) + (m : Int)) = (n : Int) + (m : Int) := IntWalk.i64_in _ (by omega)
  have g2 : IntKind.i64.wrap ((n : Int) + (m : Int) + 32) = (n : Int) + (m : Int) + 32 := IntWalk.i64_in _ (by omega)
  subst hn hm
  clear hz
  go_enter Tryd.func8, Tryd.ntmps8
  go_wp2_with fail
  go_ret
  exact ⟨ret_int (by push_cast; omega), (Aft.refl w).alloc _⟩
theorem rbytes_big (f : FieldL) (h : fsize f ≤ 1000000000000000000) (w : World) :
    Calls Tryd.prog 7 #[fieldV f] w fun e w' => e = .returned (.int .i64 (fsize f : Int)) ∧ Aft w w' := by
  obtain ⟨n, hn⟩ : ∃ n, (⟨f.1.toArray⟩ : ByteArray).size = n := ⟨_, rfl⟩
  obtain ⟨m, hm⟩ : ∃ m, (⟨f.2.toArray⟩ : ByteArray).size = m := ⟨_, rfl⟩
  have hz : fsize f = n + m + 32 := by
    subst hn hm
    show _ = f.1.toArray.size + f.2.toArray.size + 32
    simp [fsize]
  rw [hz] at h ⊢
  unfold fieldV
  generalize (⟨f.1.toArray⟩ : ByteArray) = A at hn ⊢
  generalize (⟨f.2.toArray⟩ : ByteArray) = B at hm ⊢
  have g1 : IntKind.i64.wrap ((n : Int) + (m : Int)) = (n : Int) + (m : Int) := IntWalk.i64_in _ (by omega)
  have g2 : IntKind.i64.wrap ((n : Int) + (m : Int) + 32) = (n : Int) + (m : Int) + 32 := IntWalk.i64_in _ (by omega)
  subst hn hm
  clear hz
  go_enter Tryd.func7, Tryd.ntmps7
  go_wp2_with fail
  go_ret
  exact ⟨ret_int (by push_cast; omega), (Aft.refl w).alloc _⟩
set_option maxHeartbeats 2000000 in
theorem sumW_any (v : Value) (l : List FieldL) (w : World) (hr : RbF w v l) (hs : FieldsLim l) :
    Calls Tryd.prog 9 #[v] w fun e w' => e = .returned (.int .i64 (IntKind.i64.wrap (sumF l : Int))) ∧ Aft w w' := by
  obtain ⟨a1, c1, b1, o1, rfl, m1, m2, p1, q1, r1⟩ := hr.open
  unfold maxLen at m2
  have P1 := Lib.hid p1
  have Q1 := Lib.hid q1
  have R1 := Lib.hid r1
  have HS := Lib.hid hs
  clear hr p1 q1 r1 hs
  go_enter Tryd.func9, Tryd.ntmps9
  go_wp2_with fail
  go_loopw [3, 8] (fun vs vi wr => ∃ (k : Nat) (s : Int), k ≤ l.length ∧ vi = .int .i64 (k : Int) ∧ vs = .int .i64 s ∧ Hid (IntKind.i64.wrap (sumF (l.take k) : Int) = s) ∧ Hid (Aft w wr)) (fun _ vi _ => l.length - (intOf vi).toNat)
  case atStart => exact ⟨0, 0, by omega, by go_num, by go_num, Lib.hid (by simp [sumF]; decide), Lib.hid (Aft.refl _)⟩
  case round =>
    obtain ⟨k, s, hk, rfl, rfl, HX, HA⟩ := hrel
    by_cases hlt : k < l.length
    · have hne : l ≠ [] := by intro e; rw [e] at hlt; simp at hlt
      have hpa := P1.out hne
      have hbb := Q1.out hne
      have hx := R1.out k hlt
      have hx1 : wr.cell? ⟨b1, o1 + k * 2, none⟩ = some (strV l[k].1) := by
        rw [Below.cell HA.out.to (p := ⟨b1, o1 + k * 2, none⟩) hbb]
        exact hx.1
      have hx2 : wr.cell? ⟨b1, o1 + k * 2 + 1, none⟩ = some (strV l[k].2) := by
        rw [Below.cell HA.out.to (p := ⟨b1, o1 + k * 2 + 1, none⟩) hbb]
        exact hx.2
      have hsn : sumF (l.take (k + 1)) = sumF (l.take k) + fsize l[k] := by
        rw [List.take_succ_eq_append_getElem hlt, sumF_append]
        simp [sumF]
      have hle : fsize l[k] ≤ 1000000000000000000 := by
        have := HS.out _ (List.getElem_mem hlt)
        unfold fsize
        omega
      have HSN := Lib.hid hsn
      generalize l[k] = f at hx1 hx2 HSN hle
      have HB := Lib.hid (bytes_big f (by omega))
      have HLE := Lib.hid hle
      unfold strV at hx1 hx2
      subst hpa
      have hkl : (k : Int) < (l.length : Int) := by omega
      clear hx hsn hne hle
      go_wp2_with fail
      refine (HB.out _).mono ?_
      rintro e w2 ⟨rfl, a2⟩
      obtain ⟨s2, hs2⟩ : ∃ s2, IntKind.i64.wrap (sumF (l.take (k + 1)) : Int) = s2 := ⟨_, rfl⟩
      have g1 : IntKind.i64.wrap (s + (fsize f : Int)) = s2 := by rw [← hs2, HSN.out, ← HX.out]; exact wrap_add _ _
      have HS2 := Lib.hid hs2
      clear hs2
      have HA2 : Hid (Aft w w2) := Lib.hid ((HA.out.alloc _).trans a2)
      clear a2
      go_wp2_with fail
      go_roundw
      case rel => exact ⟨k + 1, s2, by omega, by go_num, rfl, HS2, HA2⟩
      case measure => simp [intOf]; omega
    · have hk2 : k = l.length := by omega
      subst hk2
      have HT : Hid (s = IntKind.i64.wrap (sumF l : Int)) := Lib.hid (by rw [← HX.out, List.take_of_length_le (Nat.le_refl _)])
      go_wp2_with fail
      go_ret
      exact ⟨ret_int (by rw [HT.out]), HA.out⟩
set_option maxHeartbeats 2000000 in
theorem roomyF_big (v : Value) (l : List FieldL) (w : World) (hr : RbF w v l) (hlen : l.length ≤ 4398046511104) :
    Calls Tryd.prog 6 #[v, .agg #[.string ⟨#[109]⟩, .string ⟨#[]⟩]] w fun e w' => ∃ g, e = .returned (.slice (some ⟨g, 0, none⟩) (l.length + 80) (l.length + 80)) ∧ Hid (FB w' g (l ++ List.replicate 80 markF)) ∧ Aft w w' := by
  obtain ⟨i0, hi, hz0, hz1, hz2⟩ := info_parts infoF
  have hb2 : i0.bytes * (l.length + 80) ≤ 281474976710656 := by rw [hz2]; omega
  have hb3 : l.length + 80 ≤ maxLen := by unfold maxLen; omega
  obtain ⟨B, hB⟩ : ∃ B, w.heap.size = B := ⟨_, rfl⟩
  have HB := Lib.hid hB
  have hbz : (w.alloc (.cells #[.string ⟨#[109]⟩, .string ⟨#[]⟩] 24)).heap.size = B + 1 := by rw [World.size_alloc, hB]
  have m0 : (w.alloc (.cells #[.string ⟨#[109]⟩, .string ⟨#[]⟩] 24)).cell? ⟨B, 0, none⟩ = some (.string ⟨#[109]⟩) := by subst hB; simp [go_sem]
  have m1 : (w.alloc (.cells #[.string ⟨#[109]⟩, .string ⟨#[]⟩] 24)).cell? ⟨B, 1, none⟩ = some (.string ⟨#[]⟩) := by subst hB; simp [go_sem]
  have HR := Lib.hid (hr.aft ((Aft.refl w).alloc (.cells #[.string ⟨#[109]⟩, .string ⟨#[]⟩] 24)))
  have HA := Lib.hid ((Aft.refl w).alloc (.cells #[.string ⟨#[109]⟩, .string ⟨#[]⟩] 24))
  obtain ⟨a1, c1, b1, o1, rfl, _, _, _⟩ := hr.open
  have HM := Lib.hid (And.intro m0 m1)
  have HBZ := Lib.hid hbz
  clear hr m0 m1 hbz hB
  go_enter Tryd.func6, Tryd.ntmps6
  go_wp2_with (first | (at_make; refine wpList_make_full _ rfl _ _ 22 rfl (B + 1) 24 i0 (.agg #[.string ⟨#[]⟩, .string ⟨#[]⟩]) 2 Tryd.underlying22 hi hz0 hz1 .i64 .i64 _ _ (l.length + 80) rfl rfl (by push_cast; rfl) (by push_cast; rfl) hb2 hb3 (Nat.le_of_eq HBZ.out.symm) ?_; intro w3 hown3 hg3; rw [HBZ.out] at hown3; rw [made_fv] at hown3; have HBK : Hid (FB w3 (B + 1) (List.replicate (l.length + 80) ([], []))) := Lib.hid (own_blockF hown3); have HR3 := Lib.hid (HR.out.aft (Below.grown (Below.refl _ _) hg3 (Nat.le_refl _) (fun k hk => by cases hk))); have HBE := Lib.hid (Below.grown (Below.refl (B + 1) _) hg3 (Nat.le_of_eq HBZ.out.symm) (fun k hk => by cases hk)); rw [HBZ.out, HB.out]; clear hown3 hg3) | (with_reducible refine wpList_copyF rfl (.tmp 11) (.tmp 12) rfl (B + 1) _ l ?r4 ?r5 HR3.out HBK.out (B + 1) _ HBE.out (Nat.le_refl _) ?r6))
  case r4 => rfl
  case r5 => rfl
  case r6 =>
    intro w4 hb4 hbel4
    have hm0 := HM.out.1
    have hm1 := HM.out.2
    have hA := HA.out
    have hZ := HBZ.out
    clear HM HA HBZ HBK HR3 HBE HR hi hz0 hz1 hz2 hb2
    generalize w.alloc (.cells #[.string ⟨#[109]⟩, .string ⟨#[]⟩] 24) = W1 at hm0 hm1 hA hZ hbel4
    have H4 := Lib.hid hb4
    have HM0 := Lib.hid hm0
    have HM1 := Lib.hid hm1
    have HA := Lib.hid hA
    have HZ := Lib.hid hZ
    clear hb4 hm0 hm1 hA hZ
    have hl63 : l.length + 80 ≤ 9000000000000 := by omega
    clear hb3
    go_wp2_with fail
    go_loopw [6] (fun vi wr => ∃ j : Nat, j ≤ 80 ∧ vi = .int .i64 ((l.length + j : Nat) : Int) ∧ Hid (FB wr (B + 1) (markedF l j)) ∧ Hid (Below (B + 1) W1 wr)) (fun vi _ => l.length + 80 - (intOf vi).toNat)
    case atStart => exact ⟨0, by omega, by go_num, H4, Lib.hid hbel4⟩
    case round =>
      obtain ⟨j, hj, rfl, HB4, hbel⟩ := hrel
      by_cases hlt : j < 80
      · have hjl : l.length + j < (markedF l j).length := by rw [markedF_len l hj]; omega
        obtain ⟨hc0, hc1⟩ := HB4.out.cell hjl
        have hf0 : wr.frozen? ⟨B + 1, (l.length + j) * 2, none⟩ = false := HB4.out.free _
        have hf1 : wr.frozen? ⟨B + 1, (l.length + j) * 2 + 1, none⟩ = false := HB4.out.free _
        have hx0 : wr.cell? ⟨B, 0, none⟩ = some (.string ⟨#[109]⟩) := by rw [Below.cell hbel.out (p := ⟨B, 0, none⟩) (Nat.lt_succ_self _)]; exact HM0.out
        have hx1 : wr.cell? ⟨B, 1, none⟩ = some (.string ⟨#[]⟩) := by rw [Below.cell hbel.out (p := ⟨B, 1, none⟩) (Nat.lt_succ_self _)]; exact HM1.out
        have hset := HB4.out.put hjl markF
        rw [markedF_set l hlt] at hset
        generalize strV ((markedF l j)[l.length + j]).1 = o0 at hc0
        generalize strV ((markedF l j)[l.length + j]).2 = o1' at hc1
        have HS := Lib.hid hset
        clear hset
        have q1 : ((l.length + j : Nat) : Int) < ((l.length + 80 : Nat) : Int) := by omega
        go_wp2_with fail
        go_roundw
        case rel => exact ⟨j + 1, by omega, by go_num, HS, Lib.hid ((hbel.out.setCell (Nat.le_refl _) _).setCell (Nat.le_refl _) _)⟩
        case measure => simp [intOf] <;> omega
      · have hj8 : j = 80 := by omega
        subst hj8
        go_wp2_with fail
        go_ret
        refine ⟨B + 1, rfl, ?_, HA.out.trans (below_aftF hbel.out HZ.out)⟩
        have := HB4
        unfold markedF at this
        simpa using this
set_option maxHeartbeats 2000000 in
theorem intactF_big (v1 v2 : Value) (l : List FieldL) (w : World) (h1 : RbF w v1 (l ++ List.replicate 80 markF)) (h2 : RbF w v2 l) (hlen : l.length ≤ 4398046511104) :
    Calls Tryd.prog 10 #[v1, v2, .agg #[.string ⟨#[109]⟩, .string ⟨#[]⟩]] w fun e w' => e = .returned (.bool true) ∧ Aft w w' := by
  rcases h1 with ⟨_, h⟩ | ⟨b, off, cap, rfl, g1, g2, g3, g4⟩
  · have := congrArg List.length h
    simp at this
  · have hll : (l ++ List.replicate 80 markF).length = l.length + 80 := by simp
    have hcut : RbF w (.slice (some ⟨b, off, none⟩) l.length cap) l := by
      refine Or.inr ⟨b, off, cap, rfl, by omega, g2, g3, fun i hi => ?_⟩
      have := g4 i (by omega)
      rw [List.getElem_append_left hi] at this
      exact this
    have hmk0 : ∀ j, j < 80 → w.cell? ⟨b, off + (l.length + j) * 2, none⟩ = some (.string ⟨#[109]⟩) := by
      intro j hj
      have := (g4 (l.length + j) (by omega)).1
      rw [this, List.getElem_append_right (by omega), List.getElem_replicate]
      rfl
    have hmk1 : ∀ j, j < 80 → w.cell? ⟨b, off + (l.length + j) * 2 + 1, none⟩ = some (.string ⟨#[]⟩) := by
      intro j hj
      have := (g4 (l.length + j) (by omega)).2
      rw [this, List.getElem_append_right (by omega), List.getElem_replicate]
      rfl
    rw [hll] at g1 ⊢
    obtain ⟨a2, cap2, b2, off2, rfl, m2, _, _, _⟩ := h2.open
    unfold maxLen at g2
    have hb0 : (((l.length + 80 : Nat) : Int) != (l.length : Int) + 80) = false := by rw [bne_eq_false_iff_eq]; omega
    obtain ⟨B, hB⟩ : ∃ B, w.heap.size = B := ⟨_, rfl⟩
    have HB := Lib.hid hB
    have hA := (Aft.refl w).alloc (.cells #[.string ⟨#[109]⟩, .string ⟨#[]⟩] 24)
    have m0 : (w.alloc (.cells #[.string ⟨#[109]⟩, .string ⟨#[]⟩] 24)).cell? ⟨B, 0, none⟩ = some (.string ⟨#[109]⟩) := by subst hB; simp [go_sem]
    have m1 : (w.alloc (.cells #[.string ⟨#[109]⟩, .string ⟨#[]⟩] 24)).cell? ⟨B, 1, none⟩ = some (.string ⟨#[]⟩) := by subst hB; simp [go_sem]
    have HBZ : Hid (B < (w.alloc (.cells #[.string ⟨#[109]⟩, .string ⟨#[]⟩] 24)).heap.size) := Lib.hid (by rw [World.size_alloc, hB]; omega)
    have HC := Lib.hid (hcut.aft hA)
    have H2 := Lib.hid (h2.aft hA)
    have HM0 := Lib.hid hmk0
    have HM1 := Lib.hid hmk1
    have HA := Lib.hid hA
    have HX := Lib.hid (And.intro m0 m1)
    clear hcut hmk0 hmk1 h2 g4 hll m2 m0 m1 hA hB
    go_enter Tryd.func10, Tryd.ntmps10
    go_wp2_with fail
    rw [HB.out]
    refine (sameF_any _ _ l _ HC.out H2.out).mono ?_
    rintro e w1 ⟨rfl, b1⟩
    have hx := HX.out
    have hA := HA.out
    have hZ := HBZ.out
    clear HX HA HBZ HC H2
    generalize w.alloc (.cells #[.string ⟨#[109]⟩, .string ⟨#[]⟩] 24) = W1 at hx hA hZ b1
    have hx0 : w1.cell? ⟨B, 0, none⟩ = some (.string ⟨#[109]⟩) := by rw [Below.cell b1.to (p := ⟨B, 0, none⟩) hZ]; exact hx.1
    have hx1 : w1.cell? ⟨B, 1, none⟩ = some (.string ⟨#[]⟩) := by rw [Below.cell b1.to (p := ⟨B, 1, none⟩) hZ]; exact hx.2
    have HX0 := Lib.hid hx0
    have HX1 := Lib.hid hx1
    have HA := Lib.hid (hA.trans b1)
    have HZ := Lib.hid (Nat.lt_of_lt_of_le hZ b1.size)
    clear hx hx0 hx1 hA hZ b1
    go_wp2_with fail
    go_loopw [7] (fun vi wr => ∃ j : Nat, j ≤ 80 ∧ vi = .int .i64 ((l.length + j : Nat) : Int) ∧ Hid (Aft w1 wr)) (fun vi _ => l.length + 80 - (intOf vi).toNat)
    case atStart => exact ⟨0, by omega, by go_num, Lib.hid (Aft.refl _)⟩
    case round =>
      obtain ⟨j, hj, rfl, HW⟩ := hrel
      by_cases hlt : j < 80
      · have c0 : wr.cell? ⟨b, off + (l.length + j) * 2, none⟩ = some (.string ⟨#[109]⟩) := by
          rw [Below.cell (HA.out.trans HW.out).to (p := ⟨b, off + (l.length + j) * 2, none⟩) g3]
          exact HM0.out j hlt
        have c1 : wr.cell? ⟨b, off + (l.length + j) * 2 + 1, none⟩ = some (.string ⟨#[]⟩) := by
          rw [Below.cell (HA.out.trans HW.out).to (p := ⟨b, off + (l.length + j) * 2 + 1, none⟩) g3]
          exact HM1.out j hlt
        have d0 : wr.cell? ⟨B, 0, none⟩ = some (.string ⟨#[109]⟩) := by rw [Below.cell HW.out.to (p := ⟨B, 0, none⟩) HZ.out]; exact HX0.out
        have d1 : wr.cell? ⟨B, 1, none⟩ = some (.string ⟨#[]⟩) := by rw [Below.cell HW.out.to (p := ⟨B, 1, none⟩) HZ.out]; exact HX1.out
        have q1 : ((l.length + j : Nat) : Int) < ((l.length + 80 : Nat) : Int) := by omega
        go_wp2_with fail
        go_quiet (fail)
        go_wp2_with fail
        go_roundw
        case rel => exact ⟨j + 1, by omega, by go_num, Lib.hid (HW.out.drewN _)⟩
        case measure => simp [intOf] <;> omega
      · have hj8 : j = 80 := by omega
        subst hj8
        go_wp2_with fail
        go_ret
        exact ⟨rfl, HA.out.trans HW.out⟩
end Go.Proofs.YtahjoiphajkdcaaDoor
