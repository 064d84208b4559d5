/-
  TopMany returns true.
-/
import Derived.Test.YtoeeackjlclneaaGreatDoorTmRun1
import Derived.Test.YtoeeackjlclneaaGreatDoorTmRun2
import Derived.Test.YtoeeackjlclneaaGreatDoorTmRun3
import Derived.Test.YtoeeackjlclneaaGreatDoorTmRun4
import Derived.Test.YtoeeackjlclneaaGreatDoorTmRun5
import Derived.Test.YtoeeackjlclneaaGreatDoorTmRun6
import Derived.Test.YtoeeackjlclneaaGreatDoorTmRun7
import Derived.Test.YtoeeackjlclneaaGreatDoorTmRun8
import Derived.Test.YtoeeackjlclneaaGreatDoorTmRun9
import Derived.Test.YtoeeackjlclneaaGreatDoorTmRun10
import Derived.Test.YtoeeackjlclneaaGreatDoorTmRun11
import Derived.Test.YtoeeackjlclneaaGreatDoorTmRun12
namespace Go.Proofs.YtoeeackjlclneaaGreatDoor
open Go.RowKit
set_option linter.unusedVariables false

theorem runs_o : ∀ k ∈ [1, 2, 3, 4, 5, 6, 7, 8], tmR (vmO k k 1 1000) (.vy 0) = .v (.vb true) .e 0 ∧ tmR (vmO k k 0 0) (.vs []) = .v (.vb true) .e 0 := by
  intro k hk
  simp only [List.mem_cons, List.not_mem_nil, or_false] at hk
  rcases hk with rfl | rfl | rfl | rfl | rfl | rfl | rfl | rfl
  · exact ⟨rO_1_t, rO_1_e⟩
  · exact ⟨rO_2_t, rO_2_e⟩
  · exact ⟨rO_3_t, rO_3_e⟩
  · exact ⟨rO_4_t, rO_4_e⟩
  · exact ⟨rO_5_t, rO_5_e⟩
  · exact ⟨rO_6_t, rO_6_e⟩
  · exact ⟨rO_7_t, rO_7_e⟩
  · exact ⟨rO_8_t, rO_8_e⟩
theorem runs_k2 : ∀ u ∈ [1], tmR (vmK 2 u 1 1000) (.vy 0) = .v (.vb true) .e 0 ∧ tmR (vmK 2 u 0 0) (.vs []) = .v (.vb true) .e 0 := by
  intro u hu
  simp only [List.mem_cons, List.not_mem_nil, or_false] at hu
  subst hu
  exact ⟨rK_2_1_t, rK_2_1_e⟩
theorem runs_k3 : ∀ u ∈ [1, 2], tmR (vmK 3 u 1 1000) (.vy 0) = .v (.vb true) .e 0 ∧ tmR (vmK 3 u 0 0) (.vs []) = .v (.vb true) .e 0 := by
  intro u hu
  simp only [List.mem_cons, List.not_mem_nil, or_false] at hu
  rcases hu with rfl | rfl
  · exact ⟨rK_3_1_t, rK_3_1_e⟩
  · exact ⟨rK_3_2_t, rK_3_2_e⟩
theorem runs_k4 : ∀ u ∈ [1, 2, 3], tmR (vmK 4 u 1 1000) (.vy 0) = .v (.vb true) .e 0 ∧ tmR (vmK 4 u 0 0) (.vs []) = .v (.vb true) .e 0 := by
  intro u hu
  simp only [List.mem_cons, List.not_mem_nil, or_false] at hu
  rcases hu with rfl | rfl | rfl
  · exact ⟨rK_4_1_t, rK_4_1_e⟩
  · exact ⟨rK_4_2_t, rK_4_2_e⟩
  · exact ⟨rK_4_3_t, rK_4_3_e⟩
theorem runs_k5 : ∀ u ∈ [1, 2, 3, 4], tmR (vmK 5 u 1 1000) (.vy 0) = .v (.vb true) .e 0 ∧ tmR (vmK 5 u 0 0) (.vs []) = .v (.vb true) .e 0 := by
  intro u hu
  simp only [List.mem_cons, List.not_mem_nil, or_false] at hu
  rcases hu with rfl | rfl | rfl | rfl
  · exact ⟨rK_5_1_t, rK_5_1_e⟩
  · exact ⟨rK_5_2_t, rK_5_2_e⟩
  · exact ⟨rK_5_3_t, rK_5_3_e⟩
  · exact ⟨rK_5_4_t, rK_5_4_e⟩
theorem runs_k6 : ∀ u ∈ [1, 2, 3, 4, 5], tmR (vmK 6 u 1 1000) (.vy 0) = .v (.vb true) .e 0 ∧ tmR (vmK 6 u 0 0) (.vs []) = .v (.vb true) .e 0 := by
  intro u hu
  simp only [List.mem_cons, List.not_mem_nil, or_false] at hu
  rcases hu with rfl | rfl | rfl | rfl | rfl
  · exact ⟨rK_6_1_t, rK_6_1_e⟩
  · exact ⟨rK_6_2_t, rK_6_2_e⟩
  · exact ⟨rK_6_3_t, rK_6_3_e⟩
  · exact ⟨rK_6_4_t, rK_6_4_e⟩
  · exact ⟨rK_6_5_t, rK_6_5_e⟩
theorem runs_k7 : ∀ u ∈ [1, 2, 3, 4, 5, 6], tmR (vmK 7 u 1 1000) (.vy 0) = .v (.vb true) .e 0 ∧ tmR (vmK 7 u 0 0) (.vs []) = .v (.vb true) .e 0 := by
  intro u hu
  simp only [List.mem_cons, List.not_mem_nil, or_false] at hu
  rcases hu with rfl | rfl | rfl | rfl | rfl | rfl
  · exact ⟨rK_7_1_t, rK_7_1_e⟩
  · exact ⟨rK_7_2_t, rK_7_2_e⟩
  · exact ⟨rK_7_3_t, rK_7_3_e⟩
  · exact ⟨rK_7_4_t, rK_7_4_e⟩
  · exact ⟨rK_7_5_t, rK_7_5_e⟩
  · exact ⟨rK_7_6_t, rK_7_6_e⟩
theorem runs_k8 : ∀ u ∈ [1, 2, 3, 4, 5, 6, 7], tmR (vmK 8 u 1 1000) (.vy 0) = .v (.vb true) .e 0 ∧ tmR (vmK 8 u 0 0) (.vs []) = .v (.vb true) .e 0 := by
  intro u hu
  simp only [List.mem_cons, List.not_mem_nil, or_false] at hu
  rcases hu with rfl | rfl | rfl | rfl | rfl | rfl | rfl
  · exact ⟨rK_8_1_t, rK_8_1_e⟩
  · exact ⟨rK_8_2_t, rK_8_2_e⟩
  · exact ⟨rK_8_3_t, rK_8_3_e⟩
  · exact ⟨rK_8_4_t, rK_8_4_e⟩
  · exact ⟨rK_8_5_t, rK_8_5_e⟩
  · exact ⟨rK_8_6_t, rK_8_6_e⟩
  · exact ⟨rK_8_7_t, rK_8_7_e⟩
theorem runs_k9 : ∀ u ∈ [1, 2, 3, 4, 5, 6, 7, 8], tmR (vmK 9 u 1 1000) (.vy 0) = .v (.vb true) .e 0 ∧ tmR (vmK 9 u 0 0) (.vs []) = .v (.vb true) .e 0 := by
  intro u hu
  simp only [List.mem_cons, List.not_mem_nil, or_false] at hu
  rcases hu with rfl | rfl | rfl | rfl | rfl | rfl | rfl | rfl
  · exact ⟨rK_9_1_t, rK_9_1_e⟩
  · exact ⟨rK_9_2_t, rK_9_2_e⟩
  · exact ⟨rK_9_3_t, rK_9_3_e⟩
  · exact ⟨rK_9_4_t, rK_9_4_e⟩
  · exact ⟨rK_9_5_t, rK_9_5_e⟩
  · exact ⟨rK_9_6_t, rK_9_6_e⟩
  · exact ⟨rK_9_7_t, rK_9_7_e⟩
  · exact ⟨rK_9_8_t, rK_9_8_e⟩
theorem runs_k10 : ∀ u ∈ [1, 2, 3, 4, 5, 6, 7, 8], tmR (vmK 10 u 1 1000) (.vy 0) = .v (.vb true) .e 0 ∧ tmR (vmK 10 u 0 0) (.vs []) = .v (.vb true) .e 0 := by
  intro u hu
  simp only [List.mem_cons, List.not_mem_nil, or_false] at hu
  rcases hu with rfl | rfl | rfl | rfl | rfl | rfl | rfl | rfl
  · exact ⟨rK_10_1_t, rK_10_1_e⟩
  · exact ⟨rK_10_2_t, rK_10_2_e⟩
  · exact ⟨rK_10_3_t, rK_10_3_e⟩
  · exact ⟨rK_10_4_t, rK_10_4_e⟩
  · exact ⟨rK_10_5_t, rK_10_5_e⟩
  · exact ⟨rK_10_6_t, rK_10_6_e⟩
  · exact ⟨rK_10_7_t, rK_10_7_e⟩
  · exact ⟨rK_10_8_t, rK_10_8_e⟩
theorem runs_k11 : ∀ u ∈ [1, 2, 3, 4, 5, 6, 7, 8], tmR (vmK 11 u 1 1000) (.vy 0) = .v (.vb true) .e 0 ∧ tmR (vmK 11 u 0 0) (.vs []) = .v (.vb true) .e 0 := by
  intro u hu
  simp only [List.mem_cons, List.not_mem_nil, or_false] at hu
  rcases hu with rfl | rfl | rfl | rfl | rfl | rfl | rfl | rfl
  · exact ⟨rK_11_1_t, rK_11_1_e⟩
  · exact ⟨rK_11_2_t, rK_11_2_e⟩
  · exact ⟨rK_11_3_t, rK_11_3_e⟩
  · exact ⟨rK_11_4_t, rK_11_4_e⟩
  · exact ⟨rK_11_5_t, rK_11_5_e⟩
  · exact ⟨rK_11_6_t, rK_11_6_e⟩
  · exact ⟨rK_11_7_t, rK_11_7_e⟩
  · exact ⟨rK_11_8_t, rK_11_8_e⟩
theorem runs_k12 : ∀ u ∈ [1, 2, 3, 4, 5, 6, 7, 8], tmR (vmK 12 u 1 1000) (.vy 0) = .v (.vb true) .e 0 ∧ tmR (vmK 12 u 0 0) (.vs []) = .v (.vb true) .e 0 := by
  intro u hu
  simp only [List.mem_cons, List.not_mem_nil, or_false] at hu
  rcases hu with rfl | rfl | rfl | rfl | rfl | rfl | rfl | rfl
  · exact ⟨rK_12_1_t, rK_12_1_e⟩
  · exact ⟨rK_12_2_t, rK_12_2_e⟩
  · exact ⟨rK_12_3_t, rK_12_3_e⟩
  · exact ⟨rK_12_4_t, rK_12_4_e⟩
  · exact ⟨rK_12_5_t, rK_12_5_e⟩
  · exact ⟨rK_12_6_t, rK_12_6_e⟩
  · exact ⟨rK_12_7_t, rK_12_7_e⟩
  · exact ⟨rK_12_8_t, rK_12_8_e⟩
theorem runs_k13 : ∀ u ∈ [1, 2, 3, 4, 5, 6, 7, 8], tmR (vmK 13 u 1 1000) (.vy 0) = .v (.vb true) .e 0 ∧ tmR (vmK 13 u 0 0) (.vs []) = .v (.vb true) .e 0 := by
  intro u hu
  simp only [List.mem_cons, List.not_mem_nil, or_false] at hu
  rcases hu with rfl | rfl | rfl | rfl | rfl | rfl | rfl | rfl
  · exact ⟨rK_13_1_t, rK_13_1_e⟩
  · exact ⟨rK_13_2_t, rK_13_2_e⟩
  · exact ⟨rK_13_3_t, rK_13_3_e⟩
  · exact ⟨rK_13_4_t, rK_13_4_e⟩
  · exact ⟨rK_13_5_t, rK_13_5_e⟩
  · exact ⟨rK_13_6_t, rK_13_6_e⟩
  · exact ⟨rK_13_7_t, rK_13_7_e⟩
  · exact ⟨rK_13_8_t, rK_13_8_e⟩
theorem runs_k14 : ∀ u ∈ [1, 2, 3, 4, 5, 6, 7, 8], tmR (vmK 14 u 1 1000) (.vy 0) = .v (.vb true) .e 0 ∧ tmR (vmK 14 u 0 0) (.vs []) = .v (.vb true) .e 0 := by
  intro u hu
  simp only [List.mem_cons, List.not_mem_nil, or_false] at hu
  rcases hu with rfl | rfl | rfl | rfl | rfl | rfl | rfl | rfl
  · exact ⟨rK_14_1_t, rK_14_1_e⟩
  · exact ⟨rK_14_2_t, rK_14_2_e⟩
  · exact ⟨rK_14_3_t, rK_14_3_e⟩
  · exact ⟨rK_14_4_t, rK_14_4_e⟩
  · exact ⟨rK_14_5_t, rK_14_5_e⟩
  · exact ⟨rK_14_6_t, rK_14_6_e⟩
  · exact ⟨rK_14_7_t, rK_14_7_e⟩
  · exact ⟨rK_14_8_t, rK_14_8_e⟩
theorem runs_k15 : ∀ u ∈ [1, 2, 3, 4, 5, 6, 7, 8], tmR (vmK 15 u 1 1000) (.vy 0) = .v (.vb true) .e 0 ∧ tmR (vmK 15 u 0 0) (.vs []) = .v (.vb true) .e 0 := by
  intro u hu
  simp only [List.mem_cons, List.not_mem_nil, or_false] at hu
  rcases hu with rfl | rfl | rfl | rfl | rfl | rfl | rfl | rfl
  · exact ⟨rK_15_1_t, rK_15_1_e⟩
  · exact ⟨rK_15_2_t, rK_15_2_e⟩
  · exact ⟨rK_15_3_t, rK_15_3_e⟩
  · exact ⟨rK_15_4_t, rK_15_4_e⟩
  · exact ⟨rK_15_5_t, rK_15_5_e⟩
  · exact ⟨rK_15_6_t, rK_15_6_e⟩
  · exact ⟨rK_15_7_t, rK_15_7_e⟩
  · exact ⟨rK_15_8_t, rK_15_8_e⟩
theorem runs_k : ∀ k u : Nat, 1 ≤ u → u ≤ 8 → u < k → k ≤ 15 → tmR (vmK k u 1 1000) (.vy 0) = .v (.vb true) .e 0 ∧ tmR (vmK k u 0 0) (.vs []) = .v (.vb true) .e 0 := by
  intro k u h1 h2 h3 h4
  have hk : k ∈ [2, 3, 4, 5, 6, 7, 8, 9, 10, 11, 12, 13, 14, 15] := by
    simp only [List.mem_cons, List.not_mem_nil, or_false]
    omega
  simp only [List.mem_cons, List.not_mem_nil, or_false] at hk
  rcases hk with rfl | rfl | rfl | rfl | rfl | rfl | rfl | rfl | rfl | rfl | rfl | rfl | rfl | rfl
  · exact runs_k2 u (by simp only [List.mem_cons, List.not_mem_nil, or_false]; omega)
  · exact runs_k3 u (by simp only [List.mem_cons, List.not_mem_nil, or_false]; omega)
  · exact runs_k4 u (by simp only [List.mem_cons, List.not_mem_nil, or_false]; omega)
  · exact runs_k5 u (by simp only [List.mem_cons, List.not_mem_nil, or_false]; omega)
  · exact runs_k6 u (by simp only [List.mem_cons, List.not_mem_nil, or_false]; omega)
  · exact runs_k7 u (by simp only [List.mem_cons, List.not_mem_nil, or_false]; omega)
  · exact runs_k8 u (by simp only [List.mem_cons, List.not_mem_nil, or_false]; omega)
  · exact runs_k9 u (by simp only [List.mem_cons, List.not_mem_nil, or_false]; omega)
  · exact runs_k10 u (by simp only [List.mem_cons, List.not_mem_nil, or_false]; omega)
  · exact runs_k11 u (by simp only [List.mem_cons, List.not_mem_nil, or_false]; omega)
  · exact runs_k12 u (by simp only [List.mem_cons, List.not_mem_nil, or_false]; omega)
  · exact runs_k13 u (by simp only [List.mem_cons, List.not_mem_nil, or_false]; omega)
  · exact runs_k14 u (by simp only [List.mem_cons, List.not_mem_nil, or_false]; omega)
  · exact runs_k15 u (by simp only [List.mem_cons, List.not_mem_nil, or_false]; omega)
theorem walk_many (w : World) (hM : MaxOk w) (hT : Lib.TabIs Tryz.prog w "internal/strconv.uint64pow10" .u64 Lib.pow10Tab) (m s : Int) (im : In64 m) (is : In64 s) (body : ByteArray) (hb : body.size ≤ 9223372036854775807) :
    Calls Tryz.prog 6 #[.int .i64 m, .int .i64 s, .string body] w fun e w' => e = .returned (.bool true) ∧ Aft w w' := by
  obtain ⟨m1, m2⟩ := wi_in (lo := 1) (hi := 15) (by decide) (by decide) m
  obtain ⟨s1, s2⟩ := wi_in (lo := 1) (hi := 8) (by decide) (by decide) s
  obtain ⟨k, hm⟩ : ∃ k : Nat, wiF m 1 15 = (k : Int) := ⟨(wiF m 1 15).toNat, by omega⟩
  obtain ⟨u, hs⟩ : ∃ u : Nat, wiF s 1 8 = (u : Int) := ⟨(wiF s 1 8).toNat, by omega⟩
  rcases Nat.lt_or_ge 1000 body.size with hl | hl
  · exact cls_l is hM hT rL hl hb hs (by omega) (by omega)
  rcases Nat.lt_or_ge u k with hc | hc
  · obtain ⟨r1, r2⟩ := runs_k k u (by omega) (by omega) hc (by omega)
    rcases Nat.eq_zero_or_pos body.size with h0 | h0
    · have hbe : body = ByteArray.empty := ByteArray.ext (Array.eq_empty_of_size_eq_zero h0)
      subst hbe
      exact cls_k im is hM hT r2 arg_nil (Nat.zero_le _) (by omega) hm hs
    · exact cls_k im is hM hT r1 (arg_open body) h0 hl hm hs
  · obtain ⟨r1, r2⟩ := runs_o k (by simp only [List.mem_cons, List.not_mem_nil, or_false]; omega)
    rcases Nat.eq_zero_or_pos body.size with h0 | h0
    · have hbe : body = ByteArray.empty := ByteArray.ext (Array.eq_empty_of_size_eq_zero h0)
      subst hbe
      exact cls_o im is hM hT r2 arg_nil (Nat.zero_le _) (by omega) hm hs hc (by omega)
    · exact cls_o im is hM hT r1 (arg_open body) h0 hl hm hs hc (by omega)
end Go.Proofs.YtoeeackjlclneaaGreatDoor
