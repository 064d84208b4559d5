/-
  TopClears returns true.
-/
import Derived.Test.YtoeeackjlclneaaGreatDoorTcRun1
import Derived.Test.YtoeeackjlclneaaGreatDoorTcRun2
import Derived.Test.YtoeeackjlclneaaGreatDoorTcRun3
import Derived.Test.YtoeeackjlclneaaGreatDoorTcRun4
import Derived.Test.YtoeeackjlclneaaGreatDoorTcRun5
import Derived.Test.YtoeeackjlclneaaGreatDoorTcRun6
import Derived.Test.YtoeeackjlclneaaGreatDoorTcRun7
import Derived.Test.YtoeeackjlclneaaGreatDoorTcRun8
namespace Go.Proofs.YtoeeackjlclneaaGreatDoor
open Go.RowKit
set_option linter.unusedVariables false

theorem runs_open : ∀ mm ∈ [2, 3, 4], ∀ e ∈ tcRanges, isT (tcO mm e.1 e.2.1 e.2.2 1 1000 (.vy 0)) = true ∧ isT (tcO mm e.1 e.2.1 e.2.2 0 0 (.vs [])) = true := by
  intro mm hm e he
  simp only [List.mem_cons, List.not_mem_nil, or_false] at hm
  unfold tcRanges at he
  simp only [List.mem_cons, List.not_mem_nil, or_false] at he
  rcases hm with rfl | rfl | rfl
  · rcases he with rfl | rfl | rfl | rfl | rfl | rfl | rfl | rfl | rfl | rfl | rfl
    · exact ⟨rO_2_201_2_t, rO_2_201_2_e⟩
    · exact ⟨rO_2_207_2_t, rO_2_207_2_e⟩
    · exact ⟨rO_2_207_3_t, rO_2_207_3_e⟩
    · exact ⟨rO_2_305_2_t, rO_2_305_2_e⟩
    · exact ⟨rO_2_305_3_t, rO_2_305_3_e⟩
    · exact ⟨rO_2_401_2_t, rO_2_401_2_e⟩
    · exact ⟨rO_2_401_3_t, rO_2_401_3_e⟩
    · exact ⟨rO_2_405_2_t, rO_2_405_2_e⟩
    · exact ⟨rO_2_405_3_t, rO_2_405_3_e⟩
    · exact ⟨rO_2_501_2_t, rO_2_501_2_e⟩
    · exact ⟨rO_2_501_3_t, rO_2_501_3_e⟩
  · rcases he with rfl | rfl | rfl | rfl | rfl | rfl | rfl | rfl | rfl | rfl | rfl
    · exact ⟨rO_3_201_2_t, rO_3_201_2_e⟩
    · exact ⟨rO_3_207_2_t, rO_3_207_2_e⟩
    · exact ⟨rO_3_207_3_t, rO_3_207_3_e⟩
    · exact ⟨rO_3_305_2_t, rO_3_305_2_e⟩
    · exact ⟨rO_3_305_3_t, rO_3_305_3_e⟩
    · exact ⟨rO_3_401_2_t, rO_3_401_2_e⟩
    · exact ⟨rO_3_401_3_t, rO_3_401_3_e⟩
    · exact ⟨rO_3_405_2_t, rO_3_405_2_e⟩
    · exact ⟨rO_3_405_3_t, rO_3_405_3_e⟩
    · exact ⟨rO_3_501_2_t, rO_3_501_2_e⟩
    · exact ⟨rO_3_501_3_t, rO_3_501_3_e⟩
  · rcases he with rfl | rfl | rfl | rfl | rfl | rfl | rfl | rfl | rfl | rfl | rfl
    · exact ⟨rO_4_201_2_t, rO_4_201_2_e⟩
    · exact ⟨rO_4_207_2_t, rO_4_207_2_e⟩
    · exact ⟨rO_4_207_3_t, rO_4_207_3_e⟩
    · exact ⟨rO_4_305_2_t, rO_4_305_2_e⟩
    · exact ⟨rO_4_305_3_t, rO_4_305_3_e⟩
    · exact ⟨rO_4_401_2_t, rO_4_401_2_e⟩
    · exact ⟨rO_4_401_3_t, rO_4_401_3_e⟩
    · exact ⟨rO_4_405_2_t, rO_4_405_2_e⟩
    · exact ⟨rO_4_405_3_t, rO_4_405_3_e⟩
    · exact ⟨rO_4_501_2_t, rO_4_501_2_e⟩
    · exact ⟨rO_4_501_3_t, rO_4_501_3_e⟩
theorem runs_known : ∀ mm ∈ [2, 3, 4], ∀ v ∈ tcSingles, isT (tcK mm v 1 1000 (.vy 0)) = true ∧ isT (tcK mm v 0 0 (.vs [])) = true := by
  intro mm hm v hv
  simp only [List.mem_cons, List.not_mem_nil, or_false] at hm
  unfold tcSingles at hv
  simp only [List.mem_cons, List.not_mem_nil, or_false] at hv
  rcases hm with rfl | rfl | rfl
  · rcases hv with rfl | rfl | rfl | rfl | rfl | rfl | rfl | rfl
    · exact ⟨rK_2_200_t, rK_2_200_e⟩
    · exact ⟨rK_2_204_t, rK_2_204_e⟩
    · exact ⟨rK_2_205_t, rK_2_205_e⟩
    · exact ⟨rK_2_206_t, rK_2_206_e⟩
    · exact ⟨rK_2_304_t, rK_2_304_e⟩
    · exact ⟨rK_2_400_t, rK_2_400_e⟩
    · exact ⟨rK_2_404_t, rK_2_404_e⟩
    · exact ⟨rK_2_500_t, rK_2_500_e⟩
  · rcases hv with rfl | rfl | rfl | rfl | rfl | rfl | rfl | rfl
    · exact ⟨rK_3_200_t, rK_3_200_e⟩
    · exact ⟨rK_3_204_t, rK_3_204_e⟩
    · exact ⟨rK_3_205_t, rK_3_205_e⟩
    · exact ⟨rK_3_206_t, rK_3_206_e⟩
    · exact ⟨rK_3_304_t, rK_3_304_e⟩
    · exact ⟨rK_3_400_t, rK_3_400_e⟩
    · exact ⟨rK_3_404_t, rK_3_404_e⟩
    · exact ⟨rK_3_500_t, rK_3_500_e⟩
  · rcases hv with rfl | rfl | rfl | rfl | rfl | rfl | rfl | rfl
    · exact ⟨rK_4_200_t, rK_4_200_e⟩
    · exact ⟨rK_4_204_t, rK_4_204_e⟩
    · exact ⟨rK_4_205_t, rK_4_205_e⟩
    · exact ⟨rK_4_206_t, rK_4_206_e⟩
    · exact ⟨rK_4_304_t, rK_4_304_e⟩
    · exact ⟨rK_4_400_t, rK_4_400_e⟩
    · exact ⟨rK_4_404_t, rK_4_404_e⟩
    · exact ⟨rK_4_500_t, rK_4_500_e⟩
theorem range_ok : ∀ e ∈ tcRanges, farNe e.1 e.2.1 = true ∧ 200 ≤ e.1 ∧ e.2.1 < 600 ∧ 0 < e.2.2 := by decide
theorem walk_clears (w : World) (hM : MaxOk w) (hT : Lib.TabIs Tryz.prog w "internal/strconv.uint64pow10" .u64 Lib.pow10Tab) (m s : Int) (im : In64 m) (is : In64 s) (body : ByteArray) (hb : body.size ≤ 9223372036854775807) :
    Calls Tryz.prog 3 #[.int .i64 m, .int .i64 s, .string body] w fun e w' => e = .returned (.bool true) ∧ Aft w w' := by
  obtain ⟨m1, m2⟩ := wi_in (lo := 2) (hi := 4) (by decide) (by decide) m
  obtain ⟨s1, s2⟩ := wi_in (lo := 200) (hi := 599) (by decide) (by decide) s
  obtain ⟨mm, hm⟩ : ∃ mm : Nat, wiF m 2 4 = (mm : Int) := ⟨(wiF m 2 4).toNat, by omega⟩
  obtain ⟨n, hn⟩ : ∃ n : Nat, wiF s 200 599 = (n : Int) := ⟨(wiF s 200 599).toNat, by omega⟩
  have hmm : mm ∈ [2, 3, 4] := by
    simp only [List.mem_cons, List.not_mem_nil, or_false]
    omega
  rcases Nat.lt_or_ge 1000 body.size with hl | hl
  · exact cls_long rL hl hb hM hT
  rcases cover_at (i := n) (by omega) (by omega) with hc | ⟨e, he, h1, h2, hk⟩
  · obtain ⟨r1, r2⟩ := runs_known mm hmm n hc
    rcases Nat.eq_zero_or_pos body.size with h0 | h0
    · have hbe : body = ByteArray.empty := ByteArray.ext (Array.eq_empty_of_size_eq_zero h0)
      subst hbe
      exact cls_known r2 im is arg_nil (Nat.zero_le _) (by omega) hm hn hM hT
    · exact cls_known r1 im is (arg_open body) h0 hl hm hn hM hT
  · obtain ⟨r1, r2⟩ := runs_open mm hmm e he
    obtain ⟨k1, k2, k3, k4⟩ := range_ok e he
    rcases Nat.eq_zero_or_pos body.size with h0 | h0
    · have hbe : body = ByteArray.empty := ByteArray.ext (Array.eq_empty_of_size_eq_zero h0)
      subst hbe
      exact cls_open r2 k1 k2 k3 k4 im is arg_nil (Nat.zero_le _) (by omega) hm hn h1 h2 hk hM hT
    · exact cls_open r1 k1 k2 k3 k4 im is (arg_open body) h0 hl hm hn h1 h2 hk hM hT
end Go.Proofs.YtoeeackjlclneaaGreatDoor
