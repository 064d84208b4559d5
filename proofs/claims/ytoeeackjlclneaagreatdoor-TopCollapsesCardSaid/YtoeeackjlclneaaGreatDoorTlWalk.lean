/-
  TopCollapses returns true.
-/
import Derived.Test.YtoeeackjlclneaaGreatDoorTlRun1
import Derived.Test.YtoeeackjlclneaaGreatDoorTlRun2
import Derived.Test.YtoeeackjlclneaaGreatDoorTlRun3
import Derived.Test.YtoeeackjlclneaaGreatDoorTlRun4
import Derived.Test.YtoeeackjlclneaaGreatDoorTlRun5
import Derived.Test.YtoeeackjlclneaaGreatDoorTlRun6
import Derived.Test.YtoeeackjlclneaaGreatDoorTlRun7
import Derived.Test.YtoeeackjlclneaaGreatDoorTlRun8
import Derived.Test.YtoeeackjlclneaaGreatDoorTlRun9
import Derived.Test.YtoeeackjlclneaaGreatDoorTlRun10
import Derived.Test.YtoeeackjlclneaaGreatDoorTlRun11
import Derived.Test.YtoeeackjlclneaaGreatDoorTlRun12
import Derived.Test.YtoeeackjlclneaaGreatDoorTlRun13
import Derived.Test.YtoeeackjlclneaaGreatDoorTlRun14
import Derived.Test.YtoeeackjlclneaaGreatDoorTlRun15
import Derived.Test.YtoeeackjlclneaaGreatDoorTlRun16
import Derived.Test.YtoeeackjlclneaaGreatDoorTlRun17
import Derived.Test.YtoeeackjlclneaaGreatDoorTlRun18
import Derived.Test.YtoeeackjlclneaaGreatDoorTlRun19
import Derived.Test.YtoeeackjlclneaaGreatDoorTlRun20
import Derived.Test.YtoeeackjlclneaaGreatDoorTlRun21
import Derived.Test.YtoeeackjlclneaaGreatDoorTlRun22
import Derived.Test.YtoeeackjlclneaaGreatDoorTlRun23
import Derived.Test.YtoeeackjlclneaaGreatDoorTlRun24
namespace Go.Proofs.YtoeeackjlclneaaGreatDoor
open Go.RowKit
set_option linter.unusedVariables false

def clsL : List (Nat × Nat) := [(1, 7), (2, 7), (2, 8), (3, 8), (4, 9), (5, 9), (5, 10), (6, 10), (6, 11), (7, 11)]
def RunOk (k d c : Nat) : Prop := tlR (vlA k d c 1 3000) (.vy 0) = .v (.vb true) .e 0 ∧ tlR (vlA k d c 0 0) (.vs []) = .v (.vb true) .e 0
theorem runs_1 : ∀ x ∈ clsL, RunOk 1 x.1 x.2 := by
  intro x hx
  simp only [clsL, List.mem_cons, List.not_mem_nil, or_false] at hx
  rcases hx with rfl | rfl | rfl | rfl | rfl | rfl | rfl | rfl | rfl | rfl
  · exact ⟨r1_1_7_t, r1_1_7_e⟩
  · exact ⟨r1_2_7_t, r1_2_7_e⟩
  · exact ⟨r1_2_8_t, r1_2_8_e⟩
  · exact ⟨r1_3_8_t, r1_3_8_e⟩
  · exact ⟨r1_4_9_t, r1_4_9_e⟩
  · exact ⟨r1_5_9_t, r1_5_9_e⟩
  · exact ⟨r1_5_10_t, r1_5_10_e⟩
  · exact ⟨r1_6_10_t, r1_6_10_e⟩
  · exact ⟨r1_6_11_t, r1_6_11_e⟩
  · exact ⟨r1_7_11_t, r1_7_11_e⟩
theorem runs_2 : ∀ x ∈ clsL, RunOk 2 x.1 x.2 := by
  intro x hx
  simp only [clsL, List.mem_cons, List.not_mem_nil, or_false] at hx
  rcases hx with rfl | rfl | rfl | rfl | rfl | rfl | rfl | rfl | rfl | rfl
  · exact ⟨r2_1_7_t, r2_1_7_e⟩
  · exact ⟨r2_2_7_t, r2_2_7_e⟩
  · exact ⟨r2_2_8_t, r2_2_8_e⟩
  · exact ⟨r2_3_8_t, r2_3_8_e⟩
  · exact ⟨r2_4_9_t, r2_4_9_e⟩
  · exact ⟨r2_5_9_t, r2_5_9_e⟩
  · exact ⟨r2_5_10_t, r2_5_10_e⟩
  · exact ⟨r2_6_10_t, r2_6_10_e⟩
  · exact ⟨r2_6_11_t, r2_6_11_e⟩
  · exact ⟨r2_7_11_t, r2_7_11_e⟩
theorem runs_3 : ∀ x ∈ clsL, RunOk 3 x.1 x.2 := by
  intro x hx
  simp only [clsL, List.mem_cons, List.not_mem_nil, or_false] at hx
  rcases hx with rfl | rfl | rfl | rfl | rfl | rfl | rfl | rfl | rfl | rfl
  · exact ⟨r3_1_7_t, r3_1_7_e⟩
  · exact ⟨r3_2_7_t, r3_2_7_e⟩
  · exact ⟨r3_2_8_t, r3_2_8_e⟩
  · exact ⟨r3_3_8_t, r3_3_8_e⟩
  · exact ⟨r3_4_9_t, r3_4_9_e⟩
  · exact ⟨r3_5_9_t, r3_5_9_e⟩
  · exact ⟨r3_5_10_t, r3_5_10_e⟩
  · exact ⟨r3_6_10_t, r3_6_10_e⟩
  · exact ⟨r3_6_11_t, r3_6_11_e⟩
  · exact ⟨r3_7_11_t, r3_7_11_e⟩
theorem runs_4 : ∀ x ∈ clsL, RunOk 4 x.1 x.2 := by
  intro x hx
  simp only [clsL, List.mem_cons, List.not_mem_nil, or_false] at hx
  rcases hx with rfl | rfl | rfl | rfl | rfl | rfl | rfl | rfl | rfl | rfl
  · exact ⟨r4_1_7_t, r4_1_7_e⟩
  · exact ⟨r4_2_7_t, r4_2_7_e⟩
  · exact ⟨r4_2_8_t, r4_2_8_e⟩
  · exact ⟨r4_3_8_t, r4_3_8_e⟩
  · exact ⟨r4_4_9_t, r4_4_9_e⟩
  · exact ⟨r4_5_9_t, r4_5_9_e⟩
  · exact ⟨r4_5_10_t, r4_5_10_e⟩
  · exact ⟨r4_6_10_t, r4_6_10_e⟩
  · exact ⟨r4_6_11_t, r4_6_11_e⟩
  · exact ⟨r4_7_11_t, r4_7_11_e⟩
theorem runs_5 : ∀ x ∈ clsL, RunOk 5 x.1 x.2 := by
  intro x hx
  simp only [clsL, List.mem_cons, List.not_mem_nil, or_false] at hx
  rcases hx with rfl | rfl | rfl | rfl | rfl | rfl | rfl | rfl | rfl | rfl
  · exact ⟨r5_1_7_t, r5_1_7_e⟩
  · exact ⟨r5_2_7_t, r5_2_7_e⟩
  · exact ⟨r5_2_8_t, r5_2_8_e⟩
  · exact ⟨r5_3_8_t, r5_3_8_e⟩
  · exact ⟨r5_4_9_t, r5_4_9_e⟩
  · exact ⟨r5_5_9_t, r5_5_9_e⟩
  · exact ⟨r5_5_10_t, r5_5_10_e⟩
  · exact ⟨r5_6_10_t, r5_6_10_e⟩
  · exact ⟨r5_6_11_t, r5_6_11_e⟩
  · exact ⟨r5_7_11_t, r5_7_11_e⟩
theorem runs_6 : ∀ x ∈ clsL, RunOk 6 x.1 x.2 := by
  intro x hx
  simp only [clsL, List.mem_cons, List.not_mem_nil, or_false] at hx
  rcases hx with rfl | rfl | rfl | rfl | rfl | rfl | rfl | rfl | rfl | rfl
  · exact ⟨r6_1_7_t, r6_1_7_e⟩
  · exact ⟨r6_2_7_t, r6_2_7_e⟩
  · exact ⟨r6_2_8_t, r6_2_8_e⟩
  · exact ⟨r6_3_8_t, r6_3_8_e⟩
  · exact ⟨r6_4_9_t, r6_4_9_e⟩
  · exact ⟨r6_5_9_t, r6_5_9_e⟩
  · exact ⟨r6_5_10_t, r6_5_10_e⟩
  · exact ⟨r6_6_10_t, r6_6_10_e⟩
  · exact ⟨r6_6_11_t, r6_6_11_e⟩
  · exact ⟨r6_7_11_t, r6_7_11_e⟩
theorem runs_7 : ∀ x ∈ clsL, RunOk 7 x.1 x.2 := by
  intro x hx
  simp only [clsL, List.mem_cons, List.not_mem_nil, or_false] at hx
  rcases hx with rfl | rfl | rfl | rfl | rfl | rfl | rfl | rfl | rfl | rfl
  · exact ⟨r7_1_7_t, r7_1_7_e⟩
  · exact ⟨r7_2_7_t, r7_2_7_e⟩
  · exact ⟨r7_2_8_t, r7_2_8_e⟩
  · exact ⟨r7_3_8_t, r7_3_8_e⟩
  · exact ⟨r7_4_9_t, r7_4_9_e⟩
  · exact ⟨r7_5_9_t, r7_5_9_e⟩
  · exact ⟨r7_5_10_t, r7_5_10_e⟩
  · exact ⟨r7_6_10_t, r7_6_10_e⟩
  · exact ⟨r7_6_11_t, r7_6_11_e⟩
  · exact ⟨r7_7_11_t, r7_7_11_e⟩
theorem runs_8 : ∀ x ∈ clsL, RunOk 8 x.1 x.2 := by
  intro x hx
  simp only [clsL, List.mem_cons, List.not_mem_nil, or_false] at hx
  rcases hx with rfl | rfl | rfl | rfl | rfl | rfl | rfl | rfl | rfl | rfl
  · exact ⟨r8_1_7_t, r8_1_7_e⟩
  · exact ⟨r8_2_7_t, r8_2_7_e⟩
  · exact ⟨r8_2_8_t, r8_2_8_e⟩
  · exact ⟨r8_3_8_t, r8_3_8_e⟩
  · exact ⟨r8_4_9_t, r8_4_9_e⟩
  · exact ⟨r8_5_9_t, r8_5_9_e⟩
  · exact ⟨r8_5_10_t, r8_5_10_e⟩
  · exact ⟨r8_6_10_t, r8_6_10_e⟩
  · exact ⟨r8_6_11_t, r8_6_11_e⟩
  · exact ⟨r8_7_11_t, r8_7_11_e⟩
theorem runs_9 : ∀ x ∈ clsL, RunOk 9 x.1 x.2 := by
  intro x hx
  simp only [clsL, List.mem_cons, List.not_mem_nil, or_false] at hx
  rcases hx with rfl | rfl | rfl | rfl | rfl | rfl | rfl | rfl | rfl | rfl
  · exact ⟨r9_1_7_t, r9_1_7_e⟩
  · exact ⟨r9_2_7_t, r9_2_7_e⟩
  · exact ⟨r9_2_8_t, r9_2_8_e⟩
  · exact ⟨r9_3_8_t, r9_3_8_e⟩
  · exact ⟨r9_4_9_t, r9_4_9_e⟩
  · exact ⟨r9_5_9_t, r9_5_9_e⟩
  · exact ⟨r9_5_10_t, r9_5_10_e⟩
  · exact ⟨r9_6_10_t, r9_6_10_e⟩
  · exact ⟨r9_6_11_t, r9_6_11_e⟩
  · exact ⟨r9_7_11_t, r9_7_11_e⟩
theorem runs_10 : ∀ x ∈ clsL, RunOk 10 x.1 x.2 := by
  intro x hx
  simp only [clsL, List.mem_cons, List.not_mem_nil, or_false] at hx
  rcases hx with rfl | rfl | rfl | rfl | rfl | rfl | rfl | rfl | rfl | rfl
  · exact ⟨r10_1_7_t, r10_1_7_e⟩
  · exact ⟨r10_2_7_t, r10_2_7_e⟩
  · exact ⟨r10_2_8_t, r10_2_8_e⟩
  · exact ⟨r10_3_8_t, r10_3_8_e⟩
  · exact ⟨r10_4_9_t, r10_4_9_e⟩
  · exact ⟨r10_5_9_t, r10_5_9_e⟩
  · exact ⟨r10_5_10_t, r10_5_10_e⟩
  · exact ⟨r10_6_10_t, r10_6_10_e⟩
  · exact ⟨r10_6_11_t, r10_6_11_e⟩
  · exact ⟨r10_7_11_t, r10_7_11_e⟩
theorem runs_11 : ∀ x ∈ clsL, RunOk 11 x.1 x.2 := by
  intro x hx
  simp only [clsL, List.mem_cons, List.not_mem_nil, or_false] at hx
  rcases hx with rfl | rfl | rfl | rfl | rfl | rfl | rfl | rfl | rfl | rfl
  · exact ⟨r11_1_7_t, r11_1_7_e⟩
  · exact ⟨r11_2_7_t, r11_2_7_e⟩
  · exact ⟨r11_2_8_t, r11_2_8_e⟩
  · exact ⟨r11_3_8_t, r11_3_8_e⟩
  · exact ⟨r11_4_9_t, r11_4_9_e⟩
  · exact ⟨r11_5_9_t, r11_5_9_e⟩
  · exact ⟨r11_5_10_t, r11_5_10_e⟩
  · exact ⟨r11_6_10_t, r11_6_10_e⟩
  · exact ⟨r11_6_11_t, r11_6_11_e⟩
  · exact ⟨r11_7_11_t, r11_7_11_e⟩
theorem runs_12 : ∀ x ∈ clsL, RunOk 12 x.1 x.2 := by
  intro x hx
  simp only [clsL, List.mem_cons, List.not_mem_nil, or_false] at hx
  rcases hx with rfl | rfl | rfl | rfl | rfl | rfl | rfl | rfl | rfl | rfl
  · exact ⟨r12_1_7_t, r12_1_7_e⟩
  · exact ⟨r12_2_7_t, r12_2_7_e⟩
  · exact ⟨r12_2_8_t, r12_2_8_e⟩
  · exact ⟨r12_3_8_t, r12_3_8_e⟩
  · exact ⟨r12_4_9_t, r12_4_9_e⟩
  · exact ⟨r12_5_9_t, r12_5_9_e⟩
  · exact ⟨r12_5_10_t, r12_5_10_e⟩
  · exact ⟨r12_6_10_t, r12_6_10_e⟩
  · exact ⟨r12_6_11_t, r12_6_11_e⟩
  · exact ⟨r12_7_11_t, r12_7_11_e⟩
theorem runs_13 : ∀ x ∈ clsL, RunOk 13 x.1 x.2 := by
  intro x hx
  simp only [clsL, List.mem_cons, List.not_mem_nil, or_false] at hx
  rcases hx with rfl | rfl | rfl | rfl | rfl | rfl | rfl | rfl | rfl | rfl
  · exact ⟨r13_1_7_t, r13_1_7_e⟩
  · exact ⟨r13_2_7_t, r13_2_7_e⟩
  · exact ⟨r13_2_8_t, r13_2_8_e⟩
  · exact ⟨r13_3_8_t, r13_3_8_e⟩
  · exact ⟨r13_4_9_t, r13_4_9_e⟩
  · exact ⟨r13_5_9_t, r13_5_9_e⟩
  · exact ⟨r13_5_10_t, r13_5_10_e⟩
  · exact ⟨r13_6_10_t, r13_6_10_e⟩
  · exact ⟨r13_6_11_t, r13_6_11_e⟩
  · exact ⟨r13_7_11_t, r13_7_11_e⟩
theorem runs_14 : ∀ x ∈ clsL, RunOk 14 x.1 x.2 := by
  intro x hx
  simp only [clsL, List.mem_cons, List.not_mem_nil, or_false] at hx
  rcases hx with rfl | rfl | rfl | rfl | rfl | rfl | rfl | rfl | rfl | rfl
  · exact ⟨r14_1_7_t, r14_1_7_e⟩
  · exact ⟨r14_2_7_t, r14_2_7_e⟩
  · exact ⟨r14_2_8_t, r14_2_8_e⟩
  · exact ⟨r14_3_8_t, r14_3_8_e⟩
  · exact ⟨r14_4_9_t, r14_4_9_e⟩
  · exact ⟨r14_5_9_t, r14_5_9_e⟩
  · exact ⟨r14_5_10_t, r14_5_10_e⟩
  · exact ⟨r14_6_10_t, r14_6_10_e⟩
  · exact ⟨r14_6_11_t, r14_6_11_e⟩
  · exact ⟨r14_7_11_t, r14_7_11_e⟩
theorem runs_15 : ∀ x ∈ clsL, RunOk 15 x.1 x.2 := by
  intro x hx
  simp only [clsL, List.mem_cons, List.not_mem_nil, or_false] at hx
  rcases hx with rfl | rfl | rfl | rfl | rfl | rfl | rfl | rfl | rfl | rfl
  · exact ⟨r15_1_7_t, r15_1_7_e⟩
  · exact ⟨r15_2_7_t, r15_2_7_e⟩
  · exact ⟨r15_2_8_t, r15_2_8_e⟩
  · exact ⟨r15_3_8_t, r15_3_8_e⟩
  · exact ⟨r15_4_9_t, r15_4_9_e⟩
  · exact ⟨r15_5_9_t, r15_5_9_e⟩
  · exact ⟨r15_5_10_t, r15_5_10_e⟩
  · exact ⟨r15_6_10_t, r15_6_10_e⟩
  · exact ⟨r15_6_11_t, r15_6_11_e⟩
  · exact ⟨r15_7_11_t, r15_7_11_e⟩
theorem runs_16 : ∀ x ∈ clsL, RunOk 16 x.1 x.2 := by
  intro x hx
  simp only [clsL, List.mem_cons, List.not_mem_nil, or_false] at hx
  rcases hx with rfl | rfl | rfl | rfl | rfl | rfl | rfl | rfl | rfl | rfl
  · exact ⟨r16_1_7_t, r16_1_7_e⟩
  · exact ⟨r16_2_7_t, r16_2_7_e⟩
  · exact ⟨r16_2_8_t, r16_2_8_e⟩
  · exact ⟨r16_3_8_t, r16_3_8_e⟩
  · exact ⟨r16_4_9_t, r16_4_9_e⟩
  · exact ⟨r16_5_9_t, r16_5_9_e⟩
  · exact ⟨r16_5_10_t, r16_5_10_e⟩
  · exact ⟨r16_6_10_t, r16_6_10_e⟩
  · exact ⟨r16_6_11_t, r16_6_11_e⟩
  · exact ⟨r16_7_11_t, r16_7_11_e⟩
theorem runs_17 : ∀ x ∈ clsL, RunOk 17 x.1 x.2 := by
  intro x hx
  simp only [clsL, List.mem_cons, List.not_mem_nil, or_false] at hx
  rcases hx with rfl | rfl | rfl | rfl | rfl | rfl | rfl | rfl | rfl | rfl
  · exact ⟨r17_1_7_t, r17_1_7_e⟩
  · exact ⟨r17_2_7_t, r17_2_7_e⟩
  · exact ⟨r17_2_8_t, r17_2_8_e⟩
  · exact ⟨r17_3_8_t, r17_3_8_e⟩
  · exact ⟨r17_4_9_t, r17_4_9_e⟩
  · exact ⟨r17_5_9_t, r17_5_9_e⟩
  · exact ⟨r17_5_10_t, r17_5_10_e⟩
  · exact ⟨r17_6_10_t, r17_6_10_e⟩
  · exact ⟨r17_6_11_t, r17_6_11_e⟩
  · exact ⟨r17_7_11_t, r17_7_11_e⟩
theorem runs_18 : ∀ x ∈ clsL, RunOk 18 x.1 x.2 := by
  intro x hx
  simp only [clsL, List.mem_cons, List.not_mem_nil, or_false] at hx
  rcases hx with rfl | rfl | rfl | rfl | rfl | rfl | rfl | rfl | rfl | rfl
  · exact ⟨r18_1_7_t, r18_1_7_e⟩
  · exact ⟨r18_2_7_t, r18_2_7_e⟩
  · exact ⟨r18_2_8_t, r18_2_8_e⟩
  · exact ⟨r18_3_8_t, r18_3_8_e⟩
  · exact ⟨r18_4_9_t, r18_4_9_e⟩
  · exact ⟨r18_5_9_t, r18_5_9_e⟩
  · exact ⟨r18_5_10_t, r18_5_10_e⟩
  · exact ⟨r18_6_10_t, r18_6_10_e⟩
  · exact ⟨r18_6_11_t, r18_6_11_e⟩
  · exact ⟨r18_7_11_t, r18_7_11_e⟩
theorem runs_all : ∀ k : Nat, 1 ≤ k → k ≤ 18 → ∀ x ∈ clsL, RunOk k x.1 x.2 := by
  intro k h1 h2
  have hk : k ∈ [1, 2, 3, 4, 5, 6, 7, 8, 9, 10, 11, 12, 13, 14, 15, 16, 17, 18] := by
    simp only [List.mem_cons, List.not_mem_nil, or_false]
    omega
  simp only [List.mem_cons, List.not_mem_nil, or_false] at hk
  rcases hk with rfl | rfl | rfl | rfl | rfl | rfl | rfl | rfl | rfl | rfl | rfl | rfl | rfl | rfl | rfl | rfl | rfl | rfl
  · exact runs_1
  · exact runs_2
  · exact runs_3
  · exact runs_4
  · exact runs_5
  · exact runs_6
  · exact runs_7
  · exact runs_8
  · exact runs_9
  · exact runs_10
  · exact runs_11
  · exact runs_12
  · exact runs_13
  · exact runs_14
  · exact runs_15
  · exact runs_16
  · exact runs_17
  · exact runs_18
theorem dig_of (v : Nat) (h1 : 1 ≤ v) (h2 : v ≤ 1048576) : ∃ d, DigN v d := by
  by_cases g1 : v < 10
  · exact ⟨1, by decide, by decide, by show 1 ≤ v; omega, by show v < 10; omega⟩
  by_cases g2 : v < 100
  · exact ⟨2, by decide, by decide, by show 10 ≤ v; omega, by show v < 100; omega⟩
  by_cases g3 : v < 1000
  · exact ⟨3, by decide, by decide, by show 100 ≤ v; omega, by show v < 1000; omega⟩
  by_cases g4 : v < 10000
  · exact ⟨4, by decide, by decide, by show 1000 ≤ v; omega, by show v < 10000; omega⟩
  by_cases g5 : v < 100000
  · exact ⟨5, by decide, by decide, by show 10000 ≤ v; omega, by show v < 100000; omega⟩
  by_cases g6 : v < 1000000
  · exact ⟨6, by decide, by decide, by show 100000 ≤ v; omega, by show v < 1000000; omega⟩
  · exact ⟨7, by decide, by decide, by show 1000000 ≤ v; omega, by show v < 10000000; omega⟩
theorem cls_of {v d : Nat} (D : DigN v d) : (d, (encF (ctlB v)).length) ∈ clsL := by
  obtain ⟨h1, h2⟩ := code_len D
  generalize (encF (ctlB v)).length = c at h1 h2 ⊢
  have h3 := D.d1
  have h4 := D.d7
  simp only [clsL, List.mem_cons, List.not_mem_nil, or_false, Prod.mk.injEq]
  omega
theorem walk_collapses (w : World) (hM : MaxOk w) (hT : Lib.TabIs Tryz.prog w "internal/strconv.uint64pow10" .u64 Lib.pow10Tab) (n a : Int) (im : In64 n) (is : In64 a) (body : ByteArray) (hb : body.size ≤ 9223372036854775807) :
    Calls Tryz.prog 4 #[.int .i64 n, .int .i64 a, .string body] w fun e w' => e = .returned (.bool true) ∧ Aft w w' := by
  rcases Nat.lt_or_ge 3000 body.size with hl | hl
  · exact cls_z (v := 1) hM hT rZ hl hb
  obtain ⟨m1, m2⟩ := wi_in (lo := 1) (hi := 18) (by decide) (by decide) n
  obtain ⟨s1, s2⟩ := wi_in (lo := 1) (hi := 1048576) (by decide) (by decide) a
  obtain ⟨k, hn⟩ : ∃ k : Nat, wiF n 1 18 = (k : Int) := ⟨(wiF n 1 18).toNat, by omega⟩
  obtain ⟨v, ha⟩ : ∃ v : Nat, wiF a 1 1048576 = (v : Int) := ⟨(wiF a 1 1048576).toNat, by omega⟩
  obtain ⟨d, D⟩ := dig_of v (by omega) (by omega)
  obtain ⟨r1, r2⟩ := runs_all k (by omega) (by omega) _ (cls_of D)
  rcases Nat.eq_zero_or_pos body.size with h0 | h0
  · have hbe : body = ByteArray.empty := ByteArray.ext (Array.eq_empty_of_size_eq_zero h0)
    subst hbe
    exact cls_a im is hM hT D r2 arg_nil (Nat.zero_le _) (by omega) hn ha rfl
  · exact cls_a im is hM hT D r1 (arg_open body) h0 hl hn ha rfl
end Go.Proofs.YtoeeackjlclneaaGreatDoor
