/-
  HPACK's table: Get.
-/
import Derived.Test.YtmlnboibclfmcaaDoorTbl2
namespace Go.Proofs.YtmlnboibclfmcaaDoor
open Go.RowKit
set_option linter.unusedVariables false

def getF (l : List FieldL) (i : Int) : FieldL := if 1 ≤ i ∧ i ≤ 61 + (l.length : Int) then (staticT ++ l).getD (i - 1).toNat ([], []) else ([], [])
def getB (l : List FieldL) (i : Int) : Bool := decide (1 ≤ i ∧ i ≤ 61 + (l.length : Int))
theorem getF_known (l : List FieldL) (j : Nat) (h : j < 61) : (∃ hl : j < staticT.length, getF l ((j : Int) + 1) = staticT[j]'hl) ∧ getB l ((j : Int) + 1) = true := by
  have hl : j < staticT.length := by rw [staticT_len]; exact h
  refine ⟨⟨hl, ?_⟩, by unfold getB; simp; omega⟩
  unfold getF
  rw [if_pos (by omega), show ((j : Int) + 1 - 1).toNat = j by omega, List.getD_eq_getElem?_getD, List.getElem?_append_left hl, List.getElem?_eq_getElem hl]
  rfl
theorem getF_own (l : List FieldL) (j : Nat) (h : j < l.length) : getF l ((j : Int) + 62) = l[j] ∧ getB l ((j : Int) + 62) = true := by
  refine ⟨?_, by unfold getB; simp; omega⟩
  unfold getF
  rw [if_pos (by omega), show ((j : Int) + 62 - 1).toNat = 61 + j by omega, List.getD_eq_getElem?_getD, List.getElem?_append_right (by rw [staticT_len]; omega), staticT_len, show 61 + j - 61 = j by omega, List.getElem?_eq_getElem h]
  rfl
theorem getF_out {l : List FieldL} {i : Int} (h : ¬ (1 ≤ i ∧ i ≤ 61 + (l.length : Int))) : getF l i = ([], []) ∧ getB l i = false := by
  unfold getF getB
  rw [if_neg h]
  exact ⟨rfl, by simpa using h⟩

set_option maxHeartbeats 4000000 in
theorem tget_any {w : World} {B g : Nat} {vo vk : Value} {l : List FieldL} {most : Int} (i : Int) (i0 : -9223372036854775808 ≤ i) (i1 : i ≤ 9223372036854775807) (h : Tab w B g vo vk l most) :
    Calls Tryd.prog 21 #[.pointer (some ⟨g, 0, none⟩), .int .i64 i] w fun e w' => e = .returned (.tuple #[fieldV (getF l i), .bool (getB l i)]) ∧ Aft w w' := by
  have hA1 : Aft w (w.alloc (.cells #[.string ⟨#[]⟩, .string ⟨#[]⟩] 28)) := (Aft.refl w).alloc _
  have h1 := h.aft hA1
  obtain ⟨⟨c0, c1, c2, c3⟩, -⟩ := h1.cells
  obtain ⟨ka, kg, kc, hke, hk1, hk2, hkp, hkc⟩ := h1.kn.form
  obtain ⟨oa, og, oc, hoe, ho1, ho2, hop, hoc⟩ := h1.own.form
  have hne : staticT ≠ [] := by intro e; have := staticT_len; rw [e] at this; cases this
  obtain ⟨rfl, -⟩ := hkp hne
  subst hke hoe
  rw [staticT_len] at c1 hk1
  have HKC := Lib.hid hkc
  have HOC := Lib.hid hoc
  have HOP := Lib.hid hop
  unfold maxLen at ho2
  clear h h1 hA1 c2 c3 hkc hoc hop hk1 hk2 hne hkp
  by_cases hlo : i < 1
  · obtain ⟨e1, e2⟩ := getF_out (l := l) (i := i) (by omega)
    have E1 := Lib.hid e1
    have E2 := Lib.hid e2
    obtain ⟨n, hn⟩ : ∃ n, l.length = n := ⟨_, rfl⟩
    rw [hn] at c0 ho1
    clear e1 e2 hn
    have n1 : ¬ (i ≥ 1) := by omega
    have n2 : ¬ (i > 61) := by omega
    go_enter Tryd.func21, Tryd.ntmps21
    go_wp2_with fail
    refine bodyPost_ret (v := .tuple #[.agg #[.string ⟨#[]⟩, .string ⟨#[]⟩], .bool false]) (by simp [results, Tryd.results21, go_sem]) rfl ?_
    rw [E1.out, E2.out]
    exact ⟨rfl, (Aft.refl w).alloc _⟩
  · by_cases hmid : i ≤ 61
    · obtain ⟨j, rfl⟩ : ∃ j : Nat, i = (j : Int) + 1 := ⟨(i - 1).toNat, by omega⟩
      obtain ⟨⟨hl, e1⟩, e2⟩ := getF_known l j (by omega)
      obtain ⟨x1, x2⟩ := HKC.out j hl
      generalize staticT[j] = f at x1 x2 e1
      have E1 := Lib.hid e1
      have E2 := Lib.hid e2
      unfold strV at x1 x2
      obtain ⟨n, hn⟩ : ∃ n, l.length = n := ⟨_, rfl⟩
      rw [hn] at c0 ho1
      have g1 : IntKind.i64.wrap ((j : Int) + 1 - 1) = (j : Int) := by rw [show (j : Int) + 1 - 1 = (j : Int) by omega]; exact IntWalk.i64_in _ (by omega)
      have j1 : (j : Int) < 61 := by omega
      have n1 : (j : Int) + 1 ≥ 1 := by omega
      clear e1 e2 hl hn hlo
      go_enter Tryd.func21, Tryd.ntmps21
      go_wp2_with fail
      refine bodyPost_ret (v := .tuple #[fieldV f, .bool true]) (by simp [results, Tryd.results21, go_sem, fieldV]) rfl ?_
      rw [E1.out, E2.out]
      exact ⟨rfl, (Aft.refl w).alloc _⟩
    · by_cases hhi : i ≤ 61 + (l.length : Int)
      · obtain ⟨j, rfl⟩ : ∃ j : Nat, i = (j : Int) + 62 := ⟨(i - 62).toNat, by omega⟩
        have hjl : j < l.length := by omega
        obtain ⟨e1, e2⟩ := getF_own l j hjl
        obtain ⟨x1, x2⟩ := HOC.out j hjl
        have hne2 : l ≠ [] := by intro e; rw [e] at hjl; simp at hjl
        obtain ⟨rfl, -⟩ := HOP.out hne2
        generalize l[j] = f at x1 x2 e1
        have E1 := Lib.hid e1
        have E2 := Lib.hid e2
        unfold strV at x1 x2
        obtain ⟨n, hn⟩ : ∃ n, l.length = n := ⟨_, rfl⟩
        rw [hn] at c0 ho1 hjl
        have g1 : IntKind.i64.wrap ((j : Int) + 62 - 61) = (j : Int) + 1 := by rw [show (j : Int) + 62 - 61 = (j : Int) + 1 by omega]; exact IntWalk.i64_in _ (by omega)
        have g2 : IntKind.i64.wrap ((j : Int) + 1 - 1) = (j : Int) := by rw [show (j : Int) + 1 - 1 = (j : Int) by omega]; exact IntWalk.i64_in _ (by omega)
        have j1 : (j : Int) < (n : Int) := by omega
        have j2 : (j : Int) + 1 ≤ (n : Int) := by omega
        have n1 : (j : Int) + 62 ≥ 1 := by omega
        have n2 : (j : Int) + 62 > 61 := by omega
        clear e1 e2 hn hlo hne2 hhi
        go_enter Tryd.func21, Tryd.ntmps21
        go_wp2_with fail
        refine bodyPost_ret (v := .tuple #[fieldV f, .bool true]) (by simp [results, Tryd.results21, go_sem, fieldV]) rfl ?_
        rw [E1.out, E2.out]
        exact ⟨rfl, (Aft.refl w).alloc _⟩
      · obtain ⟨e1, e2⟩ := getF_out (l := l) (i := i) (by omega)
        have E1 := Lib.hid e1
        have E2 := Lib.hid e2
        obtain ⟨n, hn⟩ : ∃ n, l.length = n := ⟨_, rfl⟩
        rw [hn] at c0 ho1 hhi
        clear e1 e2 hn
        have n1 : i ≥ 1 := by omega
        have n2 : i > 61 := by omega
        have g1 : IntKind.i64.wrap (i - 61) = i - 61 := IntWalk.i64_in _ (by omega)
        have n3 : ¬ (i - 61 ≤ (n : Int)) := by omega
        go_enter Tryd.func21, Tryd.ntmps21
        go_wp2_with fail
        refine bodyPost_ret (v := .tuple #[.agg #[.string ⟨#[]⟩, .string ⟨#[]⟩], .bool false]) (by simp [results, Tryd.results21, go_sem]) rfl ?_
        rw [E1.out, E2.out]
        exact ⟨rfl, (Aft.refl w).alloc _⟩

end Go.Proofs.YtmlnboibclfmcaaDoor
