/-
  FieldsApart.
-/
import Derived.Test.YtdachmjchgnabaaDoorFldRuns
import Derived.Test.YtdachmjchgnabaaDoorWithin
namespace Go.Proofs.YtdachmjchgnabaaDoor
open Go.RowKit

def apartB : Bool := (List.range 61).all fun a => (List.range 61).all fun b =>
  let f := staticT.getD a ([], []); let g := staticT.getD b ([], [])
  ((f.1 == g.1 && f.2 == g.2) == (a == b)) && (!f.1.isEmpty && (((f.1.head? == some 58) == decide (a < 14)) && (decide (b ≤ a) || (decide (b < 19) || (decide (a < 18) || Op.bytesLess f.1 g.1)))))
theorem apart_ok : apartB = true := by kernel_rfl
theorem apart_at {a b : Nat} (ha : a < 61) (hb : b < 61) (f g : FieldL) (hf : staticT.getD a ([], []) = f) (hg : staticT.getD b ([], []) = g) :
    (f.1 == g.1 && f.2 == g.2) = (a == b) ∧ f.1.isEmpty = false ∧ (f.1.head? == some 58) = decide (a < 14) ∧ (decide (b ≤ a) || (decide (b < 19) || (decide (a < 18) || Op.bytesLess f.1 g.1))) = true := by
  subst hf hg
  have h := List.all_eq_true.1 (List.all_eq_true.1 apart_ok a (List.mem_range.2 ha)) b (List.mem_range.2 hb)
  simp only [Bool.and_eq_true, Bool.not_eq_true', beq_iff_eq] at h
  exact h
theorem stat_at {i : Int} (h0 : 1 ≤ i) (h1 : i ≤ 61) : statF i = staticT.getD (i - 1).toNat ([], []) ∧ statB i = true := by
  unfold statF statB
  rw [if_pos ⟨h0, h1⟩]
  exact ⟨rfl, by simp; omega⟩
theorem apart_int {i k : Int} (hi0 : 1 ≤ i) (hi1 : i ≤ 61) (hk0 : 1 ≤ k) (hk1 : k ≤ 61) :
    ((statF i).1 == (statF k).1 && (statF i).2 == (statF k).2) = (i == k) ∧ (statF i).1.isEmpty = false ∧ ((statF i).1.head? == some 58) = decide (i < 15) ∧ (decide (i ≥ k) || (decide (k < 20) || (decide (i < 19) || Op.bytesLess (statF i).1 (statF k).1))) = true := by
  have h := apart_at (a := (i - 1).toNat) (b := (k - 1).toNat) (by omega) (by omega) _ _ rfl rfl
  rw [← (stat_at hi0 hi1).1, ← (stat_at hk0 hk1).1] at h
  have e1 : ((i - 1).toNat == (k - 1).toNat) = (i == k) := by
    rw [Bool.eq_iff_iff, beq_iff_eq, beq_iff_eq]; omega
  have e2 : decide ((i - 1).toNat < 14) = decide (i < 15) := by rw [decide_eq_decide]; omega
  have e3 : decide ((k - 1).toNat ≤ (i - 1).toNat) = decide (i ≥ k) := by rw [decide_eq_decide]; omega
  have e4 : decide ((k - 1).toNat < 19) = decide (k < 20) := by rw [decide_eq_decide]; omega
  have e5 : decide ((i - 1).toNat < 18) = decide (i < 19) := by rw [decide_eq_decide]; omega
  rw [e1, e2, e3, e4, e5] at h
  exact h

set_option maxHeartbeats 4000000 in
theorem walkFieldsApart (w : World) (hsh : w.ShapedOpen Tryd.prog) (a : Int) (wa : (Lit.int .i64 a).wf = true) (b : Int) (wb : (Lit.int .i64 b).wf = true) :
    Calls Tryd.prog 5 #[.int .i64 a, .int .i64 b] w fun e w' => e = .returned (.bool true) ∧ Aft w w' := by
  have HM := Lib.hid (maxOk_of w hsh)
  obtain ⟨a0, a1⟩ := bounds_i64 wa
  obtain ⟨b0, b1⟩ := bounds_i64 wb
  have HW1 := Lib.hid (within_any a 1 61 a0 a1 (by decide) (by decide) (by decide))
  have HW2 := Lib.hid (within_any b 1 61 b0 b1 (by decide) (by decide) (by decide))
  clear wa wb a0 a1 b0 b1 hsh
  go_enter Tryd.func5, Tryd.ntmps5
  go_wp2_with fail
  refine (HW1.out _).mono ?_
  rintro e w1 ⟨i, rfl, i0, i1, rfl⟩
  go_wp2_with fail
  refine (HW2.out _).mono ?_
  rintro e w1 ⟨k, rfl, k0, k1, rfl⟩
  have hall := apart_int i0 i1 k0 k1
  have HS1 := Lib.hid (static_any i (by omega) (by omega))
  have HS2 := Lib.hid (static_any k (by omega) (by omega))
  rw [(stat_at i0 i1).2] at HS1
  rw [(stat_at k0 k1).2] at HS2
  have he : i = k → statF i = statF k := fun h => by rw [h]
  generalize statF i = f at hall HS1 he
  generalize statF k = g at hall HS2 he
  have HALL := Lib.hid hall
  unfold fieldV at HS1 HS2
  clear hall HW1 HW2
  go_wp2_with fail
  refine (HS1.out _ HM.out).mono ?_
  rintro e w2 ⟨rfl, b1⟩
  have HA := Lib.hid (b1.alloc (.cells #[.string ⟨f.1.toArray⟩, .string ⟨f.2.toArray⟩] 23))
  have hx := new2 w2 (.string ⟨f.1.toArray⟩) (.string ⟨f.2.toArray⟩) 23
  have hz : w2.heap.size < (w2.alloc (.cells #[.string ⟨f.1.toArray⟩, .string ⟨f.2.toArray⟩] 23)).heap.size := by rw [World.size_alloc]; omega
  have HX := Lib.hid hx
  have HZ := Lib.hid hz
  clear b1 hx hz
  go_wp2_with fail
  refine (HS2.out _ (HM.out.aft HA.out)).mono ?_
  rintro e w3 ⟨rfl, b2⟩
  have x1 : w3.cell? ⟨w2.heap.size, 0, none⟩ = some (.string ⟨f.1.toArray⟩) := by rw [Below.cell b2.to (p := ⟨w2.heap.size, 0, none⟩) HZ.out]; exact HX.out.1
  have x2 : w3.cell? ⟨w2.heap.size, 1, none⟩ = some (.string ⟨f.2.toArray⟩) := by rw [Below.cell b2.to (p := ⟨w2.heap.size, 1, none⟩) HZ.out]; exact HX.out.2
  have hz3 : w2.heap.size < w3.heap.size := Nat.lt_of_lt_of_le HZ.out b2.size
  have HB := Lib.hid (HA.out.trans (b2.alloc (.cells #[.string ⟨g.1.toArray⟩, .string ⟨g.2.toArray⟩] 23)))
  generalize w2.heap.size = G at x1 x2 hz3 ⊢
  clear b2 HZ HX HA HS1 HS2
  obtain ⟨c1, c2, c3, c4⟩ := HALL.out
  clear HALL
  obtain ⟨f1, f2⟩ := f
  obtain ⟨g1, g2⟩ := g
  simp only at x1 x2 c1 c2 c3 c4 HB ⊢
  cases f1 with
  | nil => cases c2
  | cons c r =>
    clear c2
    have c3' : ((c.toNat : Int) == 58) = decide (i < 15) := by
      rw [← c3]
      have : (List.head? (c :: r) == some (58 : UInt8)) = (c == 58) := by simp
      rw [this, Bool.eq_iff_iff, beq_iff_eq, beq_iff_eq]
      constructor
      · intro h
        have h1 : c.toNat = 58 := by omega
        exact UInt8.toNat_inj.1 h1
      · intro h; subst h; rfl
    clear c3
    have hsz : 0 < (⟨(c :: r).toArray⟩ : ByteArray).size := by show 0 < (c :: r).toArray.size; simp
    have hszI : (0 : Int) < ((⟨(c :: r).toArray⟩ : ByteArray).size : Int) := by omega
    have h58 : (⟨(c :: r).toArray⟩ : ByteArray)[0]'hsz = c := rfl
    have hd : (i = k ∧ c :: r = g1 ∧ f2 = g2) ∨ (i ≠ k ∧ c :: r ≠ g1) ∨ (i ≠ k ∧ c :: r = g1 ∧ f2 ≠ g2) := by
      by_cases h : i = k
      · have := he h
        injection this with e1 e2
        exact Or.inl ⟨h, e1, e2⟩
      · have h2 : (i == k) = false := by simpa using h
        rw [h2] at c1
        by_cases h3 : c :: r = g1
        · subst h3
          refine Or.inr (Or.inr ⟨h, rfl, ?_⟩)
          intro e
          subst e
          simp at c1
        · exact Or.inr (Or.inl ⟨h, h3⟩)
    have hord : (i ≥ k) ∨ (i < k ∧ k < 20) ∨ (i < k ∧ ¬ k < 20 ∧ i < 19) ∨ (i < k ∧ ¬ k < 20 ∧ ¬ i < 19 ∧ Op.bytesLess (c :: r) g1 = true) := by
      simp only [Bool.or_eq_true, decide_eq_true_eq] at c4
      by_cases x1 : i ≥ k
      · exact Or.inl x1
      · by_cases x2 : k < 20
        · exact Or.inr (Or.inl ⟨by omega, x2⟩)
        · by_cases x3 : i < 19
          · exact Or.inr (Or.inr (Or.inl ⟨by omega, x2, x3⟩))
          · exact Or.inr (Or.inr (Or.inr ⟨by omega, x2, x3, by rcases c4 with h | h | h | h; exact absurd h x1; exact absurd h x2; exact absurd h x3; exact h⟩))
    clear c1 c4 he
    rcases hd with ⟨rfl, rfl, rfl⟩ | ⟨hik, hne⟩ | ⟨hik, rfl, hne⟩
    · clear hord
      go_wp2_with fail
      refine (runs_any _ (HM.out.aft HB.out)).mono ?_
      rintro e w4 ⟨rfl, b4⟩
      have HC := Lib.hid (HB.out.trans b4)
      clear b4
      go_wp2_with fail
      go_ret
      exact ⟨rfl, HC.out⟩
    all_goals
      rcases hord with q1 | ⟨q1, q2⟩ | ⟨q1, q2, q3⟩ | ⟨q1, q2, q3, q4⟩
      all_goals
        go_wp2_with fail
        refine (runs_any _ (HM.out.aft HB.out)).mono ?_
        rintro e w4 ⟨rfl, b4⟩
        have HC := Lib.hid (HB.out.trans b4)
        clear b4
        go_wp2_with fail
        go_ret
        exact ⟨rfl, HC.out⟩

end Go.Proofs.YtdachmjchgnabaaDoor
