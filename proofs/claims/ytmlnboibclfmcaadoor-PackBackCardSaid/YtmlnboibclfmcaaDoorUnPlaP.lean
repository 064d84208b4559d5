/-
  UnpackPlain: the plain law. NOT BUILT YET.
-/
import Derived.Test.YtmlnboibclfmcaaDoorUnBack
import Derived.Test.YtmlnboibclfmcaaDoorUnStep
namespace Go.Proofs.YtmlnboibclfmcaaDoor
open Go.RowKit
set_option linter.unusedVariables false

theorem textU_plain {b : List UInt8} {at_ : Nat} {s : List UInt8} (hs : s.length ≤ 100) (hi : at_ ≤ b.length) (ha : AtU b at_ (UInt8.ofNat s.length :: s)) : textU b at_ = (s, at_ + (s.length + 1), 0) := by
  obtain ⟨h1, h2⟩ := ha.cons
  have hl := ha.len hi
  rw [List.length_cons] at hl
  have hb : (UInt8.ofNat s.length).toNat = s.length := by rw [UInt8.toNat_ofNat']; omega
  have hm : maskN 7 = 127 := rfl
  have hg : getL b at_ 7 = (s.length, at_ + 1, 0) := by
    unfold getL
    rw [h1]
    simp only
    rw [hb, show s.length % 2 ^ 7 = s.length by rw [show (2 : Nat) ^ 7 = 128 by decide]; omega, if_pos (by omega)]
  unfold textU
  rw [h1]
  simp only
  rw [hg]
  simp only
  rw [if_neg (by simp), if_neg (by omega), if_neg (by omega), if_pos (by rw [hb]; omega), h2.take]
  congr 2
  omega
/-- A field that is written plainly. -/
def plB (how : Int) (f : FieldL) : List UInt8 := (if how = 3 then 16 else 0) :: ((UInt8.ofNat f.1.length :: f.1) ++ (UInt8.ofNat f.2.length :: f.2))
theorem plB_len (how : Int) (f : FieldL) : (plB how f).length = f.1.length + f.2.length + 3 := by simp [plB]; omega
theorem writU_plain {l : List FieldL} {b : List UInt8} {at_ : Nat} {how : Int} {f : FieldL} (h1 : f.1.length ≤ 100) (h2 : f.2.length ≤ 100) (hi : at_ ≤ b.length) (ha : AtU b at_ (plB how f)) : writU l b at_ 4 = (f, at_ + (plB how f).length, 0) ∧ b[at_]? = some (if how = 3 then 16 else 0) := by
  have hl := ha.len hi
  rw [plB_len] at hl ⊢
  unfold plB at ha
  obtain ⟨k1, k2⟩ := ha.cons
  obtain ⟨k3, k4⟩ := k2.app
  refine ⟨?_, k1⟩
  have hg : getL b at_ 4 = (0, at_ + 1, 0) := by
    unfold getL
    rw [k1]
    have hm : maskN 4 = 15 := rfl
    by_cases h3 : how = 3
    · rw [if_pos h3]; simp [hm]
    · rw [if_neg h3]; simp [hm]
  have k4' : AtU b (at_ + 1 + (f.1.length + 1)) (UInt8.ofNat f.2.length :: f.2) := by simpa using k4
  have ht1 := textU_plain (at_ := at_ + 1) (s := f.1) h1 (by omega) k3
  have ht2 := textU_plain (at_ := at_ + 1 + (f.1.length + 1)) (s := f.2) h2 (by omega) k4'
  have hn : nameU l b 0 (at_ + 1) = (f.1, at_ + 1 + (f.1.length + 1), 0) := by
    unfold nameU
    rw [if_neg (by omega), ht1]
  unfold writU
  rw [hg]
  simp only [hn, ht2, ne_eq, not_true_eq_false, if_false]
  rw [show at_ + 1 + (f.1.length + 1) + (f.2.length + 1) = at_ + (f.1.length + f.2.length + 3) by omega]
/-- All fields, written plainly, are read. -/
theorem runU_plain (top list most : Int) (how : Int) (hh : how = 2 ∨ how = 3) (b : List UInt8) : ∀ (fs : List FieldL) (s : US), (∀ f ∈ fs, f.1.length ≤ 100 ∧ f.2.length ≤ 100) → s.at_ ≤ b.length → b.drop s.at_ = fs.flatMap (plB how) → ((s.sum + (fs.map fsize).sum : Nat) : Int) ≤ list → runU top list b (b.length + 1) s = (⟨b.length, s.rows ++ fs.map (fun f => ⟨f, how⟩), s.sum + (fs.map fsize).sum, s.sizes, s.tab, s.most⟩, 0)
  | [], s, _, hat, hd, _ => by
    have : b.length ≤ s.at_ := by
      have := congrArg List.length hd
      simp at this
      omega
    rw [runU_end this]
    obtain ⟨at_, rows, sum, sizes, tab, mo⟩ := s
    simp only at this hat ⊢
    have e : at_ = b.length := by omega
    subst e
    simp
  | f :: fs, s, hf, hat, hd, hs => by
    have ha : AtU b s.at_ (plB how f) := ⟨fs.flatMap (plB how), by rw [hd]; simp⟩
    obtain ⟨hw, hc⟩ := writU_plain (l := s.tab) (hf f (by simp)).1 (hf f (by simp)).2 hat ha
    have hl := ha.len hat
    have hstep : stepU top list b s (if how = 3 then (16 : UInt8) else 0).toNat = rowQ list { s with at_ := s.at_ + (plB how f).length, tab := s.tab } f how := by
      rcases hh with rfl | rfl
      · refine stepU_row (by decide) ?_
        unfold rowU
        rw [hw]
        rfl
      · refine stepU_row (by decide) ?_
        unfold rowU
        rw [hw]
        rfl
    have hsum : ((s.sum + fsize f + (fs.map fsize).sum : Nat) : Int) ≤ list := by
      simp only [List.map_cons, List.sum_cons] at hs
      omega
    have hq : (rowQ list { s with at_ := s.at_ + (plB how f).length, tab := s.tab } f how) = (⟨s.at_ + (plB how f).length, s.rows ++ [⟨f, how⟩], s.sum + fsize f, s.sizes, s.tab, s.most⟩, 0) := by
      unfold rowQ
      simp only
      rw [if_neg (by omega)]
    rw [runU_step hc, hstep, hq]
    simp only
    rw [if_neg (by simp)]
    have ih := runU_plain top list most how hh b fs ⟨s.at_ + (plB how f).length, s.rows ++ [⟨f, how⟩], s.sum + fsize f, s.sizes, s.tab, s.most⟩ (fun g hg => hf g (by simp [hg])) hl (by
      simp only
      rw [← List.drop_drop, hd]
      simp) hsum
    rw [ih]
    simp [Nat.add_assoc]
end Go.Proofs.YtmlnboibclfmcaaDoor
