/-
  UnpackBounded: the plain law; a block, whatever comes.
-/
import Derived.Test.YtmlnboibclfmcaaDoorUnRuns2
import Derived.Test.YtmlnboibclfmcaaDoorArgN
namespace Go.Proofs.YtmlnboibclfmcaaDoor
open Go.RowKit
set_option linter.unusedVariables false

structure SJ (top : Int) (s : US) : Prop where
  tab : (sumF s.tab : Int) ≤ s.most
  m0 : 0 ≤ s.most
  m1 : s.most ≤ top
theorem tab_row {most : Int} {l : List FieldL} {b : List UInt8} {at_ c : Nat} (ht : (sumF l : Int) ≤ most) (h0 : 0 ≤ most) : (sumF (rowU most l b at_ c).2.1 : Int) ≤ most := by
  unfold rowU
  split
  · exact ht
  split
  · simp only
    split
    · exact addF_le h0
    · exact ht
  split <;> exact ht
theorem stepU_SJ {top list : Int} {b : List UInt8} {s : US} {c : Nat} (h : SJ top s) : SJ top (stepU top list b s c).1 := by
  unfold stepU
  split
  · split
    · exact h
    split
    · exact h
    · rename_i h2
      have h3 : ¬ top < ((getL b s.at_ 5).1 : Int) := fun e => h2 (Or.inr (Or.inr e))
      exact ⟨fitF_le' (by omega), by first | omega | (simp only; omega), by first | omega | (simp only; omega)⟩
  · split
    · exact h
    · exact ⟨tab_row h.tab h.m0, h.m0, h.m1⟩
theorem runU_SJ {top list : Int} {b : List UInt8} : ∀ (n : Nat) (s : US), SJ top s → SJ top (runU top list b n s).1
  | 0, s, h => h
  | n + 1, s, h => by
    unfold runU
    split
    · exact h
    · split
      · exact stepU_SJ h
      · exact runU_SJ n _ (stepU_SJ h)
structure SK (list : Int) (s : US) : Prop where
  sum : s.sum = sumR s.rows
  le : (s.sum : Int) ≤ list
  how : ∀ r ∈ s.rows, 1 ≤ r.how ∧ r.how ≤ 3
theorem rowU_how {most : Int} {l : List FieldL} {b : List UInt8} {at_ c : Nat} : 1 ≤ (rowU most l b at_ c).1.how ∧ (rowU most l b at_ c).1.how ≤ 3 := by
  unfold rowU
  split
  · simp
  split
  · simp
  split
  · simp
  · simp
theorem stepU_SK {top list : Int} {b : List UInt8} {s : US} {c : Nat} (h : SK list s) (he : (stepU top list b s c).2 = 0) : SK list (stepU top list b s c).1 := by
  unfold stepU at he ⊢
  by_cases h0 : 32 ≤ c ∧ c < 64
  · rw [if_pos h0] at he ⊢
    by_cases h1 : (getL b s.at_ 5).2.2 ≠ 0
    · rw [if_pos h1] at he; exact absurd he h1
    rw [if_neg h1] at he ⊢
    by_cases h2 : s.rows ≠ [] ∨ 2 ≤ s.sizes ∨ top < ((getL b s.at_ 5).1 : Int)
    · rw [if_pos h2] at he; simp at he
    rw [if_neg h2] at he ⊢
    exact ⟨h.sum, h.le, h.how⟩
  · rw [if_neg h0] at he ⊢
    by_cases h1 : (rowU s.most s.tab b s.at_ c).2.2.2 ≠ 0
    · rw [if_pos h1] at he; exact absurd he h1
    rw [if_neg h1] at he ⊢
    by_cases h2 : list < ((s.sum + fsize (rowU s.most s.tab b s.at_ c).1.f : Nat) : Int)
    · simp only at he; rw [if_pos h2] at he; simp at he
    refine ⟨?_, by simp only; omega, fun r hr => ?_⟩
    · simp only
      rw [sumR_append, ← h.sum]
      simp [sumR, fsize]
    · rcases List.mem_append.1 hr with hr | hr
      · exact h.how r hr
      · obtain rfl := List.mem_singleton.1 hr
        exact rowU_how
theorem runU_SK {top list : Int} {b : List UInt8} : ∀ (n : Nat) (s : US), SK list s → (runU top list b n s).2 = 0 → SK list (runU top list b n s).1
  | 0, s, h, _ => h
  | n + 1, s, h, he => by
    unfold runU at he ⊢
    cases hb : b[s.at_]? with
    | none => simp only [hb] at he ⊢; exact h
    | some c =>
      simp only [hb] at he ⊢
      by_cases h1 : (stepU top list b s c.toNat).2 ≠ 0
      · rw [if_pos h1] at he; exact absurd he h1
      · rw [if_neg h1] at he ⊢
        exact runU_SK n _ (stepU_SK h (Decidable.not_not.1 h1)) he
theorem blkU_SJ {top list most : Int} {b : List UInt8} {l : List FieldL} (hl : (sumF l : Int) ≤ most) (h0 : 0 ≤ most) (h1 : most ≤ top) : SJ top (blkU top list b l most).1 := runU_SJ _ _ ⟨hl, h0, h1⟩
theorem blkU_SK {top list most : Int} {b : List UInt8} {l : List FieldL} (h0 : 0 ≤ list) (he : (blkU top list b l most).2 = 0) : SK list (blkU top list b l most).1 := runU_SK _ _ ⟨rfl, h0, fun r hr => (by cases hr)⟩ he
/-- A block's end, whatever came. -/
def BPost (B gu g : Nat) (vk : Value) (top list : Int) (bad : Bool) (e : Ending) (w' : World) : Prop :=
  ∃ (ra : Option Addr) (rk : Nat) (E : Int) (R : List RowL) (T : List FieldL) (M : Int) (vo' : Value), e = .returned (.tuple #[.slice ra R.length rk, .int .i64 E]) ∧ Un w' B gu g vo' vk T M top list (bad || decide (E ≠ 0)) ∧ (sumF T : Int) ≤ M ∧ 0 ≤ M ∧ M ≤ top ∧ RbW w' (.slice ra R.length rk) R ∧ (sumR R : Int) ≤ list ∧ (∀ r ∈ R, 1 ≤ r.how ∧ r.how ≤ 3) ∧ (bad = true → E = 1) ∧ (E ≠ 0 → R = [])
theorem ublock_law {w00 w : World} {B gu g : Nat} {vo vk : Value} {l : List FieldL} {most top list : Int} {bad : Bool} {va : Option Addr} {cap n : Nat} {b : List UInt8} (a : Aft w00 w) (hB : w00.heap.size ≤ B) (h : Un w B gu g vo vk l most top list bad) (hb : ∀ wx, Aft w00 wx → Rb wx (.slice va n cap) b) (hn : b.length = n) (hlen : n ≤ 1000000) (hl : (sumF l : Int) ≤ most) (hm0 : 0 ≤ most) (hm1 : most ≤ top) (htop : top ≤ 65536) (hl0 : 0 ≤ list) (hl1 : list ≤ 2147483647) :
    Calls Tryd.prog 49 #[.pointer (some ⟨gu, 0, none⟩), .slice va n cap] w fun e w' => Aft w00 w' ∧ BPost B gu g vk top list bad e w' := by
  subst hn
  cases bad with
  | true =>
    refine (ublock_bad h va b.length cap).mono ?_
    rintro e w' ⟨rfl, a1⟩
    exact ⟨a.trans a1, none, 0, 1, [], l, most, vo, rfl, h.aft a1, hl, hm0, hm1, Or.inl ⟨⟨none, rfl⟩, rfl⟩, hl0, fun r hr => (by cases hr), fun _ => rfl, fun _ => rfl⟩
  | false =>
    refine (ublock_any h (fun wx hc => hb wx (Un.below a h hB hc)) hlen hl hm0 (by omega) htop hl0 hl1).mono ?_
    intro e w' hp
    have hj := blkU_SJ (list := list) (b := b) hl hm0 hm1
    rcases hp with ⟨h0, ra, rk, vo', rfl, h2, h3, h4, _⟩ | ⟨h0, vo', rfl, h2, h4, _⟩
    · have hk := blkU_SK (top := top) (b := b) (l := l) (most := most) hl0 h0
      refine ⟨Un.below a h hB h4, ra, rk, 0, _, _, _, vo', rfl, h2, hj.tab, hj.m0, hj.m1, h3.rbw, ?_, hk.how, fun e => (by cases e), fun e => absurd rfl e⟩
      have := hk.le
      rw [hk.sum] at this
      exact this
    · refine ⟨Un.below a h hB h4, none, 0, _, [], _, _, vo', rfl, ?_, hj.tab, hj.m0, hj.m1, Or.inl ⟨⟨none, rfl⟩, rfl⟩, hl0, fun r hr => (by cases hr), fun e => (by cases e), fun _ => rfl⟩
      have e : decide ((blkU top list b l most).2 ≠ 0) = true := decide_eq_true h0
      rw [e]
      exact h2
end Go.Proofs.YtmlnboibclfmcaaDoor
