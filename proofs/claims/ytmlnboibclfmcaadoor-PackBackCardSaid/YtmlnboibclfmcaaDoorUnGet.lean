/-
  HPACK's blocks, read: the plain functions. The walk of pint.Get; faults that are raised.
-/
import Derived.Test.YtmlnboibclfmcaaDoorPackBlk
import Derived.WalkLawsBesides
namespace Go.Proofs.YtmlnboibclfmcaaDoor
open Go.RowKit
set_option linter.unusedVariables false

/-- The bytes behind a full prefix, read: value, place behind it, error. -/
def getC (b : List UInt8) : Nat → Nat → Nat → Nat → Nat × Nat × Int
  | 0, _, _, _ => (0, 0, 2)
  | n + 1, sh, at_, v => match b[at_]? with
    | none => (0, 0, 3)
    | some c => if 2147483647 < v + c.toNat % 128 * 2 ^ sh then (0, 0, 2) else if c.toNat < 128 then (v + c.toNat % 128 * 2 ^ sh, at_ + 1, 0) else getC b n (sh + 7) (at_ + 1) (v + c.toNat % 128 * 2 ^ sh)
def getL (b : List UInt8) (at_ n : Nat) : Nat × Nat × Int :=
  match b[at_]? with
  | none => (0, 0, 3)
  | some c => if c.toNat % 2 ^ n < maskN n then (c.toNat % 2 ^ n, at_ + 1, 0) else getC b 5 0 (at_ + 1) (maskN n)
/-- A text at a place. -/
def textU (b : List UInt8) (at_ : Nat) : List UInt8 × Nat × Int :=
  match b[at_]? with
  | none => ([], 0, 3)
  | some c =>
    if (getL b at_ 7).2.2 ≠ 0 then ([], 0, (getL b at_ 7).2.2)
    else if 65536 < (getL b at_ 7).1 then ([], 0, 2)
    else if b.length < (getL b at_ 7).2.1 + (getL b at_ 7).1 then ([], 0, 3)
    else if c.toNat < 128 then ((b.drop (getL b at_ 7).2.1).take (getL b at_ 7).1, (getL b at_ 7).2.1 + (getL b at_ 7).1, 0)
    else if (decF ((b.drop (getL b at_ 7).2.1).take (getL b at_ 7).1)).2 ≠ 0 then ([], 0, (decF ((b.drop (getL b at_ 7).2.1).take (getL b at_ 7).1)).2)
    else if 65536 < (decF ((b.drop (getL b at_ 7).2.1).take (getL b at_ 7).1)).1.length then ([], 0, 2)
    else ((decF ((b.drop (getL b at_ 7).2.1).take (getL b at_ 7).1)).1, (getL b at_ 7).2.1 + (getL b at_ 7).1, 0)
/-- A name: a number's, or a text. -/
def nameU (l : List FieldL) (b : List UInt8) (i t2 : Nat) : List UInt8 × Nat × Int :=
  if 0 < i then (if getB l i = true then ((getF l i).1, t2, 0) else ([], 0, 5)) else textU b t2
/-- A field that is written out. -/
def writU (l : List FieldL) (b : List UInt8) (at_ bits : Nat) : FieldL × Nat × Int :=
  if (getL b at_ bits).2.2 ≠ 0 then (([], []), 0, (getL b at_ bits).2.2)
  else if (nameU l b (getL b at_ bits).1 (getL b at_ bits).2.1).2.2 ≠ 0 then (([], []), 0, (nameU l b (getL b at_ bits).1 (getL b at_ bits).2.1).2.2)
  else if (textU b (nameU l b (getL b at_ bits).1 (getL b at_ bits).2.1).2.1).2.2 ≠ 0 then (([], []), 0, (textU b (nameU l b (getL b at_ bits).1 (getL b at_ bits).2.1).2.1).2.2)
  else (((nameU l b (getL b at_ bits).1 (getL b at_ bits).2.1).1, (textU b (nameU l b (getL b at_ bits).1 (getL b at_ bits).2.1).2.1).1), (textU b (nameU l b (getL b at_ bits).1 (getL b at_ bits).2.1).2.1).2.1, 0)
/-- A field that is a number. -/
def idxU (l : List FieldL) (b : List UInt8) (at_ : Nat) : FieldL × Nat × Int :=
  if (getL b at_ 7).2.2 ≠ 0 then (([], []), 0, (getL b at_ 7).2.2)
  else if getB l (getL b at_ 7).1 = true then (getF l (getL b at_ 7).1, (getL b at_ 7).2.1, 0) else (([], []), 0, 5)
/-- A row: the row, the table, the place behind it, the error. -/
def rowU (most : Int) (l : List FieldL) (b : List UInt8) (at_ : Nat) (c : Nat) : RowL × List FieldL × Nat × Int :=
  if 128 ≤ c then (⟨(idxU l b at_).1, 1⟩, l, (idxU l b at_).2)
  else if 64 ≤ c then (⟨(writU l b at_ 6).1, 1⟩, if (writU l b at_ 6).2.2 = 0 then addF most (writU l b at_ 6).1 l else l, (writU l b at_ 6).2)
  else if 16 ≤ c then (⟨(writU l b at_ 4).1, 3⟩, l, (writU l b at_ 4).2)
  else (⟨(writU l b at_ 4).1, 2⟩, l, (writU l b at_ 4).2)
/-- What stands between two steps. -/
structure US where
  at_ : Nat
  rows : List RowL
  sum : Nat
  sizes : Nat
  tab : List FieldL
  most : Int
/-- One step; c: the byte that stands there; the error. -/
def stepU (top list : Int) (b : List UInt8) (s : US) (c : Nat) : US × Int :=
  if 32 ≤ c ∧ c < 64 then
    if (getL b s.at_ 5).2.2 ≠ 0 then (s, (getL b s.at_ 5).2.2)
    else if s.rows ≠ [] ∨ 2 ≤ s.sizes ∨ top < ((getL b s.at_ 5).1 : Int) then (s, 6)
    else (⟨(getL b s.at_ 5).2.1, s.rows, s.sum, s.sizes + 1, fitF ((getL b s.at_ 5).1 : Int) s.tab, ((getL b s.at_ 5).1 : Int)⟩, 0)
  else if (rowU s.most s.tab b s.at_ c).2.2.2 ≠ 0 then (s, (rowU s.most s.tab b s.at_ c).2.2.2)
  else (⟨(rowU s.most s.tab b s.at_ c).2.2.1, s.rows ++ [(rowU s.most s.tab b s.at_ c).1], s.sum + fsize (rowU s.most s.tab b s.at_ c).1.f, s.sizes, (rowU s.most s.tab b s.at_ c).2.1, s.most⟩,
    if list < ((s.sum + fsize (rowU s.most s.tab b s.at_ c).1.f : Nat) : Int) then 2 else 0)
/-- All steps. -/
def runU (top list : Int) (b : List UInt8) : Nat → US → US × Int
  | 0, s => (s, 0)
  | n + 1, s => match b[s.at_]? with
    | none => (s, 0)
    | some c => if (stepU top list b s c.toNat).2 ≠ 0 then stepU top list b s c.toNat else runU top list b n (stepU top list b s c.toNat).1
def us0 (l : List FieldL) (most : Int) : US := ⟨0, [], 0, 0, l, most⟩
/-- A block: rows, error, table, most. -/
def blkU (top list : Int) (b : List UInt8) (l : List FieldL) (most : Int) : US × Int := runU top list b (b.length + 1) (us0 l most)

theorem getC_to (b : List UInt8) : ∀ (n sh at_ v : Nat), (getC b n sh at_ v).2.2 = 0 → at_ < (getC b n sh at_ v).2.1 ∧ (getC b n sh at_ v).2.1 ≤ b.length ∧ (getC b n sh at_ v).1 ≤ 2147483647
  | 0, _, _, _, h => by simp [getC] at h
  | n + 1, sh, at_, v, h => by
    unfold getC at h ⊢
    split
    · rename_i e; rw [e] at h; simp at h
    · rename_i c e
      rw [e] at h
      have hl := (List.getElem?_eq_some_iff.1 e).1
      simp only at h ⊢
      split
      · rename_i h1; rw [if_pos h1] at h; simp at h
      · rename_i h1
        rw [if_neg h1] at h
        split
        · simp only; omega
        · rename_i h2
          rw [if_neg h2] at h
          have := getC_to b n _ _ _ h
          omega
theorem getL_to {b : List UInt8} {at_ n : Nat} (hn : n ≤ 7) (h : (getL b at_ n).2.2 = 0) : at_ < (getL b at_ n).2.1 ∧ (getL b at_ n).2.1 ≤ b.length ∧ (getL b at_ n).1 ≤ 2147483647 := by
  have hm : maskN n ≤ 127 := by unfold maskN; have : 2 ^ n ≤ 2 ^ 7 := Nat.pow_le_pow_right (by decide) hn; omega
  unfold getL at h ⊢
  split
  · rename_i e; rw [e] at h; simp at h
  · rename_i c e
    rw [e] at h
    have hl := (List.getElem?_eq_some_iff.1 e).1
    simp only at h ⊢
    split
    · simp only; omega
    · rename_i h1
      rw [if_neg h1] at h
      have := getC_to b _ _ _ _ h
      omega
theorem getC_code (b : List UInt8) : ∀ (n sh at_ v : Nat), (getC b n sh at_ v).2.2 = 0 ∨ ((getC b n sh at_ v) = (0, 0, 2) ∨ (getC b n sh at_ v) = (0, 0, 3))
  | 0, _, _, _ => Or.inr (Or.inl rfl)
  | n + 1, sh, at_, v => by
    unfold getC
    split
    · exact Or.inr (Or.inr rfl)
    · try simp only
      split
      · exact Or.inr (Or.inl rfl)
      · split
        · exact Or.inl rfl
        · exact getC_code b n _ _ _
theorem getL_code (b : List UInt8) (at_ n : Nat) : (getL b at_ n).2.2 = 0 ∨ ((getL b at_ n) = (0, 0, 2) ∨ (getL b at_ n) = (0, 0, 3)) := by
  unfold getL
  split
  · exact Or.inr (Or.inr rfl)
  · try simp only
    split
    · exact Or.inl rfl
    · exact getC_code b _ _ _ _
theorem textU_to {b : List UInt8} {at_ : Nat} (h : (textU b at_).2.2 = 0) : at_ < (textU b at_).2.1 ∧ (textU b at_).2.1 ≤ b.length ∧ (textU b at_).1.length ≤ 65536 := by
  unfold textU at h ⊢
  split
  · rename_i e; rw [e] at h; simp at h
  · rename_i c e
    rw [e] at h
    simp only at h ⊢
    split
    · rename_i h1; rw [if_pos h1] at h; exact absurd h h1
    rename_i h1
    rw [if_neg h1] at h
    have hg := getL_to (b := b) (at_ := at_) (n := 7) (by decide) (Decidable.not_not.1 h1)
    split
    · rename_i h2; rw [if_pos h2] at h; simp at h
    rename_i h2
    rw [if_neg h2] at h
    split
    · rename_i h3; rw [if_pos h3] at h; simp at h
    rename_i h3
    rw [if_neg h3] at h
    split
    · simp only [List.length_take, List.length_drop]; omega
    rename_i h4
    rw [if_neg h4] at h
    split
    · rename_i h5; rw [if_pos h5] at h; exact absurd h h5
    rename_i h5
    rw [if_neg h5] at h
    split
    · rename_i h6; rw [if_pos h6] at h; simp at h
    · simp only; omega
theorem nameU_to {l : List FieldL} {b : List UInt8} {i t2 : Nat} (ht : t2 ≤ b.length) (h : (nameU l b i t2).2.2 = 0) : t2 ≤ (nameU l b i t2).2.1 ∧ (nameU l b i t2).2.1 ≤ b.length := by
  unfold nameU at h ⊢
  split
  · rename_i h0
    rw [if_pos h0] at h
    split
    · simp only; omega
    · rename_i h1; rw [if_neg h1] at h; simp at h
  · rename_i h0
    rw [if_neg h0] at h
    have := textU_to h
    omega
theorem writU_to {l : List FieldL} {b : List UInt8} {at_ bits : Nat} (hb : bits ≤ 7) (h : (writU l b at_ bits).2.2 = 0) : at_ < (writU l b at_ bits).2.1 ∧ (writU l b at_ bits).2.1 ≤ b.length := by
  unfold writU at h ⊢
  split
  · rename_i h1; rw [if_pos h1] at h; exact absurd h h1
  rename_i h1
  rw [if_neg h1] at h
  have hg := getL_to hb (Decidable.not_not.1 h1)
  split
  · rename_i h2; rw [if_pos h2] at h; exact absurd h h2
  rename_i h2
  rw [if_neg h2] at h
  have hn := nameU_to hg.2.1 (Decidable.not_not.1 h2)
  split
  · rename_i h3; rw [if_pos h3] at h; exact absurd h h3
  rename_i h3
  have ht := textU_to (Decidable.not_not.1 h3)
  simp only
  omega
theorem idxU_to {l : List FieldL} {b : List UInt8} {at_ : Nat} (h : (idxU l b at_).2.2 = 0) : at_ < (idxU l b at_).2.1 ∧ (idxU l b at_).2.1 ≤ b.length := by
  unfold idxU at h ⊢
  split
  · rename_i h1; rw [if_pos h1] at h; exact absurd h h1
  rename_i h1
  rw [if_neg h1] at h
  have hg := getL_to (by decide) (Decidable.not_not.1 h1)
  split
  · simp only; omega
  · rename_i h2; rw [if_neg h2] at h; simp at h
theorem rowU_to {most : Int} {l : List FieldL} {b : List UInt8} {at_ c : Nat} (h : (rowU most l b at_ c).2.2.2 = 0) : at_ < (rowU most l b at_ c).2.2.1 ∧ (rowU most l b at_ c).2.2.1 ≤ b.length := by
  unfold rowU at h ⊢
  split
  · rename_i h1; rw [if_pos h1] at h; exact idxU_to h
  rename_i h1
  rw [if_neg h1] at h
  split
  · rename_i h2; rw [if_pos h2] at h; exact writU_to (by decide) h
  rename_i h2
  rw [if_neg h2] at h
  split
  · rename_i h3; rw [if_pos h3] at h; exact writU_to (by decide) h
  rename_i h3
  rw [if_neg h3] at h
  exact writU_to (by decide) h
theorem rowU_tab {most : Int} {l : List FieldL} {b : List UInt8} {at_ c : Nat} (h : (rowU most l b at_ c).2.2.2 ≠ 0) : (rowU most l b at_ c).2.1 = l := by
  unfold rowU at h ⊢
  split
  · rfl
  rename_i h1
  rw [if_neg h1] at h
  split
  · rename_i h2; rw [if_pos h2] at h; simp only at h ⊢; rw [if_neg h]
  rename_i h2
  split <;> rfl
theorem stepU_to {top list : Int} {b : List UInt8} {s : US} {c : Nat} (h : (stepU top list b s c).2 = 0) : s.at_ < (stepU top list b s c).1.at_ ∧ (stepU top list b s c).1.at_ ≤ b.length := by
  unfold stepU at h ⊢
  split
  · rename_i h0
    rw [if_pos h0] at h
    split
    · rename_i h1; rw [if_pos h1] at h; exact absurd h h1
    rename_i h1
    rw [if_neg h1] at h
    split
    · rename_i h2; rw [if_pos h2] at h; simp at h
    have := getL_to (by decide) (Decidable.not_not.1 h1)
    simp only
    omega
  · rename_i h0
    rw [if_neg h0] at h
    split
    · rename_i h1; rw [if_pos h1] at h; exact absurd h h1
    rename_i h1
    have := rowU_to (Decidable.not_not.1 h1)
    simp only
    omega
/-- The steps that are left: as many as there are bytes are enough. -/
theorem runU_more (top list : Int) (b : List UInt8) : ∀ (n m : Nat) (s : US), b.length < n + s.at_ → b.length < m + s.at_ → runU top list b n s = runU top list b m s
  | 0, 0, s, _, _ => rfl
  | 0, m + 1, s, h, _ => by
    rw [runU, runU, List.getElem?_eq_none (by omega)]
  | n + 1, 0, s, _, h => by
    rw [runU, runU, List.getElem?_eq_none (by omega)]
  | n + 1, m + 1, s, h1, h2 => by
    rw [runU, runU]
    split
    · rfl
    · split
      · rfl
      · rename_i hz
        have := stepU_to (Decidable.not_not.1 hz)
        exact runU_more top list b n m _ (by omega) (by omega)
theorem runU_step {top list : Int} {b : List UInt8} {s : US} {c : UInt8} (h : b[s.at_]? = some c) : runU top list b (b.length + 1) s = if (stepU top list b s c.toNat).2 ≠ 0 then stepU top list b s c.toNat else runU top list b (b.length + 1) (stepU top list b s c.toNat).1 := by
  rw [runU, h]
  simp only
  split
  · rfl
  · rename_i hz
    have := stepU_to (Decidable.not_not.1 hz)
    exact runU_more top list b _ _ _ (by omega) (by omega)
theorem runU_end {top list : Int} {b : List UInt8} {s : US} (h : b.length ≤ s.at_) : runU top list b (b.length + 1) s = (s, 0) := by
  rw [runU, List.getElem?_eq_none h]

end Go.Proofs.YtmlnboibclfmcaaDoor
namespace Go.Proofs.YtmlnboibclfmcaaDoor
open Go.RowKit
set_option linter.unusedVariables false

theorem and_a : ∀ c, c < 256 → bits .and .i64 ((c : Nat) : Int) 127 = ((c % 128 : Nat) : Int) := by decide +kernel
theorem and_b : ∀ c, c < 256 → bits .and .i64 ((c : Nat) : Int) 63 = ((c % 64 : Nat) : Int) := by decide +kernel
theorem and_c : ∀ c, c < 256 → bits .and .i64 ((c : Nat) : Int) 31 = ((c % 32 : Nat) : Int) := by decide +kernel
theorem and_d : ∀ c, c < 256 → bits .and .i64 ((c : Nat) : Int) 15 = ((c % 16 : Nat) : Int) := by decide +kernel
theorem and_m (n : Nat) (hn : n = 4 ∨ n = 5 ∨ n = 6 ∨ n = 7) (c : Nat) (hc : c < 256) : bits .and .i64 (c : Int) (maskN n : Int) = ((c % 2 ^ n : Nat) : Int) := by
  rcases hn with rfl | rfl | rfl | rfl
  · exact and_d c hc
  · exact and_c c hc
  · exact and_b c hc
  · exact and_a c hc
theorem get_num {v d2 K : Nat} (hv : v ≤ 2147483647) (hd : d2 ≤ 127) (hK : K ≤ 268435456) : ∃ y : Nat, wrap64 ((v : Int) + wrap64 ((d2 : Int) * (K : Int))) = (y : Int) ∧ v + d2 * K = y := by
  have h3 : d2 * K ≤ 127 * 268435456 := Nat.mul_le_mul hd hK
  refine ⟨v + d2 * K, ?_, rfl⟩
  rw [← Int.natCast_mul]
  generalize d2 * K = x at h3
  unfold wrap64
  omega
theorem get_num1 {v d2 : Nat} (hv : v ≤ 2147483647) (hd : d2 ≤ 127) : ∃ y : Nat, wrap64 ((v : Int) + wrap64 (d2 : Int)) = (y : Int) ∧ v + d2 * 1 = y := by
  refine ⟨v + d2, ?_, by omega⟩
  unfold wrap64
  omega
def getV (x : Nat × Nat × Int) : Value := .tuple #[.int .i64 (x.1 : Int), .int .i64 (x.2.1 : Int), .int .i64 x.2.2]

set_option maxHeartbeats 8000000 in
set_option maxRecDepth 100000 in
theorem get_any (va : Option Addr) (cap : Nat) (b : List UInt8) (at_ n : Nat) (w : World) (hr : Rb w (.slice va b.length cap) b) (hl : b.length ≤ 1000000000) (ha : at_ ≤ b.length) (hn : n = 4 ∨ n = 5 ∨ n = 6 ∨ n = 7) :
    Calls Tryd.prog 97 #[.slice va b.length cap, .int .i64 (at_ : Int), .int .i64 (n : Int)] w fun e w' => e = .returned (getV (getL b at_ n)) ∧ w = w' := by
  have HF := Lib.hid (fun w => full_any n hn w)
  have HAM := Lib.hid (fun c hc => and_m n hn c hc)
  obtain ⟨a0, c0, b0, o0, e0, m1, p1, q1, r1⟩ := hr.open
  injection e0 with e1 _ e2
  subst e1 e2
  have P1 := Lib.hid p1
  have R1 := Lib.hid r1
  have n0 : ¬ (n : Int) < 1 := by omega
  have n1 : ¬ (n : Int) > 8 := by omega
  have a0 : ¬ (at_ : Int) < 0 := by omega
  have a1 : ¬ (at_ : Int) > (b.length : Int) := by omega
  clear hr p1 q1 r1
  by_cases hlt : at_ < b.length
  rotate_left
  · have hz : ((at_ : Int) == (b.length : Int)) = true := by simp; omega
    have HG : Hid (getL b at_ n = (0, 0, 3)) := Lib.hid (by unfold getL; rw [List.getElem?_eq_none (by omega)])
    rw [HG.out]
    clear hn ha hlt
    go_enter Tryd.func97, Tryd.ntmps97
    go_wp2_with fail
    refine bodyPost_ret (v := .tuple #[.int .i64 0, .int .i64 0, .int .i64 3]) (by simp [results, Tryd.results97, go_sem]) rfl ?_
    exact ⟨rfl, rfl⟩
  have hz : ((at_ : Int) == (b.length : Int)) = false := by simp; omega
  have hne : b ≠ [] := by intro e; rw [e] at hlt; simp at hlt
  have hpa := P1.out hne
  subst hpa
  have hx := R1.out at_ hlt
  have hc := b[at_].toNat_lt
  have HG : Hid (getL b at_ n = if b[at_].toNat % 2 ^ n < maskN n then (b[at_].toNat % 2 ^ n, at_ + 1, 0) else getC b 5 0 (at_ + 1) (maskN n)) := Lib.hid (by unfold getL; rw [List.getElem?_eq_getElem hlt])
  have ham := HAM.out b[at_].toNat hc
  have hmm : maskN n ≤ 127 := by rcases hn with rfl | rfl | rfl | rfl <;> decide
  have hpw : 2 ^ n ≤ 2 ^ 7 := Nat.pow_le_pow_right (by decide) (by omega)
  have hmd : b[at_].toNat % 2 ^ n ≤ maskN n := by
    have := Nat.mod_lt b[at_].toNat (Nat.two_pow_pos n)
    unfold maskN
    omega
  obtain ⟨G, hG⟩ : ∃ G, getL b at_ n = G := ⟨_, rfl⟩
  rw [hG] at HG ⊢
  generalize b[at_].toNat = c at hx hc HG ham hmd
  generalize c % 2 ^ n = v0 at HG ham hmd
  generalize maskN n = M at HF HG ham hmm hmd
  have i1 : (at_ : Int) < (b.length : Int) := by omega
  clear hn HAM hpw hG hne ha hlt
  by_cases hv : v0 < M
  · have HG2 : Hid (G = (v0, at_ + 1, 0)) := Lib.hid (by rw [HG.out, if_pos hv])
    have hv2 : (v0 : Int) < (M : Int) := by omega
    go_enter Tryd.func97, Tryd.ntmps97
    go_wp2_with fail
    refine (HF.out _).mono ?_
    rintro e w1 ⟨rfl, rfl⟩
    go_wp2_with fail
    refine bodyPost_ret (v := .tuple #[.int .i64 (v0 : Int), .int .i64 ((at_ : Int) + 1), .int .i64 0]) (by simp [results, Tryd.results97, go_sem]) rfl ?_
    rw [HG2.out]
    exact ⟨rfl, rfl⟩
  have hvM : v0 = M := by omega
  subst hvM
  have HG2 : Hid (G = getC b 5 0 (at_ + 1) v0) := Lib.hid (by rw [HG.out, if_neg hv])
  have hv2 : ¬ (v0 : Int) < (v0 : Int) := by omega
  clear HG
  go_enter Tryd.func97, Tryd.ntmps97
  go_wp2_with fail
  refine (HF.out _).mono ?_
  rintro e w1 ⟨rfl, rfl⟩
  go_wp2_with fail
  go_loop [1, 10, 11] (fun va vv vi => ∃ (i at2 v : Nat), i ≤ 5 ∧ at2 ≤ b.length ∧ v ≤ 2147483647 ∧ va = .int .i64 (at2 : Int) ∧ vv = .int .i64 (v : Int) ∧ vi = .int .i64 (i : Int) ∧ Hid (G = getC b (5 - i) (7 * i) at2 v)) (fun _ _ vi => 6 - (intOf vi).toNat)
  case atStart => exact ⟨0, at_ + 1, v0, by omega, by omega, by omega, by go_num, rfl, by go_num, HG2⟩
  case round =>
    obtain ⟨i, at2, v, hi, hat, hvb, rfl, rfl, rfl, HC⟩ := hrel
    by_cases hi5 : i = 5
    · subst hi5
      have HE : Hid (G = (0, 0, 2)) := Lib.hid HC.out
      go_wp2_with fail
      refine bodyPost_ret (v := .tuple #[.int .i64 0, .int .i64 0, .int .i64 2]) (by simp [results, Tryd.results97, go_sem]) rfl ?_
      rw [HE.out]
      exact ⟨rfl, rfl⟩
    have hi5b : ((i : Int) == 5) = false := by simp; omega
    by_cases hat2 : at2 = b.length
    · have hz2 : ((at2 : Int) == (b.length : Int)) = true := by simp; omega
      have HE : Hid (G = (0, 0, 3)) := Lib.hid (by
        rw [HC.out]
        obtain ⟨f, hf⟩ : ∃ f, 5 - i = f + 1 := ⟨4 - i, by omega⟩
        rw [hf]
        unfold getC
        rw [List.getElem?_eq_none (by omega)])
      clear hat2
      go_wp2_with fail
      refine bodyPost_ret (v := .tuple #[.int .i64 0, .int .i64 0, .int .i64 3]) (by simp [results, Tryd.results97, go_sem]) rfl ?_
      rw [HE.out]
      exact ⟨rfl, rfl⟩
    have hz2 : ((at2 : Int) == (b.length : Int)) = false := by simp; omega
    have hlt2 : at2 < b.length := by omega
    have hx2 := R1.out at2 hlt2
    have hc2 := b[at2].toNat_lt
    have ha2 := and_a b[at2].toNat hc2
    have HGC : Hid (G = if 2147483647 < v + b[at2].toNat % 128 * 2 ^ (7 * i) then (0, 0, 2) else if b[at2].toNat < 128 then (v + b[at2].toNat % 128 * 2 ^ (7 * i), at2 + 1, 0) else getC b (5 - (i + 1)) (7 * (i + 1)) (at2 + 1) (v + b[at2].toNat % 128 * 2 ^ (7 * i))) := Lib.hid (by
      rw [HC.out]
      obtain ⟨f, hf⟩ : ∃ f, 5 - i = f + 1 := ⟨4 - i, by omega⟩
      rw [hf, show 5 - (i + 1) = f by omega]
      conv => lhs; unfold getC
      rw [List.getElem?_eq_getElem hlt2]
      rfl)
    have i2 : (at2 : Int) < (b.length : Int) := by omega
    have g7 : IntKind.i64.wrap (7 * (i : Int)) = 7 * (i : Int) := IntWalk.i64_in _ (by omega)
    generalize b[at2].toNat = c2 at hx2 hc2 ha2 HGC
    clear hat2 hlt2 HC
    have hd2 : c2 % 128 ≤ 127 := by omega
    generalize c2 % 128 = d2 at ha2 HGC hd2
    have HF0 := Lib.hid (get_num1 hvb hd2)
    have HFIN := Lib.hid (fun (K : Nat) h2 => get_num (K := K) hvb hd2 h2)
    clear hvb hd2
    rcases (show i = 0 ∨ i = 1 ∨ i = 2 ∨ i = 3 ∨ i = 4 by omega) with rfl | rfl | rfl | rfl | rfl
    · obtain ⟨y, k1, k3⟩ := HF0.out
      rw [show (2 : Nat) ^ (7 * 0) = 1 by decide, k3] at HGC
      clear k3 HFIN HF0
      by_cases hy : 2147483647 < y
      · have HE : Hid (G = (0, 0, 2)) := Lib.hid (by rw [HGC.out, if_pos hy])
        have hy2 : (y : Int) > 2147483647 := by omega
        clear hy
        go_wp2_with fail
        refine bodyPost_ret (v := .tuple #[.int .i64 0, .int .i64 0, .int .i64 2]) (by simp [results, Tryd.results97, go_sem]) rfl ?_
        rw [HE.out]
        exact ⟨rfl, rfl⟩
      have hy2 : ¬ (y : Int) > 2147483647 := by omega
      have HY := Lib.hid hy
      clear hy
      by_cases hc3 : c2 < 128
      · have HE : Hid (G = (y, at2 + 1, 0)) := Lib.hid (by rw [HGC.out, if_neg HY.out, if_pos hc3])
        have hc4 : (c2 : Int) < 128 := by omega
        clear hc3
        go_wp2_with fail
        refine bodyPost_ret (v := .tuple #[.int .i64 (y : Int), .int .i64 ((at2 : Int) + 1), .int .i64 0]) (by simp [results, Tryd.results97, go_sem]) rfl ?_
        rw [HE.out]
        exact ⟨rfl, rfl⟩
      · have HE : Hid (G = getC b (5 - (0 + 1)) (7 * (0 + 1)) (at2 + 1) y) := Lib.hid (by rw [HGC.out, if_neg HY.out, if_neg hc3])
        have hc4 : ¬ (c2 : Int) < 128 := by omega
        clear hc3
        go_wp2_with fail
        go_round
        case rel => exact ⟨0 + 1, at2 + 1, y, by omega, by omega, by have := HY.out; omega, by go_num, by first | rfl | rw [k1], by go_num, HE⟩
        case measure => simp [intOf]
    · obtain ⟨y, k0, k3⟩ := HFIN.out 128 (by decide)
      have k1 : wrap64 ((v : Int) + wrap64 ((d2 : Int) * 128)) = (y : Int) := k0
      clear k0
      rw [show (2 : Nat) ^ (7 * 1) = 128 by decide, k3] at HGC
      clear k3 HFIN HF0
      by_cases hy : 2147483647 < y
      · have HE : Hid (G = (0, 0, 2)) := Lib.hid (by rw [HGC.out, if_pos hy])
        have hy2 : (y : Int) > 2147483647 := by omega
        clear hy
        go_wp2_with fail
        refine bodyPost_ret (v := .tuple #[.int .i64 0, .int .i64 0, .int .i64 2]) (by simp [results, Tryd.results97, go_sem]) rfl ?_
        rw [HE.out]
        exact ⟨rfl, rfl⟩
      have hy2 : ¬ (y : Int) > 2147483647 := by omega
      have HY := Lib.hid hy
      clear hy
      by_cases hc3 : c2 < 128
      · have HE : Hid (G = (y, at2 + 1, 0)) := Lib.hid (by rw [HGC.out, if_neg HY.out, if_pos hc3])
        have hc4 : (c2 : Int) < 128 := by omega
        clear hc3
        go_wp2_with fail
        refine bodyPost_ret (v := .tuple #[.int .i64 (y : Int), .int .i64 ((at2 : Int) + 1), .int .i64 0]) (by simp [results, Tryd.results97, go_sem]) rfl ?_
        rw [HE.out]
        exact ⟨rfl, rfl⟩
      · have HE : Hid (G = getC b (5 - (1 + 1)) (7 * (1 + 1)) (at2 + 1) y) := Lib.hid (by rw [HGC.out, if_neg HY.out, if_neg hc3])
        have hc4 : ¬ (c2 : Int) < 128 := by omega
        clear hc3
        go_wp2_with fail
        go_round
        case rel => exact ⟨1 + 1, at2 + 1, y, by omega, by omega, by have := HY.out; omega, by go_num, by first | rfl | rw [k1], by go_num, HE⟩
        case measure => simp [intOf]
    · obtain ⟨y, k0, k3⟩ := HFIN.out 16384 (by decide)
      have k1 : wrap64 ((v : Int) + wrap64 ((d2 : Int) * 16384)) = (y : Int) := k0
      clear k0
      rw [show (2 : Nat) ^ (7 * 2) = 16384 by decide, k3] at HGC
      clear k3 HFIN HF0
      by_cases hy : 2147483647 < y
      · have HE : Hid (G = (0, 0, 2)) := Lib.hid (by rw [HGC.out, if_pos hy])
        have hy2 : (y : Int) > 2147483647 := by omega
        clear hy
        go_wp2_with fail
        refine bodyPost_ret (v := .tuple #[.int .i64 0, .int .i64 0, .int .i64 2]) (by simp [results, Tryd.results97, go_sem]) rfl ?_
        rw [HE.out]
        exact ⟨rfl, rfl⟩
      have hy2 : ¬ (y : Int) > 2147483647 := by omega
      have HY := Lib.hid hy
      clear hy
      by_cases hc3 : c2 < 128
      · have HE : Hid (G = (y, at2 + 1, 0)) := Lib.hid (by rw [HGC.out, if_neg HY.out, if_pos hc3])
        have hc4 : (c2 : Int) < 128 := by omega
        clear hc3
        go_wp2_with fail
        refine bodyPost_ret (v := .tuple #[.int .i64 (y : Int), .int .i64 ((at2 : Int) + 1), .int .i64 0]) (by simp [results, Tryd.results97, go_sem]) rfl ?_
        rw [HE.out]
        exact ⟨rfl, rfl⟩
      · have HE : Hid (G = getC b (5 - (2 + 1)) (7 * (2 + 1)) (at2 + 1) y) := Lib.hid (by rw [HGC.out, if_neg HY.out, if_neg hc3])
        have hc4 : ¬ (c2 : Int) < 128 := by omega
        clear hc3
        go_wp2_with fail
        go_round
        case rel => exact ⟨2 + 1, at2 + 1, y, by omega, by omega, by have := HY.out; omega, by go_num, by first | rfl | rw [k1], by go_num, HE⟩
        case measure => simp [intOf]
    · obtain ⟨y, k0, k3⟩ := HFIN.out 2097152 (by decide)
      have k1 : wrap64 ((v : Int) + wrap64 ((d2 : Int) * 2097152)) = (y : Int) := k0
      clear k0
      rw [show (2 : Nat) ^ (7 * 3) = 2097152 by decide, k3] at HGC
      clear k3 HFIN HF0
      by_cases hy : 2147483647 < y
      · have HE : Hid (G = (0, 0, 2)) := Lib.hid (by rw [HGC.out, if_pos hy])
        have hy2 : (y : Int) > 2147483647 := by omega
        clear hy
        go_wp2_with fail
        refine bodyPost_ret (v := .tuple #[.int .i64 0, .int .i64 0, .int .i64 2]) (by simp [results, Tryd.results97, go_sem]) rfl ?_
        rw [HE.out]
        exact ⟨rfl, rfl⟩
      have hy2 : ¬ (y : Int) > 2147483647 := by omega
      have HY := Lib.hid hy
      clear hy
      by_cases hc3 : c2 < 128
      · have HE : Hid (G = (y, at2 + 1, 0)) := Lib.hid (by rw [HGC.out, if_neg HY.out, if_pos hc3])
        have hc4 : (c2 : Int) < 128 := by omega
        clear hc3
        go_wp2_with fail
        refine bodyPost_ret (v := .tuple #[.int .i64 (y : Int), .int .i64 ((at2 : Int) + 1), .int .i64 0]) (by simp [results, Tryd.results97, go_sem]) rfl ?_
        rw [HE.out]
        exact ⟨rfl, rfl⟩
      · have HE : Hid (G = getC b (5 - (3 + 1)) (7 * (3 + 1)) (at2 + 1) y) := Lib.hid (by rw [HGC.out, if_neg HY.out, if_neg hc3])
        have hc4 : ¬ (c2 : Int) < 128 := by omega
        clear hc3
        go_wp2_with fail
        go_round
        case rel => exact ⟨3 + 1, at2 + 1, y, by omega, by omega, by have := HY.out; omega, by go_num, by first | rfl | rw [k1], by go_num, HE⟩
        case measure => simp [intOf]
    · obtain ⟨y, k0, k3⟩ := HFIN.out 268435456 (by decide)
      have k1 : wrap64 ((v : Int) + wrap64 ((d2 : Int) * 268435456)) = (y : Int) := k0
      clear k0
      rw [show (2 : Nat) ^ (7 * 4) = 268435456 by decide, k3] at HGC
      clear k3 HFIN HF0
      by_cases hy : 2147483647 < y
      · have HE : Hid (G = (0, 0, 2)) := Lib.hid (by rw [HGC.out, if_pos hy])
        have hy2 : (y : Int) > 2147483647 := by omega
        clear hy
        go_wp2_with fail
        refine bodyPost_ret (v := .tuple #[.int .i64 0, .int .i64 0, .int .i64 2]) (by simp [results, Tryd.results97, go_sem]) rfl ?_
        rw [HE.out]
        exact ⟨rfl, rfl⟩
      have hy2 : ¬ (y : Int) > 2147483647 := by omega
      have HY := Lib.hid hy
      clear hy
      by_cases hc3 : c2 < 128
      · have HE : Hid (G = (y, at2 + 1, 0)) := Lib.hid (by rw [HGC.out, if_neg HY.out, if_pos hc3])
        have hc4 : (c2 : Int) < 128 := by omega
        clear hc3
        go_wp2_with fail
        refine bodyPost_ret (v := .tuple #[.int .i64 (y : Int), .int .i64 ((at2 : Int) + 1), .int .i64 0]) (by simp [results, Tryd.results97, go_sem]) rfl ?_
        rw [HE.out]
        exact ⟨rfl, rfl⟩
      · have HE : Hid (G = getC b (5 - (4 + 1)) (7 * (4 + 1)) (at2 + 1) y) := Lib.hid (by rw [HGC.out, if_neg HY.out, if_neg hc3])
        have hc4 : ¬ (c2 : Int) < 128 := by omega
        clear hc3
        go_wp2_with fail
        go_round
        case rel => exact ⟨4 + 1, at2 + 1, y, by omega, by omega, by have := HY.out; omega, by go_num, by first | rfl | rw [k1], by go_num, HE⟩
        case measure => simp [intOf]
end Go.Proofs.YtmlnboibclfmcaaDoor
