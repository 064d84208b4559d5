/-
  What a packer writes is read again: numbers, texts, rows, blocks.
-/
import Derived.Test.YtmlnboibclfmcaaDoorUnGet
import Derived.Test.YtmlnboibclfmcaaDoorHuffSz
namespace Go.Proofs.YtmlnboibclfmcaaDoor
open Go.RowKit
set_option linter.unusedVariables false

/-- At a place of b stand the bytes m. -/
def AtU (b : List UInt8) (i : Nat) (m : List UInt8) : Prop := ∃ r, b.drop i = m ++ r
theorem AtU.app {b : List UInt8} {i : Nat} {m n : List UInt8} (h : AtU b i (m ++ n)) : AtU b i m ∧ AtU b (i + m.length) n := by
  obtain ⟨r, h⟩ := h
  refine ⟨⟨n ++ r, by rw [h, List.append_assoc]⟩, ⟨r, ?_⟩⟩
  rw [← List.drop_drop, h, List.append_assoc, List.drop_left']
  rfl
theorem AtU.cons {b : List UInt8} {i : Nat} {x : UInt8} {m : List UInt8} (h : AtU b i (x :: m)) : b[i]? = some x ∧ AtU b (i + 1) m := by
  have h2 := AtU.app (m := [x]) (n := m) h
  obtain ⟨r, h⟩ := h
  refine ⟨?_, h2.2⟩
  have := congrArg (fun l => l[0]?) h
  simpa using this
theorem AtU.len {b : List UInt8} {i : Nat} {m : List UInt8} (h : AtU b i m) (hi : i ≤ b.length) : i + m.length ≤ b.length := by
  obtain ⟨r, h⟩ := h
  have := congrArg List.length h
  simp at this
  omega
theorem AtU.take {b : List UInt8} {i : Nat} {m : List UInt8} (h : AtU b i m) : (b.drop i).take m.length = m := by
  obtain ⟨r, h⟩ := h
  rw [h, List.take_left']
  rfl
theorem toNat_byte {n : Nat} (h : n < 256) : (byteOf ((n : Nat) : Int)).toNat = n := by
  have := byteOf_toNat (n := (n : Int)) (by omega) (by omega)
  omega
theorem getC_cont (b : List UInt8) : ∀ (f at_ sh v x : Nat), 0 < f → x < 128 ^ f → v + x * 2 ^ sh ≤ 2147483647 → AtU b at_ (contF f x) → getC b f sh at_ v = (v + x * 2 ^ sh, at_ + (contF f x).length, 0)
  | 0, _, _, _, _, h, _, _, _ => by omega
  | f + 1, at_, sh, v, x, _, hx, hv, ha => by
    unfold contF at ha ⊢
    by_cases h : x < 128
    · rw [if_pos h] at ha ⊢
      obtain ⟨h1, -⟩ := ha.cons
      have hb := toNat_byte (n := x) (by omega)
      unfold getC
      rw [h1]
      simp only
      rw [hb, Nat.mod_eq_of_lt h, if_neg (by omega), if_pos h]
      simp
    · rw [if_neg h] at ha ⊢
      obtain ⟨h1, h2⟩ := ha.cons
      have e : ((x : Int) % 128 + 128) = ((x % 128 + 128 : Nat) : Int) := by omega
      rw [e] at h1
      have hb := toNat_byte (n := x % 128 + 128) (by omega)
      have hs : x % 128 * 2 ^ sh + x / 128 * 2 ^ (sh + 7) = x * 2 ^ sh := by
        rw [Nat.pow_add, show (2 : Nat) ^ 7 = 128 by decide, ← Nat.mul_assoc, Nat.mul_right_comm, ← Nat.add_mul]
        congr 1
        omega
      have hp : x / 128 < 128 ^ f := by rw [Nat.pow_succ] at hx; omega
      have hf : 0 < f := by
        rcases Nat.eq_zero_or_pos f with h0 | h0
        · rw [h0] at hp; simp at hp; omega
        · exact h0
      have hle : x / 128 * 2 ^ (sh + 7) ≥ 0 := Nat.zero_le _
      unfold getC
      rw [h1]
      simp only
      rw [hb, show (x % 128 + 128) % 128 = x % 128 by omega, if_neg (by omega), if_neg (by omega)]
      rw [getC_cont b f (at_ + 1) (sh + 7) (v + x % 128 * 2 ^ sh) (x / 128) hf hp (by omega) h2]
      rw [List.length_cons, Nat.add_assoc v, hs]
      congr 2
      omega
theorem getL_put {b : List UInt8} {at_ n top v : Nat} (hn : n ≤ 7) (h0 : 1 ≤ n) (ht : top % 2 ^ n = 0) (htt : top + maskN n < 256) (hv : v ≤ 2147483647) (ha : AtU b at_ (pintL n top v)) :
    getL b at_ n = (v, at_ + (pintL n top v).length, 0) ∧ ∃ c, b[at_]? = some c ∧ top ≤ c.toNat ∧ c.toNat ≤ top + maskN n := by
  have hm1 : maskN n + 1 = 2 ^ n := by unfold maskN; have := Nat.two_pow_pos n; omega
  unfold pintL at ha ⊢
  by_cases h : v < maskN n
  · rw [if_pos h] at ha ⊢
    obtain ⟨h1, -⟩ := ha.cons
    have e : ((top : Int) + (v : Int)) = ((top + v : Nat) : Int) := by omega
    rw [e] at h1
    have hb := toNat_byte (n := top + v) (by omega)
    refine ⟨?_, _, h1, by omega, by omega⟩
    unfold getL
    rw [h1]
    simp only
    rw [hb, show (top + v) % 2 ^ n = v by rw [Nat.add_mod, ht, Nat.zero_add, Nat.mod_mod, Nat.mod_eq_of_lt (by omega)], if_pos h]
    simp
  · rw [if_neg h] at ha ⊢
    obtain ⟨h1, h2⟩ := ha.cons
    have e : ((top : Int) + (maskN n : Int)) = ((top + maskN n : Nat) : Int) := by omega
    rw [e] at h1
    have hb := toNat_byte (n := top + maskN n) htt
    refine ⟨?_, _, h1, by omega, by omega⟩
    unfold getL
    rw [h1]
    simp only
    rw [hb, show (top + maskN n) % 2 ^ n = maskN n by rw [Nat.add_mod, ht, Nat.zero_add, Nat.mod_mod, Nat.mod_eq_of_lt (by omega)], if_neg (by omega)]
    have hp5 : (128 : Nat) ^ 5 = 34359738368 := by decide
    rw [getC_cont b 5 (at_ + 1) 0 (maskN n) (v - maskN n) (by decide) (by rw [hp5]; omega) (by rw [Nat.pow_zero, Nat.mul_one]; omega) h2]
    rw [Nat.pow_zero, Nat.mul_one, show maskN n + (v - maskN n) = v by omega]
    rw [List.length_cons, show at_ + 1 + (contF 5 (v - maskN n)).length = at_ + ((contF 5 (v - maskN n)).length + 1) by omega]
theorem textU_put {b : List UInt8} {at_ : Nat} {s : List UInt8} (hs : s.length ≤ 60000) (hi : at_ ≤ b.length) (ha : AtU b at_ (textL s)) : textU b at_ = (s, at_ + (textL s).length, 0) := by
  unfold textL at ha ⊢
  have hz := sizeF_len s
  by_cases h : sizeF s < (s.length : Int)
  · rw [if_pos h] at ha ⊢
    obtain ⟨h1, h2⟩ := ha.app
    have hl := ha.len hi
    have e : (sizeF s).toNat = (encF s).length := by omega
    rw [e] at h1 h2 hl ⊢
    obtain ⟨hg, c, hc, hc1, hc2⟩ := getL_put (n := 7) (top := 128) (by decide) (by decide) (by decide) (by decide) (by omega) h1
    unfold textU
    rw [hc]
    simp only
    rw [hg]
    simp only
    rw [List.length_append] at hl ⊢
    rw [if_neg (by simp), if_neg (by omega), if_neg (by omega), if_neg (by omega), h2.take, dec_enc]
    simp only
    rw [if_neg (by simp), if_neg (by omega)]
    congr 2
    omega
  · rw [if_neg h] at ha ⊢
    obtain ⟨h1, h2⟩ := ha.app
    have hl := ha.len hi
    obtain ⟨hg, c, hc, hc1, hc2⟩ := getL_put (n := 7) (top := 0) (by decide) (by decide) (by decide) (by decide) (by omega) h1
    have hm : maskN 7 = 127 := rfl
    unfold textU
    rw [hc]
    simp only
    rw [hg]
    simp only
    rw [List.length_append] at hl ⊢
    rw [if_neg (by simp), if_neg (by omega), if_neg (by omega), if_pos (by omega), h2.take]
    congr 2
    omega
theorem writU_put {l : List FieldL} {b : List UInt8} {at_ bits top : Nat} {f : FieldL} (hn : bits ≤ 7) (h0 : 1 ≤ bits) (ht : top % 2 ^ bits = 0) (htt : top + maskN bits < 256) (hf1 : f.1.length ≤ 60000) (hf2 : f.2.length ≤ 60000) (hl : l.length ≤ 1000000) (hi : at_ ≤ b.length)
    (hw : (findF l f).2 = false ∨ ∃ j : Nat, findF l f = ((j : Int) + 1, true)) (ha : AtU b at_ (writL (findF l f).1.toNat bits top f.1 f.2)) :
    writU l b at_ bits = (f, at_ + (writL (findF l f).1.toNat bits top f.1 f.2).length, 0) ∧ ∃ c, b[at_]? = some c ∧ top ≤ c.toNat ∧ c.toNat ≤ top + maskN bits := by
  have hbd := findF_bd l f
  unfold writL at ha ⊢
  obtain ⟨h1, h2⟩ := ha.app
  have hl1 := h1.len hi
  obtain ⟨hg, c, hc, hc1, hc2⟩ := getL_put hn h0 ht htt (by omega) h1
  refine ⟨?_, c, hc, hc1, hc2⟩
  have hname : ∃ N : List UInt8, (if (findF l f).1.toNat = 0 then textL f.1 else []) = N ∧ nameU l b (findF l f).1.toNat (at_ + (pintL bits top (findF l f).1.toNat).length) = (f.1, at_ + (pintL bits top (findF l f).1.toNat).length + N.length, 0) := by
    rcases find_cases l f with h | ⟨j, hj, h, hgf, hgb⟩ | ⟨j, x, hj, h, hgf, hgb, hx, -⟩
    · refine ⟨_, rfl, ?_⟩
      rw [h] at h2 hl1 ⊢
      simp only [Int.toNat_zero, if_true] at h2 ⊢
      unfold nameU
      rw [if_neg (by omega)]
      obtain ⟨h3, h4⟩ := h2.app
      simp only [Int.toNat_zero] at hl1
      exact textU_put hf1 hl1 h3
    · refine ⟨[], ?_, ?_⟩
      · rw [h]; rw [if_neg (by simp only; omega)]
      · rw [h]
        simp only
        rw [show ((j : Int) + 1).toNat = j + 1 by omega]
        unfold nameU
        rw [if_pos (by omega), show (((j + 1 : Nat)) : Int) = (j : Int) + 1 by omega, if_pos hgb, hgf]
        simp
    · refine ⟨[], ?_, ?_⟩
      · rw [h]; rw [if_neg (by simp only; omega)]
      · rw [h]
        simp only
        rw [show ((j : Int) + 1).toNat = j + 1 by omega]
        unfold nameU
        rw [if_pos (by omega), show (((j + 1 : Nat)) : Int) = (j : Int) + 1 by omega, if_pos hgb, hgf, hx]
        simp
  obtain ⟨N, hN, hnm⟩ := hname
  rw [hN] at h2 ⊢
  obtain ⟨h3, h4⟩ := h2.app
  have hl3 := h3.len hl1
  have ht2 := textU_put hf2 hl3 h4
  unfold writU
  rw [hg]
  simp only
  rw [if_neg (by simp), hnm]
  simp only
  rw [if_neg (by simp), ht2]
  simp only
  rw [if_neg (by simp)]
  rw [List.length_append, List.length_append]
  congr 2
  omega
/-- How a row is read that was written with How r. -/
def howU (w : Bool) (how : Int) : Int := if how = 3 then 3 else if w = true ∨ how = 1 then 1 else 2
theorem rowU_put {most : Int} {l : List FieldL} {b : List UInt8} {at_ : Nat} {r : RowL} (hf1 : r.f.1.length ≤ 60000) (hf2 : r.f.2.length ≤ 60000) (hl : l.length ≤ 1000000) (hi : at_ ≤ b.length) (ha : AtU b at_ (rowB most l r).1) :
    ∃ c, b[at_]? = some c ∧ ¬ (32 ≤ c.toNat ∧ c.toNat < 64) ∧ rowU most l b at_ c.toNat = (⟨r.f, howU (findF l r.f).2 r.how⟩, (rowB most l r).2, at_ + (rowB most l r).1.length, 0) := by
  have hbd := findF_bd l r.f
  have hw : (findF l r.f).2 = false ∨ ∃ j : Nat, findF l r.f = ((j : Int) + 1, true) := by
    rcases find_cases l r.f with h | ⟨j, hj, h, -⟩ | ⟨j, x, hj, h, -⟩
    · rw [h]; exact Or.inl rfl
    · exact Or.inr ⟨j, h⟩
    · rw [h]; exact Or.inl rfl
  unfold rowB at ha ⊢
  by_cases h1 : (findF l r.f).2 = true ∧ r.how ≠ 3
  · rw [if_pos h1] at ha ⊢
    simp only at ha ⊢
    obtain ⟨hg, c, hc, hc1, hc2⟩ := getL_put (n := 7) (top := 128) (by decide) (by decide) (by decide) (by decide) (by omega) ha
    refine ⟨c, hc, by omega, ?_⟩
    have hh : howU (findF l r.f).2 r.how = 1 := by unfold howU; rw [if_neg h1.2, if_pos (Or.inl h1.1)]
    rw [hh]
    unfold rowU
    rw [if_pos hc1]
    rcases find_cases l r.f with h | ⟨j, hj, h, hgf, hgb⟩ | ⟨j, x, hj, h, -⟩
    · rw [h] at h1; cases h1.1
    · have e : idxU l b at_ = (r.f, at_ + (pintL 7 128 (findF l r.f).1.toNat).length, 0) := by
        unfold idxU
        rw [hg]
        simp only
        rw [if_neg (by simp)]
        rw [h]
        simp only
        rw [show (((((j : Int) + 1).toNat : Nat)) : Int) = (j : Int) + 1 by omega, if_pos hgb, hgf]
      rw [e]
    · rw [h] at h1; cases h1.1
  · rw [if_neg h1] at ha ⊢
    by_cases h2 : r.how = 1
    · rw [if_pos h2] at ha ⊢
      simp only at ha ⊢
      obtain ⟨he, c, hc, hc1, hc2⟩ := writU_put (bits := 6) (top := 64) (by decide) (by decide) (by decide) (by decide) hf1 hf2 hl hi hw ha
      have hm : maskN 6 = 63 := rfl
      refine ⟨c, hc, by omega, ?_⟩
      have hh : howU (findF l r.f).2 r.how = 1 := by unfold howU; rw [if_neg (by omega), if_pos (Or.inr h2)]
      rw [hh]
      unfold rowU
      rw [if_neg (by omega), if_pos (by omega), he]
      simp only [if_true]
    · rw [if_neg h2] at ha ⊢
      by_cases h3 : r.how = 3
      · rw [if_pos h3] at ha ⊢
        simp only at ha ⊢
        obtain ⟨he, c, hc, hc1, hc2⟩ := writU_put (bits := 4) (top := 16) (by decide) (by decide) (by decide) (by decide) hf1 hf2 hl hi hw ha
        have hm : maskN 4 = 15 := rfl
        refine ⟨c, hc, by omega, ?_⟩
        have hh : howU (findF l r.f).2 r.how = 3 := by unfold howU; rw [if_pos h3]
        rw [hh]
        unfold rowU
        rw [if_neg (by omega), if_neg (by omega), if_pos (by omega), he]
      · rw [if_neg h3] at ha ⊢
        simp only at ha ⊢
        obtain ⟨he, c, hc, hc1, hc2⟩ := writU_put (bits := 4) (top := 0) (by decide) (by decide) (by decide) (by decide) hf1 hf2 hl hi hw ha
        have hm : maskN 4 = 15 := rfl
        refine ⟨c, hc, by omega, ?_⟩
        have hq : (findF l r.f).2 = false := by
          cases hq : (findF l r.f).2
          · rfl
          · exact absurd ⟨hq, h3⟩ h1
        have hh : howU (findF l r.f).2 r.how = 2 := by unfold howU; rw [if_neg h3, hq, if_neg (by simp [h2])]
        rw [hh]
        unfold rowU
        rw [if_neg (by omega), if_neg (by omega), if_neg (by omega), he]
/-- The rows that are read. -/
def readR (most : Int) : List FieldL → List RowL → List RowL
  | _, [] => []
  | l, r :: rs => ⟨r.f, howU (findF l r.f).2 r.how⟩ :: readR most (rowB most l r).2 rs
theorem rowsB_bytes (most : Int) : ∀ (rs : List RowL) (s : List UInt8 × List FieldL), rowsB most s rs = (s.1 ++ (rowsB most ([], s.2) rs).1, (rowsB most ([], s.2) rs).2)
  | [], s => by simp [rowsB]
  | r :: rs, s => by
    rw [rowsB, rowsB_bytes most rs, rowsB, rowsB_bytes most rs ([] ++ _, _)]
    simp [List.append_assoc]
theorem runU_rows {top list : Int} {b : List UInt8} {most : Int} (hm0 : 0 ≤ most) (hm : most ≤ 65536) : ∀ (rs : List RowL) (s : US), s.most = most → (sumF s.tab : Int) ≤ most → (∀ r ∈ rs, r.f.1.length ≤ 60000 ∧ r.f.2.length ≤ 60000) → s.at_ ≤ b.length → b.drop s.at_ = (rowsB most ([], s.tab) rs).1 → ((s.sum + sumR rs : Nat) : Int) ≤ list →
    runU top list b (b.length + 1) s = (⟨b.length, s.rows ++ readR most s.tab rs, s.sum + sumR rs, s.sizes, (rowsB most ([], s.tab) rs).2, most⟩, 0)
  | [], s, h1, h2, h3, h4, h5, h6 => by
    simp only [rowsB] at h5 ⊢
    have hle : b.length ≤ s.at_ := by
      have := congrArg List.length h5
      simp at this
      omega
    rw [runU_end hle]
    simp only [readR, List.append_nil, sumR, List.map_nil, List.sum_nil, Nat.add_zero]
    have : s.at_ = b.length := by omega
    rw [← this, ← h1]
  | r :: rs, s, h1, h2, h3, h4, h5, h6 => by
    rw [rowsB, rowsB_bytes] at h5
    rw [sumR_cons] at h6
    simp only [List.nil_append] at h5
    have ha : AtU b s.at_ (rowB most s.tab r).1 := ⟨_, h5⟩
    obtain ⟨g1, g2⟩ := h3 r (List.mem_cons_self ..)
    have hll : s.tab.length ≤ 1000000 := by have := sumF_len s.tab; omega
    obtain ⟨c, hc, hn, hr⟩ := rowU_put (most := most) g1 g2 hll h4 ha
    have hz : fsize r.f = r.f.1.length + r.f.2.length + 32 := rfl
    rw [runU_step hc]
    have hst : stepU top list b s c.toNat = (⟨s.at_ + (rowB most s.tab r).1.length, s.rows ++ [⟨r.f, howU (findF s.tab r.f).2 r.how⟩], s.sum + fsize r.f, s.sizes, (rowB most s.tab r).2, most⟩, 0) := by
      unfold stepU
      rw [if_neg hn, h1, hr]
      simp only
      rw [if_neg (by simp), if_neg (by rw [hz]; omega)]
    rw [hst]
    simp only
    rw [if_neg (by simp)]
    have hlen := ha.len h4
    have hdrop : b.drop (s.at_ + (rowB most s.tab r).1.length) = (rowsB most ([], (rowB most s.tab r).2) rs).1 := by
      rw [← List.drop_drop, h5, List.drop_left']
      rfl
    have hrec := runU_rows (top := top) (list := list) hm0 hm rs (⟨s.at_ + (rowB most s.tab r).1.length, s.rows ++ [(⟨r.f, howU (findF s.tab r.f).2 r.how⟩ : RowL)], s.sum + fsize r.f, s.sizes, (rowB most s.tab r).2, most⟩ : US) rfl (rowB_tab most hm0 s.tab r h2) (fun x hx => h3 x (List.mem_cons_of_mem _ hx)) hlen hdrop (by simp only; rw [hz]; omega)
    rw [hrec]
    simp only
    rw [rowsB, rowsB_bytes]
    simp only [readR]
    rw [sumR_cons, hz]
    congr 1
    · congr 1
      · simp
      · omega
      · exact (congrArg Prod.snd (rowsB_bytes most rs ([] ++ (rowB most s.tab r).1, (rowB most s.tab r).2))).symm

end Go.Proofs.YtmlnboibclfmcaaDoor
