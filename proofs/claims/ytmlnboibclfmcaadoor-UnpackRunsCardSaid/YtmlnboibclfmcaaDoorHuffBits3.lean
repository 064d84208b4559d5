/-
  What is encoded has the bits of the text's codes and a few ones; what is read of bytes has these bytes.
-/
import Derived.Test.YtmlnboibclfmcaaDoorHuffBits2
namespace Go.Proofs.YtmlnboibclfmcaaDoor
open Go.RowKit

theorem low_split (c : Int) (a b : Nat) : low c (a + b) = low (c / 2 ^ b) a ++ low c b := by
  have hp : (0 : Int) < 2 ^ b := Int.pow_pos (by decide)
  have e : c = (c / 2 ^ b) * 2 ^ b + c % 2 ^ b := by
    have := Int.emod_add_mul_ediv c (2 ^ b)
    rw [Int.mul_comm] at this
    omega
  have h1 : low c b = low (c % 2 ^ b) b := by
    have := low_mod (c % 2 ^ b) b (2 ^ b * (c / 2 ^ b)) ⟨_, rfl⟩
    rw [Int.emod_add_mul_ediv] at this
    exact this
  rw [h1, ← low_cat (c / 2 ^ b) (c % 2 ^ b) a b (Int.emod_nonneg _ (by omega)) (Int.emod_lt_of_pos _ hp), ← e]
theorem byteBits_low (x : Int) : byteBits (byteOf (x % 256)) = low x 8 := by
  unfold byteBits
  rw [byteOf_toNat (by omega) (by omega)]
  have := low_mod (x % 256) 8 (2 ^ 8 * (x / 256)) ⟨_, rfl⟩
  rw [show x % 256 + 2 ^ 8 * (x / 256) = x by omega] at this
  exact this.symm
theorem BB_append (a b : List UInt8) : BB (a ++ b) = BB a ++ BB b := by simp [BB]
theorem BB_one (c : UInt8) : BB [c] = byteBits c := by simp [BB]
theorem encBits_append (a b : List UInt8) : encBits (a ++ b) = encBits a ++ encBits b := by simp [encBits]
theorem encBits_one (c : UInt8) : encBits [c] = symBits c := by simp [encBits]

theorem emit_bits (left : Int) : ∀ (f n : Nat) (o : List UInt8), n ≤ 7 + 8 * f →
    (emitF f left n o).1 ≤ 7 ∧ BB (emitF f left n o).2 ++ low left (emitF f left n o).1 = BB o ++ low left n
  | 0, n, o, h => ⟨by simpa [emitF] using h, rfl⟩
  | f + 1, n, o, h => by
    unfold emitF
    by_cases h8 : 8 ≤ n
    · rw [if_pos h8]
      obtain ⟨h1, h2⟩ := emit_bits left f (n - 8) (o ++ [byteOf (left / 2 ^ (n - 8) % 256)]) (by omega)
      refine ⟨h1, ?_⟩
      rw [h2, BB_append, BB_one, byteBits_low, List.append_assoc, ← low_split, show 8 + (n - 8) = n by omega]
    · rw [if_neg h8]
      exact ⟨by omega, rfl⟩
theorem pow_dvd64 {k : Nat} (h : k ≤ 64) (x : Int) : ∃ q, 18446744073709551616 * x = 2 ^ k * q := by
  refine ⟨2 ^ (64 - k) * x, ?_⟩
  rw [← Int.mul_assoc, ← Int.pow_add, show k + (64 - k) = 64 by omega]
  rfl
theorem step_bits (left : Int) (n : Nat) (x : UInt8) (hn : n ≤ 7) :
    low (left * 2 ^ (Hp.lensL.getD x.toNat 0) % 18446744073709551616 + codeF x.toNat) (n + Hp.lensL.getD x.toNat 0) = low left n ++ symBits x := by
  have hx := x.toNat_lt
  have hl := Hp.lensL_bd x.toNat (by omega)
  have hc := code_lt x.toNat (by omega)
  have hb := byte_code x
  unfold symBits
  generalize Hp.lensL.getD x.toNat 0 = sz at *
  rw [← low_cat left (codeF x.toNat) n sz hb.1 hc]
  have e := Int.emod_add_mul_ediv (left * 2 ^ sz) 18446744073709551616
  have := low_mod (left * 2 ^ sz % 18446744073709551616 + codeF x.toNat) (n + sz) (18446744073709551616 * (left * 2 ^ sz / 18446744073709551616)) (pow_dvd64 (by omega) _)
  rw [← this]
  congr 1
  omega
theorem snoc_ind {α : Type} {P : List α → Prop} (h0 : P []) (h1 : ∀ l x, P l → P (l ++ [x])) (l : List α) : P l := by
  have h : ∀ r : List α, P r.reverse := by
    intro r
    induction r with
    | nil => exact h0
    | cons x r ih => rw [List.reverse_cons]; exact h1 _ _ ih
  have := h l.reverse
  rwa [List.reverse_reverse] at this
theorem encSt_bits (l : List UInt8) : (encSt l).2.1 ≤ 7 ∧ BB (encSt l).2.2 ++ low (encSt l).1 (encSt l).2.1 = encBits l := by
  refine snoc_ind (P := fun l => (encSt l).2.1 ≤ 7 ∧ BB (encSt l).2.2 ++ low (encSt l).1 (encSt l).2.1 = encBits l) ⟨by decide, rfl⟩ ?_ l
  · intro l x ih
    rw [encSt_snoc]
    obtain ⟨h1, h2⟩ := ih
    have hx := x.toNat_lt
    have hl := Hp.lensL_bd x.toNat (by omega)
    have hsz : (Hp.lenF (x.toNat : Int)).toNat = Hp.lensL.getD x.toNat 0 := by rw [lenF_nat _ (by omega)]; simp
    unfold encStep
    simp only [hsz]
    have hs := step_bits (encSt l).1 (encSt l).2.1 x h1
    obtain ⟨g1, g2⟩ := emit_bits ((encSt l).1 * 2 ^ (Hp.lensL.getD x.toNat 0) % 18446744073709551616 + codeF x.toNat) 5 ((encSt l).2.1 + Hp.lensL.getD x.toNat 0) (encSt l).2.2 (by omega)
    refine ⟨g1, ?_⟩
    rw [g2, hs, ← List.append_assoc, h2, encBits_append, encBits_one]
theorem encF_bits (l : List UInt8) : ∃ p, p < 8 ∧ BB (encF l) = encBits l ++ ones p := by
  obtain ⟨h1, h2⟩ := encSt_bits l
  unfold encF
  generalize encSt l = st at *
  obtain ⟨left, n, o⟩ := st
  simp only at *
  by_cases hn : 0 < n
  · rw [if_pos hn]
    refine ⟨8 - n, by omega, ?_⟩
    rw [BB_append, BB_one, ← h2, List.append_assoc]
    congr 1
    have hpos : (0 : Int) < 2 ^ (8 - n) := Int.pow_pos (by decide)
    have hp := low_cat left (2 ^ (8 - n) - 1) n (8 - n) (by omega) (by omega)
    rw [low_ones (8 - n) (by omega), show n + (8 - n) = 8 by omega] at hp
    rw [← hp]
    unfold byteBits
    have hlt : left * 2 ^ (8 - n) % 256 + (2 ^ (8 - n) - 1) < 256 ∧ 0 ≤ left * 2 ^ (8 - n) % 256 := by
      have hc : n = 1 ∨ n = 2 ∨ n = 3 ∨ n = 4 ∨ n = 5 ∨ n = 6 ∨ n = 7 := by omega
      rcases hc with rfl | rfl | rfl | rfl | rfl | rfl | rfl <;> simp only [show (8 - 1 : Nat) = 7 from rfl, show (8 - 2 : Nat) = 6 from rfl, show (8 - 3 : Nat) = 5 from rfl, show (8 - 4 : Nat) = 4 from rfl, show (8 - 5 : Nat) = 3 from rfl, show (8 - 6 : Nat) = 2 from rfl, show (8 - 7 : Nat) = 1 from rfl] <;> constructor <;> omega
    rw [byteOf_toNat (by omega) hlt.1]
    have := low_mod (left * 2 ^ (8 - n) % 256 + (2 ^ (8 - n) - 1)) 8 (2 ^ 8 * (left * 2 ^ (8 - n) / 256)) ⟨_, rfl⟩
    rw [← this]
    congr 1
    omega
  · rw [if_neg hn]
    refine ⟨0, by omega, ?_⟩
    have : n = 0 := by omega
    subst this
    rw [← h2]
    simp [low, ones]

/-! ### a text comes back -/
theorem decF_run (l : List UInt8) : decF l = match runL (BB l) (some ([], 0, 0)) with
    | none => ([], 4)
    | some (o, c, n) => if 7 < n ∨ c ≠ 2 ^ n - 1 then ([], 4) else (o, 0) := by
  unfold decF
  rw [drun_BB]
  rfl
theorem dec_enc (l : List UInt8) : decF (encF l) = (l, 0) := by
  obtain ⟨p, hp, h⟩ := encF_bits l
  rw [decF_run, h, runL_append, run_enc, run_ones _ _ hp]
  simp only [List.nil_append]
  rw [if_neg (by simp; omega)]

/-! ### what is read has these bytes -/
def ordOk (i : Nat) : Bool :=
  let y := (ordF 257 i).toNat
  let n := Hp.lensL.getD y 0
  decide (startF n ≤ (i : Int)) && (decide ((i : Int) < startF (n + 1)) && (decide (codeF y = firstF n + ((i : Int) - startF n)) && decide (n < 32)))
theorem ord_ok : ∀ i, i < 257 → ordOk i = true := by decide +kernel
theorem start_mono (a b : Nat) (h : a ≤ b) : startF a ≤ startF b := by
  induction b with
  | zero => rw [show a = 0 by omega]; exact Int.le_refl _
  | succ b ih =>
    by_cases e : a = b + 1
    · rw [e]; exact Int.le_refl _
    · have h1 := ih (by omega)
      have h2 : startF (b + 1) = startF b + count 257 b := rfl
      have := count_bd 257 b
      omega
theorem sym_inv {c y : Int} {n : Nat} (hn : n < 32) (h : symF c n = y) (h0 : 0 ≤ y) : codeF y.toNat = c ∧ Hp.lensL.getD y.toNat 0 = n ∧ y ≤ 256 := by
  unfold symF at h
  by_cases hc : c - firstF n < 0 ∨ count 257 n ≤ c - firstF n
  · rw [if_pos hc] at h
    omega
  · rw [if_neg hc] at h
    have s0 := start_bd n (by omega)
    have s1 := start_bd (n + 1) (by omega)
    have se : startF (n + 1) = startF n + count 257 n := rfl
    obtain ⟨i, hi⟩ : ∃ i, (startF n + (c - firstF n)).toNat = i := ⟨_, rfl⟩
    rw [hi] at h
    have hi257 : i < 257 := by omega
    have ho := ord_ok i hi257
    unfold ordOk at ho
    rw [h] at ho
    simp only [Bool.and_eq_true, decide_eq_true_eq] at ho
    obtain ⟨o1, o2, o3, o4⟩ := ho
    have hm : Hp.lensL.getD y.toNat 0 = n := by
      generalize Hp.lensL.getD y.toNat 0 = m at *
      rcases Nat.lt_trichotomy m n with hlt | heq | hgt
      · have := start_mono (m + 1) n (by omega)
        omega
      · exact heq
      · have := start_mono (n + 1) m (by omega)
        omega
    rw [hm] at o1 o2 o3
    have := (ord_nonneg i hi257).2
    exact ⟨by omega, hm, by omega⟩
def BitL (bs : List Int) : Prop := ∀ x ∈ bs, 0 ≤ x ∧ x ≤ 1
theorem low_bit (c : Int) (n : Nat) : BitL (low c n) := by
  induction n generalizing c with
  | zero => intro x hx; simp [low] at hx
  | succ n ih =>
    intro x hx
    simp only [low, List.mem_append, List.mem_singleton] at hx
    rcases hx with h | h
    · exact ih _ x h
    · subst h; omega
theorem BB_bit (l : List UInt8) : BitL (BB l) := by
  intro x hx
  unfold BB at hx
  obtain ⟨c, _, h⟩ := List.mem_flatMap.1 hx
  exact low_bit _ _ x h
theorem run_inv : ∀ (bs : List Int) (o : List UInt8) (c : Int) (n : Nat) (o' : List UInt8) (c' : Int) (n' : Nat), BitL bs → Inv c n → runL bs (some (o, c, n)) = some (o', c', n') →
    encBits o ++ low c n ++ bs = encBits o' ++ low c' n' ∧ Inv c' n' ∧ o <+: o'
  | [], o, c, n, o', c', n', _, hi, h => by
    simp only [runL, List.foldl_nil, Option.some.injEq, Prod.mk.injEq] at h
    obtain ⟨rfl, rfl, rfl⟩ := h
    exact ⟨by simp, hi, List.prefix_refl _⟩
  | x :: bs, o, c, n, o', c', n', hb, hi, h => by
    have hx := hb x (List.mem_cons_self)
    have hbs : BitL bs := fun y hy => hb y (List.mem_cons_of_mem _ hy)
    have h' : runL bs (dstep (o, c, n) x) = some (o', c', n') := h
    have hlow : low (2 * c + x) (n + 1) = low c n ++ [x] := by
      simp only [low]
      rw [show (2 * c + x) / 2 = c by omega, show (2 * c + x) % 2 = x by omega]
    unfold dstep at h'
    simp only at h'
    have hn29 := hi.2.2.2
    by_cases h1 : symF (2 * c + x) (n + 1) = 256
    · rw [if_pos h1, runL_none] at h'
      cases h'
    · rw [if_neg h1] at h'
      by_cases h2 : 0 ≤ symF (2 * c + x) (n + 1)
      · rw [if_pos h2] at h'
        obtain ⟨g1, g2, g3⟩ := run_inv bs _ 0 0 o' c' n' hbs inv_zero h'
        obtain ⟨e1, e2, e3⟩ := sym_inv (by omega) rfl h2
        refine ⟨?_, g2, List.IsPrefix.trans ⟨_, rfl⟩ g3⟩
        rw [← g1, encBits_append, encBits_one]
        have hby : (byteOf (symF (2 * c + x) (n + 1))).toNat = (symF (2 * c + x) (n + 1)).toNat := by
          have := byteOf_toNat (n := symF (2 * c + x) (n + 1)) h2 (by omega)
          omega
        unfold symBits
        rw [hby, e1, e2, hlow]
        simp [low]
      · rw [if_neg h2] at h'
        obtain ⟨g1, g2, g3⟩ := run_inv bs o _ _ o' c' n' hbs (inv_none hi hx (by omega)) h'
        refine ⟨?_, g2, g3⟩
        rw [← g1, hlow]
        simp
theorem BB_inj : ∀ (a b : List UInt8), BB a = BB b → a = b
  | [], [], _ => rfl
  | [], c :: b, h => by have := congrArg List.length h; rw [BB_len, BB_len] at this; simp at this
  | c :: a, [], h => by have := congrArg List.length h; rw [BB_len, BB_len] at this; simp at this
  | c :: a, d :: b, h => by
    have e1 : BB (c :: a) = byteBits c ++ BB a := by simp [BB]
    have e2 : BB (d :: b) = byteBits d ++ BB b := by simp [BB]
    rw [e1, e2] at h
    obtain ⟨h1, h2⟩ := List.append_inj h (by unfold byteBits; rw [low_len, low_len])
    rw [BB_inj a b h2]
    congr 1
    have hinj : ∀ n (x y : Int), 0 ≤ x → x < 2 ^ n → 0 ≤ y → y < 2 ^ n → low x n = low y n → x = y := by
      intro n
      induction n with
      | zero => intro x y h0 h1 h2 h3 _; simp at h1 h3; omega
      | succ n ih =>
        intro x y h0 h1 h2 h3 he
        have hp : (2 : Int) ^ (n + 1) = 2 * 2 ^ n := by rw [Int.pow_succ, Int.mul_comm]
        simp only [low] at he
        obtain ⟨g1, g2⟩ := List.append_inj' he rfl
        have := ih (x / 2) (y / 2) (by omega) (by omega) (by omega) (by omega) g1
        simp only [List.cons.injEq, and_true] at g2
        omega
    have hc := c.toNat_lt
    have hd := d.toNat_lt
    have := hinj 8 c.toNat d.toNat (by omega) (by omega) (by omega) (by omega) h1
    exact UInt8.toNat_inj.1 (by omega)
theorem dec_ok {b u : List UInt8} (h : decF b = (u, 0)) : ∃ n, n < 8 ∧ BB b = encBits u ++ ones n ∧ runL (BB b) (some ([], 0, 0)) = some (u, 2 ^ n - 1, n) := by
  rw [decF_run] at h
  cases hr : runL (BB b) (some ([], 0, 0)) with
  | none => rw [hr] at h; simp at h
  | some st =>
    obtain ⟨o, c, n⟩ := st
    rw [hr] at h
    simp only at h
    by_cases hbad : 7 < n ∨ c ≠ 2 ^ n - 1
    · rw [if_pos hbad] at h; simp at h
    · rw [if_neg hbad] at h
      simp only [Prod.mk.injEq, and_true] at h
      subst h
      have hc : c = 2 ^ n - 1 := by omega
      subst hc
      obtain ⟨g1, _, _⟩ := run_inv (BB b) [] 0 0 o _ n (BB_bit b) inv_zero hr
      refine ⟨n, by omega, ?_, rfl⟩
      rw [← low_ones n (by omega), ← g1]
      simp [encBits, low]
theorem enc_dec {b u : List UInt8} (h : decF b = (u, 0)) : encF u = b := by
  obtain ⟨n, hn, h1, _⟩ := dec_ok h
  obtain ⟨p, hp, h2⟩ := encF_bits u
  have l1 := congrArg List.length h1
  have l2 := congrArg List.length h2
  rw [List.length_append, BB_len] at l1 l2
  simp only [ones, List.length_replicate] at l1 l2
  have : p = n := by omega
  subst this
  exact BB_inj _ _ (h2.trans h1.symm)
/-! ### cut off -/
theorem BB_take (b : List UInt8) (k : Nat) : BB b = BB (b.take k) ++ BB (b.drop k) := by rw [← BB_append, List.take_append_drop]
theorem dec_cut {s t : List UInt8} {k : Nat} (h : decF ((encF s).take k) = (t, 0)) : t <+: s := by
  obtain ⟨n, hn, h1, h2⟩ := dec_ok h
  obtain ⟨m, hm, h3, h4⟩ := dec_ok (dec_enc s)
  rw [BB_take (encF s) k, runL_append, h2] at h4
  exact (run_inv (BB ((encF s).drop k)) t _ n s _ m (BB_bit _) (by
    obtain ⟨_, h, _⟩ := run_inv (BB ((encF s).take k)) [] 0 0 t _ n (BB_bit _) inv_zero h2
    exact h) h4).2.2
theorem ones_ok16 : ∀ p, p < 16 → firstF p + count 257 p ≤ 2 ^ p - 1 := by decide +kernel
theorem low_ones16 : ∀ p, p < 16 → low (2 ^ p - 1) p = ones p := by decide +kernel
theorem dec_more (s : List UInt8) : decF (encF s ++ [255]) = ([], 4) := by
  obtain ⟨p, hp, h⟩ := encF_bits s
  have h255 : BB [255] = ones 8 := by decide +kernel
  rw [decF_run, BB_append, h, h255, List.append_assoc, show ones p ++ ones 8 = ones (p + 8) by unfold ones; rw [List.replicate_append_replicate], runL_append, run_enc]
  have hpos : (0 : Int) < 2 ^ (p + 8) := Int.pow_pos (by decide)
  rw [← low_ones16 (p + 8) (by omega), run_low _ (p + 8) _ (by omega) (by omega) (by omega) (ones_ok16 _ (by omega))]
  simp only
  rw [if_pos (Or.inl (by omega))]

end Go.Proofs.YtmlnboibclfmcaaDoor
