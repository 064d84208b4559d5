/-
  What directives with a number say: bare, quoted, between others.
-/
import Derived.Test.YtdcdckjdloddiaaTokLawP
import Derived.Test.YtdcdckjdloddiaaDigitsB
import Derived.Test.YtdcdckjdloddiaaCtlOf
namespace Go.Proofs.Ytdcdckjdloddiaa
open Go.RowKit

def ccF (xs : List (List UInt8)) : List FieldL := xs.map fun x => (nCC, x)
theorem valsF_cc (xs : List (List UInt8)) : valsF nCC (ccF xs) = xs := by
  unfold valsF ccF
  induction xs with
  | nil => rfl
  | cons x xs ih =>
    rw [List.map_cons, List.filter_cons, if_pos (by simp), List.map_cons]
    rw [ih]
set_option maxHeartbeats 4000000 in
structure OkT (x : List UInt8) (p : PairL) : Prop where
  ok : OkE x p
  fin : ∀ cur, splT cur x = some (elemL (cur ++ x))
theorem fin_run {p : List UInt8} (h : ∀ c ∈ p, c ≠ 44 ∧ c ≠ 34) (cur : List UInt8) : splT cur p = some (elemL (cur ++ p)) := by
  have := splT_run p cur [] h
  rw [List.append_nil] at this
  rw [this, splT_nil]
theorem okT_bare {n : List UInt8} (h : tokB n = true) : OkT n ⟨lowerL n, [], false⟩ := ⟨ok_bare h, fin_run (tok_no (tok_all h).1)⟩
theorem no_tok {n v : List UInt8} (h : tokB n = true) (hv : tokB v = true) : ∀ c ∈ n ++ 61 :: v, c ≠ 44 ∧ c ≠ 34 := fun c hc => by
  rcases List.mem_append.1 hc with h1 | h1
  · exact tok_no (tok_all h).1 c h1
  · rcases List.mem_cons.1 h1 with rfl | h2
    · exact ⟨by decide, by decide⟩
    · exact tok_no (tok_all hv).1 c h2
theorem okT_tok {n v : List UInt8} (h : tokB n = true) (hv : tokB v = true) : OkT (n ++ 61 :: v) ⟨lowerL n, v, true⟩ :=
  ⟨ok_tok h hv, fin_run (no_tok h hv)⟩
theorem okT_quo {n v : List UInt8} (h : tokB n = true) (hv : v.all plainB = true) : OkT (n ++ 61 :: quoL v) ⟨lowerL n, v, true⟩ := by
  refine ⟨ok_quo h hv, fun cur => ?_⟩
  have e : n ++ 61 :: quoL v = (n ++ [61]) ++ (34 :: (escL v ++ 34 :: [])) := by simp [quoL]
  have hno : ∀ c ∈ n ++ [61], c ≠ 44 ∧ c ≠ 34 := fun c hc => by
    rcases List.mem_append.1 hc with h1 | h1
    · exact tok_no (tok_all h).1 c h1
    · simp at h1
      subst h1
      exact ⟨by decide, by decide⟩
  rw [e, splT_run _ _ _ hno, splT_quote, qend_esc]
  simp only
  have h1 : (escL v ++ [34]).take ((escL v).length + 1) = escL v ++ [34] := List.take_of_length_le (by simp)
  have h2 : (escL v ++ [34]).drop ((escL v).length + 1) = [] := List.drop_of_length_le (by simp)
  rw [h1, h2, splT_nil]
  have h3 : cur ++ (n ++ [61]) ++ 34 :: (escL v ++ [34]) = cur ++ (n ++ [61] ++ 34 :: (escL v ++ [34])) := by simp
  rw [h3]
theorem parts_cc (x : List UInt8) : partsF nCC (ccF [x]) = match splT [] x with | none => [] | some P => P := by
  unfold partsF
  rw [valsF_cc, Lib.join_one]
  rfl
theorem pairs_one {x : List UInt8} {p : PairL} (h : OkT x p) : pairsF nCC (ccF [x]) = [p] := by
  unfold pairsF
  rw [parts_cc, h.fin, h.ok.elem (Or.inl rfl)]
  simp only [List.filterMap_cons, h.ok.of_, List.filterMap_nil]
theorem elem_pad {x : List UInt8} {p : PairL} (h : OkE x p) : elemL (32 :: (x ++ [32])) = [x] := by
  obtain ⟨h1, h2, h3⟩ := h.trim
  obtain ⟨c, r, e1, hc⟩ := h.first
  have h4 : (32 :: (x ++ [32])).dropWhile blankB = x ++ [32] := by
    rw [List.dropWhile_cons, if_pos (by decide), e1, List.cons_append, List.dropWhile_cons, if_neg (by rw [hc]; decide)]
  have h5 : trimR (x ++ [32]) = trimR x := by
    unfold trimR
    rw [List.reverse_append, List.reverse_singleton, List.singleton_append, List.dropWhile_cons, if_pos (by decide)]
  have h6 : x.dropWhile blankB = x := by rw [e1, List.dropWhile_cons, if_neg (by rw [hc]; decide)]
  have h7 : trimR x = x := by unfold trimL at h1; rw [h6] at h1; exact h1
  have h8 : trimL (32 :: (x ++ [32])) = x := by unfold trimL; rw [h4, h5, h7]
  unfold elemL
  rw [h8, h3]
  rfl
theorem pairs_three {n v : List UInt8} (h : tokB n = true) (hv : tokB v = true) :
    pairsF nCC (ccF [nPublic ++ 44 :: (32 :: ((n ++ 61 :: v) ++ [32])) ++ 44 :: [120, 61, 49]]) = [⟨nPublic, [], false⟩, ⟨lowerL n, v, true⟩, ⟨[120], [49], true⟩] := by
  have hp : tokB nPublic = true := by decide +kernel
  have h1 := (ok_bare hp).spl []
  have hno : ∀ c ∈ 32 :: ((n ++ 61 :: v) ++ [32]), c ≠ 44 ∧ c ≠ 34 := by
    intro c hc
    rcases List.mem_cons.1 hc with rfl | hc
    · exact ⟨by decide, by decide⟩
    · rcases List.mem_append.1 hc with h2 | h2
      · exact no_tok h hv c h2
      · simp at h2
        subst h2
        exact ⟨by decide, by decide⟩
  have h2 := run_comma hno [] [120, 61, 49]
  have e : nPublic ++ 44 :: (32 :: ((n ++ 61 :: v) ++ [32])) ++ 44 :: [120, 61, 49] = nPublic ++ 44 :: ((32 :: ((n ++ 61 :: v) ++ [32])) ++ 44 :: [120, 61, 49]) := by simp
  have h3 : splT [] [120, 61, 49] = some [[120, 61, 49]] := by decide +kernel
  have e0 : elemL nPublic = [nPublic] := by simpa using (ok_bare hp).elem (cur := []) (Or.inl rfl)
  unfold pairsF
  rw [parts_cc, e, h1, h2, h3, List.nil_append, List.nil_append, elem_pad (ok_tok h hv), e0]
  have f1 : ofF nPublic = some ⟨nPublic, [], false⟩ := by kernel_rfl
  have f2 : ofF [120, 61, 49] = some ⟨[120], [49], true⟩ := by kernel_rfl
  simp only [Option.map_some, List.singleton_append, List.filterMap_cons, (ok_tok h hv).of_, f1, f2, List.filterMap_nil]

theorem dig_tok (n : Nat) : tokB (decD n) = true := by
  obtain ⟨h1, _⟩ := decD_val n n (Nat.le_refl _)
  have h3 : ∀ c : UInt8, (!digB c || signB c) = true := all_bytes (p := fun c => !digB c || signB c) (by decide +kernel)
  unfold tokB
  rw [Bool.and_eq_true]
  constructor
  · rw [List.all_eq_true]
    intro x hx
    have := List.all_eq_true.1 h1 x hx
    have h4 := h3 x
    rw [this] at h4
    simpa using h4
  · have := decD_ne n
    cases h : decD n with
    | nil => exact absurd h this
    | cons a b => rfl
theorem dig_plain (n : Nat) : (decD n).all plainB = true ∧ escL (decD n) = decD n := by
  obtain ⟨h1, _⟩ := decD_val n n (Nat.le_refl _)
  have h3 : ∀ c : UInt8, (!digB c || (plainB c && (c != 34 && c != 92))) = true := all_bytes (p := fun c => !digB c || (plainB c && (c != 34 && c != 92))) (by decide +kernel)
  have h5 : ∀ c ∈ decD n, plainB c = true ∧ c ≠ 34 ∧ c ≠ 92 := by
    intro x hx
    have := List.all_eq_true.1 h1 x hx
    have h4 := h3 x
    rw [this] at h4
    simpa using h4
  refine ⟨List.all_eq_true.2 fun x hx => (h5 x hx).1, ?_⟩
  unfold escL
  generalize decD n = l at h5
  induction l with
  | nil => rfl
  | cons c l ih =>
    have hc := h5 c List.mem_cons_self
    rw [List.flatMap_cons, ih (fun x hx => h5 x (List.mem_cons_of_mem _ hx))]
    unfold escC
    rw [if_neg (by rintro (h | h); exact hc.2.1 h; exact hc.2.2 h)]
    rfl
theorem lsF_neg (x : Int) : lsF (-1) x = x := by unfold lsF; rw [if_pos (by omega)]
theorem numF_dec (m : List UInt8) (n : Nat) (hn : n ≤ 2147483647) (b : Int) : numF ⟨m, decD n, true⟩ b = (n : Int) := by
  unfold numF
  simp only [if_true]
  rw [secF_dec]
  omega

theorem l_shared (n : Nat) (hn : n ≤ 2147483647) : ctlF [(nCC, nShared ++ 61 :: decD n)] = { ctl0 with sh := (n : Int) } := by
  show ctlF (ccF [nShared ++ 61 :: decD n]) = _
  unfold ctlF
  rw [pairs_one (okT_tok (n := nShared) (by decide +kernel) (dig_tok n)), show lowerL nShared = nShared by decide +kernel]
  unfold ctlOf
  rw [List.foldl_cons, List.foldl_nil, step_nShared, numF_dec _ n hn]
  rfl
theorem l_age (n : Nat) (hn : n ≤ 2147483647) : ctlF [(nCC, nMaxAge ++ 61 :: decD n)] = { ctl0 with ma := (n : Int) } := by
  show ctlF (ccF [nMaxAge ++ 61 :: decD n]) = _
  unfold ctlF
  rw [pairs_one (okT_tok (n := nMaxAge) (by decide +kernel) (dig_tok n)), show lowerL nMaxAge = nMaxAge by decide +kernel]
  unfold ctlOf
  rw [List.foldl_cons, List.foldl_nil, step_nMaxAge, numF_dec _ n hn]
  rfl
theorem l_fresh (n : Nat) (hn : n ≤ 2147483647) : ctlF [(nCC, nFresh ++ 61 :: decD n)] = { ctl0 with fr := (n : Int) } := by
  show ctlF (ccF [nFresh ++ 61 :: decD n]) = _
  unfold ctlF
  rw [pairs_one (okT_tok (n := nFresh) (by decide +kernel) (dig_tok n)), show lowerL nFresh = nFresh by decide +kernel]
  unfold ctlOf
  rw [List.foldl_cons, List.foldl_nil, step_nFresh, numF_dec _ n hn]
  rfl

end Go.Proofs.Ytdcdckjdloddiaa
