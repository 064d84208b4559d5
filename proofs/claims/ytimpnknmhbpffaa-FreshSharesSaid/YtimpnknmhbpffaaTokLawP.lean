/-
  Names and values that are written as a list come as pairs.
-/
import Derived.Test.YtimpnknmhbpffaaTokLawJ
import Derived.Test.YtimpnknmhbpffaaTokPairs
namespace Go.Proofs.Ytimpnknmhbpffaa
open Go.RowKit

/-- A text between commas, and the pair that it is. -/
structure OkE (x : List UInt8) (p : PairL) : Prop where
  spl : ∀ cur r, splT cur (x ++ 44 :: r) = (splT [] r).map (elemL (cur ++ x) ++ ·)
  first : ∃ c r, x = c :: r ∧ blankB c = false
  last : ∃ y d, x = y ++ [d] ∧ blankB d = false
  of_ : ofF x = some p
theorem OkE.trim {x : List UInt8} {p : PairL} (h : OkE x p) : trimL x = x ∧ trimL (32 :: x) = x ∧ x.isEmpty = false := by
  obtain ⟨c, r, e1, hc⟩ := h.first
  obtain ⟨y, d, e2, hd⟩ := h.last
  have h1 : x.dropWhile blankB = x := by
    rw [e1, List.dropWhile_cons, if_neg (by rw [hc]; decide)]
  have h2 : trimR x = x := by rw [e2, trimR_snoc_no hd]
  refine ⟨by unfold trimL; rw [h1, h2], ?_, by rw [e1]; rfl⟩
  unfold trimL
  rw [List.dropWhile_cons, if_pos (by decide), h1, h2]
theorem OkE.elem {x : List UInt8} {p : PairL} (h : OkE x p) {cur : List UInt8} (hc : cur = [] ∨ cur = [32]) : elemL (cur ++ x) = [x] := by
  obtain ⟨h1, h2, h3⟩ := h.trim
  unfold elemL
  rcases hc with rfl | rfl
  · rw [List.nil_append, h1, h3]; rfl
  · rw [List.singleton_append, h2, h3]; rfl
abbrev EntL := List UInt8 × PairL
def lineL (es : List EntL) : List UInt8 := es.flatMap fun e => e.1 ++ [44, 32]
theorem lineL_snoc (es : List EntL) (x : List UInt8) (p : PairL) : lineL (es ++ [(x, p)]) = lineL es ++ (x ++ [44, 32]) := by simp [lineL]
def OkEs (es : List EntL) : Prop := ∀ e ∈ es, OkE e.1 e.2
theorem OkEs.snoc {es : List EntL} (h : OkEs es) {x : List UInt8} {p : PairL} (hx : OkE x p) : OkEs (es ++ [(x, p)]) := by
  intro e he
  rcases List.mem_append.1 he with h1 | h1
  · exact h e h1
  · simp at h1
    subst h1
    exact hx
theorem spl_line : ∀ (es : List EntL), OkEs es → ∀ cur, (cur = [] ∨ cur = [32]) → splT cur (lineL es) = some (es.map (·.1))
  | [], _, cur, hc => by
    rcases hc with rfl | rfl <;> rfl
  | e :: es, h, cur, hc => by
    have hl : lineL (e :: es) = e.1 ++ 44 :: 32 :: lineL es := by simp [lineL]
    rw [hl, (h e List.mem_cons_self).spl, splT_other _ _ _ (by decide) (by decide), (h e List.mem_cons_self).elem hc, List.nil_append, spl_line es (fun q hq => h q (List.mem_cons_of_mem _ hq)) [32] (Or.inr rfl)]
    rfl
theorem of_line : ∀ (es : List EntL), OkEs es → (es.map (·.1)).filterMap ofF = es.map (·.2)
  | [], _ => rfl
  | e :: es, h => by
    rw [List.map_cons, List.filterMap_cons, (h e List.mem_cons_self).of_, of_line es (fun q hq => h q (List.mem_cons_of_mem _ hq))]
    rfl
theorem pairs_line {es : List EntL} (h : OkEs es) : pairsF [120] [([120], lineL es)] = es.map (·.2) := by
  have hv : valsF [120] [([120], lineL es)] = [lineL es] := rfl
  unfold pairsF partsF
  rw [hv, Lib.join_one, splF_T, spl_line es h [] (Or.inl rfl)]
  exact of_line es h
theorem tok_all {n : List UInt8} (h : tokB n = true) : n.all signB = true ∧ ∃ c r, n = c :: r := by
  unfold tokB at h
  simp only [Bool.and_eq_true] at h
  refine ⟨h.1, ?_⟩
  cases n with
  | nil => simp at h
  | cons c r => exact ⟨c, r, rfl⟩
theorem tok_first {n : List UInt8} (h : tokB n = true) (y : List UInt8) : ∃ c r, n ++ y = c :: r ∧ blankB c = false := by
  obtain ⟨h1, c, r, rfl⟩ := tok_all h
  exact ⟨c, r ++ y, rfl, (sign_plain c (List.all_eq_true.1 h1 c List.mem_cons_self)).2.2⟩
theorem tok_last {n : List UInt8} (h : tokB n = true) (y : List UInt8) : ∃ z d, y ++ n = z ++ [d] ∧ blankB d = false := by
  obtain ⟨h1, c, r, e⟩ := tok_all h
  have hl : n.length = (n.length - 1) + 1 := by rw [e]; simp
  have hs := snoc_of (l := n) (n := n.length - 1) hl
  refine ⟨y ++ n.take (n.length - 1), n[n.length - 1]'(by omega), ?_, (sign_plain _ (List.all_eq_true.1 h1 _ (List.getElem_mem _))).2.2⟩
  rw [List.append_assoc, ← hs]
theorem run_comma {p : List UInt8} (h : ∀ c ∈ p, c ≠ 44 ∧ c ≠ 34) (cur r : List UInt8) : splT cur (p ++ 44 :: r) = (splT [] r).map (elemL (cur ++ p) ++ ·) := by
  rw [splT_run p cur _ h, splT_comma]
theorem sign61 : signB 61 = false := by decide +kernel
theorem cut_name : ∀ (n v : List UInt8), n.all signB = true → cutEq (n ++ 61 :: v) = some (n, v)
  | [], v, _ => rfl
  | c :: n, v, h => by
    simp only [List.all_cons, Bool.and_eq_true] at h
    rw [List.cons_append]
    unfold cutEq
    rw [if_neg (by intro e; rw [e, sign61] at h; exact absurd h.1 (by decide)), cut_name n v h.2]
    rfl
theorem tok_eq_no (n v : List UInt8) : tokB (n ++ 61 :: v) = false := by
  unfold tokB
  rw [List.all_append, List.all_cons, sign61]
  simp
theorem of_eq {n v x : List UInt8} (hn : tokB n = true) (hu : unqF v = some x) : ofF (n ++ 61 :: v) = some ⟨lowerL n, x, true⟩ := by
  unfold ofF
  rw [tok_eq_no, cut_name n v (tok_all hn).1]
  simp only
  rw [if_neg (by decide), if_pos hn, hu]
  rfl
theorem unq_tok {v : List UInt8} (h : tokB v = true) : unqF v = some v := by
  unfold unqF
  rw [if_pos h]
theorem ok_bare {n : List UInt8} (h : tokB n = true) : OkE n ⟨lowerL n, [], false⟩ where
  spl := run_comma (tok_no (tok_all h).1)
  first := by simpa using tok_first h []
  last := by simpa using tok_last h []
  of_ := by unfold ofF; rw [if_pos h]
theorem ok_tok {n v : List UInt8} (h : tokB n = true) (hv : tokB v = true) : OkE (n ++ 61 :: v) ⟨lowerL n, v, true⟩ where
  spl := run_comma (fun c hc => by
    rcases List.mem_append.1 hc with h1 | h1
    · exact tok_no (tok_all h).1 c h1
    · rcases List.mem_cons.1 h1 with rfl | h2
      · exact ⟨by decide, by decide⟩
      · exact tok_no (tok_all hv).1 c h2)
  first := tok_first h _
  last := by
    have := tok_last hv (n ++ [61])
    rwa [List.append_assoc, List.singleton_append] at this
  of_ := of_eq h (unq_tok hv)
theorem ok_quo {n v : List UInt8} (h : tokB n = true) (hv : v.all plainB = true) : OkE (n ++ 61 :: quoL v) ⟨lowerL n, v, true⟩ where
  spl := fun cur r => by
    have e : (n ++ 61 :: quoL v) ++ 44 :: r = (n ++ [61]) ++ (34 :: (escL v ++ 34 :: 44 :: r)) := by simp [quoL]
    have hno : ∀ c ∈ n ++ [61], c ≠ 44 ∧ c ≠ 34 := fun c hc => by
      rcases List.mem_append.1 hc with h1 | h1
      · exact tok_no (tok_all h).1 c h1
      · simp at h1
        subst h1
        exact ⟨by decide, by decide⟩
    rw [e, splT_run _ _ _ hno, splT_quote, qend_esc]
    simp only
    have h1 : (escL v ++ 34 :: 44 :: r).take ((escL v).length + 1) = escL v ++ [34] := by
      rw [List.take_append, List.take_of_length_le (by omega), show (escL v).length + 1 - (escL v).length = 1 by omega]
      rfl
    have h2 : (escL v ++ 34 :: 44 :: r).drop ((escL v).length + 1) = 44 :: r := by
      rw [List.drop_append, List.drop_eq_nil_of_le (by omega), show (escL v).length + 1 - (escL v).length = 1 by omega]
      rfl
    rw [h1, h2, splT_comma]
    have h3 : cur ++ (n ++ [61]) ++ 34 :: (escL v ++ [34]) = cur ++ (n ++ 61 :: quoL v) := by simp [quoL]
    rw [h3]
  first := tok_first h _
  last := ⟨n ++ 61 :: (34 :: escL v), 34, by simp [quoL], by decide⟩
  of_ := of_eq h (unq_quoL v hv)

end Go.Proofs.Ytimpnknmhbpffaa
