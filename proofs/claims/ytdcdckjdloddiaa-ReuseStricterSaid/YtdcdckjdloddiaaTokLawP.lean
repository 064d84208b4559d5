/-
  What lowering, trimming and splitting meet: done again they change nothing; elements are not empty, and trimmed. A text as a quoted one. A quoted text is told again, and split off again. Tokens with commas between are split again. Names and values that are written as a list come as pairs.
-/
import Derived.Test.YtdcdckjdloddiaaTokMore
import Derived.Test.YtdcdckjdloddiaaTokPlain
import Derived.Test.YtdcdckjdloddiaaTokPairs
namespace Go.Proofs.Ytdcdckjdloddiaa
open Go.RowKit

theorem all_bytes {p : UInt8 → Bool} (h : (List.range 256).all (fun n => p (UInt8.ofNat n)) = true) (c : UInt8) : p c = true := by
  have := List.all_eq_true.1 h c.toNat (List.mem_range.2 c.toNat_lt)
  rwa [UInt8.ofNat_toNat] at this
theorem low_low (c : UInt8) : lowC (lowC c) = lowC c := by
  have := all_bytes (p := fun c => lowC (lowC c) == lowC c) (by decide +kernel) c
  exact eq_of_beq this
theorem sign_low (c : UInt8) : signB (lowC c) = signB c := by
  have := all_bytes (p := fun c => signB (lowC c) == signB c) (by decide +kernel) c
  exact eq_of_beq this
theorem lower_lower (l : List UInt8) : lowerL (lowerL l) = lowerL l := by
  unfold lowerL
  rw [List.map_map]
  apply List.map_congr_left
  intro c _
  exact low_low c
theorem lower_len (l : List UInt8) : (lowerL l).length = l.length := by simp [lowerL]
theorem tok_lower (l : List UInt8) : tokB (lowerL l) = tokB l := by
  unfold tokB lowerL
  rw [List.all_map]
  have e : (signB ∘ lowC) = signB := by
    funext c
    exact sign_low c
  rw [e]
  cases l <;> rfl
theorem dropWhile_twice {p : UInt8 → Bool} (l : List UInt8) : (l.dropWhile p).dropWhile p = l.dropWhile p := by
  induction l with
  | nil => rfl
  | cons c r ih =>
    rw [List.dropWhile_cons]
    by_cases h : p c = true
    · rw [if_pos h]; exact ih
    · rw [if_neg h, List.dropWhile_cons, if_neg h]
theorem trimR_twice (l : List UInt8) : trimR (trimR l) = trimR l := by
  unfold trimR
  rw [List.reverse_reverse, dropWhile_twice]
theorem drop_prefix {l x : List UInt8} (h : x <+: l) (hl : l.dropWhile blankB = l) : x.dropWhile blankB = x := by
  obtain ⟨y, rfl⟩ := h
  cases x with
  | nil => rfl
  | cons c r =>
    rw [List.cons_append, List.dropWhile_cons] at hl
    by_cases hc : blankB c = true
    · rw [if_pos hc] at hl
      have h1 := congrArg List.length hl
      have h2 := (dropWhile_suffix' (p := blankB) (r ++ y)).length_le
      simp at h1 h2
      omega
    · rw [List.dropWhile_cons, if_neg hc]
theorem trim_trim (l : List UInt8) : trimL (trimL l) = trimL l := by
  have h1 : (trimL l).dropWhile blankB = trimL l := drop_prefix (trimR_prefix _) (dropWhile_twice l)
  unfold trimL at *
  rw [h1, trimR_twice]
def Elem (x : List UInt8) : Prop := x ≠ [] ∧ trimL x = x
theorem elemL_ok (c : List UInt8) : ∀ x ∈ elemL c, Elem x := by
  intro x hx
  unfold elemL at hx
  split at hx
  · cases hx
  · rename_i h
    simp at hx
    subst hx
    exact ⟨by intro e; rw [e] at h; simp at h, trim_trim c⟩
theorem splGo_ok : ∀ (f : Nat) (cur l : List UInt8) (L : List (List UInt8)), splGo f cur l = some L → ∀ x ∈ L, Elem x
  | 0, _, _, _, h => by simp [splGo] at h
  | f + 1, cur, [], L, h => by
    simp only [splGo, Option.some.injEq] at h
    subst h
    exact elemL_ok cur
  | f + 1, cur, c :: r, L, h => by
    unfold splGo at h
    by_cases h1 : c = 44
    · rw [if_pos h1] at h
      simp only [Option.map_eq_some_iff] at h
      obtain ⟨M, hM, rfl⟩ := h
      intro x hx
      rcases List.mem_append.1 hx with h | h
      · exact elemL_ok cur x h
      · exact splGo_ok f [] r M hM x h
    · rw [if_neg h1] at h
      by_cases h2 : c = 34
      · rw [if_pos h2] at h
        cases hq : qend r with
        | none => rw [hq] at h; cases h
        | some n => rw [hq] at h; exact splGo_ok f _ _ L h
      · rw [if_neg h2] at h
        exact splGo_ok f _ _ L h
theorem splF_ok {l : List UInt8} {L : List (List UInt8)} (h : splF l = some L) : ∀ x ∈ L, Elem x := splGo_ok _ _ _ L h

end Go.Proofs.Ytdcdckjdloddiaa
namespace Go.Proofs.Ytdcdckjdloddiaa
open Go.RowKit

def escC (c : UInt8) : List UInt8 := if c = 34 ∨ c = 92 then [92, c] else [c]
def escL (l : List UInt8) : List UInt8 := l.flatMap escC
def quoL (l : List UInt8) : List UInt8 := 34 :: (escL l ++ [34])
theorem escL_snoc (l : List UInt8) (c : UInt8) : escL (l ++ [c]) = escL l ++ escC c := by simp [escL]
theorem escC_len (c : UInt8) : (escC c).length ≤ 2 := by unfold escC; split <;> simp
theorem str_append (a b : ByteArray) : (a ++ b).data.toList = a.data.toList ++ b.data.toList := by rw [ByteArray.data_append, Array.toList_append]
def quores (l : List UInt8) : Value := if l.all plainB then .tuple #[.string ⟨(quoL l).toArray⟩, .bool true] else .tuple #[.string ⟨#[]⟩, .bool false]
theorem plain_int (n : Int) (c : UInt8) (h : (c.toNat : Int) = n) : plainB c = ((decide (32 ≤ n) && (n != 127)) || (n == 9)) := by
  unfold plainB
  rw [h]

end Go.Proofs.Ytdcdckjdloddiaa
namespace Go.Proofs.Ytdcdckjdloddiaa
open Go.RowKit

theorem qend_esc : ∀ (l r : List UInt8), qend (escL l ++ 34 :: r) = some ((escL l).length + 1)
  | [], r => by
    show qend (34 :: r) = _
    unfold qend
    rw [if_neg (by decide), if_pos rfl]
    rfl
  | c :: l, r => by
    have e : escL (c :: l) = escC c ++ escL l := by simp [escL]
    rw [e]
    unfold escC
    by_cases h : c = 34 ∨ c = 92
    · rw [if_pos h]
      show qend (92 :: c :: (escL l ++ 34 :: r)) = _
      unfold qend
      rw [if_pos rfl]
      simp only
      rw [qend_esc l r]
      simp
    · rw [if_neg h]
      show qend (c :: (escL l ++ 34 :: r)) = _
      unfold qend
      rw [if_neg (fun e => h (Or.inr e)), if_neg (fun e => h (Or.inl e)), qend_esc l r]
      simp
theorem unq_escL : ∀ l : List UInt8, l.all plainB = true → unqGo (escL l) = some l
  | [], _ => rfl
  | c :: l, h => by
    have e : escL (c :: l) = escC c ++ escL l := by simp [escL]
    simp only [List.all_cons, Bool.and_eq_true] at h
    rw [e]
    unfold escC
    by_cases hc : c = 34 ∨ c = 92
    · rw [if_pos hc]
      show unqGo (92 :: c :: escL l) = _
      unfold unqGo
      rw [if_neg (by decide), if_pos rfl]
      simp only
      rw [if_pos h.1, unq_escL l h.2]
      rfl
    · rw [if_neg hc]
      show unqGo (c :: escL l) = _
      unfold unqGo
      rw [if_neg (fun e => hc (Or.inl e)), if_neg (fun e => hc (Or.inr e)), if_pos h.1, unq_escL l h.2]
      rfl
theorem quoL_len (l : List UInt8) : (quoL l).length = (escL l).length + 2 := by simp [quoL]
theorem sign34 : signB 34 = false := by decide +kernel
theorem unq_quoL (l : List UInt8) (h : l.all plainB = true) : unqF (quoL l) = some l := by
  have ht : tokB (quoL l) = false := by
    unfold tokB quoL
    rw [List.all_cons, sign34]
    rfl
  unfold unqF
  have hz := quoL_len l
  rw [if_neg (by rw [ht]; decide), if_neg (by omega), if_neg (by unfold quoL; simp)]
  have hlast : (quoL l).getD ((quoL l).length - 1) 0 = 34 := by
    rw [hz, show (escL l).length + 2 - 1 = (escL l).length + 1 by omega]
    unfold quoL
    rw [List.getD_cons_succ, List.getD_eq_getElem?_getD, List.getElem?_append_right (Nat.le_refl _), Nat.sub_self]
    rfl
  rw [if_neg (by rw [hlast]; simp)]
  have hin : ((quoL l).take ((quoL l).length - 1)).drop 1 = escL l := by
    rw [hz, show (escL l).length + 2 - 1 = (escL l).length + 1 by omega]
    unfold quoL
    rw [List.take_succ_cons, List.drop_succ_cons, List.drop_zero, List.take_append_of_le_length (Nat.le_refl _), List.take_length]
  rw [hin]
  exact unq_escL l h
theorem trim_piece (l : List UInt8) : trimL (32 :: (quoL l ++ [9])) = quoL l := by
  have b32 : blankB 32 = true := by decide
  have b9 : blankB 9 = true := by decide
  have b34 : blankB 34 = false := by decide
  unfold trimL
  rw [List.dropWhile_cons, if_pos b32]
  have h1 : (quoL l ++ [9]).dropWhile blankB = quoL l ++ [9] := by
    unfold quoL
    rw [List.cons_append, List.dropWhile_cons, if_neg (by rw [b34]; decide)]
  rw [h1, trimR_snoc_yes b9]
  have h2 : quoL l = (34 :: escL l) ++ [34] := rfl
  rw [h2, trimR_snoc_no b34]
theorem splT_piece (x r : List UInt8) : splT [] (32 :: (quoL x ++ 9 :: 44 :: r)) = (splT [] r).map ([quoL x] ++ ·) := by
  rw [splT_other _ _ _ (by decide) (by decide)]
  have h : quoL x ++ 9 :: 44 :: r = 34 :: (escL x ++ 34 :: 9 :: 44 :: r) := by simp [quoL]
  rw [h, splT_quote, qend_esc]
  simp only
  have h1 : (escL x ++ 34 :: 9 :: 44 :: r).take ((escL x).length + 1) = escL x ++ [34] := by
    rw [List.take_append, List.take_of_length_le (by omega), show (escL x).length + 1 - (escL x).length = 1 by omega]
    rfl
  have h2 : (escL x ++ 34 :: 9 :: 44 :: r).drop ((escL x).length + 1) = 9 :: 44 :: r := by
    rw [List.drop_append, List.drop_eq_nil_of_le (by omega), show (escL x).length + 1 - (escL x).length = 1 by omega]
    rfl
  rw [h1, h2, splT_other _ _ _ (by decide) (by decide), splT_comma]
  have h3 : ([] ++ [32] ++ 34 :: (escL x ++ [34])) ++ [9] = 32 :: (quoL x ++ [9]) := by simp [quoL]
  rw [h3]
  have h4 : elemL (32 :: (quoL x ++ [9])) = [quoL x] := by
    unfold elemL
    rw [trim_piece]
    rfl
  rw [h4]
def backLine (l : List (List UInt8)) : List UInt8 := l.flatMap fun x => 32 :: (quoL x ++ [9, 44])
theorem spl_back (l : List (List UInt8)) : splF (backLine l) = some (l.map quoL) := by
  rw [splF_T]
  induction l with
  | nil => rfl
  | cons x l ih =>
    have e : backLine (x :: l) = 32 :: (quoL x ++ 9 :: 44 :: backLine l) := by simp [backLine]
    rw [e, splT_piece, ih]
    rfl

end Go.Proofs.Ytdcdckjdloddiaa
namespace Go.Proofs.Ytdcdckjdloddiaa
open Go.RowKit

theorem sign_plain (c : UInt8) (h : signB c = true) : c ≠ 44 ∧ c ≠ 34 ∧ blankB c = false := by
  have := all_bytes (p := fun c => !signB c || (c != 44 && (c != 34 && !blankB c))) (by decide +kernel) c
  rw [h] at this
  simpa using this
theorem splT_run : ∀ (p cur r : List UInt8), (∀ c ∈ p, c ≠ 44 ∧ c ≠ 34) → splT cur (p ++ r) = splT (cur ++ p) r
  | [], cur, r, _ => by simp
  | c :: p, cur, r, h => by
    obtain ⟨h1, h2⟩ := h c List.mem_cons_self
    rw [List.cons_append, splT_other _ _ _ h1 h2, splT_run p (cur ++ [c]) r (fun d hd => h d (List.mem_cons_of_mem _ hd))]
    simp
def padL (b : Bool) : List UInt8 := if b then [32, 9] else []
theorem pad_no (b : Bool) : ∀ c ∈ padL b, c ≠ 44 ∧ c ≠ 34 := by
  cases b <;> simp [padL]
theorem tok_no {x : List UInt8} (h : x.all signB = true) : ∀ c ∈ x, c ≠ 44 ∧ c ≠ 34 := fun c hc => by
  have := sign_plain c (List.all_eq_true.1 h c hc)
  exact ⟨this.1, this.2.1⟩
theorem trim_tok (b : Bool) {x : List UInt8} (h : x.all signB = true) : trimL (padL b ++ (x ++ padL b)) = x := by
  have b32 : blankB 32 = true := by decide
  have b9 : blankB 9 = true := by decide
  have hx : trimR x = x ∧ (x ++ padL b).dropWhile blankB = (if x.isEmpty then [] else x ++ padL b) := by
    constructor
    · cases hl : x.reverse with
      | nil =>
        have : x = [] := by simpa using hl
        rw [this]; rfl
      | cons d r =>
        have hd : d ∈ x := by rw [← List.mem_reverse, hl]; exact List.mem_cons_self
        have hbd := (sign_plain d (List.all_eq_true.1 h d hd)).2.2
        unfold trimR
        rw [hl, List.dropWhile_cons, if_neg (by rw [hbd]; decide), ← hl, List.reverse_reverse]
    · cases x with
      | nil => cases b <;> rfl
      | cons c r =>
        have hbc := (sign_plain c (List.all_eq_true.1 h c List.mem_cons_self)).2.2
        rw [List.cons_append, List.dropWhile_cons, if_neg (by rw [hbc]; decide)]
        rfl
  have h1 : (padL b ++ (x ++ padL b)).dropWhile blankB = (x ++ padL b).dropWhile blankB := by
    cases b
    · rfl
    · show (32 :: 9 :: (x ++ padL true)).dropWhile blankB = _
      rw [List.dropWhile_cons, if_pos b32, List.dropWhile_cons, if_pos b9]
  unfold trimL
  rw [h1, hx.2]
  cases x with
  | nil => rfl
  | cons c r =>
    show trimR ((c :: r) ++ padL b) = _
    cases b
    · rw [show padL false = [] from rfl, List.append_nil, hx.1]
    · rw [show (c :: r) ++ padL true = ((c :: r) ++ [32]) ++ [9] by simp [padL], trimR_snoc_yes b9, trimR_snoc_yes b32, hx.1]
def joinL (ps : List (Bool × List UInt8)) : List UInt8 := ps.flatMap fun p => padL p.1 ++ (p.2 ++ (padL p.1 ++ [44]))
def wantL (ps : List (Bool × List UInt8)) : List (List UInt8) := (ps.map Prod.snd).filter fun x => !x.isEmpty
def Toks (ps : List (Bool × List UInt8)) : Prop := ∀ p ∈ ps, p.2.all signB = true
theorem joinL_snoc (ps : List (Bool × List UInt8)) (b : Bool) (x : List UInt8) : joinL (ps ++ [(b, x)]) = joinL ps ++ (padL b ++ (x ++ (padL b ++ [44]))) := by simp [joinL]
theorem wantL_snoc (ps : List (Bool × List UInt8)) (b : Bool) (x : List UInt8) : wantL (ps ++ [(b, x)]) = wantL ps ++ (if x.isEmpty then [] else [x]) := by
  unfold wantL
  rw [List.map_append, List.filter_append]
  congr 1
  cases x <;> rfl
theorem splT_tok (b : Bool) {x : List UInt8} (h : x.all signB = true) (r : List UInt8) : splT [] (padL b ++ (x ++ (padL b ++ 44 :: r))) = (splT [] r).map ((if x.isEmpty then [] else [x]) ++ ·) := by
  rw [splT_run (padL b) [] _ (pad_no b), splT_run x _ _ (tok_no h), splT_run (padL b) _ _ (pad_no b), splT_comma]
  have e : [] ++ padL b ++ x ++ padL b = padL b ++ (x ++ padL b) := by simp
  rw [e]
  unfold elemL
  rw [trim_tok b h]
theorem spl_join_to : ∀ (ps : List (Bool × List UInt8)), Toks ps → ∀ r, splT [] (joinL ps ++ r) = (splT [] r).map (wantL ps ++ ·)
  | [], _, r => by
    show splT [] r = _
    cases splT [] r <;> rfl
  | p :: ps, h, r => by
    have e : joinL (p :: ps) ++ r = padL p.1 ++ (p.2 ++ (padL p.1 ++ 44 :: (joinL ps ++ r))) := by simp [joinL]
    rw [e, splT_tok p.1 (h p List.mem_cons_self), spl_join_to ps (fun q hq => h q (List.mem_cons_of_mem _ hq)) r, Option.map_map]
    congr 1
    funext y
    show (if p.2.isEmpty then [] else [p.2]) ++ (wantL ps ++ y) = wantL (p :: ps) ++ y
    unfold wantL
    rw [List.map_cons, List.filter_cons]
    cases hp : p.2 <;> simp
theorem spl_join {ps : List (Bool × List UInt8)} (h : Toks ps) : splF (joinL ps) = some (wantL ps) := by
  have := spl_join_to ps h []
  rw [List.append_nil] at this
  rw [splF_T, this, splT_nil]
  show some (wantL ps ++ elemL []) = _
  have : elemL [] = [] := rfl
  rw [this, List.append_nil]
theorem spl_join_bad {ps : List (Bool × List UInt8)} (h : Toks ps) : splF (joinL ps ++ [34]) = none := by
  rw [splF_T, spl_join_to ps h [34], splT_quote]
  rfl

end Go.Proofs.Ytdcdckjdloddiaa
namespace Go.Proofs.Ytdcdckjdloddiaa
open Go.RowKit

/-- A text between commas, and the pair that it is. -/
structure OkE (x : List UInt8) (p : PairL) : Prop where
  spl : ∀ cur r, splT cur (x ++ 44 :: r) = (splT [] r).map (elemL (cur ++ x) ++ ·)
  first : ∃ c r, x = c :: r ∧ blankB c = false
  last : ∃ y d, x = y ++ [d] ∧ blankB d = false
  of_ : ofF x = some p
theorem OkE.trim {x : List UInt8} {p : PairL} (h : OkE x p) : trimL x = x ∧ trimL (32 :: x) = x ∧ x.isEmpty = false := by
  obtain ⟨c, r, e1, hc⟩ := h.first
  obtain ⟨y, d, e2, hd⟩ := h.last
  have h1 : x.dropWhile blankB = x := by
    rw [e1, List.dropWhile_cons, if_neg (by rw [hc]; decide)]
  have h2 : trimR x = x := by rw [e2, trimR_snoc_no hd]
  refine ⟨by unfold trimL; rw [h1, h2], ?_, by rw [e1]; rfl⟩
  unfold trimL
  rw [List.dropWhile_cons, if_pos (by decide), h1, h2]
theorem OkE.elem {x : List UInt8} {p : PairL} (h : OkE x p) {cur : List UInt8} (hc : cur = [] ∨ cur = [32]) : elemL (cur ++ x) = [x] := by
  obtain ⟨h1, h2, h3⟩ := h.trim
  unfold elemL
  rcases hc with rfl | rfl
  · rw [List.nil_append, h1, h3]; rfl
  · rw [List.singleton_append, h2, h3]; rfl
abbrev EntL := List UInt8 × PairL
def lineL (es : List EntL) : List UInt8 := es.flatMap fun e => e.1 ++ [44, 32]
theorem lineL_snoc (es : List EntL) (x : List UInt8) (p : PairL) : lineL (es ++ [(x, p)]) = lineL es ++ (x ++ [44, 32]) := by simp [lineL]
def OkEs (es : List EntL) : Prop := ∀ e ∈ es, OkE e.1 e.2
theorem OkEs.snoc {es : List EntL} (h : OkEs es) {x : List UInt8} {p : PairL} (hx : OkE x p) : OkEs (es ++ [(x, p)]) := by
  intro e he
  rcases List.mem_append.1 he with h1 | h1
  · exact h e h1
  · simp at h1
    subst h1
    exact hx
theorem spl_line : ∀ (es : List EntL), OkEs es → ∀ cur, (cur = [] ∨ cur = [32]) → splT cur (lineL es) = some (es.map (·.1))
  | [], _, cur, hc => by
    rcases hc with rfl | rfl <;> rfl
  | e :: es, h, cur, hc => by
    have hl : lineL (e :: es) = e.1 ++ 44 :: 32 :: lineL es := by simp [lineL]
    rw [hl, (h e List.mem_cons_self).spl, splT_other _ _ _ (by decide) (by decide), (h e List.mem_cons_self).elem hc, List.nil_append, spl_line es (fun q hq => h q (List.mem_cons_of_mem _ hq)) [32] (Or.inr rfl)]
    rfl
theorem of_line : ∀ (es : List EntL), OkEs es → (es.map (·.1)).filterMap ofF = es.map (·.2)
  | [], _ => rfl
  | e :: es, h => by
    rw [List.map_cons, List.filterMap_cons, (h e List.mem_cons_self).of_, of_line es (fun q hq => h q (List.mem_cons_of_mem _ hq))]
    rfl
theorem pairs_line {es : List EntL} (h : OkEs es) : pairsF [120] [([120], lineL es)] = es.map (·.2) := by
  have hv : valsF [120] [([120], lineL es)] = [lineL es] := rfl
  unfold pairsF partsF
  rw [hv, Lib.join_one, splF_T, spl_line es h [] (Or.inl rfl)]
  exact of_line es h
theorem tok_all {n : List UInt8} (h : tokB n = true) : n.all signB = true ∧ ∃ c r, n = c :: r := by
  unfold tokB at h
  simp only [Bool.and_eq_true] at h
  refine ⟨h.1, ?_⟩
  cases n with
  | nil => simp at h
  | cons c r => exact ⟨c, r, rfl⟩
theorem tok_first {n : List UInt8} (h : tokB n = true) (y : List UInt8) : ∃ c r, n ++ y = c :: r ∧ blankB c = false := by
  obtain ⟨h1, c, r, rfl⟩ := tok_all h
  exact ⟨c, r ++ y, rfl, (sign_plain c (List.all_eq_true.1 h1 c List.mem_cons_self)).2.2⟩
theorem tok_last {n : List UInt8} (h : tokB n = true) (y : List UInt8) : ∃ z d, y ++ n = z ++ [d] ∧ blankB d = false := by
  obtain ⟨h1, c, r, e⟩ := tok_all h
  have hl : n.length = (n.length - 1) + 1 := by rw [e]; simp
  have hs := snoc_of (l := n) (n := n.length - 1) hl
  refine ⟨y ++ n.take (n.length - 1), n[n.length - 1]'(by omega), ?_, (sign_plain _ (List.all_eq_true.1 h1 _ (List.getElem_mem _))).2.2⟩
  rw [List.append_assoc, ← hs]
theorem run_comma {p : List UInt8} (h : ∀ c ∈ p, c ≠ 44 ∧ c ≠ 34) (cur r : List UInt8) : splT cur (p ++ 44 :: r) = (splT [] r).map (elemL (cur ++ p) ++ ·) := by
  rw [splT_run p cur _ h, splT_comma]
theorem sign61 : signB 61 = false := by decide +kernel
theorem cut_name : ∀ (n v : List UInt8), n.all signB = true → cutEq (n ++ 61 :: v) = some (n, v)
  | [], v, _ => rfl
  | c :: n, v, h => by
    simp only [List.all_cons, Bool.and_eq_true] at h
    rw [List.cons_append]
    unfold cutEq
    rw [if_neg (by intro e; rw [e, sign61] at h; exact absurd h.1 (by decide)), cut_name n v h.2]
    rfl
theorem tok_eq_no (n v : List UInt8) : tokB (n ++ 61 :: v) = false := by
  unfold tokB
  rw [List.all_append, List.all_cons, sign61]
  simp
theorem of_eq {n v x : List UInt8} (hn : tokB n = true) (hu : unqF v = some x) : ofF (n ++ 61 :: v) = some ⟨lowerL n, x, true⟩ := by
  unfold ofF
  rw [tok_eq_no, cut_name n v (tok_all hn).1]
  simp only
  rw [if_neg (by decide), if_pos hn, hu]
  rfl
theorem unq_tok {v : List UInt8} (h : tokB v = true) : unqF v = some v := by
  unfold unqF
  rw [if_pos h]
theorem ok_bare {n : List UInt8} (h : tokB n = true) : OkE n ⟨lowerL n, [], false⟩ where
  spl := run_comma (tok_no (tok_all h).1)
  first := by simpa using tok_first h []
  last := by simpa using tok_last h []
  of_ := by unfold ofF; rw [if_pos h]
theorem ok_tok {n v : List UInt8} (h : tokB n = true) (hv : tokB v = true) : OkE (n ++ 61 :: v) ⟨lowerL n, v, true⟩ where
  spl := run_comma (fun c hc => by
    rcases List.mem_append.1 hc with h1 | h1
    · exact tok_no (tok_all h).1 c h1
    · rcases List.mem_cons.1 h1 with rfl | h2
      · exact ⟨by decide, by decide⟩
      · exact tok_no (tok_all hv).1 c h2)
  first := tok_first h _
  last := by
    have := tok_last hv (n ++ [61])
    rwa [List.append_assoc, List.singleton_append] at this
  of_ := of_eq h (unq_tok hv)
theorem ok_quo {n v : List UInt8} (h : tokB n = true) (hv : v.all plainB = true) : OkE (n ++ 61 :: quoL v) ⟨lowerL n, v, true⟩ where
  spl := fun cur r => by
    have e : (n ++ 61 :: quoL v) ++ 44 :: r = (n ++ [61]) ++ (34 :: (escL v ++ 34 :: 44 :: r)) := by simp [quoL]
    have hno : ∀ c ∈ n ++ [61], c ≠ 44 ∧ c ≠ 34 := fun c hc => by
      rcases List.mem_append.1 hc with h1 | h1
      · exact tok_no (tok_all h).1 c h1
      · simp at h1
        subst h1
        exact ⟨by decide, by decide⟩
    rw [e, splT_run _ _ _ hno, splT_quote, qend_esc]
    simp only
    have h1 : (escL v ++ 34 :: 44 :: r).take ((escL v).length + 1) = escL v ++ [34] := by
      rw [List.take_append, List.take_of_length_le (by omega), show (escL v).length + 1 - (escL v).length = 1 by omega]
      rfl
    have h2 : (escL v ++ 34 :: 44 :: r).drop ((escL v).length + 1) = 44 :: r := by
      rw [List.drop_append, List.drop_eq_nil_of_le (by omega), show (escL v).length + 1 - (escL v).length = 1 by omega]
      rfl
    rw [h1, h2, splT_comma]
    have h3 : cur ++ (n ++ [61]) ++ 34 :: (escL v ++ [34]) = cur ++ (n ++ 61 :: quoL v) := by simp [quoL]
    rw [h3]
  first := tok_first h _
  last := ⟨n ++ 61 :: (34 :: escL v), 34, by simp [quoL], by decide⟩
  of_ := of_eq h (unq_quoL v hv)

end Go.Proofs.Ytdcdckjdloddiaa
