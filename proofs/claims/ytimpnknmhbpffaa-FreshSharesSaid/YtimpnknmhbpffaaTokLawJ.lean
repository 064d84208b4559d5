/-
  Tokens with commas between are split again.
-/
import Derived.Test.YtimpnknmhbpffaaTokLawB
namespace Go.Proofs.Ytimpnknmhbpffaa
open Go.RowKit

theorem sign_plain (c : UInt8) (h : signB c = true) : c ≠ 44 ∧ c ≠ 34 ∧ blankB c = false := by
  have := all_bytes (p := fun c => !signB c || (c != 44 && (c != 34 && !blankB c))) (by decide +kernel) c
  rw [h] at this
  simpa using this
theorem splT_run : ∀ (p cur r : List UInt8), (∀ c ∈ p, c ≠ 44 ∧ c ≠ 34) → splT cur (p ++ r) = splT (cur ++ p) r
  | [], cur, r, _ => by simp
  | c :: p, cur, r, h => by
    obtain ⟨h1, h2⟩ := h c List.mem_cons_self
    rw [List.cons_append, splT_other _ _ _ h1 h2, splT_run p (cur ++ [c]) r (fun d hd => h d (List.mem_cons_of_mem _ hd))]
    simp
def padL (b : Bool) : List UInt8 := if b then [32, 9] else []
theorem pad_no (b : Bool) : ∀ c ∈ padL b, c ≠ 44 ∧ c ≠ 34 := by
  cases b <;> simp [padL]
theorem tok_no {x : List UInt8} (h : x.all signB = true) : ∀ c ∈ x, c ≠ 44 ∧ c ≠ 34 := fun c hc => by
  have := sign_plain c (List.all_eq_true.1 h c hc)
  exact ⟨this.1, this.2.1⟩
theorem trim_tok (b : Bool) {x : List UInt8} (h : x.all signB = true) : trimL (padL b ++ (x ++ padL b)) = x := by
  have b32 : blankB 32 = true := by decide
  have b9 : blankB 9 = true := by decide
  have hx : trimR x = x ∧ (x ++ padL b).dropWhile blankB = (if x.isEmpty then [] else x ++ padL b) := by
    constructor
    · cases hl : x.reverse with
      | nil =>
        have : x = [] := by simpa using hl
        rw [this]; rfl
      | cons d r =>
        have hd : d ∈ x := by rw [← List.mem_reverse, hl]; exact List.mem_cons_self
        have hbd := (sign_plain d (List.all_eq_true.1 h d hd)).2.2
        unfold trimR
        rw [hl, List.dropWhile_cons, if_neg (by rw [hbd]; decide), ← hl, List.reverse_reverse]
    · cases x with
      | nil => cases b <;> rfl
      | cons c r =>
        have hbc := (sign_plain c (List.all_eq_true.1 h c List.mem_cons_self)).2.2
        rw [List.cons_append, List.dropWhile_cons, if_neg (by rw [hbc]; decide)]
        rfl
  have h1 : (padL b ++ (x ++ padL b)).dropWhile blankB = (x ++ padL b).dropWhile blankB := by
    cases b
    · rfl
    · show (32 :: 9 :: (x ++ padL true)).dropWhile blankB = _
      rw [List.dropWhile_cons, if_pos b32, List.dropWhile_cons, if_pos b9]
  unfold trimL
  rw [h1, hx.2]
  cases x with
  | nil => rfl
  | cons c r =>
    show trimR ((c :: r) ++ padL b) = _
    cases b
    · rw [show padL false = [] from rfl, List.append_nil, hx.1]
    · rw [show (c :: r) ++ padL true = ((c :: r) ++ [32]) ++ [9] by simp [padL], trimR_snoc_yes b9, trimR_snoc_yes b32, hx.1]
def joinL (ps : List (Bool × List UInt8)) : List UInt8 := ps.flatMap fun p => padL p.1 ++ (p.2 ++ (padL p.1 ++ [44]))
def wantL (ps : List (Bool × List UInt8)) : List (List UInt8) := (ps.map Prod.snd).filter fun x => !x.isEmpty
def Toks (ps : List (Bool × List UInt8)) : Prop := ∀ p ∈ ps, p.2.all signB = true
theorem joinL_snoc (ps : List (Bool × List UInt8)) (b : Bool) (x : List UInt8) : joinL (ps ++ [(b, x)]) = joinL ps ++ (padL b ++ (x ++ (padL b ++ [44]))) := by simp [joinL]
theorem wantL_snoc (ps : List (Bool × List UInt8)) (b : Bool) (x : List UInt8) : wantL (ps ++ [(b, x)]) = wantL ps ++ (if x.isEmpty then [] else [x]) := by
  unfold wantL
  rw [List.map_append, List.filter_append]
  congr 1
  cases x <;> rfl
theorem splT_tok (b : Bool) {x : List UInt8} (h : x.all signB = true) (r : List UInt8) : splT [] (padL b ++ (x ++ (padL b ++ 44 :: r))) = (splT [] r).map ((if x.isEmpty then [] else [x]) ++ ·) := by
  rw [splT_run (padL b) [] _ (pad_no b), splT_run x _ _ (tok_no h), splT_run (padL b) _ _ (pad_no b), splT_comma]
  have e : [] ++ padL b ++ x ++ padL b = padL b ++ (x ++ padL b) := by simp
  rw [e]
  unfold elemL
  rw [trim_tok b h]
theorem spl_join_to : ∀ (ps : List (Bool × List UInt8)), Toks ps → ∀ r, splT [] (joinL ps ++ r) = (splT [] r).map (wantL ps ++ ·)
  | [], _, r => by
    show splT [] r = _
    cases splT [] r <;> rfl
  | p :: ps, h, r => by
    have e : joinL (p :: ps) ++ r = padL p.1 ++ (p.2 ++ (padL p.1 ++ 44 :: (joinL ps ++ r))) := by simp [joinL]
    rw [e, splT_tok p.1 (h p List.mem_cons_self), spl_join_to ps (fun q hq => h q (List.mem_cons_of_mem _ hq)) r, Option.map_map]
    congr 1
    funext y
    show (if p.2.isEmpty then [] else [p.2]) ++ (wantL ps ++ y) = wantL (p :: ps) ++ y
    unfold wantL
    rw [List.map_cons, List.filter_cons]
    cases hp : p.2 <;> simp
theorem spl_join {ps : List (Bool × List UInt8)} (h : Toks ps) : splF (joinL ps) = some (wantL ps) := by
  have := spl_join_to ps h []
  rw [List.append_nil] at this
  rw [splF_T, this, splT_nil]
  show some (wantL ps ++ elemL []) = _
  have : elemL [] = [] := rfl
  rw [this, List.append_nil]
theorem spl_join_bad {ps : List (Bool × List UInt8)} (h : Toks ps) : splF (joinL ps ++ [34]) = none := by
  rw [splF_T, spl_join_to ps h [34], splT_quote]
  rfl

end Go.Proofs.Ytimpnknmhbpffaa
