/-
  Chapter 21 in plain words: what is done with a stored entry.
-/
import Derived.Test.YtdcdckjdloddiaaFrPlain
import Derived.Test.YtdcdckjdloddiaaCtlMoreP
import Derived.Test.YtdcdckjdloddiaaCtlQB
namespace Go.Proofs.Ytdcdckjdloddiaa
open Go.RowKit
set_option linter.unusedVariables false

def nPragma : List UInt8 := [112, 114, 97, 103, 109, 97]
def hasNC (l : List PairL) : Bool := l.any fun p => p.name == nNoCache
def unsF (l : List FieldL) : Bool := if 0 < (valsF nCC l).length then false else hasNC (pairsF nPragma l)
def toldB (c d : Ctl) (un : Bool) (age life : Int) : Bool :=
  if c.nc = true then false else if d.nc = true then false else if un = true then false else
  if 0 ≤ d.ma ∧ d.ma < age then false else
  if age < life then decide (d.fr ≤ life - age) else
  decide (0 ≤ d.st ∧ age - life ≤ d.st ∧ c.mu = false ∧ c.sh < 0 ∧ d.fr < 0)
def reuseB (c d : Ctl) (un : Bool) (age life : Int) : Int := if toldB c d un age life = true then 1 else if d.on = true then 4 else 2

theorem hasNC_take {P : List PairL} {k : Nat} (hk : k < P.length) (h : hasNC (P.take k) = false) : hasNC (P.take (k + 1)) = (P[k].name == nNoCache) := by
  unfold hasNC at h ⊢
  rw [List.take_succ_eq_append_getElem hk, List.any_append, h, Bool.false_or]
  simp
theorem hasNC_true {P : List PairL} {k : Nat} (hk : k < P.length) (h : (P[k].name == nNoCache) = true) : hasNC P = true := by
  unfold hasNC
  exact List.any_eq_true.2 ⟨P[k], List.getElem_mem hk, h⟩

/-- What the five words more say. -/
def moreE (j n : Nat) : Ctl := match j with
  | 0 => { ctl0 with nc := true }
  | 1 => { ctl0 with ma := (n : Int) }
  | 2 => { ctl0 with fr := (n : Int) }
  | 3 => { ctl0 with on := true }
  | _ => { ctl0 with pu := true }
def moreX (j n : Nat) : List UInt8 := match j with
  | 0 => nNoCache
  | 1 => nMaxAge ++ 61 :: decD n
  | 2 => nFresh ++ 61 :: decD n
  | 3 => nOnly
  | _ => nPublic
theorem l_bare {n : List UInt8} (h : tokB n = true) (hl : lowerL n = n) : ctlF [(nCC, n)] = ctlStep ctl0 ⟨n, [], false⟩ := by
  show ctlF (ccF [n]) = _
  unfold ctlF
  rw [pairs_one (okT_bare h), hl]
  rfl
theorem ctl_more (j n : Nat) (hn : n ≤ 65535) : ctlF [(nCC, moreX j n)] = moreE j n := by
  match j with
  | 0 => exact (l_bare (n := nNoCache) (by decide +kernel) (by decide +kernel)).trans (step_nNoCache _ _ _)
  | 1 => exact l_age n (by omega)
  | 2 => exact l_fresh n (by omega)
  | 3 => exact (l_bare (n := nOnly) (by decide +kernel) (by decide +kernel)).trans (step_nOnly _ _ _)
  | j + 4 => exact (l_bare (n := nPublic) (by decide +kernel) (by decide +kernel)).trans (step_nPublic _ _ _)
theorem bare_spl {n : List UInt8} (h : ∀ c ∈ n, c ≠ 44 ∧ c ≠ 34) : splF (Lib.join (valsF nCC [(nCC, n)]) [44, 32]) = some (elemL n) := by
  rw [show valsF nCC [(nCC, n)] = [n] from valsF_cc [n]]
  rw [Lib.join_one, splF_T]
  have := fin_run h []
  rw [this, List.nil_append]
theorem cmb_neg {a : Int} (h : -1 ≤ a) : cmb a (-1) = a := by unfold cmb; split <;> omega
theorem toldB_iff (c d : Ctl) (un : Bool) (a l : Int) : toldB c d un a l = true ↔ (c.nc = false ∧ d.nc = false ∧ un = false ∧ ¬ (0 ≤ d.ma ∧ d.ma < a) ∧ (a < l → d.fr ≤ l - a) ∧ (¬ a < l → 0 ≤ d.st ∧ a - l ≤ d.st ∧ c.mu = false ∧ c.sh < 0 ∧ d.fr < 0)) := by
  unfold toldB
  cases c.nc
  · cases d.nc
    · cases un
      · by_cases h1 : 0 ≤ d.ma ∧ d.ma < a
        · simp [h1]
        · by_cases h2 : a < l
          · simp [h1, h2]
          · simp [h1, h2]
      · simp
    · simp
  · simp
/-- A word more, but max-stale, makes nothing be served that was not; a second min-fresh may. -/
theorem stricter (c d : Ctl) (hd : d.Ok) (j n : Nat) (un : Bool) (a l : Int) (h : toldB c (ctlJoin d (moreE j n)) un a l = true) : toldB c d un a l = true ∨ (j = 2 ∧ 0 ≤ d.fr) := by
  obtain ⟨q1, q2, q3, q4⟩ := hd
  have e1 := cmb_neg q1.1
  have e3 := cmb_neg q3.1
  have e4 := cmb_neg q4.1
  rw [toldB_iff] at h ⊢
  obtain ⟨g1, g2, g3, g4, g5, g6⟩ := h
  match j with
  | 0 => unfold ctlJoin moreE ctl0 at g2; simp at g2
  | 1 =>
    left
    unfold ctlJoin moreE ctl0 at g2 g4 g5 g6
    simp only [Bool.or_false, e3, e4] at g2 g4 g5 g6
    refine ⟨g1, g2, g3, fun h9 => g4 ?_, g5, g6⟩
    unfold cmb
    split
    · omega
    · split <;> omega
  | 2 =>
    by_cases hf : 0 ≤ d.fr
    · exact Or.inr ⟨rfl, hf⟩
    left
    unfold ctlJoin moreE ctl0 at g2 g4 g5 g6
    simp only [Bool.or_false, e3, e1] at g2 g4 g5 g6
    have hc : cmb d.fr (n : Int) = (n : Int) := by unfold cmb; rw [if_pos (by omega)]
    rw [hc] at g5 g6
    refine ⟨g1, g2, g3, g4, fun h9 => by omega, fun h9 => ?_⟩
    obtain ⟨k1, k2, k3, k4, k5⟩ := g6 h9
    exact ⟨k1, k2, k3, k4, by omega⟩
  | 3 =>
    left
    unfold ctlJoin moreE ctl0 at g2 g4 g5 g6
    simp only [Bool.or_false, e1, e3, e4] at g2 g4 g5 g6
    exact ⟨g1, g2, g3, g4, g5, g6⟩
  | j + 4 =>
    left
    unfold ctlJoin moreE ctl0 at g2 g4 g5 g6
    simp only [Bool.or_false, e1, e3, e4] at g2 g4 g5 g6
    exact ⟨g1, g2, g3, g4, g5, g6⟩
/-- Who wants what is stored alone is told so. -/
theorem only_app (d : Ctl) (n : Nat) : (ctlJoin d (moreE 3 n)).on = true := by unfold ctlJoin moreE; simp
theorem reuse_only {c d : Ctl} (h : d.on = true) (un : Bool) (a l : Int) : reuseB c d un a l = 1 ∨ reuseB c d un a l = 4 := by
  unfold reuseB
  rw [if_pos h]
  split
  · exact Or.inl rfl
  · exact Or.inr rfl
/-- A request that says nothing: served as long as fresh. -/
theorem reuse_fresh {c : Ctl} (h : c.nc = false) (a l : Int) : reuseB c ctl0 false a l = if a < l then 1 else 2 := by
  unfold reuseB toldB ctl0
  rw [h]
  by_cases hl : a < l
  · simp [hl]; omega
  · simp [hl]
theorem ctlF_nil : ctlF [] = ctl0 := by kernel_rfl
theorem unsF_nil : unsF [] = false := by decide +kernel
end Go.Proofs.Ytdcdckjdloddiaa
