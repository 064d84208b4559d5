/-
  Chapter 19 in plain words: lifetimes and ages.
-/
import Derived.Test.YtdcdckjdloddiaaFloatP
import Derived.Test.YtdcdckjdloddiaaCtlLen
import Derived.Test.YtdcdckjdloddiaaTokAll
import Derived.Test.YtdcdckjdloddiaaDayAgree
namespace Go.Proofs.Ytdcdckjdloddiaa
open Go.RowKit
set_option linter.unusedVariables false

def clampI (n : Int) : Int := min (max n 0) 2147483647
def nDate : List UInt8 := [100, 97, 116, 101]
def nExp : List UInt8 := [101, 120, 112, 105, 114, 101, 115]
def nLast : List UInt8 := [108, 97, 115, 116, 45, 109, 111, 100, 105, 102, 105, 101, 100]
def nAge : List UInt8 := [97, 103, 101]
/-- The date that the only field of a name tells. -/
def dF (name : List UInt8) (l : List FieldL) : Int × Bool := if (valsF name l).length = 1 then Dp.readF (Lib.join (valsF name l) [44, 32]) else (0, false)
def datedF (l : List FieldL) (came : Int) : Int := if (dF nDate l).2 = true then (dF nDate l).1 else clampI came
def plS19 (n : Int) : Bool := n == 200 || (n == 203 || (n == 204 || (n == 300 || (n == 301 || (n == 308 || (n == 404 || (n == 405 || (n == 410 || (n == 414 || n == 501)))))))))
def lifeB (c : Ctl) (fr : Int) (ne : Nat) (ex lm : Int × Bool) (pl : Bool) (x : Nat) : Int :=
  if 0 ≤ c.sh then c.sh else if 0 ≤ c.ma then c.ma else
  if 0 < ne then (if ex.2 = true then max (ex.1 - fr) 0 else 0) else
  if lm.2 = true ∧ lm.1 ≤ fr ∧ pl = true then shareI (fr - lm.1) x else 0
def lifeF (st : Int) (l : List FieldL) (came : Int) (x : Nat) : Int :=
  lifeB (ctlF l) (datedF l came) (valsF nExp l).length (dF nExp l) (dF nLast l) (plS19 st) x
def toldF (l : List FieldL) : Int := if (valsF nAge l).length = 1 then max (secF (Lib.join (valsF nAge l) [44, 32])) 0 else 0
def ageB (d t asked came now : Int) : Int :=
  min (max (max 0 (max (clampI asked) (clampI came) - d)) (t + max (clampI asked) (clampI came) - clampI asked) + max (max (clampI asked) (clampI came)) (clampI now) - max (clampI asked) (clampI came)) 2147483647
def ageF (l : List FieldL) (asked came now : Int) : Int := ageB (datedF l came) (toldF l) asked came now

theorem clampI_bd (n : Int) : 0 ≤ clampI n ∧ clampI n ≤ 2147483647 := by unfold clampI; omega
theorem readF_bd (s : List UInt8) : 0 ≤ (Dp.readF s).1 ∧ (Dp.readF s).1 ≤ 2145916799 := by
  rcases h : Dp.readF s with ⟨b, c⟩
  cases c
  · have : b = 0 := by
      rcases readF_cases s with h2 | ⟨n, h2⟩
      · rw [h] at h2; injection h2
      · rw [h] at h2; injection h2 with _ h3; cases h3
    subst this; decide
  · exact (show_read h).2
theorem dF_bd (name : List UInt8) (l : List FieldL) : 0 ≤ (dF name l).1 ∧ (dF name l).1 ≤ 2145916799 := by
  unfold dF
  split
  · exact readF_bd _
  · decide
theorem datedF_bd (l : List FieldL) (came : Int) : 0 ≤ datedF l came ∧ datedF l came ≤ 2147483647 := by
  unfold datedF
  have := dF_bd nDate l
  have := clampI_bd came
  split <;> omega
theorem toldF_bd (l : List FieldL) : 0 ≤ toldF l ∧ toldF l ≤ 2147483647 := by
  unfold toldF
  split
  · have := secF_bd (Lib.join (valsF nAge l) [44, 32]); omega
  · omega
theorem lifeB_bd {c : Ctl} (hc : c.Ok) {fr : Int} (hf : 0 ≤ fr ∧ fr ≤ 2147483647) (ne : Nat) {ex lm : Int × Bool} (he : 0 ≤ ex.1 ∧ ex.1 ≤ 2145916799) (hl : 0 ≤ lm.1 ∧ lm.1 ≤ 2145916799) (pl : Bool) (x : Nat) : 0 ≤ lifeB c fr ne ex lm pl x ∧ lifeB c fr ne ex lm pl x ≤ 2147483647 := by
  unfold lifeB
  have h1 := hc.sh
  have h2 := hc.ma
  split
  · omega
  · split
    · omega
    · split
      · split <;> omega
      · split
        · rename_i h
          have := share_spec (fr - lm.1) x (by omega) (by omega)
          omega
        · omega
theorem lifeF_bd (st : Int) (l : List FieldL) (came : Int) (x : Nat) : 0 ≤ lifeF st l came x ∧ lifeF st l came x ≤ 2147483647 :=
  lifeB_bd (ctlF_ok l) (datedF_bd l came) _ (dF_bd _ _) (dF_bd _ _) _ x
theorem ageB_bd {d t : Int} (hd : 0 ≤ d ∧ d ≤ 2147483647) (ht : 0 ≤ t ∧ t ≤ 2147483647) (asked came now : Int) : 0 ≤ ageB d t asked came now ∧ ageB d t asked came now ≤ 2147483647 := by
  unfold ageB clampI; omega
theorem ageF_bd (l : List FieldL) (asked came now : Int) : 0 ≤ ageF l asked came now ∧ ageF l asked came now ≤ 2147483647 := ageB_bd (datedF_bd _ _) (toldF_bd _) _ _ _
theorem age_grows {d t asked came m n : Int} (hd : 0 ≤ d ∧ d ≤ 2147483647) (ht : 0 ≤ t ∧ t ≤ 2147483647) (h0 : 0 ≤ m) (h1 : m ≤ n) (h2 : n ≤ 2147483647) :
    ageB d t asked came m ≤ ageB d t asked came n ∧ ageB d t asked came n - ageB d t asked came m ≤ n - m := by
  unfold ageB clampI; omega
theorem age_first {d t asked came m : Int} (hd : 0 ≤ d ∧ d ≤ 2147483647) (ht : 0 ≤ t ∧ t ≤ 2147483647) (h0 : 0 ≤ m) :
    ageB d t asked came (-9223372036854775808) ≤ ageB d t asked came m := by
  unfold ageB clampI; omega

end Go.Proofs.Ytdcdckjdloddiaa
