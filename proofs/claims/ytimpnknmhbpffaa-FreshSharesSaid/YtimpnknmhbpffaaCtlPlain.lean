/-
  What Cache-Control says, as a plain function of the pairs; seconds.
-/
import Derived.Test.YtimpnknmhbpffaaTokPairs
namespace Go.Proofs.Ytimpnknmhbpffaa
open Go.RowKit

def secGo (n : Int) : List UInt8 → Int
  | [] => n
  | c :: r => if c.toNat < 48 ∨ 57 < c.toNat then -1 else secGo (min (10 * n + ((c.toNat : Int) - 48)) 2147483647) r
def secF (l : List UInt8) : Int := if l = [] then -1 else secGo 0 l
theorem secGo_bd : ∀ (l : List UInt8) (n : Int), 0 ≤ n → n ≤ 2147483647 → -1 ≤ secGo n l ∧ secGo n l ≤ 2147483647
  | [], n, h0, h1 => by unfold secGo; omega
  | c :: r, n, h0, h1 => by
    unfold secGo
    split
    · omega
    · exact secGo_bd r _ (by omega) (by omega)
theorem secF_bd (l : List UInt8) : -1 ≤ secF l ∧ secF l ≤ 2147483647 := by
  unfold secF
  split
  · omega
  · exact secGo_bd l 0 (by omega) (by omega)
structure Ctl where
  ns : Bool
  nc : Bool
  pr : Bool
  pu : Bool
  mu : Bool
  on : Bool
  ma : Int
  sh : Int
  st : Int
  fr : Int
def ctl0 : Ctl := ⟨false, false, false, false, false, false, -1, -1, -1, -1⟩
def lsF (old now : Int) : Int := if old < 0 then now else min old now
def numF (p : PairL) (bare : Int) : Int := if p.has then max (secF p.value) 0 else bare

def nNoStore : List UInt8 := [110, 111, 45, 115, 116, 111, 114, 101]
def nNoCache : List UInt8 := [110, 111, 45, 99, 97, 99, 104, 101]
def nPrivate : List UInt8 := [112, 114, 105, 118, 97, 116, 101]
def nPublic : List UInt8 := [112, 117, 98, 108, 105, 99]
def nOnly : List UInt8 := [111, 110, 108, 121, 45, 105, 102, 45, 99, 97, 99, 104, 101, 100]
def nMust : List UInt8 := [109, 117, 115, 116, 45, 114, 101, 118, 97, 108, 105, 100, 97, 116, 101]
def nProxy : List UInt8 := [112, 114, 111, 120, 121, 45, 114, 101, 118, 97, 108, 105, 100, 97, 116, 101]
def nMaxAge : List UInt8 := [109, 97, 120, 45, 97, 103, 101]
def nShared : List UInt8 := [115, 45, 109, 97, 120, 97, 103, 101]
def nFresh : List UInt8 := [109, 105, 110, 45, 102, 114, 101, 115, 104]
def nStale : List UInt8 := [109, 97, 120, 45, 115, 116, 97, 108, 101]
def nCC : List UInt8 := [99, 97, 99, 104, 101, 45, 99, 111, 110, 116, 114, 111, 108]
def ctlStep (c : Ctl) (p : PairL) : Ctl :=
  if p.name = nNoStore then { c with ns := true }
  else if p.name = nNoCache then { c with nc := true }
  else if p.name = nPrivate then { c with pr := true }
  else if p.name = nPublic then { c with pu := true }
  else if p.name = nOnly then { c with on := true }
  else if p.name = nMust then { c with mu := true }
  else if p.name = nProxy then { c with mu := true }
  else if p.name = nMaxAge then { c with ma := lsF c.ma (numF p 0) }
  else if p.name = nShared then { c with sh := lsF c.sh (numF p 0) }
  else if p.name = nFresh then { c with fr := lsF c.fr (numF p 0) }
  else if p.name = nStale then { c with st := lsF c.st (numF p 2147483647) }
  else c
def ctlOf (l : List PairL) : Ctl := l.foldl ctlStep ctl0
def ctlF (l : List FieldL) : Ctl := ctlOf (pairsF nCC l)
structure Ctl.Ok (c : Ctl) : Prop where
  ma : -1 ≤ c.ma ∧ c.ma ≤ 2147483647
  sh : -1 ≤ c.sh ∧ c.sh ≤ 2147483647
  st : -1 ≤ c.st ∧ c.st ≤ 2147483647
  fr : -1 ≤ c.fr ∧ c.fr ≤ 2147483647
theorem lsF_bd {a b : Int} (h0 : -1 ≤ a ∧ a ≤ 2147483647) (h1 : -1 ≤ b ∧ b ≤ 2147483647) : -1 ≤ lsF a b ∧ lsF a b ≤ 2147483647 := by
  unfold lsF; split <;> omega
theorem numF_bd (p : PairL) {b : Int} (h : 0 ≤ b ∧ b ≤ 2147483647) : 0 ≤ numF p b ∧ numF p b ≤ 2147483647 := by
  unfold numF
  have := secF_bd p.value
  split <;> omega
theorem ctlStep_ok {c : Ctl} (p : PairL) (h : c.Ok) : (ctlStep c p).Ok := by
  obtain ⟨h1, h2, h3, h4⟩ := h
  have n0 := numF_bd p (b := 0) (by omega)
  have n1 := numF_bd p (b := 2147483647) (by omega)
  unfold ctlStep
  by_cases qnNoStore : p.name = nNoStore
  · rw [if_pos qnNoStore]; exact ⟨h1, h2, h3, h4⟩
  rw [if_neg qnNoStore]
  by_cases qnNoCache : p.name = nNoCache
  · rw [if_pos qnNoCache]; exact ⟨h1, h2, h3, h4⟩
  rw [if_neg qnNoCache]
  by_cases qnPrivate : p.name = nPrivate
  · rw [if_pos qnPrivate]; exact ⟨h1, h2, h3, h4⟩
  rw [if_neg qnPrivate]
  by_cases qnPublic : p.name = nPublic
  · rw [if_pos qnPublic]; exact ⟨h1, h2, h3, h4⟩
  rw [if_neg qnPublic]
  by_cases qnOnly : p.name = nOnly
  · rw [if_pos qnOnly]; exact ⟨h1, h2, h3, h4⟩
  rw [if_neg qnOnly]
  by_cases qnMust : p.name = nMust
  · rw [if_pos qnMust]; exact ⟨h1, h2, h3, h4⟩
  rw [if_neg qnMust]
  by_cases qnProxy : p.name = nProxy
  · rw [if_pos qnProxy]; exact ⟨h1, h2, h3, h4⟩
  rw [if_neg qnProxy]
  by_cases qnMaxAge : p.name = nMaxAge
  · rw [if_pos qnMaxAge]; exact ⟨lsF_bd h1 (by omega), h2, h3, h4⟩
  rw [if_neg qnMaxAge]
  by_cases qnShared : p.name = nShared
  · rw [if_pos qnShared]; exact ⟨h1, lsF_bd h2 (by omega), h3, h4⟩
  rw [if_neg qnShared]
  by_cases qnFresh : p.name = nFresh
  · rw [if_pos qnFresh]; exact ⟨h1, h2, h3, lsF_bd h4 (by omega)⟩
  rw [if_neg qnFresh]
  by_cases qnStale : p.name = nStale
  · rw [if_pos qnStale]; exact ⟨h1, h2, lsF_bd h3 (by omega), h4⟩
  rw [if_neg qnStale]
  exact ⟨h1, h2, h3, h4⟩
theorem ctl0_ok : ctl0.Ok := ⟨by decide, by decide, by decide, by decide⟩
theorem ctlFold_ok (l : List PairL) : ∀ c : Ctl, c.Ok → (l.foldl ctlStep c).Ok := by
  induction l with
  | nil => exact fun c h => h
  | cons p l ih => exact fun c h => ih _ (ctlStep_ok p h)
theorem ctlF_ok (l : List FieldL) : (ctlF l).Ok := ctlFold_ok _ _ ctl0_ok
/-- The ten cells of a control. -/
def ctlC (c : Ctl) : List Value := [.bool c.ns, .bool c.nc, .bool c.pr, .bool c.pu, .bool c.mu, .bool c.on, .int .i64 c.ma, .int .i64 c.sh, .int .i64 c.st, .int .i64 c.fr]
def ctlV (c : Ctl) : Value := .agg (ctlC c).toArray
def CB (w : World) (g : Nat) (c : Ctl) : Prop := w.heap[g]? = some (.cells (ctlC c).toArray 53 (0, 0))

end Go.Proofs.Ytimpnknmhbpffaa
