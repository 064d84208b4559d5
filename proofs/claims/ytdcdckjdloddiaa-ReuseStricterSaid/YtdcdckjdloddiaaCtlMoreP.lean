/-
  What two lists of fields say together, where each can be read.
-/
import Derived.Test.YtdcdckjdloddiaaCtlLen
import Derived.Test.YtdcdckjdloddiaaTokLawP
namespace Go.Proofs.Ytdcdckjdloddiaa
open Go.RowKit

theorem qend_app : ∀ (m : Nat) (r s : List UInt8) (n : Nat), r.length ≤ m → qend r = some n → qend (r ++ s) = some n
  | _, [], s, n, _, h => by simp [qend] at h
  | 0, c :: r, s, n, hm, _ => by simp at hm
  | m + 1, c :: r, s, n, hm, h => by
    simp only [List.length_cons] at hm
    rw [List.cons_append]
    unfold qend at h ⊢
    by_cases h1 : c = 92
    · rw [if_pos h1] at h ⊢
      cases r with
      | nil => cases h
      | cons d r' =>
        simp only [List.length_cons] at hm
        simp only [List.cons_append] at h ⊢
        simp only [Option.map_eq_some_iff] at h ⊢
        obtain ⟨k, hk, rfl⟩ := h
        exact ⟨k, qend_app m r' s k (by omega) hk, rfl⟩
    · rw [if_neg h1] at h ⊢
      by_cases h2 : c = 34
      · rw [if_pos h2] at h ⊢; exact h
      · rw [if_neg h2] at h ⊢
        simp only [Option.map_eq_some_iff] at h ⊢
        obtain ⟨k, hk, rfl⟩ := h
        exact ⟨k, qend_app m r s k (by omega) hk, rfl⟩
/-- A text that can be split, a comma and more behind it. -/
theorem splT_app : ∀ (m : Nat) (x cur r : List UInt8) (P : List (List UInt8)), x.length ≤ m → splT cur x = some P → splT cur (x ++ 44 :: r) = (splT [] r).map (P ++ ·)
  | _, [], cur, r, P, _, h => by
    rw [splT_nil] at h
    simp only [Option.some.injEq] at h
    subst h
    exact splT_comma cur r
  | 0, c :: x, cur, r, P, hm, _ => by simp at hm
  | m + 1, c :: x, cur, r, P, hm, h => by
    simp only [List.length_cons] at hm
    rw [List.cons_append]
    by_cases h1 : c = 44
    · subst h1
      rw [splT_comma] at h ⊢
      simp only [Option.map_eq_some_iff] at h
      obtain ⟨Q, hQ, rfl⟩ := h
      rw [splT_app m x [] r Q (by omega) hQ, Option.map_map]
      congr 1
      funext t
      simp
    · by_cases h2 : c = 34
      · subst h2
        rw [splT_quote] at h ⊢
        cases hq : qend x with
        | none => rw [hq] at h; cases h
        | some n =>
          rw [hq] at h
          have hb := qend_bd x n hq
          rw [qend_app _ x (44 :: r) n (Nat.le_refl _) hq]
          simp only at h ⊢
          rw [List.take_append_of_le_length hb.2, List.drop_append_of_le_length hb.2]
          exact splT_app m (x.drop n) _ r P (by rw [List.length_drop]; omega) h
      · rw [splT_other _ _ _ h1 h2] at h ⊢
        exact splT_app m x _ r P (by omega) h
theorem elem_blank (x : List UInt8) : elemL (32 :: x) = elemL x := by
  have : trimL (32 :: x) = trimL x := by unfold trimL; rw [List.dropWhile_cons, if_pos (by decide)]
  unfold elemL
  rw [this]
theorem splT_blank : ∀ (m : Nat) (x cur : List UInt8), x.length ≤ m → splT (32 :: cur) x = splT cur x
  | _, [], cur, _ => by rw [splT_nil, splT_nil, elem_blank]
  | 0, c :: x, cur, hm => by simp at hm
  | m + 1, c :: x, cur, hm => by
    simp only [List.length_cons] at hm
    by_cases h1 : c = 44
    · subst h1
      rw [splT_comma, splT_comma, elem_blank]
    · by_cases h2 : c = 34
      · subst h2
        rw [splT_quote, splT_quote]
        cases hq : qend x with
        | none => rfl
        | some n =>
          have hb := qend_bd x n hq
          simp only
          rw [List.cons_append]
          exact splT_blank m _ _ (by rw [List.length_drop]; omega)
      · rw [splT_other _ _ _ h1 h2, splT_other _ _ _ h1 h2, List.cons_append]
        exact splT_blank m _ _ (by omega)
theorem join_app (a b : List (List UInt8)) (ha : a ≠ []) (hb : b ≠ []) : Lib.join (a ++ b) [44, 32] = Lib.join a [44, 32] ++ 44 :: 32 :: Lib.join b [44, 32] := by
  cases a with
  | nil => exact absurd rfl ha
  | cons x r =>
    cases b with
    | nil => exact absurd rfl hb
    | cons y s =>
      rw [List.cons_append, Lib.join_cons, Lib.join_cons, Lib.join_cons]
      simp [Lib.joinTail]
theorem spl_two {a b : List (List UInt8)} {P Q : List (List UInt8)} (hP : splF (Lib.join a [44, 32]) = some P) (hQ : splF (Lib.join b [44, 32]) = some Q) : splF (Lib.join (a ++ b) [44, 32]) = some (P ++ Q) := by
  have e0 : splF (Lib.join [] [44, 32]) = some [] := rfl
  by_cases ha : a = []
  · subst ha
    rw [e0] at hP
    simp only [Option.some.injEq] at hP
    subst hP
    exact hQ
  · by_cases hb : b = []
    · subst hb
      rw [e0] at hQ
      simp only [Option.some.injEq] at hQ
      subst hQ
      rw [List.append_nil, List.append_nil]
      exact hP
    · rw [splF_T] at hP hQ ⊢
      rw [join_app a b ha hb, splT_app _ _ [] _ P (Nat.le_refl _) hP, splT_other _ _ _ (by decide) (by decide), List.nil_append, splT_blank _ _ _ (Nat.le_refl _), hQ]
      rfl
theorem valsF_app (name : List UInt8) (a b : List FieldL) : valsF name (a ++ b) = valsF name a ++ valsF name b := by
  unfold valsF
  rw [List.filter_append, List.map_append]
theorem pairs_app {name : List UInt8} {a b : List FieldL} {P Q : List (List UInt8)} (hP : splF (Lib.join (valsF name a) [44, 32]) = some P) (hQ : splF (Lib.join (valsF name b) [44, 32]) = some Q) : pairsF name (a ++ b) = pairsF name a ++ pairsF name b := by
  unfold pairsF partsF
  rw [valsF_app, spl_two hP hQ, hP, hQ]
  exact List.filterMap_append
def cmb (a b : Int) : Int := if a < 0 then b else if b < 0 then a else min a b
def ctlJoin (x y : Ctl) : Ctl := ⟨x.ns || y.ns, x.nc || y.nc, x.pr || y.pr, x.pu || y.pu, x.mu || y.mu, x.on || y.on, cmb x.ma y.ma, cmb x.sh y.sh, cmb x.st y.st, cmb x.fr y.fr⟩
theorem cmb_ls (a b u : Int) (hu : 0 ≤ u) : lsF (cmb a b) u = cmb a (lsF b u) := by
  unfold lsF cmb
  by_cases h1 : a < 0
  · simp only [h1, if_true]
  · by_cases h2 : b < 0
    · simp only [h1, h2, if_true, if_false]
      rw [if_neg (by omega)]
    · simp only [h1, h2, if_false]
      rw [if_neg (by omega), if_neg (by omega)]
      omega
theorem join_step (x y : Ctl) (p : PairL) : ctlStep (ctlJoin x y) p = ctlJoin x (ctlStep y p) := by
  have n0 := (numF_bd p (b := 0) (by omega)).1
  have n1 := (numF_bd p (b := 2147483647) (by omega)).1
  unfold ctlStep
  by_cases qnNoStore : p.name = nNoStore
  · rw [if_pos qnNoStore, if_pos qnNoStore]; unfold ctlJoin; simp
  rw [if_neg qnNoStore, if_neg qnNoStore]
  by_cases qnNoCache : p.name = nNoCache
  · rw [if_pos qnNoCache, if_pos qnNoCache]; unfold ctlJoin; simp
  rw [if_neg qnNoCache, if_neg qnNoCache]
  by_cases qnPrivate : p.name = nPrivate
  · rw [if_pos qnPrivate, if_pos qnPrivate]; unfold ctlJoin; simp
  rw [if_neg qnPrivate, if_neg qnPrivate]
  by_cases qnPublic : p.name = nPublic
  · rw [if_pos qnPublic, if_pos qnPublic]; unfold ctlJoin; simp
  rw [if_neg qnPublic, if_neg qnPublic]
  by_cases qnOnly : p.name = nOnly
  · rw [if_pos qnOnly, if_pos qnOnly]; unfold ctlJoin; simp
  rw [if_neg qnOnly, if_neg qnOnly]
  by_cases qnMust : p.name = nMust
  · rw [if_pos qnMust, if_pos qnMust]; unfold ctlJoin; simp
  rw [if_neg qnMust, if_neg qnMust]
  by_cases qnProxy : p.name = nProxy
  · rw [if_pos qnProxy, if_pos qnProxy]; unfold ctlJoin; simp
  rw [if_neg qnProxy, if_neg qnProxy]
  by_cases qnMaxAge : p.name = nMaxAge
  · rw [if_pos qnMaxAge, if_pos qnMaxAge]; unfold ctlJoin; simp only; rw [cmb_ls _ _ _ n0]
  rw [if_neg qnMaxAge, if_neg qnMaxAge]
  by_cases qnShared : p.name = nShared
  · rw [if_pos qnShared, if_pos qnShared]; unfold ctlJoin; simp only; rw [cmb_ls _ _ _ n0]
  rw [if_neg qnShared, if_neg qnShared]
  by_cases qnFresh : p.name = nFresh
  · rw [if_pos qnFresh, if_pos qnFresh]; unfold ctlJoin; simp only; rw [cmb_ls _ _ _ n0]
  rw [if_neg qnFresh, if_neg qnFresh]
  by_cases qnStale : p.name = nStale
  · rw [if_pos qnStale, if_pos qnStale]; unfold ctlJoin; simp only; rw [cmb_ls _ _ _ n1]
  rw [if_neg qnStale, if_neg qnStale]
theorem join_fold (x : Ctl) : ∀ (l : List PairL) (y : Ctl), l.foldl ctlStep (ctlJoin x y) = ctlJoin x (l.foldl ctlStep y)
  | [], y => rfl
  | p :: l, y => by rw [List.foldl_cons, List.foldl_cons, join_step, join_fold x l]
theorem join_zero {x : Ctl} (h : x.Ok) : ctlJoin x ctl0 = x := by
  obtain ⟨h1, h2, h3, h4⟩ := h
  unfold ctlJoin ctl0
  have e : ∀ a : Int, -1 ≤ a → cmb a (-1) = a := fun a ha => by
    unfold cmb
    by_cases h : a < 0
    · rw [if_pos h]; omega
    · rw [if_neg h, if_pos (by omega)]
  simp only [Bool.or_false]
  rw [e _ h1.1, e _ h2.1, e _ h3.1, e _ h4.1]
theorem ctl_app {a b : List FieldL} {P Q : List (List UInt8)} (hP : splF (Lib.join (valsF nCC a) [44, 32]) = some P) (hQ : splF (Lib.join (valsF nCC b) [44, 32]) = some Q) : ctlF (a ++ b) = ctlJoin (ctlF a) (ctlF b) := by
  unfold ctlF ctlOf
  rw [pairs_app hP hQ, List.foldl_append]
  have := join_fold ((pairsF nCC a).foldl ctlStep ctl0) (pairsF nCC b) ctl0
  rw [join_zero (ctlFold_ok _ _ ctl0_ok)] at this
  exact this

end Go.Proofs.Ytdcdckjdloddiaa
