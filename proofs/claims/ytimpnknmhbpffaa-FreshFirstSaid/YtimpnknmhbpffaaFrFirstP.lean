/-
  FreshFirst and FreshShares, the plain law: which of four tellings counts.
-/
import Derived.Test.YtimpnknmhbpffaaFrLawB
import Derived.Test.YtimpnknmhbpffaaCtlQB
import Derived.Test.YtimpnknmhbpffaaCtlMoreP
import Derived.Test.YtimpnknmhbpffaaDayLaw
import Derived.Test.YtimpnknmhbpffaaDayShow
namespace Go.Proofs.Ytimpnknmhbpffaa
open Go.RowKit
set_option linter.unusedVariables false

theorem ctlF_vals {l m : List FieldL} (h : valsF nCC l = valsF nCC m) : ctlF l = ctlF m := by
  unfold ctlF pairsF partsF
  rw [h]
def f1 (d : List UInt8) : FieldL := (nDate, d)
def f2 (d : List UInt8) : FieldL := (nLast, d)
def f3 (d : List UInt8) : FieldL := (nExp, d)
def f4 (d : List UInt8) : FieldL := (nCC, d)
theorem v1 (a b : List UInt8) : valsF nCC [f1 a, f2 b] = [] ∧ valsF nDate [f1 a, f2 b] = [a] ∧ valsF nLast [f1 a, f2 b] = [b] ∧ valsF nExp [f1 a, f2 b] = [] := by
  unfold valsF f1 f2
  refine ⟨?_, ?_, ?_, ?_⟩ <;> simp [nCC, nDate, nLast, nExp]
theorem v2 (a b c : List UInt8) : valsF nCC [f1 a, f2 b, f3 c] = [] ∧ valsF nDate [f1 a, f2 b, f3 c] = [a] ∧ valsF nExp [f1 a, f2 b, f3 c] = [c] := by
  unfold valsF f1 f2 f3
  refine ⟨?_, ?_, ?_⟩ <;> simp [nCC, nDate, nLast, nExp]
theorem v3 (a b c d : List UInt8) : valsF nCC [f1 a, f2 b, f3 c, f4 d] = [d] := by
  unfold valsF f1 f2 f3 f4
  simp [nCC, nDate, nLast, nExp]
theorem v3b (a b d : List UInt8) : valsF nCC [f1 a, f2 b, f4 d] = [d] := by
  unfold valsF f1 f2 f4
  simp [nCC, nDate, nLast]
theorem v4 (a b c d e : List UInt8) : valsF nCC [f1 a, f2 b, f3 c, f4 d, f4 e] = [d, e] := by
  unfold valsF f1 f2 f3 f4
  simp [nCC, nDate, nLast, nExp]
theorem ctl_none {l : List FieldL} (h : valsF nCC l = []) : (ctlF l).sh = -1 ∧ (ctlF l).ma = -1 := by
  rw [ctlF_vals (m := []) (by rw [h]; rfl)]
  decide +kernel
theorem dF_one {name : List UInt8} {l : List FieldL} {n : Int} (h : valsF name l = [showF n]) (h0 : 0 ≤ n) (h1 : n ≤ 2145916799) : dF name l = (n, true) := by
  unfold dF
  rw [h, if_pos (by rfl), Lib.join_one, read_show n h0 h1]
theorem dated_one {l : List FieldL} {n : Int} (h : dF nDate l = (n, true)) (ca : Int) : datedF l ca = n := by
  unfold datedF
  rw [h]
  exact if_pos (by rfl)
theorem lifeB_lm {c : Ctl} (h1 : c.sh = -1) (h2 : c.ma = -1) (fr m : Int) (ex : Int × Bool) (x : Nat) (h : m ≤ fr) : lifeB c fr 0 ex (m, true) true x = shareI (fr - m) x := by
  unfold lifeB
  rw [h1, h2, if_neg (by decide), if_neg (by decide), if_neg (by decide)]
  exact if_pos ⟨rfl, h, rfl⟩
theorem lifeB_ex {c : Ctl} (h1 : c.sh = -1) (h2 : c.ma = -1) (fr e : Int) (lm : Int × Bool) (pl : Bool) (x : Nat) : lifeB c fr 1 (e, true) lm pl x = max (e - fr) 0 := by
  unfold lifeB
  rw [h1, h2, if_neg (by decide), if_neg (by decide), if_pos (by decide)]
  exact if_pos (by rfl)
theorem share_one (s : Int) (h0 : 0 ≤ s) (h1 : s ≤ 65535) {x : Nat} (hx : cleanB x = oneB) : shareI s x = s := (share_spec s x h0 (by omega)).2.2.2.2.1 hx
theorem share_nil (s : Int) (h0 : 0 ≤ s) (h1 : s ≤ 65535) {x : Nat} (hx : cleanB x = 0) : shareI s x = 0 := (share_spec s x h0 (by omega)).2.2.2.2.2 hx
theorem first1 (d : Int) (h0 : 0 ≤ d) (h1 : d ≤ 65535) (ca : Int) (x : Nat) : lifeF 200 [f1 (showF 784111777), f2 (showF (784111777 - d))] ca x = shareI d x := by
  obtain ⟨e1, e2, e3, e4⟩ := v1 (showF 784111777) (showF (784111777 - d))
  obtain ⟨c1, c2⟩ := ctl_none e1
  have k1 := dF_one e2 (by decide) (by decide)
  have k2 := dF_one e3 (by omega) (by omega)
  unfold lifeF
  rw [dated_one k1, k2, e4]
  have := lifeB_lm c1 c2 784111777 (784111777 - d) (dF nExp [f1 (showF 784111777), f2 (showF (784111777 - d))]) x (by omega)
  rw [show (784111777 : Int) - (784111777 - d) = d by omega] at this
  exact this
theorem first2 (d c : Int) (h0 : 0 ≤ d) (h1 : d ≤ 65535) (c0 : 0 ≤ c) (cb : c ≤ 65535) (ca : Int) (x : Nat) : lifeF 200 [f1 (showF 784111777), f2 (showF (784111777 - d)), f3 (showF (784111777 + c))] ca x = c := by
  obtain ⟨e1, e2, e3⟩ := v2 (showF 784111777) (showF (784111777 - d)) (showF (784111777 + c))
  obtain ⟨c1, c2⟩ := ctl_none e1
  have k1 := dF_one e2 (by decide) (by decide)
  have k2 := dF_one e3 (by omega) (by omega)
  unfold lifeF
  rw [dated_one k1, k2, e3]
  have := lifeB_ex c1 c2 784111777 (784111777 + c) (dF nLast [f1 (showF 784111777), f2 (showF (784111777 - d)), f3 (showF (784111777 + c))]) (plS19 200) x
  rw [show max ((784111777 : Int) + c - 784111777) 0 = c by omega] at this
  exact this
theorem life_ma {l : List FieldL} {n : Nat} (hn : n ≤ 65535) (h : valsF nCC l = [nMaxAge ++ 61 :: decD n]) (ca : Int) (x : Nat) : lifeF 200 l ca x = (n : Int) := by
  have hc : ctlF l = { ctl0 with ma := (n : Int) } := by
    rw [ctlF_vals (m := [(nCC, nMaxAge ++ 61 :: decD n)]) (by rw [h]; simp [valsF])]
    exact l_age n (by omega)
  unfold lifeF lifeB
  rw [hc]
  rw [if_neg (by show ¬ (0 : Int) ≤ -1; decide), if_pos (by show (0 : Int) ≤ n; omega)]
theorem readable {n v : List UInt8} (h : tokB n = true) (hv : tokB v = true) : splF (Lib.join (valsF nCC [(nCC, n ++ 61 :: v)]) [44, 32]) = some (elemL (n ++ 61 :: v)) := by
  have e : valsF nCC [(nCC, n ++ 61 :: v)] = [n ++ 61 :: v] := by simp [valsF]
  rw [e, Lib.join_one, splF_T]
  have := (okT_tok h hv).fin []
  rw [this, List.nil_append]
theorem life_sh {l : List FieldL} {n m : Nat} (hn : n ≤ 65535) (hm : m ≤ 65535) (h : valsF nCC l = [nMaxAge ++ 61 :: decD m, nShared ++ 61 :: decD n]) (ca : Int) (x : Nat) : lifeF 200 l ca x = (n : Int) := by
  have hc : ctlF l = ctlJoin { ctl0 with ma := (m : Int) } { ctl0 with sh := (n : Int) } := by
    rw [ctlF_vals (m := [(nCC, nMaxAge ++ 61 :: decD m)] ++ [(nCC, nShared ++ 61 :: decD n)]) (by rw [h]; simp [valsF])]
    rw [ctl_app (readable (by decide +kernel) (dig_tok m)) (readable (by decide +kernel) (dig_tok n)), l_age m (by omega), l_shared n (by omega)]
  have hs : (ctlF l).sh = (n : Int) := by
    rw [hc]
    show cmb (-1) (n : Int) = n
    unfold cmb
    rw [if_pos (by decide)]
  unfold lifeF lifeB
  rw [hs, if_pos (by omega)]

theorem show_of (n : Int) (h0 : -9223372036854775808 ≤ n) (h1 : n ≤ 9223372036854775807) (D : ByteArray) (hD : D.data.toList = showF n) (w : World) :
    Calls Try.prog 25 #[.int .i64 n] w fun e w' => e = .returned (.string D) ∧ Aft w w' := by
  have e : D = ⟨(showF n).toArray⟩ := bytes_ext (by rw [hD])
  rw [e]
  exact show_any n h0 h1 w

end Go.Proofs.Ytimpnknmhbpffaa
