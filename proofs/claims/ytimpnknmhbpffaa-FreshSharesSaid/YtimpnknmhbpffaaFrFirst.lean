/-
  FreshFirst: the plain law (which of four tellings counts), and the walk.
-/
import Derived.Test.YtimpnknmhbpffaaFrLawB
import Derived.Test.YtimpnknmhbpffaaCtlQB
import Derived.Test.YtimpnknmhbpffaaCtlMoreP
import Derived.Test.YtimpnknmhbpffaaDayLaw
import Derived.Test.YtimpnknmhbpffaaDayShow
import Derived.Test.YtimpnknmhbpffaaFrRuns
import Derived.Test.YtimpnknmhbpffaaPushF
import Derived.Test.YtimpnknmhbpffaaDigitsB
namespace Go.Proofs.Ytimpnknmhbpffaa
open Go.RowKit
set_option linter.unusedVariables false

theorem ctlF_vals {l m : List FieldL} (h : valsF nCC l = valsF nCC m) : ctlF l = ctlF m := by
  unfold ctlF pairsF partsF
  rw [h]
def f1 (d : List UInt8) : FieldL := (nDate, d)
def f2 (d : List UInt8) : FieldL := (nLast, d)
def f3 (d : List UInt8) : FieldL := (nExp, d)
def f4 (d : List UInt8) : FieldL := (nCC, d)
theorem v1 (a b : List UInt8) : valsF nCC [f1 a, f2 b] = [] ∧ valsF nDate [f1 a, f2 b] = [a] ∧ valsF nLast [f1 a, f2 b] = [b] ∧ valsF nExp [f1 a, f2 b] = [] := by
  unfold valsF f1 f2
  refine ⟨?_, ?_, ?_, ?_⟩ <;> simp [nCC, nDate, nLast, nExp]
theorem v2 (a b c : List UInt8) : valsF nCC [f1 a, f2 b, f3 c] = [] ∧ valsF nDate [f1 a, f2 b, f3 c] = [a] ∧ valsF nExp [f1 a, f2 b, f3 c] = [c] := by
  unfold valsF f1 f2 f3
  refine ⟨?_, ?_, ?_⟩ <;> simp [nCC, nDate, nLast, nExp]
theorem v3 (a b c d : List UInt8) : valsF nCC [f1 a, f2 b, f3 c, f4 d] = [d] := by
  unfold valsF f1 f2 f3 f4
  simp [nCC, nDate, nLast, nExp]
theorem v3b (a b d : List UInt8) : valsF nCC [f1 a, f2 b, f4 d] = [d] := by
  unfold valsF f1 f2 f4
  simp [nCC, nDate, nLast]
theorem v4 (a b c d e : List UInt8) : valsF nCC [f1 a, f2 b, f3 c, f4 d, f4 e] = [d, e] := by
  unfold valsF f1 f2 f3 f4
  simp [nCC, nDate, nLast, nExp]
theorem ctl_none {l : List FieldL} (h : valsF nCC l = []) : (ctlF l).sh = -1 ∧ (ctlF l).ma = -1 := by
  rw [ctlF_vals (m := []) (by rw [h]; rfl)]
  decide +kernel
theorem dF_one {name : List UInt8} {l : List FieldL} {n : Int} (h : valsF name l = [showF n]) (h0 : 0 ≤ n) (h1 : n ≤ 2145916799) : dF name l = (n, true) := by
  unfold dF
  rw [h, if_pos (by rfl), Lib.join_one, read_show n h0 h1]
theorem dated_one {l : List FieldL} {n : Int} (h : dF nDate l = (n, true)) (ca : Int) : datedF l ca = n := by
  unfold datedF
  rw [h]
  exact if_pos (by rfl)
theorem lifeB_lm {c : Ctl} (h1 : c.sh = -1) (h2 : c.ma = -1) (fr m : Int) (ex : Int × Bool) (x : Nat) (h : m ≤ fr) : lifeB c fr 0 ex (m, true) true x = shareI (fr - m) x := by
  unfold lifeB
  rw [h1, h2, if_neg (by decide), if_neg (by decide), if_neg (by decide)]
  exact if_pos ⟨rfl, h, rfl⟩
theorem lifeB_ex {c : Ctl} (h1 : c.sh = -1) (h2 : c.ma = -1) (fr e : Int) (lm : Int × Bool) (pl : Bool) (x : Nat) : lifeB c fr 1 (e, true) lm pl x = max (e - fr) 0 := by
  unfold lifeB
  rw [h1, h2, if_neg (by decide), if_neg (by decide), if_pos (by decide)]
  exact if_pos (by rfl)
theorem share_one (s : Int) (h0 : 0 ≤ s) (h1 : s ≤ 65535) {x : Nat} (hx : cleanB x = oneB) : shareI s x = s := (share_spec s x h0 (by omega)).2.2.2.2.1 hx
theorem share_nil (s : Int) (h0 : 0 ≤ s) (h1 : s ≤ 65535) {x : Nat} (hx : cleanB x = 0) : shareI s x = 0 := (share_spec s x h0 (by omega)).2.2.2.2.2 hx
theorem first1 (d : Int) (h0 : 0 ≤ d) (h1 : d ≤ 65535) (ca : Int) (x : Nat) : lifeF 200 [f1 (showF 784111777), f2 (showF (784111777 - d))] ca x = shareI d x := by
  obtain ⟨e1, e2, e3, e4⟩ := v1 (showF 784111777) (showF (784111777 - d))
  obtain ⟨c1, c2⟩ := ctl_none e1
  have k1 := dF_one e2 (by decide) (by decide)
  have k2 := dF_one e3 (by omega) (by omega)
  unfold lifeF
  rw [dated_one k1, k2, e4]
  have := lifeB_lm c1 c2 784111777 (784111777 - d) (dF nExp [f1 (showF 784111777), f2 (showF (784111777 - d))]) x (by omega)
  rw [show (784111777 : Int) - (784111777 - d) = d by omega] at this
  exact this
theorem first2 (d c : Int) (h0 : 0 ≤ d) (h1 : d ≤ 65535) (c0 : 0 ≤ c) (cb : c ≤ 65535) (ca : Int) (x : Nat) : lifeF 200 [f1 (showF 784111777), f2 (showF (784111777 - d)), f3 (showF (784111777 + c))] ca x = c := by
  obtain ⟨e1, e2, e3⟩ := v2 (showF 784111777) (showF (784111777 - d)) (showF (784111777 + c))
  obtain ⟨c1, c2⟩ := ctl_none e1
  have k1 := dF_one e2 (by decide) (by decide)
  have k2 := dF_one e3 (by omega) (by omega)
  unfold lifeF
  rw [dated_one k1, k2, e3]
  have := lifeB_ex c1 c2 784111777 (784111777 + c) (dF nLast [f1 (showF 784111777), f2 (showF (784111777 - d)), f3 (showF (784111777 + c))]) (plS19 200) x
  rw [show max ((784111777 : Int) + c - 784111777) 0 = c by omega] at this
  exact this
theorem life_ma {l : List FieldL} {n : Nat} (hn : n ≤ 65535) (h : valsF nCC l = [nMaxAge ++ 61 :: decD n]) (ca : Int) (x : Nat) : lifeF 200 l ca x = (n : Int) := by
  have hc : ctlF l = { ctl0 with ma := (n : Int) } := by
    rw [ctlF_vals (m := [(nCC, nMaxAge ++ 61 :: decD n)]) (by rw [h]; simp [valsF])]
    exact l_age n (by omega)
  unfold lifeF lifeB
  rw [hc]
  rw [if_neg (by show ¬ (0 : Int) ≤ -1; decide), if_pos (by show (0 : Int) ≤ n; omega)]
theorem readable {n v : List UInt8} (h : tokB n = true) (hv : tokB v = true) : splF (Lib.join (valsF nCC [(nCC, n ++ 61 :: v)]) [44, 32]) = some (elemL (n ++ 61 :: v)) := by
  have e : valsF nCC [(nCC, n ++ 61 :: v)] = [n ++ 61 :: v] := by simp [valsF]
  rw [e, Lib.join_one, splF_T]
  have := (okT_tok h hv).fin []
  rw [this, List.nil_append]
theorem life_sh {l : List FieldL} {n m : Nat} (hn : n ≤ 65535) (hm : m ≤ 65535) (h : valsF nCC l = [nMaxAge ++ 61 :: decD m, nShared ++ 61 :: decD n]) (ca : Int) (x : Nat) : lifeF 200 l ca x = (n : Int) := by
  have hc : ctlF l = ctlJoin { ctl0 with ma := (m : Int) } { ctl0 with sh := (n : Int) } := by
    rw [ctlF_vals (m := [(nCC, nMaxAge ++ 61 :: decD m)] ++ [(nCC, nShared ++ 61 :: decD n)]) (by rw [h]; simp [valsF])]
    rw [ctl_app (readable (by decide +kernel) (dig_tok m)) (readable (by decide +kernel) (dig_tok n)), l_age m (by omega), l_shared n (by omega)]
  have hs : (ctlF l).sh = (n : Int) := by
    rw [hc]
    show cmb (-1) (n : Int) = n
    unfold cmb
    rw [if_pos (by decide)]
  unfold lifeF lifeB
  rw [hs, if_pos (by omega)]

theorem show_of (n : Int) (h0 : -9223372036854775808 ≤ n) (h1 : n ≤ 9223372036854775807) (D : ByteArray) (hD : D.data.toList = showF n) (w : World) :
    Calls Try.prog 25 #[.int .i64 n] w fun e w' => e = .returned (.string D) ∧ Aft w w' := by
  have e : D = ⟨(showF n).toArray⟩ := bytes_ext (by rw [hD])
  rw [e]
  exact show_any n h0 h1 w

end Go.Proofs.Ytimpnknmhbpffaa
namespace Go.Proofs.Ytimpnknmhbpffaa
open Go.RowKit
set_option linter.unusedVariables false

theorem digits_of (n : Nat) (hn : n ≤ 65535) (X : ByteArray) (hX : X.data.toList = decD n) (w : World) :
    Calls Try.prog 26 #[.int .i64 (n : Int)] w fun e w' => e = .returned (.string X) ∧ Aft w w' := by
  have e : X = ⟨(decD n).toArray⟩ := bytes_ext (by rw [hX])
  rw [e]
  exact digits_19 n (by omega) w
theorem dec5 {n : Nat} (hn : n ≤ 65535) {X : ByteArray} (hX : X.data.toList = decD n) : X.size ≤ 5 := by
  rw [← size_len, hX]
  exact decD_len 4 n (by omega)
theorem show29 {n : Int} {D : ByteArray} (hD : D.data.toList = showF n) (h0 : 0 ≤ n) (h1 : n ≤ 2145916799) : D.size = 29 := by
  rw [← size_len, hD]
  exact showF_len n h0 h1

theorem str_app19 (a b : ByteArray) : (a ++ b).data.toList = a.data.toList ++ b.data.toList := by rw [ByteArray.data_append, Array.toList_append]
set_option maxHeartbeats 16000000 in
set_option maxRecDepth 100000 in
theorem freshfirst_any (a b c d : Nat) (x : Nat) (a1 : a ≤ 65535) (b1 : b ≤ 65535) (c1 : c ≤ 65535) (d1 : d ≤ 65535) (w : World) :
    Calls Try.prog 8 #[.int .u16 (a : Int), .int .u16 (b : Int), .int .u16 (c : Int), .int .u16 (d : Int), .float .f64 x] w fun e w' => e = .returned (.bool true) ∧ Aft w w' := by
  obtain ⟨D0, hD0⟩ : ∃ D : ByteArray, D.data.toList = showF 784111777 := ⟨⟨(showF 784111777).toArray⟩, rfl⟩
  obtain ⟨D1, hD1⟩ : ∃ D : ByteArray, D.data.toList = showF (784111777 - (d : Int)) := ⟨⟨(showF (784111777 - (d : Int))).toArray⟩, rfl⟩
  obtain ⟨D2, hD2⟩ : ∃ D : ByteArray, D.data.toList = showF (784111777 + (c : Int)) := ⟨⟨(showF (784111777 + (c : Int))).toArray⟩, rfl⟩
  obtain ⟨Xa, hXa⟩ : ∃ D : ByteArray, D.data.toList = decD a := ⟨⟨(decD a).toArray⟩, rfl⟩
  obtain ⟨Xb, hXb⟩ : ∃ D : ByteArray, D.data.toList = decD b := ⟨⟨(decD b).toArray⟩, rfl⟩
  have HS0 := Lib.hid (fun w => show_of 784111777 (by decide) (by decide) D0 hD0 w)
  have HS1 := Lib.hid (fun w => show_of (784111777 - (d : Int)) (by omega) (by omega) D1 hD1 w)
  have HS2 := Lib.hid (fun w => show_of (784111777 + (c : Int)) (by omega) (by omega) D2 hD2 w)
  have HGa := Lib.hid (fun w => digits_of a a1 Xa hXa w)
  have HGb := Lib.hid (fun w => digits_of b b1 Xb hXb w)
  have za := dec5 a1 hXa
  have zb := dec5 b1 hXb
  have zD0 := show29 hD0 (by decide) (by decide)
  have zD1 := show29 hD1 (by omega) (by omega)
  have zD2 := show29 hD2 (by omega) (by omega)
  have H1 := Lib.hid (first1 (d : Int) (by omega) (by omega) 0 4607182418800017408)
  have H2 := Lib.hid (first2 (d : Int) (c : Int) (by omega) (by omega) (by omega) (by omega) 0 x)
  rw [share_one (d : Int) (by omega) (by omega) (by decide +kernel)] at H1
  rw [← hD0, ← hD1] at H1
  rw [← hD0, ← hD1, ← hD2] at H2
  have HX := Lib.hid (And.intro hXa hXb)
  have HZ := Lib.hid (And.intro zD0 (And.intro zD1 zD2))
  have HB := Lib.hid (And.intro a1 b1)
  have hda : 0 ≤ (a : Int) ∧ (a : Int) ≤ 65535 := by omega
  have hdb : 0 ≤ (b : Int) ∧ (b : Int) ≤ 65535 := by omega
  have hdc : 0 ≤ (c : Int) ∧ (c : Int) ≤ 65535 := by omega
  have hdd : 0 ≤ (d : Int) ∧ (d : Int) ≤ 65535 := by omega
  obtain ⟨ia0, ia1⟩ := hda
  obtain ⟨ib0, ib1⟩ := hdb
  obtain ⟨ic0, ic1⟩ := hdc
  obtain ⟨id0, id1⟩ := hdd
  clear hD0 hD1 hD2 hXa hXb zD0 zD1 zD2 a1 b1 c1 d1
  go_enter Try.func8, Try.ntmps8
  go_wp2_with fail
  refine (HS0.out _).mono ?_
  rintro e w1 ⟨rfl, r1⟩
  go_wp2_with fail
  refine (of19_any _ _ _).mono ?_
  rintro e w2 ⟨rfl, r2⟩
  go_wp2_with fail
  refine (HS1.out _).mono ?_
  rintro e w3 ⟨rfl, r3⟩
  go_wp2_with fail
  refine (of19_any _ _ _).mono ?_
  rintro e w4 ⟨rfl, r4⟩
  have A4 := Lib.hid (((r1.trans r2).trans r3).trans r4)
  clear r1 r2 r3 r4
  go_upto_region 3 with fail
  obtain ⟨B, hB⟩ : ∃ B, w.heap.size = B := ⟨_, rfl⟩
  have hA5 : Aft w (w4.alloc (.cells #[.string ⟨#[100, 97, 116, 101]⟩, .string D0, .string ⟨#[108, 97, 115, 116, 45, 109, 111, 100, 105, 102, 105, 101, 100]⟩, .string D1] 32)) := A4.out.alloc _
  have hO5 : OwnF (w4.alloc (.cells #[.string ⟨#[100, 97, 116, 101]⟩, .string D0, .string ⟨#[108, 97, 115, 116, 45, 109, 111, 100, 105, 102, 105, 101, 100]⟩, .string D1] 32)) B (.slice (some ⟨w4.heap.size, 0, none⟩) 2 2) [f1 D0.data.toList, f2 D1.data.toList] := OwnF.base (OwnF.new2 w4 ⟨#[100, 97, 116, 101]⟩ D0 ⟨#[108, 97, 115, 116, 45, 109, 111, 100, 105, 102, 105, 101, 100]⟩ D1) (by rw [← hB]; exact A4.out.to.size)
  have HA5 := Lib.hid hA5
  have HO5 := Lib.hid hO5
  have HBB := Lib.hid hB
  clear hA5 hO5 hB A4
  have HF1 : Hid (FOk [f1 D0.data.toList, f2 D1.data.toList]) := Lib.hid (by
    have hz := HZ.out
    exact fok_small (by simp) (by intro f hf; simp [f1, f2] at hf; rcases hf with rfl | rfl <;> simp [hz.1, hz.2.1]))
  have HF2 : Hid (FOk [f1 D0.data.toList, f2 D1.data.toList, f3 D2.data.toList]) := Lib.hid (by
    have hz := HZ.out
    exact fok_small (by simp) (by intro f hf; simp [f1, f2, f3] at hf; rcases hf with rfl | rfl | rfl <;> simp [hz.1, hz.2.1, hz.2.2]))
  generalize w4.alloc (.cells #[.string ⟨#[100, 97, 116, 101]⟩, .string D0, .string ⟨#[108, 97, 115, 116, 45, 109, 111, 100, 105, 102, 105, 101, 100]⟩, .string D1] 32) = W5 at HA5 HO5 ⊢
  obtain ⟨g5, hg5⟩ : ∃ g, w4.heap.size = g := ⟨_, rfl⟩
  rw [hg5] at HO5 ⊢
  clear hg5
  go_wp2_with fail
  refine (entry19_any _ _ _ _).mono ?_
  rintro e w6 ⟨rfl, r6⟩
  have HA6 := Lib.hid (HA5.out.trans r6)
  have HO6 := Lib.hid (HO5.out.aft r6)
  clear r6 HA5 HO5
  go_wp2_with fail
  refine (life_of _ 0 0 _ 4607182418800017408 _ (d : Int) HO6.out.rb HF1.out H1.out).mono ?_
  rintro e w7 ⟨rfl, r7⟩
  have HA7 := Lib.hid (HA6.out.trans r7)
  have HO7 := Lib.hid (HO6.out.aft r7)
  clear r7 HA6 HO6
  go_wp2_with fail
  refine (HS2.out _).mono ?_
  rintro e w8 ⟨rfl, r8⟩
  go_wp2_with fail
  refine (of19_any _ _ _).mono ?_
  rintro e w9 ⟨rfl, r9⟩
  have HA9 := Lib.hid ((HA7.out.trans r8).trans r9)
  have HO9 := Lib.hid ((HO7.out.aft r8).aft r9)
  clear r8 r9 HA7 HO7
  go_wp2_with (refine wpList_pushesF rfl (.tmp 30) (.tmp 37) rfl B _ _ [f1 D0.data.toList, f2 D1.data.toList] [f3 D2.data.toList] rfl (HO9.out.aft ((Aft.refl w9).alloc _)) rfl (rbF_one19 ⟨#[101, 120, 112, 105, 114, 101, 115]⟩ D2 w9) (by simp) (by rw [← HBB.out]; exact le_alloc HA9.out.to.size _) ?_; intro v10 w10 o10 g10)
  have HA10 := Lib.hid (push_aft (HA9.out.alloc (.cells #[.string ⟨#[101, 120, 112, 105, 114, 101, 115]⟩, .string D2] 32)) (by rw [HBB.out]; exact HO9.out.aft ((Aft.refl w9).alloc (.cells #[.string ⟨#[101, 120, 112, 105, 114, 101, 115]⟩, .string D2] 32))) g10)
  have HO10 : Hid (OwnF w10 B v10 [f1 D0.data.toList, f2 D1.data.toList, f3 D2.data.toList]) := Lib.hid o10
  obtain ⟨a10, k10, hv10, -⟩ := o10.slice
  have hv10' : v10 = .slice a10 3 k10 := hv10
  clear hv10
  subst hv10'
  clear o10 g10 HA9 HO9
  refine (entry19_any _ _ _ _).mono ?_
  rintro e w11 ⟨rfl, r11⟩
  have HA11 := Lib.hid (HA10.out.trans r11)
  have HO11 := Lib.hid (HO10.out.aft r11)
  clear r11 HA10 HO10
  go_wp2_with fail
  refine (life_of _ 0 0 _ x _ (c : Int) HO11.out.rb HF2.out H2.out).mono ?_
  rintro e w12 ⟨rfl, r12⟩
  have HA12 := Lib.hid (HA11.out.trans r12)
  have HO12 := Lib.hid (HO11.out.aft r12)
  clear r12 HA11 HO11
  go_wp2_with fail
  refine (HGb.out _).mono ?_
  rintro e w13 ⟨rfl, r13⟩
  go_wp2_with fail
  obtain ⟨V1, hV1⟩ : ∃ V : ByteArray, ⟨#[109, 97, 120, 45, 97, 103, 101, 61]⟩ ++ Xb = V := ⟨_, rfl⟩
  have HV1 : Hid (V1.data.toList = nMaxAge ++ 61 :: decD b) := Lib.hid (by rw [← hV1, str_app19, HX.out.2]; rfl)
  rw [hV1]
  clear hV1
  refine (of19_any _ _ _).mono ?_
  rintro e w14 ⟨rfl, r14⟩
  have HA14 := Lib.hid ((HA12.out.trans r13).trans r14)
  have HO14 := Lib.hid ((HO12.out.aft r13).aft r14)
  clear r13 r14 HA12 HO12
  go_wp2_with (refine wpList_pushesF rfl (.tmp 43) (.tmp 49) rfl B _ _ [f1 D0.data.toList, f2 D1.data.toList, f3 D2.data.toList] [f4 V1.data.toList] rfl (HO14.out.aft ((Aft.refl w14).alloc _)) rfl (rbF_one19 ⟨#[99, 97, 99, 104, 101, 45, 99, 111, 110, 116, 114, 111, 108]⟩ V1 w14) (by simp) (by rw [← HBB.out]; exact le_alloc HA14.out.to.size _) ?_; intro v15 w15 o15 g15)
  have HA15 := Lib.hid (push_aft (HA14.out.alloc (.cells #[.string ⟨#[99, 97, 99, 104, 101, 45, 99, 111, 110, 116, 114, 111, 108]⟩, .string V1] 32)) (by rw [HBB.out]; exact HO14.out.aft ((Aft.refl w14).alloc (.cells #[.string ⟨#[99, 97, 99, 104, 101, 45, 99, 111, 110, 116, 114, 111, 108]⟩, .string V1] 32))) g15)
  have HO15 : Hid (OwnF w15 B v15 [f1 D0.data.toList, f2 D1.data.toList, f3 D2.data.toList, f4 V1.data.toList]) := Lib.hid o15
  obtain ⟨a15, k15, hv15, -⟩ := o15.slice
  have hv15' : v15 = .slice a15 4 k15 := hv15
  clear hv15
  subst hv15'
  clear o15 g15 HA14 HO14
  have hzV1 : V1.size ≤ 13 := by
    rw [← size_len, HV1.out, List.length_append, List.length_cons]
    have := decD_len 4 b (by have := HB.out; omega)
    have e7 : nMaxAge.length = 7 := rfl
    omega
  have HF3 : Hid (FOk [f1 D0.data.toList, f2 D1.data.toList, f3 D2.data.toList, f4 V1.data.toList]) := Lib.hid (by
    have hz := HZ.out
    exact fok_small (by simp) (by intro f hf; simp [f1, f2, f3, f4] at hf; rcases hf with rfl | rfl | rfl | rfl <;> simp [hz.1, hz.2.1, hz.2.2]; omega))
  have H3 := Lib.hid (life_ma HB.out.2 (show valsF nCC [f1 D0.data.toList, f2 D1.data.toList, f3 D2.data.toList, f4 V1.data.toList] = _ by rw [v3, HV1.out]) 0 x)
  refine (entry19_any _ _ _ _).mono ?_
  rintro e w16 ⟨rfl, r16⟩
  have HA16 := Lib.hid (HA15.out.trans r16)
  have HO16 := Lib.hid (HO15.out.aft r16)
  clear r16 HA15 HO15
  go_wp2_with fail
  refine (life_of _ 0 0 _ x _ (b : Int) HO16.out.rb HF3.out H3.out).mono ?_
  rintro e w17 ⟨rfl, r17⟩
  have HA17 := Lib.hid (HA16.out.trans r17)
  have HO17 := Lib.hid (HO16.out.aft r17)
  clear r17 HA16 HO16
  go_wp2_with fail
  refine (HGa.out _).mono ?_
  rintro e w18 ⟨rfl, r18⟩
  go_wp2_with fail
  obtain ⟨V2, hV2⟩ : ∃ V : ByteArray, ⟨#[115, 45, 109, 97, 120, 97, 103, 101, 61]⟩ ++ Xa = V := ⟨_, rfl⟩
  have HV2 : Hid (V2.data.toList = nShared ++ 61 :: decD a) := Lib.hid (by rw [← hV2, str_app19, HX.out.1]; rfl)
  rw [hV2]
  clear hV2
  refine (of19_any _ _ _).mono ?_
  rintro e w19 ⟨rfl, r19⟩
  have HA19 := Lib.hid ((HA17.out.trans r18).trans r19)
  have HO19 := Lib.hid ((HO17.out.aft r18).aft r19)
  clear r18 r19 HA17 HO17
  go_wp2_with (refine wpList_pushesF rfl (.tmp 55) (.tmp 61) rfl B _ _ [f1 D0.data.toList, f2 D1.data.toList, f3 D2.data.toList, f4 V1.data.toList] [f4 V2.data.toList] rfl (HO19.out.aft ((Aft.refl w19).alloc _)) rfl (rbF_one19 ⟨#[99, 97, 99, 104, 101, 45, 99, 111, 110, 116, 114, 111, 108]⟩ V2 w19) (by simp) (by rw [← HBB.out]; exact le_alloc HA19.out.to.size _) ?_; intro v20 w20 o20 g20)
  have HA20 := Lib.hid (push_aft (HA19.out.alloc (.cells #[.string ⟨#[99, 97, 99, 104, 101, 45, 99, 111, 110, 116, 114, 111, 108]⟩, .string V2] 32)) (by rw [HBB.out]; exact HO19.out.aft ((Aft.refl w19).alloc (.cells #[.string ⟨#[99, 97, 99, 104, 101, 45, 99, 111, 110, 116, 114, 111, 108]⟩, .string V2] 32))) g20)
  have HO20 : Hid (OwnF w20 B v20 [f1 D0.data.toList, f2 D1.data.toList, f3 D2.data.toList, f4 V1.data.toList, f4 V2.data.toList]) := Lib.hid o20
  obtain ⟨a20, k20, hv20, -⟩ := o20.slice
  have hv20' : v20 = .slice a20 5 k20 := hv20
  clear hv20
  subst hv20'
  clear o20 g20 HA19 HO19
  have hzV2 : V2.size ≤ 14 := by
    rw [← size_len, HV2.out, List.length_append, List.length_cons]
    have := decD_len 4 a (by have := HB.out; omega)
    have e8 : nShared.length = 8 := rfl
    omega
  have HF4 : Hid (FOk [f1 D0.data.toList, f2 D1.data.toList, f3 D2.data.toList, f4 V1.data.toList, f4 V2.data.toList]) := Lib.hid (by
    have hz := HZ.out
    exact fok_small (by simp) (by intro f hf; simp [f1, f2, f3, f4] at hf; rcases hf with rfl | rfl | rfl | rfl | rfl <;> simp [hz.1, hz.2.1, hz.2.2] <;> omega))
  have H4 := Lib.hid (life_sh HB.out.1 HB.out.2 (show valsF nCC [f1 D0.data.toList, f2 D1.data.toList, f3 D2.data.toList, f4 V1.data.toList, f4 V2.data.toList] = _ by rw [v4, HV1.out, HV2.out]) 0 x)
  refine (entry19_any _ _ _ _).mono ?_
  rintro e w21 ⟨rfl, r21⟩
  have HA21 := Lib.hid (HA20.out.trans r21)
  have HO21 := Lib.hid (HO20.out.aft r21)
  clear r21 HA20 HO20
  go_wp2_with fail
  refine (life_of _ 0 0 _ x _ (a : Int) HO21.out.rb HF4.out H4.out).mono ?_
  rintro e w22 ⟨rfl, r22⟩
  have HA22 := Lib.hid (HA21.out.trans r22)
  clear r22 HA21 HO21
  go_wp2_with fail
  refine (freshruns_any _).mono ?_
  rintro e w23 ⟨rfl, r23⟩
  have HA23 := Lib.hid (HA22.out.trans r23)
  clear r23
  go_wp2_with fail
  go_ret
  exact ⟨rfl, HA23.out⟩

theorem wf_u16 {a : Int} (h : (Lit.int .u16 a).wf = true) : ∃ n : Nat, a = (n : Int) ∧ n ≤ 65535 := by
  simp only [Lit.wf, Bool.and_eq_true, decide_eq_true_eq] at h
  have h0 : 0 ≤ a := h.1
  have h1 : a ≤ 65535 := h.2
  exact ⟨a.toNat, by omega, by omega⟩
theorem walkFreshFirst (w : World) (hsh : w.ShapedOpen Try.prog) (a0 : Int) (w0 : (Lit.int .u16 a0).wf = true) (a1 : Int) (w1 : (Lit.int .u16 a1).wf = true) (a2 : Int) (w2 : (Lit.int .u16 a2).wf = true) (a3 : Int) (w3 : (Lit.int .u16 a3).wf = true) (a4 : Nat) (w4 : (Lit.float .f64 a4).wf = true) :
    Calls Try.prog 8 #[.int .u16 a0, .int .u16 a1, .int .u16 a2, .int .u16 a3, .float .f64 a4] w fun e w' => e = .returned (.bool true) ∧ Aft w w' := by
  obtain ⟨n0, rfl, h0⟩ := wf_u16 w0
  obtain ⟨n1, rfl, h1⟩ := wf_u16 w1
  obtain ⟨n2, rfl, h2⟩ := wf_u16 w2
  obtain ⟨n3, rfl, h3⟩ := wf_u16 w3
  exact freshfirst_any n0 n1 n2 n3 a4 h0 h1 h2 h3 w

end Go.Proofs.Ytimpnknmhbpffaa
