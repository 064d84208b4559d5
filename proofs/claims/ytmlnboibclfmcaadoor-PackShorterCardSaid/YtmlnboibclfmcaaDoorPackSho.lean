/-
  PackShorter.
-/
import Derived.Test.YtmlnboibclfmcaaDoorOwnW
import Derived.Test.YtmlnboibclfmcaaDoorPackQ
import Derived.Test.YtmlnboibclfmcaaDoorArgNR
namespace Go.Proofs.YtmlnboibclfmcaaDoor
open Go.ChangeShapes Go.WideShapes Go.ChangeAt Go.RowKit
set_option linter.unusedVariables false

theorem rowsB_tab {most : Int} (hm : 0 ≤ most) : ∀ (rows : List RowL) (s : List UInt8 × List FieldL), (sumF s.2 : Int) ≤ most → (sumF (rowsB most s rows).2 : Int) ≤ most
  | [], s, h => h
  | r :: rs, s, h => by
    rw [rowsB]
    exact rowsB_tab hm rs _ (rowB_tab most hm s.2 r h)
def howO (i : Nat) : Int := 1
theorem shorter_plain {L : List RowL} (h1 : ∀ r ∈ L, r.how = 1) (h2 : sumR L ≤ 3000) (h3 : L.length ≤ 20) : (rowsB 65536 ([], (rowsB 65536 ([], []) L).2) L).1.length = L.length ∧ (sumF (rowsB 65536 ([], []) L).2 : Int) ≤ 65536 := by
  obtain ⟨-, a2, a3⟩ := rowsB_in (most := 65536) L ([], []) h1 (by show ((sumF ([] : List FieldL) : Nat) : Int) + _ ≤ _; rw [show sumF ([] : List FieldL) = 0 from rfl]; omega)
  have hl := sumR_len L
  refine ⟨?_, rowsB_tab (by decide) L _ (by decide)⟩
  have := rowsB_known (most := 65536) L ([], (rowsB 65536 ([], []) L).2) h1 a2 (by simp only [List.length_nil] at a3 ⊢; omega)
  rw [this]
  simp

set_option maxHeartbeats 8000000 in
set_option maxRecDepth 100000 in
theorem packshorter_any (v : Value) (l : List RowL) (w : World) (hm : MaxOk w) (hr : RbW w v l) (hs : RowsLim l) :
    Calls Tryd.prog 10 #[v] w fun e w' => e = .returned (.bool true) ∧ Aft w w' := by
  have HL := Lib.hid (light8_any v l w hr hs)
  have HR := Lib.hid hr
  have HMA := Lib.hid (fun w' (a : Aft w w') => hm.aft a)
  have hlen := sumR_len l
  obtain ⟨va, vc, vb, voff, rfl, hvc, hvm, hcell⟩ := hr.open
  unfold maxLen at hvm
  by_cases h20 : (l.length : Int) > 20
  · clear hr hs hm hcell hlen
    go_enter Tryd.func10, Tryd.ntmps10
    go_wp2_with fail
    refine (packruns_any w (HMA.out w (Aft.refl w))).mono ?_
    rintro e w5 ⟨rfl, a5⟩
    have HA5 := Lib.hid a5
    clear a5
    go_wp2_with fail
    go_ret
    exact ⟨rfl, HA5.out⟩
  by_cases hsm : ¬ sumR l ≤ 3000
  · rw [decide_eq_false hsm] at HL
    clear hr hs hm hcell hsm hlen
    go_enter Tryd.func10, Tryd.ntmps10
    go_wp2_with fail
    refine HL.out.mono ?_
    rintro e w1 ⟨rfl, a1⟩
    have HA1 := Lib.hid a1
    clear a1
    go_wp2_with fail
    refine (packruns_any w1 (HMA.out w1 HA1.out)).mono ?_
    rintro e w5 ⟨rfl, a5⟩
    have HA5 := Lib.hid (HA1.out.trans a5)
    clear a5
    go_wp2_with fail
    go_ret
    exact ⟨rfl, HA5.out⟩
  have hsm := Decidable.not_not.1 hsm
  rw [decide_eq_true hsm] at HL
  have HSM := Lib.hid hsm
  have hl20 : l.length ≤ 20 := by omega
  have HL20 := Lib.hid hl20
  clear hr hs hm hcell hsm hlen
  go_enter Tryd.func10, Tryd.ntmps10
  go_wp2_with fail
  refine HL.out.mono ?_
  rintro e w1 ⟨rfl, a1⟩
  have HA1 := Lib.hid a1
  have HN := Lib.hid (pnew_yes 65536 (by decide) (by decide) w1 (HMA.out w1 a1))
  clear a1 HL
  go_wp2_with fail
  refine HN.out.mono ?_
  rintro e w2 ⟨gp, g, vk, rfl, hp2, a2⟩
  have HE := Lib.hid (OwnW.empty w2 w2.heap.size (Nat.le_refl _))
  have a3 := (Aft.refl w2).alloc (.cells #[] 57)
  have HP2 := Lib.hid hp2
  have HA2 := Lib.hid (HA1.out.trans a2)
  have HB2 := Lib.hid (And.intro HA1.out.to.size a2.to.size)
  have HR3 := Lib.hid (HR.out.aft (HA2.out.trans a3))
  clear hp2 a2 a3 HN HR HA1
  go_wp2_with (at_builtin; refine wpList_pushesW rfl (.tmp 27) (.tmp 28) rfl w2.heap.size _ _ [] l rfl HE.out rfl HR3.out (by simp; omega) (le_alloc (Nat.le_refl _) _) ?_; intro v5 w5 o5 g5)
  have hA5 := OwnW.push_aft ((Aft.refl w2).alloc _) HE.out g5 (Nat.le_refl _) (le_alloc (Nat.le_refl _) _)
  rw [List.nil_append] at o5
  have HP5 := Lib.hid (HP2.out.aft hA5)
  have HA5 := Lib.hid (HA2.out.trans hA5)
  have hrw5 : RW w5 w2.heap.size v5 l := o5.cw
  obtain ⟨a5, k5, rfl, hk5, hk6⟩ : ∃ a k, v5 = .slice a l.length k ∧ l.length ≤ k ∧ k ≤ maxLen := by
    rcases hrw5 with ⟨rfl, rfl⟩ | ⟨g', cap, rfl, h1, h2, -⟩
    · exact ⟨none, 0, rfl, Nat.le_refl _, Nat.zero_le _⟩
    · exact ⟨_, _, rfl, h1, h2⟩
  have HRW5 := Lib.hid hrw5
  have HB5 := Lib.hid hA5.to.size
  unfold maxLen at hk6
  clear hA5 o5 g5 hrw5 HP2 HA2 HR3 HE
  generalize hBB : w2.heap.size = B2 at HRW5 HB2 HB5
  clear hBB
  go_wp2_with fail
  go_loopw [6] (fun vi wr => ∃ k : Nat, k ≤ l.length ∧ vi = .int .i64 (k : Int) ∧ Hid (RW wr B2 (.slice a5 l.length k5) (stepW howO l k)) ∧ Hid (Pk wr w1.heap.size gp g (.slice none 0 0) vk [] 65536 true 0) ∧ Hid (Aft w wr) ∧ Hid (B2 ≤ wr.heap.size)) (fun vi _ => l.length - (intOf vi).toNat)
  case atStart => exact ⟨0, by omega, by go_num, Lib.hid (by rw [stepW_zero]; exact HRW5.out), HP5, HA5, HB5⟩
  case round =>
    obtain ⟨k, hk, rfl, HRW, HP, HA, HBB⟩ := hrel
    by_cases hlt : k < l.length
    · have hrw := HRW.out
      rcases hrw with ⟨h1, h2⟩ | ⟨g5, cap, e5, c1, c2, cw⟩
      · have := congrArg List.length h2
        rw [stepW_len, List.length_nil] at this
        omega
      injection e5 with e1 e2 e3
      subst e1
      have hkw : k < (stepW howO l k).length := by rw [stepW_len]; exact hlt
      have cw2 := cw.put k hkw (howO k)
      rw [stepW_next howO l k hlt] at cw2
      have HCW2 := Lib.hid cw2
      have HPX := Lib.hid (HP.out.putW cw (k * 3 + 2) (.int .i64 (howO k)))
      have hfz := cw.free (k * 3 + 2)
      obtain ⟨n0, hcc⟩ : ∃ n, wr.cell? ⟨g5, k * 3 + 2, none⟩ = some (.int .i64 n) := ⟨_, (cw.cell k hkw).2.2⟩
      have HG := Lib.hid (Nat.le_trans HB2.out.1 (Nat.le_trans HB2.out.2 cw.base))
      have HKS : Hid (l.length = (stepW howO l (k + 1)).length) := Lib.hid (by rw [stepW_len])
      have i1 : (k : Int) < (l.length : Int) := by omega
      clear cw cw2 c1 c2 e2 e3 hkw HRW HP
      unfold howO at HCW2 HPX
      go_wp2_with fail
      go_roundw
      case rel => exact ⟨k + 1, by omega, by go_num, Lib.hid (Or.inr ⟨g5, k5, by rw [← HKS.out], by rw [← HKS.out]; exact hk5, hk6, HCW2.out⟩), HPX, Lib.hid (bset HA.out _ _ _ HG.out), Lib.hid (by simp only [World.size_setCell]; exact HBB.out)⟩
      case measure => simp [intOf]; omega
    · have hk2 : k = l.length := by omega
      subst hk2
      have i1 : ¬ (l.length : Int) < (l.length : Int) := by omega
      have hsum := stepW_sum howO l l.length
      have hll := stepW_len howO l l.length
      have HLL := Lib.hid hll
      have HS3 : Hid (sumR (stepW howO l l.length) ≤ 1000000) := Lib.hid (by rw [hsum]; have := HSM.out; omega)
      have HHOW := Lib.hid (stepW_how howO l (P := (fun h => h = 1)) (fun _ => rfl))
      have HPL := Lib.hid (shorter_plain HHOW.out (by rw [hsum]; exact HSM.out) (by rw [stepW_len]; exact HL20.out))
      clear hsum hll
      generalize stepW howO l l.length = L2 at *
      have HBK := Lib.hid (pblock_any (.slice a5 l.length k5) L2 HP.out (by decide) (by decide) (by decide) (by decide) (by decide) (Nat.le_trans (Nat.le_trans HB2.out.2 HBB.out) (Nat.le_refl _)) (fun wx hc => (HRW.out.chg HP.out wx hc).rb) HS3.out)
      rw [show sizesL true 0 65536 = [] from rfl] at HBK

      go_wp2_with fail
      refine HBK.out.mono ?_
      rintro e w6 ⟨v6, vo6, rfl, hi6⟩
      have HA6 := Lib.hid (Pk.below HA.out HP.out HB2.out.1 hi6.chg)
      have HP6 := Lib.hid hi6.pk
      have HO6 := Lib.hid hi6.own
      have HRW6 := Lib.hid (HRW.out.chg HP.out w6 hi6.chg)
      have HB6 := Lib.hid (Nat.le_trans (Nat.le_trans HB2.out.2 HBB.out) hi6.chg.size)
      clear hi6 HBK HP HRW HA
      have HBK := Lib.hid (pblock_any (.slice a5 l.length k5) L2 HP6.out HPL.out.2 (by decide) (by decide) (by decide) (by decide) HB6.out (fun wx hc => (HRW6.out.chg HP6.out wx hc).rb) HS3.out)
      rw [show sizesL true 0 65536 = [] from rfl] at HBK
      have hpl := HPL.out.1
      rw [HLL.out] at hpl
      generalize (rowsB 65536 ([], (rowsB 65536 ([], []) L2).2) L2).1 = X at HBK hpl
      have HX := Lib.hid hpl
      clear hpl
      go_wp2_with fail
      refine HBK.out.mono ?_
      rintro e w8 ⟨v8, vo8, rfl, hi8⟩
      have HA8 := Lib.hid (Pk.below HA6.out HP6.out HB2.out.1 hi8.chg)
      obtain ⟨a8, c8, rfl⟩ : ∃ a c, v8 = .slice a l.length c := by
        rcases hi8.own.shape with ⟨rfl, h0⟩ | ⟨g4, c4, rfl, -⟩
        · exact ⟨none, 0, by rw [← HX.out, h0]; rfl⟩
        · exact ⟨_, _, by rw [HX.out]⟩
      clear hi8 HBK HP6 HO6 HRW6 HA6 HB6
      have j1 : (l.length : Int) ≤ 2 * (l.length : Int) := by omega
      have j2 : (l.length : Int) ≥ (l.length : Int) := by omega
      have j3 : IntKind.i64.wrap (2 * (l.length : Int)) = 2 * (l.length : Int) := IntWalk.i64_in _ (by omega)
      by_cases hz : ((l.length : Int) == 0) = true
      · go_wp2_with fail
        refine (packruns_any w8 (HMA.out w8 HA8.out)).mono ?_
        rintro e w10 ⟨rfl, a10⟩
        have HA10 := Lib.hid (HA8.out.trans a10)
        clear a10
        go_wp2_with fail
        go_ret
        exact ⟨rfl, HA10.out⟩
      · have hz2 : ((l.length : Int) == 0) = false := by simpa using hz
        clear hz
        go_wp2_with fail
        refine (packruns_any w8 (HMA.out w8 HA8.out)).mono ?_
        rintro e w10 ⟨rfl, a10⟩
        have HA10 := Lib.hid (HA8.out.trans a10)
        clear a10
        go_wp2_with fail
        go_ret
        exact ⟨rfl, HA10.out⟩

set_option maxRecDepth 100000 in
theorem walkPackShorter (w : World) (hsh : w.ShapedOpen Tryd.prog) {H : Type} {enc : TypeId × Value → H} {base : Nat} {v0 : Value} {d0 : DataW H} {p0 : List MemPlace}
    (hval0 : Value.okWide Tryd.prog w .any base 59 v0) (k0 : DataW.Trod enc Tryd.prog w 0 (fun _ => true) true 59 v0 d0 p0) (hk : (DataW.weightsEach Tryd.prog [59] [d0]).all (· ≤ reachBytes) = true) :
    Calls Tryd.prog 10 #[v0] w fun e w' => e = .returned (.bool true) ∧ Aft w w' := by
  obtain ⟨l, hr, hb, -⟩ := open_rowsR hval0 k0 (wt_at hk (j := 0) rfl rfl)
  exact packshorter_any v0 l w (maxOk_of w hsh) hr hb

end Go.Proofs.YtmlnboibclfmcaaDoor
