/-
  PackSecret.
-/
import Derived.Test.YtmlnboibclfmcaaDoorOwnW
import Derived.Test.YtmlnboibclfmcaaDoorPackQ
import Derived.Test.YtmlnboibclfmcaaDoorArgNR
namespace Go.Proofs.YtmlnboibclfmcaaDoor
open Go.ChangeShapes Go.WideShapes Go.ChangeAt Go.RowKit
set_option linter.unusedVariables false

def howS (i : Nat) : Int := 2 + (i : Int) % 2
theorem howS_no (i : Nat) : howS i ≠ 1 := by unfold howS; omega

set_option maxHeartbeats 8000000 in
set_option maxRecDepth 100000 in
theorem packsecret_any (v : Value) (l : List RowL) (w : World) (hm : MaxOk w) (hr : RbW w v l) (hs : RowsLim l) :
    Calls Tryd.prog 11 #[v] w fun e w' => e = .returned (.bool true) ∧ Aft w w' := by
  have HL := Lib.hid (light8_any v l w hr hs)
  have HR := Lib.hid hr
  have HMA := Lib.hid (fun w' (a : Aft w w') => hm.aft a)
  have hlen := sumR_len l
  obtain ⟨va, vc, vb, voff, rfl, hvc, hvm, hcell⟩ := hr.open
  unfold maxLen at hvm
  by_cases h20 : (l.length : Int) > 20
  · clear hr hs hm hcell hlen
    go_enter Tryd.func11, Tryd.ntmps11
    go_wp2_with fail
    refine (packruns_any w (HMA.out w (Aft.refl w))).mono ?_
    rintro e w5 ⟨rfl, a5⟩
    have HA5 := Lib.hid a5
    clear a5
    go_wp2_with fail
    go_ret
    exact ⟨rfl, HA5.out⟩
  by_cases hsm : ¬ sumR l ≤ 3000
  · rw [decide_eq_false hsm] at HL
    clear hr hs hm hcell hsm hlen
    go_enter Tryd.func11, Tryd.ntmps11
    go_wp2_with fail
    refine HL.out.mono ?_
    rintro e w1 ⟨rfl, a1⟩
    have HA1 := Lib.hid a1
    clear a1
    go_wp2_with fail
    refine (packruns_any w1 (HMA.out w1 HA1.out)).mono ?_
    rintro e w5 ⟨rfl, a5⟩
    have HA5 := Lib.hid (HA1.out.trans a5)
    clear a5
    go_wp2_with fail
    go_ret
    exact ⟨rfl, HA5.out⟩
  have hsm := Decidable.not_not.1 hsm
  rw [decide_eq_true hsm] at HL
  have HSM := Lib.hid hsm
  have hl20 : l.length ≤ 20 := by omega
  have HL20 := Lib.hid hl20
  clear hr hs hm hcell hsm hlen
  go_enter Tryd.func11, Tryd.ntmps11
  go_wp2_with fail
  refine HL.out.mono ?_
  rintro e w1 ⟨rfl, a1⟩
  have HA1 := Lib.hid a1
  have HN := Lib.hid (pnew_yes 4096 (by decide) (by decide) w1 (HMA.out w1 a1))
  clear a1 HL
  go_wp2_with fail
  refine HN.out.mono ?_
  rintro e w2 ⟨gp, g, vk, rfl, hp2, a2⟩
  have HE := Lib.hid (OwnW.empty w2 w2.heap.size (Nat.le_refl _))
  have a3 := (Aft.refl w2).alloc (.cells #[] 57)
  have HP2 := Lib.hid hp2
  have HA2 := Lib.hid (HA1.out.trans a2)
  have HB2 := Lib.hid (And.intro HA1.out.to.size a2.to.size)
  have HR3 := Lib.hid (HR.out.aft (HA2.out.trans a3))
  clear hp2 a2 a3 HN HR HA1
  go_wp2_with (at_builtin; refine wpList_pushesW rfl (.tmp 31) (.tmp 32) rfl w2.heap.size _ _ [] l rfl HE.out rfl HR3.out (by simp; omega) (le_alloc (Nat.le_refl _) _) ?_; intro v5 w5 o5 g5)
  have hA5 := OwnW.push_aft ((Aft.refl w2).alloc _) HE.out g5 (Nat.le_refl _) (le_alloc (Nat.le_refl _) _)
  rw [List.nil_append] at o5
  have HP5 := Lib.hid (HP2.out.aft hA5)
  have HA5 := Lib.hid (HA2.out.trans hA5)
  have hrw5 : RW w5 w2.heap.size v5 l := o5.cw
  obtain ⟨a5, k5, rfl, hk5, hk6⟩ : ∃ a k, v5 = .slice a l.length k ∧ l.length ≤ k ∧ k ≤ maxLen := by
    rcases hrw5 with ⟨rfl, rfl⟩ | ⟨g', cap, rfl, h1, h2, -⟩
    · exact ⟨none, 0, rfl, Nat.le_refl _, Nat.zero_le _⟩
    · exact ⟨_, _, rfl, h1, h2⟩
  have HRW5 := Lib.hid hrw5
  have HB5 := Lib.hid hA5.to.size
  unfold maxLen at hk6
  clear hA5 o5 g5 hrw5 HP2 HA2 HR3 HE
  generalize hBB : w2.heap.size = B2 at HRW5 HB2 HB5
  clear hBB
  go_wp2_with fail
  go_loopw [6] (fun vi wr => ∃ k : Nat, k ≤ l.length ∧ vi = .int .i64 (k : Int) ∧ Hid (RW wr B2 (.slice a5 l.length k5) (stepW howS l k)) ∧ Hid (Pk wr w1.heap.size gp g (.slice none 0 0) vk [] 4096 true 0) ∧ Hid (Aft w wr) ∧ Hid (B2 ≤ wr.heap.size)) (fun vi _ => l.length - (intOf vi).toNat)
  case atStart => exact ⟨0, by omega, by go_num, Lib.hid (by rw [stepW_zero]; exact HRW5.out), HP5, HA5, HB5⟩
  case round =>
    obtain ⟨k, hk, rfl, HRW, HP, HA, HBB⟩ := hrel
    by_cases hlt : k < l.length
    · have hrw := HRW.out
      rcases hrw with ⟨h1, h2⟩ | ⟨g5, cap, e5, c1, c2, cw⟩
      · have := congrArg List.length h2
        rw [stepW_len, List.length_nil] at this
        omega
      injection e5 with e1 e2 e3
      subst e1
      have hkw : k < (stepW howS l k).length := by rw [stepW_len]; exact hlt
      have cw2 := cw.put k hkw (howS k)
      rw [stepW_next howS l k hlt] at cw2
      have HCW2 := Lib.hid cw2
      have HPX := Lib.hid (HP.out.putW cw (k * 3 + 2) (.int .i64 (howS k)))
      have hfz := cw.free (k * 3 + 2)
      obtain ⟨n0, hcc⟩ : ∃ n, wr.cell? ⟨g5, k * 3 + 2, none⟩ = some (.int .i64 n) := ⟨_, (cw.cell k hkw).2.2⟩
      have HG := Lib.hid (Nat.le_trans HB2.out.1 (Nat.le_trans HB2.out.2 cw.base))
      have HKS : Hid (l.length = (stepW howS l (k + 1)).length) := Lib.hid (by rw [stepW_len])
      have i1 : (k : Int) < (l.length : Int) := by omega
      clear cw cw2 c1 c2 e2 e3 hkw HRW HP
      have gw : IntKind.i64.wrap (2 + (k : Int) % 2) = 2 + (k : Int) % 2 := IntWalk.i64_in _ (by omega)
      have gt : (k : Int).tmod 2 = (k : Int) % 2 := Int.tmod_eq_emod_of_nonneg (by omega)
      unfold howS at HCW2 HPX
      go_wp2_with fail
      go_roundw
      case rel => exact ⟨k + 1, by omega, by go_num, Lib.hid (Or.inr ⟨g5, k5, by rw [← HKS.out], by rw [← HKS.out]; exact hk5, hk6, HCW2.out⟩), HPX, Lib.hid (bset HA.out _ _ _ HG.out), Lib.hid (by simp only [World.size_setCell]; exact HBB.out)⟩
      case measure => simp [intOf]; omega
    · have hk2 : k = l.length := by omega
      subst hk2
      have i1 : ¬ (l.length : Int) < (l.length : Int) := by omega
      have hsum := stepW_sum howS l l.length
      have hll := stepW_len howS l l.length
      have HLL := Lib.hid hll
      have HS3 : Hid (sumR (stepW howS l l.length) ≤ 1000000) := Lib.hid (by rw [hsum]; have := HSM.out; omega)
      have HHOW := Lib.hid (stepW_how howS l (P := (fun h => h ≠ 1)) howS_no)

      clear hsum hll
      generalize stepW howS l l.length = L2 at *
      have HBK := Lib.hid (pblock_any (.slice a5 l.length k5) L2 HP.out (by decide) (by decide) (by decide) (by decide) (by decide) (Nat.le_trans (Nat.le_trans HB2.out.2 HBB.out) (Nat.le_refl _)) (fun wx hc => (HRW.out.chg HP.out wx hc).rb) HS3.out)
      rw [show sizesL true 0 4096 = [] from rfl] at HBK
      have hkeep := rowsB_keep (most := 4096) L2 ([], []) HHOW.out
      rw [hkeep] at HBK
      clear hkeep
      go_wp2_with fail
      refine HBK.out.mono ?_
      rintro e w6 ⟨v6, vo6, rfl, hi6⟩
      have HA6 := Lib.hid (Pk.below HA.out HP.out HB2.out.1 hi6.chg)
      have HP6 := Lib.hid hi6.pk
      have HO6 := Lib.hid hi6.own
      have HRW6 := Lib.hid (HRW.out.chg HP.out w6 hi6.chg)
      have HB6 := Lib.hid (Nat.le_trans (Nat.le_trans HB2.out.2 HBB.out) hi6.chg.size)
      clear hi6 HBK HP HRW HA
      go_wp2_with fail
      refine (ptable_any HP6.out).mono ?_
      rintro e w7 ⟨rfl, a7⟩
      have HP7 := Lib.hid (HP6.out.aft a7)
      have HO7 := Lib.hid (HO6.out.aft a7)
      have HRW7 := Lib.hid (HRW6.out.aft a7)
      have HA7 := Lib.hid (HA6.out.trans a7)
      have HB7 := Lib.hid (Nat.le_trans HB6.out a7.to.size)
      clear a7 HP6 HO6 HRW6 HA6 HB6
      have HBK := Lib.hid (pblock_any (.slice a5 l.length k5) L2 HP7.out (by decide) (by decide) (by decide) (by decide) (by decide) HB7.out (fun wx hc => (HRW7.out.chg HP7.out wx hc).rb) HS3.out)
      rw [show sizesL true 0 4096 = [] from rfl] at HBK
      go_wp2_with fail
      refine HBK.out.mono ?_
      rintro e w8 ⟨v8, vo8, rfl, hi8⟩
      have HA8 := Lib.hid (Pk.below HA7.out HP7.out HB2.out.1 hi8.chg)
      have HO8 := Lib.hid hi8.own
      have HO68 := Lib.hid (HO7.out.chg hi8.chg (HO7.out.pk HP7.out))
      clear hi8 HBK HP7 HO7 HRW7 HA7 HB7
      generalize (rowsB 4096 ([], []) L2).1 = X at HO8 HO68
      have HSA := Lib.hid (same_any v6 v8 X X w8 HO68.out.rb HO8.out.rb)
      rw [beq_self_eq_true] at HSA
      go_wp2_with fail
      refine HSA.out.mono ?_
      rintro e w9 ⟨rfl, a9⟩
      have HA9 := Lib.hid (HA8.out.trans a9)
      clear a9
      go_wp2_with fail
      refine (packruns_any w9 (HMA.out w9 HA9.out)).mono ?_
      rintro e w10 ⟨rfl, a10⟩
      have HA10 := Lib.hid (HA9.out.trans a10)
      clear a10
      go_wp2_with fail
      go_ret
      exact ⟨rfl, HA10.out⟩

set_option maxRecDepth 100000 in
theorem walkPackSecret (w : World) (hsh : w.ShapedOpen Tryd.prog) {H : Type} {enc : TypeId × Value → H} {base : Nat} {v0 : Value} {d0 : DataW H} {p0 : List MemPlace}
    (hval0 : Value.okWide Tryd.prog w .any base 59 v0) (k0 : DataW.Trod enc Tryd.prog w 0 (fun _ => true) true 59 v0 d0 p0) (hk : (DataW.weightsEach Tryd.prog [59] [d0]).all (· ≤ reachBytes) = true) :
    Calls Tryd.prog 11 #[v0] w fun e w' => e = .returned (.bool true) ∧ Aft w w' := by
  obtain ⟨l, hr, hb, -⟩ := open_rowsR hval0 k0 (wt_at hk (j := 0) rfl rfl)
  exact packsecret_any v0 l w (maxOk_of w hsh) hr hb

end Go.Proofs.YtmlnboibclfmcaaDoor
