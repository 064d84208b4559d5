/-
  PackBound.
-/
import Derived.Test.YtmlnboibclfmcaaDoorPackL
import Derived.Test.YtmlnboibclfmcaaDoorRTbl
namespace Go.Proofs.YtmlnboibclfmcaaDoor
open Go.RowKit
set_option linter.unusedVariables false

theorem rowsB_len (most : Int) : ∀ (rows : List RowL) (s : List UInt8 × List FieldL), (rowsB most s rows).1.length ≤ s.1.length + sumR rows
  | [], s => by simp [rowsB, sumR]
  | r :: rs, s => by
    have h1 := rowsB_len most rs (s.1 ++ (rowB most s.2 r).1, (rowB most s.2 r).2)
    have h2 := rowB_len most s.2 r
    rw [sumR_cons]
    simp only [rowsB]
    simp only [List.length_append] at h1
    omega
theorem RbW.old {w0 w : World} {B gp g : Nat} {vo vk v : Value} {l : List FieldL} {most : Int} {told : Bool} {least : Int} {rows : List RowL} (h : RbW w0 v rows) (a : Aft w0 w) (hp : Pk w B gp g vo vk l most told least) (hB : w0.heap.size ≤ B) : ∀ wx, Chg (PP gp g vo) w wx → RbW wx v rows := fun wx hc =>
  h.aft (Pk.below a hp hB hc)

set_option maxHeartbeats 8000000 in
set_option maxRecDepth 100000 in
theorem packbound_any (v : Value) (l : List RowL) (w : World) (hm : MaxOk w) (hr : RbW w v l) (hs : RowsLim l) :
    Calls Tryd.prog 12 #[v] w fun e w' => e = .returned (.bool true) ∧ Aft w w' := by
  have HL := Lib.hid (light8_any v l w hr hs)
  have HR := Lib.hid hr
  have HM := Lib.hid hm
  have HMA := Lib.hid (fun w' (a : Aft w w') => hm.aft a)
  obtain ⟨va, vc, vb, voff, rfl, hvc, hvm, hcell⟩ := hr.open
  unfold maxLen at hvm
  by_cases hsm : sumR l ≤ 3000
  · rw [decide_eq_true hsm] at HL
    have HSM := Lib.hid hsm
    have HC := Lib.hid hcell
    clear hr hs hm hcell hsm
    go_enter Tryd.func12, Tryd.ntmps12
    go_wp2_with fail
    refine HL.out.mono ?_
    rintro e w1 ⟨rfl, a1⟩
    have HA1 := Lib.hid a1
    have HN := Lib.hid (pnew_yes 4096 (by decide) (by decide) w1 (HMA.out w1 a1))
    clear a1 HL
    go_wp2_with fail
    refine HN.out.mono ?_
    rintro e w2 ⟨gp, g, vk, rfl, hp2, a2⟩
    have HP2 := Lib.hid hp2
    have HA2 := Lib.hid (HA1.out.trans a2)
    have HB2 := Lib.hid HA1.out.to.size
    have HB3 := Lib.hid a2.to.size
    clear hp2 a2 HN
    go_wp2_with fail
    go_loopw [5, 6] (fun vs vi wr => ∃ (k : Nat) (s : Nat), k ≤ l.length ∧ vi = .int .i64 (k : Int) ∧ vs = .int .i64 (s : Int) ∧ s ≤ 3000 ∧ Hid (sumR (l.take k) = s) ∧ Hid (Aft w2 wr)) (fun _ vi _ => l.length - (intOf vi).toNat)
    case atStart => exact ⟨0, 0, by omega, by go_num, by go_num, by omega, Lib.hid rfl, Lib.hid (Aft.refl _)⟩
    case round =>
      obtain ⟨k, s, hk, rfl, rfl, hs2, HX, HA⟩ := hrel
      by_cases hlt : k < l.length
      · obtain ⟨rfl, hbb, y0, y1, -⟩ := HC.out k hlt
        have HAW := Lib.hid (HA2.out.trans HA.out)
        have x0 : wr.cell? ⟨vb, voff + k * 3, none⟩ = some (strV l[k].f.1) := by
          rw [Below.cell HAW.out.to (p := ⟨vb, voff + k * 3, none⟩) hbb]; exact y0
        have x1 : wr.cell? ⟨vb, voff + k * 3 + 1, none⟩ = some (strV l[k].f.2) := by
          rw [Below.cell HAW.out.to (p := ⟨vb, voff + k * 3 + 1, none⟩) hbb]; exact y1
        have hsn : sumR (l.take (k + 1)) = s + (l[k].f.1.length + l[k].f.2.length + 32) := by
          rw [List.take_succ_eq_append_getElem hlt, sumR_append, HX.out]
          simp [sumR]
        have hle := sumR_take l (k + 1)
        rw [hsn] at hle
        have hle2 : s + (l[k].f.1.length + l[k].f.2.length + 32) ≤ 3000 := Nat.le_trans hle HSM.out
        have HSN := Lib.hid hsn
        clear y0 y1 hsn hle
        generalize l[k] = r at *
        obtain ⟨⟨n, x⟩, how⟩ := r
        unfold strV at x0 x1
        simp only at x0 x1 hle2 HSN
        have i1 : (k : Int) < (l.length : Int) := by omega
        have hfz : fsize (n, x) = n.length + x.length + 32 := rfl
        have HBY := Lib.hid (fun w' => rbytes_any (n, x) (by rw [hfz]; omega) w')
        rw [hfz] at HBY
        obtain ⟨z, hz⟩ : ∃ z, n.length + x.length + 32 = z := ⟨_, rfl⟩
        rw [hz] at HBY HSN hle2
        clear hfz hz
        go_wp2_with fail
        refine (HBY.out _).mono ?_
        rintro e w3 ⟨rfl, a3⟩
        go_wp2_with fail
        go_roundw
        case rel => exact ⟨k + 1, s + z, by omega, by go_num, by go_num, by omega, HSN, Lib.hid (HA.out.trans a3)⟩
        case measure => simp [intOf]; omega
      · have hkk : l.take k = l := List.take_of_length_le (by omega)
        rw [hkk] at HX
        have i1 : ¬ (k : Int) < (l.length : Int) := by omega
        clear hkk
        have HPX := Lib.hid (HP2.out.aft HA.out)
        have HAX := Lib.hid (HA2.out.trans HA.out)
        have HBK := Lib.hid (pblock_any (.slice va l.length vc) l HPX.out (by decide) (by decide) (by decide) (by decide) (by decide) (Nat.le_trans HB3.out HA.out.to.size) (HR.out.old HAX.out HPX.out HB2.out) (by have := HSM.out; omega))
        have hbl := rowsB_len 4096 l (sizesL true 0 4096, [])
        rw [show sizesL true 0 4096 = [] from rfl] at hbl
        rw [show sizesL true 0 4096 = [] from rfl] at HBK
        rw [HX.out] at hbl
        generalize (rowsB 4096 ([], []) l).1 = bb at hbl HBK
        simp only [List.length_nil, Nat.zero_add] at hbl
        have hble : (bb.length : Int) ≤ (s : Int) := by omega
        go_wp2_with fail
        refine HBK.out.mono ?_
        rintro e w4 ⟨v4, vo4, rfl, hi4⟩
        have HA4 := Lib.hid (Pk.below HAX.out HPX.out HB2.out hi4.chg)
        have hsh := hi4.own.shape
        obtain ⟨a4, c4, rfl⟩ : ∃ a c, v4 = .slice a bb.length c := by
          rcases hsh with ⟨rfl, h0⟩ | ⟨g4, c4, rfl, -⟩
          · exact ⟨none, 0, by rw [h0]; rfl⟩
          · exact ⟨_, _, rfl⟩
        clear hsh hi4 HBK
        go_wp2_with fail
        refine (packruns_any w4 (HMA.out w4 HA4.out)).mono ?_
        rintro e w5 ⟨rfl, a5⟩
        have HA5 := Lib.hid (HA4.out.trans a5)
        clear a5
        go_wp2_with fail
        go_ret
        exact ⟨rfl, HA5.out⟩
  · rw [decide_eq_false hsm] at HL
    clear hr hs hm hcell hsm
    go_enter Tryd.func12, Tryd.ntmps12
    go_wp2_with fail
    refine HL.out.mono ?_
    rintro e w1 ⟨rfl, a1⟩
    have HA1 := Lib.hid a1
    clear a1
    go_wp2_with fail
    refine (packruns_any w1 (HMA.out w1 HA1.out)).mono ?_
    rintro e w5 ⟨rfl, a5⟩
    have HA5 := Lib.hid (HA1.out.trans a5)
    clear a5
    go_wp2_with fail
    go_ret
    exact ⟨rfl, HA5.out⟩

end Go.Proofs.YtmlnboibclfmcaaDoor
