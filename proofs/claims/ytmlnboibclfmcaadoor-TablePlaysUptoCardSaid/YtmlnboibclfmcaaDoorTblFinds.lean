/-
  TableFinds.
-/
import Derived.Test.YtmlnboibclfmcaaDoorTblRuns
import Derived.Test.YtmlnboibclfmcaaDoorTblP
import Derived.Test.YtmlnboibclfmcaaDoorArgA
import Derived.Test.YtmlnboibclfmcaaDoorMaxOk
import Derived.Test.YtmlnboibclfmcaaDoorWithin
import Derived.Deep.QuietTactic
import Derived.BigQuiet
namespace Go.Proofs.YtmlnboibclfmcaaDoor
open Go.ChangeShapes Go.WideShapes Go.ChangeAt Go.RowKit
set_option linter.unusedVariables false

def FB2 (w : World) (g : Nat) (X Y : ByteArray) : Prop := w.heap[g]? = some (.cells #[.string X, .string Y] 28 (0, 0))
theorem FB2.aft {w w' : World} {g : Nat} {X Y : ByteArray} (h : FB2 w g X Y) (ha : Aft w w') : FB2 w' g X Y := by
  unfold FB2
  have hlt : g < w.heap.size := by
    rcases Nat.lt_or_ge g w.heap.size with h1 | h1
    · exact h1
    · unfold FB2 at h; rw [Array.getElem?_eq_none h1] at h; cases h
  rw [Below.block ha.to g hlt]
  exact h
theorem FB2.cells {w : World} {g : Nat} {X Y : ByteArray} (h : FB2 w g X Y) : w.cell? ⟨g, 0, none⟩ = some (.string X) ∧ w.cell? ⟨g, 1, none⟩ = some (.string Y) := by
  unfold FB2 at h
  exact ⟨by rw [cell_of_row w g _ _ _ (0, 0) h]; rfl, by rw [cell_of_row w g _ _ _ (0, 0) h]; rfl⟩
theorem get_end {w : World} {B g : Nat} {vo vk : Value} {l : List FieldL} {most : Int} (h : Tab w B g vo vk l most) (hl : l.length ≤ 1000000) :
    Calls Tryd.prog 21 #[.pointer (some ⟨g, 0, none⟩), .int .i64 (62 + (l.length : Int))] w fun e w' => e = .returned (.tuple #[.agg #[.string ⟨#[]⟩, .string ⟨#[]⟩], .bool false]) ∧ Aft w w' := by
  obtain ⟨i, hi⟩ : ∃ i : Int, 62 + (l.length : Int) = i := ⟨_, rfl⟩
  rw [hi]
  have h1 := (getF_out (l := l) (i := i) (by omega))
  refine get_is i _ false (by omega) (by omega) h ?_ h1.2
  rw [h1.1]
  rfl
theorem get_zero {w : World} {B g : Nat} {vo vk : Value} {l : List FieldL} {most : Int} (h : Tab w B g vo vk l most) :
    Calls Tryd.prog 21 #[.pointer (some ⟨g, 0, none⟩), .int .i64 0] w fun e w' => e = .returned (.tuple #[.agg #[.string ⟨#[]⟩, .string ⟨#[]⟩], .bool false]) ∧ Aft w w' := by
  have h1 := (getF_out (l := l) (i := 0) (by omega))
  refine get_is 0 _ false (by omega) (by omega) h ?_ h1.2
  rw [h1.1]
  rfl
theorem meas_find (n i : Nat) (h : i < 61 + n) : 63 + n - ((i : Int) + 1 + 1).toNat < 63 + n - ((i : Int) + 1).toNat := by omega
theorem TabA.of {w w1 : World} {B g : Nat} {vo vk : Value} {l : List FieldL} {most : Int} (h : Tab w B g vo vk l most) (ha : Aft w w1) : Tab w1 B g vo vk l most := h.aft ha

set_option maxHeartbeats 16000000 in
set_option maxRecDepth 100000 in
theorem tblfinds_any (most : Int) (b0 : -9223372036854775808 ≤ most) (b1 : most ≤ 9223372036854775807) (v : Value) (l : List AskL) (f : FieldL) (w : World) (hm : MaxOk w) (hr : RbA w v l) (hok : ∀ x ∈ l, AskOk 1048576 x) (hll : l.length ≤ 1048576) (hf : f.1.length + f.2.length ≤ 1048576) :
    Calls Tryd.prog 4 #[.int .i64 most, v, fieldV f] w fun e w' => e = .returned (.bool true) ∧ Aft w w' := by
  obtain ⟨f1, f2'⟩ := f
  have HWI := Lib.hid (within_any most 0 5000 b0 b1 (by decide) (by decide) (by decide))
  obtain ⟨va, vc, vb, voff, rfl, hvc, hvm, hcell⟩ := hr.open
  unfold maxLen at hvm
  obtain ⟨F, hF⟩ : ∃ F : ByteArray, (⟨f1.toArray⟩ : ByteArray) = F := ⟨_, rfl⟩
  obtain ⟨G, hG⟩ : ∃ G : ByteArray, (⟨f2'.toArray⟩ : ByteArray) = G := ⟨_, rfl⟩
  have hFd : F.data.toList = f1 := by rw [← hF]
  have hGd : G.data.toList = f2' := by rw [← hG]
  have hfv : fieldV (f1, f2') = .agg #[.string F, .string G] := by unfold fieldV; simp only; rw [hF, hG]
  rw [hfv]
  have HFG := Lib.hid (And.intro hFd (And.intro hGd hfv))
  have hA1 : Aft w (w.alloc (.cells #[.string F, .string G] 28)) := (Aft.refl w).alloc _
  have hbx : FB2 (w.alloc (.cells #[.string F, .string G] 28)) w.heap.size F G := heap_alloc_new w _
  have HM := Lib.hid (hm.aft hA1)
  have HA1 := Lib.hid hA1
  have HBX := Lib.hid hbx
  have HCELL := Lib.hid hcell
  have HOK := Lib.hid hok
  have HWM := Lib.hid hm
  have HWR := Lib.hid hr
  clear hr hm hcell hok hA1 hbx b0 b1 hF hG hFd hGd hfv
  go_enter Tryd.func4, Tryd.ntmps4
  go_wp2_with fail
  obtain ⟨b, hb⟩ : ∃ b, w.heap.size = b := ⟨_, rfl⟩
  rw [hb] at HBX ⊢
  have HBW := Lib.hid hb
  clear hb
  generalize w.alloc (.cells #[.string F, .string G] 28) = W at HM HA1 HBX ⊢
  refine (HWI.out _).mono ?_
  rintro e w0 ⟨r, rfl, r0, r1, rfl⟩
  have HN := Lib.hid (tnew_yes r r0 (by omega) W HM.out)
  go_wp2_with fail
  refine HN.out.mono ?_
  rintro e w1 ⟨g, vk, rfl, t1, a1⟩
  have T1 := Lib.hid t1
  have A1 := Lib.hid a1
  obtain ⟨B, hB⟩ : ∃ B, W.heap.size = B := ⟨_, rfl⟩
  rw [hB] at T1
  have HB := Lib.hid hB
  have R0 := Lib.hid (And.intro r0 r1)
  clear t1 a1 hB r0 r1 HN HWI
  go_wp2_with fail
  go_loopw [9] (fun v9 wr => ∃ (i : Nat) (vo : Value) (tl : List FieldL), i ≤ l.length ∧ v9 = .int .i64 (i : Int) ∧ Hid (Tab wr B g vo vk tl r) ∧ Hid ((sumF tl : Int) ≤ r) ∧ Hid (Aft W wr)) (fun v9 _ => l.length - (intOf v9).toNat)
  case atStart => exact ⟨0, _, [], by omega, by go_num, T1, Lib.hid (by show ((0 : Nat) : Int) ≤ _; have := R0.out; omega), A1⟩
  case round =>
    obtain ⟨i, vo, tl, hi, rfl, HT, HS, HA⟩ := hrel
    by_cases hlt : i < l.length ∧ i < 40
    · obtain ⟨hlt, h40⟩ := hlt
      obtain ⟨rfl, hvb, x0, x1, x2, x3⟩ := HCELL.out i hlt
      have hak := HOK.out _ (List.getElem_mem hlt)
      have hsz := hak.sz
      have HAW := Lib.hid (HA1.out.trans HA.out)
      have y2 : wr.cell? ⟨vb, voff + i * 4 + 2, none⟩ = some (strV l[i].f.1) := by rw [Below.cell HAW.out.to (p := ⟨vb, voff + i * 4 + 2, none⟩) hvb]; exact x2
      have y3 : wr.cell? ⟨vb, voff + i * 4 + 3, none⟩ = some (strV l[i].f.2) := by rw [Below.cell HAW.out.to (p := ⟨vb, voff + i * 4 + 3, none⟩) hvb]; exact x3
      clear hak x0 x1 x2 x3 hvb
      generalize l[i].f = q at y2 y3 hsz
      obtain ⟨q1, q2⟩ := q
      unfold strV at y2 y3
      simp only at y2 y3 hsz
      have HQ := Lib.hid (show fsize (q1, q2) ≤ 1000000000000 by unfold fsize; simp only; omega)
      obtain ⟨X, hX⟩ : ∃ X : ByteArray, (⟨q1.toArray⟩ : ByteArray) = X := ⟨_, rfl⟩
      obtain ⟨Y, hY⟩ : ∃ Y : ByteArray, (⟨q2.toArray⟩ : ByteArray) = Y := ⟨_, rfl⟩
      have zX : X.size = q1.length := by rw [← hX]; show q1.toArray.size = _; simp
      have zY : Y.size = q2.length := by rw [← hY]; show q2.toArray.size = _; simp
      have HFV : Hid (fieldV (q1, q2) = .agg #[.string X, .string Y]) := Lib.hid (by unfold fieldV; simp only; rw [hX, hY])
      rw [hX] at y2
      rw [hY] at y3
      rw [← zX, ← zY] at hsz
      have g1 : IntKind.i64.wrap ((X.size : Int) + (Y.size : Int)) = (X.size : Int) + (Y.size : Int) := IntWalk.i64_in _ (by omega)
      have i1 : (i : Int) < (l.length : Int) := by omega
      have i2 : (i : Int) < 40 := by omega
      clear hX hY zX zY
      by_cases hbig : (X.size : Int) + (Y.size : Int) ≤ 1000
      · clear hsz
        go_wp2_with fail
        go_quiet (fail)
        have HT2 := Lib.hid (HT.out.aft ((Aft.refl wr).drewN nq))
        have HA2 := Lib.hid (HA.out.drewN nq)
        have y2' : (wr.drewN nq).cell? ⟨vb, voff + i * 4 + 2, none⟩ = some (.string X) := y2
        have y3' : (wr.drewN nq).cell? ⟨vb, voff + i * 4 + 3, none⟩ = some (.string Y) := y3
        generalize wr.drewN nq = w2 at HT2 HA2 y2' y3' ⊢
        have HADD := Lib.hid (add_to (w0 := W) (q1, q2) (addF r (q1, q2) tl) HT2.out HS.out R0.out.1 (by have := R0.out; omega) HQ.out (by rw [← HB.out]; exact HA2.out.size) rfl HA2.out (Nat.le_of_eq HB.out))
        rw [HFV.out] at HADD
        go_wp2_with fail
        refine HADD.out.mono ?_
        rintro e w3 ⟨rfl, vo3, t3, a3, -, -⟩
        have T3 := Lib.hid t3
        have A3 := Lib.hid a3
        clear t3 a3
        go_wp2_with fail
        go_roundw
        case rel => exact ⟨i + 1, vo3, _, by omega, by go_num, T3, Lib.hid (addF_le R0.out.1), A3⟩
        case measure => simp [intOf] <;> omega
      · clear hsz
        go_wp2_with fail
        go_quiet (fail)
        go_wp2_with fail
        go_roundw
        case rel => exact ⟨i + 1, vo, tl, by omega, by go_num, Lib.hid (HT.out.aft ((Aft.refl wr).drewN _)), HS, Lib.hid (HA.out.drewN _)⟩
        case measure => simp [intOf] <;> omega
    · have HTL : Hid (tl.length ≤ 1000000) := Lib.hid (by have h1 := sumF_len tl; have h2 := HS.out; have h3 := R0.out; omega)
      have HC9 : Hid (¬ (i < l.length ∧ i < 40)) := Lib.hid hlt
      have hstop : ((i : Int) < (l.length : Int)) → ¬ ((i : Int) < 40) := fun h1 h2 => HC9.out ⟨by omega, by omega⟩
      have HFBX : Hid (FB2 wr b F G) := Lib.hid (HBX.out.aft HA.out)
      clear HC9 HCELL HOK hlt HS
      have hcs : ((i : Int) < (l.length : Int) ∧ ¬ ((i : Int) < 40)) ∨ ¬ ((i : Int) < (l.length : Int)) := by
        by_cases h1 : (i : Int) < (l.length : Int)
        · exact Or.inl ⟨h1, hstop h1⟩
        · exact Or.inr h1
      clear hstop
      rcases hcs with ⟨h1, h2⟩ | h1
      all_goals
        go_wp2_with fail
        go_loopw [10] (fun v10 wx => ∃ i : Nat, i ≤ 61 + tl.length ∧ v10 = .int .i64 ((i : Int) + 1) ∧ Hid (Aft wr wx)) (fun v10 _ => 63 + tl.length - (intOf v10).toNat)
        case atStart => exact ⟨0, by omega, by go_num, Lib.hid (Aft.refl _)⟩
        case round =>
          obtain ⟨i2, hi2, rfl, HX⟩ := hrel
          have HTX := Lib.hid (HT.out.aft HX.out)
          go_wp2_with fail
          refine (tlen_any HTX.out).mono ?_
          rintro e w5 ⟨rfl, rfl⟩
          have g61 : IntKind.i64.wrap (61 + (tl.length : Int)) = 61 + (tl.length : Int) := IntWalk.i64_in _ (by have := HTL.out; omega)
          by_cases hin : i2 < 61 + tl.length
          · obtain ⟨x, hx⟩ := at_get tl i2 hin
            obtain ⟨j, hj, hfd, hgj, hgbj⟩ := find_there tl i2 x hx
            obtain ⟨hgx, hgb, -⟩ := getF_at tl i2 x hx
            have hii : (i2 : Int) + 1 ≤ 61 + (tl.length : Int) := by omega
            have HGX := Lib.hid (get_is ((i2 : Int) + 1) (fieldV x) true (by omega) (by have := HTL.out; omega) HTX.out (by rw [hgx]) hgb)
            have HGJ := Lib.hid (fun w' (h' : Tab w' B g vo vk tl r) => get_is (w := w') ((j : Int) + 1) (fieldV x) true (by omega) (by have := HTL.out; omega) h' (by rw [hgj]) hgbj)
            have HFD := Lib.hid (fun w' (h' : Tab w' B g vo vk tl r) => tfind_any (w := w') x h' HTL.out)
            rw [hfd] at HFD
            obtain ⟨x1, x2⟩ := x
            unfold fieldV at HGX HGJ HFD
            simp only at HGX HGJ HFD
            obtain ⟨X, hX⟩ : ∃ X : ByteArray, (⟨x1.toArray⟩ : ByteArray) = X := ⟨_, rfl⟩
            obtain ⟨Y, hY⟩ : ∃ Y : ByteArray, (⟨x2.toArray⟩ : ByteArray) = Y := ⟨_, rfl⟩
            rw [hX, hY] at HGX HGJ HFD
            have HJ := Lib.hid hj
            have HIN := Lib.hid hin
            clear hx hfd hgj hgbj hgx hgb hX hY hin g61
            have g61 : IntKind.i64.wrap (61 + (tl.length : Int)) = 61 + (tl.length : Int) := IntWalk.i64_in _ (by have := HTL.out; omega)
            go_wp2_with fail
            refine HGX.out.mono ?_
            rintro e w6 ⟨rfl, a6⟩
            have HX6 := Lib.hid (HX.out.trans (a6.alloc (.cells #[.string X, .string Y] 28)))
            have hx6 : FB2 (w6.alloc (.cells #[.string X, .string Y] 28)) w6.heap.size X Y := heap_alloc_new w6 _
            have HB6 := Lib.hid hx6
            clear a6 hx6 HGX
            go_upto_region 13 with fail
            generalize w6.heap.size = gx at HB6 ⊢
            generalize w6.alloc (.cells #[.string X, .string Y] 28) = W6 at HX6 HB6 ⊢
            obtain ⟨z0, z1⟩ := HB6.out.cells
            go_wp2_with fail
            refine (HFD.out _ (HT.out.aft HX6.out)).mono ?_
            rintro e w7 ⟨rfl, a7⟩
            have HX7 := Lib.hid (HX6.out.trans a7)
            have HB7 := Lib.hid (HB6.out.aft a7)
            clear a7 HFD z0 z1 HX6 HB6
            go_wp2_with fail
            refine (HGJ.out _ (HT.out.aft HX7.out)).mono ?_
            rintro e w8 ⟨rfl, a8⟩
            have HX8 := Lib.hid (HX7.out.trans (a8.alloc (.cells #[.string X, .string Y] 28)))
            have hx8 : FB2 (w8.alloc (.cells #[.string X, .string Y] 28)) w8.heap.size X Y := heap_alloc_new w8 _
            have HB8 := Lib.hid hx8
            have HB9 := Lib.hid ((HB7.out.aft a8).aft ((Aft.refl w8).alloc (.cells #[.string X, .string Y] 28)))
            clear a8 hx8 HB7 HGJ HX7
            go_upto_region 15 with fail
            generalize w8.heap.size = gh at HB8 ⊢
            generalize w8.alloc (.cells #[.string X, .string Y] 28) = W8 at HX8 HB8 HB9 ⊢
            obtain ⟨z0, z1⟩ := HB8.out.cells
            obtain ⟨u0, u1⟩ := HB9.out.cells
            have k1 : ¬ ((j : Int) + 1 > (i2 : Int) + 1) := by have := HJ.out; omega
            have k2 : ¬ ((j : Int) + 1 < 1) := by omega
            clear hii g61
            have g62 : wrap64 ((i2 : Int) + 1 + 1) = (i2 : Int) + 1 + 1 := IntWalk.wrap64_in _ ⟨by omega, by have := HIN.out; have := HTL.out; omega⟩
            go_wp2_with fail
            go_roundw
            case rel => exact ⟨i2 + 1, by have := HIN.out; omega, by go_num, HX8⟩
            case measure => rw [g62]; exact meas_find _ _ HIN.out
          · have hii : ¬ ((i2 : Int) + 1 ≤ 61 + (tl.length : Int)) := by omega
            clear hin
            have HFC := Lib.hid (find_cases tl (f1, f2'))
            have HFD := Lib.hid (tfind_any (f1, f2') HTX.out HTL.out)
            have HBF := Lib.hid (HFBX.out.aft HX.out)
            obtain ⟨bx0, bx1⟩ := HBF.out.cells
            rw [HFG.out.2.2] at HFD
            have HG62 := Lib.hid (fun w' (h' : Tab w' B g vo vk tl r) => get_end h' HTL.out)
            have g62 : IntKind.i64.wrap (62 + (tl.length : Int)) = 62 + (tl.length : Int) := IntWalk.i64_in _ (by have := HTL.out; omega)
            have HMR : Hid (∀ w', Aft wr w' → MaxOk w') := Lib.hid (fun w' a => ((HM.out.aft HA.out).aft HX.out).aft a)
            rcases HFC.out with hfc | ⟨j, hj, hfc, hgf, hgb⟩ | ⟨j, x, hj, hfc, hgf, hgb, hxn, hxf⟩
            · rw [hfc] at HFD
              have HGK := Lib.hid (fun w' (h' : Tab w' B g vo vk tl r) => get_zero h')
              clear hfc HFC
              go_wp2_with fail
              refine HFD.out.mono ?_
              rintro e w7 ⟨rfl, a7⟩
              have HT7 := Lib.hid (HTX.out.aft a7)
              have HA7 := Lib.hid a7
              clear a7 HFD bx0 bx1
              go_wp2_with fail
              refine (HGK.out _ HT7.out).mono ?_
              rintro e w8 ⟨rfl, a8⟩
              have HA8 := Lib.hid (HA7.out.trans (a8.alloc (.cells #[.string ⟨#[]⟩, .string ⟨#[]⟩] 28)))
              have hx8 : FB2 (w8.alloc (.cells #[.string ⟨#[]⟩, .string ⟨#[]⟩] 28)) w8.heap.size ⟨#[]⟩ ⟨#[]⟩ := heap_alloc_new w8 _
              have HB8 := Lib.hid hx8
              clear a8 hx8 HGK HT7 HA7
              go_upto_region 19 with fail
              generalize w8.heap.size = gh at HB8 ⊢
              generalize w8.alloc (.cells #[.string ⟨#[]⟩, .string ⟨#[]⟩] 28) = W8 at HA8 HB8 ⊢
              have HT8 := Lib.hid (HTX.out.aft HA8.out)
              go_wp2_with fail
              refine (tlen_any HT8.out).mono ?_
              rintro e w9 ⟨rfl, rfl⟩
              go_wp2_with fail
              refine (HG62.out _ HT8.out).mono ?_
              rintro e w10 ⟨rfl, a10⟩
              have HA10 := Lib.hid (HA8.out.trans (a10.alloc (.cells #[.string ⟨#[]⟩, .string ⟨#[]⟩] 28)))
              have HB10 := Lib.hid ((HB8.out.aft a10).aft ((Aft.refl w10).alloc (.cells #[.string ⟨#[]⟩, .string ⟨#[]⟩] 28)))
              clear a10 HB8 HA8 HT8
              go_upto_region 20 with fail
              generalize w10.heap.size = gn at *
              generalize w10.alloc (.cells #[.string ⟨#[]⟩, .string ⟨#[]⟩] 28) = W10 at HA10 HB10 ⊢
              obtain ⟨z0, z1⟩ := HB10.out.cells
              obtain ⟨bx0, bx1⟩ := (HBF.out.aft HA10.out).cells
              go_wp2_with fail
              refine (tblruns_any _ (HMR.out _ HA10.out)).mono ?_
              rintro e w11 ⟨rfl, a11⟩
              go_wp2_with fail
              go_ret
              exact ⟨rfl, (((HA1.out.trans HA.out).trans HX.out).trans HA10.out).trans a11⟩
            · rw [hfc] at HFD
              have HGK := Lib.hid (fun w' (h' : Tab w' B g vo vk tl r) => get_is (w := w') ((j : Int) + 1) (.agg #[.string F, .string G]) true (by omega) (by have := HTL.out; omega) h' (by rw [hgf, HFG.out.2.2]) hgb)
              have kne : ((j : Int) + 1 == 0) = false := by simp; omega
              clear hfc HFC hgf hgb hj
              go_wp2_with fail
              refine HFD.out.mono ?_
              rintro e w7 ⟨rfl, a7⟩
              have HT7 := Lib.hid (HTX.out.aft a7)
              have HA7 := Lib.hid a7
              clear a7 HFD bx0 bx1
              go_wp2_with fail
              refine (HGK.out _ HT7.out).mono ?_
              rintro e w8 ⟨rfl, a8⟩
              have HA8 := Lib.hid (HA7.out.trans (a8.alloc (.cells #[.string F, .string G] 28)))
              have hx8 : FB2 (w8.alloc (.cells #[.string F, .string G] 28)) w8.heap.size F G := heap_alloc_new w8 _
              have HB8 := Lib.hid hx8
              clear a8 hx8 HGK HT7 HA7
              go_upto_region 19 with fail
              generalize w8.heap.size = gh at HB8 ⊢
              generalize w8.alloc (.cells #[.string F, .string G] 28) = W8 at HA8 HB8 ⊢
              have HT8 := Lib.hid (HTX.out.aft HA8.out)
              go_wp2_with fail
              refine (tlen_any HT8.out).mono ?_
              rintro e w9 ⟨rfl, rfl⟩
              go_wp2_with fail
              refine (HG62.out _ HT8.out).mono ?_
              rintro e w10 ⟨rfl, a10⟩
              have HA10 := Lib.hid (HA8.out.trans (a10.alloc (.cells #[.string ⟨#[]⟩, .string ⟨#[]⟩] 28)))
              have HB10 := Lib.hid ((HB8.out.aft a10).aft ((Aft.refl w10).alloc (.cells #[.string ⟨#[]⟩, .string ⟨#[]⟩] 28)))
              clear a10 HB8 HA8 HT8
              go_upto_region 20 with fail
              generalize w10.heap.size = gn at *
              generalize w10.alloc (.cells #[.string ⟨#[]⟩, .string ⟨#[]⟩] 28) = W10 at HA10 HB10 ⊢
              obtain ⟨z0, z1⟩ := HB10.out.cells
              obtain ⟨bx0, bx1⟩ := (HBF.out.aft HA10.out).cells
              go_wp2_with fail
              refine (tblruns_any _ (HMR.out _ HA10.out)).mono ?_
              rintro e w11 ⟨rfl, a11⟩
              go_wp2_with fail
              go_ret
              exact ⟨rfl, (((HA1.out.trans HA.out).trans HX.out).trans HA10.out).trans a11⟩
            · rw [hfc] at HFD
              obtain ⟨x1, x2⟩ := x
              simp only at hxn
              obtain ⟨Y, hY⟩ : ∃ Y : ByteArray, (⟨x2.toArray⟩ : ByteArray) = Y := ⟨_, rfl⟩
              have hYG : (Y.toList == G.toList) = false := by
                rw [Lib.toList_data, Lib.toList_data, HFG.out.2.1, ← hY]
                have : x2 ≠ f2' := fun e => hxf (by rw [hxn, e])
                simpa using this
              have hxv : fieldV (x1, x2) = .agg #[.string F, .string Y] := by
                have h1 := HFG.out.2.2
                unfold fieldV at h1 ⊢
                simp only at h1 ⊢
                rw [hxn, hY]
                injection h1 with h1
                have h2 : (#[Value.string ⟨f1.toArray⟩, Value.string ⟨f2'.toArray⟩] : Array Value)[0]? = (#[Value.string F, Value.string G] : Array Value)[0]? := by rw [h1]
                simp only [List.getElem?_toArray, List.getElem?_cons_zero] at h2
                rw [Option.some.inj h2]
              have HGK := Lib.hid (fun w' (h' : Tab w' B g vo vk tl r) => get_is (w := w') ((j : Int) + 1) (.agg #[.string F, .string Y]) true (by omega) (by have := HTL.out; omega) h' (by rw [hgf, hxv]) hgb)
              have kne : ((j : Int) + 1 == 0) = false := by simp; omega
              clear hfc HFC hgf hgb hj hxn hxf hY hxv
              go_wp2_with fail
              refine HFD.out.mono ?_
              rintro e w7 ⟨rfl, a7⟩
              have HT7 := Lib.hid (HTX.out.aft a7)
              have HA7 := Lib.hid a7
              clear a7 HFD bx0 bx1
              go_wp2_with fail
              refine (HGK.out _ HT7.out).mono ?_
              rintro e w8 ⟨rfl, a8⟩
              have HA8 := Lib.hid (HA7.out.trans (a8.alloc (.cells #[.string F, .string Y] 28)))
              have hx8 : FB2 (w8.alloc (.cells #[.string F, .string Y] 28)) w8.heap.size F Y := heap_alloc_new w8 _
              have HB8 := Lib.hid hx8
              clear a8 hx8 HGK HT7 HA7
              go_upto_region 19 with fail
              generalize w8.heap.size = gh at HB8 ⊢
              generalize w8.alloc (.cells #[.string F, .string Y] 28) = W8 at HA8 HB8 ⊢
              have HT8 := Lib.hid (HTX.out.aft HA8.out)
              go_wp2_with fail
              refine (tlen_any HT8.out).mono ?_
              rintro e w9 ⟨rfl, rfl⟩
              go_wp2_with fail
              refine (HG62.out _ HT8.out).mono ?_
              rintro e w10 ⟨rfl, a10⟩
              have HA10 := Lib.hid (HA8.out.trans (a10.alloc (.cells #[.string ⟨#[]⟩, .string ⟨#[]⟩] 28)))
              have HB10 := Lib.hid ((HB8.out.aft a10).aft ((Aft.refl w10).alloc (.cells #[.string ⟨#[]⟩, .string ⟨#[]⟩] 28)))
              clear a10 HB8 HA8 HT8
              go_upto_region 20 with fail
              generalize w10.heap.size = gn at *
              generalize w10.alloc (.cells #[.string ⟨#[]⟩, .string ⟨#[]⟩] 28) = W10 at HA10 HB10 ⊢
              obtain ⟨z0, z1⟩ := HB10.out.cells
              obtain ⟨bx0, bx1⟩ := (HBF.out.aft HA10.out).cells
              go_wp2_with fail
              refine (tblruns_any _ (HMR.out _ HA10.out)).mono ?_
              rintro e w11 ⟨rfl, a11⟩
              go_wp2_with fail
              go_ret
              exact ⟨rfl, (((HA1.out.trans HA.out).trans HX.out).trans HA10.out).trans a11⟩

set_option maxRecDepth 100000 in
theorem walkTableFinds (w : World) (hsh : w.ShapedOpen Tryd.prog) {H : Type} {enc : TypeId × Value → H} {base : Nat} {v1 v2 : Value} {d1 d2 : DataW H} {p1 p2 : List MemPlace} (a0 : Int) (w0 : (Lit.int .i64 a0).wf = true)
    (hval1 : Value.okWide Tryd.prog w .any base 36 v1) (k1 : DataW.Trod enc Tryd.prog w 0 (fun _ => true) true 36 v1 d1 p1)
    (hval2 : Value.okWide Tryd.prog w .any base 28 v2) (k2 : DataW.Trod enc Tryd.prog w 0 (fun _ => true) true 28 v2 d2 p2) (hk : Rows.uptoSmall H [.lit (.int .i64 a0), d1, d2] = true) :
    Calls Tryd.prog 4 #[.int .i64 a0, v1, v2] w fun e w' => e = .returned (.bool true) ∧ Aft w w' := by
  have h2 : Rows.uptoBulkAll [(.lit (.int .i64 a0) : DataW H), d1, d2] ≤ 1048576 := of_decide_eq_true hk
  simp only [Rows.uptoBulkAll] at h2
  obtain ⟨l, hr, hok, hl⟩ := open_asks hval1 k1
  obtain ⟨f, rfl, hf⟩ := open_field hval2 k2
  have hb := bounds_i64 w0
  exact tblfinds_any a0 hb.1 hb.2 v1 l f w (maxOk_of w hsh) hr (fun x hx => (hok x hx).mono (by omega)) (by omega) (by omega)

end Go.Proofs.YtmlnboibclfmcaaDoor
