/-
  TablePlays.
-/
import Derived.Test.YtmlnboibclfmcaaDoorTblBounded
import Derived.Test.YtmlnboibclfmcaaDoorTblPR
import Derived.Deep.RegionHeld
import Derived.Deep.DeepCutAuto
import Derived.Deep.CutBlock
namespace Go.Proofs.YtmlnboibclfmcaaDoor
open Go.ChangeShapes Go.WideShapes Go.ChangeAt Go.RowKit
set_option linter.unusedVariables false

set_option maxHeartbeats 16000000 in
set_option maxRecDepth 100000 in
theorem tblplays_no (most : Int) (hno : ¬ (0 ≤ most ∧ most ≤ 65536)) (v : Value) (l : List AskL) (w : World) (hm : MaxOk w) (hr : RbA w v l) (hll : l.length ≤ 281474976710656) :
    Calls Tryd.prog 5 #[.int .i64 most, v] w fun e w' => e = .returned (.bool true) ∧ Aft w w' := by
  obtain ⟨va, vc, vb, voff, rfl, hvc, hvm, hcell⟩ := hr.open
  unfold maxLen at hvm
  have HM := Lib.hid hm
  have HN1 := Lib.hid (tnew_no most hno w)
  have HN2 := Lib.hid (rnew_no most hno w)
  have HT := Lib.hid (tblruns_any w hm)
  clear hr hm hcell hno
  go_enter Tryd.func5, Tryd.ntmps5
  go_wp2_with fail
  refine HN1.out.mono ?_
  rintro e w1 ⟨rfl, rfl⟩
  go_wp2_with fail
  refine HN2.out.mono ?_
  rintro e w2 ⟨rfl, rfl⟩
  go_wp2_with fail
  go_loopw [9] (fun v9 wr => v9 = .int .i64 0 ∧ w = wr) (fun _ _ => 0)
  case atStart => exact ⟨rfl, rfl⟩
  case round =>
    obtain ⟨rfl, rfl⟩ := hrel
    by_cases hl0 : (0 : Int) < (l.length : Int)
    all_goals
      go_wp2_with fail
      refine HT.out.mono ?_
      rintro e w3 ⟨rfl, a3⟩
      go_wp2_with fail
      go_ret
      exact ⟨rfl, a3⟩

theorem twoR_not {w W : World} {B1 g1 : Nat} {o1 k1 : Value} {l1 : List FieldL} {m1 : Int} {B2 g2 : Nat} {o2 : Value} {l2 : List FieldL} {m2 : Int} (h : TwoR w B1 g1 o1 k1 l1 m1 B2 g2 o2 l2 m2) {gx : Nat} (hx : w.heap.size ≤ gx) : ¬ TP g1 o1 gx ∧ ¬ TP g2 o2 gx := ⟨fun e => by have := h.a.fp_lt (Or.inl e); omega, fun e => by have := h.b.tp_lt e; omega⟩

set_option maxHeartbeats 16000000 in
set_option maxRecDepth 100000 in
theorem tblplays_yes (most : Int) (m0 : 0 ≤ most) (m1 : most ≤ 65536) (v : Value) (l : List AskL) (w : World) (hm : MaxOk w) (hr : RbA w v l) (hok : ∀ x ∈ l, AskOk 281474976710656 x) (hll : l.length ≤ 281474976710656) :
    Calls Tryd.prog 5 #[.int .i64 most, v] w fun e w' => e = .returned (.bool true) ∧ Aft w w' := by
  obtain ⟨va, vc, vb, voff, rfl, hvc, hvm, hcell⟩ := hr.open
  unfold maxLen at hvm
  have HM := Lib.hid hm
  have HCELL := Lib.hid hcell
  have HOK := Lib.hid hok
  have HN1 := Lib.hid (tnew_yes most m0 m1 w hm)
  have HN2 := Lib.hid (fun w => rnew_yes most m0 m1 w)
  have R0 := Lib.hid (And.intro m0 m1)
  clear hr hm hcell hok m0 m1
  go_enter Tryd.func5, Tryd.ntmps5
  go_wp2_with fail
  refine HN1.out.mono ?_
  rintro e w1 ⟨g1, k1, rfl, t1, a1⟩
  have T1 := Lib.hid t1
  have A1 := Lib.hid a1
  clear t1 a1 HN1
  go_wp2_with fail
  refine (HN2.out w1).mono ?_
  rintro e w2 ⟨g2, rfl, t2, a2⟩
  have H2 : Hid (TwoR w2 w.heap.size g1 (.slice none 0 0) k1 [] most w1.heap.size g2 (.slice none 0 0) [] most) := Lib.hid ⟨T1.out.aft a2, t2, fun k x y => by
    have := T1.out.fp_lt x
    have := t2.tp_ge y
    omega⟩
  have A2 := Lib.hid (A1.out.trans a2)
  have HB2 : Hid (w.heap.size ≤ w1.heap.size ∧ w1.heap.size ≤ w2.heap.size) := Lib.hid ⟨A1.out.size, a2.size⟩
  obtain ⟨B2, hB2⟩ : ∃ B2, w1.heap.size = B2 := ⟨_, rfl⟩
  rw [hB2] at H2 HB2
  clear t2 a2 T1 A1 HN2 hB2
  go_wp2_with fail
  go_loopw [9] (fun v9 wr => ∃ (i : Nat) (o1 o2 : Value) (tl : List FieldL) (m : Int), i ≤ l.length ∧ v9 = .int .i64 (i : Int) ∧ Hid (TwoR wr w.heap.size g1 o1 k1 tl m B2 g2 o2 tl m) ∧ Hid (Room tl m) ∧ Hid (Aft w wr ∧ B2 ≤ wr.heap.size)) (fun v9 _ => l.length - (intOf v9).toNat)
  case atStart => exact ⟨0, _, _, [], most, by omega, by go_num, H2, Lib.hid ⟨by show ((0 : Nat) : Int) ≤ _; have := R0.out; omega, R0.out⟩, Lib.hid ⟨A2.out, HB2.out.2⟩⟩
  case round =>
    obtain ⟨i, o1, o2, tl, m, hi, rfl, HT, HS, HA⟩ := hrel
    by_cases hlt : i < l.length ∧ i < 60
    · obtain ⟨hlt, h40⟩ := hlt
      obtain ⟨rfl, hvb, x0, x1, x2, x3⟩ := HCELL.out i hlt
      have hak := HOK.out _ (List.getElem_mem hlt)
      have hsz := hak.sz
      generalize l[i] = q at x0 x1 x2 x3 hsz hak
      obtain ⟨X, hX⟩ : ∃ X : ByteArray, (⟨q.f.1.toArray⟩ : ByteArray) = X := ⟨_, rfl⟩
      obtain ⟨Y, hY⟩ : ∃ Y : ByteArray, (⟨q.f.2.toArray⟩ : ByteArray) = Y := ⟨_, rfl⟩
      have zX : X.size = q.f.1.length := by rw [← hX]; show q.f.1.toArray.size = _; simp
      have zY : Y.size = q.f.2.length := by rw [← hY]; show q.f.2.toArray.size = _; simp
      have HQ : Hid ((X.size : Int) + (Y.size : Int) ≤ 1000 → fsize q.f ≤ 1000000000000) := Lib.hid (fun h => by unfold fsize; omega)
      have HFV : Hid (fieldV q.f = .agg #[.string X, .string Y]) := Lib.hid (by unfold fieldV; rw [hX, hY])
      have HASK := Lib.hid (fun wx a => ask_cells (q1 := []) (q2 := []) hvb x0 x1 x2 x3 (by unfold strV; rw [hX]) (by unfold strV; rw [hY]) wx a)
      rw [← zX, ← zY] at hsz
      have HNB := Lib.hid (And.intro hak.n0 hak.n1)
      obtain ⟨kd, hkd⟩ : ∃ kd, q.kind = kd := ⟨_, rfl⟩
      obtain ⟨nn, hnn⟩ : ∃ nn, q.n = nn := ⟨_, rfl⟩
      rw [hkd, hnn] at HASK
      rw [hnn] at HNB
      have gXY : IntKind.i64.wrap ((X.size : Int) + (Y.size : Int)) = (X.size : Int) + (Y.size : Int) := IntWalk.i64_in _ (by omega)
      have i1 : (i : Int) < (l.length : Int) := by omega
      have i2 : (i : Int) < 60 := by omega
      obtain ⟨y0, y1, y2, y3⟩ := HASK.out _ HA.out.1
      have HLT := Lib.hid (And.intro hlt h40)
      clear hX hY zX zY x0 x1 x2 x3 hvb hak hkd hnn hsz HASK hlt h40
      have hAx : Aft wr (wr.alloc (.cells #[.int .i64 kd, .int .i64 nn, .string X, .string Y] 39)) := (Aft.refl wr).alloc _
      have hxx : AB4 (wr.alloc (.cells #[.int .i64 kd, .int .i64 nn, .string X, .string Y] 39)) wr.heap.size kd nn X Y := heap_alloc_new wr _
      have HBX := Lib.hid hxx
      have HTX := Lib.hid (HT.out.aft hAx)
      have HAX : Hid (Aft w (wr.alloc (.cells #[.int .i64 kd, .int .i64 nn, .string X, .string Y] 39))) := Lib.hid (HA.out.1.trans hAx)
      have HZX : Hid (w.heap.size ≤ (wr.alloc (.cells #[.int .i64 kd, .int .i64 nn, .string X, .string Y] 39)).heap.size ∧ B2 ≤ (wr.alloc (.cells #[.int .i64 kd, .int .i64 nn, .string X, .string Y] 39)).heap.size) := Lib.hid ⟨HAX.out.size, Nat.le_trans HA.out.2 hAx.size⟩
      have HNX := Lib.hid (twoR_not (W := wr) HT.out (Nat.le_refl _))
      clear hAx hxx HA HT
      go_upto_region 9 with fail
      clear y0 y1 y2 y3
      generalize wr.heap.size = gx at HBX HNX ⊢
      generalize wr.alloc (.cells #[.int .i64 kd, .int .i64 nn, .string X, .string Y] 39) = wx at HBX HTX HAX HZX ⊢
      obtain ⟨y0, y1, y2, y3⟩ := HBX.out.cells
      by_cases hbig : (X.size : Int) + (Y.size : Int) > 1000
      · go_wp2_with fail
        go_roundw
        case rel => exact ⟨i + 1, o1, o2, tl, m, by have := HLT.out; omega, by go_num, HTX, HS, Lib.hid ⟨HAX.out, HZX.out.2⟩⟩
        case measure => simp [intOf] <;> (have := HLT.out; omega)
      · replace HQ := Lib.hid (HQ.out (by omega))
        go_upto_block 2 with fail
        go_cut [] (fun wc => ∃ (o1' o2' : Value) (tl' : List FieldL) (m' : Int), Hid (TwoR wc w.heap.size g1 o1' k1 tl' m' B2 g2 o2' tl' m') ∧ Hid (Room tl' m') ∧ Hid (Aft w wc ∧ B2 ≤ wc.heap.size))
        case first =>
          by_cases hk1 : kd = 1
          · subst hk1
            go_wp2_with fail
            refine (one_add HTX.out q.f _ HFV.out HQ.out HS.out HAX.out (Nat.le_refl _) HZX.out.1).mono ?_
            rintro e w4 ⟨rfl, o1', h4, a4, c4⟩
            have H4 := Lib.hid h4
            have A4 := Lib.hid a4
            have HZ4 := Lib.hid (Nat.le_trans HZX.out.2 c4.size)
            have HB4 := Lib.hid (HBX.out.chg c4 HNX.out.1)
            clear h4 a4 c4 y0 y1 y2 y3
            obtain ⟨y0, y1, y2, y3⟩ := HB4.out.cells
            go_wp2_with fail
            refine (two_radd H4.out q.f _ HFV.out HQ.out HS.out A4.out HB2.out.1 HZ4.out).mono ?_
            rintro e w5 ⟨rfl, o2', h5, r5, a5, c5⟩
            have H5 := Lib.hid h5
            have R5 := Lib.hid r5
            have A5 := Lib.hid a5
            have HZ5 := Lib.hid (Nat.le_trans HZ4.out c5.size)
            clear h5 r5 a5 c5 y0 y1 y2 y3
            go_wp2_with fail
            go_meet
            exact ⟨_, _, _, _, H5, R5, Lib.hid ⟨A5.out, HZ5.out⟩⟩
          · have n1 : (kd == 1) = false := by simpa using hk1
            clear hk1
            by_cases hk2 : kd = 2
            · subst hk2
              go_upto_region 15 with fail
              have hTd := HTX.out.aft ((Aft.refl wx).drew)
              have hAd : Aft w wx.drew := HAX.out.drew
              have hZd : w.heap.size ≤ wx.drew.heap.size ∧ B2 ≤ wx.drew.heap.size := HZX.out
              have hBd := HBX.out.aft ((Aft.refl wx).drew)
              refine wp_region_held_drew (S := fun w' => AB4 w' gx 2 nn X Y) (by kernel_rfl) hBd (fun hHeld => ?_)
              refine wpAnyH_take (i := 0) (oi := { dst := some 84, op := Go.Op.move (Go.Operand.tmp 5), type := 22, pos := _, after := _, guard := _ }) (v := ?_) rfl (by kernel_rfl) (by kernel_rfl) (by kernel_rfl) (fun _ _ _ h => h) (Or.inl ⟨by rfl, ?_⟩) (by exact hHeld) ?_
              rotate_left
              · intro w hSw; go_simp; try with_reducible rfl
              try simp only [Act.put]
              try simp only [List.setIfInBounds_toArray]
              try simp only [List.set]
              refine wpAnyH_take (i := 1) (oi := { dst := some 85, op := Go.Op.fieldAddr 39 (Go.Operand.tmp 10) 1, type := 0, pos := _, after := _, guard := _ }) (v := ?_) rfl (by kernel_rfl) (by kernel_rfl) (by kernel_rfl) (fun _ _ _ h => h) (Or.inl ⟨by rfl, ?_⟩) (by exact hHeld) ?_
              rotate_left
              · intro w hSw; go_simp; try with_reducible rfl
              try simp only [Act.put]
              try simp only [List.setIfInBounds_toArray]
              try simp only [List.set]
              refine wpAnyH_take (i := 2) (oi := { dst := some 86, op := Go.Op.load 3 (Go.Operand.tmp 85), type := 3, pos := _, after := _, guard := _ }) (v := ?_) rfl (by kernel_rfl) (by kernel_rfl) (by kernel_rfl) (fun _ _ _ h => h) (Or.inl ⟨by rfl, ?_⟩) (by exact hHeld) ?_
              rotate_left
              · intro w hSw; obtain ⟨la0, la1, la2, la3⟩ := AB4.cells hSw; go_simp; try with_reducible rfl
              try simp only [Act.put]
              try simp only [List.setIfInBounds_toArray]
              try simp only [List.set]
              refine wpAnyH_take (i := 4) (oi := { dst := some 88, op := Go.Op.move (Go.Operand.tmp 7), type := 43, pos := _, after := _, guard := _ }) (v := ?_) rfl (by kernel_rfl) (by kernel_rfl) (by kernel_rfl) (fun _ _ _ h => h) (Or.inl ⟨by rfl, ?_⟩) (by exact hHeld) ?_
              rotate_left
              · intro w hSw; go_simp; try with_reducible rfl
              try simp only [Act.put]
              try simp only [List.setIfInBounds_toArray]
              try simp only [List.set]
              refine wpAnyH_take (i := 5) (oi := { dst := some 89, op := Go.Op.fieldAddr 39 (Go.Operand.tmp 10) 1, type := 0, pos := _, after := _, guard := _ }) (v := ?_) rfl (by kernel_rfl) (by kernel_rfl) (by kernel_rfl) (fun _ _ _ h => h) (Or.inl ⟨by rfl, ?_⟩) (by exact hHeld) ?_
              rotate_left
              · intro w hSw; go_simp; try with_reducible rfl
              try simp only [Act.put]
              try simp only [List.setIfInBounds_toArray]
              try simp only [List.set]
              refine wpAnyH_take (i := 6) (oi := { dst := some 90, op := Go.Op.load 3 (Go.Operand.tmp 89), type := 3, pos := _, after := _, guard := _ }) (v := ?_) rfl (by kernel_rfl) (by kernel_rfl) (by kernel_rfl) (fun _ _ _ h => h) (Or.inl ⟨by rfl, ?_⟩) (by exact hHeld) ?_
              rotate_left
              · intro w hSw; obtain ⟨la0, la1, la2, la3⟩ := AB4.cells hSw; go_simp; try with_reducible rfl
              try simp only [Act.put]
              try simp only [List.setIfInBounds_toArray]
              try simp only [List.set]
              refine wpAnyH_ready (rs := [3]) (by kernel_rfl) (by simp) ?_
              refine AllReadyH.cons (o := { dst := some 87, op := Go.Op.call { callee := Go.Callee.value (Go.Operand.func 24), args := #[Go.Operand.tmp 84, Go.Operand.tmp 86], argTypes := #[22, 3] }, type := 23, pos := _, after := _, guard := _ }) rfl (fun K hK => ?_) AllReadyH.nil
              go_simp
              go_at_call 24
              refine (one_resize hTd nn HS.out hAd (Nat.le_refl _) hZd.1).mono ?_
              rintro e w5 ⟨rfl, o1', h5, a5, c5⟩
              have hS2 := AB4.chg hHeld c5 HNX.out.1
              have hz5 := Nat.le_trans hZd.2 c5.size
              clear c5
              clear hHeld
              refine hK.out _ _ hS2 (fun hHeld => ?_)
              clear hK K hS2
              try simp only [Act.put]
              try simp only [List.setIfInBounds_toArray]
              try simp only [List.set]
              refine wpAnyH_ready (rs := [7]) (by kernel_rfl) (by simp) ?_
              refine AllReadyH.cons (o := { dst := some 91, op := Go.Op.call { callee := Go.Callee.value (Go.Operand.func 30), args := #[Go.Operand.tmp 88, Go.Operand.tmp 90], argTypes := #[43, 3] }, type := 3, pos := _, after := _, guard := _ }) rfl (fun K hK => ?_) AllReadyH.nil
              go_simp
              go_at_call 30
              refine (two_rresize h5 nn HS.out a5 HB2.out.1 hz5).mono ?_
              rintro e w6 ⟨rfl, o2', h6, r6, a6, c6⟩
              have hS2 := AB4.chg hHeld c6 HNX.out.2
              have hz6 := Nat.le_trans hz5 c6.size
              clear c6
              clear hHeld
              refine hK.out _ _ hS2 (fun hHeld => ?_)
              clear hK K hS2
              try simp only [Act.put]
              try simp only [List.setIfInBounds_toArray]
              try simp only [List.set]
              refine wpAnyH_take (i := 8) (oi := { dst := some 92, op := Go.Op.binOp Go.BinOp.neq 3 (Go.Operand.tmp 87) (Go.Operand.tmp 91) 3, type := 4, pos := _, after := _, guard := _ }) (v := ?_) rfl (by kernel_rfl) (by kernel_rfl) (by kernel_rfl) (fun _ _ _ h => h) (Or.inl ⟨by rfl, ?_⟩) (by exact hHeld) ?_
              rotate_left
              · intro w hSw; go_simp; try with_reducible rfl
              try simp only [Act.put]
              try simp only [List.setIfInBounds_toArray]
              try simp only [List.set]
              refine wpAnyH_done (by kernel_rfl) ?_ _
              have H6 := Lib.hid h6
              have R6 := Lib.hid r6
              have A6 := Lib.hid (And.intro a6 hz6)
              clear h6 r6 a6 hz6 h5 a5 hz5 hHeld hTd hAd hZd hBd y0 y1 y2 y3
              go_wp2_with fail
              go_meet
              exact ⟨_, _, _, _, H6, R6, A6⟩
            · have n2 : (kd == 2) = false := by simpa using hk2
              clear hk2
              by_cases hk3 : kd = 3
              · subst hk3
                have HLE := Lib.hid HS.out.len
                have HG1 := Lib.hid (fun w' (h' : TwoR w' w.heap.size g1 o1 k1 tl m B2 g2 o2 tl m) => tget_any nn HNB.out.1 HNB.out.2 h'.a)
                have HG2 := Lib.hid (fun w' (h' : TwoR w' w.heap.size g1 o1 k1 tl m B2 g2 o2 tl m) => rget_any nn HNB.out.1 HNB.out.2 h'.b HLE.out)
                generalize getF tl nn = x at HG1 HG2
                generalize getB tl nn = xb at HG1 HG2
                obtain ⟨x1, x2⟩ := x
                unfold fieldV at HG1 HG2
                simp only at HG1 HG2
                obtain ⟨X', hX⟩ : ∃ X : ByteArray, (⟨x1.toArray⟩ : ByteArray) = X := ⟨_, rfl⟩
                obtain ⟨Y', hY⟩ : ∃ Y : ByteArray, (⟨x2.toArray⟩ : ByteArray) = Y := ⟨_, rfl⟩
                rw [hX, hY] at HG1 HG2
                clear hX hY
                go_wp2_with fail
                refine (HG1.out _ HTX.out).mono ?_
                rintro e w6 ⟨rfl, a6⟩
                have HX6 := Lib.hid (a6.alloc (.cells #[.string X', .string Y'] 28))
                have hx6 : FB2 (w6.alloc (.cells #[.string X', .string Y'] 28)) w6.heap.size X' Y' := heap_alloc_new w6 _
                have HB6 := Lib.hid hx6
                clear a6 hx6 HG1 y0 y1 y2 y3
                go_upto_region 19 with fail
                generalize w6.heap.size = gy at HB6 ⊢
                generalize w6.alloc (.cells #[.string X', .string Y'] 28) = W6 at HX6 HB6 ⊢
                obtain ⟨y0, y1, y2, y3⟩ := (HBX.out.aft HX6.out).cells
                go_wp2_with fail
                refine (HG2.out _ (HTX.out.aft HX6.out)).mono ?_
                rintro e w8 ⟨rfl, a8⟩
                have HX8 := Lib.hid (HX6.out.trans (a8.alloc (.cells #[.string X', .string Y'] 28)))
                have hx8 : FB2 (w8.alloc (.cells #[.string X', .string Y'] 28)) w8.heap.size X' Y' := heap_alloc_new w8 _
                have HB8 := Lib.hid hx8
                have HB9 := Lib.hid ((HB6.out.aft a8).aft ((Aft.refl w8).alloc (.cells #[.string X', .string Y'] 28)))
                clear a8 hx8 HG2 HX6 HB6 y0 y1 y2 y3
                go_upto_region 20 with fail
                generalize w8.heap.size = gh at HB8 ⊢
                generalize w8.alloc (.cells #[.string X', .string Y'] 28) = W8 at HX8 HB8 HB9 ⊢
                obtain ⟨z0, z1⟩ := HB8.out.cells
                obtain ⟨u0, u1⟩ := HB9.out.cells
                go_wp2_with fail
                go_meet
                exact ⟨o1, o2, tl, m, Lib.hid (HTX.out.aft HX8.out), HS, Lib.hid ⟨HAX.out.trans HX8.out, Nat.le_trans HZX.out.2 HX8.out.size⟩⟩
              · have n3 : (kd == 3) = false := by simpa using hk3
                clear hk3
                by_cases hk4 : kd = 4
                · subst hk4
                  have HLE := Lib.hid HS.out.len
                  have HG1 := Lib.hid (fun w' (h' : TwoR w' w.heap.size g1 o1 k1 tl m B2 g2 o2 tl m) => tfind_any q.f h'.a HLE.out)
                  have HG2 := Lib.hid (fun w' (h' : TwoR w' w.heap.size g1 o1 k1 tl m B2 g2 o2 tl m) => rfind_any q.f h'.b HLE.out)
                  generalize (findF tl q.f).1 = x at HG1 HG2
                  generalize (findF tl q.f).2 = xb at HG1 HG2
                  rw [HFV.out] at HG1 HG2
                  go_wp2_with fail
                  refine (HG1.out _ HTX.out).mono ?_
                  rintro e w6 ⟨rfl, a6⟩
                  have HX6 := Lib.hid a6
                  clear a6 HG1 y0 y1 y2 y3
                  obtain ⟨y0, y1, y2, y3⟩ := (HBX.out.aft HX6.out).cells
                  go_wp2_with fail
                  refine (HG2.out _ (HTX.out.aft HX6.out)).mono ?_
                  rintro e w8 ⟨rfl, a8⟩
                  have HX8 := Lib.hid (HX6.out.trans a8)
                  clear a8 HG2 HX6 y0 y1 y2 y3
                  go_wp2_with fail
                  go_meet
                  exact ⟨o1, o2, tl, m, Lib.hid (HTX.out.aft HX8.out), HS, Lib.hid ⟨HAX.out.trans HX8.out, Nat.le_trans HZX.out.2 HX8.out.size⟩⟩
                · have n4 : (kd == 4) = false := by simpa using hk4
                  clear hk4
                  go_wp2_with fail
                  go_meet
                  exact ⟨o1, o2, tl, m, HTX, HS, Lib.hid ⟨HAX.out, HZX.out.2⟩⟩
        case rest =>
          obtain ⟨o1', o2', tl', m', HT5, R5, HA5⟩ := hcut
          clear HBX HTX HAX HZX HNX HS HQ HFV HNB y0 y1 y2 y3 gXY hbig
          obtain ⟨ra, rg, rk, hoe, ho1, ho2, hop, hoc⟩ := HT5.out.b.own.form
          subst hoe
          unfold maxLen at ho2
          have HOP := Lib.hid hop
          have HOC := Lib.hid hoc
          have HLE := Lib.hid R5.out.len
          have HSU : Hid (sumF tl' ≤ 1000000000000) := Lib.hid (by have := R5.out.1; have := R5.out.2.2; omega)
          have HSZ := Lib.hid (fun w' (a : Aft wc w') => tsize_any (HT5.out.aft a).a)
          have HSR := Lib.hid (fun w' (a : Aft wc w') => rsize_any (HT5.out.aft a).b HSU.out)
          have HLN := Lib.hid (fun w' (a : Aft wc w') => tlen_any (HT5.out.aft a).a)
          have HMO := Lib.hid (fun w' (a : Aft wc w') => tmost_any (HT5.out.aft a).a)
          have HRC := Lib.hid (fun w' (a : Aft wc w') => And.intro (HT5.out.aft a).b.cells.1 (HT5.out.aft a).b.cells.2.1)
          obtain ⟨nl, hnl⟩ : ∃ n, tl'.length = n := ⟨_, rfl⟩
          have HNL := Lib.hid hnl
          rw [hnl] at HLN HRC ho1
          generalize (sumF tl' : Int) = su at HSZ HSR
          clear hop hoc hnl
          go_upto_region 27 with fail
          refine wp_region_held_drew (S := fun w' => Aft wc w') (by kernel_rfl) ((Aft.refl wc).drew) (fun hHeld => ?_)
          refine wpAnyH_take (i := 0) (oi := { dst := some 141, op := Go.Op.move (Go.Operand.tmp 5), type := 22, pos := _, after := _, guard := _ }) (v := ?_) rfl (by kernel_rfl) (by kernel_rfl) (by kernel_rfl) (fun _ _ _ h => h) (Or.inl ⟨by rfl, ?_⟩) (by exact hHeld) ?_
          rotate_left
          · intro w hSw; go_simp; try with_reducible rfl
          try simp only [Act.put]
          try simp only [List.setIfInBounds_toArray]
          try simp only [List.set]
          refine wpAnyH_take (i := 2) (oi := { dst := some 143, op := Go.Op.move (Go.Operand.tmp 7), type := 43, pos := _, after := _, guard := _ }) (v := ?_) rfl (by kernel_rfl) (by kernel_rfl) (by kernel_rfl) (fun _ _ _ h => h) (Or.inl ⟨by rfl, ?_⟩) (by exact hHeld) ?_
          rotate_left
          · intro w hSw; go_simp; try with_reducible rfl
          try simp only [Act.put]
          try simp only [List.setIfInBounds_toArray]
          try simp only [List.set]
          refine wpAnyH_take (i := 3) (oi := { dst := some 144, op := Go.Op.nilCheck (Go.Operand.tmp 143), type := 0, pos := _, after := _, guard := _ }) (v := ?_) rfl (by kernel_rfl) (by kernel_rfl) (by kernel_rfl) (fun _ _ _ h => h) (Or.inl ⟨by rfl, ?_⟩) (by exact hHeld) ?_
          rotate_left
          · intro w hSw; go_simp; try with_reducible rfl
          try simp only [Act.put]
          try simp only [List.setIfInBounds_toArray]
          try simp only [List.set]
          refine wpAnyH_take (i := 4) (oi := { dst := some 145, op := Go.Op.fieldAddr 49 (Go.Operand.tmp 144) 0, type := 0, pos := _, after := _, guard := _ }) (v := ?_) rfl (by kernel_rfl) (by kernel_rfl) (by kernel_rfl) (fun _ _ _ h => h) (Or.inl ⟨by rfl, ?_⟩) (by exact hHeld) ?_
          rotate_left
          · intro w hSw; go_simp; try with_reducible rfl
          try simp only [Act.put]
          try simp only [List.setIfInBounds_toArray]
          try simp only [List.set]
          refine wpAnyH_take (i := 5) (oi := { dst := some 146, op := Go.Op.load 47 (Go.Operand.tmp 145), type := 47, pos := _, after := _, guard := _ }) (v := ?_) rfl (by kernel_rfl) (by kernel_rfl) (by kernel_rfl) (fun _ _ _ h => h) (Or.inl ⟨by rfl, ?_⟩) (by exact hHeld) ?_
          rotate_left
          · intro w hSw; obtain ⟨la0, la1⟩ := HRC.out _ hSw; go_simp; try with_reducible rfl
          try simp only [Act.put]
          try simp only [List.setIfInBounds_toArray]
          try simp only [List.set]
          refine wpAnyH_take (i := 6) (oi := { dst := some 147, op := Go.Op.call { callee := Go.Callee.builtin Go.Builtin.len, args := #[Go.Operand.tmp 146], argTypes := #[47] }, type := 3, pos := _, after := _, guard := _ }) (v := ?_) rfl (by kernel_rfl) (by kernel_rfl) (by kernel_rfl) (fun _ _ _ h => h) (Or.inl ⟨by rfl, ?_⟩) (by exact hHeld) ?_
          rotate_left
          · intro w hSw; go_simp; try with_reducible rfl
          try simp only [Act.put]
          try simp only [List.setIfInBounds_toArray]
          try simp only [List.set]
          refine wpAnyH_ready (rs := [1]) (by kernel_rfl) (by simp) ?_
          refine AllReadyH.cons (o := { dst := some 142, op := Go.Op.call { callee := Go.Callee.value (Go.Operand.func 23), args := #[Go.Operand.tmp 141], argTypes := #[22] }, type := 3, pos := _, after := _, guard := _ }) rfl (fun K hK => ?_) AllReadyH.nil
          go_simp
          go_at_call 23
          refine (HLN.out _ hHeld).mono ?_
          rintro e w6 ⟨rfl, rfl⟩
          have hS2 := hHeld
          clear hHeld
          refine hK.out _ _ hS2 (fun hHeld => ?_)
          clear hK K hS2
          try simp only [Act.put]
          try simp only [List.setIfInBounds_toArray]
          try simp only [List.set]
          refine wpAnyH_take (i := 7) (oi := { dst := some 148, op := Go.Op.binOp Go.BinOp.neq 3 (Go.Operand.tmp 142) (Go.Operand.tmp 147) 3, type := 4, pos := _, after := _, guard := _ }) (v := ?_) rfl (by kernel_rfl) (by kernel_rfl) (by kernel_rfl) (fun _ _ _ h => h) (Or.inl ⟨by rfl, ?_⟩) (by exact hHeld) ?_
          rotate_left
          · intro w hSw; go_simp; try with_reducible rfl
          try simp only [Act.put]
          try simp only [List.setIfInBounds_toArray]
          try simp only [List.set]
          refine wpAnyH_take (i := 8) (oi := { dst := some 149, op := Go.Op.move (Go.Operand.tmp 148), type := 4, pos := _, after := _, guard := _ }) (v := ?_) rfl (by kernel_rfl) (by kernel_rfl) (by kernel_rfl) (fun _ _ _ h => h) (Or.inl ⟨by rfl, ?_⟩) (by exact hHeld) ?_
          rotate_left
          · intro w hSw; go_simp; try with_reducible rfl
          try simp only [Act.put]
          try simp only [List.setIfInBounds_toArray]
          try simp only [List.set]
          refine wpAnyH_take (i := 9) (oi := { dst := some 150, op := Go.Op.move (Go.Operand.tmp 5), type := 22, pos := _, after := _, guard := _ }) (v := ?_) rfl (by kernel_rfl) (by kernel_rfl) (by kernel_rfl) (fun _ _ _ h => h) (Or.inl ⟨by rfl, ?_⟩) (by exact hHeld) ?_
          rotate_left
          · intro w hSw; go_simp; try with_reducible rfl
          try simp only [Act.put]
          try simp only [List.setIfInBounds_toArray]
          try simp only [List.set]
          refine wpAnyH_take (i := 11) (oi := { dst := some 152, op := Go.Op.move (Go.Operand.tmp 7), type := 43, pos := _, after := _, guard := _ }) (v := ?_) rfl (by kernel_rfl) (by kernel_rfl) (by kernel_rfl) (fun _ _ _ h => h) (Or.inl ⟨by rfl, ?_⟩) (by exact hHeld) ?_
          rotate_left
          · intro w hSw; go_simp; try with_reducible rfl
          try simp only [Act.put]
          try simp only [List.setIfInBounds_toArray]
          try simp only [List.set]
          refine wpAnyH_ready (rs := [10]) (by kernel_rfl) (by simp) ?_
          refine AllReadyH.cons (o := { dst := some 151, op := Go.Op.call { callee := Go.Callee.value (Go.Operand.func 22), args := #[Go.Operand.tmp 150], argTypes := #[22] }, type := 3, pos := _, after := _, guard := _ }) rfl (fun K hK => ?_) AllReadyH.nil
          go_simp
          go_at_call 22
          refine (HSZ.out _ hHeld).mono ?_
          rintro e w6 ⟨rfl, rfl⟩
          have hS2 := hHeld
          clear hHeld
          refine hK.out _ _ hS2 (fun hHeld => ?_)
          clear hK K hS2
          try simp only [Act.put]
          try simp only [List.setIfInBounds_toArray]
          try simp only [List.set]
          refine wpAnyH_ready (rs := [12]) (by kernel_rfl) (by simp) ?_
          refine AllReadyH.cons (o := { dst := some 153, op := Go.Op.call { callee := Go.Callee.value (Go.Operand.func 33), args := #[Go.Operand.tmp 152], argTypes := #[43] }, type := 3, pos := _, after := _, guard := _ }) rfl (fun K hK => ?_) AllReadyH.nil
          go_simp
          go_at_call 33
          refine (HSR.out _ hHeld).mono ?_
          rintro e w7 ⟨rfl, a7⟩
          have hS2 := hHeld.trans a7
          clear a7
          clear hHeld
          refine hK.out _ _ hS2 (fun hHeld => ?_)
          clear hK K hS2
          try simp only [Act.put]
          try simp only [List.setIfInBounds_toArray]
          try simp only [List.set]
          refine wpAnyH_take (i := 13) (oi := { dst := some 154, op := Go.Op.binOp Go.BinOp.neq 3 (Go.Operand.tmp 151) (Go.Operand.tmp 153) 3, type := 4, pos := _, after := _, guard := _ }) (v := ?_) rfl (by kernel_rfl) (by kernel_rfl) (by kernel_rfl) (fun _ _ _ h => h) (Or.inl ⟨by rfl, ?_⟩) (by exact hHeld) ?_
          rotate_left
          · intro w hSw; go_simp; try with_reducible rfl
          try simp only [Act.put]
          try simp only [List.setIfInBounds_toArray]
          try simp only [List.set]
          refine wpAnyH_take (i := 14) (oi := { dst := some 155, op := Go.Op.pick (Go.Operand.tmp 149) (Go.Operand.const (Go.Value.bool true)) (Go.Operand.tmp 154), type := 4, pos := _, after := _, guard := _ }) (v := ?_) rfl (by kernel_rfl) (by kernel_rfl) (by kernel_rfl) (fun _ _ _ h => h) (Or.inl ⟨by rfl, ?_⟩) (by exact hHeld) ?_
          rotate_left
          · intro w hSw; go_simp; try with_reducible rfl
          try simp only [Act.put]
          try simp only [List.setIfInBounds_toArray]
          try simp only [List.set]
          refine wpAnyH_take (i := 15) (oi := { dst := some 156, op := Go.Op.move (Go.Operand.tmp 155), type := 4, pos := _, after := _, guard := _ }) (v := ?_) rfl (by kernel_rfl) (by kernel_rfl) (by kernel_rfl) (fun _ _ _ h => h) (Or.inl ⟨by rfl, ?_⟩) (by exact hHeld) ?_
          rotate_left
          · intro w hSw; go_simp; try with_reducible rfl
          try simp only [Act.put]
          try simp only [List.setIfInBounds_toArray]
          try simp only [List.set]
          refine wpAnyH_take (i := 16) (oi := { dst := some 157, op := Go.Op.move (Go.Operand.tmp 5), type := 22, pos := _, after := _, guard := _ }) (v := ?_) rfl (by kernel_rfl) (by kernel_rfl) (by kernel_rfl) (fun _ _ _ h => h) (Or.inl ⟨by rfl, ?_⟩) (by exact hHeld) ?_
          rotate_left
          · intro w hSw; go_simp; try with_reducible rfl
          try simp only [Act.put]
          try simp only [List.setIfInBounds_toArray]
          try simp only [List.set]
          refine wpAnyH_take (i := 18) (oi := { dst := some 159, op := Go.Op.move (Go.Operand.tmp 7), type := 43, pos := _, after := _, guard := _ }) (v := ?_) rfl (by kernel_rfl) (by kernel_rfl) (by kernel_rfl) (fun _ _ _ h => h) (Or.inl ⟨by rfl, ?_⟩) (by exact hHeld) ?_
          rotate_left
          · intro w hSw; go_simp; try with_reducible rfl
          try simp only [Act.put]
          try simp only [List.setIfInBounds_toArray]
          try simp only [List.set]
          refine wpAnyH_take (i := 19) (oi := { dst := some 160, op := Go.Op.nilCheck (Go.Operand.tmp 159), type := 0, pos := _, after := _, guard := _ }) (v := ?_) rfl (by kernel_rfl) (by kernel_rfl) (by kernel_rfl) (fun _ _ _ h => h) (Or.inl ⟨by rfl, ?_⟩) (by exact hHeld) ?_
          rotate_left
          · intro w hSw; go_simp; try with_reducible rfl
          try simp only [Act.put]
          try simp only [List.setIfInBounds_toArray]
          try simp only [List.set]
          refine wpAnyH_take (i := 20) (oi := { dst := some 161, op := Go.Op.fieldAddr 49 (Go.Operand.tmp 160) 1, type := 0, pos := _, after := _, guard := _ }) (v := ?_) rfl (by kernel_rfl) (by kernel_rfl) (by kernel_rfl) (fun _ _ _ h => h) (Or.inl ⟨by rfl, ?_⟩) (by exact hHeld) ?_
          rotate_left
          · intro w hSw; go_simp; try with_reducible rfl
          try simp only [Act.put]
          try simp only [List.setIfInBounds_toArray]
          try simp only [List.set]
          refine wpAnyH_take (i := 21) (oi := { dst := some 162, op := Go.Op.load 3 (Go.Operand.tmp 161), type := 3, pos := _, after := _, guard := _ }) (v := ?_) rfl (by kernel_rfl) (by kernel_rfl) (by kernel_rfl) (fun _ _ _ h => h) (Or.inl ⟨by rfl, ?_⟩) (by exact hHeld) ?_
          rotate_left
          · intro w hSw; obtain ⟨la0, la1⟩ := HRC.out _ hSw; go_simp; try with_reducible rfl
          try simp only [Act.put]
          try simp only [List.setIfInBounds_toArray]
          try simp only [List.set]
          refine wpAnyH_ready (rs := [17]) (by kernel_rfl) (by simp) ?_
          refine AllReadyH.cons (o := { dst := some 158, op := Go.Op.call { callee := Go.Callee.value (Go.Operand.func 34), args := #[Go.Operand.tmp 157], argTypes := #[22] }, type := 3, pos := _, after := _, guard := _ }) rfl (fun K hK => ?_) AllReadyH.nil
          go_simp
          go_at_call 34
          refine (HMO.out _ hHeld).mono ?_
          rintro e w8 ⟨rfl, rfl⟩
          have hS2 := hHeld
          clear hHeld
          refine hK.out _ _ hS2 (fun hHeld => ?_)
          clear hK K hS2
          try simp only [Act.put]
          try simp only [List.setIfInBounds_toArray]
          try simp only [List.set]
          refine wpAnyH_take (i := 22) (oi := { dst := some 163, op := Go.Op.binOp Go.BinOp.neq 3 (Go.Operand.tmp 158) (Go.Operand.tmp 162) 3, type := 4, pos := _, after := _, guard := _ }) (v := ?_) rfl (by kernel_rfl) (by kernel_rfl) (by kernel_rfl) (fun _ _ _ h => h) (Or.inl ⟨by rfl, ?_⟩) (by exact hHeld) ?_
          rotate_left
          · intro w hSw; go_simp; try with_reducible rfl
          try simp only [Act.put]
          try simp only [List.setIfInBounds_toArray]
          try simp only [List.set]
          refine wpAnyH_take (i := 23) (oi := { dst := some 164, op := Go.Op.pick (Go.Operand.tmp 156) (Go.Operand.const (Go.Value.bool true)) (Go.Operand.tmp 163), type := 4, pos := _, after := _, guard := _ }) (v := ?_) rfl (by kernel_rfl) (by kernel_rfl) (by kernel_rfl) (fun _ _ _ h => h) (Or.inl ⟨by rfl, ?_⟩) (by exact hHeld) ?_
          rotate_left
          · intro w hSw; go_simp; try with_reducible rfl
          try simp only [Act.put]
          try simp only [List.setIfInBounds_toArray]
          try simp only [List.set]
          refine wpAnyH_done (by kernel_rfl) ?_ _
          go_wp2_with fail
          go_loopw [19] (fun v19 wy => ∃ k : Nat, k ≤ nl ∧ v19 = .int .i64 (k : Int) ∧ Hid (Aft wc wy)) (fun v19 _ => nl - (intOf v19).toNat)
          case atStart => exact ⟨0, by omega, by go_num, Lib.hid hHeld⟩
          case round =>
            obtain ⟨k, hk, rfl, HX⟩ := hrel
            obtain ⟨la0, la1⟩ := HRC.out _ HX.out
            by_cases hin : k < nl
            · have hjl : k < tl'.length := by rw [HNL.out]; exact hin
              obtain ⟨hg, hgb⟩ := getF_own tl' k hjl
              have HGA := Lib.hid (get_is ((k : Int) + 62) (fieldV tl'[k]) true (by omega) (by have := HLE.out; omega) (HT5.out.aft HX.out).a (by rw [hg]) hgb)
              obtain ⟨x0, x1⟩ := HOC.out k hjl
              have hne2 : tl' ≠ [] := by intro e; rw [e] at hjl; simp at hjl
              obtain ⟨hra, hog⟩ := HOP.out hne2
              have HXX := Lib.hid (fun wx (a : Aft wc wx) => And.intro ((Below.cell a.to (p := ⟨rg, k * 2, none⟩) hog).trans x0) ((Below.cell a.to (p := ⟨rg, k * 2 + 1, none⟩) hog).trans x1))
              clear hg hgb x0 x1 hne2 hog
              generalize tl'[k] = x at HGA HXX
              obtain ⟨x1, x2⟩ := x
              unfold fieldV at HGA
              unfold strV at HXX
              simp only at HGA HXX
              obtain ⟨X', hX⟩ : ∃ X : ByteArray, (⟨x1.toArray⟩ : ByteArray) = X := ⟨_, rfl⟩
              obtain ⟨Y', hY⟩ : ∃ Y : ByteArray, (⟨x2.toArray⟩ : ByteArray) = Y := ⟨_, rfl⟩
              rw [hX, hY] at HGA HXX
              have HIN := Lib.hid hin
              have hii : (k : Int) < (nl : Int) := by omega
              have hi2 : ¬ ((k : Int) ≥ (nl : Int)) := by omega
              have g62 : IntKind.i64.wrap (62 + (k : Int)) = (k : Int) + 62 := (IntWalk.i64_in _ (by have := HLE.out; have := HNL.out; omega)).trans (Int.add_comm _ _)
              have HG63 : Hid (wrap64 ((k : Int) + 1) = (k : Int) + 1) := Lib.hid (IntWalk.wrap64_in _ ⟨by omega, by have := HLE.out; have := HNL.out; omega⟩)
              subst hra
              clear hX hY hin hjl
              go_wp2_with fail
              refine HGA.out.mono ?_
              rintro e w7 ⟨rfl, a7⟩
              have HX7 := Lib.hid (HX.out.trans (a7.alloc (.cells #[.string X', .string Y'] 28)))
              have hx7 : FB2 (w7.alloc (.cells #[.string X', .string Y'] 28)) w7.heap.size X' Y' := heap_alloc_new w7 _
              have HB7 := Lib.hid hx7
              clear a7 hx7 HGA la0 la1
              go_upto_region 33 with fail
              generalize w7.heap.size = gy at HB7 ⊢
              generalize w7.alloc (.cells #[.string X', .string Y'] 28) = W7 at HX7 HB7 ⊢
              obtain ⟨z0, z1⟩ := HB7.out.cells
              obtain ⟨la0, la1⟩ := HRC.out _ HX7.out
              obtain ⟨u0, u1⟩ := HXX.out _ HX7.out
              go_quiet (fail)
              go_wp2_with fail
              go_roundw
              case rel => exact ⟨k + 1, HIN.out, by (try rw [HG63.out]); exact congrArg (Value.int .i64) (by push_cast; omega), Lib.hid (HX7.out.drewN _)⟩
              case measure => (try rw [HG63.out]); exact meas_bnd _ _ HIN.out
            · have hii : ¬ ((k : Int) < (nl : Int)) := by omega
              clear hin
              go_wp2_with fail
              go_roundw
              case rel => exact ⟨i + 1, o1', _, tl', m', by have := HLT.out; omega, by go_num, Lib.hid (HT5.out.aft HX.out), R5, Lib.hid ⟨HA5.out.1.trans HX.out, Nat.le_trans HA5.out.2 HX.out.size⟩⟩
              case measure => simp [intOf] <;> (have := HLT.out; omega)
    · have HC9 : Hid (¬ (i < l.length ∧ i < 60)) := Lib.hid hlt
      have hstop : ((i : Int) < (l.length : Int)) → ¬ ((i : Int) < 60) := fun h1 h2 => HC9.out ⟨by omega, by omega⟩
      have hcs : ((i : Int) < (l.length : Int) ∧ ¬ ((i : Int) < 60)) ∨ ¬ ((i : Int) < (l.length : Int)) := by
        by_cases h1 : (i : Int) < (l.length : Int)
        · exact Or.inl ⟨h1, hstop h1⟩
        · exact Or.inr h1
      have HMR : Hid (MaxOk wr) := Lib.hid (HM.out.aft HA.out.1)
      clear hstop HC9 HCELL HOK hlt HS
      rcases hcs with ⟨h1, h2⟩ | h1
      all_goals
        go_wp2_with fail
        refine (tblruns_any _ HMR.out).mono ?_
        rintro e w11 ⟨rfl, a11⟩
        go_wp2_with fail
        go_ret
        exact ⟨rfl, HA.out.1.trans a11⟩

set_option maxRecDepth 100000 in
theorem walkTablePlays (w : World) (hsh : w.ShapedOpen Tryd.prog) {H : Type} {enc : TypeId × Value → H} {base : Nat} {v1 : Value} {d1 : DataW H} {p1 : List MemPlace} (a0 : Int) (w0 : (Lit.int .i64 a0).wf = true)
    (hval1 : Value.okWide Tryd.prog w .any base 36 v1) (k1 : DataW.Trod enc Tryd.prog w 0 (fun _ => true) true 36 v1 d1 p1) (hk : (DataW.weightsEach Tryd.prog [3, 36] [(.lit (.int .i64 a0) : DataW H), d1]).all (· ≤ reachBytes) = true) :
    Calls Tryd.prog 5 #[.int .i64 a0, v1] w fun e w' => e = .returned (.bool true) ∧ Aft w w' := by
  obtain ⟨l, hr, hok, hl⟩ := open_asksR hval1 k1 (wt_at hk (j := 1) rfl rfl)
  by_cases h : 0 ≤ a0 ∧ a0 ≤ 65536
  · exact tblplays_yes a0 h.1 h.2 v1 l w (maxOk_of w hsh) hr hok hl
  · exact tblplays_no a0 h v1 l w (maxOk_of w hsh) hr hl

end Go.Proofs.YtmlnboibclfmcaaDoor
