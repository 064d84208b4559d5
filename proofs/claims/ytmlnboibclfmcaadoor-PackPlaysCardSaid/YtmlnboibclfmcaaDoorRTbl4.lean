/-
  The reference's table: Add, Resize. The reference's table: Get. The reference's table: Find.
-/
import Derived.Test.YtmlnboibclfmcaaDoorRTbl
import Derived.Test.YtmlnboibclfmcaaDoorTblTw0
namespace Go.Proofs.YtmlnboibclfmcaaDoor
open Go.RowKit
set_option linter.unusedVariables false

theorem rresize_no {w : World} {g : Nat} (m : Int) (hm : ¬ (0 ≤ m ∧ m ≤ 65536)) :
    Calls Tryd.prog 30 #[.pointer (some ⟨g, 0, none⟩), .int .i64 m] w fun e w' => e = .returned (.int .i64 1) ∧ w = w' := by
  by_cases h0 : m < 0
  · clear hm
    go_enter Tryd.func30, Tryd.ntmps30
    go_wp2_with fail
    go_ret
    exact ⟨rfl, rfl⟩
  · have h1 : m > 65536 := by omega
    clear hm
    go_enter Tryd.func30, Tryd.ntmps30
    go_wp2_with fail
    go_ret
    exact ⟨rfl, rfl⟩
theorem rresize_yes {w : World} {B g : Nat} {vo : Value} {l : List FieldL} {most : Int} (m : Int) (h : RTab w B g vo l most) (hs : sumF l ≤ 1000000000000) (hm0 : 0 ≤ m) (hm1 : m ≤ 65536) :
    Calls Tryd.prog 30 #[.pointer (some ⟨g, 0, none⟩), .int .i64 m] w fun e w' => e = .returned (.int .i64 0) ∧ ∃ vo', RTab w' B g vo' (fitF m l) m ∧ Chg (fun k => k = g) w w' ∧ ∀ k, vo'.ownBlock = some k → vo.ownBlock = some k := by
  have k0 : ¬ m < 0 := by omega
  have k1 : ¬ m > 65536 := by omega
  obtain ⟨c0, c1, f0, f1⟩ := h.cells
  have h3 := h.most m
  have hS := rfit_any 0 h3 hs (by omega)
  rw [Int.sub_zero] at hS
  have HS := Lib.hid hS
  have HC := Lib.hid ((Chg.refl (fun k => k = g) w).set g 1 (.int .i64 m) (Or.inl rfl))
  clear h hs hm0 hm1 h3 c0 hS
  go_enter Tryd.func30, Tryd.ntmps30
  go_wp2_with fail
  refine HS.out.mono ?_
  rintro e w2 ⟨rfl, vo', ht, hc, ho⟩
  have HT := Lib.hid ht
  have HC2 := Lib.hid (HC.out.trans hc (fun i hi => Or.inl hi))
  have HO := Lib.hid ho
  clear ht hc ho
  go_wp2_with fail
  go_ret
  exact ⟨rfl, vo', HT.out, HC2.out, HO.out⟩

set_option maxHeartbeats 4000000 in
theorem radd_any {w : World} {B g : Nat} {vo : Value} {l : List FieldL} {most : Int} (f : FieldL) (h : RTab w B g vo l most) (hs : (sumF l : Int) ≤ most) (hm0 : 0 ≤ most) (hm1 : most ≤ 65536) (hf : fsize f ≤ 1000000000000) (hB : B ≤ w.heap.size) :
    Calls Tryd.prog 29 #[.pointer (some ⟨g, 0, none⟩), fieldV f] w fun e w' => e = .returned (.tuple #[]) ∧ ∃ vo', RTab w' B g vo' (addF most f l) most ∧ Chg (TP g vo) w w' ∧ ∀ k, vo'.ownBlock = some k → vo.ownBlock = some k ∨ w.heap.size ≤ k := by
  obtain ⟨f1, f2'⟩ := f
  obtain ⟨n, hn⟩ : ∃ n, fsize (f1, f2') = n := ⟨_, rfl⟩
  have hBY := (fun w => rbytes_any (f1, f2') hf w)
  have hadd : addF most (f1, f2') l = if (n : Int) ≤ most then (f1, f2') :: fitF (most - n) l else fitF (most - n) l := by unfold addF; rw [hn]
  have hsm : ∀ x : FieldL, x = (f1, f2') → fsize x = n := fun x e => by rw [e]; exact hn
  unfold fieldV at hBY ⊢
  simp only at hBY ⊢
  rw [hn] at hBY hf
  obtain ⟨F, hF⟩ : ∃ F : ByteArray, (⟨f1.toArray⟩ : ByteArray) = F := ⟨_, rfl⟩
  obtain ⟨G, hG⟩ : ∃ G : ByteArray, (⟨f2'.toArray⟩ : ByteArray) = G := ⟨_, rfl⟩
  rw [hF, hG] at hBY ⊢
  have hfg : ((f1, f2') : FieldL) = (F.data.toList, G.data.toList) := by rw [← hF, ← hG]
  rw [hfg] at hadd
  have hsn : fsize (F.data.toList, G.data.toList) = n := by rw [← hfg]; exact hn
  rw [hfg]
  have HBY := Lib.hid hBY
  have HADD := Lib.hid hadd
  have HSN := Lib.hid hsn
  have hA1 : Aft w (w.alloc (.cells #[.string F, .string G] 28)) := (Aft.refl w).alloc _
  have hbx : FB (w.alloc (.cells #[.string F, .string G] 28)) w.heap.size [(F.data.toList, G.data.toList)] := by
    have := heap_alloc_new w (.cells #[.string F, .string G] 28)
    unfold FB
    simpa [fv, strV] using this
  have hgw := h.lt
  have hs' : sumF l ≤ 1000000000000 := by omega
  have h1 := h.aft hA1
  have H1 := Lib.hid h1
  have HBX := Lib.hid hbx
  have HA1 := Lib.hid hA1
  have HGW := Lib.hid hgw
  have HSS := Lib.hid hs
  have HS' := Lib.hid hs'
  have HB := Lib.hid hB
  obtain ⟨b, hb⟩ : ∃ b, w.heap.size = b := ⟨_, rfl⟩
  rw [hb] at HBX HGW HB
  have HBW := Lib.hid hb
  have HFC := Lib.hid (fun wx (hx : FB wx b [(F.data.toList, G.data.toList)]) => (by
    have bx := hx.cell (i := 0) (by simp)
    simpa only [Nat.zero_mul, Nat.zero_add, List.getElem_cons_zero, strV] using bx : wx.cell? ⟨b, 0, none⟩ = some (.string F) ∧ wx.cell? ⟨b, 1, none⟩ = some (.string G)))
  obtain ⟨bx0, bx1⟩ := HFC.out _ HBX.out
  have HM : Hid (most - (n : Int) ≤ 9000000000000000000 ∧ -9000000000000000000 ≤ most - (n : Int)) := Lib.hid (by omega)
  clear h hs hs' hB hn hadd hA1 hbx hgw h1 hb hBY hsm hF hG hfg hsn
  go_enter Tryd.func29, Tryd.ntmps29
  go_wp2_with fail
  rw [HBW.out]
  generalize w.alloc (.cells #[.string F, .string G] 28) = W at H1 HBX HA1 bx0 bx1 ⊢
  refine (HBY.out _).mono ?_
  rintro e w2 ⟨rfl, a2⟩
  have H2 := Lib.hid (H1.out.aft a2)
  have HA2 := Lib.hid (HA1.out.trans a2)
  have HBX2 := Lib.hid (HBX.out.aft a2)
  clear a2 bx0 bx1
  have HSH := Lib.hid (rfit_any (n : Int) H2.out HS'.out HM.out)
  go_wp2_with fail
  refine HSH.out.mono ?_
  rintro e w3 ⟨rfl, vo1, ht3, hc3, ho3⟩
  have hgb : b ≠ g := by have := HGW.out; omega
  have HFB3 := Lib.hid (HBX2.out.chg hc3 hgb)
  have HT3 := Lib.hid ht3
  have HC3 := Lib.hid ((Chg.of_aft (p := TP g vo) HA2.out).trans hc3 (fun i hi => Or.inl (Or.inl hi)))
  have HO3 := Lib.hid ho3
  clear ht3 hc3 ho3 HSH hgb H2 HBX2 H1 HBX
  go_wp2_with fail
  have HD0 : Aft w3 w3 := Aft.refl _
  refine wp_region_held_drew (S := fun wx => Aft w3 wx) (by kernel_rfl) ((Aft.refl _).drew) (fun hHeld => ?_)
  refine wpAnyH_take (i := 0) (oi := { dst := some 8, op := Go.Op.load 28 (Go.Operand.tmp 3), type := 28, pos := _, after := _, guard := _ }) (v := ?_) rfl (by kernel_rfl) (by kernel_rfl) (by kernel_rfl) (fun _ _ _ h => h) (Or.inl ⟨by rfl, ?_⟩) (by exact hHeld) ?_
  rotate_left
  · intro w hSw; obtain ⟨c0, c1, f0, f1⟩ := (HT3.out.aft hSw).cells; obtain ⟨bx0, bx1⟩ := HFC.out _ (HFB3.out.aft hSw); go_simp; try with_reducible rfl
  try simp only [Act.put]
  try simp only [List.setIfInBounds_toArray]
  try simp only [List.set]
  refine wpAnyH_take (i := 2) (oi := { dst := some 10, op := Go.Op.move (Go.Operand.tmp 0), type := 43, pos := _, after := _, guard := _ }) (v := ?_) rfl (by kernel_rfl) (by kernel_rfl) (by kernel_rfl) (fun _ _ _ h => h) (Or.inl ⟨by rfl, ?_⟩) (by exact hHeld) ?_
  rotate_left
  · intro w hSw; go_simp; try with_reducible rfl
  try simp only [Act.put]
  try simp only [List.setIfInBounds_toArray]
  try simp only [List.set]
  refine wpAnyH_take (i := 3) (oi := { dst := some 11, op := Go.Op.nilCheck (Go.Operand.tmp 10), type := 0, pos := _, after := _, guard := _ }) (v := ?_) rfl (by kernel_rfl) (by kernel_rfl) (by kernel_rfl) (fun _ _ _ h => h) (Or.inl ⟨by rfl, ?_⟩) (by exact hHeld) ?_
  rotate_left
  · intro w hSw; go_simp; try with_reducible rfl
  try simp only [Act.put]
  try simp only [List.setIfInBounds_toArray]
  try simp only [List.set]
  refine wpAnyH_take (i := 4) (oi := { dst := some 12, op := Go.Op.fieldAddr 49 (Go.Operand.tmp 11) 1, type := 0, pos := _, after := _, guard := _ }) (v := ?_) rfl (by kernel_rfl) (by kernel_rfl) (by kernel_rfl) (fun _ _ _ h => h) (Or.inl ⟨by rfl, ?_⟩) (by exact hHeld) ?_
  rotate_left
  · intro w hSw; go_simp; try with_reducible rfl
  try simp only [Act.put]
  try simp only [List.setIfInBounds_toArray]
  try simp only [List.set]
  refine wpAnyH_take (i := 5) (oi := { dst := some 13, op := Go.Op.load 3 (Go.Operand.tmp 12), type := 3, pos := _, after := _, guard := _ }) (v := ?_) rfl (by kernel_rfl) (by kernel_rfl) (by kernel_rfl) (fun _ _ _ h => h) (Or.inl ⟨by rfl, ?_⟩) (by exact hHeld) ?_
  rotate_left
  · intro w hSw; obtain ⟨c0, c1, f0, f1⟩ := (HT3.out.aft hSw).cells; obtain ⟨bx0, bx1⟩ := HFC.out _ (HFB3.out.aft hSw); go_simp; try with_reducible rfl
  try simp only [Act.put]
  try simp only [List.setIfInBounds_toArray]
  try simp only [List.set]
  refine wpAnyH_ready (rs := [1]) (by kernel_rfl) (by simp) ?_
  refine AllReadyH.cons (o := { dst := some 9, op := Go.Op.call { callee := Go.Callee.value (Go.Operand.func 46), args := #[Go.Operand.tmp 8], argTypes := #[28] }, type := 3, pos := _, after := _, guard := _ }) rfl (fun K hK => ?_) AllReadyH.nil
  go_simp
  refine (HBY.out _).mono ?_
  rintro e w6 ⟨rfl, a6⟩
  have hS2 := hHeld.trans a6
  clear hHeld
  refine hK.out _ _ hS2 (fun hHeld => ?_)
  clear hK K hS2
  try simp only [Act.put]
  try simp only [List.setIfInBounds_toArray]
  try simp only [List.set]
  refine wpAnyH_take (i := 6) (oi := { dst := some 14, op := Go.Op.binOp Go.BinOp.leq 3 (Go.Operand.tmp 9) (Go.Operand.tmp 13) 3, type := 4, pos := _, after := _, guard := _ }) (v := ?_) rfl (by kernel_rfl) (by kernel_rfl) (by kernel_rfl) (fun _ _ _ h => h) (Or.inl ⟨by rfl, ?_⟩) (by exact hHeld) ?_
  rotate_left
  · intro w hSw; go_simp; try with_reducible rfl
  try simp only [Act.put]
  try simp only [List.setIfInBounds_toArray]
  try simp only [List.set]
  refine wpAnyH_done (by kernel_rfl) ?_ _
  have HT6 := Lib.hid (HT3.out.aft hHeld)
  have HC6 := Lib.hid (HC3.out.aft hHeld)
  have HFB6 := Lib.hid (HFB3.out.aft hHeld)
  clear hHeld HD0 a6 HT3 HC3 HFB3
  by_cases hle : (n : Int) ≤ most
  · have HADD2 : Hid (addF most (F.data.toList, G.data.toList) l = (F.data.toList, G.data.toList) :: fitF (most - (n : Int)) l) := Lib.hid (by rw [HADD.out, if_pos hle])
    obtain ⟨l1, hl1⟩ : ∃ l1, fitF (most - (n : Int)) l = l1 := ⟨_, rfl⟩
    have hle2 := fitF_le' (m := most - (n : Int)) (l := l) (by omega)
    rw [hl1] at hle2 HT6 HADD2
    have hlen1 := sumF_len l1
    have HL1 : Hid ([((F.data.toList, G.data.toList) : FieldL)].length + l1.length ≤ 1000000000000) := Lib.hid (by simp only [List.length_cons, List.length_nil]; omega)
    obtain ⟨c0, c1, f0, f1⟩ := HT6.out.cells
    obtain ⟨bx0, bx1⟩ := HFC.out _ HFB6.out
    have HR6 := Lib.hid HT6.out.own.rb
    obtain ⟨oa, oc, hvo, -⟩ := HT6.out.own.slice
    subst hvo
    obtain ⟨ln, hln⟩ : ∃ ln, l1.length = ln := ⟨_, rfl⟩
    rw [hln] at c0 HR6
    have HLN := Lib.hid hln
    have hA7 : Aft w6 (w6.alloc (.cells #[.string F, .string G] 28)) := (Aft.refl w6).alloc _
    have hcell : ∀ wx, Aft w6 wx → wx.cell? ⟨g, 0, none⟩ = some (.slice oa ln oc) ∧ wx.frozen? ⟨g, 0, none⟩ = false := fun wx a => by
      have := (HT6.out.aft a).cells
      rw [hln] at this
      exact ⟨this.1, this.2.2.1⟩
    have HCE := Lib.hid hcell
    have HGN := Lib.hid (fun (W7 w7 : World) (a : Aft w6 W7) (gr : W7.grownBy w7 (Value.slice (some ⟨w6.heap.size, 0, none⟩) 1 1).ownBlock) => (by
      have h1 := HT6.out.lt
      have h2 := a.to.size
      refine ⟨(gr.block g (by omega) (fun e => ?_)).trans (Below.block a.to g h1), (HC6.out.aft a).trans (Chg.grown (p := fun k => k = w6.heap.size) gr (fun k h => (Option.some.inj h).symm)) (fun i hi => Or.inr ?_)⟩
      · have e2 : g = w6.heap.size := by first | exact Option.some.inj e | exact (Option.some.inj e).symm
        omega
      · subst hi
        have h5 := HC6.out.size
        exact h5 : w7.heap[g]? = w6.heap[g]? ∧ Chg (TP g vo) w w7))
    have HCB := Lib.hid (fun (wx : World) (e : wx.heap[g]? = w6.heap[g]?) => (And.intro ((World.cell?_of_block (a := ⟨g, 0, none⟩) e).trans c0) ((World.frozen?_of_block (a := ⟨g, 0, none⟩) e).trans f0) : wx.cell? ⟨g, 0, none⟩ = some (.slice oa ln oc) ∧ wx.frozen? ⟨g, 0, none⟩ = false))
    clear hl1 hle2 hlen1 c1 f1 hA7 hcell hln
    obtain ⟨y0, y1⟩ := HCE.out _ ((Aft.refl w6).alloc (.cells #[.string F, .string G] 28))
    go_wp2_with fail
    go_region_law (first
      | (refine step_pushesF rfl (.tmp 17) (.tmp 21) rfl w6.heap.size _ _ [(F.data.toList, G.data.toList)] l1 rfl (by first | exact OwnF.new1 w6 F G | exact OwnF.new1 w6.drew F G | exact (OwnF.new1 w6 F G).aft ((Aft.refl _).drew)) rfl (by first | exact HR6.out.aft ((Aft.refl _).alloc _) | exact HR6.out.aft (((Aft.refl _).drew).alloc _) | exact HR6.out.aft (((Aft.refl _).alloc _).drew)) HL1.out (Below.size (B := w6.heap.size) (w := w6) (by first | exact ((Aft.refl _).alloc _).drew | exact ((Aft.refl _).drew).alloc _ | exact (Aft.refl _).alloc _)) ?_; intro v7 w7 o7 g7; obtain ⟨a7, k7, rfl, -⟩ := o7.slice; have HG7 := Lib.hid (HGN.out _ w7 (by first | exact ((Aft.refl _).alloc _).drew | exact ((Aft.refl _).drew).alloc _ | exact (Aft.refl _).alloc _) g7); have HO7 := Lib.hid o7; obtain ⟨z0, z1⟩ := HCB.out w7 HG7.out.1))
    all_goals
      have HT8 := Lib.hid (HT6.out.put HG7.out.1 (HO7.out.base (Nat.le_trans HB.out (by rw [← HBW.out]; exact HC6.out.size))) (fun k hk => (HO7.out.lt k hk).1))
      have HC8 := Lib.hid (HG7.out.2.set g 0 (.slice a7 ([((F.data.toList, G.data.toList) : FieldL)] ++ l1).length k7) (Or.inl (Or.inl rfl)))
      have HN8 := Lib.hid (fun k hk => (HO7.out.lt k hk).1)
      clear o7 g7 z0 z1 y0 y1
      go_wp2_with fail
      go_end0
      refine ⟨rfl, _, by rw [HADD2.out]; exact HT8.out, HC8.out, fun k hk => Or.inr (Nat.le_trans HC6.out.size (HN8.out k hk))⟩
  · have HADD2 : Hid (addF most (F.data.toList, G.data.toList) l = fitF (most - (n : Int)) l) := Lib.hid (by rw [HADD.out, if_neg hle])
    go_wp2_with fail
    go_end0
    refine ⟨rfl, vo1, by rw [HADD2.out]; exact HT6.out, HC6.out, fun k hk => Or.inl (HO3.out k hk)⟩

end Go.Proofs.YtmlnboibclfmcaaDoor
namespace Go.Proofs.YtmlnboibclfmcaaDoor
open Go.RowKit
set_option linter.unusedVariables false

theorem FB2.froz {w : World} {g : Nat} {X Y : ByteArray} (h : FB2 w g X Y) : w.frozen? ⟨g, 0, none⟩ = false ∧ w.frozen? ⟨g, 1, none⟩ = false := by
  unfold FB2 at h
  exact ⟨frozen_of_row w g _ _ _ h, frozen_of_row w g _ _ _ h⟩
theorem aft_set2 {w W : World} {b : Nat} {x y : Value} (h : Aft w W) (hb : w.heap.size ≤ b) : Aft w ((W.setCell ⟨b, 0, none⟩ x).setCell ⟨b, 1, none⟩ y) :=
  (Below.setCell (p := ⟨b, 0, none⟩) h hb x).setCell (p := ⟨b, 1, none⟩) hb y
set_option maxHeartbeats 8000000 in
set_option maxRecDepth 100000 in
set_option linter.unusedSimpArgs false in
theorem rget_any {w : World} {B g : Nat} {vo : Value} {l : List FieldL} {m : Int} (i : Int) (i0 : -9223372036854775808 ≤ i) (i1 : i ≤ 9223372036854775807) (h : RTab w B g vo l m) (hl : l.length ≤ 1000000) :
    Calls Tryd.prog 31 #[.pointer (some ⟨g, 0, none⟩), .int .i64 i] w fun e w' => e = .returned (.tuple #[fieldV (getF l i), .bool (getB l i)]) ∧ Aft w w' := by
  have hA1 : Aft w (w.alloc (.cells #[.string ⟨#[]⟩, .string ⟨#[]⟩] 28)) := (Aft.refl w).alloc _
  have hb0 : FB2 (w.alloc (.cells #[.string ⟨#[]⟩, .string ⟨#[]⟩] 28)) w.heap.size ⟨#[]⟩ ⟨#[]⟩ := heap_alloc_new w _
  have HST := Lib.hid (fun w => rstatic_any i i0 i1 w)
  obtain ⟨b, hb⟩ : ∃ b, w.heap.size = b := ⟨_, rfl⟩
  rw [hb] at hb0
  have HBW := Lib.hid (Nat.le_of_eq hb)
  have HBE := Lib.hid hb
  have HB0 := Lib.hid hb0
  have HA1 := Lib.hid hA1
  have H1 := Lib.hid (h.aft hA1)
  clear h hA1 hb0 hb
  by_cases hin : 1 ≤ i ∧ i ≤ 61
  · obtain ⟨j, rfl⟩ : ∃ j : Nat, i = (j : Int) + 1 := ⟨(i - 1).toNat, by omega⟩
    obtain ⟨⟨hl1, e1⟩, e2⟩ := statF_in j (by omega)
    obtain ⟨⟨hl2, e3⟩, e4⟩ := getF_known l j (by omega)
    rw [e1, e2] at HST
    rw [e3, e4]
    clear e1 e2 e3 e4
    generalize staticT[j] = f at HST ⊢
    unfold fieldV at HST ⊢
    obtain ⟨X, hX⟩ : ∃ X : ByteArray, (⟨f.1.toArray⟩ : ByteArray) = X := ⟨_, rfl⟩
    obtain ⟨Y, hY⟩ : ∃ Y : ByteArray, (⟨f.2.toArray⟩ : ByteArray) = Y := ⟨_, rfl⟩
    rw [hX, hY] at HST ⊢
    clear hX hY hl1 hl2 hin H1
    go_enter Tryd.func31, Tryd.ntmps31
    go_wp2_with fail
    rw [HBE.out]
    refine (HST.out _).mono ?_
    rintro e w2 ⟨rfl, a2⟩
    have HA2 := Lib.hid ((HA1.out.trans a2).alloc (.cells #[.string X, .string Y] 28))
    have HB2 := Lib.hid ((HB0.out.aft a2).aft ((Aft.refl w2).alloc (.cells #[.string X, .string Y] 28)))
    have hx : FB2 (w2.alloc (.cells #[.string X, .string Y] 28)) w2.heap.size X Y := heap_alloc_new w2 _
    have HX := Lib.hid hx
    clear hx a2 HB0 HA1 HBE
    go_upto_region 2 with fail
    generalize w2.heap.size = gx at HX ⊢
    generalize w2.alloc (.cells #[.string X, .string Y] 28) = W at HA2 HB2 HX ⊢
    obtain ⟨x0, x1⟩ := HX.out.cells
    obtain ⟨z0, z1⟩ := HB2.out.cells
    obtain ⟨q0, q1⟩ := HB2.out.froz
    go_wp2_with fail
    refine bodyPost_ret (v := .tuple #[.agg #[.string X, .string Y], .bool true]) (by simp [results, Tryd.results31, go_sem, z0, z1, q0, q1]) rfl ?_
    exact ⟨rfl, aft_set2 HA2.out HBW.out⟩
  · obtain ⟨e1, e2⟩ := statF_out (i := i) hin
    have HST2 : Hid (∀ w, Calls Tryd.prog 62 #[.int .i64 i] w fun e w' => e = .returned (.tuple #[.agg #[.string ⟨#[]⟩, .string ⟨#[]⟩], .bool false]) ∧ Aft w w') := Lib.hid (fun w => by
      have := HST.out w
      rw [e1, e2] at this
      exact this)
    obtain ⟨oa, og, oc, hoe, ho1, ho2, hop, hoc⟩ := H1.out.own.form
    subst hoe
    have HOC := Lib.hid hoc
    have HOP := Lib.hid hop
    unfold maxLen at ho2
    obtain ⟨n, hn⟩ : ∃ n, l.length = n := ⟨_, rfl⟩
    have HN := Lib.hid hn
    have HC := Lib.hid (fun wx (a : Aft (w.alloc (.cells #[.string ⟨#[]⟩, .string ⟨#[]⟩] 28)) wx) => (H1.out.aft a).cells.1)
    rw [hn] at HC ho1 hl
    clear e1 e2 HST hoc hop ho2
    by_cases hhi : 62 ≤ i ∧ i ≤ 61 + (n : Int)
    · obtain ⟨j, hj⟩ : ∃ j : Nat, i = (j : Int) + 62 := ⟨(i - 62).toNat, by omega⟩
      have hjl : j < l.length := by omega
      obtain ⟨e1, e2⟩ := getF_own l j hjl
      rw [← hj] at e1 e2
      obtain ⟨x0, x1⟩ := HOC.out j hjl
      have hne2 : l ≠ [] := by intro e; rw [e] at hjl; simp at hjl
      obtain ⟨rfl, hog⟩ := HOP.out hne2
      rw [e1, e2]
      clear e1 e2
      have HXX := Lib.hid (fun wx (a : Aft (w.alloc (.cells #[.string ⟨#[]⟩, .string ⟨#[]⟩] 28)) wx) => And.intro ((Below.cell a.to (p := ⟨og, j * 2, none⟩) hog).trans x0) ((Below.cell a.to (p := ⟨og, j * 2 + 1, none⟩) hog).trans x1))
      generalize l[j] = f at HXX ⊢
      unfold fieldV
      unfold strV at HXX
      obtain ⟨X, hX⟩ : ∃ X : ByteArray, (⟨f.1.toArray⟩ : ByteArray) = X := ⟨_, rfl⟩
      obtain ⟨Y, hY⟩ : ∃ Y : ByteArray, (⟨f.2.toArray⟩ : ByteArray) = Y := ⟨_, rfl⟩
      rw [hX, hY] at HXX ⊢
      have g1 : IntKind.i64.wrap (i - 62) = (j : Int) := by rw [show i - 62 = (j : Int) by omega]; exact IntWalk.i64_in _ (by omega)
      have j1 : (j : Int) < (n : Int) := by omega
      have j2 : ¬ ((j : Int) ≥ (n : Int)) := by omega
      have j3 : ¬ ((j : Int) < 0) := by omega
      clear hX hY hne2 hog x0 x1 hhi hin hn H1 hj hjl i0 i1
      go_enter Tryd.func31, Tryd.ntmps31
      go_wp2_with fail
      rw [HBE.out]
      refine (HST2.out _).mono ?_
      rintro e w2 ⟨rfl, a2⟩
      have HA2 := Lib.hid ((HA1.out.trans a2).alloc (.cells #[.string ⟨#[]⟩, .string ⟨#[]⟩] 28))
      have HB2 := Lib.hid ((HB0.out.aft a2).aft ((Aft.refl w2).alloc (.cells #[.string ⟨#[]⟩, .string ⟨#[]⟩] 28)))
      have hac := a2.alloc (.cells #[.string ⟨#[]⟩, .string ⟨#[]⟩] 28)
      obtain ⟨x0, x1⟩ := HXX.out _ hac
      have c0 := HC.out _ hac
      clear hac a2 HB0 HA1 HBE HXX HC
      go_upto_region 2 with fail
      generalize w2.heap.size = gx
      generalize w2.alloc (.cells #[.string ⟨#[]⟩, .string ⟨#[]⟩] 28) = W at HA2 HB2 x0 x1 c0 ⊢
      obtain ⟨z0, z1⟩ := HB2.out.cells
      obtain ⟨q0, q1⟩ := HB2.out.froz
      go_wp2_with fail
      refine bodyPost_ret (v := .tuple #[.agg #[.string X, .string Y], .bool true]) (by simp [results, Tryd.results31, go_sem, z0, z1, q0, q1]) rfl ?_
      exact ⟨rfl, aft_set2 HA2.out HBW.out⟩
    · obtain ⟨e1, e2⟩ := getF_out (l := l) (i := i) (by omega)
      rw [e1, e2]
      have hv : fieldV ([], []) = .agg #[.string ⟨#[]⟩, .string ⟨#[]⟩] := rfl
      rw [hv]
      obtain ⟨K, hK⟩ : ∃ K, IntKind.i64.wrap (i - 62) = K := ⟨_, rfl⟩
      have hKc : K < 0 ∨ (¬ K < 0 ∧ K ≥ (n : Int)) := by
        rw [← hK, IntKind.wrap_i64]
        omega
      clear e1 e2 hv hhi hin hn H1 HOC HOP
      rcases hKc with k1 | ⟨k1, k2⟩
      all_goals
        go_enter Tryd.func31, Tryd.ntmps31
        go_wp2_with fail
        rw [HBE.out]
        refine (HST2.out _).mono ?_
        rintro e w2 ⟨rfl, a2⟩
        have HA2 := Lib.hid ((HA1.out.trans a2).alloc (.cells #[.string ⟨#[]⟩, .string ⟨#[]⟩] 28))
        have HB2 := Lib.hid ((HB0.out.aft a2).aft ((Aft.refl w2).alloc (.cells #[.string ⟨#[]⟩, .string ⟨#[]⟩] 28)))
        have hac := a2.alloc (.cells #[.string ⟨#[]⟩, .string ⟨#[]⟩] 28)
        have c0 := HC.out _ hac
        clear hac a2 HB0 HA1 HBE HC
        go_upto_region 2 with fail
        generalize w2.heap.size = gx
        generalize w2.alloc (.cells #[.string ⟨#[]⟩, .string ⟨#[]⟩] 28) = W at HA2 HB2 c0 ⊢
        obtain ⟨z0, z1⟩ := HB2.out.cells
        obtain ⟨q0, q1⟩ := HB2.out.froz
        go_wp2_with fail
        refine bodyPost_ret (v := .tuple #[.agg #[.string ⟨#[]⟩, .string ⟨#[]⟩], .bool false]) (by simp [results, Tryd.results31, go_sem, z0, z1, q0, q1]) rfl ?_
        exact ⟨rfl, aft_set2 HA2.out HBW.out⟩

end Go.Proofs.YtmlnboibclfmcaaDoor
namespace Go.Proofs.YtmlnboibclfmcaaDoor
open Go.RowKit
set_option linter.unusedVariables false

theorem meas_rfind (n k : Nat) (h : k < 61 + n) : 63 + n - ((k : Int) + 1 + 1).toNat < 63 + n - ((k : Int) + 1).toNat := by omega
set_option maxHeartbeats 8000000 in
set_option maxRecDepth 100000 in
theorem rfind_any {w : World} {B g : Nat} {vo : Value} {l : List FieldL} {m : Int} (f : FieldL) (h : RTab w B g vo l m) (hl : l.length ≤ 1000000) :
    Calls Tryd.prog 32 #[.pointer (some ⟨g, 0, none⟩), fieldV f] w fun e w' => e = .returned (.tuple #[.int .i64 (findF l f).1, .bool (findF l f).2]) ∧ Aft w w' := by
  obtain ⟨f1, f2'⟩ := f
  obtain ⟨R, hR⟩ : ∃ R, findF l (f1, f2') = R := ⟨_, rfl⟩
  rw [hR]
  have HR : Hid (findGo (f1, f2') 0 0 (staticT ++ l) = R) := Lib.hid hR
  obtain ⟨F, hF⟩ : ∃ F : ByteArray, (⟨f1.toArray⟩ : ByteArray) = F := ⟨_, rfl⟩
  obtain ⟨G, hG⟩ : ∃ G : ByteArray, (⟨f2'.toArray⟩ : ByteArray) = G := ⟨_, rfl⟩
  have hFd : F.data.toList = f1 := by rw [← hF]
  have hGd : G.data.toList = f2' := by rw [← hG]
  have HFG := Lib.hid (And.intro hFd hGd)
  unfold fieldV
  simp only
  rw [hF, hG]
  have hA1 : Aft w (w.alloc (.cells #[.string F, .string G] 28)) := (Aft.refl w).alloc _
  have hbx : FB2 (w.alloc (.cells #[.string F, .string G] 28)) w.heap.size F G := heap_alloc_new w _
  have H1 := Lib.hid (h.aft hA1)
  have HBX := Lib.hid hbx
  have HA1 := Lib.hid hA1
  have HL := Lib.hid hl
  obtain ⟨oa, oc, hvo, -⟩ := h.own.slice
  subst hvo
  obtain ⟨b, hb⟩ : ∃ b, w.heap.size = b := ⟨_, rfl⟩
  rw [hb] at HBX
  have HBW := Lib.hid hb
  have HC := Lib.hid (fun wx (a : Aft (w.alloc (.cells #[.string F, .string G] 28)) wx) => (H1.out.aft a).cells.1)
  obtain ⟨n, hn⟩ : ∃ n, l.length = n := ⟨_, rfl⟩
  have HN := Lib.hid hn
  rw [hn] at HC hl
  clear h hR hF hG hFd hGd hA1 hbx hb hn
  go_enter Tryd.func32, Tryd.ntmps32
  go_upto_region 3 with fail
  rw [HBW.out]
  generalize w.alloc (.cells #[.string F, .string G] 28) = W at H1 HBX HA1 HC ⊢
  go_wp2_with fail
  go_loopw [6, 7] (fun v6 v7 wr => ∃ (k : Nat) (nm : Int), k ≤ 61 + n ∧ v7 = .int .i64 ((k : Int) + 1) ∧ v6 = .int .i64 nm ∧ Hid (findGo (f1, f2') k nm ((staticT ++ l).drop k) = R) ∧ Hid (Aft W wr)) (fun _ v7 _ => 63 + n - (intOf v7).toNat)
  case atStart => exact ⟨0, 0, by omega, by go_num, rfl, Lib.hid (by rw [List.drop_zero]; exact HR.out), Lib.hid (Aft.refl _)⟩
  case round =>
    obtain ⟨k, nm, hk, rfl, rfl, HX, HA⟩ := hrel
    have c0 := HC.out _ HA.out
    have g62 : IntKind.i64.wrap (62 + (n : Int)) = 62 + (n : Int) := IntWalk.i64_in _ (by omega)
    by_cases hin : k < 61 + n
    · have hkl : k < 61 + l.length := by rw [HN.out]; exact hin
      obtain ⟨x, hx⟩ := at_get l k hkl
      obtain ⟨hgx, hgb, -⟩ := getF_at l k x hx
      have hdr : (staticT ++ l).drop k = x :: (staticT ++ l).drop (k + 1) := by
        obtain ⟨hh, he⟩ := List.getElem?_eq_some_iff.1 hx
        rw [List.drop_eq_getElem_cons hh, he]
      have hgi := HX.out
      rw [hdr] at hgi
      have HGT := Lib.hid (rget_any ((k : Int) + 1) (by omega) (by omega) (H1.out.aft HA.out) HL.out)
      rw [hgx, hgb] at HGT
      have HIN := Lib.hid hin
      have hii : (k : Int) + 1 < 62 + (n : Int) := by omega
      obtain ⟨tl, htl⟩ : ∃ tl, (staticT ++ l).drop (k + 1) = tl := ⟨_, rfl⟩
      rw [htl] at hgi
      have HTL := Lib.hid htl
      have HGI := Lib.hid hgi
      obtain ⟨xn, xv⟩ := x
      unfold fieldV at HGT
      simp only at HGT
      obtain ⟨X, hX⟩ : ∃ X : ByteArray, (⟨xn.toArray⟩ : ByteArray) = X := ⟨_, rfl⟩
      obtain ⟨Y, hY⟩ : ∃ Y : ByteArray, (⟨xv.toArray⟩ : ByteArray) = Y := ⟨_, rfl⟩
      have hXd : X.data.toList = xn := by rw [← hX]
      have hYd : Y.data.toList = xv := by rw [← hY]
      rw [hX, hY] at HGT
      have hcs := eq_pair X Y F G hXd hYd HFG.out.1 HFG.out.2
      have HCS := Lib.hid hcs
      have HG63 : Hid (wrap64 ((k : Int) + 1 + 1) = (k : Int) + 1 + 1) := Lib.hid (IntWalk.wrap64_in _ ⟨by omega, by omega⟩)
      clear hkl hx hgx hgb hdr hgi htl hX hY hXd hYd hcs hin
      go_wp2_with fail
      refine HGT.out.mono ?_
      rintro e w6 ⟨rfl, a6⟩
      have HA6 := Lib.hid (HA.out.trans (a6.alloc (.cells #[.string X, .string Y] 28)))
      have hx6 : FB2 (w6.alloc (.cells #[.string X, .string Y] 28)) w6.heap.size X Y := heap_alloc_new w6 _
      have HB6 := Lib.hid hx6
      clear a6 hx6 HGT c0 g62 hii
      go_upto_region 6 with fail
      generalize w6.heap.size = gx at HB6 ⊢
      generalize w6.alloc (.cells #[.string X, .string Y] 28) = W6 at HA6 HB6 ⊢
      obtain ⟨z0, z1⟩ := HB6.out.cells
      obtain ⟨u0, u1⟩ := (HBX.out.aft HA6.out).cells
      rcases HCS.out with ⟨he, t1, t2⟩ | ⟨he, hn1, t1, t2⟩ | ⟨he, hn1, t1⟩
      · have HR2 : Hid (R = ((k : Int) + 1, true)) := Lib.hid (by rw [← HGI.out]; exact findGo_eq he)
        clear he
        go_wp2_with fail
        go_ret2
        refine ⟨?_, HA1.out.trans HA6.out⟩
        rw [HR2.out]
        rfl
      · have HHE := Lib.hid he
        clear he
        by_cases h0 : nm = 0
        · subst h0
          have HGN : Hid (findGo (f1, f2') (k + 1) ((k : Int) + 1) tl = R) := Lib.hid (by rw [← HGI.out, findGo_nm HHE.out hn1 rfl])
          clear hn1
          go_wp2_with fail
          go_roundw
          case rel => exact ⟨k + 1, _, by have := HIN.out; omega, by (try rw [HG63.out]); exact congrArg (Value.int .i64) (by push_cast; omega), rfl, Lib.hid (by rw [HTL.out]; exact HGN.out), HA6⟩
          case measure => (try rw [HG63.out]); exact meas_rfind _ _ HIN.out
        · have HGN : Hid (findGo (f1, f2') (k + 1) nm tl = R) := Lib.hid (by rw [← HGI.out, findGo_no HHE.out (fun hh => h0 hh.2)])
          have h00 : (nm == 0) = false := by simpa using h0
          clear hn1 h0
          go_wp2_with fail
          go_roundw
          case rel => exact ⟨k + 1, _, by have := HIN.out; omega, by (try rw [HG63.out]); exact congrArg (Value.int .i64) (by push_cast; omega), rfl, Lib.hid (by rw [HTL.out]; exact HGN.out), HA6⟩
          case measure => (try rw [HG63.out]); exact meas_rfind _ _ HIN.out
      · have HGN : Hid (findGo (f1, f2') (k + 1) nm tl = R) := Lib.hid (by rw [← HGI.out, findGo_no he (fun hh => hn1 hh.1)])
        clear he hn1
        by_cases h0 : nm = 0
        · subst h0
          go_wp2_with fail
          go_roundw
          case rel => exact ⟨k + 1, _, by have := HIN.out; omega, by (try rw [HG63.out]); exact congrArg (Value.int .i64) (by push_cast; omega), rfl, Lib.hid (by rw [HTL.out]; exact HGN.out), HA6⟩
          case measure => (try rw [HG63.out]); exact meas_rfind _ _ HIN.out
        · have h00 : (nm == 0) = false := by simpa using h0
          clear h0
          go_wp2_with fail
          go_roundw
          case rel => exact ⟨k + 1, _, by have := HIN.out; omega, by (try rw [HG63.out]); exact congrArg (Value.int .i64) (by push_cast; omega), rfl, Lib.hid (by rw [HTL.out]; exact HGN.out), HA6⟩
          case measure => (try rw [HG63.out]); exact meas_rfind _ _ HIN.out
    · have hii : ¬ ((k : Int) + 1 < 62 + (n : Int)) := by omega
      have HE : Hid (R = (nm, false)) := Lib.hid (by
        rw [← HX.out, List.drop_eq_nil_of_le (by rw [List.length_append, staticT_len, HN.out]; omega)]
        rfl)
      go_wp2_with fail
      go_ret2
      refine ⟨?_, HA1.out.trans HA.out⟩
      rw [HE.out]
      rfl

end Go.Proofs.YtmlnboibclfmcaaDoor
