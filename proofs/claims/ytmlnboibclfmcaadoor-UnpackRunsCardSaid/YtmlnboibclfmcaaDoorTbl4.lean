/-
  HPACK's table: Find.
-/
import Derived.Test.YtmlnboibclfmcaaDoorTbl3
import Derived.Deep.RegionHeld
import Derived.Deep.DeepCutAuto
namespace Go.Proofs.YtmlnboibclfmcaaDoor
open Go.RowKit
set_option linter.unusedVariables false

def findGo (f : FieldL) : Nat → Int → List FieldL → Int × Bool
  | _, nm, [] => (nm, false)
  | a, nm, x :: r => if x = f then ((a : Int) + 1, true) else findGo f (a + 1) (if x.1 = f.1 ∧ nm = 0 then (a : Int) + 1 else nm) r
def findF (l : List FieldL) (f : FieldL) : Int × Bool := findGo f 0 0 (staticT ++ l)
def offs (k : Nat) : Nat := 61 * k
def rests (l : List FieldL) (k : Nat) : List FieldL := if k = 0 then staticT ++ l else if k = 1 then l else []
theorem findGo_eq {f x : FieldL} {a : Nat} {nm : Int} {r : List FieldL} (h : x = f) : findGo f a nm (x :: r) = ((a : Int) + 1, true) := by
  unfold findGo
  rw [if_pos h]
theorem findGo_nm {f x : FieldL} {a : Nat} {nm : Int} {r : List FieldL} (h : x ≠ f) (h2 : x.1 = f.1) (h3 : nm = 0) : findGo f a nm (x :: r) = findGo f (a + 1) ((a : Int) + 1) r := by
  conv => lhs; unfold findGo
  rw [if_neg h, if_pos ⟨h2, h3⟩]
theorem findGo_no {f x : FieldL} {a : Nat} {nm : Int} {r : List FieldL} (h : x ≠ f) (h2 : ¬ (x.1 = f.1 ∧ nm = 0)) : findGo f a nm (x :: r) = findGo f (a + 1) nm r := by
  conv => lhs; unfold findGo
  rw [if_neg h, if_neg h2]
theorem eq_pair {a b : List UInt8} {f1 f2 : List UInt8} (A B F G : ByteArray) (hA : A.data.toList = a) (hB : B.data.toList = b) (hF : F.data.toList = f1) (hG : G.data.toList = f2) :
    ((a, b) = (f1, f2) ∧ (A.toList == F.toList) = true ∧ (B.toList == G.toList) = true) ∨ ((a, b) ≠ (f1, f2) ∧ a = f1 ∧ (A.toList == F.toList) = true ∧ (B.toList == G.toList) = false) ∨ ((a, b) ≠ (f1, f2) ∧ a ≠ f1 ∧ (A.toList == F.toList) = false) := by
  rw [Lib.toList_data, Lib.toList_data, Lib.toList_data, Lib.toList_data, hA, hB, hF, hG]
  by_cases h1 : a = f1
  · by_cases h2 : b = f2
    · exact Or.inl ⟨by rw [h1, h2], by simpa using h1, by simpa using h2⟩
    · exact Or.inr (Or.inl ⟨fun e => h2 (Prod.mk.inj e).2, h1, by simpa using h1, by simpa using h2⟩)
  · exact Or.inr (Or.inr ⟨fun e => h1 (Prod.mk.inj e).1, h1, by simpa using h1⟩)

theorem rests_open {W : World} {B g kg kc : Nat} {oa : Option Addr} {og oc n : Nat} {l : List FieldL} {most : Int} (h : Tab W B g (.slice oa n oc) (.slice (some ⟨kg, 0, none⟩) 61 kc) l most)
    (hk : ∀ i (h : i < staticT.length), W.cell? ⟨kg, i * 2, none⟩ = some (strV staticT[i].1) ∧ W.cell? ⟨kg, i * 2 + 1, none⟩ = some (strV staticT[i].2))
    (ho : ∀ i (h : i < l.length), W.cell? ⟨og, i * 2, none⟩ = some (strV l[i].1) ∧ W.cell? ⟨og, i * 2 + 1, none⟩ = some (strV l[i].2))
    (hop : l ≠ [] → oa = some ⟨og, 0, none⟩ ∧ og < W.heap.size) (hkg : kg < W.heap.size) (hn : l.length = n) (hl : n ≤ 1000000) (k : Nat) (hlt : k < 2) (G2 : Nat) :
    ∃ (sa : Option Addr) (sc sg : Nat) (seg : List FieldL), (∀ wx : World, (wx.cell? ⟨G2, 0, none⟩ = some (.slice (some ⟨kg, 0, none⟩) 61 kc) ∧ wx.cell? ⟨G2, 1, none⟩ = some (.slice oa n oc)) → wx.cell? ⟨G2, k, none⟩ = some (.slice sa seg.length sc)) ∧
      (∀ i (h : i < seg.length), sa = some ⟨sg, 0, none⟩ ∧ sg < W.heap.size ∧ W.cell? ⟨sg, i * 2, none⟩ = some (strV seg[i].1) ∧ W.cell? ⟨sg, i * 2 + 1, none⟩ = some (strV seg[i].2)) ∧
      rests l k = seg ++ rests l (k + 1) ∧ (k = 0 → seg.length = 61) ∧ seg.length ≤ 1000000 := by
  rcases (show k = 0 ∨ k = 1 by omega) with rfl | rfl
  · refine ⟨_, kc, kg, staticT, fun wx h => by rw [staticT_len]; exact h.1, fun i hi => ⟨rfl, hkg, hk i hi⟩, rfl, fun _ => staticT_len, by rw [staticT_len]; omega⟩
  · refine ⟨oa, oc, og, l, fun wx h => by rw [hn]; exact h.2, fun i hi => ?_, by simp [rests], fun h => by omega, by omega⟩
    have hne : l ≠ [] := by intro e; rw [e] at hi; simp at hi
    exact ⟨(hop hne).1, (hop hne).2, ho i hi⟩

set_option maxHeartbeats 8000000 in
set_option maxRecDepth 100000 in
theorem tfind_any {w : World} {B g : Nat} {vo vk : Value} {l : List FieldL} {most : Int} (f : FieldL) (h : Tab w B g vo vk l most) (hl : l.length ≤ 1000000) :
    Calls Tryd.prog 27 #[.pointer (some ⟨g, 0, none⟩), fieldV f] w fun e w' => e = .returned (.tuple #[.int .i64 (findF l f).1, .bool (findF l f).2]) ∧ Aft w w' := by
  obtain ⟨f1, f2'⟩ := f
  obtain ⟨R, hR⟩ : ∃ R, findF l (f1, f2') = R := ⟨_, rfl⟩
  rw [hR]
  have HR : Hid (findGo (f1, f2') 0 0 (staticT ++ l) = R) := Lib.hid hR
  clear hR
  unfold fieldV
  simp only
  have hA1 : Aft w (w.alloc (.cells #[.string ⟨f1.toArray⟩, .string ⟨f2'.toArray⟩] 28)) := (Aft.refl w).alloc _
  have hbx : FB (w.alloc (.cells #[.string ⟨f1.toArray⟩, .string ⟨f2'.toArray⟩] 28)) w.heap.size [(f1, f2')] := heap_alloc_new w _
  have h1 := h.aft hA1
  have hlt : w.heap.size < (w.alloc (.cells #[.string ⟨f1.toArray⟩, .string ⟨f2'.toArray⟩] 28)).heap.size := by rw [World.size_alloc]; exact Nat.lt_succ_self _
  have H1 := Lib.hid h1
  have HBX := Lib.hid hbx
  have HLT := Lib.hid hlt
  have HA1 := Lib.hid hA1
  obtain ⟨b, hb⟩ : ∃ b, w.heap.size = b := ⟨_, rfl⟩
  rw [hb] at HBX HLT
  have HBW := Lib.hid hb
  clear h h1 hA1 hbx hlt hb
  go_enter Tryd.func27, Tryd.ntmps27
  go_upto_region 2 with fail
  rw [HBW.out]
  generalize w.alloc (.cells #[.string ⟨f1.toArray⟩, .string ⟨f2'.toArray⟩] 28) = W at H1 HBX HA1 HLT ⊢
  obtain ⟨ka, kg, kc, hke, hk1, hk2, hkp, hkc⟩ := H1.out.kn.form
  obtain ⟨oa, og, oc, hoe, ho1, ho2, hop, hoc⟩ := H1.out.own.form
  have hne : staticT ≠ [] := by intro e; have := staticT_len; rw [e] at this; cases this
  obtain ⟨rfl, hkg⟩ := hkp hne
  subst hke hoe
  rw [staticT_len] at H1 hk1
  have HKC := Lib.hid hkc
  have HOC := Lib.hid hoc
  have HOP := Lib.hid hop
  have HKG := Lib.hid hkg
  obtain ⟨n, hn⟩ : ∃ n, l.length = n := ⟨_, rfl⟩
  have HN := Lib.hid hn
  rw [hn] at H1 ho1 hl
  clear hkc hoc hop hk1 hk2 ho1 ho2 hne hkp hkg hn
  have HD0 : Aft W W := Aft.refl _
  refine wp_region_held_drew (S := fun wx => Aft W wx) (by kernel_rfl) ((Aft.refl _).drew) (fun hHeld => ?_)
  refine wpAnyH_take (i := 0) (oi := { dst := some 12, op := Go.Op.move (Go.Operand.tmp 0), type := 22, pos := _, after := _, guard := _ }) (v := ?_) rfl (by kernel_rfl) (by kernel_rfl) (by kernel_rfl) (fun _ _ _ h => h) (Or.inl ⟨by rfl, ?_⟩) (by exact hHeld) ?_
  rotate_left
  · intro w hSw; go_simp; try with_reducible rfl
  try simp only [Act.put]
  try simp only [List.setIfInBounds_toArray]
  try simp only [List.set]
  refine wpAnyH_take (i := 1) (oi := { dst := some 13, op := Go.Op.nilCheck (Go.Operand.tmp 12), type := 0, pos := _, after := _, guard := _ }) (v := ?_) rfl (by kernel_rfl) (by kernel_rfl) (by kernel_rfl) (fun _ _ _ h => h) (Or.inl ⟨by rfl, ?_⟩) (by exact hHeld) ?_
  rotate_left
  · intro w hSw; go_simp; try with_reducible rfl
  try simp only [Act.put]
  try simp only [List.setIfInBounds_toArray]
  try simp only [List.set]
  refine wpAnyH_take (i := 2) (oi := { dst := some 14, op := Go.Op.fieldAddr 95 (Go.Operand.tmp 13) 1, type := 0, pos := _, after := _, guard := _ }) (v := ?_) rfl (by kernel_rfl) (by kernel_rfl) (by kernel_rfl) (fun _ _ _ h => h) (Or.inl ⟨by rfl, ?_⟩) (by exact hHeld) ?_
  rotate_left
  · intro w hSw; go_simp; try with_reducible rfl
  try simp only [Act.put]
  try simp only [List.setIfInBounds_toArray]
  try simp only [List.set]
  refine wpAnyH_take (i := 3) (oi := { dst := some 15, op := Go.Op.load 47 (Go.Operand.tmp 14), type := 47, pos := _, after := _, guard := _ }) (v := ?_) rfl (by kernel_rfl) (by kernel_rfl) (by kernel_rfl) (fun _ _ _ h => h) (Or.inl ⟨by rfl, ?_⟩) (by exact hHeld) ?_
  rotate_left
  · intro w hSw; obtain ⟨⟨c0, c1, c2, c3⟩, -⟩ := (H1.out.aft hSw).cells; go_simp; try with_reducible rfl
  try simp only [Act.put]
  try simp only [List.setIfInBounds_toArray]
  try simp only [List.set]
  refine wpAnyH_take (i := 4) (oi := { dst := some 16, op := Go.Op.move (Go.Operand.tmp 0), type := 22, pos := _, after := _, guard := _ }) (v := ?_) rfl (by kernel_rfl) (by kernel_rfl) (by kernel_rfl) (fun _ _ _ h => h) (Or.inl ⟨by rfl, ?_⟩) (by exact hHeld) ?_
  rotate_left
  · intro w hSw; go_simp; try with_reducible rfl
  try simp only [Act.put]
  try simp only [List.setIfInBounds_toArray]
  try simp only [List.set]
  refine wpAnyH_take (i := 5) (oi := { dst := some 17, op := Go.Op.nilCheck (Go.Operand.tmp 16), type := 0, pos := _, after := _, guard := _ }) (v := ?_) rfl (by kernel_rfl) (by kernel_rfl) (by kernel_rfl) (fun _ _ _ h => h) (Or.inl ⟨by rfl, ?_⟩) (by exact hHeld) ?_
  rotate_left
  · intro w hSw; go_simp; try with_reducible rfl
  try simp only [Act.put]
  try simp only [List.setIfInBounds_toArray]
  try simp only [List.set]
  refine wpAnyH_take (i := 6) (oi := { dst := some 18, op := Go.Op.fieldAddr 95 (Go.Operand.tmp 17) 0, type := 0, pos := _, after := _, guard := _ }) (v := ?_) rfl (by kernel_rfl) (by kernel_rfl) (by kernel_rfl) (fun _ _ _ h => h) (Or.inl ⟨by rfl, ?_⟩) (by exact hHeld) ?_
  rotate_left
  · intro w hSw; go_simp; try with_reducible rfl
  try simp only [Act.put]
  try simp only [List.setIfInBounds_toArray]
  try simp only [List.set]
  refine wpAnyH_take (i := 7) (oi := { dst := some 19, op := Go.Op.load 47 (Go.Operand.tmp 18), type := 47, pos := _, after := _, guard := _ }) (v := ?_) rfl (by kernel_rfl) (by kernel_rfl) (by kernel_rfl) (fun _ _ _ h => h) (Or.inl ⟨by rfl, ?_⟩) (by exact hHeld) ?_
  rotate_left
  · intro w hSw; obtain ⟨⟨c0, c1, c2, c3⟩, -⟩ := (H1.out.aft hSw).cells; go_simp; try with_reducible rfl
  try simp only [Act.put]
  try simp only [List.setIfInBounds_toArray]
  try simp only [List.set]
  refine wpAnyH_take (i := 10) (oi := { dst := some 22, op := Go.Op.move (Go.Operand.const (Go.Value.int Go.IntKind.i64 0)), type := 3, pos := _, after := _, guard := _ }) (v := ?_) rfl (by kernel_rfl) (by kernel_rfl) (by kernel_rfl) (fun _ _ _ h => h) (Or.inl ⟨by rfl, ?_⟩) (by exact hHeld) ?_
  rotate_left
  · intro w hSw; go_simp; try with_reducible rfl
  try simp only [Act.put]
  try simp only [List.setIfInBounds_toArray]
  try simp only [List.set]
  refine wpAnyH_ready (rs := [8]) (by kernel_rfl) (by simp) ?_
  refine AllReadyH.cons (o := { dst := some 20, op := Go.Op.buildSlice 98 2 #[(0, Go.Operand.tmp 15), (1, Go.Operand.tmp 19)], type := 98, pos := _, after := _, guard := _ }) rfl (fun K hK => ?_) AllReadyH.nil
  go_simp
  have hS2 := hHeld.alloc (.cells #[.slice (some ⟨kg, 0, none⟩) 61 kc, .slice oa n oc] 47)
  clear hHeld
  refine hK.out _ _ hS2 (fun hHeld => ?_)
  clear hK K hS2
  try simp only [Act.put]
  try simp only [List.setIfInBounds_toArray]
  try simp only [List.set]
  refine wpAnyH_take (i := 9) (oi := { dst := some 21, op := Go.Op.call { callee := Go.Callee.builtin Go.Builtin.len, args := #[Go.Operand.tmp 20], argTypes := #[98] }, type := 3, pos := _, after := _, guard := _ }) (v := ?_) rfl (by kernel_rfl) (by kernel_rfl) (by kernel_rfl) (fun _ _ _ h => h) (Or.inl ⟨by rfl, ?_⟩) (by exact hHeld) ?_
  rotate_left
  · intro w hSw; go_simp; try with_reducible rfl
  try simp only [Act.put]
  try simp only [List.setIfInBounds_toArray]
  try simp only [List.set]
  refine wpAnyH_done (by kernel_rfl) ?_ _
  have hRo := fun k hk G2 => rests_open H1.out HKC.out HOC.out HOP.out HKG.out HN.out hl k hk G2
  have HRO := Lib.hid hRo
  have harr : ∀ wx : World, Aft (W.alloc (.cells #[.slice (some ⟨kg, 0, none⟩) 61 kc, .slice oa n oc] 47)).drew wx → wx.cell? ⟨W.heap.size, 0, none⟩ = some (.slice (some ⟨kg, 0, none⟩) 61 kc) ∧ wx.cell? ⟨W.heap.size, 1, none⟩ = some (.slice oa n oc) := fun wx a => by
    have hz : W.heap.size < ((W.alloc (.cells #[.slice (some ⟨kg, 0, none⟩) 61 kc, .slice oa n oc] 47)).drew).heap.size := by show W.heap.size < (W.alloc _).heap.size; rw [World.size_alloc]; exact Nat.lt_succ_self _
    refine ⟨?_, ?_⟩
    · rw [Below.cell a.to (p := ⟨W.heap.size, 0, none⟩) hz]; simp [go_sem]
    · rw [Below.cell a.to (p := ⟨W.heap.size, 1, none⟩) hz]; simp [go_sem]
  have HARR := Lib.hid harr
  have HAW : Hid (Aft W (W.alloc (.cells #[.slice (some ⟨kg, 0, none⟩) 61 kc, .slice oa n oc] 47)).drew) := Lib.hid hHeld
  generalize W.heap.size = G2 at HARR ⊢
  generalize (W.alloc (.cells #[.slice (some ⟨kg, 0, none⟩) 61 kc, .slice oa n oc] 47)).drew = W2 at HARR HAW ⊢
  clear hRo harr hHeld HD0
  go_wp2_with fail
  go_loopw [22, 6] (fun v22 v6 wr => ∃ (k : Nat) (nm : Int), k ≤ 2 ∧ v22 = .int .i64 (k : Int) ∧ v6 = .int .i64 nm ∧ Hid (findGo (f1, f2') (offs k) nm (rests l k) = R) ∧ Hid (Aft W2 wr)) (fun v22 _ _ => 2 - (intOf v22).toNat)
  case atStart => exact ⟨0, 0, by omega, by go_num, rfl, Lib.hid HR.out, Lib.hid (Aft.refl _)⟩
  case round =>
    obtain ⟨k, nm, hk, rfl, rfl, HF, HAX⟩ := hrel
    by_cases hlt : k < 2
    · obtain ⟨sa, sc, sg, seg, hseg, hcell, hcut, hlen, hsz⟩ := HRO.out k hlt G2
      have harrk : wr.cell? ⟨G2, k, none⟩ = some (.slice sa seg.length sc) := hseg wr (HARR.out _ HAX.out)
      have HCELL := Lib.hid hcell
      have HF1 : Hid (findGo (f1, f2') (offs k + 0) nm (seg.drop 0 ++ rests l (k + 1)) = R) := Lib.hid (by rw [List.drop_zero, ← hcut]; exact HF.out)
      have HNX := Lib.hid hlen
      have hki : (k : Int) < 2 := by omega
      obtain ⟨sl, hsl⟩ : ∃ sl, seg.length = sl := ⟨_, rfl⟩
      have HSL := Lib.hid hsl
      rw [hsl] at harrk hsz HNX
      clear hseg hcell hcut hlen hsl HF
      go_wp2_with fail
      go_loopw [29, 6] (fun v29 v6 wi => ∃ (i : Nat) (nm : Int), i ≤ sl ∧ v29 = .int .i64 (i : Int) ∧ v6 = .int .i64 nm ∧ Hid (findGo (f1, f2') (offs k + i) nm (seg.drop i ++ rests l (k + 1)) = R) ∧ Hid (Aft W2 wi)) (fun v29 _ _ => sl - (intOf v29).toNat)
      case atStart => exact ⟨0, nm, by omega, by go_num, rfl, HF1, HAX⟩
      case round =>
        obtain ⟨i, nm2, hi, rfl, rfl, HG, HAI⟩ := hrel
        clear HF1
        by_cases hil : i < sl
        · have hil2 : i < seg.length := by rw [HSL.out]; exact hil
          have hdr : seg.drop i = seg[i] :: seg.drop (i + 1) := List.drop_eq_getElem_cons hil2
          obtain ⟨rfl, hsgl, hx⟩ := HCELL.out i hil2
          obtain ⟨x0, x1⟩ := hx
          have HGG := Lib.hid HG.out
          have HDR := Lib.hid hdr
          have x0' : wr.cell? ⟨sg, i * 2, none⟩ = some (strV seg[i].1) := by rw [Below.cell (HAW.out.trans HAI.out).to (p := ⟨sg, i * 2, none⟩) hsgl]; exact x0
          have x1' : wr.cell? ⟨sg, i * 2 + 1, none⟩ = some (strV seg[i].2) := by rw [Below.cell (HAW.out.trans HAI.out).to (p := ⟨sg, i * 2 + 1, none⟩) hsgl]; exact x1
          have hgi : findGo (f1, f2') (offs k + i) nm2 (seg[i] :: (seg.drop (i + 1) ++ rests l (k + 1))) = R := by
            have := HG.out
            rw [hdr] at this
            exact this
          have HAT := Lib.hid (HAW.out.trans HAI.out)
          obtain ⟨tl, htl⟩ : ∃ tl, seg.drop (i + 1) ++ rests l (k + 1) = tl := ⟨_, rfl⟩
          rw [htl] at hgi
          have HTL := Lib.hid htl
          clear hdr HG HDR x0 x1 HGG htl
          generalize seg[i] = x at hgi x0' x1'
          obtain ⟨xn, xv⟩ := x
          unfold strV at x0' x1'
          simp only at x0' x1'
          obtain ⟨X, hX⟩ : ∃ X : ByteArray, (⟨xn.toArray⟩ : ByteArray) = X := ⟨_, rfl⟩
          obtain ⟨Y, hY⟩ : ∃ Y : ByteArray, (⟨xv.toArray⟩ : ByteArray) = Y := ⟨_, rfl⟩
          have hXd : X.data.toList = xn := by rw [← hX]
          have hYd : Y.data.toList = xv := by rw [← hY]
          rw [hX] at x0'
          rw [hY] at x1'
          have bx := HBX.out.cell (i := 0) (by simp)
          simp only [Nat.zero_mul, Nat.zero_add, List.getElem_cons_zero, strV] at bx
          obtain ⟨F, hF⟩ : ∃ F : ByteArray, (⟨f1.toArray⟩ : ByteArray) = F := ⟨_, rfl⟩
          obtain ⟨G, hG⟩ : ∃ G : ByteArray, (⟨f2'.toArray⟩ : ByteArray) = G := ⟨_, rfl⟩
          have hFd : F.data.toList = f1 := by rw [← hF]
          have hGd : G.data.toList = f2' := by rw [← hG]
          rw [hF, hG] at bx
          have hA3 : Aft wr (wr.alloc (.cells #[.string X, .string Y] 28)) := (Aft.refl wr).alloc _
          have hA4 := HAT.out.trans hA3
          have b0a : (wr.alloc (.cells #[.string X, .string Y] 28)).cell? ⟨b, 0, none⟩ = some (.string F) := by rw [Below.cell hA4.to (p := ⟨b, 0, none⟩) HLT.out]; exact bx.1
          have b1a : (wr.alloc (.cells #[.string X, .string Y] 28)).cell? ⟨b, 1, none⟩ = some (.string G) := by rw [Below.cell hA4.to (p := ⟨b, 1, none⟩) HLT.out]; exact bx.2
          have c1a : (wr.alloc (.cells #[.string X, .string Y] 28)).cell? ⟨g, 1, none⟩ = some (.slice (some ⟨kg, 0, none⟩) 61 kc) := (H1.out.aft hA4).cells.1.2.1
          have HA5 := Lib.hid (HAI.out.trans hA3)
          have hcs := eq_pair X Y F G hXd hYd hFd hGd
          have HGI := Lib.hid hgi
          have hii : (i : Int) < (sl : Int) := by omega
          have e1 : ((offs k + i : Nat) : Int) + 1 = (k : Int) * 61 + (i : Int) + 1 := by unfold offs; push_cast; omega
          have HE1 := Lib.hid e1
          have g1 : IntKind.i64.wrap ((k : Int) * 61) = (k : Int) * 61 := IntWalk.i64_in _ (by omega)
          have g2 : IntKind.i64.wrap ((k : Int) * 61 + (i : Int)) = (k : Int) * 61 + (i : Int) := IntWalk.i64_in _ (by omega)
          have g3 : IntKind.i64.wrap ((k : Int) * 61 + (i : Int) + 1) = (k : Int) * 61 + (i : Int) + 1 := IntWalk.i64_in _ (by omega)
          clear hX hY hF hG hXd hYd hFd hGd bx hA3 hA4 hgi e1 hil2 hsgl
          rcases hcs with ⟨he, t1, t2⟩ | ⟨he, hn1, t1, t2⟩ | ⟨he, hn1, t1⟩
          · have HR2 : Hid (R = (((offs k + i : Nat) : Int) + 1, true)) := Lib.hid (by rw [← HGI.out]; exact findGo_eq he)
            clear he
            go_wp2_with fail
            go_ret2
            refine ⟨?_, (HA1.out.trans HAW.out).trans HA5.out⟩
            rw [HR2.out]
            exact congrArg (fun z : Int => Ending.returned (.tuple #[.int .i64 z, .bool true])) HE1.out.symm
          · have HHE := Lib.hid he
            clear he
            by_cases h0 : nm2 = 0
            · subst h0
              have HGN : Hid (findGo (f1, f2') (offs k + (i + 1)) ((k : Int) * 61 + (i : Int) + 1) tl = R) := Lib.hid (by rw [← HGI.out, findGo_nm HHE.out hn1 rfl, HE1.out]; rfl)
              clear hn1
              go_wp2_with fail
              go_roundw
              case rel => exact ⟨i + 1, _, by omega, by go_num, rfl, Lib.hid (by rw [HTL.out]; exact HGN.out), HA5⟩
              case measure => simp [intOf]; omega
            · have HGN : Hid (findGo (f1, f2') (offs k + (i + 1)) nm2 tl = R) := Lib.hid (by rw [← HGI.out, findGo_no HHE.out (fun hh => h0 hh.2)]; rfl)
              have h00 : (nm2 == 0) = false := by simpa using h0
              clear hn1 h0
              go_wp2_with fail
              go_roundw
              case rel => exact ⟨i + 1, _, by omega, by go_num, rfl, Lib.hid (by rw [HTL.out]; exact HGN.out), HA5⟩
              case measure => simp [intOf]; omega
          · have HGN : Hid (findGo (f1, f2') (offs k + (i + 1)) nm2 tl = R) := Lib.hid (by rw [← HGI.out, findGo_no he (fun hh => hn1 hh.1)]; rfl)
            clear he hn1
            go_wp2_with fail
            go_roundw
            case rel => exact ⟨i + 1, _, by omega, by go_num, rfl, Lib.hid (by rw [HTL.out]; exact HGN.out), HA5⟩
            case measure => simp [intOf]; omega
        · obtain rfl : i = sl := by omega
          have HGN : Hid (findGo (f1, f2') (offs (k + 1)) nm2 (rests l (k + 1)) = R ∨ k = 1) := Lib.hid (by
            rcases (show k = 0 ∨ k = 1 by omega) with rfl | rfl
            · left
              have h1 := HG.out
              rw [← HSL.out, List.drop_length, List.nil_append, HSL.out, HNX.out rfl] at h1
              exact h1
            · right; rfl)
          have HGN2 : Hid (findGo (f1, f2') (offs (k + 1)) nm2 (rests l (k + 1)) = R) := Lib.hid (by
            rcases HGN.out with h1 | rfl
            · exact h1
            · have h1 := HG.out
              rw [← HSL.out, List.drop_length, List.nil_append] at h1
              exact h1)
          clear HG HGN
          go_wp2_with fail
          go_roundw
          case rel => exact ⟨k + 1, nm2, by omega, by go_num, rfl, HGN2, HAI⟩
          case measure => simp [intOf]; omega
    · obtain rfl : k = 2 := by omega
      have HR2 : Hid (R = (nm, false)) := Lib.hid (by rw [← HF.out]; rfl)
      go_wp2_with fail
      go_ret2
      refine ⟨?_, (HA1.out.trans HAW.out).trans HAX.out⟩
      rw [HR2.out]
      rfl

end Go.Proofs.YtmlnboibclfmcaaDoor
