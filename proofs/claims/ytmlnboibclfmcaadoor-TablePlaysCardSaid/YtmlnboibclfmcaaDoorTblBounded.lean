/-
  TableBounded.
-/
import Derived.Test.YtmlnboibclfmcaaDoorTblTwins
namespace Go.Proofs.YtmlnboibclfmcaaDoor
open Go.ChangeShapes Go.WideShapes Go.ChangeAt Go.RowKit
set_option linter.unusedVariables false

theorem fitF_len {m : Int} {l : List FieldL} : (fitF m l).length ≤ l.length := by
  obtain ⟨k, h1, h2⟩ := fitF_take (m := m) (l := l)
  rw [h2, List.length_take]; omega
theorem addF_len {m : Int} {f : FieldL} {l : List FieldL} : (addF m f l).length ≤ l.length + 1 := by
  unfold addF
  have h := fitF_len (m := m - fsize f) (l := l)
  split
  · simp only [List.length_cons]; omega
  · omega
theorem rsF_len {m n : Int} {l : List FieldL} : (rsF m n l).length ≤ l.length := by
  unfold rsF
  split
  · exact fitF_len
  · exact Nat.le_refl _
theorem addF_top {m : Int} {f : FieldL} {l : List FieldL} (h : (fsize f : Int) ≤ m) : ∃ r, addF m f l = f :: r := ⟨_, by unfold addF; rw [if_pos h]⟩
theorem addF_get {m : Int} {f : FieldL} {l : List FieldL} (h : (fsize f : Int) ≤ m) : getF (addF m f l) 62 = f ∧ getB (addF m f l) 62 = true := by
  obtain ⟨r, hr⟩ := addF_top (l := l) h
  rw [hr]
  have := getF_own (f :: r) 0 (by simp)
  simpa using this
/-- A table and a list of the law's own beside it. -/
structure TL (w : World) (B g : Nat) (vo vk : Value) (tl : List FieldL) (m : Int) (va : Value) (la : List FieldL) : Prop where
  a : Tab w B g vo vk tl m
  b : OwnF w B va la
  sep : ∀ k, FP g vo vk k → va.ownBlock = some k → False
theorem TL.aft {w w' : World} {B g : Nat} {vo vk : Value} {tl : List FieldL} {m : Int} {va : Value} {la : List FieldL} (h : TL w B g vo vk tl m va la) (ha : Aft w w') : TL w' B g vo vk tl m va la := ⟨h.a.aft ha, h.b.aft ha, h.sep⟩
theorem TL.step {w w' : World} {B g : Nat} {vo vk : Value} {tl : List FieldL} {m : Int} {va : Value} {la : List FieldL} (h : TL w B g vo vk tl m va la) {o1' : Value} {l1' : List FieldL} {m1' : Int} (ht : Tab w' B g o1' vk l1' m1') (hc : Chg (TP g vo) w w') (hf : ∀ k, TP g o1' k → TP g vo k ∨ w.heap.size ≤ k) : TL w' B g o1' vk l1' m1' va la :=
  ⟨ht, h.b.chg hc (fun k hk e => h.sep k (Or.inl e) hk), fun k x y => by
    rcases x with x | x
    · rcases hf k x with z | z
      · exact h.sep k (Or.inl z) y
      · have := (h.b.lt k y).2; omega
    · exact h.sep k (Or.inr x) y⟩
theorem TL.push {w w' : World} {B g : Nat} {vo vk : Value} {tl : List FieldL} {m : Int} {va va' : Value} {la la' : List FieldL} (h : TL w B g vo vk tl m va la) (o : OwnF w' B va' la') (gr : w.grownBy w' va.ownBlock) (ho : ∀ k, va'.ownBlock = some k → va.ownBlock = some k ∨ w.heap.size ≤ k) : TL w' B g vo vk tl m va' la' :=
  have hc : Chg (fun k => va.ownBlock = some k) w w' := Chg.grown gr (fun k hk => hk)
  ⟨h.a.chg hc (fun e => h.sep g (Or.inl (Or.inl rfl)) e) (fun k hk e => h.sep k (Or.inl (Or.inr hk)) e) (fun k hk e => h.sep k (Or.inr hk) e), o, fun k x y => by
    rcases ho k y with z | z
    · exact h.sep k x z
    · have := h.a.fp_lt x; omega⟩
theorem tl_add {w0 w : World} {B g : Nat} {vo vk : Value} {tl : List FieldL} {m : Int} {va : Value} {la : List FieldL} (h : TL w B g vo vk tl m va la) (f : FieldL) (v : Value) (hv : fieldV f = v) (hf : fsize f ≤ 1000000000000) (hr : Room tl m) (ha : Aft w0 w) (hw : w0.heap.size = B) :
    Calls Tryd.prog 19 #[.pointer (some ⟨g, 0, none⟩), v] w fun e w' => e = .returned (.tuple #[]) ∧ ∃ o1', TL w' B g o1' vk (addF m f tl) m va la ∧ Room (addF m f tl) m ∧ Aft w0 w' ∧ Chg (TP g vo) w w' := by
  subst hv
  refine (add_to f _ h.a hr.1 hr.2.1 hr.2.2 hf (by rw [← hw]; exact ha.size) rfl ha (Nat.le_of_eq hw)).mono ?_
  rintro e w' ⟨rfl, o1', t, a, c, p⟩
  exact ⟨rfl, o1', h.step t c p, ⟨addF_le hr.2.1, hr.2⟩, a, c⟩
theorem tl_resize {w0 w : World} {B g : Nat} {vo vk : Value} {tl : List FieldL} {m : Int} {va : Value} {la : List FieldL} (h : TL w B g vo vk tl m va la) (n : Int) (hr : Room tl m) (ha : Aft w0 w) (hw : w0.heap.size = B) :
    Calls Tryd.prog 24 #[.pointer (some ⟨g, 0, none⟩), .int .i64 n] w fun e w' => e = .returned (.int .i64 (rsE n)) ∧ ∃ o1', TL w' B g o1' vk (rsF m n tl) (rsM m n) va la ∧ Room (rsF m n tl) (rsM m n) ∧ Aft w0 w' ∧ Chg (TP g vo) w w' := by
  unfold rsF rsM rsE
  by_cases hn : 0 ≤ n ∧ n ≤ 65536
  · rw [if_pos hn, if_pos hn, if_pos hn]
    refine (resize_to n _ h.a (by have := hr.1; have := hr.2.2; omega) hn.1 hn.2 (by rw [← hw]; exact ha.size) rfl ha (Nat.le_of_eq hw)).mono ?_
    rintro e w' ⟨rfl, o1', t, a, c, p⟩
    exact ⟨rfl, o1', h.step t c p, ⟨fitF_le' hn.1, hn⟩, a, c⟩
  · rw [if_neg hn, if_neg hn, if_neg hn]
    refine (resize_no (B := B) n hn).mono ?_
    rintro e w' ⟨rfl, rfl⟩
    exact ⟨rfl, vo, h, hr, ha, Chg.refl _ _⟩
/-- The law's own copy of an ask. -/
def AB4 (w : World) (g : Nat) (kd nn : Int) (X Y : ByteArray) : Prop := w.heap[g]? = some (.cells #[.int .i64 kd, .int .i64 nn, .string X, .string Y] 39 (0, 0))
theorem AB4.lt {w : World} {g : Nat} {kd nn : Int} {X Y : ByteArray} (h : AB4 w g kd nn X Y) : g < w.heap.size := by
  rcases Nat.lt_or_ge g w.heap.size with h1 | h1
  · exact h1
  · unfold AB4 at h; rw [Array.getElem?_eq_none h1] at h; cases h
theorem AB4.aft {w w' : World} {g : Nat} {kd nn : Int} {X Y : ByteArray} (h : AB4 w g kd nn X Y) (ha : Aft w w') : AB4 w' g kd nn X Y := by
  have hl := h.lt
  unfold AB4 at h ⊢
  rw [Below.block ha.to g hl]
  exact h
theorem AB4.chg {p : Nat → Prop} {w w' : World} {g : Nat} {kd nn : Int} {X Y : ByteArray} (h : AB4 w g kd nn X Y) (hc : Chg p w w') (hp : ¬ p g) : AB4 w' g kd nn X Y := by
  have hl := h.lt
  unfold AB4 at h ⊢
  rw [hc.block g hl hp]
  exact h
theorem AB4.cells {w : World} {g : Nat} {kd nn : Int} {X Y : ByteArray} (h : AB4 w g kd nn X Y) : w.cell? ⟨g, 0, none⟩ = some (.int .i64 kd) ∧ w.cell? ⟨g, 1, none⟩ = some (.int .i64 nn) ∧ w.cell? ⟨g, 2, none⟩ = some (.string X) ∧ w.cell? ⟨g, 3, none⟩ = some (.string Y) := by
  unfold AB4 at h
  refine ⟨?_, ?_, ?_, ?_⟩ <;> (rw [cell_of_row w g _ _ _ (0, 0) h]; rfl)
theorem tl_not {w W : World} {B g : Nat} {vo vk : Value} {tl : List FieldL} {m : Int} {va : Value} {la : List FieldL} (h : TL w B g vo vk tl m va la) {gx : Nat} (hx : w.heap.size ≤ gx) : ¬ TP g vo gx ∧ va.ownBlock ≠ some gx := ⟨fun e => by have := h.a.fp_lt (Or.inl e); omega, fun e => by have := (h.b.lt gx e).2; omega⟩
theorem sum_step (tl : List FieldL) (j : Nat) (h : j < tl.length) : (sumF (tl.take (j + 1)) : Int) = (sumF (tl.take j) : Int) + ((tl[j].1.length : Int) + (tl[j].2.length : Int) + 32) := by
  rw [List.take_succ_eq_append_getElem h, sumF_append, sumF_cons, sumF_nil]
  unfold fsize
  push_cast
  omega
theorem meas_bnd (n j : Nat) (h : j < n) : n - ((j : Int) + 1).toNat < n - (j : Int).toNat := by omega
theorem meas_out (n i : Nat) (h : i < n) : n - ((i : Int) + 1).toNat < n - (i : Int).toNat := by omega

set_option maxHeartbeats 16000000 in
set_option maxRecDepth 100000 in
theorem tblbnd_any (most : Int) (b0 : -9223372036854775808 ≤ most) (b1 : most ≤ 9223372036854775807) (v : Value) (l : List AskL) (w : World) (hm : MaxOk w) (hr : RbA w v l) (hok : ∀ x ∈ l, AskOk 281474976710656 x) (hll : l.length ≤ 281474976710656) :
    Calls Tryd.prog 6 #[.int .i64 most, v] w fun e w' => e = .returned (.bool true) ∧ Aft w w' := by
  have HWI := Lib.hid (within_any most 0 65536 b0 b1 (by decide) (by decide) (by decide))
  obtain ⟨va, vc, vb, voff, rfl, hvc, hvm, hcell⟩ := hr.open
  unfold maxLen at hvm
  have HM := Lib.hid hm
  have HCELL := Lib.hid hcell
  have HOK := Lib.hid hok
  clear hr hm hcell hok b0 b1
  go_enter Tryd.func6, Tryd.ntmps6
  go_wp2_with fail
  refine (HWI.out _).mono ?_
  rintro e w0 ⟨r, rfl, r0, r1, rfl⟩
  have HN := Lib.hid (tnew_yes r r0 (by omega) w HM.out)
  have R0 := Lib.hid (And.intro r0 r1)
  clear r0 r1
  go_wp2_with fail
  refine HN.out.mono ?_
  rintro e w1 ⟨g1, k1, rfl, t1, a1⟩
  obtain ⟨B, hB⟩ : ∃ B, w.heap.size = B := ⟨_, rfl⟩
  rw [hB] at t1
  have HB := Lib.hid hB
  have H1 : Hid (TL w1 B g1 (.slice none 0 0) k1 [] r (.slice none 0 0) []) := Lib.hid ⟨t1, OwnF.nil _ _, fun k _ y => by cases y⟩
  have A1 := Lib.hid a1
  clear t1 a1 HN HWI hB
  go_wp2_with fail
  go_loopw [7, 8] (fun v7 v8 wr => ∃ (i : Nat) (vo : Value) (tl : List FieldL) (m : Int) (ao : Option Addr) (na co : Nat) (la : List FieldL), i ≤ l.length ∧ v8 = .int .i64 (i : Int) ∧ v7 = .slice ao na co ∧ na = la.length ∧ Hid (TL wr B g1 vo k1 tl m (.slice ao na co) la) ∧ Hid (Room tl m) ∧ Hid (Aft w wr) ∧ Hid (tl.length ≤ la.length ∧ la.length ≤ i)) (fun _ v8 _ => l.length - (intOf v8).toNat)
  case atStart => exact ⟨0, _, [], r, none, 0, 0, [], by omega, by go_num, rfl, rfl, H1, Lib.hid ⟨by show ((0 : Nat) : Int) ≤ _; have := R0.out; omega, R0.out⟩, A1, Lib.hid ⟨Nat.le_refl _, Nat.zero_le _⟩⟩
  case round =>
    obtain ⟨i, vo, tl, m, ao, na, co, la, hi, rfl, rfl, hna, HT, HS, HA, HL⟩ := hrel
    have HNA := Lib.hid hna
    clear hna
    by_cases hlt : i < l.length ∧ i < 60
    · obtain ⟨hlt, h40⟩ := hlt
      obtain ⟨rfl, hvb, x0, x1, x2, x3⟩ := HCELL.out i hlt
      have hak := HOK.out _ (List.getElem_mem hlt)
      have hsz := hak.sz
      generalize l[i] = q at x0 x1 x2 x3 hsz hak
      obtain ⟨X, hX⟩ : ∃ X : ByteArray, (⟨q.f.1.toArray⟩ : ByteArray) = X := ⟨_, rfl⟩
      obtain ⟨Y, hY⟩ : ∃ Y : ByteArray, (⟨q.f.2.toArray⟩ : ByteArray) = Y := ⟨_, rfl⟩
      have zX : X.size = q.f.1.length := by rw [← hX]; show q.f.1.toArray.size = _; simp
      have zY : Y.size = q.f.2.length := by rw [← hY]; show q.f.2.toArray.size = _; simp
      have HQ : Hid ((X.size : Int) + (Y.size : Int) ≤ 1000 → fsize q.f ≤ 1000000000000) := Lib.hid (fun h => by unfold fsize; omega)
      have HFV : Hid (fieldV q.f = .agg #[.string X, .string Y]) := Lib.hid (by unfold fieldV; rw [hX, hY])
      have HXY : Hid (strV q.f.1 = .string X ∧ strV q.f.2 = .string Y) := Lib.hid ⟨by unfold strV; rw [hX], by unfold strV; rw [hY]⟩
      have HASK := Lib.hid (fun wx a => ask_cells (q1 := []) (q2 := []) hvb x0 x1 x2 x3 (by unfold strV; rw [hX]) (by unfold strV; rw [hY]) wx a)
      have HFS : Hid ((fsize q.f : Int) = (X.size : Int) + (Y.size : Int) + 32) := Lib.hid (by unfold fsize; rw [zX, zY]; push_cast; omega)
      rw [← zX, ← zY] at hsz
      have HSZ := Lib.hid hsz
      obtain ⟨kd, hkd⟩ : ∃ kd, q.kind = kd := ⟨_, rfl⟩
      obtain ⟨nn, hnn⟩ : ∃ nn, q.n = nn := ⟨_, rfl⟩
      rw [hkd, hnn] at HASK
      have gXY : IntKind.i64.wrap ((X.size : Int) + (Y.size : Int)) = (X.size : Int) + (Y.size : Int) := IntWalk.i64_in _ (by omega)
      have i1 : (i : Int) < (l.length : Int) := by omega
      have i2 : (i : Int) < 60 := by omega
      obtain ⟨y0, y1, y2, y3⟩ := HASK.out _ HA.out
      have HLT := Lib.hid (And.intro hlt h40)
      clear hX hY zX zY x0 x1 x2 x3 hvb hak hkd hnn hsz HASK hlt h40
      have hAx : Aft wr (wr.alloc (.cells #[.int .i64 kd, .int .i64 nn, .string X, .string Y] 39)) := (Aft.refl wr).alloc _
      have hxx : AB4 (wr.alloc (.cells #[.int .i64 kd, .int .i64 nn, .string X, .string Y] 39)) wr.heap.size kd nn X Y := heap_alloc_new wr _
      have HBX := Lib.hid hxx
      have HTX := Lib.hid (HT.out.aft hAx)
      have HAX := Lib.hid (HA.out.trans hAx)
      have HNX := Lib.hid (tl_not (W := wr) HT.out (Nat.le_refl _))
      clear hAx hxx HA HT
      go_upto_region 9 with fail
      clear y0 y1 y2 y3
      generalize wr.heap.size = gx at HBX HNX ⊢
      generalize wr.alloc (.cells #[.int .i64 kd, .int .i64 nn, .string X, .string Y] 39) = wx at HBX HTX HAX ⊢
      obtain ⟨y0, y1, y2, y3⟩ := HBX.out.cells
      by_cases hbig : (X.size : Int) + (Y.size : Int) > 1000
      · go_wp2_with fail
        go_roundw
        case rel => exact ⟨i + 1, vo, tl, m, ao, na, co, la, by have := HLT.out; omega, by go_num, rfl, HNA.out, HTX, HS, HAX, Lib.hid ⟨HL.out.1, by have := HL.out; omega⟩⟩
        case measure => simp [intOf] <;> (have := HLT.out; omega)
      · replace HQ := Lib.hid (HQ.out (by omega))
        by_cases hkd2 : kd = 2
        · subst hkd2
          go_wp2_with fail
          refine (tl_resize HTX.out nn HS.out HAX.out HB.out).mono ?_
          rintro e w5 ⟨rfl, vo', h5, r5, a5, c5⟩
          have H5 := Lib.hid h5
          have R5 := Lib.hid r5
          have A5 := Lib.hid a5
          have HB5 := Lib.hid (HBX.out.chg c5 HNX.out.1)
          have HL5 : Hid ((rsF m nn tl).length ≤ la.length ∧ la.length ≤ i + 1) := Lib.hid ⟨Nat.le_trans rsF_len HL.out.1, by have := HL.out; omega⟩
          have HNA5 := HNA
          clear h5 r5 a5 c5 HTX HBX HNX HL HNA y0 y1 y2 y3
          obtain ⟨tl', htl⟩ : ∃ t, rsF m nn tl = t := ⟨_, rfl⟩
          obtain ⟨m', hm'⟩ : ∃ t, rsM m nn = t := ⟨_, rfl⟩
          rw [htl, hm'] at H5 R5
          rw [htl] at HL5
          clear htl hm' HS
          obtain ⟨y0, y1, y2, y3⟩ := HB5.out.cells
          go_wp2_with fail
          go_loopw [10, 11] (fun v10 v11 wy => ∃ j : Nat, j ≤ tl'.length ∧ v11 = .int .i64 (j : Int) ∧ v10 = .int .i64 (sumF (tl'.take j) : Int) ∧ Hid (Aft w5 wy)) (fun _ v11 _ => tl'.length - (intOf v11).toNat)
          case atStart => exact ⟨0, by omega, by go_num, rfl, Lib.hid (Aft.refl _)⟩
          case round =>
            obtain ⟨j, hj, rfl, h10, HX⟩ := hrel
            have HTJ := Lib.hid (H5.out.aft HX.out)
            have HLE5 := Lib.hid R5.out.len
            go_wp2_with fail
            refine (tlen_any HTJ.out.a).mono ?_
            rintro e w6 ⟨rfl, rfl⟩
            by_cases hin : j < tl'.length
            · have hss := sum_step tl' j hin
              have hrm : (sumF (tl'.take (j + 1)) : Int) ≤ 65536 := by have h1 := sumF_take tl' (j + 1); have h2 := R5.out.1; have h3 := R5.out.2.2; omega
              have hs0 : (0 : Int) ≤ (sumF (tl'.take j) : Int) := Int.natCast_nonneg _
              obtain ⟨hg, hgb⟩ := getF_own tl' j hin
              have HGA := Lib.hid (fun w' (h' : TL w' B g1 vo' k1 tl' m' (.slice ao na co) la) => get_is (w := w') ((j : Int) + 62) (fieldV tl'[j]) true (by omega) (by have := HLE5.out; omega) h'.a (by rw [hg]) hgb)
              clear hg hgb
              obtain ⟨N1, hN1⟩ : ∃ N, (sumF (tl'.take (j + 1)) : Int) = N := ⟨_, rfl⟩
              obtain ⟨N0, hN0⟩ : ∃ N, (sumF (tl'.take j) : Int) = N := ⟨_, rfl⟩
              have HN1 := Lib.hid hN1
              rw [hN1, hN0] at hss
              rw [hN0] at h10 hs0
              rw [hN1] at hrm
              subst h10
              generalize tl'[j] = x at HGA hss
              obtain ⟨x1, x2⟩ := x
              unfold fieldV at HGA
              simp only at HGA hss
              obtain ⟨X', hX⟩ : ∃ X : ByteArray, (⟨x1.toArray⟩ : ByteArray) = X := ⟨_, rfl⟩
              obtain ⟨Y', hY⟩ : ∃ Y : ByteArray, (⟨x2.toArray⟩ : ByteArray) = Y := ⟨_, rfl⟩
              have zX : X'.size = x1.length := by rw [← hX]; show x1.toArray.size = _; simp
              have zY : Y'.size = x2.length := by rw [← hY]; show x2.toArray.size = _; simp
              rw [hX, hY] at HGA
              rw [← zX, ← zY] at hss
              have HIN := Lib.hid hin
              have hii : (j : Int) < (tl'.length : Int) := by omega
              have g62 : IntKind.i64.wrap (62 + (j : Int)) = (j : Int) + 62 := (IntWalk.i64_in _ (by have := HLE5.out; omega)).trans (Int.add_comm _ _)
              have u1 : IntKind.i64.wrap (N0 + (X'.size : Int)) = N0 + (X'.size : Int) := IntWalk.i64_in _ (by omega)
              have u2 : IntKind.i64.wrap (N0 + (X'.size : Int) + (Y'.size : Int)) = N0 + (X'.size : Int) + (Y'.size : Int) := IntWalk.i64_in _ (by omega)
              have u3 : IntKind.i64.wrap (N0 + (X'.size : Int) + (Y'.size : Int) + 32) = N0 + (X'.size : Int) + (Y'.size : Int) + 32 := IntWalk.i64_in _ (by omega)
              have HN2 : Hid (N0 + (X'.size : Int) + (Y'.size : Int) + 32 = N1) := Lib.hid (by omega)
              have HJL : Hid (j < na) := Lib.hid (by have h1 := HL5.out.1; have h2 := HNA5.out; omega)
              clear hX hY hin hN1 hN0 zX zY hss hrm hs0
              go_wp2_with fail
              refine (HGA.out _ HTJ.out).mono ?_
              rintro e w7 ⟨rfl, a7⟩
              have HX7 := Lib.hid (HX.out.trans (a7.alloc (.cells #[.string X', .string Y'] 28)))
              have hx7 : FB2 (w7.alloc (.cells #[.string X', .string Y'] 28)) w7.heap.size X' Y' := heap_alloc_new w7 _
              have HB7 := Lib.hid hx7
              clear a7 hx7 HGA
              go_upto_region 21 with fail
              generalize w7.heap.size = gy at HB7 ⊢
              generalize w7.alloc (.cells #[.string X', .string Y'] 28) = W7 at HX7 HB7 ⊢
              obtain ⟨z0, z1⟩ := HB7.out.cells
              have k2 : ¬ ((j : Int) ≥ (na : Int)) := by have := HJL.out; omega
              have HG63 : Hid (wrap64 ((j : Int) + 1) = (j : Int) + 1) := Lib.hid (IntWalk.wrap64_in _ ⟨by omega, by have := HIN.out; have := HLE5.out; omega⟩)
              by_cases hjp : (j : Int) > 0
              all_goals
                go_wp2_with fail
                go_roundw
                case rel => exact ⟨j + 1, HIN.out, by (try rw [HG63.out]); exact congrArg (Value.int .i64) (by push_cast; omega), congrArg (Value.int .i64) (by rw [HN1.out]; exact HN2.out), HX7⟩
                case measure => (try rw [HG63.out]); exact meas_bnd _ _ HIN.out
            · obtain rfl : j = tl'.length := by omega
              rw [List.take_length] at h10
              subst h10
              have hii : ¬ ((tl'.length : Int) < (tl'.length : Int)) := by omega
              have k1' : ¬ ((sumF tl' : Int) > m') := by have := R5.out.1; omega
              have k2' : ¬ (m' > 65536) := by have := R5.out.2; omega
              have HTS := Lib.hid (tsize_any HTJ.out.a)
              have HTM := Lib.hid (tmost_any HTJ.out.a)
              have HAJ := Lib.hid (A5.out.trans HX.out)
              have HBJ := Lib.hid (HB5.out.aft HX.out)
              generalize (sumF tl' : Int) = N at k1' HTS ⊢
              clear hj hin
              go_wp2_with fail
              refine HTS.out.mono ?_
              rintro e w6 ⟨rfl, rfl⟩
              go_wp2_with fail
              refine HTM.out.mono ?_
              rintro e w6 ⟨rfl, rfl⟩
              go_wp2_with fail
              refine HTM.out.mono ?_
              rintro e w6 ⟨rfl, rfl⟩
              obtain ⟨y0, y1, y2, y3⟩ := HBJ.out.cells
              go_wp2_with fail
              go_quiet (fail)
              go_wp2_with fail
              go_roundw
              case rel => exact ⟨i + 1, vo', tl', m', ao, na, co, la, by have := HLT.out; omega, by go_num, rfl, HNA5.out, Lib.hid (HTJ.out.aft ((Aft.refl _).drewN _)), R5, Lib.hid (HAJ.out.drewN _), HL5⟩
              case measure => simp [intOf] <;> (have := HLT.out; omega)
        · have hk3 : (kd == 2) = false := by simpa using hkd2
          have hk4 : (kd != 2) = true := by simpa using hkd2
          clear hkd2
          go_wp2_with fail
          refine (tl_add HTX.out q.f _ HFV.out HQ.out HS.out HAX.out HB.out).mono ?_
          rintro e w4 ⟨rfl, vo', h4, r4, a4, c4⟩
          have H4 := Lib.hid (h4.aft ((Aft.refl _).alloc (.cells #[.string X, .string Y] 28)))
          have R5 := Lib.hid r4
          have A4 := Lib.hid (a4.alloc (.cells #[.string X, .string Y] 28))
          have HB4 := Lib.hid (HBX.out.chg c4 HNX.out.1)
          obtain ⟨y0', y1', y2', y3'⟩ := HB4.out.cells
          have HB4' := Lib.hid (HB4.out.aft ((Aft.refl _).alloc (.cells #[.string X, .string Y] 28)))
          have HN4 := Lib.hid (new2 w4 (Value.string X) (Value.string Y) 28)
          have HGE : Hid (B ≤ (w4.alloc (.cells #[.string X, .string Y] 28)).heap.size) := Lib.hid (by rw [← HB.out]; exact A4.out.size)
          have HLL : Hid (la.length + 1 ≤ 1000000000000) := Lib.hid (by have := HL.out; have := HLT.out; omega)
          have HC4 := Lib.hid (And.intro (show (w4.alloc (.cells #[.string X, .string Y] 28)).cell? ⟨w4.heap.size, 0, none⟩ = some (strV q.f.1) by rw [HXY.out.1]; exact HN4.out.1) (show (w4.alloc (.cells #[.string X, .string Y] 28)).cell? ⟨w4.heap.size, 1, none⟩ = some (strV q.f.2) by rw [HXY.out.2]; exact HN4.out.2))
          have hna := HNA.out
          subst hna
          clear h4 r4 a4 c4 y0 y1 y2 y3
          go_upto_region 14 with (at_builtin; refine wpList_pushL rfl (.tmp 63) (.tmp 66) rfl B _ la rfl H4.out.b w4.heap.size 1 q.f rfl HC4.out.1 HC4.out.2 HLL.out HGE.out ?_; intro ga ca w5 o5 gr5 ho5)
          have H5 := Lib.hid (H4.out.push o5 gr5 (own_or ho5))
          have c5 : Chg (fun k => (Value.slice ao la.length co).ownBlock = some k) _ w5 := Chg.grown gr5 (fun k hk => hk)
          have A5 := Lib.hid (A4.out.chg c5 (fun k hk => by rw [HB.out]; exact (H4.out.b.lt k hk).1))
          have HB5 := Lib.hid (HB4'.out.chg c5 HNX.out.2)
          have HL5 : Hid ((addF m q.f tl).length ≤ (la ++ [q.f]).length ∧ (la ++ [q.f]).length ≤ i + 1) := Lib.hid (by have h1 := addF_len (m := m) (f := q.f) (l := tl); have h2 := HL.out; rw [List.length_append]; simp only [List.length_cons, List.length_nil]; omega)
          have HNA5 : Hid (la.length + 1 = (la ++ [q.f]).length) := Lib.hid (by rw [List.length_append]; rfl)
          have HTOP : Hid ((fsize q.f : Int) ≤ m → getF (addF m q.f tl) 62 = q.f ∧ getB (addF m q.f tl) 62 = true) := Lib.hid (fun h => addF_get h)
          clear o5 gr5 ho5 c5 HTX HBX HNX HL HNA y0' y1' y2' y3' H4 A4 HB4 HB4' HN4 HGE HLL HC4
          obtain ⟨tl', htl⟩ : ∃ t, addF m q.f tl = t := ⟨_, rfl⟩
          obtain ⟨m', hm'⟩ : ∃ t, m = t := ⟨_, rfl⟩
          rw [htl] at H5 R5 HTOP HL5
          rw [hm'] at H5 R5 HTOP
          clear htl hm' HS
          obtain ⟨ao', hao⟩ : ∃ t, some (⟨ga, 0, none⟩ : Addr) = t := ⟨_, rfl⟩
          obtain ⟨na', hna⟩ : ∃ t, la.length + 1 = t := ⟨_, rfl⟩
          obtain ⟨co', hco⟩ : ∃ t, ca = t := ⟨_, rfl⟩
          obtain ⟨la', hla⟩ : ∃ t, la ++ [q.f] = t := ⟨_, rfl⟩
          rw [hla] at H5 HL5 HNA5
          rw [hna] at H5 HNA5 ⊢
          rw [hao, hco] at H5 ⊢
          clear hao hna hla hco
          obtain ⟨y0, y1, y2, y3⟩ := HB5.out.cells
          go_wp2_with fail
          go_loopw [10, 11] (fun v10 v11 wy => ∃ j : Nat, j ≤ tl'.length ∧ v11 = .int .i64 (j : Int) ∧ v10 = .int .i64 (sumF (tl'.take j) : Int) ∧ Hid (Aft w5 wy)) (fun _ v11 _ => tl'.length - (intOf v11).toNat)
          case atStart => exact ⟨0, by omega, by go_num, rfl, Lib.hid (Aft.refl _)⟩
          case round =>
            obtain ⟨j, hj, rfl, h10, HX⟩ := hrel
            have HTJ := Lib.hid (H5.out.aft HX.out)
            have HLE5 := Lib.hid R5.out.len
            go_wp2_with fail
            refine (tlen_any HTJ.out.a).mono ?_
            rintro e w6 ⟨rfl, rfl⟩
            by_cases hin : j < tl'.length
            · have hss := sum_step tl' j hin
              have hrm : (sumF (tl'.take (j + 1)) : Int) ≤ 65536 := by have h1 := sumF_take tl' (j + 1); have h2 := R5.out.1; have h3 := R5.out.2.2; omega
              have hs0 : (0 : Int) ≤ (sumF (tl'.take j) : Int) := Int.natCast_nonneg _
              obtain ⟨hg, hgb⟩ := getF_own tl' j hin
              have HGA := Lib.hid (fun w' (h' : TL w' B g1 vo' k1 tl' m' (.slice ao' na' co') la') => get_is (w := w') ((j : Int) + 62) (fieldV tl'[j]) true (by omega) (by have := HLE5.out; omega) h'.a (by rw [hg]) hgb)
              clear hg hgb
              obtain ⟨N1, hN1⟩ : ∃ N, (sumF (tl'.take (j + 1)) : Int) = N := ⟨_, rfl⟩
              obtain ⟨N0, hN0⟩ : ∃ N, (sumF (tl'.take j) : Int) = N := ⟨_, rfl⟩
              have HN1 := Lib.hid hN1
              rw [hN1, hN0] at hss
              rw [hN0] at h10 hs0
              rw [hN1] at hrm
              subst h10
              generalize tl'[j] = x at HGA hss
              obtain ⟨x1, x2⟩ := x
              unfold fieldV at HGA
              simp only at HGA hss
              obtain ⟨X', hX⟩ : ∃ X : ByteArray, (⟨x1.toArray⟩ : ByteArray) = X := ⟨_, rfl⟩
              obtain ⟨Y', hY⟩ : ∃ Y : ByteArray, (⟨x2.toArray⟩ : ByteArray) = Y := ⟨_, rfl⟩
              have zX : X'.size = x1.length := by rw [← hX]; show x1.toArray.size = _; simp
              have zY : Y'.size = x2.length := by rw [← hY]; show x2.toArray.size = _; simp
              rw [hX, hY] at HGA
              rw [← zX, ← zY] at hss
              have HIN := Lib.hid hin
              have hii : (j : Int) < (tl'.length : Int) := by omega
              have g62 : IntKind.i64.wrap (62 + (j : Int)) = (j : Int) + 62 := (IntWalk.i64_in _ (by have := HLE5.out; omega)).trans (Int.add_comm _ _)
              have u1 : IntKind.i64.wrap (N0 + (X'.size : Int)) = N0 + (X'.size : Int) := IntWalk.i64_in _ (by omega)
              have u2 : IntKind.i64.wrap (N0 + (X'.size : Int) + (Y'.size : Int)) = N0 + (X'.size : Int) + (Y'.size : Int) := IntWalk.i64_in _ (by omega)
              have u3 : IntKind.i64.wrap (N0 + (X'.size : Int) + (Y'.size : Int) + 32) = N0 + (X'.size : Int) + (Y'.size : Int) + 32 := IntWalk.i64_in _ (by omega)
              have HN2 : Hid (N0 + (X'.size : Int) + (Y'.size : Int) + 32 = N1) := Lib.hid (by omega)
              have HJL : Hid (j < na') := Lib.hid (by have h1 := HL5.out.1; have h2 := HNA5.out; omega)
              clear hX hY hin hN1 hN0 zX zY hss hrm hs0
              go_wp2_with fail
              refine (HGA.out _ HTJ.out).mono ?_
              rintro e w7 ⟨rfl, a7⟩
              have HX7 := Lib.hid (HX.out.trans (a7.alloc (.cells #[.string X', .string Y'] 28)))
              have hx7 : FB2 (w7.alloc (.cells #[.string X', .string Y'] 28)) w7.heap.size X' Y' := heap_alloc_new w7 _
              have HB7 := Lib.hid hx7
              clear a7 hx7 HGA
              go_upto_region 21 with fail
              generalize w7.heap.size = gy at HB7 ⊢
              generalize w7.alloc (.cells #[.string X', .string Y'] 28) = W7 at HX7 HB7 ⊢
              obtain ⟨z0, z1⟩ := HB7.out.cells
              have k2 : ¬ ((j : Int) ≥ (na' : Int)) := by have := HJL.out; omega
              have HG63 : Hid (wrap64 ((j : Int) + 1) = (j : Int) + 1) := Lib.hid (IntWalk.wrap64_in _ ⟨by omega, by have := HIN.out; have := HLE5.out; omega⟩)
              by_cases hjp : (j : Int) > 0
              all_goals
                go_wp2_with fail
                go_roundw
                case rel => exact ⟨j + 1, HIN.out, by (try rw [HG63.out]); exact congrArg (Value.int .i64) (by push_cast; omega), congrArg (Value.int .i64) (by rw [HN1.out]; exact HN2.out), HX7⟩
                case measure => (try rw [HG63.out]); exact meas_bnd _ _ HIN.out
            · obtain rfl : j = tl'.length := by omega
              rw [List.take_length] at h10
              subst h10
              have hii : ¬ ((tl'.length : Int) < (tl'.length : Int)) := by omega
              have k1' : ¬ ((sumF tl' : Int) > m') := by have := R5.out.1; omega
              have k2' : ¬ (m' > 65536) := by have := R5.out.2; omega
              have HTS := Lib.hid (tsize_any HTJ.out.a)
              have HTM := Lib.hid (tmost_any HTJ.out.a)
              have HAJ := Lib.hid (A5.out.trans HX.out)
              have HBJ := Lib.hid (HB5.out.aft HX.out)
              generalize (sumF tl' : Int) = N at k1' HTS ⊢
              clear hj hin
              go_wp2_with fail
              refine HTS.out.mono ?_
              rintro e w6 ⟨rfl, rfl⟩
              go_wp2_with fail
              refine HTM.out.mono ?_
              rintro e w6 ⟨rfl, rfl⟩
              go_wp2_with fail
              refine HTM.out.mono ?_
              rintro e w6 ⟨rfl, rfl⟩
              obtain ⟨y0, y1, y2, y3⟩ := HBJ.out.cells
              have gXY3 : IntKind.i64.wrap ((X.size : Int) + (Y.size : Int) + 32) = (X.size : Int) + (Y.size : Int) + 32 := IntWalk.i64_in _ (by have := HSZ.out; omega)
              have HTQ := Lib.hid (fun nq => (tmost_any (HTJ.out.aft ((Aft.refl _).drewN nq)).a).mono (R' := fun e w' => e = .returned (.int .i64 m') ∧ w' = wr.drewN nq) (fun e w' h => ⟨h.1, h.2.symm⟩))
              by_cases hle : (X.size : Int) + (Y.size : Int) + 32 ≤ m'
              · have HGT := Lib.hid (fun w' (h' : TL w' B g1 vo' k1 tl' m' (.slice ao' na' co') la') => get_is (w := w') 62 (fieldV q.f) true (by omega) (by omega) h'.a (by rw [(HTOP.out (by rw [HFS.out]; exact hle)).1]) (HTOP.out (by rw [HFS.out]; exact hle)).2)
                rw [HFV.out] at HGT
                go_wp2_with fail
                go_quiet ((go_at_call 34; exact Calls.quiet_of_same (HTQ.out _)))
                go_wp2_with fail
                refine (HGT.out _ (HTJ.out.aft ((Aft.refl _).drewN _))).mono ?_
                rintro e w7 ⟨rfl, a7⟩
                have HX7 := Lib.hid ((((Aft.refl _).drewN _).trans a7).alloc (.cells #[.string X, .string Y] 28))
                have hx7 : FB2 (w7.alloc (.cells #[.string X, .string Y] 28)) w7.heap.size X Y := heap_alloc_new w7 _
                have HB7 := Lib.hid hx7
                clear a7 hx7 HGT
                go_upto_region 28 with fail
                generalize w7.heap.size = gy at HB7 ⊢
                generalize w7.alloc (.cells #[.string X, .string Y] 28) = W7 at HX7 HB7 ⊢
                obtain ⟨z0, z1⟩ := HB7.out.cells
                clear y0 y1 y2 y3
                obtain ⟨y0, y1, y2, y3⟩ := (HBJ.out.aft HX7.out).cells
                go_wp2_with fail
                go_roundw
                case rel => exact ⟨i + 1, vo', tl', m', ao', na', co', la', by have := HLT.out; omega, by go_num, rfl, HNA5.out, Lib.hid (HTJ.out.aft HX7.out), R5, Lib.hid (HAJ.out.trans HX7.out), HL5⟩
                case measure => simp [intOf] <;> (have := HLT.out; omega)
              · go_wp2_with fail
                go_quiet ((go_at_call 34; exact Calls.quiet_of_same (HTQ.out _)))
                go_wp2_with fail
                go_roundw
                case rel => exact ⟨i + 1, vo', tl', m', ao', na', co', la', by have := HLT.out; omega, by go_num, rfl, HNA5.out, Lib.hid (HTJ.out.aft ((Aft.refl _).drewN _)), R5, Lib.hid (HAJ.out.drewN _), HL5⟩
                case measure => simp [intOf] <;> (have := HLT.out; omega)
    · have HC9 : Hid (¬ (i < l.length ∧ i < 60)) := Lib.hid hlt
      have hstop : ((i : Int) < (l.length : Int)) → ¬ ((i : Int) < 60) := fun h1 h2 => HC9.out ⟨by omega, by omega⟩
      have hcs : ((i : Int) < (l.length : Int) ∧ ¬ ((i : Int) < 60)) ∨ ¬ ((i : Int) < (l.length : Int)) := by
        by_cases h1 : (i : Int) < (l.length : Int)
        · exact Or.inl ⟨h1, hstop h1⟩
        · exact Or.inr h1
      have HMR : Hid (MaxOk wr) := Lib.hid (HM.out.aft HA.out)
      clear hstop HC9 HCELL HOK hlt HS
      rcases hcs with ⟨h1, h2⟩ | h1
      all_goals
        go_wp2_with fail
        refine (tblruns_any _ HMR.out).mono ?_
        rintro e w11 ⟨rfl, a11⟩
        go_wp2_with fail
        go_ret
        exact ⟨rfl, HA.out.trans a11⟩

set_option maxRecDepth 100000 in
theorem walkTableBounded (w : World) (hsh : w.ShapedOpen Tryd.prog) {H : Type} {enc : TypeId × Value → H} {base : Nat} {v1 : Value} {d1 : DataW H} {p1 : List MemPlace} (a0 : Int) (w0 : (Lit.int .i64 a0).wf = true)
    (hval1 : Value.okWide Tryd.prog w .any base 36 v1) (k1 : DataW.Trod enc Tryd.prog w 0 (fun _ => true) true 36 v1 d1 p1) (hk : (DataW.weightsEach Tryd.prog [3, 36] [(.lit (.int .i64 a0) : DataW H), d1]).all (· ≤ reachBytes) = true) :
    Calls Tryd.prog 6 #[.int .i64 a0, v1] w fun e w' => e = .returned (.bool true) ∧ Aft w w' := by
  obtain ⟨l, hr, hok, hl⟩ := open_asksR hval1 k1 (wt_at hk (j := 1) rfl rfl)
  have hb := bounds_i64 w0
  exact tblbnd_any a0 hb.1 hb.2 v1 l w (maxOk_of w hsh) hr hok hl

end Go.Proofs.YtmlnboibclfmcaaDoor
