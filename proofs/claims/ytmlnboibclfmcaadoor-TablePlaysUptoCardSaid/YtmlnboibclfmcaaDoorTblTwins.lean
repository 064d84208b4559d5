/-
  TableTwins.
-/
import Derived.Test.YtmlnboibclfmcaaDoorTblFinds
namespace Go.Proofs.YtmlnboibclfmcaaDoor
open Go.ChangeShapes Go.WideShapes Go.ChangeAt Go.RowKit
set_option linter.unusedVariables false

def FP (g : Nat) (vo vk : Value) (k : Nat) : Prop := TP g vo k ∨ vk.ownBlock = some k
theorem Tab.fp_lt {w : World} {B g : Nat} {vo vk : Value} {l : List FieldL} {most : Int} (h : Tab w B g vo vk l most) {k : Nat} (hk : FP g vo vk k) : k < w.heap.size := by
  rcases hk with (hk | hk) | hk
  · rw [hk]; exact h.lt
  · exact (h.own.lt k hk).2
  · exact (h.kn.lt k hk).2
theorem Tab.fp_ge {w : World} {B g : Nat} {vo vk : Value} {l : List FieldL} {most : Int} (h : Tab w B g vo vk l most) {k : Nat} (hk : FP g vo vk k) : B ≤ k := by
  rcases hk with (hk | hk) | hk
  · rw [hk]; exact h.gB
  · exact (h.own.lt k hk).1
  · exact (h.kn.lt k hk).1
structure Two (w : World) (B1 g1 : Nat) (o1 k1 : Value) (l1 : List FieldL) (m1 : Int) (B2 g2 : Nat) (o2 k2 : Value) (l2 : List FieldL) (m2 : Int) : Prop where
  a : Tab w B1 g1 o1 k1 l1 m1
  b : Tab w B2 g2 o2 k2 l2 m2
  sep : ∀ k, FP g1 o1 k1 k → FP g2 o2 k2 k → False
theorem Two.symm {w : World} {B1 g1 : Nat} {o1 k1 : Value} {l1 : List FieldL} {m1 : Int} {B2 g2 : Nat} {o2 k2 : Value} {l2 : List FieldL} {m2 : Int} (h : Two w B1 g1 o1 k1 l1 m1 B2 g2 o2 k2 l2 m2) : Two w B2 g2 o2 k2 l2 m2 B1 g1 o1 k1 l1 m1 := ⟨h.b, h.a, fun k x y => h.sep k y x⟩
theorem Two.aft {w w' : World} {B1 g1 : Nat} {o1 k1 : Value} {l1 : List FieldL} {m1 : Int} {B2 g2 : Nat} {o2 k2 : Value} {l2 : List FieldL} {m2 : Int} (h : Two w B1 g1 o1 k1 l1 m1 B2 g2 o2 k2 l2 m2) (ha : Aft w w') : Two w' B1 g1 o1 k1 l1 m1 B2 g2 o2 k2 l2 m2 := ⟨h.a.aft ha, h.b.aft ha, h.sep⟩
theorem Two.step {w w' : World} {B1 g1 : Nat} {o1 k1 : Value} {l1 : List FieldL} {m1 : Int} {B2 g2 : Nat} {o2 k2 : Value} {l2 : List FieldL} {m2 : Int} (h : Two w B1 g1 o1 k1 l1 m1 B2 g2 o2 k2 l2 m2) {o1' : Value} {l1' : List FieldL} {m1' : Int} (ht : Tab w' B1 g1 o1' k1 l1' m1') (hc : Chg (TP g1 o1) w w') (hf : ∀ k, TP g1 o1' k → TP g1 o1 k ∨ w.heap.size ≤ k) : Two w' B1 g1 o1' k1 l1' m1' B2 g2 o2 k2 l2 m2 :=
  ⟨ht, h.b.chg hc (fun e => h.sep g2 (Or.inl e) (Or.inl (Or.inl rfl))) (fun k hk e => h.sep k (Or.inl e) (Or.inl (Or.inr hk))) (fun k hk e => h.sep k (Or.inl e) (Or.inr hk)), fun k x y => by
    rcases x with x | x
    · rcases hf k x with z | z
      · exact h.sep k (Or.inl z) y
      · have := h.b.fp_lt y; omega
    · exact h.sep k (Or.inr x) y⟩

/-- What is known of a table's list and room. -/
def Room (l : List FieldL) (m : Int) : Prop := (sumF l : Int) ≤ m ∧ 0 ≤ m ∧ m ≤ 65536
theorem Room.len {l : List FieldL} {m : Int} (h : Room l m) : l.length ≤ 1000000 := by
  have h1 := sumF_len l
  have h2 := h.1
  have h3 := h.2.2
  omega
theorem two_add {w0 w : World} {B1 g1 : Nat} {o1 k1 : Value} {l1 : List FieldL} {m1 : Int} {B2 g2 : Nat} {o2 k2 : Value} {l2 : List FieldL} {m2 : Int} (h : Two w B1 g1 o1 k1 l1 m1 B2 g2 o2 k2 l2 m2) (f : FieldL) (v : Value) (hv : fieldV f = v) (hf : fsize f ≤ 1000000000000) (hr : Room l1 m1) (ha : Aft w0 w) (hw : w0.heap.size ≤ B1) (hB : B1 ≤ w.heap.size) :
    Calls Tryd.prog 19 #[.pointer (some ⟨g1, 0, none⟩), v] w fun e w' => e = .returned (.tuple #[]) ∧ ∃ o1', Two w' B1 g1 o1' k1 (addF m1 f l1) m1 B2 g2 o2 k2 l2 m2 ∧ Room (addF m1 f l1) m1 ∧ Aft w0 w' := by
  subst hv
  refine (add_to f _ h.a hr.1 hr.2.1 hr.2.2 hf hB rfl ha hw).mono ?_
  rintro e w' ⟨rfl, o1', t, a, c, p⟩
  exact ⟨rfl, o1', h.step t c p, ⟨addF_le hr.2.1, hr.2⟩, a⟩
def rsF (m : Int) (n : Int) (l : List FieldL) : List FieldL := if 0 ≤ n ∧ n ≤ 65536 then fitF n l else l
def rsM (m : Int) (n : Int) : Int := if 0 ≤ n ∧ n ≤ 65536 then n else m
def rsE (n : Int) : Int := if 0 ≤ n ∧ n ≤ 65536 then 0 else 1
theorem two_resize {w0 w : World} {B1 g1 : Nat} {o1 k1 : Value} {l1 : List FieldL} {m1 : Int} {B2 g2 : Nat} {o2 k2 : Value} {l2 : List FieldL} {m2 : Int} (h : Two w B1 g1 o1 k1 l1 m1 B2 g2 o2 k2 l2 m2) (n : Int) (hr : Room l1 m1) (ha : Aft w0 w) (hw : w0.heap.size ≤ B1) (hB : B1 ≤ w.heap.size) :
    Calls Tryd.prog 24 #[.pointer (some ⟨g1, 0, none⟩), .int .i64 n] w fun e w' => e = .returned (.int .i64 (rsE n)) ∧ ∃ o1', Two w' B1 g1 o1' k1 (rsF m1 n l1) (rsM m1 n) B2 g2 o2 k2 l2 m2 ∧ Room (rsF m1 n l1) (rsM m1 n) ∧ Aft w0 w' := by
  unfold rsF rsM rsE
  by_cases hn : 0 ≤ n ∧ n ≤ 65536
  · rw [if_pos hn, if_pos hn, if_pos hn]
    refine (resize_to n _ h.a (by have := hr.1; have := hr.2.2; omega) hn.1 hn.2 hB rfl ha hw).mono ?_
    rintro e w' ⟨rfl, o1', t, a, c, p⟩
    exact ⟨rfl, o1', h.step t c p, ⟨fitF_le' hn.1, hn⟩, a⟩
  · rw [if_neg hn, if_neg hn, if_neg hn]
    refine (resize_no (B := B1) n hn).mono ?_
    rintro e w' ⟨rfl, rfl⟩
    exact ⟨rfl, o1, h, hr, ha⟩
theorem rs_same {l : List FieldL} {m : Int} (h : Room l m) : rsF m m l = l ∧ rsM m m = m ∧ rsE m = 0 := by
  unfold rsF rsM rsE
  rw [if_pos h.2, if_pos h.2, if_pos h.2]
  exact ⟨fitF_stop (Or.inr h.1), rfl, rfl⟩
theorem meas_twin (n j : Nat) (h : j < n) : 63 + n - ((j : Int) + 62 + 1).toNat < 63 + n - ((j : Int) + 62).toNat := by omega
theorem two_ge {w : World} {B1 g1 : Nat} {o1 k1 : Value} {l1 : List FieldL} {m1 : Int} {B2 g2 : Nat} {o2 k2 : Value} {l2 : List FieldL} {m2 : Int} (h : Two w B1 g1 o1 k1 l1 m1 B2 g2 o2 k2 l2 m2) : B2 ≤ w.heap.size := Nat.le_of_lt (Nat.lt_of_le_of_lt h.b.gB h.b.lt)
/-- An ask's cells, in every world behind. -/
theorem ask_cells {w : World} {vb voff i : Nat} {x : AskL} {q1 q2 : List UInt8} {X Y : ByteArray} (hvb : vb < w.heap.size) (h0 : w.cell? ⟨vb, voff + i * 4, none⟩ = some (.int .i64 x.kind)) (h1 : w.cell? ⟨vb, voff + i * 4 + 1, none⟩ = some (.int .i64 x.n)) (h2 : w.cell? ⟨vb, voff + i * 4 + 2, none⟩ = some (strV x.f.1)) (h3 : w.cell? ⟨vb, voff + i * 4 + 3, none⟩ = some (strV x.f.2)) (hX : strV x.f.1 = .string X) (hY : strV x.f.2 = .string Y) (wx : World) (a : Aft w wx) :
    wx.cell? ⟨vb, voff + i * 4, none⟩ = some (.int .i64 x.kind) ∧ wx.cell? ⟨vb, voff + i * 4 + 1, none⟩ = some (.int .i64 x.n) ∧ wx.cell? ⟨vb, voff + i * 4 + 2, none⟩ = some (.string X) ∧ wx.cell? ⟨vb, voff + i * 4 + 3, none⟩ = some (.string Y) := by
  refine ⟨?_, ?_, ?_, ?_⟩
  · rw [Below.cell a.to (p := ⟨vb, voff + i * 4, none⟩) hvb]; exact h0
  · rw [Below.cell a.to (p := ⟨vb, voff + i * 4 + 1, none⟩) hvb]; exact h1
  · rw [Below.cell a.to (p := ⟨vb, voff + i * 4 + 2, none⟩) hvb, h2, hX]
  · rw [Below.cell a.to (p := ⟨vb, voff + i * 4 + 3, none⟩) hvb, h3, hY]

set_option maxHeartbeats 16000000 in
set_option maxRecDepth 100000 in
theorem tbltwins_any (most : Int) (b0 : -9223372036854775808 ≤ most) (b1 : most ≤ 9223372036854775807) (v : Value) (l : List AskL) (w : World) (hm : MaxOk w) (hr : RbA w v l) (hok : ∀ x ∈ l, AskOk 1048576 x) (hll : l.length ≤ 1048576) :
    Calls Tryd.prog 7 #[.int .i64 most, v] w fun e w' => e = .returned (.bool true) ∧ Aft w w' := by
  have HWI := Lib.hid (within_any most 0 65536 b0 b1 (by decide) (by decide) (by decide))
  obtain ⟨va, vc, vb, voff, rfl, hvc, hvm, hcell⟩ := hr.open
  unfold maxLen at hvm
  have HM := Lib.hid hm
  have HCELL := Lib.hid hcell
  have HOK := Lib.hid hok
  clear hr hm hcell hok b0 b1
  go_enter Tryd.func7, Tryd.ntmps7
  go_wp2_with fail
  refine (HWI.out _).mono ?_
  rintro e w0 ⟨r, rfl, r0, r1, rfl⟩
  have HN := Lib.hid (fun w hm => tnew_yes r r0 (by omega) w hm)
  have R0 := Lib.hid (And.intro r0 r1)
  clear r0 r1
  go_wp2_with fail
  refine (HN.out w HM.out).mono ?_
  rintro e w1 ⟨g1, k1, rfl, t1, a1⟩
  have T1 := Lib.hid t1
  have A1 := Lib.hid a1
  clear t1 a1
  go_wp2_with fail
  refine (HN.out w1 (HM.out.aft A1.out)).mono ?_
  rintro e w2 ⟨g2, k2, rfl, t2, a2⟩
  have h2 : Two w2 w.heap.size g1 (.slice none 0 0) k1 [] r w1.heap.size g2 (.slice none 0 0) k2 [] r := ⟨T1.out.aft a2, t2, fun k x y => by
    have := T1.out.fp_lt x
    have := t2.fp_ge y
    omega⟩
  have H2 := Lib.hid h2
  have A2 := Lib.hid (A1.out.trans a2)
  have HB2 : Hid (w.heap.size ≤ w1.heap.size ∧ w1.heap.size ≤ w2.heap.size) := Lib.hid ⟨A1.out.size, a2.size⟩
  obtain ⟨B2, hB2⟩ : ∃ B2, w1.heap.size = B2 := ⟨_, rfl⟩
  rw [hB2] at H2 HB2
  clear h2 t2 a2 T1 A1 HN HWI hB2
  go_wp2_with fail
  go_loopw [10] (fun v10 wr => ∃ (i : Nat) (o1 o2 : Value) (tl : List FieldL) (m : Int), i ≤ l.length ∧ v10 = .int .i64 (i : Int) ∧ Hid (Two wr w.heap.size g1 o1 k1 tl m B2 g2 o2 k2 tl m) ∧ Hid (Room tl m) ∧ Hid (Aft w wr ∧ B2 ≤ wr.heap.size)) (fun v10 _ => l.length - (intOf v10).toNat)
  case atStart => exact ⟨0, _, _, [], r, by omega, by go_num, H2, Lib.hid ⟨by show ((0 : Nat) : Int) ≤ _; have := R0.out; omega, R0.out⟩, Lib.hid ⟨A2.out, HB2.out.2⟩⟩
  case round =>
    obtain ⟨i, o1, o2, tl, m, hi, rfl, HT, HS, HA⟩ := hrel
    by_cases hlt : i < l.length ∧ i < 60
    · obtain ⟨hlt, h40⟩ := hlt
      obtain ⟨rfl, hvb, x0, x1, x2, x3⟩ := HCELL.out i hlt
      have hak := HOK.out _ (List.getElem_mem hlt)
      have hsz := hak.sz
      generalize l[i] = q at x0 x1 x2 x3 hsz hak
      obtain ⟨X, hX⟩ : ∃ X : ByteArray, (⟨q.f.1.toArray⟩ : ByteArray) = X := ⟨_, rfl⟩
      obtain ⟨Y, hY⟩ : ∃ Y : ByteArray, (⟨q.f.2.toArray⟩ : ByteArray) = Y := ⟨_, rfl⟩
      have zX : X.size = q.f.1.length := by rw [← hX]; show q.f.1.toArray.size = _; simp
      have zY : Y.size = q.f.2.length := by rw [← hY]; show q.f.2.toArray.size = _; simp
      have HQ := Lib.hid (show fsize q.f ≤ 1000000000000 by unfold fsize; omega)
      have HFV : Hid (fieldV q.f = .agg #[.string X, .string Y]) := Lib.hid (by unfold fieldV; rw [hX, hY])
      have HASK := Lib.hid (fun wx a => ask_cells (q1 := []) (q2 := []) hvb x0 x1 x2 x3 (by unfold strV; rw [hX]) (by unfold strV; rw [hY]) wx a)
      rw [← zX, ← zY] at hsz
      have HNB := Lib.hid (And.intro hak.n0 hak.n1)
      obtain ⟨kd, hkd⟩ : ∃ kd, q.kind = kd := ⟨_, rfl⟩
      obtain ⟨nn, hnn⟩ : ∃ nn, q.n = nn := ⟨_, rfl⟩
      rw [hkd, hnn] at HASK
      rw [hnn] at HNB
      have g1 : IntKind.i64.wrap ((X.size : Int) + (Y.size : Int)) = (X.size : Int) + (Y.size : Int) := IntWalk.i64_in _ (by omega)
      have i1 : (i : Int) < (l.length : Int) := by omega
      have i2 : (i : Int) < 60 := by omega
      obtain ⟨y0, y1, y2, y3⟩ := HASK.out _ HA.out.1
      clear hX hY zX zY x0 x1 x2 x3 hvb hak hkd hnn
      by_cases hbig : (X.size : Int) + (Y.size : Int) > 1000
      · clear hsz
        go_wp2_with fail
        go_quiet (fail)
        go_wp2_with fail
        go_roundw
        case rel => exact ⟨i + 1, o1, o2, tl, m, by omega, by go_num, Lib.hid (HT.out.aft ((Aft.refl wr).drewN _)), HS, Lib.hid ⟨HA.out.1.drewN _, HA.out.2⟩⟩
        case measure => simp [intOf] <;> omega
      · clear hsz
        go_wp2_with fail
        go_quiet (fail)
        have HT2 := Lib.hid (HT.out.aft ((Aft.refl wr).drewN nq))
        have HA2 : Hid (Aft w (wr.drewN nq)) := Lib.hid (HA.out.1.drewN nq)
        have HZ2 : Hid (w.heap.size ≤ (wr.drewN nq).heap.size ∧ B2 ≤ (wr.drewN nq).heap.size) := Lib.hid ⟨HA2.out.size, HA.out.2⟩
        clear y0 y1 y2 y3 HT HA
        generalize wr.drewN nq = w3 at HT2 HA2 HZ2 ⊢
        obtain ⟨y0, y1, y2, y3⟩ := HASK.out _ HA2.out
        by_cases hkd2 : kd = 2
        · subst hkd2
          go_wp2_with fail
          refine (two_resize HT2.out nn HS.out HA2.out (Nat.le_refl _) HZ2.out.1).mono ?_
          rintro e w4 ⟨rfl, o1', h4, r4, a4⟩
          have H4 := Lib.hid h4.symm
          have R4 := Lib.hid r4
          have A4 := Lib.hid a4
          have HZ4 : Hid (B2 ≤ w4.heap.size) := Lib.hid (two_ge h4)
          clear h4 r4 a4 y0 y1 y2 y3
          obtain ⟨y0, y1, y2, y3⟩ := HASK.out _ A4.out
          go_wp2_with fail
          refine (two_resize H4.out nn HS.out A4.out HB2.out.1 HZ4.out).mono ?_
          rintro e w5 ⟨rfl, o2', h5, r5, a5⟩
          have H5 := Lib.hid h5
          have R5 := Lib.hid r5
          have A5 := Lib.hid a5
          have HZ5 : Hid (B2 ≤ w5.heap.size) := Lib.hid (two_ge h5.symm)
          clear h5 r5 a5 y0 y1 y2 y3 H4 HT2
          obtain ⟨tl', htl⟩ : ∃ t, rsF m nn tl = t := ⟨_, rfl⟩
          obtain ⟨m', hm'⟩ : ∃ t, rsM m nn = t := ⟨_, rfl⟩
          rw [htl, hm'] at H5 R5 R4
          clear htl hm' HS
          go_wp2_with fail
          refine (tmost_any H5.out.a).mono ?_
          rintro e w6 ⟨rfl, rfl⟩
          have HRS := Lib.hid (two_resize H5.out m' R5.out A5.out HB2.out.1 HZ5.out)
          rw [(rs_same R5.out).1, (rs_same R5.out).2.1, (rs_same R5.out).2.2] at HRS
          go_wp2_with fail
          refine HRS.out.mono ?_
          rintro e w7 ⟨rfl, o2'', h7, r7, a7⟩
          have H7 := Lib.hid h7.symm
          have R7 := Lib.hid r7
          have A7 := Lib.hid a7
          have HZ7 : Hid (B2 ≤ w7.heap.size) := Lib.hid (two_ge h7.symm)
          clear h7 r7 a7 HRS H5 A5
          go_wp2_with fail
          refine (tlen_any H7.out.a).mono ?_
          rintro e w8 ⟨rfl, rfl⟩
          go_wp2_with fail
          refine (tlen_any H7.out.b).mono ?_
          rintro e w8 ⟨rfl, rfl⟩
          go_wp2_with fail
          go_roundw
          case rel => exact ⟨i + 1, o1', o2'', tl', m', by omega, by go_num, H7, R7, Lib.hid ⟨A7.out, HZ7.out⟩⟩
          case measure => simp [intOf] <;> omega
        · have hk3 : (kd == 2) = false := by simpa using hkd2
          clear hkd2
          go_wp2_with fail
          refine (two_add HT2.out q.f _ HFV.out HQ.out HS.out HA2.out (Nat.le_refl _) HZ2.out.1).mono ?_
          rintro e w4 ⟨rfl, o1', h4, r4, a4⟩
          have H4 := Lib.hid h4.symm
          have R4 := Lib.hid r4
          have A4 := Lib.hid a4
          have HZ4 : Hid (B2 ≤ w4.heap.size) := Lib.hid (two_ge h4)
          clear h4 r4 a4 y0 y1 y2 y3
          obtain ⟨y0, y1, y2, y3⟩ := HASK.out _ A4.out
          go_wp2_with fail
          refine (two_add H4.out q.f _ HFV.out HQ.out HS.out A4.out HB2.out.1 HZ4.out).mono ?_
          rintro e w5 ⟨rfl, o2', h5, r5, a5⟩
          have H5 := Lib.hid h5
          have R5 := Lib.hid r5
          have A5 := Lib.hid a5
          have HZ5 : Hid (B2 ≤ w5.heap.size) := Lib.hid (two_ge h5.symm)
          clear h5 r5 a5 y0 y1 y2 y3 H4 HT2
          obtain ⟨tl', htl⟩ : ∃ t, addF m q.f tl = t := ⟨_, rfl⟩
          rw [htl] at H5 R5 R4
          obtain ⟨m', hm'⟩ : ∃ t, m = t := ⟨_, rfl⟩
          rw [hm'] at H5 R5 R4
          clear htl hm' HS
          go_wp2_with fail
          refine (tmost_any H5.out.a).mono ?_
          rintro e w6 ⟨rfl, rfl⟩
          have HRS := Lib.hid (two_resize H5.out m' R5.out A5.out HB2.out.1 HZ5.out)
          rw [(rs_same R5.out).1, (rs_same R5.out).2.1, (rs_same R5.out).2.2] at HRS
          go_wp2_with fail
          refine HRS.out.mono ?_
          rintro e w7 ⟨rfl, o2'', h7, r7, a7⟩
          have H7 := Lib.hid h7.symm
          have R7 := Lib.hid r7
          have A7 := Lib.hid a7
          have HZ7 : Hid (B2 ≤ w7.heap.size) := Lib.hid (two_ge h7.symm)
          clear h7 r7 a7 HRS H5 A5
          go_wp2_with fail
          refine (tlen_any H7.out.a).mono ?_
          rintro e w8 ⟨rfl, rfl⟩
          go_wp2_with fail
          refine (tlen_any H7.out.b).mono ?_
          rintro e w8 ⟨rfl, rfl⟩
          go_wp2_with fail
          go_roundw
          case rel => exact ⟨i + 1, o1', o2'', tl', m', by omega, by go_num, H7, R7, Lib.hid ⟨A7.out, HZ7.out⟩⟩
          case measure => simp [intOf] <;> omega
    · have HC9 : Hid (¬ (i < l.length ∧ i < 60)) := Lib.hid hlt
      have hstop : ((i : Int) < (l.length : Int)) → ¬ ((i : Int) < 60) := fun h1 h2 => HC9.out ⟨by omega, by omega⟩
      have hcs : ((i : Int) < (l.length : Int) ∧ ¬ ((i : Int) < 60)) ∨ ¬ ((i : Int) < (l.length : Int)) := by
        by_cases h1 : (i : Int) < (l.length : Int)
        · exact Or.inl ⟨h1, hstop h1⟩
        · exact Or.inr h1
      have HTL : Hid (tl.length ≤ 1000000) := Lib.hid HS.out.len
      clear hstop HC9 HCELL HOK hlt HS
      rcases hcs with ⟨h1, h2⟩ | h1
      all_goals
        go_wp2_with fail
        go_loopw [11] (fun v11 wx => ∃ j : Nat, j ≤ tl.length ∧ v11 = .int .i64 ((j : Int) + 62) ∧ Hid (Aft wr wx)) (fun v11 _ => 63 + tl.length - (intOf v11).toNat)
        case atStart => exact ⟨0, by omega, rfl, Lib.hid (Aft.refl _)⟩
        case round =>
          obtain ⟨j, hj, rfl, HX⟩ := hrel
          have HTX := Lib.hid (HT.out.aft HX.out)
          have g62 : IntKind.i64.wrap (62 + (tl.length : Int)) = 62 + (tl.length : Int) := IntWalk.i64_in _ (by have := HTL.out; omega)
          go_wp2_with fail
          refine (tlen_any HTX.out.a).mono ?_
          rintro e w5 ⟨rfl, rfl⟩
          by_cases hin : j < tl.length
          · obtain ⟨hg, hgb⟩ := getF_own tl j hin
            have HGA := Lib.hid (fun w' (h' : Two w' w.heap.size g1 o1 k1 tl m B2 g2 o2 k2 tl m) => get_is (w := w') ((j : Int) + 62) (fieldV tl[j]) true (by omega) (by have := HTL.out; omega) h'.a (by rw [hg]) hgb)
            have HGB := Lib.hid (fun w' (h' : Two w' w.heap.size g1 o1 k1 tl m B2 g2 o2 k2 tl m) => get_is (w := w') ((j : Int) + 62) (fieldV tl[j]) true (by omega) (by have := HTL.out; omega) h'.b (by rw [hg]) hgb)
            clear hg hgb
            generalize tl[j] = x at HGA HGB
            obtain ⟨x1, x2⟩ := x
            unfold fieldV at HGA HGB
            simp only at HGA HGB
            obtain ⟨X, hX⟩ : ∃ X : ByteArray, (⟨x1.toArray⟩ : ByteArray) = X := ⟨_, rfl⟩
            obtain ⟨Y, hY⟩ : ∃ Y : ByteArray, (⟨x2.toArray⟩ : ByteArray) = Y := ⟨_, rfl⟩
            rw [hX, hY] at HGA HGB
            have HIN := Lib.hid hin
            have hii : (j : Int) + 62 < 62 + (tl.length : Int) := by omega
            clear hX hY hin
            go_wp2_with fail
            refine (HGA.out _ HTX.out).mono ?_
            rintro e w6 ⟨rfl, a6⟩
            have HX6 := Lib.hid (HX.out.trans (a6.alloc (.cells #[.string X, .string Y] 28)))
            have hx6 : FB2 (w6.alloc (.cells #[.string X, .string Y] 28)) w6.heap.size X Y := heap_alloc_new w6 _
            have HB6 := Lib.hid hx6
            clear a6 hx6 HGA
            go_upto_region 21 with fail
            generalize w6.heap.size = gx at HB6 ⊢
            generalize w6.alloc (.cells #[.string X, .string Y] 28) = W6 at HX6 HB6 ⊢
            go_wp2_with fail
            refine (HGB.out _ (HT.out.aft HX6.out)).mono ?_
            rintro e w8 ⟨rfl, a8⟩
            have HX8 := Lib.hid (HX6.out.trans (a8.alloc (.cells #[.string X, .string Y] 28)))
            have hx8 : FB2 (w8.alloc (.cells #[.string X, .string Y] 28)) w8.heap.size X Y := heap_alloc_new w8 _
            have HB8 := Lib.hid hx8
            have HB9 := Lib.hid ((HB6.out.aft a8).aft ((Aft.refl w8).alloc (.cells #[.string X, .string Y] 28)))
            clear a8 hx8 HGB HX6 HB6
            go_upto_region 22 with fail
            generalize w8.heap.size = gh at HB8 ⊢
            generalize w8.alloc (.cells #[.string X, .string Y] 28) = W8 at HX8 HB8 HB9 ⊢
            obtain ⟨z0, z1⟩ := HB8.out.cells
            obtain ⟨u0, u1⟩ := HB9.out.cells
            have g63 : wrap64 ((j : Int) + 62 + 1) = (j : Int) + 62 + 1 := IntWalk.wrap64_in _ ⟨by omega, by have := HIN.out; have := HTL.out; omega⟩
            go_wp2_with fail
            go_roundw
            case rel => exact ⟨j + 1, HIN.out, by (try rw [g63]); exact congrArg (Value.int .i64) (by push_cast; omega), HX8⟩
            case measure => (try rw [g63]); exact meas_twin _ _ HIN.out
          · have hii : ¬ ((j : Int) + 62 < 62 + (tl.length : Int)) := by omega
            clear hin
            have HMR : Hid (MaxOk wr) := Lib.hid ((HM.out.aft HA.out.1).aft HX.out)
            have HAW := Lib.hid (HA.out.1.trans HX.out)
            go_wp2_with fail
            refine (tblruns_any _ HMR.out).mono ?_
            rintro e w11 ⟨rfl, a11⟩
            go_wp2_with fail
            go_ret
            exact ⟨rfl, HAW.out.trans a11⟩

set_option maxRecDepth 100000 in
theorem walkTableTwins (w : World) (hsh : w.ShapedOpen Tryd.prog) {H : Type} {enc : TypeId × Value → H} {base : Nat} {v1 : Value} {d1 : DataW H} {p1 : List MemPlace} (a0 : Int) (w0 : (Lit.int .i64 a0).wf = true)
    (hval1 : Value.okWide Tryd.prog w .any base 36 v1) (k1 : DataW.Trod enc Tryd.prog w 0 (fun _ => true) true 36 v1 d1 p1) (hk : Rows.uptoSmall H [.lit (.int .i64 a0), d1] = true) :
    Calls Tryd.prog 7 #[.int .i64 a0, v1] w fun e w' => e = .returned (.bool true) ∧ Aft w w' := by
  have h2 : Rows.uptoBulkAll [(.lit (.int .i64 a0) : DataW H), d1] ≤ 1048576 := of_decide_eq_true hk
  simp only [Rows.uptoBulkAll] at h2
  obtain ⟨l, hr, hok, hl⟩ := open_asks hval1 k1
  have hb := bounds_i64 w0
  exact tbltwins_any a0 hb.1 hb.2 v1 l w (maxOk_of w hsh) hr (fun x hx => (hok x hx).mono (by omega)) (by omega)


end Go.Proofs.YtmlnboibclfmcaaDoor
