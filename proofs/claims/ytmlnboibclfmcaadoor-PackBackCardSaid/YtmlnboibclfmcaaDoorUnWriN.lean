/-
  The walk of the reader's written. The walk of the reader's written, where it fails.
-/
import Derived.Test.YtmlnboibclfmcaaDoorUnTxtN
namespace Go.Proofs.YtmlnboibclfmcaaDoor
open Go.RowKit
set_option linter.unusedVariables false

/-- Where a name comes from. -/
def NameAt (l : List FieldL) (b : List UInt8) (i t1 : Nat) (N : List UInt8) (t3 : Nat) : Prop := (0 < i ∧ getB l i = true ∧ N = (getF l i).1 ∧ t3 = t1) ∨ (i = 0 ∧ textU b t1 = (N, t3, 0))
theorem writU_ok {l : List FieldL} {b : List UInt8} {at_ bits : Nat} (h : (writU l b at_ bits).2.2 = 0) : ∃ (i t1 : Nat) (N : List UInt8) (t3 : Nat) (V : List UInt8) (t4 : Nat), getL b at_ bits = (i, t1, 0) ∧ NameAt l b i t1 N t3 ∧ textU b t3 = (V, t4, 0) ∧ writU l b at_ bits = ((N, V), t4, 0) := by
  obtain ⟨⟨i, t1, e⟩, hg⟩ : ∃ q, getL b at_ bits = q := ⟨_, rfl⟩
  unfold writU at h ⊢
  rw [hg] at h ⊢
  simp only at h ⊢
  by_cases h1 : e ≠ 0
  · rw [if_pos h1] at h; exact absurd h h1
  have h1' : e = 0 := Decidable.not_not.1 h1
  subst h1'
  rw [if_neg (by simp)] at h ⊢
  obtain ⟨⟨N, t3, e2⟩, hn⟩ : ∃ q, nameU l b i t1 = q := ⟨_, rfl⟩
  rw [hn] at h ⊢
  simp only at h ⊢
  by_cases h2 : e2 ≠ 0
  · rw [if_pos h2] at h; exact absurd h h2
  have h2' : e2 = 0 := Decidable.not_not.1 h2
  subst h2'
  rw [if_neg (by simp)] at h ⊢
  obtain ⟨⟨V, t4, e3⟩, ht⟩ : ∃ q, textU b t3 = q := ⟨_, rfl⟩
  rw [ht] at h ⊢
  simp only at h ⊢
  by_cases h3 : e3 ≠ 0
  · rw [if_pos h3] at h; exact absurd h h3
  have h3' : e3 = 0 := Decidable.not_not.1 h3
  subst h3'
  rw [if_neg (by simp)]
  refine ⟨i, t1, N, t3, V, t4, rfl, ?_, ht, rfl⟩
  unfold nameU at hn
  by_cases hi : 0 < i
  · rw [if_pos hi] at hn
    by_cases hb : getB l i = true
    · rw [if_pos hb] at hn
      injection hn with a1 a2
      injection a2 with a2 _
      exact Or.inl ⟨hi, hb, a1.symm, a2.symm⟩
    · rw [if_neg hb] at hn
      injection hn with _ a2
      injection a2 with _ a3
      exact absurd a3 (by decide)
  · rw [if_neg hi] at hn
    exact Or.inr ⟨by omega, hn⟩
theorem writU_no {l : List FieldL} {b : List UInt8} {at_ bits : Nat} {E : Int} (h : (writU l b at_ bits).2.2 = E) (hE : E ≠ 0) : ((getL b at_ bits).2.2 = E) ∨ ∃ (i t1 : Nat), getL b at_ bits = (i, t1, 0) ∧ ((0 < i ∧ getB l i = false ∧ E = 5) ∨ (i = 0 ∧ (textU b t1).2.2 = E) ∨ ∃ (N : List UInt8) (t3 : Nat), NameAt l b i t1 N t3 ∧ (textU b t3).2.2 = E) := by
  obtain ⟨⟨i, t1, e⟩, hg⟩ : ∃ q, getL b at_ bits = q := ⟨_, rfl⟩
  unfold writU at h
  rw [hg] at h ⊢
  simp only at h ⊢
  by_cases h1 : e ≠ 0
  · rw [if_pos h1] at h; exact Or.inl h
  have h1' : e = 0 := Decidable.not_not.1 h1
  subst h1'
  rw [if_neg (by simp)] at h
  refine Or.inr ⟨i, t1, rfl, ?_⟩
  obtain ⟨⟨N, t3, e2⟩, hn⟩ : ∃ q, nameU l b i t1 = q := ⟨_, rfl⟩
  rw [hn] at h
  simp only at h
  by_cases h2 : e2 ≠ 0
  · rw [if_pos h2] at h
    subst h
    unfold nameU at hn
    by_cases hi : 0 < i
    · rw [if_pos hi] at hn
      by_cases hb : getB l i = true
      · rw [if_pos hb] at hn
        injection hn with _ a2
        injection a2 with _ a3
        exact absurd a3.symm h2
      · rw [if_neg hb] at hn
        injection hn with _ a2
        injection a2 with _ a3
        exact Or.inl ⟨hi, by simpa using hb, a3.symm⟩
    · rw [if_neg hi] at hn
      exact Or.inr (Or.inl ⟨by omega, by rw [hn]⟩)
  have h2' : e2 = 0 := Decidable.not_not.1 h2
  subst h2'
  rw [if_neg (by simp)] at h
  right; right
  refine ⟨N, t3, ?_, ?_⟩
  · unfold nameU at hn
    by_cases hi : 0 < i
    · rw [if_pos hi] at hn
      by_cases hb : getB l i = true
      · rw [if_pos hb] at hn
        injection hn with a1 a2
        injection a2 with a2 _
        exact Or.inl ⟨hi, hb, a1.symm, a2.symm⟩
      · rw [if_neg hb] at hn
        injection hn with _ a2
        injection a2 with _ a3
        exact absurd a3 (by decide)
    · rw [if_neg hi] at hn
      exact Or.inr ⟨by omega, hn⟩
  · by_cases h3 : (textU b t3).2.2 ≠ 0
    · rw [if_pos h3] at h; exact h
    · rw [if_neg h3] at h; exact absurd h.symm hE

/-- A block that is none of the reader's. -/
structure RN (W0 : World) (gu g gr : Nat) (vk vr vo : Value) (gx : Nat) : Prop where
  r : gx ≠ gr
  u : gx ≠ gu
  t : gx ≠ g
  o : vo.ownBlock ≠ some gx
  k : vk.ownBlock ≠ some gx
  w : vr.ownBlock ≠ some gx
  b : W0.heap.size ≤ gx
theorem RS.fresh {W0 w : World} {B gu g gr : Nat} {vo0 vk vb : Value} {top list : Int} {s : US} {vr vo : Value} (h : RS W0 w B gu g gr vo0 vk vb top list s vr vo) {gx : Nat} (hg : w.heap.size ≤ gx) : RN W0 gu g gr vk vr vo gx :=
  ⟨by have := h.rd.lt; omega, by have := h.x.un.lt; omega, by have := h.x.un.t.lt; omega, fun e => by have := (h.x.un.t.own.lt gx e).2; omega, fun e => by have := (h.x.un.t.kn.lt gx e).2; omega, fun e => by have := (World.ownsRow.lt h.rows gx e).2; omega, Nat.le_trans h.x.chg.size hg⟩
theorem RS.setFar {W0 w : World} {B gu g gr : Nat} {vo0 vk vb : Value} {top list : Int} {s : US} {vr vo : Value} (h : RS W0 w B gu g gr vo0 vk vb top list s vr vo) {gx : Nat} (hn : RN W0 gu g gr vk vr vo gx) (o : Nat) (v : Value) : RS W0 (w.setCell ⟨gx, o, none⟩ v) B gu g gr vo0 vk vb top list s vr vo :=
  ⟨h.x.far (Or.inr hn.b) ⟨hn.u, hn.t, hn.o, hn.k⟩ o v, h.rd.chg (p := fun k => k = gx) ((Chg.refl _ w).set gx o v (Or.inl rfl)) (fun e => hn.r e.symm), h.rows.chg (p := fun k => k = gx) ((Chg.refl _ w).set gx o v (Or.inl rfl)) (fun k hk e => hn.w (by rw [hk, e])), h.grB⟩
theorem RS.rowFar {W0 w : World} {B gu g gr : Nat} {vo0 vk vb : Value} {top list : Int} {s : US} {vr vo : Value} (h : RS W0 w B gu g gr vo0 vk vb top list s vr vo) {gx : Nat} (hn : RN W0 gu g gr vk vr vo gx) (R : Array Value) : RS W0 (w.setRow gx R) B gu g gr vo0 vk vb top list s vr vo := by
  have hc : Chg (fun k => k = gx) w (w.setRow gx R) := (Chg.refl _ w).row gx R (Or.inl rfl)
  refine ⟨⟨h.x.un.chg hc (fun e => hn.u e.symm) (fun e => hn.t e.symm) (fun k hk e => hn.o (by rw [hk, e])) (fun k hk e => hn.k (by rw [hk, e])), h.x.chg.row gx R (Or.inr hn.b), h.x.ob⟩, h.rd.chg hc (fun e => hn.r e.symm), h.rows.chg hc (fun k hk e => hn.w (by rw [hk, e])), h.grB⟩
theorem FKB.chg {p : Nat → Prop} {w w' : World} {g : Nat} {n v : ByteArray} (h : FKB w g n v) (hc : Chg p w w') (hp : ¬ p g) : FKB w' g n v := (hc.block g h.lt hp).trans h
theorem FKB.put0 {w : World} {g : Nat} {n v : ByteArray} (h : FKB w g n v) (m : ByteArray) : FKB (w.setCell ⟨g, 0, none⟩ (.string m)) g m v := by
  unfold FKB at h ⊢
  rw [heap_setCell_same w g 0 _ _ _ h]
  rfl
theorem FKB.put1 {w : World} {g : Nat} {n v : ByteArray} (h : FKB w g n v) (m : ByteArray) : FKB (w.setCell ⟨g, 1, none⟩ (.string m)) g n m := by
  unfold FKB at h ⊢
  rw [heap_setCell_same w g 1 _ _ _ h]
  rfl
theorem FKB.far {w : World} {g : Nat} {n v : ByteArray} (h : FKB w g n v) {gx : Nat} (hx : gx ≠ g) (o : Nat) (u : Value) : FKB (w.setCell ⟨gx, o, none⟩ u) g n v := h.chg (p := fun k => k = gx) ((Chg.refl _ w).set gx o u (Or.inl rfl)) (fun e => hx e.symm)
theorem two_fkb (w : World) : ∃ (W : World) (g4 : Nat), (w.alloc (.cells #[.string ⟨#[]⟩, .string ⟨#[]⟩] 28)).alloc (.cells #[.string ⟨#[]⟩, .string ⟨#[]⟩] 28) = W ∧ w.heap.size = g4 ∧ Aft w W ∧ FKB W g4 ⟨#[]⟩ ⟨#[]⟩ ∧ FKB W (g4 + 1) ⟨#[]⟩ ⟨#[]⟩ := by
  refine ⟨_, _, rfl, rfl, ((Aft.refl w).alloc _).alloc _, FKB.aft (heap_alloc_new w _) ((Aft.refl _).alloc _), ?_⟩
  have := heap_alloc_new (w.alloc (.cells #[.string ⟨#[]⟩, .string ⟨#[]⟩] 28)) (.cells #[.string ⟨#[]⟩, .string ⟨#[]⟩] 28)
  rw [World.size_alloc] at this
  exact this
theorem fld0 (N V : ByteArray) (w : World) : (Instr.field 28 (.agg #[.string N, .string V]) 0).run Tryd.prog w = .ok (.string N) w := by kernel_rfl

set_option linter.unusedSimpArgs false in
set_option maxHeartbeats 16000000 in
set_option maxRecDepth 100000 in
theorem written_ok {W0 w : World} {B gu g gr : Nat} {vo0 vk vr vo : Value} {top list : Int} {s : US} {va : Option Addr} {cap : Nat} {b : List UInt8} (hb : BR W0 g gr vo0 va cap b) (h : RS W0 w B gu g gr vo0 vk (.slice va b.length cap) top list s vr vo) (hat : s.at_ ≤ b.length) (bits : Nat) (hbit : bits = 4 ∨ bits = 5 ∨ bits = 6 ∨ bits = 7) (he : (writU s.tab b s.at_ bits).2.2 = 0) :
    Calls Tryd.prog 85 #[.pointer (some ⟨gr, 0, none⟩), .int .i64 (bits : Int)] w fun e w' => e = .returned (fieldV (writU s.tab b s.at_ bits).1) ∧ RS W0 w' B gu g gr vo0 vk (.slice va b.length cap) top list { s with at_ := (writU s.tab b s.at_ bits).2.1 } vr vo := by
  obtain ⟨i, t1, N, t3, V, t4, hg, hnm, ht, hw⟩ := writU_ok he
  rw [hw]
  simp only
  have hg1 := getL_to (b := b) (at_ := s.at_) (n := bits) (by omega) (by rw [hg])
  rw [hg] at hg1
  have HNM := Lib.hid (fun w' (h : RS W0 w' B gu g gr vo0 vk (.slice va b.length cap) top list s vr vo) => number_ok hb h hat bits hbit (by rw [hg]))
  rw [hg] at HNM
  simp only at HNM hg1
  have HTX := Lib.hid (fun w' (h : RS W0 w' B gu g gr vo0 vk (.slice va b.length cap) top list { s with at_ := t3 } vr vo) => text_ok hb h (by rw [ht]))
  simp only [ht] at HTX
  have HNT : Hid (∀ w', RS W0 w' B gu g gr vo0 vk (.slice va b.length cap) top list { s with at_ := t1 } vr vo → i = 0 → Calls Tryd.prog 98 #[.pointer (some ⟨gr, 0, none⟩)] w' fun e w'' => e = .returned (.string ⟨N.toArray⟩) ∧ RS W0 w'' B gu g gr vo0 vk (.slice va b.length cap) top list { s with at_ := t3 } vr vo ∧ Chg (fun k => k = gr) w' w'') := Lib.hid (fun w' h hi => by
    rcases hnm with ⟨h0, _⟩ | ⟨_, h1⟩
    · omega
    · have := text_ok hb h (by simp only; rw [h1])
      simp only [h1] at this
      exact this)
  have HKN : Hid (∀ w', RS W0 w' B gu g gr vo0 vk (.slice va b.length cap) top list { s with at_ := t1 } vr vo → 0 < i → Calls Tryd.prog 83 #[.pointer (some ⟨gr, 0, none⟩), .int .i64 (i : Int)] w' fun e w'' => (∃ X : ByteArray, e = .returned (.agg #[.string ⟨N.toArray⟩, .string X])) ∧ t3 = t1 ∧ Aft w' w'') := Lib.hid (fun w' h hi => by
    rcases hnm with ⟨h0, h1, h2, h3⟩ | ⟨h1, _⟩
    · refine (known_any h i hg1.2.2 true h1).mono ?_
      rintro e w'' ⟨he, a⟩
      rcases he with ⟨_, he⟩ | ⟨he, _⟩
      · exact ⟨⟨((getF s.tab i).2.toArray |> ByteArray.mk), by rw [he, h2]; rfl⟩, h3, a⟩
      · cases he
    · omega)
  obtain ⟨W1, g4, hW1, hg4, hA, hF4, hF5⟩ := two_fkb w
  have H1 := Lib.hid (h.aft hA)
  have HN4 := Lib.hid (h.fresh (gx := g4) (by omega))
  have HN5 := Lib.hid (h.fresh (gx := g4 + 1) (by omega))
  have HF4 := Lib.hid hF4
  have HF5 := Lib.hid hF5
  have hbb : (bits : Int) ≤ 7 := by omega
  unfold fieldV
  simp only
  obtain ⟨NB, hNB⟩ : ∃ B : ByteArray, (⟨N.toArray⟩ : ByteArray) = B := ⟨_, rfl⟩
  obtain ⟨VB, hVB⟩ : ∃ B : ByteArray, (⟨V.toArray⟩ : ByteArray) = B := ⟨_, rfl⟩
  rw [hNB] at HNT HKN ⊢
  rw [hVB] at HTX ⊢
  clear hb h hat hbit he hg hnm ht hw hg1 hA hF4 hF5 hNB hVB
  go_enter Tryd.func85, Tryd.ntmps85
  go_upto_region 2 with fail
  clear hW1 hg4
  go_wp2_with fail
  refine (HNM.out _ H1.out).mono ?_
  rintro e w3 ⟨rfl, h3, k3⟩
  have H3 := Lib.hid h3
  have HF43 := Lib.hid (HF4.out.chg k3 HN4.out.r)
  have HF53 := Lib.hid (HF5.out.chg k3 HN5.out.r)
  clear h3 k3 H1 HF4 HF5 HNM
  go_upto_if 11 with fail
  go_cut [] (fun wx => ∃ W4 : World, W4 = wx ∧ Hid (RS W0 wx B gu g gr vo0 vk (.slice va b.length cap) top list { s with at_ := t3 } vr vo ∧ FKB wx g4 ⟨#[]⟩ ⟨#[]⟩ ∧ FKB wx (g4 + 1) NB ⟨#[]⟩))
  case first =>
    by_cases hi : 0 < i
    · have hi2 : (i : Int) > 0 := by omega
      have HI := Lib.hid hi
      clear hi
      go_wp2_with fail
      refine (HKN.out _ H3.out HI.out).mono ?_
      rintro e w4 ⟨⟨X, rfl⟩, e3, a4⟩
      have HE3 := Lib.hid e3
      have H4 := Lib.hid (H3.out.aft a4)
      have HF44 := Lib.hid (HF43.out.aft a4)
      have HF54 := Lib.hid (HF53.out.aft a4)
      clear e3 a4 H3 HF43 HF53
      obtain ⟨y0, y1, yf⟩ := HF54.out.cells
      have yf0 := yf 0
      have hfl := fld0 NB X
      clear yf
      have H5 := Lib.hid (H4.out.setFar HN5.out 0 (.string NB))
      have HF45 := Lib.hid (HF44.out.far (gx := g4 + 1) (by omega) 0 (.string NB))
      have HF55 := Lib.hid (HF54.out.put0 NB)
      go_wp2_with fail
      go_meet
      exact ⟨_, rfl, Lib.hid ⟨by rw [HE3.out]; exact H5.out, HF45.out, HF55.out⟩⟩
    · have hi2 : ¬ (i : Int) > 0 := by omega
      have HI : Hid (i = 0) := Lib.hid (by omega)
      clear hi
      go_wp2_with fail
      refine (HNT.out _ H3.out HI.out).mono ?_
      rintro e w4 ⟨rfl, h4, k4⟩
      have H4 := Lib.hid h4
      have HF44 := Lib.hid (HF43.out.chg k4 HN4.out.r)
      have HF54 := Lib.hid (HF53.out.chg k4 HN5.out.r)
      clear h4 k4 H3 HF43 HF53
      obtain ⟨y0, y1, yf⟩ := HF54.out.cells
      have yf0 := yf 0
      clear yf
      have H5 := Lib.hid (H4.out.setFar HN5.out 0 (.string NB))
      have HF45 := Lib.hid (HF44.out.far (gx := g4 + 1) (by omega) 0 (.string NB))
      have HF55 := Lib.hid (HF54.out.put0 NB)
      go_wp2_with fail
      go_meet
      exact ⟨_, rfl, Lib.hid ⟨H5.out, HF45.out, HF55.out⟩⟩
  case rest =>
    obtain ⟨W4, hW4, HR4⟩ := hcut
    subst hW4
    have H4 := Lib.hid HR4.out.1
    have HF44 := Lib.hid HR4.out.2.1
    have HF54 := Lib.hid HR4.out.2.2
    clear HR4 H3 HF43 HF53 HKN HNT
    go_wp2_with fail
    refine (HTX.out _ H4.out).mono ?_
    rintro e w5 ⟨rfl, h5, k5⟩
    have H5 := Lib.hid (h5.setFar HN5.out 1 (.string VB))
    have HF45 := Lib.hid ((HF44.out.chg k5 HN4.out.r).far (gx := g4 + 1) (by omega) 1 (.string VB))
    have hf5 := HF54.out.chg k5 HN5.out.r
    have HF55 := Lib.hid (hf5.put1 VB)
    obtain ⟨y0, y1, yf⟩ := hf5.cells
    have yf1 := yf 1
    clear h5 k5 hf5 yf H4 HF44 HF54 HTX
    go_upto_region 7 with fail
    clear y0 y1 yf1
    generalize w5.setCell ⟨g4 + 1, 1, none⟩ (.string VB) = W6 at H5 HF45 HF55 ⊢
    go_wp2_with (first | (refine wpList_load_row rfl 28 (.tmp 5) rfl (g4 + 1) rfl _ #[.string NB, .string VB] (0, 0) _ HF55.out Tryd.underlying28 rfl (fsz NB VB) ?_) | (refine wpList_store_rowTo rfl 28 (.tmp 4) (.tmp 23) rfl rfl g4 #[.string NB, .string VB] rfl rfl _ _ HF45.out (fsz NB VB) rfl (fone NB VB) ?_))
    have hset : (W6.setRow g4 #[.string NB, .string VB]).heap[g4]? = some (.cells #[.string NB, .string VB] 28 (0, 0)) := setRow_heap W6 g4 _ _ 28 (0, 0) HF45.out
    refine bodyPost_ret (results_cell_row rfl _ _ g4 28 #[.string NB, .string VB] (0, 0) _ rfl hset Tryd.underlying28 rfl (fsz NB VB)) rfl ?_
    exact ⟨rfl, H5.out.rowFar HN4.out _⟩
end Go.Proofs.YtmlnboibclfmcaaDoor
namespace Go.Proofs.YtmlnboibclfmcaaDoor
open Go.RowKit
set_option linter.unusedVariables false

set_option linter.unusedSimpArgs false in
set_option maxHeartbeats 16000000 in
set_option maxRecDepth 100000 in
theorem written_num {W0 w : World} {B gu g gr : Nat} {vo0 vk vr vo : Value} {top list : Int} {s : US} {va : Option Addr} {cap : Nat} {b : List UInt8} (hb : BR W0 g gr vo0 va cap b) (h : RS W0 w B gu g gr vo0 vk (.slice va b.length cap) top list s vr vo) (hat : s.at_ ≤ b.length) (bits : Nat) (hbit : bits = 4 ∨ bits = 5 ∨ bits = 6 ∨ bits = 7) (E : Int) (hE : E ≠ 0) (he : (getL b s.at_ bits).2.2 = E) :
    Calls Tryd.prog 85 #[.pointer (some ⟨gr, 0, none⟩), .int .i64 (bits : Int)] w fun e w' => (∃ a : Int, e = .panicked [fltV E a]) ∧ RX W0 w' B gu g gr vo0 vk top list s.tab s.most vo := by
  have HNM := Lib.hid (fun w' (h : RS W0 w' B gu g gr vo0 vk (.slice va b.length cap) top list s vr vo) => number_no hb h hat bits hbit (by rw [he]; exact hE))
  rw [he] at HNM
  obtain ⟨W1, g4, hW1, hg4, hA, hF4, hF5⟩ := two_fkb w
  have H1 := Lib.hid (h.aft hA)
  have HN4 := Lib.hid (h.fresh (gx := g4) (by omega))
  have HN5 := Lib.hid (h.fresh (gx := g4 + 1) (by omega))
  have HF4 := Lib.hid hF4
  have HF5 := Lib.hid hF5
  have hbb : (bits : Int) ≤ 7 := by omega
  clear hb h hat hbit he hA hF4 hF5 hE
  go_enter Tryd.func85, Tryd.ntmps85
  go_upto_region 2 with fail
  clear hW1 hg4
  go_wp2_with fail
  refine (HNM.out _ H1.out).mono ?_
  rintro e w3 ⟨a9, rfl, h3⟩
  have HX := Lib.hid h3
  clear h3 H1 HF4 HF5 HNM
  go_wp2_with fail
  exact ⟨rfl, ⟨_, rfl⟩, HX.out⟩
set_option linter.unusedSimpArgs false in
set_option maxHeartbeats 16000000 in
set_option maxRecDepth 100000 in
theorem written_kno {W0 w : World} {B gu g gr : Nat} {vo0 vk vr vo : Value} {top list : Int} {s : US} {va : Option Addr} {cap : Nat} {b : List UInt8} (hb : BR W0 g gr vo0 va cap b) (h : RS W0 w B gu g gr vo0 vk (.slice va b.length cap) top list s vr vo) (hat : s.at_ ≤ b.length) (bits : Nat) (hbit : bits = 4 ∨ bits = 5 ∨ bits = 6 ∨ bits = 7) (E : Int) (hE : E ≠ 0) (i t1 : Nat) (hg : getL b s.at_ bits = (i, t1, 0)) (hi : 0 < i) (hk : getB s.tab i = false) (h5 : E = 5) :
    Calls Tryd.prog 85 #[.pointer (some ⟨gr, 0, none⟩), .int .i64 (bits : Int)] w fun e w' => (∃ a : Int, e = .panicked [fltV E a]) ∧ RX W0 w' B gu g gr vo0 vk top list s.tab s.most vo := by
  have hg1 := getL_to (b := b) (at_ := s.at_) (n := bits) (by omega) (by rw [hg])
  rw [hg] at hg1
  have HNM := Lib.hid (fun w' (h : RS W0 w' B gu g gr vo0 vk (.slice va b.length cap) top list s vr vo) => number_ok hb h hat bits hbit (by rw [hg]))
  rw [hg] at HNM
  simp only at HNM hg1
  have HKN : Hid (∀ w', RS W0 w' B gu g gr vo0 vk (.slice va b.length cap) top list { s with at_ := t1 } vr vo → Calls Tryd.prog 83 #[.pointer (some ⟨gr, 0, none⟩), .int .i64 (i : Int)] w' fun e w'' => (∃ a : Int, e = .panicked [fltV E a]) ∧ Aft w' w'') := Lib.hid (fun w' h => by
    refine (known_any h i hg1.2.2 false hk).mono ?_
    rintro e w'' ⟨he, a⟩
    rcases he with ⟨he, _⟩ | ⟨_, he⟩
    · cases he
    · rw [h5]; exact ⟨he, a⟩)
  obtain ⟨W1, g4, hW1, hg4, hA, hF4, hF5⟩ := two_fkb w
  have H1 := Lib.hid (h.aft hA)
  have HN4 := Lib.hid (h.fresh (gx := g4) (by omega))
  have HN5 := Lib.hid (h.fresh (gx := g4 + 1) (by omega))
  have HF4 := Lib.hid hF4
  have HF5 := Lib.hid hF5
  have hbb : (bits : Int) ≤ 7 := by omega
  have hi2 : (i : Int) > 0 := by omega
  clear hb h hat hbit hg hg1 hA hF4 hF5 hE hi hk h5
  go_enter Tryd.func85, Tryd.ntmps85
  go_upto_region 2 with fail
  clear hW1 hg4
  go_wp2_with fail
  refine (HNM.out _ H1.out).mono ?_
  rintro e w3 ⟨rfl, h3, k3⟩
  have H3 := Lib.hid h3
  have HF43 := Lib.hid (HF4.out.chg k3 HN4.out.r)
  have HF53 := Lib.hid (HF5.out.chg k3 HN5.out.r)
  clear h3 k3 H1 HF4 HF5 HNM
  go_upto_if 11 with fail
  go_wp2_with fail
  refine (HKN.out _ H3.out).mono ?_
  rintro e w4 ⟨⟨a9, rfl⟩, a4⟩
  have HX := Lib.hid (H3.out.x.aft a4)
  clear a4 H3 HF43 HF53 HKN
  go_wp2_with fail
  exact ⟨rfl, ⟨_, rfl⟩, HX.out⟩
set_option linter.unusedSimpArgs false in
set_option maxHeartbeats 16000000 in
set_option maxRecDepth 100000 in
theorem written_nam {W0 w : World} {B gu g gr : Nat} {vo0 vk vr vo : Value} {top list : Int} {s : US} {va : Option Addr} {cap : Nat} {b : List UInt8} (hb : BR W0 g gr vo0 va cap b) (h : RS W0 w B gu g gr vo0 vk (.slice va b.length cap) top list s vr vo) (hat : s.at_ ≤ b.length) (bits : Nat) (hbit : bits = 4 ∨ bits = 5 ∨ bits = 6 ∨ bits = 7) (E : Int) (hE : E ≠ 0) (i t1 : Nat) (hg : getL b s.at_ bits = (i, t1, 0)) (hi : i = 0) (ht : (textU b t1).2.2 = E) :
    Calls Tryd.prog 85 #[.pointer (some ⟨gr, 0, none⟩), .int .i64 (bits : Int)] w fun e w' => (∃ a : Int, e = .panicked [fltV E a]) ∧ RX W0 w' B gu g gr vo0 vk top list s.tab s.most vo := by
  have hg1 := getL_to (b := b) (at_ := s.at_) (n := bits) (by omega) (by rw [hg])
  rw [hg] at hg1
  have HNM := Lib.hid (fun w' (h : RS W0 w' B gu g gr vo0 vk (.slice va b.length cap) top list s vr vo) => number_ok hb h hat bits hbit (by rw [hg]))
  rw [hg] at HNM
  simp only at HNM hg1
  have HNT := Lib.hid (fun w' (h : RS W0 w' B gu g gr vo0 vk (.slice va b.length cap) top list { s with at_ := t1 } vr vo) => text_no hb h hg1.2.1 E ht hE)
  obtain ⟨W1, g4, hW1, hg4, hA, hF4, hF5⟩ := two_fkb w
  have H1 := Lib.hid (h.aft hA)
  have HN4 := Lib.hid (h.fresh (gx := g4) (by omega))
  have HN5 := Lib.hid (h.fresh (gx := g4 + 1) (by omega))
  have HF4 := Lib.hid hF4
  have HF5 := Lib.hid hF5
  have hbb : (bits : Int) ≤ 7 := by omega
  have hi2 : ¬ (i : Int) > 0 := by omega
  clear hb h hat hbit hg hg1 hA hF4 hF5 hE hi ht
  go_enter Tryd.func85, Tryd.ntmps85
  go_upto_region 2 with fail
  clear hW1 hg4
  go_wp2_with fail
  refine (HNM.out _ H1.out).mono ?_
  rintro e w3 ⟨rfl, h3, k3⟩
  have H3 := Lib.hid h3
  have HF43 := Lib.hid (HF4.out.chg k3 HN4.out.r)
  have HF53 := Lib.hid (HF5.out.chg k3 HN5.out.r)
  clear h3 k3 H1 HF4 HF5 HNM
  go_upto_if 11 with fail
  go_wp2_with fail
  refine (HNT.out _ H3.out).mono ?_
  rintro e w4 ⟨⟨a9, rfl⟩, h4⟩
  have HX := Lib.hid h4
  clear h4 H3 HF43 HF53 HNT
  go_wp2_with fail
  exact ⟨rfl, ⟨_, rfl⟩, HX.out⟩
set_option linter.unusedSimpArgs false in
set_option maxHeartbeats 16000000 in
set_option maxRecDepth 100000 in
theorem written_val {W0 w : World} {B gu g gr : Nat} {vo0 vk vr vo : Value} {top list : Int} {s : US} {va : Option Addr} {cap : Nat} {b : List UInt8} (hb : BR W0 g gr vo0 va cap b) (h : RS W0 w B gu g gr vo0 vk (.slice va b.length cap) top list s vr vo) (hat : s.at_ ≤ b.length) (bits : Nat) (hbit : bits = 4 ∨ bits = 5 ∨ bits = 6 ∨ bits = 7) (E : Int) (hE : E ≠ 0) (i t1 : Nat) (hg : getL b s.at_ bits = (i, t1, 0)) (N : List UInt8) (t3 : Nat) (hnm : NameAt s.tab b i t1 N t3) (ht3 : t3 ≤ b.length) (ht : (textU b t3).2.2 = E) :
    Calls Tryd.prog 85 #[.pointer (some ⟨gr, 0, none⟩), .int .i64 (bits : Int)] w fun e w' => (∃ a : Int, e = .panicked [fltV E a]) ∧ RX W0 w' B gu g gr vo0 vk top list s.tab s.most vo := by
  have hg1 := getL_to (b := b) (at_ := s.at_) (n := bits) (by omega) (by rw [hg])
  rw [hg] at hg1
  have HNM := Lib.hid (fun w' (h : RS W0 w' B gu g gr vo0 vk (.slice va b.length cap) top list s vr vo) => number_ok hb h hat bits hbit (by rw [hg]))
  rw [hg] at HNM
  simp only at HNM hg1
  have HTX := Lib.hid (fun w' (h : RS W0 w' B gu g gr vo0 vk (.slice va b.length cap) top list { s with at_ := t3 } vr vo) => text_no hb h ht3 E ht hE)
  have HNT : Hid (∀ w', RS W0 w' B gu g gr vo0 vk (.slice va b.length cap) top list { s with at_ := t1 } vr vo → i = 0 → Calls Tryd.prog 98 #[.pointer (some ⟨gr, 0, none⟩)] w' fun e w'' => e = .returned (.string ⟨N.toArray⟩) ∧ RS W0 w'' B gu g gr vo0 vk (.slice va b.length cap) top list { s with at_ := t3 } vr vo ∧ Chg (fun k => k = gr) w' w'') := Lib.hid (fun w' h hi => by
    rcases hnm with ⟨h0, _⟩ | ⟨_, h1⟩
    · omega
    · have := text_ok hb h (by simp only; rw [h1])
      simp only [h1] at this
      exact this)
  have HKN : Hid (∀ w', RS W0 w' B gu g gr vo0 vk (.slice va b.length cap) top list { s with at_ := t1 } vr vo → 0 < i → Calls Tryd.prog 83 #[.pointer (some ⟨gr, 0, none⟩), .int .i64 (i : Int)] w' fun e w'' => (∃ X : ByteArray, e = .returned (.agg #[.string ⟨N.toArray⟩, .string X])) ∧ t3 = t1 ∧ Aft w' w'') := Lib.hid (fun w' h hi => by
    rcases hnm with ⟨h0, h1, h2, h3⟩ | ⟨h1, _⟩
    · refine (known_any h i hg1.2.2 true h1).mono ?_
      rintro e w'' ⟨he, a⟩
      rcases he with ⟨_, he⟩ | ⟨he, _⟩
      · exact ⟨⟨((getF s.tab i).2.toArray |> ByteArray.mk), by rw [he, h2]; rfl⟩, h3, a⟩
      · cases he
    · omega)
  obtain ⟨W1, g4, hW1, hg4, hA, hF4, hF5⟩ := two_fkb w
  have H1 := Lib.hid (h.aft hA)
  have HN4 := Lib.hid (h.fresh (gx := g4) (by omega))
  have HN5 := Lib.hid (h.fresh (gx := g4 + 1) (by omega))
  have HF4 := Lib.hid hF4
  have HF5 := Lib.hid hF5
  have hbb : (bits : Int) ≤ 7 := by omega
  obtain ⟨NB, hNB⟩ : ∃ B : ByteArray, (⟨N.toArray⟩ : ByteArray) = B := ⟨_, rfl⟩
  rw [hNB] at HNT HKN
  clear hb h hat hbit hg hnm ht hg1 hA hF4 hF5 hNB hE ht3
  go_enter Tryd.func85, Tryd.ntmps85
  go_upto_region 2 with fail
  clear hW1 hg4
  go_wp2_with fail
  refine (HNM.out _ H1.out).mono ?_
  rintro e w3 ⟨rfl, h3, k3⟩
  have H3 := Lib.hid h3
  have HF43 := Lib.hid (HF4.out.chg k3 HN4.out.r)
  have HF53 := Lib.hid (HF5.out.chg k3 HN5.out.r)
  clear h3 k3 H1 HF4 HF5 HNM
  go_upto_if 11 with fail
  go_cut [] (fun wx => ∃ W4 : World, W4 = wx ∧ Hid (RS W0 wx B gu g gr vo0 vk (.slice va b.length cap) top list { s with at_ := t3 } vr vo ∧ FKB wx g4 ⟨#[]⟩ ⟨#[]⟩ ∧ FKB wx (g4 + 1) NB ⟨#[]⟩))
  case first =>
    by_cases hi : 0 < i
    · have hi2 : (i : Int) > 0 := by omega
      have HI := Lib.hid hi
      clear hi
      go_wp2_with fail
      refine (HKN.out _ H3.out HI.out).mono ?_
      rintro e w4 ⟨⟨X, rfl⟩, e3, a4⟩
      have HE3 := Lib.hid e3
      have H4 := Lib.hid (H3.out.aft a4)
      have HF44 := Lib.hid (HF43.out.aft a4)
      have HF54 := Lib.hid (HF53.out.aft a4)
      clear e3 a4 H3 HF43 HF53
      obtain ⟨y0, y1, yf⟩ := HF54.out.cells
      have yf0 := yf 0
      have hfl := fld0 NB X
      clear yf
      have H5 := Lib.hid (H4.out.setFar HN5.out 0 (.string NB))
      have HF45 := Lib.hid (HF44.out.far (gx := g4 + 1) (by omega) 0 (.string NB))
      have HF55 := Lib.hid (HF54.out.put0 NB)
      go_wp2_with fail
      go_meet
      exact ⟨_, rfl, Lib.hid ⟨by rw [HE3.out]; exact H5.out, HF45.out, HF55.out⟩⟩
    · have hi2 : ¬ (i : Int) > 0 := by omega
      have HI : Hid (i = 0) := Lib.hid (by omega)
      clear hi
      go_wp2_with fail
      refine (HNT.out _ H3.out HI.out).mono ?_
      rintro e w4 ⟨rfl, h4, k4⟩
      have H4 := Lib.hid h4
      have HF44 := Lib.hid (HF43.out.chg k4 HN4.out.r)
      have HF54 := Lib.hid (HF53.out.chg k4 HN5.out.r)
      clear h4 k4 H3 HF43 HF53
      obtain ⟨y0, y1, yf⟩ := HF54.out.cells
      have yf0 := yf 0
      clear yf
      have H5 := Lib.hid (H4.out.setFar HN5.out 0 (.string NB))
      have HF45 := Lib.hid (HF44.out.far (gx := g4 + 1) (by omega) 0 (.string NB))
      have HF55 := Lib.hid (HF54.out.put0 NB)
      go_wp2_with fail
      go_meet
      exact ⟨_, rfl, Lib.hid ⟨H5.out, HF45.out, HF55.out⟩⟩
  case rest =>
    obtain ⟨W4, hW4, HR4⟩ := hcut
    subst hW4
    have H4 := Lib.hid HR4.out.1
    have HF44 := Lib.hid HR4.out.2.1
    have HF54 := Lib.hid HR4.out.2.2
    clear HR4 H3 HF43 HF53 HKN HNT
    go_wp2_with fail
    refine (HTX.out _ H4.out).mono ?_
    rintro e w5 ⟨⟨a9, rfl⟩, h5⟩
    have HX := Lib.hid h5
    clear h5 H4 HF44 HF54 HTX
    go_wp2_with fail
    exact ⟨rfl, ⟨_, rfl⟩, HX.out⟩

theorem written_no {W0 w : World} {B gu g gr : Nat} {vo0 vk vr vo : Value} {top list : Int} {s : US} {va : Option Addr} {cap : Nat} {b : List UInt8} (hb : BR W0 g gr vo0 va cap b) (h : RS W0 w B gu g gr vo0 vk (.slice va b.length cap) top list s vr vo) (hat : s.at_ ≤ b.length) (bits : Nat) (hbit : bits = 4 ∨ bits = 5 ∨ bits = 6 ∨ bits = 7) (E : Int) (hE : E ≠ 0) (he : (writU s.tab b s.at_ bits).2.2 = E) :
    Calls Tryd.prog 85 #[.pointer (some ⟨gr, 0, none⟩), .int .i64 (bits : Int)] w fun e w' => (∃ a : Int, e = .panicked [fltV E a]) ∧ RX W0 w' B gu g gr vo0 vk top list s.tab s.most vo := by
  rcases writU_no he hE with h1 | ⟨i, t1, hg, ⟨h1, h2, h3⟩ | ⟨h1, h2⟩ | ⟨N, t3, h1, h2⟩⟩
  · exact written_num hb h hat bits hbit E hE h1
  · exact written_kno hb h hat bits hbit E hE i t1 hg h1 h2 h3
  · exact written_nam hb h hat bits hbit E hE i t1 hg h1 h2
  · refine written_val hb h hat bits hbit E hE i t1 hg N t3 h1 ?_ h2
    have hg1 := getL_to (b := b) (at_ := s.at_) (n := bits) (by omega) (by rw [hg])
    rw [hg] at hg1
    rcases h1 with ⟨_, _, _, rfl⟩ | ⟨_, h1⟩
    · exact hg1.2.1
    · have := textU_to (b := b) (at_ := t1) (by rw [h1])
      rw [h1] at this
      exact this.2.1
end Go.Proofs.YtmlnboibclfmcaaDoor
