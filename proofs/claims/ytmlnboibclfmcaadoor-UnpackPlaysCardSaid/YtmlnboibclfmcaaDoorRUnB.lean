/-
  The reference's unpacker in memory. The walk of the reference's text. The walk of the reference's row. The walk of the reference's Block.
-/
import Derived.Test.YtmlnboibclfmcaaDoorRUnGet
import Derived.Test.YtmlnboibclfmcaaDoorRTbl4
import Derived.Test.YtmlnboibclfmcaaDoorUnRuns2
import Derived.Test.YtmlnboibclfmcaaDoorHuffRDec
namespace Go.Proofs.YtmlnboibclfmcaaDoor
open Go.RowKit
set_option linter.unusedVariables false

structure RUn (w : World) (B gp g : Nat) (vo : Value) (l : List FieldL) (m top list : Int) (bad : Bool) : Prop where
  t : RTab w B g vo l m
  p : w.heap[gp]? = some (.cells #[.pointer (some ⟨g, 0, none⟩), .int .i64 top, .int .i64 list, .bool bad] 84 (0, 0))
  pB : B ≤ gp
theorem RUn.lt {w : World} {B gp g : Nat} {vo : Value} {l : List FieldL} {m top list : Int} {bad : Bool} (h : RUn w B gp g vo l m top list bad) : gp < w.heap.size := by
  rcases Nat.lt_or_ge gp w.heap.size with h1 | h1
  · exact h1
  · have := h.p; rw [Array.getElem?_eq_none h1] at this; cases this
theorem RUn.ne {w : World} {B gp g : Nat} {vo : Value} {l : List FieldL} {m top list : Int} {bad : Bool} (h : RUn w B gp g vo l m top list bad) : gp ≠ g ∧ vo.ownBlock ≠ some gp := by
  refine ⟨fun e => ?_, fun e => ?_⟩
  · have h1 := h.t.blk
    rw [← e, h.p] at h1
    injection h1 with h1
    injection h1 with _ h1
    exact absurd h1 (by decide)
  · obtain ⟨cur, h1⟩ := h.t.own.blk e
    rw [h.p] at h1
    injection h1 with h1
    injection h1 with _ h1
    exact absurd h1 (by decide)
theorem RUn.chg {p : Nat → Prop} {w w' : World} {B gp g : Nat} {vo : Value} {l : List FieldL} {m top list : Int} {bad : Bool} (h : RUn w B gp g vo l m top list bad) (hc : Chg p w w') (hgp : ¬ p gp) (hg : ¬ p g) (ho : ∀ k, vo.ownBlock = some k → ¬ p k) : RUn w' B gp g vo l m top list bad :=
  ⟨h.t.chg hc hg ho, (hc.block gp h.lt hgp).trans h.p, h.pB⟩
theorem RUn.aft {w w' : World} {B gp g : Nat} {vo : Value} {l : List FieldL} {m top list : Int} {bad : Bool} (h : RUn w B gp g vo l m top list bad) (ha : Aft w w') : RUn w' B gp g vo l m top list bad :=
  h.chg (Chg.of_aft (p := fun _ => False) ha) (fun h => h) (fun h => h) (fun _ _ h => h)
theorem RUn.tab {w w' : World} {B gp g : Nat} {vo : Value} {l : List FieldL} {m top list : Int} {bad : Bool} (h : RUn w B gp g vo l m top list bad) {vo' : Value} {l' : List FieldL} {m' : Int} (ht : RTab w' B g vo' l' m') (hc : Chg (TP g vo) w w') : RUn w' B gp g vo' l' m' top list bad :=
  ⟨ht, (hc.block gp h.lt (fun e => by
    obtain ⟨h1, h2⟩ := h.ne
    rcases e with e | e
    · exact h1 e
    · exact h2 e)).trans h.p, h.pB⟩
theorem RUn.cells {w : World} {B gp g : Nat} {vo : Value} {l : List FieldL} {m top list : Int} {bad : Bool} (h : RUn w B gp g vo l m top list bad) :
    w.cell? ⟨gp, 0, none⟩ = some (.pointer (some ⟨g, 0, none⟩)) ∧ w.cell? ⟨gp, 1, none⟩ = some (.int .i64 top) ∧ w.cell? ⟨gp, 2, none⟩ = some (.int .i64 list) ∧ w.cell? ⟨gp, 3, none⟩ = some (.bool bad) ∧ w.frozen? ⟨gp, 3, none⟩ = false := by
  refine ⟨?_, ?_, ?_, ?_, frozen_of_row w gp _ _ _ h.p⟩
  all_goals rw [cell_of_row w gp _ _ _ (0, 0) h.p]; rfl
theorem RTab.farU {w : World} {B g : Nat} {vo : Value} {l : List FieldL} {m : Int} (h : RTab w B g vo l m) (gp o : Nat) (v : Value) (h1 : gp ≠ g) (h2 : vo.ownBlock ≠ some gp) : RTab (w.setCell ⟨gp, o, none⟩ v) B g vo l m :=
  h.chg ((Chg.refl (fun k => k = gp) w).set gp o v (Or.inl rfl)) (fun e => h1 e.symm) (fun k hk e => h2 (by rw [hk, e]))
theorem RUn.put3 {w : World} {B gp g : Nat} {vo : Value} {l : List FieldL} {m top list : Int} {bad : Bool} (h : RUn w B gp g vo l m top list bad) (n : Bool) : RUn (w.setCell ⟨gp, 3, none⟩ (.bool n)) B gp g vo l m top list n := by
  obtain ⟨h1, h2⟩ := h.ne
  refine ⟨h.t.farU gp 3 _ h1 h2, ?_, h.pB⟩
  rw [heap_setCell_same w gp 3 _ _ _ h.p]
  rfl
/-- A text's end, the reference's. -/
def TxPost (q : List UInt8 × Nat × Int) (e : Ending) : Prop := ∃ (S : ByteArray) (t : Int), e = .returned (.tuple #[.string S, .int .i64 t, .int .i64 q.2.2]) ∧ (q.2.2 = 0 → (⟨q.1.toArray⟩ : ByteArray) = S ∧ t = (q.2.1 : Int))
end Go.Proofs.YtmlnboibclfmcaaDoor
namespace Go.Proofs.YtmlnboibclfmcaaDoor
open Go.RowKit
set_option linter.unusedVariables false

set_option linter.unusedSimpArgs false in
set_option maxHeartbeats 16000000 in
set_option maxRecDepth 100000 in
theorem rutext_end (va : Option Addr) (cap : Nat) (b : List UInt8) (at_ : Nat) (w : World) (ha : b.length ≤ at_) :
    Calls Tryd.prog 87 #[.slice va b.length cap, .int .i64 (at_ : Int)] w fun e w' => e = .returned (.tuple #[.string ⟨#[]⟩, .int .i64 0, .int .i64 3]) ∧ Aft w w' := by
  have i1 : (at_ : Int) ≥ (b.length : Int) := by omega
  clear ha
  go_enter Tryd.func87, Tryd.ntmps87
  go_wp2_with fail
  refine bodyPost_ret (results_tmp3 rfl _ _ _) rfl ?_
  exact ⟨rfl, Aft.refl _⟩
set_option linter.unusedSimpArgs false in
set_option maxHeartbeats 16000000 in
set_option maxRecDepth 100000 in
/-- Where the text's number cannot be read, or is too long, or the bytes are too few. -/
theorem rutext_num (pb off cap : Nat) (b : List UInt8) (at_ : Nat) (c : UInt8) (w : World) (hr : Rb w (.slice (some ⟨pb, off, none⟩) b.length cap) b) (hl : b.length ≤ 1000000) (hc : b[at_]? = some c) (E : Int)
    (h : ((getL b at_ 7).2.2 ≠ 0 ∧ E = (getL b at_ 7).2.2) ∨ ∃ (n t2 : Nat), getL b at_ 7 = (n, t2, 0) ∧ ((65536 < n ∧ E = 2) ∨ (n ≤ 65536 ∧ b.length < t2 + n ∧ E = 3))) :
    Calls Tryd.prog 87 #[.slice (some ⟨pb, off, none⟩) b.length cap, .int .i64 (at_ : Int)] w fun e w' => e = .returned (.tuple #[.string ⟨#[]⟩, .int .i64 0, .int .i64 E]) ∧ Aft w w' := by
  obtain ⟨hlt, hce⟩ := List.getElem?_eq_some_iff.1 hc
  have HG := Lib.hid (rpget_any (some ⟨pb, off, none⟩) cap b at_ 7 w hr (by omega) (by omega) (Or.inr (Or.inr (Or.inr rfl))))
  have hgt := fun h => getL_to (b := b) (at_ := at_) (n := 7) (by decide) h
  unfold getV at HG
  obtain ⟨⟨n, t2, e0⟩, hg⟩ : ∃ q, getL b at_ 7 = q := ⟨_, rfl⟩
  rw [hg] at HG h hgt
  simp only at HG h hgt
  have hx : w.cell? ⟨pb, off + at_, none⟩ = some (.int .u8 (c.toNat : Int)) := by
    obtain ⟨a0, c0, b0, o0, e0, m1, p1, q1, r1⟩ := hr.open
    injection e0 with e1 _ e2
    have hne : b ≠ [] := by intro e; rw [e] at hlt; simp at hlt
    have := p1 hne
    subst this
    injection e1 with e1
    injection e1 with e3 e4
    subst e3 e4
    have := r1 at_ hlt
    rw [hce] at this
    exact this
  have i1 : ¬ (at_ : Int) ≥ (b.length : Int) := by omega
  have i2 : (at_ : Int) < (b.length : Int) := by omega
  have hcase : (e0 ≠ 0 ∧ E = e0) ∨ (e0 = 0 ∧ 65536 < n ∧ E = 2) ∨ (e0 = 0 ∧ n ≤ 65536 ∧ b.length < t2 + n ∧ t2 ≤ b.length ∧ E = 3) := by
    rcases h with h | ⟨n', t', he, h⟩
    · exact Or.inl h
    · injection he with h1 h2
      injection h2 with h2 h3
      subst h1 h2 h3
      rcases h with h | h
      · exact Or.inr (Or.inl ⟨rfl, h⟩)
      · exact Or.inr (Or.inr ⟨rfl, h.1, h.2.1, (hgt rfl).2.1, h.2.2⟩)
  clear h hr hc hce hg hlt hgt
  rcases hcase with ⟨h1, rfl⟩ | ⟨rfl, h2, rfl⟩ | ⟨rfl, h2, h3, h4, rfl⟩
  · have i3 : (E != 0) = true := by simpa using h1
    clear h1
    go_enter Tryd.func87, Tryd.ntmps87
    go_wp2_with fail
    refine HG.out.mono ?_
    rintro e w1 ⟨rfl, rfl⟩
    go_wp2_with fail
    refine bodyPost_ret (results_tmp3 rfl _ _ _) rfl ?_
    exact ⟨rfl, Aft.refl _⟩
  · have i4 : (n : Int) > 65536 := by omega
    clear h2
    go_enter Tryd.func87, Tryd.ntmps87
    go_wp2_with fail
    refine HG.out.mono ?_
    rintro e w1 ⟨rfl, rfl⟩
    go_wp2_with fail
    refine bodyPost_ret (results_tmp3 rfl _ _ _) rfl ?_
    exact ⟨rfl, Aft.refl _⟩
  · have i4 : ¬ (n : Int) > 65536 := by omega
    have gw : IntKind.i64.wrap ((b.length : Int) - (t2 : Int)) = (b.length : Int) - (t2 : Int) := IntWalk.i64_in _ (by omega)
    have i5 : (n : Int) > (b.length : Int) - (t2 : Int) := by omega
    clear h2 h3 h4
    go_enter Tryd.func87, Tryd.ntmps87
    go_wp2_with fail
    refine HG.out.mono ?_
    rintro e w1 ⟨rfl, rfl⟩
    go_wp2_with fail
    refine bodyPost_ret (results_tmp3 rfl _ _ _) rfl ?_
    exact ⟨rfl, Aft.refl _⟩
/-- How a text ends whose bytes are there. -/
def TxIn (c : Nat) (X : List UInt8) (n t2 : Nat) (e : Ending) : Prop := ∃ (S : ByteArray) (t E : Int), e = .returned (.tuple #[.string S, .int .i64 t, .int .i64 E]) ∧
  ((c < 128 ∧ (⟨X.toArray⟩ : ByteArray) = S ∧ t = ((t2 + n : Nat) : Int) ∧ E = 0) ∨
   (128 ≤ c ∧ (decF X).2 ≠ 0 ∧ E = (decF X).2) ∨
   (128 ≤ c ∧ (decF X).2 = 0 ∧ 65536 < (decF X).1.length ∧ E = 2) ∨
   (128 ≤ c ∧ (decF X).2 = 0 ∧ (decF X).1.length ≤ 65536 ∧ (⟨(decF X).1.toArray⟩ : ByteArray) = S ∧ t = ((t2 + n : Nat) : Int) ∧ E = 0))
set_option linter.unusedSimpArgs false in
set_option maxHeartbeats 16000000 in
set_option maxRecDepth 100000 in
/-- Where the bytes are there. -/
theorem rutext_in (pb off cap : Nat) (b : List UInt8) (at_ : Nat) (c : UInt8) (w : World) (hr : Rb w (.slice (some ⟨pb, off, none⟩) b.length cap) b) (hl : b.length ≤ 1000000) (hc : b[at_]? = some c) (n t2 : Nat) (hg : getL b at_ 7 = (n, t2, 0)) (hn1 : n ≤ 65536) (hn2 : t2 + n ≤ b.length) :
    Calls Tryd.prog 87 #[.slice (some ⟨pb, off, none⟩) b.length cap, .int .i64 (at_ : Int)] w fun e w' => TxIn c.toNat ((b.drop t2).take n) n t2 e ∧ Aft w w' := by
  obtain ⟨hlt, hce⟩ := List.getElem?_eq_some_iff.1 hc
  have HG := Lib.hid (rpget_any (some ⟨pb, off, none⟩) cap b at_ 7 w hr (by omega) (by omega) (Or.inr (Or.inr (Or.inr rfl))))
  unfold getV at HG
  rw [hg] at HG
  simp only at HG
  have hcapl : b.length ≤ cap ∧ cap ≤ maxLen := by
    rcases hr with ⟨⟨a0, h1⟩, h2⟩ | ⟨b1, o1, c1, e, h1, h2, h3, h4⟩
    · rw [h2] at hlt; simp at hlt
    · injection e with e1 _ e2
      subst e2
      exact ⟨h1, h2⟩
  have hx : w.cell? ⟨pb, off + at_, none⟩ = some (.int .u8 (c.toNat : Int)) := by
    obtain ⟨a0, c0, b0, o0, e0, m1, p1, q1, r1⟩ := hr.open
    injection e0 with e1 _ e2
    have hne : b ≠ [] := by intro e; rw [e] at hlt; simp at hlt
    have := p1 hne
    subst this
    injection e1 with e1
    injection e1 with e3 e4
    subst e3 e4
    have := r1 at_ hlt
    rw [hce] at this
    exact this
  have HSUB := Lib.hid (hr.sub (i := t2) (n := n) hn2)
  have i1 : ¬ (at_ : Int) ≥ (b.length : Int) := by omega
  have i2 : (at_ : Int) < (b.length : Int) := by omega
  have i4 : ¬ (n : Int) > 65536 := by omega
  have gw : IntKind.i64.wrap ((b.length : Int) - (t2 : Int)) = (b.length : Int) - (t2 : Int) := IntWalk.i64_in _ (by omega)
  have i5 : ¬ (n : Int) > (b.length : Int) - (t2 : Int) := by omega
  have gw2 : IntKind.i64.wrap ((t2 : Int) + (n : Int)) = (t2 : Int) + (n : Int) := IntWalk.i64_in _ (by omega)
  have b1 : (0 : Int) ≤ (t2 : Int) := by omega
  have b2 : (t2 : Int) ≤ (t2 : Int) + (n : Int) := by omega
  have b3 : (t2 : Int) + (n : Int) ≤ (cap : Int) := by omega
  have b4 : (0 : Int) ≤ (t2 : Int) + (n : Int) := by omega
  have t1 : ((t2 : Int) + (n : Int)).toNat = t2 + n := by omega
  have t3 : t2 + n - t2 = n := by omega
  have HTN : Hid ((t2 : Int) + (n : Int) = ((t2 + n : Nat) : Int)) := Lib.hid (by omega)
  obtain ⟨X, hX⟩ : ∃ X, (b.drop t2).take n = X := ⟨_, rfl⟩
  have hXl : X.length ≤ 1000000 := by rw [← hX, List.length_take]; omega
  rw [hX] at HSUB ⊢
  have HXL := Lib.hid hXl
  clear hr hc hce hg hlt hX hXl hn1 hn2
  by_cases hcap : cap = t2
  · rw [if_pos hcap] at HSUB
    obtain ⟨P, hP⟩ : ∃ P, Value.slice (some ⟨pb, off, none⟩) n (cap - t2) = P := ⟨_, rfl⟩
    have hP2 : Value.slice (some ⟨pb, off, none⟩) n 0 = P := by rw [← hP, show cap - t2 = 0 by omega]
    have b5 : (t2 : Int) + (n : Int) ≤ (t2 : Int) := by omega
    rw [hP] at HSUB
    have HP := Lib.hid hP2
    have hcv := rb_conv HSUB.out
    have HDC := Lib.hid (rdecode_any P X w HSUB.out (by have := HXL.out; omega))
    clear hP hP2
    subst hcap
    by_cases hk : c.toNat < 128
    · have hc2 : ¬ ((c.toNat : Int) ≥ 128) := by omega
      have HK := Lib.hid hk
      obtain ⟨SB, hSB⟩ : ∃ SB : ByteArray, (⟨X.toArray⟩ : ByteArray) = SB := ⟨_, rfl⟩
      rw [hSB] at hcv
      have HSB := Lib.hid hSB
      clear hk HDC HSUB hSB
      have hP3 := HP.out
      go_enter Tryd.func87, Tryd.ntmps87
      go_wp2_with fail
      refine HG.out.mono ?_
      rintro e w1 ⟨rfl, rfl⟩
      go_wp2_with fail
      refine bodyPost_ret (results_tmp3 rfl _ _ _) rfl ?_
      exact ⟨⟨SB, _, 0, rfl, Or.inl ⟨HK.out, HSB.out, HTN.out, rfl⟩⟩, Aft.refl _⟩
    · have hc2 : (c.toNat : Int) ≥ 128 := by omega
      have HK : Hid (128 ≤ c.toNat) := Lib.hid (by omega)
      clear hk hcv
      have hP3 := HP.out
      obtain ⟨⟨D, E⟩, hD⟩ : ∃ q, decF X = q := ⟨_, rfl⟩
      rw [hD] at HDC
      simp only at HDC
      have HD := Lib.hid hD
      obtain ⟨SB, hSB⟩ : ∃ SB : ByteArray, (⟨D.toArray⟩ : ByteArray) = SB := ⟨_, rfl⟩
      have hsz : SB.size = D.length := by rw [← hSB]; show D.toArray.size = _; simp
      rw [hSB] at HDC
      have HSZ := Lib.hid hsz
      have HSB := Lib.hid hSB
      clear hD hSB hsz HSUB
      go_enter Tryd.func87, Tryd.ntmps87
      go_wp2_with fail
      refine HG.out.mono ?_
      rintro e w1 ⟨rfl, rfl⟩
      go_wp2_with fail
      refine HDC.out.mono ?_
      rintro e w2 ⟨rfl, a2⟩
      have HA2 := Lib.hid a2
      clear a2 hx HDC HG hP3
      by_cases hE : E = 0
      · subst hE
        by_cases hs : (SB.size : Int) > 65536
        · have HS := Lib.hid hs
          go_wp2_with fail
          refine bodyPost_ret (results_tmp3 rfl _ _ _) rfl ?_
          refine ⟨?_, HA2.out⟩
          unfold TxIn
          rw [HD.out]
          exact ⟨_, _, 2, rfl, Or.inr (Or.inr (Or.inl ⟨HK.out, rfl, by have h1 := HS.out; have h2 := HSZ.out; show 65536 < D.length; omega, rfl⟩))⟩
        · have HS := Lib.hid hs
          go_wp2_with fail
          refine bodyPost_ret (results_tmp3 rfl _ _ _) rfl ?_
          refine ⟨?_, HA2.out⟩
          unfold TxIn
          rw [HD.out]
          exact ⟨SB, _, 0, rfl, Or.inr (Or.inr (Or.inr ⟨HK.out, rfl, by have h1 := HS.out; have h2 := HSZ.out; show D.length ≤ 65536; omega, HSB.out, HTN.out, rfl⟩))⟩
      · have hE2 : (E == 0) = false := by simpa using hE
        have HE := Lib.hid hE
        clear hE
        go_wp2_with fail
        refine bodyPost_ret (results_tmp3 rfl _ _ _) rfl ?_
        refine ⟨?_, HA2.out⟩
        unfold TxIn
        rw [HD.out]
        exact ⟨_, _, E, rfl, Or.inr (Or.inl ⟨HK.out, HE.out, rfl⟩)⟩
  · rw [if_neg hcap] at HSUB
    obtain ⟨P, hP⟩ : ∃ P, Value.slice (some ⟨pb, off + t2, none⟩) n (cap - t2) = P := ⟨_, rfl⟩
    rw [hP] at HSUB
    have HP := Lib.hid hP
    have hcv := rb_conv HSUB.out
    have HDC := Lib.hid (rdecode_any P X w HSUB.out (by have := HXL.out; omega))
    clear hP
    by_cases hk : c.toNat < 128
    · have hc2 : ¬ ((c.toNat : Int) ≥ 128) := by omega
      have HK := Lib.hid hk
      obtain ⟨SB, hSB⟩ : ∃ SB : ByteArray, (⟨X.toArray⟩ : ByteArray) = SB := ⟨_, rfl⟩
      rw [hSB] at hcv
      have HSB := Lib.hid hSB
      clear hk HDC HSUB hSB
      have hP3 := HP.out
      go_enter Tryd.func87, Tryd.ntmps87
      go_wp2_with fail
      refine HG.out.mono ?_
      rintro e w1 ⟨rfl, rfl⟩
      go_wp2_with fail
      refine bodyPost_ret (results_tmp3 rfl _ _ _) rfl ?_
      exact ⟨⟨SB, _, 0, rfl, Or.inl ⟨HK.out, HSB.out, HTN.out, rfl⟩⟩, Aft.refl _⟩
    · have hc2 : (c.toNat : Int) ≥ 128 := by omega
      have HK : Hid (128 ≤ c.toNat) := Lib.hid (by omega)
      clear hk hcv
      have hP3 := HP.out
      obtain ⟨⟨D, E⟩, hD⟩ : ∃ q, decF X = q := ⟨_, rfl⟩
      rw [hD] at HDC
      simp only at HDC
      have HD := Lib.hid hD
      obtain ⟨SB, hSB⟩ : ∃ SB : ByteArray, (⟨D.toArray⟩ : ByteArray) = SB := ⟨_, rfl⟩
      have hsz : SB.size = D.length := by rw [← hSB]; show D.toArray.size = _; simp
      rw [hSB] at HDC
      have HSZ := Lib.hid hsz
      have HSB := Lib.hid hSB
      clear hD hSB hsz HSUB
      go_enter Tryd.func87, Tryd.ntmps87
      go_wp2_with fail
      refine HG.out.mono ?_
      rintro e w1 ⟨rfl, rfl⟩
      go_wp2_with fail
      refine HDC.out.mono ?_
      rintro e w2 ⟨rfl, a2⟩
      have HA2 := Lib.hid a2
      clear a2 hx HDC HG hP3
      by_cases hE : E = 0
      · subst hE
        by_cases hs : (SB.size : Int) > 65536
        · have HS := Lib.hid hs
          go_wp2_with fail
          refine bodyPost_ret (results_tmp3 rfl _ _ _) rfl ?_
          refine ⟨?_, HA2.out⟩
          unfold TxIn
          rw [HD.out]
          exact ⟨_, _, 2, rfl, Or.inr (Or.inr (Or.inl ⟨HK.out, rfl, by have h1 := HS.out; have h2 := HSZ.out; show 65536 < D.length; omega, rfl⟩))⟩
        · have HS := Lib.hid hs
          go_wp2_with fail
          refine bodyPost_ret (results_tmp3 rfl _ _ _) rfl ?_
          refine ⟨?_, HA2.out⟩
          unfold TxIn
          rw [HD.out]
          exact ⟨SB, _, 0, rfl, Or.inr (Or.inr (Or.inr ⟨HK.out, rfl, by have h1 := HS.out; have h2 := HSZ.out; show D.length ≤ 65536; omega, HSB.out, HTN.out, rfl⟩))⟩
      · have hE2 : (E == 0) = false := by simpa using hE
        have HE := Lib.hid hE
        clear hE
        go_wp2_with fail
        refine bodyPost_ret (results_tmp3 rfl _ _ _) rfl ?_
        refine ⟨?_, HA2.out⟩
        unfold TxIn
        rw [HD.out]
        exact ⟨_, _, E, rfl, Or.inr (Or.inl ⟨HK.out, HE.out, rfl⟩)⟩
theorem rutext_any (va : Option Addr) (cap : Nat) (b : List UInt8) (at_ : Nat) (w : World) (hr : Rb w (.slice va b.length cap) b) (hl : b.length ≤ 1000000) :
    Calls Tryd.prog 87 #[.slice va b.length cap, .int .i64 (at_ : Int)] w fun e w' => TxPost (textU b at_) e ∧ Aft w w' := by
  cases hc : b[at_]? with
  | none =>
    have ha : b.length ≤ at_ := List.getElem?_eq_none_iff.1 hc
    refine (rutext_end va cap b at_ w ha).mono ?_
    rintro e w' ⟨rfl, a⟩
    have : textU b at_ = ([], 0, 3) := by unfold textU; rw [hc]
    rw [this]
    exact ⟨⟨_, _, rfl, fun h => by simp at h⟩, a⟩
  | some c =>
    obtain ⟨hlt, hce⟩ := List.getElem?_eq_some_iff.1 hc
    obtain ⟨pb, off, rfl⟩ : ∃ pb off, va = some ⟨pb, off, none⟩ := by
      rcases hr with ⟨⟨a0, h1⟩, h2⟩ | ⟨b1, o1, c1, e, h1, h2, h3, h4⟩
      · rw [h2] at hlt; simp at hlt
      · injection e with e1 _ e2
        exact ⟨_, _, e1⟩
    by_cases hE : (textU b at_).2.2 = 0
    · obtain ⟨c', n, t2, hc', hgl, hn1, hn2, hto, hcase⟩ := textU_ok hE
      rw [hc] at hc'
      injection hc' with hc'
      subst hc'
      refine (rutext_in pb off cap b at_ c w hr hl hc n t2 hgl hn1 hn2).mono ?_
      rintro e w' ⟨⟨S, t, E, rfl, h9⟩, a⟩
      refine ⟨⟨S, t, ?_⟩, a⟩
      rw [hE, hto]
      rcases hcase with ⟨k1, k2⟩ | ⟨k1, k2, k3⟩
      · rcases h9 with ⟨_, h1, h2, h3⟩ | ⟨h1, _⟩ | ⟨h1, _⟩ | ⟨h1, _⟩
        · rw [k2, h3]
          exact ⟨rfl, fun _ => ⟨h1, h2⟩⟩
        all_goals omega
      · rw [k2] at h9
        simp only at h9
        rcases h9 with ⟨h1, _⟩ | ⟨_, h1, _⟩ | ⟨_, _, h1, _⟩ | ⟨_, _, _, h1, h2, h3⟩
        · omega
        · exact absurd rfl h1
        · omega
        · rw [h3]
          exact ⟨rfl, fun _ => ⟨h1, h2⟩⟩
    · have hno := textU_no (b := b) (i := at_) rfl hE
      obtain ⟨q, hq⟩ : ∃ q, textU b at_ = q := ⟨_, rfl⟩
      rw [hq] at hE hno ⊢
      rcases hno with ⟨h1, _⟩ | ⟨c', hc', h9⟩
      · rw [hc] at h1; cases h1
      rw [hc] at hc'
      injection hc' with hc'
      subst hc'
      rcases h9 with h9 | ⟨n, t2, hg, h9⟩
      · refine (rutext_num pb off cap b at_ c w hr hl hc q.2.2 (Or.inl h9)).mono ?_
        rintro e w' ⟨rfl, a⟩
        exact ⟨⟨_, _, rfl, fun h => absurd h hE⟩, a⟩
      · rcases h9 with h9 | h9 | ⟨h1, h2, h3, h9⟩
        · refine (rutext_num pb off cap b at_ c w hr hl hc q.2.2 (Or.inr ⟨n, t2, hg, Or.inl h9⟩)).mono ?_
          rintro e w' ⟨rfl, a⟩
          exact ⟨⟨_, _, rfl, fun h => absurd h hE⟩, a⟩
        · refine (rutext_num pb off cap b at_ c w hr hl hc q.2.2 (Or.inr ⟨n, t2, hg, Or.inr h9⟩)).mono ?_
          rintro e w' ⟨rfl, a⟩
          exact ⟨⟨_, _, rfl, fun h => absurd h hE⟩, a⟩
        · refine (rutext_in pb off cap b at_ c w hr hl hc n t2 hg h1 h2).mono ?_
          rintro e w' ⟨⟨S, t, E, rfl, h8⟩, a⟩
          refine ⟨⟨S, t, ?_⟩, a⟩
          rcases h8 with ⟨k1, _⟩ | ⟨_, k1, k2⟩ | ⟨_, k1, k2, k3⟩ | ⟨_, k1, k2, k3, k4, k5⟩
          · omega
          · rcases h9 with ⟨m1, m2⟩ | ⟨m1, m2, m3⟩
            · rw [m2, k2]
              exact ⟨rfl, fun h => absurd h k1⟩
            · exact absurd m1 k1
          · rcases h9 with ⟨m1, m2⟩ | ⟨m1, m2, m3⟩
            · exact absurd k1 m1
            · rw [m3, k3]
              exact ⟨rfl, fun h => by simp at h⟩
          · rcases h9 with ⟨m1, m2⟩ | ⟨m1, m2, m3⟩
            · exact absurd k1 m1
            · omega
end Go.Proofs.YtmlnboibclfmcaaDoor
namespace Go.Proofs.YtmlnboibclfmcaaDoor
open Go.RowKit
set_option linter.unusedVariables false

def RWB (w : World) (g : Nat) (X Y : ByteArray) (how : Int) : Prop := w.heap[g]? = some (.cells #[.string X, .string Y, .int .i64 how] 57 (0, 0))
theorem RWB.aft {w w' : World} {g : Nat} {X Y : ByteArray} {how : Int} (h : RWB w g X Y how) (a : Aft w w') : RWB w' g X Y how := (a.block g (lt_of_heap h)).trans h
theorem RWB.chg {p : Nat → Prop} {w w' : World} {g : Nat} {X Y : ByteArray} {how : Int} (h : RWB w g X Y how) (hc : Chg p w w') (hp : ¬ p g) : RWB w' g X Y how := (hc.block g (lt_of_heap h) hp).trans h
theorem RWB.far {w : World} {g : Nat} {X Y : ByteArray} {how : Int} (h : RWB w g X Y how) {gx : Nat} (hx : gx ≠ g) (o : Nat) (u : Value) : RWB (w.setCell ⟨gx, o, none⟩ u) g X Y how := h.chg (p := fun k => k = gx) ((Chg.refl _ w).set gx o u (Or.inl rfl)) (fun e => hx e.symm)
theorem RWB.cells {w : World} {g : Nat} {X Y : ByteArray} {how : Int} (h : RWB w g X Y how) : w.cell? ⟨g, 0, none⟩ = some (.string X) ∧ w.cell? ⟨g, 1, none⟩ = some (.string Y) ∧ w.cell? ⟨g, 2, none⟩ = some (.int .i64 how) := by
  unfold RWB at h
  refine ⟨?_, ?_, ?_⟩ <;> rw [cell_of_row w g _ _ _ (0, 0) h] <;> rfl
theorem RWB.row {w : World} {g : Nat} {X Y : ByteArray} {how : Int} (h : RWB w g X Y how) (X' Y' : ByteArray) (how' : Int) : RWB (w.setRow g #[.string X', .string Y', .int .i64 how']) g X' Y' how' := setRow_heap w g _ _ 57 (0, 0) h
theorem rwsz (X Y : ByteArray) (how : Int) : (Tryd.prog.info? 57).map (·.size) = some (#[Value.string X, .string Y, .int .i64 how]).size := by
  show _ = some 3
  kernel_rfl
theorem rwone (X Y : ByteArray) (how : Int) : (#[Value.string X, .string Y, .int .i64 how]).all (·.oneCell') = true := by simp [Value.oneCell']
theorem aftRow9 {w W : World} (h : Aft w W) {g : Nat} (hb : w.heap.size ≤ g) (R : Array Value) : Aft w (W.setRow g R) :=
  Below.trans h ⟨rfl, rfl, rfl, by simp [World.setRow], fun k hk => setRow_other W g k R (by omega)⟩
theorem aftCell9 {w W : World} (h : Aft w W) {g : Nat} (hb : w.heap.size ≤ g) (o : Nat) (v : Value) : Aft w (W.setCell ⟨g, o, none⟩ v) := Below.setCell (p := ⟨g, o, none⟩) h hb v
theorem Rb.cellAt {w : World} {pb off cap : Nat} {b : List UInt8} (hr : Rb w (.slice (some ⟨pb, off, none⟩) b.length cap) b) {i : Nat} {c : UInt8} (hc : b[i]? = some c) : w.cell? ⟨pb, off + i, none⟩ = some (.int .u8 (c.toNat : Int)) := by
  obtain ⟨hlt, hce⟩ := List.getElem?_eq_some_iff.1 hc
  obtain ⟨a0, c0, b0, o0, e0, m1, p1, q1, r1⟩ := hr.open
  injection e0 with e1 _ e2
  have hne : b ≠ [] := by intro e; rw [e] at hlt; simp at hlt
  have := p1 hne
  subst this
  injection e1 with e1
  injection e1 with e3 e4
  subst e3 e4
  have := r1 i hlt
  rw [hce] at this
  exact this
def zRow : Array Value := #[.string ⟨#[]⟩, .string ⟨#[]⟩, .int .i64 0]
/-- The range that the byte lies in: the prefix' bits, the row's How. -/
def RK (c : UInt8) (bits : Nat) (how : Int) : Prop := (64 ≤ c.toNat ∧ c.toNat < 128 ∧ bits = 6 ∧ how = 1) ∨ (16 ≤ c.toNat ∧ c.toNat < 64 ∧ bits = 4 ∧ how = 3) ∨ (c.toNat < 16 ∧ bits = 4 ∧ how = 2)
theorem RK.bits {c : UInt8} {bits : Nat} {how : Int} (h : RK c bits how) : bits = 4 ∨ bits = 5 ∨ bits = 6 ∨ bits = 7 := by
  rcases h with ⟨_, _, h, _⟩ | ⟨_, _, h, _⟩ | ⟨_, h, _⟩ <;> omega
/-- Where the row is not read: the zero row, the error. -/
def RrNo (w : World) (E : Int) (e : Ending) (w' : World) : Prop := (∃ (X Y : ByteArray) (how t : Int), e = .returned (.tuple #[.agg #[.string X, .string Y, .int .i64 how], .int .i64 t, .int .i64 E])) ∧ Aft w w'
set_option linter.unusedSimpArgs false in
set_option maxHeartbeats 16000000 in
set_option maxRecDepth 100000 in
theorem rurow_num {w : World} {B gp g : Nat} {vo : Value} {l : List FieldL} {m top list : Int} {bad : Bool} {pb off cap : Nat} {b : List UInt8} {at_ : Nat} (h : RUn w B gp g vo l m top list bad) (hb : Rb w (.slice (some ⟨pb, off, none⟩) b.length cap) b) (hlen : b.length ≤ 1000000) (hl : l.length ≤ 1000000) (c : UInt8) (hc : b[at_]? = some c) (bits : Nat) (how : Int) (hk : RK c bits how) (E : Int) (hE : E ≠ 0) (he : (getL b at_ bits).2.2 = E) :
    Calls Tryd.prog 72 #[.pointer (some ⟨gp, 0, none⟩), .slice (some ⟨pb, off, none⟩) b.length cap, .int .i64 (at_ : Int)] w fun e w' => RrNo w E e w' := by
  have hat : at_ < b.length := (List.getElem?_eq_some_iff.1 hc).1
  have HH := Lib.hid h
  have HB := Lib.hid hb
  have i1 : (at_ : Int) < (b.length : Int) := by omega
  have HA : Hid (Aft w (w.alloc (.cells #[.string ⟨#[]⟩, .string ⟨#[]⟩, .int .i64 0] 57))) := Lib.hid ((Aft.refl w).alloc _)
  have HR : Hid (RWB (w.alloc (.cells #[.string ⟨#[]⟩, .string ⟨#[]⟩, .int .i64 0] 57)) w.heap.size ⟨#[]⟩ ⟨#[]⟩ 0) := Lib.hid (heap_alloc_new w _)
  have hx := (HB.out.aft HA.out).cellAt hc
  have HG := Lib.hid (fun w' (a : Aft w w') => rpget_any (some ⟨pb, off, none⟩) cap b at_ bits w' (HB.out.aft a) (by omega) (by omega) hk.bits)
  have e0 : ∀ q : Nat × Nat × Int, q = getL b at_ bits → getV q = .tuple #[.int .i64 (q.1 : Int), .int .i64 (q.2.1 : Int), .int .i64 E] := fun q hq => by unfold getV; rw [hq, he]
  obtain ⟨q, hq⟩ : ∃ q, getL b at_ bits = q := ⟨_, rfl⟩
  rw [hq, e0 q hq.symm] at HG
  generalize (q.1 : Int) = qa at HG
  generalize (q.2.1 : Int) = qb at HG
  have i3 : (E != 0) = true := by simpa using hE
  unfold RK at hk
  clear h hb hlen hl hc hat e0 hq he hE
  rcases hk with ⟨k1, k2, rfl, rfl⟩ | ⟨k1, k2, rfl, rfl⟩ | ⟨k1, rfl, rfl⟩
  · have q1 : ¬ ((c.toNat : Int) ≥ 128) := by omega
    have q2 : (c.toNat : Int) ≥ 64 := by omega
    clear k1 k2
    go_enter Tryd.func72, Tryd.ntmps72
    go_upto_region 2 with fail
    obtain ⟨g6, hg6⟩ : ∃ g6, w.heap.size = g6 := ⟨_, rfl⟩
    rw [hg6] at HR ⊢
    have HG6 := Lib.hid hg6
    generalize w.alloc (.cells #[.string ⟨#[]⟩, .string ⟨#[]⟩, .int .i64 0] 57) = W1 at HA HR hx ⊢
    clear hg6
    go_wp2_with fail
    refine (HG.out _ HA.out).mono ?_
    rintro e w9 ⟨rfl, rfl⟩
    go_wp2_with (refine wpList_store_rowTo rfl 57 (.tmp 6) (.tmp 76) rfl rfl g6 #[.string ⟨#[]⟩, .string ⟨#[]⟩, .int .i64 0] rfl rfl _ _ HR.out (rwsz ⟨#[]⟩ ⟨#[]⟩ 0) rfl (rwone ⟨#[]⟩ ⟨#[]⟩ 0) ?_)
    have HR2 := Lib.hid (HR.out.row ⟨#[]⟩ ⟨#[]⟩ 0)
    have HA2 := Lib.hid (aftRow9 HA.out (Nat.le_of_eq HG6.out) #[.string ⟨#[]⟩, .string ⟨#[]⟩, .int .i64 0])
    generalize W1.setRow g6 #[.string ⟨#[]⟩, .string ⟨#[]⟩, .int .i64 0] = Wz at HR2 HA2 ⊢
    obtain ⟨z0, z1, z2⟩ := HR2.out.cells
    refine bodyPost_ret (v := .tuple #[.agg #[.string ⟨#[]⟩, .string ⟨#[]⟩, .int .i64 0], .int .i64 0, .int .i64 E]) (by simp [results, Tryd.results72, asAddr, go_sem, z0, z1, z2]) rfl ?_
    exact ⟨⟨_, _, _, _, rfl⟩, HA2.out⟩
  · have q1 : ¬ ((c.toNat : Int) ≥ 128) := by omega
    have q2 : ¬ ((c.toNat : Int) ≥ 64) := by omega
    have q3 : (c.toNat : Int) ≥ 16 := by omega
    clear k1 k2
    go_enter Tryd.func72, Tryd.ntmps72
    go_upto_region 2 with fail
    obtain ⟨g6, hg6⟩ : ∃ g6, w.heap.size = g6 := ⟨_, rfl⟩
    rw [hg6] at HR ⊢
    have HG6 := Lib.hid hg6
    generalize w.alloc (.cells #[.string ⟨#[]⟩, .string ⟨#[]⟩, .int .i64 0] 57) = W1 at HA HR hx ⊢
    clear hg6
    go_wp2_with fail
    refine (HG.out _ HA.out).mono ?_
    rintro e w9 ⟨rfl, rfl⟩
    go_wp2_with (refine wpList_store_rowTo rfl 57 (.tmp 6) (.tmp 76) rfl rfl g6 #[.string ⟨#[]⟩, .string ⟨#[]⟩, .int .i64 0] rfl rfl _ _ HR.out (rwsz ⟨#[]⟩ ⟨#[]⟩ 0) rfl (rwone ⟨#[]⟩ ⟨#[]⟩ 0) ?_)
    have HR2 := Lib.hid (HR.out.row ⟨#[]⟩ ⟨#[]⟩ 0)
    have HA2 := Lib.hid (aftRow9 HA.out (Nat.le_of_eq HG6.out) #[.string ⟨#[]⟩, .string ⟨#[]⟩, .int .i64 0])
    generalize W1.setRow g6 #[.string ⟨#[]⟩, .string ⟨#[]⟩, .int .i64 0] = Wz at HR2 HA2 ⊢
    obtain ⟨z0, z1, z2⟩ := HR2.out.cells
    refine bodyPost_ret (v := .tuple #[.agg #[.string ⟨#[]⟩, .string ⟨#[]⟩, .int .i64 0], .int .i64 0, .int .i64 E]) (by simp [results, Tryd.results72, asAddr, go_sem, z0, z1, z2]) rfl ?_
    exact ⟨⟨_, _, _, _, rfl⟩, HA2.out⟩
  · have q1 : ¬ ((c.toNat : Int) ≥ 128) := by omega
    have q2 : ¬ ((c.toNat : Int) ≥ 64) := by omega
    have q3 : ¬ ((c.toNat : Int) ≥ 16) := by omega
    clear k1
    go_enter Tryd.func72, Tryd.ntmps72
    go_upto_region 2 with fail
    obtain ⟨g6, hg6⟩ : ∃ g6, w.heap.size = g6 := ⟨_, rfl⟩
    rw [hg6] at HR ⊢
    have HG6 := Lib.hid hg6
    generalize w.alloc (.cells #[.string ⟨#[]⟩, .string ⟨#[]⟩, .int .i64 0] 57) = W1 at HA HR hx ⊢
    clear hg6
    go_wp2_with fail
    refine (HG.out _ HA.out).mono ?_
    rintro e w9 ⟨rfl, rfl⟩
    go_wp2_with (refine wpList_store_rowTo rfl 57 (.tmp 6) (.tmp 76) rfl rfl g6 #[.string ⟨#[]⟩, .string ⟨#[]⟩, .int .i64 0] rfl rfl _ _ HR.out (rwsz ⟨#[]⟩ ⟨#[]⟩ 0) rfl (rwone ⟨#[]⟩ ⟨#[]⟩ 0) ?_)
    have HR2 := Lib.hid (HR.out.row ⟨#[]⟩ ⟨#[]⟩ 0)
    have HA2 := Lib.hid (aftRow9 HA.out (Nat.le_of_eq HG6.out) #[.string ⟨#[]⟩, .string ⟨#[]⟩, .int .i64 0])
    generalize W1.setRow g6 #[.string ⟨#[]⟩, .string ⟨#[]⟩, .int .i64 0] = Wz at HR2 HA2 ⊢
    obtain ⟨z0, z1, z2⟩ := HR2.out.cells
    refine bodyPost_ret (v := .tuple #[.agg #[.string ⟨#[]⟩, .string ⟨#[]⟩, .int .i64 0], .int .i64 0, .int .i64 E]) (by simp [results, Tryd.results72, asAddr, go_sem, z0, z1, z2]) rfl ?_
    exact ⟨⟨_, _, _, _, rfl⟩, HA2.out⟩
set_option linter.unusedSimpArgs false in
set_option maxHeartbeats 16000000 in
set_option maxRecDepth 100000 in
theorem rurow_kno {w : World} {B gp g : Nat} {vo : Value} {l : List FieldL} {m top list : Int} {bad : Bool} {pb off cap : Nat} {b : List UInt8} {at_ : Nat} (h : RUn w B gp g vo l m top list bad) (hb : Rb w (.slice (some ⟨pb, off, none⟩) b.length cap) b) (hlen : b.length ≤ 1000000) (hl : l.length ≤ 1000000) (c : UInt8) (hc : b[at_]? = some c) (bits : Nat) (how : Int) (hk : RK c bits how) (i t1 : Nat) (hg : getL b at_ bits = (i, t1, 0)) (hi : 0 < i) (hn : getB l i = false) :
    Calls Tryd.prog 72 #[.pointer (some ⟨gp, 0, none⟩), .slice (some ⟨pb, off, none⟩) b.length cap, .int .i64 (at_ : Int)] w fun e w' => RrNo w 5 e w' := by
  have hat : at_ < b.length := (List.getElem?_eq_some_iff.1 hc).1
  have HH := Lib.hid h
  have HB := Lib.hid hb
  have i1 : (at_ : Int) < (b.length : Int) := by omega
  have HA : Hid (Aft w (w.alloc (.cells #[.string ⟨#[]⟩, .string ⟨#[]⟩, .int .i64 0] 57))) := Lib.hid ((Aft.refl w).alloc _)
  have HR : Hid (RWB (w.alloc (.cells #[.string ⟨#[]⟩, .string ⟨#[]⟩, .int .i64 0] 57)) w.heap.size ⟨#[]⟩ ⟨#[]⟩ 0) := Lib.hid (heap_alloc_new w _)
  have hx := (HB.out.aft HA.out).cellAt hc
  have HG := Lib.hid (fun w' (a : Aft w w') => rpget_any (some ⟨pb, off, none⟩) cap b at_ bits w' (HB.out.aft a) (by omega) (by omega) hk.bits)
  have hgt := getL_to (b := b) (at_ := at_) (n := bits) (by have := hk.bits; omega) (by rw [hg])
  unfold getV at HG
  rw [hg] at HG hgt
  simp only at HG hgt
  have HT := Lib.hid (fun w' (a : Aft w w') => rget_any (i : Int) (by omega) (by omega) (HH.out.aft a).t hl)
  obtain ⟨⟨f1, f2⟩, hf⟩ : ∃ q, getF l i = q := ⟨_, rfl⟩
  rw [hf] at HT
  unfold fieldV at HT
  simp only at HT
  obtain ⟨X, hX⟩ : ∃ B : ByteArray, (⟨f1.toArray⟩ : ByteArray) = B := ⟨_, rfl⟩
  obtain ⟨Y, hY⟩ : ∃ B : ByteArray, (⟨f2.toArray⟩ : ByteArray) = B := ⟨_, rfl⟩
  rw [hX, hY] at HT
  rw [hn] at HT
  have i4 : (i : Int) > 0 := by omega
  unfold RK at hk
  clear h hb hlen hl hc hat hg hgt hi hn hf hX hY
  rcases hk with ⟨k1, k2, rfl, rfl⟩ | ⟨k1, k2, rfl, rfl⟩ | ⟨k1, rfl, rfl⟩
  · have q1 : ¬ ((c.toNat : Int) ≥ 128) := by omega
    have q2 : (c.toNat : Int) ≥ 64 := by omega
    clear k1 k2
    go_enter Tryd.func72, Tryd.ntmps72
    go_upto_region 2 with fail
    obtain ⟨g6, hg6⟩ : ∃ g6, w.heap.size = g6 := ⟨_, rfl⟩
    rw [hg6] at HR ⊢
    have HG6 := Lib.hid hg6
    generalize w.alloc (.cells #[.string ⟨#[]⟩, .string ⟨#[]⟩, .int .i64 0] 57) = W1 at HA HR hx ⊢
    clear hg6
    go_wp2_with fail
    refine (HG.out _ HA.out).mono ?_
    rintro e w9 ⟨rfl, rfl⟩
    go_upto_region 16 with fail
    have HA2 : Hid (Aft w (W1.alloc (.cells #[.string ⟨#[]⟩, .string ⟨#[]⟩] 28))) := Lib.hid (HA.out.alloc _)
    have HR2 : Hid (RWB (W1.alloc (.cells #[.string ⟨#[]⟩, .string ⟨#[]⟩] 28)) g6 ⟨#[]⟩ ⟨#[]⟩ 0) := Lib.hid (HR.out.aft ((Aft.refl W1).alloc _))
    have HF2 : Hid (FKB (W1.alloc (.cells #[.string ⟨#[]⟩, .string ⟨#[]⟩] 28)) W1.heap.size ⟨#[]⟩ ⟨#[]⟩) := Lib.hid (heap_alloc_new W1 _)
    have HG19 : Hid (w.heap.size ≤ W1.heap.size ∧ W1.heap.size ≠ g6) := Lib.hid ⟨HA.out.to.size, fun e => by have h1 := lt_of_heap HR.out; omega⟩
    generalize W1.heap.size = g19 at HF2 HG19 ⊢
    generalize W1.alloc (.cells #[.string ⟨#[]⟩, .string ⟨#[]⟩] 28) = W2 at HA2 HR2 HF2 ⊢
    clear HA HR hx HG i1
    obtain ⟨c0, -, -, -, -⟩ := (HH.out.aft HA2.out).cells
    go_wp2_with fail
    refine (HT.out _ HA2.out).mono ?_
    rintro e w3 ⟨rfl, a3⟩
    have a4 := a3.alloc (.cells #[.string X, .string Y] 28)
    have HA4 := Lib.hid (HA2.out.trans a4)
    have HR4 := Lib.hid (HR2.out.aft a4)
    have HF4 := Lib.hid (HF2.out.aft a4)
    have HF20 : Hid (FKB (w3.alloc (.cells #[.string X, .string Y] 28)) w3.heap.size X Y) := Lib.hid (heap_alloc_new w3 _)
    clear a3 a4 c0 HA2 HR2 HF2 HT
    go_upto_region 18 with fail
    generalize w3.heap.size = g20 at HF20 ⊢
    generalize w3.alloc (.cells #[.string X, .string Y] 28) = W4 at HA4 HR4 HF4 HF20 ⊢
    go_wp2_with (refine wpList_store_rowTo rfl 57 (.tmp 6) (.tmp 92) rfl rfl g6 #[.string ⟨#[]⟩, .string ⟨#[]⟩, .int .i64 0] rfl rfl _ _ HR4.out (rwsz ⟨#[]⟩ ⟨#[]⟩ 0) rfl (rwone ⟨#[]⟩ ⟨#[]⟩ 0) ?_)
    have HRz := Lib.hid (HR4.out.row ⟨#[]⟩ ⟨#[]⟩ 0)
    have HAz := Lib.hid (aftRow9 HA4.out (Nat.le_of_eq HG6.out) #[.string ⟨#[]⟩, .string ⟨#[]⟩, .int .i64 0])
    generalize W4.setRow g6 #[.string ⟨#[]⟩, .string ⟨#[]⟩, .int .i64 0] = Wz at HRz HAz ⊢
    obtain ⟨z0, z1, z2⟩ := HRz.out.cells
    refine bodyPost_ret (v := .tuple #[.agg #[.string ⟨#[]⟩, .string ⟨#[]⟩, .int .i64 0], .int .i64 0, .int .i64 5]) (by simp [results, Tryd.results72, asAddr, go_sem, z0, z1, z2]) rfl ?_
    exact ⟨⟨_, _, _, _, rfl⟩, HAz.out⟩
  · have q1 : ¬ ((c.toNat : Int) ≥ 128) := by omega
    have q2 : ¬ ((c.toNat : Int) ≥ 64) := by omega
    have q3 : (c.toNat : Int) ≥ 16 := by omega
    clear k1 k2
    go_enter Tryd.func72, Tryd.ntmps72
    go_upto_region 2 with fail
    obtain ⟨g6, hg6⟩ : ∃ g6, w.heap.size = g6 := ⟨_, rfl⟩
    rw [hg6] at HR ⊢
    have HG6 := Lib.hid hg6
    generalize w.alloc (.cells #[.string ⟨#[]⟩, .string ⟨#[]⟩, .int .i64 0] 57) = W1 at HA HR hx ⊢
    clear hg6
    go_wp2_with fail
    refine (HG.out _ HA.out).mono ?_
    rintro e w9 ⟨rfl, rfl⟩
    go_upto_region 16 with fail
    have HA2 : Hid (Aft w (W1.alloc (.cells #[.string ⟨#[]⟩, .string ⟨#[]⟩] 28))) := Lib.hid (HA.out.alloc _)
    have HR2 : Hid (RWB (W1.alloc (.cells #[.string ⟨#[]⟩, .string ⟨#[]⟩] 28)) g6 ⟨#[]⟩ ⟨#[]⟩ 0) := Lib.hid (HR.out.aft ((Aft.refl W1).alloc _))
    have HF2 : Hid (FKB (W1.alloc (.cells #[.string ⟨#[]⟩, .string ⟨#[]⟩] 28)) W1.heap.size ⟨#[]⟩ ⟨#[]⟩) := Lib.hid (heap_alloc_new W1 _)
    have HG19 : Hid (w.heap.size ≤ W1.heap.size ∧ W1.heap.size ≠ g6) := Lib.hid ⟨HA.out.to.size, fun e => by have h1 := lt_of_heap HR.out; omega⟩
    generalize W1.heap.size = g19 at HF2 HG19 ⊢
    generalize W1.alloc (.cells #[.string ⟨#[]⟩, .string ⟨#[]⟩] 28) = W2 at HA2 HR2 HF2 ⊢
    clear HA HR hx HG i1
    obtain ⟨c0, -, -, -, -⟩ := (HH.out.aft HA2.out).cells
    go_wp2_with fail
    refine (HT.out _ HA2.out).mono ?_
    rintro e w3 ⟨rfl, a3⟩
    have a4 := a3.alloc (.cells #[.string X, .string Y] 28)
    have HA4 := Lib.hid (HA2.out.trans a4)
    have HR4 := Lib.hid (HR2.out.aft a4)
    have HF4 := Lib.hid (HF2.out.aft a4)
    have HF20 : Hid (FKB (w3.alloc (.cells #[.string X, .string Y] 28)) w3.heap.size X Y) := Lib.hid (heap_alloc_new w3 _)
    clear a3 a4 c0 HA2 HR2 HF2 HT
    go_upto_region 18 with fail
    generalize w3.heap.size = g20 at HF20 ⊢
    generalize w3.alloc (.cells #[.string X, .string Y] 28) = W4 at HA4 HR4 HF4 HF20 ⊢
    go_wp2_with (refine wpList_store_rowTo rfl 57 (.tmp 6) (.tmp 92) rfl rfl g6 #[.string ⟨#[]⟩, .string ⟨#[]⟩, .int .i64 0] rfl rfl _ _ HR4.out (rwsz ⟨#[]⟩ ⟨#[]⟩ 0) rfl (rwone ⟨#[]⟩ ⟨#[]⟩ 0) ?_)
    have HRz := Lib.hid (HR4.out.row ⟨#[]⟩ ⟨#[]⟩ 0)
    have HAz := Lib.hid (aftRow9 HA4.out (Nat.le_of_eq HG6.out) #[.string ⟨#[]⟩, .string ⟨#[]⟩, .int .i64 0])
    generalize W4.setRow g6 #[.string ⟨#[]⟩, .string ⟨#[]⟩, .int .i64 0] = Wz at HRz HAz ⊢
    obtain ⟨z0, z1, z2⟩ := HRz.out.cells
    refine bodyPost_ret (v := .tuple #[.agg #[.string ⟨#[]⟩, .string ⟨#[]⟩, .int .i64 0], .int .i64 0, .int .i64 5]) (by simp [results, Tryd.results72, asAddr, go_sem, z0, z1, z2]) rfl ?_
    exact ⟨⟨_, _, _, _, rfl⟩, HAz.out⟩
  · have q1 : ¬ ((c.toNat : Int) ≥ 128) := by omega
    have q2 : ¬ ((c.toNat : Int) ≥ 64) := by omega
    have q3 : ¬ ((c.toNat : Int) ≥ 16) := by omega
    clear k1
    go_enter Tryd.func72, Tryd.ntmps72
    go_upto_region 2 with fail
    obtain ⟨g6, hg6⟩ : ∃ g6, w.heap.size = g6 := ⟨_, rfl⟩
    rw [hg6] at HR ⊢
    have HG6 := Lib.hid hg6
    generalize w.alloc (.cells #[.string ⟨#[]⟩, .string ⟨#[]⟩, .int .i64 0] 57) = W1 at HA HR hx ⊢
    clear hg6
    go_wp2_with fail
    refine (HG.out _ HA.out).mono ?_
    rintro e w9 ⟨rfl, rfl⟩
    go_upto_region 16 with fail
    have HA2 : Hid (Aft w (W1.alloc (.cells #[.string ⟨#[]⟩, .string ⟨#[]⟩] 28))) := Lib.hid (HA.out.alloc _)
    have HR2 : Hid (RWB (W1.alloc (.cells #[.string ⟨#[]⟩, .string ⟨#[]⟩] 28)) g6 ⟨#[]⟩ ⟨#[]⟩ 0) := Lib.hid (HR.out.aft ((Aft.refl W1).alloc _))
    have HF2 : Hid (FKB (W1.alloc (.cells #[.string ⟨#[]⟩, .string ⟨#[]⟩] 28)) W1.heap.size ⟨#[]⟩ ⟨#[]⟩) := Lib.hid (heap_alloc_new W1 _)
    have HG19 : Hid (w.heap.size ≤ W1.heap.size ∧ W1.heap.size ≠ g6) := Lib.hid ⟨HA.out.to.size, fun e => by have h1 := lt_of_heap HR.out; omega⟩
    generalize W1.heap.size = g19 at HF2 HG19 ⊢
    generalize W1.alloc (.cells #[.string ⟨#[]⟩, .string ⟨#[]⟩] 28) = W2 at HA2 HR2 HF2 ⊢
    clear HA HR hx HG i1
    obtain ⟨c0, -, -, -, -⟩ := (HH.out.aft HA2.out).cells
    go_wp2_with fail
    refine (HT.out _ HA2.out).mono ?_
    rintro e w3 ⟨rfl, a3⟩
    have a4 := a3.alloc (.cells #[.string X, .string Y] 28)
    have HA4 := Lib.hid (HA2.out.trans a4)
    have HR4 := Lib.hid (HR2.out.aft a4)
    have HF4 := Lib.hid (HF2.out.aft a4)
    have HF20 : Hid (FKB (w3.alloc (.cells #[.string X, .string Y] 28)) w3.heap.size X Y) := Lib.hid (heap_alloc_new w3 _)
    clear a3 a4 c0 HA2 HR2 HF2 HT
    go_upto_region 18 with fail
    generalize w3.heap.size = g20 at HF20 ⊢
    generalize w3.alloc (.cells #[.string X, .string Y] 28) = W4 at HA4 HR4 HF4 HF20 ⊢
    go_wp2_with (refine wpList_store_rowTo rfl 57 (.tmp 6) (.tmp 92) rfl rfl g6 #[.string ⟨#[]⟩, .string ⟨#[]⟩, .int .i64 0] rfl rfl _ _ HR4.out (rwsz ⟨#[]⟩ ⟨#[]⟩ 0) rfl (rwone ⟨#[]⟩ ⟨#[]⟩ 0) ?_)
    have HRz := Lib.hid (HR4.out.row ⟨#[]⟩ ⟨#[]⟩ 0)
    have HAz := Lib.hid (aftRow9 HA4.out (Nat.le_of_eq HG6.out) #[.string ⟨#[]⟩, .string ⟨#[]⟩, .int .i64 0])
    generalize W4.setRow g6 #[.string ⟨#[]⟩, .string ⟨#[]⟩, .int .i64 0] = Wz at HRz HAz ⊢
    obtain ⟨z0, z1, z2⟩ := HRz.out.cells
    refine bodyPost_ret (v := .tuple #[.agg #[.string ⟨#[]⟩, .string ⟨#[]⟩, .int .i64 0], .int .i64 0, .int .i64 5]) (by simp [results, Tryd.results72, asAddr, go_sem, z0, z1, z2]) rfl ?_
    exact ⟨⟨_, _, _, _, rfl⟩, HAz.out⟩
set_option linter.unusedSimpArgs false in
set_option maxHeartbeats 16000000 in
set_option maxRecDepth 100000 in
theorem rurow_nam {w : World} {B gp g : Nat} {vo : Value} {l : List FieldL} {m top list : Int} {bad : Bool} {pb off cap : Nat} {b : List UInt8} {at_ : Nat} (h : RUn w B gp g vo l m top list bad) (hb : Rb w (.slice (some ⟨pb, off, none⟩) b.length cap) b) (hlen : b.length ≤ 1000000) (hl : l.length ≤ 1000000) (c : UInt8) (hc : b[at_]? = some c) (bits : Nat) (how : Int) (hk : RK c bits how) (E : Int) (hE : E ≠ 0) (i t1 : Nat) (hg : getL b at_ bits = (i, t1, 0)) (hi : i = 0) (ht : (textU b t1).2.2 = E) :
    Calls Tryd.prog 72 #[.pointer (some ⟨gp, 0, none⟩), .slice (some ⟨pb, off, none⟩) b.length cap, .int .i64 (at_ : Int)] w fun e w' => RrNo w E e w' := by
  have hat : at_ < b.length := (List.getElem?_eq_some_iff.1 hc).1
  have HH := Lib.hid h
  have HB := Lib.hid hb
  have i1 : (at_ : Int) < (b.length : Int) := by omega
  have HA : Hid (Aft w (w.alloc (.cells #[.string ⟨#[]⟩, .string ⟨#[]⟩, .int .i64 0] 57))) := Lib.hid ((Aft.refl w).alloc _)
  have HR : Hid (RWB (w.alloc (.cells #[.string ⟨#[]⟩, .string ⟨#[]⟩, .int .i64 0] 57)) w.heap.size ⟨#[]⟩ ⟨#[]⟩ 0) := Lib.hid (heap_alloc_new w _)
  have hx := (HB.out.aft HA.out).cellAt hc
  have HG := Lib.hid (fun w' (a : Aft w w') => rpget_any (some ⟨pb, off, none⟩) cap b at_ bits w' (HB.out.aft a) (by omega) (by omega) hk.bits)
  have hgt := getL_to (b := b) (at_ := at_) (n := bits) (by have := hk.bits; omega) (by rw [hg])
  unfold getV at HG
  rw [hg] at HG hgt
  simp only at HG hgt
  have HTX := Lib.hid (fun w' (a : Aft w w') => rutext_any (some ⟨pb, off, none⟩) cap b t1 w' (HB.out.aft a) hlen)
  unfold TxPost at HTX
  rw [ht] at HTX
  have i4 : ¬ (i : Int) > 0 := by omega
  have i5 : (E != 0) = true := by simpa using hE
  unfold RK at hk
  clear h hb hlen hl hc hat hg hgt hi ht hE
  rcases hk with ⟨k1, k2, rfl, rfl⟩ | ⟨k1, k2, rfl, rfl⟩ | ⟨k1, rfl, rfl⟩
  · have q1 : ¬ ((c.toNat : Int) ≥ 128) := by omega
    have q2 : (c.toNat : Int) ≥ 64 := by omega
    clear k1 k2
    go_enter Tryd.func72, Tryd.ntmps72
    go_upto_region 2 with fail
    obtain ⟨g6, hg6⟩ : ∃ g6, w.heap.size = g6 := ⟨_, rfl⟩
    rw [hg6] at HR ⊢
    have HG6 := Lib.hid hg6
    generalize w.alloc (.cells #[.string ⟨#[]⟩, .string ⟨#[]⟩, .int .i64 0] 57) = W1 at HA HR hx ⊢
    clear hg6
    go_wp2_with fail
    refine (HG.out _ HA.out).mono ?_
    rintro e w9 ⟨rfl, rfl⟩
    go_upto_region 16 with fail
    have HA2 : Hid (Aft w (W1.alloc (.cells #[.string ⟨#[]⟩, .string ⟨#[]⟩] 28))) := Lib.hid (HA.out.alloc _)
    have HR2 : Hid (RWB (W1.alloc (.cells #[.string ⟨#[]⟩, .string ⟨#[]⟩] 28)) g6 ⟨#[]⟩ ⟨#[]⟩ 0) := Lib.hid (HR.out.aft ((Aft.refl W1).alloc _))
    have HF2 : Hid (FKB (W1.alloc (.cells #[.string ⟨#[]⟩, .string ⟨#[]⟩] 28)) W1.heap.size ⟨#[]⟩ ⟨#[]⟩) := Lib.hid (heap_alloc_new W1 _)
    have HG19 : Hid (w.heap.size ≤ W1.heap.size ∧ W1.heap.size ≠ g6) := Lib.hid ⟨HA.out.to.size, fun e => by have h1 := lt_of_heap HR.out; omega⟩
    generalize W1.heap.size = g19 at HF2 HG19 ⊢
    generalize W1.alloc (.cells #[.string ⟨#[]⟩, .string ⟨#[]⟩] 28) = W2 at HA2 HR2 HF2 ⊢
    clear HA HR hx HG i1
    obtain ⟨c0, -, -, -, -⟩ := (HH.out.aft HA2.out).cells
    go_wp2_with fail
    refine (HTX.out _ HA2.out).mono ?_
    rintro e w3 ⟨⟨S, t, rfl, -⟩, a3⟩
    have hf3 := HF2.out.aft a3
    have HA4 := Lib.hid (aftCell9 (HA2.out.trans a3) HG19.out.1 0 (.string S))
    have HR4 := Lib.hid ((HR2.out.aft a3).far HG19.out.2 0 (.string S))
    have HF4 := Lib.hid (hf3.put0 S)
    obtain ⟨y0, y1, yf⟩ := hf3.cells
    have yf0 := yf 0
    clear yf hf3 a3 c0 HA2 HR2 HF2 HTX
    go_upto_region 22 with fail
    clear y0 y1 yf0
    generalize w3.setCell ⟨g19, 0, none⟩ (.string S) = W4 at HA4 HR4 HF4 ⊢
    go_wp2_with (refine wpList_store_rowTo rfl 57 (.tmp 6) (.tmp 106) rfl rfl g6 #[.string ⟨#[]⟩, .string ⟨#[]⟩, .int .i64 0] rfl rfl _ _ HR4.out (rwsz ⟨#[]⟩ ⟨#[]⟩ 0) rfl (rwone ⟨#[]⟩ ⟨#[]⟩ 0) ?_)
    have HRz := Lib.hid (HR4.out.row ⟨#[]⟩ ⟨#[]⟩ 0)
    have HAz := Lib.hid (aftRow9 HA4.out (Nat.le_of_eq HG6.out) #[.string ⟨#[]⟩, .string ⟨#[]⟩, .int .i64 0])
    generalize W4.setRow g6 #[.string ⟨#[]⟩, .string ⟨#[]⟩, .int .i64 0] = Wz at HRz HAz ⊢
    obtain ⟨z0, z1, z2⟩ := HRz.out.cells
    refine bodyPost_ret (v := .tuple #[.agg #[.string ⟨#[]⟩, .string ⟨#[]⟩, .int .i64 0], .int .i64 0, .int .i64 E]) (by simp [results, Tryd.results72, asAddr, go_sem, z0, z1, z2]) rfl ?_
    exact ⟨⟨_, _, _, _, rfl⟩, HAz.out⟩
  · have q1 : ¬ ((c.toNat : Int) ≥ 128) := by omega
    have q2 : ¬ ((c.toNat : Int) ≥ 64) := by omega
    have q3 : (c.toNat : Int) ≥ 16 := by omega
    clear k1 k2
    go_enter Tryd.func72, Tryd.ntmps72
    go_upto_region 2 with fail
    obtain ⟨g6, hg6⟩ : ∃ g6, w.heap.size = g6 := ⟨_, rfl⟩
    rw [hg6] at HR ⊢
    have HG6 := Lib.hid hg6
    generalize w.alloc (.cells #[.string ⟨#[]⟩, .string ⟨#[]⟩, .int .i64 0] 57) = W1 at HA HR hx ⊢
    clear hg6
    go_wp2_with fail
    refine (HG.out _ HA.out).mono ?_
    rintro e w9 ⟨rfl, rfl⟩
    go_upto_region 16 with fail
    have HA2 : Hid (Aft w (W1.alloc (.cells #[.string ⟨#[]⟩, .string ⟨#[]⟩] 28))) := Lib.hid (HA.out.alloc _)
    have HR2 : Hid (RWB (W1.alloc (.cells #[.string ⟨#[]⟩, .string ⟨#[]⟩] 28)) g6 ⟨#[]⟩ ⟨#[]⟩ 0) := Lib.hid (HR.out.aft ((Aft.refl W1).alloc _))
    have HF2 : Hid (FKB (W1.alloc (.cells #[.string ⟨#[]⟩, .string ⟨#[]⟩] 28)) W1.heap.size ⟨#[]⟩ ⟨#[]⟩) := Lib.hid (heap_alloc_new W1 _)
    have HG19 : Hid (w.heap.size ≤ W1.heap.size ∧ W1.heap.size ≠ g6) := Lib.hid ⟨HA.out.to.size, fun e => by have h1 := lt_of_heap HR.out; omega⟩
    generalize W1.heap.size = g19 at HF2 HG19 ⊢
    generalize W1.alloc (.cells #[.string ⟨#[]⟩, .string ⟨#[]⟩] 28) = W2 at HA2 HR2 HF2 ⊢
    clear HA HR hx HG i1
    obtain ⟨c0, -, -, -, -⟩ := (HH.out.aft HA2.out).cells
    go_wp2_with fail
    refine (HTX.out _ HA2.out).mono ?_
    rintro e w3 ⟨⟨S, t, rfl, -⟩, a3⟩
    have hf3 := HF2.out.aft a3
    have HA4 := Lib.hid (aftCell9 (HA2.out.trans a3) HG19.out.1 0 (.string S))
    have HR4 := Lib.hid ((HR2.out.aft a3).far HG19.out.2 0 (.string S))
    have HF4 := Lib.hid (hf3.put0 S)
    obtain ⟨y0, y1, yf⟩ := hf3.cells
    have yf0 := yf 0
    clear yf hf3 a3 c0 HA2 HR2 HF2 HTX
    go_upto_region 22 with fail
    clear y0 y1 yf0
    generalize w3.setCell ⟨g19, 0, none⟩ (.string S) = W4 at HA4 HR4 HF4 ⊢
    go_wp2_with (refine wpList_store_rowTo rfl 57 (.tmp 6) (.tmp 106) rfl rfl g6 #[.string ⟨#[]⟩, .string ⟨#[]⟩, .int .i64 0] rfl rfl _ _ HR4.out (rwsz ⟨#[]⟩ ⟨#[]⟩ 0) rfl (rwone ⟨#[]⟩ ⟨#[]⟩ 0) ?_)
    have HRz := Lib.hid (HR4.out.row ⟨#[]⟩ ⟨#[]⟩ 0)
    have HAz := Lib.hid (aftRow9 HA4.out (Nat.le_of_eq HG6.out) #[.string ⟨#[]⟩, .string ⟨#[]⟩, .int .i64 0])
    generalize W4.setRow g6 #[.string ⟨#[]⟩, .string ⟨#[]⟩, .int .i64 0] = Wz at HRz HAz ⊢
    obtain ⟨z0, z1, z2⟩ := HRz.out.cells
    refine bodyPost_ret (v := .tuple #[.agg #[.string ⟨#[]⟩, .string ⟨#[]⟩, .int .i64 0], .int .i64 0, .int .i64 E]) (by simp [results, Tryd.results72, asAddr, go_sem, z0, z1, z2]) rfl ?_
    exact ⟨⟨_, _, _, _, rfl⟩, HAz.out⟩
  · have q1 : ¬ ((c.toNat : Int) ≥ 128) := by omega
    have q2 : ¬ ((c.toNat : Int) ≥ 64) := by omega
    have q3 : ¬ ((c.toNat : Int) ≥ 16) := by omega
    clear k1
    go_enter Tryd.func72, Tryd.ntmps72
    go_upto_region 2 with fail
    obtain ⟨g6, hg6⟩ : ∃ g6, w.heap.size = g6 := ⟨_, rfl⟩
    rw [hg6] at HR ⊢
    have HG6 := Lib.hid hg6
    generalize w.alloc (.cells #[.string ⟨#[]⟩, .string ⟨#[]⟩, .int .i64 0] 57) = W1 at HA HR hx ⊢
    clear hg6
    go_wp2_with fail
    refine (HG.out _ HA.out).mono ?_
    rintro e w9 ⟨rfl, rfl⟩
    go_upto_region 16 with fail
    have HA2 : Hid (Aft w (W1.alloc (.cells #[.string ⟨#[]⟩, .string ⟨#[]⟩] 28))) := Lib.hid (HA.out.alloc _)
    have HR2 : Hid (RWB (W1.alloc (.cells #[.string ⟨#[]⟩, .string ⟨#[]⟩] 28)) g6 ⟨#[]⟩ ⟨#[]⟩ 0) := Lib.hid (HR.out.aft ((Aft.refl W1).alloc _))
    have HF2 : Hid (FKB (W1.alloc (.cells #[.string ⟨#[]⟩, .string ⟨#[]⟩] 28)) W1.heap.size ⟨#[]⟩ ⟨#[]⟩) := Lib.hid (heap_alloc_new W1 _)
    have HG19 : Hid (w.heap.size ≤ W1.heap.size ∧ W1.heap.size ≠ g6) := Lib.hid ⟨HA.out.to.size, fun e => by have h1 := lt_of_heap HR.out; omega⟩
    generalize W1.heap.size = g19 at HF2 HG19 ⊢
    generalize W1.alloc (.cells #[.string ⟨#[]⟩, .string ⟨#[]⟩] 28) = W2 at HA2 HR2 HF2 ⊢
    clear HA HR hx HG i1
    obtain ⟨c0, -, -, -, -⟩ := (HH.out.aft HA2.out).cells
    go_wp2_with fail
    refine (HTX.out _ HA2.out).mono ?_
    rintro e w3 ⟨⟨S, t, rfl, -⟩, a3⟩
    have hf3 := HF2.out.aft a3
    have HA4 := Lib.hid (aftCell9 (HA2.out.trans a3) HG19.out.1 0 (.string S))
    have HR4 := Lib.hid ((HR2.out.aft a3).far HG19.out.2 0 (.string S))
    have HF4 := Lib.hid (hf3.put0 S)
    obtain ⟨y0, y1, yf⟩ := hf3.cells
    have yf0 := yf 0
    clear yf hf3 a3 c0 HA2 HR2 HF2 HTX
    go_upto_region 22 with fail
    clear y0 y1 yf0
    generalize w3.setCell ⟨g19, 0, none⟩ (.string S) = W4 at HA4 HR4 HF4 ⊢
    go_wp2_with (refine wpList_store_rowTo rfl 57 (.tmp 6) (.tmp 106) rfl rfl g6 #[.string ⟨#[]⟩, .string ⟨#[]⟩, .int .i64 0] rfl rfl _ _ HR4.out (rwsz ⟨#[]⟩ ⟨#[]⟩ 0) rfl (rwone ⟨#[]⟩ ⟨#[]⟩ 0) ?_)
    have HRz := Lib.hid (HR4.out.row ⟨#[]⟩ ⟨#[]⟩ 0)
    have HAz := Lib.hid (aftRow9 HA4.out (Nat.le_of_eq HG6.out) #[.string ⟨#[]⟩, .string ⟨#[]⟩, .int .i64 0])
    generalize W4.setRow g6 #[.string ⟨#[]⟩, .string ⟨#[]⟩, .int .i64 0] = Wz at HRz HAz ⊢
    obtain ⟨z0, z1, z2⟩ := HRz.out.cells
    refine bodyPost_ret (v := .tuple #[.agg #[.string ⟨#[]⟩, .string ⟨#[]⟩, .int .i64 0], .int .i64 0, .int .i64 E]) (by simp [results, Tryd.results72, asAddr, go_sem, z0, z1, z2]) rfl ?_
    exact ⟨⟨_, _, _, _, rfl⟩, HAz.out⟩
set_option linter.unusedSimpArgs false in
set_option maxHeartbeats 16000000 in
set_option maxRecDepth 100000 in
theorem rurow_val_k {w : World} {B gp g : Nat} {vo : Value} {l : List FieldL} {m top list : Int} {bad : Bool} {pb off cap : Nat} {b : List UInt8} {at_ : Nat} (h : RUn w B gp g vo l m top list bad) (hb : Rb w (.slice (some ⟨pb, off, none⟩) b.length cap) b) (hlen : b.length ≤ 1000000) (hl : l.length ≤ 1000000) (c : UInt8) (hc : b[at_]? = some c) (bits : Nat) (how : Int) (hk : RK c bits how) (i t1 : Nat) (hg : getL b at_ bits = (i, t1, 0)) (N : List UInt8) (t3 : Nat) (hi : 0 < i) (hn : getB l i = true) (hN : N = (getF l i).1) (h3 : t3 = t1) (E : Int) (hE : E ≠ 0) (ht : (textU b t3).2.2 = E) :
    Calls Tryd.prog 72 #[.pointer (some ⟨gp, 0, none⟩), .slice (some ⟨pb, off, none⟩) b.length cap, .int .i64 (at_ : Int)] w fun e w' => RrNo w E e w' := by
  have hat : at_ < b.length := (List.getElem?_eq_some_iff.1 hc).1
  have HH := Lib.hid h
  have HB := Lib.hid hb
  have i1 : (at_ : Int) < (b.length : Int) := by omega
  have HA : Hid (Aft w (w.alloc (.cells #[.string ⟨#[]⟩, .string ⟨#[]⟩, .int .i64 0] 57))) := Lib.hid ((Aft.refl w).alloc _)
  have HR : Hid (RWB (w.alloc (.cells #[.string ⟨#[]⟩, .string ⟨#[]⟩, .int .i64 0] 57)) w.heap.size ⟨#[]⟩ ⟨#[]⟩ 0) := Lib.hid (heap_alloc_new w _)
  have hx := (HB.out.aft HA.out).cellAt hc
  have HG := Lib.hid (fun w' (a : Aft w w') => rpget_any (some ⟨pb, off, none⟩) cap b at_ bits w' (HB.out.aft a) (by omega) (by omega) hk.bits)
  have hgt := getL_to (b := b) (at_ := at_) (n := bits) (by have := hk.bits; omega) (by rw [hg])
  unfold getV at HG
  rw [hg] at HG hgt
  simp only at HG hgt
  have HT := Lib.hid (fun w' (a : Aft w w') => rget_any (i : Int) (by omega) (by omega) (HH.out.aft a).t hl)
  obtain ⟨⟨f1, f2⟩, hf⟩ : ∃ q, getF l i = q := ⟨_, rfl⟩
  rw [hf] at HT
  unfold fieldV at HT
  simp only at HT
  obtain ⟨X, hX⟩ : ∃ B : ByteArray, (⟨f1.toArray⟩ : ByteArray) = B := ⟨_, rfl⟩
  obtain ⟨Y, hY⟩ : ∃ B : ByteArray, (⟨f2.toArray⟩ : ByteArray) = B := ⟨_, rfl⟩
  rw [hX, hY] at HT
  have HTX := Lib.hid (fun w' (a : Aft w w') => rutext_any (some ⟨pb, off, none⟩) cap b t1 w' (HB.out.aft a) hlen)
  have HTY := Lib.hid (fun w' (a : Aft w w') => rutext_any (some ⟨pb, off, none⟩) cap b t3 w' (HB.out.aft a) hlen)
  unfold TxPost at HTX HTY
  obtain ⟨NB, hNB⟩ : ∃ B : ByteArray, (⟨N.toArray⟩ : ByteArray) = B := ⟨_, rfl⟩
  rw [hn] at HT
  rw [hf] at hN
  simp only at hN
  subst hN h3
  rw [hX] at hNB
  subst hNB
  have i4 : (i : Int) > 0 := by omega
  rw [ht] at HTY
  have i5 : (E != 0) = true := by simpa using hE
  unfold RK at hk
  clear h hb hlen hl hc hat hg hgt ht hE hi hn hf hX hY HTX
  rcases hk with ⟨k1, k2, rfl, rfl⟩ | ⟨k1, k2, rfl, rfl⟩ | ⟨k1, rfl, rfl⟩
  · have q1 : ¬ ((c.toNat : Int) ≥ 128) := by omega
    have q2 : (c.toNat : Int) ≥ 64 := by omega
    clear k1 k2
    go_enter Tryd.func72, Tryd.ntmps72
    go_upto_region 2 with fail
    obtain ⟨g6, hg6⟩ : ∃ g6, w.heap.size = g6 := ⟨_, rfl⟩
    rw [hg6] at HR ⊢
    have HG6 := Lib.hid hg6
    generalize w.alloc (.cells #[.string ⟨#[]⟩, .string ⟨#[]⟩, .int .i64 0] 57) = W1 at HA HR hx ⊢
    clear hg6
    go_wp2_with fail
    refine (HG.out _ HA.out).mono ?_
    rintro e w9 ⟨rfl, rfl⟩
    go_upto_region 16 with fail
    have HA2 : Hid (Aft w (W1.alloc (.cells #[.string ⟨#[]⟩, .string ⟨#[]⟩] 28))) := Lib.hid (HA.out.alloc _)
    have HR2 : Hid (RWB (W1.alloc (.cells #[.string ⟨#[]⟩, .string ⟨#[]⟩] 28)) g6 ⟨#[]⟩ ⟨#[]⟩ 0) := Lib.hid (HR.out.aft ((Aft.refl W1).alloc _))
    have HF2 : Hid (FKB (W1.alloc (.cells #[.string ⟨#[]⟩, .string ⟨#[]⟩] 28)) W1.heap.size ⟨#[]⟩ ⟨#[]⟩) := Lib.hid (heap_alloc_new W1 _)
    have HG19 : Hid (w.heap.size ≤ W1.heap.size ∧ W1.heap.size ≠ g6) := Lib.hid ⟨HA.out.to.size, fun e => by have h1 := lt_of_heap HR.out; omega⟩
    generalize W1.heap.size = g19 at HF2 HG19 ⊢
    generalize W1.alloc (.cells #[.string ⟨#[]⟩, .string ⟨#[]⟩] 28) = W2 at HA2 HR2 HF2 ⊢
    clear HA HR hx HG i1
    obtain ⟨c0, -, -, -, -⟩ := (HH.out.aft HA2.out).cells
    go_wp2_with fail
    refine (HT.out _ HA2.out).mono ?_
    rintro e w3 ⟨rfl, a3⟩
    have a4 := a3.alloc (.cells #[.string X, .string Y] 28)
    have HA4 := Lib.hid (HA2.out.trans a4)
    have HR4 := Lib.hid (HR2.out.aft a4)
    have HF4 := Lib.hid (HF2.out.aft a4)
    have HF20 : Hid (FKB (w3.alloc (.cells #[.string X, .string Y] 28)) w3.heap.size X Y) := Lib.hid (heap_alloc_new w3 _)
    clear a3 a4 c0 HA2 HR2 HF2 HT
    go_upto_region 18 with fail
    generalize w3.heap.size = g20 at HF20 ⊢
    generalize w3.alloc (.cells #[.string X, .string Y] 28) = W4 at HA4 HR4 HF4 HF20 ⊢
    have HA5 := Lib.hid (aftCell9 HA4.out HG19.out.1 0 (.string X))
    have HR5 := Lib.hid (HR4.out.far HG19.out.2 0 (.string X))
    have HF5 := Lib.hid (HF4.out.put0 X)
    obtain ⟨x0, x1, xf⟩ := HF20.out.cells
    obtain ⟨y0, y1, yf⟩ := HF4.out.cells
    have yf0 := yf 0
    clear xf yf HA4 HR4 HF4 HF20
    go_upto_region 24 with fail
    clear x0 x1 y0 y1 yf0
    generalize W4.setCell ⟨g19, 0, none⟩ (.string X) = W5 at HA5 HR5 HF5 ⊢
    go_wp2_with fail
    refine (HTY.out _ HA5.out).mono ?_
    rintro e w6 ⟨⟨S2, t2, rfl, -⟩, a6⟩
    have hf6 := HF5.out.aft a6
    have HA7 := Lib.hid (aftCell9 (HA5.out.trans a6) HG19.out.1 1 (.string S2))
    have HR7 := Lib.hid ((HR5.out.aft a6).far HG19.out.2 1 (.string S2))
    have HF7 := Lib.hid (hf6.put1 S2)
    obtain ⟨y0, y1, yf⟩ := hf6.cells
    have yf1 := yf 1
    clear yf hf6 a6 HA5 HR5 HF5 HTY
    go_upto_region 25 with fail
    clear y0 y1 yf1
    generalize w6.setCell ⟨g19, 1, none⟩ (.string S2) = W7 at HA7 HR7 HF7 ⊢
    go_wp2_with (refine wpList_store_rowTo rfl 57 (.tmp 6) (.tmp 118) rfl rfl g6 #[.string ⟨#[]⟩, .string ⟨#[]⟩, .int .i64 0] rfl rfl _ _ HR7.out (rwsz ⟨#[]⟩ ⟨#[]⟩ 0) rfl (rwone ⟨#[]⟩ ⟨#[]⟩ 0) ?_)
    have HRz := Lib.hid (HR7.out.row ⟨#[]⟩ ⟨#[]⟩ 0)
    have HAz := Lib.hid (aftRow9 HA7.out (Nat.le_of_eq HG6.out) #[.string ⟨#[]⟩, .string ⟨#[]⟩, .int .i64 0])
    generalize W7.setRow g6 #[.string ⟨#[]⟩, .string ⟨#[]⟩, .int .i64 0] = Wz at HRz HAz ⊢
    obtain ⟨z0, z1, z2⟩ := HRz.out.cells
    refine bodyPost_ret (v := .tuple #[.agg #[.string ⟨#[]⟩, .string ⟨#[]⟩, .int .i64 0], .int .i64 0, .int .i64 E]) (by simp [results, Tryd.results72, asAddr, go_sem, z0, z1, z2]) rfl ?_
    exact ⟨⟨_, _, _, _, rfl⟩, HAz.out⟩
  · have q1 : ¬ ((c.toNat : Int) ≥ 128) := by omega
    have q2 : ¬ ((c.toNat : Int) ≥ 64) := by omega
    have q3 : (c.toNat : Int) ≥ 16 := by omega
    clear k1 k2
    go_enter Tryd.func72, Tryd.ntmps72
    go_upto_region 2 with fail
    obtain ⟨g6, hg6⟩ : ∃ g6, w.heap.size = g6 := ⟨_, rfl⟩
    rw [hg6] at HR ⊢
    have HG6 := Lib.hid hg6
    generalize w.alloc (.cells #[.string ⟨#[]⟩, .string ⟨#[]⟩, .int .i64 0] 57) = W1 at HA HR hx ⊢
    clear hg6
    go_wp2_with fail
    refine (HG.out _ HA.out).mono ?_
    rintro e w9 ⟨rfl, rfl⟩
    go_upto_region 16 with fail
    have HA2 : Hid (Aft w (W1.alloc (.cells #[.string ⟨#[]⟩, .string ⟨#[]⟩] 28))) := Lib.hid (HA.out.alloc _)
    have HR2 : Hid (RWB (W1.alloc (.cells #[.string ⟨#[]⟩, .string ⟨#[]⟩] 28)) g6 ⟨#[]⟩ ⟨#[]⟩ 0) := Lib.hid (HR.out.aft ((Aft.refl W1).alloc _))
    have HF2 : Hid (FKB (W1.alloc (.cells #[.string ⟨#[]⟩, .string ⟨#[]⟩] 28)) W1.heap.size ⟨#[]⟩ ⟨#[]⟩) := Lib.hid (heap_alloc_new W1 _)
    have HG19 : Hid (w.heap.size ≤ W1.heap.size ∧ W1.heap.size ≠ g6) := Lib.hid ⟨HA.out.to.size, fun e => by have h1 := lt_of_heap HR.out; omega⟩
    generalize W1.heap.size = g19 at HF2 HG19 ⊢
    generalize W1.alloc (.cells #[.string ⟨#[]⟩, .string ⟨#[]⟩] 28) = W2 at HA2 HR2 HF2 ⊢
    clear HA HR hx HG i1
    obtain ⟨c0, -, -, -, -⟩ := (HH.out.aft HA2.out).cells
    go_wp2_with fail
    refine (HT.out _ HA2.out).mono ?_
    rintro e w3 ⟨rfl, a3⟩
    have a4 := a3.alloc (.cells #[.string X, .string Y] 28)
    have HA4 := Lib.hid (HA2.out.trans a4)
    have HR4 := Lib.hid (HR2.out.aft a4)
    have HF4 := Lib.hid (HF2.out.aft a4)
    have HF20 : Hid (FKB (w3.alloc (.cells #[.string X, .string Y] 28)) w3.heap.size X Y) := Lib.hid (heap_alloc_new w3 _)
    clear a3 a4 c0 HA2 HR2 HF2 HT
    go_upto_region 18 with fail
    generalize w3.heap.size = g20 at HF20 ⊢
    generalize w3.alloc (.cells #[.string X, .string Y] 28) = W4 at HA4 HR4 HF4 HF20 ⊢
    have HA5 := Lib.hid (aftCell9 HA4.out HG19.out.1 0 (.string X))
    have HR5 := Lib.hid (HR4.out.far HG19.out.2 0 (.string X))
    have HF5 := Lib.hid (HF4.out.put0 X)
    obtain ⟨x0, x1, xf⟩ := HF20.out.cells
    obtain ⟨y0, y1, yf⟩ := HF4.out.cells
    have yf0 := yf 0
    clear xf yf HA4 HR4 HF4 HF20
    go_upto_region 24 with fail
    clear x0 x1 y0 y1 yf0
    generalize W4.setCell ⟨g19, 0, none⟩ (.string X) = W5 at HA5 HR5 HF5 ⊢
    go_wp2_with fail
    refine (HTY.out _ HA5.out).mono ?_
    rintro e w6 ⟨⟨S2, t2, rfl, -⟩, a6⟩
    have hf6 := HF5.out.aft a6
    have HA7 := Lib.hid (aftCell9 (HA5.out.trans a6) HG19.out.1 1 (.string S2))
    have HR7 := Lib.hid ((HR5.out.aft a6).far HG19.out.2 1 (.string S2))
    have HF7 := Lib.hid (hf6.put1 S2)
    obtain ⟨y0, y1, yf⟩ := hf6.cells
    have yf1 := yf 1
    clear yf hf6 a6 HA5 HR5 HF5 HTY
    go_upto_region 25 with fail
    clear y0 y1 yf1
    generalize w6.setCell ⟨g19, 1, none⟩ (.string S2) = W7 at HA7 HR7 HF7 ⊢
    go_wp2_with (refine wpList_store_rowTo rfl 57 (.tmp 6) (.tmp 118) rfl rfl g6 #[.string ⟨#[]⟩, .string ⟨#[]⟩, .int .i64 0] rfl rfl _ _ HR7.out (rwsz ⟨#[]⟩ ⟨#[]⟩ 0) rfl (rwone ⟨#[]⟩ ⟨#[]⟩ 0) ?_)
    have HRz := Lib.hid (HR7.out.row ⟨#[]⟩ ⟨#[]⟩ 0)
    have HAz := Lib.hid (aftRow9 HA7.out (Nat.le_of_eq HG6.out) #[.string ⟨#[]⟩, .string ⟨#[]⟩, .int .i64 0])
    generalize W7.setRow g6 #[.string ⟨#[]⟩, .string ⟨#[]⟩, .int .i64 0] = Wz at HRz HAz ⊢
    obtain ⟨z0, z1, z2⟩ := HRz.out.cells
    refine bodyPost_ret (v := .tuple #[.agg #[.string ⟨#[]⟩, .string ⟨#[]⟩, .int .i64 0], .int .i64 0, .int .i64 E]) (by simp [results, Tryd.results72, asAddr, go_sem, z0, z1, z2]) rfl ?_
    exact ⟨⟨_, _, _, _, rfl⟩, HAz.out⟩
  · have q1 : ¬ ((c.toNat : Int) ≥ 128) := by omega
    have q2 : ¬ ((c.toNat : Int) ≥ 64) := by omega
    have q3 : ¬ ((c.toNat : Int) ≥ 16) := by omega
    clear k1
    go_enter Tryd.func72, Tryd.ntmps72
    go_upto_region 2 with fail
    obtain ⟨g6, hg6⟩ : ∃ g6, w.heap.size = g6 := ⟨_, rfl⟩
    rw [hg6] at HR ⊢
    have HG6 := Lib.hid hg6
    generalize w.alloc (.cells #[.string ⟨#[]⟩, .string ⟨#[]⟩, .int .i64 0] 57) = W1 at HA HR hx ⊢
    clear hg6
    go_wp2_with fail
    refine (HG.out _ HA.out).mono ?_
    rintro e w9 ⟨rfl, rfl⟩
    go_upto_region 16 with fail
    have HA2 : Hid (Aft w (W1.alloc (.cells #[.string ⟨#[]⟩, .string ⟨#[]⟩] 28))) := Lib.hid (HA.out.alloc _)
    have HR2 : Hid (RWB (W1.alloc (.cells #[.string ⟨#[]⟩, .string ⟨#[]⟩] 28)) g6 ⟨#[]⟩ ⟨#[]⟩ 0) := Lib.hid (HR.out.aft ((Aft.refl W1).alloc _))
    have HF2 : Hid (FKB (W1.alloc (.cells #[.string ⟨#[]⟩, .string ⟨#[]⟩] 28)) W1.heap.size ⟨#[]⟩ ⟨#[]⟩) := Lib.hid (heap_alloc_new W1 _)
    have HG19 : Hid (w.heap.size ≤ W1.heap.size ∧ W1.heap.size ≠ g6) := Lib.hid ⟨HA.out.to.size, fun e => by have h1 := lt_of_heap HR.out; omega⟩
    generalize W1.heap.size = g19 at HF2 HG19 ⊢
    generalize W1.alloc (.cells #[.string ⟨#[]⟩, .string ⟨#[]⟩] 28) = W2 at HA2 HR2 HF2 ⊢
    clear HA HR hx HG i1
    obtain ⟨c0, -, -, -, -⟩ := (HH.out.aft HA2.out).cells
    go_wp2_with fail
    refine (HT.out _ HA2.out).mono ?_
    rintro e w3 ⟨rfl, a3⟩
    have a4 := a3.alloc (.cells #[.string X, .string Y] 28)
    have HA4 := Lib.hid (HA2.out.trans a4)
    have HR4 := Lib.hid (HR2.out.aft a4)
    have HF4 := Lib.hid (HF2.out.aft a4)
    have HF20 : Hid (FKB (w3.alloc (.cells #[.string X, .string Y] 28)) w3.heap.size X Y) := Lib.hid (heap_alloc_new w3 _)
    clear a3 a4 c0 HA2 HR2 HF2 HT
    go_upto_region 18 with fail
    generalize w3.heap.size = g20 at HF20 ⊢
    generalize w3.alloc (.cells #[.string X, .string Y] 28) = W4 at HA4 HR4 HF4 HF20 ⊢
    have HA5 := Lib.hid (aftCell9 HA4.out HG19.out.1 0 (.string X))
    have HR5 := Lib.hid (HR4.out.far HG19.out.2 0 (.string X))
    have HF5 := Lib.hid (HF4.out.put0 X)
    obtain ⟨x0, x1, xf⟩ := HF20.out.cells
    obtain ⟨y0, y1, yf⟩ := HF4.out.cells
    have yf0 := yf 0
    clear xf yf HA4 HR4 HF4 HF20
    go_upto_region 24 with fail
    clear x0 x1 y0 y1 yf0
    generalize W4.setCell ⟨g19, 0, none⟩ (.string X) = W5 at HA5 HR5 HF5 ⊢
    go_wp2_with fail
    refine (HTY.out _ HA5.out).mono ?_
    rintro e w6 ⟨⟨S2, t2, rfl, -⟩, a6⟩
    have hf6 := HF5.out.aft a6
    have HA7 := Lib.hid (aftCell9 (HA5.out.trans a6) HG19.out.1 1 (.string S2))
    have HR7 := Lib.hid ((HR5.out.aft a6).far HG19.out.2 1 (.string S2))
    have HF7 := Lib.hid (hf6.put1 S2)
    obtain ⟨y0, y1, yf⟩ := hf6.cells
    have yf1 := yf 1
    clear yf hf6 a6 HA5 HR5 HF5 HTY
    go_upto_region 25 with fail
    clear y0 y1 yf1
    generalize w6.setCell ⟨g19, 1, none⟩ (.string S2) = W7 at HA7 HR7 HF7 ⊢
    go_wp2_with (refine wpList_store_rowTo rfl 57 (.tmp 6) (.tmp 118) rfl rfl g6 #[.string ⟨#[]⟩, .string ⟨#[]⟩, .int .i64 0] rfl rfl _ _ HR7.out (rwsz ⟨#[]⟩ ⟨#[]⟩ 0) rfl (rwone ⟨#[]⟩ ⟨#[]⟩ 0) ?_)
    have HRz := Lib.hid (HR7.out.row ⟨#[]⟩ ⟨#[]⟩ 0)
    have HAz := Lib.hid (aftRow9 HA7.out (Nat.le_of_eq HG6.out) #[.string ⟨#[]⟩, .string ⟨#[]⟩, .int .i64 0])
    generalize W7.setRow g6 #[.string ⟨#[]⟩, .string ⟨#[]⟩, .int .i64 0] = Wz at HRz HAz ⊢
    obtain ⟨z0, z1, z2⟩ := HRz.out.cells
    refine bodyPost_ret (v := .tuple #[.agg #[.string ⟨#[]⟩, .string ⟨#[]⟩, .int .i64 0], .int .i64 0, .int .i64 E]) (by simp [results, Tryd.results72, asAddr, go_sem, z0, z1, z2]) rfl ?_
    exact ⟨⟨_, _, _, _, rfl⟩, HAz.out⟩
set_option linter.unusedSimpArgs false in
set_option maxHeartbeats 16000000 in
set_option maxRecDepth 100000 in
theorem rurow_val_t {w : World} {B gp g : Nat} {vo : Value} {l : List FieldL} {m top list : Int} {bad : Bool} {pb off cap : Nat} {b : List UInt8} {at_ : Nat} (h : RUn w B gp g vo l m top list bad) (hb : Rb w (.slice (some ⟨pb, off, none⟩) b.length cap) b) (hlen : b.length ≤ 1000000) (hl : l.length ≤ 1000000) (c : UInt8) (hc : b[at_]? = some c) (bits : Nat) (how : Int) (hk : RK c bits how) (i t1 : Nat) (hg : getL b at_ bits = (i, t1, 0)) (N : List UInt8) (t3 : Nat) (hi : i = 0) (hn : textU b t1 = (N, t3, 0)) (E : Int) (hE : E ≠ 0) (ht : (textU b t3).2.2 = E) :
    Calls Tryd.prog 72 #[.pointer (some ⟨gp, 0, none⟩), .slice (some ⟨pb, off, none⟩) b.length cap, .int .i64 (at_ : Int)] w fun e w' => RrNo w E e w' := by
  have hat : at_ < b.length := (List.getElem?_eq_some_iff.1 hc).1
  have HH := Lib.hid h
  have HB := Lib.hid hb
  have i1 : (at_ : Int) < (b.length : Int) := by omega
  have HA : Hid (Aft w (w.alloc (.cells #[.string ⟨#[]⟩, .string ⟨#[]⟩, .int .i64 0] 57))) := Lib.hid ((Aft.refl w).alloc _)
  have HR : Hid (RWB (w.alloc (.cells #[.string ⟨#[]⟩, .string ⟨#[]⟩, .int .i64 0] 57)) w.heap.size ⟨#[]⟩ ⟨#[]⟩ 0) := Lib.hid (heap_alloc_new w _)
  have hx := (HB.out.aft HA.out).cellAt hc
  have HG := Lib.hid (fun w' (a : Aft w w') => rpget_any (some ⟨pb, off, none⟩) cap b at_ bits w' (HB.out.aft a) (by omega) (by omega) hk.bits)
  have hgt := getL_to (b := b) (at_ := at_) (n := bits) (by have := hk.bits; omega) (by rw [hg])
  unfold getV at HG
  rw [hg] at HG hgt
  simp only at HG hgt
  have HTX := Lib.hid (fun w' (a : Aft w w') => rutext_any (some ⟨pb, off, none⟩) cap b t1 w' (HB.out.aft a) hlen)
  have HTY := Lib.hid (fun w' (a : Aft w w') => rutext_any (some ⟨pb, off, none⟩) cap b t3 w' (HB.out.aft a) hlen)
  unfold TxPost at HTX HTY
  obtain ⟨NB, hNB⟩ : ∃ B : ByteArray, (⟨N.toArray⟩ : ByteArray) = B := ⟨_, rfl⟩
  rw [hn] at HTX
  simp only at HTX
  rw [hNB] at HTX
  have i4 : ¬ (i : Int) > 0 := by omega
  rw [ht] at HTY
  have i5 : (E != 0) = true := by simpa using hE
  unfold RK at hk
  clear h hb hlen hl hc hat hg hgt ht hE hi hn hNB
  rcases hk with ⟨k1, k2, rfl, rfl⟩ | ⟨k1, k2, rfl, rfl⟩ | ⟨k1, rfl, rfl⟩
  · have q1 : ¬ ((c.toNat : Int) ≥ 128) := by omega
    have q2 : (c.toNat : Int) ≥ 64 := by omega
    clear k1 k2
    go_enter Tryd.func72, Tryd.ntmps72
    go_upto_region 2 with fail
    obtain ⟨g6, hg6⟩ : ∃ g6, w.heap.size = g6 := ⟨_, rfl⟩
    rw [hg6] at HR ⊢
    have HG6 := Lib.hid hg6
    generalize w.alloc (.cells #[.string ⟨#[]⟩, .string ⟨#[]⟩, .int .i64 0] 57) = W1 at HA HR hx ⊢
    clear hg6
    go_wp2_with fail
    refine (HG.out _ HA.out).mono ?_
    rintro e w9 ⟨rfl, rfl⟩
    go_upto_region 16 with fail
    have HA2 : Hid (Aft w (W1.alloc (.cells #[.string ⟨#[]⟩, .string ⟨#[]⟩] 28))) := Lib.hid (HA.out.alloc _)
    have HR2 : Hid (RWB (W1.alloc (.cells #[.string ⟨#[]⟩, .string ⟨#[]⟩] 28)) g6 ⟨#[]⟩ ⟨#[]⟩ 0) := Lib.hid (HR.out.aft ((Aft.refl W1).alloc _))
    have HF2 : Hid (FKB (W1.alloc (.cells #[.string ⟨#[]⟩, .string ⟨#[]⟩] 28)) W1.heap.size ⟨#[]⟩ ⟨#[]⟩) := Lib.hid (heap_alloc_new W1 _)
    have HG19 : Hid (w.heap.size ≤ W1.heap.size ∧ W1.heap.size ≠ g6) := Lib.hid ⟨HA.out.to.size, fun e => by have h1 := lt_of_heap HR.out; omega⟩
    generalize W1.heap.size = g19 at HF2 HG19 ⊢
    generalize W1.alloc (.cells #[.string ⟨#[]⟩, .string ⟨#[]⟩] 28) = W2 at HA2 HR2 HF2 ⊢
    clear HA HR hx HG i1
    obtain ⟨c0, -, -, -, -⟩ := (HH.out.aft HA2.out).cells
    go_wp2_with fail
    refine (HTX.out _ HA2.out).mono ?_
    rintro e w3 ⟨⟨S, t, rfl, hS⟩, a3⟩
    obtain ⟨rfl, rfl⟩ := hS (by simp)
    have hf3 := HF2.out.aft a3
    have HA4 := Lib.hid (aftCell9 (HA2.out.trans a3) HG19.out.1 0 (.string NB))
    have HR4 := Lib.hid ((HR2.out.aft a3).far HG19.out.2 0 (.string NB))
    have HF4 := Lib.hid (hf3.put0 NB)
    obtain ⟨y0, y1, yf⟩ := hf3.cells
    have yf0 := yf 0
    clear yf hf3 a3 c0 HA2 HR2 HF2 HTX
    go_upto_region 22 with fail
    clear y0 y1 yf0
    generalize w3.setCell ⟨g19, 0, none⟩ (.string NB) = W4 at HA4 HR4 HF4 ⊢
    go_upto_region 24 with fail
    have HA5 := HA4
    have HR5 := HR4
    have HF5 := HF4
    clear HA4 HR4 HF4
    go_wp2_with fail
    refine (HTY.out _ HA5.out).mono ?_
    rintro e w6 ⟨⟨S2, t2, rfl, -⟩, a6⟩
    have hf6 := HF5.out.aft a6
    have HA7 := Lib.hid (aftCell9 (HA5.out.trans a6) HG19.out.1 1 (.string S2))
    have HR7 := Lib.hid ((HR5.out.aft a6).far HG19.out.2 1 (.string S2))
    have HF7 := Lib.hid (hf6.put1 S2)
    obtain ⟨y0, y1, yf⟩ := hf6.cells
    have yf1 := yf 1
    clear yf hf6 a6 HA5 HR5 HF5 HTY
    go_upto_region 25 with fail
    clear y0 y1 yf1
    generalize w6.setCell ⟨g19, 1, none⟩ (.string S2) = W7 at HA7 HR7 HF7 ⊢
    go_wp2_with (refine wpList_store_rowTo rfl 57 (.tmp 6) (.tmp 118) rfl rfl g6 #[.string ⟨#[]⟩, .string ⟨#[]⟩, .int .i64 0] rfl rfl _ _ HR7.out (rwsz ⟨#[]⟩ ⟨#[]⟩ 0) rfl (rwone ⟨#[]⟩ ⟨#[]⟩ 0) ?_)
    have HRz := Lib.hid (HR7.out.row ⟨#[]⟩ ⟨#[]⟩ 0)
    have HAz := Lib.hid (aftRow9 HA7.out (Nat.le_of_eq HG6.out) #[.string ⟨#[]⟩, .string ⟨#[]⟩, .int .i64 0])
    generalize W7.setRow g6 #[.string ⟨#[]⟩, .string ⟨#[]⟩, .int .i64 0] = Wz at HRz HAz ⊢
    obtain ⟨z0, z1, z2⟩ := HRz.out.cells
    refine bodyPost_ret (v := .tuple #[.agg #[.string ⟨#[]⟩, .string ⟨#[]⟩, .int .i64 0], .int .i64 0, .int .i64 E]) (by simp [results, Tryd.results72, asAddr, go_sem, z0, z1, z2]) rfl ?_
    exact ⟨⟨_, _, _, _, rfl⟩, HAz.out⟩
  · have q1 : ¬ ((c.toNat : Int) ≥ 128) := by omega
    have q2 : ¬ ((c.toNat : Int) ≥ 64) := by omega
    have q3 : (c.toNat : Int) ≥ 16 := by omega
    clear k1 k2
    go_enter Tryd.func72, Tryd.ntmps72
    go_upto_region 2 with fail
    obtain ⟨g6, hg6⟩ : ∃ g6, w.heap.size = g6 := ⟨_, rfl⟩
    rw [hg6] at HR ⊢
    have HG6 := Lib.hid hg6
    generalize w.alloc (.cells #[.string ⟨#[]⟩, .string ⟨#[]⟩, .int .i64 0] 57) = W1 at HA HR hx ⊢
    clear hg6
    go_wp2_with fail
    refine (HG.out _ HA.out).mono ?_
    rintro e w9 ⟨rfl, rfl⟩
    go_upto_region 16 with fail
    have HA2 : Hid (Aft w (W1.alloc (.cells #[.string ⟨#[]⟩, .string ⟨#[]⟩] 28))) := Lib.hid (HA.out.alloc _)
    have HR2 : Hid (RWB (W1.alloc (.cells #[.string ⟨#[]⟩, .string ⟨#[]⟩] 28)) g6 ⟨#[]⟩ ⟨#[]⟩ 0) := Lib.hid (HR.out.aft ((Aft.refl W1).alloc _))
    have HF2 : Hid (FKB (W1.alloc (.cells #[.string ⟨#[]⟩, .string ⟨#[]⟩] 28)) W1.heap.size ⟨#[]⟩ ⟨#[]⟩) := Lib.hid (heap_alloc_new W1 _)
    have HG19 : Hid (w.heap.size ≤ W1.heap.size ∧ W1.heap.size ≠ g6) := Lib.hid ⟨HA.out.to.size, fun e => by have h1 := lt_of_heap HR.out; omega⟩
    generalize W1.heap.size = g19 at HF2 HG19 ⊢
    generalize W1.alloc (.cells #[.string ⟨#[]⟩, .string ⟨#[]⟩] 28) = W2 at HA2 HR2 HF2 ⊢
    clear HA HR hx HG i1
    obtain ⟨c0, -, -, -, -⟩ := (HH.out.aft HA2.out).cells
    go_wp2_with fail
    refine (HTX.out _ HA2.out).mono ?_
    rintro e w3 ⟨⟨S, t, rfl, hS⟩, a3⟩
    obtain ⟨rfl, rfl⟩ := hS (by simp)
    have hf3 := HF2.out.aft a3
    have HA4 := Lib.hid (aftCell9 (HA2.out.trans a3) HG19.out.1 0 (.string NB))
    have HR4 := Lib.hid ((HR2.out.aft a3).far HG19.out.2 0 (.string NB))
    have HF4 := Lib.hid (hf3.put0 NB)
    obtain ⟨y0, y1, yf⟩ := hf3.cells
    have yf0 := yf 0
    clear yf hf3 a3 c0 HA2 HR2 HF2 HTX
    go_upto_region 22 with fail
    clear y0 y1 yf0
    generalize w3.setCell ⟨g19, 0, none⟩ (.string NB) = W4 at HA4 HR4 HF4 ⊢
    go_upto_region 24 with fail
    have HA5 := HA4
    have HR5 := HR4
    have HF5 := HF4
    clear HA4 HR4 HF4
    go_wp2_with fail
    refine (HTY.out _ HA5.out).mono ?_
    rintro e w6 ⟨⟨S2, t2, rfl, -⟩, a6⟩
    have hf6 := HF5.out.aft a6
    have HA7 := Lib.hid (aftCell9 (HA5.out.trans a6) HG19.out.1 1 (.string S2))
    have HR7 := Lib.hid ((HR5.out.aft a6).far HG19.out.2 1 (.string S2))
    have HF7 := Lib.hid (hf6.put1 S2)
    obtain ⟨y0, y1, yf⟩ := hf6.cells
    have yf1 := yf 1
    clear yf hf6 a6 HA5 HR5 HF5 HTY
    go_upto_region 25 with fail
    clear y0 y1 yf1
    generalize w6.setCell ⟨g19, 1, none⟩ (.string S2) = W7 at HA7 HR7 HF7 ⊢
    go_wp2_with (refine wpList_store_rowTo rfl 57 (.tmp 6) (.tmp 118) rfl rfl g6 #[.string ⟨#[]⟩, .string ⟨#[]⟩, .int .i64 0] rfl rfl _ _ HR7.out (rwsz ⟨#[]⟩ ⟨#[]⟩ 0) rfl (rwone ⟨#[]⟩ ⟨#[]⟩ 0) ?_)
    have HRz := Lib.hid (HR7.out.row ⟨#[]⟩ ⟨#[]⟩ 0)
    have HAz := Lib.hid (aftRow9 HA7.out (Nat.le_of_eq HG6.out) #[.string ⟨#[]⟩, .string ⟨#[]⟩, .int .i64 0])
    generalize W7.setRow g6 #[.string ⟨#[]⟩, .string ⟨#[]⟩, .int .i64 0] = Wz at HRz HAz ⊢
    obtain ⟨z0, z1, z2⟩ := HRz.out.cells
    refine bodyPost_ret (v := .tuple #[.agg #[.string ⟨#[]⟩, .string ⟨#[]⟩, .int .i64 0], .int .i64 0, .int .i64 E]) (by simp [results, Tryd.results72, asAddr, go_sem, z0, z1, z2]) rfl ?_
    exact ⟨⟨_, _, _, _, rfl⟩, HAz.out⟩
  · have q1 : ¬ ((c.toNat : Int) ≥ 128) := by omega
    have q2 : ¬ ((c.toNat : Int) ≥ 64) := by omega
    have q3 : ¬ ((c.toNat : Int) ≥ 16) := by omega
    clear k1
    go_enter Tryd.func72, Tryd.ntmps72
    go_upto_region 2 with fail
    obtain ⟨g6, hg6⟩ : ∃ g6, w.heap.size = g6 := ⟨_, rfl⟩
    rw [hg6] at HR ⊢
    have HG6 := Lib.hid hg6
    generalize w.alloc (.cells #[.string ⟨#[]⟩, .string ⟨#[]⟩, .int .i64 0] 57) = W1 at HA HR hx ⊢
    clear hg6
    go_wp2_with fail
    refine (HG.out _ HA.out).mono ?_
    rintro e w9 ⟨rfl, rfl⟩
    go_upto_region 16 with fail
    have HA2 : Hid (Aft w (W1.alloc (.cells #[.string ⟨#[]⟩, .string ⟨#[]⟩] 28))) := Lib.hid (HA.out.alloc _)
    have HR2 : Hid (RWB (W1.alloc (.cells #[.string ⟨#[]⟩, .string ⟨#[]⟩] 28)) g6 ⟨#[]⟩ ⟨#[]⟩ 0) := Lib.hid (HR.out.aft ((Aft.refl W1).alloc _))
    have HF2 : Hid (FKB (W1.alloc (.cells #[.string ⟨#[]⟩, .string ⟨#[]⟩] 28)) W1.heap.size ⟨#[]⟩ ⟨#[]⟩) := Lib.hid (heap_alloc_new W1 _)
    have HG19 : Hid (w.heap.size ≤ W1.heap.size ∧ W1.heap.size ≠ g6) := Lib.hid ⟨HA.out.to.size, fun e => by have h1 := lt_of_heap HR.out; omega⟩
    generalize W1.heap.size = g19 at HF2 HG19 ⊢
    generalize W1.alloc (.cells #[.string ⟨#[]⟩, .string ⟨#[]⟩] 28) = W2 at HA2 HR2 HF2 ⊢
    clear HA HR hx HG i1
    obtain ⟨c0, -, -, -, -⟩ := (HH.out.aft HA2.out).cells
    go_wp2_with fail
    refine (HTX.out _ HA2.out).mono ?_
    rintro e w3 ⟨⟨S, t, rfl, hS⟩, a3⟩
    obtain ⟨rfl, rfl⟩ := hS (by simp)
    have hf3 := HF2.out.aft a3
    have HA4 := Lib.hid (aftCell9 (HA2.out.trans a3) HG19.out.1 0 (.string NB))
    have HR4 := Lib.hid ((HR2.out.aft a3).far HG19.out.2 0 (.string NB))
    have HF4 := Lib.hid (hf3.put0 NB)
    obtain ⟨y0, y1, yf⟩ := hf3.cells
    have yf0 := yf 0
    clear yf hf3 a3 c0 HA2 HR2 HF2 HTX
    go_upto_region 22 with fail
    clear y0 y1 yf0
    generalize w3.setCell ⟨g19, 0, none⟩ (.string NB) = W4 at HA4 HR4 HF4 ⊢
    go_upto_region 24 with fail
    have HA5 := HA4
    have HR5 := HR4
    have HF5 := HF4
    clear HA4 HR4 HF4
    go_wp2_with fail
    refine (HTY.out _ HA5.out).mono ?_
    rintro e w6 ⟨⟨S2, t2, rfl, -⟩, a6⟩
    have hf6 := HF5.out.aft a6
    have HA7 := Lib.hid (aftCell9 (HA5.out.trans a6) HG19.out.1 1 (.string S2))
    have HR7 := Lib.hid ((HR5.out.aft a6).far HG19.out.2 1 (.string S2))
    have HF7 := Lib.hid (hf6.put1 S2)
    obtain ⟨y0, y1, yf⟩ := hf6.cells
    have yf1 := yf 1
    clear yf hf6 a6 HA5 HR5 HF5 HTY
    go_upto_region 25 with fail
    clear y0 y1 yf1
    generalize w6.setCell ⟨g19, 1, none⟩ (.string S2) = W7 at HA7 HR7 HF7 ⊢
    go_wp2_with (refine wpList_store_rowTo rfl 57 (.tmp 6) (.tmp 118) rfl rfl g6 #[.string ⟨#[]⟩, .string ⟨#[]⟩, .int .i64 0] rfl rfl _ _ HR7.out (rwsz ⟨#[]⟩ ⟨#[]⟩ 0) rfl (rwone ⟨#[]⟩ ⟨#[]⟩ 0) ?_)
    have HRz := Lib.hid (HR7.out.row ⟨#[]⟩ ⟨#[]⟩ 0)
    have HAz := Lib.hid (aftRow9 HA7.out (Nat.le_of_eq HG6.out) #[.string ⟨#[]⟩, .string ⟨#[]⟩, .int .i64 0])
    generalize W7.setRow g6 #[.string ⟨#[]⟩, .string ⟨#[]⟩, .int .i64 0] = Wz at HRz HAz ⊢
    obtain ⟨z0, z1, z2⟩ := HRz.out.cells
    refine bodyPost_ret (v := .tuple #[.agg #[.string ⟨#[]⟩, .string ⟨#[]⟩, .int .i64 0], .int .i64 0, .int .i64 E]) (by simp [results, Tryd.results72, asAddr, go_sem, z0, z1, z2]) rfl ?_
    exact ⟨⟨_, _, _, _, rfl⟩, HAz.out⟩
/-- A row that is read. -/
def RrOk (w : World) (B gp g : Nat) (vo : Value) (top list : Int) (bad : Bool) (m : Int) (f : FieldL) (how : Int) (t4 : Nat) (l' : List FieldL) (e : Ending) (w' : World) : Prop :=
  ∃ vo' : Value, e = .returned (.tuple #[.agg #[.string ⟨f.1.toArray⟩, .string ⟨f.2.toArray⟩, .int .i64 how], .int .i64 (t4 : Int), .int .i64 0]) ∧ RUn w' B gp g vo' l' m top list bad ∧ Chg (TP g vo) w w' ∧ ∀ k, vo'.ownBlock = some k → vo.ownBlock = some k ∨ w.heap.size ≤ k
theorem RUn.setRow {w : World} {B gp g : Nat} {vo : Value} {l : List FieldL} {m top list : Int} {bad : Bool} (h : RUn w B gp g vo l m top list bad) {g6 : Nat} (h1 : gp ≠ g6) (h2 : g ≠ g6) (h3 : ∀ k, vo.ownBlock = some k → k ≠ g6) (R : Array Value) : RUn (w.setRow g6 R) B gp g vo l m top list bad :=
  h.chg (p := fun k => k = g6) ((Chg.refl _ w).row g6 R (Or.inl rfl)) h1 h2 h3
set_option linter.unusedSimpArgs false in
set_option maxHeartbeats 16000000 in
set_option maxRecDepth 100000 in
theorem rurow_oth_k {w : World} {B gp g : Nat} {vo : Value} {l : List FieldL} {m top list : Int} {bad : Bool} {pb off cap : Nat} {b : List UInt8} {at_ : Nat} (h : RUn w B gp g vo l m top list bad) (hb : Rb w (.slice (some ⟨pb, off, none⟩) b.length cap) b) (hlen : b.length ≤ 1000000) (hl : l.length ≤ 1000000) (c : UInt8) (hc : b[at_]? = some c) (bits : Nat) (how : Int) (hk : RK c bits how) (hh : how ≠ 1) (i t1 : Nat) (hg : getL b at_ bits = (i, t1, 0)) (N : List UInt8) (t3 : Nat) (hi : 0 < i) (hn : getB l i = true) (hN : N = (getF l i).1) (h3 : t3 = t1) (V : List UInt8) (t4 : Nat) (ht : textU b t3 = (V, t4, 0)) :
    Calls Tryd.prog 72 #[.pointer (some ⟨gp, 0, none⟩), .slice (some ⟨pb, off, none⟩) b.length cap, .int .i64 (at_ : Int)] w fun e w' => RrOk w B gp g vo top list bad m (N, V) how t4 l e w' := by
  have hat : at_ < b.length := (List.getElem?_eq_some_iff.1 hc).1
  have HH := Lib.hid h
  have HB := Lib.hid hb
  have i1 : (at_ : Int) < (b.length : Int) := by omega
  have HA : Hid (Aft w (w.alloc (.cells #[.string ⟨#[]⟩, .string ⟨#[]⟩, .int .i64 0] 57))) := Lib.hid ((Aft.refl w).alloc _)
  have HR : Hid (RWB (w.alloc (.cells #[.string ⟨#[]⟩, .string ⟨#[]⟩, .int .i64 0] 57)) w.heap.size ⟨#[]⟩ ⟨#[]⟩ 0) := Lib.hid (heap_alloc_new w _)
  have hx := (HB.out.aft HA.out).cellAt hc
  have HG := Lib.hid (fun w' (a : Aft w w') => rpget_any (some ⟨pb, off, none⟩) cap b at_ bits w' (HB.out.aft a) (by omega) (by omega) hk.bits)
  have hgt := getL_to (b := b) (at_ := at_) (n := bits) (by have := hk.bits; omega) (by rw [hg])
  unfold getV at HG
  rw [hg] at HG hgt
  simp only at HG hgt
  have HT := Lib.hid (fun w' (a : Aft w w') => rget_any (i : Int) (by omega) (by omega) (HH.out.aft a).t hl)
  obtain ⟨⟨f1, f2⟩, hf⟩ : ∃ q, getF l i = q := ⟨_, rfl⟩
  rw [hf] at HT
  unfold fieldV at HT
  simp only at HT
  obtain ⟨X, hX⟩ : ∃ B : ByteArray, (⟨f1.toArray⟩ : ByteArray) = B := ⟨_, rfl⟩
  obtain ⟨Y, hY⟩ : ∃ B : ByteArray, (⟨f2.toArray⟩ : ByteArray) = B := ⟨_, rfl⟩
  rw [hX, hY] at HT
  have HTX := Lib.hid (fun w' (a : Aft w w') => rutext_any (some ⟨pb, off, none⟩) cap b t1 w' (HB.out.aft a) hlen)
  have HTY := Lib.hid (fun w' (a : Aft w w') => rutext_any (some ⟨pb, off, none⟩) cap b t3 w' (HB.out.aft a) hlen)
  unfold TxPost at HTX HTY
  obtain ⟨NB, hNB⟩ : ∃ B : ByteArray, (⟨N.toArray⟩ : ByteArray) = B := ⟨_, rfl⟩
  rw [hn] at HT
  rw [hf] at hN
  simp only at hN
  subst hN h3
  rw [hX] at hNB
  subst hNB
  have i4 : (i : Int) > 0 := by omega
  rw [ht] at HTY
  simp only at HTY
  obtain ⟨VB, hVB⟩ : ∃ B : ByteArray, (⟨V.toArray⟩ : ByteArray) = B := ⟨_, rfl⟩
  rw [hVB] at HTY
  unfold RrOk
  simp only
  rw [hX, hVB]
  unfold RK at hk
  clear h hb hlen hl hc hat hg hgt ht hi hn hf hY HTX hVB hX
  rcases hk with ⟨k1, k2, rfl, rfl⟩ | ⟨k1, k2, rfl, rfl⟩ | ⟨k1, rfl, rfl⟩
  · exact absurd rfl hh
  · have q1 : ¬ ((c.toNat : Int) ≥ 128) := by omega
    have q2 : ¬ ((c.toNat : Int) ≥ 64) := by omega
    have q3 : (c.toNat : Int) ≥ 16 := by omega
    clear k1 k2
    clear hh
    go_enter Tryd.func72, Tryd.ntmps72
    go_upto_region 2 with fail
    obtain ⟨g6, hg6⟩ : ∃ g6, w.heap.size = g6 := ⟨_, rfl⟩
    rw [hg6] at HR ⊢
    have HG6 := Lib.hid hg6
    generalize w.alloc (.cells #[.string ⟨#[]⟩, .string ⟨#[]⟩, .int .i64 0] 57) = W1 at HA HR hx ⊢
    clear hg6
    go_wp2_with fail
    refine (HG.out _ HA.out).mono ?_
    rintro e w9 ⟨rfl, rfl⟩
    go_upto_region 16 with fail
    have HA2 : Hid (Aft w (W1.alloc (.cells #[.string ⟨#[]⟩, .string ⟨#[]⟩] 28))) := Lib.hid (HA.out.alloc _)
    have HR2 : Hid (RWB (W1.alloc (.cells #[.string ⟨#[]⟩, .string ⟨#[]⟩] 28)) g6 ⟨#[]⟩ ⟨#[]⟩ 0) := Lib.hid (HR.out.aft ((Aft.refl W1).alloc _))
    have HF2 : Hid (FKB (W1.alloc (.cells #[.string ⟨#[]⟩, .string ⟨#[]⟩] 28)) W1.heap.size ⟨#[]⟩ ⟨#[]⟩) := Lib.hid (heap_alloc_new W1 _)
    have HG19 : Hid (w.heap.size ≤ W1.heap.size ∧ W1.heap.size ≠ g6) := Lib.hid ⟨HA.out.to.size, fun e => by have h1 := lt_of_heap HR.out; omega⟩
    generalize W1.heap.size = g19 at HF2 HG19 ⊢
    generalize W1.alloc (.cells #[.string ⟨#[]⟩, .string ⟨#[]⟩] 28) = W2 at HA2 HR2 HF2 ⊢
    clear HA HR hx HG i1
    obtain ⟨c0, -, -, -, -⟩ := (HH.out.aft HA2.out).cells
    go_wp2_with fail
    refine (HT.out _ HA2.out).mono ?_
    rintro e w3 ⟨rfl, a3⟩
    have a4 := a3.alloc (.cells #[.string X, .string Y] 28)
    have HA4 := Lib.hid (HA2.out.trans a4)
    have HR4 := Lib.hid (HR2.out.aft a4)
    have HF4 := Lib.hid (HF2.out.aft a4)
    have HF20 : Hid (FKB (w3.alloc (.cells #[.string X, .string Y] 28)) w3.heap.size X Y) := Lib.hid (heap_alloc_new w3 _)
    clear a3 a4 c0 HA2 HR2 HF2 HT
    go_upto_region 18 with fail
    generalize w3.heap.size = g20 at HF20 ⊢
    generalize w3.alloc (.cells #[.string X, .string Y] 28) = W4 at HA4 HR4 HF4 HF20 ⊢
    have HA5 := Lib.hid (aftCell9 HA4.out HG19.out.1 0 (.string X))
    have HR5 := Lib.hid (HR4.out.far HG19.out.2 0 (.string X))
    have HF5 := Lib.hid (HF4.out.put0 X)
    obtain ⟨x0, x1, xf⟩ := HF20.out.cells
    obtain ⟨y0, y1, yf⟩ := HF4.out.cells
    have yf0 := yf 0
    clear xf yf HA4 HR4 HF4 HF20
    go_upto_region 24 with fail
    clear x0 x1 y0 y1 yf0
    generalize W4.setCell ⟨g19, 0, none⟩ (.string X) = W5 at HA5 HR5 HF5 ⊢
    go_wp2_with fail
    refine (HTY.out _ HA5.out).mono ?_
    rintro e w6 ⟨⟨S2, t2, rfl, hS2⟩, a6⟩
    obtain ⟨rfl, rfl⟩ := hS2 (by simp)
    have hf6 := HF5.out.aft a6
    have HA7 := Lib.hid (aftCell9 (HA5.out.trans a6) HG19.out.1 1 (.string VB))
    have HR7 := Lib.hid ((HR5.out.aft a6).far HG19.out.2 1 (.string VB))
    have HF7 := Lib.hid (hf6.put1 VB)
    obtain ⟨y0, y1, yf⟩ := hf6.cells
    have yf1 := yf 1
    clear yf hf6 a6 HA5 HR5 HF5 HTY
    go_upto_region 25 with fail
    clear y0 y1 yf1
    generalize w6.setCell ⟨g19, 1, none⟩ (.string VB) = W7 at HA7 HR7 HF7 ⊢
    go_wp2_with (first | (refine wpList_load_row rfl 28 (.tmp 19) rfl g19 rfl _ #[.string X, .string VB] (0, 0) _ HF7.out Tryd.underlying28 rfl (fsz X VB) ?_) | (refine wpList_store_rowTo rfl 57 (.tmp 6) (.tmp 130) rfl rfl g6 #[.string X, .string VB, .int .i64 3] rfl rfl _ _ HR7.out (rwsz X VB 3) rfl (rwone X VB 3) ?_))
    have HRz := Lib.hid (HR7.out.row X VB 3)
    have HAz := Lib.hid (aftRow9 HA7.out (Nat.le_of_eq HG6.out) #[.string X, .string VB, .int .i64 3])
    generalize W7.setRow g6 #[.string X, .string VB, .int .i64 3] = Wz at HRz HAz ⊢
    obtain ⟨z0, z1, z2⟩ := HRz.out.cells
    refine bodyPost_ret (v := .tuple #[.agg #[.string X, .string VB, .int .i64 3], .int .i64 (t4 : Int), .int .i64 0]) (by simp [results, Tryd.results72, asAddr, go_sem, z0, z1, z2]) rfl ?_
    exact ⟨vo, rfl, HH.out.aft HAz.out, Chg.of_aft HAz.out, fun k hk => Or.inl hk⟩
  · have q1 : ¬ ((c.toNat : Int) ≥ 128) := by omega
    have q2 : ¬ ((c.toNat : Int) ≥ 64) := by omega
    have q3 : ¬ ((c.toNat : Int) ≥ 16) := by omega
    clear k1
    clear hh
    go_enter Tryd.func72, Tryd.ntmps72
    go_upto_region 2 with fail
    obtain ⟨g6, hg6⟩ : ∃ g6, w.heap.size = g6 := ⟨_, rfl⟩
    rw [hg6] at HR ⊢
    have HG6 := Lib.hid hg6
    generalize w.alloc (.cells #[.string ⟨#[]⟩, .string ⟨#[]⟩, .int .i64 0] 57) = W1 at HA HR hx ⊢
    clear hg6
    go_wp2_with fail
    refine (HG.out _ HA.out).mono ?_
    rintro e w9 ⟨rfl, rfl⟩
    go_upto_region 16 with fail
    have HA2 : Hid (Aft w (W1.alloc (.cells #[.string ⟨#[]⟩, .string ⟨#[]⟩] 28))) := Lib.hid (HA.out.alloc _)
    have HR2 : Hid (RWB (W1.alloc (.cells #[.string ⟨#[]⟩, .string ⟨#[]⟩] 28)) g6 ⟨#[]⟩ ⟨#[]⟩ 0) := Lib.hid (HR.out.aft ((Aft.refl W1).alloc _))
    have HF2 : Hid (FKB (W1.alloc (.cells #[.string ⟨#[]⟩, .string ⟨#[]⟩] 28)) W1.heap.size ⟨#[]⟩ ⟨#[]⟩) := Lib.hid (heap_alloc_new W1 _)
    have HG19 : Hid (w.heap.size ≤ W1.heap.size ∧ W1.heap.size ≠ g6) := Lib.hid ⟨HA.out.to.size, fun e => by have h1 := lt_of_heap HR.out; omega⟩
    generalize W1.heap.size = g19 at HF2 HG19 ⊢
    generalize W1.alloc (.cells #[.string ⟨#[]⟩, .string ⟨#[]⟩] 28) = W2 at HA2 HR2 HF2 ⊢
    clear HA HR hx HG i1
    obtain ⟨c0, -, -, -, -⟩ := (HH.out.aft HA2.out).cells
    go_wp2_with fail
    refine (HT.out _ HA2.out).mono ?_
    rintro e w3 ⟨rfl, a3⟩
    have a4 := a3.alloc (.cells #[.string X, .string Y] 28)
    have HA4 := Lib.hid (HA2.out.trans a4)
    have HR4 := Lib.hid (HR2.out.aft a4)
    have HF4 := Lib.hid (HF2.out.aft a4)
    have HF20 : Hid (FKB (w3.alloc (.cells #[.string X, .string Y] 28)) w3.heap.size X Y) := Lib.hid (heap_alloc_new w3 _)
    clear a3 a4 c0 HA2 HR2 HF2 HT
    go_upto_region 18 with fail
    generalize w3.heap.size = g20 at HF20 ⊢
    generalize w3.alloc (.cells #[.string X, .string Y] 28) = W4 at HA4 HR4 HF4 HF20 ⊢
    have HA5 := Lib.hid (aftCell9 HA4.out HG19.out.1 0 (.string X))
    have HR5 := Lib.hid (HR4.out.far HG19.out.2 0 (.string X))
    have HF5 := Lib.hid (HF4.out.put0 X)
    obtain ⟨x0, x1, xf⟩ := HF20.out.cells
    obtain ⟨y0, y1, yf⟩ := HF4.out.cells
    have yf0 := yf 0
    clear xf yf HA4 HR4 HF4 HF20
    go_upto_region 24 with fail
    clear x0 x1 y0 y1 yf0
    generalize W4.setCell ⟨g19, 0, none⟩ (.string X) = W5 at HA5 HR5 HF5 ⊢
    go_wp2_with fail
    refine (HTY.out _ HA5.out).mono ?_
    rintro e w6 ⟨⟨S2, t2, rfl, hS2⟩, a6⟩
    obtain ⟨rfl, rfl⟩ := hS2 (by simp)
    have hf6 := HF5.out.aft a6
    have HA7 := Lib.hid (aftCell9 (HA5.out.trans a6) HG19.out.1 1 (.string VB))
    have HR7 := Lib.hid ((HR5.out.aft a6).far HG19.out.2 1 (.string VB))
    have HF7 := Lib.hid (hf6.put1 VB)
    obtain ⟨y0, y1, yf⟩ := hf6.cells
    have yf1 := yf 1
    clear yf hf6 a6 HA5 HR5 HF5 HTY
    go_upto_region 25 with fail
    clear y0 y1 yf1
    generalize w6.setCell ⟨g19, 1, none⟩ (.string VB) = W7 at HA7 HR7 HF7 ⊢
    go_wp2_with (first | (refine wpList_load_row rfl 28 (.tmp 19) rfl g19 rfl _ #[.string X, .string VB] (0, 0) _ HF7.out Tryd.underlying28 rfl (fsz X VB) ?_) | (refine wpList_store_rowTo rfl 57 (.tmp 6) (.tmp 130) rfl rfl g6 #[.string X, .string VB, .int .i64 2] rfl rfl _ _ HR7.out (rwsz X VB 2) rfl (rwone X VB 2) ?_))
    have HRz := Lib.hid (HR7.out.row X VB 2)
    have HAz := Lib.hid (aftRow9 HA7.out (Nat.le_of_eq HG6.out) #[.string X, .string VB, .int .i64 2])
    generalize W7.setRow g6 #[.string X, .string VB, .int .i64 2] = Wz at HRz HAz ⊢
    obtain ⟨z0, z1, z2⟩ := HRz.out.cells
    refine bodyPost_ret (v := .tuple #[.agg #[.string X, .string VB, .int .i64 2], .int .i64 (t4 : Int), .int .i64 0]) (by simp [results, Tryd.results72, asAddr, go_sem, z0, z1, z2]) rfl ?_
    exact ⟨vo, rfl, HH.out.aft HAz.out, Chg.of_aft HAz.out, fun k hk => Or.inl hk⟩
set_option linter.unusedSimpArgs false in
set_option maxHeartbeats 16000000 in
set_option maxRecDepth 100000 in
theorem rurow_oth_t {w : World} {B gp g : Nat} {vo : Value} {l : List FieldL} {m top list : Int} {bad : Bool} {pb off cap : Nat} {b : List UInt8} {at_ : Nat} (h : RUn w B gp g vo l m top list bad) (hb : Rb w (.slice (some ⟨pb, off, none⟩) b.length cap) b) (hlen : b.length ≤ 1000000) (hl : l.length ≤ 1000000) (c : UInt8) (hc : b[at_]? = some c) (bits : Nat) (how : Int) (hk : RK c bits how) (hh : how ≠ 1) (i t1 : Nat) (hg : getL b at_ bits = (i, t1, 0)) (N : List UInt8) (t3 : Nat) (hi : i = 0) (hn : textU b t1 = (N, t3, 0)) (V : List UInt8) (t4 : Nat) (ht : textU b t3 = (V, t4, 0)) :
    Calls Tryd.prog 72 #[.pointer (some ⟨gp, 0, none⟩), .slice (some ⟨pb, off, none⟩) b.length cap, .int .i64 (at_ : Int)] w fun e w' => RrOk w B gp g vo top list bad m (N, V) how t4 l e w' := by
  have hat : at_ < b.length := (List.getElem?_eq_some_iff.1 hc).1
  have HH := Lib.hid h
  have HB := Lib.hid hb
  have i1 : (at_ : Int) < (b.length : Int) := by omega
  have HA : Hid (Aft w (w.alloc (.cells #[.string ⟨#[]⟩, .string ⟨#[]⟩, .int .i64 0] 57))) := Lib.hid ((Aft.refl w).alloc _)
  have HR : Hid (RWB (w.alloc (.cells #[.string ⟨#[]⟩, .string ⟨#[]⟩, .int .i64 0] 57)) w.heap.size ⟨#[]⟩ ⟨#[]⟩ 0) := Lib.hid (heap_alloc_new w _)
  have hx := (HB.out.aft HA.out).cellAt hc
  have HG := Lib.hid (fun w' (a : Aft w w') => rpget_any (some ⟨pb, off, none⟩) cap b at_ bits w' (HB.out.aft a) (by omega) (by omega) hk.bits)
  have hgt := getL_to (b := b) (at_ := at_) (n := bits) (by have := hk.bits; omega) (by rw [hg])
  unfold getV at HG
  rw [hg] at HG hgt
  simp only at HG hgt
  have HTX := Lib.hid (fun w' (a : Aft w w') => rutext_any (some ⟨pb, off, none⟩) cap b t1 w' (HB.out.aft a) hlen)
  have HTY := Lib.hid (fun w' (a : Aft w w') => rutext_any (some ⟨pb, off, none⟩) cap b t3 w' (HB.out.aft a) hlen)
  unfold TxPost at HTX HTY
  obtain ⟨NB, hNB⟩ : ∃ B : ByteArray, (⟨N.toArray⟩ : ByteArray) = B := ⟨_, rfl⟩
  rw [hn] at HTX
  simp only at HTX
  rw [hNB] at HTX
  have i4 : ¬ (i : Int) > 0 := by omega
  rw [ht] at HTY
  simp only at HTY
  obtain ⟨VB, hVB⟩ : ∃ B : ByteArray, (⟨V.toArray⟩ : ByteArray) = B := ⟨_, rfl⟩
  rw [hVB] at HTY
  unfold RrOk
  simp only
  rw [hNB, hVB]
  unfold RK at hk
  clear h hb hlen hl hc hat hg hgt ht hi hn hVB hNB
  rcases hk with ⟨k1, k2, rfl, rfl⟩ | ⟨k1, k2, rfl, rfl⟩ | ⟨k1, rfl, rfl⟩
  · exact absurd rfl hh
  · have q1 : ¬ ((c.toNat : Int) ≥ 128) := by omega
    have q2 : ¬ ((c.toNat : Int) ≥ 64) := by omega
    have q3 : (c.toNat : Int) ≥ 16 := by omega
    clear k1 k2
    clear hh
    go_enter Tryd.func72, Tryd.ntmps72
    go_upto_region 2 with fail
    obtain ⟨g6, hg6⟩ : ∃ g6, w.heap.size = g6 := ⟨_, rfl⟩
    rw [hg6] at HR ⊢
    have HG6 := Lib.hid hg6
    generalize w.alloc (.cells #[.string ⟨#[]⟩, .string ⟨#[]⟩, .int .i64 0] 57) = W1 at HA HR hx ⊢
    clear hg6
    go_wp2_with fail
    refine (HG.out _ HA.out).mono ?_
    rintro e w9 ⟨rfl, rfl⟩
    go_upto_region 16 with fail
    have HA2 : Hid (Aft w (W1.alloc (.cells #[.string ⟨#[]⟩, .string ⟨#[]⟩] 28))) := Lib.hid (HA.out.alloc _)
    have HR2 : Hid (RWB (W1.alloc (.cells #[.string ⟨#[]⟩, .string ⟨#[]⟩] 28)) g6 ⟨#[]⟩ ⟨#[]⟩ 0) := Lib.hid (HR.out.aft ((Aft.refl W1).alloc _))
    have HF2 : Hid (FKB (W1.alloc (.cells #[.string ⟨#[]⟩, .string ⟨#[]⟩] 28)) W1.heap.size ⟨#[]⟩ ⟨#[]⟩) := Lib.hid (heap_alloc_new W1 _)
    have HG19 : Hid (w.heap.size ≤ W1.heap.size ∧ W1.heap.size ≠ g6) := Lib.hid ⟨HA.out.to.size, fun e => by have h1 := lt_of_heap HR.out; omega⟩
    generalize W1.heap.size = g19 at HF2 HG19 ⊢
    generalize W1.alloc (.cells #[.string ⟨#[]⟩, .string ⟨#[]⟩] 28) = W2 at HA2 HR2 HF2 ⊢
    clear HA HR hx HG i1
    obtain ⟨c0, -, -, -, -⟩ := (HH.out.aft HA2.out).cells
    go_wp2_with fail
    refine (HTX.out _ HA2.out).mono ?_
    rintro e w3 ⟨⟨S, t, rfl, hS⟩, a3⟩
    obtain ⟨rfl, rfl⟩ := hS (by simp)
    have hf3 := HF2.out.aft a3
    have HA4 := Lib.hid (aftCell9 (HA2.out.trans a3) HG19.out.1 0 (.string NB))
    have HR4 := Lib.hid ((HR2.out.aft a3).far HG19.out.2 0 (.string NB))
    have HF4 := Lib.hid (hf3.put0 NB)
    obtain ⟨y0, y1, yf⟩ := hf3.cells
    have yf0 := yf 0
    clear yf hf3 a3 c0 HA2 HR2 HF2 HTX
    go_upto_region 22 with fail
    clear y0 y1 yf0
    generalize w3.setCell ⟨g19, 0, none⟩ (.string NB) = W4 at HA4 HR4 HF4 ⊢
    go_upto_region 24 with fail
    have HA5 := HA4
    have HR5 := HR4
    have HF5 := HF4
    clear HA4 HR4 HF4
    go_wp2_with fail
    refine (HTY.out _ HA5.out).mono ?_
    rintro e w6 ⟨⟨S2, t2, rfl, hS2⟩, a6⟩
    obtain ⟨rfl, rfl⟩ := hS2 (by simp)
    have hf6 := HF5.out.aft a6
    have HA7 := Lib.hid (aftCell9 (HA5.out.trans a6) HG19.out.1 1 (.string VB))
    have HR7 := Lib.hid ((HR5.out.aft a6).far HG19.out.2 1 (.string VB))
    have HF7 := Lib.hid (hf6.put1 VB)
    obtain ⟨y0, y1, yf⟩ := hf6.cells
    have yf1 := yf 1
    clear yf hf6 a6 HA5 HR5 HF5 HTY
    go_upto_region 25 with fail
    clear y0 y1 yf1
    generalize w6.setCell ⟨g19, 1, none⟩ (.string VB) = W7 at HA7 HR7 HF7 ⊢
    go_wp2_with (first | (refine wpList_load_row rfl 28 (.tmp 19) rfl g19 rfl _ #[.string NB, .string VB] (0, 0) _ HF7.out Tryd.underlying28 rfl (fsz NB VB) ?_) | (refine wpList_store_rowTo rfl 57 (.tmp 6) (.tmp 130) rfl rfl g6 #[.string NB, .string VB, .int .i64 3] rfl rfl _ _ HR7.out (rwsz NB VB 3) rfl (rwone NB VB 3) ?_))
    have HRz := Lib.hid (HR7.out.row NB VB 3)
    have HAz := Lib.hid (aftRow9 HA7.out (Nat.le_of_eq HG6.out) #[.string NB, .string VB, .int .i64 3])
    generalize W7.setRow g6 #[.string NB, .string VB, .int .i64 3] = Wz at HRz HAz ⊢
    obtain ⟨z0, z1, z2⟩ := HRz.out.cells
    refine bodyPost_ret (v := .tuple #[.agg #[.string NB, .string VB, .int .i64 3], .int .i64 (t4 : Int), .int .i64 0]) (by simp [results, Tryd.results72, asAddr, go_sem, z0, z1, z2]) rfl ?_
    exact ⟨vo, rfl, HH.out.aft HAz.out, Chg.of_aft HAz.out, fun k hk => Or.inl hk⟩
  · have q1 : ¬ ((c.toNat : Int) ≥ 128) := by omega
    have q2 : ¬ ((c.toNat : Int) ≥ 64) := by omega
    have q3 : ¬ ((c.toNat : Int) ≥ 16) := by omega
    clear k1
    clear hh
    go_enter Tryd.func72, Tryd.ntmps72
    go_upto_region 2 with fail
    obtain ⟨g6, hg6⟩ : ∃ g6, w.heap.size = g6 := ⟨_, rfl⟩
    rw [hg6] at HR ⊢
    have HG6 := Lib.hid hg6
    generalize w.alloc (.cells #[.string ⟨#[]⟩, .string ⟨#[]⟩, .int .i64 0] 57) = W1 at HA HR hx ⊢
    clear hg6
    go_wp2_with fail
    refine (HG.out _ HA.out).mono ?_
    rintro e w9 ⟨rfl, rfl⟩
    go_upto_region 16 with fail
    have HA2 : Hid (Aft w (W1.alloc (.cells #[.string ⟨#[]⟩, .string ⟨#[]⟩] 28))) := Lib.hid (HA.out.alloc _)
    have HR2 : Hid (RWB (W1.alloc (.cells #[.string ⟨#[]⟩, .string ⟨#[]⟩] 28)) g6 ⟨#[]⟩ ⟨#[]⟩ 0) := Lib.hid (HR.out.aft ((Aft.refl W1).alloc _))
    have HF2 : Hid (FKB (W1.alloc (.cells #[.string ⟨#[]⟩, .string ⟨#[]⟩] 28)) W1.heap.size ⟨#[]⟩ ⟨#[]⟩) := Lib.hid (heap_alloc_new W1 _)
    have HG19 : Hid (w.heap.size ≤ W1.heap.size ∧ W1.heap.size ≠ g6) := Lib.hid ⟨HA.out.to.size, fun e => by have h1 := lt_of_heap HR.out; omega⟩
    generalize W1.heap.size = g19 at HF2 HG19 ⊢
    generalize W1.alloc (.cells #[.string ⟨#[]⟩, .string ⟨#[]⟩] 28) = W2 at HA2 HR2 HF2 ⊢
    clear HA HR hx HG i1
    obtain ⟨c0, -, -, -, -⟩ := (HH.out.aft HA2.out).cells
    go_wp2_with fail
    refine (HTX.out _ HA2.out).mono ?_
    rintro e w3 ⟨⟨S, t, rfl, hS⟩, a3⟩
    obtain ⟨rfl, rfl⟩ := hS (by simp)
    have hf3 := HF2.out.aft a3
    have HA4 := Lib.hid (aftCell9 (HA2.out.trans a3) HG19.out.1 0 (.string NB))
    have HR4 := Lib.hid ((HR2.out.aft a3).far HG19.out.2 0 (.string NB))
    have HF4 := Lib.hid (hf3.put0 NB)
    obtain ⟨y0, y1, yf⟩ := hf3.cells
    have yf0 := yf 0
    clear yf hf3 a3 c0 HA2 HR2 HF2 HTX
    go_upto_region 22 with fail
    clear y0 y1 yf0
    generalize w3.setCell ⟨g19, 0, none⟩ (.string NB) = W4 at HA4 HR4 HF4 ⊢
    go_upto_region 24 with fail
    have HA5 := HA4
    have HR5 := HR4
    have HF5 := HF4
    clear HA4 HR4 HF4
    go_wp2_with fail
    refine (HTY.out _ HA5.out).mono ?_
    rintro e w6 ⟨⟨S2, t2, rfl, hS2⟩, a6⟩
    obtain ⟨rfl, rfl⟩ := hS2 (by simp)
    have hf6 := HF5.out.aft a6
    have HA7 := Lib.hid (aftCell9 (HA5.out.trans a6) HG19.out.1 1 (.string VB))
    have HR7 := Lib.hid ((HR5.out.aft a6).far HG19.out.2 1 (.string VB))
    have HF7 := Lib.hid (hf6.put1 VB)
    obtain ⟨y0, y1, yf⟩ := hf6.cells
    have yf1 := yf 1
    clear yf hf6 a6 HA5 HR5 HF5 HTY
    go_upto_region 25 with fail
    clear y0 y1 yf1
    generalize w6.setCell ⟨g19, 1, none⟩ (.string VB) = W7 at HA7 HR7 HF7 ⊢
    go_wp2_with (first | (refine wpList_load_row rfl 28 (.tmp 19) rfl g19 rfl _ #[.string NB, .string VB] (0, 0) _ HF7.out Tryd.underlying28 rfl (fsz NB VB) ?_) | (refine wpList_store_rowTo rfl 57 (.tmp 6) (.tmp 130) rfl rfl g6 #[.string NB, .string VB, .int .i64 2] rfl rfl _ _ HR7.out (rwsz NB VB 2) rfl (rwone NB VB 2) ?_))
    have HRz := Lib.hid (HR7.out.row NB VB 2)
    have HAz := Lib.hid (aftRow9 HA7.out (Nat.le_of_eq HG6.out) #[.string NB, .string VB, .int .i64 2])
    generalize W7.setRow g6 #[.string NB, .string VB, .int .i64 2] = Wz at HRz HAz ⊢
    obtain ⟨z0, z1, z2⟩ := HRz.out.cells
    refine bodyPost_ret (v := .tuple #[.agg #[.string NB, .string VB, .int .i64 2], .int .i64 (t4 : Int), .int .i64 0]) (by simp [results, Tryd.results72, asAddr, go_sem, z0, z1, z2]) rfl ?_
    exact ⟨vo, rfl, HH.out.aft HAz.out, Chg.of_aft HAz.out, fun k hk => Or.inl hk⟩
set_option linter.unusedSimpArgs false in
set_option maxHeartbeats 16000000 in
set_option maxRecDepth 100000 in
theorem rurow_add_k {w : World} {B gp g : Nat} {vo : Value} {l : List FieldL} {m top list : Int} {bad : Bool} {pb off cap : Nat} {b : List UInt8} {at_ : Nat} (h : RUn w B gp g vo l m top list bad) (hb : Rb w (.slice (some ⟨pb, off, none⟩) b.length cap) b) (hlen : b.length ≤ 1000000) (hl : l.length ≤ 1000000) (c : UInt8) (hc : b[at_]? = some c) (hm0 : 0 ≤ m) (hm1 : m ≤ 65536) (hs : (sumF l : Int) ≤ m) (hB : B ≤ w.heap.size) (h64 : 64 ≤ c.toNat) (h128 : c.toNat < 128) (i t1 : Nat) (hg : getL b at_ 6 = (i, t1, 0)) (N : List UInt8) (t3 : Nat) (hi : 0 < i) (hn : getB l i = true) (hN : N = (getF l i).1) (h3 : t3 = t1) (V : List UInt8) (t4 : Nat) (ht : textU b t3 = (V, t4, 0)) (hsz : fsize (N, V) ≤ 1000000000) :
    Calls Tryd.prog 72 #[.pointer (some ⟨gp, 0, none⟩), .slice (some ⟨pb, off, none⟩) b.length cap, .int .i64 (at_ : Int)] w fun e w' => RrOk w B gp g vo top list bad m (N, V) 1 t4 (addF m (N, V) l) e w' := by
  have hat : at_ < b.length := (List.getElem?_eq_some_iff.1 hc).1
  have HH := Lib.hid h
  have HB := Lib.hid hb
  have i1 : (at_ : Int) < (b.length : Int) := by omega
  have HA : Hid (Aft w (w.alloc (.cells #[.string ⟨#[]⟩, .string ⟨#[]⟩, .int .i64 0] 57))) := Lib.hid ((Aft.refl w).alloc _)
  have HR : Hid (RWB (w.alloc (.cells #[.string ⟨#[]⟩, .string ⟨#[]⟩, .int .i64 0] 57)) w.heap.size ⟨#[]⟩ ⟨#[]⟩ 0) := Lib.hid (heap_alloc_new w _)
  have hx := (HB.out.aft HA.out).cellAt hc
  have hk : RK c 6 1 := Or.inl ⟨h64, h128, rfl, rfl⟩
  have HG := Lib.hid (fun w' (a : Aft w w') => rpget_any (some ⟨pb, off, none⟩) cap b at_ 6 w' (HB.out.aft a) (by omega) (by omega) hk.bits)
  have hgt := getL_to (b := b) (at_ := at_) (n := 6) (by have := hk.bits; omega) (by rw [hg])
  unfold getV at HG
  rw [hg] at HG hgt
  simp only at HG hgt
  have HT := Lib.hid (fun w' (a : Aft w w') => rget_any (i : Int) (by omega) (by omega) (HH.out.aft a).t hl)
  obtain ⟨⟨f1, f2⟩, hf⟩ : ∃ q, getF l i = q := ⟨_, rfl⟩
  rw [hf] at HT
  unfold fieldV at HT
  simp only at HT
  obtain ⟨X, hX⟩ : ∃ B : ByteArray, (⟨f1.toArray⟩ : ByteArray) = B := ⟨_, rfl⟩
  obtain ⟨Y, hY⟩ : ∃ B : ByteArray, (⟨f2.toArray⟩ : ByteArray) = B := ⟨_, rfl⟩
  rw [hX, hY] at HT
  have HTX := Lib.hid (fun w' (a : Aft w w') => rutext_any (some ⟨pb, off, none⟩) cap b t1 w' (HB.out.aft a) hlen)
  have HTY := Lib.hid (fun w' (a : Aft w w') => rutext_any (some ⟨pb, off, none⟩) cap b t3 w' (HB.out.aft a) hlen)
  unfold TxPost at HTX HTY
  obtain ⟨NB, hNB⟩ : ∃ B : ByteArray, (⟨N.toArray⟩ : ByteArray) = B := ⟨_, rfl⟩
  rw [hn] at HT
  rw [hf] at hN
  simp only at hN
  subst hN h3
  rw [hX] at hNB
  subst hNB
  have i4 : (i : Int) > 0 := by omega
  rw [ht] at HTY
  simp only at HTY
  obtain ⟨VB, hVB⟩ : ∃ B : ByteArray, (⟨V.toArray⟩ : ByteArray) = B := ⟨_, rfl⟩
  rw [hVB] at HTY
  unfold RrOk
  simp only
  rw [hX, hVB]
  have HADD := Lib.hid (fun (w' : World) (a : Aft w w') => radd_any (N, V) (HH.out.aft a).t hs hm0 hm1 (by omega) (Nat.le_trans hB a.to.size))
  obtain ⟨L2, hL2⟩ : ∃ L2, addF m (N, V) l = L2 := ⟨_, rfl⟩
  rw [hL2] at HADD ⊢
  unfold fieldV at HADD
  simp only at HADD
  rw [hX, hVB] at HADD
  clear h hb hlen hl hc hat hg hgt ht hk hm0 hm1 hs hB hsz hL2 hi hn hf hY HTX hVB hX
  have q1 : ¬ ((c.toNat : Int) ≥ 128) := by omega
  have q2 : (c.toNat : Int) ≥ 64 := by omega
  clear h64 h128
  go_enter Tryd.func72, Tryd.ntmps72
  go_upto_region 2 with fail
  obtain ⟨g6, hg6⟩ : ∃ g6, w.heap.size = g6 := ⟨_, rfl⟩
  rw [hg6] at HR ⊢
  have HG6 := Lib.hid hg6
  generalize w.alloc (.cells #[.string ⟨#[]⟩, .string ⟨#[]⟩, .int .i64 0] 57) = W1 at HA HR hx ⊢
  clear hg6
  go_wp2_with fail
  refine (HG.out _ HA.out).mono ?_
  rintro e w9 ⟨rfl, rfl⟩
  go_upto_region 16 with fail
  have HA2 : Hid (Aft w (W1.alloc (.cells #[.string ⟨#[]⟩, .string ⟨#[]⟩] 28))) := Lib.hid (HA.out.alloc _)
  have HR2 : Hid (RWB (W1.alloc (.cells #[.string ⟨#[]⟩, .string ⟨#[]⟩] 28)) g6 ⟨#[]⟩ ⟨#[]⟩ 0) := Lib.hid (HR.out.aft ((Aft.refl W1).alloc _))
  have HF2 : Hid (FKB (W1.alloc (.cells #[.string ⟨#[]⟩, .string ⟨#[]⟩] 28)) W1.heap.size ⟨#[]⟩ ⟨#[]⟩) := Lib.hid (heap_alloc_new W1 _)
  have HG19 : Hid (w.heap.size ≤ W1.heap.size ∧ W1.heap.size ≠ g6) := Lib.hid ⟨HA.out.to.size, fun e => by have h1 := lt_of_heap HR.out; omega⟩
  generalize W1.heap.size = g19 at HF2 HG19 ⊢
  generalize W1.alloc (.cells #[.string ⟨#[]⟩, .string ⟨#[]⟩] 28) = W2 at HA2 HR2 HF2 ⊢
  clear HA HR hx HG i1
  obtain ⟨c0, -, -, -, -⟩ := (HH.out.aft HA2.out).cells
  go_wp2_with fail
  refine (HT.out _ HA2.out).mono ?_
  rintro e w3 ⟨rfl, a3⟩
  have a4 := a3.alloc (.cells #[.string X, .string Y] 28)
  have HA4 := Lib.hid (HA2.out.trans a4)
  have HR4 := Lib.hid (HR2.out.aft a4)
  have HF4 := Lib.hid (HF2.out.aft a4)
  have HF20 : Hid (FKB (w3.alloc (.cells #[.string X, .string Y] 28)) w3.heap.size X Y) := Lib.hid (heap_alloc_new w3 _)
  clear a3 a4 c0 HA2 HR2 HF2 HT
  go_upto_region 18 with fail
  generalize w3.heap.size = g20 at HF20 ⊢
  generalize w3.alloc (.cells #[.string X, .string Y] 28) = W4 at HA4 HR4 HF4 HF20 ⊢
  have HA5 := Lib.hid (aftCell9 HA4.out HG19.out.1 0 (.string X))
  have HR5 := Lib.hid (HR4.out.far HG19.out.2 0 (.string X))
  have HF5 := Lib.hid (HF4.out.put0 X)
  obtain ⟨x0, x1, xf⟩ := HF20.out.cells
  obtain ⟨y0, y1, yf⟩ := HF4.out.cells
  have yf0 := yf 0
  clear xf yf HA4 HR4 HF4 HF20
  go_upto_region 24 with fail
  clear x0 x1 y0 y1 yf0
  generalize W4.setCell ⟨g19, 0, none⟩ (.string X) = W5 at HA5 HR5 HF5 ⊢
  go_wp2_with fail
  refine (HTY.out _ HA5.out).mono ?_
  rintro e w6 ⟨⟨S2, t2, rfl, hS2⟩, a6⟩
  obtain ⟨rfl, rfl⟩ := hS2 (by simp)
  have hf6 := HF5.out.aft a6
  have HA7 := Lib.hid (aftCell9 (HA5.out.trans a6) HG19.out.1 1 (.string VB))
  have HR7 := Lib.hid ((HR5.out.aft a6).far HG19.out.2 1 (.string VB))
  have HF7 := Lib.hid (hf6.put1 VB)
  obtain ⟨y0, y1, yf⟩ := hf6.cells
  have yf1 := yf 1
  clear yf hf6 a6 HA5 HR5 HF5 HTY
  go_upto_region 25 with fail
  clear y0 y1 yf1
  generalize w6.setCell ⟨g19, 1, none⟩ (.string VB) = W7 at HA7 HR7 HF7 ⊢
  go_upto_region 28 with fail
  have HA8 := Lib.hid HA7.out.drew
  have HR8 := Lib.hid (HR7.out.aft ((Aft.refl W7).drew))
  have HF8 := Lib.hid (HF7.out.aft ((Aft.refl W7).drew))
  obtain ⟨y0, y1, yf⟩ := HF8.out.cells
  obtain ⟨c0, -, -, -, -⟩ := (HH.out.aft HA8.out).cells
  clear yf HA7 HR7 HF7
  refine wp_region_held_drew (S := fun _ => True) (by kernel_rfl) trivial (fun hHeld => ?_)
  generalize W7.drew = W8 at y0 y1 c0 HA8 HR8 HF8 ⊢
  refine wpAnyH_take (i := 0) (oi := { dst := some 122, op := Go.Op.move (Go.Operand.tmp 0), type := 82, pos := _, after := _, guard := _ }) (v := ?_) rfl (by kernel_rfl) (by kernel_rfl) (by kernel_rfl) (fun _ _ _ h => h) (Or.inl ⟨by rfl, ?_⟩) trivial ?_
  rotate_left
  · intro w hSw; go_simp; try with_reducible rfl
  try simp only [Act.put]
  try simp only [List.setIfInBounds_toArray]
  try simp only [List.set]
  refine wpAnyH_take (i := 1) (oi := { dst := some 123, op := Go.Op.nilCheck (Go.Operand.tmp 122), type := 0, pos := _, after := _, guard := _ }) (v := ?_) rfl (by kernel_rfl) (by kernel_rfl) (by kernel_rfl) (fun _ _ _ h => h) (Or.inl ⟨by rfl, ?_⟩) trivial ?_
  rotate_left
  · intro w hSw; go_simp; try with_reducible rfl
  try simp only [Act.put]
  try simp only [List.setIfInBounds_toArray]
  try simp only [List.set]
  refine wpAnyH_take (i := 2) (oi := { dst := some 124, op := Go.Op.fieldAddr 84 (Go.Operand.tmp 123) 0, type := 0, pos := _, after := _, guard := _ }) (v := ?_) rfl (by kernel_rfl) (by kernel_rfl) (by kernel_rfl) (fun _ _ _ h => h) (Or.inl ⟨by rfl, ?_⟩) trivial ?_
  rotate_left
  · intro w hSw; go_simp; try with_reducible rfl
  try simp only [Act.put]
  try simp only [List.setIfInBounds_toArray]
  try simp only [List.set]
  refine wpAnyH_ready (rs := [3, 4]) (by kernel_rfl) (by simp) ?_
  refine (AllReadyH.cons (o := { dst := some 125, op := Go.Op.load 43 (Go.Operand.tmp 124), type := 43, pos := _, after := _, guard := _ }) rfl (fun K hK => ?_) (AllReadyH.cons (o := { dst := some 126, op := Go.Op.load 28 (Go.Operand.tmp 19), type := 28, pos := _, after := _, guard := _ }) rfl (fun K hK => ?_) AllReadyH.nil))
  focus
    go_simp
    skip
    refine hK.out _ _ trivial (fun hHeld => ?_)
    clear hK K
    try simp only [Act.put]
    try simp only [List.setIfInBounds_toArray]
    try simp only [List.set]
    refine wpAnyH_ready (rs := [4]) (by kernel_rfl) (by simp) ?_
    refine (AllReadyH.cons (o := { dst := some 126, op := Go.Op.load 28 (Go.Operand.tmp 19), type := 28, pos := _, after := _, guard := _ }) rfl (fun K hK => ?_) AllReadyH.nil)
    go_simp
    skip
    refine hK.out _ _ trivial (fun hHeld => ?_)
    clear hK K
    try simp only [Act.put]
    try simp only [List.setIfInBounds_toArray]
    try simp only [List.set]
    refine wpAnyH_ready (rs := [5]) (by kernel_rfl) (by simp) ?_
    refine (AllReadyH.cons (o := { dst := some 127, op := Go.Op.call { callee := Go.Callee.value (Go.Operand.func 29), args := #[Go.Operand.tmp 125, Go.Operand.tmp 126], argTypes := #[43, 28] }, type := 0, pos := _, after := _, guard := _ }) rfl (fun K hK => ?_) AllReadyH.nil)
    go_simp
    go_at_call 29
    refine (HADD.out _ HA8.out).mono ?_
    rintro e w9 ⟨rfl, vo2, ht, hc, ho⟩
    have HT9 := Lib.hid ht
    have HC9 := Lib.hid hc
    have HO9 := Lib.hid ho
    clear ht hc ho y0 y1 c0
    refine hK.out _ _ trivial (fun hHeld => ?_)
    clear hK K
    try simp only [Act.put]
    try simp only [List.setIfInBounds_toArray]
    try simp only [List.set]
    refine wpAnyH_done (by kernel_rfl) ?_ _
  rotate_left 1
  focus
    go_simp
    skip
    refine hK.out _ _ trivial (fun hHeld => ?_)
    clear hK K
    try simp only [Act.put]
    try simp only [List.setIfInBounds_toArray]
    try simp only [List.set]
    refine wpAnyH_ready (rs := [3]) (by kernel_rfl) (by simp) ?_
    refine (AllReadyH.cons (o := { dst := some 125, op := Go.Op.load 43 (Go.Operand.tmp 124), type := 43, pos := _, after := _, guard := _ }) rfl (fun K hK => ?_) AllReadyH.nil)
    go_simp
    skip
    refine hK.out _ _ trivial (fun hHeld => ?_)
    clear hK K
    try simp only [Act.put]
    try simp only [List.setIfInBounds_toArray]
    try simp only [List.set]
    refine wpAnyH_ready (rs := [5]) (by kernel_rfl) (by simp) ?_
    refine (AllReadyH.cons (o := { dst := some 127, op := Go.Op.call { callee := Go.Callee.value (Go.Operand.func 29), args := #[Go.Operand.tmp 125, Go.Operand.tmp 126], argTypes := #[43, 28] }, type := 0, pos := _, after := _, guard := _ }) rfl (fun K hK => ?_) AllReadyH.nil)
    go_simp
    go_at_call 29
    refine (HADD.out _ HA8.out).mono ?_
    rintro e w9 ⟨rfl, vo2, ht, hc, ho⟩
    have HT9 := Lib.hid ht
    have HC9 := Lib.hid hc
    have HO9 := Lib.hid ho
    clear ht hc ho y0 y1 c0
    refine hK.out _ _ trivial (fun hHeld => ?_)
    clear hK K
    try simp only [Act.put]
    try simp only [List.setIfInBounds_toArray]
    try simp only [List.set]
    refine wpAnyH_done (by kernel_rfl) ?_ _
  rotate_left 1
  all_goals
    have hnt : ∀ k, w.heap.size ≤ k → ¬ TP g vo k := fun k hk e => by
      rcases e with e | e
      · have := HH.out.t.lt; omega
      · have := (HH.out.t.own.lt k e).2; omega
    have HR9 := Lib.hid (HR8.out.chg HC9.out (hnt _ (Nat.le_of_eq HG6.out)))
    have HF9 := Lib.hid (HF8.out.chg HC9.out (hnt _ HG19.out.1))
    have HU9 := Lib.hid ((HH.out.aft HA8.out).tab HT9.out HC9.out)
    have HCC : Hid (Chg (TP g vo) w w9) := Lib.hid ((Chg.of_aft HA8.out).trans HC9.out (fun i hi => Or.inl hi))
    have HOO : Hid ((∀ k, vo2.ownBlock = some k → vo.ownBlock = some k ∨ w.heap.size ≤ k) ∧ ∀ k, vo2.ownBlock = some k → k ≠ g6) := Lib.hid ⟨fun k hk => (HO9.out k hk).imp id (fun h => Nat.le_trans HA8.out.to.size h), fun k hk => by
      rcases HO9.out k hk with h1 | h1
      · have h2 := (HH.out.t.own.lt k h1).2; have h3 := HG6.out; omega
      · have h2 := lt_of_heap HR8.out; omega⟩
    clear hnt HT9 HC9 HO9 HA8 HR8 HF8 HADD
    go_wp2_with (first | (refine wpList_load_row rfl 28 (.tmp 19) rfl g19 rfl _ #[.string X, .string VB] (0, 0) _ HF9.out Tryd.underlying28 rfl (fsz X VB) ?_) | (refine wpList_store_rowTo rfl 57 (.tmp 6) (.tmp 130) rfl rfl g6 #[.string X, .string VB, .int .i64 1] rfl rfl _ _ HR9.out (rwsz X VB 1) rfl (rwone X VB 1) ?_))
    have HRz := Lib.hid (HR9.out.row X VB 1)
    have HUz := Lib.hid (HU9.out.setRow (g6 := g6) (by have h1 := HH.out.lt; have h2 := HG6.out; omega) (by have h1 := HH.out.t.lt; have h2 := HG6.out; omega) HOO.out.2 #[.string X, .string VB, .int .i64 1])
    have HCz := Lib.hid (HCC.out.row g6 #[.string X, .string VB, .int .i64 1] (Or.inr (Nat.le_of_eq HG6.out)))
    generalize w9.setRow g6 #[.string X, .string VB, .int .i64 1] = Wz at HRz HUz HCz ⊢
    obtain ⟨z0, z1, z2⟩ := HRz.out.cells
    refine bodyPost_ret (v := .tuple #[.agg #[.string X, .string VB, .int .i64 1], .int .i64 (t4 : Int), .int .i64 0]) (by simp [results, Tryd.results72, asAddr, go_sem, z0, z1, z2]) rfl ?_
    exact ⟨vo2, rfl, HUz.out, HCz.out, HOO.out.1⟩
set_option linter.unusedSimpArgs false in
set_option maxHeartbeats 16000000 in
set_option maxRecDepth 100000 in
theorem rurow_add_t {w : World} {B gp g : Nat} {vo : Value} {l : List FieldL} {m top list : Int} {bad : Bool} {pb off cap : Nat} {b : List UInt8} {at_ : Nat} (h : RUn w B gp g vo l m top list bad) (hb : Rb w (.slice (some ⟨pb, off, none⟩) b.length cap) b) (hlen : b.length ≤ 1000000) (hl : l.length ≤ 1000000) (c : UInt8) (hc : b[at_]? = some c) (hm0 : 0 ≤ m) (hm1 : m ≤ 65536) (hs : (sumF l : Int) ≤ m) (hB : B ≤ w.heap.size) (h64 : 64 ≤ c.toNat) (h128 : c.toNat < 128) (i t1 : Nat) (hg : getL b at_ 6 = (i, t1, 0)) (N : List UInt8) (t3 : Nat) (hi : i = 0) (hn : textU b t1 = (N, t3, 0)) (V : List UInt8) (t4 : Nat) (ht : textU b t3 = (V, t4, 0)) (hsz : fsize (N, V) ≤ 1000000000) :
    Calls Tryd.prog 72 #[.pointer (some ⟨gp, 0, none⟩), .slice (some ⟨pb, off, none⟩) b.length cap, .int .i64 (at_ : Int)] w fun e w' => RrOk w B gp g vo top list bad m (N, V) 1 t4 (addF m (N, V) l) e w' := by
  have hat : at_ < b.length := (List.getElem?_eq_some_iff.1 hc).1
  have HH := Lib.hid h
  have HB := Lib.hid hb
  have i1 : (at_ : Int) < (b.length : Int) := by omega
  have HA : Hid (Aft w (w.alloc (.cells #[.string ⟨#[]⟩, .string ⟨#[]⟩, .int .i64 0] 57))) := Lib.hid ((Aft.refl w).alloc _)
  have HR : Hid (RWB (w.alloc (.cells #[.string ⟨#[]⟩, .string ⟨#[]⟩, .int .i64 0] 57)) w.heap.size ⟨#[]⟩ ⟨#[]⟩ 0) := Lib.hid (heap_alloc_new w _)
  have hx := (HB.out.aft HA.out).cellAt hc
  have hk : RK c 6 1 := Or.inl ⟨h64, h128, rfl, rfl⟩
  have HG := Lib.hid (fun w' (a : Aft w w') => rpget_any (some ⟨pb, off, none⟩) cap b at_ 6 w' (HB.out.aft a) (by omega) (by omega) hk.bits)
  have hgt := getL_to (b := b) (at_ := at_) (n := 6) (by have := hk.bits; omega) (by rw [hg])
  unfold getV at HG
  rw [hg] at HG hgt
  simp only at HG hgt
  have HTX := Lib.hid (fun w' (a : Aft w w') => rutext_any (some ⟨pb, off, none⟩) cap b t1 w' (HB.out.aft a) hlen)
  have HTY := Lib.hid (fun w' (a : Aft w w') => rutext_any (some ⟨pb, off, none⟩) cap b t3 w' (HB.out.aft a) hlen)
  unfold TxPost at HTX HTY
  obtain ⟨NB, hNB⟩ : ∃ B : ByteArray, (⟨N.toArray⟩ : ByteArray) = B := ⟨_, rfl⟩
  rw [hn] at HTX
  simp only at HTX
  rw [hNB] at HTX
  have i4 : ¬ (i : Int) > 0 := by omega
  rw [ht] at HTY
  simp only at HTY
  obtain ⟨VB, hVB⟩ : ∃ B : ByteArray, (⟨V.toArray⟩ : ByteArray) = B := ⟨_, rfl⟩
  rw [hVB] at HTY
  unfold RrOk
  simp only
  rw [hNB, hVB]
  have HADD := Lib.hid (fun (w' : World) (a : Aft w w') => radd_any (N, V) (HH.out.aft a).t hs hm0 hm1 (by omega) (Nat.le_trans hB a.to.size))
  obtain ⟨L2, hL2⟩ : ∃ L2, addF m (N, V) l = L2 := ⟨_, rfl⟩
  rw [hL2] at HADD ⊢
  unfold fieldV at HADD
  simp only at HADD
  rw [hNB, hVB] at HADD
  clear h hb hlen hl hc hat hg hgt ht hk hm0 hm1 hs hB hsz hL2 hi hn hVB hNB
  have q1 : ¬ ((c.toNat : Int) ≥ 128) := by omega
  have q2 : (c.toNat : Int) ≥ 64 := by omega
  clear h64 h128
  go_enter Tryd.func72, Tryd.ntmps72
  go_upto_region 2 with fail
  obtain ⟨g6, hg6⟩ : ∃ g6, w.heap.size = g6 := ⟨_, rfl⟩
  rw [hg6] at HR ⊢
  have HG6 := Lib.hid hg6
  generalize w.alloc (.cells #[.string ⟨#[]⟩, .string ⟨#[]⟩, .int .i64 0] 57) = W1 at HA HR hx ⊢
  clear hg6
  go_wp2_with fail
  refine (HG.out _ HA.out).mono ?_
  rintro e w9 ⟨rfl, rfl⟩
  go_upto_region 16 with fail
  have HA2 : Hid (Aft w (W1.alloc (.cells #[.string ⟨#[]⟩, .string ⟨#[]⟩] 28))) := Lib.hid (HA.out.alloc _)
  have HR2 : Hid (RWB (W1.alloc (.cells #[.string ⟨#[]⟩, .string ⟨#[]⟩] 28)) g6 ⟨#[]⟩ ⟨#[]⟩ 0) := Lib.hid (HR.out.aft ((Aft.refl W1).alloc _))
  have HF2 : Hid (FKB (W1.alloc (.cells #[.string ⟨#[]⟩, .string ⟨#[]⟩] 28)) W1.heap.size ⟨#[]⟩ ⟨#[]⟩) := Lib.hid (heap_alloc_new W1 _)
  have HG19 : Hid (w.heap.size ≤ W1.heap.size ∧ W1.heap.size ≠ g6) := Lib.hid ⟨HA.out.to.size, fun e => by have h1 := lt_of_heap HR.out; omega⟩
  generalize W1.heap.size = g19 at HF2 HG19 ⊢
  generalize W1.alloc (.cells #[.string ⟨#[]⟩, .string ⟨#[]⟩] 28) = W2 at HA2 HR2 HF2 ⊢
  clear HA HR hx HG i1
  obtain ⟨c0, -, -, -, -⟩ := (HH.out.aft HA2.out).cells
  go_wp2_with fail
  refine (HTX.out _ HA2.out).mono ?_
  rintro e w3 ⟨⟨S, t, rfl, hS⟩, a3⟩
  obtain ⟨rfl, rfl⟩ := hS (by simp)
  have hf3 := HF2.out.aft a3
  have HA4 := Lib.hid (aftCell9 (HA2.out.trans a3) HG19.out.1 0 (.string NB))
  have HR4 := Lib.hid ((HR2.out.aft a3).far HG19.out.2 0 (.string NB))
  have HF4 := Lib.hid (hf3.put0 NB)
  obtain ⟨y0, y1, yf⟩ := hf3.cells
  have yf0 := yf 0
  clear yf hf3 a3 c0 HA2 HR2 HF2 HTX
  go_upto_region 22 with fail
  clear y0 y1 yf0
  generalize w3.setCell ⟨g19, 0, none⟩ (.string NB) = W4 at HA4 HR4 HF4 ⊢
  go_upto_region 24 with fail
  have HA5 := HA4
  have HR5 := HR4
  have HF5 := HF4
  clear HA4 HR4 HF4
  go_wp2_with fail
  refine (HTY.out _ HA5.out).mono ?_
  rintro e w6 ⟨⟨S2, t2, rfl, hS2⟩, a6⟩
  obtain ⟨rfl, rfl⟩ := hS2 (by simp)
  have hf6 := HF5.out.aft a6
  have HA7 := Lib.hid (aftCell9 (HA5.out.trans a6) HG19.out.1 1 (.string VB))
  have HR7 := Lib.hid ((HR5.out.aft a6).far HG19.out.2 1 (.string VB))
  have HF7 := Lib.hid (hf6.put1 VB)
  obtain ⟨y0, y1, yf⟩ := hf6.cells
  have yf1 := yf 1
  clear yf hf6 a6 HA5 HR5 HF5 HTY
  go_upto_region 25 with fail
  clear y0 y1 yf1
  generalize w6.setCell ⟨g19, 1, none⟩ (.string VB) = W7 at HA7 HR7 HF7 ⊢
  go_upto_region 28 with fail
  have HA8 := Lib.hid HA7.out.drew
  have HR8 := Lib.hid (HR7.out.aft ((Aft.refl W7).drew))
  have HF8 := Lib.hid (HF7.out.aft ((Aft.refl W7).drew))
  obtain ⟨y0, y1, yf⟩ := HF8.out.cells
  obtain ⟨c0, -, -, -, -⟩ := (HH.out.aft HA8.out).cells
  clear yf HA7 HR7 HF7
  refine wp_region_held_drew (S := fun _ => True) (by kernel_rfl) trivial (fun hHeld => ?_)
  generalize W7.drew = W8 at y0 y1 c0 HA8 HR8 HF8 ⊢
  refine wpAnyH_take (i := 0) (oi := { dst := some 122, op := Go.Op.move (Go.Operand.tmp 0), type := 82, pos := _, after := _, guard := _ }) (v := ?_) rfl (by kernel_rfl) (by kernel_rfl) (by kernel_rfl) (fun _ _ _ h => h) (Or.inl ⟨by rfl, ?_⟩) trivial ?_
  rotate_left
  · intro w hSw; go_simp; try with_reducible rfl
  try simp only [Act.put]
  try simp only [List.setIfInBounds_toArray]
  try simp only [List.set]
  refine wpAnyH_take (i := 1) (oi := { dst := some 123, op := Go.Op.nilCheck (Go.Operand.tmp 122), type := 0, pos := _, after := _, guard := _ }) (v := ?_) rfl (by kernel_rfl) (by kernel_rfl) (by kernel_rfl) (fun _ _ _ h => h) (Or.inl ⟨by rfl, ?_⟩) trivial ?_
  rotate_left
  · intro w hSw; go_simp; try with_reducible rfl
  try simp only [Act.put]
  try simp only [List.setIfInBounds_toArray]
  try simp only [List.set]
  refine wpAnyH_take (i := 2) (oi := { dst := some 124, op := Go.Op.fieldAddr 84 (Go.Operand.tmp 123) 0, type := 0, pos := _, after := _, guard := _ }) (v := ?_) rfl (by kernel_rfl) (by kernel_rfl) (by kernel_rfl) (fun _ _ _ h => h) (Or.inl ⟨by rfl, ?_⟩) trivial ?_
  rotate_left
  · intro w hSw; go_simp; try with_reducible rfl
  try simp only [Act.put]
  try simp only [List.setIfInBounds_toArray]
  try simp only [List.set]
  refine wpAnyH_ready (rs := [3, 4]) (by kernel_rfl) (by simp) ?_
  refine (AllReadyH.cons (o := { dst := some 125, op := Go.Op.load 43 (Go.Operand.tmp 124), type := 43, pos := _, after := _, guard := _ }) rfl (fun K hK => ?_) (AllReadyH.cons (o := { dst := some 126, op := Go.Op.load 28 (Go.Operand.tmp 19), type := 28, pos := _, after := _, guard := _ }) rfl (fun K hK => ?_) AllReadyH.nil))
  focus
    go_simp
    skip
    refine hK.out _ _ trivial (fun hHeld => ?_)
    clear hK K
    try simp only [Act.put]
    try simp only [List.setIfInBounds_toArray]
    try simp only [List.set]
    refine wpAnyH_ready (rs := [4]) (by kernel_rfl) (by simp) ?_
    refine (AllReadyH.cons (o := { dst := some 126, op := Go.Op.load 28 (Go.Operand.tmp 19), type := 28, pos := _, after := _, guard := _ }) rfl (fun K hK => ?_) AllReadyH.nil)
    go_simp
    skip
    refine hK.out _ _ trivial (fun hHeld => ?_)
    clear hK K
    try simp only [Act.put]
    try simp only [List.setIfInBounds_toArray]
    try simp only [List.set]
    refine wpAnyH_ready (rs := [5]) (by kernel_rfl) (by simp) ?_
    refine (AllReadyH.cons (o := { dst := some 127, op := Go.Op.call { callee := Go.Callee.value (Go.Operand.func 29), args := #[Go.Operand.tmp 125, Go.Operand.tmp 126], argTypes := #[43, 28] }, type := 0, pos := _, after := _, guard := _ }) rfl (fun K hK => ?_) AllReadyH.nil)
    go_simp
    go_at_call 29
    refine (HADD.out _ HA8.out).mono ?_
    rintro e w9 ⟨rfl, vo2, ht, hc, ho⟩
    have HT9 := Lib.hid ht
    have HC9 := Lib.hid hc
    have HO9 := Lib.hid ho
    clear ht hc ho y0 y1 c0
    refine hK.out _ _ trivial (fun hHeld => ?_)
    clear hK K
    try simp only [Act.put]
    try simp only [List.setIfInBounds_toArray]
    try simp only [List.set]
    refine wpAnyH_done (by kernel_rfl) ?_ _
  rotate_left 1
  focus
    go_simp
    skip
    refine hK.out _ _ trivial (fun hHeld => ?_)
    clear hK K
    try simp only [Act.put]
    try simp only [List.setIfInBounds_toArray]
    try simp only [List.set]
    refine wpAnyH_ready (rs := [3]) (by kernel_rfl) (by simp) ?_
    refine (AllReadyH.cons (o := { dst := some 125, op := Go.Op.load 43 (Go.Operand.tmp 124), type := 43, pos := _, after := _, guard := _ }) rfl (fun K hK => ?_) AllReadyH.nil)
    go_simp
    skip
    refine hK.out _ _ trivial (fun hHeld => ?_)
    clear hK K
    try simp only [Act.put]
    try simp only [List.setIfInBounds_toArray]
    try simp only [List.set]
    refine wpAnyH_ready (rs := [5]) (by kernel_rfl) (by simp) ?_
    refine (AllReadyH.cons (o := { dst := some 127, op := Go.Op.call { callee := Go.Callee.value (Go.Operand.func 29), args := #[Go.Operand.tmp 125, Go.Operand.tmp 126], argTypes := #[43, 28] }, type := 0, pos := _, after := _, guard := _ }) rfl (fun K hK => ?_) AllReadyH.nil)
    go_simp
    go_at_call 29
    refine (HADD.out _ HA8.out).mono ?_
    rintro e w9 ⟨rfl, vo2, ht, hc, ho⟩
    have HT9 := Lib.hid ht
    have HC9 := Lib.hid hc
    have HO9 := Lib.hid ho
    clear ht hc ho y0 y1 c0
    refine hK.out _ _ trivial (fun hHeld => ?_)
    clear hK K
    try simp only [Act.put]
    try simp only [List.setIfInBounds_toArray]
    try simp only [List.set]
    refine wpAnyH_done (by kernel_rfl) ?_ _
  rotate_left 1
  all_goals
    have hnt : ∀ k, w.heap.size ≤ k → ¬ TP g vo k := fun k hk e => by
      rcases e with e | e
      · have := HH.out.t.lt; omega
      · have := (HH.out.t.own.lt k e).2; omega
    have HR9 := Lib.hid (HR8.out.chg HC9.out (hnt _ (Nat.le_of_eq HG6.out)))
    have HF9 := Lib.hid (HF8.out.chg HC9.out (hnt _ HG19.out.1))
    have HU9 := Lib.hid ((HH.out.aft HA8.out).tab HT9.out HC9.out)
    have HCC : Hid (Chg (TP g vo) w w9) := Lib.hid ((Chg.of_aft HA8.out).trans HC9.out (fun i hi => Or.inl hi))
    have HOO : Hid ((∀ k, vo2.ownBlock = some k → vo.ownBlock = some k ∨ w.heap.size ≤ k) ∧ ∀ k, vo2.ownBlock = some k → k ≠ g6) := Lib.hid ⟨fun k hk => (HO9.out k hk).imp id (fun h => Nat.le_trans HA8.out.to.size h), fun k hk => by
      rcases HO9.out k hk with h1 | h1
      · have h2 := (HH.out.t.own.lt k h1).2; have h3 := HG6.out; omega
      · have h2 := lt_of_heap HR8.out; omega⟩
    clear hnt HT9 HC9 HO9 HA8 HR8 HF8 HADD
    go_wp2_with (first | (refine wpList_load_row rfl 28 (.tmp 19) rfl g19 rfl _ #[.string NB, .string VB] (0, 0) _ HF9.out Tryd.underlying28 rfl (fsz NB VB) ?_) | (refine wpList_store_rowTo rfl 57 (.tmp 6) (.tmp 130) rfl rfl g6 #[.string NB, .string VB, .int .i64 1] rfl rfl _ _ HR9.out (rwsz NB VB 1) rfl (rwone NB VB 1) ?_))
    have HRz := Lib.hid (HR9.out.row NB VB 1)
    have HUz := Lib.hid (HU9.out.setRow (g6 := g6) (by have h1 := HH.out.lt; have h2 := HG6.out; omega) (by have h1 := HH.out.t.lt; have h2 := HG6.out; omega) HOO.out.2 #[.string NB, .string VB, .int .i64 1])
    have HCz := Lib.hid (HCC.out.row g6 #[.string NB, .string VB, .int .i64 1] (Or.inr (Nat.le_of_eq HG6.out)))
    generalize w9.setRow g6 #[.string NB, .string VB, .int .i64 1] = Wz at HRz HUz HCz ⊢
    obtain ⟨z0, z1, z2⟩ := HRz.out.cells
    refine bodyPost_ret (v := .tuple #[.agg #[.string NB, .string VB, .int .i64 1], .int .i64 (t4 : Int), .int .i64 0]) (by simp [results, Tryd.results72, asAddr, go_sem, z0, z1, z2]) rfl ?_
    exact ⟨vo2, rfl, HUz.out, HCz.out, HOO.out.1⟩
set_option linter.unusedSimpArgs false in
set_option maxHeartbeats 16000000 in
set_option maxRecDepth 100000 in
theorem rurow_idx {w : World} {B gp g : Nat} {vo : Value} {l : List FieldL} {m top list : Int} {bad : Bool} {pb off cap : Nat} {b : List UInt8} {at_ : Nat} (h : RUn w B gp g vo l m top list bad) (hb : Rb w (.slice (some ⟨pb, off, none⟩) b.length cap) b) (hlen : b.length ≤ 1000000) (hl : l.length ≤ 1000000) (c : UInt8) (hc : b[at_]? = some c) (h128 : 128 ≤ c.toNat) (i t1 : Nat) (e0 E : Int) (hg : getL b at_ 7 = (i, t1, e0)) (hi : i ≤ 2147483647) (hE : (e0 ≠ 0 ∧ E = e0) ∨ (e0 = 0 ∧ getB l i = false ∧ E = 5) ∨ (e0 = 0 ∧ getB l i = true ∧ E = 0)) :
    Calls Tryd.prog 72 #[.pointer (some ⟨gp, 0, none⟩), .slice (some ⟨pb, off, none⟩) b.length cap, .int .i64 (at_ : Int)] w fun e w' => e = .returned (.tuple #[.agg #[.string ⟨(getF l i).1.toArray⟩, .string ⟨(getF l i).2.toArray⟩, .int .i64 1], .int .i64 (t1 : Int), .int .i64 E]) ∧ Aft w w' := by
  have hat : at_ < b.length := (List.getElem?_eq_some_iff.1 hc).1
  have HH := Lib.hid h
  have HB := Lib.hid hb
  have i1 : (at_ : Int) < (b.length : Int) := by omega
  have HA : Hid (Aft w (w.alloc (.cells #[.string ⟨#[]⟩, .string ⟨#[]⟩, .int .i64 0] 57))) := Lib.hid ((Aft.refl w).alloc _)
  have HR : Hid (RWB (w.alloc (.cells #[.string ⟨#[]⟩, .string ⟨#[]⟩, .int .i64 0] 57)) w.heap.size ⟨#[]⟩ ⟨#[]⟩ 0) := Lib.hid (heap_alloc_new w _)
  have hx := (HB.out.aft HA.out).cellAt hc
  have HG := Lib.hid (fun w' (a : Aft w w') => rpget_any (some ⟨pb, off, none⟩) cap b at_ 7 w' (HB.out.aft a) (by omega) (by omega) (Or.inr (Or.inr (Or.inr rfl))))
  unfold getV at HG
  rw [hg] at HG
  simp only at HG
  have HT := Lib.hid (fun w' (a : Aft w w') => rget_any (i : Int) (by omega) (by omega) (HH.out.aft a).t hl)
  obtain ⟨⟨f1, f2⟩, hf⟩ : ∃ q, getF l i = q := ⟨_, rfl⟩
  rw [hf] at HT
  unfold fieldV at HT
  simp only at HT
  obtain ⟨X, hX⟩ : ∃ B : ByteArray, (⟨f1.toArray⟩ : ByteArray) = B := ⟨_, rfl⟩
  obtain ⟨Y, hY⟩ : ∃ B : ByteArray, (⟨f2.toArray⟩ : ByteArray) = B := ⟨_, rfl⟩
  rw [hX, hY] at HT
  rw [hf]
  simp only
  rw [hX, hY]
  have q1 : (c.toNat : Int) ≥ 128 := by omega
  obtain ⟨K, hK⟩ : ∃ K, getB l i = K := ⟨_, rfl⟩
  rw [hK] at HT hE
  have hcase : (K = true ∧ e0 = 0 ∧ E = 0) ∨ (K = false ∧ e0 = 0 ∧ E = 5) ∨ (e0 ≠ 0 ∧ E = e0) := by
    rcases hE with h1 | h1 | h1
    · exact Or.inr (Or.inr h1)
    · exact Or.inr (Or.inl ⟨h1.2.1, h1.1, h1.2.2⟩)
    · exact Or.inl ⟨h1.2.1, h1.1, h1.2.2⟩
  clear h hb hlen hl hc hat hg hi h128 hf hX hY hK hE
  rcases hcase with ⟨rfl, rfl, rfl⟩ | ⟨rfl, rfl, rfl⟩ | ⟨he, rfl⟩
  · skip
    go_enter Tryd.func72, Tryd.ntmps72
    go_upto_region 2 with fail
    obtain ⟨g6, hg6⟩ : ∃ g6, w.heap.size = g6 := ⟨_, rfl⟩
    rw [hg6] at HR ⊢
    have HG6 := Lib.hid hg6
    generalize w.alloc (.cells #[.string ⟨#[]⟩, .string ⟨#[]⟩, .int .i64 0] 57) = W1 at HA HR hx ⊢
    clear hg6
    go_wp2_with fail
    refine (HG.out _ HA.out).mono ?_
    rintro e w9 ⟨rfl, rfl⟩
    obtain ⟨c0, -, -, -, -⟩ := (HH.out.aft HA.out).cells
    go_wp2_with fail
    refine (HT.out _ HA.out).mono ?_
    rintro e w3 ⟨rfl, a3⟩
    have a4 := a3.alloc (.cells #[.string X, .string Y] 28)
    have HA4 := Lib.hid (HA.out.trans a4)
    have HR4 := Lib.hid (HR.out.aft a4)
    have HF14 : Hid (FKB (w3.alloc (.cells #[.string X, .string Y] 28)) w3.heap.size X Y) := Lib.hid (heap_alloc_new w3 _)
    clear a3 a4 c0 hx HA HR HT HG i1
    go_upto_region 5 with fail
    generalize w3.heap.size = g14 at HF14 ⊢
    generalize w3.alloc (.cells #[.string X, .string Y] 28) = W4 at HA4 HR4 HF14 ⊢
    go_wp2_with (first | (refine wpList_load_row rfl 28 (.tmp 14) rfl g14 rfl _ #[.string X, .string Y] (0, 0) _ HF14.out Tryd.underlying28 rfl (fsz X Y) ?_) | (refine wpList_store_rowTo rfl 57 (.tmp 6) (.tmp 51) rfl rfl g6 #[.string X, .string Y, .int .i64 1] rfl rfl _ _ HR4.out (rwsz X Y 1) rfl (rwone X Y 1) ?_))
    have HRz := Lib.hid (HR4.out.row X Y 1)
    have HAz := Lib.hid (aftRow9 HA4.out (Nat.le_of_eq HG6.out) #[.string X, .string Y, .int .i64 1])
    generalize W4.setRow g6 #[.string X, .string Y, .int .i64 1] = Wz at HRz HAz ⊢
    obtain ⟨z0, z1, z2⟩ := HRz.out.cells
    refine bodyPost_ret (v := .tuple #[.agg #[.string X, .string Y, .int .i64 1], .int .i64 (t1 : Int), .int .i64 0]) (by simp [results, Tryd.results72, asAddr, go_sem, z0, z1, z2]) rfl ?_
    exact ⟨rfl, HAz.out⟩
  · skip
    go_enter Tryd.func72, Tryd.ntmps72
    go_upto_region 2 with fail
    obtain ⟨g6, hg6⟩ : ∃ g6, w.heap.size = g6 := ⟨_, rfl⟩
    rw [hg6] at HR ⊢
    have HG6 := Lib.hid hg6
    generalize w.alloc (.cells #[.string ⟨#[]⟩, .string ⟨#[]⟩, .int .i64 0] 57) = W1 at HA HR hx ⊢
    clear hg6
    go_wp2_with fail
    refine (HG.out _ HA.out).mono ?_
    rintro e w9 ⟨rfl, rfl⟩
    obtain ⟨c0, -, -, -, -⟩ := (HH.out.aft HA.out).cells
    go_wp2_with fail
    refine (HT.out _ HA.out).mono ?_
    rintro e w3 ⟨rfl, a3⟩
    have a4 := a3.alloc (.cells #[.string X, .string Y] 28)
    have HA4 := Lib.hid (HA.out.trans a4)
    have HR4 := Lib.hid (HR.out.aft a4)
    have HF14 : Hid (FKB (w3.alloc (.cells #[.string X, .string Y] 28)) w3.heap.size X Y) := Lib.hid (heap_alloc_new w3 _)
    clear a3 a4 c0 hx HA HR HT HG i1
    go_upto_region 5 with fail
    generalize w3.heap.size = g14 at HF14 ⊢
    generalize w3.alloc (.cells #[.string X, .string Y] 28) = W4 at HA4 HR4 HF14 ⊢
    go_wp2_with (first | (refine wpList_load_row rfl 28 (.tmp 14) rfl g14 rfl _ #[.string X, .string Y] (0, 0) _ HF14.out Tryd.underlying28 rfl (fsz X Y) ?_) | (refine wpList_store_rowTo rfl 57 (.tmp 6) (.tmp 51) rfl rfl g6 #[.string X, .string Y, .int .i64 1] rfl rfl _ _ HR4.out (rwsz X Y 1) rfl (rwone X Y 1) ?_))
    have HRz := Lib.hid (HR4.out.row X Y 1)
    have HAz := Lib.hid (aftRow9 HA4.out (Nat.le_of_eq HG6.out) #[.string X, .string Y, .int .i64 1])
    generalize W4.setRow g6 #[.string X, .string Y, .int .i64 1] = Wz at HRz HAz ⊢
    obtain ⟨z0, z1, z2⟩ := HRz.out.cells
    refine bodyPost_ret (v := .tuple #[.agg #[.string X, .string Y, .int .i64 1], .int .i64 (t1 : Int), .int .i64 5]) (by simp [results, Tryd.results72, asAddr, go_sem, z0, z1, z2]) rfl ?_
    exact ⟨rfl, HAz.out⟩
  · have i3 : (E == 0) = false := by simpa using he
    clear he
    go_enter Tryd.func72, Tryd.ntmps72
    go_upto_region 2 with fail
    obtain ⟨g6, hg6⟩ : ∃ g6, w.heap.size = g6 := ⟨_, rfl⟩
    rw [hg6] at HR ⊢
    have HG6 := Lib.hid hg6
    generalize w.alloc (.cells #[.string ⟨#[]⟩, .string ⟨#[]⟩, .int .i64 0] 57) = W1 at HA HR hx ⊢
    clear hg6
    go_wp2_with fail
    refine (HG.out _ HA.out).mono ?_
    rintro e w9 ⟨rfl, rfl⟩
    obtain ⟨c0, -, -, -, -⟩ := (HH.out.aft HA.out).cells
    go_wp2_with fail
    refine (HT.out _ HA.out).mono ?_
    rintro e w3 ⟨rfl, a3⟩
    have a4 := a3.alloc (.cells #[.string X, .string Y] 28)
    have HA4 := Lib.hid (HA.out.trans a4)
    have HR4 := Lib.hid (HR.out.aft a4)
    have HF14 : Hid (FKB (w3.alloc (.cells #[.string X, .string Y] 28)) w3.heap.size X Y) := Lib.hid (heap_alloc_new w3 _)
    clear a3 a4 c0 hx HA HR HT HG i1
    go_upto_region 5 with fail
    generalize w3.heap.size = g14 at HF14 ⊢
    generalize w3.alloc (.cells #[.string X, .string Y] 28) = W4 at HA4 HR4 HF14 ⊢
    go_wp2_with (first | (refine wpList_load_row rfl 28 (.tmp 14) rfl g14 rfl _ #[.string X, .string Y] (0, 0) _ HF14.out Tryd.underlying28 rfl (fsz X Y) ?_) | (refine wpList_store_rowTo rfl 57 (.tmp 6) (.tmp 51) rfl rfl g6 #[.string X, .string Y, .int .i64 1] rfl rfl _ _ HR4.out (rwsz X Y 1) rfl (rwone X Y 1) ?_))
    have HRz := Lib.hid (HR4.out.row X Y 1)
    have HAz := Lib.hid (aftRow9 HA4.out (Nat.le_of_eq HG6.out) #[.string X, .string Y, .int .i64 1])
    generalize W4.setRow g6 #[.string X, .string Y, .int .i64 1] = Wz at HRz HAz ⊢
    obtain ⟨z0, z1, z2⟩ := HRz.out.cells
    refine bodyPost_ret (v := .tuple #[.agg #[.string X, .string Y, .int .i64 1], .int .i64 (t1 : Int), .int .i64 E]) (by simp [results, Tryd.results72, asAddr, go_sem, z0, z1, z2]) rfl ?_
    exact ⟨rfl, HAz.out⟩
/-- A row's end, whatever stands there. -/
def RrPost (w : World) (B gp g : Nat) (vo : Value) (top list : Int) (bad : Bool) (m : Int) (q : RowL × List FieldL × Nat × Int) (e : Ending) (w' : World) : Prop :=
  ∃ (X Y : ByteArray) (how t : Int) (vo' : Value), e = .returned (.tuple #[.agg #[.string X, .string Y, .int .i64 how], .int .i64 t, .int .i64 q.2.2.2]) ∧ (q.2.2.2 = 0 → (⟨q.1.f.1.toArray⟩ : ByteArray) = X ∧ (⟨q.1.f.2.toArray⟩ : ByteArray) = Y ∧ how = q.1.how ∧ t = (q.2.2.1 : Int)) ∧ RUn w' B gp g vo' q.2.1 m top list bad ∧ Chg (TP g vo) w w' ∧ ∀ k, vo'.ownBlock = some k → vo.ownBlock = some k ∨ w.heap.size ≤ k
theorem RrNo.post {w w' : World} {B gp g : Nat} {vo : Value} {l : List FieldL} {m top list : Int} {bad : Bool} (h : RUn w B gp g vo l m top list bad) {q : RowL × List FieldL × Nat × Int} {E : Int} (hE : E ≠ 0) (hq : q.2.2.2 = E) (ht : q.2.1 = l) {e : Ending} (hp : RrNo w E e w') : RrPost w B gp g vo top list bad m q e w' := by
  obtain ⟨⟨X, Y, how, t, rfl⟩, a⟩ := hp
  refine ⟨X, Y, how, t, vo, by rw [hq], fun h0 => absurd (hq.symm.trans h0) hE, ?_, Chg.of_aft a, fun k hk => Or.inl hk⟩
  rw [ht]
  exact h.aft a
theorem RrOk.post {w w' : World} {B gp g : Nat} {vo : Value} {m top list : Int} {bad : Bool} {f : FieldL} {how : Int} {t4 : Nat} {l' : List FieldL} {e : Ending} (hp : RrOk w B gp g vo top list bad m f how t4 l' e w') : RrPost w B gp g vo top list bad m (⟨f, how⟩, l', t4, 0) e w' := by
  obtain ⟨vo', rfl, h1, h2, h3⟩ := hp
  exact ⟨_, _, _, _, vo', rfl, fun _ => ⟨rfl, rfl, rfl, rfl⟩, h1, h2, h3⟩
theorem rurow_wri {w : World} {B gp g : Nat} {vo : Value} {l : List FieldL} {m top list : Int} {bad : Bool} {pb off cap : Nat} {b : List UInt8} {at_ : Nat} (h : RUn w B gp g vo l m top list bad) (hb : Rb w (.slice (some ⟨pb, off, none⟩) b.length cap) b) (hlen : b.length ≤ 1000000) (hl : l.length ≤ 1000000) (c : UInt8) (hc : b[at_]? = some c) (hm0 : 0 ≤ m) (hm1 : m ≤ 65536) (hs : (sumF l : Int) ≤ m) (hB : B ≤ w.heap.size) (bits : Nat) (how : Int) (hk : RK c bits how) (q : RowL × List FieldL × Nat × Int) (hq : q = (⟨(writU l b at_ bits).1, how⟩, if how = 1 ∧ (writU l b at_ bits).2.2 = 0 then addF m (writU l b at_ bits).1 l else l, (writU l b at_ bits).2)) :
    Calls Tryd.prog 72 #[.pointer (some ⟨gp, 0, none⟩), .slice (some ⟨pb, off, none⟩) b.length cap, .int .i64 (at_ : Int)] w fun e w' => RrPost w B gp g vo top list bad m q e w' := by
  subst hq
  have hs2 : sumF l ≤ 65536 := by omega
  by_cases hE : (writU l b at_ bits).2.2 = 0
  · have hws := writU_size hs2 hE
    obtain ⟨i, t1, N, t3, V, t4, hg, hnm, ht, hw⟩ := writU_ok hE
    rw [hw] at hws ⊢
    simp only at hws ⊢
    by_cases h1 : how = 1
    · subst h1
      rw [if_pos (by simp)]
      obtain ⟨k1, k2, rfl⟩ : 64 ≤ c.toNat ∧ c.toNat < 128 ∧ bits = 6 := by
        rcases hk with ⟨k1, k2, k3, _⟩ | ⟨_, _, _, k3⟩ | ⟨_, _, k3⟩
        · exact ⟨k1, k2, k3⟩
        · exact absurd k3 (by decide)
        · exact absurd k3 (by decide)
      rcases hnm with ⟨hi, hn, hN, h3⟩ | ⟨hi, hn⟩
      · exact (rurow_add_k h hb hlen hl c hc hm0 hm1 hs hB k1 k2 i t1 hg N t3 hi hn hN h3 V t4 ht (by omega)).mono (fun e w' hp => hp.post)
      · exact (rurow_add_t h hb hlen hl c hc hm0 hm1 hs hB k1 k2 i t1 hg N t3 hi hn V t4 ht (by omega)).mono (fun e w' hp => hp.post)
    · rw [if_neg (fun e => h1 e.1)]
      rcases hnm with ⟨hi, hn, hN, h3⟩ | ⟨hi, hn⟩
      · exact (rurow_oth_k h hb hlen hl c hc bits how hk h1 i t1 hg N t3 hi hn hN h3 V t4 ht).mono (fun e w' hp => hp.post)
      · exact (rurow_oth_t h hb hlen hl c hc bits how hk h1 i t1 hg N t3 hi hn V t4 ht).mono (fun e w' hp => hp.post)
  · rw [if_neg (fun e => hE e.2)]
    have hno := writU_no (E := (writU l b at_ bits).2.2) rfl hE
    rcases hno with h1 | ⟨i, t1, hg, h1⟩
    · exact (rurow_num h hb hlen hl c hc bits how hk _ hE h1).mono (fun e w' hp => hp.post h hE rfl rfl)
    rcases h1 with ⟨hi, hn, h5⟩ | ⟨hi, ht⟩ | ⟨N, t3, hnm, ht⟩
    · refine (rurow_kno h hb hlen hl c hc bits how hk i t1 hg hi hn).mono (fun e w' hp => hp.post h (by decide) ?_ rfl)
      exact h5
    · exact (rurow_nam h hb hlen hl c hc bits how hk _ hE i t1 hg hi ht).mono (fun e w' hp => hp.post h hE rfl rfl)
    · rcases hnm with ⟨hi, hn, hN, h3⟩ | ⟨hi, hn⟩
      · exact (rurow_val_k h hb hlen hl c hc bits how hk i t1 hg N t3 hi hn hN h3 _ hE ht).mono (fun e w' hp => hp.post h hE rfl rfl)
      · exact (rurow_val_t h hb hlen hl c hc bits how hk i t1 hg N t3 hi hn _ hE ht).mono (fun e w' hp => hp.post h hE rfl rfl)
theorem rurow_any {w : World} {B gp g : Nat} {vo : Value} {l : List FieldL} {m top list : Int} {bad : Bool} {va : Option Addr} {cap : Nat} {b : List UInt8} {at_ : Nat} (h : RUn w B gp g vo l m top list bad) (hb : Rb w (.slice va b.length cap) b) (hlen : b.length ≤ 1000000) (c : UInt8) (hc : b[at_]? = some c) (hm0 : 0 ≤ m) (hm1 : m ≤ 65536) (hs : (sumF l : Int) ≤ m) (hB : B ≤ w.heap.size) (hnot : ¬ (32 ≤ c.toNat ∧ c.toNat < 64)) :
    Calls Tryd.prog 72 #[.pointer (some ⟨gp, 0, none⟩), .slice va b.length cap, .int .i64 (at_ : Int)] w fun e w' => RrPost w B gp g vo top list bad m (rowU m l b at_ c.toNat) e w' := by
  have hl : l.length ≤ 1000000 := by have := sumF_len l; omega
  obtain ⟨pb, off, rfl⟩ : ∃ pb off, va = some ⟨pb, off, none⟩ := by
    obtain ⟨hlt, hce⟩ := List.getElem?_eq_some_iff.1 hc
    rcases hb with ⟨⟨a0, h1⟩, h2⟩ | ⟨b1, o1, c1, e, h1, h2, h3, h4⟩
    · rw [h2] at hlt; simp at hlt
    · injection e with e1 _ e2
      exact ⟨_, _, e1⟩
  by_cases h128 : 128 ≤ c.toNat
  · unfold rowU
    rw [if_pos h128]
    obtain ⟨⟨i, t1, e0⟩, hg⟩ : ∃ q, getL b at_ 7 = q := ⟨_, rfl⟩
    have hi : i ≤ 2147483647 := by
      rcases getL_code b at_ 7 with h1 | h1 | h1
      · have := getL_to (b := b) (at_ := at_) (n := 7) (by decide) h1
        rw [hg] at this
        exact this.2.2
      · rw [hg] at h1; injection h1 with h1; omega
      · rw [hg] at h1; injection h1 with h1; omega
    by_cases h0 : e0 = 0
    · subst h0
      by_cases hk : getB l i = true
      · refine (rurow_idx h hb hlen hl c hc h128 i t1 0 0 hg hi (Or.inr (Or.inr ⟨rfl, hk, rfl⟩))).mono ?_
        rintro e w' ⟨rfl, a⟩
        have hq : idxU l b at_ = (getF l i, t1, 0) := by unfold idxU; rw [hg]; simp only; rw [if_neg (by simp), if_pos hk]
        rw [hq]
        exact ⟨_, _, _, _, vo, rfl, fun _ => ⟨rfl, rfl, rfl, rfl⟩, h.aft a, Chg.of_aft a, fun k hk => Or.inl hk⟩
      · have hk2 : getB l i = false := by simpa using hk
        refine (rurow_idx h hb hlen hl c hc h128 i t1 0 5 hg hi (Or.inr (Or.inl ⟨rfl, hk2, rfl⟩))).mono ?_
        rintro e w' ⟨rfl, a⟩
        have hq : idxU l b at_ = (([], []), 0, 5) := by unfold idxU; rw [hg]; simp only; rw [if_neg (by simp), if_neg hk]
        rw [hq]
        exact ⟨_, _, _, _, vo, rfl, fun h => by simp at h, h.aft a, Chg.of_aft a, fun k hk => Or.inl hk⟩
    · refine (rurow_idx h hb hlen hl c hc h128 i t1 e0 e0 hg hi (Or.inl ⟨h0, rfl⟩)).mono ?_
      rintro e w' ⟨rfl, a⟩
      have hq : idxU l b at_ = (([], []), 0, e0) := by unfold idxU; rw [hg]; simp only; rw [if_pos h0]
      rw [hq]
      exact ⟨_, _, _, _, vo, rfl, fun h => absurd h h0, h.aft a, Chg.of_aft a, fun k hk => Or.inl hk⟩
  · by_cases h64 : 64 ≤ c.toNat
    · refine rurow_wri h hb hlen hl c hc hm0 hm1 hs hB 6 1 (Or.inl ⟨h64, by omega, rfl, rfl⟩) _ ?_
      unfold rowU
      rw [if_neg h128, if_pos h64]
      simp
    · by_cases h16 : 16 ≤ c.toNat
      · refine rurow_wri h hb hlen hl c hc hm0 hm1 hs hB 4 3 (Or.inr (Or.inl ⟨h16, by omega, rfl, rfl⟩)) _ ?_
        unfold rowU
        rw [if_neg h128, if_neg h64, if_pos h16]
        simp
      · refine rurow_wri h hb hlen hl c hc hm0 hm1 hs hB 4 2 (Or.inr (Or.inr ⟨by omega, rfl, rfl⟩)) _ ?_
        unfold rowU
        rw [if_neg h128, if_neg h64, if_neg h16]
        simp
end Go.Proofs.YtmlnboibclfmcaaDoor
namespace Go.Proofs.YtmlnboibclfmcaaDoor
open Go.RowKit
set_option linter.unusedVariables false

theorem and_e0 : ∀ c, c < 256 → (bits .and .u8 ((c : Nat) : Int) 224 == 32) = decide (32 ≤ c ∧ c < 64) := by decide +kernel
theorem rowU_size {most : Int} {l : List FieldL} {b : List UInt8} {at_ c : Nat} (hs : sumF l ≤ 65536) (h : (rowU most l b at_ c).2.2.2 = 0) : fsize (rowU most l b at_ c).1.f ≤ 1000000 := by
  unfold rowU at h ⊢
  split
  · rename_i h1
    rw [if_pos h1] at h
    simp only at h ⊢
    unfold idxU at h ⊢
    by_cases h2 : (getL b at_ 7).2.2 ≠ 0
    · rw [if_pos h2] at h; exact absurd h h2
    rw [if_neg h2] at h ⊢
    by_cases h3 : getB l (getL b at_ 7).1 = true
    · rw [if_pos h3]
      have := (getF_size hs h3).1
      simp only; omega
    · rw [if_neg h3] at h; simp at h
  rename_i h1
  rw [if_neg h1] at h
  split
  · rename_i h2; rw [if_pos h2] at h; exact writU_size hs h
  rename_i h2
  rw [if_neg h2] at h
  split
  · rename_i h3; rw [if_pos h3] at h; exact writU_size hs h
  rename_i h3
  rw [if_neg h3] at h
  exact writU_size hs h
theorem RUn.notRow {w : World} {B gp g : Nat} {vo : Value} {l : List FieldL} {m top list : Int} {bad : Bool} (h : RUn w B gp g vo l m top list bad) {k : Nat} {cur : Array Value} (hk : w.heap[k]? = some (.cells cur 57 (0, 0))) : ¬ PU gp g vo k := by
  intro e
  rcases e with rfl | rfl | e
  · rw [h.p] at hk
    injection hk with hk
    injection hk with _ hk
    exact absurd hk (by decide)
  · rw [h.t.blk] at hk
    injection hk with hk
    injection hk with _ hk
    exact absurd hk (by decide)
  · obtain ⟨cur2, h2⟩ := h.t.own.blk e
    rw [h2] at hk
    injection hk with hk
    injection hk with _ hk
    exact absurd hk (by decide)
/-- A block's end, the reference's. -/
def RBlkPost (w : World) (B gp g : Nat) (vo : Value) (top list : Int) (q : US × Int) (e : Ending) (w' : World) : Prop :=
  (q.2 = 0 ∧ ∃ (ra : Option Addr) (rk : Nat) (vo' : Value), e = .returned (.tuple #[.slice ra q.1.rows.length rk, .int .i64 0]) ∧ RUn w' B gp g vo' q.1.tab q.1.most top list false ∧ OwnW w' w.heap.size (.slice ra q.1.rows.length rk) q.1.rows ∧ Chg (PU gp g vo) w w' ∧ ∀ k, vo'.ownBlock = some k → vo.ownBlock = some k ∨ w.heap.size ≤ k) ∨
  (q.2 ≠ 0 ∧ ∃ vo' : Value, e = .returned (.tuple #[.slice none 0 0, .int .i64 q.2]) ∧ RUn w' B gp g vo' q.1.tab q.1.most top list true ∧ Chg (PU gp g vo) w w' ∧ ∀ k, vo'.ownBlock = some k → vo.ownBlock = some k ∨ w.heap.size ≤ k)
/-- What stands between two steps. -/
structure RL (w wr : World) (B gp g : Nat) (vo vo1 : Value) (top list : Int) (s : US) (vr : Value) : Prop where
  ru : RUn wr B gp g vo1 s.tab s.most top list false
  chg : Chg (PU gp g vo) w wr
  own : OwnW wr w.heap.size vr s.rows
  ob : ∀ k, vo1.ownBlock = some k → vo.ownBlock = some k ∨ w.heap.size ≤ k
  sz : s.sizes ≤ 2
theorem RL.aft {w wr wx : World} {B gp g : Nat} {vo vo1 : Value} {top list : Int} {s : US} {vr : Value} (h : RL w wr B gp g vo vo1 top list s vr) (a : Aft wr wx) : RL w wx B gp g vo vo1 top list s vr :=
  ⟨h.ru.aft a, h.chg.aft a, h.own.aft a, h.ob, h.sz⟩
theorem RL.go {w wr wx : World} {B gp g : Nat} {vo vo1 vo2 : Value} {top list : Int} {s : US} {vr : Value} (h : RL w wr B gp g vo vo1 top list s vr) {T : List FieldL} {M : Int} (hu : RUn wx B gp g vo2 T M top list false) (c : Chg (TP g vo1) wr wx) (ob2 : ∀ k, vo2.ownBlock = some k → vo1.ownBlock = some k ∨ wr.heap.size ≤ k) : RL w wx B gp g vo vo2 top list { s with tab := T, most := M } vr := by
  refine ⟨hu, h.chg.trans c (fun i hi => ?_), h.own.chg c (fun k hk e => ?_), fun k hk => ?_, h.sz⟩
  · rcases hi with rfl | hi
    · exact Or.inl (Or.inr (Or.inl rfl))
    · rcases h.ob i hi with h1 | h1
      · exact Or.inl (Or.inr (Or.inr h1))
      · exact Or.inr h1
  · obtain ⟨cur, h9⟩ := h.own.blk hk
    exact h.ru.notRow h9 (Or.inr e)
  · rcases ob2 k hk with h1 | h1
    · exact h.ob k h1
    · exact Or.inr (Nat.le_trans h.chg.size h1)
theorem RL.push {w wr wx : World} {B gp g : Nat} {vo vo1 : Value} {top list : Int} {s : US} {vr : Value} (h : RL w wr B gp g vo vo1 top list s vr) (gw : wr.grownBy wx vr.ownBlock) {v2 : Value} {l2 : List RowL} (o : OwnW wx w.heap.size v2 l2) : RL w wx B gp g vo vo1 top list { s with rows := l2 } v2 := by
  have hc : Chg (fun k => vr.ownBlock = some k) wr wx := Chg.grown gw (fun k h => h)
  have hn : ∀ k, vr.ownBlock = some k → ¬ PU gp g vo1 k := fun k hk => by
    obtain ⟨cur, h9⟩ := h.own.blk hk
    exact h.ru.notRow h9
  exact ⟨h.ru.chg hc (fun e => hn _ e (Or.inl rfl)) (fun e => hn _ e (Or.inr (Or.inl rfl))) (fun k hk e => hn k e (Or.inr (Or.inr hk))), h.chg.trans hc (fun k hk => Or.inr (World.ownsRow.lt h.own k hk).1), o, h.ob, h.sz⟩
theorem RL.fail {w wr : World} {B gp g : Nat} {vo vo1 : Value} {top list : Int} {s : US} {vr : Value} (h : RL w wr B gp g vo vo1 top list s vr) (s' : US) (h1 : s'.tab = s.tab) (h2 : s'.most = s.most) {E : Int} (hE : E ≠ 0) {Q : US × Int} (hQ : Q = (s', E)) : RBlkPost w B gp g vo top list Q (.returned (.tuple #[.slice none 0 0, .int .i64 E])) (wr.setCell ⟨gp, 3, none⟩ (.bool true)) := by
  subst hQ
  refine Or.inr ⟨hE, vo1, rfl, ?_, h.chg.set gp 3 _ (Or.inl (Or.inl rfl)), h.ob⟩
  simp only
  rw [h1, h2]
  exact h.ru.put3 true
theorem RL.done {w wr : World} {B gp g : Nat} {vo vo1 : Value} {top list : Int} {s : US} {ra : Option Addr} {rk : Nat} (h : RL w wr B gp g vo vo1 top list s (.slice ra s.rows.length rk)) {Q : US × Int} (hQ : Q = (s, 0)) : RBlkPost w B gp g vo top list Q (.returned (.tuple #[.slice ra s.rows.length rk, .int .i64 0])) wr := by
  subst hQ
  exact Or.inl ⟨rfl, ra, rk, vo1, rfl, h.ru, h.own, h.chg, h.ob⟩
set_option linter.unusedSimpArgs false in
set_option maxHeartbeats 4000000 in
theorem rublock_bad {w : World} {B gp g : Nat} {vo : Value} {l : List FieldL} {most top list : Int} (h : RUn w B gp g vo l most top list true) (va : Option Addr) (n cap : Nat) : Calls Tryd.prog 54 #[.pointer (some ⟨gp, 0, none⟩), .slice va n cap] w fun e w' => e = .returned (.tuple #[.slice none 0 0, .int .i64 1]) ∧ Aft w w' := by
  obtain ⟨-, -, -, d3, -⟩ := h.cells
  clear h
  go_enter Tryd.func54, Tryd.ntmps54
  go_wp2_with fail
  go_ret2
  exact ⟨rfl, Aft.refl _⟩
set_option linter.unusedSimpArgs false in
set_option maxHeartbeats 16000000 in
set_option maxRecDepth 100000 in
theorem rublock_any {w : World} {B gp g : Nat} {vo : Value} {l : List FieldL} {most top list : Int} {va : Option Addr} {cap : Nat} {b : List UInt8} (h : RUn w B gp g vo l most top list false) (hb : ∀ wx, Chg (PU gp g vo) w wx → Rb wx (.slice va b.length cap) b) (hB : B ≤ w.heap.size) (hlen : b.length ≤ 1000000) (hl : (sumF l : Int) ≤ most) (hm0 : 0 ≤ most) (hm1 : most ≤ 65536) (htop : top ≤ 65536) (hl0 : 0 ≤ list) (hl1 : list ≤ 2147483647) :
    Calls Tryd.prog 54 #[.pointer (some ⟨gp, 0, none⟩), .slice va b.length cap] w fun e w' => RBlkPost w B gp g vo top list (blkU top list b l most) e w' := by
  have HB := Lib.hid hb
  have HB0 := Lib.hid hB
  have HT := Lib.hid (And.intro hl1 htop)
  obtain ⟨Q, hQ⟩ : ∃ Q, blkU top list b l most = Q := ⟨_, rfl⟩
  rw [hQ]
  have HQ0 : Hid (runU top list b (b.length + 1) (us0 l most) = Q) := Lib.hid hQ
  have HL0 : Hid (RL w w B gp g vo vo top list (us0 l most) (.slice none 0 0)) := Lib.hid ⟨h, Chg.refl _ _, ⟨rfl, Or.inl ⟨rfl, rfl⟩⟩, fun k hk => Or.inl hk, by show 0 ≤ 2; decide⟩
  have HSI0 : Hid (SI list b (us0 l most)) := Lib.hid ⟨Nat.zero_le _, Nat.le_refl _, by show ((0 : Nat) : Int) ≤ list; omega, hl, hm0, hm1⟩
  obtain ⟨-, -, -, d3, -⟩ := h.cells
  clear h hb hB hl hm0 hm1 htop hl0 hl1 hQ
  go_enter Tryd.func54, Tryd.ntmps54
  go_wp2_with fail
  clear d3
  go_loopw [6, 7, 8, 9] (fun vl vat vsum vsz wr => ∃ (s : US) (ra : Option Addr) (rk : Nat) (vo1 : Value), vl = .slice ra s.rows.length rk ∧ vat = .int .i64 (s.at_ : Int) ∧ vsum = .int .i64 (s.sum : Int) ∧ vsz = .int .i64 (s.sizes : Int) ∧ Hid (RL w wr B gp g vo vo1 top list s (.slice ra s.rows.length rk)) ∧ Hid (SI list b s) ∧ Hid (runU top list b (b.length + 1) s = Q)) (fun _ vat _ _ _ => b.length - (intOf vat).toNat)
  case atStart => exact ⟨us0 l most, none, 0, vo, rfl, rfl, rfl, rfl, HL0, HSI0, HQ0⟩
  case round =>
    clear HL0 HSI0 HQ0
    obtain ⟨⟨at_, rows, sum, sizes, tab, mst⟩, ra, rk, vo1, rfl, rfl, rfl, rfl, HL, HSI, HQ⟩ := hrel
    try simp only
    by_cases hlt : at_ < b.length
    · obtain ⟨c, hc⟩ : ∃ c, b[at_]? = some c := ⟨_, List.getElem?_eq_getElem hlt⟩
      obtain ⟨pb, off, rfl⟩ : ∃ pb off, va = some ⟨pb, off, none⟩ := by
        rcases HB.out w (Chg.refl _ _) with ⟨⟨a0, h1⟩, h2⟩ | ⟨b1, o1, c1, e, h1, h2, h3, h4⟩
        · rw [h2] at hlt; simp at hlt
        · injection e with e1 _ e2
          exact ⟨_, _, e1⟩
      have HRS := Lib.hid (runU_step (top := top) (list := list) (s := ⟨at_, rows, sum, sizes, tab, mst⟩) hc)
      have HSN := Lib.hid (fun he => SI.step (top := top) (c := c.toNat) HSI.out HT.out.2 he)
      have HTO := Lib.hid (fun he => stepU_to (top := top) (list := list) (b := b) (s := ⟨at_, rows, sum, sizes, tab, mst⟩) (c := c.toNat) he)
      have hx := (HB.out wr HL.out.chg).cellAt hc
      have hm := HSI.out.most1
      have hsF : sumF tab ≤ 65536 := by have h1 := HSI.out.tab; have h2 := HSI.out.most1; simp only at h1 h2; omega
      have hrl : rows.length ≤ 1000000 := by have h1 := HSI.out.rows; simp only at h1; omega
      have hszz : sizes ≤ 2 := HL.out.sz
      have hsumz : (sum : Int) ≤ 2147483647 := by have h1 := HSI.out.sum; have h2 := HT.out.1; simp only at h1; omega
      obtain ⟨c0, c1, c2, c3, f3⟩ := HL.out.ru.cells
      obtain ⟨ln, hln⟩ : ∃ ln, rows.length = ln := ⟨_, rfl⟩
      have HLN := Lib.hid hln
      have i1 : (at_ : Int) < (b.length : Int) := by omega
      obtain ⟨K, hK⟩ : ∃ K, bits .and .u8 (c.toNat : Int) 224 = K := ⟨_, rfl⟩
      by_cases h32 : 32 ≤ c.toNat ∧ c.toNat < 64
      · have hK32 : (K == 32) = true := by rw [← hK, and_e0 _ c.toNat_lt]; exact decide_eq_true h32
        obtain ⟨⟨n, t1, e0⟩, hg⟩ : ∃ q, getL b at_ 5 = q := ⟨_, rfl⟩
        have HG := Lib.hid (rpget_any (some ⟨pb, off, none⟩) cap b at_ 5 wr (HB.out wr HL.out.chg) (by omega) (by omega) (Or.inr (Or.inl rfl)))
        unfold getV at HG
        rw [hg] at HG
        simp only at HG
        have hst : stepU top list b ⟨at_, rows, sum, sizes, tab, mst⟩ c.toNat = if e0 ≠ 0 then (⟨at_, rows, sum, sizes, tab, mst⟩, e0) else if rows ≠ [] ∨ 2 ≤ sizes ∨ top < (n : Int) then (⟨at_, rows, sum, sizes, tab, mst⟩, 6) else (⟨t1, rows, sum, sizes + 1, fitF (n : Int) tab, (n : Int)⟩, 0) := by
          unfold stepU
          rw [if_pos h32]
          simp only [hg]
        by_cases he : e0 = 0
        · subst he
          rw [if_neg (by simp)] at hst
          have hrows : (rows ≠ [] ∧ 0 < ln) ∨ (rows = [] ∧ ln = 0) := by
            cases rows with
            | nil => exact Or.inr ⟨rfl, by rw [← hln]; rfl⟩
            | cons a l => exact Or.inl ⟨by simp, by rw [← hln]; simp⟩
          have hcase : ((rows ≠ [] ∨ 2 ≤ sizes ∨ top < (n : Int)) ∧ (0 < ln ∨ (ln = 0 ∧ sizes = 2) ∨ (ln = 0 ∧ sizes ≠ 2 ∧ top < (n : Int)))) ∨ (¬ (rows ≠ [] ∨ 2 ≤ sizes ∨ top < (n : Int)) ∧ ln = 0 ∧ sizes ≠ 2 ∧ (n : Int) ≤ top) := by
            by_cases h1 : rows ≠ [] ∨ 2 ≤ sizes ∨ top < (n : Int)
            · left
              refine ⟨h1, ?_⟩
              rcases hrows with ⟨h2, h3⟩ | ⟨h2, h3⟩
              · exact Or.inl h3
              · rcases h1 with h1 | h1 | h1
                · exact absurd h2 h1
                · exact Or.inr (Or.inl ⟨h3, by omega⟩)
                · by_cases h4 : sizes = 2
                  · exact Or.inr (Or.inl ⟨h3, h4⟩)
                  · exact Or.inr (Or.inr ⟨h3, h4, h1⟩)
            · right
              refine ⟨h1, ?_, by omega, by omega⟩
              rcases hrows with ⟨h2, h3⟩ | ⟨h2, h3⟩
              · exact absurd (Or.inl h2) h1
              · exact h3
          rcases hcase with ⟨h1, hno⟩ | ⟨h1, hl0, hs2, hn⟩
          · rw [if_pos h1] at hst
            have HQ1 : Hid (Q = (⟨at_, rows, sum, sizes, tab, mst⟩, 6)) := Lib.hid (by rw [← HQ.out, HRS.out, hst, if_pos (by show (6 : Int) ≠ 0; decide)])
            rw [hln]
            clear h1 hst hg HRS HSN HTO hsF hrl hszz hsumz hm hc hlt h32 hrows hln
            rcases hno with h1 | ⟨h1, h2⟩ | ⟨h1, h2, h3⟩
            · have i5 : (ln : Int) > 0 := by omega
              clear h1
              go_wp2_with fail
              refine HG.out.mono ?_
              rintro e w1 ⟨rfl, rfl⟩
              go_wp2_with fail
              go_ret2
              exact HL.out.fail _ rfl rfl (by decide) HQ1.out
            · have i5 : ¬ ((ln : Int) > 0) := by omega
              have i6 : ((sizes : Int) == 2) = true := by rw [h2]; rfl
              clear h1 h2
              go_wp2_with fail
              refine HG.out.mono ?_
              rintro e w1 ⟨rfl, rfl⟩
              go_wp2_with fail
              go_ret2
              exact HL.out.fail _ rfl rfl (by decide) HQ1.out
            · have i5 : ¬ ((ln : Int) > 0) := by omega
              have i6 : ((sizes : Int) == 2) = false := by simp; omega
              have i7 : (n : Int) > top := h3
              clear h1 h2 h3
              go_wp2_with fail
              refine HG.out.mono ?_
              rintro e w1 ⟨rfl, rfl⟩
              go_wp2_with fail
              go_ret2
              exact HL.out.fail _ rfl rfl (by decide) HQ1.out
          · rw [if_neg h1] at hst
            have hgt := getL_to (b := b) (at_ := at_) (n := 5) (by decide) (by rw [hg])
            rw [hg] at hgt
            simp only at hgt
            have HQ1 : Hid (runU top list b (b.length + 1) ⟨t1, rows, sum, sizes + 1, fitF (n : Int) tab, (n : Int)⟩ = Q) := Lib.hid (by rw [← HQ.out, HRS.out, hst, if_neg (by simp)])
            have HSI2 : Hid (SI list b ⟨t1, rows, sum, sizes + 1, fitF (n : Int) tab, (n : Int)⟩) := Lib.hid (by have := HSN.out (by rw [hst]); rw [hst] at this; exact this)
            have HRZ := Lib.hid (rresize_yes (n : Int) HL.out.ru.t (by simp only; omega) (by omega) (by have := HT.out.2; omega))
            have HGT : Hid (at_ < t1 ∧ at_ < b.length) := Lib.hid ⟨hgt.1, hlt⟩
            have HSZ2 : Hid (sizes + 1 ≤ 2) := Lib.hid (by omega)
            have HLZ : Hid (rows.length = 0) := Lib.hid (by omega)
            have i5 : ¬ ((ln : Int) > 0) := by omega
            have i6 : ((sizes : Int) == 2) = false := by simp; omega
            have i7 : ¬ ((n : Int) > top) := by omega
            have gw : IntKind.i64.wrap ((sizes : Int) + 1) = (sizes : Int) + 1 := IntWalk.i64_in _ (by omega)
            rw [hln]
            try simp only at HRZ
            clear h1 hst hg hgt HRS HSN HTO hsF hrl hszz hsumz hm hc hlt h32 hrows hl0 hs2 hn hln HQ HSI
            go_wp2_with fail
            refine HG.out.mono ?_
            rintro e w1 ⟨rfl, rfl⟩
            go_wp2_with fail
            refine HRZ.out.mono ?_
            rintro e w2 ⟨rfl, vo2, ht, hc2, ho⟩
            have HL2 := Lib.hid (HL.out.go (HL.out.ru.tab ht (hc2.mono (fun i hi => Or.inl hi))) (hc2.mono (fun i hi => Or.inl hi)) (fun k hk => Or.inl (ho k hk)))
            clear ht hc2 ho c0 c1 c2 c3 f3 hx HL HRZ HG
            go_wp2_with fail
            go_roundw
            case rel => exact ⟨⟨t1, rows, sum, sizes + 1, fitF (n : Int) tab, (n : Int)⟩, ra, rk, vo2, (by first | (show Value.slice ra 0 rk = Value.slice ra rows.length rk; rw [HLZ.out]) | (show Value.slice ra ln rk = Value.slice ra rows.length rk; rw [HLN.out])), rfl, rfl, congrArg (Value.int .i64) (by first | omega | (simp only; omega)), Lib.hid ⟨HL2.out.ru, HL2.out.chg, HL2.out.own, HL2.out.ob, HSZ2.out⟩, HSI2, HQ1⟩
            case measure => have h1 := HGT.out.1; have h2 := HGT.out.2; simp [intOf]; omega
        · rw [if_pos he] at hst
          have HQ1 : Hid (Q = (⟨at_, rows, sum, sizes, tab, mst⟩, e0)) := Lib.hid (by rw [← HQ.out, HRS.out, hst, if_pos he])
          have i3 : (e0 == 0) = false := by simpa using he
          have i4 : (e0 != 0) = true := by simpa using he
          have HE := Lib.hid he
          rw [hln]
          clear hst hg HRS HSN HTO hsF hrl hszz hsumz hm hc hlt h32 hln he
          go_wp2_with fail
          refine HG.out.mono ?_
          rintro e w1 ⟨rfl, rfl⟩
          go_wp2_with fail
          go_ret2
          exact HL.out.fail _ rfl rfl HE.out HQ1.out
      · have hK32 : (K == 32) = false := by rw [← hK, and_e0 _ c.toNat_lt]; exact decide_eq_false h32
        have HROW := Lib.hid (rurow_any HL.out.ru (HB.out wr HL.out.chg) hlen c hc HSI.out.most0 HSI.out.most1 HSI.out.tab (Nat.le_trans HB0.out HL.out.chg.size) h32)
        have hto := rowU_to (most := mst) (l := tab) (b := b) (at_ := at_) (c := c.toNat)
        have hrs := rowU_size (most := mst) (l := tab) (b := b) (at_ := at_) (c := c.toNat) hsF
        have hrt := rowU_tab (most := mst) (l := tab) (b := b) (at_ := at_) (c := c.toNat)
        have hst : stepU top list b ⟨at_, rows, sum, sizes, tab, mst⟩ c.toNat = if (rowU mst tab b at_ c.toNat).2.2.2 ≠ 0 then (⟨at_, rows, sum, sizes, tab, mst⟩, (rowU mst tab b at_ c.toNat).2.2.2) else (⟨(rowU mst tab b at_ c.toNat).2.2.1, rows ++ [(rowU mst tab b at_ c.toNat).1], sum + fsize (rowU mst tab b at_ c.toNat).1.f, sizes, (rowU mst tab b at_ c.toNat).2.1, mst⟩, if list < ((sum + fsize (rowU mst tab b at_ c.toNat).1.f : Nat) : Int) then 2 else 0) := by
          unfold stepU
          rw [if_neg h32]
        try simp only at HROW
        obtain ⟨q, hq⟩ : ∃ q, rowU mst tab b at_ c.toNat = q := ⟨_, rfl⟩
        rw [hq] at HROW hto hrs hrt hst
        obtain ⟨⟨⟨f1, f2⟩, how⟩, T2, t1, E⟩ := q
        try simp only at hto hrs hrt hst
        have HST := Lib.hid hst
        have HLT := Lib.hid hlt
        rw [hln]
        clear hst hq hsF hszz hm hc hlt h32
        go_wp2_with fail
        refine HROW.out.mono ?_
        rintro e w2 ⟨X, Y, how', t1', vo2, rfl, hqq, hu, hc2, ho⟩
        try simp only at hqq hu
        have HL2 := Lib.hid (HL.out.go hu hc2 ho)
        have a3 := (Aft.refl w2).alloc (.cells #[.string X, .string Y, .int .i64 how'] 57)
        have HL3 := Lib.hid (HL2.out.aft a3)
        have HR3 : Hid (RWB (w2.alloc (.cells #[.string X, .string Y, .int .i64 how'] 57)) w2.heap.size X Y how') := Lib.hid (heap_alloc_new w2 _)
        clear a3 hu hc2 ho c0 c1 c2 c3 f3 hx HL HL2 HROW
        go_upto_region 18 with fail
        generalize w2.heap.size = g13 at HR3 ⊢
        generalize w2.alloc (.cells #[.string X, .string Y, .int .i64 how'] 57) = W3 at HL3 HR3 ⊢
        by_cases hE : E = 0
        · subst hE
          obtain ⟨hX, hY, hh, rfl⟩ := hqq rfl
          obtain rfl : how = how' := hh.symm
          have hto := hto rfl
          have hrs := hrs rfl
          obtain ⟨fs, hfs⟩ : ∃ fs, fsize (f1, f2) = fs := ⟨_, rfl⟩
          have HBY := Lib.hid (fun w => rbytes_any (f1, f2) (by omega) w)
          unfold fieldV at HBY
          simp only at HBY
          rw [hfs, hX, hY] at HBY
          rw [hfs] at hrs
          obtain ⟨x0, x1, x2⟩ := HR3.out.cells
          have HXY := Lib.hid (And.intro hX hY)
          have HGT : Hid (at_ < t1 ∧ at_ < b.length) := Lib.hid ⟨hto.1, HLT.out⟩
          have gsum : IntKind.i64.wrap ((sum : Int) + (fs : Int)) = (sum : Int) + (fs : Int) := IntWalk.i64_in _ (by omega)
          have HRB := Lib.hid hrl
          have HFS := Lib.hid hfs
          clear hqq hto hrs hrt hX hY hrl hsumz hfs
          go_wp2_with fail
          refine (HBY.out _).mono ?_
          rintro e w4 ⟨rfl, a4⟩
          have HL4 := Lib.hid (HL3.out.aft a4)
          have HR4 := Lib.hid (HR3.out.aft a4)
          clear a4 HL3 HR3 HBY x0 x1 x2
          obtain ⟨c0, c1, c2, c3, f3⟩ := HL4.out.ru.cells
          obtain ⟨x0, x1, x2⟩ := HR4.out.cells
          by_cases hgt : list < ((sum + fs : Nat) : Int)
          · have i5 : (sum : Int) + (fs : Int) > list := by omega
            have HQ1 : Hid (Q = (⟨t1, rows ++ [⟨(f1, f2), how⟩], sum + fs, sizes, T2, mst⟩, 2)) := Lib.hid (by
              have hst3 : stepU top list b ⟨at_, rows, sum, sizes, tab, mst⟩ c.toNat = (⟨t1, rows ++ [⟨(f1, f2), how⟩], sum + fs, sizes, T2, mst⟩, 2) := by
                rw [HST.out, if_neg (show ¬ ((0 : Int) ≠ 0) by simp), HFS.out, if_pos hgt]
              rw [← HQ.out, HRS.out, hst3, if_pos (by show (2 : Int) ≠ 0; decide)])
            clear hgt
            go_wp2_with fail
            go_ret2
            exact HL4.out.fail ⟨t1, rows ++ [⟨(f1, f2), how⟩], sum + fs, sizes, T2, mst⟩ rfl rfl (by decide) HQ1.out
          · have i5 : ¬ ((sum : Int) + (fs : Int) > list) := by omega
            have hst2 : stepU top list b ⟨at_, rows, sum, sizes, tab, mst⟩ c.toNat = (⟨t1, rows ++ [⟨(f1, f2), how⟩], sum + fs, sizes, T2, mst⟩, 0) := by
              rw [HST.out, if_neg (show ¬ ((0 : Int) ≠ 0) by simp), HFS.out, if_neg hgt]
            have HQ1 : Hid (runU top list b (b.length + 1) ⟨t1, rows ++ [⟨(f1, f2), how⟩], sum + fs, sizes, T2, mst⟩ = Q) := Lib.hid (by
              rw [← HQ.out, HRS.out, hst2, if_neg (by simp)])
            have HSI2 : Hid (SI list b ⟨t1, rows ++ [⟨(f1, f2), how⟩], sum + fs, sizes, T2, mst⟩) := Lib.hid (by have := HSN.out (by rw [hst2]); rw [hst2] at this; exact this)
            have a5 := (Aft.refl w4).alloc (.cells #[.string X, .string Y, .int .i64 how] 57)
            have HL5 := Lib.hid (HL4.out.aft a5)
            have HO5 : Hid (OwnW (w4.alloc (.cells #[.string X, .string Y, .int .i64 how] 57)) w.heap.size (.slice ra ln rk) rows) := Lib.hid (by have := HL5.out.own; rw [← HLN.out]; exact this)
            have HS5 : Hid (w.heap.size ≤ (w4.alloc (.cells #[.string X, .string Y, .int .i64 how] 57)).heap.size) := Lib.hid HL5.out.chg.size
            clear hgt hst2 a5 HL4 HR4 HRS HSN HTO HQ HSI HST
            go_wp2_with (at_builtin; refine wpList_pushesW_w rfl (.tmp 101) (.tmp 103) rfl w.heap.size _ _ rows [⟨(f1, f2), how⟩] rfl HO5.out rfl (rbW_one f1 f2 how X Y HXY.out.1 HXY.out.2 w4) (by have := HRB.out; simp; omega) HS5.out ?_; intro v6 w6 o6 gr6)
            have hp6 : (Value.slice ra ln rk).ownBlock = (Value.slice ra rows.length rk).ownBlock := by rw [HLN.out]
            have HL6 := Lib.hid (HL5.out.push (by first | (rw [← hp6]; exact gr6) | (simp only; rw [← hp6]; exact gr6)) o6)
            obtain ⟨a6, k6, hv6, -⟩ := o6.slice
            subst hv6
            clear hp6 o6 gr6 HL5 HO5 HS5 c0 c1 c2 c3 f3 x0 x1 x2
            go_wp2_with fail
            go_roundw
            case rel => exact ⟨⟨t1, rows ++ [⟨(f1, f2), how⟩], sum + fs, sizes, T2, mst⟩, a6, k6, vo2, rfl, rfl, congrArg (Value.int .i64) (by first | omega | (simp only; omega)), rfl, Lib.hid ⟨HL6.out.ru, HL6.out.chg, HL6.out.own, HL6.out.ob, HL6.out.sz⟩, HSI2, HQ1⟩
            case measure => have h1 := HGT.out.1; have h2 := HGT.out.2; simp [intOf]; omega
        · have hrt := hrt hE
          subst hrt
          have HQ1 : Hid (Q = (⟨at_, rows, sum, sizes, T2, mst⟩, E)) := Lib.hid (by rw [← HQ.out, HRS.out, HST.out, if_pos hE, if_pos hE])
          have i4 : (E != 0) = true := by simpa using hE
          have HE := Lib.hid hE
          obtain ⟨c0, c1, c2, c3, f3⟩ := HL3.out.ru.cells
          clear hE hqq hto hrs hrl hsumz
          go_wp2_with fail
          go_ret2
          exact HL3.out.fail _ rfl rfl HE.out HQ1.out
    · have HRE := Lib.hid (runU_end (top := top) (list := list) (b := b) (s := ⟨at_, rows, sum, sizes, tab, mst⟩) (by simp only; omega))
      have HQ1 : Hid (Q = (⟨at_, rows, sum, sizes, tab, mst⟩, 0)) := Lib.hid (by rw [← HQ.out, HRE.out])
      have i1 : ¬ (at_ : Int) < (b.length : Int) := by omega
      obtain ⟨ln, hln⟩ : ∃ ln, rows.length = ln := ⟨_, rfl⟩
      have HLN := Lib.hid hln
      rw [hln]
      clear hln hlt
      go_wp2_with fail
      go_ret2
      have h9 := HL.out.done HQ1.out
      simp only at h9
      rw [HLN.out] at h9
      exact h9
end Go.Proofs.YtmlnboibclfmcaaDoor
