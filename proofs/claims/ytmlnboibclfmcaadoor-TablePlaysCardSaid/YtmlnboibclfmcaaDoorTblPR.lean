/-
  The program's table and the reference's, side by side.
-/
import Derived.Test.YtmlnboibclfmcaaDoorTblTwins
import Derived.Test.YtmlnboibclfmcaaDoorRTbl4
namespace Go.Proofs.YtmlnboibclfmcaaDoor
open Go.RowKit
set_option linter.unusedVariables false

structure TwoR (w : World) (B1 g1 : Nat) (o1 k1 : Value) (l1 : List FieldL) (m1 : Int) (B2 g2 : Nat) (o2 : Value) (l2 : List FieldL) (m2 : Int) : Prop where
  a : Tab w B1 g1 o1 k1 l1 m1
  b : RTab w B2 g2 o2 l2 m2
  sep : ∀ k, FP g1 o1 k1 k → TP g2 o2 k → False
theorem RTab.tp_lt {w : World} {B g : Nat} {vo : Value} {l : List FieldL} {m : Int} (h : RTab w B g vo l m) {k : Nat} (hk : TP g vo k) : k < w.heap.size := by
  rcases hk with hk | hk
  · rw [hk]; exact h.lt
  · exact (h.own.lt k hk).2
theorem RTab.tp_ge {w : World} {B g : Nat} {vo : Value} {l : List FieldL} {m : Int} (h : RTab w B g vo l m) {k : Nat} (hk : TP g vo k) : B ≤ k := by
  rcases hk with hk | hk
  · rw [hk]; exact h.gB
  · exact (h.own.lt k hk).1
theorem TwoR.aft {w w' : World} {B1 g1 : Nat} {o1 k1 : Value} {l1 : List FieldL} {m1 : Int} {B2 g2 : Nat} {o2 : Value} {l2 : List FieldL} {m2 : Int} (h : TwoR w B1 g1 o1 k1 l1 m1 B2 g2 o2 l2 m2) (ha : Aft w w') : TwoR w' B1 g1 o1 k1 l1 m1 B2 g2 o2 l2 m2 := ⟨h.a.aft ha, h.b.aft ha, h.sep⟩
theorem TwoR.one {w w' : World} {B1 g1 : Nat} {o1 k1 : Value} {l1 : List FieldL} {m1 : Int} {B2 g2 : Nat} {o2 : Value} {l2 : List FieldL} {m2 : Int} (h : TwoR w B1 g1 o1 k1 l1 m1 B2 g2 o2 l2 m2) {o1' : Value} {l1' : List FieldL} {m1' : Int} (ht : Tab w' B1 g1 o1' k1 l1' m1') (hc : Chg (TP g1 o1) w w') (hf : ∀ k, TP g1 o1' k → TP g1 o1 k ∨ w.heap.size ≤ k) : TwoR w' B1 g1 o1' k1 l1' m1' B2 g2 o2 l2 m2 :=
  ⟨ht, h.b.chg hc (fun e => h.sep g2 (Or.inl e) (Or.inl rfl)) (fun k hk e => h.sep k (Or.inl e) (Or.inr hk)), fun k x y => by
    rcases x with x | x
    · rcases hf k x with z | z
      · exact h.sep k (Or.inl z) y
      · have := h.b.tp_lt y; omega
    · exact h.sep k (Or.inr x) y⟩
theorem TwoR.two {w w' : World} {B1 g1 : Nat} {o1 k1 : Value} {l1 : List FieldL} {m1 : Int} {B2 g2 : Nat} {o2 : Value} {l2 : List FieldL} {m2 : Int} (h : TwoR w B1 g1 o1 k1 l1 m1 B2 g2 o2 l2 m2) {o2' : Value} {l2' : List FieldL} {m2' : Int} (ht : RTab w' B2 g2 o2' l2' m2') (hc : Chg (TP g2 o2) w w') (hf : ∀ k, TP g2 o2' k → TP g2 o2 k ∨ w.heap.size ≤ k) : TwoR w' B1 g1 o1 k1 l1 m1 B2 g2 o2' l2' m2' :=
  ⟨h.a.chg hc (fun e => h.sep g1 (Or.inl (Or.inl rfl)) e) (fun k hk e => h.sep k (Or.inl (Or.inr hk)) e) (fun k hk e => h.sep k (Or.inr hk) e), ht, fun k x y => by
    rcases hf k y with z | z
    · exact h.sep k x z
    · have := h.a.fp_lt x; omega⟩
theorem one_add {w0 w : World} {B1 g1 : Nat} {o1 k1 : Value} {l1 : List FieldL} {m1 : Int} {B2 g2 : Nat} {o2 : Value} {l2 : List FieldL} {m2 : Int} (h : TwoR w B1 g1 o1 k1 l1 m1 B2 g2 o2 l2 m2) (f : FieldL) (v : Value) (hv : fieldV f = v) (hf : fsize f ≤ 1000000000000) (hr : Room l1 m1) (ha : Aft w0 w) (hw : w0.heap.size ≤ B1) (hB : B1 ≤ w.heap.size) :
    Calls Tryd.prog 19 #[.pointer (some ⟨g1, 0, none⟩), v] w fun e w' => e = .returned (.tuple #[]) ∧ ∃ o1', TwoR w' B1 g1 o1' k1 (addF m1 f l1) m1 B2 g2 o2 l2 m2 ∧ Aft w0 w' ∧ Chg (TP g1 o1) w w' := by
  subst hv
  refine (add_to f _ h.a hr.1 hr.2.1 hr.2.2 hf hB rfl ha hw).mono ?_
  rintro e w' ⟨rfl, o1', t, a, c, p⟩
  exact ⟨rfl, o1', h.one t c p, a, c⟩
theorem two_radd {w0 w : World} {B1 g1 : Nat} {o1 k1 : Value} {l1 : List FieldL} {m1 : Int} {B2 g2 : Nat} {o2 : Value} {l2 : List FieldL} {m2 : Int} (h : TwoR w B1 g1 o1 k1 l1 m1 B2 g2 o2 l2 m2) (f : FieldL) (v : Value) (hv : fieldV f = v) (hf : fsize f ≤ 1000000000000) (hr : Room l2 m2) (ha : Aft w0 w) (hw : w0.heap.size ≤ B2) (hB : B2 ≤ w.heap.size) :
    Calls Tryd.prog 29 #[.pointer (some ⟨g2, 0, none⟩), v] w fun e w' => e = .returned (.tuple #[]) ∧ ∃ o2', TwoR w' B1 g1 o1 k1 l1 m1 B2 g2 o2' (addF m2 f l2) m2 ∧ Room (addF m2 f l2) m2 ∧ Aft w0 w' ∧ Chg (TP g2 o2) w w' := by
  subst hv
  refine (radd_any f h.b hr.1 hr.2.1 hr.2.2 hf hB).mono ?_
  rintro e w' ⟨rfl, o2', t, c, p⟩
  exact ⟨rfl, o2', h.two t c (fun k hk => hk.elim (fun e => Or.inl (Or.inl e)) (fun e => (p k e).imp Or.inr id)), ⟨addF_le hr.2.1, hr.2⟩, ha.chg c (fun k hk => Nat.le_trans hw (h.b.tp_ge hk)), c⟩
theorem one_resize {w0 w : World} {B1 g1 : Nat} {o1 k1 : Value} {l1 : List FieldL} {m1 : Int} {B2 g2 : Nat} {o2 : Value} {l2 : List FieldL} {m2 : Int} (h : TwoR w B1 g1 o1 k1 l1 m1 B2 g2 o2 l2 m2) (n : Int) (hr : Room l1 m1) (ha : Aft w0 w) (hw : w0.heap.size ≤ B1) (hB : B1 ≤ w.heap.size) :
    Calls Tryd.prog 24 #[.pointer (some ⟨g1, 0, none⟩), .int .i64 n] w fun e w' => e = .returned (.int .i64 (rsE n)) ∧ ∃ o1', TwoR w' B1 g1 o1' k1 (rsF m1 n l1) (rsM m1 n) B2 g2 o2 l2 m2 ∧ Aft w0 w' ∧ Chg (TP g1 o1) w w' := by
  unfold rsF rsM rsE
  by_cases hn : 0 ≤ n ∧ n ≤ 65536
  · rw [if_pos hn, if_pos hn, if_pos hn]
    refine (resize_to n _ h.a (by have := hr.1; have := hr.2.2; omega) hn.1 hn.2 hB rfl ha hw).mono ?_
    rintro e w' ⟨rfl, o1', t, a, c, p⟩
    exact ⟨rfl, o1', h.one t c p, a, c⟩
  · rw [if_neg hn, if_neg hn, if_neg hn]
    refine (resize_no (B := B1) n hn).mono ?_
    rintro e w' ⟨rfl, rfl⟩
    exact ⟨rfl, o1, h, ha, Chg.refl _ _⟩
theorem two_rresize {w0 w : World} {B1 g1 : Nat} {o1 k1 : Value} {l1 : List FieldL} {m1 : Int} {B2 g2 : Nat} {o2 : Value} {l2 : List FieldL} {m2 : Int} (h : TwoR w B1 g1 o1 k1 l1 m1 B2 g2 o2 l2 m2) (n : Int) (hr : Room l2 m2) (ha : Aft w0 w) (hw : w0.heap.size ≤ B2) (hB : B2 ≤ w.heap.size) :
    Calls Tryd.prog 30 #[.pointer (some ⟨g2, 0, none⟩), .int .i64 n] w fun e w' => e = .returned (.int .i64 (rsE n)) ∧ ∃ o2', TwoR w' B1 g1 o1 k1 l1 m1 B2 g2 o2' (rsF m2 n l2) (rsM m2 n) ∧ Room (rsF m2 n l2) (rsM m2 n) ∧ Aft w0 w' ∧ Chg (TP g2 o2) w w' := by
  unfold rsF rsM rsE
  by_cases hn : 0 ≤ n ∧ n ≤ 65536
  · rw [if_pos hn, if_pos hn, if_pos hn]
    refine (rresize_yes n h.b (by have := hr.1; have := hr.2.2; omega) hn.1 hn.2).mono ?_
    rintro e w' ⟨rfl, o2', t, c, p⟩
    exact ⟨rfl, o2', h.two t (c.mono (fun k hk => Or.inl hk)) (fun k hk => hk.elim (fun e => Or.inl (Or.inl e)) (fun e => Or.inl (Or.inr (p k e)))), ⟨fitF_le' hn.1, hn⟩, ha.chg c (fun k hk => by rw [hk]; exact Nat.le_trans hw h.b.gB), c.mono (fun k hk => Or.inl hk)⟩
  · rw [if_neg hn, if_neg hn, if_neg hn]
    refine (rresize_no n hn).mono ?_
    rintro e w' ⟨rfl, rfl⟩
    exact ⟨rfl, o2, h, hr, ha, Chg.refl _ _⟩

end Go.Proofs.YtmlnboibclfmcaaDoor
