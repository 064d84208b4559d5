/-
  The reference's table: Get.
-/
import Derived.Test.YtmlnboibclfmcaaDoorRTbl2
namespace Go.Proofs.YtmlnboibclfmcaaDoor
open Go.RowKit
set_option linter.unusedVariables false

theorem FB2.froz {w : World} {g : Nat} {X Y : ByteArray} (h : FB2 w g X Y) : w.frozen? ⟨g, 0, none⟩ = false ∧ w.frozen? ⟨g, 1, none⟩ = false := by
  unfold FB2 at h
  exact ⟨frozen_of_row w g _ _ _ h, frozen_of_row w g _ _ _ h⟩
theorem aft_set2 {w W : World} {b : Nat} {x y : Value} (h : Aft w W) (hb : w.heap.size ≤ b) : Aft w ((W.setCell ⟨b, 0, none⟩ x).setCell ⟨b, 1, none⟩ y) :=
  (Below.setCell (p := ⟨b, 0, none⟩) h hb x).setCell (p := ⟨b, 1, none⟩) hb y
set_option maxHeartbeats 8000000 in
set_option maxRecDepth 100000 in
set_option linter.unusedSimpArgs false in
theorem rget_any {w : World} {B g : Nat} {vo : Value} {l : List FieldL} {m : Int} (i : Int) (i0 : -9223372036854775808 ≤ i) (i1 : i ≤ 9223372036854775807) (h : RTab w B g vo l m) (hl : l.length ≤ 1000000) :
    Calls Tryd.prog 31 #[.pointer (some ⟨g, 0, none⟩), .int .i64 i] w fun e w' => e = .returned (.tuple #[fieldV (getF l i), .bool (getB l i)]) ∧ Aft w w' := by
  have hA1 : Aft w (w.alloc (.cells #[.string ⟨#[]⟩, .string ⟨#[]⟩] 28)) := (Aft.refl w).alloc _
  have hb0 : FB2 (w.alloc (.cells #[.string ⟨#[]⟩, .string ⟨#[]⟩] 28)) w.heap.size ⟨#[]⟩ ⟨#[]⟩ := heap_alloc_new w _
  have HST := Lib.hid (fun w => rstatic_any i i0 i1 w)
  obtain ⟨b, hb⟩ : ∃ b, w.heap.size = b := ⟨_, rfl⟩
  rw [hb] at hb0
  have HBW := Lib.hid (Nat.le_of_eq hb)
  have HBE := Lib.hid hb
  have HB0 := Lib.hid hb0
  have HA1 := Lib.hid hA1
  have H1 := Lib.hid (h.aft hA1)
  clear h hA1 hb0 hb
  by_cases hin : 1 ≤ i ∧ i ≤ 61
  · obtain ⟨j, rfl⟩ : ∃ j : Nat, i = (j : Int) + 1 := ⟨(i - 1).toNat, by omega⟩
    obtain ⟨⟨hl1, e1⟩, e2⟩ := statF_in j (by omega)
    obtain ⟨⟨hl2, e3⟩, e4⟩ := getF_known l j (by omega)
    rw [e1, e2] at HST
    rw [e3, e4]
    clear e1 e2 e3 e4
    generalize staticT[j] = f at HST ⊢
    unfold fieldV at HST ⊢
    obtain ⟨X, hX⟩ : ∃ X : ByteArray, (⟨f.1.toArray⟩ : ByteArray) = X := ⟨_, rfl⟩
    obtain ⟨Y, hY⟩ : ∃ Y : ByteArray, (⟨f.2.toArray⟩ : ByteArray) = Y := ⟨_, rfl⟩
    rw [hX, hY] at HST ⊢
    clear hX hY hl1 hl2 hin H1
    go_enter Tryd.func31, Tryd.ntmps31
    go_wp2_with fail
    rw [HBE.out]
    refine (HST.out _).mono ?_
    rintro e w2 ⟨rfl, a2⟩
    have HA2 := Lib.hid ((HA1.out.trans a2).alloc (.cells #[.string X, .string Y] 28))
    have HB2 := Lib.hid ((HB0.out.aft a2).aft ((Aft.refl w2).alloc (.cells #[.string X, .string Y] 28)))
    have hx : FB2 (w2.alloc (.cells #[.string X, .string Y] 28)) w2.heap.size X Y := heap_alloc_new w2 _
    have HX := Lib.hid hx
    clear hx a2 HB0 HA1 HBE
    go_upto_region 2 with fail
    generalize w2.heap.size = gx at HX ⊢
    generalize w2.alloc (.cells #[.string X, .string Y] 28) = W at HA2 HB2 HX ⊢
    obtain ⟨x0, x1⟩ := HX.out.cells
    obtain ⟨z0, z1⟩ := HB2.out.cells
    obtain ⟨q0, q1⟩ := HB2.out.froz
    go_wp2_with fail
    refine bodyPost_ret (v := .tuple #[.agg #[.string X, .string Y], .bool true]) (by simp [results, Tryd.results31, go_sem, z0, z1, q0, q1]) rfl ?_
    exact ⟨rfl, aft_set2 HA2.out HBW.out⟩
  · obtain ⟨e1, e2⟩ := statF_out (i := i) hin
    have HST2 : Hid (∀ w, Calls Tryd.prog 62 #[.int .i64 i] w fun e w' => e = .returned (.tuple #[.agg #[.string ⟨#[]⟩, .string ⟨#[]⟩], .bool false]) ∧ Aft w w') := Lib.hid (fun w => by
      have := HST.out w
      rw [e1, e2] at this
      exact this)
    obtain ⟨oa, og, oc, hoe, ho1, ho2, hop, hoc⟩ := H1.out.own.form
    subst hoe
    have HOC := Lib.hid hoc
    have HOP := Lib.hid hop
    unfold maxLen at ho2
    obtain ⟨n, hn⟩ : ∃ n, l.length = n := ⟨_, rfl⟩
    have HN := Lib.hid hn
    have HC := Lib.hid (fun wx (a : Aft (w.alloc (.cells #[.string ⟨#[]⟩, .string ⟨#[]⟩] 28)) wx) => (H1.out.aft a).cells.1)
    rw [hn] at HC ho1 hl
    clear e1 e2 HST hoc hop ho2
    by_cases hhi : 62 ≤ i ∧ i ≤ 61 + (n : Int)
    · obtain ⟨j, hj⟩ : ∃ j : Nat, i = (j : Int) + 62 := ⟨(i - 62).toNat, by omega⟩
      have hjl : j < l.length := by omega
      obtain ⟨e1, e2⟩ := getF_own l j hjl
      rw [← hj] at e1 e2
      obtain ⟨x0, x1⟩ := HOC.out j hjl
      have hne2 : l ≠ [] := by intro e; rw [e] at hjl; simp at hjl
      obtain ⟨rfl, hog⟩ := HOP.out hne2
      rw [e1, e2]
      clear e1 e2
      have HXX := Lib.hid (fun wx (a : Aft (w.alloc (.cells #[.string ⟨#[]⟩, .string ⟨#[]⟩] 28)) wx) => And.intro ((Below.cell a.to (p := ⟨og, j * 2, none⟩) hog).trans x0) ((Below.cell a.to (p := ⟨og, j * 2 + 1, none⟩) hog).trans x1))
      generalize l[j] = f at HXX ⊢
      unfold fieldV
      unfold strV at HXX
      obtain ⟨X, hX⟩ : ∃ X : ByteArray, (⟨f.1.toArray⟩ : ByteArray) = X := ⟨_, rfl⟩
      obtain ⟨Y, hY⟩ : ∃ Y : ByteArray, (⟨f.2.toArray⟩ : ByteArray) = Y := ⟨_, rfl⟩
      rw [hX, hY] at HXX ⊢
      have g1 : IntKind.i64.wrap (i - 62) = (j : Int) := by rw [show i - 62 = (j : Int) by omega]; exact IntWalk.i64_in _ (by omega)
      have j1 : (j : Int) < (n : Int) := by omega
      have j2 : ¬ ((j : Int) ≥ (n : Int)) := by omega
      have j3 : ¬ ((j : Int) < 0) := by omega
      clear hX hY hne2 hog x0 x1 hhi hin hn H1 hj hjl i0 i1
      go_enter Tryd.func31, Tryd.ntmps31
      go_wp2_with fail
      rw [HBE.out]
      refine (HST2.out _).mono ?_
      rintro e w2 ⟨rfl, a2⟩
      have HA2 := Lib.hid ((HA1.out.trans a2).alloc (.cells #[.string ⟨#[]⟩, .string ⟨#[]⟩] 28))
      have HB2 := Lib.hid ((HB0.out.aft a2).aft ((Aft.refl w2).alloc (.cells #[.string ⟨#[]⟩, .string ⟨#[]⟩] 28)))
      have hac := a2.alloc (.cells #[.string ⟨#[]⟩, .string ⟨#[]⟩] 28)
      obtain ⟨x0, x1⟩ := HXX.out _ hac
      have c0 := HC.out _ hac
      clear hac a2 HB0 HA1 HBE HXX HC
      go_upto_region 2 with fail
      generalize w2.heap.size = gx
      generalize w2.alloc (.cells #[.string ⟨#[]⟩, .string ⟨#[]⟩] 28) = W at HA2 HB2 x0 x1 c0 ⊢
      obtain ⟨z0, z1⟩ := HB2.out.cells
      obtain ⟨q0, q1⟩ := HB2.out.froz
      go_wp2_with fail
      refine bodyPost_ret (v := .tuple #[.agg #[.string X, .string Y], .bool true]) (by simp [results, Tryd.results31, go_sem, z0, z1, q0, q1]) rfl ?_
      exact ⟨rfl, aft_set2 HA2.out HBW.out⟩
    · obtain ⟨e1, e2⟩ := getF_out (l := l) (i := i) (by omega)
      rw [e1, e2]
      have hv : fieldV ([], []) = .agg #[.string ⟨#[]⟩, .string ⟨#[]⟩] := rfl
      rw [hv]
      obtain ⟨K, hK⟩ : ∃ K, IntKind.i64.wrap (i - 62) = K := ⟨_, rfl⟩
      have hKc : K < 0 ∨ (¬ K < 0 ∧ K ≥ (n : Int)) := by
        rw [← hK, IntKind.wrap_i64]
        omega
      clear e1 e2 hv hhi hin hn H1 HOC HOP
      rcases hKc with k1 | ⟨k1, k2⟩
      all_goals
        go_enter Tryd.func31, Tryd.ntmps31
        go_wp2_with fail
        rw [HBE.out]
        refine (HST2.out _).mono ?_
        rintro e w2 ⟨rfl, a2⟩
        have HA2 := Lib.hid ((HA1.out.trans a2).alloc (.cells #[.string ⟨#[]⟩, .string ⟨#[]⟩] 28))
        have HB2 := Lib.hid ((HB0.out.aft a2).aft ((Aft.refl w2).alloc (.cells #[.string ⟨#[]⟩, .string ⟨#[]⟩] 28)))
        have hac := a2.alloc (.cells #[.string ⟨#[]⟩, .string ⟨#[]⟩] 28)
        have c0 := HC.out _ hac
        clear hac a2 HB0 HA1 HBE HC
        go_upto_region 2 with fail
        generalize w2.heap.size = gx
        generalize w2.alloc (.cells #[.string ⟨#[]⟩, .string ⟨#[]⟩] 28) = W at HA2 HB2 c0 ⊢
        obtain ⟨z0, z1⟩ := HB2.out.cells
        obtain ⟨q0, q1⟩ := HB2.out.froz
        go_wp2_with fail
        refine bodyPost_ret (v := .tuple #[.agg #[.string ⟨#[]⟩, .string ⟨#[]⟩], .bool false]) (by simp [results, Tryd.results31, go_sem, z0, z1, q0, q1]) rfl ?_
        exact ⟨rfl, aft_set2 HA2.out HBW.out⟩

end Go.Proofs.YtmlnboibclfmcaaDoor
