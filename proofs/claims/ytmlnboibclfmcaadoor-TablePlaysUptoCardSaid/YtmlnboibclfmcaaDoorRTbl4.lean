/-
  The reference's table: Find.
-/
import Derived.Test.YtmlnboibclfmcaaDoorRTbl3
namespace Go.Proofs.YtmlnboibclfmcaaDoor
open Go.RowKit
set_option linter.unusedVariables false

theorem meas_rfind (n k : Nat) (h : k < 61 + n) : 63 + n - ((k : Int) + 1 + 1).toNat < 63 + n - ((k : Int) + 1).toNat := by omega
set_option maxHeartbeats 8000000 in
set_option maxRecDepth 100000 in
theorem rfind_any {w : World} {B g : Nat} {vo : Value} {l : List FieldL} {m : Int} (f : FieldL) (h : RTab w B g vo l m) (hl : l.length ≤ 1000000) :
    Calls Tryd.prog 32 #[.pointer (some ⟨g, 0, none⟩), fieldV f] w fun e w' => e = .returned (.tuple #[.int .i64 (findF l f).1, .bool (findF l f).2]) ∧ Aft w w' := by
  obtain ⟨f1, f2'⟩ := f
  obtain ⟨R, hR⟩ : ∃ R, findF l (f1, f2') = R := ⟨_, rfl⟩
  rw [hR]
  have HR : Hid (findGo (f1, f2') 0 0 (staticT ++ l) = R) := Lib.hid hR
  obtain ⟨F, hF⟩ : ∃ F : ByteArray, (⟨f1.toArray⟩ : ByteArray) = F := ⟨_, rfl⟩
  obtain ⟨G, hG⟩ : ∃ G : ByteArray, (⟨f2'.toArray⟩ : ByteArray) = G := ⟨_, rfl⟩
  have hFd : F.data.toList = f1 := by rw [← hF]
  have hGd : G.data.toList = f2' := by rw [← hG]
  have HFG := Lib.hid (And.intro hFd hGd)
  unfold fieldV
  simp only
  rw [hF, hG]
  have hA1 : Aft w (w.alloc (.cells #[.string F, .string G] 28)) := (Aft.refl w).alloc _
  have hbx : FB2 (w.alloc (.cells #[.string F, .string G] 28)) w.heap.size F G := heap_alloc_new w _
  have H1 := Lib.hid (h.aft hA1)
  have HBX := Lib.hid hbx
  have HA1 := Lib.hid hA1
  have HL := Lib.hid hl
  obtain ⟨oa, oc, hvo, -⟩ := h.own.slice
  subst hvo
  obtain ⟨b, hb⟩ : ∃ b, w.heap.size = b := ⟨_, rfl⟩
  rw [hb] at HBX
  have HBW := Lib.hid hb
  have HC := Lib.hid (fun wx (a : Aft (w.alloc (.cells #[.string F, .string G] 28)) wx) => (H1.out.aft a).cells.1)
  obtain ⟨n, hn⟩ : ∃ n, l.length = n := ⟨_, rfl⟩
  have HN := Lib.hid hn
  rw [hn] at HC hl
  clear h hR hF hG hFd hGd hA1 hbx hb hn
  go_enter Tryd.func32, Tryd.ntmps32
  go_upto_region 3 with fail
  rw [HBW.out]
  generalize w.alloc (.cells #[.string F, .string G] 28) = W at H1 HBX HA1 HC ⊢
  go_wp2_with fail
  go_loopw [6, 7] (fun v6 v7 wr => ∃ (k : Nat) (nm : Int), k ≤ 61 + n ∧ v7 = .int .i64 ((k : Int) + 1) ∧ v6 = .int .i64 nm ∧ Hid (findGo (f1, f2') k nm ((staticT ++ l).drop k) = R) ∧ Hid (Aft W wr)) (fun _ v7 _ => 63 + n - (intOf v7).toNat)
  case atStart => exact ⟨0, 0, by omega, by go_num, rfl, Lib.hid (by rw [List.drop_zero]; exact HR.out), Lib.hid (Aft.refl _)⟩
  case round =>
    obtain ⟨k, nm, hk, rfl, rfl, HX, HA⟩ := hrel
    have c0 := HC.out _ HA.out
    have g62 : IntKind.i64.wrap (62 + (n : Int)) = 62 + (n : Int) := IntWalk.i64_in _ (by omega)
    by_cases hin : k < 61 + n
    · have hkl : k < 61 + l.length := by rw [HN.out]; exact hin
      obtain ⟨x, hx⟩ := at_get l k hkl
      obtain ⟨hgx, hgb, -⟩ := getF_at l k x hx
      have hdr : (staticT ++ l).drop k = x :: (staticT ++ l).drop (k + 1) := by
        obtain ⟨hh, he⟩ := List.getElem?_eq_some_iff.1 hx
        rw [List.drop_eq_getElem_cons hh, he]
      have hgi := HX.out
      rw [hdr] at hgi
      have HGT := Lib.hid (rget_any ((k : Int) + 1) (by omega) (by omega) (H1.out.aft HA.out) HL.out)
      rw [hgx, hgb] at HGT
      have HIN := Lib.hid hin
      have hii : (k : Int) + 1 < 62 + (n : Int) := by omega
      obtain ⟨tl, htl⟩ : ∃ tl, (staticT ++ l).drop (k + 1) = tl := ⟨_, rfl⟩
      rw [htl] at hgi
      have HTL := Lib.hid htl
      have HGI := Lib.hid hgi
      obtain ⟨xn, xv⟩ := x
      unfold fieldV at HGT
      simp only at HGT
      obtain ⟨X, hX⟩ : ∃ X : ByteArray, (⟨xn.toArray⟩ : ByteArray) = X := ⟨_, rfl⟩
      obtain ⟨Y, hY⟩ : ∃ Y : ByteArray, (⟨xv.toArray⟩ : ByteArray) = Y := ⟨_, rfl⟩
      have hXd : X.data.toList = xn := by rw [← hX]
      have hYd : Y.data.toList = xv := by rw [← hY]
      rw [hX, hY] at HGT
      have hcs := eq_pair X Y F G hXd hYd HFG.out.1 HFG.out.2
      have HCS := Lib.hid hcs
      have HG63 : Hid (wrap64 ((k : Int) + 1 + 1) = (k : Int) + 1 + 1) := Lib.hid (IntWalk.wrap64_in _ ⟨by omega, by omega⟩)
      clear hkl hx hgx hgb hdr hgi htl hX hY hXd hYd hcs hin
      go_wp2_with fail
      refine HGT.out.mono ?_
      rintro e w6 ⟨rfl, a6⟩
      have HA6 := Lib.hid (HA.out.trans (a6.alloc (.cells #[.string X, .string Y] 28)))
      have hx6 : FB2 (w6.alloc (.cells #[.string X, .string Y] 28)) w6.heap.size X Y := heap_alloc_new w6 _
      have HB6 := Lib.hid hx6
      clear a6 hx6 HGT c0 g62 hii
      go_upto_region 6 with fail
      generalize w6.heap.size = gx at HB6 ⊢
      generalize w6.alloc (.cells #[.string X, .string Y] 28) = W6 at HA6 HB6 ⊢
      obtain ⟨z0, z1⟩ := HB6.out.cells
      obtain ⟨u0, u1⟩ := (HBX.out.aft HA6.out).cells
      rcases HCS.out with ⟨he, t1, t2⟩ | ⟨he, hn1, t1, t2⟩ | ⟨he, hn1, t1⟩
      · have HR2 : Hid (R = ((k : Int) + 1, true)) := Lib.hid (by rw [← HGI.out]; exact findGo_eq he)
        clear he
        go_wp2_with fail
        go_ret2
        refine ⟨?_, HA1.out.trans HA6.out⟩
        rw [HR2.out]
        rfl
      · have HHE := Lib.hid he
        clear he
        by_cases h0 : nm = 0
        · subst h0
          have HGN : Hid (findGo (f1, f2') (k + 1) ((k : Int) + 1) tl = R) := Lib.hid (by rw [← HGI.out, findGo_nm HHE.out hn1 rfl])
          clear hn1
          go_wp2_with fail
          go_roundw
          case rel => exact ⟨k + 1, _, by have := HIN.out; omega, by (try rw [HG63.out]); exact congrArg (Value.int .i64) (by push_cast; omega), rfl, Lib.hid (by rw [HTL.out]; exact HGN.out), HA6⟩
          case measure => (try rw [HG63.out]); exact meas_rfind _ _ HIN.out
        · have HGN : Hid (findGo (f1, f2') (k + 1) nm tl = R) := Lib.hid (by rw [← HGI.out, findGo_no HHE.out (fun hh => h0 hh.2)])
          have h00 : (nm == 0) = false := by simpa using h0
          clear hn1 h0
          go_wp2_with fail
          go_roundw
          case rel => exact ⟨k + 1, _, by have := HIN.out; omega, by (try rw [HG63.out]); exact congrArg (Value.int .i64) (by push_cast; omega), rfl, Lib.hid (by rw [HTL.out]; exact HGN.out), HA6⟩
          case measure => (try rw [HG63.out]); exact meas_rfind _ _ HIN.out
      · have HGN : Hid (findGo (f1, f2') (k + 1) nm tl = R) := Lib.hid (by rw [← HGI.out, findGo_no he (fun hh => hn1 hh.1)])
        clear he hn1
        by_cases h0 : nm = 0
        · subst h0
          go_wp2_with fail
          go_roundw
          case rel => exact ⟨k + 1, _, by have := HIN.out; omega, by (try rw [HG63.out]); exact congrArg (Value.int .i64) (by push_cast; omega), rfl, Lib.hid (by rw [HTL.out]; exact HGN.out), HA6⟩
          case measure => (try rw [HG63.out]); exact meas_rfind _ _ HIN.out
        · have h00 : (nm == 0) = false := by simpa using h0
          clear h0
          go_wp2_with fail
          go_roundw
          case rel => exact ⟨k + 1, _, by have := HIN.out; omega, by (try rw [HG63.out]); exact congrArg (Value.int .i64) (by push_cast; omega), rfl, Lib.hid (by rw [HTL.out]; exact HGN.out), HA6⟩
          case measure => (try rw [HG63.out]); exact meas_rfind _ _ HIN.out
    · have hii : ¬ ((k : Int) + 1 < 62 + (n : Int)) := by omega
      have HE : Hid (R = (nm, false)) := Lib.hid (by
        rw [← HX.out, List.drop_eq_nil_of_le (by rw [List.length_append, staticT_len, HN.out]; omega)]
        rfl)
      go_wp2_with fail
      go_ret2
      refine ⟨?_, HA1.out.trans HA.out⟩
      rw [HE.out]
      rfl

end Go.Proofs.YtmlnboibclfmcaaDoor
