/-
  The reference's Put.
-/
import Derived.Test.YtmlnboibclfmcaaDoorPint
import Derived.Laws.BitsLemmas
namespace Go.Proofs.YtmlnboibclfmcaaDoor
open Go.RowKit
set_option linter.unusedVariables false

theorem wraps_p63 (n : Int) (h₀ : 0 ≤ n) (h₁ : n < 2 ^ 63) : IntKind.i64.wrap n = n := IntWalk.i64_in _ ⟨by omega, by omega⟩
theorem eM_of {n : Nat} (h : n = 4 ∨ n = 5 ∨ n = 6 ∨ n = 7) : wrap64 (wrap64 (2 ^ n) - 1) = (maskN n : Int) := by
  rcases h with rfl | rfl | rfl | rfl <;> (unfold wrap64 maskN; omega)

set_option maxHeartbeats 8000000 in
set_option maxRecDepth 100000 in
theorem rput_small (v0 : Value) (l : List UInt8) (n top v : Nat) (w : World) (hr : Rb w v0 l) (hl : l.length ≤ 1000000000) (hp : PF n top) (hv : v < maskN n) :
    Calls Tryd.prog 66 #[v0, .int .i64 (n : Int), .int .u8 (top : Int), .int .i64 (v : Int)] w fun e w' => ∃ v', e = .returned v' ∧ Own w' w.heap.size v' (l ++ pintL n top v) ∧ Aft w w' := by
  obtain ⟨a0, cap, b0, o0, rfl, m1, p1, q1, r1⟩ := hr.open
  have HR := Lib.hid hr
  have hm0 := hp.m0
  have hm1 := hp.m1
  have ht := hp.t
  have e1 := hp.notM
  have e2 := hp.orM v (by omega)
  have hn8 : (n : Int) ≤ 8 ∧ 1 ≤ (n : Int) := by rcases hp.nn with h | h | h | h <;> omega
  have HPL : Hid (pintL n top v = [byteOf ((top : Int) + (v : Int))]) := Lib.hid (by unfold pintL; rw [if_pos hv])
  have eM := eM_of hp.nn
  generalize maskN n = M at hm0 hm1 ht e1 e2 hv eM HPL
  obtain ⟨hn8, hn1⟩ := hn8
  have HO3 : Hid (Own (w.alloc (.cells #[] 5)) w.heap.size (.slice (some ⟨w.heap.size, 0, none⟩) 0 0) []) := Lib.hid (Own.empty8 w _ (Nat.le_refl _))
  have HA3 : Hid (Aft w (w.alloc (.cells #[] 5))) := Lib.hid ((Aft.refl w).alloc _)
  have HR3 := Lib.hid (HR.out.aft HA3.out)
  clear hr m1 p1 q1 r1 hp HR
  go_enter Tryd.func66, Tryd.ntmps66
  go_upto_region 2 with (refine wpList_pushes rfl (.tmp 12) (.tmp 13) rfl w.heap.size _ _ [] l rfl HO3.out rfl HR3.out (by simp; omega) HA3.out.to.size ?_; intro v4 w4 hown4 hg4)
  have HA4 : Hid (Aft w w4) := Lib.hid (push_below HA3.out.to HO3.out hg4 (Nat.le_refl _) HA3.out.to.size)
  have HO4 : Hid (Own w4 w.heap.size v4 l) := Lib.hid hown4
  clear hown4 hg4 HA3 HO3 HR3
  obtain ⟨B, hB⟩ : ∃ B, w.heap.size = B := ⟨_, rfl⟩
  rw [hB] at HO4 ⊢
  have HBB := Lib.hid hB
  clear hB
  have p0 : 0 ≤ (top : Int) + (v : Int) := by omega
  have p1 : (top : Int) + (v : Int) < 256 := by omega
  have hv2 : (v : Int) < (M : Int) := by omega
  have hvm : ¬ (v : Int) > 2147483647 := by omega
  go_wp2_with (at_builtin; refine wpList_push rfl (.tmp 40) (.tmp 45) rfl B _ l rfl (HO4.out.aft ((Aft.refl _).alloc _)) ⟨w4.heap.size, 0, none⟩ 1 _ rfl (cell_new1 _ _ _) p0 p1 (by omega) (le_alloc (by rw [← HBB.out]; exact HA4.out.to.size) _) ?_; intro v6 w6 hown6 hg6)
  go_ret
  refine ⟨_, rfl, by rw [HPL.out, HBB.out]; exact hown6, ?_⟩
  unfold Aft
  rw [HBB.out]
  exact push_below (by have := HA4.out.to; rw [HBB.out] at this; exact this.alloc (by rw [← HBB.out]; exact HA4.out.to.size) _) (HO4.out.aft ((Aft.refl _).alloc _)) hg6 (Nat.le_refl _) (le_alloc (by rw [← HBB.out]; exact HA4.out.to.size) _)

set_option maxHeartbeats 8000000 in
set_option maxRecDepth 100000 in
theorem rput_big (v0 : Value) (l : List UInt8) (n top v : Nat) (w : World) (hr : Rb w v0 l) (hl : l.length ≤ 1000000000) (hp : PF n top) (hv : maskN n ≤ v) (hv31 : v ≤ 2147483647) :
    Calls Tryd.prog 66 #[v0, .int .i64 (n : Int), .int .u8 (top : Int), .int .i64 (v : Int)] w fun e w' => ∃ v', e = .returned v' ∧ Own w' w.heap.size v' (l ++ pintL n top v) ∧ Aft w w' := by
  obtain ⟨a0, cap, b0, o0, rfl, m1, p1, q1, r1⟩ := hr.open
  have HR := Lib.hid hr
  have hm0 := hp.m0
  have hm1 := hp.m1
  have ht := hp.t
  have e1 := hp.notM
  have e2 := hp.orM (maskN n) (Nat.le_refl _)
  have hn8 : (n : Int) ≤ 8 ∧ 1 ≤ (n : Int) := by rcases hp.nn with h | h | h | h <;> omega
  have HPL : Hid (pintL n top v = byteOf ((top : Int) + (maskN n : Int)) :: contF 5 (v - maskN n)) := Lib.hid (by unfold pintL; rw [if_neg (by omega)])
  have eM := eM_of hp.nn
  generalize maskN n = M at hm0 hm1 ht e1 e2 hv eM HPL
  obtain ⟨hn8, hn1⟩ := hn8
  have HO3 : Hid (Own (w.alloc (.cells #[] 5)) w.heap.size (.slice (some ⟨w.heap.size, 0, none⟩) 0 0) []) := Lib.hid (Own.empty8 w _ (Nat.le_refl _))
  have HA3 : Hid (Aft w (w.alloc (.cells #[] 5))) := Lib.hid ((Aft.refl w).alloc _)
  have HR3 := Lib.hid (HR.out.aft HA3.out)
  clear hr m1 p1 q1 r1 hp HR
  go_enter Tryd.func66, Tryd.ntmps66
  go_upto_region 2 with (refine wpList_pushes rfl (.tmp 12) (.tmp 13) rfl w.heap.size _ _ [] l rfl HO3.out rfl HR3.out (by simp; omega) HA3.out.to.size ?_; intro v4 w4 hown4 hg4)
  have HA4 : Hid (Aft w w4) := Lib.hid (push_below HA3.out.to HO3.out hg4 (Nat.le_refl _) HA3.out.to.size)
  have HO4 : Hid (Own w4 w.heap.size v4 l) := Lib.hid hown4
  clear hown4 hg4 HA3 HO3 HR3
  obtain ⟨B, hB⟩ : ∃ B, w.heap.size = B := ⟨_, rfl⟩
  rw [hB] at HO4 ⊢
  have HBB := Lib.hid hB
  clear hB
  have p0 : 0 ≤ (top : Int) + (M : Int) := by omega
  have p1 : (top : Int) + (M : Int) < 256 := by omega
  have hv2 : ¬ (v : Int) < (M : Int) := by omega
  have hvm : ¬ (v : Int) > 2147483647 := by omega
  obtain ⟨u0, hu0⟩ : ∃ u0 : Nat, v - M = u0 := ⟨_, rfl⟩
  have hsub : (v : Int) - (M : Int) = (u0 : Int) := by omega
  rw [hu0] at HPL
  go_upto_region 9 with (first | (at_builtin; refine wpList_push rfl (.tmp 47) (.tmp 52) rfl B _ l rfl (HO4.out.aft ((Aft.refl _).alloc _)) ⟨w4.heap.size, 0, none⟩ 1 _ rfl (cell_new1 _ _ _) p0 p1 (by omega) (le_alloc (by rw [← HBB.out]; exact HA4.out.to.size) _) ?_; intro v6 w6 hown6 hg6))
  have HA6 : Hid (Below B w w6) := Lib.hid (push_below (by have := HA4.out.to; rw [HBB.out] at this; exact this.alloc (by rw [← HBB.out]; exact HA4.out.to.size) _) (HO4.out.aft ((Aft.refl _).alloc _)) hg6 (Nat.le_refl _) (le_alloc (by rw [← HBB.out]; exact HA4.out.to.size) _))
  have HO6 : Hid (Own w6 B v6 (l ++ [byteOf ((top : Int) + (M : Int))])) := Lib.hid hown6
  have hu1 : u0 ≤ 2147483647 := by omega
  have hl6 : (l ++ [byteOf ((top : Int) + (M : Int))]).length ≤ 1000000001 := by simp; omega
  clear hown6 hg6 HA4 HO4
  have HU := Lib.hid (And.intro hu1 hl6)
  obtain ⟨l6, hl6e⟩ : ∃ l6, l ++ [byteOf ((top : Int) + (M : Int))] = l6 := ⟨_, rfl⟩
  rw [hl6e] at HO6 HU
  have HL6 := Lib.hid hl6e
  clear hl6e hl6 hu1 e1 e2 p0 p1 hv hm0 hm1 ht hu0 eM
  go_wp2_with fail
  clear hsub hv2 hvm hn8 hn1 hv31
  go_loopw [3, 9] (fun v3 v9 wr => ∃ (f u : Nat) (o : List UInt8), v3 = .int .i64 (u : Int) ∧ u ≤ 2147483647 ∧ u < 128 ^ (f + 1) ∧ f ≤ 4 ∧ Hid (o.length + f ≤ 1000000005) ∧ Hid (o ++ contF (f + 1) u = l6 ++ contF 5 u0) ∧ Hid (Own wr B v9 o) ∧ Hid (Below B w wr)) (fun v3 _ _ => (intOf v3).toNat)
  case atStart => exact ⟨4, u0, l6, rfl, HU.out.1, by have := HU.out.1; omega, by omega, Lib.hid (by have := HU.out.2; omega), Lib.hid rfl, HO6, HA6⟩
  case round =>
    obtain ⟨f, u, o, rfl, hu, huf, hf, HLEN, HEQ, HO, HBL⟩ := hrel
    have HUF := Lib.hid huf
    have HBS : Hid (B ≤ wr.heap.size) := Lib.hid (by rw [← HBB.out]; exact HBL.out.size)
    clear huf
    by_cases h128 : u < 128
    · have i1 : ¬ (128 : Int) ≤ (u : Int) := by omega
      have p0 : 0 ≤ (u : Int) := by omega
      have p1 : (u : Int) < 256 := by omega
      have hlen : o.length + 1 ≤ 140737488355328 := by have := HLEN.out; omega
      have HC : Hid (contF (f + 1) u = [byteOf (u : Int)]) := Lib.hid (by unfold contF; rw [if_pos h128])
      go_wp2_with (at_builtin; refine wpList_push rfl (.tmp 68) (.tmp 71) rfl B _ o rfl (HO.out.aft ((Aft.refl _).alloc _)) ⟨wr.heap.size, 0, none⟩ 1 _ rfl (cell_new1 _ _ _) p0 p1 hlen (le_alloc HBS.out _) ?_; intro v6 w7 hown7 hg7)
      go_ret
      refine ⟨_, rfl, ?_, ?_⟩
      · rw [HPL.out, HBB.out]
        have : l ++ byteOf ((top : Int) + (M : Int)) :: contF 5 u0 = o ++ [byteOf (u : Int)] := by
          rw [← HC.out, HEQ.out, ← HL6.out]
          simp
        rw [this]
        exact hown7
      · unfold Aft
        rw [HBB.out]
        exact push_below (HBL.out.alloc HBS.out _) (HO.out.aft ((Aft.refl _).alloc _)) hg7 (Nat.le_refl _) (le_alloc HBS.out _)
    · have i1 : (128 : Int) ≤ (u : Int) := by omega
      obtain ⟨f, rfl⟩ : ∃ f', f = f' + 1 := ⟨f - 1, by
        cases f with
        | zero => have := HUF.out; simp at this; omega
        | succ f => rfl⟩
      have e3 : bits .or .u8 (bits .and .i64 (u : Int) 127 % 256) 128 = (u : Int) % 128 + 128 := by
        have h1 := bits_mask .i64 63 (by decide) wraps_p63 7 (by decide) (u : Int) (by omega) (by omega)
        rw [show ((2 : Int) ^ 7 - 1) = 127 by decide, show ((2 : Int) ^ 7) = 128 by decide] at h1
        rw [h1]
        have := or128 (u % 128) (by omega)
        rw [show ((u : Int) % 128 % 256) = (((u % 128 : Nat)) : Int) by omega, this]
        omega
      have e4 : Int.fdiv (u : Int) (2 ^ min (Int.toNat 7) IntKind.i64.bits) = ((u / 128 : Nat) : Int) := by
        have h7 : ((2 : Int) ^ min (Int.toNat 7) IntKind.i64.bits) = 128 := by decide
        rw [h7, Int.fdiv_eq_ediv_of_nonneg _ (by decide)]
        omega
      have p0 : 0 ≤ (u : Int) % 128 + 128 := by omega
      have p1 : (u : Int) % 128 + 128 < 256 := by omega
      have hlen : o.length + 1 ≤ 140737488355328 := by have := HLEN.out; omega
      have HC : Hid (contF (f + 1 + 1) u = byteOf ((u : Int) % 128 + 128) :: contF (f + 1) (u / 128)) := Lib.hid (by rw [contF, if_neg h128])
      have HD : Hid (u / 128 < 128 ^ (f + 1)) := Lib.hid (by
        have := HUF.out
        rw [Nat.pow_succ 128 (f + 1)] at this
        exact Nat.div_lt_of_lt_mul (by rw [Nat.mul_comm]; exact this))
      go_wp2_with (at_builtin; refine wpList_push rfl (.tmp 59) (.tmp 64) rfl B _ o rfl (HO.out.aft ((Aft.refl _).alloc _)) ⟨wr.heap.size, 0, none⟩ 1 _ rfl (cell_new1 _ _ _) p0 p1 hlen (le_alloc HBS.out _) ?_; intro v6 w7 hown7 hg7)
      go_roundw
      case rel =>
        refine ⟨f, u / 128, o ++ [byteOf ((u : Int) % 128 + 128)], rfl, by omega, HD.out, by omega, Lib.hid (by have := HLEN.out; rw [List.length_append]; simp; omega), Lib.hid ?_, Lib.hid hown7, Lib.hid ?_⟩
        · rw [← HEQ.out, HC.out]
          simp
        · exact push_below (HBL.out.alloc HBS.out _) (HO.out.aft ((Aft.refl _).alloc _)) hg7 (Nat.le_refl _) (le_alloc HBS.out _)
      case measure => simp [intOf]; omega

theorem rput_any (v0 : Value) (l : List UInt8) (n top v : Nat) (w : World) (hr : Rb w v0 l) (hl : l.length ≤ 1000000000) (hp : PreOk n top) (hv : v ≤ 2147483647) :
    Calls Tryd.prog 66 #[v0, .int .i64 (n : Int), .int .u8 (top : Int), .int .i64 (v : Int)] w fun e w' => ∃ v', e = .returned v' ∧ Own w' w.heap.size v' (l ++ pintL n top v) ∧ Aft w w' := by
  by_cases h : v < maskN n
  · exact rput_small v0 l n top v w hr hl hp.pf h
  · exact rput_big v0 l n top v w hr hl hp.pf (by omega) hv

end Go.Proofs.YtmlnboibclfmcaaDoor
