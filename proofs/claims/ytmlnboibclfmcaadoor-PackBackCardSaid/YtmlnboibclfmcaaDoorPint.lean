/-
  The walk of pint.Put: a number behind bytes, in a prefix.
-/
import Derived.Test.YtmlnboibclfmcaaDoorSame
import Derived.Laws.CopyOwn
import Derived.Deep.DeepCutAuto
import Derived.Deep.CutBlock
import Derived.IntWalk
import Derived.Laws.Rows
namespace Go.Proofs.YtmlnboibclfmcaaDoor
open Go.RowKit
set_option linter.unusedVariables false

/-- The bytes behind a full prefix. -/
def contF : Nat → Nat → List UInt8
  | 0, _ => []
  | f + 1, v => if v < 128 then [byteOf (v : Int)] else byteOf ((v : Int) % 128 + 128) :: contF f (v / 128)
def maskN (n : Nat) : Nat := 2 ^ n - 1
def pintL (n top v : Nat) : List UInt8 := if v < maskN n then [byteOf ((top : Int) + (v : Int))] else byteOf ((top : Int) + (maskN n : Int)) :: contF 5 (v - maskN n)
/-- The prefixes that are written. -/
def PreOk (n top : Nat) : Prop := (n = 7 ∧ top = 128) ∨ (n = 7 ∧ top = 0) ∨ (n = 6 ∧ top = 64) ∨ (n = 5 ∧ top = 32) ∨ (n = 4 ∧ top = 16) ∨ (n = 4 ∧ top = 0)
theorem full_any (n : Nat) (hn : n = 4 ∨ n = 5 ∨ n = 6 ∨ n = 7) (w : World) : Calls Tryd.prog 77 #[.int .i64 (n : Int)] w fun e w' => e = .returned (.int .i64 (maskN n : Int)) ∧ w = w' := by
  rcases hn with rfl | rfl | rfl | rfl
  all_goals
    go_enter Tryd.func77, Tryd.ntmps77
    go_wp2_with fail
    go_ret
    exact ⟨rfl, rfl⟩
theorem or128 : ∀ c, c < 256 → bits .or .u8 ((c : Nat) : Int) 128 = (((c % 128 + 128 : Nat)) : Int) := by decide +kernel
theorem or_a : ∀ v, v < 128 → bits .or .u8 128 ((v : Nat) : Int) = ((128 + v : Nat) : Int) := by decide +kernel
theorem or_b : ∀ v, v < 128 → bits .or .u8 0 ((v : Nat) : Int) = ((0 + v : Nat) : Int) := by decide +kernel
theorem or_c : ∀ v, v < 64 → bits .or .u8 64 ((v : Nat) : Int) = ((64 + v : Nat) : Int) := by decide +kernel
theorem or_d : ∀ v, v < 32 → bits .or .u8 32 ((v : Nat) : Int) = ((32 + v : Nat) : Int) := by decide +kernel
theorem or_e : ∀ v, v < 16 → bits .or .u8 16 ((v : Nat) : Int) = ((16 + v : Nat) : Int) := by decide +kernel
structure PF (n top : Nat) : Prop where
  nn : n = 4 ∨ n = 5 ∨ n = 6 ∨ n = 7
  m0 : 15 ≤ maskN n
  m1 : maskN n ≤ 127
  t : top + maskN n ≤ 255
  notM : bits .andNot .u8 (top : Int) (maskN n : Int) = (top : Int)
  orM : ∀ v, v ≤ maskN n → bits .or .u8 (top : Int) ((v : Nat) : Int) = (top : Int) + (v : Int)
theorem PreOk.pf {n top : Nat} (h : PreOk n top) : PF n top := by
  rcases h with ⟨rfl, rfl⟩ | ⟨rfl, rfl⟩ | ⟨rfl, rfl⟩ | ⟨rfl, rfl⟩ | ⟨rfl, rfl⟩ | ⟨rfl, rfl⟩
  · exact ⟨by decide, by decide, by decide, by decide, by decide +kernel, fun v hv => or_a v (by have : maskN 7 = 127 := rfl; omega)⟩
  · exact ⟨by decide, by decide, by decide, by decide, by decide +kernel, fun v hv => or_b v (by have : maskN 7 = 127 := rfl; omega)⟩
  · exact ⟨by decide, by decide, by decide, by decide, by decide +kernel, fun v hv => or_c v (by have : maskN 6 = 63 := rfl; omega)⟩
  · exact ⟨by decide, by decide, by decide, by decide, by decide +kernel, fun v hv => or_d v (by have : maskN 5 = 31 := rfl; omega)⟩
  · exact ⟨by decide, by decide, by decide, by decide, by decide +kernel, fun v hv => or_e v (by have : maskN 4 = 15 := rfl; omega)⟩
  · exact ⟨by decide, by decide, by decide, by decide, by decide +kernel, fun v hv => or_b v (by have : maskN 4 = 15 := rfl; omega)⟩

set_option maxHeartbeats 4000000 in
set_option maxRecDepth 100000 in
theorem put_small (v0 : Value) (l : List UInt8) (n top v : Nat) (w : World) (hr : Rb w v0 l) (hl : l.length ≤ 1000000000) (hp : PF n top) (hv : v < maskN n) :
    Calls Tryd.prog 64 #[v0, .int .i64 (n : Int), .int .u8 (top : Int), .int .i64 (v : Int)] w fun e w' => ∃ v', e = .returned v' ∧ Own w' w.heap.size v' (l ++ pintL n top v) ∧ Aft w w' := by
  obtain ⟨a0, cap, b0, o0, rfl, m1, p1, q1, r1⟩ := hr.open
  have HR := Lib.hid hr
  have HF := Lib.hid (fun w => full_any n hp.nn w)
  obtain ⟨i0, hi, hz0, hz1, hz2⟩ := info_parts info8
  have hb2 : i0.bytes * (l.length + 1 + 5) ≤ 281474976710656 := by rw [hz2]; omega
  have hb3 : l.length + 1 + 5 ≤ maxLen := by unfold maxLen; omega
  have hm0 := hp.m0
  have hm1 := hp.m1
  have ht := hp.t
  have e1 := hp.notM
  have e2 := hp.orM v (by omega)
  have hn8 : (n : Int) ≤ 8 ∧ 1 ≤ (n : Int) := by rcases hp.nn with h | h | h | h <;> omega
  have HPL : Hid (pintL n top v = [byteOf ((top : Int) + (v : Int))]) := Lib.hid (by unfold pintL; rw [if_pos hv])
  generalize maskN n = M at HF hm0 hm1 ht e1 e2 hv
  obtain ⟨hn8, hn1⟩ := hn8
  clear hr m1 p1 q1 r1 hp
  go_enter Tryd.func64, Tryd.ntmps64
  go_upto_region 2 with (at_make; refine wpList_make_own w rfl _ _ 54 rfl w.heap.size 5 i0 (.int .u8 0) 1 Tryd.underlying54 hi hz0 hz1 .i64 .i64 _ (l.length + 1 + 5) rfl rfl rfl hb2 hb3 (Nat.le_refl _) ?_; intro w3 hown3 hg3)
  have HO3 : Hid (Own w3 w.heap.size (.slice (some ⟨w.heap.size, 0, none⟩) 0 (l.length + 1 + 5)) []) := Lib.hid hown3
  have HA3 : Hid (Aft w w3) := Lib.hid (Below.grown (Below.refl _ _) hg3 (Nat.le_refl _) (fun k hk => by cases hk))
  have HR3 := Lib.hid (HR.out.aft HA3.out)
  clear hown3 hg3 hi hz0 hz1 hz2 hb2 hb3 HR
  obtain ⟨B, hB⟩ : ∃ B, w.heap.size = B := ⟨_, rfl⟩
  rw [hB] at HO3 ⊢
  have HBB := Lib.hid hB
  clear hB
  go_upto_region 3 with (refine wpList_pushes rfl (.tmp 16) (.tmp 17) rfl B _ _ [] l rfl HO3.out rfl HR3.out (by simp; omega) (by rw [← HBB.out]; exact HA3.out.to.size) ?_; intro v4 w4 hown4 hg4)
  have HA4 : Hid (Aft w w4) := Lib.hid (by unfold Aft; rw [HBB.out]; exact push_below (by have := HA3.out.to; rwa [HBB.out] at this) HO3.out hg4 (Nat.le_refl _) (by rw [← HBB.out]; exact HA3.out.to.size))
  have HO4 : Hid (Own w4 B v4 l) := Lib.hid hown4
  clear hown4 hg4 HA3 HO3 HR3
  have p0 : 0 ≤ (top : Int) + (v : Int) := by omega
  have p1 : (top : Int) + (v : Int) < 256 := by omega
  have hv2 : (v : Int) < (M : Int) := by omega
  have hvm : ¬ (v : Int) > 2147483647 := by omega
  go_wp2_with (first | (go_at_call 77; refine (HF.out _).mono ?_; rintro e w5 ⟨rfl, rfl⟩) | (at_builtin; refine wpList_push rfl (.tmp 39) (.tmp 47) rfl B _ l rfl (HO4.out.aft ((Aft.refl _).alloc _)) ⟨w4.heap.size, 0, none⟩ 1 _ rfl (cell_new1 _ _ _) p0 p1 (by omega) (le_alloc (by rw [← HBB.out]; exact HA4.out.to.size) _) ?_; intro v6 w6 hown6 hg6))
  go_ret
  refine ⟨_, rfl, by rw [HPL.out, HBB.out]; exact hown6, ?_⟩
  unfold Aft
  rw [HBB.out]
  exact push_below (by have := HA4.out.to; rw [HBB.out] at this; exact this.alloc (by rw [← HBB.out]; exact HA4.out.to.size) _) (HO4.out.aft ((Aft.refl _).alloc _)) hg6 (Nat.le_refl _) (le_alloc (by rw [← HBB.out]; exact HA4.out.to.size) _)

set_option maxHeartbeats 4000000 in
set_option maxRecDepth 100000 in
theorem put_big (v0 : Value) (l : List UInt8) (n top v : Nat) (w : World) (hr : Rb w v0 l) (hl : l.length ≤ 1000000000) (hp : PF n top) (hv : maskN n ≤ v) (hv31 : v ≤ 2147483647) :
    Calls Tryd.prog 64 #[v0, .int .i64 (n : Int), .int .u8 (top : Int), .int .i64 (v : Int)] w fun e w' => ∃ v', e = .returned v' ∧ Own w' w.heap.size v' (l ++ pintL n top v) ∧ Aft w w' := by
  obtain ⟨a0, cap, b0, o0, rfl, m1, p1, q1, r1⟩ := hr.open
  have HR := Lib.hid hr
  have HF := Lib.hid (fun w => full_any n hp.nn w)
  obtain ⟨i0, hi, hz0, hz1, hz2⟩ := info_parts info8
  have hb2 : i0.bytes * (l.length + 1 + 5) ≤ 281474976710656 := by rw [hz2]; omega
  have hb3 : l.length + 1 + 5 ≤ maxLen := by unfold maxLen; omega
  have hm0 := hp.m0
  have hm1 := hp.m1
  have ht := hp.t
  have e1 := hp.notM
  have e2 := hp.orM (maskN n) (Nat.le_refl _)
  have hn8 : (n : Int) ≤ 8 ∧ 1 ≤ (n : Int) := by rcases hp.nn with h | h | h | h <;> omega
  have HPL : Hid (pintL n top v = byteOf ((top : Int) + (maskN n : Int)) :: contF 5 (v - maskN n)) := Lib.hid (by unfold pintL; rw [if_neg (by omega)])
  generalize maskN n = M at HF hm0 hm1 ht e1 e2 hv HPL
  obtain ⟨hn8, hn1⟩ := hn8
  clear hr m1 p1 q1 r1 hp
  go_enter Tryd.func64, Tryd.ntmps64
  go_upto_region 2 with (at_make; refine wpList_make_own w rfl _ _ 54 rfl w.heap.size 5 i0 (.int .u8 0) 1 Tryd.underlying54 hi hz0 hz1 .i64 .i64 _ (l.length + 1 + 5) rfl rfl rfl hb2 hb3 (Nat.le_refl _) ?_; intro w3 hown3 hg3)
  have HO3 : Hid (Own w3 w.heap.size (.slice (some ⟨w.heap.size, 0, none⟩) 0 (l.length + 1 + 5)) []) := Lib.hid hown3
  have HA3 : Hid (Aft w w3) := Lib.hid (Below.grown (Below.refl _ _) hg3 (Nat.le_refl _) (fun k hk => by cases hk))
  have HR3 := Lib.hid (HR.out.aft HA3.out)
  clear hown3 hg3 hi hz0 hz1 hz2 hb2 hb3 HR
  obtain ⟨B, hB⟩ : ∃ B, w.heap.size = B := ⟨_, rfl⟩
  rw [hB] at HO3 ⊢
  have HBB := Lib.hid hB
  clear hB
  go_upto_region 3 with (refine wpList_pushes rfl (.tmp 16) (.tmp 17) rfl B _ _ [] l rfl HO3.out rfl HR3.out (by simp; omega) (by rw [← HBB.out]; exact HA3.out.to.size) ?_; intro v4 w4 hown4 hg4)
  have HA4 : Hid (Aft w w4) := Lib.hid (by unfold Aft; rw [HBB.out]; exact push_below (by have := HA3.out.to; rwa [HBB.out] at this) HO3.out hg4 (Nat.le_refl _) (by rw [← HBB.out]; exact HA3.out.to.size))
  have HO4 : Hid (Own w4 B v4 l) := Lib.hid hown4
  clear hown4 hg4 HA3 HO3 HR3
  have p0 : 0 ≤ (top : Int) + (M : Int) := by omega
  have p1 : (top : Int) + (M : Int) < 256 := by omega
  have hv2 : ¬ (v : Int) < (M : Int) := by omega
  have hvm : ¬ (v : Int) > 2147483647 := by omega
  obtain ⟨u0, hu0⟩ : ∃ u0 : Nat, v - M = u0 := ⟨_, rfl⟩
  have hsub : (v : Int) - (M : Int) = (u0 : Int) := by omega
  rw [hu0] at HPL
  go_upto_region 9 with (first | (go_at_call 77; refine (HF.out _).mono ?_; rintro e w5 ⟨rfl, rfl⟩) | (at_builtin; refine wpList_push rfl (.tmp 49) (.tmp 54) rfl B _ l rfl (HO4.out.aft ((Aft.refl _).alloc _)) ⟨w4.heap.size, 0, none⟩ 1 _ rfl (cell_new1 _ _ _) p0 p1 (by omega) (le_alloc (by rw [← HBB.out]; exact HA4.out.to.size) _) ?_; intro v6 w6 hown6 hg6))
  have HA6 : Hid (Below B w w6) := Lib.hid (push_below (by have := HA4.out.to; rw [HBB.out] at this; exact this.alloc (by rw [← HBB.out]; exact HA4.out.to.size) _) (HO4.out.aft ((Aft.refl _).alloc _)) hg6 (Nat.le_refl _) (le_alloc (by rw [← HBB.out]; exact HA4.out.to.size) _))
  have HO6 : Hid (Own w6 B v6 (l ++ [byteOf ((top : Int) + (M : Int))])) := Lib.hid hown6
  have hu1 : u0 ≤ 2147483647 := by omega
  have hl6 : (l ++ [byteOf ((top : Int) + (M : Int))]).length ≤ 1000000001 := by simp; omega
  clear hown6 hg6 HA4 HO4
  have HU := Lib.hid (And.intro hu1 hl6)
  obtain ⟨l6, hl6e⟩ : ∃ l6, l ++ [byteOf ((top : Int) + (M : Int))] = l6 := ⟨_, rfl⟩
  rw [hl6e] at HO6 HU
  have HL6 := Lib.hid hl6e
  clear hl6e hl6 hu1 e1 e2 p0 p1 hv hm0 hm1 ht HF hu0
  go_wp2_with fail
  clear hsub hv2 hvm hn8 hn1 hv31
  go_loopw [3, 9] (fun v3 v9 wr => ∃ (f u : Nat) (o : List UInt8), v3 = .int .i64 (u : Int) ∧ u ≤ 2147483647 ∧ u < 128 ^ (f + 1) ∧ f ≤ 4 ∧ Hid (o.length + f ≤ 1000000005) ∧ Hid (o ++ contF (f + 1) u = l6 ++ contF 5 u0) ∧ Hid (Own wr B v9 o) ∧ Hid (Below B w wr)) (fun v3 _ _ => (intOf v3).toNat)
  case atStart => exact ⟨4, u0, l6, rfl, HU.out.1, by have := HU.out.1; omega, by omega, Lib.hid (by have := HU.out.2; omega), Lib.hid rfl, HO6, HA6⟩
  case round =>
    obtain ⟨f, u, o, rfl, hu, huf, hf, HLEN, HEQ, HO, HBL⟩ := hrel
    have HUF := Lib.hid huf
    have HBS : Hid (B ≤ wr.heap.size) := Lib.hid (by rw [← HBB.out]; exact HBL.out.size)
    clear huf
    by_cases h128 : u < 128
    · have i1 : ¬ (128 : Int) ≤ (u : Int) := by omega
      have p0 : 0 ≤ (u : Int) := by omega
      have p1 : (u : Int) < 256 := by omega
      have hlen : o.length + 1 ≤ 140737488355328 := by have := HLEN.out; omega
      have HC : Hid (contF (f + 1) u = [byteOf (u : Int)]) := Lib.hid (by unfold contF; rw [if_pos h128])
      go_wp2_with (at_builtin; refine wpList_push rfl (.tmp 69) (.tmp 72) rfl B _ o rfl (HO.out.aft ((Aft.refl _).alloc _)) ⟨wr.heap.size, 0, none⟩ 1 _ rfl (cell_new1 _ _ _) p0 p1 hlen (le_alloc HBS.out _) ?_; intro v6 w7 hown7 hg7)
      go_ret
      refine ⟨_, rfl, ?_, ?_⟩
      · rw [HPL.out, HBB.out]
        have : l ++ byteOf ((top : Int) + (M : Int)) :: contF 5 u0 = o ++ [byteOf (u : Int)] := by
          rw [← HC.out, HEQ.out, ← HL6.out]
          simp
        rw [this]
        exact hown7
      · unfold Aft
        rw [HBB.out]
        exact push_below (HBL.out.alloc HBS.out _) (HO.out.aft ((Aft.refl _).alloc _)) hg7 (Nat.le_refl _) (le_alloc HBS.out _)
    · have i1 : (128 : Int) ≤ (u : Int) := by omega
      obtain ⟨f, rfl⟩ : ∃ f', f = f' + 1 := ⟨f - 1, by
        cases f with
        | zero => have := HUF.out; simp at this; omega
        | succ f => rfl⟩
      have e3 : bits .or .u8 ((u : Int) % 256) 128 = (u : Int) % 128 + 128 := by
        have := or128 (u % 256) (Nat.mod_lt _ (by decide))
        rw [show (((u % 256 : Nat)) : Int) = (u : Int) % 256 by omega] at this
        rw [this]
        omega
      have e4 : Int.fdiv (u : Int) (2 ^ min (Int.toNat 7) IntKind.i64.bits) = ((u / 128 : Nat) : Int) := by
        have h7 : ((2 : Int) ^ min (Int.toNat 7) IntKind.i64.bits) = 128 := by decide
        rw [h7, Int.fdiv_eq_ediv_of_nonneg _ (by decide)]
        omega
      have p0 : 0 ≤ (u : Int) % 128 + 128 := by omega
      have p1 : (u : Int) % 128 + 128 < 256 := by omega
      have hlen : o.length + 1 ≤ 140737488355328 := by have := HLEN.out; omega
      have HC : Hid (contF (f + 1 + 1) u = byteOf ((u : Int) % 128 + 128) :: contF (f + 1) (u / 128)) := Lib.hid (by rw [contF, if_neg h128])
      have HD : Hid (u / 128 < 128 ^ (f + 1)) := Lib.hid (by
        have := HUF.out
        rw [Nat.pow_succ 128 (f + 1)] at this
        exact Nat.div_lt_of_lt_mul (by rw [Nat.mul_comm]; exact this))
      go_wp2_with (at_builtin; refine wpList_push rfl (.tmp 61) (.tmp 65) rfl B _ o rfl (HO.out.aft ((Aft.refl _).alloc _)) ⟨wr.heap.size, 0, none⟩ 1 _ rfl (cell_new1 _ _ _) p0 p1 hlen (le_alloc HBS.out _) ?_; intro v6 w7 hown7 hg7)
      go_roundw
      case rel =>
        refine ⟨f, u / 128, o ++ [byteOf ((u : Int) % 128 + 128)], rfl, by omega, HD.out, by omega, Lib.hid (by have := HLEN.out; rw [List.length_append]; simp; omega), Lib.hid ?_, Lib.hid hown7, Lib.hid ?_⟩
        · rw [← HEQ.out, HC.out]
          simp
        · exact push_below (HBL.out.alloc HBS.out _) (HO.out.aft ((Aft.refl _).alloc _)) hg7 (Nat.le_refl _) (le_alloc HBS.out _)
      case measure => simp [intOf]; omega

theorem put_any (v0 : Value) (l : List UInt8) (n top v : Nat) (w : World) (hr : Rb w v0 l) (hl : l.length ≤ 1000000000) (hp : PreOk n top) (hv : v ≤ 2147483647) :
    Calls Tryd.prog 64 #[v0, .int .i64 (n : Int), .int .u8 (top : Int), .int .i64 (v : Int)] w fun e w' => ∃ v', e = .returned v' ∧ Own w' w.heap.size v' (l ++ pintL n top v) ∧ Aft w w' := by
  by_cases h : v < maskN n
  · exact put_small v0 l n top v w hr hl hp.pf h
  · exact put_big v0 l n top v w hr hl hp.pf (by omega) hv
theorem contF_len : ∀ (f v : Nat), (contF f v).length ≤ f
  | 0, _ => Nat.le_refl _
  | f + 1, v => by
    unfold contF
    split
    · simp
    · have := contF_len f (v / 128)
      rw [List.length_cons]; omega
theorem pintL_len (n top v : Nat) : (pintL n top v).length ≤ 6 := by
  unfold pintL
  split
  · simp
  · have := contF_len 5 (v - maskN n)
    rw [List.length_cons]; omega
theorem pintL_small {n top v : Nat} (h : v < maskN n) : pintL n top v = [byteOf ((top : Int) + (v : Int))] := by unfold pintL; rw [if_pos h]
theorem Own.empty8 (w : World) (base : Nat) (hb : base ≤ w.heap.size) : Own (w.alloc (.cells #[] 5)) base (.slice (some ⟨w.heap.size, 0, none⟩) 0 0) [] := by
  refine ⟨rfl, Or.inr ⟨w.heap.size, 0, #[], rfl, hb, heap_alloc_new w _, Nat.le_refl _, Nat.zero_le _, ?_⟩⟩
  simp [bv]

end Go.Proofs.YtmlnboibclfmcaaDoor
