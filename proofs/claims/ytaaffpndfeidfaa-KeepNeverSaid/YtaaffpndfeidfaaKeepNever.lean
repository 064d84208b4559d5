/-
  KeepNever.
-/
import Derived.Test.YtaaffpndfeidfaaKeepRuns
import Derived.Test.YtaaffpndfeidfaaKeepNevP
import Derived.Test.YtaaffpndfeidfaaWithin
import Derived.Test.YtaaffpndfeidfaaArgFR
namespace Go.Proofs.Ytaaffpndfeidfaa
open Go.RowKit
set_option linter.unusedVariables false

structure NH (G : Nat) (m x1 x2 x3 : ByteArray) (vq vs : Value) (n1 n2 st at_ : Int) (lq ls : List FieldL) (w : World) : Prop where
  q : C6 w G (.string m) (.string x1) (.string x2) (.string x3) vq (.int .i64 n1)
  s : C3 w (G + 1) (.int .i64 st) vs (.int .i64 n2)
  a : w.heap[G + 2]? = some (.cells #[.int .i64 at_] 3 (0, 0))
  rq : RbF w vq lq
  rs : RbF w vs ls
theorem NH.aft {G : Nat} {m x1 x2 x3 : ByteArray} {vq vs : Value} {n1 n2 st at_ : Int} {lq ls : List FieldL} {w w' : World} (h : NH G m x1 x2 x3 vq vs n1 n2 st at_ lq ls w) (ha : Aft w w') : NH G m x1 x2 x3 vq vs n1 n2 st at_ lq ls w' :=
  ⟨h.q.aft ha, h.s.aft ha, by rw [Below.block ha (G + 2) (blk_lt h.a)]; exact h.a, h.rq.aft ha, h.rs.aft ha⟩
theorem NH.cells {G : Nat} {m x1 x2 x3 : ByteArray} {vq vs : Value} {n1 n2 st at_ : Int} {lq ls : List FieldL} {w : World} (h : NH G m x1 x2 x3 vq vs n1 n2 st at_ lq ls w) :
    (w.cell? ⟨G, 4, none⟩ = some vq ∧ w.frozen? ⟨G, 4, none⟩ = false) ∧ (w.cell? ⟨G + 1, 1, none⟩ = some vs ∧ w.frozen? ⟨G + 1, 1, none⟩ = false) ∧ w.cell? ⟨G + 2, 0, none⟩ = some (.int .i64 at_) :=
  ⟨⟨h.q.cells.2.2.2.2.1, frozen_of_row w G 4 _ _ h.q⟩, ⟨h.s.cells.2.1, frozen_of_row w (G + 1) 1 _ _ h.s⟩, by rw [cell_of_row w (G + 2) 0 _ _ (0, 0) h.a]; rfl⟩
theorem RbF.put {w : World} {v : Value} {l : List FieldL} (h : RbF w v l) (p : Addr) (a : Option Addr) (n c : Nat) (hp : w.cell? p = some (.slice a n c)) (u : Value) : RbF (w.setCell p u) v l := by
  rcases h with h | ⟨b, off, cap, e1, h1, h2, h3, h4⟩
  · exact Or.inl h
  · refine Or.inr ⟨b, off, cap, e1, h1, h2, by rw [World.size_setCell]; exact h3, fun i hi => ?_⟩
    obtain ⟨c1, c2⟩ := h4 i hi
    have key : ∀ (q : Addr) (x : List UInt8), w.cell? q = some (strV x) → (w.setCell p u).cell? q = some (strV x) := fun q x hq => by
      rw [World.cell?_setCell_other _ _ _ _ (fun e => by subst e; rw [hp] at hq; cases hq)]
      exact hq
    exact ⟨key _ _ c1, key _ _ c2⟩
theorem C6.put4 {w : World} {g : Nat} {a b c d e f : Value} (h : C6 w g a b c d e f) (v : Value) : C6 (w.setCell ⟨g, 4, none⟩ v) g a b c d v f := by
  unfold C6
  rw [heap_setCell_same w g 4 _ _ v h]
  rfl
theorem C3.put1 {w : World} {g : Nat} {a b c : Value} (h : C3 w g a b c) (v : Value) : C3 (w.setCell ⟨g, 1, none⟩ v) g a v c := by
  unfold C3
  rw [heap_setCell_same w g 1 _ _ v h]
  rfl
theorem C3.far {w : World} {g : Nat} {a b c : Value} (h : C3 w g a b c) (p : Addr) (hp : p.block ≠ g) (v : Value) : C3 (w.setCell p v) g a b c := by
  unfold C3
  rw [heap_setCell_other w p g v (fun e => hp e.symm)]
  exact h
theorem C6.far {w : World} {g : Nat} {a b c d e f : Value} (h : C6 w g a b c d e f) (p : Addr) (hp : p.block ≠ g) (v : Value) : C6 (w.setCell p v) g a b c d e f := by
  unfold C6
  rw [heap_setCell_other w p g v (fun e => hp e.symm)]
  exact h
theorem may_full (m x1 x2 x3 : ByteArray) (vq vs : Value) (n1 n2 st : Int) (lq ls : List FieldL) (w : World) (hq : RbF w vq lq) (hs : RbF w vs ls) (kq : FOk lq) (ks : FOk ls) (hb : ∀ g, mayF g st lq ls = false) :
    Calls Try.prog 22 #[.agg #[.string m, .string x1, .string x2, .string x3, vq, .int .i64 n1], .agg #[.int .i64 st, vs, .int .i64 n2]] w fun e w' => e = .returned (.bool false) ∧ Aft w w' := by
  have := may_any m x1 x2 x3 vq vs n1 n2 st lq ls w hq hs kq ks
  rw [hb] at this
  exact this

set_option maxHeartbeats 16000000 in
set_option maxRecDepth 100000 in
theorem never_any (m x1 x2 x3 : ByteArray) (vq vs : Value) (n1 n2 st wh at_ : Int) (lq ls : List FieldL) (w : World) (hq : RbF w vq lq) (hs : RbF w vs ls) (bq : FieldsLim lq) (bs : FieldsLim ls) (b0 : -9223372036854775808 ≤ wh) (b1 : wh ≤ 9223372036854775807) :
    Calls Try.prog 5 #[.agg #[.string m, .string x1, .string x2, .string x3, vq, .int .i64 n1], .agg #[.int .i64 st, vs, .int .i64 n2], .int .i64 wh, .int .i64 at_] w fun e w' => e = .returned (.bool true) ∧ Aft w w' := by
  have HWI := Lib.hid (within_any wh 0 3 b0 b1 (by decide) (by decide) (by decide))
  have HLQ := Lib.hid (fun w h => light18_any vq lq w h bq)
  have HLS := Lib.hid (fun w h => light18_any vs ls w h bs)
  have hmf : ∀ (fn : Fn) (first cap : Array Value) (w : World), (Instr.makeFunc fn first cap).run Try.prog w = .ok (.func fn first cap) w := fun _ _ _ _ => rfl
  have hN : NH w.heap.size m x1 x2 x3 vq vs n1 n2 st at_ lq ls (((w.alloc (.cells #[.string m, .string x1, .string x2, .string x3, vq, .int .i64 n1] 42)).alloc (.cells #[.int .i64 st, vs, .int .i64 n2] 44)).alloc (.cells #[.int .i64 at_] 3)) := by
    have a1 : Aft w (w.alloc (.cells #[.string m, .string x1, .string x2, .string x3, vq, .int .i64 n1] 42)) := (Aft.refl w).alloc _
    have a2 := (Aft.refl (w.alloc (.cells #[.string m, .string x1, .string x2, .string x3, vq, .int .i64 n1] 42))).alloc (.cells #[.int .i64 st, vs, .int .i64 n2] 44)
    have a3 := (Aft.refl ((w.alloc (.cells #[.string m, .string x1, .string x2, .string x3, vq, .int .i64 n1] 42)).alloc (.cells #[.int .i64 st, vs, .int .i64 n2] 44))).alloc (.cells #[.int .i64 at_] 3)
    refine ⟨?_, ?_, ?_, ((hq.aft a1).aft a2).aft a3, ((hs.aft a1).aft a2).aft a3⟩
    · exact C6.aft (C6.aft (heap_alloc_new w _) a2) a3
    · refine C3.aft ?_ a3
      have := heap_alloc_new (w.alloc (.cells #[.string m, .string x1, .string x2, .string x3, vq, .int .i64 n1] 42)) (.cells #[.int .i64 st, vs, .int .i64 n2] 44)
      rw [World.size_alloc] at this
      exact this
    · have := heap_alloc_new ((w.alloc (.cells #[.string m, .string x1, .string x2, .string x3, vq, .int .i64 n1] 42)).alloc (.cells #[.int .i64 st, vs, .int .i64 n2] 44)) (.cells #[.int .i64 at_] 3)
      rw [World.size_alloc, World.size_alloc] at this
      exact this
  have hA : Aft w (((w.alloc (.cells #[.string m, .string x1, .string x2, .string x3, vq, .int .i64 n1] 42)).alloc (.cells #[.int .i64 st, vs, .int .i64 n2] 44)).alloc (.cells #[.int .i64 at_] 3)) := (((Aft.refl w).alloc _).alloc _).alloc _
  obtain ⟨aq, cq, bbq, oq, rfl, -⟩ := hq.open
  obtain ⟨as_, cs, bbs, os, rfl, -⟩ := hs.open
  have HN := Lib.hid hN
  have HA := Lib.hid hA
  have HBS := Lib.hid (And.intro bq bs)
  clear hN hA hq hs b0 b1 bq bs
  go_enter Try.func5, Try.ntmps5
  go_upto_region 1 with fail
  generalize ((w.alloc (.cells #[.string m, .string x1, .string x2, .string x3, (.slice aq lq.length cq), .int .i64 n1] 42)).alloc (.cells #[.int .i64 st, (.slice as_ ls.length cs), .int .i64 n2] 44)).alloc (.cells #[.int .i64 at_] 3) = W at HN HA ⊢
  obtain ⟨G, hG⟩ : ∃ G, w.heap.size = G := ⟨_, rfl⟩
  have HWZ := Lib.hid (Nat.le_of_eq hG)
  rw [hG] at HN ⊢
  clear hG
  obtain ⟨⟨q0, q1⟩, ⟨s0, s1⟩, z0⟩ := HN.out.cells
  go_wp2_with fail
  refine (HLQ.out _ HN.out.rq).mono ?_
  rintro e w1 ⟨rfl, a1⟩
  have HN1 := Lib.hid (HN.out.aft a1)
  have HA1 := Lib.hid (HA.out.trans a1)
  clear a1 q0 q1 s0 s1 z0
  obtain ⟨⟨q0, q1⟩, ⟨s0, s1⟩, z0⟩ := HN1.out.cells
  by_cases l1 : ¬ sumL lq ≤ 2000
  · have e1 : decide (sumL lq ≤ 2000) = false := by simpa using l1
    simp only [e1]
    clear l1 e1 q0 q1 s0 s1 z0
    go_wp2_with fail
    refine (keepruns_any _).mono ?_
    rintro e w7 ⟨rfl, a7⟩
    go_wp2_with fail
    go_ret
    exact ⟨rfl, HA1.out.trans a7⟩
  have l1 := Decidable.not_not.1 l1
  have e1 : decide (sumL lq ≤ 2000) = true := by simpa using l1
  simp only [e1]
  have HL1 := Lib.hid l1
  clear l1 e1
  go_wp2_with fail
  refine (HLS.out _ HN1.out.rs).mono ?_
  rintro e w2 ⟨rfl, a2⟩
  have HN2 := Lib.hid (HN1.out.aft a2)
  have HA2 := Lib.hid (HA1.out.trans a2)
  clear a2 q0 q1 s0 s1 z0
  obtain ⟨⟨q0, q1⟩, ⟨s0, s1⟩, z0⟩ := HN2.out.cells
  by_cases l2 : ¬ sumL ls ≤ 2000
  · have e1 : decide (sumL ls ≤ 2000) = false := by simpa using l2
    simp only [e1]
    clear l2 e1 q0 q1 s0 s1 z0
    go_wp2_with fail
    refine (keepruns_any _).mono ?_
    rintro e w7 ⟨rfl, a7⟩
    go_wp2_with fail
    go_ret
    exact ⟨rfl, HA2.out.trans a7⟩
  have l2 := Decidable.not_not.1 l2
  have e1 : decide (sumL ls ≤ 2000) = true := by simpa using l2
  simp only [e1]
  have HL2 := Lib.hid l2
  clear l2 e1
  obtain ⟨Js, hJs⟩ : ∃ J : ByteArray, Lib.join (valsF nCC ls) [44, 32] = J.data.toList := ⟨⟨(Lib.join (valsF nCC ls) [44, 32]).toArray⟩, rfl⟩
  obtain ⟨Jq, hJq⟩ : ∃ J : ByteArray, Lib.join (valsF nCC lq) [44, 32] = J.data.toList := ⟨⟨(Lib.join (valsF nCC lq) [44, 32]).toArray⟩, rfl⟩
  have HRS := Lib.hid (fun w h => rall_j (.slice as_ ls.length cs) ls w h HL2.out Js hJs)
  have HRQ := Lib.hid (fun w h => rall_j (.slice aq lq.length cq) lq w h HL1.out Jq hJq)
  obtain ⟨os1, hos⟩ : ∃ o, (splF Js.data.toList).isSome = o := ⟨_, rfl⟩
  obtain ⟨oq1, hoq⟩ : ∃ o, (splF Jq.data.toList).isSome = o := ⟨_, rfl⟩
  have HSS := Lib.hid (fun w => rsplit_b Js w (join_sz HL2.out hJs) _ hos)
  have HSQ := Lib.hid (fun w => rsplit_b Jq w (join_sz HL1.out hJq) _ hoq)
  have HOS : Hid (os1 = true → ∃ P, splF (Lib.join (valsF nCC ls) [44, 32]) = some P) := Lib.hid (fun h => by rw [hJs]; rw [h] at hos; exact Option.isSome_iff_exists.1 hos)
  have HOQ : Hid (oq1 = true → ∃ P, splF (Lib.join (valsF nCC lq) [44, 32]) = some P) := Lib.hid (fun h => by rw [hJq]; rw [h] at hoq; exact Option.isSome_iff_exists.1 hoq)
  have HFQ := Lib.hid (fok_light HL1.out)
  have HFS := Lib.hid (fok_light HL2.out)
  have HPQ := Lib.hid (fun (f : FieldL) h => fok_pre at_ HL1.out f h)
  have HPS := Lib.hid (fun (f : FieldL) h => fok_pre at_ HL2.out f h)
  have HLN := Lib.hid (And.intro (light_len HL1.out) (light_len HL2.out))
  clear hJs hJq hos hoq
  go_wp2_with fail
  refine (HRS.out _ HN2.out.rs).mono ?_
  rintro e w3 ⟨j3, rfl, a3⟩
  have HN3 := Lib.hid (HN2.out.aft a3)
  have HA3 := Lib.hid (HA2.out.trans a3)
  clear a3 q0 q1 s0 s1 z0
  obtain ⟨⟨q0, q1⟩, ⟨s0, s1⟩, z0⟩ := HN3.out.cells
  go_wp2_with fail
  refine (HRQ.out _ HN3.out.rq).mono ?_
  rintro e w4 ⟨j4, rfl, a4⟩
  have HN4 := Lib.hid (HN3.out.aft a4)
  have HA4 := Lib.hid (HA3.out.trans a4)
  clear a4 q0 q1 s0 s1 z0
  go_wp2_with fail
  refine (HSS.out _).mono ?_
  rintro e w5 ⟨v5, rfl, a5⟩
  have HN5 := Lib.hid (HN4.out.aft a5)
  have HA5 := Lib.hid (HA4.out.trans a5)
  clear a5
  go_wp2_with fail
  refine (HSQ.out _).mono ?_
  rintro e w6 ⟨v6, rfl, a6⟩
  have HN6 := Lib.hid (HN5.out.aft a6)
  have HA6 := Lib.hid (HA5.out.trans a6)
  clear a6
  go_wp2_with fail
  refine (HWI.out _).mono ?_
  rintro e w7 ⟨k, rfl, k0, k1, rfl⟩
  obtain ⟨⟨q0, q1⟩, ⟨s0, s1⟩, z0⟩ := HN6.out.cells
  have hk : k = 0 ∨ k = 1 ∨ k = 2 ∨ k = 3 := by omega
  clear k0 k1 HWI HLQ HLS HRS HRQ HSS HSQ HN HN1 HN2 HN3 HN4 HN5 HA HA1 HA2 HA3 HA4 HA5
  rcases hk with rfl | rfl | rfl | rfl
  · cases oq1
    · go_wp2_with fail
      refine (keepruns_any _).mono ?_
      rintro e w7 ⟨rfl, a7⟩
      go_wp2_with fail
      go_ret
      exact ⟨rfl, HA6.out.trans a7⟩
    · have hok := HOQ.out rfl
      have HOK := Lib.hid hok
      clear hok
      go_wp2_with fail
      go_region_law (first
        | (go_simp; go_at_call 20; refine (of18_any _ _ _).mono ?_; rintro e w8 ⟨rfl, a8⟩; have A8 : Aft w6 w8 := Aft.trans (by first | exact Aft.refl _ | exact (Aft.refl _).drew) a8; have hN8 := HN6.out.aft A8; obtain ⟨⟨q0, q1⟩, ⟨s0, s1⟩, z0⟩ := hN8.cells)
        | (go_simp; go_at_call 19; refine (put18_any _ lq ⟨#[99, 97, 99, 104, 101, 45, 99, 111, 110, 116, 114, 111, 108]⟩ ⟨#[110, 111, 45, 115, 116, 111, 114, 101]⟩ at_ (G + 2) _ hN8.rq HLN.out.1 z0 (blk_lt hN8.a)).mono ?_; rintro e w9 ⟨va, vn, vc, rfl, r9, a9⟩; have A9 : Aft w6 w9 := Aft.trans A8 a9; have hN9 := HN6.out.aft A9; obtain ⟨⟨q0, q1⟩, ⟨s0, s1⟩, z0⟩ := hN9.cells))
      all_goals
        have r10 := r9.put ⟨G, 4, none⟩ _ _ _ q0 (.slice va vn vc)
        have c6 := hN9.q.put4 (.slice va vn vc)
        have c3 := hN9.s.far ⟨G, 4, none⟩ (by show G ≠ G + 1; omega) (.slice va vn vc)
        have ro := hN9.rs.put ⟨G, 4, none⟩ _ _ _ q0 (.slice va vn vc)
        have HA9 : Hid (Aft w (w9.setCell ⟨G, 4, none⟩ (.slice va vn vc))) := Lib.hid (bset (HA6.out.trans A9) _ _ _ (by have := HWZ.out; omega))
        have HC6 := Lib.hid c6
        have HC3 := Lib.hid c3
        have HR10 := Lib.hid r10
        have HRO := Lib.hid ro
        clear r10 c6 c3 ro r9 hN8 hN9 A8 A9 a8 a9 q0 q1 s0 s1 z0
        obtain ⟨la0, la1, la2, la3, la4, la5⟩ := HC6.out.cells
        obtain ⟨lb0, lb1, lb2⟩ := HC3.out.cells
        go_wp2_with fail
        refine (may_full _ _ _ _ _ _ _ _ _ (preF at_ ((⟨#[99, 97, 99, 104, 101, 45, 99, 111, 110, 116, 114, 111, 108]⟩ : ByteArray).data.toList, (⟨#[110, 111, 45, 115, 116, 111, 114, 101]⟩ : ByteArray).data.toList) ++ lq) ls _ HR10.out HRO.out (HPQ.out _ (by decide)) HFS.out (fun g => never_q g _ at_ lq ls HOK.out)).mono ?_
        rintro e w11 ⟨rfl, a11⟩
        have HA11 := Lib.hid (HA9.out.trans a11)
        clear a11
        go_wp2_with fail
        refine (keepruns_any _).mono ?_
        rintro e w12 ⟨rfl, a12⟩
        go_wp2_with fail
        go_ret
        exact ⟨rfl, HA11.out.trans a12⟩
  · cases os1
    · go_wp2_with fail
      refine (keepruns_any _).mono ?_
      rintro e w7 ⟨rfl, a7⟩
      go_wp2_with fail
      go_ret
      exact ⟨rfl, HA6.out.trans a7⟩
    · have hok := HOS.out rfl
      have HOK := Lib.hid hok
      clear hok
      go_wp2_with fail
      go_region_law (first
        | (go_simp; go_at_call 20; refine (of18_any _ _ _).mono ?_; rintro e w8 ⟨rfl, a8⟩; have A8 : Aft w6 w8 := Aft.trans (by first | exact Aft.refl _ | exact (Aft.refl _).drew) a8; have hN8 := HN6.out.aft A8; obtain ⟨⟨q0, q1⟩, ⟨s0, s1⟩, z0⟩ := hN8.cells)
        | (go_simp; go_at_call 19; refine (put18_any _ ls ⟨#[99, 97, 99, 104, 101, 45, 99, 111, 110, 116, 114, 111, 108]⟩ ⟨#[78, 79, 45, 83, 84, 79, 82, 69]⟩ at_ (G + 2) _ hN8.rs HLN.out.2 z0 (blk_lt hN8.a)).mono ?_; rintro e w9 ⟨va, vn, vc, rfl, r9, a9⟩; have A9 : Aft w6 w9 := Aft.trans A8 a9; have hN9 := HN6.out.aft A9; obtain ⟨⟨q0, q1⟩, ⟨s0, s1⟩, z0⟩ := hN9.cells))
      all_goals
        have r10 := r9.put ⟨G + 1, 1, none⟩ _ _ _ s0 (.slice va vn vc)
        have c3 := hN9.s.put1 (.slice va vn vc)
        have c6 := hN9.q.far ⟨G + 1, 1, none⟩ (by show G + 1 ≠ G; omega) (.slice va vn vc)
        have ro := hN9.rq.put ⟨G + 1, 1, none⟩ _ _ _ s0 (.slice va vn vc)
        have HA9 : Hid (Aft w (w9.setCell ⟨G + 1, 1, none⟩ (.slice va vn vc))) := Lib.hid (bset (HA6.out.trans A9) _ _ _ (by have := HWZ.out; omega))
        have HC6 := Lib.hid c6
        have HC3 := Lib.hid c3
        have HR10 := Lib.hid r10
        have HRO := Lib.hid ro
        clear r10 c6 c3 ro r9 hN8 hN9 A8 A9 a8 a9 q0 q1 s0 s1 z0
        obtain ⟨la0, la1, la2, la3, la4, la5⟩ := HC6.out.cells
        obtain ⟨lb0, lb1, lb2⟩ := HC3.out.cells
        go_wp2_with fail
        refine (may_full _ _ _ _ _ _ _ _ _ lq (preF at_ ((⟨#[99, 97, 99, 104, 101, 45, 99, 111, 110, 116, 114, 111, 108]⟩ : ByteArray).data.toList, (⟨#[78, 79, 45, 83, 84, 79, 82, 69]⟩ : ByteArray).data.toList) ++ ls) _ HRO.out HR10.out HFQ.out (HPS.out _ (by decide)) (fun g => never_s g _ at_ lq ls HOK.out)).mono ?_
        rintro e w11 ⟨rfl, a11⟩
        have HA11 := Lib.hid (HA9.out.trans a11)
        clear a11
        go_wp2_with fail
        refine (keepruns_any _).mono ?_
        rintro e w12 ⟨rfl, a12⟩
        go_wp2_with fail
        go_ret
        exact ⟨rfl, HA11.out.trans a12⟩
  · cases os1
    · go_wp2_with fail
      refine (keepruns_any _).mono ?_
      rintro e w7 ⟨rfl, a7⟩
      go_wp2_with fail
      go_ret
      exact ⟨rfl, HA6.out.trans a7⟩
    · have hok := HOS.out rfl
      have HOK := Lib.hid hok
      clear hok
      go_wp2_with fail
      go_region_law (first
        | (go_simp; go_at_call 20; refine (of18_any _ _ _).mono ?_; rintro e w8 ⟨rfl, a8⟩; have A8 : Aft w6 w8 := Aft.trans (by first | exact Aft.refl _ | exact (Aft.refl _).drew) a8; have hN8 := HN6.out.aft A8; obtain ⟨⟨q0, q1⟩, ⟨s0, s1⟩, z0⟩ := hN8.cells)
        | (go_simp; go_at_call 19; refine (put18_any _ ls ⟨#[99, 97, 99, 104, 101, 45, 99, 111, 110, 116, 114, 111, 108]⟩ ⟨#[112, 114, 105, 118, 97, 116, 101, 61, 34, 120, 34]⟩ at_ (G + 2) _ hN8.rs HLN.out.2 z0 (blk_lt hN8.a)).mono ?_; rintro e w9 ⟨va, vn, vc, rfl, r9, a9⟩; have A9 : Aft w6 w9 := Aft.trans A8 a9; have hN9 := HN6.out.aft A9; obtain ⟨⟨q0, q1⟩, ⟨s0, s1⟩, z0⟩ := hN9.cells))
      all_goals
        have r10 := r9.put ⟨G + 1, 1, none⟩ _ _ _ s0 (.slice va vn vc)
        have c3 := hN9.s.put1 (.slice va vn vc)
        have c6 := hN9.q.far ⟨G + 1, 1, none⟩ (by show G + 1 ≠ G; omega) (.slice va vn vc)
        have ro := hN9.rq.put ⟨G + 1, 1, none⟩ _ _ _ s0 (.slice va vn vc)
        have HA9 : Hid (Aft w (w9.setCell ⟨G + 1, 1, none⟩ (.slice va vn vc))) := Lib.hid (bset (HA6.out.trans A9) _ _ _ (by have := HWZ.out; omega))
        have HC6 := Lib.hid c6
        have HC3 := Lib.hid c3
        have HR10 := Lib.hid r10
        have HRO := Lib.hid ro
        clear r10 c6 c3 ro r9 hN8 hN9 A8 A9 a8 a9 q0 q1 s0 s1 z0
        obtain ⟨la0, la1, la2, la3, la4, la5⟩ := HC6.out.cells
        obtain ⟨lb0, lb1, lb2⟩ := HC3.out.cells
        go_wp2_with fail
        refine (may_full _ _ _ _ _ _ _ _ _ lq (preF at_ ((⟨#[99, 97, 99, 104, 101, 45, 99, 111, 110, 116, 114, 111, 108]⟩ : ByteArray).data.toList, (⟨#[112, 114, 105, 118, 97, 116, 101, 61, 34, 120, 34]⟩ : ByteArray).data.toList) ++ ls) _ HRO.out HR10.out HFQ.out (HPS.out _ (by decide)) (fun g => never_p g _ at_ lq ls HOK.out)).mono ?_
        rintro e w11 ⟨rfl, a11⟩
        have HA11 := Lib.hid (HA9.out.trans a11)
        clear a11
        go_wp2_with fail
        refine (keepruns_any _).mono ?_
        rintro e w12 ⟨rfl, a12⟩
        go_wp2_with fail
        go_ret
        exact ⟨rfl, HA11.out.trans a12⟩
  · skip
    go_wp2_with fail
    go_region_law (first
        | (go_simp; go_at_call 20; refine (of18_any _ _ _).mono ?_; rintro e w8 ⟨rfl, a8⟩; have A8 : Aft w6 w8 := Aft.trans (by first | exact Aft.refl _ | exact (Aft.refl _).drew) a8; have hN8 := HN6.out.aft A8; obtain ⟨⟨q0, q1⟩, ⟨s0, s1⟩, z0⟩ := hN8.cells)
        | (go_simp; go_at_call 19; refine (put18_any _ ls ⟨#[118, 97, 114, 121]⟩ ⟨#[42]⟩ at_ (G + 2) _ hN8.rs HLN.out.2 z0 (blk_lt hN8.a)).mono ?_; rintro e w9 ⟨va, vn, vc, rfl, r9, a9⟩; have A9 : Aft w6 w9 := Aft.trans A8 a9; have hN9 := HN6.out.aft A9; obtain ⟨⟨q0, q1⟩, ⟨s0, s1⟩, z0⟩ := hN9.cells))
    all_goals
      have r10 := r9.put ⟨G + 1, 1, none⟩ _ _ _ s0 (.slice va vn vc)
      have c3 := hN9.s.put1 (.slice va vn vc)
      have c6 := hN9.q.far ⟨G + 1, 1, none⟩ (by show G + 1 ≠ G; omega) (.slice va vn vc)
      have ro := hN9.rq.put ⟨G + 1, 1, none⟩ _ _ _ s0 (.slice va vn vc)
      have HA9 : Hid (Aft w (w9.setCell ⟨G + 1, 1, none⟩ (.slice va vn vc))) := Lib.hid (bset (HA6.out.trans A9) _ _ _ (by have := HWZ.out; omega))
      have HC6 := Lib.hid c6
      have HC3 := Lib.hid c3
      have HR10 := Lib.hid r10
      have HRO := Lib.hid ro
      clear r10 c6 c3 ro r9 hN8 hN9 A8 A9 a8 a9 q0 q1 s0 s1 z0
      obtain ⟨la0, la1, la2, la3, la4, la5⟩ := HC6.out.cells
      obtain ⟨lb0, lb1, lb2⟩ := HC3.out.cells
      go_wp2_with fail
      refine (may_full _ _ _ _ _ _ _ _ _ lq (preF at_ ((⟨#[118, 97, 114, 121]⟩ : ByteArray).data.toList, (⟨#[42]⟩ : ByteArray).data.toList) ++ ls) _ HRO.out HR10.out HFQ.out (HPS.out _ (by decide)) (fun g => never_v g _ at_ lq ls)).mono ?_
      rintro e w11 ⟨rfl, a11⟩
      have HA11 := Lib.hid (HA9.out.trans a11)
      clear a11
      go_wp2_with fail
      refine (keepruns_any _).mono ?_
      rintro e w12 ⟨rfl, a12⟩
      go_wp2_with fail
      go_ret
      exact ⟨rfl, HA11.out.trans a12⟩

theorem walkKeepNever (w : World) (hsh : w.ShapedOpen Try.prog) {H : Type} {enc : TypeId × Value → H} {base : Nat} {v0 v1 : Value} {d0 d1 : DataW H} {p0 p1 : List MemPlace}
    (hval0 : Value.okWide Try.prog w .any base 42 v0) (k0 : DataW.Trod enc Try.prog w 0 (fun _ => true) true 42 v0 d0 p0)
    (hval1 : Value.okWide Try.prog w .any base 44 v1) (k1 : DataW.Trod enc Try.prog w 0 (fun _ => true) true 44 v1 d1 p1)
    (a2 : Int) (w2 : (Lit.int .i64 a2).wf = true) (a3 : Int) (w3 : (Lit.int .i64 a3).wf = true) (hk : (DataW.weightsEach Try.prog [42, 44, 3, 3] [(d0 : DataW H), d1, .lit (.int .i64 a2), .lit (.int .i64 a3)]).all (· ≤ reachBytes) = true) :
    Calls Try.prog 5 #[v0, v1, .int .i64 a2, .int .i64 a3] w fun e w' => e = .returned (.bool true) ∧ Aft w w' := by
  obtain ⟨m, x1, x2, x3, vq, n, l, rfl, -, h0, b0, -, -⟩ := open_reqR hval0 k0 (wt_at hk (j := 0) rfl rfl)
  obtain ⟨st, vs, n2, l2, rfl, h1, b1, -, -, -⟩ := open_resR hval1 k1 (wt_at hk (j := 1) rfl rfl)
  have hb := bounds_i64 w2
  exact never_any m x1 x2 x3 vq vs n n2 st a2 a3 l l2 w h0 h1 b0 b1 hb.1 hb.2

end Go.Proofs.Ytaaffpndfeidfaa
