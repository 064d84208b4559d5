/-
  ControlQuoted.
-/
import Derived.Test.YtodgnphmjagnkaaCtlQPlain
import Derived.Test.YtodgnphmjagnkaaCtlNum
namespace Go.Proofs.Ytodgnphmjagnkaa
open Go.RowKit

theorem of16_str (W W' : World) (g : Nat) (x : ByteArray) (L : List UInt8) (c : Ctl) (ha : Aft (W.alloc (.cells #[.string x] 9)) W') (hg : W.heap.size = g) (hx : x.size ≤ 1000) (hL : x.data.toList = L) (hc : ctlF (ccF [L]) = c) :
    Calls Try.prog 15 #[.slice (some ⟨g, 0, none⟩) 1 1] W' fun e w' => e = .returned (ctlV c) ∧ Aft W' w' := by
  subst hg hL hc
  have h := (RbS.new W [x.data.toList] (by simp)).aft ha
  refine of_any16 _ [x.data.toList] W' h (by simp) ?_
  rw [Lib.join_one, size_len]
  omega
def cq (n : Nat) : Ctl := ⟨false, false, false, false, false, false, (n : Int), -1, -1, -1⟩
def cp (n : Nat) : Ctl := ⟨false, false, false, true, false, false, (n : Int), -1, -1, -1⟩
theorem q_bare (nm : List UInt8) (n : Nat) (hn : n ≤ 2147483647) (h : tokB nm = true) (hl : lowerL nm = nMaxAge) : ctlF (ccF [nm ++ 61 :: decD n]) = cq n := by
  unfold ctlF
  rw [pairs_one (okT_tok h (dig_tok n)), hl]
  unfold ctlOf
  rw [List.foldl_cons, List.foldl_nil, step_nMaxAge, numF_dec _ n hn]
  rfl
theorem q_quo (nm : List UInt8) (n : Nat) (hn : n ≤ 2147483647) (h : tokB nm = true) (hl : lowerL nm = nMaxAge) : ctlF (ccF [nm ++ 61 :: (34 :: (decD n ++ [34]))]) = cq n := by
  have e : (34 : UInt8) :: (decD n ++ [34]) = quoL (decD n) := by unfold quoL; rw [(dig_plain n).2]
  unfold ctlF
  rw [e, pairs_one (okT_quo h (dig_plain n).1), hl]
  unfold ctlOf
  rw [List.foldl_cons, List.foldl_nil, step_nMaxAge, numF_dec _ n hn]
  rfl
theorem q_three (nm : List UInt8) (n : Nat) (hn : n ≤ 2147483647) (h : tokB nm = true) (hl : lowerL nm = nMaxAge) : ctlF (ccF [nPublic ++ 44 :: (32 :: ((nm ++ 61 :: decD n) ++ [32])) ++ 44 :: [120, 61, 49]]) = cp n := by
  unfold ctlF
  rw [pairs_three h (dig_tok n), hl]
  unfold ctlOf
  rw [List.foldl_cons, List.foldl_cons, List.foldl_cons, List.foldl_nil, step_nPublic, step_nMaxAge, numF_dec _ n hn]
  rw [step_no]
  · rfl
  all_goals decide

def nGreat : List UInt8 := [77, 65, 88, 45, 65, 103, 101]
theorem cq_V (n : Nat) : ctlV (cq n) = .agg #[.bool false, .bool false, .bool false, .bool false, .bool false, .bool false, .int .i64 (n : Int), .int .i64 (-1), .int .i64 (-1), .int .i64 (-1)] := rfl
theorem cp_V (n : Nat) : ctlV (cp n) = .agg #[.bool false, .bool false, .bool false, .bool true, .bool false, .bool false, .int .i64 (n : Int), .int .i64 (-1), .int .i64 (-1), .int .i64 (-1)] := rfl

theorem cq_cells {n : Nat} {G : Nat} {w : World} (h : CB w G (cq n)) : w.cell? ⟨G, 0, none⟩ = some (.bool false) ∧ w.cell? ⟨G, 1, none⟩ = some (.bool false) ∧ w.cell? ⟨G, 2, none⟩ = some (.bool false) ∧ w.cell? ⟨G, 3, none⟩ = some (.bool false) ∧ w.cell? ⟨G, 4, none⟩ = some (.bool false) ∧ w.cell? ⟨G, 5, none⟩ = some (.bool false) ∧ w.cell? ⟨G, 6, none⟩ = some (.int .i64 (n : Int)) ∧ w.cell? ⟨G, 7, none⟩ = some (.int .i64 (-1)) ∧ w.cell? ⟨G, 8, none⟩ = some (.int .i64 (-1)) ∧ w.cell? ⟨G, 9, none⟩ = some (.int .i64 (-1)) := h.cells
set_option maxHeartbeats 8000000 in
set_option maxRecDepth 100000 in
theorem quoted_any16 (n : Nat) (hn : n < 65536) (great : Bool) (w : World) :
    Calls Try.prog 7 #[.int .u16 (n : Int), .bool great] w fun e w' => e = .returned (.bool true) ∧ Aft w w' := by
  have g0 : wrap64 (n : Int) = (n : Int) := IntWalk.wrap64_in _ ⟨by omega, by omega⟩
  have HD := Lib.hid (fun w => digits_16 n (by omega) w)
  have hq1 := fun nm h hl => q_bare nm n (by omega) h hl
  have hq2 := fun nm h hl => q_quo nm n (by omega) h hl
  have hq3 := fun nm h hl => q_three nm n (by omega) h hl
  have hdl := decD_len 4 n (by omega)
  obtain ⟨S, hS⟩ : ∃ S : ByteArray, S = ⟨(decD n).toArray⟩ := ⟨_, rfl⟩
  have hSd : S.data.toList = decD n := by rw [hS]
  have hSz : S.size ≤ 5 := by rw [← size_len, hSd]; exact hdl
  rw [← hS] at HD
  rw [← hSd] at hq1 hq2 hq3
  clear hdl hSd hS
  have HQ1 := Lib.hid hq1
  have HQ2 := Lib.hid hq2
  have HQ3 := Lib.hid hq3
  clear hq1 hq2 hq3
  have k1 : 8 + S.size ≤ 140737488355328 := by omega
  have k2 : 9 + S.size ≤ 140737488355328 := by omega
  have k3 : 9 + S.size + 1 ≤ 140737488355328 := by omega
  have k4 : 16 + S.size ≤ 140737488355328 := by omega
  have k5 : 16 + S.size + 5 ≤ 140737488355328 := by omega
  cases great
  · have N1 := Lib.hid (HQ1.out nMaxAge (by decide +kernel) (by decide +kernel))
    have N2 := Lib.hid (HQ2.out nMaxAge (by decide +kernel) (by decide +kernel))
    have N3 := Lib.hid (HQ3.out nMaxAge (by decide +kernel) (by decide +kernel))
    clear HQ1 HQ2 HQ3
    go_enter Try.func7, Try.ntmps7
    go_wp2_with fail
    try rw [g0]
    refine (HD.out _).mono ?_
    rintro e w1 ⟨rfl, a1⟩
    go_wp2_with fail
    refine (of16_str w1 _ _ _ _ _ (Aft.refl _) rfl ?z1a ?e1a N1.out).mono ?k1a
    case z1a => rw [ByteArray.size_append]; show 8 + S.size ≤ 1000; omega
    case e1a => rw [ByteArray.data_append, Array.toList_append]; simp [nMaxAge]
    rintro e w2 ⟨rfl, a2⟩
    go_wp2_with fail
    refine (of16_str w2 _ _ _ _ _ (Aft.refl _) rfl ?z2a ?e2a N2.out).mono ?k2a
    case z2a => rw [ByteArray.size_append, ByteArray.size_append]; show 9 + S.size + 1 ≤ 1000; omega
    case e2a => rw [ByteArray.data_append, Array.toList_append, ByteArray.data_append, Array.toList_append]; simp [nMaxAge]
    rintro e w3 ⟨rfl, a3⟩
    obtain ⟨p7, p8⟩ := ctl_two w3 (cq n) (cq n)
    have P7 := Lib.hid p7
    have P8 := Lib.hid p8
    have A3 : Hid (Aft w ((w3.alloc (.cells (ctlC (cq n)).toArray 23)).alloc (.cells (ctlC (cq n)).toArray 23))) := Lib.hid ((((a1.trans ((Aft.refl _).alloc _)).trans (a2.trans ((Aft.refl _).alloc _))).trans a3).alloc _ |>.alloc _)
    clear p7 p8
    simp only [cq_V]
    go_wp2_with fail
    refine (of16_str ?W3a _ _ ?x3a _ _ ?h3a ?g3a ?z3a ?e3a N3.out).mono ?k3a
    case h3a => exact Aft.refl _
    case g3a => simp [World.size_alloc]
    case z3a => rw [ByteArray.size_append, ByteArray.size_append, ByteArray.size_append]; show 8 + 8 + S.size + 5 ≤ 1000; omega
    case e3a => rw [ByteArray.data_append, Array.toList_append, ByteArray.data_append, Array.toList_append, ByteArray.data_append, Array.toList_append]; simp [nMaxAge, nPublic]
    rintro e w4 ⟨rfl, a4⟩
    have a4' : Aft ((w3.alloc (.cells (ctlC (cq n)).toArray 23)).alloc (.cells (ctlC (cq n)).toArray 23)) w4 := Aft.trans ((Aft.refl _).alloc _) a4
    have hK7 : CB w4 w3.heap.size (cq n) := CB.aft P7.out a4'
    have hK8 : CB w4 (w3.heap.size + 1) (cq n) := CB.aft P8.out a4'
    have hA4 := A3.out.trans a4'
    have hK9 : CB (w4.alloc (.cells (ctlC (cq n)).toArray 23)) w4.heap.size (cq n) := heap_alloc_new w4 _
    have hL7 := hK7.aft ((Aft.refl w4).alloc (.cells (ctlC (cq n)).toArray 23))
    have hL8 := hK8.aft ((Aft.refl w4).alloc (.cells (ctlC (cq n)).toArray 23))
    have hA5 := hA4.alloc (.cells (ctlC (cq n)).toArray 23)
    simp only [cp_V]
    clear hK7 hK8 hA4 a4' a4 P7 P8 A3 a1 a2 a3
    go_upto_region 8 with fail
    obtain ⟨W, hW⟩ : ∃ W : World, w4.alloc (.cells (ctlC (cq n)).toArray 23) = W := ⟨_, rfl⟩
    rw [hW] at hK9 hL7 hL8 hA5
    rw [show w4.alloc (.cells #[.bool false, .bool false, .bool false, .bool false, .bool false, .bool false, .int .i64 (n : Int), .int .i64 (-1), .int .i64 (-1), .int .i64 (-1)] 23) = W from hW]
    clear hW N1 N2 N3 HD k1 k2 k3 k4 k5 hSz hn
    generalize w4.heap.size = G9 at hK9 ⊢
    generalize w3.heap.size = G7 at hL7 hL8 ⊢
    obtain ⟨q0, q1, q2, q3, q4, q5, q6, q7, q8, q9⟩ := cq_cells hL7
    obtain ⟨r0, r1, r2, r3, r4, r5, r6, r7, r8, r9⟩ := cq_cells hL8
    obtain ⟨s0, s1, s2, s3, s4, s5, s6, s7, s8, s9⟩ := cq_cells hK9
    have HA5 := Lib.hid hA5
    clear hL7 hL8 hK9 hA5
    go_wp2_with fail
    refine (ctlruns_any _).mono ?_
    rintro e w9 ⟨rfl, a9⟩
    go_wp2_with fail
    go_ret
    exact ⟨rfl, HA5.out.trans a9⟩
  · have N1 := Lib.hid (HQ1.out nGreat (by decide +kernel) (by decide +kernel))
    have N2 := Lib.hid (HQ2.out nGreat (by decide +kernel) (by decide +kernel))
    have N3 := Lib.hid (HQ3.out nGreat (by decide +kernel) (by decide +kernel))
    clear HQ1 HQ2 HQ3
    go_enter Try.func7, Try.ntmps7
    go_wp2_with fail
    try rw [g0]
    refine (HD.out _).mono ?_
    rintro e w1 ⟨rfl, a1⟩
    go_wp2_with fail
    refine (of16_str w1 _ _ _ _ _ (Aft.refl _) rfl ?z1b ?e1b N1.out).mono ?k1b
    case z1b => rw [ByteArray.size_append]; show 8 + S.size ≤ 1000; omega
    case e1b => rw [ByteArray.data_append, Array.toList_append]; simp [nGreat]
    rintro e w2 ⟨rfl, a2⟩
    go_wp2_with fail
    refine (of16_str w2 _ _ _ _ _ (Aft.refl _) rfl ?z2b ?e2b N2.out).mono ?k2b
    case z2b => rw [ByteArray.size_append, ByteArray.size_append]; show 9 + S.size + 1 ≤ 1000; omega
    case e2b => rw [ByteArray.data_append, Array.toList_append, ByteArray.data_append, Array.toList_append]; simp [nGreat]
    rintro e w3 ⟨rfl, a3⟩
    obtain ⟨p7, p8⟩ := ctl_two w3 (cq n) (cq n)
    have P7 := Lib.hid p7
    have P8 := Lib.hid p8
    have A3 : Hid (Aft w ((w3.alloc (.cells (ctlC (cq n)).toArray 23)).alloc (.cells (ctlC (cq n)).toArray 23))) := Lib.hid ((((a1.trans ((Aft.refl _).alloc _)).trans (a2.trans ((Aft.refl _).alloc _))).trans a3).alloc _ |>.alloc _)
    clear p7 p8
    simp only [cq_V]
    go_wp2_with fail
    refine (of16_str ?W3b _ _ ?x3b _ _ ?h3b ?g3b ?z3b ?e3b N3.out).mono ?k3b
    case h3b => exact Aft.refl _
    case g3b => simp [World.size_alloc]
    case z3b => rw [ByteArray.size_append, ByteArray.size_append, ByteArray.size_append]; show 8 + 8 + S.size + 5 ≤ 1000; omega
    case e3b => rw [ByteArray.data_append, Array.toList_append, ByteArray.data_append, Array.toList_append, ByteArray.data_append, Array.toList_append]; simp [nGreat, nPublic]
    rintro e w4 ⟨rfl, a4⟩
    have a4' : Aft ((w3.alloc (.cells (ctlC (cq n)).toArray 23)).alloc (.cells (ctlC (cq n)).toArray 23)) w4 := Aft.trans ((Aft.refl _).alloc _) a4
    have hK7 : CB w4 w3.heap.size (cq n) := CB.aft P7.out a4'
    have hK8 : CB w4 (w3.heap.size + 1) (cq n) := CB.aft P8.out a4'
    have hA4 := A3.out.trans a4'
    have hK9 : CB (w4.alloc (.cells (ctlC (cq n)).toArray 23)) w4.heap.size (cq n) := heap_alloc_new w4 _
    have hL7 := hK7.aft ((Aft.refl w4).alloc (.cells (ctlC (cq n)).toArray 23))
    have hL8 := hK8.aft ((Aft.refl w4).alloc (.cells (ctlC (cq n)).toArray 23))
    have hA5 := hA4.alloc (.cells (ctlC (cq n)).toArray 23)
    simp only [cp_V]
    clear hK7 hK8 hA4 a4' a4 P7 P8 A3 a1 a2 a3
    go_upto_region 8 with fail
    obtain ⟨W, hW⟩ : ∃ W : World, w4.alloc (.cells (ctlC (cq n)).toArray 23) = W := ⟨_, rfl⟩
    rw [hW] at hK9 hL7 hL8 hA5
    rw [show w4.alloc (.cells #[.bool false, .bool false, .bool false, .bool false, .bool false, .bool false, .int .i64 (n : Int), .int .i64 (-1), .int .i64 (-1), .int .i64 (-1)] 23) = W from hW]
    clear hW N1 N2 N3 HD k1 k2 k3 k4 k5 hSz hn
    generalize w4.heap.size = G9 at hK9 ⊢
    generalize w3.heap.size = G7 at hL7 hL8 ⊢
    obtain ⟨q0, q1, q2, q3, q4, q5, q6, q7, q8, q9⟩ := cq_cells hL7
    obtain ⟨r0, r1, r2, r3, r4, r5, r6, r7, r8, r9⟩ := cq_cells hL8
    obtain ⟨s0, s1, s2, s3, s4, s5, s6, s7, s8, s9⟩ := cq_cells hK9
    have HA5 := Lib.hid hA5
    clear hL7 hL8 hK9 hA5
    go_wp2_with fail
    refine (ctlruns_any _).mono ?_
    rintro e w9 ⟨rfl, a9⟩
    go_wp2_with fail
    go_ret
    exact ⟨rfl, HA5.out.trans a9⟩

theorem walkControlQuoted (a0 : Int) (w0 : (Lit.int .u16 a0).wf = true) (a1 : Bool) (w : World) :
    Calls Try.prog 7 #[.int .u16 a0, .bool a1] w fun e w' => e = .returned (.bool true) ∧ Aft w w' := by
  have h0 : 0 ≤ a0 ∧ a0 < 65536 := by have := bounds_u16 w0; omega
  obtain ⟨n, rfl⟩ := Int.eq_ofNat_of_zero_le h0.1
  exact quoted_any16 n (by omega) a1 w

end Go.Proofs.Ytodgnphmjagnkaa
