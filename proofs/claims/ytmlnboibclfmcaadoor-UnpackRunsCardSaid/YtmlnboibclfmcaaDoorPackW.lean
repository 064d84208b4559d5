/-
  The walk of pack.written.
-/
import Derived.Test.YtmlnboibclfmcaaDoorPackP
namespace Go.Proofs.YtmlnboibclfmcaaDoor
open Go.RowKit
set_option linter.unusedVariables false

theorem textL_len (s : List UInt8) : (textL s).length ≤ 6 + s.length := by
  have h := sizeF_len s
  unfold textL
  split
  · have := pintL_len 7 128 (sizeF s).toNat
    rw [List.length_append]; omega
  · have := pintL_len 7 0 s.length
    rw [List.length_append]; omega
theorem writL_len (i bits top : Nat) (n v : List UInt8) : (writL i bits top n v).length ≤ 18 + n.length + v.length := by
  have h1 := pintL_len bits top i
  have h2 := textL_len n
  have h3 := textL_len v
  unfold writL
  rw [List.length_append, List.length_append]
  split <;> simp <;> omega
theorem fcells (w : World) (n v : ByteArray) : (w.alloc (.cells #[.string n, .string v] 28)).cell? ⟨w.heap.size, 0, none⟩ = some (.string n) ∧ (w.alloc (.cells #[.string n, .string v] 28)).cell? ⟨w.heap.size, 1, none⟩ = some (.string v) := by
  constructor <;> simp [go_sem]

set_option maxHeartbeats 4000000 in
set_option maxRecDepth 100000 in
theorem written_any (v0 : Value) (l : List UInt8) (i bits top : Nat) (n v : ByteArray) (w : World) (hr : Rb w v0 l) (hl : l.length ≤ 600000000) (hi : i ≤ 2147483647) (hp : PreOk bits top) (hn : n.size ≤ 100000000) (hv : v.size ≤ 100000000) :
    Calls Tryd.prog 65 #[v0, .int .i64 (i : Int), .int .i64 (bits : Int), .int .u8 (top : Int), .agg #[.string n, .string v]] w fun e w' => ∃ v', e = .returned v' ∧ Own w' w.heap.size v' (l ++ writL i bits top n.data.toList v.data.toList) ∧ Aft w w' := by
  have hpl := pintL_len bits top i
  have HPT := Lib.hid (fun w h => put_any v0 l bits top i w h (by omega) hp hi)
  obtain ⟨P, hP⟩ : ∃ P, pintL bits top i = P := ⟨_, rfl⟩
  rw [hP] at HPT hpl
  have htn := textL_len n.data.toList
  rw [size_len] at htn
  have hlp : (l ++ P).length ≤ 600000006 := by rw [List.length_append]; omega
  have HTN := Lib.hid (fun v0 w h => text_any v0 (l ++ P) n w h (by omega) hn)
  have HT0 := Lib.hid (fun v0 w h => text_any v0 (l ++ P) v w h (by omega) hv)
  have hlq : (l ++ P ++ textL n.data.toList).length ≤ 700000012 := by rw [List.length_append]; omega
  have HT1 := Lib.hid (fun v0 w h => text_any v0 (l ++ P ++ textL n.data.toList) v w h (by omega) hv)
  have hA : Aft w (w.alloc (.cells #[.string n, .string v] 28)) := (Aft.refl w).alloc _
  have HR := Lib.hid (hr.aft hA)
  have HA := Lib.hid hA
  obtain ⟨c0, c1⟩ := fcells w n v
  have hW : w.heap.size < (w.alloc (.cells #[.string n, .string v] 28)).heap.size := by rw [World.size_alloc]; omega
  have HC := Lib.hid (fun (w' : World) (a : Aft (w.alloc (.cells #[.string n, .string v] 28)) w') => (And.intro ((Below.cell a.to (p := ⟨w.heap.size, 0, none⟩) hW).trans c0) ((Below.cell a.to (p := ⟨w.heap.size, 1, none⟩) hW).trans c1) : w'.cell? ⟨w.heap.size, 0, none⟩ = some (.string n) ∧ w'.cell? ⟨w.heap.size, 1, none⟩ = some (.string v)))
  obtain ⟨W, hWW⟩ : ∃ W, w.alloc (.cells #[.string n, .string v] 28) = W := ⟨_, rfl⟩
  rw [hWW] at HR HA HC
  have HWW := Lib.hid hWW
  have HP := Lib.hid hP
  clear hr hA c0 c1 hW hWW hP hp hpl htn hlp hlq
  by_cases h0 : i = 0
  · have i1 : ((i : Int) == 0) = true := by subst h0; rfl
    have HW : Hid (writL i bits top n.data.toList v.data.toList = P ++ (textL n.data.toList ++ textL v.data.toList)) := Lib.hid (by unfold writL; rw [HP.out, if_pos h0])
    generalize textL n.data.toList = Tn at HTN HT1 HW
    generalize textL v.data.toList = Tv at HT0 HT1 HW
    have i2 : ((i : Int) = 0) = True := by subst h0; simp
    clear h0 HT0 HP i2
    go_enter Tryd.func65, Tryd.ntmps65
    go_upto_region 1 with fail
    rw [HWW.out]
    generalize w.heap.size = g at HC ⊢
    go_wp2_with fail
    refine (HPT.out _ HR.out).mono ?_
    rintro e w1 ⟨v1, rfl, o1, a1⟩
    obtain ⟨x0, x1⟩ := HC.out _ a1
    have HO1 := Lib.hid o1
    have HA1 := Lib.hid a1
    clear o1 a1
    go_wp2_with fail
    refine (HTN.out _ _ HO1.out.rb).mono ?_
    rintro e w2 ⟨v2, rfl, o2, a2⟩
    clear x0 x1
    obtain ⟨x0, x1⟩ := HC.out _ (HA1.out.trans a2)
    have HO2 := Lib.hid o2
    have HA2 := Lib.hid (HA1.out.trans a2)
    clear o2 a2 HO1
    go_wp2_with fail
    refine (HT1.out _ _ HO2.out.rb).mono ?_
    rintro e w3 ⟨v3, rfl, o3, a3⟩
    have HO3 := Lib.hid (o3.base (HA.out.trans HA2.out).to.size)
    have HA3 := Lib.hid ((HA.out.trans HA2.out).trans a3)
    clear o3 a3 x0 x1 HO2 HA1 HA2
    go_wp2_with fail
    go_ret
    refine ⟨_, rfl, ?_, HA3.out⟩
    rw [HW.out, ← List.append_assoc, ← List.append_assoc]
    exact HO3.out
  · have i1 : ((i : Int) == 0) = false := by simp; omega
    have i2 : ¬ (i : Int) = 0 := by omega
    have HW : Hid (writL i bits top n.data.toList v.data.toList = P ++ ([] ++ textL v.data.toList)) := Lib.hid (by unfold writL; rw [HP.out, if_neg h0])
    generalize textL v.data.toList = Tv at HT0 HT1 HW
    clear h0 HT1 HTN HP
    go_enter Tryd.func65, Tryd.ntmps65
    go_upto_region 1 with fail
    rw [HWW.out]
    generalize w.heap.size = g at HC ⊢
    go_wp2_with fail
    refine (HPT.out _ HR.out).mono ?_
    rintro e w1 ⟨v1, rfl, o1, a1⟩
    obtain ⟨x0, x1⟩ := HC.out _ a1
    have HO1 := Lib.hid o1
    have HA1 := Lib.hid a1
    clear o1 a1
    go_wp2_with fail
    refine (HT0.out _ _ HO1.out.rb).mono ?_
    rintro e w3 ⟨v3, rfl, o3, a3⟩
    have HO3 := Lib.hid (o3.base (HA.out.trans HA1.out).to.size)
    have HA3 := Lib.hid ((HA.out.trans HA1.out).trans a3)
    clear o3 a3 x0 x1 HO1 HA1
    go_wp2_with fail
    go_ret
    refine ⟨_, rfl, ?_, HA3.out⟩
    rw [HW.out, List.nil_append, ← List.append_assoc]
    exact HO3.out

end Go.Proofs.YtmlnboibclfmcaaDoor
