/-
  FieldsSums, where the arguments are not too great.
-/
import Derived.Test.YtdachmjchgnabaaDoorFldRuns
import Derived.Test.YtdachmjchgnabaaDoorArgF
import Derived.Test.YtdachmjchgnabaaDoorFlP
namespace Go.Proofs.YtdachmjchgnabaaDoor
open Go.ChangeShapes Go.WideShapes Go.ChangeAt Go.RowKit

theorem upto_two {H : Type} {d0 d1 : DataW H} (h : Rows.uptoSmall H [d0, d1] = true) : Rows.uptoBulk d0 + Rows.uptoBulk d1 ≤ 1048576 := by
  have h2 : Rows.uptoBulkAll [d0, d1] ≤ 1048576 := of_decide_eq_true h
  simp only [Rows.uptoBulkAll] at h2
  omega

theorem empty_push {w2 w4 : World} (g4 : (w2.alloc (.cells #[] 23)).grownBy w4 (Value.slice (some ⟨w2.heap.size, 0, none⟩) 0 0).ownBlock) : Aft w2 w4 :=
  pushF_below ((Below.refl _ _).alloc (Nat.le_refl _) _) (OwnF.empty w2 w2.heap.size (Nat.le_refl _)) g4 (Nat.le_refl _) (le_alloc (Nat.le_refl _) _)
set_option maxHeartbeats 4000000 in
theorem sums_any (v0 v1 : Value) (l m : List FieldL) (w : World) (hm : MaxOk w) (h0 : RbF w v0 l) (h1 : RbF w v1 m) (hl : bulkF l + bulkF m ≤ 1048576) :
    Calls Tryd.prog 6 #[v0, v1] w fun e w' => e = .returned (.bool true) ∧ Aft w w' := by
  have b0 := bulkF_sum l
  have b1 := bulkF_sum m
  have q0 := bulkF_len l
  have q1 := bulkF_len m
  have hs := sumF_append l m
  have h32 := sumF_len l
  obtain ⟨x, hx⟩ : ∃ x, sumF l = x := ⟨_, rfl⟩
  obtain ⟨y, hy⟩ : ∃ y, sumF m = y := ⟨_, rfl⟩
  have HS0 := Lib.hid (fun w => sum_any v0 l w)
  have HS1 := Lib.hid (fun w => sum_any v1 m w)
  have HS2 := Lib.hid (fun v w => sum_any v (l ++ m) w)
  rw [hs] at HS2
  rw [hx] at HS0 HS2 b0 h32
  rw [hy] at HS1 HS2 b1
  obtain ⟨a, cap, bb, off, rfl, _, _, _, _, _⟩ := h0.open
  obtain ⟨n, hn⟩ : ∃ n, l.length = n := ⟨_, rfl⟩
  have HL : Hid (0 + l.length ≤ 1000000000000 ∧ l.length + m.length ≤ 1000000000000) := Lib.hid (by omega)
  rw [hn] at q0 h0 h32 HS0 ⊢
  have g1 : IntKind.i64.wrap ((x : Int) + (y : Int)) = ((x + y : Nat) : Int) := by rw [IntWalk.i64_in _ (by omega)]; push_cast; rfl
  have g2 : IntKind.i64.wrap (32 * (n : Int)) = 32 * (n : Int) := IntWalk.i64_in _ (by omega)
  have i1 : (x : Int) ≥ 32 * (n : Int) := by omega
  have HX0 : Hid (x ≤ 1000000000000) := Lib.hid (by omega)
  have HY0 : Hid (y ≤ 1000000000000) := Lib.hid (by omega)
  have HXY : Hid (x + y ≤ 1000000000000) := Lib.hid (by omega)
  have H0 := Lib.hid h0
  have H1 := Lib.hid h1
  have HM := Lib.hid hm
  clear b0 b1 q0 q1 hs h32 hx hy h0 h1 hm hl hn
  go_enter Tryd.func6, Tryd.ntmps6
  go_wp2_with fail
  refine (HS0.out _ H0.out HX0.out).mono ?_
  rintro e w1 ⟨rfl, a1⟩
  have A1 := Lib.hid a1
  clear a1
  go_wp2_with fail
  refine (HS1.out _ (H1.out.aft A1.out) HY0.out).mono ?_
  rintro e w2 ⟨rfl, a2⟩
  have A2 := Lib.hid (A1.out.trans a2)
  clear a2 A1
  have HE := Lib.hid (OwnF.empty w2 w2.heap.size (Nat.le_refl _))
  have HR0 := Lib.hid ((H0.out.aft A2.out).aft ((Aft.refl w2).alloc (.cells #[] 23)))
  have HR1 := Lib.hid (H1.out.aft A2.out)
  go_wp2_with (first | (at_builtin; refine wpList_pushesF rfl (.tmp 11) (.tmp 12) rfl w2.heap.size _ _ [] l rfl HE.out rfl HR0.out HL.out.1 (le_alloc (Nat.le_refl _) _) ?_; intro v4 w4 o4 g4) | (at_builtin; refine wpList_pushesF rfl (.tmp 13) (.tmp 14) rfl w2.heap.size _ _ l m rfl o4 rfl (HR1.out.aft (empty_push g4)) HL.out.2 (empty_push g4).size ?_; intro v5 w5 o5 g5))
  have a5 : Aft w2 w5 := pushF_below (empty_push g4) o4 g5 (Nat.le_refl _) (empty_push g4).size
  have A5 := Lib.hid (A2.out.trans a5)
  have O5 := Lib.hid o5.rb
  clear a5 o5 o4 g4 g5
  go_wp2_with fail
  refine (HS2.out _ _ O5.out HXY.out).mono ?_
  rintro e w6 ⟨rfl, a6⟩
  have A6 := Lib.hid (A5.out.trans a6)
  clear a6
  go_wp2_with fail
  refine (runs_any _ (HM.out.aft A6.out)).mono ?_
  rintro e w7 ⟨rfl, a7⟩
  have A7 := Lib.hid (A6.out.trans a7)
  clear a7
  go_wp2_with fail
  go_ret
  exact ⟨rfl, A7.out⟩

theorem walkFieldsSums (w : World) (hsh : w.ShapedOpen Tryd.prog) {H : Type} {enc : TypeId × Value → H} {base : Nat} {v0 v1 : Value} {d0 d1 : DataW H} {p0 p1 : List MemPlace}
    (hval0 : Value.okWide Tryd.prog w .any base 30 v0) (k0 : DataW.Trod enc Tryd.prog w 0 (fun _ => true) true 30 v0 d0 p0)
    (hval1 : Value.okWide Tryd.prog w .any base 30 v1) (k1 : DataW.Trod enc Tryd.prog w 0 (fun _ => true) true 30 v1 d1 p1) (hk : Rows.uptoSmall H [d0, d1] = true) :
    Calls Tryd.prog 6 #[v0, v1] w fun e w' => e = .returned (.bool true) ∧ Aft w w' := by
  obtain ⟨l, h0, b0⟩ := open_fieldsB hval0 k0
  obtain ⟨m, h1, b1⟩ := open_fieldsB hval1 k1
  have := upto_two hk
  exact sums_any v0 v1 l m w (maxOk_of w hsh) h0 h1 (by omega)

end Go.Proofs.YtdachmjchgnabaaDoor
