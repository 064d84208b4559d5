/-
  The walk of fields.All: the static table, split and cut from its text.
-/
import Derived.Test.YtahjoiphajkdcaaDoorFldPlain
import Derived.Test.YtahjoiphajkdcaaDoorShelf
namespace Go.Proofs.YtahjoiphajkdcaaDoor
open Go.RowKit

/-- The variable that strings.Index reads holds some number. -/
def MaxOk (w : World) : Prop := ∃ m, w.cell? ⟨0, 0, none⟩ = some (.int .i64 m)
theorem MaxOk.aft {w w' : World} (h : MaxOk w) (ha : Aft w w') : MaxOk w' := by
  obtain ⟨m, hm⟩ := h
  refine ⟨m, ?_⟩
  rw [Below.cell ha.to (World.block_lt_of_cell? _ _ hm)]
  exact hm
theorem MaxOk.alloc {w : World} (h : MaxOk w) (o : Obj) : MaxOk (w.alloc o) := h.aft ((Aft.refl w).alloc o)

theorem split_known (s : ByteArray) (hs : s.data.toList = knownL) (w : World) (hm : MaxOk w) :
    Calls Tryd.prog 15 #[.string s, .string ⟨#[124]⟩] w fun e w' => e = .returned (.slice (some ⟨w.heap.size, 0, none⟩) 61 61) ∧ w' = w.alloc (.cells (piecesT.map strV).toArray 9) := by
  obtain ⟨m, hm⟩ := hm
  have hlen : knownL.length = 758 := by kernel_rfl
  refine (Tryd.strings_Split s ⟨#[124]⟩ m w (by rw [← size_len, hs, hlen]; decide) hm (by decide)).mono ?_
  rintro e w' ⟨rfl, rfl⟩
  rw [known_countB s hs, known_splitB s hs]
  exact ⟨rfl, rfl⟩
theorem cut_piece (f : FieldL) (h1 : (Lib.cut (pieceOf f) [61]).1 = f.1) (h2 : (Lib.cut (pieceOf f) [61]).2.1 = f.2) (h3 : (pieceOf f).length ≤ 1000) (w : World) (hm : MaxOk w) :
    Calls Tryd.prog 16 #[strV (pieceOf f), .string ⟨#[61]⟩] w fun e w' => ∃ b, e = .returned (.tuple #[.string ⟨f.1.toArray⟩, .string ⟨f.2.toArray⟩, .bool b]) ∧ Aft w w' := by
  obtain ⟨m, hm⟩ := hm
  refine (Tryd.strings_Cut ⟨(pieceOf f).toArray⟩ ⟨#[61]⟩ m w (by show (pieceOf f).toArray.size < _; simp; omega) hm).mono ?_
  rintro e w' ⟨rfl, n, rfl⟩
  refine ⟨(Lib.cut (pieceOf f) [61]).2.2, ?_, (Aft.refl w).drewN n⟩
  show Ending.returned (.tuple #[strV (Lib.cut (pieceOf f) [61]).1, strV (Lib.cut (pieceOf f) [61]).2.1, _]) = _
  rw [h1, h2]
  rfl
theorem new2 (w : World) (a b : Value) (t : TypeId) : (w.alloc (.cells #[a, b] t)).cell? ⟨w.heap.size, 0, none⟩ = some a ∧ (w.alloc (.cells #[a, b] t)).cell? ⟨w.heap.size, 1, none⟩ = some b := by
  constructor <;> simp [go_sem]

set_option maxHeartbeats 4000000 in
set_option maxRecDepth 100000 in
theorem all_fields (w : World) (hm : MaxOk w) :
    Calls Tryd.prog 12 #[] w fun e w' => ∃ v, e = .returned v ∧ OwnF w' w.heap.size v staticT ∧ Aft w w' := by
  obtain ⟨B0, hB0⟩ : ∃ B0, w.heap.size = B0 := ⟨_, rfl⟩
  have hw1 : (w.alloc (.cells (piecesT.map strV).toArray 9)).heap.size = B0 + 1 := by rw [World.size_alloc, hB0]
  have hcell : ∀ k p, piecesT[k]? = some p → (w.alloc (.cells (piecesT.map strV).toArray 9)).cell? ⟨B0, k, none⟩ = some (strV p) := by
    intro k p hp
    subst hB0
    have : ((piecesT.map strV).toArray)[k]? = some (strV p) := by simp [hp]
    simp [go_sem, this]
  have hm1 : MaxOk (w.alloc (.cells (piecesT.map strV).toArray 9)) := hm.alloc _
  have hA1 : Aft w (w.alloc (.cells (piecesT.map strV).toArray 9)) := (Aft.refl w).alloc _
  have HB0 := Lib.hid hB0
  have HW1 := Lib.hid hw1
  have HCELL := Lib.hid hcell
  have HM1 := Lib.hid hm1
  have HA1 := Lib.hid hA1
  clear hB0 hw1 hcell hm1 hA1
  go_enter Tryd.func12, Tryd.ntmps12
  go_wp2_with (go_at_call 15; refine (split_known _ (by kernel_rfl) w hm).mono ?_; rintro e w1 ⟨rfl, hw⟩; rw [hw, HB0.out]; clear hw)
  generalize w.alloc (.cells (piecesT.map strV).toArray 9) = W1 at HW1 HCELL HM1 HA1 ⊢
  go_loopw [1, 9] (fun vv vi wr => ∃ k : Nat, k ≤ 61 ∧ vi = .int .i64 (k : Int) ∧ Hid (OwnF wr (B0 + 1) vv (staticT.take k)) ∧ Hid (Aft W1 wr)) (fun _ vi _ => 61 - (intOf vi).toNat)
  case atStart => exact ⟨0, by omega, by go_num, Lib.hid (OwnF.nil _ _), Lib.hid (Aft.refl _)⟩
  case round =>
    obtain ⟨k, hk, rfl, HO, HA⟩ := hrel
    by_cases hlt : k < 61
    · obtain ⟨f, hf, hp, c1, c2, c3⟩ := piece_cut k hlt
      have hx : wr.cell? ⟨B0, k, none⟩ = some (strV (pieceOf f)) := by
        rw [Below.cell HA.out.to (p := ⟨B0, k, none⟩) (by show B0 < W1.heap.size; rw [HW1.out]; omega)]
        exact HCELL.out k _ hp
      have htk : staticT.take (k + 1) = staticT.take k ++ [f] := by
        obtain ⟨hl, he⟩ := List.getElem?_eq_some_iff.1 hf
        rw [List.take_succ_eq_append_getElem hl, he]
      have HTK := Lib.hid htk
      have HMM := Lib.hid (HM1.out.aft HA.out)
      have HC := Lib.hid (And.intro c1 (And.intro c2 c3))
      clear htk c1 c2 c3 hp hf
      have i1 : (k : Int) < 61 := by omega
      unfold strV at hx
      go_wp2_with fail
      refine (cut_piece f HC.out.1 HC.out.2.1 HC.out.2.2 _ HMM.out).mono ?_
      rintro e w2 ⟨bb, rfl, a2⟩
      have HA2 := Lib.hid (HA.out.trans a2)
      have HO2 := Lib.hid (HO.out.aft a2)
      have HZ : Hid (B0 + 1 ≤ w2.heap.size) := Lib.hid (by rw [← HW1.out]; exact HA2.out.size)
      have HO3 := Lib.hid (HO2.out.aft ((Aft.refl w2).alloc (.cells #[Value.string ⟨f.1.toArray⟩, Value.string ⟨f.2.toArray⟩] 24)))
      have HZ3 := Lib.hid (le_alloc HZ.out (.cells #[Value.string ⟨f.1.toArray⟩, Value.string ⟨f.2.toArray⟩] 24))
      have HB3 : Hid (Below (B0 + 1) W1 (w2.alloc (.cells #[Value.string ⟨f.1.toArray⟩, Value.string ⟨f.2.toArray⟩] 24))) := Lib.hid (by rw [← HW1.out]; exact HA2.out.alloc _)
      have HN := Lib.hid (new2 w2 (Value.string ⟨f.1.toArray⟩) (Value.string ⟨f.2.toArray⟩) 24)
      have HL : Hid ((staticT.take k).length + 1 ≤ 1000000000000) := Lib.hid (by rw [List.length_take]; omega)
      clear a2
      go_wp2_with (at_builtin; refine wpList_pushF rfl (.tmp 19) (.tmp 23) rfl (B0 + 1) _ _ rfl HO3.out w2.heap.size 1 f rfl HN.out.1 HN.out.2 HL.out HZ3.out ?_; intro v6 w6 o6 g6)
      go_roundw
      case rel => exact ⟨k + 1, by omega, by go_num, Lib.hid (by rw [HTK.out]; exact o6), Lib.hid (by have := pushF_below HB3.out HO3.out g6 (Nat.le_refl _) HZ3.out; rw [← HW1.out] at this; exact this)⟩
      case measure => simp [intOf]; omega
    · have hk2 : k = 61 := by omega
      subst hk2
      have HT : Hid (staticT.take 61 = staticT) := Lib.hid (List.take_of_length_le (by rw [staticT_len]; omega))
      go_wp2_with fail
      go_ret
      refine ⟨_, rfl, ?_, HA1.out.trans HA.out⟩
      have := HO.out
      rw [HT.out] at this
      exact this.base (by rw [HB0.out]; omega)

end Go.Proofs.YtahjoiphajkdcaaDoor
