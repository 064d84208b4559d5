/-
  TopOwn from the row's own conditions.
-/
import Derived.Test.YtoeeackjlclneaaGreatDoorToWalk
import Derived.OpenShut
import Derived.SliceStrings
import Derived.ChangeSlices
import Derived.WideShapes
import Derived.ProofKit
import Derived.ShutString
import Derived.ChangeOld
import Derived.Deep.Grids
import Derived.Lib.LaidTab
import Derived.LaidSub
import Derived.MakeChecks
namespace Go.Proofs.YtoeeackjlclneaaGreatDoor
open Go.ChangeShapes Go.WideShapes Go.ChangeAt Go.RowKit
set_option linter.unusedVariables false
set_option maxRecDepth 10000

def laidO : List (String × DataW Unit) := Rows.topOwnRow.laid
def isPow (x : String × DataW Unit) : Bool := x.1 == "internal/strconv.uint64pow10"
theorem laid_pow : laidO.filter isPow = [("internal/strconv.uint64pow10", Lib.tabData .u64 Lib.pow10Tab)] := by kernel_rfl
theorem tab_of (w : World) (hL : laidMetH Tryz.prog laidO w) : Lib.TabIs Tryz.prog w "internal/strconv.uint64pow10" .u64 Lib.pow10Tab := by
  have h1 := laidMetH.filter isPow hL
  rw [laid_pow, MakeChecks.laidMetH_plain _ _ _ (by kernel_rfl)] at h1
  exact Lib.tabIs_of_head (g := 0) (t := 231) (e := 185) (n := 20) (by kernel_rfl) (by kernel_rfl) Tryz.underlying231 Tryz.underlying185 (by kernel_rfl) (by kernel_rfl) h1
theorem in64_of {x : Int} (h : (Lit.int .i64 x).wf = true) : In64 x := by
  obtain ⟨h1, h2⟩ := bounds_i64 h
  exact ⟨h1, h2⟩
theorem has_lt {P : Program} {w : World} {r : Reach} {base : Nat} {t e : TypeId} {a : Addr} {len cap : Nat} (ht : P.underlying t = some (.slice e)) (h : Value.okWide P w r base t (.slice (some a) len cap)) : a.spot = none ∧ a.block < w.heap.size := by
  simp only [Value.okWide, ht, Cell.okWide, Cell.ok] at h
  obtain ⟨_, _, _, hs, row, cells, hsh, _⟩ := h
  refine ⟨hs, ?_⟩
  rcases Nat.lt_or_ge a.block w.heap.size with h | h
  · exact h
  · unfold World.shape? at hsh
    rw [Array.getElem?_eq_none h] at hsh
    simp at hsh
theorem cellsB : Tryz.prog.cellsOf 4 = 1 := by kernel_rfl
/-- A slice of bools that came in. -/
theorem open_bools {H : Type} {enc : TypeId × Value → H} {W : World} {base : Nat} {v : Value} {d : DataW H} {p : List MemPlace} (hval : Value.okWide Tryz.prog W .any base 75 v) (h : DataW.Trod enc Tryz.prog W 0 (fun _ => true) true 75 v d p) : ∃ B, LstV W v B := by
  obtain ⟨a1, len, cap, rfl⟩ := okWide_slice Tryz.underlying75 hval
  obtain ⟨fuel, hf⟩ := h
  rcases Go.Deep.open_bools Tryz.underlying75 Tryz.underlying4 cellsB hf with ⟨hcs, hx⟩ | ⟨a, len', cap', F, hcs, _, hl, hm, hx, hcell⟩
  · simp [Value.cells] at hcs
    obtain ⟨rfl, rfl, rfl⟩ := hcs
    exact ⟨fun _ => false, Or.inl ⟨rfl, fun _ => rfl⟩⟩
  · simp [Value.cells] at hcs
    obtain ⟨rfl, rfl, rfl⟩ := hcs
    obtain ⟨hs, hlt⟩ := has_lt Tryz.underlying75 hval
    obtain ⟨ab, ao, spot⟩ := a
    subst hs
    refine ⟨fun i => decide (i < len) && F i, Or.inr ⟨ab, ao, len, cap, rfl, hl, hm, hlt, fun j => ⟨fun hj => ?_, fun hj => ?_⟩⟩⟩
    · have := hcell j (by omega)
      rw [Addr.add_lit] at this
      rw [this]
      show some (Value.bool (F j)) = some (.bool (decide (j < len) && F j))
      rw [decide_eq_true hj]
      rfl
    · show (decide (j < len) && F j) = false
      rw [decide_eq_false (by omega)]
      rfl
theorem walkTopOwn (w : World) (hL : laidMetH Tryz.prog Rows.topOwnRow.laid w) (hsh : w.ShapedOpen Tryz.prog) (a0 : Int) (w0 : (Lit.int .i64 a0).wf = true) {H : Type} {enc : TypeId × Value → H} {base : Nat} {v : Value} {d : DataW H} {p : List MemPlace} (hval : Value.okWide Tryz.prog w .any base 75 v) (hd : DataW.Trod enc Tryz.prog w 0 (fun _ => true) true 75 v d p) :
    Calls Tryz.prog 7 #[.int .i64 a0, v] w fun e w' => e = .returned (.bool true) ∧ Aft w w' := by
  obtain ⟨B, hB⟩ := open_bools hval hd
  exact walk_own w (maxOk_of w hsh) (tab_of w (show laidMetH Tryz.prog laidO w from hL)) a0 (in64_of w0) v B hB
end Go.Proofs.YtoeeackjlclneaaGreatDoor
