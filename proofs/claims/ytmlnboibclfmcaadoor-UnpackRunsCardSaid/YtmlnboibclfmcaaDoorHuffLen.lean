/-
  The walk of api.Length.
-/
import Derived.Test.YtmlnboibclfmcaaDoorHuffPlain
import Derived.Great.BuildSlice
import Derived.Great.Walk
import Derived.Deep.DeepCutAuto
namespace Go.Proofs.YtmlnboibclfmcaaDoor
open Go.RowKit

def zeros (n : Nat) : Array Value := (List.replicate n (Value.int .i64 0)).toArray
def lensZ : List Int := Hp.lensL.map Int.ofNat
def lensA : Array Value := (lensZ.map (Value.int .i64)).toArray
theorem zeroV257 (w : World) : (zeroValue 149).run Tryd.prog w = .ok (.agg (zeros 257)) w := by kernel_rfl
theorem lensA_at (i : Nat) (h : i < 257) : lensA[i]? = some (.int .i64 (Hp.lenF (i : Int))) := by
  have hl : i < Hp.lensL.length := by rw [Hp.lensL_len]; exact h
  unfold lensA lensZ Hp.lenF
  rw [if_neg (by omega)]
  simp [List.getElem?_eq_getElem hl]
theorem info257 : (Tryd.prog.info? 149).map (·.size) = some 257 := by kernel_rfl
theorem infoInt : (Tryd.prog.info? 3).map (·.size) = some 1 := by kernel_rfl
theorem zero257 : ((Tryd.prog.info? 149).bind (·.zero)).map (·.cells.size) = some lensZ.length := by kernel_rfl
theorem und257 : Tryd.prog.underlying 149 = some (.array 257 3) := by kernel_rfl
/-- A whole row stored: the cells behind it. -/
theorem setRow_cell (w : World) (g : Nat) (old cells : Array Value) (t : TypeId) (hg : w.heap[g]? = some (.cells old t (0, 0))) (i : Nat) : (w.setRow g cells).cell? ⟨g, i, none⟩ = cells[i]? := by
  have h := setRow_heap w g old cells t (0, 0) hg
  simp [World.cell?, h]

theorem heap_new (w : World) (o : Obj) : (w.alloc o).heap[w.heap.size]? = some o := by
  show (w.heap.push o)[w.heap.size]? = some o
  simp
theorem aft_row (w : World) (cells old : Array Value) (t : TypeId) : Aft w ((w.alloc (.cells old t)).setRow w.heap.size cells) := by
  refine ⟨rfl, rfl, rfl, ?_, fun k hk => ?_⟩
  · simp [World.setRow]
  · have h1 : (w.alloc (.cells old t)).heap[k]? = w.heap[k]? := Below.heap_alloc _ _ _ hk
    rw [← h1]
    simp only [World.setRow, Array.getElem?_modify]
    rw [if_neg (by omega)]

set_option maxRecDepth 100000 in
set_option maxHeartbeats 1000000 in
theorem len_any (s : Int) (h0 : -9223372036854775808 ≤ s) (h1 : s ≤ 9223372036854775807) (w : World) :
    Calls Tryd.prog 93 #[.int .i64 s] w fun e w' => e = .returned (.int .i64 (Hp.lenF s)) ∧ Aft w w' := by
  have hzv := zeroV257
  by_cases hb : s < 0 ∨ 257 ≤ s
  · have hf : Hp.lenF s = 0 := by unfold Hp.lenF; rw [if_pos hb]
    have HF := Lib.hid hf
    have HB := Lib.hid hb
    clear hf hb
    go_enter Tryd.func93, Tryd.ntmps93
    go_upto_region 1 with fail
    go_wp2_with (first
      | (refine wpList_buildFlatArrTo rfl 149 3 257 _ rfl .i64 lensZ (some 4) rfl und257 infoInt zero257 (by kernel_rfl) ?_)
      | (refine wpList_store_rowTo rfl 149 _ _ rfl rfl w.heap.size lensA rfl rfl 149 (zeros 257) (heap_new _ _) (by kernel_rfl) (by kernel_rfl) (by kernel_rfl) ?_))
    all_goals
      first
        | (go_ret
           rw [HF.out]
           exact ⟨rfl, aft_row _ _ _ _⟩)
        | (exfalso
           have := HB.out
           omega)
  · have b0 : 0 ≤ s := by omega
    have b1 : s < 257 := by omega
    have b2 : s ≤ 256 := by omega
    have hc : ((w.alloc (.cells (zeros 257) 149)).setRow w.heap.size lensA).cell? ⟨w.heap.size, s.toNat, none⟩ = some (.int .i64 (Hp.lenF s)) := by
      rw [setRow_cell _ _ _ _ _ (heap_new _ _), lensA_at _ (by omega), Int.toNat_of_nonneg b0]
    clear hb
    go_enter Tryd.func93, Tryd.ntmps93
    go_upto_region 1 with fail
    go_wp2_with (first
      | (refine wpList_buildFlatArrTo rfl 149 3 257 _ rfl .i64 lensZ (some 4) rfl und257 infoInt zero257 (by kernel_rfl) ?_)
      | (refine wpList_store_rowTo rfl 149 _ _ rfl rfl w.heap.size lensA rfl rfl 149 (zeros 257) (heap_new _ _) (by kernel_rfl) (by kernel_rfl) (by kernel_rfl) ?_))
    go_ret
    exact ⟨rfl, aft_row _ _ _ _⟩

end Go.Proofs.YtmlnboibclfmcaaDoor
