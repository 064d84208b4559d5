/-
  The walk of the book's method symbol.
-/
import Derived.Test.YtmlnboibclfmcaaDoorHuffCode
namespace Go.Proofs.YtmlnboibclfmcaaDoor
open Go.RowKit

/-- The symbol of a code of n bits; -1: none. -/
def symF (c : Int) (n : Nat) : Int := if c - firstF n < 0 ∨ count 257 n ≤ c - firstF n then -1 else ordF 257 (startF n + (c - firstF n)).toNat
theorem F3_first (n : Nat) (h : n < 32) : F3 257 n = firstF n := by
  unfold F3 F2
  rw [if_pos (by omega), if_pos h, if_pos h]
theorem F3_count (n : Nat) (h : n < 32) : F3 257 (32 + n) = count 257 n := by
  unfold F3 F2
  rw [if_pos (by omega), if_neg (by omega), if_pos (by omega), show 32 + n - 32 = n by omega]
theorem F3_start (n : Nat) (h : n < 32) : F3 257 (64 + n) = startF n := by
  unfold F3 F2
  rw [if_pos (by omega), if_neg (by omega), if_neg (by omega), if_pos (by omega), if_pos (by omega), show 64 + n - 64 = n by omega]
theorem F3_order (n : Nat) (h : n < 257) : F3 257 (96 + n) = ordF 257 n := by
  unfold F3
  rw [if_neg (by omega), if_pos (by omega), show 96 + n - 96 = n by omega]

set_option maxHeartbeats 1000000 in
theorem symbol_any (b n : Nat) (c : Int) (h0 : 0 ≤ c) (h1 : c ≤ 4294967296) (hn : n < 32) (w : World) (hA : Arr w b 610 (F3 257)) :
    Calls Tryd.prog 116 #[.pointer (some ⟨b, 0, none⟩), .int .i64 c, .int .i64 (n : Int)] w fun e w' => e = .returned (.int .i64 (symF c n)) ∧ Aft w w' := by
  have a1 : w.cell? ⟨b, n, none⟩ = some (.int .i64 (firstF n)) := by rw [hA.cell n (by omega), F3_first n hn]
  have a2 : w.cell? ⟨b, 32 + n, none⟩ = some (.int .i64 (count 257 n)) := by rw [hA.cell (32 + n) (by omega), F3_count n hn]
  have a3 : w.cell? ⟨b, 64 + n, none⟩ = some (.int .i64 (startF n)) := by rw [hA.cell (64 + n) (by omega), F3_start n hn]
  have f0 := first_bd n (by omega)
  have s0 := start_bd n (by omega)
  have s1 := start_bd (n + 1) (by omega)
  have se : startF (n + 1) = startF n + count 257 n := rfl
  have n0 := count_bd 257 n
  have hsym : symF c n = if c - firstF n < 0 ∨ count 257 n ≤ c - firstF n then -1 else ordF 257 (startF n + (c - firstF n)).toNat := rfl
  by_cases hlt : c - firstF n < 0 ∨ count 257 n ≤ c - firstF n
  · rw [if_pos hlt] at hsym
    have HY := Lib.hid hsym
    have HL := Lib.hid hlt
    clear hsym hlt se s1
    go_enter Tryd.func116, Tryd.ntmps116
    go_wp2_with fail
    all_goals
      first
        | (go_ret
           rw [HY.out]
           exact ⟨rfl, Aft.refl _⟩)
        | (exfalso
           have := HL.out
           omega)
  · have k0 : 0 ≤ startF n + (c - firstF n) := by omega
    have k1 : startF n + (c - firstF n) < 257 := by omega
    have a4 : w.cell? ⟨b, 96 + (startF n + (c - firstF n)).toNat, none⟩ = some (.int .i64 (symF c n)) := by
      rw [hA.cell _ (by omega), F3_order _ (by omega), hsym, if_neg hlt]
    have k2 : 0 ≤ c - firstF n := by omega
    have k3 : c - firstF n < count 257 n := by omega
    have e1 : IntKind.i64.wrap (startF n + (c - firstF n)) = startF n + (c - firstF n) := IntWalk.i64_in _ (by omega)
    clear hsym hlt se s1 n0
    generalize symF c n = y at *
    have i0 : (n : Int) < 32 := by omega
    go_enter Tryd.func116, Tryd.ntmps116
    go_wp2_with fail
    go_quiet (fail)
    go_wp2_with fail
    go_ret
    exact ⟨rfl, (Aft.refl _).drewN _⟩

end Go.Proofs.YtmlnboibclfmcaaDoor
