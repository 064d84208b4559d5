/-
  The walk of the reader's method name: the place of three letters among such.
-/
import Derived.Test.YtimpnknmhbpffaaDayWalks
namespace Go.Proofs.Ytimpnknmhbpffaa
open Go.RowKit

theorem pName_none {n : Nat} {all s : ByteArray} (h : ∀ j, j < n → Dp.hit all.data.toList s.data.toList j = false) : Dp.pName n all.data.toList (some s.data.toList) = (0, none) := by
  simp only [Dp.pName]
  rw [Dp.find_none h]
theorem pName_some {n k : Nat} {all s : ByteArray} (hk : k < n) (h : ∀ j, j < k → Dp.hit all.data.toList s.data.toList j = false) (hh : Dp.hit all.data.toList s.data.toList k = true) : Dp.pName n all.data.toList (some s.data.toList) = ((k : Int), some (s.data.toList.drop 3)) := by
  simp only [Dp.pName]
  rw [Dp.find_some k hk h hh]
theorem hit_short {n j : Nat} {all s : ByteArray} (hn : all.size = 3 * n) (hj : j < n) (hs : s.size < 3) : Dp.hit all.data.toList s.data.toList j = false := by
  unfold Dp.hit
  rw [beq_eq_false_iff_ne]
  intro e
  have := congrArg List.length e
  simp at this
  omega
theorem hit_eq {j : Nat} (all s : ByteArray) : ((s.extract 0 3).toList == (all.extract (3 * j) (3 * j + 3)).toList) = Dp.hit all.data.toList s.data.toList j := by
  rw [Lib.toList_data, Lib.toList_data, extract_front, Lib.extract_data, show 3 * j + 3 - 3 * j = 3 by omega]
  rfl

set_option maxHeartbeats 1000000 in
theorem name_any (b n : Nat) (all : ByteArray) (st : Option (List UInt8)) (w : World) (h : St w b st) (hn : all.size = 3 * n) (hn2 : n ≤ 12) :
    Calls Try.prog 75 #[.pointer (some ⟨b, 0, none⟩), .string all] w fun e w' => e = .returned (.int .i64 (Dp.pName n all.data.toList st).1) ∧ St w' b (Dp.pName n all.data.toList st).2 ∧ Below b w w' := by
  obtain ⟨s, ok, hR, rfl⟩ := h
  have hs := hR.hs
  have hb0 : Below b w w := Below.refl _ _
  have HN := Lib.hid hn
  have hn3 : all.size ≤ 3 * n := by omega
  have hn4 : 3 * n ≤ all.size := by omega
  clear hn
  cases ok
  · have c0 := hR.c0
    have c1 := hR.c1
    have f0 := hR.f0
    have f1 := hR.f1
    go_enter Try.func75, Try.ntmps75
    go_wp2
    go_loopw [5] (fun i wr => i = .int .i64 0 ∧ wr = w) (fun i _ => 0)
    case atStart => exact ⟨rfl, rfl⟩
    case round =>
      obtain ⟨rfl, rfl⟩ := hrel
      by_cases h0 : 0 < all.size
      · go_wp2
        go_ret
        exact ⟨rfl, ⟨_, _, hR.set1 _, rfl⟩, bset hb0 _ _ _ (Nat.le_refl _)⟩
      · go_wp2
        go_ret
        exact ⟨rfl, ⟨_, _, hR.set1 _, rfl⟩, bset hb0 _ _ _ (Nat.le_refl _)⟩
  · simp only [if_true]
    go_enter Try.func75, Try.ntmps75
    go_wp2
    have HR := Lib.hid hR
    have c0 := hR.c0
    clear hR
    go_loopw [5] (fun i wr => ∃ k : Nat, k ≤ n ∧ i = .int .i64 ((3 * k : Nat) : Int) ∧ Rd wr b s true ∧ Below b w wr ∧ ∀ j, j < k → Dp.hit all.data.toList s.data.toList j = false) (fun i _ => 3 * n - (intOf i).toNat)
    case atStart => exact ⟨0, by omega, rfl, HR.out, hb0, by simp⟩
    case round =>
      obtain ⟨k, hk, rfl, hRr, hb1, hno⟩ := hrel
      have HNO := Lib.hid hno
      clear hno c0
      have c0 := hRr.c0
      have c1 := hRr.c1
      have f0 := hRr.f0
      have f1 := hRr.f1
      by_cases hlt : k < n
      · by_cases h3 : 3 ≤ s.size
        · cases hm : ((s.extract 0 3).toList == (all.extract (3 * k) (3 * k + 3)).toList)
          · go_wp2
            go_quiet (fail)
            go_wp2
            go_roundw
            case rel =>
              refine ⟨k + 1, by omega, by go_num, hRr.drewN _, bdrawN hb1 _, fun j hj => ?_⟩
              rw [hit_eq] at hm
              by_cases e : j = k
              · rw [e]; exact hm
              · exact HNO.out j (by omega)
            case measure => simp [intOf]; omega
          · go_wp2
            go_quiet (fail)
            go_wp2
            go_ret
            rw [hit_eq] at hm
            rw [pName_some hlt HNO.out hm]
            exact ⟨ret_int (by omega), ⟨_, _, (hRr.drewN _).set0 _ (by simp; omega), by rw [extract_end]; rfl⟩, bset (bdrawN hb1 _) _ _ _ (Nat.le_refl _)⟩
        · go_wp2
          go_ret
          rw [pName_none (fun j hj => hit_short HN.out hj (by omega))]
          exact ⟨rfl, ⟨_, _, hRr.set1 _, rfl⟩, bset hb1 _ _ _ (Nat.le_refl _)⟩
      · go_wp2
        go_ret
        rw [pName_none (fun j hj => HNO.out j (by omega))]
        exact ⟨rfl, ⟨_, _, hRr.set1 _, rfl⟩, bset hb1 _ _ _ (Nat.le_refl _)⟩

end Go.Proofs.Ytimpnknmhbpffaa
