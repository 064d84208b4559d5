/-
  The walk of TokenRuns.
-/
import Derived.Test.YtiblkkbjnlccaaaTokOf
import Derived.Test.YtiblkkbjnlccaaaTokSplit
import Derived.Test.YtiblkkbjnlccaaaSameS
namespace Go.Proofs.Ytiblkkbjnlccaaa
open Go.RowKit

theorem split_some (s : ByteArray) (L : List (List UInt8)) (w : World) (hs : s.size ≤ 1000000000) (h : splF s.data.toList = some L) :
    Calls Try.prog 9 #[.string s] w fun e w' => ∃ v, e = .returned (.tuple #[v, .bool true]) ∧ OwnS w' w.heap.size v L ∧ Aft w w' := by
  have := split_any s w hs
  rw [h] at this
  refine this.mono ?_
  rintro e w' ⟨⟨v, rfl, ho⟩, ha⟩
  exact ⟨v, rfl, ho, ha⟩
theorem split_none (s : ByteArray) (w : World) (hs : s.size ≤ 1000000000) (h : splF s.data.toList = none) :
    Calls Try.prog 9 #[.string s] w fun e w' => e = .returned (.tuple #[.slice none 0 0, .bool false]) ∧ Aft w w' := by
  have := split_any s w hs
  rw [h] at this
  exact this
theorem unq_of (s : ByteArray) (v : Value) (w : World) (hs : s.size ≤ 1000000000) (h : uqres (unqF s.data.toList) = v) :
    Calls Try.prog 10 #[.string s] w fun e w' => e = .returned v ∧ Aft w w' := by
  rw [← h]
  exact unquote_any s w hs
theorem of_of (s : ByteArray) (v : Value) (w : World) (hs : s.size ≤ 1000000000) (h : ofres (ofF s.data.toList) = v) :
    Calls Try.prog 11 #[.string s] w fun e w' => e = .returned v ∧ Aft w w' := by
  rw [← h]
  exact of_any s w hs

/-- Block g holds three cells. -/
structure P3 (w : World) (g : Nat) (a b c : Value) : Prop where
  c0 : w.cell? ⟨g, 0, none⟩ = some a
  c1 : w.cell? ⟨g, 1, none⟩ = some b
  c2 : w.cell? ⟨g, 2, none⟩ = some c
  lt : g < w.heap.size
theorem P3.new (w : World) (a b c : Value) (t : TypeId) : P3 (w.alloc (.cells #[a, b, c] t)) w.heap.size a b c :=
  ⟨by simp [go_sem], by simp [go_sem], by simp [go_sem], by simp⟩
theorem P3.aft {w w' : World} {g : Nat} {a b c : Value} (h : P3 w g a b c) (ha : Aft w w') : P3 w' g a b c :=
  ⟨by rw [Below.cell ha.to (p := ⟨g, 0, none⟩) h.lt]; exact h.c0, by rw [Below.cell ha.to (p := ⟨g, 1, none⟩) h.lt]; exact h.c1, by rw [Below.cell ha.to (p := ⟨g, 2, none⟩) h.lt]; exact h.c2, Nat.lt_of_lt_of_le h.lt ha.size⟩
theorem new_aft (w : World) (o : Obj) : Aft w (w.alloc o) := (Aft.refl _).alloc o

set_option maxHeartbeats 1000000 in
theorem tokenruns_any (w : World) :
    Calls Try.prog 3 #[] w fun e w' => e = .returned (.bool true) ∧ Aft w w' := by
  go_enter Try.func3, Try.ntmps3
  go_wp2_with fail
  refine (split_some _ [[97], [34, 98, 44, 99, 34], [100]] _ (by decide) (by decide +kernel)).mono ?_
  rintro e w1 ⟨v1, rfl, o1, b1⟩
  obtain ⟨a1, k1, rfl, _⟩ := o1.slice
  go_wp2_with fail
  refine (split_none _ _ (by decide) (by decide +kernel)).mono ?_
  rintro e w2 ⟨rfl, b2⟩
  go_wp2_with fail
  refine (unq_of _ (.tuple #[.string ⟨#[97, 34, 98]⟩, .bool true]) _ (by decide) (by kernel_rfl)).mono ?_
  rintro e w3 ⟨rfl, b3⟩
  go_wp2_with fail
  refine (unq_of _ (.tuple #[.string ⟨#[]⟩, .bool false]) _ (by decide) (by kernel_rfl)).mono ?_
  rintro e w4 ⟨rfl, b4⟩
  go_wp2_with fail
  refine (of_of _ (.tuple #[.agg #[.string ⟨#[109, 97, 120, 45, 97, 103, 101]⟩, .string ⟨#[53]⟩, .bool true], .bool true]) _ (by decide) (by kernel_rfl)).mono ?_
  rintro e w5 ⟨rfl, b5⟩
  go_wp2_with fail
  have p5 := P3.new w5 (.string ⟨#[109, 97, 120, 45, 97, 103, 101]⟩) (.string ⟨#[53]⟩) (.bool true) 28
  have a5 := new_aft w5 (.cells #[.string ⟨#[109, 97, 120, 45, 97, 103, 101]⟩, .string ⟨#[53]⟩, .bool true] 28)
  obtain ⟨g5, hg5⟩ : ∃ g, w5.heap.size = g := ⟨_, rfl⟩
  rw [hg5] at p5 ⊢
  clear hg5
  generalize w5.alloc (.cells #[.string ⟨#[109, 97, 120, 45, 97, 103, 101]⟩, .string ⟨#[53]⟩, .bool true] 28) = W5 at *
  refine (of_of _ (.tuple #[.agg #[.string ⟨#[120]⟩, .string ⟨#[49]⟩, .bool true], .bool true]) _ (by decide) (by kernel_rfl)).mono ?_
  rintro e w6 ⟨rfl, b6⟩
  go_wp2_with fail
  have p6 := P3.new w6 (.string ⟨#[120]⟩) (.string ⟨#[49]⟩) (.bool true) 28
  have a6 := new_aft w6 (.cells #[.string ⟨#[120]⟩, .string ⟨#[49]⟩, .bool true] 28)
  obtain ⟨g6, hg6⟩ : ∃ g, w6.heap.size = g := ⟨_, rfl⟩
  rw [hg6] at p6 ⊢
  clear hg6
  generalize w6.alloc (.cells #[.string ⟨#[120]⟩, .string ⟨#[49]⟩, .bool true] 28) = W6 at *
  refine (of_of _ (.tuple #[.agg #[.string ⟨#[]⟩, .string ⟨#[]⟩, .bool false], .bool false]) _ (by decide) (by kernel_rfl)).mono ?_
  rintro e w7 ⟨rfl, b7⟩
  go_wp2_with fail
  have p7 := P3.new w7 (.string ⟨#[]⟩) (.string ⟨#[]⟩) (.bool false) 28
  have a7 := new_aft w7 (.cells #[.string ⟨#[]⟩, .string ⟨#[]⟩, .bool false] 28)
  obtain ⟨g7, hg7⟩ : ∃ g, w7.heap.size = g := ⟨_, rfl⟩
  rw [hg7] at p7 ⊢
  clear hg7
  generalize w7.alloc (.cells #[.string ⟨#[]⟩, .string ⟨#[]⟩, .bool false] 28) = W7 at *
  refine (of_of _ (.tuple #[.agg #[.string ⟨#[]⟩, .string ⟨#[]⟩, .bool false], .bool false]) _ (by decide) (by kernel_rfl)).mono ?_
  rintro e w8 ⟨rfl, b8⟩
  have oo := o1.aft (b2.trans (b3.trans (b4.trans (b5.trans (a5.trans (b6.trans (a6.trans (b7.trans (a7.trans b8)))))))))
  have q5 := p5.aft (b6.trans (a6.trans (b7.trans (a7.trans b8))))
  have q6 := p6.aft (b7.trans (a7.trans b8))
  have hall : Aft w w8 := b1.trans (b2.trans (b3.trans (b4.trans (b5.trans (a5.trans (b6.trans (a6.trans (b7.trans (a7.trans b8)))))))))
  clear p5 p6 p7 o1 b1 b2 b3 b4 b5 a5 b6 a6 b7 a7 b8
  go_wp2_with fail
  have a8 := new_aft w8 (.cells #[.string ⟨#[]⟩, .string ⟨#[]⟩, .bool false] 28)
  have hz8 : (w8.alloc (.cells #[.string ⟨#[]⟩, .string ⟨#[]⟩, .bool false] 28)).heap.size = w8.heap.size + 1 := World.size_alloc _ _
  rw [← hz8]
  clear hz8
  generalize w8.alloc (.cells #[.string ⟨#[]⟩, .string ⟨#[]⟩, .bool false] 28) = W8 at *
  have h8 := RbS.new W8 [[97], [34, 98, 44, 99, 34], [100]]
  have n8 := new_aft W8 (.cells (sv [[97], [34, 98, 44, 99, 34], [100]]).toArray 9)
  refine (sameS_any _ _ [[97], [34, 98, 44, 99, 34], [100]] [[97], [34, 98, 44, 99, 34], [100]] _ (oo.rb.aft (a8.trans n8)) h8).mono ?_
  rintro e w9 ⟨rfl, b9⟩
  rw [beq_self_eq_true]
  have r5 := q5.aft (a8.trans (n8.trans b9))
  have r6 := q6.aft (a8.trans (n8.trans b9))
  have hend : Aft w w9 := hall.trans (a8.trans (n8.trans b9))
  have x1 := r5.c0
  have x2 := r5.c1
  have x3 := r5.c2
  have y1 := r6.c0
  have y2 := r6.c1
  have y3 := r6.c2
  clear q5 q6 oo hall a8 n8 b9 h8
  go_wp2_with fail
  go_ret
  exact ⟨rfl, hend⟩

theorem walkTokenRuns (w : World) : Calls Try.prog 3 #[] w fun e w' => e = .returned (.bool true) ∧ Aft w w' := tokenruns_any w

end Go.Proofs.Ytiblkkbjnlccaaa
