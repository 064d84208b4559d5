/-
  HPACK's table in memory: what a change leaves as it was; table.may, New, Len, Size, Most, shrink.
-/
import Derived.Test.YtmlnboibclfmcaaDoorFldB
import Derived.Test.YtmlnboibclfmcaaDoorIns
namespace Go.Proofs.YtmlnboibclfmcaaDoor
open Go.RowKit
set_option linter.unusedVariables false

/-- Only blocks of p, and new ones, have changed. -/
structure Chg (p : Nat → Prop) (w w' : World) : Prop where
  os : w'.os = w.os
  tape : w'.tape = w.tape
  output : w'.output = w.output
  size : w.heap.size ≤ w'.heap.size
  block : ∀ k, k < w.heap.size → ¬ p k → w'.heap[k]? = w.heap[k]?
theorem Chg.refl (p : Nat → Prop) (w : World) : Chg p w w := ⟨rfl, rfl, rfl, Nat.le_refl _, fun _ _ _ => rfl⟩
theorem Chg.drew {p : Nat → Prop} {w w' : World} (h : Chg p w w') : Chg p w w'.drew := ⟨h.os, h.tape, h.output, h.size, h.block⟩
theorem Chg.drewN {p : Nat → Prop} {w w' : World} (h : Chg p w w') (n : Nat) : Chg p w (w'.drewN n) := ⟨h.os, h.tape, h.output, h.size, h.block⟩
theorem Chg.of_aft {p : Nat → Prop} {w w' : World} (h : Aft w w') : Chg p w w' := ⟨h.os, h.tape, h.output, h.size, fun k hk _ => h.block k hk⟩
theorem Chg.trans {p q : Nat → Prop} {a b c : World} (h : Chg p a b) (k : Chg q b c) (hq : ∀ i, q i → p i ∨ a.heap.size ≤ i) : Chg p a c :=
  ⟨k.os.trans h.os, k.tape.trans h.tape, k.output.trans h.output, Nat.le_trans h.size k.size, fun i hi hp => by
    rw [k.block i (Nat.lt_of_lt_of_le hi h.size) (fun hqi => by
      rcases hq i hqi with h1 | h1
      · exact hp h1
      · omega)]
    exact h.block i hi hp⟩
theorem Chg.mono {p q : Nat → Prop} {a b : World} (h : Chg p a b) (hq : ∀ i, p i → q i) : Chg q a b := ⟨h.os, h.tape, h.output, h.size, fun k hk hn => h.block k hk (fun hp => hn (hq k hp))⟩
theorem Chg.aft {p : Nat → Prop} {a b c : World} (h : Chg p a b) (k : Aft b c) : Chg p a c := h.trans (Chg.of_aft (p := fun _ => False) k) (fun _ hf => hf.elim)
theorem Chg.set {p : Nat → Prop} {a b : World} (h : Chg p a b) (g o : Nat) (v : Value) (hg : p g ∨ a.heap.size ≤ g) : Chg p a (b.setCell ⟨g, o, none⟩ v) :=
  ⟨h.os, h.tape, h.output, by rw [World.size_setCell]; exact h.size, fun k hk hp => by
    have hne : k ≠ g := by
      rcases hg with h1 | h1
      · intro e; subst e; exact hp h1
      · omega
    rw [heap_setCell_other b ⟨g, o, none⟩ k v hne]
    exact h.block k hk hp⟩
theorem Chg.grown {a b : World} {row : Option Nat} {p : Nat → Prop} (h : a.grownBy b row) (hp : ∀ k, row = some k → p k) : Chg p a b :=
  ⟨h.os, h.tape, h.output, h.size, fun k hk hn => h.block k hk (fun e => hn (hp k e.symm))⟩
theorem Chg.below {p : Nat → Prop} {a b : World} {B : Nat} (h : Chg p a b) (hp : ∀ k, p k → B ≤ k) (hB : B ≤ a.heap.size) : Below B a b :=
  ⟨h.os, h.tape, h.output, h.size, fun k hk => h.block k (by omega) (fun hpk => by have := hp k hpk; omega)⟩
theorem OwnF.lt' {w : World} {B : Nat} {v : Value} {l : List FieldL} (h : OwnF w B v l) {k : Nat} (hk : v.ownBlock = some k) : B ≤ k ∧ k < w.heap.size := h.lt k hk
theorem OwnF.chg {p : Nat → Prop} {w w' : World} {B : Nat} {v : Value} {l : List FieldL} (h : OwnF w B v l) (hc : Chg p w w') (hp : ∀ k, v.ownBlock = some k → ¬ p k) : OwnF w' B v l := by
  obtain ⟨h1, h2⟩ := id h
  refine ⟨h1, ?_⟩
  rcases h2 with h2 | ⟨g, cap, cur, rfl, b, c, d⟩
  · exact Or.inl h2
  · exact Or.inr ⟨g, cap, cur, rfl, b, (hc.block g (h.lt g rfl).2 (hp g rfl)).trans c, d⟩
theorem OwnF.take {w : World} {B : Nat} {a : Option Addr} {n c : Nat} {l : List FieldL} (h : OwnF w B (.slice a n c) l) (k : Nat) (hk : k ≤ l.length) : OwnF w B (.slice a k c) (l.take k) := by
  obtain ⟨h1, h2⟩ := h
  refine ⟨by rw [fv_len], ?_⟩
  have hl : (l.take k).length = k := by rw [List.length_take]; omega
  rw [hl]
  rcases h2 with ⟨e, e2⟩ | ⟨g, cap, cur, e, b, c1, d1, d2, d3, d4⟩
  · injection e with e3 e4 e5
    subst e3 e5
    rw [e2] at hk
    obtain rfl : k = 0 := by omega
    exact Or.inl ⟨rfl, rfl⟩
  · injection e with e3 e4 e5
    subst e3 e5
    refine Or.inr ⟨g, c, cur, rfl, b, c1, by omega, d2, d3, ?_⟩
    have : fv (l.take k) = (fv l).take (k * 2) := by
      have e6 : fv l = fv (l.take k) ++ fv (l.drop k) := by rw [← fv_append, List.take_append_drop]
      rw [e6, List.take_left']
      rw [fv_len, hl]
    rw [this, ← d4, List.take_take]
    congr 1
    omega

def fitF (m : Int) (l : List FieldL) : List FieldL :=
  if h : l = [] ∨ (sumF l : Int) ≤ m then l else fitF m l.dropLast
termination_by l.length
decreasing_by
  rw [List.length_dropLast]
  have : l.length ≠ 0 := fun e => h (Or.inl (List.eq_nil_of_length_eq_zero e))
  omega
theorem fitF_stop {m : Int} {l : List FieldL} (h : l = [] ∨ (sumF l : Int) ≤ m) : fitF m l = l := by
  rw [fitF, dif_pos h]
theorem fitF_go {m : Int} {l : List FieldL} (h : ¬ (l = [] ∨ (sumF l : Int) ≤ m)) : fitF m l = fitF m l.dropLast := by
  rw [fitF, dif_neg h]
theorem fitF_take {m : Int} {l : List FieldL} : ∃ k, k ≤ l.length ∧ fitF m l = l.take k := by
  obtain ⟨n, hn⟩ : ∃ n, l.length = n := ⟨_, rfl⟩
  induction n generalizing l with
  | zero => exact ⟨0, Nat.zero_le _, by rw [fitF_stop (Or.inl (List.eq_nil_of_length_eq_zero hn))]; simp [List.eq_nil_of_length_eq_zero hn]⟩
  | succ n ih =>
    by_cases h : l = [] ∨ (sumF l : Int) ≤ m
    · exact ⟨l.length, Nat.le_refl _, by rw [fitF_stop h, List.take_length]⟩
    · rw [fitF_go h]
      obtain ⟨k, hk, he⟩ := ih (l := l.dropLast) (by rw [List.length_dropLast]; omega)
      rw [List.length_dropLast] at hk
      refine ⟨k, by omega, ?_⟩
      rw [he, List.dropLast_eq_take, List.take_take]
      congr 1
      omega
theorem fitF_le {m : Int} {l : List FieldL} : fitF m l = [] ∨ (sumF (fitF m l) : Int) ≤ m := by
  obtain ⟨n, hn⟩ : ∃ n, l.length = n := ⟨_, rfl⟩
  induction n generalizing l with
  | zero => exact Or.inl (by rw [fitF_stop (Or.inl (List.eq_nil_of_length_eq_zero hn))]; exact List.eq_nil_of_length_eq_zero hn)
  | succ n ih =>
    by_cases h : l = [] ∨ (sumF l : Int) ≤ m
    · rw [fitF_stop h]; exact h
    · rw [fitF_go h]
      exact ih (by rw [List.length_dropLast]; omega)

structure Tab (w : World) (B g : Nat) (vo vk : Value) (l : List FieldL) (most : Int) : Prop where
  blk : w.heap[g]? = some (.cells #[vo, vk, .int .i64 (sumF l : Int), .int .i64 most] 95 (0, 0))
  own : OwnF w B vo l
  kn : OwnF w B vk staticT
  gB : B ≤ g
  ap : ∀ k, vk.ownBlock = some k → vo.ownBlock ≠ some k
theorem OwnF.blk {w : World} {B : Nat} {v : Value} {l : List FieldL} (h : OwnF w B v l) {k : Nat} (hk : v.ownBlock = some k) : ∃ cur, w.heap[k]? = some (.cells cur 28 (0, 0)) := by
  rcases h.2 with ⟨rfl, _⟩ | ⟨g, cap, cur, rfl, _, h1, _⟩
  · cases hk
  · injection hk with hk
    rw [← hk]
    exact ⟨cur, h1⟩
theorem Tab.own_ne {w : World} {B g : Nat} {vo vk : Value} {l : List FieldL} {most : Int} (h : Tab w B g vo vk l most) : vo.ownBlock ≠ some g := fun e => by
  obtain ⟨cur, h1⟩ := h.own.blk e
  rw [h.blk] at h1
  injection h1 with h1
  injection h1 with _ h1
  exact absurd h1 (by decide)
theorem Tab.kn_ne {w : World} {B g : Nat} {vo vk : Value} {l : List FieldL} {most : Int} (h : Tab w B g vo vk l most) : vk.ownBlock ≠ some g := fun e => by
  obtain ⟨cur, h1⟩ := h.kn.blk e
  rw [h.blk] at h1
  injection h1 with h1
  injection h1 with _ h1
  exact absurd h1 (by decide)
theorem Tab.lt {w : World} {B g : Nat} {vo vk : Value} {l : List FieldL} {most : Int} (h : Tab w B g vo vk l most) : g < w.heap.size := by
  rcases Nat.lt_or_ge g w.heap.size with h1 | h1
  · exact h1
  · have := h.blk; rw [Array.getElem?_eq_none h1] at this; cases this
/-- The table's own blocks. -/
def TP (g : Nat) (vo : Value) (k : Nat) : Prop := k = g ∨ vo.ownBlock = some k
theorem Tab.chg {p : Nat → Prop} {w w' : World} {B g : Nat} {vo vk : Value} {l : List FieldL} {most : Int} (h : Tab w B g vo vk l most) (hc : Chg p w w') (hg : ¬ p g) (ho : ∀ k, vo.ownBlock = some k → ¬ p k) (hk : ∀ k, vk.ownBlock = some k → ¬ p k) : Tab w' B g vo vk l most :=
  ⟨(hc.block g h.lt hg).trans h.blk, h.own.chg hc ho, h.kn.chg hc hk, h.gB, h.ap⟩
theorem Tab.aft {w w' : World} {B g : Nat} {vo vk : Value} {l : List FieldL} {most : Int} (h : Tab w B g vo vk l most) (ha : Aft w w') : Tab w' B g vo vk l most :=
  h.chg (Chg.of_aft (p := fun _ => False) ha) (fun h => h) (fun _ _ h => h) (fun _ _ h => h)
theorem Tab.cells {w : World} {B g : Nat} {vo vk : Value} {l : List FieldL} {most : Int} (h : Tab w B g vo vk l most) :
    (w.cell? ⟨g, 0, none⟩ = some vo ∧ w.cell? ⟨g, 1, none⟩ = some vk ∧ w.cell? ⟨g, 2, none⟩ = some (.int .i64 (sumF l : Int)) ∧ w.cell? ⟨g, 3, none⟩ = some (.int .i64 most)) ∧ (w.frozen? ⟨g, 0, none⟩ = false ∧ w.frozen? ⟨g, 2, none⟩ = false ∧ w.frozen? ⟨g, 3, none⟩ = false) := by
  have hb := h.blk
  refine ⟨⟨?_, ?_, ?_, ?_⟩, ?_, ?_, ?_⟩
  · rw [cell_of_row w g _ _ _ (0, 0) hb]; rfl
  · rw [cell_of_row w g _ _ _ (0, 0) hb]; rfl
  · rw [cell_of_row w g _ _ _ (0, 0) hb]; rfl
  · rw [cell_of_row w g _ _ _ (0, 0) hb]; rfl
  · exact frozen_of_row w g _ _ _ hb
  · exact frozen_of_row w g _ _ _ hb
  · exact frozen_of_row w g _ _ _ hb

theorem may_yes (n : Int) (h0 : 0 ≤ n) (h1 : n ≤ 65536) (w : World) : Calls Tryd.prog 56 #[.int .i64 n] w fun e w' => e = .returned (.bool true) ∧ w = w' := by
  have h2 : n ≥ 0 := h0
  go_enter Tryd.func56, Tryd.ntmps56
  go_wp2_with fail
  go_ret
  exact ⟨rfl, rfl⟩
theorem may_no (n : Int) (h : ¬ (0 ≤ n ∧ n ≤ 65536)) (w : World) : Calls Tryd.prog 56 #[.int .i64 n] w fun e w' => e = .returned (.bool false) ∧ w = w' := by
  by_cases h0 : n ≥ 0
  · have h1 : ¬ n ≤ 65536 := by omega
    clear h
    go_enter Tryd.func56, Tryd.ntmps56
    go_wp2_with fail
    go_ret
    exact ⟨rfl, rfl⟩
  · clear h
    go_enter Tryd.func56, Tryd.ntmps56
    go_wp2_with fail
    go_ret
    exact ⟨rfl, rfl⟩
theorem tnew_no (n : Int) (h : ¬ (0 ≤ n ∧ n ≤ 65536)) (w : World) : Calls Tryd.prog 18 #[.int .i64 n] w fun e w' => e = .returned (.tuple #[.pointer none, .int .i64 1]) ∧ w = w' := by
  have HM := Lib.hid (may_no n h)
  clear h
  go_enter Tryd.func18, Tryd.ntmps18
  go_wp2_with fail
  refine (HM.out _).mono ?_
  rintro e w1 ⟨rfl, rfl⟩
  go_wp2_with fail
  go_ret2
  exact ⟨rfl, rfl⟩
theorem tnew_yes (n : Int) (h0 : 0 ≤ n) (h1 : n ≤ 65536) (w : World) (hm : MaxOk w) : Calls Tryd.prog 18 #[.int .i64 n] w fun e w' => ∃ (g : Nat) (vk : Value), e = .returned (.tuple #[.pointer (some ⟨g, 0, none⟩), .int .i64 0]) ∧ Tab w' w.heap.size g (.slice none 0 0) vk [] n ∧ Aft w w' := by
  have HM := Lib.hid (may_yes n h0 h1)
  have HA := Lib.hid (all_fields w hm)
  clear h0 h1 hm
  go_enter Tryd.func18, Tryd.ntmps18
  go_wp2_with fail
  refine (HM.out _).mono ?_
  rintro e w1 ⟨rfl, rfl⟩
  go_wp2_with fail
  refine HA.out.mono ?_
  rintro e w2 ⟨vk, rfl, ho, a2⟩
  obtain ⟨a, c, rfl, h1, h2⟩ := ho.slice
  have HO := Lib.hid ho
  have HA2 := Lib.hid a2
  obtain ⟨b, hb⟩ : ∃ b, staticT.length = b := ⟨_, rfl⟩
  rw [hb] at HO ⊢
  clear ho a2 h1 h2 hb
  go_wp2_with fail
  go_ret2
  refine ⟨w2.heap.size, _, rfl, ⟨heap_alloc_new w2 _, OwnF.nil _ _, HO.out.aft ((Aft.refl _).alloc _), HA2.out.size, fun k hk he => by cases he⟩, HA2.out.alloc _⟩
theorem tlen_any {w : World} {B g : Nat} {vo vk : Value} {l : List FieldL} {most : Int} (h : Tab w B g vo vk l most) : Calls Tryd.prog 23 #[.pointer (some ⟨g, 0, none⟩)] w fun e w' => e = .returned (.int .i64 (l.length : Int)) ∧ w = w' := by
  obtain ⟨⟨c0, c1, c2, c3⟩, -⟩ := h.cells
  obtain ⟨a, k, rfl, -⟩ := h.own.slice
  clear h c1 c2 c3
  obtain ⟨b, hb⟩ : ∃ b, l.length = b := ⟨_, rfl⟩
  rw [hb] at c0 ⊢
  go_enter Tryd.func23, Tryd.ntmps23
  go_wp2_with fail
  go_ret
  exact ⟨rfl, rfl⟩
theorem tsize_any {w : World} {B g : Nat} {vo vk : Value} {l : List FieldL} {most : Int} (h : Tab w B g vo vk l most) : Calls Tryd.prog 22 #[.pointer (some ⟨g, 0, none⟩)] w fun e w' => e = .returned (.int .i64 (sumF l : Int)) ∧ w = w' := by
  obtain ⟨⟨c0, c1, c2, c3⟩, -⟩ := h.cells
  clear h c0 c1 c3
  generalize (sumF l : Int) = n at *
  go_enter Tryd.func22, Tryd.ntmps22
  go_wp2_with fail
  go_ret
  exact ⟨rfl, rfl⟩
theorem tmost_any {w : World} {B g : Nat} {vo vk : Value} {l : List FieldL} {most : Int} (h : Tab w B g vo vk l most) : Calls Tryd.prog 34 #[.pointer (some ⟨g, 0, none⟩)] w fun e w' => e = .returned (.int .i64 most) ∧ w = w' := by
  obtain ⟨⟨c0, c1, c2, c3⟩, -⟩ := h.cells
  clear h c0 c1 c2
  go_enter Tryd.func34, Tryd.ntmps34
  go_wp2_with fail
  go_ret
  exact ⟨rfl, rfl⟩

end Go.Proofs.YtmlnboibclfmcaaDoor
