/-
  HPACK's table in memory: what a change leaves as it was; table.may, New, Len, Size, Most, shrink. HPACK's table: shrink, Resize, Add, Get. HPACK's table: Get. HPACK's table: Find.
-/
import Derived.Test.YtmlnboibclfmcaaDoorFldB
import Derived.Test.YtmlnboibclfmcaaDoorIns
import Derived.Deep.RegionHeld
import Derived.Deep.DeepCutAuto
namespace Go.Proofs.YtmlnboibclfmcaaDoor
open Go.RowKit
set_option linter.unusedVariables false

/-- Only blocks of p, and new ones, have changed. -/
structure Chg (p : Nat → Prop) (w w' : World) : Prop where
  os : w'.os = w.os
  tape : w'.tape = w.tape
  output : w'.output = w.output
  size : w.heap.size ≤ w'.heap.size
  block : ∀ k, k < w.heap.size → ¬ p k → w'.heap[k]? = w.heap[k]?
theorem Chg.refl (p : Nat → Prop) (w : World) : Chg p w w := ⟨rfl, rfl, rfl, Nat.le_refl _, fun _ _ _ => rfl⟩
theorem Chg.drew {p : Nat → Prop} {w w' : World} (h : Chg p w w') : Chg p w w'.drew := ⟨h.os, h.tape, h.output, h.size, h.block⟩
theorem Chg.drewN {p : Nat → Prop} {w w' : World} (h : Chg p w w') (n : Nat) : Chg p w (w'.drewN n) := ⟨h.os, h.tape, h.output, h.size, h.block⟩
theorem Chg.of_aft {p : Nat → Prop} {w w' : World} (h : Aft w w') : Chg p w w' := ⟨h.os, h.tape, h.output, h.size, fun k hk _ => h.block k hk⟩
theorem Chg.trans {p q : Nat → Prop} {a b c : World} (h : Chg p a b) (k : Chg q b c) (hq : ∀ i, q i → p i ∨ a.heap.size ≤ i) : Chg p a c :=
  ⟨k.os.trans h.os, k.tape.trans h.tape, k.output.trans h.output, Nat.le_trans h.size k.size, fun i hi hp => by
    rw [k.block i (Nat.lt_of_lt_of_le hi h.size) (fun hqi => by
      rcases hq i hqi with h1 | h1
      · exact hp h1
      · omega)]
    exact h.block i hi hp⟩
theorem Chg.mono {p q : Nat → Prop} {a b : World} (h : Chg p a b) (hq : ∀ i, p i → q i) : Chg q a b := ⟨h.os, h.tape, h.output, h.size, fun k hk hn => h.block k hk (fun hp => hn (hq k hp))⟩
theorem Chg.aft {p : Nat → Prop} {a b c : World} (h : Chg p a b) (k : Aft b c) : Chg p a c := h.trans (Chg.of_aft (p := fun _ => False) k) (fun _ hf => hf.elim)
theorem Chg.set {p : Nat → Prop} {a b : World} (h : Chg p a b) (g o : Nat) (v : Value) (hg : p g ∨ a.heap.size ≤ g) : Chg p a (b.setCell ⟨g, o, none⟩ v) :=
  ⟨h.os, h.tape, h.output, by rw [World.size_setCell]; exact h.size, fun k hk hp => by
    have hne : k ≠ g := by
      rcases hg with h1 | h1
      · intro e; subst e; exact hp h1
      · omega
    rw [heap_setCell_other b ⟨g, o, none⟩ k v hne]
    exact h.block k hk hp⟩
theorem Chg.grown {a b : World} {row : Option Nat} {p : Nat → Prop} (h : a.grownBy b row) (hp : ∀ k, row = some k → p k) : Chg p a b :=
  ⟨h.os, h.tape, h.output, h.size, fun k hk hn => h.block k hk (fun e => hn (hp k e.symm))⟩
theorem Chg.below {p : Nat → Prop} {a b : World} {B : Nat} (h : Chg p a b) (hp : ∀ k, p k → B ≤ k) (hB : B ≤ a.heap.size) : Below B a b :=
  ⟨h.os, h.tape, h.output, h.size, fun k hk => h.block k (by omega) (fun hpk => by have := hp k hpk; omega)⟩
theorem OwnF.lt' {w : World} {B : Nat} {v : Value} {l : List FieldL} (h : OwnF w B v l) {k : Nat} (hk : v.ownBlock = some k) : B ≤ k ∧ k < w.heap.size := h.lt k hk
theorem OwnF.chg {p : Nat → Prop} {w w' : World} {B : Nat} {v : Value} {l : List FieldL} (h : OwnF w B v l) (hc : Chg p w w') (hp : ∀ k, v.ownBlock = some k → ¬ p k) : OwnF w' B v l := by
  obtain ⟨h1, h2⟩ := id h
  refine ⟨h1, ?_⟩
  rcases h2 with h2 | ⟨g, cap, cur, rfl, b, c, d⟩
  · exact Or.inl h2
  · exact Or.inr ⟨g, cap, cur, rfl, b, (hc.block g (h.lt g rfl).2 (hp g rfl)).trans c, d⟩
theorem OwnF.take {w : World} {B : Nat} {a : Option Addr} {n c : Nat} {l : List FieldL} (h : OwnF w B (.slice a n c) l) (k : Nat) (hk : k ≤ l.length) : OwnF w B (.slice a k c) (l.take k) := by
  obtain ⟨h1, h2⟩ := h
  refine ⟨by rw [fv_len], ?_⟩
  have hl : (l.take k).length = k := by rw [List.length_take]; omega
  rw [hl]
  rcases h2 with ⟨e, e2⟩ | ⟨g, cap, cur, e, b, c1, d1, d2, d3, d4⟩
  · injection e with e3 e4 e5
    subst e3 e5
    rw [e2] at hk
    obtain rfl : k = 0 := by omega
    exact Or.inl ⟨rfl, rfl⟩
  · injection e with e3 e4 e5
    subst e3 e5
    refine Or.inr ⟨g, c, cur, rfl, b, c1, by omega, d2, d3, ?_⟩
    have : fv (l.take k) = (fv l).take (k * 2) := by
      have e6 : fv l = fv (l.take k) ++ fv (l.drop k) := by rw [← fv_append, List.take_append_drop]
      rw [e6, List.take_left']
      rw [fv_len, hl]
    rw [this, ← d4, List.take_take]
    congr 1
    omega

def fitF (m : Int) (l : List FieldL) : List FieldL :=
  if h : l = [] ∨ (sumF l : Int) ≤ m then l else fitF m l.dropLast
termination_by l.length
decreasing_by
  rw [List.length_dropLast]
  have : l.length ≠ 0 := fun e => h (Or.inl (List.eq_nil_of_length_eq_zero e))
  omega
theorem fitF_stop {m : Int} {l : List FieldL} (h : l = [] ∨ (sumF l : Int) ≤ m) : fitF m l = l := by
  rw [fitF, dif_pos h]
theorem fitF_go {m : Int} {l : List FieldL} (h : ¬ (l = [] ∨ (sumF l : Int) ≤ m)) : fitF m l = fitF m l.dropLast := by
  rw [fitF, dif_neg h]
theorem fitF_take {m : Int} {l : List FieldL} : ∃ k, k ≤ l.length ∧ fitF m l = l.take k := by
  obtain ⟨n, hn⟩ : ∃ n, l.length = n := ⟨_, rfl⟩
  induction n generalizing l with
  | zero => exact ⟨0, Nat.zero_le _, by rw [fitF_stop (Or.inl (List.eq_nil_of_length_eq_zero hn))]; simp [List.eq_nil_of_length_eq_zero hn]⟩
  | succ n ih =>
    by_cases h : l = [] ∨ (sumF l : Int) ≤ m
    · exact ⟨l.length, Nat.le_refl _, by rw [fitF_stop h, List.take_length]⟩
    · rw [fitF_go h]
      obtain ⟨k, hk, he⟩ := ih (l := l.dropLast) (by rw [List.length_dropLast]; omega)
      rw [List.length_dropLast] at hk
      refine ⟨k, by omega, ?_⟩
      rw [he, List.dropLast_eq_take, List.take_take]
      congr 1
      omega
theorem fitF_le {m : Int} {l : List FieldL} : fitF m l = [] ∨ (sumF (fitF m l) : Int) ≤ m := by
  obtain ⟨n, hn⟩ : ∃ n, l.length = n := ⟨_, rfl⟩
  induction n generalizing l with
  | zero => exact Or.inl (by rw [fitF_stop (Or.inl (List.eq_nil_of_length_eq_zero hn))]; exact List.eq_nil_of_length_eq_zero hn)
  | succ n ih =>
    by_cases h : l = [] ∨ (sumF l : Int) ≤ m
    · rw [fitF_stop h]; exact h
    · rw [fitF_go h]
      exact ih (by rw [List.length_dropLast]; omega)

structure Tab (w : World) (B g : Nat) (vo vk : Value) (l : List FieldL) (most : Int) : Prop where
  blk : w.heap[g]? = some (.cells #[vo, vk, .int .i64 (sumF l : Int), .int .i64 most] 95 (0, 0))
  own : OwnF w B vo l
  kn : OwnF w B vk staticT
  gB : B ≤ g
  ap : ∀ k, vk.ownBlock = some k → vo.ownBlock ≠ some k
theorem OwnF.blk {w : World} {B : Nat} {v : Value} {l : List FieldL} (h : OwnF w B v l) {k : Nat} (hk : v.ownBlock = some k) : ∃ cur, w.heap[k]? = some (.cells cur 28 (0, 0)) := by
  rcases h.2 with ⟨rfl, _⟩ | ⟨g, cap, cur, rfl, _, h1, _⟩
  · cases hk
  · injection hk with hk
    rw [← hk]
    exact ⟨cur, h1⟩
theorem Tab.own_ne {w : World} {B g : Nat} {vo vk : Value} {l : List FieldL} {most : Int} (h : Tab w B g vo vk l most) : vo.ownBlock ≠ some g := fun e => by
  obtain ⟨cur, h1⟩ := h.own.blk e
  rw [h.blk] at h1
  injection h1 with h1
  injection h1 with _ h1
  exact absurd h1 (by decide)
theorem Tab.kn_ne {w : World} {B g : Nat} {vo vk : Value} {l : List FieldL} {most : Int} (h : Tab w B g vo vk l most) : vk.ownBlock ≠ some g := fun e => by
  obtain ⟨cur, h1⟩ := h.kn.blk e
  rw [h.blk] at h1
  injection h1 with h1
  injection h1 with _ h1
  exact absurd h1 (by decide)
theorem Tab.lt {w : World} {B g : Nat} {vo vk : Value} {l : List FieldL} {most : Int} (h : Tab w B g vo vk l most) : g < w.heap.size := by
  rcases Nat.lt_or_ge g w.heap.size with h1 | h1
  · exact h1
  · have := h.blk; rw [Array.getElem?_eq_none h1] at this; cases this
/-- The table's own blocks. -/
def TP (g : Nat) (vo : Value) (k : Nat) : Prop := k = g ∨ vo.ownBlock = some k
theorem Tab.chg {p : Nat → Prop} {w w' : World} {B g : Nat} {vo vk : Value} {l : List FieldL} {most : Int} (h : Tab w B g vo vk l most) (hc : Chg p w w') (hg : ¬ p g) (ho : ∀ k, vo.ownBlock = some k → ¬ p k) (hk : ∀ k, vk.ownBlock = some k → ¬ p k) : Tab w' B g vo vk l most :=
  ⟨(hc.block g h.lt hg).trans h.blk, h.own.chg hc ho, h.kn.chg hc hk, h.gB, h.ap⟩
theorem Tab.aft {w w' : World} {B g : Nat} {vo vk : Value} {l : List FieldL} {most : Int} (h : Tab w B g vo vk l most) (ha : Aft w w') : Tab w' B g vo vk l most :=
  h.chg (Chg.of_aft (p := fun _ => False) ha) (fun h => h) (fun _ _ h => h) (fun _ _ h => h)
theorem Tab.cells {w : World} {B g : Nat} {vo vk : Value} {l : List FieldL} {most : Int} (h : Tab w B g vo vk l most) :
    (w.cell? ⟨g, 0, none⟩ = some vo ∧ w.cell? ⟨g, 1, none⟩ = some vk ∧ w.cell? ⟨g, 2, none⟩ = some (.int .i64 (sumF l : Int)) ∧ w.cell? ⟨g, 3, none⟩ = some (.int .i64 most)) ∧ (w.frozen? ⟨g, 0, none⟩ = false ∧ w.frozen? ⟨g, 2, none⟩ = false ∧ w.frozen? ⟨g, 3, none⟩ = false) := by
  have hb := h.blk
  refine ⟨⟨?_, ?_, ?_, ?_⟩, ?_, ?_, ?_⟩
  · rw [cell_of_row w g _ _ _ (0, 0) hb]; rfl
  · rw [cell_of_row w g _ _ _ (0, 0) hb]; rfl
  · rw [cell_of_row w g _ _ _ (0, 0) hb]; rfl
  · rw [cell_of_row w g _ _ _ (0, 0) hb]; rfl
  · exact frozen_of_row w g _ _ _ hb
  · exact frozen_of_row w g _ _ _ hb
  · exact frozen_of_row w g _ _ _ hb

theorem may_yes (n : Int) (h0 : 0 ≤ n) (h1 : n ≤ 65536) (w : World) : Calls Tryd.prog 56 #[.int .i64 n] w fun e w' => e = .returned (.bool true) ∧ w = w' := by
  have h2 : n ≥ 0 := h0
  go_enter Tryd.func56, Tryd.ntmps56
  go_wp2_with fail
  go_ret
  exact ⟨rfl, rfl⟩
theorem may_no (n : Int) (h : ¬ (0 ≤ n ∧ n ≤ 65536)) (w : World) : Calls Tryd.prog 56 #[.int .i64 n] w fun e w' => e = .returned (.bool false) ∧ w = w' := by
  by_cases h0 : n ≥ 0
  · have h1 : ¬ n ≤ 65536 := by omega
    clear h
    go_enter Tryd.func56, Tryd.ntmps56
    go_wp2_with fail
    go_ret
    exact ⟨rfl, rfl⟩
  · clear h
    go_enter Tryd.func56, Tryd.ntmps56
    go_wp2_with fail
    go_ret
    exact ⟨rfl, rfl⟩
theorem tnew_no (n : Int) (h : ¬ (0 ≤ n ∧ n ≤ 65536)) (w : World) : Calls Tryd.prog 18 #[.int .i64 n] w fun e w' => e = .returned (.tuple #[.pointer none, .int .i64 1]) ∧ w = w' := by
  have HM := Lib.hid (may_no n h)
  clear h
  go_enter Tryd.func18, Tryd.ntmps18
  go_wp2_with fail
  refine (HM.out _).mono ?_
  rintro e w1 ⟨rfl, rfl⟩
  go_wp2_with fail
  go_ret2
  exact ⟨rfl, rfl⟩
theorem tnew_yes (n : Int) (h0 : 0 ≤ n) (h1 : n ≤ 65536) (w : World) (hm : MaxOk w) : Calls Tryd.prog 18 #[.int .i64 n] w fun e w' => ∃ (g : Nat) (vk : Value), e = .returned (.tuple #[.pointer (some ⟨g, 0, none⟩), .int .i64 0]) ∧ Tab w' w.heap.size g (.slice none 0 0) vk [] n ∧ Aft w w' := by
  have HM := Lib.hid (may_yes n h0 h1)
  have HA := Lib.hid (all_fields w hm)
  clear h0 h1 hm
  go_enter Tryd.func18, Tryd.ntmps18
  go_wp2_with fail
  refine (HM.out _).mono ?_
  rintro e w1 ⟨rfl, rfl⟩
  go_wp2_with fail
  refine HA.out.mono ?_
  rintro e w2 ⟨vk, rfl, ho, a2⟩
  obtain ⟨a, c, rfl, h1, h2⟩ := ho.slice
  have HO := Lib.hid ho
  have HA2 := Lib.hid a2
  obtain ⟨b, hb⟩ : ∃ b, staticT.length = b := ⟨_, rfl⟩
  rw [hb] at HO ⊢
  clear ho a2 h1 h2 hb
  go_wp2_with fail
  go_ret2
  refine ⟨w2.heap.size, _, rfl, ⟨heap_alloc_new w2 _, OwnF.nil _ _, HO.out.aft ((Aft.refl _).alloc _), HA2.out.size, fun k hk he => by cases he⟩, HA2.out.alloc _⟩
theorem tlen_any {w : World} {B g : Nat} {vo vk : Value} {l : List FieldL} {most : Int} (h : Tab w B g vo vk l most) : Calls Tryd.prog 23 #[.pointer (some ⟨g, 0, none⟩)] w fun e w' => e = .returned (.int .i64 (l.length : Int)) ∧ w = w' := by
  obtain ⟨⟨c0, c1, c2, c3⟩, -⟩ := h.cells
  obtain ⟨a, k, rfl, -⟩ := h.own.slice
  clear h c1 c2 c3
  obtain ⟨b, hb⟩ : ∃ b, l.length = b := ⟨_, rfl⟩
  rw [hb] at c0 ⊢
  go_enter Tryd.func23, Tryd.ntmps23
  go_wp2_with fail
  go_ret
  exact ⟨rfl, rfl⟩
theorem tsize_any {w : World} {B g : Nat} {vo vk : Value} {l : List FieldL} {most : Int} (h : Tab w B g vo vk l most) : Calls Tryd.prog 22 #[.pointer (some ⟨g, 0, none⟩)] w fun e w' => e = .returned (.int .i64 (sumF l : Int)) ∧ w = w' := by
  obtain ⟨⟨c0, c1, c2, c3⟩, -⟩ := h.cells
  clear h c0 c1 c3
  generalize (sumF l : Int) = n at *
  go_enter Tryd.func22, Tryd.ntmps22
  go_wp2_with fail
  go_ret
  exact ⟨rfl, rfl⟩
theorem tmost_any {w : World} {B g : Nat} {vo vk : Value} {l : List FieldL} {most : Int} (h : Tab w B g vo vk l most) : Calls Tryd.prog 34 #[.pointer (some ⟨g, 0, none⟩)] w fun e w' => e = .returned (.int .i64 most) ∧ w = w' := by
  obtain ⟨⟨c0, c1, c2, c3⟩, -⟩ := h.cells
  clear h c0 c1 c2
  go_enter Tryd.func34, Tryd.ntmps34
  go_wp2_with fail
  go_ret
  exact ⟨rfl, rfl⟩

end Go.Proofs.YtmlnboibclfmcaaDoor
namespace Go.Proofs.YtmlnboibclfmcaaDoor
open Go.RowKit
set_option linter.unusedVariables false

theorem Tab.upd {w : World} {B g : Nat} {vo vk : Value} {l : List FieldL} {most : Int} (h : Tab w B g vo vk l most) {vo' : Value} {l' : List FieldL} (ho' : OwnF w B vo' l') (hown : ∀ k, vo'.ownBlock = some k → vo.ownBlock = some k) :
    Tab ((w.setCell ⟨g, 2, none⟩ (.int .i64 (sumF l' : Int))).setCell ⟨g, 0, none⟩ vo') B g vo' vk l' most := by
  have hc : Chg (fun k => k = g) w ((w.setCell ⟨g, 2, none⟩ (.int .i64 (sumF l' : Int))).setCell ⟨g, 0, none⟩ vo') := ((Chg.refl (fun k => k = g) w).set g 2 _ (Or.inl rfl)).set g 0 _ (Or.inl rfl)
  have hne : ∀ k, vo'.ownBlock = some k → ¬ k = g := fun k hk e => by
    subst e
    exact h.own_ne (hown _ hk)
  refine ⟨?_, ho'.chg hc hne, h.kn.chg hc (fun k hk e => by subst e; exact h.kn_ne hk), h.gB, fun k hk e => h.ap k hk (hown k e)⟩
  have h1 := heap_setCell_same w g 2 _ _ (.int .i64 (sumF l' : Int)) h.blk
  rw [heap_setCell_same _ g 0 _ _ vo' h1]
  rfl
theorem Tab.most {w : World} {B g : Nat} {vo vk : Value} {l : List FieldL} {most : Int} (h : Tab w B g vo vk l most) (m : Int) : Tab (w.setCell ⟨g, 3, none⟩ (.int .i64 m)) B g vo vk l m := by
  have hc : Chg (fun k => k = g) w (w.setCell ⟨g, 3, none⟩ (.int .i64 m)) := (Chg.refl (fun k => k = g) w).set g 3 _ (Or.inl rfl)
  refine ⟨?_, h.own.chg hc (fun k hk e => by subst e; exact h.own_ne hk), h.kn.chg hc (fun k hk e => by subst e; exact h.kn_ne hk), h.gB, h.ap⟩
  rw [heap_setCell_same w g 3 _ _ _ h.blk]
  rfl
def lenAt (g : Nat) (w : World) : Nat := match w.cell? ⟨g, 0, none⟩ with | some (.slice _ n _) => n | _ => 0

set_option maxHeartbeats 4000000 in
theorem shrink_any {w : World} {B g : Nat} {vo vk : Value} {l : List FieldL} {most : Int} (m : Int) (h : Tab w B g vo vk l most) (hs : sumF l ≤ 1000000000000) :
    Calls Tryd.prog 59 #[.pointer (some ⟨g, 0, none⟩), .int .i64 m] w fun e w' => e = .returned (.tuple #[]) ∧ ∃ vo', Tab w' B g vo' vk (fitF m l) most ∧ Chg (fun k => k = g) w w' ∧ ∀ k, vo'.ownBlock = some k → vo.ownBlock = some k := by
  obtain ⟨a, n, c, rfl, -, hnc, hcm⟩ : ∃ (a : Option Addr) (n c : Nat), vo = .slice a n c ∧ n = l.length ∧ n ≤ c ∧ c ≤ maxLen := by
    obtain ⟨a, c, h1, h2, h3⟩ := h.own.slice
    exact ⟨a, l.length, c, h1, rfl, h2, h3⟩
  have hn : n = l.length := by
    obtain ⟨a', c', h1, -⟩ := h.own.slice
    injection h1
  subst hn
  unfold maxLen at hcm
  have H := Lib.hid h
  have HSS := Lib.hid hs
  clear h hs
  go_enter Tryd.func59, Tryd.ntmps59
  go_wp2_with fail
  go_loopw [] (fun wr => ∃ k, k ≤ l.length ∧ Hid (Tab wr B g (.slice a k c) vk (l.take k) most) ∧ Hid (fitF m (l.take k) = fitF m l) ∧ Hid (Chg (fun k => k = g) w wr)) (fun wr => lenAt g wr)
  case atStart => exact ⟨l.length, Nat.le_refl _, Lib.hid (by rw [List.take_length]; exact H.out), Lib.hid (by rw [List.take_length]), Lib.hid (Chg.refl _ _)⟩
  case round =>
    obtain ⟨k, hk, HT, HF, HC⟩ := hrel
    have hlen : lenAt g wr = k := by
      unfold lenAt
      rw [HT.out.cells.1.1]
    have HLEN := Lib.hid hlen
    obtain ⟨⟨c0, c1, c2, c3⟩, f0, f2, f3⟩ := HT.out.cells
    by_cases hsm : (sumF (l.take k) : Int) > m
    · by_cases hk0 : 0 < k
      · obtain ⟨j, rfl⟩ : ∃ j, k = j + 1 := ⟨k - 1, by omega⟩
        have hjl : j < l.length := by omega
        have htk : l.take (j + 1) = l.take j ++ [l[j]] := List.take_succ_eq_append_getElem hjl
        have hsum : sumF (l.take (j + 1)) = sumF (l.take j) + fsize l[j] := by
          rw [htk, sumF_append]
          simp [sumF]
        have hle := sumF_take l (j + 1)
        obtain ⟨a', gb, k', e1, -, -, hp, hc⟩ := HT.out.own.form
        injection e1 with e1 e2 e3
        subst e1
        have hne : l.take (j + 1) ≠ [] := by rw [htk]; exact List.append_ne_nil_of_right_ne_nil _ (by simp)
        obtain ⟨rfl, hgb⟩ := hp hne
        obtain ⟨x0, x1⟩ := hc j (by rw [List.length_take]; omega)
        have hel : (l.take (j + 1))[j]'(by rw [List.length_take]; omega) = l[j] := List.getElem_take
        rw [hel] at x0 x1
        have hgo := fitF_go (m := m) (l := l.take (j + 1)) (by
          intro hh
          rcases hh with hh | hh
          · exact hne hh
          · omega)
        rw [htk, List.dropLast_concat, ← htk] at hgo
        have HGO := Lib.hid hgo
        rw [hsum] at c2 hsm hle
        have HS2 : Hid (sumF (l.take j) + fsize l[j] ≤ 1000000000000) := Lib.hid (Nat.le_trans hle HSS.out)
        have HO' : Hid (OwnF wr B (.slice (some ⟨gb, 0, none⟩) j c) (l.take j)) := Lib.hid (by
          have := HT.out.own.take j (by rw [List.length_take]; omega)
          rwa [List.take_take, Nat.min_eq_left (by omega)] at this)
        have hgg : gb ≠ g := fun e => HT.out.own_ne (by rw [e]; rfl)
        have HGG := Lib.hid hgg
        have HGB := Lib.hid hgb
        have HGL := Lib.hid HT.out.lt
        have HSUM := Lib.hid hsum
        have hjb : j < 9223372036854775807 := by omega
        clear htk hsum hle hne hp hc hel hgo hgg hgb e2 e3 hlen
        generalize l[j] = f at x0 x1 c2 hsm HS2 HSUM
        have HBY := Lib.hid (fun w => bytes_any f (by have := HS2.out; omega) w)
        unfold fieldV at HBY
        obtain ⟨f1, f2'⟩ := f
        unfold strV at x0 x1
        simp only at x0 x1 HBY
        obtain ⟨q, hq⟩ : ∃ q, fsize (f1, f2') = q := ⟨_, rfl⟩
        obtain ⟨s, hs'⟩ : ∃ s, sumF (l.take j) = s := ⟨_, rfl⟩
        rw [hq] at HBY c2 hsm HS2 HSUM
        rw [hs'] at c2 hsm HS2 HSUM
        have hs0 := HS2.out
        have g1 : IntKind.i64.wrap (((s + q : Nat) : Int) - (q : Int)) = (s : Int) := by rw [show ((s + q : Nat) : Int) - (q : Int) = (s : Int) by omega]; exact IntWalk.i64_in _ (by omega)
        have g2 : IntKind.i64.wrap (((j + 1 : Nat) : Int) - 1) = (j : Int) := by rw [show ((j + 1 : Nat) : Int) - 1 = (j : Int) by omega]; exact IntWalk.i64_in _ (by omega)
        have g3 : ((j + 1 : Nat) : Int) - 1 = (j : Int) := by omega
        have hji : (j : Int) < (j : Int) + 1 := by omega
        have g4 : IntKind.i64.wrap ((s : Int) + (q : Int) - (q : Int)) = (s : Int) := by rw [show (s : Int) + (q : Int) - (q : Int) = (s : Int) by omega]; exact IntWalk.i64_in _ (by omega)
        have hj1 : (0 : Int) < ((j + 1 : Nat) : Int) := by omega
        have g5 : wrap64 (s : Int) = (s : Int) := IntWalk.wrap64_in _ ⟨by omega, by omega⟩
        have hjc : (j : Int) ≤ (c : Int) := by omega
        have hjc2 : j ≤ c := by omega
        have HRL := Lib.hid (fun (w5 : World) (a5 : Aft wr w5) => (by
          have := (HT.out.aft a5).cells
          rw [HSUM.out] at this
          exact this : (w5.cell? ⟨g, 0, none⟩ = some (.slice (some ⟨gb, 0, none⟩) (j + 1) c) ∧ w5.cell? ⟨g, 1, none⟩ = some vk ∧ w5.cell? ⟨g, 2, none⟩ = some (.int .i64 ((s + q : Nat) : Int)) ∧ w5.cell? ⟨g, 3, none⟩ = some (.int .i64 most)) ∧ (w5.frozen? ⟨g, 0, none⟩ = false ∧ w5.frozen? ⟨g, 2, none⟩ = false ∧ w5.frozen? ⟨g, 3, none⟩ = false)))
        have HXX := Lib.hid (fun (w5 : World) (a5 : Aft wr w5) => (And.intro ((Below.cell a5.to (p := ⟨gb, j * 2, none⟩) HGB.out).trans x0) ((Below.cell a5.to (p := ⟨gb, j * 2 + 1, none⟩) HGB.out).trans x1) : w5.cell? ⟨gb, j * 2, none⟩ = some (.string ⟨f1.toArray⟩) ∧ w5.cell? ⟨gb, j * 2 + 1, none⟩ = some (.string ⟨f2'.toArray⟩)))
        have HSJ := Lib.hid hs'
        have HJL := Lib.hid hjl
        clear hq hs' hs0 hk hjl
        go_wp2_with fail
        go_region_law (first
          | (go_simp; go_at_call 58; refine (HBY.out _).mono ?_; rintro e w6 ⟨rfl, a6⟩; have A6 : Aft wr w6 := Aft.trans (by first | exact Aft.refl _ | exact (Aft.refl _).drew) a6; obtain ⟨⟨c0, c1, c2, c3⟩, f0, f2, f3⟩ := HRL.out _ A6; obtain ⟨x0, x1⟩ := HXX.out _ A6))
        all_goals
          have hO6 := HO'.out.aft A6
          have hT6 := (HT.out.aft A6).upd hO6 (fun k hk => hk)
          rw [HSJ.out] at hT6
          have HT6 := Lib.hid hT6
          have HC6 := Lib.hid (((HC.out.aft A6).set g 2 (.int .i64 (s : Int)) (Or.inl rfl)).set g 0 (.slice (some ⟨gb, 0, none⟩) j c) (Or.inl rfl))
          have hgd : w6.cell? ⟨g, 0, none⟩ = some (.slice (some ⟨gb, 0, none⟩) (j + 1) c) := c0
          clear hO6 hT6
          go_wp2_with fail
          go_roundw
          case rel => exact ⟨j, by have := HJL.out; omega, HT6, Lib.hid (HGO.out.symm.trans HF.out), HC6⟩
          case measure =>
            have e1 := HLEN.out
            have e2 : lenAt g ((w6.setCell ⟨g, 2, none⟩ (.int .i64 (s : Int))).setCell ⟨g, 0, none⟩ (.slice (some ⟨gb, 0, none⟩) j c)) = j := by
              unfold lenAt
              rw [HT6.out.cells.1.1]
            rw [e1, e2]
            omega
      · obtain rfl : k = 0 := by omega
        have hst : fitF m l = [] := by rw [← HF.out, List.take_zero, fitF_stop (Or.inl rfl)]
        have HST := Lib.hid hst
        rw [List.take_zero] at HT c2 hsm
        have HT2 := Lib.hid HT.out
        clear hst hlen HLEN hk hk0 HF
        have e0 : sumF ([] : List FieldL) = 0 := rfl
        rw [e0] at c2 hsm
        go_wp2_with fail
        go_end0
        refine ⟨rfl, .slice a 0 c, by rw [HST.out]; exact HT2.out, HC.out, fun k hk => by cases a <;> exact hk⟩
    · have hst : fitF m l = l.take k := by rw [← HF.out, fitF_stop (Or.inr (by omega))]
      have HST := Lib.hid hst
      obtain ⟨s, hs'⟩ : ∃ s, sumF (l.take k) = s := ⟨_, rfl⟩
      rw [hs'] at c2 hsm
      clear hst hlen HLEN HF hs'
      go_wp2_with fail
      go_end0
      refine ⟨rfl, .slice a k c, by rw [HST.out]; exact HT.out, HC.out, fun k hk => by cases a <;> exact hk⟩


theorem resize_no {w : World} {B g : Nat} (m : Int) (hm : ¬ (0 ≤ m ∧ m ≤ 65536)) :
    Calls Tryd.prog 24 #[.pointer (some ⟨g, 0, none⟩), .int .i64 m] w fun e w' => e = .returned (.int .i64 1) ∧ w = w' := by
  have HM := Lib.hid (may_no m hm)
  clear hm
  go_enter Tryd.func24, Tryd.ntmps24
  go_wp2_with fail
  refine (HM.out _).mono ?_
  rintro e w1 ⟨rfl, rfl⟩
  go_wp2_with fail
  go_ret
  exact ⟨rfl, rfl⟩
theorem resize_yes {w : World} {B g : Nat} {vo vk : Value} {l : List FieldL} {most : Int} (m : Int) (h : Tab w B g vo vk l most) (hs : sumF l ≤ 1000000000000) (hm0 : 0 ≤ m) (hm1 : m ≤ 65536) :
    Calls Tryd.prog 24 #[.pointer (some ⟨g, 0, none⟩), .int .i64 m] w fun e w' => e = .returned (.int .i64 0) ∧ ∃ vo', Tab w' B g vo' vk (fitF m l) m ∧ Chg (fun k => k = g) w w' ∧ ∀ k, vo'.ownBlock = some k → vo.ownBlock = some k := by
  have HM := Lib.hid (may_yes m hm0 hm1)
  obtain ⟨⟨c0, c1, c2, c3⟩, f0, f2, f3⟩ := h.cells
  have h3 := h.most m
  have HS := Lib.hid (shrink_any m h3 hs)
  have HC := Lib.hid ((Chg.refl (fun k => k = g) w).set g 3 (.int .i64 m) (Or.inl rfl))
  clear h hs hm0 hm1 h3 c0 c1 c2
  go_enter Tryd.func24, Tryd.ntmps24
  go_wp2_with fail
  refine (HM.out _).mono ?_
  rintro e w1 ⟨rfl, rfl⟩
  go_wp2_with fail
  refine HS.out.mono ?_
  rintro e w2 ⟨rfl, vo', ht, hc, ho⟩
  have HT := Lib.hid ht
  have HC2 := Lib.hid (HC.out.trans hc (fun i hi => Or.inl hi))
  have HO := Lib.hid ho
  clear ht hc ho
  go_wp2_with fail
  go_ret
  exact ⟨rfl, vo', HT.out, HC2.out, HO.out⟩

def addF (most : Int) (f : FieldL) (l : List FieldL) : List FieldL := if (fsize f : Int) ≤ most then f :: fitF (most - fsize f) l else fitF (most - fsize f) l
theorem Tab.upd2 {w : World} {B g : Nat} {vo vk : Value} {l : List FieldL} {most : Int} (h : Tab w B g vo vk l most) {vo' : Value} {l' : List FieldL} (ho' : OwnF w B vo' l') (hne : vo'.ownBlock ≠ some g) (hap : ∀ k, vk.ownBlock = some k → vo'.ownBlock ≠ some k) :
    Tab ((w.setCell ⟨g, 0, none⟩ vo').setCell ⟨g, 2, none⟩ (.int .i64 (sumF l' : Int))) B g vo' vk l' most := by
  have hc : Chg (fun k => k = g) w ((w.setCell ⟨g, 0, none⟩ vo').setCell ⟨g, 2, none⟩ (.int .i64 (sumF l' : Int))) := ((Chg.refl (fun k => k = g) w).set g 0 _ (Or.inl rfl)).set g 2 _ (Or.inl rfl)
  refine ⟨?_, ho'.chg hc (fun k hk e => by subst e; exact hne hk), h.kn.chg hc (fun k hk e => by subst e; exact h.kn_ne hk), h.gB, hap⟩
  have h1 := heap_setCell_same w g 0 _ _ vo' h.blk
  rw [heap_setCell_same _ g 2 _ _ (.int .i64 (sumF l' : Int)) h1]
  rfl
theorem Tab.ins {w3 w6 : World} {B g : Nat} {vo1 vk : Value} {l1 : List FieldL} {most : Int} (h : Tab w3 B g vo1 vk l1 most) (hg : w6.heap[g]? = w3.heap[g]?) (hk : OwnF w6 B vk staticT) {v6 : Value} {l6 : List FieldL} (o6 : OwnF w6 B v6 l6) (hn : ∀ k, v6.ownBlock = some k → vo1.ownBlock = some k ∨ w3.heap.size ≤ k) (n : Int) (hs : n = (sumF l6 : Int)) :
    Tab ((w6.setCell ⟨g, 0, none⟩ v6).setCell ⟨g, 2, none⟩ (.int .i64 n)) B g v6 vk l6 most := by
  subst hs
  have hne : v6.ownBlock ≠ some g := fun e => by
    rcases hn g e with h1 | h1
    · exact h.own_ne h1
    · have := h.lt; omega
  have hc : Chg (fun k => k = g) w6 ((w6.setCell ⟨g, 0, none⟩ v6).setCell ⟨g, 2, none⟩ (.int .i64 (sumF l6 : Int))) := ((Chg.refl (fun k => k = g) w6).set g 0 _ (Or.inl rfl)).set g 2 _ (Or.inl rfl)
  refine ⟨?_, o6.chg hc (fun k hk e => by subst e; exact hne hk), hk.chg hc (fun k hk e => by subst e; exact h.kn_ne hk), h.gB, fun k hk e => ?_⟩
  · have h1 := heap_setCell_same w6 g 0 _ _ v6 (hg.trans h.blk)
    rw [heap_setCell_same _ g 2 _ _ (.int .i64 (sumF l6 : Int)) h1]
    rfl
  · rcases hn k e with h1 | h1
    · exact h.ap k hk h1
    · have := (h.kn.lt k hk).2; omega
set_option maxHeartbeats 4000000 in
theorem add_any {w : World} {B g : Nat} {vo vk : Value} {l : List FieldL} {most : Int} (f : FieldL) (h : Tab w B g vo vk l most) (hs : (sumF l : Int) ≤ most) (hm0 : 0 ≤ most) (hm1 : most ≤ 65536) (hf : fsize f ≤ 1000000000000) (hB : B ≤ w.heap.size) :
    Calls Tryd.prog 19 #[.pointer (some ⟨g, 0, none⟩), fieldV f] w fun e w' => e = .returned (.tuple #[]) ∧ ∃ vo', Tab w' B g vo' vk (addF most f l) most ∧ Chg (TP g vo) w w' ∧ ∀ k, vo'.ownBlock = some k → vo.ownBlock = some k ∨ w.heap.size ≤ k := by
  obtain ⟨f1, f2'⟩ := f
  obtain ⟨n, hn⟩ : ∃ n, fsize (f1, f2') = n := ⟨_, rfl⟩
  have HBY := Lib.hid (fun w => bytes_any (f1, f2') hf w)
  rw [hn] at HBY hf
  have hadd : addF most (f1, f2') l = if (n : Int) ≤ most then (f1, f2') :: fitF (most - n) l else fitF (most - n) l := by unfold addF; rw [hn]
  have HADD := Lib.hid hadd
  unfold fieldV at HBY ⊢
  simp only at HBY ⊢
  have hA1 : Aft w (w.alloc (.cells #[.string ⟨f1.toArray⟩, .string ⟨f2'.toArray⟩] 28)) := (Aft.refl w).alloc _
  have hbx : FB (w.alloc (.cells #[.string ⟨f1.toArray⟩, .string ⟨f2'.toArray⟩] 28)) w.heap.size [(f1, f2')] := heap_alloc_new w _
  have hgw := h.lt
  have how := h.own
  have hs' : sumF l ≤ 1000000000000 := by omega
  have h1 := h.aft hA1
  have HN0 := Lib.hid hn
  have g1 : IntKind.i64.wrap (most - (n : Int)) = most - (n : Int) := IntWalk.i64_in _ (by omega)
  have H1 := Lib.hid h1
  have HBX := Lib.hid hbx
  have HA1 := Lib.hid hA1
  have HGW := Lib.hid hgw
  have HSS := Lib.hid hs
  have HS' := Lib.hid hs'
  have HB := Lib.hid hB
  have HOW := Lib.hid how
  have HNE := Lib.hid h.own_ne
  have HAP := Lib.hid h.ap
  have HOL := Lib.hid (fun k (hk : vo.ownBlock = some k) => (h.own.lt k hk).2)
  obtain ⟨b, hb⟩ : ∃ b, w.heap.size = b := ⟨_, rfl⟩
  rw [hb] at HBX HGW HB HOL
  have HBW := Lib.hid hb
  have bx := HBX.out.cell (i := 0) (by simp)
  simp only [Nat.zero_mul, Nat.zero_add, List.getElem_cons_zero, strV] at bx
  obtain ⟨bx0, bx1⟩ := bx
  have hbz : (w.alloc (.cells #[.string ⟨f1.toArray⟩, .string ⟨f2'.toArray⟩] 28)).heap.size = b + 1 := by rw [World.size_alloc, hb]
  have HBZ := Lib.hid hbz
  clear h hs hs' hB hn hadd hA1 hbx hgw how h1 hb hbz
  go_enter Tryd.func19, Tryd.ntmps19
  go_wp2_with fail
  rw [HBW.out]
  generalize w.alloc (.cells #[.string ⟨f1.toArray⟩, .string ⟨f2'.toArray⟩] 28) = W at H1 HBX HA1 HBZ bx0 bx1 ⊢
  refine (HBY.out _).mono ?_
  rintro e w2 ⟨rfl, a2⟩
  have H2 := Lib.hid (H1.out.aft a2)
  have HA2 := Lib.hid (HA1.out.trans a2)
  have HBX2 := Lib.hid (show FB w2 b [(f1, f2')] from (Below.block a2.to b (by have := HBZ.out; omega)).trans HBX.out)
  clear a2 bx0 bx1
  obtain ⟨⟨c0, c1, c2, c3⟩, q0, q2, q3⟩ := H2.out.cells
  clear c0 c1 c2 q0 q2 q3
  have HSH := Lib.hid (shrink_any (most - (n : Int)) H2.out HS'.out)
  go_wp2_with fail
  refine HSH.out.mono ?_
  rintro e w3 ⟨rfl, vo1, ht3, hc3, ho3⟩
  have hgb : b ≠ g := by have := HGW.out; omega
  have hfb3 : FB w3 b [(f1, f2')] := (hc3.block b (HBX2.out.lt) hgb).trans HBX2.out
  have bx := hfb3.cell (i := 0) (by simp)
  simp only [Nat.zero_mul, Nat.zero_add, List.getElem_cons_zero, strV] at bx
  obtain ⟨bx0, bx1⟩ := bx
  have HT3 := Lib.hid ht3
  have HC3 := Lib.hid ((Chg.of_aft (p := TP g vo) HA2.out).trans hc3 (fun i hi => Or.inl (Or.inl hi)))
  have HO3 := Lib.hid ho3
  have HZ3 : Hid (b + 1 ≤ w3.heap.size) := Lib.hid (by have h1 := hc3.size; have h2 := HBX2.out.lt; omega)
  obtain ⟨⟨c0, c1, c2, c3'⟩, q0, q2, q3⟩ := ht3.cells
  clear ht3 hc3 ho3 hfb3 HSH c3 hgb
  by_cases hbig : (n : Int) > most
  · have HADD2 : Hid (addF most (f1, f2') l = fitF (most - (n : Int)) l) := Lib.hid (by rw [HADD.out, if_neg (by omega)])
    clear c0 c1 c2 q0 q2 q3 bx0 bx1
    go_wp2_with fail
    refine bodyPost_ret (v := .tuple #[]) (by simp [results, Tryd.results19, go_sem]) rfl ?_
    refine ⟨rfl, vo1, by rw [HADD2.out]; exact HT3.out, HC3.out, fun k hk => Or.inl (HO3.out k hk)⟩
  · have HADD2 : Hid (addF most (f1, f2') l = (f1, f2') :: fitF (most - (n : Int)) l) := Lib.hid (by rw [HADD.out, if_pos (by omega)])
    obtain ⟨l1, hl1⟩ : ∃ l1, fitF (most - (n : Int)) l = l1 := ⟨_, rfl⟩
    have hle := fitF_le (m := most - (n : Int)) (l := l)
    rw [hl1] at hle HT3 HADD2 c2
    have hsz : (sumF l1 : Int) ≤ most - n := by
      rcases hle with h | h
      · rw [h]; show ((0 : Nat) : Int) ≤ _; omega
      · exact h
    have hlen1 := sumF_len l1
    have hsum : (sumF ((f1, f2') :: l1) : Int) = (sumF l1 : Int) + (n : Int) := by rw [sumF_cons, HN0.out]; push_cast; omega
    have HSUM := Lib.hid hsum
    have g2 : IntKind.i64.wrap ((sumF l1 : Int) + (n : Int)) = (sumF l1 : Int) + (n : Int) := IntWalk.i64_in _ (by omega)
    have HL1 : Hid (l1.length ≤ 1000000) := Lib.hid (by omega)
    have HSZ := Lib.hid hsz
    clear hle hl1 hsz hlen1 hsum
    generalize (sumF l1 : Int) = s at c2 g2 HSUM HSZ
    have HCE := Lib.hid (fun (w6 : World) (h6 : w6.heap[g]? = w3.heap[g]?) => (And.intro ((World.cell?_of_block (a := ⟨g, 0, none⟩) h6).trans c0) (And.intro ((World.cell?_of_block (a := ⟨g, 2, none⟩) h6).trans c2) (And.intro ((World.frozen?_of_block (a := ⟨g, 0, none⟩) h6).trans q0) ((World.frozen?_of_block (a := ⟨g, 2, none⟩) h6).trans q2)))))
    have hne3 : ∀ g', vo1.ownBlock = some g' → w3.heap.size ≠ g' := fun g' hg' => by have := (HT3.out.own.lt g' hg').2; omega
    have HNE3 := Lib.hid hne3
    have HB3 : Hid (B ≤ w3.heap.size) := Lib.hid (by have h1 := HZ3.out; have h2 := HB.out; omega)
    have hgn : ∀ (W6 w6 : World) (a : Aft w3 W6) (gr : W6.grownBy w6 vo1.ownBlock), w6.heap[g]? = w3.heap[g]? ∧ OwnF w6 B vk staticT ∧ Chg (TP g vo) w w6 := fun W6 w6 a gr => by
      have h1 := HT3.out.lt
      have h2 := a.to.size
      refine ⟨(gr.block g (by omega) (fun e => HT3.out.own_ne e.symm)).trans (Below.block a.to g h1), (HT3.out.kn.aft a).chg (Chg.grown (p := fun k => vo1.ownBlock = some k) gr (fun k h => h)) (fun k hk e => HT3.out.ap k hk e), (HC3.out.aft a).trans (Chg.grown (p := fun k => vo1.ownBlock = some k) gr (fun k h => h)) (fun i hi => Or.inl (Or.inr (HO3.out i hi)))⟩
    have HGN := Lib.hid hgn
    clear hne3 hgn
    obtain ⟨oa, oc, rfl, -⟩ := HT3.out.own.slice
    obtain ⟨ln, hln⟩ : ∃ ln, l1.length = ln := ⟨_, rfl⟩
    rw [hln] at HT3 c0 HO3 HCE HNE3 HGN
    clear c1 q3 hln
    have c0a : (w3.alloc (.cells #[.string ⟨f1.toArray⟩, .string ⟨f2'.toArray⟩] 28)).cell? ⟨g, 0, none⟩ = some (.slice oa ln oc) := by
      rw [Below.cell ((Aft.refl w3).alloc (.cells #[.string ⟨f1.toArray⟩, .string ⟨f2'.toArray⟩] 28)).to (p := ⟨g, 0, none⟩) HT3.out.lt]; exact c0
    go_wp2_with fail
    go_region_law (first
      | (go_simp; go_at_call 60; refine (insert_any B (.slice oa ln oc) l1 (f1, f2') w3.heap.size _ (HT3.out.own.aft (by first | exact ((Aft.refl _).drew).alloc _ | exact ((Aft.refl _).alloc _).drew | exact (Aft.refl _).alloc _)) (by first | exact heap_alloc_new w3.drew _ | exact heap_alloc_new w3 _) HNE3.out HL1.out (Nat.le_trans HB3.out (Below.size (B := w3.heap.size) (w := w3) (by first | exact ((Aft.refl _).drew).alloc _ | exact ((Aft.refl _).alloc _).drew | exact (Aft.refl _).alloc _)))).mono ?_; rintro e w6 ⟨v6, rfl, o6, gr6, hn6⟩; have HG6 := Lib.hid (HGN.out _ w6 (by first | exact ((Aft.refl _).drew).alloc _ | exact ((Aft.refl _).alloc _).drew | exact (Aft.refl _).alloc _) gr6); have HN6 : Hid (∀ k, v6.ownBlock = some k → (Value.slice oa ln oc).ownBlock = some k ∨ w3.heap.size ≤ k) := Lib.hid (fun k hk => (hn6 k hk).imp id (fun h => Nat.le_trans (Below.size (B := w3.heap.size) (w := w3) (by first | exact ((Aft.refl _).drew).alloc _ | exact ((Aft.refl _).alloc _).drew | exact (Aft.refl _).alloc _)) h)); clear hn6 gr6; obtain ⟨y0, y2, y00, y22⟩ := HCE.out w6 HG6.out.1; obtain ⟨a6, k6, rfl, -⟩ := o6.slice))
    all_goals
      have HO6 := Lib.hid o6
      clear o6
      have HT6 := Lib.hid (HT3.out.ins HG6.out.1 HG6.out.2.1 HO6.out HN6.out (s + (n : Int)) HSUM.out.symm)
      have HC6 := Lib.hid ((HG6.out.2.2.set g 0 (.slice a6 ((f1, f2') :: l1).length k6) (Or.inl (Or.inl rfl))).set g 2 (.int .i64 (s + (n : Int))) (Or.inl (Or.inl rfl)))
      rw [List.length_cons] at HT6 HC6 HN6
      obtain ⟨ln2, hln2⟩ : ∃ n, l1.length = n := ⟨_, rfl⟩
      rw [hln2] at HT6 HC6 HN6
      try rw [hln2]
      clear HO6 hln2
      go_wp2_with fail
      go_end0
      refine ⟨rfl, _, by rw [HADD2.out]; exact HT6.out, HC6.out, fun k hk => ?_⟩
      rcases HN6.out k hk with h1 | h1
      · exact Or.inl (HO3.out k h1)
      · exact Or.inr (by have h2 := HZ3.out; have h3 := HBW.out; omega)

end Go.Proofs.YtmlnboibclfmcaaDoor
namespace Go.Proofs.YtmlnboibclfmcaaDoor
open Go.RowKit
set_option linter.unusedVariables false

def getF (l : List FieldL) (i : Int) : FieldL := if 1 ≤ i ∧ i ≤ 61 + (l.length : Int) then (staticT ++ l).getD (i - 1).toNat ([], []) else ([], [])
def getB (l : List FieldL) (i : Int) : Bool := decide (1 ≤ i ∧ i ≤ 61 + (l.length : Int))
theorem getF_known (l : List FieldL) (j : Nat) (h : j < 61) : (∃ hl : j < staticT.length, getF l ((j : Int) + 1) = staticT[j]'hl) ∧ getB l ((j : Int) + 1) = true := by
  have hl : j < staticT.length := by rw [staticT_len]; exact h
  refine ⟨⟨hl, ?_⟩, by unfold getB; simp; omega⟩
  unfold getF
  rw [if_pos (by omega), show ((j : Int) + 1 - 1).toNat = j by omega, List.getD_eq_getElem?_getD, List.getElem?_append_left hl, List.getElem?_eq_getElem hl]
  rfl
theorem getF_own (l : List FieldL) (j : Nat) (h : j < l.length) : getF l ((j : Int) + 62) = l[j] ∧ getB l ((j : Int) + 62) = true := by
  refine ⟨?_, by unfold getB; simp; omega⟩
  unfold getF
  rw [if_pos (by omega), show ((j : Int) + 62 - 1).toNat = 61 + j by omega, List.getD_eq_getElem?_getD, List.getElem?_append_right (by rw [staticT_len]; omega), staticT_len, show 61 + j - 61 = j by omega, List.getElem?_eq_getElem h]
  rfl
theorem getF_out {l : List FieldL} {i : Int} (h : ¬ (1 ≤ i ∧ i ≤ 61 + (l.length : Int))) : getF l i = ([], []) ∧ getB l i = false := by
  unfold getF getB
  rw [if_neg h]
  exact ⟨rfl, by simpa using h⟩

set_option maxHeartbeats 4000000 in
theorem tget_any {w : World} {B g : Nat} {vo vk : Value} {l : List FieldL} {most : Int} (i : Int) (i0 : -9223372036854775808 ≤ i) (i1 : i ≤ 9223372036854775807) (h : Tab w B g vo vk l most) :
    Calls Tryd.prog 21 #[.pointer (some ⟨g, 0, none⟩), .int .i64 i] w fun e w' => e = .returned (.tuple #[fieldV (getF l i), .bool (getB l i)]) ∧ Aft w w' := by
  have hA1 : Aft w (w.alloc (.cells #[.string ⟨#[]⟩, .string ⟨#[]⟩] 28)) := (Aft.refl w).alloc _
  have h1 := h.aft hA1
  obtain ⟨⟨c0, c1, c2, c3⟩, -⟩ := h1.cells
  obtain ⟨ka, kg, kc, hke, hk1, hk2, hkp, hkc⟩ := h1.kn.form
  obtain ⟨oa, og, oc, hoe, ho1, ho2, hop, hoc⟩ := h1.own.form
  have hne : staticT ≠ [] := by intro e; have := staticT_len; rw [e] at this; cases this
  obtain ⟨rfl, -⟩ := hkp hne
  subst hke hoe
  rw [staticT_len] at c1 hk1
  have HKC := Lib.hid hkc
  have HOC := Lib.hid hoc
  have HOP := Lib.hid hop
  unfold maxLen at ho2
  clear h h1 hA1 c2 c3 hkc hoc hop hk1 hk2 hne hkp
  by_cases hlo : i < 1
  · obtain ⟨e1, e2⟩ := getF_out (l := l) (i := i) (by omega)
    have E1 := Lib.hid e1
    have E2 := Lib.hid e2
    obtain ⟨n, hn⟩ : ∃ n, l.length = n := ⟨_, rfl⟩
    rw [hn] at c0 ho1
    clear e1 e2 hn
    have n1 : ¬ (i ≥ 1) := by omega
    have n2 : ¬ (i > 61) := by omega
    go_enter Tryd.func21, Tryd.ntmps21
    go_wp2_with fail
    refine bodyPost_ret (v := .tuple #[.agg #[.string ⟨#[]⟩, .string ⟨#[]⟩], .bool false]) (by simp [results, Tryd.results21, go_sem]) rfl ?_
    rw [E1.out, E2.out]
    exact ⟨rfl, (Aft.refl w).alloc _⟩
  · by_cases hmid : i ≤ 61
    · obtain ⟨j, rfl⟩ : ∃ j : Nat, i = (j : Int) + 1 := ⟨(i - 1).toNat, by omega⟩
      obtain ⟨⟨hl, e1⟩, e2⟩ := getF_known l j (by omega)
      obtain ⟨x1, x2⟩ := HKC.out j hl
      generalize staticT[j] = f at x1 x2 e1
      have E1 := Lib.hid e1
      have E2 := Lib.hid e2
      unfold strV at x1 x2
      obtain ⟨n, hn⟩ : ∃ n, l.length = n := ⟨_, rfl⟩
      rw [hn] at c0 ho1
      have g1 : IntKind.i64.wrap ((j : Int) + 1 - 1) = (j : Int) := by rw [show (j : Int) + 1 - 1 = (j : Int) by omega]; exact IntWalk.i64_in _ (by omega)
      have j1 : (j : Int) < 61 := by omega
      have n1 : (j : Int) + 1 ≥ 1 := by omega
      clear e1 e2 hl hn hlo
      go_enter Tryd.func21, Tryd.ntmps21
      go_wp2_with fail
      refine bodyPost_ret (v := .tuple #[fieldV f, .bool true]) (by simp [results, Tryd.results21, go_sem, fieldV]) rfl ?_
      rw [E1.out, E2.out]
      exact ⟨rfl, (Aft.refl w).alloc _⟩
    · by_cases hhi : i ≤ 61 + (l.length : Int)
      · obtain ⟨j, rfl⟩ : ∃ j : Nat, i = (j : Int) + 62 := ⟨(i - 62).toNat, by omega⟩
        have hjl : j < l.length := by omega
        obtain ⟨e1, e2⟩ := getF_own l j hjl
        obtain ⟨x1, x2⟩ := HOC.out j hjl
        have hne2 : l ≠ [] := by intro e; rw [e] at hjl; simp at hjl
        obtain ⟨rfl, -⟩ := HOP.out hne2
        generalize l[j] = f at x1 x2 e1
        have E1 := Lib.hid e1
        have E2 := Lib.hid e2
        unfold strV at x1 x2
        obtain ⟨n, hn⟩ : ∃ n, l.length = n := ⟨_, rfl⟩
        rw [hn] at c0 ho1 hjl
        have g1 : IntKind.i64.wrap ((j : Int) + 62 - 61) = (j : Int) + 1 := by rw [show (j : Int) + 62 - 61 = (j : Int) + 1 by omega]; exact IntWalk.i64_in _ (by omega)
        have g2 : IntKind.i64.wrap ((j : Int) + 1 - 1) = (j : Int) := by rw [show (j : Int) + 1 - 1 = (j : Int) by omega]; exact IntWalk.i64_in _ (by omega)
        have j1 : (j : Int) < (n : Int) := by omega
        have j2 : (j : Int) + 1 ≤ (n : Int) := by omega
        have n1 : (j : Int) + 62 ≥ 1 := by omega
        have n2 : (j : Int) + 62 > 61 := by omega
        clear e1 e2 hn hlo hne2 hhi
        go_enter Tryd.func21, Tryd.ntmps21
        go_wp2_with fail
        refine bodyPost_ret (v := .tuple #[fieldV f, .bool true]) (by simp [results, Tryd.results21, go_sem, fieldV]) rfl ?_
        rw [E1.out, E2.out]
        exact ⟨rfl, (Aft.refl w).alloc _⟩
      · obtain ⟨e1, e2⟩ := getF_out (l := l) (i := i) (by omega)
        have E1 := Lib.hid e1
        have E2 := Lib.hid e2
        obtain ⟨n, hn⟩ : ∃ n, l.length = n := ⟨_, rfl⟩
        rw [hn] at c0 ho1 hhi
        clear e1 e2 hn
        have n1 : i ≥ 1 := by omega
        have n2 : i > 61 := by omega
        have g1 : IntKind.i64.wrap (i - 61) = i - 61 := IntWalk.i64_in _ (by omega)
        have n3 : ¬ (i - 61 ≤ (n : Int)) := by omega
        go_enter Tryd.func21, Tryd.ntmps21
        go_wp2_with fail
        refine bodyPost_ret (v := .tuple #[.agg #[.string ⟨#[]⟩, .string ⟨#[]⟩], .bool false]) (by simp [results, Tryd.results21, go_sem]) rfl ?_
        rw [E1.out, E2.out]
        exact ⟨rfl, (Aft.refl w).alloc _⟩

end Go.Proofs.YtmlnboibclfmcaaDoor
namespace Go.Proofs.YtmlnboibclfmcaaDoor
open Go.RowKit
set_option linter.unusedVariables false

def findGo (f : FieldL) : Nat → Int → List FieldL → Int × Bool
  | _, nm, [] => (nm, false)
  | a, nm, x :: r => if x = f then ((a : Int) + 1, true) else findGo f (a + 1) (if x.1 = f.1 ∧ nm = 0 then (a : Int) + 1 else nm) r
def findF (l : List FieldL) (f : FieldL) : Int × Bool := findGo f 0 0 (staticT ++ l)
def offs (k : Nat) : Nat := 61 * k
def rests (l : List FieldL) (k : Nat) : List FieldL := if k = 0 then staticT ++ l else if k = 1 then l else []
theorem findGo_eq {f x : FieldL} {a : Nat} {nm : Int} {r : List FieldL} (h : x = f) : findGo f a nm (x :: r) = ((a : Int) + 1, true) := by
  unfold findGo
  rw [if_pos h]
theorem findGo_nm {f x : FieldL} {a : Nat} {nm : Int} {r : List FieldL} (h : x ≠ f) (h2 : x.1 = f.1) (h3 : nm = 0) : findGo f a nm (x :: r) = findGo f (a + 1) ((a : Int) + 1) r := by
  conv => lhs; unfold findGo
  rw [if_neg h, if_pos ⟨h2, h3⟩]
theorem findGo_no {f x : FieldL} {a : Nat} {nm : Int} {r : List FieldL} (h : x ≠ f) (h2 : ¬ (x.1 = f.1 ∧ nm = 0)) : findGo f a nm (x :: r) = findGo f (a + 1) nm r := by
  conv => lhs; unfold findGo
  rw [if_neg h, if_neg h2]
theorem eq_pair {a b : List UInt8} {f1 f2 : List UInt8} (A B F G : ByteArray) (hA : A.data.toList = a) (hB : B.data.toList = b) (hF : F.data.toList = f1) (hG : G.data.toList = f2) :
    ((a, b) = (f1, f2) ∧ (A.toList == F.toList) = true ∧ (B.toList == G.toList) = true) ∨ ((a, b) ≠ (f1, f2) ∧ a = f1 ∧ (A.toList == F.toList) = true ∧ (B.toList == G.toList) = false) ∨ ((a, b) ≠ (f1, f2) ∧ a ≠ f1 ∧ (A.toList == F.toList) = false) := by
  rw [Lib.toList_data, Lib.toList_data, Lib.toList_data, Lib.toList_data, hA, hB, hF, hG]
  by_cases h1 : a = f1
  · by_cases h2 : b = f2
    · exact Or.inl ⟨by rw [h1, h2], by simpa using h1, by simpa using h2⟩
    · exact Or.inr (Or.inl ⟨fun e => h2 (Prod.mk.inj e).2, h1, by simpa using h1, by simpa using h2⟩)
  · exact Or.inr (Or.inr ⟨fun e => h1 (Prod.mk.inj e).1, h1, by simpa using h1⟩)

theorem rests_open {W : World} {B g kg kc : Nat} {oa : Option Addr} {og oc n : Nat} {l : List FieldL} {most : Int} (h : Tab W B g (.slice oa n oc) (.slice (some ⟨kg, 0, none⟩) 61 kc) l most)
    (hk : ∀ i (h : i < staticT.length), W.cell? ⟨kg, i * 2, none⟩ = some (strV staticT[i].1) ∧ W.cell? ⟨kg, i * 2 + 1, none⟩ = some (strV staticT[i].2))
    (ho : ∀ i (h : i < l.length), W.cell? ⟨og, i * 2, none⟩ = some (strV l[i].1) ∧ W.cell? ⟨og, i * 2 + 1, none⟩ = some (strV l[i].2))
    (hop : l ≠ [] → oa = some ⟨og, 0, none⟩ ∧ og < W.heap.size) (hkg : kg < W.heap.size) (hn : l.length = n) (hl : n ≤ 1000000) (k : Nat) (hlt : k < 2) (G2 : Nat) :
    ∃ (sa : Option Addr) (sc sg : Nat) (seg : List FieldL), (∀ wx : World, (wx.cell? ⟨G2, 0, none⟩ = some (.slice (some ⟨kg, 0, none⟩) 61 kc) ∧ wx.cell? ⟨G2, 1, none⟩ = some (.slice oa n oc)) → wx.cell? ⟨G2, k, none⟩ = some (.slice sa seg.length sc)) ∧
      (∀ i (h : i < seg.length), sa = some ⟨sg, 0, none⟩ ∧ sg < W.heap.size ∧ W.cell? ⟨sg, i * 2, none⟩ = some (strV seg[i].1) ∧ W.cell? ⟨sg, i * 2 + 1, none⟩ = some (strV seg[i].2)) ∧
      rests l k = seg ++ rests l (k + 1) ∧ (k = 0 → seg.length = 61) ∧ seg.length ≤ 1000000 := by
  rcases (show k = 0 ∨ k = 1 by omega) with rfl | rfl
  · refine ⟨_, kc, kg, staticT, fun wx h => by rw [staticT_len]; exact h.1, fun i hi => ⟨rfl, hkg, hk i hi⟩, rfl, fun _ => staticT_len, by rw [staticT_len]; omega⟩
  · refine ⟨oa, oc, og, l, fun wx h => by rw [hn]; exact h.2, fun i hi => ?_, by simp [rests], fun h => by omega, by omega⟩
    have hne : l ≠ [] := by intro e; rw [e] at hi; simp at hi
    exact ⟨(hop hne).1, (hop hne).2, ho i hi⟩

set_option maxHeartbeats 8000000 in
set_option maxRecDepth 100000 in
theorem tfind_any {w : World} {B g : Nat} {vo vk : Value} {l : List FieldL} {most : Int} (f : FieldL) (h : Tab w B g vo vk l most) (hl : l.length ≤ 1000000) :
    Calls Tryd.prog 27 #[.pointer (some ⟨g, 0, none⟩), fieldV f] w fun e w' => e = .returned (.tuple #[.int .i64 (findF l f).1, .bool (findF l f).2]) ∧ Aft w w' := by
  obtain ⟨f1, f2'⟩ := f
  obtain ⟨R, hR⟩ : ∃ R, findF l (f1, f2') = R := ⟨_, rfl⟩
  rw [hR]
  have HR : Hid (findGo (f1, f2') 0 0 (staticT ++ l) = R) := Lib.hid hR
  clear hR
  unfold fieldV
  simp only
  have hA1 : Aft w (w.alloc (.cells #[.string ⟨f1.toArray⟩, .string ⟨f2'.toArray⟩] 28)) := (Aft.refl w).alloc _
  have hbx : FB (w.alloc (.cells #[.string ⟨f1.toArray⟩, .string ⟨f2'.toArray⟩] 28)) w.heap.size [(f1, f2')] := heap_alloc_new w _
  have h1 := h.aft hA1
  have hlt : w.heap.size < (w.alloc (.cells #[.string ⟨f1.toArray⟩, .string ⟨f2'.toArray⟩] 28)).heap.size := by rw [World.size_alloc]; exact Nat.lt_succ_self _
  have H1 := Lib.hid h1
  have HBX := Lib.hid hbx
  have HLT := Lib.hid hlt
  have HA1 := Lib.hid hA1
  obtain ⟨b, hb⟩ : ∃ b, w.heap.size = b := ⟨_, rfl⟩
  rw [hb] at HBX HLT
  have HBW := Lib.hid hb
  clear h h1 hA1 hbx hlt hb
  go_enter Tryd.func27, Tryd.ntmps27
  go_upto_region 2 with fail
  rw [HBW.out]
  generalize w.alloc (.cells #[.string ⟨f1.toArray⟩, .string ⟨f2'.toArray⟩] 28) = W at H1 HBX HA1 HLT ⊢
  obtain ⟨ka, kg, kc, hke, hk1, hk2, hkp, hkc⟩ := H1.out.kn.form
  obtain ⟨oa, og, oc, hoe, ho1, ho2, hop, hoc⟩ := H1.out.own.form
  have hne : staticT ≠ [] := by intro e; have := staticT_len; rw [e] at this; cases this
  obtain ⟨rfl, hkg⟩ := hkp hne
  subst hke hoe
  rw [staticT_len] at H1 hk1
  have HKC := Lib.hid hkc
  have HOC := Lib.hid hoc
  have HOP := Lib.hid hop
  have HKG := Lib.hid hkg
  obtain ⟨n, hn⟩ : ∃ n, l.length = n := ⟨_, rfl⟩
  have HN := Lib.hid hn
  rw [hn] at H1 ho1 hl
  clear hkc hoc hop hk1 hk2 ho1 ho2 hne hkp hkg hn
  have HD0 : Aft W W := Aft.refl _
  refine wp_region_held_drew (S := fun wx => Aft W wx) (by kernel_rfl) ((Aft.refl _).drew) (fun hHeld => ?_)
  refine wpAnyH_take (i := 0) (oi := { dst := some 12, op := Go.Op.move (Go.Operand.tmp 0), type := 22, pos := _, after := _, guard := _ }) (v := ?_) rfl (by kernel_rfl) (by kernel_rfl) (by kernel_rfl) (fun _ _ _ h => h) (Or.inl ⟨by rfl, ?_⟩) (by exact hHeld) ?_
  rotate_left
  · intro w hSw; go_simp; try with_reducible rfl
  try simp only [Act.put]
  try simp only [List.setIfInBounds_toArray]
  try simp only [List.set]
  refine wpAnyH_take (i := 1) (oi := { dst := some 13, op := Go.Op.nilCheck (Go.Operand.tmp 12), type := 0, pos := _, after := _, guard := _ }) (v := ?_) rfl (by kernel_rfl) (by kernel_rfl) (by kernel_rfl) (fun _ _ _ h => h) (Or.inl ⟨by rfl, ?_⟩) (by exact hHeld) ?_
  rotate_left
  · intro w hSw; go_simp; try with_reducible rfl
  try simp only [Act.put]
  try simp only [List.setIfInBounds_toArray]
  try simp only [List.set]
  refine wpAnyH_take (i := 2) (oi := { dst := some 14, op := Go.Op.fieldAddr 95 (Go.Operand.tmp 13) 1, type := 0, pos := _, after := _, guard := _ }) (v := ?_) rfl (by kernel_rfl) (by kernel_rfl) (by kernel_rfl) (fun _ _ _ h => h) (Or.inl ⟨by rfl, ?_⟩) (by exact hHeld) ?_
  rotate_left
  · intro w hSw; go_simp; try with_reducible rfl
  try simp only [Act.put]
  try simp only [List.setIfInBounds_toArray]
  try simp only [List.set]
  refine wpAnyH_take (i := 3) (oi := { dst := some 15, op := Go.Op.load 47 (Go.Operand.tmp 14), type := 47, pos := _, after := _, guard := _ }) (v := ?_) rfl (by kernel_rfl) (by kernel_rfl) (by kernel_rfl) (fun _ _ _ h => h) (Or.inl ⟨by rfl, ?_⟩) (by exact hHeld) ?_
  rotate_left
  · intro w hSw; obtain ⟨⟨c0, c1, c2, c3⟩, -⟩ := (H1.out.aft hSw).cells; go_simp; try with_reducible rfl
  try simp only [Act.put]
  try simp only [List.setIfInBounds_toArray]
  try simp only [List.set]
  refine wpAnyH_take (i := 4) (oi := { dst := some 16, op := Go.Op.move (Go.Operand.tmp 0), type := 22, pos := _, after := _, guard := _ }) (v := ?_) rfl (by kernel_rfl) (by kernel_rfl) (by kernel_rfl) (fun _ _ _ h => h) (Or.inl ⟨by rfl, ?_⟩) (by exact hHeld) ?_
  rotate_left
  · intro w hSw; go_simp; try with_reducible rfl
  try simp only [Act.put]
  try simp only [List.setIfInBounds_toArray]
  try simp only [List.set]
  refine wpAnyH_take (i := 5) (oi := { dst := some 17, op := Go.Op.nilCheck (Go.Operand.tmp 16), type := 0, pos := _, after := _, guard := _ }) (v := ?_) rfl (by kernel_rfl) (by kernel_rfl) (by kernel_rfl) (fun _ _ _ h => h) (Or.inl ⟨by rfl, ?_⟩) (by exact hHeld) ?_
  rotate_left
  · intro w hSw; go_simp; try with_reducible rfl
  try simp only [Act.put]
  try simp only [List.setIfInBounds_toArray]
  try simp only [List.set]
  refine wpAnyH_take (i := 6) (oi := { dst := some 18, op := Go.Op.fieldAddr 95 (Go.Operand.tmp 17) 0, type := 0, pos := _, after := _, guard := _ }) (v := ?_) rfl (by kernel_rfl) (by kernel_rfl) (by kernel_rfl) (fun _ _ _ h => h) (Or.inl ⟨by rfl, ?_⟩) (by exact hHeld) ?_
  rotate_left
  · intro w hSw; go_simp; try with_reducible rfl
  try simp only [Act.put]
  try simp only [List.setIfInBounds_toArray]
  try simp only [List.set]
  refine wpAnyH_take (i := 7) (oi := { dst := some 19, op := Go.Op.load 47 (Go.Operand.tmp 18), type := 47, pos := _, after := _, guard := _ }) (v := ?_) rfl (by kernel_rfl) (by kernel_rfl) (by kernel_rfl) (fun _ _ _ h => h) (Or.inl ⟨by rfl, ?_⟩) (by exact hHeld) ?_
  rotate_left
  · intro w hSw; obtain ⟨⟨c0, c1, c2, c3⟩, -⟩ := (H1.out.aft hSw).cells; go_simp; try with_reducible rfl
  try simp only [Act.put]
  try simp only [List.setIfInBounds_toArray]
  try simp only [List.set]
  refine wpAnyH_take (i := 10) (oi := { dst := some 22, op := Go.Op.move (Go.Operand.const (Go.Value.int Go.IntKind.i64 0)), type := 3, pos := _, after := _, guard := _ }) (v := ?_) rfl (by kernel_rfl) (by kernel_rfl) (by kernel_rfl) (fun _ _ _ h => h) (Or.inl ⟨by rfl, ?_⟩) (by exact hHeld) ?_
  rotate_left
  · intro w hSw; go_simp; try with_reducible rfl
  try simp only [Act.put]
  try simp only [List.setIfInBounds_toArray]
  try simp only [List.set]
  refine wpAnyH_ready (rs := [8]) (by kernel_rfl) (by simp) ?_
  refine AllReadyH.cons (o := { dst := some 20, op := Go.Op.buildSlice 98 2 #[(0, Go.Operand.tmp 15), (1, Go.Operand.tmp 19)], type := 98, pos := _, after := _, guard := _ }) rfl (fun K hK => ?_) AllReadyH.nil
  go_simp
  have hS2 := hHeld.alloc (.cells #[.slice (some ⟨kg, 0, none⟩) 61 kc, .slice oa n oc] 47)
  clear hHeld
  refine hK.out _ _ hS2 (fun hHeld => ?_)
  clear hK K hS2
  try simp only [Act.put]
  try simp only [List.setIfInBounds_toArray]
  try simp only [List.set]
  refine wpAnyH_take (i := 9) (oi := { dst := some 21, op := Go.Op.call { callee := Go.Callee.builtin Go.Builtin.len, args := #[Go.Operand.tmp 20], argTypes := #[98] }, type := 3, pos := _, after := _, guard := _ }) (v := ?_) rfl (by kernel_rfl) (by kernel_rfl) (by kernel_rfl) (fun _ _ _ h => h) (Or.inl ⟨by rfl, ?_⟩) (by exact hHeld) ?_
  rotate_left
  · intro w hSw; go_simp; try with_reducible rfl
  try simp only [Act.put]
  try simp only [List.setIfInBounds_toArray]
  try simp only [List.set]
  refine wpAnyH_done (by kernel_rfl) ?_ _
  have hRo := fun k hk G2 => rests_open H1.out HKC.out HOC.out HOP.out HKG.out HN.out hl k hk G2
  have HRO := Lib.hid hRo
  have harr : ∀ wx : World, Aft (W.alloc (.cells #[.slice (some ⟨kg, 0, none⟩) 61 kc, .slice oa n oc] 47)).drew wx → wx.cell? ⟨W.heap.size, 0, none⟩ = some (.slice (some ⟨kg, 0, none⟩) 61 kc) ∧ wx.cell? ⟨W.heap.size, 1, none⟩ = some (.slice oa n oc) := fun wx a => by
    have hz : W.heap.size < ((W.alloc (.cells #[.slice (some ⟨kg, 0, none⟩) 61 kc, .slice oa n oc] 47)).drew).heap.size := by show W.heap.size < (W.alloc _).heap.size; rw [World.size_alloc]; exact Nat.lt_succ_self _
    refine ⟨?_, ?_⟩
    · rw [Below.cell a.to (p := ⟨W.heap.size, 0, none⟩) hz]; simp [go_sem]
    · rw [Below.cell a.to (p := ⟨W.heap.size, 1, none⟩) hz]; simp [go_sem]
  have HARR := Lib.hid harr
  have HAW : Hid (Aft W (W.alloc (.cells #[.slice (some ⟨kg, 0, none⟩) 61 kc, .slice oa n oc] 47)).drew) := Lib.hid hHeld
  generalize W.heap.size = G2 at HARR ⊢
  generalize (W.alloc (.cells #[.slice (some ⟨kg, 0, none⟩) 61 kc, .slice oa n oc] 47)).drew = W2 at HARR HAW ⊢
  clear hRo harr hHeld HD0
  go_wp2_with fail
  go_loopw [22, 6] (fun v22 v6 wr => ∃ (k : Nat) (nm : Int), k ≤ 2 ∧ v22 = .int .i64 (k : Int) ∧ v6 = .int .i64 nm ∧ Hid (findGo (f1, f2') (offs k) nm (rests l k) = R) ∧ Hid (Aft W2 wr)) (fun v22 _ _ => 2 - (intOf v22).toNat)
  case atStart => exact ⟨0, 0, by omega, by go_num, rfl, Lib.hid HR.out, Lib.hid (Aft.refl _)⟩
  case round =>
    obtain ⟨k, nm, hk, rfl, rfl, HF, HAX⟩ := hrel
    by_cases hlt : k < 2
    · obtain ⟨sa, sc, sg, seg, hseg, hcell, hcut, hlen, hsz⟩ := HRO.out k hlt G2
      have harrk : wr.cell? ⟨G2, k, none⟩ = some (.slice sa seg.length sc) := hseg wr (HARR.out _ HAX.out)
      have HCELL := Lib.hid hcell
      have HF1 : Hid (findGo (f1, f2') (offs k + 0) nm (seg.drop 0 ++ rests l (k + 1)) = R) := Lib.hid (by rw [List.drop_zero, ← hcut]; exact HF.out)
      have HNX := Lib.hid hlen
      have hki : (k : Int) < 2 := by omega
      obtain ⟨sl, hsl⟩ : ∃ sl, seg.length = sl := ⟨_, rfl⟩
      have HSL := Lib.hid hsl
      rw [hsl] at harrk hsz HNX
      clear hseg hcell hcut hlen hsl HF
      go_wp2_with fail
      go_loopw [29, 6] (fun v29 v6 wi => ∃ (i : Nat) (nm : Int), i ≤ sl ∧ v29 = .int .i64 (i : Int) ∧ v6 = .int .i64 nm ∧ Hid (findGo (f1, f2') (offs k + i) nm (seg.drop i ++ rests l (k + 1)) = R) ∧ Hid (Aft W2 wi)) (fun v29 _ _ => sl - (intOf v29).toNat)
      case atStart => exact ⟨0, nm, by omega, by go_num, rfl, HF1, HAX⟩
      case round =>
        obtain ⟨i, nm2, hi, rfl, rfl, HG, HAI⟩ := hrel
        clear HF1
        by_cases hil : i < sl
        · have hil2 : i < seg.length := by rw [HSL.out]; exact hil
          have hdr : seg.drop i = seg[i] :: seg.drop (i + 1) := List.drop_eq_getElem_cons hil2
          obtain ⟨rfl, hsgl, hx⟩ := HCELL.out i hil2
          obtain ⟨x0, x1⟩ := hx
          have HGG := Lib.hid HG.out
          have HDR := Lib.hid hdr
          have x0' : wr.cell? ⟨sg, i * 2, none⟩ = some (strV seg[i].1) := by rw [Below.cell (HAW.out.trans HAI.out).to (p := ⟨sg, i * 2, none⟩) hsgl]; exact x0
          have x1' : wr.cell? ⟨sg, i * 2 + 1, none⟩ = some (strV seg[i].2) := by rw [Below.cell (HAW.out.trans HAI.out).to (p := ⟨sg, i * 2 + 1, none⟩) hsgl]; exact x1
          have hgi : findGo (f1, f2') (offs k + i) nm2 (seg[i] :: (seg.drop (i + 1) ++ rests l (k + 1))) = R := by
            have := HG.out
            rw [hdr] at this
            exact this
          have HAT := Lib.hid (HAW.out.trans HAI.out)
          obtain ⟨tl, htl⟩ : ∃ tl, seg.drop (i + 1) ++ rests l (k + 1) = tl := ⟨_, rfl⟩
          rw [htl] at hgi
          have HTL := Lib.hid htl
          clear hdr HG HDR x0 x1 HGG htl
          generalize seg[i] = x at hgi x0' x1'
          obtain ⟨xn, xv⟩ := x
          unfold strV at x0' x1'
          simp only at x0' x1'
          obtain ⟨X, hX⟩ : ∃ X : ByteArray, (⟨xn.toArray⟩ : ByteArray) = X := ⟨_, rfl⟩
          obtain ⟨Y, hY⟩ : ∃ Y : ByteArray, (⟨xv.toArray⟩ : ByteArray) = Y := ⟨_, rfl⟩
          have hXd : X.data.toList = xn := by rw [← hX]
          have hYd : Y.data.toList = xv := by rw [← hY]
          rw [hX] at x0'
          rw [hY] at x1'
          have bx := HBX.out.cell (i := 0) (by simp)
          simp only [Nat.zero_mul, Nat.zero_add, List.getElem_cons_zero, strV] at bx
          obtain ⟨F, hF⟩ : ∃ F : ByteArray, (⟨f1.toArray⟩ : ByteArray) = F := ⟨_, rfl⟩
          obtain ⟨G, hG⟩ : ∃ G : ByteArray, (⟨f2'.toArray⟩ : ByteArray) = G := ⟨_, rfl⟩
          have hFd : F.data.toList = f1 := by rw [← hF]
          have hGd : G.data.toList = f2' := by rw [← hG]
          rw [hF, hG] at bx
          have hA3 : Aft wr (wr.alloc (.cells #[.string X, .string Y] 28)) := (Aft.refl wr).alloc _
          have hA4 := HAT.out.trans hA3
          have b0a : (wr.alloc (.cells #[.string X, .string Y] 28)).cell? ⟨b, 0, none⟩ = some (.string F) := by rw [Below.cell hA4.to (p := ⟨b, 0, none⟩) HLT.out]; exact bx.1
          have b1a : (wr.alloc (.cells #[.string X, .string Y] 28)).cell? ⟨b, 1, none⟩ = some (.string G) := by rw [Below.cell hA4.to (p := ⟨b, 1, none⟩) HLT.out]; exact bx.2
          have c1a : (wr.alloc (.cells #[.string X, .string Y] 28)).cell? ⟨g, 1, none⟩ = some (.slice (some ⟨kg, 0, none⟩) 61 kc) := (H1.out.aft hA4).cells.1.2.1
          have HA5 := Lib.hid (HAI.out.trans hA3)
          have hcs := eq_pair X Y F G hXd hYd hFd hGd
          have HGI := Lib.hid hgi
          have hii : (i : Int) < (sl : Int) := by omega
          have e1 : ((offs k + i : Nat) : Int) + 1 = (k : Int) * 61 + (i : Int) + 1 := by unfold offs; push_cast; omega
          have HE1 := Lib.hid e1
          have g1 : IntKind.i64.wrap ((k : Int) * 61) = (k : Int) * 61 := IntWalk.i64_in _ (by omega)
          have g2 : IntKind.i64.wrap ((k : Int) * 61 + (i : Int)) = (k : Int) * 61 + (i : Int) := IntWalk.i64_in _ (by omega)
          have g3 : IntKind.i64.wrap ((k : Int) * 61 + (i : Int) + 1) = (k : Int) * 61 + (i : Int) + 1 := IntWalk.i64_in _ (by omega)
          clear hX hY hF hG hXd hYd hFd hGd bx hA3 hA4 hgi e1 hil2 hsgl
          rcases hcs with ⟨he, t1, t2⟩ | ⟨he, hn1, t1, t2⟩ | ⟨he, hn1, t1⟩
          · have HR2 : Hid (R = (((offs k + i : Nat) : Int) + 1, true)) := Lib.hid (by rw [← HGI.out]; exact findGo_eq he)
            clear he
            go_wp2_with fail
            go_ret2
            refine ⟨?_, (HA1.out.trans HAW.out).trans HA5.out⟩
            rw [HR2.out]
            exact congrArg (fun z : Int => Ending.returned (.tuple #[.int .i64 z, .bool true])) HE1.out.symm
          · have HHE := Lib.hid he
            clear he
            by_cases h0 : nm2 = 0
            · subst h0
              have HGN : Hid (findGo (f1, f2') (offs k + (i + 1)) ((k : Int) * 61 + (i : Int) + 1) tl = R) := Lib.hid (by rw [← HGI.out, findGo_nm HHE.out hn1 rfl, HE1.out]; rfl)
              clear hn1
              go_wp2_with fail
              go_roundw
              case rel => exact ⟨i + 1, _, by omega, by go_num, rfl, Lib.hid (by rw [HTL.out]; exact HGN.out), HA5⟩
              case measure => simp [intOf]; omega
            · have HGN : Hid (findGo (f1, f2') (offs k + (i + 1)) nm2 tl = R) := Lib.hid (by rw [← HGI.out, findGo_no HHE.out (fun hh => h0 hh.2)]; rfl)
              have h00 : (nm2 == 0) = false := by simpa using h0
              clear hn1 h0
              go_wp2_with fail
              go_roundw
              case rel => exact ⟨i + 1, _, by omega, by go_num, rfl, Lib.hid (by rw [HTL.out]; exact HGN.out), HA5⟩
              case measure => simp [intOf]; omega
          · have HGN : Hid (findGo (f1, f2') (offs k + (i + 1)) nm2 tl = R) := Lib.hid (by rw [← HGI.out, findGo_no he (fun hh => hn1 hh.1)]; rfl)
            clear he hn1
            go_wp2_with fail
            go_roundw
            case rel => exact ⟨i + 1, _, by omega, by go_num, rfl, Lib.hid (by rw [HTL.out]; exact HGN.out), HA5⟩
            case measure => simp [intOf]; omega
        · obtain rfl : i = sl := by omega
          have HGN : Hid (findGo (f1, f2') (offs (k + 1)) nm2 (rests l (k + 1)) = R ∨ k = 1) := Lib.hid (by
            rcases (show k = 0 ∨ k = 1 by omega) with rfl | rfl
            · left
              have h1 := HG.out
              rw [← HSL.out, List.drop_length, List.nil_append, HSL.out, HNX.out rfl] at h1
              exact h1
            · right; rfl)
          have HGN2 : Hid (findGo (f1, f2') (offs (k + 1)) nm2 (rests l (k + 1)) = R) := Lib.hid (by
            rcases HGN.out with h1 | rfl
            · exact h1
            · have h1 := HG.out
              rw [← HSL.out, List.drop_length, List.nil_append] at h1
              exact h1)
          clear HG HGN
          go_wp2_with fail
          go_roundw
          case rel => exact ⟨k + 1, nm2, by omega, by go_num, rfl, HGN2, HAI⟩
          case measure => simp [intOf]; omega
    · obtain rfl : k = 2 := by omega
      have HR2 : Hid (R = (nm, false)) := Lib.hid (by rw [← HF.out]; rfl)
      go_wp2_with fail
      go_ret2
      refine ⟨?_, (HA1.out.trans HAW.out).trans HAX.out⟩
      rw [HR2.out]
      rfl

end Go.Proofs.YtmlnboibclfmcaaDoor
