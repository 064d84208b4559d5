/-
  HPACK's packer in memory: New, Resize, Table.
-/
import Derived.Test.YtmlnboibclfmcaaDoorPackW
import Derived.Test.YtmlnboibclfmcaaDoorTbl4
import Derived.Deep.RegionHeld
namespace Go.Proofs.YtmlnboibclfmcaaDoor
open Go.RowKit
set_option linter.unusedVariables false

structure Pk (w : World) (B gp g : Nat) (vo vk : Value) (l : List FieldL) (most : Int) (told : Bool) (least : Int) : Prop where
  t : Tab w B g vo vk l most
  p : w.heap[gp]? = some (.cells #[.pointer (some ⟨g, 0, none⟩), .bool told, .int .i64 least] 100 (0, 0))
  pB : B ≤ gp
/-- The packer's own blocks. -/
def PP (gp g : Nat) (vo : Value) (k : Nat) : Prop := k = gp ∨ TP g vo k
theorem Pk.lt {w : World} {B gp g : Nat} {vo vk : Value} {l : List FieldL} {most : Int} {told : Bool} {least : Int} (h : Pk w B gp g vo vk l most told least) : gp < w.heap.size := by
  rcases Nat.lt_or_ge gp w.heap.size with h1 | h1
  · exact h1
  · have := h.p; rw [Array.getElem?_eq_none h1] at this; cases this
theorem Pk.ne {w : World} {B gp g : Nat} {vo vk : Value} {l : List FieldL} {most : Int} {told : Bool} {least : Int} (h : Pk w B gp g vo vk l most told least) : gp ≠ g ∧ vo.ownBlock ≠ some gp ∧ vk.ownBlock ≠ some gp := by
  refine ⟨fun e => ?_, fun e => ?_, fun e => ?_⟩
  · have h1 := h.t.blk
    rw [← e, h.p] at h1
    injection h1 with h1
    injection h1 with _ h1
    exact absurd h1 (by decide)
  · obtain ⟨cur, h1⟩ := h.t.own.blk e
    rw [h.p] at h1
    injection h1 with h1
    injection h1 with _ h1
    exact absurd h1 (by decide)
  · obtain ⟨cur, h1⟩ := h.t.kn.blk e
    rw [h.p] at h1
    injection h1 with h1
    injection h1 with _ h1
    exact absurd h1 (by decide)
theorem Pk.chg {p : Nat → Prop} {w w' : World} {B gp g : Nat} {vo vk : Value} {l : List FieldL} {most : Int} {told : Bool} {least : Int} (h : Pk w B gp g vo vk l most told least) (hc : Chg p w w') (hgp : ¬ p gp) (hg : ¬ p g) (ho : ∀ k, vo.ownBlock = some k → ¬ p k) (hk : ∀ k, vk.ownBlock = some k → ¬ p k) : Pk w' B gp g vo vk l most told least :=
  ⟨h.t.chg hc hg ho hk, (hc.block gp h.lt hgp).trans h.p, h.pB⟩
theorem Pk.aft {w w' : World} {B gp g : Nat} {vo vk : Value} {l : List FieldL} {most : Int} {told : Bool} {least : Int} (h : Pk w B gp g vo vk l most told least) (ha : Aft w w') : Pk w' B gp g vo vk l most told least :=
  h.chg (Chg.of_aft (p := fun _ => False) ha) (fun h => h) (fun h => h) (fun _ _ h => h) (fun _ _ h => h)
/-- The table has changed. -/
theorem Pk.tab {w w' : World} {B gp g : Nat} {vo vk : Value} {l : List FieldL} {most : Int} {told : Bool} {least : Int} (h : Pk w B gp g vo vk l most told least) {vo' : Value} {l' : List FieldL} {most' : Int} (ht : Tab w' B g vo' vk l' most') (hc : Chg (TP g vo) w w') : Pk w' B gp g vo' vk l' most' told least :=
  ⟨ht, (hc.block gp h.lt (fun e => by
    obtain ⟨h1, h2, h3⟩ := h.ne
    rcases e with e | e
    · exact h1 e
    · exact h2 e)).trans h.p, h.pB⟩
theorem Pk.cells {w : World} {B gp g : Nat} {vo vk : Value} {l : List FieldL} {most : Int} {told : Bool} {least : Int} (h : Pk w B gp g vo vk l most told least) :
    w.cell? ⟨gp, 0, none⟩ = some (.pointer (some ⟨g, 0, none⟩)) ∧ w.cell? ⟨gp, 1, none⟩ = some (.bool told) ∧ w.cell? ⟨gp, 2, none⟩ = some (.int .i64 least) ∧ w.frozen? ⟨gp, 1, none⟩ = false ∧ w.frozen? ⟨gp, 2, none⟩ = false := by
  refine ⟨?_, ?_, ?_, frozen_of_row w gp _ _ _ h.p, frozen_of_row w gp _ _ _ h.p⟩
  all_goals rw [cell_of_row w gp _ _ _ (0, 0) h.p]; rfl
theorem Tab.far {w : World} {B g : Nat} {vo vk : Value} {l : List FieldL} {most : Int} (h : Tab w B g vo vk l most) (gp o : Nat) (v : Value) (h1 : gp ≠ g) (h2 : vo.ownBlock ≠ some gp) (h3 : vk.ownBlock ≠ some gp) : Tab (w.setCell ⟨gp, o, none⟩ v) B g vo vk l most :=
  h.chg ((Chg.refl (fun k => k = gp) w).set gp o v (Or.inl rfl)) (fun e => h1 e.symm) (fun k hk e => h2 (by rw [hk, e])) (fun k hk e => h3 (by rw [hk, e]))
theorem Pk.put1 {w : World} {B gp g : Nat} {vo vk : Value} {l : List FieldL} {most : Int} {told : Bool} {least : Int} (h : Pk w B gp g vo vk l most told least) (b : Bool) : Pk (w.setCell ⟨gp, 1, none⟩ (.bool b)) B gp g vo vk l most b least := by
  obtain ⟨h1, h2, h3⟩ := h.ne
  refine ⟨h.t.far gp 1 _ h1 h2 h3, ?_, h.pB⟩
  rw [heap_setCell_same w gp 1 _ _ _ h.p]
  rfl
theorem Pk.put2 {w : World} {B gp g : Nat} {vo vk : Value} {l : List FieldL} {most : Int} {told : Bool} {least : Int} (h : Pk w B gp g vo vk l most told least) (n : Int) : Pk (w.setCell ⟨gp, 2, none⟩ (.int .i64 n)) B gp g vo vk l most told n := by
  obtain ⟨h1, h2, h3⟩ := h.ne
  refine ⟨h.t.far gp 2 _ h1 h2 h3, ?_, h.pB⟩
  rw [heap_setCell_same w gp 2 _ _ _ h.p]
  rfl

theorem pnew_no (n : Int) (h : ¬ (0 ≤ n ∧ n ≤ 65536)) (w : World) : Calls Tryd.prog 35 #[.int .i64 n] w fun e w' => e = .returned (.tuple #[.pointer none, .int .i64 1]) ∧ w = w' := by
  have HT := Lib.hid (tnew_no n h w)
  clear h
  go_enter Tryd.func35, Tryd.ntmps35
  go_wp2_with fail
  refine HT.out.mono ?_
  rintro e w1 ⟨rfl, rfl⟩
  go_wp2_with fail
  go_ret2
  exact ⟨rfl, rfl⟩
theorem pnew_yes (n : Int) (h0 : 0 ≤ n) (h1 : n ≤ 65536) (w : World) (hm : MaxOk w) : Calls Tryd.prog 35 #[.int .i64 n] w fun e w' => ∃ (gp g : Nat) (vk : Value), e = .returned (.tuple #[.pointer (some ⟨gp, 0, none⟩), .int .i64 0]) ∧ Pk w' w.heap.size gp g (.slice none 0 0) vk [] n true 0 ∧ Aft w w' := by
  have HT := Lib.hid (tnew_yes n h0 h1 w hm)
  clear h0 h1 hm
  go_enter Tryd.func35, Tryd.ntmps35
  go_wp2_with fail
  refine HT.out.mono ?_
  rintro e w1 ⟨g, vk, rfl, ht, a1⟩
  have HP : Hid (Pk (w1.alloc (.cells #[.pointer (some ⟨g, 0, none⟩), .bool true, .int .i64 0] 100)) w.heap.size w1.heap.size g (.slice none 0 0) vk [] n true 0) := Lib.hid ⟨ht.aft ((Aft.refl w1).alloc _), heap_alloc_new w1 _, a1.to.size⟩
  have HA := Lib.hid (a1.alloc (.cells #[.pointer (some ⟨g, 0, none⟩), .bool true, .int .i64 0] 100))
  clear ht a1
  go_wp2_with fail
  go_ret2
  exact ⟨_, _, _, rfl, HP.out, HA.out⟩

set_option maxHeartbeats 2000000 in
theorem presize_no {w : World} {B gp g : Nat} {vo vk : Value} {l : List FieldL} {most : Int} {told : Bool} {least : Int} (m : Int) (hm : ¬ (0 ≤ m ∧ m ≤ 65536)) (h : Pk w B gp g vo vk l most told least) :
    Calls Tryd.prog 39 #[.pointer (some ⟨gp, 0, none⟩), .int .i64 m] w fun e w' => e = .returned (.int .i64 1) ∧ w = w' := by
  have HR := Lib.hid (resize_no (w := w) (B := B) (g := g) m hm)
  obtain ⟨c0, c1, c2, f1, f2⟩ := h.cells
  clear hm h
  go_enter Tryd.func39, Tryd.ntmps39
  go_wp2_with fail
  refine HR.out.mono ?_
  rintro e w1 ⟨rfl, rfl⟩
  go_wp2_with fail
  go_ret
  exact ⟨rfl, rfl⟩
def leastN (told : Bool) (least m : Int) : Int := if told = true ∨ m < least then m else least
set_option maxHeartbeats 4000000 in
theorem presize_yes {w : World} {B gp g : Nat} {vo vk : Value} {l : List FieldL} {most : Int} {told : Bool} {least : Int} (m : Int) (h : Pk w B gp g vo vk l most told least) (hs : sumF l ≤ 1000000000000) (hm0 : 0 ≤ m) (hm1 : m ≤ 65536) :
    Calls Tryd.prog 39 #[.pointer (some ⟨gp, 0, none⟩), .int .i64 m] w fun e w' => e = .returned (.int .i64 0) ∧ ∃ vo', Pk w' B gp g vo' vk (fitF m l) m false (leastN told least m) ∧ Chg (PP gp g vo) w w' ∧ ∀ k, vo'.ownBlock = some k → vo.ownBlock = some k := by
  have HR := Lib.hid (resize_yes m h.t hs hm0 hm1)
  have H := Lib.hid h
  obtain ⟨c0, c1, c2, f1, f2⟩ := h.cells
  obtain ⟨L, hL⟩ : ∃ L, leastN told least m = L := ⟨_, rfl⟩
  rw [hL]
  have HL := Lib.hid hL
  clear h hs hL
  go_enter Tryd.func39, Tryd.ntmps39
  go_wp2_with fail
  refine HR.out.mono ?_
  rintro e w1 ⟨rfl, vo', ht, hc, ho⟩
  have HP1 := Lib.hid (H.out.tab ht (hc.mono (fun i hi => Or.inl hi)))
  have HC := Lib.hid (hc.mono (q := PP gp g vo) (fun i hi => Or.inr (Or.inl hi)))
  have HO := Lib.hid ho
  clear c0 c1 c2 f1 f2 ht hc ho HR
  obtain ⟨c0, c1, c2, f1, f2⟩ := HP1.out.cells
  have HP2 := Lib.hid ((HP1.out.put2 m).put1 false)
  have HP3 := Lib.hid (HP1.out.put1 false)
  obtain ⟨d0, d1, d2, e1, e2⟩ := (HP1.out.put2 m).cells
  have HC2 := Lib.hid ((HC.out.set gp 2 (.int .i64 m) (Or.inl (Or.inl rfl))).set gp 1 (.bool false) (Or.inl (Or.inl rfl)))
  have HC3 := Lib.hid (HC.out.set gp 1 (.bool false) (Or.inl (Or.inl rfl)))
  clear HC HP1 H
  cases told
  · by_cases hlt : m < least
    · have HL2 : Hid (L = m) := Lib.hid (by rw [← HL.out]; unfold leastN; rw [if_pos (Or.inr hlt)])
      go_wp2_with fail
      go_ret
      refine ⟨rfl, vo', ?_, HC2.out, HO.out⟩
      rw [HL2.out]
      exact HP2.out
    · have HL2 : Hid (L = least) := Lib.hid (by rw [← HL.out]; unfold leastN; rw [if_neg (by simp; omega)])
      go_wp2_with fail
      go_ret
      refine ⟨rfl, vo', ?_, HC3.out, HO.out⟩
      rw [HL2.out]
      exact HP3.out
  · have HL2 : Hid (L = m) := Lib.hid (by rw [← HL.out]; unfold leastN; rw [if_pos (Or.inl rfl)])
    go_wp2_with fail
    go_ret
    refine ⟨rfl, vo', ?_, HC2.out, HO.out⟩
    rw [HL2.out]
    exact HP2.out

end Go.Proofs.YtmlnboibclfmcaaDoor
