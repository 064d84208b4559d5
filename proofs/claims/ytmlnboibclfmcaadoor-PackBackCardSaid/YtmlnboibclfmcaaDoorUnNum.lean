/-
  The unpacker and its reader in memory; faults; number. The walks of the reader's number, known and text.
-/
import Derived.Test.YtmlnboibclfmcaaDoorUnGet
import Derived.Test.YtmlnboibclfmcaaDoorOwnW
import Derived.Deep.RegionHeld
import Derived.Test.YtmlnboibclfmcaaDoorHuffSz
namespace Go.Proofs.YtmlnboibclfmcaaDoor
open Go.RowKit
set_option linter.unusedVariables false

def fltV (code at_ : Int) : PanicEntry := { v := .iface 111 (.agg #[.int .i64 code, .int .i64 at_]), recovered := false }
theorem raise_any (c a : Int) (w : World) : Calls Tryd.prog 106 #[.int .i64 c, .int .i64 a] w fun e w' => e = .panicked [fltV c a] ∧ w = w' := by
  go_enter Tryd.func106, Tryd.ntmps106
  go_wp2_with fail
  exact ⟨rfl, rfl, rfl⟩

structure Un (w : World) (B gu g : Nat) (vo vk : Value) (l : List FieldL) (most top list : Int) (bad : Bool) : Prop where
  t : Tab w B g vo vk l most
  p : w.heap[gu]? = some (.cells #[.pointer (some ⟨g, 0, none⟩), .int .i64 top, .int .i64 list, .bool bad] 106 (0, 0))
  pB : B ≤ gu
theorem Un.lt {w : World} {B gu g : Nat} {vo vk : Value} {l : List FieldL} {most top list : Int} {bad : Bool} (h : Un w B gu g vo vk l most top list bad) : gu < w.heap.size := by
  rcases Nat.lt_or_ge gu w.heap.size with h1 | h1
  · exact h1
  · have := h.p; rw [Array.getElem?_eq_none h1] at this; cases this
theorem Un.ne {w : World} {B gu g : Nat} {vo vk : Value} {l : List FieldL} {most top list : Int} {bad : Bool} (h : Un w B gu g vo vk l most top list bad) : gu ≠ g ∧ vo.ownBlock ≠ some gu ∧ vk.ownBlock ≠ some gu := by
  refine ⟨fun e => ?_, fun e => ?_, fun e => ?_⟩
  · have h1 := h.t.blk
    rw [← e, h.p] at h1
    injection h1 with h1
    injection h1 with _ h1
    exact absurd h1 (by decide)
  · obtain ⟨cur, h1⟩ := h.t.own.blk e
    rw [h.p] at h1
    injection h1 with h1
    injection h1 with _ h1
    exact absurd h1 (by decide)
  · obtain ⟨cur, h1⟩ := h.t.kn.blk e
    rw [h.p] at h1
    injection h1 with h1
    injection h1 with _ h1
    exact absurd h1 (by decide)
theorem Un.chg {p : Nat → Prop} {w w' : World} {B gu g : Nat} {vo vk : Value} {l : List FieldL} {most top list : Int} {bad : Bool} (h : Un w B gu g vo vk l most top list bad) (hc : Chg p w w') (hgu : ¬ p gu) (hg : ¬ p g) (ho : ∀ k, vo.ownBlock = some k → ¬ p k) (hk : ∀ k, vk.ownBlock = some k → ¬ p k) : Un w' B gu g vo vk l most top list bad :=
  ⟨h.t.chg hc hg ho hk, (hc.block gu h.lt hgu).trans h.p, h.pB⟩
theorem Un.aft {w w' : World} {B gu g : Nat} {vo vk : Value} {l : List FieldL} {most top list : Int} {bad : Bool} (h : Un w B gu g vo vk l most top list bad) (ha : Aft w w') : Un w' B gu g vo vk l most top list bad :=
  h.chg (Chg.of_aft (p := fun _ => False) ha) (fun h => h) (fun h => h) (fun _ _ h => h) (fun _ _ h => h)
theorem Un.tab {w w' : World} {B gu g : Nat} {vo vk : Value} {l : List FieldL} {most top list : Int} {bad : Bool} (h : Un w B gu g vo vk l most top list bad) {vo' : Value} {l' : List FieldL} {most' : Int} (ht : Tab w' B g vo' vk l' most') (hc : Chg (TP g vo) w w') : Un w' B gu g vo' vk l' most' top list bad :=
  ⟨ht, (hc.block gu h.lt (fun e => by
    obtain ⟨h1, h2, h3⟩ := h.ne
    rcases e with e | e
    · exact h1 e
    · exact h2 e)).trans h.p, h.pB⟩
theorem Un.cells {w : World} {B gu g : Nat} {vo vk : Value} {l : List FieldL} {most top list : Int} {bad : Bool} (h : Un w B gu g vo vk l most top list bad) :
    w.cell? ⟨gu, 0, none⟩ = some (.pointer (some ⟨g, 0, none⟩)) ∧ w.cell? ⟨gu, 1, none⟩ = some (.int .i64 top) ∧ w.cell? ⟨gu, 2, none⟩ = some (.int .i64 list) ∧ w.cell? ⟨gu, 3, none⟩ = some (.bool bad) ∧ w.frozen? ⟨gu, 3, none⟩ = false := by
  refine ⟨?_, ?_, ?_, ?_, frozen_of_row w gu _ _ _ h.p⟩
  all_goals rw [cell_of_row w gu _ _ _ (0, 0) h.p]; rfl
theorem Un.put3 {w : World} {B gu g : Nat} {vo vk : Value} {l : List FieldL} {most top list : Int} {bad : Bool} (h : Un w B gu g vo vk l most top list bad) (b : Bool) : Un (w.setCell ⟨gu, 3, none⟩ (.bool b)) B gu g vo vk l most top list b := by
  obtain ⟨h1, h2, h3⟩ := h.ne
  refine ⟨h.t.far gu 3 _ h1 h2 h3, ?_, h.pB⟩
  rw [heap_setCell_same w gu 3 _ _ _ h.p]
  rfl
/-- The reader's cells. -/
def RdB (w : World) (gr gu : Nat) (vb : Value) (at_ : Nat) (vr : Value) (sum sizes : Nat) : Prop := w.heap[gr]? = some (.cells #[.pointer (some ⟨gu, 0, none⟩), vb, .int .i64 (at_ : Int), vr, .int .i64 (sum : Int), .int .i64 (sizes : Int)] 109 (0, 0))
theorem RdB.lt {w : World} {gr gu : Nat} {vb : Value} {at_ : Nat} {vr : Value} {sum sizes : Nat} (h : RdB w gr gu vb at_ vr sum sizes) : gr < w.heap.size := by
  rcases Nat.lt_or_ge gr w.heap.size with h1 | h1
  · exact h1
  · unfold RdB at h; rw [Array.getElem?_eq_none h1] at h; cases h
theorem RdB.chg {p : Nat → Prop} {w w' : World} {gr gu : Nat} {vb : Value} {at_ : Nat} {vr : Value} {sum sizes : Nat} (h : RdB w gr gu vb at_ vr sum sizes) (hc : Chg p w w') (hp : ¬ p gr) : RdB w' gr gu vb at_ vr sum sizes :=
  (hc.block gr h.lt hp).trans h
theorem RdB.aft {w w' : World} {gr gu : Nat} {vb : Value} {at_ : Nat} {vr : Value} {sum sizes : Nat} (h : RdB w gr gu vb at_ vr sum sizes) (ha : Aft w w') : RdB w' gr gu vb at_ vr sum sizes := h.chg (Chg.of_aft (p := fun _ => False) ha) (fun h => h)
theorem RdB.cells {w : World} {gr gu : Nat} {vb : Value} {at_ : Nat} {vr : Value} {sum sizes : Nat} (h : RdB w gr gu vb at_ vr sum sizes) :
    w.cell? ⟨gr, 0, none⟩ = some (.pointer (some ⟨gu, 0, none⟩)) ∧ w.cell? ⟨gr, 1, none⟩ = some vb ∧ w.cell? ⟨gr, 2, none⟩ = some (.int .i64 (at_ : Int)) ∧ w.cell? ⟨gr, 3, none⟩ = some vr ∧ w.cell? ⟨gr, 4, none⟩ = some (.int .i64 (sum : Int)) ∧ w.cell? ⟨gr, 5, none⟩ = some (.int .i64 (sizes : Int)) ∧ ∀ j, w.frozen? ⟨gr, j, none⟩ = false := by
  unfold RdB at h
  refine ⟨?_, ?_, ?_, ?_, ?_, ?_, fun j => frozen_of_row w gr j _ _ h⟩
  all_goals rw [cell_of_row w gr _ _ _ (0, 0) h]; rfl
theorem RdB.put2 {w : World} {gr gu : Nat} {vb : Value} {at_ : Nat} {vr : Value} {sum sizes : Nat} (h : RdB w gr gu vb at_ vr sum sizes) (n : Nat) : RdB (w.setCell ⟨gr, 2, none⟩ (.int .i64 (n : Int))) gr gu vb n vr sum sizes := by
  unfold RdB at h ⊢
  rw [heap_setCell_same w gr 2 _ _ _ h]
  rfl
theorem RdB.put3 {w : World} {gr gu : Nat} {vb : Value} {at_ : Nat} {vr : Value} {sum sizes : Nat} (h : RdB w gr gu vb at_ vr sum sizes) (v : Value) : RdB (w.setCell ⟨gr, 3, none⟩ v) gr gu vb at_ v sum sizes := by
  unfold RdB at h ⊢
  rw [heap_setCell_same w gr 3 _ _ _ h]
  rfl
theorem RdB.put4 {w : World} {gr gu : Nat} {vb : Value} {at_ : Nat} {vr : Value} {sum sizes : Nat} (h : RdB w gr gu vb at_ vr sum sizes) (n : Nat) : RdB (w.setCell ⟨gr, 4, none⟩ (.int .i64 (n : Int))) gr gu vb at_ vr n sizes := by
  unfold RdB at h ⊢
  rw [heap_setCell_same w gr 4 _ _ _ h]
  rfl
theorem RdB.put5 {w : World} {gr gu : Nat} {vb : Value} {at_ : Nat} {vr : Value} {sum sizes : Nat} (h : RdB w gr gu vb at_ vr sum sizes) (n : Nat) : RdB (w.setCell ⟨gr, 5, none⟩ (.int .i64 (n : Int))) gr gu vb at_ vr sum n := by
  unfold RdB at h ⊢
  rw [heap_setCell_same w gr 5 _ _ _ h]
  rfl
/-- What a block's reading holds while it fails. -/
def TU (gr g : Nat) (vo : Value) (k : Nat) : Prop := k = gr ∨ TP g vo k
structure RX (W0 w : World) (B gu g gr : Nat) (vo0 vk : Value) (top list : Int) (l : List FieldL) (most : Int) (vo : Value) : Prop where
  un : Un w B gu g vo vk l most top list false
  chg : Chg (TU gr g vo0) W0 w
  ob : ∀ k, vo.ownBlock = some k → vo0.ownBlock = some k ∨ W0.heap.size ≤ k
theorem RX.aft {W0 w w' : World} {B gu g gr : Nat} {vo0 vk : Value} {top list : Int} {l : List FieldL} {most : Int} {vo : Value} (h : RX W0 w B gu g gr vo0 vk top list l most vo) (a : Aft w w') : RX W0 w' B gu g gr vo0 vk top list l most vo := ⟨h.un.aft a, h.chg.aft a, h.ob⟩
/-- What it holds between two steps. -/
structure RS (W0 w : World) (B gu g gr : Nat) (vo0 vk vb : Value) (top list : Int) (s : US) (vr vo : Value) : Prop where
  x : RX W0 w B gu g gr vo0 vk top list s.tab s.most vo
  rd : RdB w gr gu vb s.at_ vr s.sum s.sizes
  rows : OwnW w W0.heap.size vr s.rows
  grB : B ≤ gr
theorem OwnW.chg {p : Nat → Prop} {w w' : World} {base : Nat} {v : Value} {l : List RowL} (h : OwnW w base v l) (hc : Chg p w w') (hp : ∀ k, v.ownBlock = some k → ¬ p k) : OwnW w' base v l := by
  obtain ⟨h1, h2⟩ := id h
  refine ⟨h1, ?_⟩
  rcases h2 with h2 | ⟨g, cap, cur, rfl, hb, hg, h3⟩
  · exact Or.inl h2
  · refine Or.inr ⟨g, cap, cur, rfl, hb, ?_, h3⟩
    have hlt : g < w.heap.size := by
      rcases Nat.lt_or_ge g w.heap.size with h1 | h1
      · exact h1
      · rw [Array.getElem?_eq_none h1] at hg; cases hg
    rw [hc.block g hlt (hp g rfl)]
    exact hg
theorem OwnW.aft {w w' : World} {base : Nat} {v : Value} {l : List RowL} (h : OwnW w base v l) (ha : Aft w w') : OwnW w' base v l := h.chg (Chg.of_aft (p := fun _ => False) ha) (fun _ _ h => h)
theorem OwnW.blk {w : World} {base : Nat} {v : Value} {l : List RowL} (h : OwnW w base v l) {k : Nat} (hk : v.ownBlock = some k) : ∃ cur, w.heap[k]? = some (.cells cur 57 (0, 0)) := by
  rcases h.2 with ⟨rfl, _⟩ | ⟨g, cap, cur, rfl, _, h1, _⟩
  · cases hk
  · injection hk with hk
    rw [← hk]
    exact ⟨cur, h1⟩
theorem RS.aft {W0 w w' : World} {B gu g gr : Nat} {vo0 vk vb : Value} {top list : Int} {s : US} {vr vo : Value} (h : RS W0 w B gu g gr vo0 vk vb top list s vr vo) (a : Aft w w') : RS W0 w' B gu g gr vo0 vk vb top list s vr vo :=
  ⟨h.x.aft a, h.rd.aft a, h.rows.aft a, h.grB⟩
/-- The reader's block is apart from all others. -/
theorem RS.apart {W0 w : World} {B gu g gr : Nat} {vo0 vk vb : Value} {top list : Int} {s : US} {vr vo : Value} (h : RS W0 w B gu g gr vo0 vk vb top list s vr vo) : gr ≠ gu ∧ gr ≠ g ∧ vo.ownBlock ≠ some gr ∧ vk.ownBlock ≠ some gr ∧ vr.ownBlock ≠ some gr := by
  have hr : w.heap[gr]? = _ := h.rd
  refine ⟨fun e => ?_, fun e => ?_, fun e => ?_, fun e => ?_, fun e => ?_⟩
  · have h1 := h.x.un.p
    rw [← e, hr] at h1
    injection h1 with h1
    injection h1 with _ h1
    exact absurd h1 (by decide)
  · have h1 := h.x.un.t.blk
    rw [← e, hr] at h1
    injection h1 with h1
    injection h1 with _ h1
    exact absurd h1 (by decide)
  · obtain ⟨cur, h1⟩ := h.x.un.t.own.blk e
    rw [hr] at h1
    injection h1 with h1
    injection h1 with _ h1
    exact absurd h1 (by decide)
  · obtain ⟨cur, h1⟩ := h.x.un.t.kn.blk e
    rw [hr] at h1
    injection h1 with h1
    injection h1 with _ h1
    exact absurd h1 (by decide)
  · obtain ⟨cur, h1⟩ := h.rows.blk e
    rw [hr] at h1
    injection h1 with h1
    injection h1 with _ h1
    exact absurd h1 (by decide)
theorem RX.far {W0 w : World} {B gu g gr gx : Nat} {vo0 vk : Value} {top list : Int} {l : List FieldL} {most : Int} {vo : Value} (h : RX W0 w B gu g gr vo0 vk top list l most vo) (hgx : gx = gr ∨ W0.heap.size ≤ gx) (hn : gx ≠ gu ∧ gx ≠ g ∧ vo.ownBlock ≠ some gx ∧ vk.ownBlock ≠ some gx) (o : Nat) (v : Value) : RX W0 (w.setCell ⟨gx, o, none⟩ v) B gu g gr vo0 vk top list l most vo :=
  ⟨h.un.chg (p := fun k => k = gx) ((Chg.refl _ w).set gx o v (Or.inl rfl)) (fun e => hn.1 e.symm) (fun e => hn.2.1 e.symm) (fun k hk e => hn.2.2.1 (by rw [hk, e])) (fun k hk e => hn.2.2.2 (by rw [hk, e])), h.chg.set gx o v (hgx.imp (fun e => Or.inl e) id), h.ob⟩
theorem RS.putAt {W0 w : World} {B gu g gr : Nat} {vo0 vk vb : Value} {top list : Int} {s : US} {vr vo : Value} (h : RS W0 w B gu g gr vo0 vk vb top list s vr vo) (n : Nat) : RS W0 (w.setCell ⟨gr, 2, none⟩ (.int .i64 (n : Int))) B gu g gr vo0 vk vb top list { s with at_ := n } vr vo := by
  obtain ⟨h1, h2, h3, h4, h5⟩ := h.apart
  exact ⟨h.x.far (Or.inl rfl) ⟨h1, h2, h3, h4⟩ 2 _, h.rd.put2 n, h.rows.chg (p := fun k => k = gr) ((Chg.refl _ w).set gr 2 _ (Or.inl rfl)) (fun k hk e => h5 (by rw [hk, e])), h.grB⟩

theorem fail_any {w : World} {gr gu : Nat} {vb : Value} {at_ : Nat} {vr : Value} {sum sizes : Nat} (h : RdB w gr gu vb at_ vr sum sizes) (c : Int) :
    Calls Tryd.prog 96 #[.pointer (some ⟨gr, 0, none⟩), .int .i64 c] w fun e w' => e = .panicked [fltV c (at_ : Int)] ∧ w = w' := by
  obtain ⟨c0, c1, c2, c3, c4, c5, f⟩ := h.cells
  clear h
  go_enter Tryd.func96, Tryd.ntmps96
  go_wp2_with fail
  refine (raise_any c (at_ : Int) w).mono ?_
  rintro e w1 ⟨rfl, rfl⟩
  go_wp2_with fail
  exact ⟨rfl, rfl, rfl⟩

end Go.Proofs.YtmlnboibclfmcaaDoor
namespace Go.Proofs.YtmlnboibclfmcaaDoor
open Go.RowKit
set_option linter.unusedVariables false

/-- The block's bytes stay readable. -/
structure BR (W0 : World) (g gr : Nat) (vo0 : Value) (va : Option Addr) (cap : Nat) (b : List UInt8) : Prop where
  rb : ∀ wx, Chg (TU gr g vo0) W0 wx → Rb wx (.slice va b.length cap) b
  len : b.length ≤ 1000000
set_option linter.unusedSimpArgs false in
set_option maxHeartbeats 8000000 in
set_option maxRecDepth 100000 in
theorem number_ok {W0 w : World} {B gu g gr : Nat} {vo0 vk vr vo : Value} {top list : Int} {s : US} {va : Option Addr} {cap : Nat} {b : List UInt8} (hb : BR W0 g gr vo0 va cap b) (h : RS W0 w B gu g gr vo0 vk (.slice va b.length cap) top list s vr vo) (hat : s.at_ ≤ b.length) (n : Nat) (hn : n = 4 ∨ n = 5 ∨ n = 6 ∨ n = 7) (he : (getL b s.at_ n).2.2 = 0) :
    Calls Tryd.prog 84 #[.pointer (some ⟨gr, 0, none⟩), .int .i64 (n : Int)] w fun e w' => e = .returned (.int .i64 ((getL b s.at_ n).1 : Int)) ∧ RS W0 w' B gu g gr vo0 vk (.slice va b.length cap) top list { s with at_ := (getL b s.at_ n).2.1 } vr vo ∧ Chg (fun k => k = gr) w w' := by
  have HG := Lib.hid (fun w hr => get_any va cap b s.at_ n w hr (by have := hb.len; omega) hat hn)
  have HBR := Lib.hid hb
  have H0 := Lib.hid h
  have HD : Hid (RS W0 w.drew B gu g gr vo0 vk (.slice va b.length cap) top list s vr vo) := Lib.hid (h.aft ((Aft.refl w).drew))
  obtain ⟨G, hG⟩ : ∃ G, getL b s.at_ n = G := ⟨_, rfl⟩
  rw [hG] at HG he ⊢
  obtain ⟨v, to_, e⟩ := G
  simp only at he
  subst he
  unfold getV at HG
  simp only at HG
  clear hb h hat hn hG
  go_enter Tryd.func84, Tryd.ntmps84
  go_upto_region 1 with fail
  refine wp_region_held_drew (S := fun w' => RS W0 w' B gu g gr vo0 vk (.slice va b.length cap) top list s vr vo) (by kernel_rfl) HD.out (fun hHeld => ?_)
  refine wpAnyH_take (i := 0) (oi := { dst := some 9, op := Go.Op.move (Go.Operand.tmp 0), type := 107, pos := _, after := _, guard := _ }) (v := ?_) rfl (by kernel_rfl) (by kernel_rfl) (by kernel_rfl) (fun _ _ _ h => h) (Or.inl ⟨by rfl, ?_⟩) (by exact hHeld) ?_
  rotate_left
  · intro w hSw; go_simp; try with_reducible rfl
  try simp only [Act.put]
  try simp only [List.setIfInBounds_toArray]
  try simp only [List.set]
  refine wpAnyH_take (i := 1) (oi := { dst := some 10, op := Go.Op.nilCheck (Go.Operand.tmp 9), type := 0, pos := _, after := _, guard := _ }) (v := ?_) rfl (by kernel_rfl) (by kernel_rfl) (by kernel_rfl) (fun _ _ _ h => h) (Or.inl ⟨by rfl, ?_⟩) (by exact hHeld) ?_
  rotate_left
  · intro w hSw; go_simp; try with_reducible rfl
  try simp only [Act.put]
  try simp only [List.setIfInBounds_toArray]
  try simp only [List.set]
  refine wpAnyH_take (i := 2) (oi := { dst := some 11, op := Go.Op.fieldAddr 109 (Go.Operand.tmp 10) 1, type := 0, pos := _, after := _, guard := _ }) (v := ?_) rfl (by kernel_rfl) (by kernel_rfl) (by kernel_rfl) (fun _ _ _ h => h) (Or.inl ⟨by rfl, ?_⟩) (by exact hHeld) ?_
  rotate_left
  · intro w hSw; go_simp; try with_reducible rfl
  try simp only [Act.put]
  try simp only [List.setIfInBounds_toArray]
  try simp only [List.set]
  refine wpAnyH_take (i := 3) (oi := { dst := some 12, op := Go.Op.load 54 (Go.Operand.tmp 11), type := 54, pos := _, after := _, guard := _ }) (v := ?_) rfl (by kernel_rfl) (by kernel_rfl) (by kernel_rfl) (fun _ _ _ h => h) (Or.inl ⟨by rfl, ?_⟩) (by exact hHeld) ?_
  rotate_left
  · intro w hSw; obtain ⟨c0, c1, c2, c3, c4, c5, f⟩ := hSw.rd.cells; go_simp; try with_reducible rfl
  try simp only [Act.put]
  try simp only [List.setIfInBounds_toArray]
  try simp only [List.set]
  refine wpAnyH_take (i := 4) (oi := { dst := some 13, op := Go.Op.move (Go.Operand.tmp 0), type := 107, pos := _, after := _, guard := _ }) (v := ?_) rfl (by kernel_rfl) (by kernel_rfl) (by kernel_rfl) (fun _ _ _ h => h) (Or.inl ⟨by rfl, ?_⟩) (by exact hHeld) ?_
  rotate_left
  · intro w hSw; go_simp; try with_reducible rfl
  try simp only [Act.put]
  try simp only [List.setIfInBounds_toArray]
  try simp only [List.set]
  refine wpAnyH_take (i := 5) (oi := { dst := some 14, op := Go.Op.nilCheck (Go.Operand.tmp 13), type := 0, pos := _, after := _, guard := _ }) (v := ?_) rfl (by kernel_rfl) (by kernel_rfl) (by kernel_rfl) (fun _ _ _ h => h) (Or.inl ⟨by rfl, ?_⟩) (by exact hHeld) ?_
  rotate_left
  · intro w hSw; go_simp; try with_reducible rfl
  try simp only [Act.put]
  try simp only [List.setIfInBounds_toArray]
  try simp only [List.set]
  refine wpAnyH_take (i := 6) (oi := { dst := some 15, op := Go.Op.fieldAddr 109 (Go.Operand.tmp 14) 2, type := 0, pos := _, after := _, guard := _ }) (v := ?_) rfl (by kernel_rfl) (by kernel_rfl) (by kernel_rfl) (fun _ _ _ h => h) (Or.inl ⟨by rfl, ?_⟩) (by exact hHeld) ?_
  rotate_left
  · intro w hSw; go_simp; try with_reducible rfl
  try simp only [Act.put]
  try simp only [List.setIfInBounds_toArray]
  try simp only [List.set]
  refine wpAnyH_take (i := 7) (oi := { dst := some 16, op := Go.Op.load 3 (Go.Operand.tmp 15), type := 3, pos := _, after := _, guard := _ }) (v := ?_) rfl (by kernel_rfl) (by kernel_rfl) (by kernel_rfl) (fun _ _ _ h => h) (Or.inl ⟨by rfl, ?_⟩) (by exact hHeld) ?_
  rotate_left
  · intro w hSw; obtain ⟨c0, c1, c2, c3, c4, c5, f⟩ := hSw.rd.cells; go_simp; try with_reducible rfl
  try simp only [Act.put]
  try simp only [List.setIfInBounds_toArray]
  try simp only [List.set]
  refine wpAnyH_take (i := 8) (oi := { dst := some 17, op := Go.Op.move (Go.Operand.tmp 1), type := 3, pos := _, after := _, guard := _ }) (v := ?_) rfl (by kernel_rfl) (by kernel_rfl) (by kernel_rfl) (fun _ _ _ h => h) (Or.inl ⟨by rfl, ?_⟩) (by exact hHeld) ?_
  rotate_left
  · intro w hSw; go_simp; try with_reducible rfl
  try simp only [Act.put]
  try simp only [List.setIfInBounds_toArray]
  try simp only [List.set]
  refine wpAnyH_ready (rs := [9]) (by kernel_rfl) (by simp) ?_
  refine AllReadyH.cons (o := { dst := some 18, op := Go.Op.call { callee := Go.Callee.value (Go.Operand.func 97), args := #[Go.Operand.tmp 12, Go.Operand.tmp 16, Go.Operand.tmp 17], argTypes := #[54, 3, 3] }, type := 137, pos := _, after := _, guard := _ }) rfl (fun K hK => ?_) AllReadyH.nil
  go_simp
  go_at_call 97
  refine (HG.out _ (HBR.out.rb _ hHeld.x.chg)).mono ?_
  rintro e w6 ⟨rfl, rfl⟩
  have hS2 := hHeld
  clear hHeld
  refine hK.out _ _ hS2 (fun hHeld => ?_)
  clear hK K hS2
  try simp only [Act.put]
  try simp only [List.setIfInBounds_toArray]
  try simp only [List.set]
  refine wpAnyH_take (i := 10) (oi := { dst := some 8, op := Go.Op.move (Go.Operand.tmp 18), type := 137, pos := _, after := _, guard := _ }) (v := ?_) rfl (by kernel_rfl) (by kernel_rfl) (by kernel_rfl) (fun _ _ _ h => h) (Or.inl ⟨by rfl, ?_⟩) (by exact hHeld) ?_
  rotate_left
  · intro w hSw; go_simp; try with_reducible rfl
  try simp only [Act.put]
  try simp only [List.setIfInBounds_toArray]
  try simp only [List.set]
  refine wpAnyH_take (i := 11) (oi := { dst := some 19, op := Go.Op.extract (Go.Operand.tmp 8) 0, type := 3, pos := _, after := _, guard := _ }) (v := ?_) rfl (by kernel_rfl) (by kernel_rfl) (by kernel_rfl) (fun _ _ _ h => h) (Or.inl ⟨by rfl, ?_⟩) (by exact hHeld) ?_
  rotate_left
  · intro w hSw; go_simp; try with_reducible rfl
  try simp only [Act.put]
  try simp only [List.setIfInBounds_toArray]
  try simp only [List.set]
  refine wpAnyH_take (i := 14) (oi := { dst := some 5, op := Go.Op.assign (Go.Operand.tmp 19), type := 3, pos := _, after := _, guard := _ }) (v := ?_) rfl (by kernel_rfl) (by kernel_rfl) (by kernel_rfl) (fun _ _ _ h => h) (Or.inl ⟨by rfl, ?_⟩) (by exact hHeld) ?_
  rotate_left
  · intro w hSw; go_simp; try with_reducible rfl
  try simp only [Act.put]
  try simp only [List.setIfInBounds_toArray]
  try simp only [List.set]
  refine wpAnyH_take (i := 12) (oi := { dst := some 20, op := Go.Op.extract (Go.Operand.tmp 8) 1, type := 3, pos := _, after := _, guard := _ }) (v := ?_) rfl (by kernel_rfl) (by kernel_rfl) (by kernel_rfl) (fun _ _ _ h => h) (Or.inl ⟨by rfl, ?_⟩) (by exact hHeld) ?_
  rotate_left
  · intro w hSw; go_simp; try with_reducible rfl
  try simp only [Act.put]
  try simp only [List.setIfInBounds_toArray]
  try simp only [List.set]
  refine wpAnyH_take (i := 15) (oi := { dst := some 6, op := Go.Op.assign (Go.Operand.tmp 20), type := 3, pos := _, after := _, guard := _ }) (v := ?_) rfl (by kernel_rfl) (by kernel_rfl) (by kernel_rfl) (fun _ _ _ h => h) (Or.inl ⟨by rfl, ?_⟩) (by exact hHeld) ?_
  rotate_left
  · intro w hSw; go_simp; try with_reducible rfl
  try simp only [Act.put]
  try simp only [List.setIfInBounds_toArray]
  try simp only [List.set]
  refine wpAnyH_take (i := 13) (oi := { dst := some 21, op := Go.Op.extract (Go.Operand.tmp 8) 2, type := 23, pos := _, after := _, guard := _ }) (v := ?_) rfl (by kernel_rfl) (by kernel_rfl) (by kernel_rfl) (fun _ _ _ h => h) (Or.inl ⟨by rfl, ?_⟩) (by exact hHeld) ?_
  rotate_left
  · intro w hSw; go_simp; try with_reducible rfl
  try simp only [Act.put]
  try simp only [List.setIfInBounds_toArray]
  try simp only [List.set]
  refine wpAnyH_take (i := 16) (oi := { dst := some 7, op := Go.Op.assign (Go.Operand.tmp 21), type := 23, pos := _, after := _, guard := _ }) (v := ?_) rfl (by kernel_rfl) (by kernel_rfl) (by kernel_rfl) (fun _ _ _ h => h) (Or.inl ⟨by rfl, ?_⟩) (by exact hHeld) ?_
  rotate_left
  · intro w hSw; go_simp; try with_reducible rfl
  try simp only [Act.put]
  try simp only [List.setIfInBounds_toArray]
  try simp only [List.set]
  refine wpAnyH_done (by kernel_rfl) ?_ _
  have H1 := Lib.hid hHeld
  clear hHeld HD H0
  rename_i w9
  obtain ⟨c0, c1, c2, c3, c4, c5, f⟩ := H1.out.rd.cells
  have H2 := Lib.hid (H1.out.putAt to_)
  have f2 := f 2
  clear f H1
  go_wp2_with fail
  go_ret
  exact ⟨rfl, H2.out, ((Chg.refl (fun k => k = gr) w).drew).set gr 2 _ (Or.inl rfl)⟩
set_option linter.unusedSimpArgs false in
set_option maxHeartbeats 8000000 in
set_option maxRecDepth 100000 in
theorem number_no {W0 w : World} {B gu g gr : Nat} {vo0 vk vr vo : Value} {top list : Int} {s : US} {va : Option Addr} {cap : Nat} {b : List UInt8} (hb : BR W0 g gr vo0 va cap b) (h : RS W0 w B gu g gr vo0 vk (.slice va b.length cap) top list s vr vo) (hat : s.at_ ≤ b.length) (n : Nat) (hn : n = 4 ∨ n = 5 ∨ n = 6 ∨ n = 7) (he : (getL b s.at_ n).2.2 ≠ 0) :
    Calls Tryd.prog 84 #[.pointer (some ⟨gr, 0, none⟩), .int .i64 (n : Int)] w fun e w' => ∃ a : Int, e = .panicked [fltV (getL b s.at_ n).2.2 a] ∧ RX W0 w' B gu g gr vo0 vk top list s.tab s.most vo := by
  have HG := Lib.hid (fun w hr => get_any va cap b s.at_ n w hr (by have := hb.len; omega) hat hn)
  have HBR := Lib.hid hb
  have HD : Hid (RS W0 w.drew B gu g gr vo0 vk (.slice va b.length cap) top list s vr vo) := Lib.hid (h.aft ((Aft.refl w).drew))
  obtain ⟨G, hG⟩ : ∃ G, getL b s.at_ n = G := ⟨_, rfl⟩
  rw [hG] at HG he ⊢
  obtain ⟨v, to_, e⟩ := G
  simp only at he ⊢
  unfold getV at HG
  simp only at HG
  have he2 : (e != 0) = true := by simpa using he
  clear hb h hat hn hG he
  go_enter Tryd.func84, Tryd.ntmps84
  go_upto_region 1 with fail
  refine wp_region_held_drew (S := fun w' => RS W0 w' B gu g gr vo0 vk (.slice va b.length cap) top list s vr vo) (by kernel_rfl) HD.out (fun hHeld => ?_)
  refine wpAnyH_take (i := 0) (oi := { dst := some 9, op := Go.Op.move (Go.Operand.tmp 0), type := 107, pos := _, after := _, guard := _ }) (v := ?_) rfl (by kernel_rfl) (by kernel_rfl) (by kernel_rfl) (fun _ _ _ h => h) (Or.inl ⟨by rfl, ?_⟩) (by exact hHeld) ?_
  rotate_left
  · intro w hSw; go_simp; try with_reducible rfl
  try simp only [Act.put]
  try simp only [List.setIfInBounds_toArray]
  try simp only [List.set]
  refine wpAnyH_take (i := 1) (oi := { dst := some 10, op := Go.Op.nilCheck (Go.Operand.tmp 9), type := 0, pos := _, after := _, guard := _ }) (v := ?_) rfl (by kernel_rfl) (by kernel_rfl) (by kernel_rfl) (fun _ _ _ h => h) (Or.inl ⟨by rfl, ?_⟩) (by exact hHeld) ?_
  rotate_left
  · intro w hSw; go_simp; try with_reducible rfl
  try simp only [Act.put]
  try simp only [List.setIfInBounds_toArray]
  try simp only [List.set]
  refine wpAnyH_take (i := 2) (oi := { dst := some 11, op := Go.Op.fieldAddr 109 (Go.Operand.tmp 10) 1, type := 0, pos := _, after := _, guard := _ }) (v := ?_) rfl (by kernel_rfl) (by kernel_rfl) (by kernel_rfl) (fun _ _ _ h => h) (Or.inl ⟨by rfl, ?_⟩) (by exact hHeld) ?_
  rotate_left
  · intro w hSw; go_simp; try with_reducible rfl
  try simp only [Act.put]
  try simp only [List.setIfInBounds_toArray]
  try simp only [List.set]
  refine wpAnyH_take (i := 3) (oi := { dst := some 12, op := Go.Op.load 54 (Go.Operand.tmp 11), type := 54, pos := _, after := _, guard := _ }) (v := ?_) rfl (by kernel_rfl) (by kernel_rfl) (by kernel_rfl) (fun _ _ _ h => h) (Or.inl ⟨by rfl, ?_⟩) (by exact hHeld) ?_
  rotate_left
  · intro w hSw; obtain ⟨c0, c1, c2, c3, c4, c5, f⟩ := hSw.rd.cells; go_simp; try with_reducible rfl
  try simp only [Act.put]
  try simp only [List.setIfInBounds_toArray]
  try simp only [List.set]
  refine wpAnyH_take (i := 4) (oi := { dst := some 13, op := Go.Op.move (Go.Operand.tmp 0), type := 107, pos := _, after := _, guard := _ }) (v := ?_) rfl (by kernel_rfl) (by kernel_rfl) (by kernel_rfl) (fun _ _ _ h => h) (Or.inl ⟨by rfl, ?_⟩) (by exact hHeld) ?_
  rotate_left
  · intro w hSw; go_simp; try with_reducible rfl
  try simp only [Act.put]
  try simp only [List.setIfInBounds_toArray]
  try simp only [List.set]
  refine wpAnyH_take (i := 5) (oi := { dst := some 14, op := Go.Op.nilCheck (Go.Operand.tmp 13), type := 0, pos := _, after := _, guard := _ }) (v := ?_) rfl (by kernel_rfl) (by kernel_rfl) (by kernel_rfl) (fun _ _ _ h => h) (Or.inl ⟨by rfl, ?_⟩) (by exact hHeld) ?_
  rotate_left
  · intro w hSw; go_simp; try with_reducible rfl
  try simp only [Act.put]
  try simp only [List.setIfInBounds_toArray]
  try simp only [List.set]
  refine wpAnyH_take (i := 6) (oi := { dst := some 15, op := Go.Op.fieldAddr 109 (Go.Operand.tmp 14) 2, type := 0, pos := _, after := _, guard := _ }) (v := ?_) rfl (by kernel_rfl) (by kernel_rfl) (by kernel_rfl) (fun _ _ _ h => h) (Or.inl ⟨by rfl, ?_⟩) (by exact hHeld) ?_
  rotate_left
  · intro w hSw; go_simp; try with_reducible rfl
  try simp only [Act.put]
  try simp only [List.setIfInBounds_toArray]
  try simp only [List.set]
  refine wpAnyH_take (i := 7) (oi := { dst := some 16, op := Go.Op.load 3 (Go.Operand.tmp 15), type := 3, pos := _, after := _, guard := _ }) (v := ?_) rfl (by kernel_rfl) (by kernel_rfl) (by kernel_rfl) (fun _ _ _ h => h) (Or.inl ⟨by rfl, ?_⟩) (by exact hHeld) ?_
  rotate_left
  · intro w hSw; obtain ⟨c0, c1, c2, c3, c4, c5, f⟩ := hSw.rd.cells; go_simp; try with_reducible rfl
  try simp only [Act.put]
  try simp only [List.setIfInBounds_toArray]
  try simp only [List.set]
  refine wpAnyH_take (i := 8) (oi := { dst := some 17, op := Go.Op.move (Go.Operand.tmp 1), type := 3, pos := _, after := _, guard := _ }) (v := ?_) rfl (by kernel_rfl) (by kernel_rfl) (by kernel_rfl) (fun _ _ _ h => h) (Or.inl ⟨by rfl, ?_⟩) (by exact hHeld) ?_
  rotate_left
  · intro w hSw; go_simp; try with_reducible rfl
  try simp only [Act.put]
  try simp only [List.setIfInBounds_toArray]
  try simp only [List.set]
  refine wpAnyH_ready (rs := [9]) (by kernel_rfl) (by simp) ?_
  refine AllReadyH.cons (o := { dst := some 18, op := Go.Op.call { callee := Go.Callee.value (Go.Operand.func 97), args := #[Go.Operand.tmp 12, Go.Operand.tmp 16, Go.Operand.tmp 17], argTypes := #[54, 3, 3] }, type := 137, pos := _, after := _, guard := _ }) rfl (fun K hK => ?_) AllReadyH.nil
  go_simp
  go_at_call 97
  refine (HG.out _ (HBR.out.rb _ hHeld.x.chg)).mono ?_
  rintro e9 w6 ⟨rfl, rfl⟩
  have hS2 := hHeld
  clear hHeld
  refine hK.out _ _ hS2 (fun hHeld => ?_)
  clear hK K hS2
  try simp only [Act.put]
  try simp only [List.setIfInBounds_toArray]
  try simp only [List.set]
  refine wpAnyH_take (i := 10) (oi := { dst := some 8, op := Go.Op.move (Go.Operand.tmp 18), type := 137, pos := _, after := _, guard := _ }) (v := ?_) rfl (by kernel_rfl) (by kernel_rfl) (by kernel_rfl) (fun _ _ _ h => h) (Or.inl ⟨by rfl, ?_⟩) (by exact hHeld) ?_
  rotate_left
  · intro w hSw; go_simp; try with_reducible rfl
  try simp only [Act.put]
  try simp only [List.setIfInBounds_toArray]
  try simp only [List.set]
  refine wpAnyH_take (i := 11) (oi := { dst := some 19, op := Go.Op.extract (Go.Operand.tmp 8) 0, type := 3, pos := _, after := _, guard := _ }) (v := ?_) rfl (by kernel_rfl) (by kernel_rfl) (by kernel_rfl) (fun _ _ _ h => h) (Or.inl ⟨by rfl, ?_⟩) (by exact hHeld) ?_
  rotate_left
  · intro w hSw; go_simp; try with_reducible rfl
  try simp only [Act.put]
  try simp only [List.setIfInBounds_toArray]
  try simp only [List.set]
  refine wpAnyH_take (i := 14) (oi := { dst := some 5, op := Go.Op.assign (Go.Operand.tmp 19), type := 3, pos := _, after := _, guard := _ }) (v := ?_) rfl (by kernel_rfl) (by kernel_rfl) (by kernel_rfl) (fun _ _ _ h => h) (Or.inl ⟨by rfl, ?_⟩) (by exact hHeld) ?_
  rotate_left
  · intro w hSw; go_simp; try with_reducible rfl
  try simp only [Act.put]
  try simp only [List.setIfInBounds_toArray]
  try simp only [List.set]
  refine wpAnyH_take (i := 12) (oi := { dst := some 20, op := Go.Op.extract (Go.Operand.tmp 8) 1, type := 3, pos := _, after := _, guard := _ }) (v := ?_) rfl (by kernel_rfl) (by kernel_rfl) (by kernel_rfl) (fun _ _ _ h => h) (Or.inl ⟨by rfl, ?_⟩) (by exact hHeld) ?_
  rotate_left
  · intro w hSw; go_simp; try with_reducible rfl
  try simp only [Act.put]
  try simp only [List.setIfInBounds_toArray]
  try simp only [List.set]
  refine wpAnyH_take (i := 15) (oi := { dst := some 6, op := Go.Op.assign (Go.Operand.tmp 20), type := 3, pos := _, after := _, guard := _ }) (v := ?_) rfl (by kernel_rfl) (by kernel_rfl) (by kernel_rfl) (fun _ _ _ h => h) (Or.inl ⟨by rfl, ?_⟩) (by exact hHeld) ?_
  rotate_left
  · intro w hSw; go_simp; try with_reducible rfl
  try simp only [Act.put]
  try simp only [List.setIfInBounds_toArray]
  try simp only [List.set]
  refine wpAnyH_take (i := 13) (oi := { dst := some 21, op := Go.Op.extract (Go.Operand.tmp 8) 2, type := 23, pos := _, after := _, guard := _ }) (v := ?_) rfl (by kernel_rfl) (by kernel_rfl) (by kernel_rfl) (fun _ _ _ h => h) (Or.inl ⟨by rfl, ?_⟩) (by exact hHeld) ?_
  rotate_left
  · intro w hSw; go_simp; try with_reducible rfl
  try simp only [Act.put]
  try simp only [List.setIfInBounds_toArray]
  try simp only [List.set]
  refine wpAnyH_take (i := 16) (oi := { dst := some 7, op := Go.Op.assign (Go.Operand.tmp 21), type := 23, pos := _, after := _, guard := _ }) (v := ?_) rfl (by kernel_rfl) (by kernel_rfl) (by kernel_rfl) (fun _ _ _ h => h) (Or.inl ⟨by rfl, ?_⟩) (by exact hHeld) ?_
  rotate_left
  · intro w hSw; go_simp; try with_reducible rfl
  try simp only [Act.put]
  try simp only [List.setIfInBounds_toArray]
  try simp only [List.set]
  refine wpAnyH_done (by kernel_rfl) ?_ _
  have H1 := Lib.hid hHeld
  clear hHeld HD
  go_wp2_with fail
  refine (fail_any H1.out.rd e).mono ?_
  rintro e9 w9 ⟨rfl, rfl⟩
  go_wp2_with fail
  exact ⟨rfl, _, rfl, H1.out.x⟩

theorem Chg.row {p : Nat → Prop} {a b : World} (h : Chg p a b) (g : Nat) (R : Array Value) (hg : p g ∨ a.heap.size ≤ g) : Chg p a (b.setRow g R) := by
  obtain ⟨h1, h2, h3, h4, h5⟩ := h
  refine ⟨h1, h2, h3, by simpa [World.setRow] using h4, fun k hk hn => ?_⟩
  rw [setRow_other b g k _ (fun e => by
    subst e
    rcases hg with hg | hg
    · exact hn hg
    · omega)]
  exact h5 k hk hn
def FKB (w : World) (g : Nat) (n v : ByteArray) : Prop := w.heap[g]? = some (.cells #[.string n, .string v] 28 (0, 0))
theorem FKB.lt {w : World} {g : Nat} {n v : ByteArray} (h : FKB w g n v) : g < w.heap.size := by
  rcases Nat.lt_or_ge g w.heap.size with h1 | h1
  · exact h1
  · unfold FKB at h; rw [Array.getElem?_eq_none h1] at h; cases h
theorem FKB.aft {w w' : World} {g : Nat} {n v : ByteArray} (h : FKB w g n v) (ha : Aft w w') : FKB w' g n v := (ha.block g h.lt).trans h
theorem FKB.cells {w : World} {g : Nat} {n v : ByteArray} (h : FKB w g n v) : w.cell? ⟨g, 0, none⟩ = some (.string n) ∧ w.cell? ⟨g, 1, none⟩ = some (.string v) ∧ ∀ j, w.frozen? ⟨g, j, none⟩ = false := by
  unfold FKB at h
  refine ⟨?_, ?_, fun j => frozen_of_row w g j _ _ h⟩ <;> rw [cell_of_row w g _ _ _ (0, 0) h] <;> rfl
theorem fsz (n v : ByteArray) : (Tryd.prog.info? 28).map (·.size) = some (#[Value.string n, .string v]).size := by
  show _ = some 2
  kernel_rfl
theorem fone (n v : ByteArray) : (#[Value.string n, .string v]).all (·.oneCell') = true := by simp [Value.oneCell']

/-- A value, or a fault. -/
def PostE (ok : Bool) (v : Value) (code : Int) (e : Ending) : Prop := (ok = true ∧ e = .returned v) ∨ (ok = false ∧ ∃ a : Int, e = .panicked [fltV code a])
set_option maxHeartbeats 8000000 in
set_option maxRecDepth 100000 in
theorem known_any {W0 w : World} {B gu g gr : Nat} {vo0 vk vb vr vo : Value} {top list : Int} {s : US} (h : RS W0 w B gu g gr vo0 vk vb top list s vr vo) (i : Nat) (hi : i ≤ 2147483647) (ok : Bool) (hg : getB s.tab i = ok) :
    Calls Tryd.prog 83 #[.pointer (some ⟨gr, 0, none⟩), .int .i64 (i : Int)] w fun e w' => PostE ok (fieldV (getF s.tab i)) 5 e ∧ Aft w w' := by
  have HG := Lib.hid (fun w' (h : RS W0 w' B gu g gr vo0 vk vb top list s vr vo) => tget_any (i : Int) (by omega) (by omega) h.x.un.t)
  rw [hg] at HG
  have hal := (Aft.refl w).alloc (.cells #[.string ⟨#[]⟩, .string ⟨#[]⟩] 28)
  have H1 := Lib.hid (h.aft hal)
  have HA1 := Lib.hid hal
  have HZ : Hid (FKB (w.alloc (.cells #[.string ⟨#[]⟩, .string ⟨#[]⟩] 28)) w.heap.size ⟨#[]⟩ ⟨#[]⟩) := Lib.hid (heap_alloc_new w _)
  obtain ⟨⟨f1, f2⟩, hf⟩ : ∃ q, getF s.tab i = q := ⟨_, rfl⟩
  rw [hf] at HG ⊢
  unfold fieldV at HG ⊢
  simp only at HG ⊢
  generalize (⟨f1.toArray⟩ : ByteArray) = N at HG ⊢
  generalize (⟨f2.toArray⟩ : ByteArray) = V at HG ⊢
  clear h hi hg hal hf
  go_enter Tryd.func83, Tryd.ntmps83
  go_upto_region 1 with fail
  obtain ⟨g4, hg4⟩ : ∃ g4, w.heap.size = g4 := ⟨_, rfl⟩
  rw [hg4] at HZ ⊢
  have HG4 := Lib.hid hg4
  generalize w.alloc (.cells #[.string ⟨#[]⟩, .string ⟨#[]⟩] 28) = W1 at H1 HA1 HZ ⊢
  clear hg4
  obtain ⟨c0, c1, c2, c3, c4, c5, f⟩ := H1.out.rd.cells
  obtain ⟨d0, d1, d2, d3, d4⟩ := H1.out.x.un.cells
  clear f
  go_wp2_with fail
  refine (HG.out _ H1.out).mono ?_
  rintro e w2 ⟨rfl, a2⟩
  have HZ2 := Lib.hid (HZ.out.aft (a2.alloc (.cells #[.string N, .string V] 28)))
  have HA2 := Lib.hid ((HA1.out.trans a2).alloc (.cells #[.string N, .string V] 28))
  have H2 := Lib.hid (H1.out.aft (a2.alloc (.cells #[.string N, .string V] 28)))
  have HF2 : Hid (FKB (w2.alloc (.cells #[.string N, .string V] 28)) w2.heap.size N V) := Lib.hid (heap_alloc_new w2 _)
  clear a2 c0 c1 c2 c3 c4 c5 d0 d1 d2 d3 d4 H1 HA1 HZ HG
  go_upto_region 2 with fail
  generalize w2.alloc (.cells #[.string N, .string V] 28) = W3 at HZ2 HA2 H2 HF2 ⊢
  generalize w2.heap.size = g5 at HF2 ⊢
  cases ok
  · go_wp2_with fail
    refine (fail_any H2.out.rd 5).mono ?_
    rintro e9 w9 ⟨rfl, rfl⟩
    go_wp2_with fail
    exact ⟨rfl, Or.inr ⟨rfl, _, rfl⟩, HA2.out⟩
  · go_wp2_with (first | (refine wpList_load_row rfl 28 (.tmp 5) rfl g5 rfl _ #[.string N, .string V] (0, 0) _ HF2.out Tryd.underlying28 rfl (fsz N V) ?_) | (refine wpList_store_rowTo rfl 28 (.tmp 4) (.tmp 23) rfl rfl g4 #[.string N, .string V] rfl rfl _ _ HZ2.out (fsz N V) rfl (fone N V) ?_))
    have hset : (W3.setRow g4 #[.string N, .string V]).heap[g4]? = some (.cells #[.string N, .string V] 28 (0, 0)) := setRow_heap W3 g4 _ _ 28 (0, 0) HZ2.out
    refine bodyPost_ret (results_cell_row rfl _ _ g4 28 #[.string N, .string V] (0, 0) _ rfl hset Tryd.underlying28 rfl (fsz N V)) rfl ?_
    exact ⟨Or.inl ⟨rfl, rfl⟩, below_setRow HA2.out (by rw [HG4.out]; exact Nat.le_refl _) _⟩

end Go.Proofs.YtmlnboibclfmcaaDoor
