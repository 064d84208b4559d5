/-
  UnpackPlays: two unpackers side by side.
-/
import Derived.Test.YtmlnboibclfmcaaDoorRUnB
import Derived.Test.YtmlnboibclfmcaaDoorUnBdP
import Derived.Test.YtmlnboibclfmcaaDoorRoomy
import Derived.Test.YtmlnboibclfmcaaDoorHuffWJoins
namespace Go.Proofs.YtmlnboibclfmcaaDoor
open Go.RowKit
set_option linter.unusedVariables false

/-- What a block gives: rows, error, table, most, bad. -/
structure OU where
  rows : List RowL
  err : Int
  tab : List FieldL
  most : Int
  bad : Bool
def outU (top list : Int) (bad : Bool) (b : List UInt8) (l : List FieldL) (most : Int) : OU :=
  if bad = true then ⟨[], 1, l, most, true⟩ else if (blkU top list b l most).2 = 0 then ⟨(blkU top list b l most).1.rows, 0, (blkU top list b l most).1.tab, (blkU top list b l most).1.most, false⟩ else ⟨[], (blkU top list b l most).2, (blkU top list b l most).1.tab, (blkU top list b l most).1.most, true⟩
theorem outU_SJ {top list most : Int} {bad : Bool} {b : List UInt8} {l : List FieldL} (hl : (sumF l : Int) ≤ most) (h0 : 0 ≤ most) (h1 : most ≤ top) : (sumF (outU top list bad b l most).tab : Int) ≤ (outU top list bad b l most).most ∧ 0 ≤ (outU top list bad b l most).most ∧ (outU top list bad b l most).most ≤ top := by
  have hj := blkU_SJ (list := list) (b := b) hl h0 h1
  unfold outU
  split
  · exact ⟨hl, h0, h1⟩
  split
  · exact ⟨hj.tab, hj.m0, hj.m1⟩
  · exact ⟨hj.tab, hj.m0, hj.m1⟩
theorem ublock_out {w : World} {B gu g : Nat} {vo vk : Value} {l : List FieldL} {most top list : Int} {bad : Bool} {va : Option Addr} {cap n : Nat} {b : List UInt8} (h : Un w B gu g vo vk l most top list bad) (hb : ∀ wx, Chg (PU gu g vo) w wx → Rb wx (.slice va n cap) b) (hn : b.length = n) (hlen : n ≤ 1000000) (hl : (sumF l : Int) ≤ most) (hm0 : 0 ≤ most) (hm1 : most ≤ 65536) (htop : top ≤ 65536) (hl0 : 0 ≤ list) (hl1 : list ≤ 2147483647) (o : OU) (ho : outU top list bad b l most = o) :
    Calls Tryd.prog 49 #[.pointer (some ⟨gu, 0, none⟩), .slice va n cap] w fun e w' => ∃ (ra : Option Addr) (rk : Nat) (vo' : Value), e = .returned (.tuple #[.slice ra o.rows.length rk, .int .i64 o.err]) ∧ Un w' B gu g vo' vk o.tab o.most top list o.bad ∧ OwnW w' w.heap.size (.slice ra o.rows.length rk) o.rows ∧ Chg (PU gu g vo) w w' ∧ ∀ k, vo'.ownBlock = some k → vo.ownBlock = some k ∨ w.heap.size ≤ k := by
  subst hn ho
  cases bad with
  | true =>
    refine (ublock_bad h va b.length cap).mono ?_
    rintro e w' ⟨rfl, a1⟩
    exact ⟨none, 0, vo, rfl, h.aft a1, ⟨rfl, Or.inl ⟨rfl, rfl⟩⟩, Chg.of_aft a1, fun k hk => Or.inl hk⟩
  | false =>
    refine (ublock_any h hb hlen hl hm0 hm1 htop hl0 hl1).mono ?_
    intro e w' hp
    unfold outU
    rw [if_neg (by simp)]
    rcases hp with ⟨h0, ra, rk, vo', rfl, h2, h3, h4, h5⟩ | ⟨h0, vo', rfl, h2, h4, h5⟩
    · rw [if_pos h0]
      exact ⟨ra, rk, vo', rfl, h2, h3, h4, h5⟩
    · rw [if_neg h0]
      exact ⟨none, 0, vo', rfl, h2, ⟨rfl, Or.inl ⟨rfl, rfl⟩⟩, h4, h5⟩
theorem rublock_out {w : World} {B gu g : Nat} {vo : Value} {l : List FieldL} {most top list : Int} {bad : Bool} {va : Option Addr} {cap n : Nat} {b : List UInt8} (h : RUn w B gu g vo l most top list bad) (hb : ∀ wx, Chg (PU gu g vo) w wx → Rb wx (.slice va n cap) b) (hB : B ≤ w.heap.size) (hn : b.length = n) (hlen : n ≤ 1000000) (hl : (sumF l : Int) ≤ most) (hm0 : 0 ≤ most) (hm1 : most ≤ 65536) (htop : top ≤ 65536) (hl0 : 0 ≤ list) (hl1 : list ≤ 2147483647) (o : OU) (ho : outU top list bad b l most = o) :
    Calls Tryd.prog 54 #[.pointer (some ⟨gu, 0, none⟩), .slice va n cap] w fun e w' => ∃ (ra : Option Addr) (rk : Nat) (vo' : Value), e = .returned (.tuple #[.slice ra o.rows.length rk, .int .i64 o.err]) ∧ RUn w' B gu g vo' o.tab o.most top list o.bad ∧ OwnW w' w.heap.size (.slice ra o.rows.length rk) o.rows ∧ Chg (PU gu g vo) w w' ∧ ∀ k, vo'.ownBlock = some k → vo.ownBlock = some k ∨ w.heap.size ≤ k := by
  subst hn ho
  cases bad with
  | true =>
    refine (rublock_bad h va b.length cap).mono ?_
    rintro e w' ⟨rfl, a1⟩
    exact ⟨none, 0, vo, rfl, h.aft a1, ⟨rfl, Or.inl ⟨rfl, rfl⟩⟩, Chg.of_aft a1, fun k hk => Or.inl hk⟩
  | false =>
    refine (rublock_any h hb hB hlen hl hm0 hm1 htop hl0 hl1).mono ?_
    intro e w' hp
    unfold outU
    rw [if_neg (by simp)]
    rcases hp with ⟨h0, ra, rk, vo', rfl, h2, h3, h4, h5⟩ | ⟨h0, vo', rfl, h2, h4, h5⟩
    · rw [if_pos h0]
      exact ⟨ra, rk, vo', rfl, h2, h3, h4, h5⟩
    · rw [if_neg h0]
      exact ⟨none, 0, vo', rfl, h2, ⟨rfl, Or.inl ⟨rfl, rfl⟩⟩, h4, h5⟩
/-- The two unpackers' blocks lie apart. -/
structure ApU (gu g : Nat) (vo vk : Value) (gw gt : Nat) (vo2 : Value) : Prop where
  a : ∀ k, PU gu g vo k → k ≠ gw ∧ k ≠ gt ∧ vo2.ownBlock ≠ some k
  b : ∀ k, PU gw gt vo2 k → k ≠ gu ∧ k ≠ g ∧ vo.ownBlock ≠ some k ∧ vk.ownBlock ≠ some k
theorem ApU.start {w1 : World} {B gu g gw gt : Nat} {vk : Value} {l : List FieldL} {most top list : Int} {bad : Bool} (hu : Un w1 B gu g (.slice none 0 0) vk l most top list bad) (h1 : w1.heap.size ≤ gt) (h2 : w1.heap.size ≤ gw) : ApU gu g (.slice none 0 0) vk gw gt (.slice none 0 0) := by
  have l1 := hu.lt
  have l2 := hu.t.lt
  have l3 := fun k hk => (hu.t.kn.lt k hk).2
  refine ⟨fun k hk => ?_, fun k hk => ?_⟩
  · rcases hk with rfl | rfl | hk
    · exact ⟨by omega, by omega, fun e => by cases e⟩
    · exact ⟨by omega, by omega, fun e => by cases e⟩
    · cases hk
  · rcases hk with rfl | rfl | hk
    · exact ⟨by omega, by omega, fun e => (by cases e), fun e => by have := l3 _ e; omega⟩
    · exact ⟨by omega, by omega, fun e => (by cases e), fun e => by have := l3 _ e; omega⟩
    · cases hk
theorem block_rb9 {w : World} {g : Nat} {l : List UInt8} (h : w.heap[g]? = some (.cells (bv l).toArray 5 (0, 0))) (hl : l.length ≤ maxLen) : Rb w (.slice (some ⟨g, 0, none⟩) l.length l.length) l :=
  (Own.of_block (base := 0) h (Nat.zero_le _) hl).rb
/-- A block of bytes, whole. -/
def FB8 (w : World) (g : Nat) (L : List UInt8) : Prop := w.heap[g]? = some (.cells (bv L).toArray 5 (0, 0))
theorem FB8.aft {w w' : World} {g : Nat} {L : List UInt8} (h : FB8 w g L) (a : Aft w w') : FB8 w' g L := (a.block g (lt_of_heap h)).trans h
theorem FB8.chg {p : Nat → Prop} {w w' : World} {g : Nat} {L : List UInt8} (h : FB8 w g L) (hc : Chg p w w') (hp : ¬ p g) : FB8 w' g L := (hc.block g (lt_of_heap h) hp).trans h
theorem FB8.un {w : World} {B gu g gf : Nat} {vo vk : Value} {l : List FieldL} {most top list : Int} {bad : Bool} {L : List UInt8} (hf : FB8 w gf L) (h : Un w B gu g vo vk l most top list bad) : ¬ PU gu g vo gf := by
  unfold FB8 at hf
  intro e
  rcases e with rfl | rfl | e
  · rw [h.p] at hf
    injection hf with hf
    injection hf with _ hf
    exact absurd hf (by decide)
  · rw [h.t.blk] at hf
    injection hf with hf
    injection hf with _ hf
    exact absurd hf (by decide)
  · obtain ⟨cur2, h2⟩ := h.t.own.blk e
    rw [h2] at hf
    injection hf with hf
    injection hf with _ hf
    exact absurd hf (by decide)
theorem FB8.run {w : World} {B gu g gf : Nat} {vo : Value} {l : List FieldL} {most top list : Int} {bad : Bool} {L : List UInt8} (hf : FB8 w gf L) (h : RUn w B gu g vo l most top list bad) : ¬ PU gu g vo gf := by
  unfold FB8 at hf
  intro e
  rcases e with rfl | rfl | e
  · rw [h.p] at hf
    injection hf with hf
    injection hf with _ hf
    exact absurd hf (by decide)
  · rw [h.t.blk] at hf
    injection hf with hf
    injection hf with _ hf
    exact absurd hf (by decide)
  · obtain ⟨cur2, h2⟩ := h.t.own.blk e
    rw [h2] at hf
    injection hf with hf
    injection hf with _ hf
    exact absurd hf (by decide)
theorem FB8.full {w : World} {gf n : Nat} {l F : List UInt8} (hF : l ++ List.replicate 80 9 = F) (hf : FB8 w gf F) (hl : l.length ≤ 1000000) (hn : l.length = n) : Rb w (.slice (some ⟨gf, 0, none⟩) (n + 80) (n + 80)) (l ++ List.replicate 80 9) := by
  subst hF hn
  have h1 := block_rb9 hf (by simp [maxLen]; omega)
  rw [show (l ++ List.replicate 80 (9 : UInt8)).length = l.length + 80 by simp] at h1
  exact h1
theorem FB8.cut {w : World} {gf n : Nat} {l F : List UInt8} (hF : l ++ List.replicate 80 9 = F) (hf : FB8 w gf F) (hl : l.length ≤ 1000000) (hn : l.length = n) : Rb w (.slice (some ⟨gf, 0, none⟩) n (n + 80)) l := by
  have h2 := (hf.full hF hl hn).cut (k := n) (by simp; omega)
  subst hn
  rw [show (l ++ List.replicate 80 (9 : UInt8)).take l.length = l by simp] at h2
  exact h2
theorem OwnW.run7 {w w' : World} {B gu g base : Nat} {vo v : Value} {l : List FieldL} {most top list : Int} {bad : Bool} {R : List RowL} (h : OwnW w base v R) (hu : RUn w B gu g vo l most top list bad) (hc : Chg (PU gu g vo) w w') : OwnW w' base v R := h.chg hc (fun k hk => by
  obtain ⟨cur, hf⟩ := h.blk hk
  intro e
  rcases e with rfl | rfl | e
  · rw [hu.p] at hf
    injection hf with hf
    injection hf with _ hf
    exact absurd hf (by decide)
  · rw [hu.t.blk] at hf
    injection hf with hf
    injection hf with _ hf
    exact absurd hf (by decide)
  · obtain ⟨cur2, h2⟩ := hu.t.own.blk e
    rw [h2] at hf
    injection hf with hf
    injection hf with _ hf
    exact absurd hf (by decide))
theorem RUn.below {w w1 w2 : World} {B gu g : Nat} {vo : Value} {l : List FieldL} {most top list : Int} {bad : Bool} (a : Aft w w1) (h : RUn w1 B gu g vo l most top list bad) (hB : w.heap.size ≤ B) (hc : Chg (PU gu g vo) w1 w2) : Aft w w2 := by
  refine Below.trans a (hc.below (fun k hk => ?_) a.to.size)
  rcases hk with rfl | rfl | hk
  · exact Nat.le_trans hB h.pB
  · exact Nat.le_trans hB h.t.gB
  · exact Nat.le_trans hB (h.t.own.lt k hk).1
/-- All that stands between two calls. -/
structure SU (w wc : World) (B2 gu g gw gt : Nat) (vk : Value) (top list : Int) (T : List FieldL) (M : Int) (bad : Bool) (vo : Value) (T2 : List FieldL) (M2 : Int) (bad2 : Bool) (vo2 : Value) : Prop where
  un : Un wc w.heap.size gu g vo vk T M top list bad
  ru : RUn wc B2 gw gt vo2 T2 M2 top list bad2
  ap : ApU gu g vo vk gw gt vo2
  aft : Aft w wc
  hB : w.heap.size ≤ B2
  hB2 : B2 ≤ wc.heap.size
theorem SU.to {w wc wd : World} {B2 gu g gw gt : Nat} {vk : Value} {top list : Int} {T : List FieldL} {M : Int} {bad : Bool} {vo : Value} {T2 : List FieldL} {M2 : Int} {bad2 : Bool} {vo2 : Value} (h : SU w wc B2 gu g gw gt vk top list T M bad vo T2 M2 bad2 vo2) (a : Aft wc wd) : SU w wd B2 gu g gw gt vk top list T M bad vo T2 M2 bad2 vo2 :=
  ⟨h.un.aft a, h.ru.aft a, h.ap, h.aft.trans a, h.hB, Nat.le_trans h.hB2 a.to.size⟩
theorem SU.stepU {w wc wd : World} {B2 gu g gw gt : Nat} {vk : Value} {top list : Int} {T T' : List FieldL} {M M' : Int} {bad bad' : Bool} {vo vo' : Value} {T2 : List FieldL} {M2 : Int} {bad2 : Bool} {vo2 : Value} (h : SU w wc B2 gu g gw gt vk top list T M bad vo T2 M2 bad2 vo2)
    (hp : Un wd w.heap.size gu g vo' vk T' M' top list bad') (hc : Chg (PU gu g vo) wc wd) (ob : ∀ k, vo'.ownBlock = some k → vo.ownBlock = some k ∨ wc.heap.size ≤ k) : SU w wd B2 gu g gw gt vk top list T' M' bad' vo' T2 M2 bad2 vo2 := by
  have l1 := h.ru.lt
  have l2 := h.ru.t.lt
  have l3 := fun k hk => (h.ru.t.own.lt k hk).2
  refine ⟨hp, h.ru.chg hc (fun e => (h.ap.a _ e).1 rfl) (fun e => (h.ap.a _ e).2.1 rfl) (fun k hk e => (h.ap.a _ e).2.2 hk), ⟨fun k hk => ?_, fun k hk => ?_⟩, Un.below h.aft h.un (Nat.le_refl _) hc, h.hB, Nat.le_trans h.hB2 hc.size⟩
  · rcases hk with hk | hk | hk
    · exact h.ap.a k (Or.inl hk)
    · exact h.ap.a k (Or.inr (Or.inl hk))
    · rcases ob k hk with h1 | h1
      · exact h.ap.a k (Or.inr (Or.inr h1))
      · exact ⟨by omega, by omega, fun e => by have := l3 k e; omega⟩
  · obtain ⟨b1, b2, b3, b4⟩ := h.ap.b k hk
    refine ⟨b1, b2, fun e => ?_, b4⟩
    rcases ob k e with h1 | h1
    · exact b3 h1
    · rcases hk with rfl | rfl | hk
      · omega
      · omega
      · have := l3 k hk; omega
theorem SU.stepR {w wc wd : World} {B2 gu g gw gt : Nat} {vk : Value} {top list : Int} {T : List FieldL} {M : Int} {bad : Bool} {vo : Value} {T2 T2' : List FieldL} {M2 M2' : Int} {bad2 bad2' : Bool} {vo2 vo2' : Value} (h : SU w wc B2 gu g gw gt vk top list T M bad vo T2 M2 bad2 vo2)
    (hp : RUn wd B2 gw gt vo2' T2' M2' top list bad2') (hc : Chg (PU gw gt vo2) wc wd) (ob : ∀ k, vo2'.ownBlock = some k → vo2.ownBlock = some k ∨ wc.heap.size ≤ k) : SU w wd B2 gu g gw gt vk top list T M bad vo T2' M2' bad2' vo2' := by
  have l1 := h.un.lt
  have l2 := h.un.t.lt
  have l3 := fun k hk => (h.un.t.own.lt k hk).2
  have l4 := fun k hk => (h.un.t.kn.lt k hk).2
  refine ⟨h.un.chg hc (fun e => (h.ap.b _ e).1 rfl) (fun e => (h.ap.b _ e).2.1 rfl) (fun k hk e => (h.ap.b _ e).2.2.1 hk) (fun k hk e => (h.ap.b _ e).2.2.2 hk), hp, ⟨fun k hk => ?_, fun k hk => ?_⟩, RUn.below h.aft h.ru h.hB hc, h.hB, Nat.le_trans h.hB2 hc.size⟩
  · obtain ⟨b1, b2, b3⟩ := h.ap.a k hk
    refine ⟨b1, b2, fun e => ?_⟩
    rcases ob k e with h1 | h1
    · exact b3 h1
    · rcases hk with rfl | rfl | hk
      · omega
      · omega
      · have := l3 k hk; omega
  · rcases hk with hk | hk | hk
    · exact h.ap.b k (Or.inl hk)
    · exact h.ap.b k (Or.inr (Or.inl hk))
    · rcases ob k hk with h1 | h1
      · exact h.ap.b k (Or.inr (Or.inr h1))
      · exact ⟨by omega, by omega, fun e => by have := l3 k e; omega, fun e => by have := l4 k e; omega⟩
end Go.Proofs.YtmlnboibclfmcaaDoor
