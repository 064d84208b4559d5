/-
  PackPlays: two packers side by side.
-/
import Derived.Test.YtmlnboibclfmcaaDoorAB3
import Derived.Test.YtmlnboibclfmcaaDoorPackBd
import Derived.BigQuiet
import Derived.Test.YtmlnboibclfmcaaDoorRPkB
import Derived.Test.YtmlnboibclfmcaaDoorRoomyW
namespace Go.Proofs.YtmlnboibclfmcaaDoor
open Go.RowKit
set_option linter.unusedVariables false

structure QR (lp : List FieldL) (mp : Int) (told : Bool) (least rl rn : Int) : Prop where
  p0 : (sumF lp : Int) ≤ mp
  m0 : 0 ≤ mp
  m1 : mp ≤ 65536
  l0 : 0 ≤ least
  l1 : least ≤ 65536
  r : rl = if told = true then -1 else least
  n : told = false → rn = mp
  n0 : 0 ≤ rn
  n1 : rn ≤ 65536
theorem QR.init (m : Int) (h0 : 0 ≤ m) (h1 : m ≤ 65536) : QR [] m true 0 (-1) 0 := ⟨by simpa [sumF] using h0, h0, h1, by decide, by decide, rfl, fun h => (by cases h), by decide, by decide⟩
theorem QR.resize {lp : List FieldL} {mp least rl rn : Int} {told : Bool} (h : QR lp mp told least rl rn) (n : Int) (n0 : 0 ≤ n) (n1 : n ≤ 65536) : QR (fitF n lp) n false (leastN told least n) (rleastN rl n) n := by
  refine ⟨fitF_le' n0, n0, n1, ?_, ?_, ?_, fun _ => rfl, n0, n1⟩
  · unfold leastN; split
    · exact n0
    · exact h.l0
  · unfold leastN; split
    · exact n1
    · exact h.l1
  · rw [h.r, rleast_eq h.l0]
    simp
theorem rowsB_tab (most : Int) (hm : 0 ≤ most) : ∀ (rows : List RowL) (s : List UInt8 × List FieldL), (sumF s.2 : Int) ≤ most → (sumF (rowsB most s rows).2 : Int) ≤ most
  | [], s, h => h
  | r :: rs, s, h => rowsB_tab most hm rs _ (rowB_tab most hm s.2 r h)
theorem QR.block {lp : List FieldL} {mp least rl rn : Int} {told : Bool} (h : QR lp mp told least rl rn) (rows : List RowL) : QR (rowsB mp (sizesL told least mp, lp) rows).2 mp true least (-1) rn :=
  ⟨rowsB_tab mp h.m0 rows _ h.p0, h.m0, h.m1, h.l0, h.l1, rfl, fun e => (by cases e), h.n0, h.n1⟩
theorem QR.sizes {lp : List FieldL} {mp least rl rn : Int} {told : Bool} (h : QR lp mp told least rl rn) : rsizesL rl rn = sizesL told least mp := by
  rw [h.r, rsizes_eq h.l0 h.n]
/-- The two packers' blocks lie apart. -/
structure ApR (gp g : Nat) (vo vk : Value) (wp gt : Nat) (vo2 : Value) : Prop where
  a : ∀ k, PP gp g vo k → k ≠ wp ∧ k ≠ gt ∧ vo2.ownBlock ≠ some k
  b : ∀ k, PP wp gt vo2 k → k ≠ gp ∧ k ≠ g ∧ vo.ownBlock ≠ some k ∧ vk.ownBlock ≠ some k
theorem AB3.notR {w : World} {B gp g gx : Nat} {vo u : Value} {kd nn : Int} {l : List FieldL} {m rl rn : Int} (h : AB3 w gx kd nn u) (hp : RPk w B gp g vo l m rl rn) : ¬ PP gp g vo gx := by
  unfold AB3 at h
  intro e
  rcases e with rfl | rfl | e
  · rw [hp.p] at h
    injection h with h
    injection h with _ h
    exact absurd h (by decide)
  · rw [hp.t.blk] at h
    injection h with h
    injection h with _ h
    exact absurd h (by decide)
  · obtain ⟨cur2, h2⟩ := hp.t.own.blk e
    rw [h2] at h
    injection h with h
    injection h with _ h
    exact absurd h (by decide)
theorem WB.rpk {w : World} {g0 B gp g : Nat} {vo : Value} {l : List FieldL} {m rl rn : Int} {rows : List RowL} (h : WB w g0 rows) (hp : RPk w B gp g vo l m rl rn) : ¬ PP gp g vo g0 := by
  unfold WB at h
  intro e
  rcases e with rfl | rfl | e
  · rw [hp.p] at h
    injection h with h
    injection h with _ h
    exact absurd h (by decide)
  · rw [hp.t.blk] at h
    injection h with h
    injection h with _ h
    exact absurd h (by decide)
  · obtain ⟨cur2, h2⟩ := hp.t.own.blk e
    rw [h2] at h
    injection h with h
    injection h with _ h
    exact absurd h (by decide)
theorem WB.chg' {p : Nat → Prop} {w w' : World} {g0 : Nat} {rows : List RowL} (h : WB w g0 rows) (hc : Chg p w w') (hp : ¬ p g0) : WB w' g0 rows := (hc.block g0 h.lt hp).trans h
theorem RPk.below {w w1 w2 : World} {B gp g : Nat} {vo : Value} {l : List FieldL} {m rl rn : Int} (a : Aft w w1) (h : RPk w1 B gp g vo l m rl rn) (hB : w.heap.size ≤ B) (hc : Chg (PP gp g vo) w1 w2) : Aft w w2 := by
  refine Below.trans a (hc.below (fun k hk => ?_) a.to.size)
  rcases hk with rfl | rfl | hk
  · exact Nat.le_trans hB h.pB
  · exact Nat.le_trans hB h.t.gB
  · exact Nat.le_trans hB (h.t.own.lt k hk).1
/-- All that stands between two calls. -/
structure ST (w wc : World) (B2 gp g wp gt gx : Nat) (vk : Value) (kd nn : Int) (u : Value) (lp : List FieldL) (mp : Int) (told : Bool) (least : Int) (vo : Value) (lr : List FieldL) (mr rl rn : Int) (vo2 : Value) : Prop where
  pk : Pk wc w.heap.size gp g vo vk lp mp told least
  rk : RPk wc B2 wp gt vo2 lr mr rl rn
  ap : ApR gp g vo vk wp gt vo2
  ab : AB3 wc gx kd nn u
  aft : Aft w wc
  hB : w.heap.size ≤ B2
  hB2 : B2 ≤ wc.heap.size
theorem ST.to {w wc wd : World} {B2 gp g wp gt gx : Nat} {vk : Value} {kd nn : Int} {u : Value} {lp : List FieldL} {mp : Int} {told : Bool} {least : Int} {vo : Value} {lr : List FieldL} {mr rl rn : Int} {vo2 : Value} (h : ST w wc B2 gp g wp gt gx vk kd nn u lp mp told least vo lr mr rl rn vo2) (a : Aft wc wd) : ST w wd B2 gp g wp gt gx vk kd nn u lp mp told least vo lr mr rl rn vo2 :=
  ⟨h.pk.aft a, h.rk.aft a, h.ap, h.ab.aft a, h.aft.trans a, h.hB, Nat.le_trans h.hB2 a.to.size⟩
theorem ST.stepP {w wc wd : World} {B2 gp g wp gt gx : Nat} {vk : Value} {kd nn : Int} {u : Value} {lp lp' : List FieldL} {mp mp' : Int} {told told' : Bool} {least least' : Int} {vo vo' : Value} {lr : List FieldL} {mr rl rn : Int} {vo2 : Value} (h : ST w wc B2 gp g wp gt gx vk kd nn u lp mp told least vo lr mr rl rn vo2)
    (hp : Pk wd w.heap.size gp g vo' vk lp' mp' told' least') (hc : Chg (PP gp g vo) wc wd) (ob : ∀ k, vo'.ownBlock = some k → vo.ownBlock = some k ∨ wc.heap.size ≤ k) : ST w wd B2 gp g wp gt gx vk kd nn u lp' mp' told' least' vo' lr mr rl rn vo2 := by
  have l1 := h.rk.lt
  have l2 := h.rk.t.lt
  have l3 := fun k hk => (h.rk.t.own.lt k hk).2
  refine ⟨hp, h.rk.chg hc (fun e => (h.ap.a _ e).1 rfl) (fun e => (h.ap.a _ e).2.1 rfl) (fun k hk e => (h.ap.a _ e).2.2 hk), ⟨fun k hk => ?_, fun k hk => ?_⟩, h.ab.chg hc (h.ab.notP h.pk), Pk.below h.aft h.pk (Nat.le_refl _) hc, h.hB, Nat.le_trans h.hB2 hc.size⟩
  · rcases hk with hk | hk | hk
    · exact h.ap.a k (Or.inl hk)
    · exact h.ap.a k (Or.inr (Or.inl hk))
    · rcases ob k hk with h1 | h1
      · exact h.ap.a k (Or.inr (Or.inr h1))
      · exact ⟨by omega, by omega, fun e => by have := l3 k e; omega⟩
  · obtain ⟨b1, b2, b3, b4⟩ := h.ap.b k hk
    refine ⟨b1, b2, fun e => ?_, b4⟩
    rcases ob k e with h1 | h1
    · exact b3 h1
    · rcases hk with rfl | rfl | hk
      · omega
      · omega
      · have := l3 k hk; omega
theorem ST.stepR {w wc wd : World} {B2 gp g wp gt gx : Nat} {vk : Value} {kd nn : Int} {u : Value} {lp : List FieldL} {mp : Int} {told : Bool} {least : Int} {vo : Value} {lr lr' : List FieldL} {mr rl rn mr' rl' rn' : Int} {vo2 vo2' : Value} (h : ST w wc B2 gp g wp gt gx vk kd nn u lp mp told least vo lr mr rl rn vo2)
    (hp : RPk wd B2 wp gt vo2' lr' mr' rl' rn') (hc : Chg (PP wp gt vo2) wc wd) (ob : ∀ k, vo2'.ownBlock = some k → vo2.ownBlock = some k ∨ wc.heap.size ≤ k) : ST w wd B2 gp g wp gt gx vk kd nn u lp mp told least vo lr' mr' rl' rn' vo2' := by
  have l1 := h.pk.lt
  have l2 := h.pk.t.lt
  have l3 := fun k hk => (h.pk.t.own.lt k hk).2
  have l4 := fun k hk => (h.pk.t.kn.lt k hk).2
  refine ⟨h.pk.chg hc (fun e => (h.ap.b _ e).1 rfl) (fun e => (h.ap.b _ e).2.1 rfl) (fun k hk e => (h.ap.b _ e).2.2.1 hk) (fun k hk e => (h.ap.b _ e).2.2.2 hk), hp, ⟨fun k hk => ?_, fun k hk => ?_⟩, h.ab.chg hc (h.ab.notR h.rk), RPk.below h.aft h.rk h.hB hc, h.hB, Nat.le_trans h.hB2 hc.size⟩
  · obtain ⟨b1, b2, b3⟩ := h.ap.a k hk
    refine ⟨b1, b2, fun e => ?_⟩
    rcases ob k e with h1 | h1
    · exact b3 h1
    · rcases hk with rfl | rfl | hk
      · omega
      · omega
      · have := l3 k hk; omega
  · rcases hk with hk | hk | hk
    · exact h.ap.b k (Or.inl hk)
    · exact h.ap.b k (Or.inr (Or.inl hk))
    · rcases ob k hk with h1 | h1
      · exact h.ap.b k (Or.inr (Or.inr h1))
      · exact ⟨by omega, by omega, fun e => by have := l3 k e; omega, fun e => by have := l4 k e; omega⟩
/-- An argument's rows stay, whatever the reference's packer does. -/
theorem RbW.oldR {w w1 : World} {B gp g : Nat} {vo v : Value} {l : List FieldL} {m rl rn : Int} {rows : List RowL} (h : RbW w v rows) (a : Aft w w1) (hp : RPk w1 B gp g vo l m rl rn) (hB : w.heap.size ≤ B) : ∀ wx, Chg (PP gp g vo) w1 wx → RbW wx v rows := fun wx hc => h.aft (RPk.below a hp hB hc)
theorem ApR.start {w1 w2 w3 : World} {B gp g wp gt : Nat} {vk : Value} {lp lr : List FieldL} {mp mr least rl rn : Int} {told : Bool} (hp : Pk w1 B gp g (.slice none 0 0) vk lp mp told least) (h1 : w1.heap.size ≤ gt) (h2 : w1.heap.size ≤ wp) : ApR gp g (.slice none 0 0) vk wp gt (.slice none 0 0) := by
  have l1 := hp.lt
  have l2 := hp.t.lt
  have l3 := fun k hk => (hp.t.kn.lt k hk).2
  refine ⟨fun k hk => ?_, fun k hk => ?_⟩
  · rcases hk with rfl | rfl | hk
    · exact ⟨by omega, by omega, fun e => by cases e⟩
    · exact ⟨by omega, by omega, fun e => by cases e⟩
    · cases hk
  · rcases hk with rfl | rfl | hk
    · exact ⟨by omega, by omega, fun e => (by cases e), fun e => by have := l3 _ e; omega⟩
    · exact ⟨by omega, by omega, fun e => (by cases e), fun e => by have := l3 _ e; omega⟩
    · cases hk
end Go.Proofs.YtmlnboibclfmcaaDoor
namespace Go.Proofs.YtmlnboibclfmcaaDoor
open Go.ChangeShapes Go.WideShapes Go.ChangeAt Go.RowKit
set_option linter.unusedVariables false

theorem full_cut {w : World} {g : Nat} {rows F : List RowL} (hF : rows ++ List.replicate 80 markW = F) (h : WB w g F) (hl : rows.length ≤ 1000) : RbW w (.slice (some ⟨g, 0, none⟩) rows.length (rows.length + 80)) rows := by
  refine Or.inr ⟨g, 0, rows.length + 80, rfl, by omega, by unfold maxLen; omega, h.lt, fun i hi => ?_⟩
  have hil : i < F.length := by rw [← hF]; simp; omega
  have := h.cell hil
  subst hF
  rw [List.getElem_append_left hi] at this
  simpa using this
theorem full_all {w : World} {g : Nat} {rows F : List RowL} (hF : rows ++ List.replicate 80 markW = F) (h : WB w g F) (hl : rows.length ≤ 1000) : RbW w (.slice (some ⟨g, 0, none⟩) (rows.length + 80) (rows.length + 80)) (rows ++ List.replicate 80 markW) := by
  subst hF
  have := h.rb (by simp; omega)
  rw [show (rows ++ List.replicate 80 markW).length = rows.length + 80 by simp] at this
  exact this

set_option linter.unusedSimpArgs false in
set_option maxHeartbeats 64000000 in
set_option maxRecDepth 100000 in
theorem packplays_any (most : Int) (b0 : -9223372036854775808 ≤ most) (b1 : most ≤ 9223372036854775807) (v : Value) (L : List AskR) (w : World) (hm : MaxOk w) (hr : RbK w v L) (hok : ∀ x ∈ L, AskRR x) :
    Calls Tryd.prog 9 #[.int .i64 most, v] w fun e w' => e = .returned (.bool true) ∧ Aft w w' := by
  have HMA := Lib.hid (fun w' (a : Aft w w') => hm.aft a)
  obtain ⟨va, vc, vb, voff, rfl, hvc, hvm, hcell⟩ := hr.open
  unfold maxLen at hvm
  have HCELL := Lib.hid hcell
  have HOK := Lib.hid hok
  by_cases hrange : ¬ (0 ≤ most ∧ most ≤ 65536)
  · have HN1 := Lib.hid (pnew_no most hrange w)
    have HN2 := Lib.hid (rnew_no most hrange w)
    clear hr hm hcell hok b0 b1 hrange
    go_enter Tryd.func9, Tryd.ntmps9
    go_wp2_with fail
    refine HN1.out.mono ?_
    rintro e w0 ⟨rfl, rfl⟩
    go_wp2_with fail
    refine HN2.out.mono ?_
    rintro e w0 ⟨rfl, rfl⟩
    go_wp2_with fail
    refine (packruns_any w (HMA.out w (Aft.refl w))).mono ?_
    rintro e w5 ⟨rfl, a5⟩
    have HA5 := Lib.hid a5
    clear a5
    go_wp2_with fail
    go_ret
    exact ⟨rfl, HA5.out⟩
  have hrange := Decidable.not_not.1 hrange
  have HNP := Lib.hid (pnew_yes most hrange.1 hrange.2 w hm)
  have HNR := Lib.hid (fun w => rnew_yes most hrange.1 hrange.2 w)
  have HRG := Lib.hid hrange
  clear hr hm hcell hok b0 b1 hrange
  go_enter Tryd.func9, Tryd.ntmps9
  go_wp2_with fail
  refine HNP.out.mono ?_
  rintro e w1 ⟨gp, g, vk, rfl, hp1, a1⟩
  have HP1 := Lib.hid hp1
  have HA1 := Lib.hid a1
  have HNR1 := Lib.hid (HNR.out w1)
  clear hp1 a1 HNP HNR
  go_wp2_with fail
  refine HNR1.out.mono ?_
  rintro e w2 ⟨gt, rfl, ht2, a2⟩
  have a3 : Aft w2 (w2.alloc (.cells #[.pointer (some ⟨gt, 0, none⟩), .int .i64 (-1), .int .i64 0] 66)) := (Aft.refl w2).alloc _
  have HR0 : Hid (RPk (w2.alloc (.cells #[.pointer (some ⟨gt, 0, none⟩), .int .i64 (-1), .int .i64 0] 66)) w1.heap.size w2.heap.size gt (.slice none 0 0) [] most (-1) 0) := Lib.hid ⟨ht2.aft a3, heap_alloc_new w2 _, a2.to.size⟩
  have HP := Lib.hid ((HP1.out.aft a2).aft a3)
  have HAP : Hid (ApR gp g (.slice none 0 0) vk w2.heap.size gt (.slice none 0 0)) := Lib.hid (ApR.start (w2 := w2) (w3 := w2) (lr := []) (mr := 0) (rl := 0) (rn := 0) HP1.out ht2.gB a2.to.size)
  have HA := Lib.hid ((HA1.out.trans a2).trans a3)
  have HB1 := Lib.hid (And.intro HA1.out.to.size (Nat.le_trans a2.to.size a3.to.size))
  have HQ := Lib.hid (QR.init most HRG.out.1 HRG.out.2)
  clear a2 a3 ht2 HNR1 HP1 HA1 HRG
  go_wp2_with fail
  generalize w2.heap.size = wp at HR0 HAP ⊢
  generalize w2.alloc (.cells #[.pointer (some ⟨gt, 0, none⟩), .int .i64 (-1), .int .i64 0] 66) = w3 at HR0 HP HA HB1 ⊢
  generalize w1.heap.size = B2 at HR0 HB1
  go_loopw [10] (fun vi wr => ∃ (k : Nat) (lp : List FieldL) (mp least rl rn : Int) (told : Bool) (vo vo2 : Value), k ≤ L.length ∧ k ≤ 15 ∧ vi = .int .i64 (k : Int) ∧ Hid (Pk wr w.heap.size gp g vo vk lp mp told least) ∧ Hid (RPk wr B2 wp gt vo2 lp mp rl rn) ∧ Hid (QR lp mp told least rl rn) ∧ Hid (ApR gp g vo vk wp gt vo2) ∧ Hid (Aft w wr) ∧ Hid (w.heap.size ≤ B2 ∧ B2 ≤ wr.heap.size)) (fun vi _ => L.length - (intOf vi).toNat)
  case atStart => exact ⟨0, [], most, 0, -1, 0, true, _, _, by omega, by omega, by go_num, HP, HR0, HQ, HAP, HA, HB1⟩
  case round =>
    clear HP HR0 HQ HAP HA HB1
    obtain ⟨k, lp, mp, least, rl, rn, told, vo, vo2, hk, hk15, rfl, HP, HR, HQ, HAP, HA, HBB⟩ := hrel
    by_cases hlt : k < L.length
    · have i1 : (k : Int) < (L.length : Int) := by omega
      by_cases hlt15 : k < 15
      · have i2 : (k : Int) < 15 := by omega
        obtain ⟨rfl, kd, nn, rows, ra, rc, ekd, enn, erw, c0, c1, c2, hrc1, hrc2, hrw⟩ := RbK.next HCELL.out HA.out hlt
        have hak := HOK.out _ (List.getElem_mem hlt)
        have HN2 : Hid ((-9223372036854775808 ≤ nn ∧ nn ≤ 9223372036854775807) ∧ RowsLim rows) := Lib.hid ⟨⟨by rw [← enn]; exact hak.n0, by rw [← enn]; exact hak.n1⟩, by have := hak.lim; rw [erw] at this; exact this⟩
        unfold maxLen at hrc2
        have HRW := Lib.hid hrw
        have HLT := Lib.hid hlt
        clear hak ekd enn erw hrw hlt hk
        have hAx : Aft wr (wr.alloc (.cells #[.int .i64 kd, .int .i64 nn, .slice ra rows.length rc] 68)) := (Aft.refl wr).alloc _
        have hxx : AB3 (wr.alloc (.cells #[.int .i64 kd, .int .i64 nn, .slice ra rows.length rc] 68)) wr.heap.size kd nn (.slice ra rows.length rc) := heap_alloc_new wr _
        have HS : Hid (ST w (wr.alloc (.cells #[.int .i64 kd, .int .i64 nn, .slice ra rows.length rc] 68)) B2 gp g wp gt wr.heap.size vk kd nn (.slice ra rows.length rc) lp mp told least vo lp mp rl rn vo2) := Lib.hid ⟨HP.out.aft hAx, HR.out.aft hAx, HAP.out, hxx, HA.out.trans hAx, HBB.out.1, Nat.le_trans HBB.out.2 hAx.to.size⟩
        clear hAx hxx HP HR HAP HA HBB
        go_upto_region 12 with fail
        clear c0 c1 c2
        generalize wr.heap.size = gx at HS ⊢
        generalize wr.alloc (.cells #[.int .i64 kd, .int .i64 nn, .slice ra rows.length rc] 68) = wx at HS ⊢
        obtain ⟨y0, y1, y2⟩ := HS.out.ab.cells
        by_cases hkd2 : kd = 2
        · subst hkd2
          by_cases hnr : 0 ≤ nn ∧ nn ≤ 65536
          · have HNR := Lib.hid hnr
            clear hnr
            have HSB : Hid (sumF lp ≤ 1000000000000) := Lib.hid (by have h1 := HQ.out.p0; have h2 := HQ.out.m1; omega)
            go_upto_region 13 with fail
            have HX := HS
            replace HS := Lib.hid (HS.out.to ((Aft.refl wx).drew))
            refine wp_region_held_drew (S := fun wz => AB3 wz gx 2 nn (.slice ra rows.length rc)) (by kernel_rfl) HS.out.ab (fun hHeld => ?_)
            generalize wx.drew = W8 at HS hHeld ⊢
            clear y0 y1 y2 HX
            refine wpAnyH_take (i := 0) (oi := { dst := some 59, op := Go.Op.move (Go.Operand.tmp 5), type := 51, pos := _, after := _, guard := _ }) (v := ?_) rfl (by kernel_rfl) (by kernel_rfl) (by kernel_rfl) (fun _ _ _ h => h) (Or.inl ⟨by rfl, ?_⟩) (by exact hHeld) ?_
            rotate_left
            · intro w hSw; go_simp; try with_reducible rfl
            try simp only [Act.put]
            try simp only [List.setIfInBounds_toArray]
            try simp only [List.set]
            refine wpAnyH_take (i := 1) (oi := { dst := some 60, op := Go.Op.fieldAddr 68 (Go.Operand.tmp 11) 1, type := 0, pos := _, after := _, guard := _ }) (v := ?_) rfl (by kernel_rfl) (by kernel_rfl) (by kernel_rfl) (fun _ _ _ h => h) (Or.inl ⟨by rfl, ?_⟩) (by exact hHeld) ?_
            rotate_left
            · intro w hSw; go_simp; try with_reducible rfl
            try simp only [Act.put]
            try simp only [List.setIfInBounds_toArray]
            try simp only [List.set]
            refine wpAnyH_take (i := 2) (oi := { dst := some 61, op := Go.Op.load 3 (Go.Operand.tmp 60), type := 3, pos := _, after := _, guard := _ }) (v := ?_) rfl (by kernel_rfl) (by kernel_rfl) (by kernel_rfl) (fun _ _ _ h => h) (Or.inl ⟨by rfl, ?_⟩) (by exact hHeld) ?_
            rotate_left
            · intro w hSw; obtain ⟨z0, z1, z2⟩ := hSw.cells; go_simp; try with_reducible rfl
            try simp only [Act.put]
            try simp only [List.setIfInBounds_toArray]
            try simp only [List.set]
            refine wpAnyH_take (i := 4) (oi := { dst := some 63, op := Go.Op.move (Go.Operand.tmp 9), type := 64, pos := _, after := _, guard := _ }) (v := ?_) rfl (by kernel_rfl) (by kernel_rfl) (by kernel_rfl) (fun _ _ _ h => h) (Or.inl ⟨by rfl, ?_⟩) (by exact hHeld) ?_
            rotate_left
            · intro w hSw; go_simp; try with_reducible rfl
            try simp only [Act.put]
            try simp only [List.setIfInBounds_toArray]
            try simp only [List.set]
            refine wpAnyH_take (i := 5) (oi := { dst := some 64, op := Go.Op.fieldAddr 68 (Go.Operand.tmp 11) 1, type := 0, pos := _, after := _, guard := _ }) (v := ?_) rfl (by kernel_rfl) (by kernel_rfl) (by kernel_rfl) (fun _ _ _ h => h) (Or.inl ⟨by rfl, ?_⟩) (by exact hHeld) ?_
            rotate_left
            · intro w hSw; go_simp; try with_reducible rfl
            try simp only [Act.put]
            try simp only [List.setIfInBounds_toArray]
            try simp only [List.set]
            refine wpAnyH_take (i := 6) (oi := { dst := some 65, op := Go.Op.load 3 (Go.Operand.tmp 64), type := 3, pos := _, after := _, guard := _ }) (v := ?_) rfl (by kernel_rfl) (by kernel_rfl) (by kernel_rfl) (fun _ _ _ h => h) (Or.inl ⟨by rfl, ?_⟩) (by exact hHeld) ?_
            rotate_left
            · intro w hSw; obtain ⟨z0, z1, z2⟩ := hSw.cells; go_simp; try with_reducible rfl
            try simp only [Act.put]
            try simp only [List.setIfInBounds_toArray]
            try simp only [List.set]
            refine wpAnyH_ready (rs := [3]) (by kernel_rfl) (by simp) ?_
            refine (AllReadyH.cons (o := { dst := some 62, op := Go.Op.call { callee := Go.Callee.value (Go.Operand.func 39), args := #[Go.Operand.tmp 59, Go.Operand.tmp 61], argTypes := #[51, 3] }, type := 23, pos := _, after := _, guard := _ }) rfl (fun K hK => ?_) AllReadyH.nil)
            go_simp
            go_at_call 39
            refine (presize_yes nn HS.out.pk HSB.out HNR.out.1 HNR.out.2).mono ?_
            rintro e w6 ⟨rfl, vo6, h6, c6, o6⟩
            replace HS := Lib.hid (HS.out.stepP h6 c6 (fun k hk => Or.inl (o6 k hk)))
            clear h6 c6 o6
            have hS2 := HS.out.ab
            clear hHeld
            refine hK.out _ _ hS2 (fun hHeld => ?_)
            clear hK K hS2
            try simp only [Act.put]
            try simp only [List.setIfInBounds_toArray]
            try simp only [List.set]
            refine wpAnyH_ready (rs := [7]) (by kernel_rfl) (by simp) ?_
            refine (AllReadyH.cons (o := { dst := some 66, op := Go.Op.call { callee := Go.Callee.value (Go.Operand.func 41), args := #[Go.Operand.tmp 63, Go.Operand.tmp 65], argTypes := #[64, 3] }, type := 3, pos := _, after := _, guard := _ }) rfl (fun K hK => ?_) AllReadyH.nil)
            go_simp
            go_at_call 41
            refine (rpresize_yes nn HS.out.rk HSB.out HNR.out.1 HNR.out.2).mono ?_
            rintro e w7 ⟨rfl, vo7, h7, c7, o7⟩
            replace HS := Lib.hid (HS.out.stepR h7 c7 (fun k hk => Or.inl (o7 k hk)))
            clear h7 c7 o7
            have hS2 := HS.out.ab
            clear hHeld
            refine hK.out _ _ hS2 (fun hHeld => ?_)
            clear hK K hS2
            try simp only [Act.put]
            try simp only [List.setIfInBounds_toArray]
            try simp only [List.set]
            refine wpAnyH_take (i := 8) (oi := { dst := some 67, op := Go.Op.binOp Go.BinOp.neq 3 (Go.Operand.tmp 62) (Go.Operand.tmp 66) 3, type := 4, pos := _, after := _, guard := _ }) (v := ?_) rfl (by kernel_rfl) (by kernel_rfl) (by kernel_rfl) (fun _ _ _ h => h) (Or.inl ⟨by rfl, ?_⟩) (by exact hHeld) ?_
            rotate_left
            · intro w hSw; go_simp; try with_reducible rfl
            try simp only [Act.put]
            try simp only [List.setIfInBounds_toArray]
            try simp only [List.set]
            refine wpAnyH_done (by kernel_rfl) ?_ _
            all_goals
              clear hHeld
              replace HQ := Lib.hid (HQ.out.resize nn HNR.out.1 HNR.out.2)
              have HPT := Lib.hid (ptable_any HS.out.pk)
              go_wp2_with fail
              refine HPT.out.mono ?_
              rintro e w11 ⟨rfl, a11⟩
              replace HS := Lib.hid (HS.out.to a11)
              clear a11 HPT
              have HSZ := Lib.hid (rsize_any HS.out.rk.t (by have h1 := HQ.out.p0; have h2 := HQ.out.m1; omega))
              obtain ⟨ta, tk, hte, -, -⟩ := HS.out.rk.t.own.slice
              obtain ⟨p0, p1, p2, -, -⟩ := HS.out.rk.cells
              obtain ⟨q0, q1, -, -⟩ := HS.out.rk.t.cells
              rw [hte] at q0
              go_wp2_with fail
              refine HSZ.out.mono ?_
              rintro e w12 ⟨rfl, a12⟩
              replace HS := Lib.hid (HS.out.to a12)
              clear a12 HSZ p0 p1 p2 q0 q1 hte
              obtain ⟨p0, p1, p2, -, -⟩ := HS.out.rk.cells
              obtain ⟨q0, q1, -, -⟩ := HS.out.rk.t.cells
              go_wp2_with fail
              go_roundw
              case rel => exact ⟨k + 1, _, _, _, _, _, _, _, _, HLT.out, by omega, by go_num, Lib.hid HS.out.pk, Lib.hid HS.out.rk, HQ, Lib.hid HS.out.ap, Lib.hid HS.out.aft, Lib.hid ⟨HS.out.hB, HS.out.hB2⟩⟩
              case measure => have := HLT.out; simp [intOf]; omega
          · have HNR := Lib.hid hnr
            clear hnr
            go_upto_region 13 with fail
            have HX := HS
            replace HS := Lib.hid (HS.out.to ((Aft.refl wx).drew))
            refine wp_region_held_drew (S := fun wz => AB3 wz gx 2 nn (.slice ra rows.length rc)) (by kernel_rfl) HS.out.ab (fun hHeld => ?_)
            generalize wx.drew = W8 at HS hHeld ⊢
            clear y0 y1 y2 HX
            refine wpAnyH_take (i := 0) (oi := { dst := some 59, op := Go.Op.move (Go.Operand.tmp 5), type := 51, pos := _, after := _, guard := _ }) (v := ?_) rfl (by kernel_rfl) (by kernel_rfl) (by kernel_rfl) (fun _ _ _ h => h) (Or.inl ⟨by rfl, ?_⟩) (by exact hHeld) ?_
            rotate_left
            · intro w hSw; go_simp; try with_reducible rfl
            try simp only [Act.put]
            try simp only [List.setIfInBounds_toArray]
            try simp only [List.set]
            refine wpAnyH_take (i := 1) (oi := { dst := some 60, op := Go.Op.fieldAddr 68 (Go.Operand.tmp 11) 1, type := 0, pos := _, after := _, guard := _ }) (v := ?_) rfl (by kernel_rfl) (by kernel_rfl) (by kernel_rfl) (fun _ _ _ h => h) (Or.inl ⟨by rfl, ?_⟩) (by exact hHeld) ?_
            rotate_left
            · intro w hSw; go_simp; try with_reducible rfl
            try simp only [Act.put]
            try simp only [List.setIfInBounds_toArray]
            try simp only [List.set]
            refine wpAnyH_take (i := 2) (oi := { dst := some 61, op := Go.Op.load 3 (Go.Operand.tmp 60), type := 3, pos := _, after := _, guard := _ }) (v := ?_) rfl (by kernel_rfl) (by kernel_rfl) (by kernel_rfl) (fun _ _ _ h => h) (Or.inl ⟨by rfl, ?_⟩) (by exact hHeld) ?_
            rotate_left
            · intro w hSw; obtain ⟨z0, z1, z2⟩ := hSw.cells; go_simp; try with_reducible rfl
            try simp only [Act.put]
            try simp only [List.setIfInBounds_toArray]
            try simp only [List.set]
            refine wpAnyH_take (i := 4) (oi := { dst := some 63, op := Go.Op.move (Go.Operand.tmp 9), type := 64, pos := _, after := _, guard := _ }) (v := ?_) rfl (by kernel_rfl) (by kernel_rfl) (by kernel_rfl) (fun _ _ _ h => h) (Or.inl ⟨by rfl, ?_⟩) (by exact hHeld) ?_
            rotate_left
            · intro w hSw; go_simp; try with_reducible rfl
            try simp only [Act.put]
            try simp only [List.setIfInBounds_toArray]
            try simp only [List.set]
            refine wpAnyH_take (i := 5) (oi := { dst := some 64, op := Go.Op.fieldAddr 68 (Go.Operand.tmp 11) 1, type := 0, pos := _, after := _, guard := _ }) (v := ?_) rfl (by kernel_rfl) (by kernel_rfl) (by kernel_rfl) (fun _ _ _ h => h) (Or.inl ⟨by rfl, ?_⟩) (by exact hHeld) ?_
            rotate_left
            · intro w hSw; go_simp; try with_reducible rfl
            try simp only [Act.put]
            try simp only [List.setIfInBounds_toArray]
            try simp only [List.set]
            refine wpAnyH_take (i := 6) (oi := { dst := some 65, op := Go.Op.load 3 (Go.Operand.tmp 64), type := 3, pos := _, after := _, guard := _ }) (v := ?_) rfl (by kernel_rfl) (by kernel_rfl) (by kernel_rfl) (fun _ _ _ h => h) (Or.inl ⟨by rfl, ?_⟩) (by exact hHeld) ?_
            rotate_left
            · intro w hSw; obtain ⟨z0, z1, z2⟩ := hSw.cells; go_simp; try with_reducible rfl
            try simp only [Act.put]
            try simp only [List.setIfInBounds_toArray]
            try simp only [List.set]
            refine wpAnyH_ready (rs := [3]) (by kernel_rfl) (by simp) ?_
            refine (AllReadyH.cons (o := { dst := some 62, op := Go.Op.call { callee := Go.Callee.value (Go.Operand.func 39), args := #[Go.Operand.tmp 59, Go.Operand.tmp 61], argTypes := #[51, 3] }, type := 23, pos := _, after := _, guard := _ }) rfl (fun K hK => ?_) AllReadyH.nil)
            go_simp
            go_at_call 39
            refine (presize_no nn HNR.out HS.out.pk).mono ?_
            rintro e w6 ⟨rfl, rfl⟩
            have hS2 := HS.out.ab
            clear hHeld
            refine hK.out _ _ hS2 (fun hHeld => ?_)
            clear hK K hS2
            try simp only [Act.put]
            try simp only [List.setIfInBounds_toArray]
            try simp only [List.set]
            refine wpAnyH_ready (rs := [7]) (by kernel_rfl) (by simp) ?_
            refine (AllReadyH.cons (o := { dst := some 66, op := Go.Op.call { callee := Go.Callee.value (Go.Operand.func 41), args := #[Go.Operand.tmp 63, Go.Operand.tmp 65], argTypes := #[64, 3] }, type := 3, pos := _, after := _, guard := _ }) rfl (fun K hK => ?_) AllReadyH.nil)
            go_simp
            go_at_call 41
            refine (rpresize_no nn HNR.out HS.out.rk).mono ?_
            rintro e w7 ⟨rfl, rfl⟩
            have hS2 := HS.out.ab
            clear hHeld
            refine hK.out _ _ hS2 (fun hHeld => ?_)
            clear hK K hS2
            try simp only [Act.put]
            try simp only [List.setIfInBounds_toArray]
            try simp only [List.set]
            refine wpAnyH_take (i := 8) (oi := { dst := some 67, op := Go.Op.binOp Go.BinOp.neq 3 (Go.Operand.tmp 62) (Go.Operand.tmp 66) 3, type := 4, pos := _, after := _, guard := _ }) (v := ?_) rfl (by kernel_rfl) (by kernel_rfl) (by kernel_rfl) (fun _ _ _ h => h) (Or.inl ⟨by rfl, ?_⟩) (by exact hHeld) ?_
            rotate_left
            · intro w hSw; go_simp; try with_reducible rfl
            try simp only [Act.put]
            try simp only [List.setIfInBounds_toArray]
            try simp only [List.set]
            refine wpAnyH_done (by kernel_rfl) ?_ _
            all_goals
              clear hHeld
              have HPT := Lib.hid (ptable_any HS.out.pk)
              go_wp2_with fail
              refine HPT.out.mono ?_
              rintro e w11 ⟨rfl, a11⟩
              replace HS := Lib.hid (HS.out.to a11)
              clear a11 HPT
              have HSZ := Lib.hid (rsize_any HS.out.rk.t (by have h1 := HQ.out.p0; have h2 := HQ.out.m1; omega))
              obtain ⟨ta, tk, hte, -, -⟩ := HS.out.rk.t.own.slice
              obtain ⟨p0, p1, p2, -, -⟩ := HS.out.rk.cells
              obtain ⟨q0, q1, -, -⟩ := HS.out.rk.t.cells
              rw [hte] at q0
              go_wp2_with fail
              refine HSZ.out.mono ?_
              rintro e w12 ⟨rfl, a12⟩
              replace HS := Lib.hid (HS.out.to a12)
              clear a12 HSZ p0 p1 p2 q0 q1 hte
              obtain ⟨p0, p1, p2, -, -⟩ := HS.out.rk.cells
              obtain ⟨q0, q1, -, -⟩ := HS.out.rk.t.cells
              go_wp2_with fail
              go_roundw
              case rel => exact ⟨k + 1, _, _, _, _, _, _, _, _, HLT.out, by omega, by go_num, Lib.hid HS.out.pk, Lib.hid HS.out.rk, HQ, Lib.hid HS.out.ap, Lib.hid HS.out.aft, Lib.hid ⟨HS.out.hB, HS.out.hB2⟩⟩
              case measure => have := HLT.out; simp [intOf]; omega
        · have HLI := Lib.hid (light8_any (.slice ra rows.length rc) rows wx (HRW.out.aft HS.out.aft) HN2.out.2)
          by_cases hsm : ¬ sumR rows ≤ 3000
          · rw [decide_eq_false hsm] at HLI
            clear hsm
            go_wp2_with fail
            refine HLI.out.mono ?_
            rintro e w4 ⟨rfl, a4⟩
            replace HS := Lib.hid (HS.out.to a4)
            clear a4 HLI
            have HPT := Lib.hid (ptable_any HS.out.pk)
            clear y0 y1 y2
            go_wp2_with fail
            refine HPT.out.mono ?_
            rintro e w11 ⟨rfl, a11⟩
            replace HS := Lib.hid (HS.out.to a11)
            clear a11 HPT
            have HSZ := Lib.hid (rsize_any HS.out.rk.t (by have h1 := HQ.out.p0; have h2 := HQ.out.m1; omega))
            obtain ⟨ta, tk, hte, -, -⟩ := HS.out.rk.t.own.slice
            obtain ⟨p0, p1, p2, -, -⟩ := HS.out.rk.cells
            obtain ⟨q0, q1, -, -⟩ := HS.out.rk.t.cells
            rw [hte] at q0
            go_wp2_with fail
            refine HSZ.out.mono ?_
            rintro e w12 ⟨rfl, a12⟩
            replace HS := Lib.hid (HS.out.to a12)
            clear a12 HSZ p0 p1 p2 q0 q1 hte
            obtain ⟨p0, p1, p2, -, -⟩ := HS.out.rk.cells
            obtain ⟨q0, q1, -, -⟩ := HS.out.rk.t.cells
            go_wp2_with fail
            go_roundw
            case rel => exact ⟨k + 1, _, _, _, _, _, _, _, _, HLT.out, by omega, by go_num, Lib.hid HS.out.pk, Lib.hid HS.out.rk, HQ, Lib.hid HS.out.ap, Lib.hid HS.out.aft, Lib.hid ⟨HS.out.hB, HS.out.hB2⟩⟩
            case measure => have := HLT.out; simp [intOf]; omega
          · have hsm := Decidable.not_not.1 hsm
            rw [decide_eq_true hsm] at HLI
            have HSM := Lib.hid hsm
            have hrl : rows.length ≤ 1000 := by have := sumR_len rows; omega
            clear hsm
            go_wp2_with fail
            refine HLI.out.mono ?_
            rintro e w4 ⟨rfl, a4⟩
            replace HS := Lib.hid (HS.out.to a4)
            clear a4 HLI y0 y1 y2
            obtain ⟨y0, y1, y2⟩ := HS.out.ab.cells
            have HRO := Lib.hid (roomyW_any (.slice ra rows.length rc) rows w4 (HRW.out.aft HS.out.aft) (by omega))
            go_wp2_with fail
            refine HRO.out.mono ?_
            rintro e w5 ⟨gf, rfl, hf5, a5, -⟩
            replace HS := Lib.hid (HS.out.to a5)
            clear a5 HRO y0 y1 y2
            obtain ⟨F, hF⟩ : ∃ F, rows ++ List.replicate 80 markW = F := ⟨_, rfl⟩
            rw [hF] at hf5
            have HF := hf5
            have HFE := Lib.hid hF
            have HFL : Hid (F.length = rows.length + 80) := Lib.hid (by rw [← hF]; simp)
            clear hf5 hF
            obtain ⟨y0, y1, y2⟩ := HS.out.ab.cells
            have HPB := Lib.hid (fun (wc : World) (vo : Value) (h : Pk wc w.heap.size gp g vo vk lp mp told least) (hB : w.heap.size ≤ wc.heap.size) (hw : WB wc gf F) => pblock_any (.slice (some ⟨gf, 0, none⟩) rows.length (rows.length + 80)) rows h HQ.out.p0 HQ.out.m0 HQ.out.m1 HQ.out.l0 HQ.out.l1 hB (fun wx hc => full_cut HFE.out (hw.chg' hc (hw.pk h)) (by omega)) (by have := HSM.out; omega))
            have HRB := Lib.hid (fun (wc : World) (vo2 : Value) (a : Aft w wc) (hB0 : w.heap.size ≤ B2) (h : RPk wc B2 wp gt vo2 lp mp rl rn) (hB : B2 ≤ wc.heap.size) => rpblock_any (.slice ra rows.length rc) rows h HQ.out.p0 HQ.out.m0 HQ.out.m1 (by have h1 := HQ.out.r; have h2 := HQ.out.l0; rw [h1]; split <;> omega) (by have h1 := HQ.out.r; have h2 := HQ.out.l1; rw [h1]; split <;> omega) HQ.out.n0 HQ.out.n1 hB (fun wx hc => HRW.out.oldR a h hB0 wx hc) (by have := HSM.out; omega))
            rw [HQ.out.sizes] at HRB
            have HQ2 := Lib.hid (HQ.out.block rows)
            obtain ⟨X, hX⟩ : ∃ X, (rowsB mp (sizesL told least mp, lp) rows).1 = X := ⟨_, rfl⟩
            obtain ⟨T, hT⟩ : ∃ X, (rowsB mp (sizesL told least mp, lp) rows).2 = X := ⟨_, rfl⟩
            rw [hX, hT] at HPB HRB
            rw [hT] at HQ2
            clear hX hT
            have jz1 : (rows.length : Int) ≤ (rows.length : Int) + 80 := by omega
            go_upto_region 17 with fail
            replace HS := Lib.hid (HS.out.to ((Aft.refl w5).drew))
            replace HF := Lib.hid (HF.out.aft7 ((Aft.refl w5).drew))
            refine wp_region_held_drew (S := fun wz => AB3 wz gx kd nn (.slice ra rows.length rc)) (by kernel_rfl) HS.out.ab (fun hHeld => ?_)
            generalize w5.drew = W8 at HS HF hHeld ⊢
            clear y0 y1 y2
            refine wpAnyH_take (i := 0) (oi := { dst := some 75, op := Go.Op.move (Go.Operand.tmp 5), type := 51, pos := _, after := _, guard := _ }) (v := ?_) rfl (by kernel_rfl) (by kernel_rfl) (by kernel_rfl) (fun _ _ _ h => h) (Or.inl ⟨by rfl, ?_⟩) (by exact hHeld) ?_
            rotate_left
            · intro w hSw; go_simp; try with_reducible rfl
            try simp only [Act.put]
            try simp only [List.setIfInBounds_toArray]
            try simp only [List.set]
            refine wpAnyH_take (i := 1) (oi := { dst := some 76, op := Go.Op.move (Go.Operand.tmp 12), type := 59, pos := _, after := _, guard := _ }) (v := ?_) rfl (by kernel_rfl) (by kernel_rfl) (by kernel_rfl) (fun _ _ _ h => h) (Or.inl ⟨by rfl, ?_⟩) (by exact hHeld) ?_
            rotate_left
            · intro w hSw; go_simp; try with_reducible rfl
            try simp only [Act.put]
            try simp only [List.setIfInBounds_toArray]
            try simp only [List.set]
            refine wpAnyH_take (i := 2) (oi := { dst := some 77, op := Go.Op.fieldAddr 68 (Go.Operand.tmp 11) 2, type := 0, pos := _, after := _, guard := _ }) (v := ?_) rfl (by kernel_rfl) (by kernel_rfl) (by kernel_rfl) (fun _ _ _ h => h) (Or.inl ⟨by rfl, ?_⟩) (by exact hHeld) ?_
            rotate_left
            · intro w hSw; go_simp; try with_reducible rfl
            try simp only [Act.put]
            try simp only [List.setIfInBounds_toArray]
            try simp only [List.set]
            refine wpAnyH_take (i := 3) (oi := { dst := some 78, op := Go.Op.load 59 (Go.Operand.tmp 77), type := 59, pos := _, after := _, guard := _ }) (v := ?_) rfl (by kernel_rfl) (by kernel_rfl) (by kernel_rfl) (fun _ _ _ h => h) (Or.inl ⟨by rfl, ?_⟩) (by exact hHeld) ?_
            rotate_left
            · intro w hSw; obtain ⟨z0, z1, z2⟩ := hSw.cells; go_simp; try with_reducible rfl
            try simp only [Act.put]
            try simp only [List.setIfInBounds_toArray]
            try simp only [List.set]
            refine wpAnyH_take (i := 4) (oi := { dst := some 79, op := Go.Op.call { callee := Go.Callee.builtin Go.Builtin.len, args := #[Go.Operand.tmp 78], argTypes := #[59] }, type := 3, pos := _, after := _, guard := _ }) (v := ?_) rfl (by kernel_rfl) (by kernel_rfl) (by kernel_rfl) (fun _ _ _ h => h) (Or.inl ⟨by rfl, ?_⟩) (by exact hHeld) ?_
            rotate_left
            · intro w hSw; go_simp; try with_reducible rfl
            try simp only [Act.put]
            try simp only [List.setIfInBounds_toArray]
            try simp only [List.set]
            refine wpAnyH_take (i := 5) (oi := { dst := some 80, op := Go.Op.slice 59 (Go.Operand.tmp 76) none (some (Go.Operand.tmp 79)) none, type := 59, pos := _, after := _, guard := _ }) (v := ?_) rfl (by kernel_rfl) (by kernel_rfl) (by kernel_rfl) (fun _ _ _ h => h) (Or.inl ⟨by rfl, ?_⟩) (by exact hHeld) ?_
            rotate_left
            · intro w hSw; go_simp; try with_reducible rfl
            try simp only [Act.put]
            try simp only [List.setIfInBounds_toArray]
            try simp only [List.set]
            refine wpAnyH_take (i := 7) (oi := { dst := some 82, op := Go.Op.move (Go.Operand.tmp 9), type := 64, pos := _, after := _, guard := _ }) (v := ?_) rfl (by kernel_rfl) (by kernel_rfl) (by kernel_rfl) (fun _ _ _ h => h) (Or.inl ⟨by rfl, ?_⟩) (by exact hHeld) ?_
            rotate_left
            · intro w hSw; go_simp; try with_reducible rfl
            try simp only [Act.put]
            try simp only [List.setIfInBounds_toArray]
            try simp only [List.set]
            refine wpAnyH_take (i := 8) (oi := { dst := some 83, op := Go.Op.fieldAddr 68 (Go.Operand.tmp 11) 2, type := 0, pos := _, after := _, guard := _ }) (v := ?_) rfl (by kernel_rfl) (by kernel_rfl) (by kernel_rfl) (fun _ _ _ h => h) (Or.inl ⟨by rfl, ?_⟩) (by exact hHeld) ?_
            rotate_left
            · intro w hSw; go_simp; try with_reducible rfl
            try simp only [Act.put]
            try simp only [List.setIfInBounds_toArray]
            try simp only [List.set]
            refine wpAnyH_take (i := 9) (oi := { dst := some 84, op := Go.Op.load 59 (Go.Operand.tmp 83), type := 59, pos := _, after := _, guard := _ }) (v := ?_) rfl (by kernel_rfl) (by kernel_rfl) (by kernel_rfl) (fun _ _ _ h => h) (Or.inl ⟨by rfl, ?_⟩) (by exact hHeld) ?_
            rotate_left
            · intro w hSw; obtain ⟨z0, z1, z2⟩ := hSw.cells; go_simp; try with_reducible rfl
            try simp only [Act.put]
            try simp only [List.setIfInBounds_toArray]
            try simp only [List.set]
            refine wpAnyH_ready (rs := [6]) (by kernel_rfl) (by simp) ?_
            refine (AllReadyH.cons (o := { dst := some 81, op := Go.Op.call { callee := Go.Callee.value (Go.Operand.func 36), args := #[Go.Operand.tmp 75, Go.Operand.tmp 80], argTypes := #[51, 59] }, type := 54, pos := _, after := _, guard := _ }) rfl (fun K hK => ?_) AllReadyH.nil)
            go_simp
            go_at_call 36
            refine (HPB.out _ _ HS.out.pk HS.out.aft.to.size HF.out).mono ?_
            rintro e w6 ⟨v6, vo6, rfl, hi6⟩
            try replace HO7 := Lib.hid (HO7.out.chg hi6.chg (HO7.out.pk HS.out.pk))
            have HO6 := Lib.hid hi6.own
            replace HF := Lib.hid (HF.out.chg' hi6.chg (HF.out.pk HS.out.pk))
            replace HS := Lib.hid (HS.out.stepP hi6.pk hi6.chg hi6.ob)
            clear hi6
            have hS2 := HS.out.ab
            clear hHeld
            refine hK.out _ _ hS2 (fun hHeld => ?_)
            clear hK K hS2
            try simp only [Act.put]
            try simp only [List.setIfInBounds_toArray]
            try simp only [List.set]
            refine wpAnyH_ready (rs := [10]) (by kernel_rfl) (by simp) ?_
            refine (AllReadyH.cons (o := { dst := some 85, op := Go.Op.call { callee := Go.Callee.value (Go.Operand.func 44), args := #[Go.Operand.tmp 82, Go.Operand.tmp 84], argTypes := #[64, 59] }, type := 54, pos := _, after := _, guard := _ }) rfl (fun K hK => ?_) AllReadyH.nil)
            go_simp
            go_at_call 44
            refine (HRB.out _ _ HS.out.aft HS.out.hB HS.out.rk HS.out.hB2).mono ?_
            rintro e w7 ⟨v7, vo7, rfl, hi7⟩
            try replace HO6 := Lib.hid (HO6.out.chg hi7.chg (HO6.out.rpk HS.out.rk))
            have HO7 := Lib.hid hi7.own
            replace HF := Lib.hid (HF.out.chg' hi7.chg (HF.out.rpk HS.out.rk))
            replace HS := Lib.hid (HS.out.stepR hi7.pk hi7.chg hi7.ob)
            clear hi7
            have hS2 := HS.out.ab
            clear hHeld
            refine hK.out _ _ hS2 (fun hHeld => ?_)
            clear hK K hS2
            try simp only [Act.put]
            try simp only [List.setIfInBounds_toArray]
            try simp only [List.set]
            refine wpAnyH_ready (rs := [11]) (by kernel_rfl) (by simp) ?_
            refine (AllReadyH.cons (o := { dst := some 86, op := Go.Op.call { callee := Go.Callee.value (Go.Operand.func 40), args := #[Go.Operand.tmp 81, Go.Operand.tmp 85], argTypes := #[54, 54] }, type := 4, pos := _, after := _, guard := _ }) rfl (fun K hK => ?_) AllReadyH.nil)
            go_simp
            go_at_call 40
            refine (same_any v6 v7 X X _ HO6.out.rb HO7.out.rb).mono ?_
            rintro e w8 ⟨rfl, a8⟩
            rw [beq_self_eq_true]
            replace HF := Lib.hid (HF.out.aft7 a8)
            replace HS := Lib.hid (HS.out.to a8)
            clear a8
            have hS2 := HS.out.ab
            clear hHeld
            refine hK.out _ _ hS2 (fun hHeld => ?_)
            clear hK K hS2
            try simp only [Act.put]
            try simp only [List.setIfInBounds_toArray]
            try simp only [List.set]
            refine wpAnyH_take (i := 12) (oi := { dst := some 87, op := Go.Op.unOp Go.UnOp.not 4 (Go.Operand.tmp 86), type := 4, pos := _, after := _, guard := _ }) (v := ?_) rfl (by kernel_rfl) (by kernel_rfl) (by kernel_rfl) (fun _ _ _ h => h) (Or.inl ⟨by rfl, ?_⟩) (by exact hHeld) ?_
            rotate_left
            · intro w hSw; go_simp; try with_reducible rfl
            try simp only [Act.put]
            try simp only [List.setIfInBounds_toArray]
            try simp only [List.set]
            refine wpAnyH_take (i := 13) (oi := { dst := some 88, op := Go.Op.move (Go.Operand.tmp 87), type := 4, pos := _, after := _, guard := _ }) (v := ?_) rfl (by kernel_rfl) (by kernel_rfl) (by kernel_rfl) (fun _ _ _ h => h) (Or.inl ⟨by rfl, ?_⟩) (by exact hHeld) ?_
            rotate_left
            · intro w hSw; go_simp; try with_reducible rfl
            try simp only [Act.put]
            try simp only [List.setIfInBounds_toArray]
            try simp only [List.set]
            refine wpAnyH_take (i := 14) (oi := { dst := some 89, op := Go.Op.move (Go.Operand.tmp 12), type := 59, pos := _, after := _, guard := _ }) (v := ?_) rfl (by kernel_rfl) (by kernel_rfl) (by kernel_rfl) (fun _ _ _ h => h) (Or.inl ⟨by rfl, ?_⟩) (by exact hHeld) ?_
            rotate_left
            · intro w hSw; go_simp; try with_reducible rfl
            try simp only [Act.put]
            try simp only [List.setIfInBounds_toArray]
            try simp only [List.set]
            refine wpAnyH_take (i := 15) (oi := { dst := some 90, op := Go.Op.fieldAddr 68 (Go.Operand.tmp 11) 2, type := 0, pos := _, after := _, guard := _ }) (v := ?_) rfl (by kernel_rfl) (by kernel_rfl) (by kernel_rfl) (fun _ _ _ h => h) (Or.inl ⟨by rfl, ?_⟩) (by exact hHeld) ?_
            rotate_left
            · intro w hSw; go_simp; try with_reducible rfl
            try simp only [Act.put]
            try simp only [List.setIfInBounds_toArray]
            try simp only [List.set]
            refine wpAnyH_take (i := 16) (oi := { dst := some 91, op := Go.Op.load 59 (Go.Operand.tmp 90), type := 59, pos := _, after := _, guard := _ }) (v := ?_) rfl (by kernel_rfl) (by kernel_rfl) (by kernel_rfl) (fun _ _ _ h => h) (Or.inl ⟨by rfl, ?_⟩) (by exact hHeld) ?_
            rotate_left
            · intro w hSw; obtain ⟨z0, z1, z2⟩ := hSw.cells; go_simp; try with_reducible rfl
            try simp only [Act.put]
            try simp only [List.setIfInBounds_toArray]
            try simp only [List.set]
            refine wpAnyH_take (i := 17) (oi := { dst := some 92, op := Go.Op.build 57 #[(1, Go.Operand.const (Go.Value.int Go.IntKind.i64 8))], type := 57, pos := _, after := _, guard := _ }) (v := ?_) rfl (by kernel_rfl) (by kernel_rfl) (by kernel_rfl) (fun _ _ _ h => h) (Or.inl ⟨by rfl, ?_⟩) (by exact hHeld) ?_
            rotate_left
            · intro w hSw; go_simp; try with_reducible rfl
            try simp only [Act.put]
            try simp only [List.setIfInBounds_toArray]
            try simp only [List.set]
            refine wpAnyH_ready (rs := [18]) (by kernel_rfl) (by simp) ?_
            refine (AllReadyH.cons (o := { dst := some 93, op := Go.Op.call { callee := Go.Callee.value (Go.Operand.func 45), args := #[Go.Operand.tmp 89, Go.Operand.tmp 91, Go.Operand.tmp 92], argTypes := #[59, 59, 57] }, type := 4, pos := _, after := _, guard := _ }) rfl (fun K hK => ?_) AllReadyH.nil)
            go_simp
            go_at_call 45
            refine (intactW_any _ _ rows _ (full_all HFE.out HF.out (by omega)) (HRW.out.aft HS.out.aft) (by omega)).mono ?_
            rintro e w9 ⟨rfl, a9⟩
            replace HS := Lib.hid (HS.out.to a9)
            clear a9
            have hS2 := HS.out.ab
            clear hHeld
            refine hK.out _ _ hS2 (fun hHeld => ?_)
            clear hK K hS2
            try simp only [Act.put]
            try simp only [List.setIfInBounds_toArray]
            try simp only [List.set]
            refine wpAnyH_take (i := 19) (oi := { dst := some 94, op := Go.Op.unOp Go.UnOp.not 4 (Go.Operand.tmp 93), type := 4, pos := _, after := _, guard := _ }) (v := ?_) rfl (by kernel_rfl) (by kernel_rfl) (by kernel_rfl) (fun _ _ _ h => h) (Or.inl ⟨by rfl, ?_⟩) (by exact hHeld) ?_
            rotate_left
            · intro w hSw; go_simp; try with_reducible rfl
            try simp only [Act.put]
            try simp only [List.setIfInBounds_toArray]
            try simp only [List.set]
            refine wpAnyH_take (i := 20) (oi := { dst := some 95, op := Go.Op.pick (Go.Operand.tmp 88) (Go.Operand.const (Go.Value.bool true)) (Go.Operand.tmp 94), type := 4, pos := _, after := _, guard := _ }) (v := ?_) rfl (by kernel_rfl) (by kernel_rfl) (by kernel_rfl) (fun _ _ _ h => h) (Or.inl ⟨by rfl, ?_⟩) (by exact hHeld) ?_
            rotate_left
            · intro w hSw; go_simp; try with_reducible rfl
            try simp only [Act.put]
            try simp only [List.setIfInBounds_toArray]
            try simp only [List.set]
            refine wpAnyH_done (by kernel_rfl) ?_ _
            all_goals
              clear hHeld HO6 HO7 HF HPB HRB HQ
              have HQ := HQ2
              have HPT := Lib.hid (ptable_any HS.out.pk)
              go_wp2_with fail
              refine HPT.out.mono ?_
              rintro e w11 ⟨rfl, a11⟩
              replace HS := Lib.hid (HS.out.to a11)
              clear a11 HPT
              have HSZ := Lib.hid (rsize_any HS.out.rk.t (by have h1 := HQ.out.p0; have h2 := HQ.out.m1; omega))
              obtain ⟨ta, tk, hte, -, -⟩ := HS.out.rk.t.own.slice
              obtain ⟨p0, p1, p2, -, -⟩ := HS.out.rk.cells
              obtain ⟨q0, q1, -, -⟩ := HS.out.rk.t.cells
              rw [hte] at q0
              go_wp2_with fail
              refine HSZ.out.mono ?_
              rintro e w12 ⟨rfl, a12⟩
              replace HS := Lib.hid (HS.out.to a12)
              clear a12 HSZ p0 p1 p2 q0 q1 hte
              obtain ⟨p0, p1, p2, -, -⟩ := HS.out.rk.cells
              obtain ⟨q0, q1, -, -⟩ := HS.out.rk.t.cells
              go_wp2_with fail
              go_roundw
              case rel => exact ⟨k + 1, _, _, _, _, _, _, _, _, HLT.out, by omega, by go_num, Lib.hid HS.out.pk, Lib.hid HS.out.rk, HQ, Lib.hid HS.out.ap, Lib.hid HS.out.aft, Lib.hid ⟨HS.out.hB, HS.out.hB2⟩⟩
              case measure => have := HLT.out; simp [intOf]; omega
      · have i2 : ¬ (k : Int) < 15 := by omega
        go_wp2_with fail
        refine (packruns_any wr (HMA.out wr HA.out)).mono ?_
        rintro e w5 ⟨rfl, a5⟩
        have HA5 := Lib.hid (HA.out.trans a5)
        clear a5
        go_wp2_with fail
        go_ret
        exact ⟨rfl, HA5.out⟩
    · have i1 : ¬ (k : Int) < (L.length : Int) := by omega
      go_wp2_with fail
      refine (packruns_any wr (HMA.out wr HA.out)).mono ?_
      rintro e w5 ⟨rfl, a5⟩
      have HA5 := Lib.hid (HA.out.trans a5)
      clear a5
      go_wp2_with fail
      go_ret
      exact ⟨rfl, HA5.out⟩

set_option maxRecDepth 100000 in
theorem walkPackPlays (w : World) (hsh : w.ShapedOpen Tryd.prog) {H : Type} {enc : TypeId × Value → H} {base : Nat} {v1 : Value} {d1 : DataW H} {p1 : List MemPlace} (a0 : Int) (w0 : (Lit.int .i64 a0).wf = true)
    (hval1 : Value.okWide Tryd.prog w .any base 63 v1) (k1 : DataW.Trod enc Tryd.prog w 0 (fun _ => true) true 63 v1 d1 p1) (hk : (DataW.weightsEach Tryd.prog [3, 63] [(.lit (.int .i64 a0) : DataW H), d1]).all (· ≤ reachBytes) = true) :
    Calls Tryd.prog 9 #[.int .i64 a0, v1] w fun e w' => e = .returned (.bool true) ∧ Aft w w' := by
  obtain ⟨L, hr, hok⟩ := open_asks8R hval1 k1 (wt_at hk (j := 1) rfl rfl)
  have hb := bounds_i64 w0
  exact packplays_any a0 hb.1 hb.2 v1 L w (maxOk_of w hsh) hr hok
end Go.Proofs.YtmlnboibclfmcaaDoor
