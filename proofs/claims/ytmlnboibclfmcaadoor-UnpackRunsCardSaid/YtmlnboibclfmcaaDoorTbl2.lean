/-
  HPACK's table: shrink, Resize, Add, Get.
-/
import Derived.Test.YtmlnboibclfmcaaDoorTbl
namespace Go.Proofs.YtmlnboibclfmcaaDoor
open Go.RowKit
set_option linter.unusedVariables false

theorem Tab.upd {w : World} {B g : Nat} {vo vk : Value} {l : List FieldL} {most : Int} (h : Tab w B g vo vk l most) {vo' : Value} {l' : List FieldL} (ho' : OwnF w B vo' l') (hown : ∀ k, vo'.ownBlock = some k → vo.ownBlock = some k) :
    Tab ((w.setCell ⟨g, 2, none⟩ (.int .i64 (sumF l' : Int))).setCell ⟨g, 0, none⟩ vo') B g vo' vk l' most := by
  have hc : Chg (fun k => k = g) w ((w.setCell ⟨g, 2, none⟩ (.int .i64 (sumF l' : Int))).setCell ⟨g, 0, none⟩ vo') := ((Chg.refl (fun k => k = g) w).set g 2 _ (Or.inl rfl)).set g 0 _ (Or.inl rfl)
  have hne : ∀ k, vo'.ownBlock = some k → ¬ k = g := fun k hk e => by
    subst e
    exact h.own_ne (hown _ hk)
  refine ⟨?_, ho'.chg hc hne, h.kn.chg hc (fun k hk e => by subst e; exact h.kn_ne hk), h.gB, fun k hk e => h.ap k hk (hown k e)⟩
  have h1 := heap_setCell_same w g 2 _ _ (.int .i64 (sumF l' : Int)) h.blk
  rw [heap_setCell_same _ g 0 _ _ vo' h1]
  rfl
theorem Tab.most {w : World} {B g : Nat} {vo vk : Value} {l : List FieldL} {most : Int} (h : Tab w B g vo vk l most) (m : Int) : Tab (w.setCell ⟨g, 3, none⟩ (.int .i64 m)) B g vo vk l m := by
  have hc : Chg (fun k => k = g) w (w.setCell ⟨g, 3, none⟩ (.int .i64 m)) := (Chg.refl (fun k => k = g) w).set g 3 _ (Or.inl rfl)
  refine ⟨?_, h.own.chg hc (fun k hk e => by subst e; exact h.own_ne hk), h.kn.chg hc (fun k hk e => by subst e; exact h.kn_ne hk), h.gB, h.ap⟩
  rw [heap_setCell_same w g 3 _ _ _ h.blk]
  rfl
def lenAt (g : Nat) (w : World) : Nat := match w.cell? ⟨g, 0, none⟩ with | some (.slice _ n _) => n | _ => 0

set_option maxHeartbeats 4000000 in
theorem shrink_any {w : World} {B g : Nat} {vo vk : Value} {l : List FieldL} {most : Int} (m : Int) (h : Tab w B g vo vk l most) (hs : sumF l ≤ 1000000000000) :
    Calls Tryd.prog 59 #[.pointer (some ⟨g, 0, none⟩), .int .i64 m] w fun e w' => e = .returned (.tuple #[]) ∧ ∃ vo', Tab w' B g vo' vk (fitF m l) most ∧ Chg (fun k => k = g) w w' ∧ ∀ k, vo'.ownBlock = some k → vo.ownBlock = some k := by
  obtain ⟨a, n, c, rfl, -, hnc, hcm⟩ : ∃ (a : Option Addr) (n c : Nat), vo = .slice a n c ∧ n = l.length ∧ n ≤ c ∧ c ≤ maxLen := by
    obtain ⟨a, c, h1, h2, h3⟩ := h.own.slice
    exact ⟨a, l.length, c, h1, rfl, h2, h3⟩
  have hn : n = l.length := by
    obtain ⟨a', c', h1, -⟩ := h.own.slice
    injection h1
  subst hn
  unfold maxLen at hcm
  have H := Lib.hid h
  have HSS := Lib.hid hs
  clear h hs
  go_enter Tryd.func59, Tryd.ntmps59
  go_wp2_with fail
  go_loopw [] (fun wr => ∃ k, k ≤ l.length ∧ Hid (Tab wr B g (.slice a k c) vk (l.take k) most) ∧ Hid (fitF m (l.take k) = fitF m l) ∧ Hid (Chg (fun k => k = g) w wr)) (fun wr => lenAt g wr)
  case atStart => exact ⟨l.length, Nat.le_refl _, Lib.hid (by rw [List.take_length]; exact H.out), Lib.hid (by rw [List.take_length]), Lib.hid (Chg.refl _ _)⟩
  case round =>
    obtain ⟨k, hk, HT, HF, HC⟩ := hrel
    have hlen : lenAt g wr = k := by
      unfold lenAt
      rw [HT.out.cells.1.1]
    have HLEN := Lib.hid hlen
    obtain ⟨⟨c0, c1, c2, c3⟩, f0, f2, f3⟩ := HT.out.cells
    by_cases hsm : (sumF (l.take k) : Int) > m
    · by_cases hk0 : 0 < k
      · obtain ⟨j, rfl⟩ : ∃ j, k = j + 1 := ⟨k - 1, by omega⟩
        have hjl : j < l.length := by omega
        have htk : l.take (j + 1) = l.take j ++ [l[j]] := List.take_succ_eq_append_getElem hjl
        have hsum : sumF (l.take (j + 1)) = sumF (l.take j) + fsize l[j] := by
          rw [htk, sumF_append]
          simp [sumF]
        have hle := sumF_take l (j + 1)
        obtain ⟨a', gb, k', e1, -, -, hp, hc⟩ := HT.out.own.form
        injection e1 with e1 e2 e3
        subst e1
        have hne : l.take (j + 1) ≠ [] := by rw [htk]; exact List.append_ne_nil_of_right_ne_nil _ (by simp)
        obtain ⟨rfl, hgb⟩ := hp hne
        obtain ⟨x0, x1⟩ := hc j (by rw [List.length_take]; omega)
        have hel : (l.take (j + 1))[j]'(by rw [List.length_take]; omega) = l[j] := List.getElem_take
        rw [hel] at x0 x1
        have hgo := fitF_go (m := m) (l := l.take (j + 1)) (by
          intro hh
          rcases hh with hh | hh
          · exact hne hh
          · omega)
        rw [htk, List.dropLast_concat, ← htk] at hgo
        have HGO := Lib.hid hgo
        rw [hsum] at c2 hsm hle
        have HS2 : Hid (sumF (l.take j) + fsize l[j] ≤ 1000000000000) := Lib.hid (Nat.le_trans hle HSS.out)
        have HO' : Hid (OwnF wr B (.slice (some ⟨gb, 0, none⟩) j c) (l.take j)) := Lib.hid (by
          have := HT.out.own.take j (by rw [List.length_take]; omega)
          rwa [List.take_take, Nat.min_eq_left (by omega)] at this)
        have hgg : gb ≠ g := fun e => HT.out.own_ne (by rw [e]; rfl)
        have HGG := Lib.hid hgg
        have HGB := Lib.hid hgb
        have HGL := Lib.hid HT.out.lt
        have HSUM := Lib.hid hsum
        have hjb : j < 9223372036854775807 := by omega
        clear htk hsum hle hne hp hc hel hgo hgg hgb e2 e3 hlen
        generalize l[j] = f at x0 x1 c2 hsm HS2 HSUM
        have HBY := Lib.hid (fun w => bytes_any f (by have := HS2.out; omega) w)
        unfold fieldV at HBY
        obtain ⟨f1, f2'⟩ := f
        unfold strV at x0 x1
        simp only at x0 x1 HBY
        obtain ⟨q, hq⟩ : ∃ q, fsize (f1, f2') = q := ⟨_, rfl⟩
        obtain ⟨s, hs'⟩ : ∃ s, sumF (l.take j) = s := ⟨_, rfl⟩
        rw [hq] at HBY c2 hsm HS2 HSUM
        rw [hs'] at c2 hsm HS2 HSUM
        have hs0 := HS2.out
        have g1 : IntKind.i64.wrap (((s + q : Nat) : Int) - (q : Int)) = (s : Int) := by rw [show ((s + q : Nat) : Int) - (q : Int) = (s : Int) by omega]; exact IntWalk.i64_in _ (by omega)
        have g2 : IntKind.i64.wrap (((j + 1 : Nat) : Int) - 1) = (j : Int) := by rw [show ((j + 1 : Nat) : Int) - 1 = (j : Int) by omega]; exact IntWalk.i64_in _ (by omega)
        have g3 : ((j + 1 : Nat) : Int) - 1 = (j : Int) := by omega
        have hji : (j : Int) < (j : Int) + 1 := by omega
        have g4 : IntKind.i64.wrap ((s : Int) + (q : Int) - (q : Int)) = (s : Int) := by rw [show (s : Int) + (q : Int) - (q : Int) = (s : Int) by omega]; exact IntWalk.i64_in _ (by omega)
        have hj1 : (0 : Int) < ((j + 1 : Nat) : Int) := by omega
        have g5 : wrap64 (s : Int) = (s : Int) := IntWalk.wrap64_in _ ⟨by omega, by omega⟩
        have hjc : (j : Int) ≤ (c : Int) := by omega
        have hjc2 : j ≤ c := by omega
        have HRL := Lib.hid (fun (w5 : World) (a5 : Aft wr w5) => (by
          have := (HT.out.aft a5).cells
          rw [HSUM.out] at this
          exact this : (w5.cell? ⟨g, 0, none⟩ = some (.slice (some ⟨gb, 0, none⟩) (j + 1) c) ∧ w5.cell? ⟨g, 1, none⟩ = some vk ∧ w5.cell? ⟨g, 2, none⟩ = some (.int .i64 ((s + q : Nat) : Int)) ∧ w5.cell? ⟨g, 3, none⟩ = some (.int .i64 most)) ∧ (w5.frozen? ⟨g, 0, none⟩ = false ∧ w5.frozen? ⟨g, 2, none⟩ = false ∧ w5.frozen? ⟨g, 3, none⟩ = false)))
        have HXX := Lib.hid (fun (w5 : World) (a5 : Aft wr w5) => (And.intro ((Below.cell a5.to (p := ⟨gb, j * 2, none⟩) HGB.out).trans x0) ((Below.cell a5.to (p := ⟨gb, j * 2 + 1, none⟩) HGB.out).trans x1) : w5.cell? ⟨gb, j * 2, none⟩ = some (.string ⟨f1.toArray⟩) ∧ w5.cell? ⟨gb, j * 2 + 1, none⟩ = some (.string ⟨f2'.toArray⟩)))
        have HSJ := Lib.hid hs'
        have HJL := Lib.hid hjl
        clear hq hs' hs0 hk hjl
        go_wp2_with fail
        go_region_law (first
          | (go_simp; go_at_call 58; refine (HBY.out _).mono ?_; rintro e w6 ⟨rfl, a6⟩; have A6 : Aft wr w6 := Aft.trans (by first | exact Aft.refl _ | exact (Aft.refl _).drew) a6; obtain ⟨⟨c0, c1, c2, c3⟩, f0, f2, f3⟩ := HRL.out _ A6; obtain ⟨x0, x1⟩ := HXX.out _ A6))
        all_goals
          have hO6 := HO'.out.aft A6
          have hT6 := (HT.out.aft A6).upd hO6 (fun k hk => hk)
          rw [HSJ.out] at hT6
          have HT6 := Lib.hid hT6
          have HC6 := Lib.hid (((HC.out.aft A6).set g 2 (.int .i64 (s : Int)) (Or.inl rfl)).set g 0 (.slice (some ⟨gb, 0, none⟩) j c) (Or.inl rfl))
          have hgd : w6.cell? ⟨g, 0, none⟩ = some (.slice (some ⟨gb, 0, none⟩) (j + 1) c) := c0
          clear hO6 hT6
          go_wp2_with fail
          go_roundw
          case rel => exact ⟨j, by have := HJL.out; omega, HT6, Lib.hid (HGO.out.symm.trans HF.out), HC6⟩
          case measure =>
            have e1 := HLEN.out
            have e2 : lenAt g ((w6.setCell ⟨g, 2, none⟩ (.int .i64 (s : Int))).setCell ⟨g, 0, none⟩ (.slice (some ⟨gb, 0, none⟩) j c)) = j := by
              unfold lenAt
              rw [HT6.out.cells.1.1]
            rw [e1, e2]
            omega
      · obtain rfl : k = 0 := by omega
        have hst : fitF m l = [] := by rw [← HF.out, List.take_zero, fitF_stop (Or.inl rfl)]
        have HST := Lib.hid hst
        rw [List.take_zero] at HT c2 hsm
        have HT2 := Lib.hid HT.out
        clear hst hlen HLEN hk hk0 HF
        have e0 : sumF ([] : List FieldL) = 0 := rfl
        rw [e0] at c2 hsm
        go_wp2_with fail
        go_end0
        refine ⟨rfl, .slice a 0 c, by rw [HST.out]; exact HT2.out, HC.out, fun k hk => by cases a <;> exact hk⟩
    · have hst : fitF m l = l.take k := by rw [← HF.out, fitF_stop (Or.inr (by omega))]
      have HST := Lib.hid hst
      obtain ⟨s, hs'⟩ : ∃ s, sumF (l.take k) = s := ⟨_, rfl⟩
      rw [hs'] at c2 hsm
      clear hst hlen HLEN HF hs'
      go_wp2_with fail
      go_end0
      refine ⟨rfl, .slice a k c, by rw [HST.out]; exact HT.out, HC.out, fun k hk => by cases a <;> exact hk⟩


theorem resize_no {w : World} {B g : Nat} (m : Int) (hm : ¬ (0 ≤ m ∧ m ≤ 65536)) :
    Calls Tryd.prog 24 #[.pointer (some ⟨g, 0, none⟩), .int .i64 m] w fun e w' => e = .returned (.int .i64 1) ∧ w = w' := by
  have HM := Lib.hid (may_no m hm)
  clear hm
  go_enter Tryd.func24, Tryd.ntmps24
  go_wp2_with fail
  refine (HM.out _).mono ?_
  rintro e w1 ⟨rfl, rfl⟩
  go_wp2_with fail
  go_ret
  exact ⟨rfl, rfl⟩
theorem resize_yes {w : World} {B g : Nat} {vo vk : Value} {l : List FieldL} {most : Int} (m : Int) (h : Tab w B g vo vk l most) (hs : sumF l ≤ 1000000000000) (hm0 : 0 ≤ m) (hm1 : m ≤ 65536) :
    Calls Tryd.prog 24 #[.pointer (some ⟨g, 0, none⟩), .int .i64 m] w fun e w' => e = .returned (.int .i64 0) ∧ ∃ vo', Tab w' B g vo' vk (fitF m l) m ∧ Chg (fun k => k = g) w w' ∧ ∀ k, vo'.ownBlock = some k → vo.ownBlock = some k := by
  have HM := Lib.hid (may_yes m hm0 hm1)
  obtain ⟨⟨c0, c1, c2, c3⟩, f0, f2, f3⟩ := h.cells
  have h3 := h.most m
  have HS := Lib.hid (shrink_any m h3 hs)
  have HC := Lib.hid ((Chg.refl (fun k => k = g) w).set g 3 (.int .i64 m) (Or.inl rfl))
  clear h hs hm0 hm1 h3 c0 c1 c2
  go_enter Tryd.func24, Tryd.ntmps24
  go_wp2_with fail
  refine (HM.out _).mono ?_
  rintro e w1 ⟨rfl, rfl⟩
  go_wp2_with fail
  refine HS.out.mono ?_
  rintro e w2 ⟨rfl, vo', ht, hc, ho⟩
  have HT := Lib.hid ht
  have HC2 := Lib.hid (HC.out.trans hc (fun i hi => Or.inl hi))
  have HO := Lib.hid ho
  clear ht hc ho
  go_wp2_with fail
  go_ret
  exact ⟨rfl, vo', HT.out, HC2.out, HO.out⟩

def addF (most : Int) (f : FieldL) (l : List FieldL) : List FieldL := if (fsize f : Int) ≤ most then f :: fitF (most - fsize f) l else fitF (most - fsize f) l
theorem Tab.upd2 {w : World} {B g : Nat} {vo vk : Value} {l : List FieldL} {most : Int} (h : Tab w B g vo vk l most) {vo' : Value} {l' : List FieldL} (ho' : OwnF w B vo' l') (hne : vo'.ownBlock ≠ some g) (hap : ∀ k, vk.ownBlock = some k → vo'.ownBlock ≠ some k) :
    Tab ((w.setCell ⟨g, 0, none⟩ vo').setCell ⟨g, 2, none⟩ (.int .i64 (sumF l' : Int))) B g vo' vk l' most := by
  have hc : Chg (fun k => k = g) w ((w.setCell ⟨g, 0, none⟩ vo').setCell ⟨g, 2, none⟩ (.int .i64 (sumF l' : Int))) := ((Chg.refl (fun k => k = g) w).set g 0 _ (Or.inl rfl)).set g 2 _ (Or.inl rfl)
  refine ⟨?_, ho'.chg hc (fun k hk e => by subst e; exact hne hk), h.kn.chg hc (fun k hk e => by subst e; exact h.kn_ne hk), h.gB, hap⟩
  have h1 := heap_setCell_same w g 0 _ _ vo' h.blk
  rw [heap_setCell_same _ g 2 _ _ (.int .i64 (sumF l' : Int)) h1]
  rfl
theorem Tab.ins {w3 w6 : World} {B g : Nat} {vo1 vk : Value} {l1 : List FieldL} {most : Int} (h : Tab w3 B g vo1 vk l1 most) (hg : w6.heap[g]? = w3.heap[g]?) (hk : OwnF w6 B vk staticT) {v6 : Value} {l6 : List FieldL} (o6 : OwnF w6 B v6 l6) (hn : ∀ k, v6.ownBlock = some k → vo1.ownBlock = some k ∨ w3.heap.size ≤ k) (n : Int) (hs : n = (sumF l6 : Int)) :
    Tab ((w6.setCell ⟨g, 0, none⟩ v6).setCell ⟨g, 2, none⟩ (.int .i64 n)) B g v6 vk l6 most := by
  subst hs
  have hne : v6.ownBlock ≠ some g := fun e => by
    rcases hn g e with h1 | h1
    · exact h.own_ne h1
    · have := h.lt; omega
  have hc : Chg (fun k => k = g) w6 ((w6.setCell ⟨g, 0, none⟩ v6).setCell ⟨g, 2, none⟩ (.int .i64 (sumF l6 : Int))) := ((Chg.refl (fun k => k = g) w6).set g 0 _ (Or.inl rfl)).set g 2 _ (Or.inl rfl)
  refine ⟨?_, o6.chg hc (fun k hk e => by subst e; exact hne hk), hk.chg hc (fun k hk e => by subst e; exact h.kn_ne hk), h.gB, fun k hk e => ?_⟩
  · have h1 := heap_setCell_same w6 g 0 _ _ v6 (hg.trans h.blk)
    rw [heap_setCell_same _ g 2 _ _ (.int .i64 (sumF l6 : Int)) h1]
    rfl
  · rcases hn k e with h1 | h1
    · exact h.ap k hk h1
    · have := (h.kn.lt k hk).2; omega
set_option maxHeartbeats 4000000 in
theorem add_any {w : World} {B g : Nat} {vo vk : Value} {l : List FieldL} {most : Int} (f : FieldL) (h : Tab w B g vo vk l most) (hs : (sumF l : Int) ≤ most) (hm0 : 0 ≤ most) (hm1 : most ≤ 65536) (hf : fsize f ≤ 1000000000000) (hB : B ≤ w.heap.size) :
    Calls Tryd.prog 19 #[.pointer (some ⟨g, 0, none⟩), fieldV f] w fun e w' => e = .returned (.tuple #[]) ∧ ∃ vo', Tab w' B g vo' vk (addF most f l) most ∧ Chg (TP g vo) w w' ∧ ∀ k, vo'.ownBlock = some k → vo.ownBlock = some k ∨ w.heap.size ≤ k := by
  obtain ⟨f1, f2'⟩ := f
  obtain ⟨n, hn⟩ : ∃ n, fsize (f1, f2') = n := ⟨_, rfl⟩
  have HBY := Lib.hid (fun w => bytes_any (f1, f2') hf w)
  rw [hn] at HBY hf
  have hadd : addF most (f1, f2') l = if (n : Int) ≤ most then (f1, f2') :: fitF (most - n) l else fitF (most - n) l := by unfold addF; rw [hn]
  have HADD := Lib.hid hadd
  unfold fieldV at HBY ⊢
  simp only at HBY ⊢
  have hA1 : Aft w (w.alloc (.cells #[.string ⟨f1.toArray⟩, .string ⟨f2'.toArray⟩] 28)) := (Aft.refl w).alloc _
  have hbx : FB (w.alloc (.cells #[.string ⟨f1.toArray⟩, .string ⟨f2'.toArray⟩] 28)) w.heap.size [(f1, f2')] := heap_alloc_new w _
  have hgw := h.lt
  have how := h.own
  have hs' : sumF l ≤ 1000000000000 := by omega
  have h1 := h.aft hA1
  have HN0 := Lib.hid hn
  have g1 : IntKind.i64.wrap (most - (n : Int)) = most - (n : Int) := IntWalk.i64_in _ (by omega)
  have H1 := Lib.hid h1
  have HBX := Lib.hid hbx
  have HA1 := Lib.hid hA1
  have HGW := Lib.hid hgw
  have HSS := Lib.hid hs
  have HS' := Lib.hid hs'
  have HB := Lib.hid hB
  have HOW := Lib.hid how
  have HNE := Lib.hid h.own_ne
  have HAP := Lib.hid h.ap
  have HOL := Lib.hid (fun k (hk : vo.ownBlock = some k) => (h.own.lt k hk).2)
  obtain ⟨b, hb⟩ : ∃ b, w.heap.size = b := ⟨_, rfl⟩
  rw [hb] at HBX HGW HB HOL
  have HBW := Lib.hid hb
  have bx := HBX.out.cell (i := 0) (by simp)
  simp only [Nat.zero_mul, Nat.zero_add, List.getElem_cons_zero, strV] at bx
  obtain ⟨bx0, bx1⟩ := bx
  have hbz : (w.alloc (.cells #[.string ⟨f1.toArray⟩, .string ⟨f2'.toArray⟩] 28)).heap.size = b + 1 := by rw [World.size_alloc, hb]
  have HBZ := Lib.hid hbz
  clear h hs hs' hB hn hadd hA1 hbx hgw how h1 hb hbz
  go_enter Tryd.func19, Tryd.ntmps19
  go_wp2_with fail
  rw [HBW.out]
  generalize w.alloc (.cells #[.string ⟨f1.toArray⟩, .string ⟨f2'.toArray⟩] 28) = W at H1 HBX HA1 HBZ bx0 bx1 ⊢
  refine (HBY.out _).mono ?_
  rintro e w2 ⟨rfl, a2⟩
  have H2 := Lib.hid (H1.out.aft a2)
  have HA2 := Lib.hid (HA1.out.trans a2)
  have HBX2 := Lib.hid (show FB w2 b [(f1, f2')] from (Below.block a2.to b (by have := HBZ.out; omega)).trans HBX.out)
  clear a2 bx0 bx1
  obtain ⟨⟨c0, c1, c2, c3⟩, q0, q2, q3⟩ := H2.out.cells
  clear c0 c1 c2 q0 q2 q3
  have HSH := Lib.hid (shrink_any (most - (n : Int)) H2.out HS'.out)
  go_wp2_with fail
  refine HSH.out.mono ?_
  rintro e w3 ⟨rfl, vo1, ht3, hc3, ho3⟩
  have hgb : b ≠ g := by have := HGW.out; omega
  have hfb3 : FB w3 b [(f1, f2')] := (hc3.block b (HBX2.out.lt) hgb).trans HBX2.out
  have bx := hfb3.cell (i := 0) (by simp)
  simp only [Nat.zero_mul, Nat.zero_add, List.getElem_cons_zero, strV] at bx
  obtain ⟨bx0, bx1⟩ := bx
  have HT3 := Lib.hid ht3
  have HC3 := Lib.hid ((Chg.of_aft (p := TP g vo) HA2.out).trans hc3 (fun i hi => Or.inl (Or.inl hi)))
  have HO3 := Lib.hid ho3
  have HZ3 : Hid (b + 1 ≤ w3.heap.size) := Lib.hid (by have h1 := hc3.size; have h2 := HBX2.out.lt; omega)
  obtain ⟨⟨c0, c1, c2, c3'⟩, q0, q2, q3⟩ := ht3.cells
  clear ht3 hc3 ho3 hfb3 HSH c3 hgb
  by_cases hbig : (n : Int) > most
  · have HADD2 : Hid (addF most (f1, f2') l = fitF (most - (n : Int)) l) := Lib.hid (by rw [HADD.out, if_neg (by omega)])
    clear c0 c1 c2 q0 q2 q3 bx0 bx1
    go_wp2_with fail
    refine bodyPost_ret (v := .tuple #[]) (by simp [results, Tryd.results19, go_sem]) rfl ?_
    refine ⟨rfl, vo1, by rw [HADD2.out]; exact HT3.out, HC3.out, fun k hk => Or.inl (HO3.out k hk)⟩
  · have HADD2 : Hid (addF most (f1, f2') l = (f1, f2') :: fitF (most - (n : Int)) l) := Lib.hid (by rw [HADD.out, if_pos (by omega)])
    obtain ⟨l1, hl1⟩ : ∃ l1, fitF (most - (n : Int)) l = l1 := ⟨_, rfl⟩
    have hle := fitF_le (m := most - (n : Int)) (l := l)
    rw [hl1] at hle HT3 HADD2 c2
    have hsz : (sumF l1 : Int) ≤ most - n := by
      rcases hle with h | h
      · rw [h]; show ((0 : Nat) : Int) ≤ _; omega
      · exact h
    have hlen1 := sumF_len l1
    have hsum : (sumF ((f1, f2') :: l1) : Int) = (sumF l1 : Int) + (n : Int) := by rw [sumF_cons, HN0.out]; push_cast; omega
    have HSUM := Lib.hid hsum
    have g2 : IntKind.i64.wrap ((sumF l1 : Int) + (n : Int)) = (sumF l1 : Int) + (n : Int) := IntWalk.i64_in _ (by omega)
    have HL1 : Hid (l1.length ≤ 1000000) := Lib.hid (by omega)
    have HSZ := Lib.hid hsz
    clear hle hl1 hsz hlen1 hsum
    generalize (sumF l1 : Int) = s at c2 g2 HSUM HSZ
    have HCE := Lib.hid (fun (w6 : World) (h6 : w6.heap[g]? = w3.heap[g]?) => (And.intro ((World.cell?_of_block (a := ⟨g, 0, none⟩) h6).trans c0) (And.intro ((World.cell?_of_block (a := ⟨g, 2, none⟩) h6).trans c2) (And.intro ((World.frozen?_of_block (a := ⟨g, 0, none⟩) h6).trans q0) ((World.frozen?_of_block (a := ⟨g, 2, none⟩) h6).trans q2)))))
    have hne3 : ∀ g', vo1.ownBlock = some g' → w3.heap.size ≠ g' := fun g' hg' => by have := (HT3.out.own.lt g' hg').2; omega
    have HNE3 := Lib.hid hne3
    have HB3 : Hid (B ≤ w3.heap.size) := Lib.hid (by have h1 := HZ3.out; have h2 := HB.out; omega)
    have hgn : ∀ (W6 w6 : World) (a : Aft w3 W6) (gr : W6.grownBy w6 vo1.ownBlock), w6.heap[g]? = w3.heap[g]? ∧ OwnF w6 B vk staticT ∧ Chg (TP g vo) w w6 := fun W6 w6 a gr => by
      have h1 := HT3.out.lt
      have h2 := a.to.size
      refine ⟨(gr.block g (by omega) (fun e => HT3.out.own_ne e.symm)).trans (Below.block a.to g h1), (HT3.out.kn.aft a).chg (Chg.grown (p := fun k => vo1.ownBlock = some k) gr (fun k h => h)) (fun k hk e => HT3.out.ap k hk e), (HC3.out.aft a).trans (Chg.grown (p := fun k => vo1.ownBlock = some k) gr (fun k h => h)) (fun i hi => Or.inl (Or.inr (HO3.out i hi)))⟩
    have HGN := Lib.hid hgn
    clear hne3 hgn
    obtain ⟨oa, oc, rfl, -⟩ := HT3.out.own.slice
    obtain ⟨ln, hln⟩ : ∃ ln, l1.length = ln := ⟨_, rfl⟩
    rw [hln] at HT3 c0 HO3 HCE HNE3 HGN
    clear c1 q3 hln
    have c0a : (w3.alloc (.cells #[.string ⟨f1.toArray⟩, .string ⟨f2'.toArray⟩] 28)).cell? ⟨g, 0, none⟩ = some (.slice oa ln oc) := by
      rw [Below.cell ((Aft.refl w3).alloc (.cells #[.string ⟨f1.toArray⟩, .string ⟨f2'.toArray⟩] 28)).to (p := ⟨g, 0, none⟩) HT3.out.lt]; exact c0
    go_wp2_with fail
    go_region_law (first
      | (go_simp; go_at_call 60; refine (insert_any B (.slice oa ln oc) l1 (f1, f2') w3.heap.size _ (HT3.out.own.aft (by first | exact ((Aft.refl _).drew).alloc _ | exact ((Aft.refl _).alloc _).drew | exact (Aft.refl _).alloc _)) (by first | exact heap_alloc_new w3.drew _ | exact heap_alloc_new w3 _) HNE3.out HL1.out (Nat.le_trans HB3.out (Below.size (B := w3.heap.size) (w := w3) (by first | exact ((Aft.refl _).drew).alloc _ | exact ((Aft.refl _).alloc _).drew | exact (Aft.refl _).alloc _)))).mono ?_; rintro e w6 ⟨v6, rfl, o6, gr6, hn6⟩; have HG6 := Lib.hid (HGN.out _ w6 (by first | exact ((Aft.refl _).drew).alloc _ | exact ((Aft.refl _).alloc _).drew | exact (Aft.refl _).alloc _) gr6); have HN6 : Hid (∀ k, v6.ownBlock = some k → (Value.slice oa ln oc).ownBlock = some k ∨ w3.heap.size ≤ k) := Lib.hid (fun k hk => (hn6 k hk).imp id (fun h => Nat.le_trans (Below.size (B := w3.heap.size) (w := w3) (by first | exact ((Aft.refl _).drew).alloc _ | exact ((Aft.refl _).alloc _).drew | exact (Aft.refl _).alloc _)) h)); clear hn6 gr6; obtain ⟨y0, y2, y00, y22⟩ := HCE.out w6 HG6.out.1; obtain ⟨a6, k6, rfl, -⟩ := o6.slice))
    all_goals
      have HO6 := Lib.hid o6
      clear o6
      have HT6 := Lib.hid (HT3.out.ins HG6.out.1 HG6.out.2.1 HO6.out HN6.out (s + (n : Int)) HSUM.out.symm)
      have HC6 := Lib.hid ((HG6.out.2.2.set g 0 (.slice a6 ((f1, f2') :: l1).length k6) (Or.inl (Or.inl rfl))).set g 2 (.int .i64 (s + (n : Int))) (Or.inl (Or.inl rfl)))
      rw [List.length_cons] at HT6 HC6 HN6
      obtain ⟨ln2, hln2⟩ : ∃ n, l1.length = n := ⟨_, rfl⟩
      rw [hln2] at HT6 HC6 HN6
      try rw [hln2]
      clear HO6 hln2
      go_wp2_with fail
      go_end0
      refine ⟨rfl, _, by rw [HADD2.out]; exact HT6.out, HC6.out, fun k hk => ?_⟩
      rcases HN6.out k hk with h1 | h1
      · exact Or.inl (HO3.out k h1)
      · exact Or.inr (by have h2 := HZ3.out; have h3 := HBW.out; omega)

end Go.Proofs.YtmlnboibclfmcaaDoor
