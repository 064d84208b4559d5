/-
  PackBack: the plain law. PackBack: the walk of the law.
-/
import Derived.Test.YtmlnboibclfmcaaDoorUnBdP
import Derived.Test.YtmlnboibclfmcaaDoorAB3
import Derived.Test.YtmlnboibclfmcaaDoorUnBack
import Derived.Test.YtmlnboibclfmcaaDoorUnPla
import Derived.Test.YtmlnboibclfmcaaDoorWithin
import Derived.BigQuiet
namespace Go.Proofs.YtmlnboibclfmcaaDoor
open Go.RowKit
set_option linter.unusedVariables false

theorem fitF_fitF {a b : Int} : ∀ (n : Nat) (l : List FieldL), l.length = n → fitF a (fitF b l) = fitF (if a < b then a else b) l
  | 0, l, h => by
    obtain rfl := List.eq_nil_of_length_eq_zero h
    rw [fitF_stop (m := b) (Or.inl rfl), fitF_stop (Or.inl rfl), fitF_stop (Or.inl rfl)]
  | n + 1, l, h => by
    by_cases hb : (sumF l : Int) ≤ b
    · rw [fitF_stop (m := b) (Or.inr hb)]
      by_cases hab : a < b
      · rw [if_pos hab]
      · rw [if_neg hab, fitF_stop (m := a) (Or.inr (by omega)), fitF_stop (Or.inr hb)]
    · have hne : ¬ (l = [] ∨ (sumF l : Int) ≤ b) := fun e => by
        rcases e with rfl | e
        · simp at h
        · exact hb e
      have hne2 : ¬ (l = [] ∨ (sumF l : Int) ≤ (if a < b then a else b)) := fun e => by
        rcases e with rfl | e
        · simp at h
        · split at e <;> omega
      rw [fitF_go hne, fitF_go hne2]
      exact fitF_fitF n l.dropLast (by simp [h])
theorem howU_three (x : Bool) (how : Int) : howU x how = 3 ↔ how = 3 := by
  unfold howU
  split
  · rename_i h; exact ⟨fun _ => h, fun _ => rfl⟩
  · rename_i h
    split
    · exact ⟨fun e => (by cases e), fun e => absurd e h⟩
    · exact ⟨fun e => (by cases e), fun e => absurd e h⟩
theorem readR_len (most : Int) : ∀ (rs : List RowL) (l : List FieldL), (readR most l rs).length = rs.length
  | [], l => rfl
  | r :: rs, l => by rw [readR, List.length_cons, List.length_cons, readR_len most rs]
theorem readR_get (most : Int) : ∀ (rs : List RowL) (l : List FieldL) (i : Nat) (h : i < rs.length) (h2 : i < (readR most l rs).length), ((readR most l rs)[i]).f = rs[i].f ∧ (((readR most l rs)[i]).how = 3 ↔ rs[i].how = 3)
  | r :: rs, l, 0, h, h2 => by
    constructor
    · rfl
    · exact howU_three _ _
  | r :: rs, l, i + 1, h, h2 => by
    simp only [readR, List.getElem_cons_succ]
    exact readR_get most rs _ i (by simpa using h) (by simpa [readR] using h2)
theorem runU_size {top list : Int} {b : List UInt8} {s : US} {n : Nat} (hr : s.rows = []) (hs : s.sizes < 2) (hn : (n : Int) ≤ top) (ht : top ≤ 65536) (ha : AtU b s.at_ (pintL 5 32 n)) :
    runU top list b (b.length + 1) s = runU top list b (b.length + 1) ⟨s.at_ + (pintL 5 32 n).length, [], s.sum, s.sizes + 1, fitF (n : Int) s.tab, (n : Int)⟩ := by
  obtain ⟨hg, c, hc, c1, c2⟩ := getL_put (n := 5) (top := 32) (by decide) (by decide) (by decide) (by decide) (by omega) ha
  have hm : maskN 5 = 31 := rfl
  have hst : stepU top list b s c.toNat = (⟨s.at_ + (pintL 5 32 n).length, [], s.sum, s.sizes + 1, fitF (n : Int) s.tab, (n : Int)⟩, 0) := by
    unfold stepU
    rw [if_pos (by omega), hg]
    simp only
    rw [if_neg (by simp), if_neg (by rw [hr]; simp; omega), hr]
  rw [runU_step hc, hst]
  simp only
  rw [if_neg (by simp)]
/-- The packer and the unpacker, side by side. -/
structure PR (lp : List FieldL) (mp : Int) (told : Bool) (least : Int) (lu : List FieldL) (mu : Int) : Prop where
  p0 : (sumF lp : Int) ≤ mp
  m0 : 0 ≤ mp
  m1 : mp ≤ 4096
  l0 : 0 ≤ least
  l1 : least ≤ 4096
  u0 : (sumF lu : Int) ≤ mu
  n0 : 0 ≤ mu
  n1 : mu ≤ 4096
  yes : told = true → lu = lp ∧ mu = mp
  no : told = false → lp = fitF least lu ∧ least ≤ mp
theorem PR.init : PR [] 4096 true 0 [] 4096 := ⟨by decide, by decide, by decide, by decide, by decide, by decide, by decide, by decide, fun _ => ⟨rfl, rfl⟩, fun h => (by cases h)⟩
theorem PR.resize {lp lu : List FieldL} {mp mu least : Int} {told : Bool} (h : PR lp mp told least lu mu) (n : Int) (n0 : 0 ≤ n) (n1 : n ≤ 4096) : PR (fitF n lp) n false (leastN told least n) lu mu := by
  refine ⟨fitF_le' n0, n0, n1, ?_, ?_, h.u0, h.n0, h.n1, fun e => (by cases e), fun _ => ?_⟩
  · unfold leastN; split
    · exact n0
    · exact h.l0
  · unfold leastN; split
    · exact n1
    · exact h.l1
  · cases told with
    | true =>
      obtain ⟨rfl, -⟩ := h.yes rfl
      unfold leastN
      rw [if_pos (Or.inl rfl)]
      exact ⟨rfl, Int.le_refl _⟩
    | false =>
      obtain ⟨e, h2⟩ := h.no rfl
      have e2 : leastN false least n = (if n < least then n else least) := by unfold leastN; simp
      rw [e2, e, fitF_fitF _ lu rfl]
      refine ⟨rfl, ?_⟩
      split <;> omega
theorem PR.block {lp lu : List FieldL} {mp mu least : Int} {told : Bool} (h : PR lp mp told least lu mu) (rows : List RowL) (hs : sumR rows ≤ 3000) :
    (blkU 4096 2147483647 (rowsB mp (sizesL told least mp, lp) rows).1 lu mu).2 = 0 ∧ (blkU 4096 2147483647 (rowsB mp (sizesL told least mp, lp) rows).1 lu mu).1.rows = readR mp lp rows ∧ (blkU 4096 2147483647 (rowsB mp (sizesL told least mp, lp) rows).1 lu mu).1.tab = (rowsB mp (sizesL told least mp, lp) rows).2 ∧ (blkU 4096 2147483647 (rowsB mp (sizesL told least mp, lp) rows).1 lu mu).1.most = mp := by
  have hrow : ∀ r ∈ rows, r.f.1.length ≤ 60000 ∧ r.f.2.length ≤ 60000 := fun r hr => by have := sumR_mem hr; omega
  have hm0 := h.m0
  have hm1 := h.m1
  have hl0 := h.l0
  have hl1 := h.l1
  have hp0 := h.p0
  rw [rowsB_bytes]
  simp only
  obtain ⟨b, hb⟩ : ∃ b, sizesL told least mp ++ (rowsB mp ([], lp) rows).1 = b := ⟨_, rfl⟩
  rw [hb]
  have key : ∃ (k z : Nat), runU 4096 2147483647 b (b.length + 1) (us0 lu mu) = runU 4096 2147483647 b (b.length + 1) ⟨k, [], 0, z, lp, mp⟩ ∧ k ≤ b.length ∧ b.drop k = (rowsB mp ([], lp) rows).1 := by
    cases told with
    | true =>
      obtain ⟨rfl, rfl⟩ := h.yes rfl
      refine ⟨0, 0, rfl, Nat.zero_le _, ?_⟩
      rw [← hb]
      simp [sizesL]
    | false =>
      obtain ⟨e, h2⟩ := h.no rfl
      unfold sizesL at hb
      rw [if_neg (by simp)] at hb
      by_cases hlt : least < mp
      · rw [if_pos hlt] at hb
        obtain ⟨x, hx⟩ : ∃ x : Nat, least = (x : Int) := ⟨least.toNat, by omega⟩
        obtain ⟨y, hy⟩ : ∃ y : Nat, mp = (y : Int) := ⟨mp.toNat, by omega⟩
        subst hx hy
        rw [Int.toNat_natCast, Int.toNat_natCast] at hb
        have ha1 : AtU b 0 (pintL 5 32 x) := ⟨pintL 5 32 y ++ (rowsB (y : Int) ([], lp) rows).1, by rw [← hb]; simp⟩
        have ha2 : AtU b (0 + (pintL 5 32 x).length) (pintL 5 32 y) := ⟨(rowsB (y : Int) ([], lp) rows).1, by rw [← hb]; simp⟩
        have s1 := runU_size (top := 4096) (list := 2147483647) (s := us0 lu mu) (n := x) rfl (by show (0 : Nat) < 2; decide) (by omega) (by decide) ha1
        have s2 := runU_size (top := 4096) (list := 2147483647) (s := ⟨(us0 lu mu).at_ + (pintL 5 32 x).length, [], (us0 lu mu).sum, (us0 lu mu).sizes + 1, fitF (x : Int) (us0 lu mu).tab, (x : Int)⟩) (n := y) rfl (by show (1 : Nat) < 2; decide) (by omega) (by decide) ha2
        rw [s1, s2]
        have ef : fitF (y : Int) (fitF (x : Int) lu) = lp := by
          rw [fitF_fitF _ lu rfl, if_neg (by omega), e]
        refine ⟨0 + (pintL 5 32 x).length + (pintL 5 32 y).length, 2, ?_, ?_, ?_⟩
        · show runU _ _ _ _ (⟨0 + (pintL 5 32 x).length + (pintL 5 32 y).length, [], 0, 2, fitF (y : Int) (fitF (x : Int) lu), (y : Int)⟩ : US) = _
          rw [ef]
        · rw [← hb]; simp
        · rw [← hb]; simp
      · rw [if_neg hlt] at hb
        obtain rfl : least = mp := by omega
        obtain ⟨y, hy⟩ : ∃ y : Nat, least = (y : Int) := ⟨least.toNat, by omega⟩
        subst hy
        rw [Int.toNat_natCast, List.nil_append] at hb
        have ha1 : AtU b 0 (pintL 5 32 y) := ⟨(rowsB (y : Int) ([], lp) rows).1, by rw [← hb]; simp⟩
        have s1 := runU_size (top := 4096) (list := 2147483647) (s := us0 lu mu) (n := y) rfl (by show (0 : Nat) < 2; decide) (by omega) (by decide) ha1
        rw [s1]
        refine ⟨0 + (pintL 5 32 y).length, 1, ?_, ?_, ?_⟩
        · show runU _ _ _ _ (⟨0 + (pintL 5 32 y).length, [], 0, 1, fitF (y : Int) lu, (y : Int)⟩ : US) = _
          rw [← e]
        · rw [← hb]; simp
        · rw [← hb]; simp
  obtain ⟨k, z, h1, h2, h3⟩ := key
  have hq : blkU 4096 2147483647 b lu mu = runU 4096 2147483647 b (b.length + 1) (us0 lu mu) := rfl
  have hr := runU_rows (top := 4096) (list := 2147483647) (b := b) hm0 (by omega) rows ⟨k, [], 0, z, lp, mp⟩ rfl hp0 hrow h2 h3 (by show ((0 + sumR rows : Nat) : Int) ≤ _; omega)
  rw [hq, h1, hr]
  exact ⟨rfl, rfl, rfl, rfl⟩
theorem PR.next {lp lu : List FieldL} {mp mu least : Int} {told : Bool} (h : PR lp mp told least lu mu) (rows : List RowL) (hs : sumR rows ≤ 3000) : PR (rowsB mp (sizesL told least mp, lp) rows).2 mp true least (rowsB mp (sizesL told least mp, lp) rows).2 mp := by
  obtain ⟨-, -, h3, h4⟩ := h.block rows hs
  have hj := blkU_SJ (top := 4096) (list := 2147483647) (b := (rowsB mp (sizesL told least mp, lp) rows).1) h.u0 h.n0 h.n1
  have h5 := hj.tab
  rw [h3, h4] at h5
  exact ⟨h5, h.m0, h.m1, h.l0, h.l1, h5, h.m0, h.m1, fun _ => ⟨rfl, rfl⟩, fun e => by cases e⟩
/-- The packer's blocks and the unpacker's lie apart. -/
structure Ap (gp g : Nat) (vo vk : Value) (gu gt : Nat) (vo2 vk2 : Value) : Prop where
  a : ∀ k, PP gp g vo k → k ≠ gu ∧ k ≠ gt ∧ vo2.ownBlock ≠ some k ∧ vk2.ownBlock ≠ some k
  b : ∀ k, PU gu gt vo2 k → k ≠ gp ∧ k ≠ g ∧ vo.ownBlock ≠ some k ∧ vk.ownBlock ≠ some k
theorem Ap.stepP {w : World} {B2 gp g gu gt : Nat} {vo vo' vk vo2 vk2 : Value} {lu : List FieldL} {mu top list : Int} {bad : Bool} (h : Ap gp g vo vk gu gt vo2 vk2) (hu : Un w B2 gu gt vo2 vk2 lu mu top list bad) (ob : ∀ k, vo'.ownBlock = some k → vo.ownBlock = some k ∨ w.heap.size ≤ k) : Ap gp g vo' vk gu gt vo2 vk2 := by
  have l1 := hu.lt
  have l2 := hu.t.lt
  have l3 := fun k hk => (hu.t.own.lt k hk).2
  have l4 := fun k hk => (hu.t.kn.lt k hk).2
  refine ⟨fun k hk => ?_, fun k hk => ?_⟩
  · rcases hk with hk | hk | hk
    · exact h.a k (Or.inl hk)
    · exact h.a k (Or.inr (Or.inl hk))
    · rcases ob k hk with h1 | h1
      · exact h.a k (Or.inr (Or.inr h1))
      · refine ⟨by omega, by omega, fun e => ?_, fun e => ?_⟩
        · have := l3 k e; omega
        · have := l4 k e; omega
  · obtain ⟨b1, b2, b3, b4⟩ := h.b k hk
    refine ⟨b1, b2, fun e => ?_, b4⟩
    rcases ob k e with h1 | h1
    · exact b3 h1
    · rcases hk with rfl | rfl | hk
      · omega
      · omega
      · have := l3 k hk; omega
theorem Ap.stepU {w : World} {B gp g gu gt : Nat} {vo vk vo2 vo2' vk2 : Value} {lp : List FieldL} {mp least : Int} {told : Bool} (h : Ap gp g vo vk gu gt vo2 vk2) (hp : Pk w B gp g vo vk lp mp told least) (ob : ∀ k, vo2'.ownBlock = some k → vo2.ownBlock = some k ∨ w.heap.size ≤ k) : Ap gp g vo vk gu gt vo2' vk2 := by
  have l1 := hp.lt
  have l2 := hp.t.lt
  have l3 := fun k hk => (hp.t.own.lt k hk).2
  have l4 := fun k hk => (hp.t.kn.lt k hk).2
  refine ⟨fun k hk => ?_, fun k hk => ?_⟩
  · obtain ⟨b1, b2, b3, b4⟩ := h.a k hk
    refine ⟨b1, b2, fun e => ?_, b4⟩
    rcases ob k e with h1 | h1
    · exact b3 h1
    · rcases hk with rfl | rfl | hk
      · omega
      · omega
      · have := l3 k hk; omega
  · rcases hk with hk | hk | hk
    · exact h.b k (Or.inl hk)
    · exact h.b k (Or.inr (Or.inl hk))
    · rcases ob k hk with h1 | h1
      · exact h.b k (Or.inr (Or.inr h1))
      · refine ⟨by omega, by omega, fun e => ?_, fun e => ?_⟩
        · have := l3 k e; omega
        · have := l4 k e; omega
end Go.Proofs.YtmlnboibclfmcaaDoor
namespace Go.Proofs.YtmlnboibclfmcaaDoor
open Go.ChangeShapes Go.WideShapes Go.ChangeAt Go.RowKit
set_option linter.unusedVariables false
theorem Un.chgP {w w' : World} {B gp g gu gt : Nat} {vo vk vo2 vk2 : Value} {l : List FieldL} {most top list : Int} {bad : Bool} (h : Un w B gu gt vo2 vk2 l most top list bad) (ap : Ap gp g vo vk gu gt vo2 vk2) (hc : Chg (PP gp g vo) w w') : Un w' B gu gt vo2 vk2 l most top list bad :=
  h.chg hc (fun e => (ap.a _ e).1 rfl) (fun e => (ap.a _ e).2.1 rfl) (fun k hk e => (ap.a _ e).2.2.1 hk) (fun k hk e => (ap.a _ e).2.2.2 hk)
theorem Pk.chgU {w w' : World} {B gp g gu gt : Nat} {vo vk vo2 vk2 : Value} {l : List FieldL} {most least : Int} {told : Bool} (h : Pk w B gp g vo vk l most told least) (ap : Ap gp g vo vk gu gt vo2 vk2) (hc : Chg (PU gu gt vo2) w w') : Pk w' B gp g vo vk l most told least :=
  h.chg hc (fun e => (ap.b _ e).1 rfl) (fun e => (ap.b _ e).2.1 rfl) (fun k hk e => (ap.b _ e).2.2.1 hk) (fun k hk e => (ap.b _ e).2.2.2 hk)
theorem Ap.start {w1 w2 : World} {B gp g gu gt : Nat} {vk vk2 : Value} {lp lu : List FieldL} {mp mu least top list : Int} {told bad : Bool} (hp : Pk w1 B gp g (.slice none 0 0) vk lp mp told least) (hu : Un w2 w1.heap.size gu gt (.slice none 0 0) vk2 lu mu top list bad) : Ap gp g (.slice none 0 0) vk gu gt (.slice none 0 0) vk2 := by
  have l1 := hp.lt
  have l2 := hp.t.lt
  have l3 := fun k hk => (hp.t.kn.lt k hk).2
  have m1 := hu.pB
  have m2 := hu.t.gB
  have m3 := fun k hk => (hu.t.kn.lt k hk).1
  refine ⟨fun k hk => ?_, fun k hk => ?_⟩
  · rcases hk with rfl | rfl | hk
    · exact ⟨by omega, by omega, fun e => (by cases e), fun e => by have := m3 _ e; omega⟩
    · exact ⟨by omega, by omega, fun e => (by cases e), fun e => by have := m3 _ e; omega⟩
    · cases hk
  · rcases hk with rfl | rfl | hk
    · exact ⟨by omega, by omega, fun e => (by cases e), fun e => by have := l3 _ e; omega⟩
    · exact ⟨by omega, by omega, fun e => (by cases e), fun e => by have := l3 _ e; omega⟩
    · cases hk


set_option linter.unusedSimpArgs false in
set_option maxHeartbeats 32000000 in
set_option maxRecDepth 100000 in
theorem packback_any (v : Value) (L : List AskR) (w : World) (hm : MaxOk w) (hr : RbK w v L) (hok : ∀ x ∈ L, AskRR x) :
    Calls Tryd.prog 17 #[v] w fun e w' => e = .returned (.bool true) ∧ Aft w w' := by
  have HMA := Lib.hid (fun w' (a : Aft w w') => hm.aft a)
  have HNP := Lib.hid (pnew_yes 4096 (by decide) (by decide) w hm)
  obtain ⟨va, vc, vb, voff, rfl, hvc, hvm, hcell⟩ := hr.open
  unfold maxLen at hvm
  have HCELL := Lib.hid hcell
  have HOK := Lib.hid hok
  clear hr hm hcell hok
  go_enter Tryd.func17, Tryd.ntmps17
  go_wp2_with fail
  refine HNP.out.mono ?_
  rintro e w1 ⟨gp, g, vk, rfl, hp1, a1⟩
  have HP1 := Lib.hid hp1
  have HA1 := Lib.hid a1
  have HNU := Lib.hid (unew_yes 4096 2147483647 (by decide) (by decide) (by decide) (by decide) w1 (HMA.out w1 a1))
  clear hp1 a1 HNP
  go_wp2_with fail
  refine HNU.out.mono ?_
  rintro e w2 ⟨gu, gt, vk2, rfl, hu2, a2⟩
  have HU := Lib.hid hu2
  have HP := Lib.hid (HP1.out.aft a2)
  have HAP := Lib.hid (Ap.start HP1.out hu2)
  have HA := Lib.hid (HA1.out.trans a2)
  have HB1 := Lib.hid HA1.out.to.size
  clear hu2 a2 HNU HP1 HA1
  generalize w1.heap.size = B1 at HU HB1
  go_wp2_with fail
  go_loopw [7] (fun vi wr => ∃ (k : Nat) (lp lu : List FieldL) (mp mu least : Int) (told : Bool) (vo vo2 : Value), k ≤ L.length ∧ k ≤ 15 ∧ vi = .int .i64 (k : Int) ∧ Hid (Pk wr w.heap.size gp g vo vk lp mp told least) ∧ Hid (Un wr B1 gu gt vo2 vk2 lu mu 4096 2147483647 false) ∧ Hid (PR lp mp told least lu mu) ∧ Hid (Ap gp g vo vk gu gt vo2 vk2) ∧ Hid (Aft w wr)) (fun vi _ => L.length - (intOf vi).toNat)
  case atStart => exact ⟨0, [], [], 4096, 4096, 0, true, _, _, by omega, by omega, by go_num, HP, HU, Lib.hid PR.init, HAP, HA⟩
  case round =>
    clear HP HU HAP HA
    obtain ⟨k, lp, lu, mp, mu, least, told, vo, vo2, hk, hk15, rfl, HP, HU, HPR, HAP, HA⟩ := hrel
    by_cases hlt : k < L.length
    · have i1 : (k : Int) < (L.length : Int) := by omega
      by_cases hlt15 : k < 15
      · have i2 : (k : Int) < 15 := by omega
        obtain ⟨rfl, kd, nn, rows, ra, rc, ekd, enn, erw, c0, c1, c2, hrc1, hrc2, hrw⟩ := RbK.next HCELL.out HA.out hlt
        have hak := HOK.out _ (List.getElem_mem hlt)
        have HN2 : Hid ((-9223372036854775808 ≤ nn ∧ nn ≤ 9223372036854775807) ∧ RowsLim rows) := Lib.hid ⟨⟨by rw [← enn]; exact hak.n0, by rw [← enn]; exact hak.n1⟩, by have := hak.lim; rw [erw] at this; exact this⟩
        unfold maxLen at hrc2
        have HRW := Lib.hid hrw
        have HLT := Lib.hid hlt
        clear hak ekd enn erw hrw hlt hk
        have hAx : Aft wr (wr.alloc (.cells #[.int .i64 kd, .int .i64 nn, .slice ra rows.length rc] 68)) := (Aft.refl wr).alloc _
        have hxx : AB3 (wr.alloc (.cells #[.int .i64 kd, .int .i64 nn, .slice ra rows.length rc] 68)) wr.heap.size kd nn (.slice ra rows.length rc) := heap_alloc_new wr _
        have HBX := Lib.hid hxx
        have HPX := Lib.hid (HP.out.aft hAx)
        have HUX := Lib.hid (HU.out.aft hAx)
        have HAX := Lib.hid (HA.out.trans hAx)
        clear hAx hxx HP HU HA
        go_upto_region 9 with fail
        clear c0 c1 c2
        generalize wr.heap.size = gx at HBX ⊢
        generalize wr.alloc (.cells #[.int .i64 kd, .int .i64 nn, .slice ra rows.length rc] 68) = wx at HBX HPX HUX HAX ⊢
        obtain ⟨y0, y1, y2⟩ := HBX.out.cells
        by_cases hkd2 : kd = 2
        · subst hkd2
          go_wp2_with fail
          refine (within_any nn 0 4096 HN2.out.1.1 HN2.out.1.2 (by decide) (by decide) (by decide) wx).mono ?_
          rintro e w3 ⟨r, rfl, r0, r1, rfl⟩
          have HRS := Lib.hid (presize_yes r HPX.out (by have h1 := HPR.out.p0; have h2 := HPR.out.m1; omega) r0 (by omega))
          have HPR5 := Lib.hid (HPR.out.resize r r0 r1)
          clear r0 r1
          go_wp2_with fail
          refine HRS.out.mono ?_
          rintro e w5 ⟨rfl, vo', h5, c5, o5⟩
          have HP5 := Lib.hid h5
          have HU5 := Lib.hid (HUX.out.chgP HAP.out c5)
          have HA5 := Lib.hid (Pk.below HAX.out HPX.out (Nat.le_refl _) c5)
          have HAP5 := Lib.hid (HAP.out.stepP HUX.out (fun k hk => Or.inl (o5 k hk)))
          clear h5 c5 o5 HRS y0 y1 y2
          go_wp2_with fail
          go_roundw
          case rel => exact ⟨k + 1, _, _, _, _, _, _, vo', vo2, HLT.out, by omega, by go_num, HP5, HU5, HPR5, HAP5, HA5⟩
          case measure => have := HLT.out; simp [intOf]; omega
        · 
          have HLI := Lib.hid (light8_any (.slice ra rows.length rc) rows wx (HRW.out.aft HAX.out) HN2.out.2)
          by_cases hsm : ¬ sumR rows ≤ 3000
          · rw [decide_eq_false hsm] at HLI
            clear hsm
            go_wp2_with fail
            refine HLI.out.mono ?_
            rintro e w4 ⟨rfl, a4⟩
            have HP4 := Lib.hid (HPX.out.aft a4)
            have HU4 := Lib.hid (HUX.out.aft a4)
            have HA4 := Lib.hid (HAX.out.trans a4)
            clear a4 HLI y0 y1 y2
            go_wp2_with fail
            go_roundw
            case rel => exact ⟨k + 1, _, _, _, _, _, _, _, _, HLT.out, by omega, by go_num, HP4, HU4, HPR, HAP, HA4⟩
            case measure => have := HLT.out; simp [intOf]; omega
          · have hsm := Decidable.not_not.1 hsm
            rw [decide_eq_true hsm] at HLI
            have HSM := Lib.hid hsm
            have hrl : rows.length ≤ 1000 := by have := sumR_len rows; omega
            clear hsm
            go_wp2_with fail
            refine HLI.out.mono ?_
            rintro e w4 ⟨rfl, a4⟩
            have HP4 := Lib.hid (HPX.out.aft a4)
            have HU4 := Lib.hid (HUX.out.aft a4)
            have HA4 := Lib.hid (HAX.out.trans a4)
            have HB4 := Lib.hid (HBX.out.aft a4)
            obtain ⟨y0, y1, y2⟩ := HB4.out.cells
            have HBK := Lib.hid (pblock_any (.slice ra rows.length rc) rows HP4.out HPR.out.p0 HPR.out.m0 (by have := HPR.out.m1; omega) HPR.out.l0 (by have := HPR.out.l1; omega) HA4.out.to.size (fun wx hc => HRW.out.old HA4.out HP4.out (Nat.le_refl _) wx hc) (by have := HSM.out; omega))
            clear a4 HLI
            go_wp2_with fail
            refine HBK.out.mono ?_
            rintro e w6 ⟨v6, vo6, rfl, hi6⟩
            obtain ⟨ba, bc, hv6⟩ := hi6.own.slice8
            subst hv6
            have HP6 := Lib.hid hi6.pk
            have HO6 := Lib.hid hi6.own
            have HU6 := Lib.hid (HU4.out.chgP HAP.out hi6.chg)
            have HA6 := Lib.hid (Pk.below HA4.out HP4.out (Nat.le_refl _) hi6.chg)
            have HB6 := Lib.hid (HB4.out.chg hi6.chg (HB4.out.notP HP4.out))
            have HAP6 := Lib.hid (HAP.out.stepP HU4.out hi6.ob)
            have HQ := Lib.hid (HPR.out.block rows HSM.out)
            have HPR6 := Lib.hid (HPR.out.next rows HSM.out)
            have hbl := rowsB_len mp rows (sizesL told least mp, lp)
            have hsz := sizesL_len told least mp
            simp only at hbl
            obtain ⟨bk, hbk⟩ : ∃ b, (rowsB mp (sizesL told least mp, lp) rows).1 = b := ⟨_, rfl⟩
            obtain ⟨T, hT⟩ : ∃ b, (rowsB mp (sizesL told least mp, lp) rows).2 = b := ⟨_, rfl⟩
            rw [hbk] at HO6 HQ hbl
            rw [hbk]
            rw [hT] at HP6 HQ HPR6
            have HUB := Lib.hid (ublock_any (va := ba) (cap := bc) (b := bk) HU6.out (fun wx hc => (HO6.out.un7 HU6.out hc).rb) (by have := HSM.out; omega) HPR.out.u0 HPR.out.n0 (by have := HPR.out.n1; omega) (by decide) (by decide) (by decide))
            have HRR := Lib.hid (And.intro (readR_len mp rows lp) (readR_get mp rows lp))
            obtain ⟨R, hR⟩ : ∃ R, readR mp lp rows = R := ⟨_, rfl⟩
            rw [hR] at HQ HRR
            clear hi6 hbl hsz hbk hT hR HBK HP4 HU4 HA4 HB4 HPX HUX HAX HBX HAP HPR y0 y1 y2
            go_wp2_with fail
            refine HUB.out.mono ?_
            intro e w7 hp
            obtain ⟨ma, mk, vo7, rfl, hu7, ho7, hc7, hb7⟩ : ∃ (ra' : Option Addr) (rk : Nat) (vo' : Value), e = .returned (.tuple #[.slice ra' rows.length rk, .int .i64 0]) ∧ Un w7 B1 gu gt vo' vk2 T mp 4096 2147483647 false ∧ OwnW w7 w6.heap.size (.slice ra' rows.length rk) R ∧ Chg (PU gu gt vo2) w6 w7 ∧ ∀ k, vo'.ownBlock = some k → vo2.ownBlock = some k ∨ w6.heap.size ≤ k := by
              rcases hp with ⟨_, ra', rk, vo', h1, h2, h3, h4, h5⟩ | ⟨h1, _⟩
              · rw [HQ.out.2.1] at h1 h3
                rw [HQ.out.2.2.1, HQ.out.2.2.2] at h2
                rw [HRR.out.1] at h1 h3
                exact ⟨ra', rk, vo', h1, h2, h3, h4, h5⟩
              · exact absurd HQ.out.1 h1
            clear hp HUB HQ
            have HU7 := Lib.hid hu7
            have HP7 := Lib.hid (HP6.out.chgU HAP6.out hc7)
            have HA7 := Lib.hid (Un.below HA6.out HU6.out HB1.out hc7)
            have HB7 := Lib.hid (HB6.out.chg hc7 (HB6.out.notU HU6.out))
            have HAP7 := Lib.hid (HAP6.out.stepU HP6.out hb7)
            have HR7 := Lib.hid ho7.rbw
            clear hu7 ho7 hc7 hb7 HU6 HP6 HA6 HB6 HAP6 HO6
            obtain ⟨y0, y1, y2⟩ := HB7.out.cells
            have hne : ((rows.length : Int) != (rows.length : Int)) = false := by simp
            go_wp2_with fail
            obtain ⟨pa, pc, pb, poff, hpv, -, hpm, hcellm⟩ := HR7.out.open
            injection hpv with hpa hpl hpc
            subst hpa hpc
            clear hpl
            obtain ⟨qa, qc, qb, qoff, hqv, -, -, hcellq⟩ := (HRW.out.aft HA7.out).open
            injection hqv with hqa _ hqc
            subst hqa hqc
            have HCM := Lib.hid hcellm
            have HCQ := Lib.hid hcellq
            unfold maxLen at hpm
            clear hcellm hcellq
            go_loopw [11] (fun vj wy => ∃ j : Nat, j ≤ rows.length ∧ vj = .int .i64 (j : Int) ∧ Hid (Aft w7 wy)) (fun vj _ => rows.length - (intOf vj).toNat)
            case atStart => exact ⟨0, by omega, by go_num, Lib.hid (Aft.refl _)⟩
            case round =>
              obtain ⟨j, hj, rfl, HX⟩ := hrel
              by_cases hin : j < rows.length
              · obtain ⟨rfl, hmb, z0, z1, z2⟩ := HCM.out j (by rw [HRR.out.1]; exact hin)
                obtain ⟨rfl, hqb, x0, x1, x2⟩ := HCQ.out j hin
                obtain ⟨hf, hh⟩ := HRR.out.2 j hin (by rw [HRR.out.1]; exact hin)
                rw [hf] at z0 z1
                rw [← Below.cell HX.out.to (p := ⟨pb, poff + j * 3, none⟩) hmb] at z0
                rw [← Below.cell HX.out.to (p := ⟨pb, poff + j * 3 + 1, none⟩) hmb] at z1
                rw [← Below.cell HX.out.to (p := ⟨pb, poff + j * 3 + 2, none⟩) hmb] at z2
                rw [← Below.cell HX.out.to (p := ⟨qb, qoff + j * 3, none⟩) hqb] at x0
                rw [← Below.cell HX.out.to (p := ⟨qb, qoff + j * 3 + 1, none⟩) hqb] at x1
                rw [← Below.cell HX.out.to (p := ⟨qb, qoff + j * 3 + 2, none⟩) hqb] at x2
                obtain ⟨s1, hs1⟩ : ∃ s, strV rows[j].f.1 = .string s := ⟨_, rfl⟩
                obtain ⟨s2, hs2⟩ : ∃ s, strV rows[j].f.2 = .string s := ⟨_, rfl⟩
                rw [hs1] at z0 x0
                rw [hs2] at z1 x1
                obtain ⟨h1, hh1⟩ : ∃ h, R[j]'(by rw [HRR.out.1]; exact hin) = h := ⟨_, rfl⟩
                rw [hh1] at z2 hh
                obtain ⟨h2, hh2⟩ : ∃ h, rows[j] = h := ⟨_, rfl⟩
                rw [hh2] at x2 hh
                obtain ⟨n1, hn1⟩ : ∃ n, h1.how = n := ⟨_, rfl⟩
                obtain ⟨n2, hn2⟩ : ∃ n, h2.how = n := ⟨_, rfl⟩
                rw [hn1] at z2 hh
                rw [hn2] at x2 hh
                have HXB := Lib.hid (HB7.out.aft HX.out)
                obtain ⟨b0, b1, b2⟩ := HXB.out.cells
                have i3 : (j : Int) < (rows.length : Int) := by omega
                have HIN := Lib.hid hin
                clear hf hs1 hs2 hh1 hh2 hn1 hn2 hmb hqb hin hj y0 y1 y2
                by_cases h3 : n2 = 3
                all_goals
                  first
                  | (have h4 : n1 = 3 := hh.2 h3; have e1 : (n1 == 3) = true := (by rw [h4]; rfl); have e2 : (n2 == 3) = true := (by rw [h3]; rfl))
                  | (have h4 : ¬ n1 = 3 := fun e => h3 (hh.1 e); have e1 : (n1 == 3) = false := beq_eq_false_iff_ne.2 h4; have e2 : (n2 == 3) = false := beq_eq_false_iff_ne.2 h3)
                  clear hh h3 h4
                  go_wp2_with fail
                  go_quiet (fail)
                  go_wp2_with fail
                  go_roundw
                  case rel => exact ⟨j + 1, HIN.out, by go_num, Lib.hid (HX.out.drewN _)⟩
                  case measure => have := HIN.out; simp [intOf]; omega
              · obtain rfl : j = rows.length := by omega
                have i3 : ¬ (rows.length : Int) < (rows.length : Int) := by omega
                have HP8 := Lib.hid (HP7.out.aft HX.out)
                have HU8 := Lib.hid (HU7.out.aft HX.out)
                have HA8 := Lib.hid (HA7.out.trans HX.out)
                clear HX hj y0 y1 y2 HP7 HU7 HA7 HB7 HR7
                obtain ⟨n1, hn1⟩ : ∃ n : Int, (T.length : Int) = n := ⟨_, rfl⟩
                obtain ⟨n2, hn2⟩ : ∃ n : Int, (sumF T : Int) = n := ⟨_, rfl⟩
                have HPT := Lib.hid (ptable_any HP8.out)
                have HUT := Lib.hid (fun wz (a : Aft wr wz) => utable_any (HU8.out.aft a))
                rw [hn1, hn2] at HPT HUT
                clear hn1 hn2
                go_wp2_with fail
                refine HPT.out.mono ?_
                rintro e w9 ⟨rfl, a9⟩
                have HP9 := Lib.hid (HP8.out.aft a9)
                have HU9 := Lib.hid (HU8.out.aft a9)
                have HA9 := Lib.hid (HA8.out.trans a9)
                have HUT9 := Lib.hid (HUT.out w9 a9)
                clear a9 HPT HUT HP8 HU8 HA8
                go_wp2_with fail
                refine HUT9.out.mono ?_
                rintro e w10 ⟨rfl, a10⟩
                have HP10 := Lib.hid (HP9.out.aft a10)
                have HU10 := Lib.hid (HU9.out.aft a10)
                have HA10 := Lib.hid (HA9.out.trans a10)
                clear a10 HUT9 HP9 HU9 HA9
                go_wp2_with fail
                go_roundw
                case rel => exact ⟨k + 1, T, T, mp, mp, least, true, vo6, vo7, HLT.out, by omega, by go_num, HP10, HU10, HPR6, HAP7, HA10⟩
                case measure => have := HLT.out; simp [intOf]; omega
      · have i2 : ¬ (k : Int) < 15 := by omega
        go_wp2_with fail
        refine (packruns_any wr (HMA.out wr HA.out)).mono ?_
        rintro e w5 ⟨rfl, a5⟩
        have HA5 := Lib.hid (HA.out.trans a5)
        clear a5
        go_wp2_with fail
        go_ret
        exact ⟨rfl, HA5.out⟩
    · have i1 : ¬ (k : Int) < (L.length : Int) := by omega
      go_wp2_with fail
      refine (packruns_any wr (HMA.out wr HA.out)).mono ?_
      rintro e w5 ⟨rfl, a5⟩
      have HA5 := Lib.hid (HA.out.trans a5)
      clear a5
      go_wp2_with fail
      go_ret
      exact ⟨rfl, HA5.out⟩

set_option maxRecDepth 100000 in
theorem walkPackBack (w : World) (hsh : w.ShapedOpen Tryd.prog) {H : Type} {enc : TypeId × Value → H} {base : Nat} {v0 : Value} {d0 : DataW H} {p0 : List MemPlace}
    (hval0 : Value.okWide Tryd.prog w .any base 63 v0) (k0 : DataW.Trod enc Tryd.prog w 0 (fun _ => true) true 63 v0 d0 p0) (hk : (DataW.weightsEach Tryd.prog [63] [d0]).all (· ≤ reachBytes) = true) :
    Calls Tryd.prog 17 #[v0] w fun e w' => e = .returned (.bool true) ∧ Aft w w' := by
  obtain ⟨L, hr, hok⟩ := open_asks8R hval0 k0 (wt_at hk (j := 0) rfl rfl)
  exact packback_any v0 L w (maxOk_of w hsh) hr hok
end Go.Proofs.YtmlnboibclfmcaaDoor
