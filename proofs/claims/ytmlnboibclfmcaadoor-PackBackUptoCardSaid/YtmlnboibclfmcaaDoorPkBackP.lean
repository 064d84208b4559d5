/-
  PackBack: the plain law.
-/
import Derived.Test.YtmlnboibclfmcaaDoorUnBdP
import Derived.Test.YtmlnboibclfmcaaDoorUnBack
namespace Go.Proofs.YtmlnboibclfmcaaDoor
open Go.RowKit
set_option linter.unusedVariables false

theorem fitF_fitF {a b : Int} : ∀ (n : Nat) (l : List FieldL), l.length = n → fitF a (fitF b l) = fitF (if a < b then a else b) l
  | 0, l, h => by
    obtain rfl := List.eq_nil_of_length_eq_zero h
    rw [fitF_stop (m := b) (Or.inl rfl), fitF_stop (Or.inl rfl), fitF_stop (Or.inl rfl)]
  | n + 1, l, h => by
    by_cases hb : (sumF l : Int) ≤ b
    · rw [fitF_stop (m := b) (Or.inr hb)]
      by_cases hab : a < b
      · rw [if_pos hab]
      · rw [if_neg hab, fitF_stop (m := a) (Or.inr (by omega)), fitF_stop (Or.inr hb)]
    · have hne : ¬ (l = [] ∨ (sumF l : Int) ≤ b) := fun e => by
        rcases e with rfl | e
        · simp at h
        · exact hb e
      have hne2 : ¬ (l = [] ∨ (sumF l : Int) ≤ (if a < b then a else b)) := fun e => by
        rcases e with rfl | e
        · simp at h
        · split at e <;> omega
      rw [fitF_go hne, fitF_go hne2]
      exact fitF_fitF n l.dropLast (by simp [h])
theorem howU_three (x : Bool) (how : Int) : howU x how = 3 ↔ how = 3 := by
  unfold howU
  split
  · rename_i h; exact ⟨fun _ => h, fun _ => rfl⟩
  · rename_i h
    split
    · exact ⟨fun e => (by cases e), fun e => absurd e h⟩
    · exact ⟨fun e => (by cases e), fun e => absurd e h⟩
theorem readR_len (most : Int) : ∀ (rs : List RowL) (l : List FieldL), (readR most l rs).length = rs.length
  | [], l => rfl
  | r :: rs, l => by rw [readR, List.length_cons, List.length_cons, readR_len most rs]
theorem readR_get (most : Int) : ∀ (rs : List RowL) (l : List FieldL) (i : Nat) (h : i < rs.length) (h2 : i < (readR most l rs).length), ((readR most l rs)[i]).f = rs[i].f ∧ (((readR most l rs)[i]).how = 3 ↔ rs[i].how = 3)
  | r :: rs, l, 0, h, h2 => by
    constructor
    · rfl
    · exact howU_three _ _
  | r :: rs, l, i + 1, h, h2 => by
    simp only [readR, List.getElem_cons_succ]
    exact readR_get most rs _ i (by simpa using h) (by simpa [readR] using h2)
theorem runU_size {top list : Int} {b : List UInt8} {s : US} {n : Nat} (hr : s.rows = []) (hs : s.sizes < 2) (hn : (n : Int) ≤ top) (ht : top ≤ 65536) (ha : AtU b s.at_ (pintL 5 32 n)) :
    runU top list b (b.length + 1) s = runU top list b (b.length + 1) ⟨s.at_ + (pintL 5 32 n).length, [], s.sum, s.sizes + 1, fitF (n : Int) s.tab, (n : Int)⟩ := by
  obtain ⟨hg, c, hc, c1, c2⟩ := getL_put (n := 5) (top := 32) (by decide) (by decide) (by decide) (by decide) (by omega) ha
  have hm : maskN 5 = 31 := rfl
  have hst : stepU top list b s c.toNat = (⟨s.at_ + (pintL 5 32 n).length, [], s.sum, s.sizes + 1, fitF (n : Int) s.tab, (n : Int)⟩, 0) := by
    unfold stepU
    rw [if_pos (by omega), hg]
    simp only
    rw [if_neg (by simp), if_neg (by rw [hr]; simp; omega), hr]
  rw [runU_step hc, hst]
  simp only
  rw [if_neg (by simp)]
/-- The packer and the unpacker, side by side. -/
structure PR (lp : List FieldL) (mp : Int) (told : Bool) (least : Int) (lu : List FieldL) (mu : Int) : Prop where
  p0 : (sumF lp : Int) ≤ mp
  m0 : 0 ≤ mp
  m1 : mp ≤ 4096
  l0 : 0 ≤ least
  l1 : least ≤ 4096
  u0 : (sumF lu : Int) ≤ mu
  n0 : 0 ≤ mu
  n1 : mu ≤ 4096
  yes : told = true → lu = lp ∧ mu = mp
  no : told = false → lp = fitF least lu ∧ least ≤ mp
theorem PR.init : PR [] 4096 true 0 [] 4096 := ⟨by decide, by decide, by decide, by decide, by decide, by decide, by decide, by decide, fun _ => ⟨rfl, rfl⟩, fun h => (by cases h)⟩
theorem PR.resize {lp lu : List FieldL} {mp mu least : Int} {told : Bool} (h : PR lp mp told least lu mu) (n : Int) (n0 : 0 ≤ n) (n1 : n ≤ 4096) : PR (fitF n lp) n false (leastN told least n) lu mu := by
  refine ⟨fitF_le' n0, n0, n1, ?_, ?_, h.u0, h.n0, h.n1, fun e => (by cases e), fun _ => ?_⟩
  · unfold leastN; split
    · exact n0
    · exact h.l0
  · unfold leastN; split
    · exact n1
    · exact h.l1
  · cases told with
    | true =>
      obtain ⟨rfl, -⟩ := h.yes rfl
      unfold leastN
      rw [if_pos (Or.inl rfl)]
      exact ⟨rfl, Int.le_refl _⟩
    | false =>
      obtain ⟨e, h2⟩ := h.no rfl
      have e2 : leastN false least n = (if n < least then n else least) := by unfold leastN; simp
      rw [e2, e, fitF_fitF _ lu rfl]
      refine ⟨rfl, ?_⟩
      split <;> omega
theorem PR.block {lp lu : List FieldL} {mp mu least : Int} {told : Bool} (h : PR lp mp told least lu mu) (rows : List RowL) (hs : sumR rows ≤ 3000) :
    (blkU 4096 2147483647 (rowsB mp (sizesL told least mp, lp) rows).1 lu mu).2 = 0 ∧ (blkU 4096 2147483647 (rowsB mp (sizesL told least mp, lp) rows).1 lu mu).1.rows = readR mp lp rows ∧ (blkU 4096 2147483647 (rowsB mp (sizesL told least mp, lp) rows).1 lu mu).1.tab = (rowsB mp (sizesL told least mp, lp) rows).2 ∧ (blkU 4096 2147483647 (rowsB mp (sizesL told least mp, lp) rows).1 lu mu).1.most = mp := by
  have hrow : ∀ r ∈ rows, r.f.1.length ≤ 60000 ∧ r.f.2.length ≤ 60000 := fun r hr => by have := sumR_mem hr; omega
  have hm0 := h.m0
  have hm1 := h.m1
  have hl0 := h.l0
  have hl1 := h.l1
  have hp0 := h.p0
  rw [rowsB_bytes]
  simp only
  obtain ⟨b, hb⟩ : ∃ b, sizesL told least mp ++ (rowsB mp ([], lp) rows).1 = b := ⟨_, rfl⟩
  rw [hb]
  have key : ∃ (k z : Nat), runU 4096 2147483647 b (b.length + 1) (us0 lu mu) = runU 4096 2147483647 b (b.length + 1) ⟨k, [], 0, z, lp, mp⟩ ∧ k ≤ b.length ∧ b.drop k = (rowsB mp ([], lp) rows).1 := by
    cases told with
    | true =>
      obtain ⟨rfl, rfl⟩ := h.yes rfl
      refine ⟨0, 0, rfl, Nat.zero_le _, ?_⟩
      rw [← hb]
      simp [sizesL]
    | false =>
      obtain ⟨e, h2⟩ := h.no rfl
      unfold sizesL at hb
      rw [if_neg (by simp)] at hb
      by_cases hlt : least < mp
      · rw [if_pos hlt] at hb
        obtain ⟨x, hx⟩ : ∃ x : Nat, least = (x : Int) := ⟨least.toNat, by omega⟩
        obtain ⟨y, hy⟩ : ∃ y : Nat, mp = (y : Int) := ⟨mp.toNat, by omega⟩
        subst hx hy
        rw [Int.toNat_natCast, Int.toNat_natCast] at hb
        have ha1 : AtU b 0 (pintL 5 32 x) := ⟨pintL 5 32 y ++ (rowsB (y : Int) ([], lp) rows).1, by rw [← hb]; simp⟩
        have ha2 : AtU b (0 + (pintL 5 32 x).length) (pintL 5 32 y) := ⟨(rowsB (y : Int) ([], lp) rows).1, by rw [← hb]; simp⟩
        have s1 := runU_size (top := 4096) (list := 2147483647) (s := us0 lu mu) (n := x) rfl (by show (0 : Nat) < 2; decide) (by omega) (by decide) ha1
        have s2 := runU_size (top := 4096) (list := 2147483647) (s := ⟨(us0 lu mu).at_ + (pintL 5 32 x).length, [], (us0 lu mu).sum, (us0 lu mu).sizes + 1, fitF (x : Int) (us0 lu mu).tab, (x : Int)⟩) (n := y) rfl (by show (1 : Nat) < 2; decide) (by omega) (by decide) ha2
        rw [s1, s2]
        have ef : fitF (y : Int) (fitF (x : Int) lu) = lp := by
          rw [fitF_fitF _ lu rfl, if_neg (by omega), e]
        refine ⟨0 + (pintL 5 32 x).length + (pintL 5 32 y).length, 2, ?_, ?_, ?_⟩
        · show runU _ _ _ _ (⟨0 + (pintL 5 32 x).length + (pintL 5 32 y).length, [], 0, 2, fitF (y : Int) (fitF (x : Int) lu), (y : Int)⟩ : US) = _
          rw [ef]
        · rw [← hb]; simp
        · rw [← hb]; simp
      · rw [if_neg hlt] at hb
        obtain rfl : least = mp := by omega
        obtain ⟨y, hy⟩ : ∃ y : Nat, least = (y : Int) := ⟨least.toNat, by omega⟩
        subst hy
        rw [Int.toNat_natCast, List.nil_append] at hb
        have ha1 : AtU b 0 (pintL 5 32 y) := ⟨(rowsB (y : Int) ([], lp) rows).1, by rw [← hb]; simp⟩
        have s1 := runU_size (top := 4096) (list := 2147483647) (s := us0 lu mu) (n := y) rfl (by show (0 : Nat) < 2; decide) (by omega) (by decide) ha1
        rw [s1]
        refine ⟨0 + (pintL 5 32 y).length, 1, ?_, ?_, ?_⟩
        · show runU _ _ _ _ (⟨0 + (pintL 5 32 y).length, [], 0, 1, fitF (y : Int) lu, (y : Int)⟩ : US) = _
          rw [← e]
        · rw [← hb]; simp
        · rw [← hb]; simp
  obtain ⟨k, z, h1, h2, h3⟩ := key
  have hq : blkU 4096 2147483647 b lu mu = runU 4096 2147483647 b (b.length + 1) (us0 lu mu) := rfl
  have hr := runU_rows (top := 4096) (list := 2147483647) (b := b) hm0 (by omega) rows ⟨k, [], 0, z, lp, mp⟩ rfl hp0 hrow h2 h3 (by show ((0 + sumR rows : Nat) : Int) ≤ _; omega)
  rw [hq, h1, hr]
  exact ⟨rfl, rfl, rfl, rfl⟩
theorem PR.next {lp lu : List FieldL} {mp mu least : Int} {told : Bool} (h : PR lp mp told least lu mu) (rows : List RowL) (hs : sumR rows ≤ 3000) : PR (rowsB mp (sizesL told least mp, lp) rows).2 mp true least (rowsB mp (sizesL told least mp, lp) rows).2 mp := by
  obtain ⟨-, -, h3, h4⟩ := h.block rows hs
  have hj := blkU_SJ (top := 4096) (list := 2147483647) (b := (rowsB mp (sizesL told least mp, lp) rows).1) h.u0 h.n0 h.n1
  have h5 := hj.tab
  rw [h3, h4] at h5
  exact ⟨h5, h.m0, h.m1, h.l0, h.l1, h5, h.m0, h.m1, fun _ => ⟨rfl, rfl⟩, fun e => by cases e⟩
/-- The packer's blocks and the unpacker's lie apart. -/
structure Ap (gp g : Nat) (vo vk : Value) (gu gt : Nat) (vo2 vk2 : Value) : Prop where
  a : ∀ k, PP gp g vo k → k ≠ gu ∧ k ≠ gt ∧ vo2.ownBlock ≠ some k ∧ vk2.ownBlock ≠ some k
  b : ∀ k, PU gu gt vo2 k → k ≠ gp ∧ k ≠ g ∧ vo.ownBlock ≠ some k ∧ vk.ownBlock ≠ some k
theorem Ap.stepP {w : World} {B2 gp g gu gt : Nat} {vo vo' vk vo2 vk2 : Value} {lu : List FieldL} {mu top list : Int} {bad : Bool} (h : Ap gp g vo vk gu gt vo2 vk2) (hu : Un w B2 gu gt vo2 vk2 lu mu top list bad) (ob : ∀ k, vo'.ownBlock = some k → vo.ownBlock = some k ∨ w.heap.size ≤ k) : Ap gp g vo' vk gu gt vo2 vk2 := by
  have l1 := hu.lt
  have l2 := hu.t.lt
  have l3 := fun k hk => (hu.t.own.lt k hk).2
  have l4 := fun k hk => (hu.t.kn.lt k hk).2
  refine ⟨fun k hk => ?_, fun k hk => ?_⟩
  · rcases hk with hk | hk | hk
    · exact h.a k (Or.inl hk)
    · exact h.a k (Or.inr (Or.inl hk))
    · rcases ob k hk with h1 | h1
      · exact h.a k (Or.inr (Or.inr h1))
      · refine ⟨by omega, by omega, fun e => ?_, fun e => ?_⟩
        · have := l3 k e; omega
        · have := l4 k e; omega
  · obtain ⟨b1, b2, b3, b4⟩ := h.b k hk
    refine ⟨b1, b2, fun e => ?_, b4⟩
    rcases ob k e with h1 | h1
    · exact b3 h1
    · rcases hk with rfl | rfl | hk
      · omega
      · omega
      · have := l3 k hk; omega
theorem Ap.stepU {w : World} {B gp g gu gt : Nat} {vo vk vo2 vo2' vk2 : Value} {lp : List FieldL} {mp least : Int} {told : Bool} (h : Ap gp g vo vk gu gt vo2 vk2) (hp : Pk w B gp g vo vk lp mp told least) (ob : ∀ k, vo2'.ownBlock = some k → vo2.ownBlock = some k ∨ w.heap.size ≤ k) : Ap gp g vo vk gu gt vo2' vk2 := by
  have l1 := hp.lt
  have l2 := hp.t.lt
  have l3 := fun k hk => (hp.t.own.lt k hk).2
  have l4 := fun k hk => (hp.t.kn.lt k hk).2
  refine ⟨fun k hk => ?_, fun k hk => ?_⟩
  · obtain ⟨b1, b2, b3, b4⟩ := h.a k hk
    refine ⟨b1, b2, fun e => ?_, b4⟩
    rcases ob k e with h1 | h1
    · exact b3 h1
    · rcases hk with rfl | rfl | hk
      · omega
      · omega
      · have := l3 k hk; omega
  · rcases hk with hk | hk | hk
    · exact h.b k (Or.inl hk)
    · exact h.b k (Or.inr (Or.inl hk))
    · rcases ob k hk with h1 | h1
      · exact h.b k (Or.inr (Or.inr h1))
      · refine ⟨by omega, by omega, fun e => ?_, fun e => ?_⟩
        · have := l3 k e; omega
        · have := l4 k e; omega
end Go.Proofs.YtmlnboibclfmcaaDoor
