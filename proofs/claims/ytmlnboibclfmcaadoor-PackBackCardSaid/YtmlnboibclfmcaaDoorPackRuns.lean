/-
  PackRuns.
-/
import Derived.Test.YtmlnboibclfmcaaDoorPackBlk
import Derived.Test.YtmlnboibclfmcaaDoorRoomy
import Derived.Test.YtmlnboibclfmcaaDoorMaxOk
import Derived.Laws.Rows
namespace Go.Proofs.YtmlnboibclfmcaaDoor
open Go.RowKit
set_option linter.unusedVariables false

def rv (l : List RowL) : List Value := l.flatMap fun r => [strV r.f.1, strV r.f.2, .int .i64 r.how]
theorem rv_len (l : List RowL) : (rv l).length = l.length * 3 := by
  induction l with
  | nil => rfl
  | cons r l ih =>
    have e : rv (r :: l) = [strV r.f.1, strV r.f.2, .int .i64 r.how] ++ rv l := by simp [rv]
    rw [e, List.length_append, ih, List.length_cons]
    simp
    omega
theorem rv_get : ∀ (l : List RowL) (i : Nat) (h : i < l.length), (rv l)[i * 3]? = some (strV l[i].f.1) ∧ (rv l)[i * 3 + 1]? = some (strV l[i].f.2) ∧ (rv l)[i * 3 + 2]? = some (.int .i64 l[i].how)
  | [], i, h => by simp at h
  | r :: l, 0, h => by simp [rv]
  | r :: l, i + 1, h => by
    have e : rv (r :: l) = [strV r.f.1, strV r.f.2, .int .i64 r.how] ++ rv l := by simp [rv]
    have h' : i < l.length := by simpa using h
    obtain ⟨h1, h2, h3⟩ := rv_get l i h'
    rw [e, show (i + 1) * 3 = 3 + i * 3 by omega, show 3 + i * 3 + 1 = 3 + (i * 3 + 1) by omega, show 3 + i * 3 + 2 = 3 + (i * 3 + 2) by omega]
    have hg : ∀ k, ([strV r.f.1, strV r.f.2, .int .i64 r.how] ++ rv l)[3 + k]? = (rv l)[k]? := fun k => by
      rw [List.getElem?_append_right (by simp)]
      simp
    rw [hg, hg, hg, List.getElem_cons_succ]
    exact ⟨h1, h2, h3⟩
/-- A block of rows. -/
def WB (w : World) (g : Nat) (l : List RowL) : Prop := w.heap[g]? = some (.cells (rv l).toArray 57 (0, 0))
theorem WB.lt {w : World} {g : Nat} {l : List RowL} (h : WB w g l) : g < w.heap.size := by
  rcases Nat.lt_or_ge g w.heap.size with h1 | h1
  · exact h1
  · unfold WB at h; rw [Array.getElem?_eq_none h1] at h; cases h
theorem WB.rb {w : World} {g : Nat} {l : List RowL} (h : WB w g l) (hl : l.length ≤ 1000000) : RbW w (.slice (some ⟨g, 0, none⟩) l.length l.length) l := by
  refine Or.inr ⟨g, 0, l.length, rfl, Nat.le_refl _, by unfold maxLen; omega, h.lt, fun i hi => ?_⟩
  unfold WB at h
  obtain ⟨h1, h2, h3⟩ := rv_get l i hi
  refine ⟨?_, ?_, ?_⟩ <;> rw [cell_of_row w g _ _ _ (0, 0) h] <;> simp only [Nat.zero_add, List.getElem?_toArray]
  · exact h1
  · exact h2
  · exact h3
theorem WB.pk {w : World} {g0 B gp g : Nat} {vo vk : Value} {l : List FieldL} {most : Int} {told : Bool} {least : Int} {rows : List RowL} (h : WB w g0 rows) (hp : Pk w B gp g vo vk l most told least) : ¬ PP gp g vo g0 := by
  unfold WB at h
  intro e
  rcases e with rfl | rfl | e
  · rw [hp.p] at h
    injection h with h
    injection h with _ h
    exact absurd h (by decide)
  · rw [hp.t.blk] at h
    injection h with h
    injection h with _ h
    exact absurd h (by decide)
  · obtain ⟨cur2, h2⟩ := hp.t.own.blk e
    rw [h2] at h
    injection h with h
    injection h with _ h
    exact absurd h (by decide)
theorem WB.chg {w : World} {g0 B gp g : Nat} {vo vk : Value} {l : List FieldL} {most : Int} {told : Bool} {least : Int} {rows : List RowL} (h : WB w g0 rows) (hp : Pk w B gp g vo vk l most told least) (hl : rows.length ≤ 1000000) : ∀ wx, Chg (PP gp g vo) w wx → RbW wx (.slice (some ⟨g0, 0, none⟩) rows.length rows.length) rows := fun wx hc =>
  WB.rb ((hc.block g0 h.lt (h.pk hp)).trans h) hl
theorem lit_rb (w : World) (l : List UInt8) (hl : l.length ≤ 1000000) : Rb (w.alloc (.cells (bv l).toArray 5)) (.slice (some ⟨w.heap.size, 0, none⟩) l.length l.length) l :=
  (Own.of_block (base := 0) (heap_alloc_new w _) (Nat.zero_le _) (by unfold maxLen; omega)).rb

theorem row8_any (n v : ByteArray) (how : Int) (w : World) : Calls Tryd.prog 37 #[.string n, .string v, .int .i64 how] w fun e w' => e = .returned (.agg #[.string n, .string v, .int .i64 how]) ∧ Aft w w' := by
  have hset := heap_alloc_new w (.cells #[.string n, .string v, .int .i64 how] 57)
  have hsz : (Tryd.prog.info? 57).map (·.size) = some (#[Value.string n, Value.string v, .int .i64 how]).size := by kernel_rfl
  have HS := Lib.hid hset
  have HZ := Lib.hid hsz
  clear hset hsz
  go_enter Tryd.func37, Tryd.ntmps37
  go_wp2_with fail
  refine bodyPost_ret (results_cell_row rfl _ _ w.heap.size 57 #[.string n, .string v, .int .i64 how] (0, 0) _ rfl HS.out Tryd.underlying57 rfl HZ.out) rfl ?_
  exact ⟨rfl, (Aft.refl w).alloc _⟩

/-- Block at rows that are known. -/
theorem block_of {w : World} {B gp g g0 : Nat} {vo vk : Value} {l l2 : List FieldL} {most : Int} {told : Bool} {least : Int} (rows : List RowL) (bytes : List UInt8) (h : Pk w B gp g vo vk l most told least) (hs : (sumF l : Int) ≤ most) (m0 : 0 ≤ most) (m1 : most ≤ 65536) (l0 : 0 ≤ least) (l1 : least ≤ 65536) (hB : B ≤ w.heap.size)
    (hw : WB w g0 rows) (hsum : sumR rows ≤ 1000000) (n : Nat) (hn : rows.length = n) (he : rowsB most (sizesL told least most, l) rows = (bytes, l2)) :
    Calls Tryd.prog 36 #[.pointer (some ⟨gp, 0, none⟩), .slice (some ⟨g0, 0, none⟩) n n] w fun e w' => ∃ v' vo', e = .returned v' ∧ BlkI w w' B gp g vo vk most least v' bytes l2 vo' := by
  subst hn
  have := pblock_any (.slice (some ⟨g0, 0, none⟩) rows.length rows.length) rows h hs m0 m1 l0 l1 hB (hw.chg h (by have := sumR_len rows; omega)) hsum
  rw [he] at this
  exact this

def pA : List RowL := [⟨([58, 109, 101, 116, 104, 111, 100], [71, 69, 84]), 1⟩, ⟨([58, 115, 99, 104, 101, 109, 101], [104, 116, 116, 112]), 1⟩, ⟨([58, 112, 97, 116, 104], [47]), 1⟩, ⟨([58, 97, 117, 116, 104, 111, 114, 105, 116, 121], [119, 119, 119, 46, 101, 120, 97, 109, 112, 108, 101, 46, 99, 111, 109]), 1⟩]
def pB : List RowL := [⟨([99, 117, 115, 116, 111, 109, 45, 107, 101, 121], [99, 117, 115, 116, 111, 109, 45, 118, 97, 108, 117, 101]), 3⟩]
def pC : List RowL := [⟨([58, 109, 101, 116, 104, 111, 100], [71, 69, 84]), 1⟩]
def tA : List FieldL := [([58, 97, 117, 116, 104, 111, 114, 105, 116, 121], [119, 119, 119, 46, 101, 120, 97, 109, 112, 108, 101, 46, 99, 111, 109])]
def bA : List UInt8 := [0x82, 0x86, 0x84, 0x41, 0x8c, 0xf1, 0xe3, 0xc2, 0xe5, 0xf2, 0x3a, 0x6b, 0xa0, 0xab, 0x90, 0xf4, 0xff]
def bB : List UInt8 := [0x10, 0x88, 0x25, 0xa8, 0x49, 0xe9, 0x5b, 0xa9, 0x7d, 0x7f, 0x89, 0x25, 0xa8, 0x49, 0xe9, 0x5b, 0xb8, 0xe8, 0xb4, 0xbf]
def bC : List UInt8 := [0x20, 0x3f, 0x45, 0x82]
theorem run_A : rowsB 4096 (sizesL true 0 4096, []) pA = (bA, tA) := by decide +kernel
theorem run_B : rowsB 4096 (sizesL true 0 4096, tA) pB = (bB, tA) := by decide +kernel
theorem run_C : rowsB 100 (sizesL false 0 100, []) pC = (bC, []) := by decide +kernel
theorem fit_0 : fitF 0 tA = [] := by decide +kernel
theorem fit_100 : fitF 100 [] = [] := fitF_stop (Or.inl rfl)

theorem Pk.below {w w1 w2 : World} {B gp g : Nat} {vo vk : Value} {l : List FieldL} {most : Int} {told : Bool} {least : Int} (a : Aft w w1) (h : Pk w1 B gp g vo vk l most told least) (hB : w.heap.size ≤ B) (hc : Chg (PP gp g vo) w1 w2) : Aft w w2 := by
  refine Below.trans a (hc.below (fun k hk => ?_) a.to.size)
  rcases hk with rfl | rfl | hk
  · exact Nat.le_trans hB h.pB
  · exact Nat.le_trans hB h.t.gB
  · exact Nat.le_trans hB (h.t.own.lt k hk).1

set_option maxHeartbeats 16000000 in
set_option maxRecDepth 100000 in
theorem packruns_any (w : World) (hm : MaxOk w) : Calls Tryd.prog 8 #[] w fun e w' => e = .returned (.bool true) ∧ Aft w w' := by
  have HN := Lib.hid (pnew_yes 4096 (by decide) (by decide) w hm)
  clear hm
  go_enter Tryd.func8, Tryd.ntmps8
  go_wp2_with fail
  refine HN.out.mono ?_
  rintro e w1 ⟨gp, g, vk, rfl, hp1, a1⟩
  have HP1 := Lib.hid hp1
  have HA1 := Lib.hid a1
  clear hp1 a1 HN
  go_wp2_with fail
  refine (row8_any _ _ _ _).mono ?_
  rintro e x1 ⟨rfl, r1⟩
  go_wp2_with fail
  refine (row8_any _ _ _ _).mono ?_
  rintro e x2 ⟨rfl, r2⟩
  go_wp2_with fail
  refine (row8_any _ _ _ _).mono ?_
  rintro e x3 ⟨rfl, r3⟩
  go_wp2_with fail
  refine (row8_any _ _ _ _).mono ?_
  rintro e x4 ⟨rfl, r4⟩
  go_wp2_with fail
  have r5 := (((r1.trans r2).trans r3).trans r4).alloc (.cells (rv pA).toArray 57)
  have hwA : WB (x4.alloc (.cells (rv pA).toArray 57)) x4.heap.size pA := heap_alloc_new x4 _
  have hp2 := HP1.out.aft r5
  have HA5 := Lib.hid (HA1.out.trans r5)
  clear r1 r2 r3 r4 r5
  refine (block_of pA bA hp2 (by decide) (by decide) (by decide) (by decide) (by decide) HA5.out.to.size hwA (by decide +kernel) 4 rfl run_A).mono ?_
  rintro e w6 ⟨va, vo6, rfl, hi6⟩
  have HA6 := Lib.hid (Pk.below HA5.out hp2 (Nat.le_refl _) hi6.chg)
  have HOA := Lib.hid hi6.own
  have HP6 := Lib.hid hi6.pk
  clear hi6 hp2 hwA HA5 HP1
  go_wp2_with fail
  refine (row8_any _ _ _ _).mono ?_
  rintro e w7 ⟨rfl, r7⟩
  go_wp2_with fail
  have r8 := r7.alloc (.cells (rv pB).toArray 57)
  have hwB : WB (w7.alloc (.cells (rv pB).toArray 57)) w7.heap.size pB := heap_alloc_new w7 _
  have hp8 := HP6.out.aft r8
  have hoa8 := HOA.out.aft r8
  have HA8 := Lib.hid (HA6.out.trans r8)
  clear r7 r8
  refine (block_of pB bB hp8 (by decide +kernel) (by decide) (by decide) (by decide) (by decide) HA8.out.to.size hwB (by decide +kernel) 1 rfl run_B).mono ?_
  rintro e w9 ⟨vb, vo9, rfl, hi9⟩
  have HA9 := Lib.hid (Pk.below HA8.out hp8 (Nat.le_refl _) hi9.chg)
  have HOA9 := Lib.hid (hoa8.chg hi9.chg (hoa8.pk hp8))
  have HOB9 := Lib.hid hi9.own
  have HP9 := Lib.hid hi9.pk
  clear hi9 hp8 hwB hoa8 HA8 HP6 HOA HA6
  go_wp2_with fail
  refine (ptable_any HP9.out).mono ?_
  rintro e w10 ⟨rfl, r10⟩
  have HP10 := Lib.hid (HP9.out.aft r10)
  have HOA10 := Lib.hid (HOA9.out.aft r10)
  have HOB10 := Lib.hid (HOB9.out.aft r10)
  have HA10 := Lib.hid (HA9.out.trans r10)
  clear r10 HP9 HOA9 HOB9 HA9
  rw [show (tA.length : Int) = 1 by rfl]
  go_wp2_with fail
  refine (presize_yes 0 HP10.out (by decide +kernel) (by decide) (by decide)).mono ?_
  rintro e w11 ⟨rfl, vo11, hp11, hc11, ho11⟩
  rw [fit_0, show leastN true 0 0 = 0 by decide] at hp11
  have HA11 := Lib.hid (Pk.below HA10.out HP10.out (Nat.le_refl _) hc11)
  have HOA11 := Lib.hid (HOA10.out.chg hc11 (HOA10.out.pk HP10.out))
  have HOB11 := Lib.hid (HOB10.out.chg hc11 (HOB10.out.pk HP10.out))
  have HP11 := Lib.hid hp11
  clear hp11 hc11 ho11 HP10 HOA10 HOB10 HA10
  go_wp2_with fail
  refine (presize_yes 100 HP11.out (by decide +kernel) (by decide) (by decide)).mono ?_
  rintro e w12 ⟨rfl, vo12, hp12, hc12, ho12⟩
  rw [fit_100, show leastN false 0 100 = 0 by decide] at hp12
  have HA12 := Lib.hid (Pk.below HA11.out HP11.out (Nat.le_refl _) hc12)
  have HOA12 := Lib.hid (HOA11.out.chg hc12 (HOA11.out.pk HP11.out))
  have HOB12 := Lib.hid (HOB11.out.chg hc12 (HOB11.out.pk HP11.out))
  have HP12 := Lib.hid hp12
  clear hp12 hc12 ho12 HP11 HOA11 HOB11 HA11
  go_wp2_with fail
  refine (row8_any _ _ _ _).mono ?_
  rintro e w13 ⟨rfl, r13⟩
  go_wp2_with fail
  have r14 := r13.alloc (.cells (rv pC).toArray 57)
  have hwC : WB (w13.alloc (.cells (rv pC).toArray 57)) w13.heap.size pC := heap_alloc_new w13 _
  have hp14 := HP12.out.aft r14
  have hoa14 := HOA12.out.aft r14
  have hob14 := HOB12.out.aft r14
  have HA14 := Lib.hid (HA12.out.trans r14)
  clear r13 r14
  refine (block_of pC bC hp14 (by decide) (by decide) (by decide) (by decide) (by decide) HA14.out.to.size hwC (by decide +kernel) 1 rfl run_C).mono ?_
  rintro e w15 ⟨vc, vo15, rfl, hi15⟩
  have HA15 := Lib.hid (Pk.below HA14.out hp14 (Nat.le_refl _) hi15.chg)
  have HOA15 := Lib.hid (hoa14.chg hi15.chg (hoa14.pk hp14))
  have HOB15 := Lib.hid (hob14.chg hi15.chg (hob14.pk hp14))
  have HOC15 := Lib.hid hi15.own
  clear hi15 hp14 hwC hoa14 hob14 HA14 HP12 HOA12 HOB12 HA12
  go_wp2_with fail
  refine (same_any va _ bA bA _ (HOA15.out.rb.aft ((Aft.refl w15).alloc (.cells (bv bA).toArray 5))) (lit_rb w15 bA (by decide))).mono ?_
  rintro e w16 ⟨rfl, r16⟩
  rw [beq_self_eq_true]
  have s16 := Aft.trans ((Aft.refl w15).alloc (.cells (bv bA).toArray 5)) r16
  have HA16 := Lib.hid (HA15.out.trans s16)
  have HRB16 := Lib.hid (HOB15.out.rb.aft s16)
  have HRC16 := Lib.hid (HOC15.out.rb.aft s16)
  clear r16 s16 HOA15 HOB15 HOC15 HA15
  go_wp2_with fail
  refine (same_any vb _ bB bB _ (HRB16.out.aft ((Aft.refl w16).alloc (.cells (bv bB).toArray 5))) (lit_rb w16 bB (by decide))).mono ?_
  rintro e w17 ⟨rfl, r17⟩
  rw [beq_self_eq_true]
  have s17 := Aft.trans ((Aft.refl w16).alloc (.cells (bv bB).toArray 5)) r17
  have HA17 := Lib.hid (HA16.out.trans s17)
  have HRC17 := Lib.hid (HRC16.out.aft s17)
  clear r17 s17 HRB16 HRC16 HA16
  go_wp2_with fail
  refine (same_any vc _ bC bC _ (HRC17.out.aft ((Aft.refl w17).alloc (.cells (bv bC).toArray 5))) (lit_rb w17 bC (by decide))).mono ?_
  rintro e w18 ⟨rfl, r18⟩
  rw [beq_self_eq_true]
  have HA18 := Lib.hid ((HA17.out.alloc (.cells (bv bC).toArray 5)).trans r18)
  clear r18
  go_wp2_with fail
  go_ret
  exact ⟨rfl, HA18.out⟩

theorem walkPackRuns (w : World) (hsh : w.ShapedOpen Tryd.prog) : Calls Tryd.prog 8 #[] w fun e w' => e = .returned (.bool true) ∧ Aft w w' :=
  packruns_any w (maxOk_of w hsh)

end Go.Proofs.YtmlnboibclfmcaaDoor
