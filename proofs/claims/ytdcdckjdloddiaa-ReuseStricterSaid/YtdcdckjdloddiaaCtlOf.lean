/-
  The walk of control.Of.
-/
import Derived.Test.YtdcdckjdloddiaaCtlLen
import Derived.Laws.Tables
import Derived.Laws.CopyOwn
import Derived.Great.BuildSlice
import Derived.Deep.DeepCutAuto
import Derived.Laws.Rows
import Derived.RegionTactic
namespace Go.Proofs.Ytdcdckjdloddiaa
open Go.RowKit

theorem CB.cells {w : World} {g : Nat} {c : Ctl} (h : CB w g c) : w.cell? ⟨g, 0, none⟩ = some (.bool c.ns) ∧ w.cell? ⟨g, 1, none⟩ = some (.bool c.nc) ∧ w.cell? ⟨g, 2, none⟩ = some (.bool c.pr) ∧ w.cell? ⟨g, 3, none⟩ = some (.bool c.pu) ∧ w.cell? ⟨g, 4, none⟩ = some (.bool c.mu) ∧ w.cell? ⟨g, 5, none⟩ = some (.bool c.on) ∧ w.cell? ⟨g, 6, none⟩ = some (.int .i64 c.ma) ∧ w.cell? ⟨g, 7, none⟩ = some (.int .i64 c.sh) ∧ w.cell? ⟨g, 8, none⟩ = some (.int .i64 c.st) ∧ w.cell? ⟨g, 9, none⟩ = some (.int .i64 c.fr) := by
  unfold CB at h
  refine ⟨?_, ?_, ?_, ?_, ?_, ?_, ?_, ?_, ?_, ?_⟩ <;> (rw [cell_of_row w g _ _ _ (0, 0) h]; rfl)
theorem CB.free {w : World} {g : Nat} {c : Ctl} (h : CB w g c) (j : Nat) : w.frozen? ⟨g, j, none⟩ = false := frozen_of_row w g j _ _ h
theorem CB.lt {w : World} {g : Nat} {c : Ctl} (h : CB w g c) : g < w.heap.size := by
  rcases Nat.lt_or_ge g w.heap.size with h1 | h1
  · exact h1
  · unfold CB at h; rw [Array.getElem?_eq_none h1] at h; cases h
theorem CB.aft {w w' : World} {g : Nat} {c : Ctl} (h : CB w g c) (ha : Aft w w') : CB w' g c := by
  unfold CB
  rw [Below.block ha g h.lt]
  exact h
theorem CB.put {w : World} {g : Nat} {c c' : Ctl} (h : CB w g c) (i : Nat) (v : Value) (e : (ctlC c).set i v = ctlC c') : CB (w.setCell ⟨g, i, none⟩ v) g c' := by
  unfold CB
  rw [heap_setCell_same w g i _ _ v h, ← e]
  simp
theorem CB.other {w : World} {g : Nat} {c : Ctl} (h : CB w g c) {b : Nat} (hb : b ≠ g) (i : Nat) (v : Value) : CB (w.setCell ⟨b, i, none⟩ v) g c := by
  unfold CB
  rw [heap_setCell_other w ⟨b, i, none⟩ g v (fun e => hb e.symm)]
  exact h
/-- The cells of a slice of pairs, in block g. -/
def PCells (w : World) (g : Nat) (l : List PairL) : Prop := ∀ i (h : i < l.length), w.cell? ⟨g, i * 3, none⟩ = some (strV l[i].name) ∧ w.cell? ⟨g, i * 3 + 1, none⟩ = some (strV l[i].value) ∧ w.cell? ⟨g, i * 3 + 2, none⟩ = some (.bool l[i].has)
theorem PCells.aft {w w' : World} {g : Nat} {l : List PairL} (h : PCells w g l) (ha : Aft w w') (hg : g < w.heap.size) : PCells w' g l := by
  intro i hi
  rw [Below.cell ha.to (p := ⟨g, i * 3, none⟩) hg, Below.cell ha.to (p := ⟨g, i * 3 + 1, none⟩) hg, Below.cell ha.to (p := ⟨g, i * 3 + 2, none⟩) hg]
  exact h i hi
theorem PCells.other {w : World} {g : Nat} {l : List PairL} (h : PCells w g l) {b : Nat} (hb : b ≠ g) (i : Nat) (v : Value) : PCells (w.setCell ⟨b, i, none⟩ v) g l := by
  intro j hj
  have hne : ∀ o, (⟨b, i, none⟩ : Addr) ≠ ⟨g, o, none⟩ := fun o e => hb (congrArg Addr.block e)
  rw [World.cell?_setCell_other _ _ _ _ (hne _), World.cell?_setCell_other _ _ _ _ (hne _), World.cell?_setCell_other _ _ _ _ (hne _)]
  exact h j hj

def ctlZ : Ctl := ⟨false, false, false, false, false, false, 0, 0, 0, 0⟩
theorem ctl_pre (w : World) : CB ((w.alloc (.cells (ctlC ctlZ).toArray 48)).alloc (.cells (ctlC ctl0).toArray 48)) w.heap.size ctlZ ∧ CB ((w.alloc (.cells (ctlC ctlZ).toArray 48)).alloc (.cells (ctlC ctl0).toArray 48)) (w.heap.size + 1) ctl0 := by
  have h1 : CB (w.alloc (.cells (ctlC ctlZ).toArray 48)) w.heap.size ctlZ := heap_alloc_new w _
  refine ⟨h1.aft ((Aft.refl _).alloc _), ?_⟩
  have := heap_alloc_new (w.alloc (.cells (ctlC ctlZ).toArray 48)) (.cells (ctlC ctl0).toArray 48)
  rw [World.size_alloc] at this
  exact this
theorem new3 (w : World) (a b c : Value) (t : TypeId) : (w.alloc (.cells #[a, b, c] t)).cell? ⟨w.heap.size, 0, none⟩ = some a ∧ (w.alloc (.cells #[a, b, c] t)).cell? ⟨w.heap.size, 1, none⟩ = some b ∧ (w.alloc (.cells #[a, b, c] t)).cell? ⟨w.heap.size, 2, none⟩ = some c := by
  refine ⟨?_, ?_, ?_⟩ <;> simp [go_sem]
theorem sizeCtl : (Try.prog.info? 48).map (·.size) = some 10 := by kernel_rfl
theorem step_nNoStore (c : Ctl) (pv : List UInt8) (ph : Bool) : ctlStep c ⟨nNoStore, pv, ph⟩ = { c with ns := true } := by
  unfold ctlStep
  rw [if_pos rfl]
theorem step_nNoCache (c : Ctl) (pv : List UInt8) (ph : Bool) : ctlStep c ⟨nNoCache, pv, ph⟩ = { c with nc := true } := by
  unfold ctlStep
  rw [if_neg (show ¬ nNoCache = nNoStore by decide)]
  rw [if_pos rfl]
theorem step_nPrivate (c : Ctl) (pv : List UInt8) (ph : Bool) : ctlStep c ⟨nPrivate, pv, ph⟩ = { c with pr := true } := by
  unfold ctlStep
  rw [if_neg (show ¬ nPrivate = nNoStore by decide)]
  rw [if_neg (show ¬ nPrivate = nNoCache by decide)]
  rw [if_pos rfl]
theorem step_nPublic (c : Ctl) (pv : List UInt8) (ph : Bool) : ctlStep c ⟨nPublic, pv, ph⟩ = { c with pu := true } := by
  unfold ctlStep
  rw [if_neg (show ¬ nPublic = nNoStore by decide)]
  rw [if_neg (show ¬ nPublic = nNoCache by decide)]
  rw [if_neg (show ¬ nPublic = nPrivate by decide)]
  rw [if_pos rfl]
theorem step_nOnly (c : Ctl) (pv : List UInt8) (ph : Bool) : ctlStep c ⟨nOnly, pv, ph⟩ = { c with on := true } := by
  unfold ctlStep
  rw [if_neg (show ¬ nOnly = nNoStore by decide)]
  rw [if_neg (show ¬ nOnly = nNoCache by decide)]
  rw [if_neg (show ¬ nOnly = nPrivate by decide)]
  rw [if_neg (show ¬ nOnly = nPublic by decide)]
  rw [if_pos rfl]
theorem step_nMust (c : Ctl) (pv : List UInt8) (ph : Bool) : ctlStep c ⟨nMust, pv, ph⟩ = { c with mu := true } := by
  unfold ctlStep
  rw [if_neg (show ¬ nMust = nNoStore by decide)]
  rw [if_neg (show ¬ nMust = nNoCache by decide)]
  rw [if_neg (show ¬ nMust = nPrivate by decide)]
  rw [if_neg (show ¬ nMust = nPublic by decide)]
  rw [if_neg (show ¬ nMust = nOnly by decide)]
  rw [if_pos rfl]
theorem step_nProxy (c : Ctl) (pv : List UInt8) (ph : Bool) : ctlStep c ⟨nProxy, pv, ph⟩ = { c with mu := true } := by
  unfold ctlStep
  rw [if_neg (show ¬ nProxy = nNoStore by decide)]
  rw [if_neg (show ¬ nProxy = nNoCache by decide)]
  rw [if_neg (show ¬ nProxy = nPrivate by decide)]
  rw [if_neg (show ¬ nProxy = nPublic by decide)]
  rw [if_neg (show ¬ nProxy = nOnly by decide)]
  rw [if_neg (show ¬ nProxy = nMust by decide)]
  rw [if_pos rfl]
theorem step_nMaxAge (c : Ctl) (pv : List UInt8) (ph : Bool) : ctlStep c ⟨nMaxAge, pv, ph⟩ = { c with ma := lsF c.ma (numF ⟨nMaxAge, pv, ph⟩ 0) } := by
  unfold ctlStep
  rw [if_neg (show ¬ nMaxAge = nNoStore by decide)]
  rw [if_neg (show ¬ nMaxAge = nNoCache by decide)]
  rw [if_neg (show ¬ nMaxAge = nPrivate by decide)]
  rw [if_neg (show ¬ nMaxAge = nPublic by decide)]
  rw [if_neg (show ¬ nMaxAge = nOnly by decide)]
  rw [if_neg (show ¬ nMaxAge = nMust by decide)]
  rw [if_neg (show ¬ nMaxAge = nProxy by decide)]
  rw [if_pos rfl]
theorem step_nShared (c : Ctl) (pv : List UInt8) (ph : Bool) : ctlStep c ⟨nShared, pv, ph⟩ = { c with sh := lsF c.sh (numF ⟨nShared, pv, ph⟩ 0) } := by
  unfold ctlStep
  rw [if_neg (show ¬ nShared = nNoStore by decide)]
  rw [if_neg (show ¬ nShared = nNoCache by decide)]
  rw [if_neg (show ¬ nShared = nPrivate by decide)]
  rw [if_neg (show ¬ nShared = nPublic by decide)]
  rw [if_neg (show ¬ nShared = nOnly by decide)]
  rw [if_neg (show ¬ nShared = nMust by decide)]
  rw [if_neg (show ¬ nShared = nProxy by decide)]
  rw [if_neg (show ¬ nShared = nMaxAge by decide)]
  rw [if_pos rfl]
theorem step_nFresh (c : Ctl) (pv : List UInt8) (ph : Bool) : ctlStep c ⟨nFresh, pv, ph⟩ = { c with fr := lsF c.fr (numF ⟨nFresh, pv, ph⟩ 0) } := by
  unfold ctlStep
  rw [if_neg (show ¬ nFresh = nNoStore by decide)]
  rw [if_neg (show ¬ nFresh = nNoCache by decide)]
  rw [if_neg (show ¬ nFresh = nPrivate by decide)]
  rw [if_neg (show ¬ nFresh = nPublic by decide)]
  rw [if_neg (show ¬ nFresh = nOnly by decide)]
  rw [if_neg (show ¬ nFresh = nMust by decide)]
  rw [if_neg (show ¬ nFresh = nProxy by decide)]
  rw [if_neg (show ¬ nFresh = nMaxAge by decide)]
  rw [if_neg (show ¬ nFresh = nShared by decide)]
  rw [if_pos rfl]
theorem step_nStale (c : Ctl) (pv : List UInt8) (ph : Bool) : ctlStep c ⟨nStale, pv, ph⟩ = { c with st := lsF c.st (numF ⟨nStale, pv, ph⟩ 2147483647) } := by
  unfold ctlStep
  rw [if_neg (show ¬ nStale = nNoStore by decide)]
  rw [if_neg (show ¬ nStale = nNoCache by decide)]
  rw [if_neg (show ¬ nStale = nPrivate by decide)]
  rw [if_neg (show ¬ nStale = nPublic by decide)]
  rw [if_neg (show ¬ nStale = nOnly by decide)]
  rw [if_neg (show ¬ nStale = nMust by decide)]
  rw [if_neg (show ¬ nStale = nProxy by decide)]
  rw [if_neg (show ¬ nStale = nMaxAge by decide)]
  rw [if_neg (show ¬ nStale = nShared by decide)]
  rw [if_neg (show ¬ nStale = nFresh by decide)]
  rw [if_pos rfl]
theorem step_no (c : Ctl) (pn pv : List UInt8) (ph : Bool) (hnNoStore : pn ≠ nNoStore) (hnNoCache : pn ≠ nNoCache) (hnPrivate : pn ≠ nPrivate) (hnPublic : pn ≠ nPublic) (hnOnly : pn ≠ nOnly) (hnMust : pn ≠ nMust) (hnProxy : pn ≠ nProxy) (hnMaxAge : pn ≠ nMaxAge) (hnShared : pn ≠ nShared) (hnFresh : pn ≠ nFresh) (hnStale : pn ≠ nStale) : ctlStep c ⟨pn, pv, ph⟩ = c := by
  unfold ctlStep
  rw [if_neg hnNoStore]
  rw [if_neg hnNoCache]
  rw [if_neg hnPrivate]
  rw [if_neg hnPublic]
  rw [if_neg hnOnly]
  rw [if_neg hnMust]
  rw [if_neg hnProxy]
  rw [if_neg hnMaxAge]
  rw [if_neg hnShared]
  rw [if_neg hnFresh]
  rw [if_neg hnStale]

set_option maxHeartbeats 20000000 in
theorem of_ctl (v : Value) (l : List FieldL) (w : World) (hr : RbF w v l) (hlen : l.length ≤ 1000000) (hj : (Lib.join (valsF nCC l) [44, 32]).length ≤ 100000000) :
    Calls Try.prog 35 #[v] w fun e w' => e = .returned (ctlV (ctlF l)) ∧ Aft w w' := by
  have HP := Lib.hid (fun w hr => pairs_any v l ⟨nCC.toArray⟩ w hr hlen hj)
  have hpl := pairsF_len hj
  have hA0 : Aft w ((w.alloc (.cells (ctlC ctlZ).toArray 48)).alloc (.cells (ctlC ctl0).toArray 48)) := ((Aft.refl w).alloc _).alloc _
  have HR := Lib.hid (hr.aft hA0)
  have HA0 := Lib.hid hA0
  obtain ⟨p0, p1⟩ := ctl_pre w
  have HP0 := Lib.hid p0
  have HP1 := Lib.hid p1
  have HZ0 : Hid (((w.alloc (.cells (ctlC ctlZ).toArray 48)).alloc (.cells (ctlC ctl0).toArray 48)).heap.size = w.heap.size + 2) := Lib.hid (by rw [World.size_alloc, World.size_alloc])
  clear hr hj hA0 p0 p1
  obtain ⟨ps, hps⟩ : ∃ ps, pairsF nCC l = ps := ⟨_, rfl⟩
  have HCF : Hid (ctlF l = ctlOf ps) := Lib.hid (by unfold ctlF; rw [hps])
  rw [hps] at hpl
  have HPS : Hid (pairsF (⟨nCC.toArray⟩ : ByteArray).data.toList l = ps) := Lib.hid hps
  have HPL := Lib.hid hpl
  clear hps hpl
  go_enter Try.func35, Try.ntmps35
  go_wp2_with fail
  refine (HP.out _ HR.out).mono ?_
  rintro e w1 ⟨v', rfl, ho, a1⟩
  rw [HPS.out] at ho
  obtain ⟨a, g, K, rfl, m1, m2, q1, r1⟩ := ho.form
  have hB0 := HP0.out.aft a1
  have hB1 := HP1.out.aft a1
  have hAA : Aft w w1 := HA0.out.trans a1
  have hg : ps ≠ [] → w.heap.size + 1 < g ∧ g < w1.heap.size := by
    intro hne
    obtain ⟨rfl, h2⟩ := q1 hne
    have h3 := ho.lt g rfl
    rw [HZ0.out] at h3
    omega
  have hq : ps ≠ [] → a = some ⟨g, 0, none⟩ := fun h => (q1 h).1
  have hpc : PCells w1 g ps := r1
  unfold maxLen at m2
  have HG := Lib.hid hg
  have HQ := Lib.hid hq
  have HPC := Lib.hid hpc
  have HB0 := Lib.hid hB0
  have HB1 := Lib.hid hB1
  have HAA := Lib.hid hAA
  obtain ⟨B0, hb⟩ : ∃ B0, w.heap.size = B0 := ⟨_, rfl⟩
  rw [hb] at HB0 HB1 HG
  have HB := Lib.hid hb
  clear ho q1 r1 hB0 hB1 hAA hg hq hpc a1 HR HP HP0 HP1 HZ0 HA0 HPS
  go_wp2_with fail
  clear hb
  go_loopw [10] (fun vi wr => ∃ (k : Nat) (c : Ctl), k ≤ ps.length ∧ vi = .int .i64 (k : Int) ∧ Hid (ctlOf ps = (ps.drop k).foldl ctlStep c) ∧ Hid c.Ok ∧ Hid (CB wr B0 ctlZ) ∧ Hid (CB wr (B0 + 1) c) ∧ Hid (ps ≠ [] → g < wr.heap.size) ∧ Hid (PCells wr g ps) ∧ Hid (Aft w wr)) (fun vi _ => ps.length - (intOf vi).toNat)
  case atStart => exact ⟨0, ctl0, by omega, by go_num, Lib.hid rfl, Lib.hid ctl0_ok, HB0, HB1, Lib.hid (fun h => (HG.out h).2), HPC, HAA⟩
  case round =>
    obtain ⟨k, c, hk, rfl, HC, HOK, HZ, HCB, HGW, HPW, HAW⟩ := hrel
    by_cases hlt : k < ps.length
    · have hne : ps ≠ [] := by intro e; rw [e] at hlt; simp at hlt
      have hpa := HQ.out hne
      have hx := HPW.out k hlt
      have hd : ctlOf ps = (ps.drop (k + 1)).foldl ctlStep (ctlStep c ps[k]) := by
        rw [HC.out, List.drop_eq_getElem_cons hlt]
        rfl
      have hvl := HPL.out ps[k] (List.getElem_mem hlt)
      have hg2 := HGW.out hne
      have hg1 := (HG.out hne).1
      have HG2 : Hid (g < wr.heap.size ∧ B0 + 1 < g) := Lib.hid ⟨hg2, hg1⟩
      have HD := Lib.hid hd
      have HOK2 := Lib.hid (ctlStep_ok ps[k] HOK.out)
      generalize ps[k] = p at hx HD hvl HOK2
      obtain ⟨pn, pv, ph⟩ := p
      have HN0 := Lib.hid (fun w => number_any ⟨pn, pv, ph⟩ 0 (by omega) (by simp only at hvl ⊢; omega) w)
      have HN1 := Lib.hid (fun w => number_any ⟨pn, pv, ph⟩ 2147483647 (by omega) (by simp only at hvl ⊢; omega) w)
      have HB0N := Lib.hid (numF_bd ⟨pn, pv, ph⟩ (b := 0) (by omega))
      have HB1N := Lib.hid (numF_bd ⟨pn, pv, ph⟩ (b := 2147483647) (by omega))
      obtain ⟨x0, x1, x2⟩ := hx
      unfold strV at x0 x1
      simp only at x0 x1 x2
      unfold pairA at HN0 HN1
      simp only at HN0 HN1
      subst hpa
      have hkl : (k : Int) < (ps.length : Int) := by omega
      have hne2 : wr.heap.size ≠ B0 + 1 := by have := HCB.out.lt; omega
      clear hd hvl hne hg1 hg2
      obtain ⟨y0, y1, y2⟩ := new3 wr (.string ⟨pn.toArray⟩) (.string ⟨pv.toArray⟩) (.bool ph) 84
      have HY := Lib.hid (And.intro y0 (And.intro y1 y2))
      have HZA := Lib.hid (HZ.out.aft ((Aft.refl wr).alloc (.cells #[.string ⟨pn.toArray⟩, .string ⟨pv.toArray⟩, .bool ph] 84)))
      have HCA := Lib.hid (HCB.out.aft ((Aft.refl wr).alloc (.cells #[.string ⟨pn.toArray⟩, .string ⟨pv.toArray⟩, .bool ph] 84)))
      have HPA := Lib.hid (HPW.out.aft ((Aft.refl wr).alloc (.cells #[.string ⟨pn.toArray⟩, .string ⟨pv.toArray⟩, .bool ph] 84)) HG2.out.1)
      have HAX := Lib.hid (HAW.out.alloc (.cells #[.string ⟨pn.toArray⟩, .string ⟨pv.toArray⟩, .bool ph] 84))
      have HGX : Hid (g < (wr.alloc (.cells #[.string ⟨pn.toArray⟩, .string ⟨pv.toArray⟩, .bool ph] 84)).heap.size ∧ wr.heap.size < (wr.alloc (.cells #[.string ⟨pn.toArray⟩, .string ⟨pv.toArray⟩, .bool ph] 84)).heap.size) := Lib.hid (by rw [World.size_alloc]; have := HG2.out.1; omega)
      have HG1 : Hid (B0 + 1 ≠ g ∧ B0 + 1 ≠ B0 ∧ B0 + 1 ≠ wr.heap.size) := Lib.hid (by have := HG2.out.2; omega)
      clear y0 y1 y2
      go_upto_region 6 with fail
      clear x0 x1 x2 hne2 HZ HCB HPW HAW HG2 HGW
      generalize wr.alloc (.cells #[.string ⟨pn.toArray⟩, .string ⟨pv.toArray⟩, .bool ph] 84) = W at HY HZA HCA HPA HAX HGX ⊢
      generalize wr.heap.size = b5 at HY HGX HG1 ⊢
      obtain ⟨z0, z1, z2, z3, z4, z5, z6, z7, z8, z9⟩ := HCA.out.cells
      obtain ⟨y0, y1, y2⟩ := HY.out
      have hfr := HCA.out.free
      have HSZ : Hid (w.heap.size ≤ B0 + 1) := Lib.hid (by rw [HB.out]; omega)
      by_cases hnNoStore : pn = nNoStore
      · subst hnNoStore
        have HS := Lib.hid (step_nNoStore c pv ph)
        unfold nNoStore at y0 HD HS HOK2 ⊢
        go_wp2_with fail
        go_roundw
        case rel => exact ⟨k + 1, { c with ns := true }, by omega, by go_num, Lib.hid (by rw [HD.out, HS.out]), Lib.hid (by have := HOK2.out; rw [HS.out] at this; exact this), Lib.hid (HZA.out.other HG1.out.2.1 _ _), Lib.hid (HCA.out.put 0 (.bool true) rfl), Lib.hid (fun _ => by simp only [World.size_setCell]; exact HGX.out.1), Lib.hid (HPA.out.other HG1.out.1 _ _), Lib.hid (bset HAX.out _ _ _ HSZ.out)⟩
        case measure => simp [intOf]; omega
      by_cases hnNoCache : pn = nNoCache
      · subst hnNoCache
        have HS := Lib.hid (step_nNoCache c pv ph)
        unfold nNoCache at y0 HD HS HOK2 ⊢
        go_wp2_with fail
        go_roundw
        case rel => exact ⟨k + 1, { c with nc := true }, by omega, by go_num, Lib.hid (by rw [HD.out, HS.out]), Lib.hid (by have := HOK2.out; rw [HS.out] at this; exact this), Lib.hid (HZA.out.other HG1.out.2.1 _ _), Lib.hid (HCA.out.put 1 (.bool true) rfl), Lib.hid (fun _ => by simp only [World.size_setCell]; exact HGX.out.1), Lib.hid (HPA.out.other HG1.out.1 _ _), Lib.hid (bset HAX.out _ _ _ HSZ.out)⟩
        case measure => simp [intOf]; omega
      by_cases hnPrivate : pn = nPrivate
      · subst hnPrivate
        have HS := Lib.hid (step_nPrivate c pv ph)
        unfold nPrivate at y0 HD HS HOK2 ⊢
        go_wp2_with fail
        go_roundw
        case rel => exact ⟨k + 1, { c with pr := true }, by omega, by go_num, Lib.hid (by rw [HD.out, HS.out]), Lib.hid (by have := HOK2.out; rw [HS.out] at this; exact this), Lib.hid (HZA.out.other HG1.out.2.1 _ _), Lib.hid (HCA.out.put 2 (.bool true) rfl), Lib.hid (fun _ => by simp only [World.size_setCell]; exact HGX.out.1), Lib.hid (HPA.out.other HG1.out.1 _ _), Lib.hid (bset HAX.out _ _ _ HSZ.out)⟩
        case measure => simp [intOf]; omega
      by_cases hnPublic : pn = nPublic
      · subst hnPublic
        have HS := Lib.hid (step_nPublic c pv ph)
        unfold nPublic at y0 HD HS HOK2 ⊢
        go_wp2_with fail
        go_roundw
        case rel => exact ⟨k + 1, { c with pu := true }, by omega, by go_num, Lib.hid (by rw [HD.out, HS.out]), Lib.hid (by have := HOK2.out; rw [HS.out] at this; exact this), Lib.hid (HZA.out.other HG1.out.2.1 _ _), Lib.hid (HCA.out.put 3 (.bool true) rfl), Lib.hid (fun _ => by simp only [World.size_setCell]; exact HGX.out.1), Lib.hid (HPA.out.other HG1.out.1 _ _), Lib.hid (bset HAX.out _ _ _ HSZ.out)⟩
        case measure => simp [intOf]; omega
      by_cases hnOnly : pn = nOnly
      · subst hnOnly
        have HS := Lib.hid (step_nOnly c pv ph)
        unfold nOnly at y0 HD HS HOK2 ⊢
        go_wp2_with fail
        go_roundw
        case rel => exact ⟨k + 1, { c with on := true }, by omega, by go_num, Lib.hid (by rw [HD.out, HS.out]), Lib.hid (by have := HOK2.out; rw [HS.out] at this; exact this), Lib.hid (HZA.out.other HG1.out.2.1 _ _), Lib.hid (HCA.out.put 5 (.bool true) rfl), Lib.hid (fun _ => by simp only [World.size_setCell]; exact HGX.out.1), Lib.hid (HPA.out.other HG1.out.1 _ _), Lib.hid (bset HAX.out _ _ _ HSZ.out)⟩
        case measure => simp [intOf]; omega
      by_cases hnMust : pn = nMust
      · subst hnMust
        have HS := Lib.hid (step_nMust c pv ph)
        unfold nMust at y0 HD HS HOK2 ⊢
        go_wp2_with fail
        go_roundw
        case rel => exact ⟨k + 1, { c with mu := true }, by omega, by go_num, Lib.hid (by rw [HD.out, HS.out]), Lib.hid (by have := HOK2.out; rw [HS.out] at this; exact this), Lib.hid (HZA.out.other HG1.out.2.1 _ _), Lib.hid (HCA.out.put 4 (.bool true) rfl), Lib.hid (fun _ => by simp only [World.size_setCell]; exact HGX.out.1), Lib.hid (HPA.out.other HG1.out.1 _ _), Lib.hid (bset HAX.out _ _ _ HSZ.out)⟩
        case measure => simp [intOf]; omega
      by_cases hnProxy : pn = nProxy
      · subst hnProxy
        have HS := Lib.hid (step_nProxy c pv ph)
        unfold nProxy at y0 HD HS HOK2 ⊢
        go_wp2_with fail
        go_roundw
        case rel => exact ⟨k + 1, { c with mu := true }, by omega, by go_num, Lib.hid (by rw [HD.out, HS.out]), Lib.hid (by have := HOK2.out; rw [HS.out] at this; exact this), Lib.hid (HZA.out.other HG1.out.2.1 _ _), Lib.hid (HCA.out.put 4 (.bool true) rfl), Lib.hid (fun _ => by simp only [World.size_setCell]; exact HGX.out.1), Lib.hid (HPA.out.other HG1.out.1 _ _), Lib.hid (bset HAX.out _ _ _ HSZ.out)⟩
        case measure => simp [intOf]; omega
      by_cases hnMaxAge : pn = nMaxAge
      · subst hnMaxAge
        have HS := Lib.hid (step_nMaxAge c pv ph)
        unfold nMaxAge at y0 HD HS HOK2 HN0 HN1 HB0N HB1N ⊢
        obtain ⟨u, hu⟩ : ∃ u, numF ⟨[109, 97, 120, 45, 97, 103, 101], pv, ph⟩ 0 = u := ⟨_, rfl⟩
        rw [hu] at HN0 HS HB0N
        have HL := Lib.hid (fun w => least_any c.ma u HOK.out.ma (by have := HB0N.out; omega) w)
        obtain ⟨x, hx⟩ : ∃ x, lsF c.ma u = x := ⟨_, rfl⟩
        rw [hx] at HL HS
        clear hu hx
        go_wp2_with fail
        go_region_law (first
          | (go_simp; go_at_call 57; refine (HN0.out _).mono ?_; rintro e w6 ⟨rfl, a6⟩; have A6 : Aft W w6 := Aft.trans (by first | exact Aft.refl _ | exact (Aft.refl _).drew) a6; obtain ⟨z0, z1, z2, z3, z4, z5, z6, z7, z8, z9⟩ := (HCA.out.aft A6).cells; have hfr := (HCA.out.aft A6).free)
          | (go_simp; go_at_call 56; refine (HL.out _).mono ?_; rintro e w7 ⟨rfl, rfl⟩))
        all_goals
          go_wp2_with fail
          go_roundw
          case rel => exact ⟨k + 1, { c with ma := x }, by omega, by go_num, Lib.hid (by rw [HD.out, HS.out]), Lib.hid (by have := HOK2.out; rw [HS.out] at this; exact this), Lib.hid ((HZA.out.aft A6).other HG1.out.2.1 _ _), Lib.hid ((HCA.out.aft A6).put 6 (.int .i64 x) rfl), Lib.hid (fun _ => by simp only [World.size_setCell]; exact Nat.lt_of_lt_of_le HGX.out.1 A6.size), Lib.hid ((HPA.out.aft A6 HGX.out.1).other HG1.out.1 _ _), Lib.hid (bset (HAX.out.trans A6) _ _ _ HSZ.out)⟩
          case measure => simp [intOf] <;> omega
      by_cases hnShared : pn = nShared
      · subst hnShared
        have HS := Lib.hid (step_nShared c pv ph)
        unfold nShared at y0 HD HS HOK2 HN0 HN1 HB0N HB1N ⊢
        obtain ⟨u, hu⟩ : ∃ u, numF ⟨[115, 45, 109, 97, 120, 97, 103, 101], pv, ph⟩ 0 = u := ⟨_, rfl⟩
        rw [hu] at HN0 HS HB0N
        have HL := Lib.hid (fun w => least_any c.sh u HOK.out.sh (by have := HB0N.out; omega) w)
        obtain ⟨x, hx⟩ : ∃ x, lsF c.sh u = x := ⟨_, rfl⟩
        rw [hx] at HL HS
        clear hu hx
        go_wp2_with fail
        go_region_law (first
          | (go_simp; go_at_call 57; refine (HN0.out _).mono ?_; rintro e w6 ⟨rfl, a6⟩; have A6 : Aft W w6 := Aft.trans (by first | exact Aft.refl _ | exact (Aft.refl _).drew) a6; obtain ⟨z0, z1, z2, z3, z4, z5, z6, z7, z8, z9⟩ := (HCA.out.aft A6).cells; have hfr := (HCA.out.aft A6).free)
          | (go_simp; go_at_call 56; refine (HL.out _).mono ?_; rintro e w7 ⟨rfl, rfl⟩))
        all_goals
          go_wp2_with fail
          go_roundw
          case rel => exact ⟨k + 1, { c with sh := x }, by omega, by go_num, Lib.hid (by rw [HD.out, HS.out]), Lib.hid (by have := HOK2.out; rw [HS.out] at this; exact this), Lib.hid ((HZA.out.aft A6).other HG1.out.2.1 _ _), Lib.hid ((HCA.out.aft A6).put 7 (.int .i64 x) rfl), Lib.hid (fun _ => by simp only [World.size_setCell]; exact Nat.lt_of_lt_of_le HGX.out.1 A6.size), Lib.hid ((HPA.out.aft A6 HGX.out.1).other HG1.out.1 _ _), Lib.hid (bset (HAX.out.trans A6) _ _ _ HSZ.out)⟩
          case measure => simp [intOf] <;> omega
      by_cases hnFresh : pn = nFresh
      · subst hnFresh
        have HS := Lib.hid (step_nFresh c pv ph)
        unfold nFresh at y0 HD HS HOK2 HN0 HN1 HB0N HB1N ⊢
        obtain ⟨u, hu⟩ : ∃ u, numF ⟨[109, 105, 110, 45, 102, 114, 101, 115, 104], pv, ph⟩ 0 = u := ⟨_, rfl⟩
        rw [hu] at HN0 HS HB0N
        have HL := Lib.hid (fun w => least_any c.fr u HOK.out.fr (by have := HB0N.out; omega) w)
        obtain ⟨x, hx⟩ : ∃ x, lsF c.fr u = x := ⟨_, rfl⟩
        rw [hx] at HL HS
        clear hu hx
        go_wp2_with fail
        go_region_law (first
          | (go_simp; go_at_call 57; refine (HN0.out _).mono ?_; rintro e w6 ⟨rfl, a6⟩; have A6 : Aft W w6 := Aft.trans (by first | exact Aft.refl _ | exact (Aft.refl _).drew) a6; obtain ⟨z0, z1, z2, z3, z4, z5, z6, z7, z8, z9⟩ := (HCA.out.aft A6).cells; have hfr := (HCA.out.aft A6).free)
          | (go_simp; go_at_call 56; refine (HL.out _).mono ?_; rintro e w7 ⟨rfl, rfl⟩))
        all_goals
          go_wp2_with fail
          go_roundw
          case rel => exact ⟨k + 1, { c with fr := x }, by omega, by go_num, Lib.hid (by rw [HD.out, HS.out]), Lib.hid (by have := HOK2.out; rw [HS.out] at this; exact this), Lib.hid ((HZA.out.aft A6).other HG1.out.2.1 _ _), Lib.hid ((HCA.out.aft A6).put 9 (.int .i64 x) rfl), Lib.hid (fun _ => by simp only [World.size_setCell]; exact Nat.lt_of_lt_of_le HGX.out.1 A6.size), Lib.hid ((HPA.out.aft A6 HGX.out.1).other HG1.out.1 _ _), Lib.hid (bset (HAX.out.trans A6) _ _ _ HSZ.out)⟩
          case measure => simp [intOf] <;> omega
      by_cases hnStale : pn = nStale
      · subst hnStale
        have HS := Lib.hid (step_nStale c pv ph)
        unfold nStale at y0 HD HS HOK2 HN0 HN1 HB0N HB1N ⊢
        obtain ⟨u, hu⟩ : ∃ u, numF ⟨[109, 97, 120, 45, 115, 116, 97, 108, 101], pv, ph⟩ 2147483647 = u := ⟨_, rfl⟩
        rw [hu] at HN1 HS HB1N
        have HL := Lib.hid (fun w => least_any c.st u HOK.out.st (by have := HB1N.out; omega) w)
        obtain ⟨x, hx⟩ : ∃ x, lsF c.st u = x := ⟨_, rfl⟩
        rw [hx] at HL HS
        clear hu hx
        go_wp2_with fail
        go_region_law (first
          | (go_simp; go_at_call 57; refine (HN1.out _).mono ?_; rintro e w6 ⟨rfl, a6⟩; have A6 : Aft W w6 := Aft.trans (by first | exact Aft.refl _ | exact (Aft.refl _).drew) a6; obtain ⟨z0, z1, z2, z3, z4, z5, z6, z7, z8, z9⟩ := (HCA.out.aft A6).cells; have hfr := (HCA.out.aft A6).free)
          | (go_simp; go_at_call 56; refine (HL.out _).mono ?_; rintro e w7 ⟨rfl, rfl⟩))
        all_goals
          go_wp2_with fail
          go_roundw
          case rel => exact ⟨k + 1, { c with st := x }, by omega, by go_num, Lib.hid (by rw [HD.out, HS.out]), Lib.hid (by have := HOK2.out; rw [HS.out] at this; exact this), Lib.hid ((HZA.out.aft A6).other HG1.out.2.1 _ _), Lib.hid ((HCA.out.aft A6).put 8 (.int .i64 x) rfl), Lib.hid (fun _ => by simp only [World.size_setCell]; exact Nat.lt_of_lt_of_le HGX.out.1 A6.size), Lib.hid ((HPA.out.aft A6 HGX.out.1).other HG1.out.1 _ _), Lib.hid (bset (HAX.out.trans A6) _ _ _ HSZ.out)⟩
          case measure => simp [intOf] <;> omega
      have HS := Lib.hid (step_no c pn pv ph hnNoStore hnNoCache hnPrivate hnPublic hnOnly hnMust hnProxy hnMaxAge hnShared hnFresh hnStale)
      have enNoStore : ((⟨pn.toArray⟩ : ByteArray).toList == nNoStore) = false := by rw [Lib.toList_data]; simpa using hnNoStore
      have enNoCache : ((⟨pn.toArray⟩ : ByteArray).toList == nNoCache) = false := by rw [Lib.toList_data]; simpa using hnNoCache
      have enPrivate : ((⟨pn.toArray⟩ : ByteArray).toList == nPrivate) = false := by rw [Lib.toList_data]; simpa using hnPrivate
      have enPublic : ((⟨pn.toArray⟩ : ByteArray).toList == nPublic) = false := by rw [Lib.toList_data]; simpa using hnPublic
      have enOnly : ((⟨pn.toArray⟩ : ByteArray).toList == nOnly) = false := by rw [Lib.toList_data]; simpa using hnOnly
      have enMust : ((⟨pn.toArray⟩ : ByteArray).toList == nMust) = false := by rw [Lib.toList_data]; simpa using hnMust
      have enProxy : ((⟨pn.toArray⟩ : ByteArray).toList == nProxy) = false := by rw [Lib.toList_data]; simpa using hnProxy
      have enMaxAge : ((⟨pn.toArray⟩ : ByteArray).toList == nMaxAge) = false := by rw [Lib.toList_data]; simpa using hnMaxAge
      have enShared : ((⟨pn.toArray⟩ : ByteArray).toList == nShared) = false := by rw [Lib.toList_data]; simpa using hnShared
      have enFresh : ((⟨pn.toArray⟩ : ByteArray).toList == nFresh) = false := by rw [Lib.toList_data]; simpa using hnFresh
      have enStale : ((⟨pn.toArray⟩ : ByteArray).toList == nStale) = false := by rw [Lib.toList_data]; simpa using hnStale
      unfold nNoStore at enNoStore
      unfold nNoCache at enNoCache
      unfold nPrivate at enPrivate
      unfold nPublic at enPublic
      unfold nOnly at enOnly
      unfold nMust at enMust
      unfold nProxy at enProxy
      unfold nMaxAge at enMaxAge
      unfold nShared at enShared
      unfold nFresh at enFresh
      unfold nStale at enStale
      clear hnNoStore hnNoCache hnPrivate hnPublic hnOnly hnMust hnProxy hnMaxAge hnShared hnFresh hnStale
      generalize (⟨pn.toArray⟩ : ByteArray) = N at y0 HN0 HN1 HY HPA enNoStore enNoCache enPrivate enPublic enOnly enMust enProxy enMaxAge enShared enFresh enStale ⊢
      go_wp2_with fail
      go_roundw
      case rel => exact ⟨k + 1, c, by omega, by go_num, Lib.hid (by rw [HD.out, HS.out]), HOK, HZA, HCA, Lib.hid (fun _ => HGX.out.1), HPA, HAX⟩
      case measure => simp [intOf]; omega
    · have hk2 : k = ps.length := by omega
      subst hk2
      have HC2 : Hid (ctlF l = c) := Lib.hid (by rw [HCF.out, HC.out, List.drop_of_length_le (Nat.le_refl _)]; rfl)
      obtain ⟨R, hRR⟩ : ∃ R, R = (ctlC c).toArray := ⟨_, rfl⟩
      have hA : wr.heap[B0 + 1]? = some (.cells R 48 (0, 0)) := by rw [hRR]; exact HCB.out
      have hsz : (Try.prog.info? 48).map (·.size) = some R.size := by rw [sizeCtl, hRR]; rfl
      have hone : R.all (·.oneCell') = true := by rw [hRR]; simp [ctlC, Value.oneCell']
      have hold : (ctlC ctlZ).toArray.size = R.size := by rw [hRR]; rfl
      have HRR := Lib.hid hRR
      have HZR : Hid (wr.heap[B0]? = some (.cells (ctlC ctlZ).toArray 48 (0, 0))) := Lib.hid HZ.out
      clear hRR
      go_wp2_with (first | (refine wpList_load_row rfl 48 (.tmp 3) rfl (B0 + 1) rfl _ R (0, 0) _ hA Try.underlying48 rfl hsz ?_) | (refine wpList_store_rowTo rfl 48 (.tmp 2) (.tmp 68) rfl rfl B0 R rfl rfl _ _ HZR.out hsz hold hone ?_))
      have hset : (wr.setRow B0 R).heap[B0]? = some (.cells R 48 (0, 0)) := setRow_heap wr B0 (ctlC ctlZ).toArray R 48 (0, 0) HZR.out
      refine bodyPost_ret (results_cell_row rfl _ _ B0 48 R (0, 0) _ rfl hset Try.underlying48 rfl hsz) rfl ?_
      refine ⟨?_, below_setRow HAW.out (by rw [HB.out]; omega) R⟩
      rw [HC2.out, HRR.out]
      rfl

end Go.Proofs.Ytdcdckjdloddiaa
