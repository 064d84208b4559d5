/-
  guard.Call: a fault is caught. The walk of the closure that reads a block. The walk of the unpacker's Block.
-/
import Derived.Test.YtmlnboibclfmcaaDoorUnNum
import Derived.Recover
import Derived.Defers
import Derived.Test.YtmlnboibclfmcaaDoorUnStep
namespace Go.Proofs.YtmlnboibclfmcaaDoor
open Go.RowKit
set_option linter.unusedVariables false

theorem grd_idle (p q : Addr) (w : World) :
    CallsD Tryd.prog 81 #[.pointer (some p), .pointer (some q)] .returning w fun e u' w' => e = .returned (.tuple #[]) ∧ u' = .returning ∧ w' = w := by
  refine callsD_of_wpS Tryd.func81 rfl fun c₀ cs hu => ?_
  apply wpS_seq
  apply wpS_region
  simp [wpOpsS, go_sem, recoverD, hu, Tryd.ntmps81, Exit.thenS]
  refine wpS_of_wp ?_
  simp only [Array.replicate_succ, Array.replicate_zero, List.push_toArray, List.append_toArray, List.nil_append, List.cons_append, List.setIfInBounds_toArray, List.set]
  go_wp2_with fail
  refine ⟨rfl, .returning, ?_, .tuple #[], by simp [results, Tryd.results81, go_sem], rfl, rfl, rfl⟩
  cases c₀
  simp_all
/-- A fault's cells. -/
def FLB (w : World) (g : Nat) (c a : Int) : Prop := w.heap[g]? = some (.cells #[.int .i64 c, .int .i64 a] 111 (0, 0))
def BLB (w : World) (g : Nat) (b : Bool) : Prop := w.heap[g]? = some (.cells #[.bool b] 4 (0, 0))
theorem fltsz (c a : Int) : (Tryd.prog.info? 111).map (·.size) = some (#[Value.int .i64 c, .int .i64 a]).size := by
  show _ = some 2
  kernel_rfl
theorem fltone (c a : Int) : (#[Value.int .i64 c, .int .i64 a]).all (·.oneCell') = true := by simp [Value.oneCell']
theorem lt_of_heap {w : World} {g : Nat} {o} (h : w.heap[g]? = some o) : g < w.heap.size := by
  rcases Nat.lt_or_ge g w.heap.size with h1 | h1
  · exact h1
  · rw [Array.getElem?_eq_none h1] at h; cases h
theorem typeAssert_flt (c a : Int) (w : World) : (Instr.typeAssert (Value.iface 111 (Value.agg #[Value.int IntKind.i64 c, Value.int IntKind.i64 a])) 20 111 true).run Tryd.prog w = .ok (.tuple #[.agg #[Value.int IntKind.i64 c, Value.int IntKind.i64 a], .bool true]) w := by kernel_rfl
set_option maxHeartbeats 4000000 in
set_option maxRecDepth 100000 in
theorem grd_fault (r1 r2 : Nat) (z0 z1 : Int) (z2 : Bool) (c a : Int) (older : List PanicEntry) (w : World) (h1 : FLB w r1 z0 z1) (h2 : BLB w r2 z2) (hne : r1 ≠ r2) :
    CallsD Tryd.prog 81 #[.pointer (some ⟨r1, 0, none⟩), .pointer (some ⟨r2, 0, none⟩)] (.panicking (fltV c a :: older)) w fun e u' w' =>
      e = .returned (.tuple #[]) ∧ u' = .panicking ({ fltV c a with recovered := true } :: older) ∧ FLB w' r1 c a ∧ BLB w' r2 true ∧ Chg (fun k => k = r1 ∨ k = r2) w w' := by
  refine callsD_of_wpS Tryd.func81 rfl fun c₀ cs hu => ?_
  unfold fltV at hu ⊢
  apply wpS_seq
  apply wpS_region
  simp [wpOpsS, go_sem, recoverD, hu, Tryd.ntmps81, Exit.thenS]
  refine wpS_of_wp ?_
  simp only [Array.replicate_succ, Array.replicate_zero, List.push_toArray, List.append_toArray, List.nil_append, List.cons_append, List.setIfInBounds_toArray, List.set]
  have H1 := Lib.hid h1
  have H2 := Lib.hid h2
  have HN := Lib.hid hne
  have HU := Lib.hid hu
  clear h1 h2 hne hu
  obtain ⟨g3, hg3⟩ : ∃ g3, w.heap.size = g3 := ⟨_, rfl⟩
  have HF3 : Hid (FLB (w.alloc (.cells #[.int .i64 c, .int .i64 a] 111)) g3 c a) := Lib.hid (by rw [← hg3]; exact heap_alloc_new w _)
  have a3 := (Aft.refl w).alloc (.cells #[.int .i64 c, .int .i64 a] 111)
  have HC3 := Lib.hid (Chg.of_aft (p := fun k => k = r1 ∨ k = r2) a3)
  have HF1 : Hid (FLB (w.alloc (.cells #[.int .i64 c, .int .i64 a] 111)) r1 z0 z1) := Lib.hid ((a3.block r1 (lt_of_heap H1.out)).trans H1.out)
  have HF2 : Hid (BLB (w.alloc (.cells #[.int .i64 c, .int .i64 a] 111)) r2 z2) := Lib.hid ((a3.block r2 (lt_of_heap H2.out)).trans H2.out)
  have hta := typeAssert_flt c a
  clear a3
  go_upto_region 5 with fail
  clear hg3
  generalize w.alloc (.cells #[.int .i64 c, .int .i64 a] 111) = W1 at HF3 HC3 HF1 HF2 ⊢
  have hset : (W1.setRow r1 #[.int .i64 c, .int .i64 a]).heap[r1]? = some (.cells #[.int .i64 c, .int .i64 a] 111 (0, 0)) := setRow_heap W1 r1 _ _ 111 (0, 0) HF1.out
  have hoth : (W1.setRow r1 #[.int .i64 c, .int .i64 a]).heap[r2]? = some (.cells #[.bool z2] 4 (0, 0)) := by rw [setRow_other W1 r1 r2 _ (fun e => HN.out e.symm)]; exact HF2.out
  have q0 : (W1.setRow r1 #[.int .i64 c, .int .i64 a]).cell? ⟨r2, 0, none⟩ = some (.bool z2) := by rw [cell_of_row _ _ _ _ _ (0, 0) hoth]; rfl
  have qf : (W1.setRow r1 #[.int .i64 c, .int .i64 a]).frozen? ⟨r2, 0, none⟩ = false := frozen_of_row _ _ _ _ _ hoth
  have HS := Lib.hid hset
  have HO := Lib.hid hoth
  clear hset hoth hta
  go_wp2_with (first | (refine wpList_load_row rfl 111 (.tmp 3) rfl g3 rfl _ #[.int .i64 c, .int .i64 a] (0, 0) _ HF3.out Tryd.underlying111 rfl (fltsz c a) ?_) | (refine wpList_store_rowTo rfl 111 (.tmp 0) (.tmp 16) rfl rfl r1 #[.int .i64 c, .int .i64 a] rfl rfl _ _ HF1.out (fltsz c a) rfl (fltone c a) ?_))
  refine ⟨rfl, _, rfl, .tuple #[], by simp [results, Tryd.results81, go_sem], rfl, rfl, ?_, ?_, ?_⟩
  · unfold FLB
    rw [heap_setCell_other _ _ _ _ (by exact HN.out)]
    exact HS.out
  · unfold BLB
    rw [heap_setCell_same _ r2 0 _ _ _ HO.out]
    rfl
  · exact (HC3.out.row r1 _ (Or.inl (Or.inl rfl))).set r2 0 _ (Or.inl (Or.inr rfl))
/-- Behind Call's two results. -/
def CW0 (w : World) : World := (w.alloc (.cells #[.int .i64 0, .int .i64 0] 111)).alloc (.cells #[.bool false] 4)
def CallPost (P : Ending → World → Prop) (r1 : Nat) (e' : Ending) (w'' : World) : Prop := ∃ (e : Ending) (w' : World) (c a : Int) (ok : Bool), P e w' ∧ e' = .returned (.tuple #[.agg #[.int .i64 c, .int .i64 a], .bool ok]) ∧ Chg (fun k => k = r1 ∨ k = r1 + 1) w' w'' ∧ ((ok = false ∧ e = .returned (.tuple #[])) ∨ (ok = true ∧ e = .panicked [fltV c a]))
theorem results_call (t0 t4 t5 t6 t7 : Value) (r1 : Nat) (w : World) (c a : Int) (b : Bool) (h1 : FLB w r1 c a) (h2 : BLB w (r1 + 1) b) : (results Tryd.f68 #[t0, undef, .pointer (some ⟨r1, 0, none⟩), .pointer (some ⟨r1 + 1, 0, none⟩), t4, t5, t6, t7]).run Tryd.prog w = .ok (.tuple #[.agg #[.int .i64 c, .int .i64 a], .bool b]) w := by
  have q0 : w.cell? ⟨r1 + 1, 0, none⟩ = some (.bool b) := by rw [cell_of_row _ _ _ _ _ (0, 0) h2]; rfl
  have p0 : w.cell? ⟨r1, 0, none⟩ = some (.int .i64 c) := by rw [cell_of_row _ _ _ _ _ (0, 0) h1]; rfl
  have p1 : w.cell? ⟨r1, 1, none⟩ = some (.int .i64 a) := by rw [cell_of_row _ _ _ _ _ (0, 0) h1]; rfl
  simp [results, Tryd.results68, asAddr, go_sem, q0, p0, p1]
set_option maxHeartbeats 8000000 in
set_option maxRecDepth 100000 in
theorem call_any (w : World) (caps : Array Value) (P : Ending → World → Prop) (hrun : Calls Tryd.prog 69 caps (CW0 w) P) (hP : ∀ e w', P e w' → FLB w' w.heap.size 0 0 ∧ BLB w' (w.heap.size + 1) false ∧ (e = .returned (.tuple #[]) ∨ ∃ c a, e = .panicked [fltV c a])) :
    Calls Tryd.prog 68 #[.func (.func 69) #[] caps] w fun e w' => CallPost P w.heap.size e w' := by
  have hmf : ∀ (fn : Fn) (first cap : Array Value) (w : World), (Instr.makeFunc fn first cap).run Tryd.prog w = .ok (.func fn first cap) w := fun _ _ _ _ => rfl
  have HRUN := Lib.hid hrun
  have HP := Lib.hid hP
  unfold CW0 at HRUN
  clear hrun hP
  obtain ⟨r1, hr1⟩ : ∃ r1, w.heap.size = r1 := ⟨_, rfl⟩
  rw [hr1] at HP ⊢
  have HR1 := Lib.hid hr1
  clear hr1
  go_enter_defers Tryd.func68, Tryd.ntmps68
  go_wp2_with fail
  refine HRUN.out.mono ?_
  intro e w1 hp
  obtain ⟨f1, f2, hc⟩ := HP.out e w1 hp
  have HPP := Lib.hid hp
  have HF1 := Lib.hid f1
  have HF2 := Lib.hid f2
  clear f1 f2 hp HRUN HP
  rw [HR1.out]
  rcases hc with rfl | ⟨c, a, rfl⟩
  · have hset : (w1.setRow r1 #[.int .i64 0, .int .i64 0]).heap[r1]? = some (.cells #[.int .i64 0, .int .i64 0] 111 (0, 0)) := setRow_heap w1 r1 _ _ 111 (0, 0) HF1.out
    have hoth : (w1.setRow r1 #[.int .i64 0, .int .i64 0]).heap[r1 + 1]? = some (.cells #[.bool false] 4 (0, 0)) := by rw [setRow_other w1 r1 (r1 + 1) _ (by omega)]; exact HF2.out
    have q0 : (w1.setRow r1 #[.int .i64 0, .int .i64 0]).cell? ⟨r1 + 1, 0, none⟩ = some (.bool false) := by rw [cell_of_row _ _ _ _ _ (0, 0) hoth]; rfl
    have qf : (w1.setRow r1 #[.int .i64 0, .int .i64 0]).frozen? ⟨r1 + 1, 0, none⟩ = false := frozen_of_row _ _ _ _ _ hoth
    have HS := Lib.hid hset
    have HO := Lib.hid hoth
    clear hset hoth
    go_wp2_with (refine wpList_store_rowTo rfl 111 (.tmp 2) (.tmp 7) rfl rfl r1 #[.int .i64 0, .int .i64 0] rfl rfl _ _ HF1.out (fltsz 0 0) rfl (fltone 0 0) ?_)
    refine leaves_cons (f := 81) (args := #[.pointer (some ⟨r1, 0, none⟩), .pointer (some ⟨r1 + 1, 0, none⟩)]) (by simp) (by simp [go_sem]) ?_
    refine (grd_idle ⟨r1, 0, none⟩ ⟨r1 + 1, 0, none⟩ _).mono ?_
    rintro e u' w'' ⟨rfl, rfl, rfl⟩
    have k1 : FLB ((w1.setRow r1 #[.int .i64 0, .int .i64 0]).setCell ⟨r1 + 1, 0, none⟩ (.bool false)) r1 0 0 := by
      unfold FLB
      rw [heap_setCell_other _ _ _ _ (by show r1 ≠ r1 + 1; omega)]
      exact HS.out
    have k2 : BLB ((w1.setRow r1 #[.int .i64 0, .int .i64 0]).setCell ⟨r1 + 1, 0, none⟩ (.bool false)) (r1 + 1) false := by
      unfold BLB
      rw [heap_setCell_same _ (r1 + 1) 0 _ _ _ HO.out]
      rfl
    exact ⟨_, results_call _ _ _ _ _ r1 _ 0 0 false k1 k2, _, w1, 0, 0, false, HPP.out, rfl, ((Chg.refl (fun k => k = r1 ∨ k = r1 + 1) w1).row r1 _ (Or.inl (Or.inl rfl))).set (r1 + 1) 0 _ (Or.inl (Or.inr rfl)), Or.inl ⟨rfl, rfl⟩⟩
  · refine leaves_cons (f := 81) (args := #[.pointer (some ⟨r1, 0, none⟩), .pointer (some ⟨r1 + 1, 0, none⟩)]) (by simp) (by simp [go_sem]) ?_
    refine (grd_fault r1 (r1 + 1) 0 0 false c a [] w1 HF1.out HF2.out (by omega)).mono ?_
    rintro e u' w'' ⟨rfl, rfl, g1, g2, hc⟩
    exact ⟨_, results_call _ _ _ _ _ r1 _ c a true g1 g2, _, w1, c, a, true, HPP.out, rfl, hc, Or.inr ⟨rfl, rfl⟩⟩
end Go.Proofs.YtmlnboibclfmcaaDoor
namespace Go.Proofs.YtmlnboibclfmcaaDoor
open Go.RowKit
set_option linter.unusedVariables false

def atOf (gr : Nat) (w : World) : Nat := match w.cell? ⟨gr, 2, none⟩ with
  | some (.int _ n) => n.toNat
  | _ => 0
theorem RS.atOf {W0 w : World} {B gu g gr : Nat} {vo0 vk vb : Value} {top list : Int} {s : US} {vr vo : Value} (h : RS W0 w B gu g gr vo0 vk vb top list s vr vo) : atOf gr w = s.at_ := by
  unfold Go.Proofs.YtmlnboibclfmcaaDoor.atOf
  rw [h.rd.cells.2.2.1]
  simp
set_option linter.unusedSimpArgs false in
set_option maxHeartbeats 16000000 in
set_option maxRecDepth 100000 in
theorem run_any {W0 w : World} {B gu g gr gc gb : Nat} {vo0 vk vr vo : Value} {top list : Int} {s0 : US} {va : Option Addr} {cap : Nat} {b : List UInt8} (hb : BR W0 g gr vo0 va cap b) (h : RS W0 w B gu g gr vo0 vk (.slice va b.length cap) top list s0 vr vo) (hsi : SI list b s0) (hlist : list ≤ 2147483647) (htop : top ≤ 65536)
    (hcap : ∀ wx, Chg (TU gr g vo0) W0 wx → wx.cell? ⟨gc, 0, none⟩ = some (.pointer (some ⟨gr, 0, none⟩)) ∧ wx.cell? ⟨gb, 0, none⟩ = some (.slice va b.length cap)) :
    Calls Tryd.prog 69 #[.pointer (some ⟨gc, 0, none⟩), .pointer (some ⟨gb, 0, none⟩)] w fun e w' => StepPost W0 B gu g gr vo0 vk (.slice va b.length cap) top list (runU top list b (b.length + 1) s0) e w' := by
  have HB := Lib.hid hb
  have HCAP := Lib.hid hcap
  have HSI := Lib.hid hsi
  have H0 := Lib.hid h
  have HT := Lib.hid (And.intro hlist htop)
  have hlen := hb.len
  obtain ⟨Q, hQ⟩ : ∃ Q, runU top list b (b.length + 1) s0 = Q := ⟨_, rfl⟩
  rw [hQ]
  have HQ := Lib.hid hQ
  clear hb h hsi hlist htop hcap hQ
  go_enter Tryd.func69, Tryd.ntmps69
  go_wp2_with fail
  go_loopw [] (fun wr => ∃ (s : US) (vr vo : Value), Hid (RS W0 wr B gu g gr vo0 vk (.slice va b.length cap) top list s vr vo) ∧ Hid (SI list b s) ∧ Hid (runU top list b (b.length + 1) s = Q)) (fun wr => b.length - atOf gr wr)
  case atStart => exact ⟨s0, _, _, H0, HSI, HQ⟩
  case round =>
    clear H0 HSI HQ
    obtain ⟨s, vr, vo, HS, HSI, HQ⟩ := hrel
    have HD : Hid (RS W0 wr.drew B gu g gr vo0 vk (.slice va b.length cap) top list s vr vo) := Lib.hid (HS.out.aft ((Aft.refl wr).drew))
    by_cases hlt : s.at_ < b.length
    · obtain ⟨c, hc⟩ : ∃ c, b[s.at_]? = some c := ⟨_, List.getElem?_eq_getElem hlt⟩
      have hrs := runU_step (top := top) (list := list) hc
      have HST := Lib.hid (fun w' (h : RS W0 w' B gu g gr vo0 vk (.slice va b.length cap) top list s vr vo) => step_any HB.out h HSI.out HT.out.1 HT.out.2 c hc)
      have HRS := Lib.hid hrs
      have HSN := Lib.hid (fun he => SI.step (c := c.toNat) HSI.out HT.out.2 he)
      have HTO := Lib.hid (fun he => stepU_to (top := top) (list := list) (b := b) (s := s) (c := c.toNat) he)
      have hat := HS.out.atOf
      have HAT := Lib.hid hat
      obtain ⟨at_, hae⟩ : ∃ a, s.at_ = a := ⟨_, rfl⟩
      have HAE := Lib.hid hae
      rw [hae] at hlt
      have i1 : (at_ : Int) < (b.length : Int) := by omega
      have HLT := Lib.hid hlt
      clear hc hrs hat hae hlt HS
      go_upto_region 0 with fail
      refine wp_region_held_drew (S := fun w' => RS W0 w' B gu g gr vo0 vk (.slice va b.length cap) top list s vr vo) (by kernel_rfl) HD.out (fun hHeld => ?_)
      refine wpAnyH_take (i := 0) (oi := { dst := some 2, op := Go.Op.load 107 (Go.Operand.tmp 0), type := 107, pos := _, after := _, guard := _ }) (v := ?_) rfl (by kernel_rfl) (by kernel_rfl) (by kernel_rfl) (fun _ _ _ h => h) (Or.inl ⟨by rfl, ?_⟩) (by exact hHeld) ?_
      rotate_left
      · intro w hSw; obtain ⟨c0, c1, c2, c3, c4, c5, f⟩ := hSw.rd.cells; rw [HAE.out] at c2; obtain ⟨p0, p1⟩ := HCAP.out _ hSw.x.chg; go_simp; try with_reducible rfl
      try simp only [Act.put]
      try simp only [List.setIfInBounds_toArray]
      try simp only [List.set]
      refine wpAnyH_take (i := 1) (oi := { dst := some 3, op := Go.Op.nilCheck (Go.Operand.tmp 2), type := 0, pos := _, after := _, guard := _ }) (v := ?_) rfl (by kernel_rfl) (by kernel_rfl) (by kernel_rfl) (fun _ _ _ h => h) (Or.inl ⟨by rfl, ?_⟩) (by exact hHeld) ?_
      rotate_left
      · intro w hSw; go_simp; try with_reducible rfl
      try simp only [Act.put]
      try simp only [List.setIfInBounds_toArray]
      try simp only [List.set]
      refine wpAnyH_take (i := 2) (oi := { dst := some 4, op := Go.Op.fieldAddr 109 (Go.Operand.tmp 3) 2, type := 0, pos := _, after := _, guard := _ }) (v := ?_) rfl (by kernel_rfl) (by kernel_rfl) (by kernel_rfl) (fun _ _ _ h => h) (Or.inl ⟨by rfl, ?_⟩) (by exact hHeld) ?_
      rotate_left
      · intro w hSw; go_simp; try with_reducible rfl
      try simp only [Act.put]
      try simp only [List.setIfInBounds_toArray]
      try simp only [List.set]
      refine wpAnyH_take (i := 3) (oi := { dst := some 5, op := Go.Op.load 3 (Go.Operand.tmp 4), type := 3, pos := _, after := _, guard := _ }) (v := ?_) rfl (by kernel_rfl) (by kernel_rfl) (by kernel_rfl) (fun _ _ _ h => h) (Or.inl ⟨by rfl, ?_⟩) (by exact hHeld) ?_
      rotate_left
      · intro w hSw; obtain ⟨c0, c1, c2, c3, c4, c5, f⟩ := hSw.rd.cells; rw [HAE.out] at c2; obtain ⟨p0, p1⟩ := HCAP.out _ hSw.x.chg; go_simp; try with_reducible rfl
      try simp only [Act.put]
      try simp only [List.setIfInBounds_toArray]
      try simp only [List.set]
      refine wpAnyH_take (i := 4) (oi := { dst := some 6, op := Go.Op.load 54 (Go.Operand.tmp 1), type := 54, pos := _, after := _, guard := _ }) (v := ?_) rfl (by kernel_rfl) (by kernel_rfl) (by kernel_rfl) (fun _ _ _ h => h) (Or.inl ⟨by rfl, ?_⟩) (by exact hHeld) ?_
      rotate_left
      · intro w hSw; obtain ⟨c0, c1, c2, c3, c4, c5, f⟩ := hSw.rd.cells; rw [HAE.out] at c2; obtain ⟨p0, p1⟩ := HCAP.out _ hSw.x.chg; go_simp; try with_reducible rfl
      try simp only [Act.put]
      try simp only [List.setIfInBounds_toArray]
      try simp only [List.set]
      refine wpAnyH_take (i := 5) (oi := { dst := some 7, op := Go.Op.call { callee := Go.Callee.builtin Go.Builtin.len, args := #[Go.Operand.tmp 6], argTypes := #[54] }, type := 3, pos := _, after := _, guard := _ }) (v := ?_) rfl (by kernel_rfl) (by kernel_rfl) (by kernel_rfl) (fun _ _ _ h => h) (Or.inl ⟨by rfl, ?_⟩) (by exact hHeld) ?_
      rotate_left
      · intro w hSw; go_simp; try with_reducible rfl
      try simp only [Act.put]
      try simp only [List.setIfInBounds_toArray]
      try simp only [List.set]
      refine wpAnyH_take (i := 6) (oi := { dst := some 8, op := Go.Op.binOp Go.BinOp.lss 3 (Go.Operand.tmp 5) (Go.Operand.tmp 7) 3, type := 4, pos := _, after := _, guard := _ }) (v := ?_) rfl (by kernel_rfl) (by kernel_rfl) (by kernel_rfl) (fun _ _ _ h => h) (Or.inl ⟨by rfl, ?_⟩) (by exact hHeld) ?_
      rotate_left
      · intro w hSw; go_simp; try with_reducible rfl
      try simp only [Act.put]
      try simp only [List.setIfInBounds_toArray]
      try simp only [List.set]
      refine wpAnyH_done (by kernel_rfl) ?_ _
      have H1 := Lib.hid hHeld
      obtain ⟨p0, p1⟩ := HCAP.out _ hHeld.x.chg
      clear hHeld HD
      generalize wr.drew = W1 at H1 p0 p1 ⊢
      go_wp2_with fail
      refine (HST.out _ H1.out).mono ?_
      rintro e w9 HSP
      rcases HSP with ⟨h1, rfl, vr', vo', h2⟩ | ⟨h1, ⟨a9, rfl⟩, h2⟩
      · have H2 := Lib.hid h2
        have HZ := Lib.hid h1
        clear h1 h2 p0 p1 H1
        go_wp2_with fail
        go_roundw
        case rel => exact ⟨_, _, _, H2, Lib.hid (HSN.out HZ.out), Lib.hid (by rw [← HQ.out, HRS.out, if_neg (by rw [HZ.out]; simp)])⟩
        case measure =>
          have h3 := HTO.out HZ.out
          have h4 := H2.out.atOf
          have h5 := HAT.out
          have h6 := HAE.out
          omega
      · have H2 := Lib.hid (And.intro h1 h2)
        clear h1 h2 p0 p1 H1
        go_wp2_with fail
        refine ⟨rfl, Or.inr ?_⟩
        rw [← HQ.out, HRS.out, if_pos H2.out.1]
        exact ⟨H2.out.1, ⟨_, rfl⟩, H2.out.2⟩
    · have hre := runU_end (top := top) (list := list) (b := b) (s := s) (by omega)
      have HRE := Lib.hid hre
      obtain ⟨at_, hae⟩ : ∃ a, s.at_ = a := ⟨_, rfl⟩
      have HAE := Lib.hid hae
      rw [hae] at hlt
      have i1 : ¬ (at_ : Int) < (b.length : Int) := by omega
      clear hre hae hlt HS
      go_upto_region 0 with fail
      refine wp_region_held_drew (S := fun w' => RS W0 w' B gu g gr vo0 vk (.slice va b.length cap) top list s vr vo) (by kernel_rfl) HD.out (fun hHeld => ?_)
      refine wpAnyH_take (i := 0) (oi := { dst := some 2, op := Go.Op.load 107 (Go.Operand.tmp 0), type := 107, pos := _, after := _, guard := _ }) (v := ?_) rfl (by kernel_rfl) (by kernel_rfl) (by kernel_rfl) (fun _ _ _ h => h) (Or.inl ⟨by rfl, ?_⟩) (by exact hHeld) ?_
      rotate_left
      · intro w hSw; obtain ⟨c0, c1, c2, c3, c4, c5, f⟩ := hSw.rd.cells; rw [HAE.out] at c2; obtain ⟨p0, p1⟩ := HCAP.out _ hSw.x.chg; go_simp; try with_reducible rfl
      try simp only [Act.put]
      try simp only [List.setIfInBounds_toArray]
      try simp only [List.set]
      refine wpAnyH_take (i := 1) (oi := { dst := some 3, op := Go.Op.nilCheck (Go.Operand.tmp 2), type := 0, pos := _, after := _, guard := _ }) (v := ?_) rfl (by kernel_rfl) (by kernel_rfl) (by kernel_rfl) (fun _ _ _ h => h) (Or.inl ⟨by rfl, ?_⟩) (by exact hHeld) ?_
      rotate_left
      · intro w hSw; go_simp; try with_reducible rfl
      try simp only [Act.put]
      try simp only [List.setIfInBounds_toArray]
      try simp only [List.set]
      refine wpAnyH_take (i := 2) (oi := { dst := some 4, op := Go.Op.fieldAddr 109 (Go.Operand.tmp 3) 2, type := 0, pos := _, after := _, guard := _ }) (v := ?_) rfl (by kernel_rfl) (by kernel_rfl) (by kernel_rfl) (fun _ _ _ h => h) (Or.inl ⟨by rfl, ?_⟩) (by exact hHeld) ?_
      rotate_left
      · intro w hSw; go_simp; try with_reducible rfl
      try simp only [Act.put]
      try simp only [List.setIfInBounds_toArray]
      try simp only [List.set]
      refine wpAnyH_take (i := 3) (oi := { dst := some 5, op := Go.Op.load 3 (Go.Operand.tmp 4), type := 3, pos := _, after := _, guard := _ }) (v := ?_) rfl (by kernel_rfl) (by kernel_rfl) (by kernel_rfl) (fun _ _ _ h => h) (Or.inl ⟨by rfl, ?_⟩) (by exact hHeld) ?_
      rotate_left
      · intro w hSw; obtain ⟨c0, c1, c2, c3, c4, c5, f⟩ := hSw.rd.cells; rw [HAE.out] at c2; obtain ⟨p0, p1⟩ := HCAP.out _ hSw.x.chg; go_simp; try with_reducible rfl
      try simp only [Act.put]
      try simp only [List.setIfInBounds_toArray]
      try simp only [List.set]
      refine wpAnyH_take (i := 4) (oi := { dst := some 6, op := Go.Op.load 54 (Go.Operand.tmp 1), type := 54, pos := _, after := _, guard := _ }) (v := ?_) rfl (by kernel_rfl) (by kernel_rfl) (by kernel_rfl) (fun _ _ _ h => h) (Or.inl ⟨by rfl, ?_⟩) (by exact hHeld) ?_
      rotate_left
      · intro w hSw; obtain ⟨c0, c1, c2, c3, c4, c5, f⟩ := hSw.rd.cells; rw [HAE.out] at c2; obtain ⟨p0, p1⟩ := HCAP.out _ hSw.x.chg; go_simp; try with_reducible rfl
      try simp only [Act.put]
      try simp only [List.setIfInBounds_toArray]
      try simp only [List.set]
      refine wpAnyH_take (i := 5) (oi := { dst := some 7, op := Go.Op.call { callee := Go.Callee.builtin Go.Builtin.len, args := #[Go.Operand.tmp 6], argTypes := #[54] }, type := 3, pos := _, after := _, guard := _ }) (v := ?_) rfl (by kernel_rfl) (by kernel_rfl) (by kernel_rfl) (fun _ _ _ h => h) (Or.inl ⟨by rfl, ?_⟩) (by exact hHeld) ?_
      rotate_left
      · intro w hSw; go_simp; try with_reducible rfl
      try simp only [Act.put]
      try simp only [List.setIfInBounds_toArray]
      try simp only [List.set]
      refine wpAnyH_take (i := 6) (oi := { dst := some 8, op := Go.Op.binOp Go.BinOp.lss 3 (Go.Operand.tmp 5) (Go.Operand.tmp 7) 3, type := 4, pos := _, after := _, guard := _ }) (v := ?_) rfl (by kernel_rfl) (by kernel_rfl) (by kernel_rfl) (fun _ _ _ h => h) (Or.inl ⟨by rfl, ?_⟩) (by exact hHeld) ?_
      rotate_left
      · intro w hSw; go_simp; try with_reducible rfl
      try simp only [Act.put]
      try simp only [List.setIfInBounds_toArray]
      try simp only [List.set]
      refine wpAnyH_done (by kernel_rfl) ?_ _
      have H1 := Lib.hid hHeld
      clear hHeld HD
      go_wp2_with fail
      refine bodyPost_end (v := .tuple #[]) (by simp [results, Tryd.results69, go_sem]) rfl ?_
      rw [← HQ.out, HRE.out]
      exact Or.inl ⟨rfl, rfl, _, _, H1.out⟩
end Go.Proofs.YtmlnboibclfmcaaDoor
namespace Go.Proofs.YtmlnboibclfmcaaDoor
open Go.RowKit
set_option linter.unusedVariables false

def PU (gu g : Nat) (vo : Value) (k : Nat) : Prop := k = gu ∨ TP g vo k
theorem three_blk (w : World) (gu : Nat) (v : Value) : ∃ (W : World) (gb : Nat), ((w.alloc (.cells #[v] 54)).alloc (.cells #[.pointer (some ⟨gu, 0, none⟩), v, .int .i64 0, .slice none 0 0, .int .i64 0, .int .i64 0] 109)).alloc (.cells #[.pointer (some ⟨w.heap.size + 1, 0, none⟩)] 107) = W ∧ w.heap.size = gb ∧ Aft w W ∧ W.heap[gb]? = some (.cells #[v] 54 (0, 0)) ∧ RdB W (gb + 1) gu v 0 (.slice none 0 0) 0 0 ∧ W.heap[gb + 2]? = some (.cells #[.pointer (some ⟨gb + 1, 0, none⟩)] 107 (0, 0)) ∧ W.heap.size = gb + 3 := by
  have s1 : (w.alloc (.cells #[v] 54)).heap.size = w.heap.size + 1 := World.size_alloc _ _
  have s2 : ((w.alloc (.cells #[v] 54)).alloc (.cells #[.pointer (some ⟨gu, 0, none⟩), v, .int .i64 0, .slice none 0 0, .int .i64 0, .int .i64 0] 109)).heap.size = w.heap.size + 2 := by rw [World.size_alloc, s1]
  refine ⟨_, _, rfl, rfl, (((Aft.refl w).alloc _).alloc _).alloc _, ?_, ?_, ?_, ?_⟩
  · have h := heap_alloc_new w (.cells #[v] 54)
    rw [heap_alloc_old _ _ (by rw [s2]; omega), heap_alloc_old _ _ (by rw [s1]; omega)]
    exact h
  · have h := heap_alloc_new (w.alloc (.cells #[v] 54)) (.cells #[.pointer (some ⟨gu, 0, none⟩), v, .int .i64 0, .slice none 0 0, .int .i64 0, .int .i64 0] 109)
    rw [s1] at h
    unfold RdB
    rw [heap_alloc_old _ _ (by rw [s2]; omega)]
    exact h
  · have h := heap_alloc_new ((w.alloc (.cells #[v] 54)).alloc (.cells #[.pointer (some ⟨gu, 0, none⟩), v, .int .i64 0, .slice none 0 0, .int .i64 0, .int .i64 0] 109)) (.cells #[.pointer (some ⟨w.heap.size + 1, 0, none⟩)] 107)
    rw [s2] at h
    exact h
  · rw [World.size_alloc, s2]
theorem cw0_blk (w : World) : Aft w (CW0 w) ∧ FLB (CW0 w) w.heap.size 0 0 ∧ BLB (CW0 w) (w.heap.size + 1) false ∧ (CW0 w).heap.size = w.heap.size + 2 := by
  have s1 : (w.alloc (.cells #[.int .i64 0, .int .i64 0] 111)).heap.size = w.heap.size + 1 := World.size_alloc _ _
  unfold CW0
  refine ⟨((Aft.refl w).alloc _).alloc _, ?_, ?_, ?_⟩
  · have h := heap_alloc_new w (.cells #[.int .i64 0, .int .i64 0] 111)
    unfold FLB
    rw [heap_alloc_old _ _ (by rw [s1]; omega)]
    exact h
  · have h := heap_alloc_new (w.alloc (.cells #[.int .i64 0, .int .i64 0] 111)) (.cells #[.bool false] 4)
    rw [s1] at h
    exact h
  · rw [World.size_alloc, s1]
/-- A block's end. -/
def BlkPost (w : World) (B gu g : Nat) (vo vk : Value) (top list : Int) (q : US × Int) (e : Ending) (w' : World) : Prop :=
  (q.2 = 0 ∧ ∃ (ra : Option Addr) (rk : Nat) (vo' : Value), e = .returned (.tuple #[.slice ra q.1.rows.length rk, .int .i64 0]) ∧ Un w' B gu g vo' vk q.1.tab q.1.most top list false ∧ OwnW w' w.heap.size (.slice ra q.1.rows.length rk) q.1.rows ∧ Chg (PU gu g vo) w w' ∧ ∀ k, vo'.ownBlock = some k → vo.ownBlock = some k ∨ w.heap.size ≤ k) ∨
  (q.2 ≠ 0 ∧ ∃ vo' : Value, e = .returned (.tuple #[.slice none 0 0, .int .i64 q.2]) ∧ Un w' B gu g vo' vk q.1.tab q.1.most top list true ∧ Chg (PU gu g vo) w w' ∧ ∀ k, vo'.ownBlock = some k → vo.ownBlock = some k ∨ w.heap.size ≤ k)
set_option linter.unusedSimpArgs false in
set_option maxHeartbeats 16000000 in
set_option maxRecDepth 100000 in
theorem ublock_any {w : World} {B gu g : Nat} {vo vk : Value} {l : List FieldL} {most top list : Int} {va : Option Addr} {cap : Nat} {b : List UInt8} (h : Un w B gu g vo vk l most top list false) (hb : ∀ wx, Chg (PU gu g vo) w wx → Rb wx (.slice va b.length cap) b) (hlen : b.length ≤ 1000000) (hl : (sumF l : Int) ≤ most) (hm0 : 0 ≤ most) (hm1 : most ≤ 65536) (htop : top ≤ 65536) (hl0 : 0 ≤ list) (hl1 : list ≤ 2147483647) :
    Calls Tryd.prog 49 #[.pointer (some ⟨gu, 0, none⟩), .slice va b.length cap] w fun e w' => BlkPost w B gu g vo vk top list (blkU top list b l most) e w' := by
  obtain ⟨W, gb, hW, hgb, aW, k0, k1, k2, kz⟩ := three_blk w gu (.slice va b.length cap)
  obtain ⟨a0, z1, z2, z3⟩ := cw0_blk W
  have hugb : gu < gb := by have := h.lt; omega
  have hggb : g < gb := by have := h.t.lt; omega
  have hvgb : ∀ k, vo.ownBlock = some k → k < gb := fun k hk => by have := (h.t.own.lt k hk).2; omega
  have hn : ∀ k, gb ≤ k → k ≠ gb + 1 → ¬ TU (gb + 1) g vo k := fun k hk hk1 e => by
    rcases e with e | e | e
    · exact hk1 e
    · omega
    · have := hvgb k e; omega
  have aX := aW.trans a0
  have hBR : BR (CW0 W) g (gb + 1) vo va cap b := ⟨fun wx hc => hb wx ((Chg.of_aft aX).trans hc (fun i hi => by
    rcases hi with hi | hi
    · exact Or.inr (by omega)
    · exact Or.inl (Or.inr hi))), hlen⟩
  have hRS : RS (CW0 W) (CW0 W) B gu g (gb + 1) vo vk (.slice va b.length cap) top list (us0 l most) (.slice none 0 0) vo :=
    ⟨⟨h.aft aX, Chg.refl _ _, fun k hk => Or.inl hk⟩, k1.aft a0, ⟨rfl, Or.inl ⟨rfl, rfl⟩⟩, by have := h.pB; omega⟩
  have hSI : SI list b (us0 l most) := ⟨Nat.zero_le _, Nat.le_refl _, by show ((0 : Nat) : Int) ≤ list; omega, hl, hm0, hm1⟩
  have hblkX : ∀ {k o}, W.heap[k]? = some o → (CW0 W).heap[k]? = some o := fun {k o} hk => (a0.block k (lt_of_heap hk)).trans hk
  have hcap : ∀ wx, Chg (TU (gb + 1) g vo) (CW0 W) wx → wx.cell? ⟨gb + 2, 0, none⟩ = some (.pointer (some ⟨gb + 1, 0, none⟩)) ∧ wx.cell? ⟨gb, 0, none⟩ = some (.slice va b.length cap) := fun wx hc => by
    have e2 := (hc.block (gb + 2) (lt_of_heap (hblkX k2)) (hn _ (by omega) (by omega))).trans (hblkX k2)
    have e0 := (hc.block gb (lt_of_heap (hblkX k0)) (hn _ (by omega) (by omega))).trans (hblkX k0)
    constructor
    · rw [cell_of_row _ _ _ _ _ (0, 0) e2]; rfl
    · rw [cell_of_row _ _ _ _ _ (0, 0) e0]; rfl
  have hrun := run_any hBR hRS hSI hl1 htop hcap
  have hq : runU top list b (b.length + 1) (us0 l most) = blkU top list b l most := rfl
  rw [hq] at hrun
  obtain ⟨Q, hQ⟩ : ∃ Q, blkU top list b l most = Q := ⟨_, rfl⟩
  rw [hQ] at hrun ⊢
  have hX : ∀ e w', StepPost (CW0 W) B gu g (gb + 1) vo vk (.slice va b.length cap) top list Q e w' → ∃ vo', RX (CW0 W) w' B gu g (gb + 1) vo vk top list Q.1.tab Q.1.most vo' := fun e w' hp => by
    rcases hp with ⟨_, _, vr', vo', h9⟩ | ⟨_, _, vo', h9⟩
    · exact ⟨vo', h9.x⟩
    · exact ⟨vo', h9⟩
  have hcall := call_any W #[.pointer (some ⟨gb + 2, 0, none⟩), .pointer (some ⟨gb, 0, none⟩)] _ hrun (fun e w' hp => by
    obtain ⟨vo', hx⟩ := hX e w' hp
    refine ⟨(hx.chg.block W.heap.size (by rw [z3]; omega) (hn _ (by omega) (by omega))).trans z1, (hx.chg.block (W.heap.size + 1) (by rw [z3]; omega) (hn _ (by omega) (by omega))).trans z2, ?_⟩
    rcases hp with ⟨_, h9, _⟩ | ⟨_, ⟨a, h9⟩, _⟩
    · exact Or.inl h9
    · exact Or.inr ⟨_, a, h9⟩)
  rw [kz] at hcall
  have HC := Lib.hid hcall
  have hkn : ∀ k, vk.ownBlock = some k → k < gb := fun k hk => by have := (h.t.kn.lt k hk).2; omega
  have hcz : (CW0 W).heap.size = gb + 5 := by rw [z3, kz]
  have HFIN : Hid (∀ w4 w5 vo', RX (CW0 W) w4 B gu g (gb + 1) vo vk top list Q.1.tab Q.1.most vo' → Chg (fun k => k = gb + 3 ∨ k = gb + 3 + 1) w4 w5 → Un w5 B gu g vo' vk Q.1.tab Q.1.most top list false ∧ Chg (PU gu g vo) w w5 ∧ (∀ k, vo'.ownBlock = some k → vo.ownBlock = some k ∨ w.heap.size ≤ k) ∧ w5.heap[gb + 2]? = some (.cells #[.pointer (some ⟨gb + 1, 0, none⟩)] 107 (0, 0))) := Lib.hid (fun w4 w5 vo' hx hc => by
    refine ⟨hx.un.chg hc (by omega) (by omega) (fun k hk => ?_) (fun k hk => by have := hkn k hk; omega), ((Chg.of_aft aX).trans hx.chg (fun i hi => ?_)).trans hc (fun i hi => Or.inr (by omega)), fun k hk => ?_, ?_⟩
    · rcases hx.ob k hk with h9 | h9
      · have := hvgb k h9; omega
      · omega
    · rcases hi with hi | hi
      · exact Or.inr (by omega)
      · exact Or.inl (Or.inr hi)
    · rcases hx.ob k hk with h9 | h9
      · exact Or.inl h9
      · exact Or.inr (by omega)
    · have e2 := (hx.chg.block (gb + 2) (lt_of_heap (hblkX k2)) (hn _ (by omega) (by omega))).trans (hblkX k2)
      exact (hc.block (gb + 2) (lt_of_heap e2) (by omega)).trans e2)
  have HRD : Hid (∀ w4 w5 vr' vo', RS (CW0 W) w4 B gu g (gb + 1) vo vk (.slice va b.length cap) top list Q.1 vr' vo' → Chg (fun k => k = gb + 3 ∨ k = gb + 3 + 1) w4 w5 → RdB w5 (gb + 1) gu (.slice va b.length cap) Q.1.at_ vr' Q.1.sum Q.1.sizes ∧ OwnW w5 w.heap.size vr' Q.1.rows) := Lib.hid (fun w4 w5 vr' vo' hx hc => by
    refine ⟨hx.rd.chg hc (by omega), ?_⟩
    have h9 := hx.rows.chg hc (fun k hk => by have := (World.ownsRow.lt hx.rows k hk).1; omega)
    obtain ⟨h1, h2⟩ := h9
    refine ⟨h1, h2.imp id ?_⟩
    rintro ⟨g9, cap9, cur9, e1, e2, e3⟩
    exact ⟨g9, cap9, cur9, e1, by omega, e3⟩)
  have hbx : (Un (w.alloc (.cells #[.slice va b.length cap] 54)) B gu g vo vk l most top list false) := h.aft ((Aft.refl w).alloc _)
  obtain ⟨-, -, -, d3, -⟩ := hbx.cells
  have HSTEP : Hid (∀ e w', StepPost (CW0 W) B gu g (gb + 1) vo vk (.slice va b.length cap) top list Q e w' → (∀ v, e = .returned v → Q.2 = 0 ∧ ∃ vr' vo', RS (CW0 W) w' B gu g (gb + 1) vo vk (.slice va b.length cap) top list Q.1 vr' vo') ∧ (∀ c a, e = .panicked [fltV c a] → Q.2 ≠ 0 ∧ c = Q.2 ∧ ∃ vo', RX (CW0 W) w' B gu g (gb + 1) vo vk top list Q.1.tab Q.1.most vo')) := Lib.hid (fun e w' hp => by
    rcases hp with ⟨h1, h2, h3⟩ | ⟨h1, ⟨a', h2⟩, h3⟩
    · exact ⟨fun v _ => ⟨h1, h3⟩, fun c a he => (by rw [h2] at he; cases he)⟩
    · refine ⟨fun v he => (by rw [h2] at he; cases he), fun c a he => ⟨h1, ?_, h3⟩⟩
      rw [h2] at he
      unfold fltV at he
      injection he with he
      injection he with he _
      injection he with he _
      injection he with _ he
      injection he with he
      injection he with he
      injection he with he _
      injection he with _ he
      exact he.symm)
  rw [hgb] at hW
  have HW := Lib.hid hgb
  have HWW := Lib.hid hW
  clear h hb hlen hl hm0 hm1 htop hl0 hl1 aW k0 k1 k2 kz a0 z1 z2 z3 hugb hggb hvgb hn aX hBR hRS hSI hblkX hcap hrun hq hQ hX hcall hkn hcz hbx
  unfold BlkPost
  go_enter Tryd.func49, Tryd.ntmps49
  go_wp2_with fail
  clear hW hgb d3 HWW
  refine HC.out.mono ?_
  rintro e w5 ⟨e0, w4, c, a, ok, hp, rfl, hc5, hcase⟩
  have hstep := HSTEP.out _ _ hp
  clear hp HC HSTEP
  have a6 := (Aft.refl w5).alloc (.cells #[.int .i64 c, .int .i64 a] 111)
  have HFL : Hid (FLB (w5.alloc (.cells #[.int .i64 c, .int .i64 a] 111)) w5.heap.size c a) := Lib.hid (heap_alloc_new w5 _)
  rcases hcase with ⟨rfl, he0⟩ | ⟨rfl, he0⟩
  · obtain ⟨hq0, vr', vo', hrs⟩ := hstep.1 _ he0
    obtain ⟨u1, u2, u3, u4⟩ := HFIN.out _ _ _ hrs.x hc5
    obtain ⟨r1, r2⟩ := HRD.out _ _ _ _ hrs hc5
    obtain ⟨ra, rk, hvr, -⟩ := r2.slice
    subst hvr
    have HQ0 := Lib.hid hq0
    have HU := Lib.hid (u1.aft a6)
    have HCH := Lib.hid (u2.aft a6)
    have HOB := Lib.hid u3
    have HR := Lib.hid (r1.aft a6)
    have HO := Lib.hid (r2.aft a6)
    have c6 : (w5.alloc (.cells #[.int .i64 c, .int .i64 a] 111)).cell? ⟨gb + 1 + 1, 0, none⟩ = some (.pointer (some ⟨gb + 1, 0, none⟩)) := by
      have e3 := (a6.block (gb + 2) (lt_of_heap u4)).trans u4
      show (w5.alloc (.cells #[.int .i64 c, .int .i64 a] 111)).cell? ⟨gb + 2, 0, none⟩ = _
      rw [cell_of_row _ _ _ _ _ (0, 0) e3]; rfl
    obtain ⟨-, -, -, c3, -, -, -⟩ := HR.out.cells
    obtain ⟨ln, hln⟩ : ∃ ln, Q.1.rows.length = ln := ⟨_, rfl⟩
    rw [hln] at c3
    have HLN := Lib.hid hln
    clear hq0 hstep hrs u1 u2 u3 u4 r1 r2 a6 hc5 he0 HFIN HRD HFL hln
    go_wp2_with fail
    go_ret2
    exact Or.inl ⟨HQ0.out, ra, rk, vo', (by rw [HLN.out]; rfl), HU.out, HO.out, HCH.out, HOB.out⟩
  · obtain ⟨hq0, rfl, vo', hrx⟩ := hstep.2 _ _ he0
    obtain ⟨u1, u2, u3, u4⟩ := HFIN.out _ _ _ hrx hc5
    have HQ0 := Lib.hid hq0
    have HU := Lib.hid (u1.aft a6)
    have HCH := Lib.hid (u2.aft a6)
    have HOB := Lib.hid u3
    obtain ⟨c, hcq⟩ : ∃ c, Q.2 = c := ⟨_, rfl⟩
    rw [hcq] at HFL HU HCH ⊢
    have HCQ := Lib.hid hcq
    obtain ⟨-, -, -, d3, f3⟩ := HU.out.cells
    have hgw : gu ≠ w5.heap.size := by have := u1.lt; omega
    have HU7 := Lib.hid (HU.out.put3 true)
    have HCH7 := Lib.hid (HCH.out.set gu 3 (.bool true) (Or.inl (Or.inl rfl)))
    have HFL7 : Hid (FLB ((w5.alloc (.cells #[.int .i64 c, .int .i64 a] 111)).setCell ⟨gu, 3, none⟩ (.bool true)) w5.heap.size c a) := Lib.hid (by
      unfold FLB
      rw [heap_setCell_other _ _ _ _ (fun e => hgw e.symm)]
      exact HFL.out)
    clear hq0 hstep hrx u1 u2 u3 u4 a6 hc5 he0 HFIN HRD hcq hgw HFL HU HCH
    go_upto_region 7 with fail
    clear d3 f3
    generalize (w5.alloc (.cells #[.int .i64 c, .int .i64 a] 111)).setCell ⟨gu, 3, none⟩ (.bool true) = W7 at HFL7 HU7 HCH7 ⊢
    generalize w5.heap.size = g7 at HFL7 ⊢
    have HD : Hid (FLB W7.drew g7 c a) := Lib.hid HFL7.out
    refine wp_region_held_drew (S := fun w' => FLB w' g7 c a) (by kernel_rfl) HD.out (fun hHeld => ?_)
    refine wpAnyH_take (i := 2) (oi := { dst := some 4, op := Go.Op.assign (Go.Operand.const (Go.Value.slice none 0 0)), type := 59, pos := _, after := _, guard := _ }) (v := ?_) rfl (by kernel_rfl) (by kernel_rfl) (by kernel_rfl) (fun _ _ _ h => h) (Or.inl ⟨by rfl, ?_⟩) (by exact hHeld) ?_
    rotate_left
    · intro w hSw; go_simp; try with_reducible rfl
    try simp only [Act.put]
    try simp only [List.setIfInBounds_toArray]
    try simp only [List.set]
    refine wpAnyH_take (i := 0) (oi := { dst := some 26, op := Go.Op.fieldAddr 111 (Go.Operand.tmp 7) 0, type := 0, pos := _, after := _, guard := _ }) (v := ?_) rfl (by kernel_rfl) (by kernel_rfl) (by kernel_rfl) (fun _ _ _ h => h) (Or.inl ⟨by rfl, ?_⟩) (by exact hHeld) ?_
    rotate_left
    · intro w hSw; go_simp; try with_reducible rfl
    try simp only [Act.put]
    try simp only [List.setIfInBounds_toArray]
    try simp only [List.set]
    refine wpAnyH_take (i := 1) (oi := { dst := some 27, op := Go.Op.load 3 (Go.Operand.tmp 26), type := 3, pos := _, after := _, guard := _ }) (v := ?_) rfl (by kernel_rfl) (by kernel_rfl) (by kernel_rfl) (fun _ _ _ h => h) (Or.inl ⟨by rfl, ?_⟩) (by exact hHeld) ?_
    rotate_left
    · intro w hSw; have c0 : w.cell? ⟨g7, 0, none⟩ = some (.int .i64 c) := by { rw [cell_of_row _ _ _ _ _ (0, 0) hSw]; rfl }; go_simp; try with_reducible rfl
    try simp only [Act.put]
    try simp only [List.setIfInBounds_toArray]
    try simp only [List.set]
    refine wpAnyH_take (i := 3) (oi := { dst := some 5, op := Go.Op.assign (Go.Operand.tmp 27), type := 23, pos := _, after := _, guard := _ }) (v := ?_) rfl (by kernel_rfl) (by kernel_rfl) (by kernel_rfl) (fun _ _ _ h => h) (Or.inl ⟨by rfl, ?_⟩) (by exact hHeld) ?_
    rotate_left
    · intro w hSw; go_simp; try with_reducible rfl
    try simp only [Act.put]
    try simp only [List.setIfInBounds_toArray]
    try simp only [List.set]
    refine wpAnyH_done (by kernel_rfl) ?_ _
    clear hHeld HD
    go_wp2_with fail
    go_ret2
    refine Or.inr ⟨HQ0.out, vo', (by rw [HCQ.out]; rfl), HU7.out.aft ((Aft.refl _).drew), HCH7.out.drew, HOB.out⟩
end Go.Proofs.YtmlnboibclfmcaaDoor
