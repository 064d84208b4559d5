/-
  The walk of the reader's row. The walk of the reader's resize. The walk of the reader's step.
-/
import Derived.Test.YtmlnboibclfmcaaDoorUnWriN
namespace Go.Proofs.YtmlnboibclfmcaaDoor
open Go.RowKit
set_option linter.unusedVariables false

theorem OwnW.slice {w : World} {base : Nat} {v : Value} {l : List RowL} (h : OwnW w base v l) : ∃ a k, v = .slice a l.length k ∧ l.length ≤ k ∧ k ≤ maxLen := by
  rcases h.2 with ⟨e, h⟩ | ⟨g, cap, cur, e, _, _, h1, h2, _⟩
  · exact ⟨none, 0, by rw [e, h], by omega, Nat.zero_le _⟩
  · exact ⟨_, _, e, h1, h2⟩
/-- 'append(out, rows...)' at a step of a region that draws. -/
theorem wp_pushesW {w : World} {o : Oper} {a : Act} {K : Act → World → Prop} {Q : Exit → Act → World → Prop} (s x : Operand)
    (ho : o.op = .call { callee := .builtin .append, args := #[s, x], argTypes := #[59, 59] })
    (base : Nat) (v u : Value) (l m : List RowL) (hs : a.eval s = v) (hown : OwnW w base v l) (hx : a.eval x = u) (hr : RbW w u m)
    (hl : l.length + m.length ≤ 1000000000000) (hbase : base ≤ w.heap.size)
    (h : ∀ v' w', OwnW w' base v' (l ++ m) → w.grownBy w' v.ownBlock → K (a.put o.dst v') w') : o.wp Tryd.prog a w K Q := by
  obtain ⟨i0, hi, hz0, hz1, hz2⟩ := info_parts infoW
  rcases hr with ⟨⟨a0, rfl⟩, rfl⟩ | ⟨b, off, cap, rfl, h1, h2, h3, h4⟩
  · cases a0 with
    | some ad =>
      refine wp_append_own w s x 59 ho base 57 i0 _ 3 40 Tryd.underlying59 hi hz0 hz1 hz2 rfl (by decide) v l.length (rv l) hs hown ad 0 0 [] hx rfl (fun j z hj => by simp at hj) (fun z hz => by simp at hz) ?_ ?_ hbase ?_
      · have : ([] : List RowL).length = 0 := rfl
        unfold maxLen; omega
      · have : ([] : List RowL).length = 0 := rfl
        omega
      · intro v' w' g1 g2 _
        refine h v' w' ?_ g2
        unfold OwnW
        rw [rv_append, List.length_append]
        exact g1
    | none =>
    have hrun := run_append_owned_none (P := Tryd.prog) (w := w) base 59 o.type 57 i0 3 Tryd.underlying59 hi v l.length (rv l) hown
    unfold Oper.wp
    simp [execOp, ho, resolve, invoke, builtin, hs, hx, hrun, Result.andThen]
    exact h v w (by rw [List.append_nil]; exact hown) ⟨rfl, rfl, rfl, Nat.le_refl _, fun _ _ _ => rfl⟩
  · refine wp_append_own w s x 59 ho base 57 i0 _ 3 40 Tryd.underlying59 hi hz0 hz1 hz2 rfl (by decide) v l.length (rv l) hs hown ⟨b, off, none⟩ m.length cap (rv m) hx (rv_len m) ?_ ?_ ?_ ?_ hbase ?_
    · intro j z hj
      obtain ⟨k, hk, ⟨rfl, rfl⟩ | ⟨rfl, rfl⟩ | ⟨rfl, rfl⟩⟩ := rv_three m j z hj
      · rw [Addr.add_lit, (h4 k hk).1]
      · rw [Addr.add_lit, ← Nat.add_assoc, (h4 k hk).2.1]
      · rw [Addr.add_lit, ← Nat.add_assoc, (h4 k hk).2.2]
    · exact rv_one m
    · unfold maxLen; omega
    · omega
    · intro v' w' g1 g2 _
      refine h v' w' ?_ g2
      unfold OwnW
      rw [rv_append, List.length_append]
      exact g1
theorem step_pushesW {w : World} {ops : Array Oper} {o : Oper} {a : Act} {K : Act → World → Prop} {Q : Exit → Act → World → Prop} {E : Prop} (hgd : o.guard = none) (s x : Operand)
    (ho : o.op = .call { callee := .builtin .append, args := #[s, x], argTypes := #[59, 59] })
    (base : Nat) (v u : Value) (l m : List RowL) (hs : a.eval s = v) (hown : OwnW w base v l) (hx : a.eval x = u) (hr : RbW w u m)
    (hl : l.length + m.length ≤ 1000000000000) (hbase : base ≤ w.heap.size)
    (h : ∀ v' w', OwnW w' base v' (l ++ m) → w.grownBy w' v.ownBlock → K (a.put o.dst v') w') : if Region.wanted o (yielded ops a.tmps) = true then Oper.wp Tryd.prog o a w K Q else E := by
  have hw : Region.wanted o (yielded ops a.tmps) = true := by simp [Region.wanted, hgd]
  rw [if_pos hw]
  exact wp_pushesW s x ho base v u l m hs hown hx hr hl hbase h
theorem rbW_one (f1 f2 : List UInt8) (how : Int) (n v : ByteArray) (hn : (⟨f1.toArray⟩ : ByteArray) = n) (hv : (⟨f2.toArray⟩ : ByteArray) = v) (W : World) : RbW (W.alloc (.cells #[.string n, .string v, .int .i64 how] 57)) (.slice (some ⟨W.heap.size, 0, none⟩) 1 1) [⟨(f1, f2), how⟩] := by
  have h : (W.alloc (.cells #[.string n, .string v, .int .i64 how] 57)).heap[W.heap.size]? = some (.cells #[.string n, .string v, .int .i64 how] 57 (0, 0)) := heap_alloc_new W _
  subst hn hv
  refine Or.inr ⟨W.heap.size, 0, 1, rfl, Nat.le_refl _, by simp [maxLen], by rw [World.size_alloc]; omega, fun i hi => ?_⟩
  have : i = 0 := by simp at hi; omega
  subst this
  refine ⟨?_, ?_, ?_⟩
  all_goals rw [cell_of_row _ _ _ _ _ (0, 0) h]; rfl
/-- A row more. -/
theorem RS.push {W0 w1 w2 : World} {B gu g gr : Nat} {vo0 vk vb : Value} {top list : Int} {s : US} {vr vo : Value} (h : RS W0 w1 B gu g gr vo0 vk vb top list s vr vo) (gw : w1.grownBy w2 vr.ownBlock) {v2 : Value} {l2 : List RowL} (o : OwnW w2 W0.heap.size v2 l2) :
    RS W0 (w2.setCell ⟨gr, 3, none⟩ v2) B gu g gr vo0 vk vb top list { s with rows := l2 } v2 vo := by
  obtain ⟨h1, h2, h3, h4, h5⟩ := h.apart
  have hc : Chg (fun k => vr.ownBlock = some k) w1 w2 := Chg.grown gw (fun k h => h)
  have hblk : ∀ k, vr.ownBlock = some k → W0.heap.size ≤ k ∧ ∃ cur, w1.heap[k]? = some (.cells cur 57 (0, 0)) := fun k hk => ⟨(World.ownsRow.lt h.rows k hk).1, h.rows.blk hk⟩
  have hgu : vr.ownBlock ≠ some gu := fun e => by
    obtain ⟨_, cur, h9⟩ := hblk gu e
    rw [h.x.un.p] at h9
    injection h9 with h9
    injection h9 with _ h9
    exact absurd h9 (by decide)
  have hg : vr.ownBlock ≠ some g := fun e => by
    obtain ⟨_, cur, h9⟩ := hblk g e
    rw [h.x.un.t.blk] at h9
    injection h9 with h9
    injection h9 with _ h9
    exact absurd h9 (by decide)
  have ho : ∀ k, vo.ownBlock = some k → ¬ vr.ownBlock = some k := fun k hk e => by
    obtain ⟨_, cur, h9⟩ := hblk k e
    obtain ⟨cur2, h8⟩ := h.x.un.t.own.blk hk
    rw [h8] at h9
    injection h9 with h9
    injection h9 with _ h9
    exact absurd h9 (by decide)
  have hk : ∀ k, vk.ownBlock = some k → ¬ vr.ownBlock = some k := fun k hk e => by
    obtain ⟨_, cur, h9⟩ := hblk k e
    obtain ⟨cur2, h8⟩ := h.x.un.t.kn.blk hk
    rw [h8] at h9
    injection h9 with h9
    injection h9 with _ h9
    exact absurd h9 (by decide)
  have hx : RX W0 w2 B gu g gr vo0 vk top list s.tab s.most vo := ⟨h.x.un.chg hc hgu hg ho hk, h.x.chg.trans hc (fun k hk => Or.inr (hblk k hk).1), h.x.ob⟩
  have hrd : RdB w2 gr gu vb s.at_ vr s.sum s.sizes := h.rd.chg hc h5
  have h6 : v2.ownBlock ≠ some gr := fun e => by
    obtain ⟨cur, h9⟩ := o.blk e
    have h8 : w2.heap[gr]? = _ := hrd
    rw [h8] at h9
    injection h9 with h9
    injection h9 with _ h9
    exact absurd h9 (by decide)
  exact ⟨hx.far (Or.inl rfl) ⟨h1, h2, h3, h4⟩ 3 _, hrd.put3 v2, o.chg (p := fun k => k = gr) ((Chg.refl _ w2).set gr 3 _ (Or.inl rfl)) (fun k hk e => h6 (by rw [hk, e])), h.grB⟩
theorem RS.putSum {W0 w : World} {B gu g gr : Nat} {vo0 vk vb : Value} {top list : Int} {s : US} {vr vo : Value} (h : RS W0 w B gu g gr vo0 vk vb top list s vr vo) (n : Nat) : RS W0 (w.setCell ⟨gr, 4, none⟩ (.int .i64 (n : Int))) B gu g gr vo0 vk vb top list { s with sum := n } vr vo := by
  obtain ⟨h1, h2, h3, h4, h5⟩ := h.apart
  exact ⟨h.x.far (Or.inl rfl) ⟨h1, h2, h3, h4⟩ 4 _, h.rd.put4 n, h.rows.chg (p := fun k => k = gr) ((Chg.refl _ w).set gr 4 _ (Or.inl rfl)) (fun k hk e => h5 (by rw [hk, e])), h.grB⟩
theorem RS.putSizes {W0 w : World} {B gu g gr : Nat} {vo0 vk vb : Value} {top list : Int} {s : US} {vr vo : Value} (h : RS W0 w B gu g gr vo0 vk vb top list s vr vo) (n : Nat) : RS W0 (w.setCell ⟨gr, 5, none⟩ (.int .i64 (n : Int))) B gu g gr vo0 vk vb top list { s with sizes := n } vr vo := by
  obtain ⟨h1, h2, h3, h4, h5⟩ := h.apart
  exact ⟨h.x.far (Or.inl rfl) ⟨h1, h2, h3, h4⟩ 5 _, h.rd.put5 n, h.rows.chg (p := fun k => k = gr) ((Chg.refl _ w).set gr 5 _ (Or.inl rfl)) (fun k hk e => h5 (by rw [hk, e])), h.grB⟩
/-- A row's end. -/
def RowPost (W0 : World) (B gu g gr : Nat) (vo0 vk vb : Value) (top list : Int) (s : US) (f : FieldL) (how : Int) (vo : Value) (e : Ending) (w' : World) : Prop :=
  (((s.sum + fsize f : Nat) : Int) ≤ list ∧ e = .returned (.tuple #[]) ∧ ∃ v2, RS W0 w' B gu g gr vo0 vk vb top list { s with rows := s.rows ++ [⟨f, how⟩], sum := s.sum + fsize f } v2 vo) ∨ (list < ((s.sum + fsize f : Nat) : Int) ∧ (∃ a : Int, e = .panicked [fltV 2 a]) ∧ RX W0 w' B gu g gr vo0 vk top list s.tab s.most vo)
set_option linter.unusedSimpArgs false in
set_option maxHeartbeats 16000000 in
set_option maxRecDepth 100000 in
theorem row_any {W0 w : World} {B gu g gr : Nat} {vo0 vk vb vr vo : Value} {top list : Int} {s : US} (h : RS W0 w B gu g gr vo0 vk vb top list s vr vo) (f : FieldL) (how : Int) (hs : s.sum ≤ 2147483647) (hf : fsize f ≤ 1000000) (hl : s.rows.length ≤ 10000000) :
    Calls Tryd.prog 82 #[.pointer (some ⟨gr, 0, none⟩), fieldV f, .int .i64 how] w fun e w' => RowPost W0 B gu g gr vo0 vk vb top list s f how vo e w' := by
  obtain ⟨f1, f2'⟩ := f
  have HBY := Lib.hid (fun w => bytes_any (f1, f2') (by omega) w)
  obtain ⟨n, hn⟩ : ∃ n, fsize (f1, f2') = n := ⟨_, rfl⟩
  rw [hn] at HBY hf
  unfold fieldV at HBY ⊢
  simp only at HBY ⊢
  obtain ⟨NB, hNB⟩ : ∃ B : ByteArray, (⟨f1.toArray⟩ : ByteArray) = B := ⟨_, rfl⟩
  obtain ⟨VB, hVB⟩ : ∃ B : ByteArray, (⟨f2'.toArray⟩ : ByteArray) = B := ⟨_, rfl⟩
  rw [hNB, hVB] at HBY ⊢
  have HNB := Lib.hid hNB
  have HVB := Lib.hid hVB
  have hal := (Aft.refl w).alloc (.cells #[.string NB, .string VB] 28)
  have H1 := Lib.hid (h.aft hal)
  have HF1 : Hid (FKB (w.alloc (.cells #[.string NB, .string VB] 28)) w.heap.size NB VB) := Lib.hid (heap_alloc_new w _)
  have HRN : Hid (w.heap.size ≠ gr ∧ vr.ownBlock ≠ some w.heap.size) := Lib.hid ⟨by have := h.rd.lt; omega, fun e => by have := (World.ownsRow.lt h.rows _ e).2; omega⟩
  have HSZ : Hid (W0.heap.size ≤ w.heap.size) := Lib.hid h.x.chg.size
  have HNN := Lib.hid hn
  have hw1 : (w.alloc (.cells #[.string NB, .string VB] 28)).heap.size = w.heap.size + 1 := World.size_alloc _ _
  have HW1 : Hid (W0.heap.size ≤ (w.alloc (.cells #[.string NB, .string VB] 28)).heap.size) := Lib.hid (by rw [hw1]; have := h.x.chg.size; omega)
  obtain ⟨ra, rk, hvr, -⟩ := h.rows.slice
  obtain ⟨at_, rows, sum, sizes, tab, most⟩ := s
  simp only at hvr hs hl
  have HL := Lib.hid hl
  obtain ⟨ln, hln⟩ : ∃ ln, rows.length = ln := ⟨_, rfl⟩
  rw [hln] at hvr
  subst hvr
  have HLN := Lib.hid hln
  unfold RowPost
  simp only
  rw [hn]
  have HPQ : Hid (list < ((sum + n : Nat) : Int) ∨ ((sum + n : Nat) : Int) ≤ list) := Lib.hid (by omega)
  have gsum : IntKind.i64.wrap ((sum : Int) + (n : Int)) = (sum : Int) + (n : Int) := IntWalk.i64_in _ (by omega)
  have HPS : Hid ((sum : Int) + (n : Int) = ((sum + n : Nat) : Int)) := Lib.hid (by omega)
  clear h hs hf hl hn hal hNB hVB hw1 hln
  go_enter Tryd.func82, Tryd.ntmps82
  go_upto_region 1 with fail
  generalize w.alloc (.cells #[.string NB, .string VB] 28) = W1 at H1 HF1 HW1 ⊢
  generalize w.heap.size = g4 at HF1 HRN HSZ ⊢
  have HD := Lib.hid (H1.out.aft ((Aft.refl W1).drew))
  have HF2 := Lib.hid (HF1.out.aft ((Aft.refl W1).drew))
  have HW2 : Hid (W0.heap.size ≤ W1.drew.heap.size) := Lib.hid HW1.out
  obtain ⟨c0, c1, c2, c3, c4, c5, fz⟩ := HD.out.rd.cells
  have f3 := fz 3
  obtain ⟨y0, y1, yf⟩ := HF2.out.cells
  clear c0 c1 c2 c4 c5 fz yf H1 HF1 HW1
  try simp only at c3
  refine wp_region_held_drew (S := fun _ => True) (by kernel_rfl) trivial (fun hHeld => ?_)
  generalize W1.drew = W8 at c3 f3 y0 y1 HD HF2 HW2 ⊢
  refine wpAnyH_take (i := 0) (oi := { dst := some 6, op := Go.Op.move (Go.Operand.tmp 0), type := 107, pos := _, after := _, guard := _ }) (v := ?_) rfl (by kernel_rfl) (by kernel_rfl) (by kernel_rfl) (fun _ _ _ h => h) (Or.inl ⟨by rfl, ?_⟩) trivial ?_
  rotate_left
  · intro w hSw; go_simp; try with_reducible rfl
  try simp only [Act.put]
  try simp only [List.setIfInBounds_toArray]
  try simp only [List.set]
  refine wpAnyH_take (i := 1) (oi := { dst := some 7, op := Go.Op.move (Go.Operand.tmp 0), type := 107, pos := _, after := _, guard := _ }) (v := ?_) rfl (by kernel_rfl) (by kernel_rfl) (by kernel_rfl) (fun _ _ _ h => h) (Or.inl ⟨by rfl, ?_⟩) trivial ?_
  rotate_left
  · intro w hSw; go_simp; try with_reducible rfl
  try simp only [Act.put]
  try simp only [List.setIfInBounds_toArray]
  try simp only [List.set]
  refine wpAnyH_take (i := 2) (oi := { dst := some 8, op := Go.Op.nilCheck (Go.Operand.tmp 7), type := 0, pos := _, after := _, guard := _ }) (v := ?_) rfl (by kernel_rfl) (by kernel_rfl) (by kernel_rfl) (fun _ _ _ h => h) (Or.inl ⟨by rfl, ?_⟩) trivial ?_
  rotate_left
  · intro w hSw; go_simp; try with_reducible rfl
  try simp only [Act.put]
  try simp only [List.setIfInBounds_toArray]
  try simp only [List.set]
  refine wpAnyH_take (i := 3) (oi := { dst := some 9, op := Go.Op.fieldAddr 109 (Go.Operand.tmp 8) 3, type := 0, pos := _, after := _, guard := _ }) (v := ?_) rfl (by kernel_rfl) (by kernel_rfl) (by kernel_rfl) (fun _ _ _ h => h) (Or.inl ⟨by rfl, ?_⟩) trivial ?_
  rotate_left
  · intro w hSw; go_simp; try with_reducible rfl
  try simp only [Act.put]
  try simp only [List.setIfInBounds_toArray]
  try simp only [List.set]
  refine wpAnyH_take (i := 6) (oi := { dst := some 12, op := Go.Op.move (Go.Operand.tmp 2), type := 3, pos := _, after := _, guard := _ }) (v := ?_) rfl (by kernel_rfl) (by kernel_rfl) (by kernel_rfl) (fun _ _ _ h => h) (Or.inl ⟨by rfl, ?_⟩) trivial ?_
  rotate_left
  · intro w hSw; go_simp; try with_reducible rfl
  try simp only [Act.put]
  try simp only [List.setIfInBounds_toArray]
  try simp only [List.set]
  refine wpAnyH_ready (rs := [4, 5]) (by kernel_rfl) (by simp) ?_
  refine (AllReadyH.cons (o := { dst := some 10, op := Go.Op.load 59 (Go.Operand.tmp 9), type := 59, pos := _, after := _, guard := _ }) rfl (fun K hK => ?_) (AllReadyH.cons (o := { dst := some 11, op := Go.Op.load 28 (Go.Operand.tmp 4), type := 28, pos := _, after := _, guard := _ }) rfl (fun K hK => ?_) AllReadyH.nil))
  focus
    go_simp
    skip
    refine hK.out _ _ trivial (fun hHeld => ?_)
    clear hK K
    try simp only [Act.put]
    try simp only [List.setIfInBounds_toArray]
    try simp only [List.set]
    refine wpAnyH_ready (rs := [5]) (by kernel_rfl) (by simp) ?_
    refine (AllReadyH.cons (o := { dst := some 11, op := Go.Op.load 28 (Go.Operand.tmp 4), type := 28, pos := _, after := _, guard := _ }) rfl (fun K hK => ?_) AllReadyH.nil)
    go_simp
    skip
    refine hK.out _ _ trivial (fun hHeld => ?_)
    clear hK K
    try simp only [Act.put]
    try simp only [List.setIfInBounds_toArray]
    try simp only [List.set]
    refine wpAnyH_take (i := 7) (oi := { dst := some 13, op := Go.Op.build 57 #[(0, Go.Operand.tmp 11), (1, Go.Operand.tmp 12)], type := 57, pos := _, after := _, guard := _ }) (v := ?_) rfl (by kernel_rfl) (by kernel_rfl) (by kernel_rfl) (fun _ _ _ h => h) (Or.inl ⟨by rfl, ?_⟩) trivial ?_
    rotate_left
    · intro w hSw; go_simp; try with_reducible rfl
    try simp only [Act.put]
    try simp only [List.setIfInBounds_toArray]
    try simp only [List.set]
    refine wpAnyH_ready (rs := [8]) (by kernel_rfl) (by simp) ?_
    refine (AllReadyH.cons (o := { dst := some 14, op := Go.Op.buildSlice 59 1 #[(0, Go.Operand.tmp 13)], type := 59, pos := _, after := _, guard := _ }) rfl (fun K hK => ?_) AllReadyH.nil)
    go_simp
    have a8 := (Aft.refl W8).alloc (.cells #[.string NB, .string VB, .int .i64 how] 57)
    have HD8 := Lib.hid (HD.out.aft a8)
    have HF8 := Lib.hid (HF2.out.aft a8)
    have HB8 : Hid (W0.heap.size ≤ (W8.alloc (.cells #[.string NB, .string VB, .int .i64 how] 57)).heap.size) := Lib.hid (by rw [World.size_alloc]; have := HW2.out; omega)
    clear c3 f3 y0 y1 a8
    obtain ⟨-, -, -, c3, -, -, fz⟩ := HD8.out.rd.cells
    have f3 := fz 3
    clear fz
    try simp only at c3
    refine hK.out _ _ trivial (fun hHeld => ?_)
    clear hK K
    try simp only [Act.put]
    try simp only [List.setIfInBounds_toArray]
    try simp only [List.set]
    refine wpAnyH_ready (rs := [9]) (by kernel_rfl) (by simp) ?_
    refine (AllReadyH.cons (o := { dst := some 15, op := Go.Op.call { callee := Go.Callee.builtin Go.Builtin.append, args := #[Go.Operand.tmp 10, Go.Operand.tmp 14], argTypes := #[59, 59] }, type := 59, pos := _, after := _, guard := _ }) rfl (fun K hK => ?_) AllReadyH.nil)
    refine step_pushesW rfl (.tmp 10) (.tmp 14) rfl W0.heap.size _ _ rows [⟨(f1, f2'), how⟩] rfl (by have := HD8.out.rows; exact this) rfl (rbW_one f1 f2' how NB VB HNB.out HVB.out W8) (by have := HL.out; simp; omega) HB8.out ?_
    intro v18 w18 o18 g18
    have HF18 := Lib.hid (HF8.out.chg (Chg.grown (p := fun k => (Value.slice ra ln rk).ownBlock = some k) g18 (fun k h => h)) HRN.out.2)
    obtain ⟨a18, k18, hv18, -⟩ := o18.slice
    rw [List.length_append, HLN.out] at hv18
    have hv18' : v18 = .slice a18 (ln + 1) k18 := hv18
    clear hv18
    subst hv18'
    have fzz : w18.frozen? ⟨gr, 3, none⟩ = false := by { have hb := HD8.out.rd.chg (Chg.grown (p := fun k => (Value.slice ra ln rk).ownBlock = some k) g18 (fun k h => h)) HD8.out.apart.2.2.2.2; exact hb.cells.2.2.2.2.2.2 3 }
    have cz : (w18.cell? ⟨gr, 3, none⟩).isSome = true := by { have hb := HD8.out.rd.chg (Chg.grown (p := fun k => (Value.slice ra ln rk).ownBlock = some k) g18 (fun k h => h)) HD8.out.apart.2.2.2.2; rw [hb.cells.2.2.2.1]; rfl }
    have c3x : w18.cell? ⟨gr, 3, none⟩ = some (.slice ra ln rk) := by { have hb := HD8.out.rd.chg (Chg.grown (p := fun k => (Value.slice ra ln rk).ownBlock = some k) g18 (fun k h => h)) HD8.out.apart.2.2.2.2; exact hb.cells.2.2.2.1 }
    have HO18 := Lib.hid o18
    have HG18 := Lib.hid g18
    clear o18 g18 c3 f3 cz
    refine hK.out _ _ trivial (fun hHeld => ?_)
    clear hK K
    try simp only [Act.put]
    try simp only [List.setIfInBounds_toArray]
    try simp only [List.set]
    refine wpAnyH_take (i := 10) (oi := { dst := some 16, op := Go.Op.nilCheck (Go.Operand.tmp 6), type := 0, pos := _, after := _, guard := _ }) (v := ?_) rfl (by kernel_rfl) (by kernel_rfl) (by kernel_rfl) (fun _ _ _ h => h) (Or.inl ⟨by rfl, ?_⟩) trivial ?_
    rotate_left
    · intro w hSw; go_simp; try with_reducible rfl
    try simp only [Act.put]
    try simp only [List.setIfInBounds_toArray]
    try simp only [List.set]
    refine wpAnyH_take (i := 11) (oi := { dst := some 17, op := Go.Op.fieldAddr 109 (Go.Operand.tmp 16) 3, type := 0, pos := _, after := _, guard := _ }) (v := ?_) rfl (by kernel_rfl) (by kernel_rfl) (by kernel_rfl) (fun _ _ _ h => h) (Or.inl ⟨by rfl, ?_⟩) trivial ?_
    rotate_left
    · intro w hSw; go_simp; try with_reducible rfl
    try simp only [Act.put]
    try simp only [List.setIfInBounds_toArray]
    try simp only [List.set]
    refine wpAnyH_ready (rs := [12]) (by kernel_rfl) (by simp) ?_
    refine (AllReadyH.cons (o := { dst := none, op := Go.Op.store 59 (Go.Operand.tmp 17) (Go.Operand.tmp 15), type := 0, pos := _, after := _, guard := _ }) rfl (fun K hK => ?_) AllReadyH.nil)
    go_simp
    have HR19 := Lib.hid (HD8.out.push HG18.out HO18.out)
    have HF19 := Lib.hid (HF18.out.far (fun e => HRN.out.1 e.symm) 3 (.slice a18 (ln + 1) k18))
    clear fzz c3x
    refine hK.out _ _ trivial (fun hHeld => ?_)
    clear hK K
    try simp only [Act.put]
    try simp only [List.setIfInBounds_toArray]
    try simp only [List.set]
    refine wpAnyH_done (by kernel_rfl) ?_ _
  rotate_left 1
  focus
    go_simp
    skip
    refine hK.out _ _ trivial (fun hHeld => ?_)
    clear hK K
    try simp only [Act.put]
    try simp only [List.setIfInBounds_toArray]
    try simp only [List.set]
    refine wpAnyH_take (i := 7) (oi := { dst := some 13, op := Go.Op.build 57 #[(0, Go.Operand.tmp 11), (1, Go.Operand.tmp 12)], type := 57, pos := _, after := _, guard := _ }) (v := ?_) rfl (by kernel_rfl) (by kernel_rfl) (by kernel_rfl) (fun _ _ _ h => h) (Or.inl ⟨by rfl, ?_⟩) trivial ?_
    rotate_left
    · intro w hSw; go_simp; try with_reducible rfl
    try simp only [Act.put]
    try simp only [List.setIfInBounds_toArray]
    try simp only [List.set]
    refine wpAnyH_ready (rs := [4, 8]) (by kernel_rfl) (by simp) ?_
    refine (AllReadyH.cons (o := { dst := some 10, op := Go.Op.load 59 (Go.Operand.tmp 9), type := 59, pos := _, after := _, guard := _ }) rfl (fun K hK => ?_) (AllReadyH.cons (o := { dst := some 14, op := Go.Op.buildSlice 59 1 #[(0, Go.Operand.tmp 13)], type := 59, pos := _, after := _, guard := _ }) rfl (fun K hK => ?_) AllReadyH.nil))
    focus
      go_simp
      skip
      refine hK.out _ _ trivial (fun hHeld => ?_)
      clear hK K
      try simp only [Act.put]
      try simp only [List.setIfInBounds_toArray]
      try simp only [List.set]
      refine wpAnyH_ready (rs := [8]) (by kernel_rfl) (by simp) ?_
      refine (AllReadyH.cons (o := { dst := some 14, op := Go.Op.buildSlice 59 1 #[(0, Go.Operand.tmp 13)], type := 59, pos := _, after := _, guard := _ }) rfl (fun K hK => ?_) AllReadyH.nil)
      go_simp
      have a8 := (Aft.refl W8).alloc (.cells #[.string NB, .string VB, .int .i64 how] 57)
      have HD8 := Lib.hid (HD.out.aft a8)
      have HF8 := Lib.hid (HF2.out.aft a8)
      have HB8 : Hid (W0.heap.size ≤ (W8.alloc (.cells #[.string NB, .string VB, .int .i64 how] 57)).heap.size) := Lib.hid (by rw [World.size_alloc]; have := HW2.out; omega)
      clear c3 f3 y0 y1 a8
      obtain ⟨-, -, -, c3, -, -, fz⟩ := HD8.out.rd.cells
      have f3 := fz 3
      clear fz
      try simp only at c3
      refine hK.out _ _ trivial (fun hHeld => ?_)
      clear hK K
      try simp only [Act.put]
      try simp only [List.setIfInBounds_toArray]
      try simp only [List.set]
      refine wpAnyH_ready (rs := [9]) (by kernel_rfl) (by simp) ?_
      refine (AllReadyH.cons (o := { dst := some 15, op := Go.Op.call { callee := Go.Callee.builtin Go.Builtin.append, args := #[Go.Operand.tmp 10, Go.Operand.tmp 14], argTypes := #[59, 59] }, type := 59, pos := _, after := _, guard := _ }) rfl (fun K hK => ?_) AllReadyH.nil)
      refine step_pushesW rfl (.tmp 10) (.tmp 14) rfl W0.heap.size _ _ rows [⟨(f1, f2'), how⟩] rfl (by have := HD8.out.rows; exact this) rfl (rbW_one f1 f2' how NB VB HNB.out HVB.out W8) (by have := HL.out; simp; omega) HB8.out ?_
      intro v18 w18 o18 g18
      have HF18 := Lib.hid (HF8.out.chg (Chg.grown (p := fun k => (Value.slice ra ln rk).ownBlock = some k) g18 (fun k h => h)) HRN.out.2)
      obtain ⟨a18, k18, hv18, -⟩ := o18.slice
      rw [List.length_append, HLN.out] at hv18
      have hv18' : v18 = .slice a18 (ln + 1) k18 := hv18
      clear hv18
      subst hv18'
      have fzz : w18.frozen? ⟨gr, 3, none⟩ = false := by { have hb := HD8.out.rd.chg (Chg.grown (p := fun k => (Value.slice ra ln rk).ownBlock = some k) g18 (fun k h => h)) HD8.out.apart.2.2.2.2; exact hb.cells.2.2.2.2.2.2 3 }
      have cz : (w18.cell? ⟨gr, 3, none⟩).isSome = true := by { have hb := HD8.out.rd.chg (Chg.grown (p := fun k => (Value.slice ra ln rk).ownBlock = some k) g18 (fun k h => h)) HD8.out.apart.2.2.2.2; rw [hb.cells.2.2.2.1]; rfl }
      have c3x : w18.cell? ⟨gr, 3, none⟩ = some (.slice ra ln rk) := by { have hb := HD8.out.rd.chg (Chg.grown (p := fun k => (Value.slice ra ln rk).ownBlock = some k) g18 (fun k h => h)) HD8.out.apart.2.2.2.2; exact hb.cells.2.2.2.1 }
      have HO18 := Lib.hid o18
      have HG18 := Lib.hid g18
      clear o18 g18 c3 f3 cz
      refine hK.out _ _ trivial (fun hHeld => ?_)
      clear hK K
      try simp only [Act.put]
      try simp only [List.setIfInBounds_toArray]
      try simp only [List.set]
      refine wpAnyH_take (i := 10) (oi := { dst := some 16, op := Go.Op.nilCheck (Go.Operand.tmp 6), type := 0, pos := _, after := _, guard := _ }) (v := ?_) rfl (by kernel_rfl) (by kernel_rfl) (by kernel_rfl) (fun _ _ _ h => h) (Or.inl ⟨by rfl, ?_⟩) trivial ?_
      rotate_left
      · intro w hSw; go_simp; try with_reducible rfl
      try simp only [Act.put]
      try simp only [List.setIfInBounds_toArray]
      try simp only [List.set]
      refine wpAnyH_take (i := 11) (oi := { dst := some 17, op := Go.Op.fieldAddr 109 (Go.Operand.tmp 16) 3, type := 0, pos := _, after := _, guard := _ }) (v := ?_) rfl (by kernel_rfl) (by kernel_rfl) (by kernel_rfl) (fun _ _ _ h => h) (Or.inl ⟨by rfl, ?_⟩) trivial ?_
      rotate_left
      · intro w hSw; go_simp; try with_reducible rfl
      try simp only [Act.put]
      try simp only [List.setIfInBounds_toArray]
      try simp only [List.set]
      refine wpAnyH_ready (rs := [12]) (by kernel_rfl) (by simp) ?_
      refine (AllReadyH.cons (o := { dst := none, op := Go.Op.store 59 (Go.Operand.tmp 17) (Go.Operand.tmp 15), type := 0, pos := _, after := _, guard := _ }) rfl (fun K hK => ?_) AllReadyH.nil)
      go_simp
      have HR19 := Lib.hid (HD8.out.push HG18.out HO18.out)
      have HF19 := Lib.hid (HF18.out.far (fun e => HRN.out.1 e.symm) 3 (.slice a18 (ln + 1) k18))
      clear fzz c3x
      refine hK.out _ _ trivial (fun hHeld => ?_)
      clear hK K
      try simp only [Act.put]
      try simp only [List.setIfInBounds_toArray]
      try simp only [List.set]
      refine wpAnyH_done (by kernel_rfl) ?_ _
    rotate_left 1
    focus
      go_simp
      have a8 := (Aft.refl W8).alloc (.cells #[.string NB, .string VB, .int .i64 how] 57)
      have HD8 := Lib.hid (HD.out.aft a8)
      have HF8 := Lib.hid (HF2.out.aft a8)
      have HB8 : Hid (W0.heap.size ≤ (W8.alloc (.cells #[.string NB, .string VB, .int .i64 how] 57)).heap.size) := Lib.hid (by rw [World.size_alloc]; have := HW2.out; omega)
      clear c3 f3 y0 y1 a8
      obtain ⟨-, -, -, c3, -, -, fz⟩ := HD8.out.rd.cells
      have f3 := fz 3
      clear fz
      try simp only at c3
      refine hK.out _ _ trivial (fun hHeld => ?_)
      clear hK K
      try simp only [Act.put]
      try simp only [List.setIfInBounds_toArray]
      try simp only [List.set]
      refine wpAnyH_ready (rs := [4]) (by kernel_rfl) (by simp) ?_
      refine (AllReadyH.cons (o := { dst := some 10, op := Go.Op.load 59 (Go.Operand.tmp 9), type := 59, pos := _, after := _, guard := _ }) rfl (fun K hK => ?_) AllReadyH.nil)
      go_simp
      skip
      refine hK.out _ _ trivial (fun hHeld => ?_)
      clear hK K
      try simp only [Act.put]
      try simp only [List.setIfInBounds_toArray]
      try simp only [List.set]
      refine wpAnyH_ready (rs := [9]) (by kernel_rfl) (by simp) ?_
      refine (AllReadyH.cons (o := { dst := some 15, op := Go.Op.call { callee := Go.Callee.builtin Go.Builtin.append, args := #[Go.Operand.tmp 10, Go.Operand.tmp 14], argTypes := #[59, 59] }, type := 59, pos := _, after := _, guard := _ }) rfl (fun K hK => ?_) AllReadyH.nil)
      refine step_pushesW rfl (.tmp 10) (.tmp 14) rfl W0.heap.size _ _ rows [⟨(f1, f2'), how⟩] rfl (by have := HD8.out.rows; exact this) rfl (rbW_one f1 f2' how NB VB HNB.out HVB.out W8) (by have := HL.out; simp; omega) HB8.out ?_
      intro v18 w18 o18 g18
      have HF18 := Lib.hid (HF8.out.chg (Chg.grown (p := fun k => (Value.slice ra ln rk).ownBlock = some k) g18 (fun k h => h)) HRN.out.2)
      obtain ⟨a18, k18, hv18, -⟩ := o18.slice
      rw [List.length_append, HLN.out] at hv18
      have hv18' : v18 = .slice a18 (ln + 1) k18 := hv18
      clear hv18
      subst hv18'
      have fzz : w18.frozen? ⟨gr, 3, none⟩ = false := by { have hb := HD8.out.rd.chg (Chg.grown (p := fun k => (Value.slice ra ln rk).ownBlock = some k) g18 (fun k h => h)) HD8.out.apart.2.2.2.2; exact hb.cells.2.2.2.2.2.2 3 }
      have cz : (w18.cell? ⟨gr, 3, none⟩).isSome = true := by { have hb := HD8.out.rd.chg (Chg.grown (p := fun k => (Value.slice ra ln rk).ownBlock = some k) g18 (fun k h => h)) HD8.out.apart.2.2.2.2; rw [hb.cells.2.2.2.1]; rfl }
      have c3x : w18.cell? ⟨gr, 3, none⟩ = some (.slice ra ln rk) := by { have hb := HD8.out.rd.chg (Chg.grown (p := fun k => (Value.slice ra ln rk).ownBlock = some k) g18 (fun k h => h)) HD8.out.apart.2.2.2.2; exact hb.cells.2.2.2.1 }
      have HO18 := Lib.hid o18
      have HG18 := Lib.hid g18
      clear o18 g18 c3 f3 cz
      refine hK.out _ _ trivial (fun hHeld => ?_)
      clear hK K
      try simp only [Act.put]
      try simp only [List.setIfInBounds_toArray]
      try simp only [List.set]
      refine wpAnyH_take (i := 10) (oi := { dst := some 16, op := Go.Op.nilCheck (Go.Operand.tmp 6), type := 0, pos := _, after := _, guard := _ }) (v := ?_) rfl (by kernel_rfl) (by kernel_rfl) (by kernel_rfl) (fun _ _ _ h => h) (Or.inl ⟨by rfl, ?_⟩) trivial ?_
      rotate_left
      · intro w hSw; go_simp; try with_reducible rfl
      try simp only [Act.put]
      try simp only [List.setIfInBounds_toArray]
      try simp only [List.set]
      refine wpAnyH_take (i := 11) (oi := { dst := some 17, op := Go.Op.fieldAddr 109 (Go.Operand.tmp 16) 3, type := 0, pos := _, after := _, guard := _ }) (v := ?_) rfl (by kernel_rfl) (by kernel_rfl) (by kernel_rfl) (fun _ _ _ h => h) (Or.inl ⟨by rfl, ?_⟩) trivial ?_
      rotate_left
      · intro w hSw; go_simp; try with_reducible rfl
      try simp only [Act.put]
      try simp only [List.setIfInBounds_toArray]
      try simp only [List.set]
      refine wpAnyH_ready (rs := [12]) (by kernel_rfl) (by simp) ?_
      refine (AllReadyH.cons (o := { dst := none, op := Go.Op.store 59 (Go.Operand.tmp 17) (Go.Operand.tmp 15), type := 0, pos := _, after := _, guard := _ }) rfl (fun K hK => ?_) AllReadyH.nil)
      go_simp
      have HR19 := Lib.hid (HD8.out.push HG18.out HO18.out)
      have HF19 := Lib.hid (HF18.out.far (fun e => HRN.out.1 e.symm) 3 (.slice a18 (ln + 1) k18))
      clear fzz c3x
      refine hK.out _ _ trivial (fun hHeld => ?_)
      clear hK K
      try simp only [Act.put]
      try simp only [List.setIfInBounds_toArray]
      try simp only [List.set]
      refine wpAnyH_done (by kernel_rfl) ?_ _
    rotate_left 1
  rotate_left 2
  all_goals
    clear HD HF2 HW2 HD8 HF8 HB8 HF18 HO18 HG18
    generalize w18.setCell ⟨gr, 3, none⟩ (.slice a18 (ln + 1) k18) = W19 at HR19 HF19 ⊢
    go_upto_region 2 with fail
    have HD := Lib.hid (HR19.out.aft ((Aft.refl W19).drew))
    have HF2 := Lib.hid (HF19.out.aft ((Aft.refl W19).drew))
    obtain ⟨c0, c1, c2, c3, c4, c5, fz⟩ := HD.out.rd.cells
    have f4 := fz 4
    obtain ⟨y0, y1, yf⟩ := HF2.out.cells
    clear c0 c1 c2 c3 c5 fz yf HR19 HF19
    try simp only at c4
    refine wp_region_held_drew (S := fun _ => True) (by kernel_rfl) trivial (fun hHeld => ?_)
    generalize W19.drew = W20 at c4 f4 y0 y1 HD HF2 ⊢
    refine wpAnyH_take (i := 0) (oi := { dst := some 18, op := Go.Op.move (Go.Operand.tmp 0), type := 107, pos := _, after := _, guard := _ }) (v := ?_) rfl (by kernel_rfl) (by kernel_rfl) (by kernel_rfl) (fun _ _ _ h => h) (Or.inl ⟨by rfl, ?_⟩) trivial ?_
    rotate_left
    · intro w hSw; go_simp; try with_reducible rfl
    try simp only [Act.put]
    try simp only [List.setIfInBounds_toArray]
    try simp only [List.set]
    refine wpAnyH_take (i := 1) (oi := { dst := some 19, op := Go.Op.nilCheck (Go.Operand.tmp 18), type := 0, pos := _, after := _, guard := _ }) (v := ?_) rfl (by kernel_rfl) (by kernel_rfl) (by kernel_rfl) (fun _ _ _ h => h) (Or.inl ⟨by rfl, ?_⟩) trivial ?_
    rotate_left
    · intro w hSw; go_simp; try with_reducible rfl
    try simp only [Act.put]
    try simp only [List.setIfInBounds_toArray]
    try simp only [List.set]
    refine wpAnyH_take (i := 2) (oi := { dst := some 20, op := Go.Op.fieldAddr 109 (Go.Operand.tmp 19) 4, type := 0, pos := _, after := _, guard := _ }) (v := ?_) rfl (by kernel_rfl) (by kernel_rfl) (by kernel_rfl) (fun _ _ _ h => h) (Or.inl ⟨by rfl, ?_⟩) trivial ?_
    rotate_left
    · intro w hSw; go_simp; try with_reducible rfl
    try simp only [Act.put]
    try simp only [List.setIfInBounds_toArray]
    try simp only [List.set]
    refine wpAnyH_ready (rs := [3, 4]) (by kernel_rfl) (by simp) ?_
    refine (AllReadyH.cons (o := { dst := some 21, op := Go.Op.load 3 (Go.Operand.tmp 20), type := 3, pos := _, after := _, guard := _ }) rfl (fun K hK => ?_) (AllReadyH.cons (o := { dst := some 22, op := Go.Op.load 28 (Go.Operand.tmp 4), type := 28, pos := _, after := _, guard := _ }) rfl (fun K hK => ?_) AllReadyH.nil))
    focus
      go_simp
      skip
      refine hK.out _ _ trivial (fun hHeld => ?_)
      clear hK K
      try simp only [Act.put]
      try simp only [List.setIfInBounds_toArray]
      try simp only [List.set]
      refine wpAnyH_ready (rs := [4]) (by kernel_rfl) (by simp) ?_
      refine (AllReadyH.cons (o := { dst := some 22, op := Go.Op.load 28 (Go.Operand.tmp 4), type := 28, pos := _, after := _, guard := _ }) rfl (fun K hK => ?_) AllReadyH.nil)
      go_simp
      skip
      refine hK.out _ _ trivial (fun hHeld => ?_)
      clear hK K
      try simp only [Act.put]
      try simp only [List.setIfInBounds_toArray]
      try simp only [List.set]
      refine wpAnyH_ready (rs := [5]) (by kernel_rfl) (by simp) ?_
      refine (AllReadyH.cons (o := { dst := some 23, op := Go.Op.call { callee := Go.Callee.value (Go.Operand.func 58), args := #[Go.Operand.tmp 22], argTypes := #[28] }, type := 3, pos := _, after := _, guard := _ }) rfl (fun K hK => ?_) AllReadyH.nil)
      go_simp
      go_at_call 58
      refine (HBY.out _).mono ?_
      rintro e w21 ⟨rfl, a21⟩
      have HD21 := Lib.hid (HD.out.aft a21)
      clear a21 c4 f4 y0 y1
      obtain ⟨-, -, -, -, c4, -, fz⟩ := HD21.out.rd.cells
      have f4 := fz 4
      clear fz
      try simp only at c4
      refine hK.out _ _ trivial (fun hHeld => ?_)
      clear hK K
      try simp only [Act.put]
      try simp only [List.setIfInBounds_toArray]
      try simp only [List.set]
      refine wpAnyH_take (i := 6) (oi := { dst := some 24, op := Go.Op.binOp Go.BinOp.add 3 (Go.Operand.tmp 21) (Go.Operand.tmp 23) 3, type := 3, pos := _, after := _, guard := _ }) (v := ?_) rfl (by kernel_rfl) (by kernel_rfl) (by kernel_rfl) (fun _ _ _ h => h) (Or.inl ⟨by rfl, ?_⟩) trivial ?_
      rotate_left
      · intro w hSw; go_simp; try with_reducible rfl
      try simp only [Act.put]
      try simp only [List.setIfInBounds_toArray]
      try simp only [List.set]
      refine wpAnyH_take (i := 7) (oi := { dst := some 25, op := Go.Op.nilCheck (Go.Operand.tmp 18), type := 0, pos := _, after := _, guard := _ }) (v := ?_) rfl (by kernel_rfl) (by kernel_rfl) (by kernel_rfl) (fun _ _ _ h => h) (Or.inl ⟨by rfl, ?_⟩) trivial ?_
      rotate_left
      · intro w hSw; go_simp; try with_reducible rfl
      try simp only [Act.put]
      try simp only [List.setIfInBounds_toArray]
      try simp only [List.set]
      refine wpAnyH_take (i := 8) (oi := { dst := some 26, op := Go.Op.fieldAddr 109 (Go.Operand.tmp 25) 4, type := 0, pos := _, after := _, guard := _ }) (v := ?_) rfl (by kernel_rfl) (by kernel_rfl) (by kernel_rfl) (fun _ _ _ h => h) (Or.inl ⟨by rfl, ?_⟩) trivial ?_
      rotate_left
      · intro w hSw; go_simp; try with_reducible rfl
      try simp only [Act.put]
      try simp only [List.setIfInBounds_toArray]
      try simp only [List.set]
      refine wpAnyH_ready (rs := [9]) (by kernel_rfl) (by simp) ?_
      refine (AllReadyH.cons (o := { dst := none, op := Go.Op.store 3 (Go.Operand.tmp 26) (Go.Operand.tmp 24), type := 0, pos := _, after := _, guard := _ }) rfl (fun K hK => ?_) AllReadyH.nil)
      go_simp
      have HR22 := Lib.hid (HD21.out.putSum (sum + n))
      rw [← HPS.out] at HR22
      clear c4 f4
      refine hK.out _ _ trivial (fun hHeld => ?_)
      clear hK K
      try simp only [Act.put]
      try simp only [List.setIfInBounds_toArray]
      try simp only [List.set]
      refine wpAnyH_done (by kernel_rfl) ?_ _
    rotate_left 1
    focus
      go_simp
      skip
      refine hK.out _ _ trivial (fun hHeld => ?_)
      clear hK K
      try simp only [Act.put]
      try simp only [List.setIfInBounds_toArray]
      try simp only [List.set]
      refine wpAnyH_ready (rs := [3, 5]) (by kernel_rfl) (by simp) ?_
      refine (AllReadyH.cons (o := { dst := some 21, op := Go.Op.load 3 (Go.Operand.tmp 20), type := 3, pos := _, after := _, guard := _ }) rfl (fun K hK => ?_) (AllReadyH.cons (o := { dst := some 23, op := Go.Op.call { callee := Go.Callee.value (Go.Operand.func 58), args := #[Go.Operand.tmp 22], argTypes := #[28] }, type := 3, pos := _, after := _, guard := _ }) rfl (fun K hK => ?_) AllReadyH.nil))
      focus
        go_simp
        skip
        refine hK.out _ _ trivial (fun hHeld => ?_)
        clear hK K
        try simp only [Act.put]
        try simp only [List.setIfInBounds_toArray]
        try simp only [List.set]
        refine wpAnyH_ready (rs := [5]) (by kernel_rfl) (by simp) ?_
        refine (AllReadyH.cons (o := { dst := some 23, op := Go.Op.call { callee := Go.Callee.value (Go.Operand.func 58), args := #[Go.Operand.tmp 22], argTypes := #[28] }, type := 3, pos := _, after := _, guard := _ }) rfl (fun K hK => ?_) AllReadyH.nil)
        go_simp
        go_at_call 58
        refine (HBY.out _).mono ?_
        rintro e w21 ⟨rfl, a21⟩
        have HD21 := Lib.hid (HD.out.aft a21)
        clear a21 c4 f4 y0 y1
        obtain ⟨-, -, -, -, c4, -, fz⟩ := HD21.out.rd.cells
        have f4 := fz 4
        clear fz
        try simp only at c4
        refine hK.out _ _ trivial (fun hHeld => ?_)
        clear hK K
        try simp only [Act.put]
        try simp only [List.setIfInBounds_toArray]
        try simp only [List.set]
        refine wpAnyH_take (i := 6) (oi := { dst := some 24, op := Go.Op.binOp Go.BinOp.add 3 (Go.Operand.tmp 21) (Go.Operand.tmp 23) 3, type := 3, pos := _, after := _, guard := _ }) (v := ?_) rfl (by kernel_rfl) (by kernel_rfl) (by kernel_rfl) (fun _ _ _ h => h) (Or.inl ⟨by rfl, ?_⟩) trivial ?_
        rotate_left
        · intro w hSw; go_simp; try with_reducible rfl
        try simp only [Act.put]
        try simp only [List.setIfInBounds_toArray]
        try simp only [List.set]
        refine wpAnyH_take (i := 7) (oi := { dst := some 25, op := Go.Op.nilCheck (Go.Operand.tmp 18), type := 0, pos := _, after := _, guard := _ }) (v := ?_) rfl (by kernel_rfl) (by kernel_rfl) (by kernel_rfl) (fun _ _ _ h => h) (Or.inl ⟨by rfl, ?_⟩) trivial ?_
        rotate_left
        · intro w hSw; go_simp; try with_reducible rfl
        try simp only [Act.put]
        try simp only [List.setIfInBounds_toArray]
        try simp only [List.set]
        refine wpAnyH_take (i := 8) (oi := { dst := some 26, op := Go.Op.fieldAddr 109 (Go.Operand.tmp 25) 4, type := 0, pos := _, after := _, guard := _ }) (v := ?_) rfl (by kernel_rfl) (by kernel_rfl) (by kernel_rfl) (fun _ _ _ h => h) (Or.inl ⟨by rfl, ?_⟩) trivial ?_
        rotate_left
        · intro w hSw; go_simp; try with_reducible rfl
        try simp only [Act.put]
        try simp only [List.setIfInBounds_toArray]
        try simp only [List.set]
        refine wpAnyH_ready (rs := [9]) (by kernel_rfl) (by simp) ?_
        refine (AllReadyH.cons (o := { dst := none, op := Go.Op.store 3 (Go.Operand.tmp 26) (Go.Operand.tmp 24), type := 0, pos := _, after := _, guard := _ }) rfl (fun K hK => ?_) AllReadyH.nil)
        go_simp
        have HR22 := Lib.hid (HD21.out.putSum (sum + n))
        rw [← HPS.out] at HR22
        clear c4 f4
        refine hK.out _ _ trivial (fun hHeld => ?_)
        clear hK K
        try simp only [Act.put]
        try simp only [List.setIfInBounds_toArray]
        try simp only [List.set]
        refine wpAnyH_done (by kernel_rfl) ?_ _
      rotate_left 1
      focus
        go_simp
        go_at_call 58
        refine (HBY.out _).mono ?_
        rintro e w21 ⟨rfl, a21⟩
        have HD21 := Lib.hid (HD.out.aft a21)
        clear a21 c4 f4 y0 y1
        obtain ⟨-, -, -, -, c4, -, fz⟩ := HD21.out.rd.cells
        have f4 := fz 4
        clear fz
        try simp only at c4
        refine hK.out _ _ trivial (fun hHeld => ?_)
        clear hK K
        try simp only [Act.put]
        try simp only [List.setIfInBounds_toArray]
        try simp only [List.set]
        refine wpAnyH_ready (rs := [3]) (by kernel_rfl) (by simp) ?_
        refine (AllReadyH.cons (o := { dst := some 21, op := Go.Op.load 3 (Go.Operand.tmp 20), type := 3, pos := _, after := _, guard := _ }) rfl (fun K hK => ?_) AllReadyH.nil)
        go_simp
        skip
        refine hK.out _ _ trivial (fun hHeld => ?_)
        clear hK K
        try simp only [Act.put]
        try simp only [List.setIfInBounds_toArray]
        try simp only [List.set]
        refine wpAnyH_take (i := 6) (oi := { dst := some 24, op := Go.Op.binOp Go.BinOp.add 3 (Go.Operand.tmp 21) (Go.Operand.tmp 23) 3, type := 3, pos := _, after := _, guard := _ }) (v := ?_) rfl (by kernel_rfl) (by kernel_rfl) (by kernel_rfl) (fun _ _ _ h => h) (Or.inl ⟨by rfl, ?_⟩) trivial ?_
        rotate_left
        · intro w hSw; go_simp; try with_reducible rfl
        try simp only [Act.put]
        try simp only [List.setIfInBounds_toArray]
        try simp only [List.set]
        refine wpAnyH_take (i := 7) (oi := { dst := some 25, op := Go.Op.nilCheck (Go.Operand.tmp 18), type := 0, pos := _, after := _, guard := _ }) (v := ?_) rfl (by kernel_rfl) (by kernel_rfl) (by kernel_rfl) (fun _ _ _ h => h) (Or.inl ⟨by rfl, ?_⟩) trivial ?_
        rotate_left
        · intro w hSw; go_simp; try with_reducible rfl
        try simp only [Act.put]
        try simp only [List.setIfInBounds_toArray]
        try simp only [List.set]
        refine wpAnyH_take (i := 8) (oi := { dst := some 26, op := Go.Op.fieldAddr 109 (Go.Operand.tmp 25) 4, type := 0, pos := _, after := _, guard := _ }) (v := ?_) rfl (by kernel_rfl) (by kernel_rfl) (by kernel_rfl) (fun _ _ _ h => h) (Or.inl ⟨by rfl, ?_⟩) trivial ?_
        rotate_left
        · intro w hSw; go_simp; try with_reducible rfl
        try simp only [Act.put]
        try simp only [List.setIfInBounds_toArray]
        try simp only [List.set]
        refine wpAnyH_ready (rs := [9]) (by kernel_rfl) (by simp) ?_
        refine (AllReadyH.cons (o := { dst := none, op := Go.Op.store 3 (Go.Operand.tmp 26) (Go.Operand.tmp 24), type := 0, pos := _, after := _, guard := _ }) rfl (fun K hK => ?_) AllReadyH.nil)
        go_simp
        have HR22 := Lib.hid (HD21.out.putSum (sum + n))
        rw [← HPS.out] at HR22
        clear c4 f4
        refine hK.out _ _ trivial (fun hHeld => ?_)
        clear hK K
        try simp only [Act.put]
        try simp only [List.setIfInBounds_toArray]
        try simp only [List.set]
        refine wpAnyH_done (by kernel_rfl) ?_ _
      rotate_left 1
    rotate_left 2
    all_goals
      clear HD HF2 HD21 HBY gsum
      generalize w21.setCell ⟨gr, 4, none⟩ (.int .i64 ((sum : Int) + (n : Int))) = W22 at HR22 ⊢
      go_upto_region 3 with fail
      have HD := Lib.hid (HR22.out.aft ((Aft.refl W22).drew))
      clear HR22
      obtain ⟨m, hm⟩ : ∃ m, sum + n = m := ⟨_, rfl⟩
      rw [hm] at HPQ HD
      have HM := Lib.hid hm
      clear HPS hm
      rcases HPQ.out with hlt | hle
      · have i1 : (m : Int) > list := hlt
        have HI := Lib.hid hlt
        clear hlt
        refine wp_region_held_drew (S := fun w' => RS W0 w' B gu g gr vo0 vk vb top list ⟨at_, rows ++ [⟨(f1, f2'), how⟩], m, sizes, tab, most⟩ (.slice a18 (ln + 1) k18) vo) (by kernel_rfl) HD.out (fun hHeld => ?_)
        refine wpAnyH_take (i := 0) (oi := { dst := some 27, op := Go.Op.move (Go.Operand.tmp 0), type := 107, pos := _, after := _, guard := _ }) (v := ?_) rfl (by kernel_rfl) (by kernel_rfl) (by kernel_rfl) (fun _ _ _ h => h) (Or.inl ⟨by rfl, ?_⟩) (by exact hHeld) ?_
        rotate_left
        · intro w hSw; go_simp; try with_reducible rfl
        try simp only [Act.put]
        try simp only [List.setIfInBounds_toArray]
        try simp only [List.set]
        refine wpAnyH_take (i := 1) (oi := { dst := some 28, op := Go.Op.nilCheck (Go.Operand.tmp 27), type := 0, pos := _, after := _, guard := _ }) (v := ?_) rfl (by kernel_rfl) (by kernel_rfl) (by kernel_rfl) (fun _ _ _ h => h) (Or.inl ⟨by rfl, ?_⟩) (by exact hHeld) ?_
        rotate_left
        · intro w hSw; go_simp; try with_reducible rfl
        try simp only [Act.put]
        try simp only [List.setIfInBounds_toArray]
        try simp only [List.set]
        refine wpAnyH_take (i := 2) (oi := { dst := some 29, op := Go.Op.fieldAddr 109 (Go.Operand.tmp 28) 4, type := 0, pos := _, after := _, guard := _ }) (v := ?_) rfl (by kernel_rfl) (by kernel_rfl) (by kernel_rfl) (fun _ _ _ h => h) (Or.inl ⟨by rfl, ?_⟩) (by exact hHeld) ?_
        rotate_left
        · intro w hSw; go_simp; try with_reducible rfl
        try simp only [Act.put]
        try simp only [List.setIfInBounds_toArray]
        try simp only [List.set]
        refine wpAnyH_take (i := 3) (oi := { dst := some 30, op := Go.Op.load 3 (Go.Operand.tmp 29), type := 3, pos := _, after := _, guard := _ }) (v := ?_) rfl (by kernel_rfl) (by kernel_rfl) (by kernel_rfl) (fun _ _ _ h => h) (Or.inl ⟨by rfl, ?_⟩) (by exact hHeld) ?_
        rotate_left
        · intro w hSw; obtain ⟨c0, c1, c2, c3, c4, c5, f⟩ := hSw.rd.cells; obtain ⟨d0, d1, d2, d3, d4⟩ := hSw.x.un.cells; try simp only at c4; go_simp; try with_reducible rfl
        try simp only [Act.put]
        try simp only [List.setIfInBounds_toArray]
        try simp only [List.set]
        refine wpAnyH_take (i := 4) (oi := { dst := some 31, op := Go.Op.move (Go.Operand.tmp 0), type := 107, pos := _, after := _, guard := _ }) (v := ?_) rfl (by kernel_rfl) (by kernel_rfl) (by kernel_rfl) (fun _ _ _ h => h) (Or.inl ⟨by rfl, ?_⟩) (by exact hHeld) ?_
        rotate_left
        · intro w hSw; go_simp; try with_reducible rfl
        try simp only [Act.put]
        try simp only [List.setIfInBounds_toArray]
        try simp only [List.set]
        refine wpAnyH_take (i := 5) (oi := { dst := some 32, op := Go.Op.nilCheck (Go.Operand.tmp 31), type := 0, pos := _, after := _, guard := _ }) (v := ?_) rfl (by kernel_rfl) (by kernel_rfl) (by kernel_rfl) (fun _ _ _ h => h) (Or.inl ⟨by rfl, ?_⟩) (by exact hHeld) ?_
        rotate_left
        · intro w hSw; go_simp; try with_reducible rfl
        try simp only [Act.put]
        try simp only [List.setIfInBounds_toArray]
        try simp only [List.set]
        refine wpAnyH_take (i := 6) (oi := { dst := some 33, op := Go.Op.fieldAddr 109 (Go.Operand.tmp 32) 0, type := 0, pos := _, after := _, guard := _ }) (v := ?_) rfl (by kernel_rfl) (by kernel_rfl) (by kernel_rfl) (fun _ _ _ h => h) (Or.inl ⟨by rfl, ?_⟩) (by exact hHeld) ?_
        rotate_left
        · intro w hSw; go_simp; try with_reducible rfl
        try simp only [Act.put]
        try simp only [List.setIfInBounds_toArray]
        try simp only [List.set]
        refine wpAnyH_take (i := 7) (oi := { dst := some 34, op := Go.Op.load 74 (Go.Operand.tmp 33), type := 74, pos := _, after := _, guard := _ }) (v := ?_) rfl (by kernel_rfl) (by kernel_rfl) (by kernel_rfl) (fun _ _ _ h => h) (Or.inl ⟨by rfl, ?_⟩) (by exact hHeld) ?_
        rotate_left
        · intro w hSw; obtain ⟨c0, c1, c2, c3, c4, c5, f⟩ := hSw.rd.cells; obtain ⟨d0, d1, d2, d3, d4⟩ := hSw.x.un.cells; try simp only at c4; go_simp; try with_reducible rfl
        try simp only [Act.put]
        try simp only [List.setIfInBounds_toArray]
        try simp only [List.set]
        refine wpAnyH_take (i := 8) (oi := { dst := some 35, op := Go.Op.nilCheck (Go.Operand.tmp 34), type := 0, pos := _, after := _, guard := _ }) (v := ?_) rfl (by kernel_rfl) (by kernel_rfl) (by kernel_rfl) (fun _ _ _ h => h) (Or.inl ⟨by rfl, ?_⟩) (by exact hHeld) ?_
        rotate_left
        · intro w hSw; go_simp; try with_reducible rfl
        try simp only [Act.put]
        try simp only [List.setIfInBounds_toArray]
        try simp only [List.set]
        refine wpAnyH_take (i := 9) (oi := { dst := some 36, op := Go.Op.fieldAddr 106 (Go.Operand.tmp 35) 2, type := 0, pos := _, after := _, guard := _ }) (v := ?_) rfl (by kernel_rfl) (by kernel_rfl) (by kernel_rfl) (fun _ _ _ h => h) (Or.inl ⟨by rfl, ?_⟩) (by exact hHeld) ?_
        rotate_left
        · intro w hSw; go_simp; try with_reducible rfl
        try simp only [Act.put]
        try simp only [List.setIfInBounds_toArray]
        try simp only [List.set]
        refine wpAnyH_take (i := 10) (oi := { dst := some 37, op := Go.Op.load 3 (Go.Operand.tmp 36), type := 3, pos := _, after := _, guard := _ }) (v := ?_) rfl (by kernel_rfl) (by kernel_rfl) (by kernel_rfl) (fun _ _ _ h => h) (Or.inl ⟨by rfl, ?_⟩) (by exact hHeld) ?_
        rotate_left
        · intro w hSw; obtain ⟨c0, c1, c2, c3, c4, c5, f⟩ := hSw.rd.cells; obtain ⟨d0, d1, d2, d3, d4⟩ := hSw.x.un.cells; try simp only at c4; go_simp; try with_reducible rfl
        try simp only [Act.put]
        try simp only [List.setIfInBounds_toArray]
        try simp only [List.set]
        refine wpAnyH_take (i := 11) (oi := { dst := some 38, op := Go.Op.binOp Go.BinOp.gtr 3 (Go.Operand.tmp 30) (Go.Operand.tmp 37) 3, type := 4, pos := _, after := _, guard := _ }) (v := ?_) rfl (by kernel_rfl) (by kernel_rfl) (by kernel_rfl) (fun _ _ _ h => h) (Or.inl ⟨by rfl, ?_⟩) (by exact hHeld) ?_
        rotate_left
        · intro w hSw; go_simp; try with_reducible rfl
        try simp only [Act.put]
        try simp only [List.setIfInBounds_toArray]
        try simp only [List.set]
        refine wpAnyH_done (by kernel_rfl) ?_ _
        have H1 := Lib.hid hHeld
        clear hHeld HD
        go_wp2_with fail
        refine (fail_any H1.out.rd 2).mono ?_
        rintro e9 w9 ⟨rfl, rfl⟩
        go_wp2_with fail
        have hm := HM.out
        subst hm
        exact ⟨rfl, Or.inr ⟨HI.out, ⟨_, rfl⟩, H1.out.x⟩⟩
      · have i1 : ¬ (m : Int) > list := by omega
        have HI := Lib.hid hle
        clear hle
        refine wp_region_held_drew (S := fun w' => RS W0 w' B gu g gr vo0 vk vb top list ⟨at_, rows ++ [⟨(f1, f2'), how⟩], m, sizes, tab, most⟩ (.slice a18 (ln + 1) k18) vo) (by kernel_rfl) HD.out (fun hHeld => ?_)
        refine wpAnyH_take (i := 0) (oi := { dst := some 27, op := Go.Op.move (Go.Operand.tmp 0), type := 107, pos := _, after := _, guard := _ }) (v := ?_) rfl (by kernel_rfl) (by kernel_rfl) (by kernel_rfl) (fun _ _ _ h => h) (Or.inl ⟨by rfl, ?_⟩) (by exact hHeld) ?_
        rotate_left
        · intro w hSw; go_simp; try with_reducible rfl
        try simp only [Act.put]
        try simp only [List.setIfInBounds_toArray]
        try simp only [List.set]
        refine wpAnyH_take (i := 1) (oi := { dst := some 28, op := Go.Op.nilCheck (Go.Operand.tmp 27), type := 0, pos := _, after := _, guard := _ }) (v := ?_) rfl (by kernel_rfl) (by kernel_rfl) (by kernel_rfl) (fun _ _ _ h => h) (Or.inl ⟨by rfl, ?_⟩) (by exact hHeld) ?_
        rotate_left
        · intro w hSw; go_simp; try with_reducible rfl
        try simp only [Act.put]
        try simp only [List.setIfInBounds_toArray]
        try simp only [List.set]
        refine wpAnyH_take (i := 2) (oi := { dst := some 29, op := Go.Op.fieldAddr 109 (Go.Operand.tmp 28) 4, type := 0, pos := _, after := _, guard := _ }) (v := ?_) rfl (by kernel_rfl) (by kernel_rfl) (by kernel_rfl) (fun _ _ _ h => h) (Or.inl ⟨by rfl, ?_⟩) (by exact hHeld) ?_
        rotate_left
        · intro w hSw; go_simp; try with_reducible rfl
        try simp only [Act.put]
        try simp only [List.setIfInBounds_toArray]
        try simp only [List.set]
        refine wpAnyH_take (i := 3) (oi := { dst := some 30, op := Go.Op.load 3 (Go.Operand.tmp 29), type := 3, pos := _, after := _, guard := _ }) (v := ?_) rfl (by kernel_rfl) (by kernel_rfl) (by kernel_rfl) (fun _ _ _ h => h) (Or.inl ⟨by rfl, ?_⟩) (by exact hHeld) ?_
        rotate_left
        · intro w hSw; obtain ⟨c0, c1, c2, c3, c4, c5, f⟩ := hSw.rd.cells; obtain ⟨d0, d1, d2, d3, d4⟩ := hSw.x.un.cells; try simp only at c4; go_simp; try with_reducible rfl
        try simp only [Act.put]
        try simp only [List.setIfInBounds_toArray]
        try simp only [List.set]
        refine wpAnyH_take (i := 4) (oi := { dst := some 31, op := Go.Op.move (Go.Operand.tmp 0), type := 107, pos := _, after := _, guard := _ }) (v := ?_) rfl (by kernel_rfl) (by kernel_rfl) (by kernel_rfl) (fun _ _ _ h => h) (Or.inl ⟨by rfl, ?_⟩) (by exact hHeld) ?_
        rotate_left
        · intro w hSw; go_simp; try with_reducible rfl
        try simp only [Act.put]
        try simp only [List.setIfInBounds_toArray]
        try simp only [List.set]
        refine wpAnyH_take (i := 5) (oi := { dst := some 32, op := Go.Op.nilCheck (Go.Operand.tmp 31), type := 0, pos := _, after := _, guard := _ }) (v := ?_) rfl (by kernel_rfl) (by kernel_rfl) (by kernel_rfl) (fun _ _ _ h => h) (Or.inl ⟨by rfl, ?_⟩) (by exact hHeld) ?_
        rotate_left
        · intro w hSw; go_simp; try with_reducible rfl
        try simp only [Act.put]
        try simp only [List.setIfInBounds_toArray]
        try simp only [List.set]
        refine wpAnyH_take (i := 6) (oi := { dst := some 33, op := Go.Op.fieldAddr 109 (Go.Operand.tmp 32) 0, type := 0, pos := _, after := _, guard := _ }) (v := ?_) rfl (by kernel_rfl) (by kernel_rfl) (by kernel_rfl) (fun _ _ _ h => h) (Or.inl ⟨by rfl, ?_⟩) (by exact hHeld) ?_
        rotate_left
        · intro w hSw; go_simp; try with_reducible rfl
        try simp only [Act.put]
        try simp only [List.setIfInBounds_toArray]
        try simp only [List.set]
        refine wpAnyH_take (i := 7) (oi := { dst := some 34, op := Go.Op.load 74 (Go.Operand.tmp 33), type := 74, pos := _, after := _, guard := _ }) (v := ?_) rfl (by kernel_rfl) (by kernel_rfl) (by kernel_rfl) (fun _ _ _ h => h) (Or.inl ⟨by rfl, ?_⟩) (by exact hHeld) ?_
        rotate_left
        · intro w hSw; obtain ⟨c0, c1, c2, c3, c4, c5, f⟩ := hSw.rd.cells; obtain ⟨d0, d1, d2, d3, d4⟩ := hSw.x.un.cells; try simp only at c4; go_simp; try with_reducible rfl
        try simp only [Act.put]
        try simp only [List.setIfInBounds_toArray]
        try simp only [List.set]
        refine wpAnyH_take (i := 8) (oi := { dst := some 35, op := Go.Op.nilCheck (Go.Operand.tmp 34), type := 0, pos := _, after := _, guard := _ }) (v := ?_) rfl (by kernel_rfl) (by kernel_rfl) (by kernel_rfl) (fun _ _ _ h => h) (Or.inl ⟨by rfl, ?_⟩) (by exact hHeld) ?_
        rotate_left
        · intro w hSw; go_simp; try with_reducible rfl
        try simp only [Act.put]
        try simp only [List.setIfInBounds_toArray]
        try simp only [List.set]
        refine wpAnyH_take (i := 9) (oi := { dst := some 36, op := Go.Op.fieldAddr 106 (Go.Operand.tmp 35) 2, type := 0, pos := _, after := _, guard := _ }) (v := ?_) rfl (by kernel_rfl) (by kernel_rfl) (by kernel_rfl) (fun _ _ _ h => h) (Or.inl ⟨by rfl, ?_⟩) (by exact hHeld) ?_
        rotate_left
        · intro w hSw; go_simp; try with_reducible rfl
        try simp only [Act.put]
        try simp only [List.setIfInBounds_toArray]
        try simp only [List.set]
        refine wpAnyH_take (i := 10) (oi := { dst := some 37, op := Go.Op.load 3 (Go.Operand.tmp 36), type := 3, pos := _, after := _, guard := _ }) (v := ?_) rfl (by kernel_rfl) (by kernel_rfl) (by kernel_rfl) (fun _ _ _ h => h) (Or.inl ⟨by rfl, ?_⟩) (by exact hHeld) ?_
        rotate_left
        · intro w hSw; obtain ⟨c0, c1, c2, c3, c4, c5, f⟩ := hSw.rd.cells; obtain ⟨d0, d1, d2, d3, d4⟩ := hSw.x.un.cells; try simp only at c4; go_simp; try with_reducible rfl
        try simp only [Act.put]
        try simp only [List.setIfInBounds_toArray]
        try simp only [List.set]
        refine wpAnyH_take (i := 11) (oi := { dst := some 38, op := Go.Op.binOp Go.BinOp.gtr 3 (Go.Operand.tmp 30) (Go.Operand.tmp 37) 3, type := 4, pos := _, after := _, guard := _ }) (v := ?_) rfl (by kernel_rfl) (by kernel_rfl) (by kernel_rfl) (fun _ _ _ h => h) (Or.inl ⟨by rfl, ?_⟩) (by exact hHeld) ?_
        rotate_left
        · intro w hSw; go_simp; try with_reducible rfl
        try simp only [Act.put]
        try simp only [List.setIfInBounds_toArray]
        try simp only [List.set]
        refine wpAnyH_done (by kernel_rfl) ?_ _
        have H1 := Lib.hid hHeld
        clear hHeld HD
        go_wp2_with fail
        refine bodyPost_end (v := .tuple #[]) (by simp [results, Tryd.results82, go_sem]) rfl ?_
        have hm := HM.out
        subst hm
        exact Or.inl ⟨HI.out, rfl, _, H1.out⟩
end Go.Proofs.YtmlnboibclfmcaaDoor
namespace Go.Proofs.YtmlnboibclfmcaaDoor
open Go.RowKit
set_option linter.unusedVariables false

/-- The table has been changed. -/
theorem RS.tab {W0 w w' : World} {B gu g gr : Nat} {vo0 vk vb : Value} {top list : Int} {s : US} {vr vo : Value} (h : RS W0 w B gu g gr vo0 vk vb top list s vr vo) {vo' : Value} {l' : List FieldL} {most' : Int} (ht : Tab w' B g vo' vk l' most') (hc : Chg (TP g vo) w w') (ho : ∀ k, vo'.ownBlock = some k → vo.ownBlock = some k ∨ w.heap.size ≤ k) :
    RS W0 w' B gu g gr vo0 vk vb top list { s with tab := l', most := most' } vr vo' := by
  obtain ⟨h1, h2, h3, h4, h5⟩ := h.apart
  have hz := h.x.chg.size
  refine ⟨⟨h.x.un.tab ht hc, h.x.chg.trans hc (fun i hi => ?_), fun k hk => ?_⟩, h.rd.chg hc (fun e => ?_), h.rows.chg hc (fun k hk e => ?_), h.grB⟩
  · rcases hi with hi | hi
    · exact Or.inl (Or.inr (Or.inl hi))
    · rcases h.x.ob i hi with h9 | h9
      · exact Or.inl (Or.inr (Or.inr h9))
      · exact Or.inr h9
  · rcases ho k hk with h9 | h9
    · exact h.x.ob k h9
    · exact Or.inr (by omega)
  · rcases e with e | e
    · exact h2 e
    · exact h3 e
  · obtain ⟨cur, h9⟩ := h.rows.blk hk
    rcases e with e | e
    · subst e
      rw [h.x.un.t.blk] at h9
      injection h9 with h9
      injection h9 with _ h9
      exact absurd h9 (by decide)
    · obtain ⟨cur2, h8⟩ := h.x.un.t.own.blk e
      rw [h8] at h9
      injection h9 with h9
      injection h9 with _ h9
      exact absurd h9 (by decide)
/-- A step's end. -/
def StepPost (W0 : World) (B gu g gr : Nat) (vo0 vk vb : Value) (top list : Int) (q : US × Int) (e : Ending) (w' : World) : Prop :=
  (q.2 = 0 ∧ e = .returned (.tuple #[]) ∧ ∃ vr' vo', RS W0 w' B gu g gr vo0 vk vb top list q.1 vr' vo') ∨ (q.2 ≠ 0 ∧ (∃ a : Int, e = .panicked [fltV q.2 a]) ∧ ∃ vo', RX W0 w' B gu g gr vo0 vk top list q.1.tab q.1.most vo')
def resU (top : Int) (b : List UInt8) (s : US) : US × Int :=
  if (getL b s.at_ 5).2.2 ≠ 0 then (s, (getL b s.at_ 5).2.2)
  else if s.rows ≠ [] ∨ 2 ≤ s.sizes ∨ top < ((getL b s.at_ 5).1 : Int) then (s, 6)
  else (⟨(getL b s.at_ 5).2.1, s.rows, s.sum, s.sizes + 1, fitF ((getL b s.at_ 5).1 : Int) s.tab, ((getL b s.at_ 5).1 : Int)⟩, 0)
set_option linter.unusedSimpArgs false in
set_option maxHeartbeats 16000000 in
set_option maxRecDepth 100000 in
theorem resize_any7 {W0 w : World} {B gu g gr : Nat} {vo0 vk vr vo : Value} {top list : Int} {s : US} {va : Option Addr} {cap : Nat} {b : List UInt8} (hb : BR W0 g gr vo0 va cap b) (h : RS W0 w B gu g gr vo0 vk (.slice va b.length cap) top list s vr vo) (hat : s.at_ ≤ b.length) (htop : top ≤ 65536) (hsum : sumF s.tab ≤ 1000000000000) :
    Calls Tryd.prog 86 #[.pointer (some ⟨gr, 0, none⟩)] w fun e w' => StepPost W0 B gu g gr vo0 vk (.slice va b.length cap) top list (resU top b s) e w' := by
  by_cases he : (getL b s.at_ 5).2.2 ≠ 0
  · have hq : resU top b s = (s, (getL b s.at_ 5).2.2) := by unfold resU; rw [if_pos he]
    rw [hq]
    have HNM := Lib.hid (number_no hb h hat 5 (by omega) he)
    have HE := Lib.hid he
    unfold StepPost
    simp only
    obtain ⟨E, hE⟩ : ∃ E, (getL b s.at_ 5).2.2 = E := ⟨_, rfl⟩
    rw [hE] at HNM HE ⊢
    clear hb h hat htop hsum he hq hE
    go_enter Tryd.func86, Tryd.ntmps86
    go_wp2_with fail
    refine HNM.out.mono ?_
    rintro e w3 ⟨a9, rfl, h3⟩
    have HX := Lib.hid h3
    clear h3 HNM
    go_wp2_with fail
    exact ⟨rfl, Or.inr ⟨HE.out, ⟨_, rfl⟩, _, HX.out⟩⟩
  · have he0 : (getL b s.at_ 5).2.2 = 0 := Decidable.not_not.1 he
    have hnum := number_ok hb h hat 5 (by omega) he0
    have hq : resU top b s = if s.rows ≠ [] ∨ 2 ≤ s.sizes ∨ top < ((getL b s.at_ 5).1 : Int) then (s, 6) else (⟨(getL b s.at_ 5).2.1, s.rows, s.sum, s.sizes + 1, fitF ((getL b s.at_ 5).1 : Int) s.tab, ((getL b s.at_ 5).1 : Int)⟩, 0) := by unfold resU; rw [if_neg (by rw [he0]; simp)]
    rw [hq]
    obtain ⟨⟨n, t1, e0⟩, hg⟩ : ∃ q, getL b s.at_ 5 = q := ⟨_, rfl⟩
    rw [hg] at hnum ⊢
    simp only at hnum ⊢
    have HNM := Lib.hid hnum
    obtain ⟨ra, rk, hvr, -⟩ := h.rows.slice
    obtain ⟨at_, rows, sum, sizes, tab, most⟩ := s
    simp only at hvr hsum HNM ⊢
    have HSM := Lib.hid hsum
    obtain ⟨ln, hln⟩ : ∃ ln, rows.length = ln := ⟨_, rfl⟩
    rw [hln] at hvr
    subst hvr
    have hrows : (rows ≠ [] ∧ 0 < ln) ∨ (rows = [] ∧ ln = 0) := by
      cases rows with
      | nil => exact Or.inr ⟨rfl, by rw [← hln]; rfl⟩
      | cons a l => exact Or.inl ⟨by simp, by rw [← hln]; simp⟩
    have HTOP := Lib.hid htop
    have hcase : Hid (((if rows ≠ [] ∨ 2 ≤ sizes ∨ top < (n : Int) then ((⟨at_, rows, sum, sizes, tab, most⟩ : US), (6 : Int)) else (⟨t1, rows, sum, sizes + 1, fitF (n : Int) tab, (n : Int)⟩, 0)) = (⟨at_, rows, sum, sizes, tab, most⟩, 6) ∧ (0 < ln ∨ (ln = 0 ∧ 2 ≤ sizes) ∨ (ln = 0 ∧ sizes < 2 ∧ top < (n : Int)))) ∨ ((if rows ≠ [] ∨ 2 ≤ sizes ∨ top < (n : Int) then ((⟨at_, rows, sum, sizes, tab, most⟩ : US), (6 : Int)) else (⟨t1, rows, sum, sizes + 1, fitF (n : Int) tab, (n : Int)⟩, 0)) = (⟨t1, rows, sum, sizes + 1, fitF (n : Int) tab, (n : Int)⟩, 0) ∧ ln = 0 ∧ sizes < 2 ∧ (n : Int) ≤ top)) := Lib.hid (by
      by_cases h1 : rows ≠ [] ∨ 2 ≤ sizes ∨ top < (n : Int)
      · left
        rw [if_pos h1]
        refine ⟨rfl, ?_⟩
        rcases hrows with ⟨h2, h3⟩ | ⟨h2, h3⟩
        · exact Or.inl h3
        · rcases h1 with h1 | h1 | h1
          · exact absurd h2 h1
          · exact Or.inr (Or.inl ⟨h3, h1⟩)
          · rcases Nat.lt_or_ge sizes 2 with h4 | h4
            · exact Or.inr (Or.inr ⟨h3, h4, h1⟩)
            · exact Or.inr (Or.inl ⟨h3, h4⟩)
      · right
        rw [if_neg h1]
        refine ⟨rfl, ?_, by omega, by omega⟩
        rcases hrows with ⟨h2, h3⟩ | ⟨h2, h3⟩
        · exact absurd (Or.inl h2) h1
        · exact h3)
    obtain ⟨Q, hQ⟩ : ∃ Q, (if rows ≠ [] ∨ 2 ≤ sizes ∨ top < (n : Int) then ((⟨at_, rows, sum, sizes, tab, most⟩ : US), (6 : Int)) else (⟨t1, rows, sum, sizes + 1, fitF (n : Int) tab, (n : Int)⟩, 0)) = Q := ⟨_, rfl⟩
    rw [hQ] at hcase ⊢
    clear hb h hat htop hsum he he0 hq hg hln hrows hQ
    go_enter Tryd.func86, Tryd.ntmps86
    go_wp2_with fail
    refine HNM.out.mono ?_
    rintro e w3 ⟨rfl, h3, -⟩
    have H3 := Lib.hid h3
    clear h3 HNM
    obtain ⟨c0, c1, c2, c3, c4, c5, fz⟩ := H3.out.rd.cells
    obtain ⟨d0, d1, d2, d3, d4⟩ := H3.out.x.un.cells
    have f5 := fz 5
    clear c1 c2 c4 d2 d3 d4 fz
    try simp only at c3 c5
    rcases hcase.out with ⟨hq, hno⟩ | ⟨hq, hl0, hs2, hn⟩
    · have HQ := Lib.hid hq
      clear hq hcase
      rcases hno with h1 | ⟨h1, h2⟩ | ⟨h1, h2, h3⟩
      · have i1 : (ln : Int) > 0 := by omega
        clear h1
        go_wp2_with fail
        refine (fail_any H3.out.rd 6).mono ?_
        rintro e9 w9 ⟨rfl, rfl⟩
        go_wp2_with fail
        refine ⟨rfl, ?_⟩
        rw [HQ.out]
        exact Or.inr ⟨by show (6 : Int) ≠ 0; decide, ⟨_, rfl⟩, _, H3.out.x⟩
      · subst h1
        have i2 : (sizes : Int) ≥ 2 := by omega
        clear h2
        go_wp2_with fail
        refine (fail_any H3.out.rd 6).mono ?_
        rintro e9 w9 ⟨rfl, rfl⟩
        go_wp2_with fail
        refine ⟨rfl, ?_⟩
        rw [HQ.out]
        exact Or.inr ⟨by show (6 : Int) ≠ 0; decide, ⟨_, rfl⟩, _, H3.out.x⟩
      · subst h1
        have i2 : ¬ (sizes : Int) ≥ 2 := by omega
        have i3 : (n : Int) > top := h3
        clear h2 h3
        go_wp2_with fail
        refine (fail_any H3.out.rd 6).mono ?_
        rintro e9 w9 ⟨rfl, rfl⟩
        go_wp2_with fail
        refine ⟨rfl, ?_⟩
        rw [HQ.out]
        exact Or.inr ⟨by show (6 : Int) ≠ 0; decide, ⟨_, rfl⟩, _, H3.out.x⟩
    · have HQ := Lib.hid hq
      subst hl0
      have i2 : ¬ (sizes : Int) ≥ 2 := by omega
      have i3 : ¬ (n : Int) > top := by omega
      have HRZ := Lib.hid (resize_yes (n : Int) H3.out.x.un.t HSM.out (by omega) (by have := HTOP.out; omega))
      have gw : IntKind.i64.wrap ((sizes : Int) + 1) = (sizes : Int) + 1 := IntWalk.i64_in _ (by omega)
      have HE1 : Hid ((sizes : Int) + 1 = ((sizes + 1 : Nat) : Int)) := Lib.hid (by omega)
      clear hq hcase hs2 hn
      go_wp2_with fail
      refine HRZ.out.mono ?_
      rintro e w4 ⟨rfl, vo', ht, hc, ho⟩
      have H4 := Lib.hid (H3.out.tab ht (hc.mono (fun i hi => Or.inl hi)) (fun k hk => Or.inl (ho k hk)))
      clear ht hc ho c0 c3 c5 f5 d0 d1 H3 HRZ
      obtain ⟨c0, c1, c2, c3, c4, c5, fz⟩ := H4.out.rd.cells
      have f5 := fz 5
      have H5 := Lib.hid (H4.out.putSizes (sizes + 1))
      rw [← HE1.out] at H5
      clear c0 c1 c2 c3 c4 fz H4
      try simp only at c5
      go_wp2_with fail
      refine bodyPost_end (v := .tuple #[]) (by simp [results, Tryd.results86, go_sem]) rfl ?_
      rw [HQ.out]
      exact Or.inl ⟨rfl, rfl, _, _, H5.out⟩
end Go.Proofs.YtmlnboibclfmcaaDoor
namespace Go.Proofs.YtmlnboibclfmcaaDoor
open Go.RowKit
set_option linter.unusedVariables false

theorem mem_sumF : ∀ (l : List FieldL) (f : FieldL), f ∈ l → fsize f ≤ sumF l
  | [], _, h => by simp at h
  | a :: l, f, h => by
    rw [sumF_cons]
    rcases List.mem_cons.1 h with rfl | h
    · omega
    · have := mem_sumF l f h; omega
theorem static_size : ∀ f ∈ staticT, fsize f ≤ 1000 := by decide +kernel
theorem getF_size {l : List FieldL} {i : Int} (hs : sumF l ≤ 65536) (h : getB l i = true) : fsize (getF l i) ≤ 70000 ∧ (getF l i).1.length ≤ 70000 := by
  have hb : 1 ≤ i ∧ i ≤ 61 + (l.length : Int) := by unfold getB at h; exact of_decide_eq_true h
  have hx : fsize (getF l i) ≤ 70000 := by
    unfold getF
    rw [if_pos hb]
    have hl : (i - 1).toNat < (staticT ++ l).length := by rw [List.length_append, staticT_len]; omega
    rw [List.getD_eq_getElem?_getD, List.getElem?_eq_getElem hl, Option.getD_some]
    have hm := List.getElem_mem hl
    rcases List.mem_append.1 hm with h1 | h1
    · have := static_size _ h1; omega
    · have := mem_sumF l _ h1; omega
  refine ⟨hx, ?_⟩
  unfold fsize at hx
  omega
theorem writU_size {l : List FieldL} {b : List UInt8} {at_ bits : Nat} (hs : sumF l ≤ 65536) (h : (writU l b at_ bits).2.2 = 0) : fsize (writU l b at_ bits).1 ≤ 1000000 := by
  obtain ⟨i, t1, N, t3, V, t4, hg, hnm, ht, hw⟩ := writU_ok h
  rw [hw]
  have hv := textU_to (b := b) (at_ := t3) (by rw [ht])
  rw [ht] at hv
  have hn : N.length ≤ 70000 := by
    rcases hnm with ⟨_, h1, h2, _⟩ | ⟨_, h1⟩
    · rw [h2]; exact (getF_size hs h1).2
    · have := textU_to (b := b) (at_ := t1) (by rw [h1])
      rw [h1] at this
      simp only at this
      omega
  unfold fsize
  simp only at hv ⊢
  omega
theorem RowPost.ends {W0 : World} {B gu g gr : Nat} {vo0 vk vb : Value} {top list : Int} {s : US} {f : FieldL} {how : Int} {vo : Value} {e : Ending} {w' : World} (h : RowPost W0 B gu g gr vo0 vk vb top list s f how vo e w') : e = .returned (.tuple #[]) ∨ ∃ a : Int, e = .panicked [fltV 2 a] := by
  rcases h with ⟨_, h, _⟩ | ⟨_, h, _⟩
  · exact Or.inl h
  · exact Or.inr h
def rowQ (list : Int) (s : US) (f : FieldL) (how : Int) : US × Int := (⟨s.at_, s.rows ++ [⟨f, how⟩], s.sum + fsize f, s.sizes, s.tab, s.most⟩, if list < ((s.sum + fsize f : Nat) : Int) then 2 else 0)
theorem RowPost.step {W0 : World} {B gu g gr : Nat} {vo0 vk vb : Value} {top list : Int} {s : US} {f : FieldL} {how : Int} {vo : Value} {e : Ending} {w' : World} (h : RowPost W0 B gu g gr vo0 vk vb top list s f how vo e w') : StepPost W0 B gu g gr vo0 vk vb top list (rowQ list s f how) e w' := by
  unfold rowQ
  rcases h with ⟨h1, h2, v2, h3⟩ | ⟨h1, h2, h3⟩
  · rw [if_neg (by omega)]
    exact Or.inl ⟨rfl, h2, v2, vo, h3⟩
  · rw [if_pos h1]
    exact Or.inr ⟨by show (2 : Int) ≠ 0; decide, h2, vo, h3⟩
/-- What a step needs to hold of the state. -/
structure SI (list : Int) (b : List UInt8) (s : US) : Prop where
  at_ : s.at_ ≤ b.length
  rows : s.rows.length ≤ s.at_
  sum : (s.sum : Int) ≤ list
  tab : (sumF s.tab : Int) ≤ s.most
  most0 : 0 ≤ s.most
  most1 : s.most ≤ 65536

set_option linter.unusedSimpArgs false in
set_option maxHeartbeats 16000000 in
set_option maxRecDepth 100000 in
theorem step_idx_num {W0 w : World} {B gu g gr : Nat} {vo0 vk vr vo : Value} {top list : Int} {s : US} {va : Option Addr} {cap : Nat} {b : List UInt8} (hb : BR W0 g gr vo0 va cap b) (h : RS W0 w B gu g gr vo0 vk (.slice va b.length cap) top list s vr vo) (hsi : SI list b s) (hlist : list ≤ 2147483647) (c : UInt8) (hc : b[s.at_]? = some c) (hk : 128 ≤ c.toNat) (E : Int) (hE : E ≠ 0) (he : (getL b s.at_ 7).2.2 = E) :
    Calls Tryd.prog 70 #[.pointer (some ⟨gr, 0, none⟩)] w fun e w' => StepPost W0 B gu g gr vo0 vk (.slice va b.length cap) top list (s, E) e w' := by
  obtain ⟨hlt, hce⟩ := List.getElem?_eq_some_iff.1 hc
  have hne : b ≠ [] := by intro e; rw [e] at hlt; simp at hlt
  obtain ⟨pb, off, rfl, hcap1, hcap2, hcell⟩ := hb.at hne
  have HCB : Hid (∀ wx, Chg (TU gr g vo0) W0 wx → wx.cell? ⟨pb, off + s.at_, none⟩ = some (.int .u8 (c.toNat : Int))) := Lib.hid (fun wx hx => by have := hcell wx hx s.at_ hlt; rw [hce] at this; exact this)
  have hlen := hb.len
  have hs1 : s.sum ≤ 2147483647 := by have := hsi.sum; omega
  have hs2 : s.rows.length ≤ 10000000 := by have := hsi.rows; have := hsi.at_; omega
  have hs3 : sumF s.tab ≤ 65536 := by have h1 := hsi.tab; have h2 := hsi.most1; omega
  have HNM := Lib.hid (fun w' (h : RS W0 w' B gu g gr vo0 vk (.slice (some ⟨pb, off, none⟩) b.length cap) top list s vr vo) => number_no hb h hsi.at_ 7 (by omega) (by rw [he]; exact hE))
  rw [he] at HNM
  have HE := Lib.hid hE
  obtain ⟨at_, hat⟩ : ∃ a, s.at_ = a := ⟨_, rfl⟩
  rw [hat] at HCB hlt
  have HAT := Lib.hid hat
  have HD : Hid (RS W0 w.drew B gu g gr vo0 vk (.slice (some ⟨pb, off, none⟩) b.length cap) top list s vr vo) := Lib.hid (h.aft ((Aft.refl w).drew))
  have i1 : (at_ : Int) < (b.length : Int) := by omega
  have d128 : decide (128 ≤ (c.toNat : Int)) = true := decide_eq_true (by omega)
  clear hb h hc hsi hlist hne hcell hce hat hlt hs1 hs2 hs3 hk hE he
  go_enter Tryd.func70, Tryd.ntmps70
  go_upto_region 0 with fail
  refine wp_region_held_drew (S := fun w' => RS W0 w' B gu g gr vo0 vk (.slice (some ⟨pb, off, none⟩) b.length cap) top list s vr vo) (by kernel_rfl) HD.out (fun hHeld => ?_)
  refine wpAnyH_take (i := 0) (oi := { dst := some 4, op := Go.Op.move (Go.Operand.tmp 0), type := 107, pos := _, after := _, guard := _ }) (v := ?_) rfl (by kernel_rfl) (by kernel_rfl) (by kernel_rfl) (fun _ _ _ h => h) (Or.inl ⟨by rfl, ?_⟩) (by exact hHeld) ?_
  rotate_left
  · intro w hSw; go_simp; try with_reducible rfl
  try simp only [Act.put]
  try simp only [List.setIfInBounds_toArray]
  try simp only [List.set]
  refine wpAnyH_take (i := 1) (oi := { dst := some 5, op := Go.Op.nilCheck (Go.Operand.tmp 4), type := 0, pos := _, after := _, guard := _ }) (v := ?_) rfl (by kernel_rfl) (by kernel_rfl) (by kernel_rfl) (fun _ _ _ h => h) (Or.inl ⟨by rfl, ?_⟩) (by exact hHeld) ?_
  rotate_left
  · intro w hSw; go_simp; try with_reducible rfl
  try simp only [Act.put]
  try simp only [List.setIfInBounds_toArray]
  try simp only [List.set]
  refine wpAnyH_take (i := 2) (oi := { dst := some 6, op := Go.Op.fieldAddr 109 (Go.Operand.tmp 5) 1, type := 0, pos := _, after := _, guard := _ }) (v := ?_) rfl (by kernel_rfl) (by kernel_rfl) (by kernel_rfl) (fun _ _ _ h => h) (Or.inl ⟨by rfl, ?_⟩) (by exact hHeld) ?_
  rotate_left
  · intro w hSw; go_simp; try with_reducible rfl
  try simp only [Act.put]
  try simp only [List.setIfInBounds_toArray]
  try simp only [List.set]
  refine wpAnyH_take (i := 3) (oi := { dst := some 7, op := Go.Op.load 54 (Go.Operand.tmp 6), type := 54, pos := _, after := _, guard := _ }) (v := ?_) rfl (by kernel_rfl) (by kernel_rfl) (by kernel_rfl) (fun _ _ _ h => h) (Or.inl ⟨by rfl, ?_⟩) (by exact hHeld) ?_
  rotate_left
  · intro w hSw; obtain ⟨c0, c1, c2, c3, c4, c5, f⟩ := hSw.rd.cells; rw [HAT.out] at c2; have hx := HCB.out _ hSw.x.chg; go_simp; try with_reducible rfl
  try simp only [Act.put]
  try simp only [List.setIfInBounds_toArray]
  try simp only [List.set]
  refine wpAnyH_take (i := 4) (oi := { dst := some 8, op := Go.Op.move (Go.Operand.tmp 0), type := 107, pos := _, after := _, guard := _ }) (v := ?_) rfl (by kernel_rfl) (by kernel_rfl) (by kernel_rfl) (fun _ _ _ h => h) (Or.inl ⟨by rfl, ?_⟩) (by exact hHeld) ?_
  rotate_left
  · intro w hSw; go_simp; try with_reducible rfl
  try simp only [Act.put]
  try simp only [List.setIfInBounds_toArray]
  try simp only [List.set]
  refine wpAnyH_take (i := 5) (oi := { dst := some 9, op := Go.Op.nilCheck (Go.Operand.tmp 8), type := 0, pos := _, after := _, guard := _ }) (v := ?_) rfl (by kernel_rfl) (by kernel_rfl) (by kernel_rfl) (fun _ _ _ h => h) (Or.inl ⟨by rfl, ?_⟩) (by exact hHeld) ?_
  rotate_left
  · intro w hSw; go_simp; try with_reducible rfl
  try simp only [Act.put]
  try simp only [List.setIfInBounds_toArray]
  try simp only [List.set]
  refine wpAnyH_take (i := 6) (oi := { dst := some 10, op := Go.Op.fieldAddr 109 (Go.Operand.tmp 9) 2, type := 0, pos := _, after := _, guard := _ }) (v := ?_) rfl (by kernel_rfl) (by kernel_rfl) (by kernel_rfl) (fun _ _ _ h => h) (Or.inl ⟨by rfl, ?_⟩) (by exact hHeld) ?_
  rotate_left
  · intro w hSw; go_simp; try with_reducible rfl
  try simp only [Act.put]
  try simp only [List.setIfInBounds_toArray]
  try simp only [List.set]
  refine wpAnyH_take (i := 7) (oi := { dst := some 11, op := Go.Op.load 3 (Go.Operand.tmp 10), type := 3, pos := _, after := _, guard := _ }) (v := ?_) rfl (by kernel_rfl) (by kernel_rfl) (by kernel_rfl) (fun _ _ _ h => h) (Or.inl ⟨by rfl, ?_⟩) (by exact hHeld) ?_
  rotate_left
  · intro w hSw; obtain ⟨c0, c1, c2, c3, c4, c5, f⟩ := hSw.rd.cells; rw [HAT.out] at c2; have hx := HCB.out _ hSw.x.chg; go_simp; try with_reducible rfl
  try simp only [Act.put]
  try simp only [List.setIfInBounds_toArray]
  try simp only [List.set]
  refine wpAnyH_take (i := 8) (oi := { dst := some 12, op := Go.Op.indexAddr 54 (Go.Operand.tmp 7) (Go.Operand.tmp 11), type := 0, pos := _, after := _, guard := _ }) (v := ?_) rfl (by kernel_rfl) (by kernel_rfl) (by kernel_rfl) (fun _ _ _ h => h) (Or.inl ⟨by rfl, ?_⟩) (by exact hHeld) ?_
  rotate_left
  · intro w hSw; go_simp; try with_reducible rfl
  try simp only [Act.put]
  try simp only [List.setIfInBounds_toArray]
  try simp only [List.set]
  refine wpAnyH_take (i := 9) (oi := { dst := some 13, op := Go.Op.load 5 (Go.Operand.tmp 12), type := 5, pos := _, after := _, guard := _ }) (v := ?_) rfl (by kernel_rfl) (by kernel_rfl) (by kernel_rfl) (fun _ _ _ h => h) (Or.inl ⟨by rfl, ?_⟩) (by exact hHeld) ?_
  rotate_left
  · intro w hSw; obtain ⟨c0, c1, c2, c3, c4, c5, f⟩ := hSw.rd.cells; rw [HAT.out] at c2; have hx := HCB.out _ hSw.x.chg; go_simp; try with_reducible rfl
  try simp only [Act.put]
  try simp only [List.setIfInBounds_toArray]
  try simp only [List.set]
  refine wpAnyH_take (i := 10) (oi := { dst := some 2, op := Go.Op.assign (Go.Operand.tmp 13), type := 5, pos := _, after := _, guard := _ }) (v := ?_) rfl (by kernel_rfl) (by kernel_rfl) (by kernel_rfl) (fun _ _ _ h => h) (Or.inl ⟨by rfl, ?_⟩) (by exact hHeld) ?_
  rotate_left
  · intro w hSw; go_simp; try with_reducible rfl
  try simp only [Act.put]
  try simp only [List.setIfInBounds_toArray]
  try simp only [List.set]
  refine wpAnyH_done (by kernel_rfl) ?_ _
  have H1 := Lib.hid hHeld
  clear hHeld HD HCB
  generalize w.drew = W1 at H1 ⊢
  go_wp2_with fail
  refine (HNM.out _ H1.out).mono ?_
  rintro e w3 ⟨a9, rfl, h3⟩
  have HX := Lib.hid h3
  clear h3 H1 HNM
  go_wp2_with fail
  exact ⟨rfl, Or.inr ⟨HE.out, ⟨_, rfl⟩, _, HX.out⟩⟩
set_option linter.unusedSimpArgs false in
set_option maxHeartbeats 16000000 in
set_option maxRecDepth 100000 in
theorem step_idx_out {W0 w : World} {B gu g gr : Nat} {vo0 vk vr vo : Value} {top list : Int} {s : US} {va : Option Addr} {cap : Nat} {b : List UInt8} (hb : BR W0 g gr vo0 va cap b) (h : RS W0 w B gu g gr vo0 vk (.slice va b.length cap) top list s vr vo) (hsi : SI list b s) (hlist : list ≤ 2147483647) (c : UInt8) (hc : b[s.at_]? = some c) (hk : 128 ≤ c.toNat) (n t1 : Nat) (hg : getL b s.at_ 7 = (n, t1, 0)) (hk2 : getB s.tab n = false) :
    Calls Tryd.prog 70 #[.pointer (some ⟨gr, 0, none⟩)] w fun e w' => StepPost W0 B gu g gr vo0 vk (.slice va b.length cap) top list (s, 5) e w' := by
  obtain ⟨hlt, hce⟩ := List.getElem?_eq_some_iff.1 hc
  have hne : b ≠ [] := by intro e; rw [e] at hlt; simp at hlt
  obtain ⟨pb, off, rfl, hcap1, hcap2, hcell⟩ := hb.at hne
  have HCB : Hid (∀ wx, Chg (TU gr g vo0) W0 wx → wx.cell? ⟨pb, off + s.at_, none⟩ = some (.int .u8 (c.toNat : Int))) := Lib.hid (fun wx hx => by have := hcell wx hx s.at_ hlt; rw [hce] at this; exact this)
  have hlen := hb.len
  have hs1 : s.sum ≤ 2147483647 := by have := hsi.sum; omega
  have hs2 : s.rows.length ≤ 10000000 := by have := hsi.rows; have := hsi.at_; omega
  have hs3 : sumF s.tab ≤ 65536 := by have h1 := hsi.tab; have h2 := hsi.most1; omega
  have hg1 := getL_to (b := b) (at_ := s.at_) (n := 7) (by omega) (by rw [hg])
  rw [hg] at hg1
  have HNM := Lib.hid (fun w' (h : RS W0 w' B gu g gr vo0 vk (.slice (some ⟨pb, off, none⟩) b.length cap) top list s vr vo) => number_ok hb h hsi.at_ 7 (by omega) (by rw [hg]))
  rw [hg] at HNM
  simp only at HNM hg1
  have HKN := Lib.hid (fun w' (h : RS W0 w' B gu g gr vo0 vk (.slice (some ⟨pb, off, none⟩) b.length cap) top list { s with at_ := t1 } vr vo) => known_any h n hg1.2.2 false hk2)
  obtain ⟨at_, hat⟩ : ∃ a, s.at_ = a := ⟨_, rfl⟩
  rw [hat] at HCB hlt
  have HAT := Lib.hid hat
  have HD : Hid (RS W0 w.drew B gu g gr vo0 vk (.slice (some ⟨pb, off, none⟩) b.length cap) top list s vr vo) := Lib.hid (h.aft ((Aft.refl w).drew))
  have i1 : (at_ : Int) < (b.length : Int) := by omega
  have d128 : decide (128 ≤ (c.toNat : Int)) = true := decide_eq_true (by omega)
  clear hb h hc hsi hlist hne hcell hce hat hlt hs1 hs2 hs3 hk hg hg1 hk2
  go_enter Tryd.func70, Tryd.ntmps70
  go_upto_region 0 with fail
  refine wp_region_held_drew (S := fun w' => RS W0 w' B gu g gr vo0 vk (.slice (some ⟨pb, off, none⟩) b.length cap) top list s vr vo) (by kernel_rfl) HD.out (fun hHeld => ?_)
  refine wpAnyH_take (i := 0) (oi := { dst := some 4, op := Go.Op.move (Go.Operand.tmp 0), type := 107, pos := _, after := _, guard := _ }) (v := ?_) rfl (by kernel_rfl) (by kernel_rfl) (by kernel_rfl) (fun _ _ _ h => h) (Or.inl ⟨by rfl, ?_⟩) (by exact hHeld) ?_
  rotate_left
  · intro w hSw; go_simp; try with_reducible rfl
  try simp only [Act.put]
  try simp only [List.setIfInBounds_toArray]
  try simp only [List.set]
  refine wpAnyH_take (i := 1) (oi := { dst := some 5, op := Go.Op.nilCheck (Go.Operand.tmp 4), type := 0, pos := _, after := _, guard := _ }) (v := ?_) rfl (by kernel_rfl) (by kernel_rfl) (by kernel_rfl) (fun _ _ _ h => h) (Or.inl ⟨by rfl, ?_⟩) (by exact hHeld) ?_
  rotate_left
  · intro w hSw; go_simp; try with_reducible rfl
  try simp only [Act.put]
  try simp only [List.setIfInBounds_toArray]
  try simp only [List.set]
  refine wpAnyH_take (i := 2) (oi := { dst := some 6, op := Go.Op.fieldAddr 109 (Go.Operand.tmp 5) 1, type := 0, pos := _, after := _, guard := _ }) (v := ?_) rfl (by kernel_rfl) (by kernel_rfl) (by kernel_rfl) (fun _ _ _ h => h) (Or.inl ⟨by rfl, ?_⟩) (by exact hHeld) ?_
  rotate_left
  · intro w hSw; go_simp; try with_reducible rfl
  try simp only [Act.put]
  try simp only [List.setIfInBounds_toArray]
  try simp only [List.set]
  refine wpAnyH_take (i := 3) (oi := { dst := some 7, op := Go.Op.load 54 (Go.Operand.tmp 6), type := 54, pos := _, after := _, guard := _ }) (v := ?_) rfl (by kernel_rfl) (by kernel_rfl) (by kernel_rfl) (fun _ _ _ h => h) (Or.inl ⟨by rfl, ?_⟩) (by exact hHeld) ?_
  rotate_left
  · intro w hSw; obtain ⟨c0, c1, c2, c3, c4, c5, f⟩ := hSw.rd.cells; rw [HAT.out] at c2; have hx := HCB.out _ hSw.x.chg; go_simp; try with_reducible rfl
  try simp only [Act.put]
  try simp only [List.setIfInBounds_toArray]
  try simp only [List.set]
  refine wpAnyH_take (i := 4) (oi := { dst := some 8, op := Go.Op.move (Go.Operand.tmp 0), type := 107, pos := _, after := _, guard := _ }) (v := ?_) rfl (by kernel_rfl) (by kernel_rfl) (by kernel_rfl) (fun _ _ _ h => h) (Or.inl ⟨by rfl, ?_⟩) (by exact hHeld) ?_
  rotate_left
  · intro w hSw; go_simp; try with_reducible rfl
  try simp only [Act.put]
  try simp only [List.setIfInBounds_toArray]
  try simp only [List.set]
  refine wpAnyH_take (i := 5) (oi := { dst := some 9, op := Go.Op.nilCheck (Go.Operand.tmp 8), type := 0, pos := _, after := _, guard := _ }) (v := ?_) rfl (by kernel_rfl) (by kernel_rfl) (by kernel_rfl) (fun _ _ _ h => h) (Or.inl ⟨by rfl, ?_⟩) (by exact hHeld) ?_
  rotate_left
  · intro w hSw; go_simp; try with_reducible rfl
  try simp only [Act.put]
  try simp only [List.setIfInBounds_toArray]
  try simp only [List.set]
  refine wpAnyH_take (i := 6) (oi := { dst := some 10, op := Go.Op.fieldAddr 109 (Go.Operand.tmp 9) 2, type := 0, pos := _, after := _, guard := _ }) (v := ?_) rfl (by kernel_rfl) (by kernel_rfl) (by kernel_rfl) (fun _ _ _ h => h) (Or.inl ⟨by rfl, ?_⟩) (by exact hHeld) ?_
  rotate_left
  · intro w hSw; go_simp; try with_reducible rfl
  try simp only [Act.put]
  try simp only [List.setIfInBounds_toArray]
  try simp only [List.set]
  refine wpAnyH_take (i := 7) (oi := { dst := some 11, op := Go.Op.load 3 (Go.Operand.tmp 10), type := 3, pos := _, after := _, guard := _ }) (v := ?_) rfl (by kernel_rfl) (by kernel_rfl) (by kernel_rfl) (fun _ _ _ h => h) (Or.inl ⟨by rfl, ?_⟩) (by exact hHeld) ?_
  rotate_left
  · intro w hSw; obtain ⟨c0, c1, c2, c3, c4, c5, f⟩ := hSw.rd.cells; rw [HAT.out] at c2; have hx := HCB.out _ hSw.x.chg; go_simp; try with_reducible rfl
  try simp only [Act.put]
  try simp only [List.setIfInBounds_toArray]
  try simp only [List.set]
  refine wpAnyH_take (i := 8) (oi := { dst := some 12, op := Go.Op.indexAddr 54 (Go.Operand.tmp 7) (Go.Operand.tmp 11), type := 0, pos := _, after := _, guard := _ }) (v := ?_) rfl (by kernel_rfl) (by kernel_rfl) (by kernel_rfl) (fun _ _ _ h => h) (Or.inl ⟨by rfl, ?_⟩) (by exact hHeld) ?_
  rotate_left
  · intro w hSw; go_simp; try with_reducible rfl
  try simp only [Act.put]
  try simp only [List.setIfInBounds_toArray]
  try simp only [List.set]
  refine wpAnyH_take (i := 9) (oi := { dst := some 13, op := Go.Op.load 5 (Go.Operand.tmp 12), type := 5, pos := _, after := _, guard := _ }) (v := ?_) rfl (by kernel_rfl) (by kernel_rfl) (by kernel_rfl) (fun _ _ _ h => h) (Or.inl ⟨by rfl, ?_⟩) (by exact hHeld) ?_
  rotate_left
  · intro w hSw; obtain ⟨c0, c1, c2, c3, c4, c5, f⟩ := hSw.rd.cells; rw [HAT.out] at c2; have hx := HCB.out _ hSw.x.chg; go_simp; try with_reducible rfl
  try simp only [Act.put]
  try simp only [List.setIfInBounds_toArray]
  try simp only [List.set]
  refine wpAnyH_take (i := 10) (oi := { dst := some 2, op := Go.Op.assign (Go.Operand.tmp 13), type := 5, pos := _, after := _, guard := _ }) (v := ?_) rfl (by kernel_rfl) (by kernel_rfl) (by kernel_rfl) (fun _ _ _ h => h) (Or.inl ⟨by rfl, ?_⟩) (by exact hHeld) ?_
  rotate_left
  · intro w hSw; go_simp; try with_reducible rfl
  try simp only [Act.put]
  try simp only [List.setIfInBounds_toArray]
  try simp only [List.set]
  refine wpAnyH_done (by kernel_rfl) ?_ _
  have H1 := Lib.hid hHeld
  clear hHeld HD HCB
  generalize w.drew = W1 at H1 ⊢
  go_wp2_with fail
  refine (HNM.out _ H1.out).mono ?_
  rintro e w3 ⟨rfl, h3, -⟩
  have H3 := Lib.hid h3
  clear h3 H1 HNM
  go_wp2_with fail
  refine (HKN.out _ H3.out).mono ?_
  rintro e w4 ⟨hp, a4⟩
  have H4 := Lib.hid (H3.out.aft a4)
  rcases hp with ⟨hp, _⟩ | ⟨-, a9, rfl⟩
  · cases hp
  clear a4 H3 HKN
  go_wp2_with fail
  exact ⟨rfl, Or.inr ⟨by show (5 : Int) ≠ 0; decide, ⟨_, rfl⟩, _, H4.out.x⟩⟩
set_option linter.unusedSimpArgs false in
set_option maxHeartbeats 16000000 in
set_option maxRecDepth 100000 in
theorem step_idx_ok {W0 w : World} {B gu g gr : Nat} {vo0 vk vr vo : Value} {top list : Int} {s : US} {va : Option Addr} {cap : Nat} {b : List UInt8} (hb : BR W0 g gr vo0 va cap b) (h : RS W0 w B gu g gr vo0 vk (.slice va b.length cap) top list s vr vo) (hsi : SI list b s) (hlist : list ≤ 2147483647) (c : UInt8) (hc : b[s.at_]? = some c) (hk : 128 ≤ c.toNat) (n t1 : Nat) (hg : getL b s.at_ 7 = (n, t1, 0)) (hk2 : getB s.tab n = true) :
    Calls Tryd.prog 70 #[.pointer (some ⟨gr, 0, none⟩)] w fun e w' => StepPost W0 B gu g gr vo0 vk (.slice va b.length cap) top list (rowQ list { s with at_ := t1 } (getF s.tab n) 1) e w' := by
  obtain ⟨hlt, hce⟩ := List.getElem?_eq_some_iff.1 hc
  have hne : b ≠ [] := by intro e; rw [e] at hlt; simp at hlt
  obtain ⟨pb, off, rfl, hcap1, hcap2, hcell⟩ := hb.at hne
  have HCB : Hid (∀ wx, Chg (TU gr g vo0) W0 wx → wx.cell? ⟨pb, off + s.at_, none⟩ = some (.int .u8 (c.toNat : Int))) := Lib.hid (fun wx hx => by have := hcell wx hx s.at_ hlt; rw [hce] at this; exact this)
  have hlen := hb.len
  have hs1 : s.sum ≤ 2147483647 := by have := hsi.sum; omega
  have hs2 : s.rows.length ≤ 10000000 := by have := hsi.rows; have := hsi.at_; omega
  have hs3 : sumF s.tab ≤ 65536 := by have h1 := hsi.tab; have h2 := hsi.most1; omega
  have hg1 := getL_to (b := b) (at_ := s.at_) (n := 7) (by omega) (by rw [hg])
  rw [hg] at hg1
  have HNM := Lib.hid (fun w' (h : RS W0 w' B gu g gr vo0 vk (.slice (some ⟨pb, off, none⟩) b.length cap) top list s vr vo) => number_ok hb h hsi.at_ 7 (by omega) (by rw [hg]))
  rw [hg] at HNM
  simp only at HNM hg1
  have HKN := Lib.hid (fun w' (h : RS W0 w' B gu g gr vo0 vk (.slice (some ⟨pb, off, none⟩) b.length cap) top list { s with at_ := t1 } vr vo) => known_any h n hg1.2.2 true hk2)
  have hfs := (getF_size hs3 hk2).1
  have HRW := Lib.hid (fun w' (h : RS W0 w' B gu g gr vo0 vk (.slice (some ⟨pb, off, none⟩) b.length cap) top list { s with at_ := t1 } vr vo) => row_any h (getF s.tab n) 1 hs1 (by omega) hs2)
  obtain ⟨FV, hFV⟩ : ∃ v, fieldV (getF s.tab n) = v := ⟨_, rfl⟩
  rw [hFV] at HKN HRW
  obtain ⟨at_, hat⟩ : ∃ a, s.at_ = a := ⟨_, rfl⟩
  rw [hat] at HCB hlt
  have HAT := Lib.hid hat
  have HD : Hid (RS W0 w.drew B gu g gr vo0 vk (.slice (some ⟨pb, off, none⟩) b.length cap) top list s vr vo) := Lib.hid (h.aft ((Aft.refl w).drew))
  have i1 : (at_ : Int) < (b.length : Int) := by omega
  have d128 : decide (128 ≤ (c.toNat : Int)) = true := decide_eq_true (by omega)
  clear hb h hc hsi hlist hne hcell hce hat hlt hs1 hs2 hs3 hk hg hg1 hk2 hfs hFV
  go_enter Tryd.func70, Tryd.ntmps70
  go_upto_region 0 with fail
  refine wp_region_held_drew (S := fun w' => RS W0 w' B gu g gr vo0 vk (.slice (some ⟨pb, off, none⟩) b.length cap) top list s vr vo) (by kernel_rfl) HD.out (fun hHeld => ?_)
  refine wpAnyH_take (i := 0) (oi := { dst := some 4, op := Go.Op.move (Go.Operand.tmp 0), type := 107, pos := _, after := _, guard := _ }) (v := ?_) rfl (by kernel_rfl) (by kernel_rfl) (by kernel_rfl) (fun _ _ _ h => h) (Or.inl ⟨by rfl, ?_⟩) (by exact hHeld) ?_
  rotate_left
  · intro w hSw; go_simp; try with_reducible rfl
  try simp only [Act.put]
  try simp only [List.setIfInBounds_toArray]
  try simp only [List.set]
  refine wpAnyH_take (i := 1) (oi := { dst := some 5, op := Go.Op.nilCheck (Go.Operand.tmp 4), type := 0, pos := _, after := _, guard := _ }) (v := ?_) rfl (by kernel_rfl) (by kernel_rfl) (by kernel_rfl) (fun _ _ _ h => h) (Or.inl ⟨by rfl, ?_⟩) (by exact hHeld) ?_
  rotate_left
  · intro w hSw; go_simp; try with_reducible rfl
  try simp only [Act.put]
  try simp only [List.setIfInBounds_toArray]
  try simp only [List.set]
  refine wpAnyH_take (i := 2) (oi := { dst := some 6, op := Go.Op.fieldAddr 109 (Go.Operand.tmp 5) 1, type := 0, pos := _, after := _, guard := _ }) (v := ?_) rfl (by kernel_rfl) (by kernel_rfl) (by kernel_rfl) (fun _ _ _ h => h) (Or.inl ⟨by rfl, ?_⟩) (by exact hHeld) ?_
  rotate_left
  · intro w hSw; go_simp; try with_reducible rfl
  try simp only [Act.put]
  try simp only [List.setIfInBounds_toArray]
  try simp only [List.set]
  refine wpAnyH_take (i := 3) (oi := { dst := some 7, op := Go.Op.load 54 (Go.Operand.tmp 6), type := 54, pos := _, after := _, guard := _ }) (v := ?_) rfl (by kernel_rfl) (by kernel_rfl) (by kernel_rfl) (fun _ _ _ h => h) (Or.inl ⟨by rfl, ?_⟩) (by exact hHeld) ?_
  rotate_left
  · intro w hSw; obtain ⟨c0, c1, c2, c3, c4, c5, f⟩ := hSw.rd.cells; rw [HAT.out] at c2; have hx := HCB.out _ hSw.x.chg; go_simp; try with_reducible rfl
  try simp only [Act.put]
  try simp only [List.setIfInBounds_toArray]
  try simp only [List.set]
  refine wpAnyH_take (i := 4) (oi := { dst := some 8, op := Go.Op.move (Go.Operand.tmp 0), type := 107, pos := _, after := _, guard := _ }) (v := ?_) rfl (by kernel_rfl) (by kernel_rfl) (by kernel_rfl) (fun _ _ _ h => h) (Or.inl ⟨by rfl, ?_⟩) (by exact hHeld) ?_
  rotate_left
  · intro w hSw; go_simp; try with_reducible rfl
  try simp only [Act.put]
  try simp only [List.setIfInBounds_toArray]
  try simp only [List.set]
  refine wpAnyH_take (i := 5) (oi := { dst := some 9, op := Go.Op.nilCheck (Go.Operand.tmp 8), type := 0, pos := _, after := _, guard := _ }) (v := ?_) rfl (by kernel_rfl) (by kernel_rfl) (by kernel_rfl) (fun _ _ _ h => h) (Or.inl ⟨by rfl, ?_⟩) (by exact hHeld) ?_
  rotate_left
  · intro w hSw; go_simp; try with_reducible rfl
  try simp only [Act.put]
  try simp only [List.setIfInBounds_toArray]
  try simp only [List.set]
  refine wpAnyH_take (i := 6) (oi := { dst := some 10, op := Go.Op.fieldAddr 109 (Go.Operand.tmp 9) 2, type := 0, pos := _, after := _, guard := _ }) (v := ?_) rfl (by kernel_rfl) (by kernel_rfl) (by kernel_rfl) (fun _ _ _ h => h) (Or.inl ⟨by rfl, ?_⟩) (by exact hHeld) ?_
  rotate_left
  · intro w hSw; go_simp; try with_reducible rfl
  try simp only [Act.put]
  try simp only [List.setIfInBounds_toArray]
  try simp only [List.set]
  refine wpAnyH_take (i := 7) (oi := { dst := some 11, op := Go.Op.load 3 (Go.Operand.tmp 10), type := 3, pos := _, after := _, guard := _ }) (v := ?_) rfl (by kernel_rfl) (by kernel_rfl) (by kernel_rfl) (fun _ _ _ h => h) (Or.inl ⟨by rfl, ?_⟩) (by exact hHeld) ?_
  rotate_left
  · intro w hSw; obtain ⟨c0, c1, c2, c3, c4, c5, f⟩ := hSw.rd.cells; rw [HAT.out] at c2; have hx := HCB.out _ hSw.x.chg; go_simp; try with_reducible rfl
  try simp only [Act.put]
  try simp only [List.setIfInBounds_toArray]
  try simp only [List.set]
  refine wpAnyH_take (i := 8) (oi := { dst := some 12, op := Go.Op.indexAddr 54 (Go.Operand.tmp 7) (Go.Operand.tmp 11), type := 0, pos := _, after := _, guard := _ }) (v := ?_) rfl (by kernel_rfl) (by kernel_rfl) (by kernel_rfl) (fun _ _ _ h => h) (Or.inl ⟨by rfl, ?_⟩) (by exact hHeld) ?_
  rotate_left
  · intro w hSw; go_simp; try with_reducible rfl
  try simp only [Act.put]
  try simp only [List.setIfInBounds_toArray]
  try simp only [List.set]
  refine wpAnyH_take (i := 9) (oi := { dst := some 13, op := Go.Op.load 5 (Go.Operand.tmp 12), type := 5, pos := _, after := _, guard := _ }) (v := ?_) rfl (by kernel_rfl) (by kernel_rfl) (by kernel_rfl) (fun _ _ _ h => h) (Or.inl ⟨by rfl, ?_⟩) (by exact hHeld) ?_
  rotate_left
  · intro w hSw; obtain ⟨c0, c1, c2, c3, c4, c5, f⟩ := hSw.rd.cells; rw [HAT.out] at c2; have hx := HCB.out _ hSw.x.chg; go_simp; try with_reducible rfl
  try simp only [Act.put]
  try simp only [List.setIfInBounds_toArray]
  try simp only [List.set]
  refine wpAnyH_take (i := 10) (oi := { dst := some 2, op := Go.Op.assign (Go.Operand.tmp 13), type := 5, pos := _, after := _, guard := _ }) (v := ?_) rfl (by kernel_rfl) (by kernel_rfl) (by kernel_rfl) (fun _ _ _ h => h) (Or.inl ⟨by rfl, ?_⟩) (by exact hHeld) ?_
  rotate_left
  · intro w hSw; go_simp; try with_reducible rfl
  try simp only [Act.put]
  try simp only [List.setIfInBounds_toArray]
  try simp only [List.set]
  refine wpAnyH_done (by kernel_rfl) ?_ _
  have H1 := Lib.hid hHeld
  clear hHeld HD HCB
  generalize w.drew = W1 at H1 ⊢
  go_wp2_with fail
  refine (HNM.out _ H1.out).mono ?_
  rintro e w3 ⟨rfl, h3, -⟩
  have H3 := Lib.hid h3
  clear h3 H1 HNM
  go_wp2_with fail
  refine (HKN.out _ H3.out).mono ?_
  rintro e w4 ⟨hp, a4⟩
  have H4 := Lib.hid (H3.out.aft a4)
  rcases hp with ⟨-, rfl⟩ | ⟨hp, _⟩
  rotate_left
  · cases hp
  clear a4 H3 HKN
  go_wp2_with fail
  refine (HRW.out _ H4.out).mono ?_
  intro e w9 hp
  have HSP := hp.step
  rcases hp.ends with rfl | ⟨a9, rfl⟩
  · have HSQ := Lib.hid HSP
    clear hp HSP HRW
    go_wp2_with fail
    refine bodyPost_end (v := .tuple #[]) (by simp [results, Tryd.results70, go_sem]) rfl ?_
    exact HSQ.out
  · have HSQ := Lib.hid HSP
    clear hp HSP HRW
    go_wp2_with fail
    exact ⟨rfl, HSQ.out⟩
set_option linter.unusedSimpArgs false in
set_option maxHeartbeats 16000000 in
set_option maxRecDepth 100000 in
theorem step_add_no {W0 w : World} {B gu g gr : Nat} {vo0 vk vr vo : Value} {top list : Int} {s : US} {va : Option Addr} {cap : Nat} {b : List UInt8} (hb : BR W0 g gr vo0 va cap b) (h : RS W0 w B gu g gr vo0 vk (.slice va b.length cap) top list s vr vo) (hsi : SI list b s) (hlist : list ≤ 2147483647) (c : UInt8) (hc : b[s.at_]? = some c) (hk : 64 ≤ c.toNat ∧ c.toNat < 128) (E : Int) (hE : E ≠ 0) (he : (writU s.tab b s.at_ 6).2.2 = E) :
    Calls Tryd.prog 70 #[.pointer (some ⟨gr, 0, none⟩)] w fun e w' => StepPost W0 B gu g gr vo0 vk (.slice va b.length cap) top list (s, E) e w' := by
  obtain ⟨hlt, hce⟩ := List.getElem?_eq_some_iff.1 hc
  have hne : b ≠ [] := by intro e; rw [e] at hlt; simp at hlt
  obtain ⟨pb, off, rfl, hcap1, hcap2, hcell⟩ := hb.at hne
  have HCB : Hid (∀ wx, Chg (TU gr g vo0) W0 wx → wx.cell? ⟨pb, off + s.at_, none⟩ = some (.int .u8 (c.toNat : Int))) := Lib.hid (fun wx hx => by have := hcell wx hx s.at_ hlt; rw [hce] at this; exact this)
  have hlen := hb.len
  have hs1 : s.sum ≤ 2147483647 := by have := hsi.sum; omega
  have hs2 : s.rows.length ≤ 10000000 := by have := hsi.rows; have := hsi.at_; omega
  have hs3 : sumF s.tab ≤ 65536 := by have h1 := hsi.tab; have h2 := hsi.most1; omega
  have HWR := Lib.hid (fun w' (h : RS W0 w' B gu g gr vo0 vk (.slice (some ⟨pb, off, none⟩) b.length cap) top list s vr vo) => written_no hb h hsi.at_ 6 (by omega) E hE he)
  have HE := Lib.hid hE
  obtain ⟨at_, hat⟩ : ∃ a, s.at_ = a := ⟨_, rfl⟩
  rw [hat] at HCB hlt
  have HAT := Lib.hid hat
  have HD : Hid (RS W0 w.drew B gu g gr vo0 vk (.slice (some ⟨pb, off, none⟩) b.length cap) top list s vr vo) := Lib.hid (h.aft ((Aft.refl w).drew))
  have i1 : (at_ : Int) < (b.length : Int) := by omega
  have d128 : decide (128 ≤ (c.toNat : Int)) = false := decide_eq_false (by omega)
  have d64 : decide (64 ≤ (c.toNat : Int)) = true := decide_eq_true (by omega)
  clear hb h hc hsi hlist hne hcell hce hat hlt hs1 hs2 hs3 hk hE he
  go_enter Tryd.func70, Tryd.ntmps70
  go_upto_region 0 with fail
  refine wp_region_held_drew (S := fun w' => RS W0 w' B gu g gr vo0 vk (.slice (some ⟨pb, off, none⟩) b.length cap) top list s vr vo) (by kernel_rfl) HD.out (fun hHeld => ?_)
  refine wpAnyH_take (i := 0) (oi := { dst := some 4, op := Go.Op.move (Go.Operand.tmp 0), type := 107, pos := _, after := _, guard := _ }) (v := ?_) rfl (by kernel_rfl) (by kernel_rfl) (by kernel_rfl) (fun _ _ _ h => h) (Or.inl ⟨by rfl, ?_⟩) (by exact hHeld) ?_
  rotate_left
  · intro w hSw; go_simp; try with_reducible rfl
  try simp only [Act.put]
  try simp only [List.setIfInBounds_toArray]
  try simp only [List.set]
  refine wpAnyH_take (i := 1) (oi := { dst := some 5, op := Go.Op.nilCheck (Go.Operand.tmp 4), type := 0, pos := _, after := _, guard := _ }) (v := ?_) rfl (by kernel_rfl) (by kernel_rfl) (by kernel_rfl) (fun _ _ _ h => h) (Or.inl ⟨by rfl, ?_⟩) (by exact hHeld) ?_
  rotate_left
  · intro w hSw; go_simp; try with_reducible rfl
  try simp only [Act.put]
  try simp only [List.setIfInBounds_toArray]
  try simp only [List.set]
  refine wpAnyH_take (i := 2) (oi := { dst := some 6, op := Go.Op.fieldAddr 109 (Go.Operand.tmp 5) 1, type := 0, pos := _, after := _, guard := _ }) (v := ?_) rfl (by kernel_rfl) (by kernel_rfl) (by kernel_rfl) (fun _ _ _ h => h) (Or.inl ⟨by rfl, ?_⟩) (by exact hHeld) ?_
  rotate_left
  · intro w hSw; go_simp; try with_reducible rfl
  try simp only [Act.put]
  try simp only [List.setIfInBounds_toArray]
  try simp only [List.set]
  refine wpAnyH_take (i := 3) (oi := { dst := some 7, op := Go.Op.load 54 (Go.Operand.tmp 6), type := 54, pos := _, after := _, guard := _ }) (v := ?_) rfl (by kernel_rfl) (by kernel_rfl) (by kernel_rfl) (fun _ _ _ h => h) (Or.inl ⟨by rfl, ?_⟩) (by exact hHeld) ?_
  rotate_left
  · intro w hSw; obtain ⟨c0, c1, c2, c3, c4, c5, f⟩ := hSw.rd.cells; rw [HAT.out] at c2; have hx := HCB.out _ hSw.x.chg; go_simp; try with_reducible rfl
  try simp only [Act.put]
  try simp only [List.setIfInBounds_toArray]
  try simp only [List.set]
  refine wpAnyH_take (i := 4) (oi := { dst := some 8, op := Go.Op.move (Go.Operand.tmp 0), type := 107, pos := _, after := _, guard := _ }) (v := ?_) rfl (by kernel_rfl) (by kernel_rfl) (by kernel_rfl) (fun _ _ _ h => h) (Or.inl ⟨by rfl, ?_⟩) (by exact hHeld) ?_
  rotate_left
  · intro w hSw; go_simp; try with_reducible rfl
  try simp only [Act.put]
  try simp only [List.setIfInBounds_toArray]
  try simp only [List.set]
  refine wpAnyH_take (i := 5) (oi := { dst := some 9, op := Go.Op.nilCheck (Go.Operand.tmp 8), type := 0, pos := _, after := _, guard := _ }) (v := ?_) rfl (by kernel_rfl) (by kernel_rfl) (by kernel_rfl) (fun _ _ _ h => h) (Or.inl ⟨by rfl, ?_⟩) (by exact hHeld) ?_
  rotate_left
  · intro w hSw; go_simp; try with_reducible rfl
  try simp only [Act.put]
  try simp only [List.setIfInBounds_toArray]
  try simp only [List.set]
  refine wpAnyH_take (i := 6) (oi := { dst := some 10, op := Go.Op.fieldAddr 109 (Go.Operand.tmp 9) 2, type := 0, pos := _, after := _, guard := _ }) (v := ?_) rfl (by kernel_rfl) (by kernel_rfl) (by kernel_rfl) (fun _ _ _ h => h) (Or.inl ⟨by rfl, ?_⟩) (by exact hHeld) ?_
  rotate_left
  · intro w hSw; go_simp; try with_reducible rfl
  try simp only [Act.put]
  try simp only [List.setIfInBounds_toArray]
  try simp only [List.set]
  refine wpAnyH_take (i := 7) (oi := { dst := some 11, op := Go.Op.load 3 (Go.Operand.tmp 10), type := 3, pos := _, after := _, guard := _ }) (v := ?_) rfl (by kernel_rfl) (by kernel_rfl) (by kernel_rfl) (fun _ _ _ h => h) (Or.inl ⟨by rfl, ?_⟩) (by exact hHeld) ?_
  rotate_left
  · intro w hSw; obtain ⟨c0, c1, c2, c3, c4, c5, f⟩ := hSw.rd.cells; rw [HAT.out] at c2; have hx := HCB.out _ hSw.x.chg; go_simp; try with_reducible rfl
  try simp only [Act.put]
  try simp only [List.setIfInBounds_toArray]
  try simp only [List.set]
  refine wpAnyH_take (i := 8) (oi := { dst := some 12, op := Go.Op.indexAddr 54 (Go.Operand.tmp 7) (Go.Operand.tmp 11), type := 0, pos := _, after := _, guard := _ }) (v := ?_) rfl (by kernel_rfl) (by kernel_rfl) (by kernel_rfl) (fun _ _ _ h => h) (Or.inl ⟨by rfl, ?_⟩) (by exact hHeld) ?_
  rotate_left
  · intro w hSw; go_simp; try with_reducible rfl
  try simp only [Act.put]
  try simp only [List.setIfInBounds_toArray]
  try simp only [List.set]
  refine wpAnyH_take (i := 9) (oi := { dst := some 13, op := Go.Op.load 5 (Go.Operand.tmp 12), type := 5, pos := _, after := _, guard := _ }) (v := ?_) rfl (by kernel_rfl) (by kernel_rfl) (by kernel_rfl) (fun _ _ _ h => h) (Or.inl ⟨by rfl, ?_⟩) (by exact hHeld) ?_
  rotate_left
  · intro w hSw; obtain ⟨c0, c1, c2, c3, c4, c5, f⟩ := hSw.rd.cells; rw [HAT.out] at c2; have hx := HCB.out _ hSw.x.chg; go_simp; try with_reducible rfl
  try simp only [Act.put]
  try simp only [List.setIfInBounds_toArray]
  try simp only [List.set]
  refine wpAnyH_take (i := 10) (oi := { dst := some 2, op := Go.Op.assign (Go.Operand.tmp 13), type := 5, pos := _, after := _, guard := _ }) (v := ?_) rfl (by kernel_rfl) (by kernel_rfl) (by kernel_rfl) (fun _ _ _ h => h) (Or.inl ⟨by rfl, ?_⟩) (by exact hHeld) ?_
  rotate_left
  · intro w hSw; go_simp; try with_reducible rfl
  try simp only [Act.put]
  try simp only [List.setIfInBounds_toArray]
  try simp only [List.set]
  refine wpAnyH_done (by kernel_rfl) ?_ _
  have H1 := Lib.hid hHeld
  clear hHeld HD HCB
  generalize w.drew = W1 at H1 ⊢
  go_wp2_with fail
  refine (HWR.out _ H1.out).mono ?_
  rintro e w3 ⟨⟨a9, rfl⟩, h3⟩
  have HX := Lib.hid h3
  clear h3 H1 HWR
  go_wp2_with fail
  exact ⟨rfl, Or.inr ⟨HE.out, ⟨_, rfl⟩, _, HX.out⟩⟩
set_option linter.unusedSimpArgs false in
set_option maxHeartbeats 16000000 in
set_option maxRecDepth 100000 in
theorem step_nev_no {W0 w : World} {B gu g gr : Nat} {vo0 vk vr vo : Value} {top list : Int} {s : US} {va : Option Addr} {cap : Nat} {b : List UInt8} (hb : BR W0 g gr vo0 va cap b) (h : RS W0 w B gu g gr vo0 vk (.slice va b.length cap) top list s vr vo) (hsi : SI list b s) (hlist : list ≤ 2147483647) (c : UInt8) (hc : b[s.at_]? = some c) (hk : 16 ≤ c.toNat ∧ c.toNat < 32) (E : Int) (hE : E ≠ 0) (he : (writU s.tab b s.at_ 4).2.2 = E) :
    Calls Tryd.prog 70 #[.pointer (some ⟨gr, 0, none⟩)] w fun e w' => StepPost W0 B gu g gr vo0 vk (.slice va b.length cap) top list (s, E) e w' := by
  obtain ⟨hlt, hce⟩ := List.getElem?_eq_some_iff.1 hc
  have hne : b ≠ [] := by intro e; rw [e] at hlt; simp at hlt
  obtain ⟨pb, off, rfl, hcap1, hcap2, hcell⟩ := hb.at hne
  have HCB : Hid (∀ wx, Chg (TU gr g vo0) W0 wx → wx.cell? ⟨pb, off + s.at_, none⟩ = some (.int .u8 (c.toNat : Int))) := Lib.hid (fun wx hx => by have := hcell wx hx s.at_ hlt; rw [hce] at this; exact this)
  have hlen := hb.len
  have hs1 : s.sum ≤ 2147483647 := by have := hsi.sum; omega
  have hs2 : s.rows.length ≤ 10000000 := by have := hsi.rows; have := hsi.at_; omega
  have hs3 : sumF s.tab ≤ 65536 := by have h1 := hsi.tab; have h2 := hsi.most1; omega
  have HWR := Lib.hid (fun w' (h : RS W0 w' B gu g gr vo0 vk (.slice (some ⟨pb, off, none⟩) b.length cap) top list s vr vo) => written_no hb h hsi.at_ 4 (by omega) E hE he)
  have HE := Lib.hid hE
  obtain ⟨at_, hat⟩ : ∃ a, s.at_ = a := ⟨_, rfl⟩
  rw [hat] at HCB hlt
  have HAT := Lib.hid hat
  have HD : Hid (RS W0 w.drew B gu g gr vo0 vk (.slice (some ⟨pb, off, none⟩) b.length cap) top list s vr vo) := Lib.hid (h.aft ((Aft.refl w).drew))
  have i1 : (at_ : Int) < (b.length : Int) := by omega
  have d128 : decide (128 ≤ (c.toNat : Int)) = false := decide_eq_false (by omega)
  have d64 : decide (64 ≤ (c.toNat : Int)) = false := decide_eq_false (by omega)
  have d32 : decide (32 ≤ (c.toNat : Int)) = false := decide_eq_false (by omega)
  have d16 : decide (16 ≤ (c.toNat : Int)) = true := decide_eq_true (by omega)
  clear hb h hc hsi hlist hne hcell hce hat hlt hs1 hs2 hs3 hk hE he
  go_enter Tryd.func70, Tryd.ntmps70
  go_upto_region 0 with fail
  refine wp_region_held_drew (S := fun w' => RS W0 w' B gu g gr vo0 vk (.slice (some ⟨pb, off, none⟩) b.length cap) top list s vr vo) (by kernel_rfl) HD.out (fun hHeld => ?_)
  refine wpAnyH_take (i := 0) (oi := { dst := some 4, op := Go.Op.move (Go.Operand.tmp 0), type := 107, pos := _, after := _, guard := _ }) (v := ?_) rfl (by kernel_rfl) (by kernel_rfl) (by kernel_rfl) (fun _ _ _ h => h) (Or.inl ⟨by rfl, ?_⟩) (by exact hHeld) ?_
  rotate_left
  · intro w hSw; go_simp; try with_reducible rfl
  try simp only [Act.put]
  try simp only [List.setIfInBounds_toArray]
  try simp only [List.set]
  refine wpAnyH_take (i := 1) (oi := { dst := some 5, op := Go.Op.nilCheck (Go.Operand.tmp 4), type := 0, pos := _, after := _, guard := _ }) (v := ?_) rfl (by kernel_rfl) (by kernel_rfl) (by kernel_rfl) (fun _ _ _ h => h) (Or.inl ⟨by rfl, ?_⟩) (by exact hHeld) ?_
  rotate_left
  · intro w hSw; go_simp; try with_reducible rfl
  try simp only [Act.put]
  try simp only [List.setIfInBounds_toArray]
  try simp only [List.set]
  refine wpAnyH_take (i := 2) (oi := { dst := some 6, op := Go.Op.fieldAddr 109 (Go.Operand.tmp 5) 1, type := 0, pos := _, after := _, guard := _ }) (v := ?_) rfl (by kernel_rfl) (by kernel_rfl) (by kernel_rfl) (fun _ _ _ h => h) (Or.inl ⟨by rfl, ?_⟩) (by exact hHeld) ?_
  rotate_left
  · intro w hSw; go_simp; try with_reducible rfl
  try simp only [Act.put]
  try simp only [List.setIfInBounds_toArray]
  try simp only [List.set]
  refine wpAnyH_take (i := 3) (oi := { dst := some 7, op := Go.Op.load 54 (Go.Operand.tmp 6), type := 54, pos := _, after := _, guard := _ }) (v := ?_) rfl (by kernel_rfl) (by kernel_rfl) (by kernel_rfl) (fun _ _ _ h => h) (Or.inl ⟨by rfl, ?_⟩) (by exact hHeld) ?_
  rotate_left
  · intro w hSw; obtain ⟨c0, c1, c2, c3, c4, c5, f⟩ := hSw.rd.cells; rw [HAT.out] at c2; have hx := HCB.out _ hSw.x.chg; go_simp; try with_reducible rfl
  try simp only [Act.put]
  try simp only [List.setIfInBounds_toArray]
  try simp only [List.set]
  refine wpAnyH_take (i := 4) (oi := { dst := some 8, op := Go.Op.move (Go.Operand.tmp 0), type := 107, pos := _, after := _, guard := _ }) (v := ?_) rfl (by kernel_rfl) (by kernel_rfl) (by kernel_rfl) (fun _ _ _ h => h) (Or.inl ⟨by rfl, ?_⟩) (by exact hHeld) ?_
  rotate_left
  · intro w hSw; go_simp; try with_reducible rfl
  try simp only [Act.put]
  try simp only [List.setIfInBounds_toArray]
  try simp only [List.set]
  refine wpAnyH_take (i := 5) (oi := { dst := some 9, op := Go.Op.nilCheck (Go.Operand.tmp 8), type := 0, pos := _, after := _, guard := _ }) (v := ?_) rfl (by kernel_rfl) (by kernel_rfl) (by kernel_rfl) (fun _ _ _ h => h) (Or.inl ⟨by rfl, ?_⟩) (by exact hHeld) ?_
  rotate_left
  · intro w hSw; go_simp; try with_reducible rfl
  try simp only [Act.put]
  try simp only [List.setIfInBounds_toArray]
  try simp only [List.set]
  refine wpAnyH_take (i := 6) (oi := { dst := some 10, op := Go.Op.fieldAddr 109 (Go.Operand.tmp 9) 2, type := 0, pos := _, after := _, guard := _ }) (v := ?_) rfl (by kernel_rfl) (by kernel_rfl) (by kernel_rfl) (fun _ _ _ h => h) (Or.inl ⟨by rfl, ?_⟩) (by exact hHeld) ?_
  rotate_left
  · intro w hSw; go_simp; try with_reducible rfl
  try simp only [Act.put]
  try simp only [List.setIfInBounds_toArray]
  try simp only [List.set]
  refine wpAnyH_take (i := 7) (oi := { dst := some 11, op := Go.Op.load 3 (Go.Operand.tmp 10), type := 3, pos := _, after := _, guard := _ }) (v := ?_) rfl (by kernel_rfl) (by kernel_rfl) (by kernel_rfl) (fun _ _ _ h => h) (Or.inl ⟨by rfl, ?_⟩) (by exact hHeld) ?_
  rotate_left
  · intro w hSw; obtain ⟨c0, c1, c2, c3, c4, c5, f⟩ := hSw.rd.cells; rw [HAT.out] at c2; have hx := HCB.out _ hSw.x.chg; go_simp; try with_reducible rfl
  try simp only [Act.put]
  try simp only [List.setIfInBounds_toArray]
  try simp only [List.set]
  refine wpAnyH_take (i := 8) (oi := { dst := some 12, op := Go.Op.indexAddr 54 (Go.Operand.tmp 7) (Go.Operand.tmp 11), type := 0, pos := _, after := _, guard := _ }) (v := ?_) rfl (by kernel_rfl) (by kernel_rfl) (by kernel_rfl) (fun _ _ _ h => h) (Or.inl ⟨by rfl, ?_⟩) (by exact hHeld) ?_
  rotate_left
  · intro w hSw; go_simp; try with_reducible rfl
  try simp only [Act.put]
  try simp only [List.setIfInBounds_toArray]
  try simp only [List.set]
  refine wpAnyH_take (i := 9) (oi := { dst := some 13, op := Go.Op.load 5 (Go.Operand.tmp 12), type := 5, pos := _, after := _, guard := _ }) (v := ?_) rfl (by kernel_rfl) (by kernel_rfl) (by kernel_rfl) (fun _ _ _ h => h) (Or.inl ⟨by rfl, ?_⟩) (by exact hHeld) ?_
  rotate_left
  · intro w hSw; obtain ⟨c0, c1, c2, c3, c4, c5, f⟩ := hSw.rd.cells; rw [HAT.out] at c2; have hx := HCB.out _ hSw.x.chg; go_simp; try with_reducible rfl
  try simp only [Act.put]
  try simp only [List.setIfInBounds_toArray]
  try simp only [List.set]
  refine wpAnyH_take (i := 10) (oi := { dst := some 2, op := Go.Op.assign (Go.Operand.tmp 13), type := 5, pos := _, after := _, guard := _ }) (v := ?_) rfl (by kernel_rfl) (by kernel_rfl) (by kernel_rfl) (fun _ _ _ h => h) (Or.inl ⟨by rfl, ?_⟩) (by exact hHeld) ?_
  rotate_left
  · intro w hSw; go_simp; try with_reducible rfl
  try simp only [Act.put]
  try simp only [List.setIfInBounds_toArray]
  try simp only [List.set]
  refine wpAnyH_done (by kernel_rfl) ?_ _
  have H1 := Lib.hid hHeld
  clear hHeld HD HCB
  generalize w.drew = W1 at H1 ⊢
  go_wp2_with fail
  refine (HWR.out _ H1.out).mono ?_
  rintro e w3 ⟨⟨a9, rfl⟩, h3⟩
  have HX := Lib.hid h3
  clear h3 H1 HWR
  go_wp2_with fail
  exact ⟨rfl, Or.inr ⟨HE.out, ⟨_, rfl⟩, _, HX.out⟩⟩
set_option linter.unusedSimpArgs false in
set_option maxHeartbeats 16000000 in
set_option maxRecDepth 100000 in
theorem step_not_no {W0 w : World} {B gu g gr : Nat} {vo0 vk vr vo : Value} {top list : Int} {s : US} {va : Option Addr} {cap : Nat} {b : List UInt8} (hb : BR W0 g gr vo0 va cap b) (h : RS W0 w B gu g gr vo0 vk (.slice va b.length cap) top list s vr vo) (hsi : SI list b s) (hlist : list ≤ 2147483647) (c : UInt8) (hc : b[s.at_]? = some c) (hk : c.toNat < 16) (E : Int) (hE : E ≠ 0) (he : (writU s.tab b s.at_ 4).2.2 = E) :
    Calls Tryd.prog 70 #[.pointer (some ⟨gr, 0, none⟩)] w fun e w' => StepPost W0 B gu g gr vo0 vk (.slice va b.length cap) top list (s, E) e w' := by
  obtain ⟨hlt, hce⟩ := List.getElem?_eq_some_iff.1 hc
  have hne : b ≠ [] := by intro e; rw [e] at hlt; simp at hlt
  obtain ⟨pb, off, rfl, hcap1, hcap2, hcell⟩ := hb.at hne
  have HCB : Hid (∀ wx, Chg (TU gr g vo0) W0 wx → wx.cell? ⟨pb, off + s.at_, none⟩ = some (.int .u8 (c.toNat : Int))) := Lib.hid (fun wx hx => by have := hcell wx hx s.at_ hlt; rw [hce] at this; exact this)
  have hlen := hb.len
  have hs1 : s.sum ≤ 2147483647 := by have := hsi.sum; omega
  have hs2 : s.rows.length ≤ 10000000 := by have := hsi.rows; have := hsi.at_; omega
  have hs3 : sumF s.tab ≤ 65536 := by have h1 := hsi.tab; have h2 := hsi.most1; omega
  have HWR := Lib.hid (fun w' (h : RS W0 w' B gu g gr vo0 vk (.slice (some ⟨pb, off, none⟩) b.length cap) top list s vr vo) => written_no hb h hsi.at_ 4 (by omega) E hE he)
  have HE := Lib.hid hE
  obtain ⟨at_, hat⟩ : ∃ a, s.at_ = a := ⟨_, rfl⟩
  rw [hat] at HCB hlt
  have HAT := Lib.hid hat
  have HD : Hid (RS W0 w.drew B gu g gr vo0 vk (.slice (some ⟨pb, off, none⟩) b.length cap) top list s vr vo) := Lib.hid (h.aft ((Aft.refl w).drew))
  have i1 : (at_ : Int) < (b.length : Int) := by omega
  have d128 : decide (128 ≤ (c.toNat : Int)) = false := decide_eq_false (by omega)
  have d64 : decide (64 ≤ (c.toNat : Int)) = false := decide_eq_false (by omega)
  have d32 : decide (32 ≤ (c.toNat : Int)) = false := decide_eq_false (by omega)
  have d16 : decide (16 ≤ (c.toNat : Int)) = false := decide_eq_false (by omega)
  clear hb h hc hsi hlist hne hcell hce hat hlt hs1 hs2 hs3 hk hE he
  go_enter Tryd.func70, Tryd.ntmps70
  go_upto_region 0 with fail
  refine wp_region_held_drew (S := fun w' => RS W0 w' B gu g gr vo0 vk (.slice (some ⟨pb, off, none⟩) b.length cap) top list s vr vo) (by kernel_rfl) HD.out (fun hHeld => ?_)
  refine wpAnyH_take (i := 0) (oi := { dst := some 4, op := Go.Op.move (Go.Operand.tmp 0), type := 107, pos := _, after := _, guard := _ }) (v := ?_) rfl (by kernel_rfl) (by kernel_rfl) (by kernel_rfl) (fun _ _ _ h => h) (Or.inl ⟨by rfl, ?_⟩) (by exact hHeld) ?_
  rotate_left
  · intro w hSw; go_simp; try with_reducible rfl
  try simp only [Act.put]
  try simp only [List.setIfInBounds_toArray]
  try simp only [List.set]
  refine wpAnyH_take (i := 1) (oi := { dst := some 5, op := Go.Op.nilCheck (Go.Operand.tmp 4), type := 0, pos := _, after := _, guard := _ }) (v := ?_) rfl (by kernel_rfl) (by kernel_rfl) (by kernel_rfl) (fun _ _ _ h => h) (Or.inl ⟨by rfl, ?_⟩) (by exact hHeld) ?_
  rotate_left
  · intro w hSw; go_simp; try with_reducible rfl
  try simp only [Act.put]
  try simp only [List.setIfInBounds_toArray]
  try simp only [List.set]
  refine wpAnyH_take (i := 2) (oi := { dst := some 6, op := Go.Op.fieldAddr 109 (Go.Operand.tmp 5) 1, type := 0, pos := _, after := _, guard := _ }) (v := ?_) rfl (by kernel_rfl) (by kernel_rfl) (by kernel_rfl) (fun _ _ _ h => h) (Or.inl ⟨by rfl, ?_⟩) (by exact hHeld) ?_
  rotate_left
  · intro w hSw; go_simp; try with_reducible rfl
  try simp only [Act.put]
  try simp only [List.setIfInBounds_toArray]
  try simp only [List.set]
  refine wpAnyH_take (i := 3) (oi := { dst := some 7, op := Go.Op.load 54 (Go.Operand.tmp 6), type := 54, pos := _, after := _, guard := _ }) (v := ?_) rfl (by kernel_rfl) (by kernel_rfl) (by kernel_rfl) (fun _ _ _ h => h) (Or.inl ⟨by rfl, ?_⟩) (by exact hHeld) ?_
  rotate_left
  · intro w hSw; obtain ⟨c0, c1, c2, c3, c4, c5, f⟩ := hSw.rd.cells; rw [HAT.out] at c2; have hx := HCB.out _ hSw.x.chg; go_simp; try with_reducible rfl
  try simp only [Act.put]
  try simp only [List.setIfInBounds_toArray]
  try simp only [List.set]
  refine wpAnyH_take (i := 4) (oi := { dst := some 8, op := Go.Op.move (Go.Operand.tmp 0), type := 107, pos := _, after := _, guard := _ }) (v := ?_) rfl (by kernel_rfl) (by kernel_rfl) (by kernel_rfl) (fun _ _ _ h => h) (Or.inl ⟨by rfl, ?_⟩) (by exact hHeld) ?_
  rotate_left
  · intro w hSw; go_simp; try with_reducible rfl
  try simp only [Act.put]
  try simp only [List.setIfInBounds_toArray]
  try simp only [List.set]
  refine wpAnyH_take (i := 5) (oi := { dst := some 9, op := Go.Op.nilCheck (Go.Operand.tmp 8), type := 0, pos := _, after := _, guard := _ }) (v := ?_) rfl (by kernel_rfl) (by kernel_rfl) (by kernel_rfl) (fun _ _ _ h => h) (Or.inl ⟨by rfl, ?_⟩) (by exact hHeld) ?_
  rotate_left
  · intro w hSw; go_simp; try with_reducible rfl
  try simp only [Act.put]
  try simp only [List.setIfInBounds_toArray]
  try simp only [List.set]
  refine wpAnyH_take (i := 6) (oi := { dst := some 10, op := Go.Op.fieldAddr 109 (Go.Operand.tmp 9) 2, type := 0, pos := _, after := _, guard := _ }) (v := ?_) rfl (by kernel_rfl) (by kernel_rfl) (by kernel_rfl) (fun _ _ _ h => h) (Or.inl ⟨by rfl, ?_⟩) (by exact hHeld) ?_
  rotate_left
  · intro w hSw; go_simp; try with_reducible rfl
  try simp only [Act.put]
  try simp only [List.setIfInBounds_toArray]
  try simp only [List.set]
  refine wpAnyH_take (i := 7) (oi := { dst := some 11, op := Go.Op.load 3 (Go.Operand.tmp 10), type := 3, pos := _, after := _, guard := _ }) (v := ?_) rfl (by kernel_rfl) (by kernel_rfl) (by kernel_rfl) (fun _ _ _ h => h) (Or.inl ⟨by rfl, ?_⟩) (by exact hHeld) ?_
  rotate_left
  · intro w hSw; obtain ⟨c0, c1, c2, c3, c4, c5, f⟩ := hSw.rd.cells; rw [HAT.out] at c2; have hx := HCB.out _ hSw.x.chg; go_simp; try with_reducible rfl
  try simp only [Act.put]
  try simp only [List.setIfInBounds_toArray]
  try simp only [List.set]
  refine wpAnyH_take (i := 8) (oi := { dst := some 12, op := Go.Op.indexAddr 54 (Go.Operand.tmp 7) (Go.Operand.tmp 11), type := 0, pos := _, after := _, guard := _ }) (v := ?_) rfl (by kernel_rfl) (by kernel_rfl) (by kernel_rfl) (fun _ _ _ h => h) (Or.inl ⟨by rfl, ?_⟩) (by exact hHeld) ?_
  rotate_left
  · intro w hSw; go_simp; try with_reducible rfl
  try simp only [Act.put]
  try simp only [List.setIfInBounds_toArray]
  try simp only [List.set]
  refine wpAnyH_take (i := 9) (oi := { dst := some 13, op := Go.Op.load 5 (Go.Operand.tmp 12), type := 5, pos := _, after := _, guard := _ }) (v := ?_) rfl (by kernel_rfl) (by kernel_rfl) (by kernel_rfl) (fun _ _ _ h => h) (Or.inl ⟨by rfl, ?_⟩) (by exact hHeld) ?_
  rotate_left
  · intro w hSw; obtain ⟨c0, c1, c2, c3, c4, c5, f⟩ := hSw.rd.cells; rw [HAT.out] at c2; have hx := HCB.out _ hSw.x.chg; go_simp; try with_reducible rfl
  try simp only [Act.put]
  try simp only [List.setIfInBounds_toArray]
  try simp only [List.set]
  refine wpAnyH_take (i := 10) (oi := { dst := some 2, op := Go.Op.assign (Go.Operand.tmp 13), type := 5, pos := _, after := _, guard := _ }) (v := ?_) rfl (by kernel_rfl) (by kernel_rfl) (by kernel_rfl) (fun _ _ _ h => h) (Or.inl ⟨by rfl, ?_⟩) (by exact hHeld) ?_
  rotate_left
  · intro w hSw; go_simp; try with_reducible rfl
  try simp only [Act.put]
  try simp only [List.setIfInBounds_toArray]
  try simp only [List.set]
  refine wpAnyH_done (by kernel_rfl) ?_ _
  have H1 := Lib.hid hHeld
  clear hHeld HD HCB
  generalize w.drew = W1 at H1 ⊢
  go_wp2_with fail
  refine (HWR.out _ H1.out).mono ?_
  rintro e w3 ⟨⟨a9, rfl⟩, h3⟩
  have HX := Lib.hid h3
  clear h3 H1 HWR
  go_wp2_with fail
  exact ⟨rfl, Or.inr ⟨HE.out, ⟨_, rfl⟩, _, HX.out⟩⟩
set_option linter.unusedSimpArgs false in
set_option maxHeartbeats 16000000 in
set_option maxRecDepth 100000 in
theorem step_nev_ok {W0 w : World} {B gu g gr : Nat} {vo0 vk vr vo : Value} {top list : Int} {s : US} {va : Option Addr} {cap : Nat} {b : List UInt8} (hb : BR W0 g gr vo0 va cap b) (h : RS W0 w B gu g gr vo0 vk (.slice va b.length cap) top list s vr vo) (hsi : SI list b s) (hlist : list ≤ 2147483647) (c : UInt8) (hc : b[s.at_]? = some c) (hk : 16 ≤ c.toNat ∧ c.toNat < 32) (F : FieldL) (t1 : Nat) (hw : writU s.tab b s.at_ 4 = (F, t1, 0)) :
    Calls Tryd.prog 70 #[.pointer (some ⟨gr, 0, none⟩)] w fun e w' => StepPost W0 B gu g gr vo0 vk (.slice va b.length cap) top list (rowQ list { s with at_ := t1 } F 3) e w' := by
  obtain ⟨hlt, hce⟩ := List.getElem?_eq_some_iff.1 hc
  have hne : b ≠ [] := by intro e; rw [e] at hlt; simp at hlt
  obtain ⟨pb, off, rfl, hcap1, hcap2, hcell⟩ := hb.at hne
  have HCB : Hid (∀ wx, Chg (TU gr g vo0) W0 wx → wx.cell? ⟨pb, off + s.at_, none⟩ = some (.int .u8 (c.toNat : Int))) := Lib.hid (fun wx hx => by have := hcell wx hx s.at_ hlt; rw [hce] at this; exact this)
  have hlen := hb.len
  have hs1 : s.sum ≤ 2147483647 := by have := hsi.sum; omega
  have hs2 : s.rows.length ≤ 10000000 := by have := hsi.rows; have := hsi.at_; omega
  have hs3 : sumF s.tab ≤ 65536 := by have h1 := hsi.tab; have h2 := hsi.most1; omega
  have hfs := writU_size (b := b) (at_ := s.at_) (bits := 4) hs3 (by rw [hw])
  have HWR := Lib.hid (fun w' (h : RS W0 w' B gu g gr vo0 vk (.slice (some ⟨pb, off, none⟩) b.length cap) top list s vr vo) => written_ok hb h hsi.at_ 4 (by omega) (by rw [hw]))
  rw [hw] at HWR hfs
  simp only at HWR hfs
  have HRW := Lib.hid (fun w' (h : RS W0 w' B gu g gr vo0 vk (.slice (some ⟨pb, off, none⟩) b.length cap) top list { s with at_ := t1 } vr vo) => row_any h F 3 hs1 (by omega) hs2)
  obtain ⟨FV, hFV⟩ : ∃ v, fieldV F = v := ⟨_, rfl⟩
  rw [hFV] at HWR HRW
  obtain ⟨at_, hat⟩ : ∃ a, s.at_ = a := ⟨_, rfl⟩
  rw [hat] at HCB hlt
  have HAT := Lib.hid hat
  have HD : Hid (RS W0 w.drew B gu g gr vo0 vk (.slice (some ⟨pb, off, none⟩) b.length cap) top list s vr vo) := Lib.hid (h.aft ((Aft.refl w).drew))
  have i1 : (at_ : Int) < (b.length : Int) := by omega
  have d128 : decide (128 ≤ (c.toNat : Int)) = false := decide_eq_false (by omega)
  have d64 : decide (64 ≤ (c.toNat : Int)) = false := decide_eq_false (by omega)
  have d32 : decide (32 ≤ (c.toNat : Int)) = false := decide_eq_false (by omega)
  have d16 : decide (16 ≤ (c.toNat : Int)) = true := decide_eq_true (by omega)
  clear hb h hc hsi hlist hne hcell hce hat hlt hs1 hs2 hs3 hk hw hfs hFV
  go_enter Tryd.func70, Tryd.ntmps70
  go_upto_region 0 with fail
  refine wp_region_held_drew (S := fun w' => RS W0 w' B gu g gr vo0 vk (.slice (some ⟨pb, off, none⟩) b.length cap) top list s vr vo) (by kernel_rfl) HD.out (fun hHeld => ?_)
  refine wpAnyH_take (i := 0) (oi := { dst := some 4, op := Go.Op.move (Go.Operand.tmp 0), type := 107, pos := _, after := _, guard := _ }) (v := ?_) rfl (by kernel_rfl) (by kernel_rfl) (by kernel_rfl) (fun _ _ _ h => h) (Or.inl ⟨by rfl, ?_⟩) (by exact hHeld) ?_
  rotate_left
  · intro w hSw; go_simp; try with_reducible rfl
  try simp only [Act.put]
  try simp only [List.setIfInBounds_toArray]
  try simp only [List.set]
  refine wpAnyH_take (i := 1) (oi := { dst := some 5, op := Go.Op.nilCheck (Go.Operand.tmp 4), type := 0, pos := _, after := _, guard := _ }) (v := ?_) rfl (by kernel_rfl) (by kernel_rfl) (by kernel_rfl) (fun _ _ _ h => h) (Or.inl ⟨by rfl, ?_⟩) (by exact hHeld) ?_
  rotate_left
  · intro w hSw; go_simp; try with_reducible rfl
  try simp only [Act.put]
  try simp only [List.setIfInBounds_toArray]
  try simp only [List.set]
  refine wpAnyH_take (i := 2) (oi := { dst := some 6, op := Go.Op.fieldAddr 109 (Go.Operand.tmp 5) 1, type := 0, pos := _, after := _, guard := _ }) (v := ?_) rfl (by kernel_rfl) (by kernel_rfl) (by kernel_rfl) (fun _ _ _ h => h) (Or.inl ⟨by rfl, ?_⟩) (by exact hHeld) ?_
  rotate_left
  · intro w hSw; go_simp; try with_reducible rfl
  try simp only [Act.put]
  try simp only [List.setIfInBounds_toArray]
  try simp only [List.set]
  refine wpAnyH_take (i := 3) (oi := { dst := some 7, op := Go.Op.load 54 (Go.Operand.tmp 6), type := 54, pos := _, after := _, guard := _ }) (v := ?_) rfl (by kernel_rfl) (by kernel_rfl) (by kernel_rfl) (fun _ _ _ h => h) (Or.inl ⟨by rfl, ?_⟩) (by exact hHeld) ?_
  rotate_left
  · intro w hSw; obtain ⟨c0, c1, c2, c3, c4, c5, f⟩ := hSw.rd.cells; rw [HAT.out] at c2; have hx := HCB.out _ hSw.x.chg; go_simp; try with_reducible rfl
  try simp only [Act.put]
  try simp only [List.setIfInBounds_toArray]
  try simp only [List.set]
  refine wpAnyH_take (i := 4) (oi := { dst := some 8, op := Go.Op.move (Go.Operand.tmp 0), type := 107, pos := _, after := _, guard := _ }) (v := ?_) rfl (by kernel_rfl) (by kernel_rfl) (by kernel_rfl) (fun _ _ _ h => h) (Or.inl ⟨by rfl, ?_⟩) (by exact hHeld) ?_
  rotate_left
  · intro w hSw; go_simp; try with_reducible rfl
  try simp only [Act.put]
  try simp only [List.setIfInBounds_toArray]
  try simp only [List.set]
  refine wpAnyH_take (i := 5) (oi := { dst := some 9, op := Go.Op.nilCheck (Go.Operand.tmp 8), type := 0, pos := _, after := _, guard := _ }) (v := ?_) rfl (by kernel_rfl) (by kernel_rfl) (by kernel_rfl) (fun _ _ _ h => h) (Or.inl ⟨by rfl, ?_⟩) (by exact hHeld) ?_
  rotate_left
  · intro w hSw; go_simp; try with_reducible rfl
  try simp only [Act.put]
  try simp only [List.setIfInBounds_toArray]
  try simp only [List.set]
  refine wpAnyH_take (i := 6) (oi := { dst := some 10, op := Go.Op.fieldAddr 109 (Go.Operand.tmp 9) 2, type := 0, pos := _, after := _, guard := _ }) (v := ?_) rfl (by kernel_rfl) (by kernel_rfl) (by kernel_rfl) (fun _ _ _ h => h) (Or.inl ⟨by rfl, ?_⟩) (by exact hHeld) ?_
  rotate_left
  · intro w hSw; go_simp; try with_reducible rfl
  try simp only [Act.put]
  try simp only [List.setIfInBounds_toArray]
  try simp only [List.set]
  refine wpAnyH_take (i := 7) (oi := { dst := some 11, op := Go.Op.load 3 (Go.Operand.tmp 10), type := 3, pos := _, after := _, guard := _ }) (v := ?_) rfl (by kernel_rfl) (by kernel_rfl) (by kernel_rfl) (fun _ _ _ h => h) (Or.inl ⟨by rfl, ?_⟩) (by exact hHeld) ?_
  rotate_left
  · intro w hSw; obtain ⟨c0, c1, c2, c3, c4, c5, f⟩ := hSw.rd.cells; rw [HAT.out] at c2; have hx := HCB.out _ hSw.x.chg; go_simp; try with_reducible rfl
  try simp only [Act.put]
  try simp only [List.setIfInBounds_toArray]
  try simp only [List.set]
  refine wpAnyH_take (i := 8) (oi := { dst := some 12, op := Go.Op.indexAddr 54 (Go.Operand.tmp 7) (Go.Operand.tmp 11), type := 0, pos := _, after := _, guard := _ }) (v := ?_) rfl (by kernel_rfl) (by kernel_rfl) (by kernel_rfl) (fun _ _ _ h => h) (Or.inl ⟨by rfl, ?_⟩) (by exact hHeld) ?_
  rotate_left
  · intro w hSw; go_simp; try with_reducible rfl
  try simp only [Act.put]
  try simp only [List.setIfInBounds_toArray]
  try simp only [List.set]
  refine wpAnyH_take (i := 9) (oi := { dst := some 13, op := Go.Op.load 5 (Go.Operand.tmp 12), type := 5, pos := _, after := _, guard := _ }) (v := ?_) rfl (by kernel_rfl) (by kernel_rfl) (by kernel_rfl) (fun _ _ _ h => h) (Or.inl ⟨by rfl, ?_⟩) (by exact hHeld) ?_
  rotate_left
  · intro w hSw; obtain ⟨c0, c1, c2, c3, c4, c5, f⟩ := hSw.rd.cells; rw [HAT.out] at c2; have hx := HCB.out _ hSw.x.chg; go_simp; try with_reducible rfl
  try simp only [Act.put]
  try simp only [List.setIfInBounds_toArray]
  try simp only [List.set]
  refine wpAnyH_take (i := 10) (oi := { dst := some 2, op := Go.Op.assign (Go.Operand.tmp 13), type := 5, pos := _, after := _, guard := _ }) (v := ?_) rfl (by kernel_rfl) (by kernel_rfl) (by kernel_rfl) (fun _ _ _ h => h) (Or.inl ⟨by rfl, ?_⟩) (by exact hHeld) ?_
  rotate_left
  · intro w hSw; go_simp; try with_reducible rfl
  try simp only [Act.put]
  try simp only [List.setIfInBounds_toArray]
  try simp only [List.set]
  refine wpAnyH_done (by kernel_rfl) ?_ _
  have H1 := Lib.hid hHeld
  clear hHeld HD HCB
  generalize w.drew = W1 at H1 ⊢
  go_wp2_with fail
  refine (HWR.out _ H1.out).mono ?_
  rintro e w3 ⟨rfl, h3⟩
  have H3 := Lib.hid h3
  clear h3 H1 HWR
  go_wp2_with fail
  refine (HRW.out _ H3.out).mono ?_
  intro e w9 hp
  have HSP := hp.step
  rcases hp.ends with rfl | ⟨a9, rfl⟩
  · have HSQ := Lib.hid HSP
    clear hp HSP HRW
    go_wp2_with fail
    refine bodyPost_end (v := .tuple #[]) (by simp [results, Tryd.results70, go_sem]) rfl ?_
    exact HSQ.out
  · have HSQ := Lib.hid HSP
    clear hp HSP HRW
    go_wp2_with fail
    exact ⟨rfl, HSQ.out⟩
set_option linter.unusedSimpArgs false in
set_option maxHeartbeats 16000000 in
set_option maxRecDepth 100000 in
theorem step_not_ok {W0 w : World} {B gu g gr : Nat} {vo0 vk vr vo : Value} {top list : Int} {s : US} {va : Option Addr} {cap : Nat} {b : List UInt8} (hb : BR W0 g gr vo0 va cap b) (h : RS W0 w B gu g gr vo0 vk (.slice va b.length cap) top list s vr vo) (hsi : SI list b s) (hlist : list ≤ 2147483647) (c : UInt8) (hc : b[s.at_]? = some c) (hk : c.toNat < 16) (F : FieldL) (t1 : Nat) (hw : writU s.tab b s.at_ 4 = (F, t1, 0)) :
    Calls Tryd.prog 70 #[.pointer (some ⟨gr, 0, none⟩)] w fun e w' => StepPost W0 B gu g gr vo0 vk (.slice va b.length cap) top list (rowQ list { s with at_ := t1 } F 2) e w' := by
  obtain ⟨hlt, hce⟩ := List.getElem?_eq_some_iff.1 hc
  have hne : b ≠ [] := by intro e; rw [e] at hlt; simp at hlt
  obtain ⟨pb, off, rfl, hcap1, hcap2, hcell⟩ := hb.at hne
  have HCB : Hid (∀ wx, Chg (TU gr g vo0) W0 wx → wx.cell? ⟨pb, off + s.at_, none⟩ = some (.int .u8 (c.toNat : Int))) := Lib.hid (fun wx hx => by have := hcell wx hx s.at_ hlt; rw [hce] at this; exact this)
  have hlen := hb.len
  have hs1 : s.sum ≤ 2147483647 := by have := hsi.sum; omega
  have hs2 : s.rows.length ≤ 10000000 := by have := hsi.rows; have := hsi.at_; omega
  have hs3 : sumF s.tab ≤ 65536 := by have h1 := hsi.tab; have h2 := hsi.most1; omega
  have hfs := writU_size (b := b) (at_ := s.at_) (bits := 4) hs3 (by rw [hw])
  have HWR := Lib.hid (fun w' (h : RS W0 w' B gu g gr vo0 vk (.slice (some ⟨pb, off, none⟩) b.length cap) top list s vr vo) => written_ok hb h hsi.at_ 4 (by omega) (by rw [hw]))
  rw [hw] at HWR hfs
  simp only at HWR hfs
  have HRW := Lib.hid (fun w' (h : RS W0 w' B gu g gr vo0 vk (.slice (some ⟨pb, off, none⟩) b.length cap) top list { s with at_ := t1 } vr vo) => row_any h F 2 hs1 (by omega) hs2)
  obtain ⟨FV, hFV⟩ : ∃ v, fieldV F = v := ⟨_, rfl⟩
  rw [hFV] at HWR HRW
  obtain ⟨at_, hat⟩ : ∃ a, s.at_ = a := ⟨_, rfl⟩
  rw [hat] at HCB hlt
  have HAT := Lib.hid hat
  have HD : Hid (RS W0 w.drew B gu g gr vo0 vk (.slice (some ⟨pb, off, none⟩) b.length cap) top list s vr vo) := Lib.hid (h.aft ((Aft.refl w).drew))
  have i1 : (at_ : Int) < (b.length : Int) := by omega
  have d128 : decide (128 ≤ (c.toNat : Int)) = false := decide_eq_false (by omega)
  have d64 : decide (64 ≤ (c.toNat : Int)) = false := decide_eq_false (by omega)
  have d32 : decide (32 ≤ (c.toNat : Int)) = false := decide_eq_false (by omega)
  have d16 : decide (16 ≤ (c.toNat : Int)) = false := decide_eq_false (by omega)
  clear hb h hc hsi hlist hne hcell hce hat hlt hs1 hs2 hs3 hk hw hfs hFV
  go_enter Tryd.func70, Tryd.ntmps70
  go_upto_region 0 with fail
  refine wp_region_held_drew (S := fun w' => RS W0 w' B gu g gr vo0 vk (.slice (some ⟨pb, off, none⟩) b.length cap) top list s vr vo) (by kernel_rfl) HD.out (fun hHeld => ?_)
  refine wpAnyH_take (i := 0) (oi := { dst := some 4, op := Go.Op.move (Go.Operand.tmp 0), type := 107, pos := _, after := _, guard := _ }) (v := ?_) rfl (by kernel_rfl) (by kernel_rfl) (by kernel_rfl) (fun _ _ _ h => h) (Or.inl ⟨by rfl, ?_⟩) (by exact hHeld) ?_
  rotate_left
  · intro w hSw; go_simp; try with_reducible rfl
  try simp only [Act.put]
  try simp only [List.setIfInBounds_toArray]
  try simp only [List.set]
  refine wpAnyH_take (i := 1) (oi := { dst := some 5, op := Go.Op.nilCheck (Go.Operand.tmp 4), type := 0, pos := _, after := _, guard := _ }) (v := ?_) rfl (by kernel_rfl) (by kernel_rfl) (by kernel_rfl) (fun _ _ _ h => h) (Or.inl ⟨by rfl, ?_⟩) (by exact hHeld) ?_
  rotate_left
  · intro w hSw; go_simp; try with_reducible rfl
  try simp only [Act.put]
  try simp only [List.setIfInBounds_toArray]
  try simp only [List.set]
  refine wpAnyH_take (i := 2) (oi := { dst := some 6, op := Go.Op.fieldAddr 109 (Go.Operand.tmp 5) 1, type := 0, pos := _, after := _, guard := _ }) (v := ?_) rfl (by kernel_rfl) (by kernel_rfl) (by kernel_rfl) (fun _ _ _ h => h) (Or.inl ⟨by rfl, ?_⟩) (by exact hHeld) ?_
  rotate_left
  · intro w hSw; go_simp; try with_reducible rfl
  try simp only [Act.put]
  try simp only [List.setIfInBounds_toArray]
  try simp only [List.set]
  refine wpAnyH_take (i := 3) (oi := { dst := some 7, op := Go.Op.load 54 (Go.Operand.tmp 6), type := 54, pos := _, after := _, guard := _ }) (v := ?_) rfl (by kernel_rfl) (by kernel_rfl) (by kernel_rfl) (fun _ _ _ h => h) (Or.inl ⟨by rfl, ?_⟩) (by exact hHeld) ?_
  rotate_left
  · intro w hSw; obtain ⟨c0, c1, c2, c3, c4, c5, f⟩ := hSw.rd.cells; rw [HAT.out] at c2; have hx := HCB.out _ hSw.x.chg; go_simp; try with_reducible rfl
  try simp only [Act.put]
  try simp only [List.setIfInBounds_toArray]
  try simp only [List.set]
  refine wpAnyH_take (i := 4) (oi := { dst := some 8, op := Go.Op.move (Go.Operand.tmp 0), type := 107, pos := _, after := _, guard := _ }) (v := ?_) rfl (by kernel_rfl) (by kernel_rfl) (by kernel_rfl) (fun _ _ _ h => h) (Or.inl ⟨by rfl, ?_⟩) (by exact hHeld) ?_
  rotate_left
  · intro w hSw; go_simp; try with_reducible rfl
  try simp only [Act.put]
  try simp only [List.setIfInBounds_toArray]
  try simp only [List.set]
  refine wpAnyH_take (i := 5) (oi := { dst := some 9, op := Go.Op.nilCheck (Go.Operand.tmp 8), type := 0, pos := _, after := _, guard := _ }) (v := ?_) rfl (by kernel_rfl) (by kernel_rfl) (by kernel_rfl) (fun _ _ _ h => h) (Or.inl ⟨by rfl, ?_⟩) (by exact hHeld) ?_
  rotate_left
  · intro w hSw; go_simp; try with_reducible rfl
  try simp only [Act.put]
  try simp only [List.setIfInBounds_toArray]
  try simp only [List.set]
  refine wpAnyH_take (i := 6) (oi := { dst := some 10, op := Go.Op.fieldAddr 109 (Go.Operand.tmp 9) 2, type := 0, pos := _, after := _, guard := _ }) (v := ?_) rfl (by kernel_rfl) (by kernel_rfl) (by kernel_rfl) (fun _ _ _ h => h) (Or.inl ⟨by rfl, ?_⟩) (by exact hHeld) ?_
  rotate_left
  · intro w hSw; go_simp; try with_reducible rfl
  try simp only [Act.put]
  try simp only [List.setIfInBounds_toArray]
  try simp only [List.set]
  refine wpAnyH_take (i := 7) (oi := { dst := some 11, op := Go.Op.load 3 (Go.Operand.tmp 10), type := 3, pos := _, after := _, guard := _ }) (v := ?_) rfl (by kernel_rfl) (by kernel_rfl) (by kernel_rfl) (fun _ _ _ h => h) (Or.inl ⟨by rfl, ?_⟩) (by exact hHeld) ?_
  rotate_left
  · intro w hSw; obtain ⟨c0, c1, c2, c3, c4, c5, f⟩ := hSw.rd.cells; rw [HAT.out] at c2; have hx := HCB.out _ hSw.x.chg; go_simp; try with_reducible rfl
  try simp only [Act.put]
  try simp only [List.setIfInBounds_toArray]
  try simp only [List.set]
  refine wpAnyH_take (i := 8) (oi := { dst := some 12, op := Go.Op.indexAddr 54 (Go.Operand.tmp 7) (Go.Operand.tmp 11), type := 0, pos := _, after := _, guard := _ }) (v := ?_) rfl (by kernel_rfl) (by kernel_rfl) (by kernel_rfl) (fun _ _ _ h => h) (Or.inl ⟨by rfl, ?_⟩) (by exact hHeld) ?_
  rotate_left
  · intro w hSw; go_simp; try with_reducible rfl
  try simp only [Act.put]
  try simp only [List.setIfInBounds_toArray]
  try simp only [List.set]
  refine wpAnyH_take (i := 9) (oi := { dst := some 13, op := Go.Op.load 5 (Go.Operand.tmp 12), type := 5, pos := _, after := _, guard := _ }) (v := ?_) rfl (by kernel_rfl) (by kernel_rfl) (by kernel_rfl) (fun _ _ _ h => h) (Or.inl ⟨by rfl, ?_⟩) (by exact hHeld) ?_
  rotate_left
  · intro w hSw; obtain ⟨c0, c1, c2, c3, c4, c5, f⟩ := hSw.rd.cells; rw [HAT.out] at c2; have hx := HCB.out _ hSw.x.chg; go_simp; try with_reducible rfl
  try simp only [Act.put]
  try simp only [List.setIfInBounds_toArray]
  try simp only [List.set]
  refine wpAnyH_take (i := 10) (oi := { dst := some 2, op := Go.Op.assign (Go.Operand.tmp 13), type := 5, pos := _, after := _, guard := _ }) (v := ?_) rfl (by kernel_rfl) (by kernel_rfl) (by kernel_rfl) (fun _ _ _ h => h) (Or.inl ⟨by rfl, ?_⟩) (by exact hHeld) ?_
  rotate_left
  · intro w hSw; go_simp; try with_reducible rfl
  try simp only [Act.put]
  try simp only [List.setIfInBounds_toArray]
  try simp only [List.set]
  refine wpAnyH_done (by kernel_rfl) ?_ _
  have H1 := Lib.hid hHeld
  clear hHeld HD HCB
  generalize w.drew = W1 at H1 ⊢
  go_wp2_with fail
  refine (HWR.out _ H1.out).mono ?_
  rintro e w3 ⟨rfl, h3⟩
  have H3 := Lib.hid h3
  clear h3 H1 HWR
  go_wp2_with fail
  refine (HRW.out _ H3.out).mono ?_
  intro e w9 hp
  have HSP := hp.step
  rcases hp.ends with rfl | ⟨a9, rfl⟩
  · have HSQ := Lib.hid HSP
    clear hp HSP HRW
    go_wp2_with fail
    refine bodyPost_end (v := .tuple #[]) (by simp [results, Tryd.results70, go_sem]) rfl ?_
    exact HSQ.out
  · have HSQ := Lib.hid HSP
    clear hp HSP HRW
    go_wp2_with fail
    exact ⟨rfl, HSQ.out⟩
set_option linter.unusedSimpArgs false in
set_option maxHeartbeats 16000000 in
set_option maxRecDepth 100000 in
theorem step_res {W0 w : World} {B gu g gr : Nat} {vo0 vk vr vo : Value} {top list : Int} {s : US} {va : Option Addr} {cap : Nat} {b : List UInt8} (hb : BR W0 g gr vo0 va cap b) (h : RS W0 w B gu g gr vo0 vk (.slice va b.length cap) top list s vr vo) (hsi : SI list b s) (hlist : list ≤ 2147483647) (c : UInt8) (hc : b[s.at_]? = some c) (hk : 32 ≤ c.toNat ∧ c.toNat < 64) (htop : top ≤ 65536) :
    Calls Tryd.prog 70 #[.pointer (some ⟨gr, 0, none⟩)] w fun e w' => StepPost W0 B gu g gr vo0 vk (.slice va b.length cap) top list (resU top b s) e w' := by
  obtain ⟨hlt, hce⟩ := List.getElem?_eq_some_iff.1 hc
  have hne : b ≠ [] := by intro e; rw [e] at hlt; simp at hlt
  obtain ⟨pb, off, rfl, hcap1, hcap2, hcell⟩ := hb.at hne
  have HCB : Hid (∀ wx, Chg (TU gr g vo0) W0 wx → wx.cell? ⟨pb, off + s.at_, none⟩ = some (.int .u8 (c.toNat : Int))) := Lib.hid (fun wx hx => by have := hcell wx hx s.at_ hlt; rw [hce] at this; exact this)
  have hlen := hb.len
  have hs1 : s.sum ≤ 2147483647 := by have := hsi.sum; omega
  have hs2 : s.rows.length ≤ 10000000 := by have := hsi.rows; have := hsi.at_; omega
  have hs3 : sumF s.tab ≤ 65536 := by have h1 := hsi.tab; have h2 := hsi.most1; omega
  have HRZ := Lib.hid (fun w' (h : RS W0 w' B gu g gr vo0 vk (.slice (some ⟨pb, off, none⟩) b.length cap) top list s vr vo) => resize_any7 hb h hsi.at_ htop (by omega))
  obtain ⟨at_, hat⟩ : ∃ a, s.at_ = a := ⟨_, rfl⟩
  rw [hat] at HCB hlt
  have HAT := Lib.hid hat
  have HD : Hid (RS W0 w.drew B gu g gr vo0 vk (.slice (some ⟨pb, off, none⟩) b.length cap) top list s vr vo) := Lib.hid (h.aft ((Aft.refl w).drew))
  have i1 : (at_ : Int) < (b.length : Int) := by omega
  have d128 : decide (128 ≤ (c.toNat : Int)) = false := decide_eq_false (by omega)
  have d64 : decide (64 ≤ (c.toNat : Int)) = false := decide_eq_false (by omega)
  have d32 : decide (32 ≤ (c.toNat : Int)) = true := decide_eq_true (by omega)
  clear hb h hc hsi hlist hne hcell hce hat hlt hs1 hs2 hs3 hk htop
  go_enter Tryd.func70, Tryd.ntmps70
  go_upto_region 0 with fail
  refine wp_region_held_drew (S := fun w' => RS W0 w' B gu g gr vo0 vk (.slice (some ⟨pb, off, none⟩) b.length cap) top list s vr vo) (by kernel_rfl) HD.out (fun hHeld => ?_)
  refine wpAnyH_take (i := 0) (oi := { dst := some 4, op := Go.Op.move (Go.Operand.tmp 0), type := 107, pos := _, after := _, guard := _ }) (v := ?_) rfl (by kernel_rfl) (by kernel_rfl) (by kernel_rfl) (fun _ _ _ h => h) (Or.inl ⟨by rfl, ?_⟩) (by exact hHeld) ?_
  rotate_left
  · intro w hSw; go_simp; try with_reducible rfl
  try simp only [Act.put]
  try simp only [List.setIfInBounds_toArray]
  try simp only [List.set]
  refine wpAnyH_take (i := 1) (oi := { dst := some 5, op := Go.Op.nilCheck (Go.Operand.tmp 4), type := 0, pos := _, after := _, guard := _ }) (v := ?_) rfl (by kernel_rfl) (by kernel_rfl) (by kernel_rfl) (fun _ _ _ h => h) (Or.inl ⟨by rfl, ?_⟩) (by exact hHeld) ?_
  rotate_left
  · intro w hSw; go_simp; try with_reducible rfl
  try simp only [Act.put]
  try simp only [List.setIfInBounds_toArray]
  try simp only [List.set]
  refine wpAnyH_take (i := 2) (oi := { dst := some 6, op := Go.Op.fieldAddr 109 (Go.Operand.tmp 5) 1, type := 0, pos := _, after := _, guard := _ }) (v := ?_) rfl (by kernel_rfl) (by kernel_rfl) (by kernel_rfl) (fun _ _ _ h => h) (Or.inl ⟨by rfl, ?_⟩) (by exact hHeld) ?_
  rotate_left
  · intro w hSw; go_simp; try with_reducible rfl
  try simp only [Act.put]
  try simp only [List.setIfInBounds_toArray]
  try simp only [List.set]
  refine wpAnyH_take (i := 3) (oi := { dst := some 7, op := Go.Op.load 54 (Go.Operand.tmp 6), type := 54, pos := _, after := _, guard := _ }) (v := ?_) rfl (by kernel_rfl) (by kernel_rfl) (by kernel_rfl) (fun _ _ _ h => h) (Or.inl ⟨by rfl, ?_⟩) (by exact hHeld) ?_
  rotate_left
  · intro w hSw; obtain ⟨c0, c1, c2, c3, c4, c5, f⟩ := hSw.rd.cells; rw [HAT.out] at c2; have hx := HCB.out _ hSw.x.chg; go_simp; try with_reducible rfl
  try simp only [Act.put]
  try simp only [List.setIfInBounds_toArray]
  try simp only [List.set]
  refine wpAnyH_take (i := 4) (oi := { dst := some 8, op := Go.Op.move (Go.Operand.tmp 0), type := 107, pos := _, after := _, guard := _ }) (v := ?_) rfl (by kernel_rfl) (by kernel_rfl) (by kernel_rfl) (fun _ _ _ h => h) (Or.inl ⟨by rfl, ?_⟩) (by exact hHeld) ?_
  rotate_left
  · intro w hSw; go_simp; try with_reducible rfl
  try simp only [Act.put]
  try simp only [List.setIfInBounds_toArray]
  try simp only [List.set]
  refine wpAnyH_take (i := 5) (oi := { dst := some 9, op := Go.Op.nilCheck (Go.Operand.tmp 8), type := 0, pos := _, after := _, guard := _ }) (v := ?_) rfl (by kernel_rfl) (by kernel_rfl) (by kernel_rfl) (fun _ _ _ h => h) (Or.inl ⟨by rfl, ?_⟩) (by exact hHeld) ?_
  rotate_left
  · intro w hSw; go_simp; try with_reducible rfl
  try simp only [Act.put]
  try simp only [List.setIfInBounds_toArray]
  try simp only [List.set]
  refine wpAnyH_take (i := 6) (oi := { dst := some 10, op := Go.Op.fieldAddr 109 (Go.Operand.tmp 9) 2, type := 0, pos := _, after := _, guard := _ }) (v := ?_) rfl (by kernel_rfl) (by kernel_rfl) (by kernel_rfl) (fun _ _ _ h => h) (Or.inl ⟨by rfl, ?_⟩) (by exact hHeld) ?_
  rotate_left
  · intro w hSw; go_simp; try with_reducible rfl
  try simp only [Act.put]
  try simp only [List.setIfInBounds_toArray]
  try simp only [List.set]
  refine wpAnyH_take (i := 7) (oi := { dst := some 11, op := Go.Op.load 3 (Go.Operand.tmp 10), type := 3, pos := _, after := _, guard := _ }) (v := ?_) rfl (by kernel_rfl) (by kernel_rfl) (by kernel_rfl) (fun _ _ _ h => h) (Or.inl ⟨by rfl, ?_⟩) (by exact hHeld) ?_
  rotate_left
  · intro w hSw; obtain ⟨c0, c1, c2, c3, c4, c5, f⟩ := hSw.rd.cells; rw [HAT.out] at c2; have hx := HCB.out _ hSw.x.chg; go_simp; try with_reducible rfl
  try simp only [Act.put]
  try simp only [List.setIfInBounds_toArray]
  try simp only [List.set]
  refine wpAnyH_take (i := 8) (oi := { dst := some 12, op := Go.Op.indexAddr 54 (Go.Operand.tmp 7) (Go.Operand.tmp 11), type := 0, pos := _, after := _, guard := _ }) (v := ?_) rfl (by kernel_rfl) (by kernel_rfl) (by kernel_rfl) (fun _ _ _ h => h) (Or.inl ⟨by rfl, ?_⟩) (by exact hHeld) ?_
  rotate_left
  · intro w hSw; go_simp; try with_reducible rfl
  try simp only [Act.put]
  try simp only [List.setIfInBounds_toArray]
  try simp only [List.set]
  refine wpAnyH_take (i := 9) (oi := { dst := some 13, op := Go.Op.load 5 (Go.Operand.tmp 12), type := 5, pos := _, after := _, guard := _ }) (v := ?_) rfl (by kernel_rfl) (by kernel_rfl) (by kernel_rfl) (fun _ _ _ h => h) (Or.inl ⟨by rfl, ?_⟩) (by exact hHeld) ?_
  rotate_left
  · intro w hSw; obtain ⟨c0, c1, c2, c3, c4, c5, f⟩ := hSw.rd.cells; rw [HAT.out] at c2; have hx := HCB.out _ hSw.x.chg; go_simp; try with_reducible rfl
  try simp only [Act.put]
  try simp only [List.setIfInBounds_toArray]
  try simp only [List.set]
  refine wpAnyH_take (i := 10) (oi := { dst := some 2, op := Go.Op.assign (Go.Operand.tmp 13), type := 5, pos := _, after := _, guard := _ }) (v := ?_) rfl (by kernel_rfl) (by kernel_rfl) (by kernel_rfl) (fun _ _ _ h => h) (Or.inl ⟨by rfl, ?_⟩) (by exact hHeld) ?_
  rotate_left
  · intro w hSw; go_simp; try with_reducible rfl
  try simp only [Act.put]
  try simp only [List.setIfInBounds_toArray]
  try simp only [List.set]
  refine wpAnyH_done (by kernel_rfl) ?_ _
  have H1 := Lib.hid hHeld
  clear hHeld HD HCB
  generalize w.drew = W1 at H1 ⊢
  go_wp2_with fail
  refine (HRZ.out _ H1.out).mono ?_
  rintro e w9 HSP
  rcases HSP with ⟨h1, rfl, h2⟩ | ⟨h1, ⟨a9, rfl⟩, h2⟩
  · have HSQ := Lib.hid (And.intro h1 h2)
    clear h1 h2 HRZ
    go_wp2_with fail
    refine bodyPost_end (v := .tuple #[]) (by simp [results, Tryd.results70, go_sem]) rfl ?_
    exact Or.inl ⟨HSQ.out.1, rfl, HSQ.out.2⟩
  · have HSQ := Lib.hid (And.intro h1 h2)
    clear h1 h2 HRZ
    go_wp2_with fail
    exact ⟨rfl, Or.inr ⟨HSQ.out.1, ⟨_, rfl⟩, HSQ.out.2⟩⟩
set_option linter.unusedSimpArgs false in
set_option maxHeartbeats 16000000 in
set_option maxRecDepth 100000 in
theorem step_add_ok {W0 w : World} {B gu g gr : Nat} {vo0 vk vr vo : Value} {top list : Int} {s : US} {va : Option Addr} {cap : Nat} {b : List UInt8} (hb : BR W0 g gr vo0 va cap b) (h : RS W0 w B gu g gr vo0 vk (.slice va b.length cap) top list s vr vo) (hsi : SI list b s) (hlist : list ≤ 2147483647) (c : UInt8) (hc : b[s.at_]? = some c) (hk : 64 ≤ c.toNat ∧ c.toNat < 128) (F : FieldL) (t1 : Nat) (hw : writU s.tab b s.at_ 6 = (F, t1, 0)) :
    Calls Tryd.prog 70 #[.pointer (some ⟨gr, 0, none⟩)] w fun e w' => StepPost W0 B gu g gr vo0 vk (.slice va b.length cap) top list (rowQ list { s with at_ := t1, tab := addF s.most F s.tab } F 1) e w' := by
  obtain ⟨hlt, hce⟩ := List.getElem?_eq_some_iff.1 hc
  have hne : b ≠ [] := by intro e; rw [e] at hlt; simp at hlt
  obtain ⟨pb, off, rfl, hcap1, hcap2, hcell⟩ := hb.at hne
  have HCB : Hid (∀ wx, Chg (TU gr g vo0) W0 wx → wx.cell? ⟨pb, off + s.at_, none⟩ = some (.int .u8 (c.toNat : Int))) := Lib.hid (fun wx hx => by have := hcell wx hx s.at_ hlt; rw [hce] at this; exact this)
  have hlen := hb.len
  have hs1 : s.sum ≤ 2147483647 := by have := hsi.sum; omega
  have hs2 : s.rows.length ≤ 10000000 := by have := hsi.rows; have := hsi.at_; omega
  have hs3 : sumF s.tab ≤ 65536 := by have h1 := hsi.tab; have h2 := hsi.most1; omega
  have hfs := writU_size (b := b) (at_ := s.at_) (bits := 6) hs3 (by rw [hw])
  have HWR := Lib.hid (fun w' (h : RS W0 w' B gu g gr vo0 vk (.slice (some ⟨pb, off, none⟩) b.length cap) top list s vr vo) => written_ok hb h hsi.at_ 6 (by omega) (by rw [hw]))
  rw [hw] at HWR hfs
  simp only at HWR hfs
  have HRW := Lib.hid (fun w' vo2 (h : RS W0 w' B gu g gr vo0 vk (.slice (some ⟨pb, off, none⟩) b.length cap) top list { s with at_ := t1, tab := addF s.most F s.tab } vr vo2) => row_any h F 1 hs1 (by omega) hs2)
  have HAD := Lib.hid (fun w' (h : RS W0 w' B gu g gr vo0 vk (.slice (some ⟨pb, off, none⟩) b.length cap) top list { s with at_ := t1 } vr vo) => add_any F h.x.un.t hsi.tab hsi.most0 hsi.most1 (by omega) (by have h1 := h.x.un.pB; have h2 := h.x.un.lt; omega))
  obtain ⟨F1, F2⟩ := F
  unfold fieldV at HWR HRW HAD
  simp only at HWR HRW HAD
  obtain ⟨NB, hNB⟩ : ∃ B : ByteArray, (⟨F1.toArray⟩ : ByteArray) = B := ⟨_, rfl⟩
  obtain ⟨VB, hVB⟩ : ∃ B : ByteArray, (⟨F2.toArray⟩ : ByteArray) = B := ⟨_, rfl⟩
  rw [hNB, hVB] at HWR HRW HAD
  obtain ⟨at_, hat⟩ : ∃ a, s.at_ = a := ⟨_, rfl⟩
  rw [hat] at HCB hlt
  have HAT := Lib.hid hat
  have HD : Hid (RS W0 w.drew B gu g gr vo0 vk (.slice (some ⟨pb, off, none⟩) b.length cap) top list s vr vo) := Lib.hid (h.aft ((Aft.refl w).drew))
  have i1 : (at_ : Int) < (b.length : Int) := by omega
  have d128 : decide (128 ≤ (c.toNat : Int)) = false := decide_eq_false (by omega)
  have d64 : decide (64 ≤ (c.toNat : Int)) = true := decide_eq_true (by omega)
  clear hb h hc hsi hlist hne hcell hce hat hlt hs1 hs2 hs3 hk hw hfs hNB hVB
  go_enter Tryd.func70, Tryd.ntmps70
  go_upto_region 0 with fail
  refine wp_region_held_drew (S := fun w' => RS W0 w' B gu g gr vo0 vk (.slice (some ⟨pb, off, none⟩) b.length cap) top list s vr vo) (by kernel_rfl) HD.out (fun hHeld => ?_)
  refine wpAnyH_take (i := 0) (oi := { dst := some 4, op := Go.Op.move (Go.Operand.tmp 0), type := 107, pos := _, after := _, guard := _ }) (v := ?_) rfl (by kernel_rfl) (by kernel_rfl) (by kernel_rfl) (fun _ _ _ h => h) (Or.inl ⟨by rfl, ?_⟩) (by exact hHeld) ?_
  rotate_left
  · intro w hSw; go_simp; try with_reducible rfl
  try simp only [Act.put]
  try simp only [List.setIfInBounds_toArray]
  try simp only [List.set]
  refine wpAnyH_take (i := 1) (oi := { dst := some 5, op := Go.Op.nilCheck (Go.Operand.tmp 4), type := 0, pos := _, after := _, guard := _ }) (v := ?_) rfl (by kernel_rfl) (by kernel_rfl) (by kernel_rfl) (fun _ _ _ h => h) (Or.inl ⟨by rfl, ?_⟩) (by exact hHeld) ?_
  rotate_left
  · intro w hSw; go_simp; try with_reducible rfl
  try simp only [Act.put]
  try simp only [List.setIfInBounds_toArray]
  try simp only [List.set]
  refine wpAnyH_take (i := 2) (oi := { dst := some 6, op := Go.Op.fieldAddr 109 (Go.Operand.tmp 5) 1, type := 0, pos := _, after := _, guard := _ }) (v := ?_) rfl (by kernel_rfl) (by kernel_rfl) (by kernel_rfl) (fun _ _ _ h => h) (Or.inl ⟨by rfl, ?_⟩) (by exact hHeld) ?_
  rotate_left
  · intro w hSw; go_simp; try with_reducible rfl
  try simp only [Act.put]
  try simp only [List.setIfInBounds_toArray]
  try simp only [List.set]
  refine wpAnyH_take (i := 3) (oi := { dst := some 7, op := Go.Op.load 54 (Go.Operand.tmp 6), type := 54, pos := _, after := _, guard := _ }) (v := ?_) rfl (by kernel_rfl) (by kernel_rfl) (by kernel_rfl) (fun _ _ _ h => h) (Or.inl ⟨by rfl, ?_⟩) (by exact hHeld) ?_
  rotate_left
  · intro w hSw; obtain ⟨c0, c1, c2, c3, c4, c5, f⟩ := hSw.rd.cells; rw [HAT.out] at c2; have hx := HCB.out _ hSw.x.chg; go_simp; try with_reducible rfl
  try simp only [Act.put]
  try simp only [List.setIfInBounds_toArray]
  try simp only [List.set]
  refine wpAnyH_take (i := 4) (oi := { dst := some 8, op := Go.Op.move (Go.Operand.tmp 0), type := 107, pos := _, after := _, guard := _ }) (v := ?_) rfl (by kernel_rfl) (by kernel_rfl) (by kernel_rfl) (fun _ _ _ h => h) (Or.inl ⟨by rfl, ?_⟩) (by exact hHeld) ?_
  rotate_left
  · intro w hSw; go_simp; try with_reducible rfl
  try simp only [Act.put]
  try simp only [List.setIfInBounds_toArray]
  try simp only [List.set]
  refine wpAnyH_take (i := 5) (oi := { dst := some 9, op := Go.Op.nilCheck (Go.Operand.tmp 8), type := 0, pos := _, after := _, guard := _ }) (v := ?_) rfl (by kernel_rfl) (by kernel_rfl) (by kernel_rfl) (fun _ _ _ h => h) (Or.inl ⟨by rfl, ?_⟩) (by exact hHeld) ?_
  rotate_left
  · intro w hSw; go_simp; try with_reducible rfl
  try simp only [Act.put]
  try simp only [List.setIfInBounds_toArray]
  try simp only [List.set]
  refine wpAnyH_take (i := 6) (oi := { dst := some 10, op := Go.Op.fieldAddr 109 (Go.Operand.tmp 9) 2, type := 0, pos := _, after := _, guard := _ }) (v := ?_) rfl (by kernel_rfl) (by kernel_rfl) (by kernel_rfl) (fun _ _ _ h => h) (Or.inl ⟨by rfl, ?_⟩) (by exact hHeld) ?_
  rotate_left
  · intro w hSw; go_simp; try with_reducible rfl
  try simp only [Act.put]
  try simp only [List.setIfInBounds_toArray]
  try simp only [List.set]
  refine wpAnyH_take (i := 7) (oi := { dst := some 11, op := Go.Op.load 3 (Go.Operand.tmp 10), type := 3, pos := _, after := _, guard := _ }) (v := ?_) rfl (by kernel_rfl) (by kernel_rfl) (by kernel_rfl) (fun _ _ _ h => h) (Or.inl ⟨by rfl, ?_⟩) (by exact hHeld) ?_
  rotate_left
  · intro w hSw; obtain ⟨c0, c1, c2, c3, c4, c5, f⟩ := hSw.rd.cells; rw [HAT.out] at c2; have hx := HCB.out _ hSw.x.chg; go_simp; try with_reducible rfl
  try simp only [Act.put]
  try simp only [List.setIfInBounds_toArray]
  try simp only [List.set]
  refine wpAnyH_take (i := 8) (oi := { dst := some 12, op := Go.Op.indexAddr 54 (Go.Operand.tmp 7) (Go.Operand.tmp 11), type := 0, pos := _, after := _, guard := _ }) (v := ?_) rfl (by kernel_rfl) (by kernel_rfl) (by kernel_rfl) (fun _ _ _ h => h) (Or.inl ⟨by rfl, ?_⟩) (by exact hHeld) ?_
  rotate_left
  · intro w hSw; go_simp; try with_reducible rfl
  try simp only [Act.put]
  try simp only [List.setIfInBounds_toArray]
  try simp only [List.set]
  refine wpAnyH_take (i := 9) (oi := { dst := some 13, op := Go.Op.load 5 (Go.Operand.tmp 12), type := 5, pos := _, after := _, guard := _ }) (v := ?_) rfl (by kernel_rfl) (by kernel_rfl) (by kernel_rfl) (fun _ _ _ h => h) (Or.inl ⟨by rfl, ?_⟩) (by exact hHeld) ?_
  rotate_left
  · intro w hSw; obtain ⟨c0, c1, c2, c3, c4, c5, f⟩ := hSw.rd.cells; rw [HAT.out] at c2; have hx := HCB.out _ hSw.x.chg; go_simp; try with_reducible rfl
  try simp only [Act.put]
  try simp only [List.setIfInBounds_toArray]
  try simp only [List.set]
  refine wpAnyH_take (i := 10) (oi := { dst := some 2, op := Go.Op.assign (Go.Operand.tmp 13), type := 5, pos := _, after := _, guard := _ }) (v := ?_) rfl (by kernel_rfl) (by kernel_rfl) (by kernel_rfl) (fun _ _ _ h => h) (Or.inl ⟨by rfl, ?_⟩) (by exact hHeld) ?_
  rotate_left
  · intro w hSw; go_simp; try with_reducible rfl
  try simp only [Act.put]
  try simp only [List.setIfInBounds_toArray]
  try simp only [List.set]
  refine wpAnyH_done (by kernel_rfl) ?_ _
  have H1 := Lib.hid hHeld
  clear hHeld HD HCB
  generalize w.drew = W1 at H1 ⊢
  go_wp2_with fail
  refine (HWR.out _ H1.out).mono ?_
  rintro e w3 ⟨rfl, h3⟩
  have a3 := (Aft.refl w3).alloc (.cells #[.string NB, .string VB] 28)
  have H3 := Lib.hid (h3.aft a3)
  have HF3 : Hid (FKB (w3.alloc (.cells #[.string NB, .string VB] 28)) w3.heap.size NB VB) := Lib.hid (heap_alloc_new w3 _)
  have HRN := Lib.hid (h3.fresh (gx := w3.heap.size) (Nat.le_refl _))
  clear h3 a3 H1 HWR
  go_upto_region 6 with fail
  generalize w3.alloc (.cells #[.string NB, .string VB] 28) = W4 at H3 HF3 ⊢
  generalize w3.heap.size = g4 at HF3 HRN ⊢
  have HD := Lib.hid (H3.out.aft ((Aft.refl W4).drew))
  have HF4 := Lib.hid (HF3.out.aft ((Aft.refl W4).drew))
  obtain ⟨c0, c1, c2, c3, c4, c5, fz⟩ := HD.out.rd.cells
  obtain ⟨e0, e1, e2, e3, e4⟩ := HD.out.x.un.cells
  obtain ⟨y0, y1, yf⟩ := HF4.out.cells
  clear c1 c2 c3 c4 c5 fz e1 e2 e3 e4 yf H3 HF3
  refine wp_region_held_drew (S := fun _ => True) (by kernel_rfl) trivial (fun hHeld => ?_)
  generalize W4.drew = W8 at c0 e0 y0 y1 HD HF4 ⊢
  refine wpAnyH_take (i := 0) (oi := { dst := some 32, op := Go.Op.move (Go.Operand.tmp 0), type := 107, pos := _, after := _, guard := _ }) (v := ?_) rfl (by kernel_rfl) (by kernel_rfl) (by kernel_rfl) (fun _ _ _ h => h) (Or.inl ⟨by rfl, ?_⟩) trivial ?_
  rotate_left
  · intro w hSw; go_simp; try with_reducible rfl
  try simp only [Act.put]
  try simp only [List.setIfInBounds_toArray]
  try simp only [List.set]
  refine wpAnyH_take (i := 1) (oi := { dst := some 33, op := Go.Op.nilCheck (Go.Operand.tmp 32), type := 0, pos := _, after := _, guard := _ }) (v := ?_) rfl (by kernel_rfl) (by kernel_rfl) (by kernel_rfl) (fun _ _ _ h => h) (Or.inl ⟨by rfl, ?_⟩) trivial ?_
  rotate_left
  · intro w hSw; go_simp; try with_reducible rfl
  try simp only [Act.put]
  try simp only [List.setIfInBounds_toArray]
  try simp only [List.set]
  refine wpAnyH_take (i := 2) (oi := { dst := some 34, op := Go.Op.fieldAddr 109 (Go.Operand.tmp 33) 0, type := 0, pos := _, after := _, guard := _ }) (v := ?_) rfl (by kernel_rfl) (by kernel_rfl) (by kernel_rfl) (fun _ _ _ h => h) (Or.inl ⟨by rfl, ?_⟩) trivial ?_
  rotate_left
  · intro w hSw; go_simp; try with_reducible rfl
  try simp only [Act.put]
  try simp only [List.setIfInBounds_toArray]
  try simp only [List.set]
  refine wpAnyH_ready (rs := [3, 7]) (by kernel_rfl) (by simp) ?_
  refine (AllReadyH.cons (o := { dst := some 35, op := Go.Op.load 74 (Go.Operand.tmp 34), type := 74, pos := _, after := _, guard := _ }) rfl (fun K hK => ?_) (AllReadyH.cons (o := { dst := some 39, op := Go.Op.load 28 (Go.Operand.tmp 3), type := 28, pos := _, after := _, guard := _ }) rfl (fun K hK => ?_) AllReadyH.nil))
  focus
    go_simp
    skip
    refine hK.out _ _ trivial (fun hHeld => ?_)
    clear hK K
    try simp only [Act.put]
    try simp only [List.setIfInBounds_toArray]
    try simp only [List.set]
    refine wpAnyH_take (i := 4) (oi := { dst := some 36, op := Go.Op.nilCheck (Go.Operand.tmp 35), type := 0, pos := _, after := _, guard := _ }) (v := ?_) rfl (by kernel_rfl) (by kernel_rfl) (by kernel_rfl) (fun _ _ _ h => h) (Or.inl ⟨by rfl, ?_⟩) trivial ?_
    rotate_left
    · intro w hSw; go_simp; try with_reducible rfl
    try simp only [Act.put]
    try simp only [List.setIfInBounds_toArray]
    try simp only [List.set]
    refine wpAnyH_take (i := 5) (oi := { dst := some 37, op := Go.Op.fieldAddr 106 (Go.Operand.tmp 36) 0, type := 0, pos := _, after := _, guard := _ }) (v := ?_) rfl (by kernel_rfl) (by kernel_rfl) (by kernel_rfl) (fun _ _ _ h => h) (Or.inl ⟨by rfl, ?_⟩) trivial ?_
    rotate_left
    · intro w hSw; go_simp; try with_reducible rfl
    try simp only [Act.put]
    try simp only [List.setIfInBounds_toArray]
    try simp only [List.set]
    refine wpAnyH_ready (rs := [6, 7]) (by kernel_rfl) (by simp) ?_
    refine (AllReadyH.cons (o := { dst := some 38, op := Go.Op.load 22 (Go.Operand.tmp 37), type := 22, pos := _, after := _, guard := _ }) rfl (fun K hK => ?_) (AllReadyH.cons (o := { dst := some 39, op := Go.Op.load 28 (Go.Operand.tmp 3), type := 28, pos := _, after := _, guard := _ }) rfl (fun K hK => ?_) AllReadyH.nil))
    focus
      go_simp
      skip
      refine hK.out _ _ trivial (fun hHeld => ?_)
      clear hK K
      try simp only [Act.put]
      try simp only [List.setIfInBounds_toArray]
      try simp only [List.set]
      refine wpAnyH_ready (rs := [7]) (by kernel_rfl) (by simp) ?_
      refine (AllReadyH.cons (o := { dst := some 39, op := Go.Op.load 28 (Go.Operand.tmp 3), type := 28, pos := _, after := _, guard := _ }) rfl (fun K hK => ?_) AllReadyH.nil)
      go_simp
      skip
      refine hK.out _ _ trivial (fun hHeld => ?_)
      clear hK K
      try simp only [Act.put]
      try simp only [List.setIfInBounds_toArray]
      try simp only [List.set]
      refine wpAnyH_ready (rs := [8]) (by kernel_rfl) (by simp) ?_
      refine (AllReadyH.cons (o := { dst := some 40, op := Go.Op.call { callee := Go.Callee.value (Go.Operand.func 19), args := #[Go.Operand.tmp 38, Go.Operand.tmp 39], argTypes := #[22, 28] }, type := 0, pos := _, after := _, guard := _ }) rfl (fun K hK => ?_) AllReadyH.nil)
      go_simp
      go_at_call 19
      refine (HAD.out _ HD.out).mono ?_
      rintro e w9 ⟨rfl, vo2, ht, hc, ho⟩
      have HF9 := Lib.hid (HF4.out.chg hc (fun e => by { rcases e with e | e; exact HRN.out.t e; exact HRN.out.o e }))
      have H9 := Lib.hid (HD.out.tab ht hc ho)
      clear ht hc ho c0 e0 y0 y1
      refine hK.out _ _ trivial (fun hHeld => ?_)
      clear hK K
      try simp only [Act.put]
      try simp only [List.setIfInBounds_toArray]
      try simp only [List.set]
      refine wpAnyH_done (by kernel_rfl) ?_ _
    rotate_left 1
    focus
      go_simp
      skip
      refine hK.out _ _ trivial (fun hHeld => ?_)
      clear hK K
      try simp only [Act.put]
      try simp only [List.setIfInBounds_toArray]
      try simp only [List.set]
      refine wpAnyH_ready (rs := [6]) (by kernel_rfl) (by simp) ?_
      refine (AllReadyH.cons (o := { dst := some 38, op := Go.Op.load 22 (Go.Operand.tmp 37), type := 22, pos := _, after := _, guard := _ }) rfl (fun K hK => ?_) AllReadyH.nil)
      go_simp
      skip
      refine hK.out _ _ trivial (fun hHeld => ?_)
      clear hK K
      try simp only [Act.put]
      try simp only [List.setIfInBounds_toArray]
      try simp only [List.set]
      refine wpAnyH_ready (rs := [8]) (by kernel_rfl) (by simp) ?_
      refine (AllReadyH.cons (o := { dst := some 40, op := Go.Op.call { callee := Go.Callee.value (Go.Operand.func 19), args := #[Go.Operand.tmp 38, Go.Operand.tmp 39], argTypes := #[22, 28] }, type := 0, pos := _, after := _, guard := _ }) rfl (fun K hK => ?_) AllReadyH.nil)
      go_simp
      go_at_call 19
      refine (HAD.out _ HD.out).mono ?_
      rintro e w9 ⟨rfl, vo2, ht, hc, ho⟩
      have HF9 := Lib.hid (HF4.out.chg hc (fun e => by { rcases e with e | e; exact HRN.out.t e; exact HRN.out.o e }))
      have H9 := Lib.hid (HD.out.tab ht hc ho)
      clear ht hc ho c0 e0 y0 y1
      refine hK.out _ _ trivial (fun hHeld => ?_)
      clear hK K
      try simp only [Act.put]
      try simp only [List.setIfInBounds_toArray]
      try simp only [List.set]
      refine wpAnyH_done (by kernel_rfl) ?_ _
    rotate_left 1
  rotate_left 2
  focus
    go_simp
    skip
    refine hK.out _ _ trivial (fun hHeld => ?_)
    clear hK K
    try simp only [Act.put]
    try simp only [List.setIfInBounds_toArray]
    try simp only [List.set]
    refine wpAnyH_ready (rs := [3]) (by kernel_rfl) (by simp) ?_
    refine (AllReadyH.cons (o := { dst := some 35, op := Go.Op.load 74 (Go.Operand.tmp 34), type := 74, pos := _, after := _, guard := _ }) rfl (fun K hK => ?_) AllReadyH.nil)
    go_simp
    skip
    refine hK.out _ _ trivial (fun hHeld => ?_)
    clear hK K
    try simp only [Act.put]
    try simp only [List.setIfInBounds_toArray]
    try simp only [List.set]
    refine wpAnyH_take (i := 4) (oi := { dst := some 36, op := Go.Op.nilCheck (Go.Operand.tmp 35), type := 0, pos := _, after := _, guard := _ }) (v := ?_) rfl (by kernel_rfl) (by kernel_rfl) (by kernel_rfl) (fun _ _ _ h => h) (Or.inl ⟨by rfl, ?_⟩) trivial ?_
    rotate_left
    · intro w hSw; go_simp; try with_reducible rfl
    try simp only [Act.put]
    try simp only [List.setIfInBounds_toArray]
    try simp only [List.set]
    refine wpAnyH_take (i := 5) (oi := { dst := some 37, op := Go.Op.fieldAddr 106 (Go.Operand.tmp 36) 0, type := 0, pos := _, after := _, guard := _ }) (v := ?_) rfl (by kernel_rfl) (by kernel_rfl) (by kernel_rfl) (fun _ _ _ h => h) (Or.inl ⟨by rfl, ?_⟩) trivial ?_
    rotate_left
    · intro w hSw; go_simp; try with_reducible rfl
    try simp only [Act.put]
    try simp only [List.setIfInBounds_toArray]
    try simp only [List.set]
    refine wpAnyH_ready (rs := [6]) (by kernel_rfl) (by simp) ?_
    refine (AllReadyH.cons (o := { dst := some 38, op := Go.Op.load 22 (Go.Operand.tmp 37), type := 22, pos := _, after := _, guard := _ }) rfl (fun K hK => ?_) AllReadyH.nil)
    go_simp
    skip
    refine hK.out _ _ trivial (fun hHeld => ?_)
    clear hK K
    try simp only [Act.put]
    try simp only [List.setIfInBounds_toArray]
    try simp only [List.set]
    refine wpAnyH_ready (rs := [8]) (by kernel_rfl) (by simp) ?_
    refine (AllReadyH.cons (o := { dst := some 40, op := Go.Op.call { callee := Go.Callee.value (Go.Operand.func 19), args := #[Go.Operand.tmp 38, Go.Operand.tmp 39], argTypes := #[22, 28] }, type := 0, pos := _, after := _, guard := _ }) rfl (fun K hK => ?_) AllReadyH.nil)
    go_simp
    go_at_call 19
    refine (HAD.out _ HD.out).mono ?_
    rintro e w9 ⟨rfl, vo2, ht, hc, ho⟩
    have HF9 := Lib.hid (HF4.out.chg hc (fun e => by { rcases e with e | e; exact HRN.out.t e; exact HRN.out.o e }))
    have H9 := Lib.hid (HD.out.tab ht hc ho)
    clear ht hc ho c0 e0 y0 y1
    refine hK.out _ _ trivial (fun hHeld => ?_)
    clear hK K
    try simp only [Act.put]
    try simp only [List.setIfInBounds_toArray]
    try simp only [List.set]
    refine wpAnyH_done (by kernel_rfl) ?_ _
  rotate_left 1
  all_goals
    clear HD HF4 HAD
    go_wp2_with (refine wpList_load_row rfl 28 (.tmp 3) rfl g4 rfl _ #[.string NB, .string VB] (0, 0) _ HF9.out Tryd.underlying28 rfl (fsz NB VB) ?_)
    refine (HRW.out _ _ H9.out).mono ?_
    intro e w9 hp
    have HSP := hp.step
    rcases hp.ends with rfl | ⟨a9, rfl⟩
    · have HSQ := Lib.hid HSP
      clear hp HSP HRW
      go_wp2_with fail
      refine bodyPost_end (v := .tuple #[]) (by simp [results, Tryd.results70, go_sem]) rfl ?_
      exact HSQ.out
    · have HSQ := Lib.hid HSP
      clear hp HSP HRW
      go_wp2_with fail
      exact ⟨rfl, HSQ.out⟩

theorem stepU_row {top list : Int} {b : List UInt8} {s : US} {c : Nat} (hc : ¬ (32 ≤ c ∧ c < 64)) {f : FieldL} {how : Int} {l' : List FieldL} {t : Nat} (hr : rowU s.most s.tab b s.at_ c = (⟨f, how⟩, l', t, 0)) : stepU top list b s c = rowQ list { s with at_ := t, tab := l' } f how := by
  unfold stepU rowQ
  rw [if_neg hc, hr]
  simp
theorem stepU_err {top list : Int} {b : List UInt8} {s : US} {c : Nat} (hc : ¬ (32 ≤ c ∧ c < 64)) {E : Int} (hE : E ≠ 0) (hr : (rowU s.most s.tab b s.at_ c).2.2.2 = E) : stepU top list b s c = (s, E) := by
  unfold stepU
  rw [if_neg hc, hr, if_pos hE]
theorem step_any {W0 w : World} {B gu g gr : Nat} {vo0 vk vr vo : Value} {top list : Int} {s : US} {va : Option Addr} {cap : Nat} {b : List UInt8} (hb : BR W0 g gr vo0 va cap b) (h : RS W0 w B gu g gr vo0 vk (.slice va b.length cap) top list s vr vo) (hsi : SI list b s) (hlist : list ≤ 2147483647) (htop : top ≤ 65536) (c : UInt8) (hc : b[s.at_]? = some c) :
    Calls Tryd.prog 70 #[.pointer (some ⟨gr, 0, none⟩)] w fun e w' => StepPost W0 B gu g gr vo0 vk (.slice va b.length cap) top list (stepU top list b s c.toNat) e w' := by
  by_cases k128 : 128 ≤ c.toNat
  · have hn : ¬ (32 ≤ c.toNat ∧ c.toNat < 64) := by omega
    have hr : rowU s.most s.tab b s.at_ c.toNat = (⟨(idxU s.tab b s.at_).1, 1⟩, s.tab, (idxU s.tab b s.at_).2) := by unfold rowU; rw [if_pos k128]
    obtain ⟨⟨n, t1, e⟩, hg⟩ : ∃ q, getL b s.at_ 7 = q := ⟨_, rfl⟩
    by_cases he : e = 0
    · subst he
      by_cases hk : getB s.tab n = true
      · rw [stepU_row (f := getF s.tab n) (how := 1) (l' := s.tab) (t := t1) hn (by rw [hr]; unfold idxU; rw [hg]; simp [hk])]
        exact step_idx_ok hb h hsi hlist c hc k128 n t1 hg hk
      · rw [stepU_err hn (E := 5) (by decide) (by rw [hr]; unfold idxU; rw [hg]; simp [hk])]
        exact step_idx_out hb h hsi hlist c hc k128 n t1 hg (by simpa using hk)
    · rw [stepU_err hn (E := e) he (by rw [hr]; unfold idxU; rw [hg]; simp [he])]
      exact step_idx_num hb h hsi hlist c hc k128 e he (by rw [hg])
  by_cases k64 : 64 ≤ c.toNat
  · have hn : ¬ (32 ≤ c.toNat ∧ c.toNat < 64) := by omega
    have hr : rowU s.most s.tab b s.at_ c.toNat = (⟨(writU s.tab b s.at_ 6).1, 1⟩, if (writU s.tab b s.at_ 6).2.2 = 0 then addF s.most (writU s.tab b s.at_ 6).1 s.tab else s.tab, (writU s.tab b s.at_ 6).2) := by unfold rowU; rw [if_neg k128, if_pos k64]
    obtain ⟨⟨F, t1, e⟩, hw⟩ : ∃ q, writU s.tab b s.at_ 6 = q := ⟨_, rfl⟩
    by_cases he : e = 0
    · subst he
      rw [stepU_row (f := F) (how := 1) (l' := addF s.most F s.tab) (t := t1) hn (by rw [hr, hw]; simp)]
      exact step_add_ok hb h hsi hlist c hc ⟨k64, by omega⟩ F t1 hw
    · rw [stepU_err hn (E := e) he (by rw [hr, hw])]
      exact step_add_no hb h hsi hlist c hc ⟨k64, by omega⟩ e he (by rw [hw])
  by_cases k32 : 32 ≤ c.toNat
  · have hr : stepU top list b s c.toNat = resU top b s := by unfold stepU resU; rw [if_pos ⟨k32, by omega⟩]
    rw [hr]
    exact step_res hb h hsi hlist c hc ⟨k32, by omega⟩ htop
  have hn : ¬ (32 ≤ c.toNat ∧ c.toNat < 64) := by omega
  obtain ⟨⟨F, t1, e⟩, hw⟩ : ∃ q, writU s.tab b s.at_ 4 = q := ⟨_, rfl⟩
  by_cases k16 : 16 ≤ c.toNat
  · have hr : rowU s.most s.tab b s.at_ c.toNat = (⟨(writU s.tab b s.at_ 4).1, 3⟩, s.tab, (writU s.tab b s.at_ 4).2) := by unfold rowU; rw [if_neg k128, if_neg k64, if_pos k16]
    by_cases he : e = 0
    · subst he
      rw [stepU_row (f := F) (how := 3) (l' := s.tab) (t := t1) hn (by rw [hr, hw])]
      exact step_nev_ok hb h hsi hlist c hc ⟨k16, by omega⟩ F t1 hw
    · rw [stepU_err hn (E := e) he (by rw [hr, hw])]
      exact step_nev_no hb h hsi hlist c hc ⟨k16, by omega⟩ e he (by rw [hw])
  · have hr : rowU s.most s.tab b s.at_ c.toNat = (⟨(writU s.tab b s.at_ 4).1, 2⟩, s.tab, (writU s.tab b s.at_ 4).2) := by unfold rowU; rw [if_neg k128, if_neg k64, if_neg k16]
    by_cases he : e = 0
    · subst he
      rw [stepU_row (f := F) (how := 2) (l' := s.tab) (t := t1) hn (by rw [hr, hw])]
      exact step_not_ok hb h hsi hlist c hc (by omega) F t1 hw
    · rw [stepU_err hn (E := e) he (by rw [hr, hw])]
      exact step_not_no hb h hsi hlist c hc (by omega) e he (by rw [hw])
/-- A step keeps what a step needs. -/
theorem SI.step {top list : Int} {b : List UInt8} {s : US} {c : Nat} (h : SI list b s) (htop : top ≤ 65536) (he : (stepU top list b s c).2 = 0) : SI list b (stepU top list b s c).1 := by
  have hto := stepU_to he
  unfold stepU at he hto ⊢
  by_cases h0 : 32 ≤ c ∧ c < 64
  · rw [if_pos h0] at he hto ⊢
    by_cases h1 : (getL b s.at_ 5).2.2 ≠ 0
    · rw [if_pos h1] at he; exact absurd he h1
    rw [if_neg h1] at he hto ⊢
    by_cases h2 : s.rows ≠ [] ∨ 2 ≤ s.sizes ∨ top < ((getL b s.at_ 5).1 : Int)
    · rw [if_pos h2] at he; simp at he
    rw [if_neg h2] at he hto ⊢
    simp only at hto ⊢
    refine ⟨hto.2, by have := h.rows; simp only; omega, h.sum, ?_, by simp only; omega, by simp only; omega⟩
    rcases fitF_le (m := ((getL b s.at_ 5).1 : Int)) (l := s.tab) with h9 | h9
    · simp only; rw [h9]; show ((0 : Nat) : Int) ≤ _; omega
    · exact h9
  · rw [if_neg h0] at he hto ⊢
    by_cases h1 : (rowU s.most s.tab b s.at_ c).2.2.2 ≠ 0
    · rw [if_pos h1] at he; exact absurd he h1
    rw [if_neg h1] at he hto ⊢
    simp only at he hto ⊢
    have htab : (sumF (rowU s.most s.tab b s.at_ c).2.1 : Int) ≤ s.most := by
      have ht := h.tab
      unfold rowU
      split
      · exact ht
      split
      · simp only
        split
        · exact addF_le h.most0
        · exact ht
      split <;> exact ht
    refine ⟨hto.2, ?_, ?_, htab, h.most0, h.most1⟩
    · have := h.rows
      simp only [List.length_append, List.length_cons, List.length_nil]
      omega
    · by_cases h2 : list < ((s.sum + fsize (rowU s.most s.tab b s.at_ c).1.f : Nat) : Int)
      · rw [if_pos h2] at he; simp at he
      · simp only; omega
end Go.Proofs.YtmlnboibclfmcaaDoor
