/-
  The walk of the packer's Block.
-/
import Derived.Test.YtmlnboibclfmcaaDoorPackB
namespace Go.Proofs.YtmlnboibclfmcaaDoor
open Go.RowKit
set_option linter.unusedVariables false

/-- What a round of Block holds: the packer, the bytes so far. -/
structure BlkI (w wr : World) (B gp g : Nat) (vo vk : Value) (most least : Int) (v5 : Value) (bytes : List UInt8) (l : List FieldL) (vo' : Value) : Prop where
  pk : Pk wr B gp g vo' vk l most true least
  own : Own wr w.heap.size v5 bytes
  chg : Chg (PP gp g vo) w wr
  ob : ∀ k, vo'.ownBlock = some k → vo.ownBlock = some k ∨ w.heap.size ≤ k
theorem BlkI.aft {w wr wx : World} {B gp g : Nat} {vo vk : Value} {most least : Int} {v5 : Value} {bytes : List UInt8} {l : List FieldL} {vo' : Value} (h : BlkI w wr B gp g vo vk most least v5 bytes l vo') (a : Aft wr wx) : BlkI w wx B gp g vo vk most least v5 bytes l vo' :=
  ⟨h.pk.aft a, h.own.aft a, h.chg.aft a, h.ob⟩
theorem BlkI.put {w wr wx : World} {B gp g : Nat} {vo vk : Value} {most least : Int} {v5 v6 : Value} {bytes bytes2 : List UInt8} {l : List FieldL} {vo' : Value} (h : BlkI w wr B gp g vo vk most least v5 bytes l vo') (a : Aft wr wx) (o : Own wx wr.heap.size v6 bytes2) : BlkI w wx B gp g vo vk most least v6 bytes2 l vo' :=
  ⟨h.pk.aft a, o.base h.chg.size, h.chg.aft a, h.ob⟩
theorem BlkI.add {w wr wx : World} {B gp g : Nat} {vo vk : Value} {most least : Int} {v5 : Value} {bytes : List UInt8} {l l2 : List FieldL} {vo' vo2 : Value} (h : BlkI w wr B gp g vo vk most least v5 bytes l vo') (ht : Tab wx B g vo2 vk l2 most) (hc : Chg (TP g vo') wr wx) (ho : ∀ k, vo2.ownBlock = some k → vo'.ownBlock = some k ∨ wr.heap.size ≤ k) : BlkI w wx B gp g vo vk most least v5 bytes l2 vo2 := by
  refine ⟨h.pk.tab ht hc, h.own.chg (hc.mono (q := PP gp g vo') (fun i hi => Or.inr hi)) (h.own.pk h.pk), h.chg.trans hc (fun i hi => ?_), fun k hk => ?_⟩
  · rcases hi with rfl | hi
    · exact Or.inl (Or.inr (Or.inl rfl))
    · rcases h.ob i hi with h1 | h1
      · exact Or.inl (Or.inr (Or.inr h1))
      · exact Or.inr h1
  · rcases ho k hk with h1 | h1
    · exact h.ob k h1
    · exact Or.inr (Nat.le_trans h.chg.size h1)

set_option linter.unusedSimpArgs false in
set_option maxHeartbeats 8000000 in
set_option maxRecDepth 100000 in
theorem pblock_any {w : World} {B gp g : Nat} {vo vk : Value} {l : List FieldL} {most : Int} {told : Bool} {least : Int} (v : Value) (rows : List RowL) (h : Pk w B gp g vo vk l most told least) (hs : (sumF l : Int) ≤ most) (m0 : 0 ≤ most) (m1 : most ≤ 65536) (l0 : 0 ≤ least) (l1 : least ≤ 65536) (hB : B ≤ w.heap.size)
    (hrw : ∀ wx, Chg (PP gp g vo) w wx → RbW wx v rows) (hsum : sumR rows ≤ 1000000) :
    Calls Tryd.prog 36 #[.pointer (some ⟨gp, 0, none⟩), v] w fun e w' => ∃ v' vo', e = .returned v' ∧ BlkI w w' B gp g vo vk most least v' (rowsB most (sizesL told least most, l) rows).1 (rowsB most (sizesL told least most, l) rows).2 vo' := by
  have HSZ := Lib.hid (psizes_any h m0 m1 l0 l1 hB)
  have hrl := sumR_len rows
  obtain ⟨va, vc, vb, voff, rfl, hvc, hvm, -⟩ := (hrw w (Chg.refl _ w)).open
  have HRW := Lib.hid hrw
  have HM := Lib.hid (And.intro m0 m1)
  have HSM := Lib.hid hsum
  have HFS := Lib.hid hs
  have hlen : rows.length ≤ 40000 := by omega
  have hsl := sizesL_len told least most
  obtain ⟨b0, hb0⟩ : ∃ b0, sizesL told least most = b0 := ⟨_, rfl⟩
  rw [hb0] at HSZ hsl ⊢
  have HBW := Lib.hid hB
  have HB0 := Lib.hid hsl
  clear h hs hrw hsum hvc hvm hrl hb0 hB hsl
  go_enter Tryd.func36, Tryd.ntmps36
  go_wp2_with fail
  refine HSZ.out.mono ?_
  rintro e w1 ⟨v1, rfl, o1, p1, c1⟩
  have HI1 : Hid (BlkI w w1 B gp g vo vk most least v1 b0 l vo) := Lib.hid ⟨p1, o1, c1.mono (fun i hi => Or.inl hi), fun k hk => Or.inl hk⟩
  clear o1 p1 c1 HSZ
  go_wp2_with fail
  go_loopw [5, 14] (fun v5 vi wr => ∃ (k : Nat) (bytes : List UInt8) (l' : List FieldL) (vo' : Value), k ≤ rows.length ∧ vi = .int .i64 (k : Int) ∧ Hid (rowsB most (b0, l) (rows.take k) = (bytes, l')) ∧ Hid (bytes.length ≤ 12 + sumR (rows.take k)) ∧ Hid ((sumF l' : Int) ≤ most) ∧ Hid (BlkI w wr B gp g vo vk most least v5 bytes l' vo')) (fun _ vi _ => rows.length - (intOf vi).toNat)
  case atStart => exact ⟨0, b0, l, vo, by omega, by go_num, Lib.hid rfl, Lib.hid (by have := HB0.out; omega), HFS, HI1⟩
  case round =>
    obtain ⟨k, bytes, l', vo', hk, rfl, HE, HLN, HTS, HI⟩ := hrel
    by_cases hlt : k < rows.length
    · have hx := (HRW.out wr HI.out.chg)
      rcases hx with ⟨h1, h2⟩ | ⟨bb, oo, cc, h1, h2, h3, h4, h5⟩
      · rw [h2] at hlt; simp at hlt
      injection h1 with e1 _ e3
      subst e1 e3
      obtain ⟨y0, y1, y2⟩ := h5 k hlt
      have hmem : rows[k].f.1.length + rows[k].f.2.length + 32 ≤ 1000000 := Nat.le_trans (sumR_mem (List.getElem_mem hlt)) HSM.out
      have hst : rowsB most (b0, l) (rows.take (k + 1)) = (bytes ++ (rowB most l' rows[k]).1, (rowB most l' rows[k]).2) := by
        rw [List.take_succ_eq_append_getElem hlt, rowsB_snoc, HE.out]
      have hst2 : sumR (rows.take (k + 1)) = sumR (rows.take k) + (rows[k].f.1.length + rows[k].f.2.length + 32) := by
        rw [List.take_succ_eq_append_getElem hlt, sumR_append]
        simp [sumR]
      have hrb := rowB_len most l' rows[k]
      have hrt := rowB_tab most HM.out.1 l' rows[k] HTS.out
      have HST := Lib.hid hst
      have HST2 := Lib.hid hst2
      have HTK := Lib.hid (sumR_take rows k)
      clear hst hst2 h5 h4 h2 h3
      generalize rows[k] = r at *
      obtain ⟨⟨n, x⟩, how⟩ := r
      simp only at y0 y1 y2 hmem hrb
      have z1 : (⟨n.toArray⟩ : ByteArray).size = n.length := by show n.toArray.size = _; simp
      have z2 : (⟨x.toArray⟩ : ByteArray).size = x.length := by show x.toArray.size = _; simp
      have i1 : (k : Int) < (rows.length : Int) := by omega
      have HRB := Lib.hid hrb
      have HRT := Lib.hid hrt
      clear hrb hrt
      unfold strV at y0 y1
      have HW4 : Hid (BlkI w (wr.alloc (.cells #[.string ⟨n.toArray⟩, .string ⟨x.toArray⟩, .int .i64 how] 57)) B gp g vo vk most least u5 bytes l' vo') := Lib.hid (HI.out.aft ((Aft.refl wr).alloc _))
      have HRR : Hid (RB3 (wr.alloc (.cells #[.string ⟨n.toArray⟩, .string ⟨x.toArray⟩, .int .i64 how] 57)) wr.heap.size ⟨n.toArray⟩ ⟨x.toArray⟩ how) := Lib.hid (heap_alloc_new wr _)
      go_upto_region 5 with fail
      obtain ⟨gr, hgr⟩ : ∃ gr, wr.heap.size = gr := ⟨_, rfl⟩
      rw [hgr] at HRR ⊢
      generalize wr.alloc (.cells #[.string ⟨n.toArray⟩, .string ⟨x.toArray⟩, .int .i64 how] 57) = W4 at HW4 HRR ⊢
      have HFN := Lib.hid (fun (w' : World) (h : BlkI w w' B gp g vo vk most least u5 bytes l' vo') => tfind_any (n, x) h.pk.t (by have := sumF_len l'; have := HTS.out; have := HM.out; omega))
      have hfb := findF_bd l' (n, x)
      have hll : 32 * l'.length ≤ 65536 := by have := sumF_len l'; have := HTS.out; have := HM.out; omega
      obtain ⟨q, hq⟩ : ∃ q, findF l' (n, x) = q := ⟨_, rfl⟩
      rw [hq] at HFN hfb
      have HQ := Lib.hid hq
      obtain ⟨q1, q2⟩ := q
      simp only at hfb
      obtain ⟨fi, hfi⟩ := Int.eq_ofNat_of_zero_le hfb.1
      subst hfi
      have hfi2 : fi ≤ 2147483647 := by omega
      clear hq hfb hll y0 y1 y2 HI hgr
      have A5 := (Aft.refl W4).drew
      have D5 := Lib.hid A5
      refine wp_region_held_drew (S := fun w' => BlkI w w' B gp g vo vk most least u5 bytes l' vo' ∧ RB3 w' gr ⟨n.toArray⟩ ⟨x.toArray⟩ how) (by kernel_rfl) ⟨HW4.out.aft D5.out, HRR.out.aft D5.out⟩ (fun hHeld => ?_)
      refine wpAnyH_take (i := 0) (oi := { dst := some 19, op := Go.Op.move (Go.Operand.tmp 0), type := 51, pos := _, after := _, guard := _ }) (v := ?_) rfl (by kernel_rfl) (by kernel_rfl) (by kernel_rfl) (fun _ _ _ h => h) (Or.inl ⟨by rfl, ?_⟩) (by exact hHeld) ?_
      rotate_left
      · intro w hSw; go_simp; try with_reducible rfl
      try simp only [Act.put]
      try simp only [List.setIfInBounds_toArray]
      try simp only [List.set]
      refine wpAnyH_take (i := 1) (oi := { dst := some 20, op := Go.Op.nilCheck (Go.Operand.tmp 19), type := 0, pos := _, after := _, guard := _ }) (v := ?_) rfl (by kernel_rfl) (by kernel_rfl) (by kernel_rfl) (fun _ _ _ h => h) (Or.inl ⟨by rfl, ?_⟩) (by exact hHeld) ?_
      rotate_left
      · intro w hSw; go_simp; try with_reducible rfl
      try simp only [Act.put]
      try simp only [List.setIfInBounds_toArray]
      try simp only [List.set]
      refine wpAnyH_take (i := 2) (oi := { dst := some 21, op := Go.Op.fieldAddr 100 (Go.Operand.tmp 20) 0, type := 0, pos := _, after := _, guard := _ }) (v := ?_) rfl (by kernel_rfl) (by kernel_rfl) (by kernel_rfl) (fun _ _ _ h => h) (Or.inl ⟨by rfl, ?_⟩) (by exact hHeld) ?_
      rotate_left
      · intro w hSw; go_simp; try with_reducible rfl
      try simp only [Act.put]
      try simp only [List.setIfInBounds_toArray]
      try simp only [List.set]
      refine wpAnyH_take (i := 3) (oi := { dst := some 22, op := Go.Op.load 22 (Go.Operand.tmp 21), type := 22, pos := _, after := _, guard := _ }) (v := ?_) rfl (by kernel_rfl) (by kernel_rfl) (by kernel_rfl) (fun _ _ _ h => h) (Or.inl ⟨by rfl, ?_⟩) (by exact hHeld) ?_
      rotate_left
      · intro w hSw; obtain ⟨y0, y1, y2⟩ := hSw.2.cells; obtain ⟨c0, c1, c2, f1, f2⟩ := hSw.1.pk.cells; go_simp; try with_reducible rfl
      try simp only [Act.put]
      try simp only [List.setIfInBounds_toArray]
      try simp only [List.set]
      refine wpAnyH_take (i := 4) (oi := { dst := some 23, op := Go.Op.fieldAddr 57 (Go.Operand.tmp 7) 0, type := 0, pos := _, after := _, guard := _ }) (v := ?_) rfl (by kernel_rfl) (by kernel_rfl) (by kernel_rfl) (fun _ _ _ h => h) (Or.inl ⟨by rfl, ?_⟩) (by exact hHeld) ?_
      rotate_left
      · intro w hSw; go_simp; try with_reducible rfl
      try simp only [Act.put]
      try simp only [List.setIfInBounds_toArray]
      try simp only [List.set]
      refine wpAnyH_take (i := 5) (oi := { dst := some 24, op := Go.Op.load 28 (Go.Operand.tmp 23), type := 28, pos := _, after := _, guard := _ }) (v := ?_) rfl (by kernel_rfl) (by kernel_rfl) (by kernel_rfl) (fun _ _ _ h => h) (Or.inl ⟨by rfl, ?_⟩) (by exact hHeld) ?_
      rotate_left
      · intro w hSw; obtain ⟨y0, y1, y2⟩ := hSw.2.cells; obtain ⟨c0, c1, c2, f1, f2⟩ := hSw.1.pk.cells; go_simp; try with_reducible rfl
      try simp only [Act.put]
      try simp only [List.setIfInBounds_toArray]
      try simp only [List.set]
      refine wpAnyH_ready (rs := [6]) (by kernel_rfl) (by simp) ?_
      refine AllReadyH.cons (o := { dst := some 25, op := Go.Op.call { callee := Go.Callee.value (Go.Operand.func 27), args := #[Go.Operand.tmp 22, Go.Operand.tmp 24], argTypes := #[22, 28] }, type := 40, pos := _, after := _, guard := _ }) rfl (fun K hK => ?_) AllReadyH.nil
      go_simp
      go_at_call 27
      refine (HFN.out _ hHeld.1).mono ?_
      rintro e w6 ⟨rfl, a6⟩
      have hS2 := And.intro (hHeld.1.aft a6) (hHeld.2.aft a6)
      clear hHeld
      refine hK.out _ _ hS2 (fun hHeld => ?_)
      clear hK K hS2
      try simp only [Act.put]
      try simp only [List.setIfInBounds_toArray]
      try simp only [List.set]
      refine wpAnyH_take (i := 7) (oi := { dst := some 18, op := Go.Op.move (Go.Operand.tmp 25), type := 40, pos := _, after := _, guard := _ }) (v := ?_) rfl (by kernel_rfl) (by kernel_rfl) (by kernel_rfl) (fun _ _ _ h => h) (Or.inl ⟨by rfl, ?_⟩) (by exact hHeld) ?_
      rotate_left
      · intro w hSw; go_simp; try with_reducible rfl
      try simp only [Act.put]
      try simp only [List.setIfInBounds_toArray]
      try simp only [List.set]
      refine wpAnyH_take (i := 8) (oi := { dst := some 26, op := Go.Op.extract (Go.Operand.tmp 18) 0, type := 3, pos := _, after := _, guard := _ }) (v := ?_) rfl (by kernel_rfl) (by kernel_rfl) (by kernel_rfl) (fun _ _ _ h => h) (Or.inl ⟨by rfl, ?_⟩) (by exact hHeld) ?_
      rotate_left
      · intro w hSw; go_simp; try with_reducible rfl
      try simp only [Act.put]
      try simp only [List.setIfInBounds_toArray]
      try simp only [List.set]
      refine wpAnyH_take (i := 10) (oi := { dst := some 8, op := Go.Op.assign (Go.Operand.tmp 26), type := 3, pos := _, after := _, guard := _ }) (v := ?_) rfl (by kernel_rfl) (by kernel_rfl) (by kernel_rfl) (fun _ _ _ h => h) (Or.inl ⟨by rfl, ?_⟩) (by exact hHeld) ?_
      rotate_left
      · intro w hSw; go_simp; try with_reducible rfl
      try simp only [Act.put]
      try simp only [List.setIfInBounds_toArray]
      try simp only [List.set]
      refine wpAnyH_take (i := 9) (oi := { dst := some 27, op := Go.Op.extract (Go.Operand.tmp 18) 1, type := 4, pos := _, after := _, guard := _ }) (v := ?_) rfl (by kernel_rfl) (by kernel_rfl) (by kernel_rfl) (fun _ _ _ h => h) (Or.inl ⟨by rfl, ?_⟩) (by exact hHeld) ?_
      rotate_left
      · intro w hSw; go_simp; try with_reducible rfl
      try simp only [Act.put]
      try simp only [List.setIfInBounds_toArray]
      try simp only [List.set]
      refine wpAnyH_take (i := 11) (oi := { dst := some 9, op := Go.Op.assign (Go.Operand.tmp 27), type := 4, pos := _, after := _, guard := _ }) (v := ?_) rfl (by kernel_rfl) (by kernel_rfl) (by kernel_rfl) (fun _ _ _ h => h) (Or.inl ⟨by rfl, ?_⟩) (by exact hHeld) ?_
      rotate_left
      · intro w hSw; go_simp; try with_reducible rfl
      try simp only [Act.put]
      try simp only [List.setIfInBounds_toArray]
      try simp only [List.set]
      refine wpAnyH_done (by kernel_rfl) ?_ _
      have HI6 := Lib.hid hHeld.1
      have HR6 := Lib.hid hHeld.2
      clear hHeld A5 D5 HW4 HRR HFN
      clear a6
      have hbl : bytes.length ≤ 600000000 := by have := HLN.out; have := HTK.out; have := HSM.out; omega
      obtain ⟨y0, y1, y2⟩ := HR6.out.cells
      by_cases hA : q2 = true ∧ how ≠ 3
      · have HRW2 : Hid (rowB most l' ⟨(n, x), how⟩ = (pintL 7 128 fi, l')) := Lib.hid (by unfold rowB; rw [HQ.out, if_pos hA]; rfl)
        obtain ⟨rfl, h3⟩ := hA
        have h3b : (how != 3) = true := by simpa using h3
        go_wp2_with fail
        refine (put_any u5 bytes 7 128 fi w6 HI6.out.own.rb (by omega) (by unfold PreOk; simp) hfi2).mono ?_
        rintro e w7 ⟨v7, rfl, o7, a7⟩
        have HI7 := Lib.hid (HI6.out.put a7 o7)
        clear o7 a7 y0 y1 y2
        go_wp2_with fail
        go_roundw
        case rel => exact ⟨k + 1, _, _, vo', by omega, by go_num, Lib.hid (by rw [HST.out, HRW2.out]), Lib.hid (by rw [HST2.out]; have h1 := HLN.out; have h2 := HRB.out; rw [HRW2.out] at h2; rw [List.length_append]; simp only at h2 ⊢; omega), Lib.hid (by have h3 := HRT.out; rw [HRW2.out] at h3; exact h3), HI7⟩
        case measure => simp [intOf]; omega
      by_cases hB1 : how = 1
      · have hq2 : q2 = false := by cases q2 <;> simp_all
        have HRW2 : Hid (rowB most l' ⟨(n, x), how⟩ = (writL fi 6 64 n x, addF most (n, x) l')) := Lib.hid (by unfold rowB; rw [HQ.out, if_neg hA, if_pos hB1]; rfl)
        subst hq2 hB1
        clear hA
        go_wp2_with fail
        refine (written_any u5 bytes fi 6 64 ⟨n.toArray⟩ ⟨x.toArray⟩ w6 HI6.out.own.rb hbl hfi2 (by unfold PreOk; simp) (by rw [z1]; omega) (by rw [z2]; omega)).mono ?_
        rintro e w7 ⟨v7, rfl, o7, a7⟩
        have HI7 := Lib.hid (HI6.out.put a7 o7)
        have HR7 := Lib.hid (HR6.out.aft a7)
        clear o7 a7 y0 y1 y2
        have HTA := Lib.hid (fun (w' : World) (h : BlkI w w' B gp g vo vk most least v7 (bytes ++ writL fi 6 64 n x) l' vo') => add_any (n, x) h.pk.t HTS.out HM.out.1 HM.out.2 (by unfold fsize; simp only; omega) (Nat.le_trans HBW.out h.chg.size))
        have HJ : Hid (∀ w', (BlkI w w' B gp g vo vk most least v7 (bytes ++ writL fi 6 64 n x) l' vo' ∧ RB3 w' gr ⟨n.toArray⟩ ⟨x.toArray⟩ 1) ∨ (∃ vo2, BlkI w w' B gp g vo vk most least v7 (bytes ++ writL fi 6 64 n x) (addF most (n, x) l') vo2) → True) := Lib.hid (fun _ _ => trivial)
        clear HJ
        go_upto_region 11 with fail
        have HI8 := Lib.hid (HI7.out.aft ((Aft.refl w7).drew))
        have HR8 := Lib.hid (HR7.out.aft ((Aft.refl w7).drew))
        obtain ⟨y0, y1, y2⟩ := HR8.out.cells
        obtain ⟨c0, c1, c2, f1, f2⟩ := HI8.out.pk.cells
        clear HI7 HR7
        refine wp_region_held_drew (S := fun _ => True) (by kernel_rfl) trivial (fun hHeld => ?_)
        generalize w7.drew = W8 at y0 y1 y2 c0 c1 c2 f1 f2 HI8 HR8 ⊢
        refine wpAnyH_take (i := 0) (oi := { dst := some 52, op := Go.Op.move (Go.Operand.tmp 0), type := 51, pos := _, after := _, guard := _ }) (v := ?_) rfl (by kernel_rfl) (by kernel_rfl) (by kernel_rfl) (fun _ _ _ h => h) (Or.inl ⟨by rfl, ?_⟩) trivial ?_
        rotate_left
        · intro w hSw; go_simp; try with_reducible rfl
        try simp only [Act.put]
        try simp only [List.setIfInBounds_toArray]
        try simp only [List.set]
        refine wpAnyH_take (i := 1) (oi := { dst := some 53, op := Go.Op.nilCheck (Go.Operand.tmp 52), type := 0, pos := _, after := _, guard := _ }) (v := ?_) rfl (by kernel_rfl) (by kernel_rfl) (by kernel_rfl) (fun _ _ _ h => h) (Or.inl ⟨by rfl, ?_⟩) trivial ?_
        rotate_left
        · intro w hSw; go_simp; try with_reducible rfl
        try simp only [Act.put]
        try simp only [List.setIfInBounds_toArray]
        try simp only [List.set]
        refine wpAnyH_take (i := 2) (oi := { dst := some 54, op := Go.Op.fieldAddr 100 (Go.Operand.tmp 53) 0, type := 0, pos := _, after := _, guard := _ }) (v := ?_) rfl (by kernel_rfl) (by kernel_rfl) (by kernel_rfl) (fun _ _ _ h => h) (Or.inl ⟨by rfl, ?_⟩) trivial ?_
        rotate_left
        · intro w hSw; go_simp; try with_reducible rfl
        try simp only [Act.put]
        try simp only [List.setIfInBounds_toArray]
        try simp only [List.set]
        refine wpAnyH_take (i := 4) (oi := { dst := some 56, op := Go.Op.fieldAddr 57 (Go.Operand.tmp 7) 0, type := 0, pos := _, after := _, guard := _ }) (v := ?_) rfl (by kernel_rfl) (by kernel_rfl) (by kernel_rfl) (fun _ _ _ h => h) (Or.inl ⟨by rfl, ?_⟩) trivial ?_
        rotate_left
        · intro w hSw; go_simp; try with_reducible rfl
        try simp only [Act.put]
        try simp only [List.setIfInBounds_toArray]
        try simp only [List.set]
        refine wpAnyH_ready (rs := [3, 5]) (by kernel_rfl) (by simp) ?_
        refine (AllReadyH.cons (o := { dst := some 55, op := Go.Op.load 22 (Go.Operand.tmp 54), type := 22, pos := _, after := _, guard := _ }) rfl (fun K hK => ?_) (AllReadyH.cons (o := { dst := some 57, op := Go.Op.load 28 (Go.Operand.tmp 56), type := 28, pos := _, after := _, guard := _ }) rfl (fun K hK => ?_) AllReadyH.nil))
        focus
          go_simp
          skip
          refine hK.out _ _ trivial (fun hHeld => ?_)
          clear hK K
          try simp only [Act.put]
          try simp only [List.setIfInBounds_toArray]
          try simp only [List.set]
          refine wpAnyH_ready (rs := [5]) (by kernel_rfl) (by simp) ?_
          refine (AllReadyH.cons (o := { dst := some 57, op := Go.Op.load 28 (Go.Operand.tmp 56), type := 28, pos := _, after := _, guard := _ }) rfl (fun K hK => ?_) AllReadyH.nil)
          go_simp
          skip
          refine hK.out _ _ trivial (fun hHeld => ?_)
          clear hK K
          try simp only [Act.put]
          try simp only [List.setIfInBounds_toArray]
          try simp only [List.set]
          refine wpAnyH_ready (rs := [6]) (by kernel_rfl) (by simp) ?_
          refine (AllReadyH.cons (o := { dst := some 58, op := Go.Op.call { callee := Go.Callee.value (Go.Operand.func 19), args := #[Go.Operand.tmp 55, Go.Operand.tmp 57], argTypes := #[22, 28] }, type := 0, pos := _, after := _, guard := _ }) rfl (fun K hK => ?_) AllReadyH.nil)
          go_simp
          go_at_call 19
          refine (HTA.out _ HI8.out).mono ?_
          rintro e w9 ⟨rfl, vo2, ht, hc, ho⟩
          have HI9 := Lib.hid (HI8.out.add ht hc ho)
          clear ht hc ho y0 y1 y2 c0 c1 c2 f1 f2
          refine hK.out _ _ trivial (fun hHeld => ?_)
          clear hK K
          try simp only [Act.put]
          try simp only [List.setIfInBounds_toArray]
          try simp only [List.set]
          refine wpAnyH_done (by kernel_rfl) ?_ _
        rotate_left 1
        focus
          go_simp
          skip
          refine hK.out _ _ trivial (fun hHeld => ?_)
          clear hK K
          try simp only [Act.put]
          try simp only [List.setIfInBounds_toArray]
          try simp only [List.set]
          refine wpAnyH_ready (rs := [3]) (by kernel_rfl) (by simp) ?_
          refine (AllReadyH.cons (o := { dst := some 55, op := Go.Op.load 22 (Go.Operand.tmp 54), type := 22, pos := _, after := _, guard := _ }) rfl (fun K hK => ?_) AllReadyH.nil)
          go_simp
          skip
          refine hK.out _ _ trivial (fun hHeld => ?_)
          clear hK K
          try simp only [Act.put]
          try simp only [List.setIfInBounds_toArray]
          try simp only [List.set]
          refine wpAnyH_ready (rs := [6]) (by kernel_rfl) (by simp) ?_
          refine (AllReadyH.cons (o := { dst := some 58, op := Go.Op.call { callee := Go.Callee.value (Go.Operand.func 19), args := #[Go.Operand.tmp 55, Go.Operand.tmp 57], argTypes := #[22, 28] }, type := 0, pos := _, after := _, guard := _ }) rfl (fun K hK => ?_) AllReadyH.nil)
          go_simp
          go_at_call 19
          refine (HTA.out _ HI8.out).mono ?_
          rintro e w9 ⟨rfl, vo2, ht, hc, ho⟩
          have HI9 := Lib.hid (HI8.out.add ht hc ho)
          clear ht hc ho y0 y1 y2 c0 c1 c2 f1 f2
          refine hK.out _ _ trivial (fun hHeld => ?_)
          clear hK K
          try simp only [Act.put]
          try simp only [List.setIfInBounds_toArray]
          try simp only [List.set]
          refine wpAnyH_done (by kernel_rfl) ?_ _
        rotate_left 1
        all_goals
          clear HI8 HR8 HTA
          go_wp2_with fail
          go_roundw
          case rel => exact ⟨k + 1, _, _, vo2, by omega, by go_num, Lib.hid (by rw [HST.out, HRW2.out]), Lib.hid (by rw [HST2.out]; have h1 := HLN.out; have h2 := HRB.out; rw [HRW2.out] at h2; rw [List.length_append]; simp only at h2 ⊢; omega), Lib.hid (by have h3 := HRT.out; rw [HRW2.out] at h3; exact h3), HI9⟩
          case measure => simp [intOf]; omega
      by_cases hC : how = 3
      · have HRW2 : Hid (rowB most l' ⟨(n, x), how⟩ = (writL fi 4 16 n x, l')) := Lib.hid (by unfold rowB; rw [HQ.out, if_neg hA, if_neg hB1, if_pos hC]; rfl)
        subst hC
        clear hA hB1
        cases q2
        all_goals
          go_wp2_with fail
          refine (written_any u5 bytes fi 4 16 ⟨n.toArray⟩ ⟨x.toArray⟩ w6 HI6.out.own.rb hbl hfi2 (by unfold PreOk; simp) (by rw [z1]; omega) (by rw [z2]; omega)).mono ?_
          rintro e w7 ⟨v7, rfl, o7, a7⟩
          have HI7 := Lib.hid (HI6.out.put a7 o7)
          have HR7 := Lib.hid (HR6.out.aft a7)
          clear o7 a7 y0 y1 y2
          go_wp2_with fail
          go_roundw
          case rel => exact ⟨k + 1, _, _, vo', by omega, by go_num, Lib.hid (by rw [HST.out, HRW2.out]), Lib.hid (by rw [HST2.out]; have h1 := HLN.out; have h2 := HRB.out; rw [HRW2.out] at h2; rw [List.length_append]; simp only at h2 ⊢; omega), Lib.hid (by have h3 := HRT.out; rw [HRW2.out] at h3; exact h3), HI7⟩
          case measure => simp [intOf]; omega
      · have hq2 : q2 = false := by cases q2 <;> simp_all
        have HRW2 : Hid (rowB most l' ⟨(n, x), how⟩ = (writL fi 4 0 n x, l')) := Lib.hid (by unfold rowB; rw [HQ.out, if_neg hA, if_neg hB1, if_neg hC]; rfl)
        subst hq2
        have b1 : (how == 1) = false := by simpa using hB1
        have b3 : (how == 3) = false := by simpa using hC
        clear hA
        go_wp2_with fail
        refine (written_any u5 bytes fi 4 0 ⟨n.toArray⟩ ⟨x.toArray⟩ w6 HI6.out.own.rb hbl hfi2 (by unfold PreOk; simp) (by rw [z1]; omega) (by rw [z2]; omega)).mono ?_
        rintro e w7 ⟨v7, rfl, o7, a7⟩
        have HI7 := Lib.hid (HI6.out.put a7 o7)
        have HR7 := Lib.hid (HR6.out.aft a7)
        clear o7 a7 y0 y1 y2
        go_wp2_with fail
        go_roundw
        case rel => exact ⟨k + 1, _, _, vo', by omega, by go_num, Lib.hid (by rw [HST.out, HRW2.out]), Lib.hid (by rw [HST2.out]; have h1 := HLN.out; have h2 := HRB.out; rw [HRW2.out] at h2; rw [List.length_append]; simp only at h2 ⊢; omega), Lib.hid (by have h3 := HRT.out; rw [HRW2.out] at h3; exact h3), HI7⟩
        case measure => simp [intOf]; omega
    · have hkk : rows.take k = rows := List.take_of_length_le (by omega)
      rw [hkk] at HE
      have i1 : ¬ (k : Int) < (rows.length : Int) := by omega
      clear hkk
      go_wp2_with fail
      go_ret
      refine ⟨_, rfl, vo', ?_⟩
      rw [HE.out]
      exact HI.out

end Go.Proofs.YtmlnboibclfmcaaDoor
