/-
  UnpackPlays: the walk of the law.
-/
import Derived.Test.YtmlnboibclfmcaaDoorUnPlS
import Derived.BigQuiet
namespace Go.Proofs.YtmlnboibclfmcaaDoor
open Go.ChangeShapes Go.WideShapes Go.ChangeAt Go.RowKit
set_option linter.unusedVariables false

theorem unew_no (n list : Int) (h : ¬ (0 ≤ n ∧ n ≤ 65536) ∨ ¬ (0 ≤ list ∧ list ≤ 2147483647)) (w : World) : Calls Tryd.prog 47 #[.int .i64 n, .int .i64 list] w fun e w' => e = .returned (.tuple #[.pointer none, .int .i64 1]) ∧ w = w' := by
  by_cases hl : 0 ≤ list ∧ list ≤ 2147483647
  · have HT := Lib.hid (tnew_no n (by rcases h with h | h; exact h; exact absurd hl h) w)
    have i1 : ¬ list < 0 := by omega
    have i2 : ¬ list > 2147483647 := by omega
    clear h hl
    go_enter Tryd.func47, Tryd.ntmps47
    go_wp2_with fail
    refine HT.out.mono ?_
    rintro e w1 ⟨rfl, rfl⟩
    go_wp2_with fail
    go_ret2
    exact ⟨rfl, rfl⟩
  · by_cases h0 : list < 0
    · clear h hl
      go_enter Tryd.func47, Tryd.ntmps47
      go_wp2_with fail
      go_ret2
      exact ⟨rfl, rfl⟩
    · have i2 : list > 2147483647 := by omega
      clear h hl
      go_enter Tryd.func47, Tryd.ntmps47
      go_wp2_with fail
      go_ret2
      exact ⟨rfl, rfl⟩
theorem rb_cutU {w : World} {u : Value} {l : List UInt8} (h : Rb w u l) : ∃ (a : Option Addr) (cap : Nat), u = .slice a l.length cap ∧ l.length ≤ cap ∧ cap ≤ maxLen ∧ (400 < l.length → ∃ b off, a = some ⟨b, off, none⟩) := by
  rcases h with ⟨⟨a0, rfl⟩, rfl⟩ | ⟨b, off, cap, rfl, h1, h2, h3, h4⟩
  · exact ⟨a0, 0, rfl, Nat.zero_le _, Nat.zero_le _, fun h => by simp at h⟩
  · exact ⟨_, cap, rfl, h1, h2, fun _ => ⟨b, off, rfl⟩⟩
theorem roomy9 (v : Value) (l : List UInt8) (K : Nat) (w : World) (hr : Rb w v l) (hlen : l.length ≤ 1000000000) (hK : l.length = K) :
    Calls Tryd.prog 53 #[v, .int .u8 9] w fun e w' => ∃ gf, e = .returned (.slice (some ⟨gf, 0, none⟩) (K + 80) (K + 80)) ∧ FB8 w' gf (l ++ List.replicate 80 9) ∧ Aft w w' := by
  subst hK
  refine (roomy_any v l 9 w hr hlen).mono ?_
  rintro e w' ⟨g, rfl, _, hb, ha⟩
  exact ⟨g, rfl, hb.out, ha⟩
theorem intact9 (v1 v2 : Value) (l : List UInt8) (w : World) (h1 : Rb w v1 (l ++ List.replicate 80 9)) (h2 : Rb w v2 l) (hlen : l.length ≤ 1000000000) :
    Calls Tryd.prog 55 #[v1, v2, .int .u8 9] w fun e w' => e = .returned (.bool true) ∧ Aft w w' := intact_any v1 v2 l 9 w h1 h2 hlen

set_option linter.unusedSimpArgs false in
set_option maxHeartbeats 32000000 in
set_option maxRecDepth 100000 in
theorem unpackplays_out (v : Value) (top list : Int) (w : World) (hm : MaxOk w) (h : ¬ (0 ≤ top ∧ top ≤ 65536) ∨ ¬ (0 ≤ list ∧ list ≤ 2147483647)) :
    Calls Tryd.prog 14 #[.int .i64 top, .int .i64 list, v] w fun e w' => e = .returned (.bool true) ∧ Aft w w' := by
  have HN := Lib.hid (unew_no top list h w)
  have HR := Lib.hid (unpackruns_any w hm)
  have hc : top < 0 ∨ (¬ top < 0 ∧ top > 65536) ∨ (¬ top < 0 ∧ ¬ top > 65536 ∧ list < 0) ∨ (¬ top < 0 ∧ ¬ top > 65536 ∧ ¬ list < 0 ∧ list > 2147483647) := by omega
  clear h hm
  rcases hc with k1 | ⟨k1, k2⟩ | ⟨k1, k2, k3⟩ | ⟨k1, k2, k3, k4⟩
  all_goals
    go_enter Tryd.func14, Tryd.ntmps14
    go_wp2_with fail
    refine HN.out.mono ?_
    rintro e w0 ⟨rfl, rfl⟩
    go_wp2_with fail
    refine HR.out.mono ?_
    rintro e w5 ⟨rfl, a5⟩
    have HA5 := Lib.hid a5
    clear a5
    go_wp2_with fail
    go_ret
    exact ⟨rfl, HA5.out⟩

set_option linter.unusedSimpArgs false in
set_option maxHeartbeats 64000000 in
set_option maxRecDepth 100000 in
theorem unpackplays_any (v : Value) (top list : Int) (t0 : 0 ≤ top) (t1 : top ≤ 65536) (l0 : 0 ≤ list) (l1 : list ≤ 2147483647) (L : List (List UInt8)) (w : World) (hm : MaxOk w) (hr : RbBB w v L) :
    Calls Tryd.prog 14 #[.int .i64 top, .int .i64 list, v] w fun e w' => e = .returned (.bool true) ∧ Aft w w' := by
  have HMA := Lib.hid (fun w' (a : Aft w w') => hm.aft a)
  have HB4 := Lib.hid (And.intro (And.intro t0 t1) (And.intro l0 l1))
  obtain ⟨va, vc, vb, voff, rfl, hvc, hvm, hcell⟩ := hr.open
  unfold maxLen at hvm
  have HCELL := Lib.hid hcell
  have HNEW := Lib.hid (unew_yes top list t0 t1 l0 l1 w hm)
  have HNT := Lib.hid (fun w => rnew_yes top t0 t1 w)
  have q1 : ¬ top < 0 := by omega
  have q2 : ¬ top > 65536 := by omega
  have q3 : ¬ list < 0 := by omega
  have q4 : ¬ list > 2147483647 := by omega
  clear hr hm t0 t1 l0 l1 hcell
  go_enter Tryd.func14, Tryd.ntmps14
  go_wp2_with fail
  refine HNEW.out.mono ?_
  rintro e w1 ⟨gu, g, vk, rfl, hu1, a1⟩
  have HU1 := Lib.hid hu1
  have HA1 := Lib.hid a1
  have HNT1 := Lib.hid (HNT.out w1)
  clear hu1 a1 HNEW HNT
  go_wp2_with fail
  refine HNT1.out.mono ?_
  rintro e w2 ⟨gt, rfl, ht2, a2⟩
  have a3 : Aft w2 (w2.alloc (.cells #[.pointer (some ⟨gt, 0, none⟩), .int .i64 top, .int .i64 list, .bool false] 84)) := (Aft.refl w2).alloc _
  have HS0 : Hid (SU w (w2.alloc (.cells #[.pointer (some ⟨gt, 0, none⟩), .int .i64 top, .int .i64 list, .bool false] 84)) w1.heap.size gu g w2.heap.size gt vk top list [] top false (.slice none 0 0) [] top false (.slice none 0 0)) := Lib.hid
    ⟨(HU1.out.aft a2).aft a3, ⟨ht2.aft a3, heap_alloc_new w2 _, a2.to.size⟩, ApU.start HU1.out ht2.gB a2.to.size, (HA1.out.trans a2).trans a3, HA1.out.to.size, Nat.le_trans a2.to.size a3.to.size⟩
  have HJ0 : Hid ((sumF ([] : List FieldL) : Int) ≤ top ∧ 0 ≤ top ∧ top ≤ top) := Lib.hid ⟨by have := HB4.out.1.1; simpa [sumF] using this, HB4.out.1.1, Int.le_refl _⟩
  clear a2 a3 ht2 HNT1 HU1 HA1 q1 q2 q3 q4
  go_wp2_with fail
  generalize w2.heap.size = gw at HS0 ⊢
  generalize w2.alloc (.cells #[.pointer (some ⟨gt, 0, none⟩), .int .i64 top, .int .i64 list, .bool false] 84) = w3 at HS0 ⊢
  generalize w1.heap.size = B2 at HS0
  go_loopw [14] (fun vi wr => ∃ (k : Nat) (T : List FieldL) (M : Int) (bad : Bool) (vo vo2 : Value), k ≤ L.length ∧ k ≤ 12 ∧ vi = .int .i64 (k : Int) ∧ Hid (SU w wr B2 gu g gw gt vk top list T M bad vo T M bad vo2) ∧ Hid ((sumF T : Int) ≤ M ∧ 0 ≤ M ∧ M ≤ top)) (fun vi _ => L.length - (intOf vi).toNat)
  case atStart => exact ⟨0, [], top, false, _, _, by omega, by omega, by go_num, HS0, HJ0⟩
  case round =>
    clear HS0 HJ0
    obtain ⟨k, T, M, bad, vo, vo2, hk, hk12, rfl, HS, HJ⟩ := hrel
    by_cases hlt : k < L.length
    · have i1 : (k : Int) < (L.length : Int) := by omega
      by_cases hlt12 : k < 12
      · have i2 : (k : Int) < 12 := by omega
        obtain ⟨hva, hvb, u, hu, hrb⟩ := HCELL.out k hlt
        subst hva
        have c0 : wr.cell? ⟨vb, voff + k, none⟩ = some u := (Below.cell HS.out.aft.to (p := ⟨vb, voff + k, none⟩) hvb).trans hu
        generalize hLk : L[k] = lb at hrb
        obtain ⟨ba, bc, rfl, hc1, hc2, hsome⟩ := rb_cutU hrb
        unfold maxLen at hc2
        have HRB := Lib.hid hrb
        have HLT := Lib.hid hlt
        clear hLk hu hvb hrb hlt hk
        by_cases h400 : lb.length > 400
        · have j1 : (lb.length : Int) > 400 := by omega
          obtain ⟨bb, bo, rfl⟩ := hsome h400
          have j2 : (400 : Int) ≤ (bc : Int) := by omega
          have HRC := Lib.hid (fun wx (a : Aft w wx) => (HRB.out.aft a).cut (k := 400) (by omega))
          have HLL : Hid ((lb.take 400).length = 400) := Lib.hid (by rw [List.length_take]; omega)
          clear HRB hsome
          generalize lb.take 400 = bs at HRC HLL
          have HLM : Hid (400 ≤ 1000000) := Lib.hid (by decide)
          have jz1 : (400 : Int) ≤ 480 := by omega
          have HRO := Lib.hid (roomy9 (.slice (some ⟨bb, bo, none⟩) 400 bc) bs 400 wr (HRC.out wr HS.out.aft) (by rw [HLL.out]; have := HLM.out; omega) HLL.out)
          go_wp2_with fail
          refine HRO.out.mono ?_
          rintro e w5 ⟨gf, rfl, hf5, a5⟩
          replace HS := Lib.hid (HS.out.to a5)
          obtain ⟨F, hF⟩ : ∃ F, bs ++ List.replicate 80 9 = F := ⟨_, rfl⟩
          rw [hF] at hf5
          have HF := Lib.hid hf5
          have HFE := Lib.hid hF
          obtain ⟨o, ho⟩ : ∃ o, outU top list bad bs T M = o := ⟨_, rfl⟩
          have HSJ := outU_SJ (top := top) (list := list) (bad := bad) (b := bs) HJ.out.1 HJ.out.2.1 HJ.out.2.2
          rw [ho] at HSJ
          have HUB := Lib.hid (ublock_out (n := 400) (va := some ⟨gf, 0, none⟩) (cap := 480) HS.out.un (fun wx hc => (HF.out.chg hc (HF.out.un HS.out.un)).cut HFE.out (by rw [HLL.out]; exact HLM.out) HLL.out) HLL.out HLM.out HJ.out.1 HJ.out.2.1 (by have h1 := HJ.out.2.2; have h2 := HB4.out.1.2; omega) HB4.out.1.2 HB4.out.2.1 HB4.out.2.2 o ho)
          have HRU := Lib.hid (fun (wc : World) (hs : RUn wc B2 gw gt vo2 T M top list bad) (a : Aft w wc) (hB : w.heap.size ≤ B2) (hB2 : B2 ≤ wc.heap.size) => rublock_out (n := 400) hs (fun wx hc => HRC.out wx (RUn.below a hs hB hc)) hB2 HLL.out HLM.out HJ.out.1 HJ.out.2.1 (by have h1 := HJ.out.2.2; have h2 := HB4.out.1.2; omega) HB4.out.1.2 HB4.out.2.1 HB4.out.2.2 o ho)
          obtain ⟨R, E, T2, M2, bad2⟩ := o
          try simp only at HSJ HUB HRU
          have HJ2 := Lib.hid HSJ
          clear hf5 a5 hF ho HSJ HRO HJ c0
          go_wp2_with fail
          refine HUB.out.mono ?_
          rintro e w6 ⟨ra, rk, vo6, rfl, hu6, ho6, hc6, hb6⟩
          replace HF := Lib.hid (HF.out.chg hc6 (HF.out.un HS.out.un))
          replace HS := Lib.hid (HS.out.stepU hu6 hc6 hb6)
          have HO6 := Lib.hid ho6
          clear hu6 ho6 hc6 hb6 HUB
          go_wp2_with fail
          refine (HRU.out _ HS.out.ru HS.out.aft HS.out.hB HS.out.hB2).mono ?_
          rintro e w7 ⟨ra7, rk7, vo7, rfl, hu7, ho7, hc7, hb7⟩
          replace HF := Lib.hid (HF.out.chg hc7 (HF.out.run HS.out.ru))
          replace HO6 := Lib.hid (HO6.out.run7 HS.out.ru hc7)
          have HO7 := Lib.hid ho7
          replace HS := Lib.hid (HS.out.stepR hu7 hc7 hb7)
          clear hu7 ho7 hc7 hb7 HRU
          have HUT := Lib.hid (utable_any HS.out.un)
          go_wp2_with fail
          refine HUT.out.mono ?_
          rintro e w8 ⟨rfl, a8⟩
          replace HF := Lib.hid (HF.out.aft a8)
          replace HO6 := Lib.hid (HO6.out.aft a8)
          replace HO7 := Lib.hid (HO7.out.aft a8)
          replace HS := Lib.hid (HS.out.to a8)
          clear a8 HUT
          generalize w6.heap.size = z7 at HO7
          generalize w5.heap.size = z6 at HO6
          obtain ⟨ta, tk, hte, -, -⟩ := HS.out.ru.t.own.slice
          have HTE := Lib.hid hte
          have HSF : Hid (sumF T2 ≤ 1000000000000) := Lib.hid (by have h1 := HJ2.out.1; have h2 := HJ2.out.2.2; have h3 := HB4.out.1.2; omega)
          clear hte
          go_upto_region 19 with fail
          have HD : Hid (SU w w8.drew B2 gu g gw gt vk top list T2 M2 bad2 vo6 T2 M2 bad2 vo7 ∧ OwnW w8.drew z6 (.slice ra R.length rk) R ∧ OwnW w8.drew z7 (.slice ra7 R.length rk7) R ∧ FB8 w8.drew gf F) := Lib.hid ⟨HS.out.to ((Aft.refl w8).drew), HO6.out.aft ((Aft.refl w8).drew), HO7.out.aft ((Aft.refl w8).drew), HF.out.aft ((Aft.refl w8).drew)⟩
          clear HS HO6 HO7 HF
          refine wp_region_held_drew (S := fun wz => SU w wz B2 gu g gw gt vk top list T2 M2 bad2 vo6 T2 M2 bad2 vo7 ∧ OwnW wz z6 (.slice ra R.length rk) R ∧ OwnW wz z7 (.slice ra7 R.length rk7) R ∧ FB8 wz gf F) (by kernel_rfl) HD.out (fun hHeld => ?_)
          refine wpAnyH_take (i := 0) (oi := { dst := some 117, op := Go.Op.move (Go.Operand.tmp 17), type := 59, pos := _, after := _, guard := _ }) (v := ?_) rfl (by kernel_rfl) (by kernel_rfl) (by kernel_rfl) (fun _ _ _ h => h) (Or.inl ⟨by rfl, ?_⟩) (by exact hHeld) ?_
          rotate_left
          · intro w hSw; go_simp; try with_reducible rfl
          try simp only [Act.put]
          try simp only [List.setIfInBounds_toArray]
          try simp only [List.set]
          refine wpAnyH_take (i := 1) (oi := { dst := some 118, op := Go.Op.move (Go.Operand.tmp 19), type := 59, pos := _, after := _, guard := _ }) (v := ?_) rfl (by kernel_rfl) (by kernel_rfl) (by kernel_rfl) (fun _ _ _ h => h) (Or.inl ⟨by rfl, ?_⟩) (by exact hHeld) ?_
          rotate_left
          · intro w hSw; go_simp; try with_reducible rfl
          try simp only [Act.put]
          try simp only [List.setIfInBounds_toArray]
          try simp only [List.set]
          refine wpAnyH_ready (rs := [2]) (by kernel_rfl) (by simp) ?_
          refine AllReadyH.cons (o := { dst := some 119, op := Go.Op.call { callee := Go.Callee.value (Go.Operand.func 51), args := #[Go.Operand.tmp 117, Go.Operand.tmp 118], argTypes := #[59, 59] }, type := 4, pos := _, after := _, guard := _ }) rfl (fun K hK => ?_) AllReadyH.nil
          go_simp
          go_at_call 51
          refine (sameW_any _ _ R _ hHeld.2.1.rbw hHeld.2.2.1.rbw).mono ?_
          rintro e w9 ⟨rfl, a9⟩
          have hS2 := And.intro (hHeld.1.to a9) (And.intro (hHeld.2.1.aft a9) (And.intro (hHeld.2.2.1.aft a9) (hHeld.2.2.2.aft a9)))
          clear hHeld
          refine hK.out _ _ hS2 (fun hHeld => ?_)
          clear hK K hS2
          try simp only [Act.put]
          try simp only [List.setIfInBounds_toArray]
          try simp only [List.set]
          refine wpAnyH_take (i := 3) (oi := { dst := some 120, op := Go.Op.unOp Go.UnOp.not 4 (Go.Operand.tmp 119), type := 4, pos := _, after := _, guard := _ }) (v := ?_) rfl (by kernel_rfl) (by kernel_rfl) (by kernel_rfl) (fun _ _ _ h => h) (Or.inl ⟨by rfl, ?_⟩) (by exact hHeld) ?_
          rotate_left
          · intro w hSw; go_simp; try with_reducible rfl
          try simp only [Act.put]
          try simp only [List.setIfInBounds_toArray]
          try simp only [List.set]
          refine wpAnyH_take (i := 4) (oi := { dst := some 121, op := Go.Op.move (Go.Operand.tmp 120), type := 4, pos := _, after := _, guard := _ }) (v := ?_) rfl (by kernel_rfl) (by kernel_rfl) (by kernel_rfl) (fun _ _ _ h => h) (Or.inl ⟨by rfl, ?_⟩) (by exact hHeld) ?_
          rotate_left
          · intro w hSw; go_simp; try with_reducible rfl
          try simp only [Act.put]
          try simp only [List.setIfInBounds_toArray]
          try simp only [List.set]
          refine wpAnyH_take (i := 5) (oi := { dst := some 122, op := Go.Op.move (Go.Operand.tmp 18), type := 23, pos := _, after := _, guard := _ }) (v := ?_) rfl (by kernel_rfl) (by kernel_rfl) (by kernel_rfl) (fun _ _ _ h => h) (Or.inl ⟨by rfl, ?_⟩) (by exact hHeld) ?_
          rotate_left
          · intro w hSw; go_simp; try with_reducible rfl
          try simp only [Act.put]
          try simp only [List.setIfInBounds_toArray]
          try simp only [List.set]
          refine wpAnyH_take (i := 6) (oi := { dst := some 123, op := Go.Op.move (Go.Operand.tmp 20), type := 3, pos := _, after := _, guard := _ }) (v := ?_) rfl (by kernel_rfl) (by kernel_rfl) (by kernel_rfl) (fun _ _ _ h => h) (Or.inl ⟨by rfl, ?_⟩) (by exact hHeld) ?_
          rotate_left
          · intro w hSw; go_simp; try with_reducible rfl
          try simp only [Act.put]
          try simp only [List.setIfInBounds_toArray]
          try simp only [List.set]
          refine wpAnyH_take (i := 7) (oi := { dst := some 124, op := Go.Op.binOp Go.BinOp.neq 3 (Go.Operand.tmp 122) (Go.Operand.tmp 123) 3, type := 4, pos := _, after := _, guard := _ }) (v := ?_) rfl (by kernel_rfl) (by kernel_rfl) (by kernel_rfl) (fun _ _ _ h => h) (Or.inl ⟨by rfl, ?_⟩) (by exact hHeld) ?_
          rotate_left
          · intro w hSw; go_simp; try with_reducible rfl
          try simp only [Act.put]
          try simp only [List.setIfInBounds_toArray]
          try simp only [List.set]
          refine wpAnyH_take (i := 8) (oi := { dst := some 125, op := Go.Op.pick (Go.Operand.tmp 121) (Go.Operand.const (Go.Value.bool true)) (Go.Operand.tmp 124), type := 4, pos := _, after := _, guard := _ }) (v := ?_) rfl (by kernel_rfl) (by kernel_rfl) (by kernel_rfl) (fun _ _ _ h => h) (Or.inl ⟨by rfl, ?_⟩) (by exact hHeld) ?_
          rotate_left
          · intro w hSw; go_simp; try with_reducible rfl
          try simp only [Act.put]
          try simp only [List.setIfInBounds_toArray]
          try simp only [List.set]
          refine wpAnyH_take (i := 9) (oi := { dst := some 126, op := Go.Op.move (Go.Operand.tmp 125), type := 4, pos := _, after := _, guard := _ }) (v := ?_) rfl (by kernel_rfl) (by kernel_rfl) (by kernel_rfl) (fun _ _ _ h => h) (Or.inl ⟨by rfl, ?_⟩) (by exact hHeld) ?_
          rotate_left
          · intro w hSw; go_simp; try with_reducible rfl
          try simp only [Act.put]
          try simp only [List.setIfInBounds_toArray]
          try simp only [List.set]
          refine wpAnyH_take (i := 10) (oi := { dst := some 127, op := Go.Op.move (Go.Operand.tmp 9), type := 74, pos := _, after := _, guard := _ }) (v := ?_) rfl (by kernel_rfl) (by kernel_rfl) (by kernel_rfl) (fun _ _ _ h => h) (Or.inl ⟨by rfl, ?_⟩) (by exact hHeld) ?_
          rotate_left
          · intro w hSw; go_simp; try with_reducible rfl
          try simp only [Act.put]
          try simp only [List.setIfInBounds_toArray]
          try simp only [List.set]
          refine wpAnyH_take (i := 12) (oi := { dst := some 129, op := Go.Op.move (Go.Operand.tmp 13), type := 82, pos := _, after := _, guard := _ }) (v := ?_) rfl (by kernel_rfl) (by kernel_rfl) (by kernel_rfl) (fun _ _ _ h => h) (Or.inl ⟨by rfl, ?_⟩) (by exact hHeld) ?_
          rotate_left
          · intro w hSw; go_simp; try with_reducible rfl
          try simp only [Act.put]
          try simp only [List.setIfInBounds_toArray]
          try simp only [List.set]
          refine wpAnyH_take (i := 13) (oi := { dst := some 130, op := Go.Op.nilCheck (Go.Operand.tmp 129), type := 0, pos := _, after := _, guard := _ }) (v := ?_) rfl (by kernel_rfl) (by kernel_rfl) (by kernel_rfl) (fun _ _ _ h => h) (Or.inl ⟨by rfl, ?_⟩) (by exact hHeld) ?_
          rotate_left
          · intro w hSw; go_simp; try with_reducible rfl
          try simp only [Act.put]
          try simp only [List.setIfInBounds_toArray]
          try simp only [List.set]
          refine wpAnyH_take (i := 14) (oi := { dst := some 131, op := Go.Op.fieldAddr 84 (Go.Operand.tmp 130) 3, type := 0, pos := _, after := _, guard := _ }) (v := ?_) rfl (by kernel_rfl) (by kernel_rfl) (by kernel_rfl) (fun _ _ _ h => h) (Or.inl ⟨by rfl, ?_⟩) (by exact hHeld) ?_
          rotate_left
          · intro w hSw; go_simp; try with_reducible rfl
          try simp only [Act.put]
          try simp only [List.setIfInBounds_toArray]
          try simp only [List.set]
          refine wpAnyH_take (i := 15) (oi := { dst := some 132, op := Go.Op.load 4 (Go.Operand.tmp 131), type := 4, pos := _, after := _, guard := _ }) (v := ?_) rfl (by kernel_rfl) (by kernel_rfl) (by kernel_rfl) (fun _ _ _ h => h) (Or.inl ⟨by rfl, ?_⟩) (by exact hHeld) ?_
          rotate_left
          · intro w hSw; obtain ⟨z0, z1, z2, z3, z4⟩ := hSw.1.ru.cells; obtain ⟨y0, y1, y2, y3⟩ := hSw.1.ru.t.cells; rw [HTE.out] at y0; go_simp; try with_reducible rfl
          try simp only [Act.put]
          try simp only [List.setIfInBounds_toArray]
          try simp only [List.set]
          refine wpAnyH_ready (rs := [11]) (by kernel_rfl) (by simp) ?_
          refine AllReadyH.cons (o := { dst := some 128, op := Go.Op.call { callee := Go.Callee.value (Go.Operand.func 52), args := #[Go.Operand.tmp 127], argTypes := #[74] }, type := 4, pos := _, after := _, guard := _ }) rfl (fun K hK => ?_) AllReadyH.nil
          go_simp
          go_at_call 52
          refine (ubad_any hHeld.1.un).mono ?_
          rintro e w9 ⟨rfl, rfl⟩
          have hS2 := hHeld
          clear hHeld
          refine hK.out _ _ hS2 (fun hHeld => ?_)
          clear hK K hS2
          try simp only [Act.put]
          try simp only [List.setIfInBounds_toArray]
          try simp only [List.set]
          refine wpAnyH_take (i := 16) (oi := { dst := some 133, op := Go.Op.binOp Go.BinOp.neq 4 (Go.Operand.tmp 128) (Go.Operand.tmp 132) 4, type := 4, pos := _, after := _, guard := _ }) (v := ?_) rfl (by kernel_rfl) (by kernel_rfl) (by kernel_rfl) (fun _ _ _ h => h) (Or.inl ⟨by rfl, ?_⟩) (by exact hHeld) ?_
          rotate_left
          · intro w hSw; go_simp; try with_reducible rfl
          try simp only [Act.put]
          try simp only [List.setIfInBounds_toArray]
          try simp only [List.set]
          refine wpAnyH_take (i := 17) (oi := { dst := some 134, op := Go.Op.pick (Go.Operand.tmp 126) (Go.Operand.const (Go.Value.bool true)) (Go.Operand.tmp 133), type := 4, pos := _, after := _, guard := _ }) (v := ?_) rfl (by kernel_rfl) (by kernel_rfl) (by kernel_rfl) (fun _ _ _ h => h) (Or.inl ⟨by rfl, ?_⟩) (by exact hHeld) ?_
          rotate_left
          · intro w hSw; go_simp; try with_reducible rfl
          try simp only [Act.put]
          try simp only [List.setIfInBounds_toArray]
          try simp only [List.set]
          refine wpAnyH_take (i := 18) (oi := { dst := some 135, op := Go.Op.move (Go.Operand.tmp 134), type := 4, pos := _, after := _, guard := _ }) (v := ?_) rfl (by kernel_rfl) (by kernel_rfl) (by kernel_rfl) (fun _ _ _ h => h) (Or.inl ⟨by rfl, ?_⟩) (by exact hHeld) ?_
          rotate_left
          · intro w hSw; go_simp; try with_reducible rfl
          try simp only [Act.put]
          try simp only [List.setIfInBounds_toArray]
          try simp only [List.set]
          refine wpAnyH_take (i := 19) (oi := { dst := some 136, op := Go.Op.move (Go.Operand.tmp 21), type := 3, pos := _, after := _, guard := _ }) (v := ?_) rfl (by kernel_rfl) (by kernel_rfl) (by kernel_rfl) (fun _ _ _ h => h) (Or.inl ⟨by rfl, ?_⟩) (by exact hHeld) ?_
          rotate_left
          · intro w hSw; go_simp; try with_reducible rfl
          try simp only [Act.put]
          try simp only [List.setIfInBounds_toArray]
          try simp only [List.set]
          refine wpAnyH_take (i := 20) (oi := { dst := some 137, op := Go.Op.move (Go.Operand.tmp 13), type := 82, pos := _, after := _, guard := _ }) (v := ?_) rfl (by kernel_rfl) (by kernel_rfl) (by kernel_rfl) (fun _ _ _ h => h) (Or.inl ⟨by rfl, ?_⟩) (by exact hHeld) ?_
          rotate_left
          · intro w hSw; go_simp; try with_reducible rfl
          try simp only [Act.put]
          try simp only [List.setIfInBounds_toArray]
          try simp only [List.set]
          refine wpAnyH_take (i := 21) (oi := { dst := some 138, op := Go.Op.nilCheck (Go.Operand.tmp 137), type := 0, pos := _, after := _, guard := _ }) (v := ?_) rfl (by kernel_rfl) (by kernel_rfl) (by kernel_rfl) (fun _ _ _ h => h) (Or.inl ⟨by rfl, ?_⟩) (by exact hHeld) ?_
          rotate_left
          · intro w hSw; go_simp; try with_reducible rfl
          try simp only [Act.put]
          try simp only [List.setIfInBounds_toArray]
          try simp only [List.set]
          refine wpAnyH_take (i := 22) (oi := { dst := some 139, op := Go.Op.fieldAddr 84 (Go.Operand.tmp 138) 0, type := 0, pos := _, after := _, guard := _ }) (v := ?_) rfl (by kernel_rfl) (by kernel_rfl) (by kernel_rfl) (fun _ _ _ h => h) (Or.inl ⟨by rfl, ?_⟩) (by exact hHeld) ?_
          rotate_left
          · intro w hSw; go_simp; try with_reducible rfl
          try simp only [Act.put]
          try simp only [List.setIfInBounds_toArray]
          try simp only [List.set]
          refine wpAnyH_take (i := 23) (oi := { dst := some 140, op := Go.Op.load 43 (Go.Operand.tmp 139), type := 43, pos := _, after := _, guard := _ }) (v := ?_) rfl (by kernel_rfl) (by kernel_rfl) (by kernel_rfl) (fun _ _ _ h => h) (Or.inl ⟨by rfl, ?_⟩) (by exact hHeld) ?_
          rotate_left
          · intro w hSw; obtain ⟨z0, z1, z2, z3, z4⟩ := hSw.1.ru.cells; obtain ⟨y0, y1, y2, y3⟩ := hSw.1.ru.t.cells; rw [HTE.out] at y0; go_simp; try with_reducible rfl
          try simp only [Act.put]
          try simp only [List.setIfInBounds_toArray]
          try simp only [List.set]
          refine wpAnyH_take (i := 24) (oi := { dst := some 141, op := Go.Op.nilCheck (Go.Operand.tmp 140), type := 0, pos := _, after := _, guard := _ }) (v := ?_) rfl (by kernel_rfl) (by kernel_rfl) (by kernel_rfl) (fun _ _ _ h => h) (Or.inl ⟨by rfl, ?_⟩) (by exact hHeld) ?_
          rotate_left
          · intro w hSw; go_simp; try with_reducible rfl
          try simp only [Act.put]
          try simp only [List.setIfInBounds_toArray]
          try simp only [List.set]
          refine wpAnyH_take (i := 25) (oi := { dst := some 142, op := Go.Op.fieldAddr 49 (Go.Operand.tmp 141) 0, type := 0, pos := _, after := _, guard := _ }) (v := ?_) rfl (by kernel_rfl) (by kernel_rfl) (by kernel_rfl) (fun _ _ _ h => h) (Or.inl ⟨by rfl, ?_⟩) (by exact hHeld) ?_
          rotate_left
          · intro w hSw; go_simp; try with_reducible rfl
          try simp only [Act.put]
          try simp only [List.setIfInBounds_toArray]
          try simp only [List.set]
          refine wpAnyH_take (i := 26) (oi := { dst := some 143, op := Go.Op.load 47 (Go.Operand.tmp 142), type := 47, pos := _, after := _, guard := _ }) (v := ?_) rfl (by kernel_rfl) (by kernel_rfl) (by kernel_rfl) (fun _ _ _ h => h) (Or.inl ⟨by rfl, ?_⟩) (by exact hHeld) ?_
          rotate_left
          · intro w hSw; obtain ⟨z0, z1, z2, z3, z4⟩ := hSw.1.ru.cells; obtain ⟨y0, y1, y2, y3⟩ := hSw.1.ru.t.cells; rw [HTE.out] at y0; go_simp; try with_reducible rfl
          try simp only [Act.put]
          try simp only [List.setIfInBounds_toArray]
          try simp only [List.set]
          refine wpAnyH_take (i := 27) (oi := { dst := some 144, op := Go.Op.call { callee := Go.Callee.builtin Go.Builtin.len, args := #[Go.Operand.tmp 143], argTypes := #[47] }, type := 3, pos := _, after := _, guard := _ }) (v := ?_) rfl (by kernel_rfl) (by kernel_rfl) (by kernel_rfl) (fun _ _ _ h => h) (Or.inl ⟨by rfl, ?_⟩) (by exact hHeld) ?_
          rotate_left
          · intro w hSw; go_simp; try with_reducible rfl
          try simp only [Act.put]
          try simp only [List.setIfInBounds_toArray]
          try simp only [List.set]
          refine wpAnyH_take (i := 28) (oi := { dst := some 145, op := Go.Op.binOp Go.BinOp.neq 3 (Go.Operand.tmp 136) (Go.Operand.tmp 144) 3, type := 4, pos := _, after := _, guard := _ }) (v := ?_) rfl (by kernel_rfl) (by kernel_rfl) (by kernel_rfl) (fun _ _ _ h => h) (Or.inl ⟨by rfl, ?_⟩) (by exact hHeld) ?_
          rotate_left
          · intro w hSw; go_simp; try with_reducible rfl
          try simp only [Act.put]
          try simp only [List.setIfInBounds_toArray]
          try simp only [List.set]
          refine wpAnyH_take (i := 29) (oi := { dst := some 146, op := Go.Op.pick (Go.Operand.tmp 135) (Go.Operand.const (Go.Value.bool true)) (Go.Operand.tmp 145), type := 4, pos := _, after := _, guard := _ }) (v := ?_) rfl (by kernel_rfl) (by kernel_rfl) (by kernel_rfl) (fun _ _ _ h => h) (Or.inl ⟨by rfl, ?_⟩) (by exact hHeld) ?_
          rotate_left
          · intro w hSw; go_simp; try with_reducible rfl
          try simp only [Act.put]
          try simp only [List.setIfInBounds_toArray]
          try simp only [List.set]
          refine wpAnyH_take (i := 30) (oi := { dst := some 147, op := Go.Op.move (Go.Operand.tmp 146), type := 4, pos := _, after := _, guard := _ }) (v := ?_) rfl (by kernel_rfl) (by kernel_rfl) (by kernel_rfl) (fun _ _ _ h => h) (Or.inl ⟨by rfl, ?_⟩) (by exact hHeld) ?_
          rotate_left
          · intro w hSw; go_simp; try with_reducible rfl
          try simp only [Act.put]
          try simp only [List.setIfInBounds_toArray]
          try simp only [List.set]
          refine wpAnyH_take (i := 31) (oi := { dst := some 148, op := Go.Op.move (Go.Operand.tmp 22), type := 3, pos := _, after := _, guard := _ }) (v := ?_) rfl (by kernel_rfl) (by kernel_rfl) (by kernel_rfl) (fun _ _ _ h => h) (Or.inl ⟨by rfl, ?_⟩) (by exact hHeld) ?_
          rotate_left
          · intro w hSw; go_simp; try with_reducible rfl
          try simp only [Act.put]
          try simp only [List.setIfInBounds_toArray]
          try simp only [List.set]
          refine wpAnyH_take (i := 32) (oi := { dst := some 149, op := Go.Op.move (Go.Operand.tmp 13), type := 82, pos := _, after := _, guard := _ }) (v := ?_) rfl (by kernel_rfl) (by kernel_rfl) (by kernel_rfl) (fun _ _ _ h => h) (Or.inl ⟨by rfl, ?_⟩) (by exact hHeld) ?_
          rotate_left
          · intro w hSw; go_simp; try with_reducible rfl
          try simp only [Act.put]
          try simp only [List.setIfInBounds_toArray]
          try simp only [List.set]
          refine wpAnyH_take (i := 33) (oi := { dst := some 150, op := Go.Op.nilCheck (Go.Operand.tmp 149), type := 0, pos := _, after := _, guard := _ }) (v := ?_) rfl (by kernel_rfl) (by kernel_rfl) (by kernel_rfl) (fun _ _ _ h => h) (Or.inl ⟨by rfl, ?_⟩) (by exact hHeld) ?_
          rotate_left
          · intro w hSw; go_simp; try with_reducible rfl
          try simp only [Act.put]
          try simp only [List.setIfInBounds_toArray]
          try simp only [List.set]
          refine wpAnyH_take (i := 34) (oi := { dst := some 151, op := Go.Op.fieldAddr 84 (Go.Operand.tmp 150) 0, type := 0, pos := _, after := _, guard := _ }) (v := ?_) rfl (by kernel_rfl) (by kernel_rfl) (by kernel_rfl) (fun _ _ _ h => h) (Or.inl ⟨by rfl, ?_⟩) (by exact hHeld) ?_
          rotate_left
          · intro w hSw; go_simp; try with_reducible rfl
          try simp only [Act.put]
          try simp only [List.setIfInBounds_toArray]
          try simp only [List.set]
          refine wpAnyH_take (i := 35) (oi := { dst := some 152, op := Go.Op.load 43 (Go.Operand.tmp 151), type := 43, pos := _, after := _, guard := _ }) (v := ?_) rfl (by kernel_rfl) (by kernel_rfl) (by kernel_rfl) (fun _ _ _ h => h) (Or.inl ⟨by rfl, ?_⟩) (by exact hHeld) ?_
          rotate_left
          · intro w hSw; obtain ⟨z0, z1, z2, z3, z4⟩ := hSw.1.ru.cells; obtain ⟨y0, y1, y2, y3⟩ := hSw.1.ru.t.cells; rw [HTE.out] at y0; go_simp; try with_reducible rfl
          try simp only [Act.put]
          try simp only [List.setIfInBounds_toArray]
          try simp only [List.set]
          refine wpAnyH_ready (rs := [36]) (by kernel_rfl) (by simp) ?_
          refine AllReadyH.cons (o := { dst := some 153, op := Go.Op.call { callee := Go.Callee.value (Go.Operand.func 33), args := #[Go.Operand.tmp 152], argTypes := #[43] }, type := 3, pos := _, after := _, guard := _ }) rfl (fun K hK => ?_) AllReadyH.nil
          go_simp
          go_at_call 33
          refine (rsize_any hHeld.1.ru.t HSF.out).mono ?_
          rintro e w9 ⟨rfl, a9⟩
          have hS2 := And.intro (hHeld.1.to a9) (And.intro (hHeld.2.1.aft a9) (And.intro (hHeld.2.2.1.aft a9) (hHeld.2.2.2.aft a9)))
          clear hHeld
          refine hK.out _ _ hS2 (fun hHeld => ?_)
          clear hK K hS2
          try simp only [Act.put]
          try simp only [List.setIfInBounds_toArray]
          try simp only [List.set]
          refine wpAnyH_take (i := 37) (oi := { dst := some 154, op := Go.Op.binOp Go.BinOp.neq 3 (Go.Operand.tmp 148) (Go.Operand.tmp 153) 3, type := 4, pos := _, after := _, guard := _ }) (v := ?_) rfl (by kernel_rfl) (by kernel_rfl) (by kernel_rfl) (fun _ _ _ h => h) (Or.inl ⟨by rfl, ?_⟩) (by exact hHeld) ?_
          rotate_left
          · intro w hSw; go_simp; try with_reducible rfl
          try simp only [Act.put]
          try simp only [List.setIfInBounds_toArray]
          try simp only [List.set]
          refine wpAnyH_take (i := 38) (oi := { dst := some 155, op := Go.Op.pick (Go.Operand.tmp 147) (Go.Operand.const (Go.Value.bool true)) (Go.Operand.tmp 154), type := 4, pos := _, after := _, guard := _ }) (v := ?_) rfl (by kernel_rfl) (by kernel_rfl) (by kernel_rfl) (fun _ _ _ h => h) (Or.inl ⟨by rfl, ?_⟩) (by exact hHeld) ?_
          rotate_left
          · intro w hSw; go_simp; try with_reducible rfl
          try simp only [Act.put]
          try simp only [List.setIfInBounds_toArray]
          try simp only [List.set]
          refine wpAnyH_take (i := 39) (oi := { dst := some 156, op := Go.Op.move (Go.Operand.tmp 155), type := 4, pos := _, after := _, guard := _ }) (v := ?_) rfl (by kernel_rfl) (by kernel_rfl) (by kernel_rfl) (fun _ _ _ h => h) (Or.inl ⟨by rfl, ?_⟩) (by exact hHeld) ?_
          rotate_left
          · intro w hSw; go_simp; try with_reducible rfl
          try simp only [Act.put]
          try simp only [List.setIfInBounds_toArray]
          try simp only [List.set]
          refine wpAnyH_take (i := 40) (oi := { dst := some 157, op := Go.Op.move (Go.Operand.tmp 23), type := 3, pos := _, after := _, guard := _ }) (v := ?_) rfl (by kernel_rfl) (by kernel_rfl) (by kernel_rfl) (fun _ _ _ h => h) (Or.inl ⟨by rfl, ?_⟩) (by exact hHeld) ?_
          rotate_left
          · intro w hSw; go_simp; try with_reducible rfl
          try simp only [Act.put]
          try simp only [List.setIfInBounds_toArray]
          try simp only [List.set]
          refine wpAnyH_take (i := 41) (oi := { dst := some 158, op := Go.Op.move (Go.Operand.tmp 13), type := 82, pos := _, after := _, guard := _ }) (v := ?_) rfl (by kernel_rfl) (by kernel_rfl) (by kernel_rfl) (fun _ _ _ h => h) (Or.inl ⟨by rfl, ?_⟩) (by exact hHeld) ?_
          rotate_left
          · intro w hSw; go_simp; try with_reducible rfl
          try simp only [Act.put]
          try simp only [List.setIfInBounds_toArray]
          try simp only [List.set]
          refine wpAnyH_take (i := 42) (oi := { dst := some 159, op := Go.Op.nilCheck (Go.Operand.tmp 158), type := 0, pos := _, after := _, guard := _ }) (v := ?_) rfl (by kernel_rfl) (by kernel_rfl) (by kernel_rfl) (fun _ _ _ h => h) (Or.inl ⟨by rfl, ?_⟩) (by exact hHeld) ?_
          rotate_left
          · intro w hSw; go_simp; try with_reducible rfl
          try simp only [Act.put]
          try simp only [List.setIfInBounds_toArray]
          try simp only [List.set]
          refine wpAnyH_take (i := 43) (oi := { dst := some 160, op := Go.Op.fieldAddr 84 (Go.Operand.tmp 159) 0, type := 0, pos := _, after := _, guard := _ }) (v := ?_) rfl (by kernel_rfl) (by kernel_rfl) (by kernel_rfl) (fun _ _ _ h => h) (Or.inl ⟨by rfl, ?_⟩) (by exact hHeld) ?_
          rotate_left
          · intro w hSw; go_simp; try with_reducible rfl
          try simp only [Act.put]
          try simp only [List.setIfInBounds_toArray]
          try simp only [List.set]
          refine wpAnyH_take (i := 44) (oi := { dst := some 161, op := Go.Op.load 43 (Go.Operand.tmp 160), type := 43, pos := _, after := _, guard := _ }) (v := ?_) rfl (by kernel_rfl) (by kernel_rfl) (by kernel_rfl) (fun _ _ _ h => h) (Or.inl ⟨by rfl, ?_⟩) (by exact hHeld) ?_
          rotate_left
          · intro w hSw; obtain ⟨z0, z1, z2, z3, z4⟩ := hSw.1.ru.cells; obtain ⟨y0, y1, y2, y3⟩ := hSw.1.ru.t.cells; rw [HTE.out] at y0; go_simp; try with_reducible rfl
          try simp only [Act.put]
          try simp only [List.setIfInBounds_toArray]
          try simp only [List.set]
          refine wpAnyH_take (i := 45) (oi := { dst := some 162, op := Go.Op.nilCheck (Go.Operand.tmp 161), type := 0, pos := _, after := _, guard := _ }) (v := ?_) rfl (by kernel_rfl) (by kernel_rfl) (by kernel_rfl) (fun _ _ _ h => h) (Or.inl ⟨by rfl, ?_⟩) (by exact hHeld) ?_
          rotate_left
          · intro w hSw; go_simp; try with_reducible rfl
          try simp only [Act.put]
          try simp only [List.setIfInBounds_toArray]
          try simp only [List.set]
          refine wpAnyH_take (i := 46) (oi := { dst := some 163, op := Go.Op.fieldAddr 49 (Go.Operand.tmp 162) 1, type := 0, pos := _, after := _, guard := _ }) (v := ?_) rfl (by kernel_rfl) (by kernel_rfl) (by kernel_rfl) (fun _ _ _ h => h) (Or.inl ⟨by rfl, ?_⟩) (by exact hHeld) ?_
          rotate_left
          · intro w hSw; go_simp; try with_reducible rfl
          try simp only [Act.put]
          try simp only [List.setIfInBounds_toArray]
          try simp only [List.set]
          refine wpAnyH_take (i := 47) (oi := { dst := some 164, op := Go.Op.load 3 (Go.Operand.tmp 163), type := 3, pos := _, after := _, guard := _ }) (v := ?_) rfl (by kernel_rfl) (by kernel_rfl) (by kernel_rfl) (fun _ _ _ h => h) (Or.inl ⟨by rfl, ?_⟩) (by exact hHeld) ?_
          rotate_left
          · intro w hSw; obtain ⟨z0, z1, z2, z3, z4⟩ := hSw.1.ru.cells; obtain ⟨y0, y1, y2, y3⟩ := hSw.1.ru.t.cells; rw [HTE.out] at y0; go_simp; try with_reducible rfl
          try simp only [Act.put]
          try simp only [List.setIfInBounds_toArray]
          try simp only [List.set]
          refine wpAnyH_take (i := 48) (oi := { dst := some 165, op := Go.Op.binOp Go.BinOp.neq 3 (Go.Operand.tmp 157) (Go.Operand.tmp 164) 3, type := 4, pos := _, after := _, guard := _ }) (v := ?_) rfl (by kernel_rfl) (by kernel_rfl) (by kernel_rfl) (fun _ _ _ h => h) (Or.inl ⟨by rfl, ?_⟩) (by exact hHeld) ?_
          rotate_left
          · intro w hSw; go_simp; try with_reducible rfl
          try simp only [Act.put]
          try simp only [List.setIfInBounds_toArray]
          try simp only [List.set]
          refine wpAnyH_take (i := 49) (oi := { dst := some 166, op := Go.Op.pick (Go.Operand.tmp 156) (Go.Operand.const (Go.Value.bool true)) (Go.Operand.tmp 165), type := 4, pos := _, after := _, guard := _ }) (v := ?_) rfl (by kernel_rfl) (by kernel_rfl) (by kernel_rfl) (fun _ _ _ h => h) (Or.inl ⟨by rfl, ?_⟩) (by exact hHeld) ?_
          rotate_left
          · intro w hSw; go_simp; try with_reducible rfl
          try simp only [Act.put]
          try simp only [List.setIfInBounds_toArray]
          try simp only [List.set]
          refine wpAnyH_take (i := 50) (oi := { dst := some 167, op := Go.Op.move (Go.Operand.tmp 166), type := 4, pos := _, after := _, guard := _ }) (v := ?_) rfl (by kernel_rfl) (by kernel_rfl) (by kernel_rfl) (fun _ _ _ h => h) (Or.inl ⟨by rfl, ?_⟩) (by exact hHeld) ?_
          rotate_left
          · intro w hSw; go_simp; try with_reducible rfl
          try simp only [Act.put]
          try simp only [List.setIfInBounds_toArray]
          try simp only [List.set]
          refine wpAnyH_take (i := 51) (oi := { dst := some 168, op := Go.Op.move (Go.Operand.tmp 16), type := 54, pos := _, after := _, guard := _ }) (v := ?_) rfl (by kernel_rfl) (by kernel_rfl) (by kernel_rfl) (fun _ _ _ h => h) (Or.inl ⟨by rfl, ?_⟩) (by exact hHeld) ?_
          rotate_left
          · intro w hSw; go_simp; try with_reducible rfl
          try simp only [Act.put]
          try simp only [List.setIfInBounds_toArray]
          try simp only [List.set]
          refine wpAnyH_take (i := 52) (oi := { dst := some 169, op := Go.Op.move (Go.Operand.tmp 15), type := 54, pos := _, after := _, guard := _ }) (v := ?_) rfl (by kernel_rfl) (by kernel_rfl) (by kernel_rfl) (fun _ _ _ h => h) (Or.inl ⟨by rfl, ?_⟩) (by exact hHeld) ?_
          rotate_left
          · intro w hSw; go_simp; try with_reducible rfl
          try simp only [Act.put]
          try simp only [List.setIfInBounds_toArray]
          try simp only [List.set]
          refine wpAnyH_ready (rs := [53]) (by kernel_rfl) (by simp) ?_
          refine AllReadyH.cons (o := { dst := some 170, op := Go.Op.call { callee := Go.Callee.value (Go.Operand.func 55), args := #[Go.Operand.tmp 168, Go.Operand.tmp 169, Go.Operand.const (Go.Value.int Go.IntKind.u8 9)], argTypes := #[54, 54, 5] }, type := 4, pos := _, after := _, guard := _ }) rfl (fun K hK => ?_) AllReadyH.nil
          go_simp
          go_at_call 55
          refine (intact9 _ _ bs _ (hHeld.2.2.2.full HFE.out (by rw [HLL.out]; exact HLM.out) HLL.out) (HRC.out _ hHeld.1.aft) (by rw [HLL.out]; have := HLM.out; omega)).mono ?_
          rintro e w9 ⟨rfl, a9⟩
          have hS2 := And.intro (hHeld.1.to a9) (And.intro (hHeld.2.1.aft a9) (And.intro (hHeld.2.2.1.aft a9) (hHeld.2.2.2.aft a9)))
          clear hHeld
          refine hK.out _ _ hS2 (fun hHeld => ?_)
          clear hK K hS2
          try simp only [Act.put]
          try simp only [List.setIfInBounds_toArray]
          try simp only [List.set]
          refine wpAnyH_take (i := 54) (oi := { dst := some 171, op := Go.Op.unOp Go.UnOp.not 4 (Go.Operand.tmp 170), type := 4, pos := _, after := _, guard := _ }) (v := ?_) rfl (by kernel_rfl) (by kernel_rfl) (by kernel_rfl) (fun _ _ _ h => h) (Or.inl ⟨by rfl, ?_⟩) (by exact hHeld) ?_
          rotate_left
          · intro w hSw; go_simp; try with_reducible rfl
          try simp only [Act.put]
          try simp only [List.setIfInBounds_toArray]
          try simp only [List.set]
          refine wpAnyH_take (i := 55) (oi := { dst := some 172, op := Go.Op.pick (Go.Operand.tmp 167) (Go.Operand.const (Go.Value.bool true)) (Go.Operand.tmp 171), type := 4, pos := _, after := _, guard := _ }) (v := ?_) rfl (by kernel_rfl) (by kernel_rfl) (by kernel_rfl) (fun _ _ _ h => h) (Or.inl ⟨by rfl, ?_⟩) (by exact hHeld) ?_
          rotate_left
          · intro w hSw; go_simp; try with_reducible rfl
          try simp only [Act.put]
          try simp only [List.setIfInBounds_toArray]
          try simp only [List.set]
          refine wpAnyH_done (by kernel_rfl) ?_ _
          have HS9 := Lib.hid hHeld.1
          clear hHeld HD
          go_wp2_with fail
          go_roundw
          case rel => exact ⟨k + 1, T2, M2, bad2, vo6, vo7, HLT.out, by omega, by go_num, HS9, HJ2⟩
          case measure => have := HLT.out; simp [intOf]; omega
        · have j1 : ¬ ((lb.length : Int) > 400) := by omega
          have HRC := Lib.hid (fun wx (a : Aft w wx) => HRB.out.aft a)
          obtain ⟨bn, hbn⟩ : ∃ bn, lb.length = bn := ⟨_, rfl⟩
          have HLL := Lib.hid hbn
          have HLM : Hid (bn ≤ 1000000) := Lib.hid (by omega)
          rw [hbn] at HRC j1 c0
          clear HRB hsome h400 hbn hc1
          have jz1 : (bn : Int) ≤ (bn : Int) + 80 := by omega
          have HRO := Lib.hid (roomy9 (.slice ba bn bc) lb bn wr (HRC.out wr HS.out.aft) (by rw [HLL.out]; have := HLM.out; omega) HLL.out)
          go_wp2_with fail
          refine HRO.out.mono ?_
          rintro e w5 ⟨gf, rfl, hf5, a5⟩
          replace HS := Lib.hid (HS.out.to a5)
          obtain ⟨F, hF⟩ : ∃ F, lb ++ List.replicate 80 9 = F := ⟨_, rfl⟩
          rw [hF] at hf5
          have HF := Lib.hid hf5
          have HFE := Lib.hid hF
          obtain ⟨o, ho⟩ : ∃ o, outU top list bad lb T M = o := ⟨_, rfl⟩
          have HSJ := outU_SJ (top := top) (list := list) (bad := bad) (b := lb) HJ.out.1 HJ.out.2.1 HJ.out.2.2
          rw [ho] at HSJ
          have HUB := Lib.hid (ublock_out (n := bn) (va := some ⟨gf, 0, none⟩) (cap := bn + 80) HS.out.un (fun wx hc => (HF.out.chg hc (HF.out.un HS.out.un)).cut HFE.out (by rw [HLL.out]; exact HLM.out) HLL.out) HLL.out HLM.out HJ.out.1 HJ.out.2.1 (by have h1 := HJ.out.2.2; have h2 := HB4.out.1.2; omega) HB4.out.1.2 HB4.out.2.1 HB4.out.2.2 o ho)
          have HRU := Lib.hid (fun (wc : World) (hs : RUn wc B2 gw gt vo2 T M top list bad) (a : Aft w wc) (hB : w.heap.size ≤ B2) (hB2 : B2 ≤ wc.heap.size) => rublock_out (n := bn) hs (fun wx hc => HRC.out wx (RUn.below a hs hB hc)) hB2 HLL.out HLM.out HJ.out.1 HJ.out.2.1 (by have h1 := HJ.out.2.2; have h2 := HB4.out.1.2; omega) HB4.out.1.2 HB4.out.2.1 HB4.out.2.2 o ho)
          obtain ⟨R, E, T2, M2, bad2⟩ := o
          try simp only at HSJ HUB HRU
          have HJ2 := Lib.hid HSJ
          clear hf5 a5 hF ho HSJ HRO HJ c0
          go_wp2_with fail
          refine HUB.out.mono ?_
          rintro e w6 ⟨ra, rk, vo6, rfl, hu6, ho6, hc6, hb6⟩
          replace HF := Lib.hid (HF.out.chg hc6 (HF.out.un HS.out.un))
          replace HS := Lib.hid (HS.out.stepU hu6 hc6 hb6)
          have HO6 := Lib.hid ho6
          clear hu6 ho6 hc6 hb6 HUB
          go_wp2_with fail
          refine (HRU.out _ HS.out.ru HS.out.aft HS.out.hB HS.out.hB2).mono ?_
          rintro e w7 ⟨ra7, rk7, vo7, rfl, hu7, ho7, hc7, hb7⟩
          replace HF := Lib.hid (HF.out.chg hc7 (HF.out.run HS.out.ru))
          replace HO6 := Lib.hid (HO6.out.run7 HS.out.ru hc7)
          have HO7 := Lib.hid ho7
          replace HS := Lib.hid (HS.out.stepR hu7 hc7 hb7)
          clear hu7 ho7 hc7 hb7 HRU
          have HUT := Lib.hid (utable_any HS.out.un)
          go_wp2_with fail
          refine HUT.out.mono ?_
          rintro e w8 ⟨rfl, a8⟩
          replace HF := Lib.hid (HF.out.aft a8)
          replace HO6 := Lib.hid (HO6.out.aft a8)
          replace HO7 := Lib.hid (HO7.out.aft a8)
          replace HS := Lib.hid (HS.out.to a8)
          clear a8 HUT
          generalize w6.heap.size = z7 at HO7
          generalize w5.heap.size = z6 at HO6
          obtain ⟨ta, tk, hte, -, -⟩ := HS.out.ru.t.own.slice
          have HTE := Lib.hid hte
          have HSF : Hid (sumF T2 ≤ 1000000000000) := Lib.hid (by have h1 := HJ2.out.1; have h2 := HJ2.out.2.2; have h3 := HB4.out.1.2; omega)
          clear hte
          go_upto_region 19 with fail
          have HD : Hid (SU w w8.drew B2 gu g gw gt vk top list T2 M2 bad2 vo6 T2 M2 bad2 vo7 ∧ OwnW w8.drew z6 (.slice ra R.length rk) R ∧ OwnW w8.drew z7 (.slice ra7 R.length rk7) R ∧ FB8 w8.drew gf F) := Lib.hid ⟨HS.out.to ((Aft.refl w8).drew), HO6.out.aft ((Aft.refl w8).drew), HO7.out.aft ((Aft.refl w8).drew), HF.out.aft ((Aft.refl w8).drew)⟩
          clear HS HO6 HO7 HF
          refine wp_region_held_drew (S := fun wz => SU w wz B2 gu g gw gt vk top list T2 M2 bad2 vo6 T2 M2 bad2 vo7 ∧ OwnW wz z6 (.slice ra R.length rk) R ∧ OwnW wz z7 (.slice ra7 R.length rk7) R ∧ FB8 wz gf F) (by kernel_rfl) HD.out (fun hHeld => ?_)
          refine wpAnyH_take (i := 0) (oi := { dst := some 117, op := Go.Op.move (Go.Operand.tmp 17), type := 59, pos := _, after := _, guard := _ }) (v := ?_) rfl (by kernel_rfl) (by kernel_rfl) (by kernel_rfl) (fun _ _ _ h => h) (Or.inl ⟨by rfl, ?_⟩) (by exact hHeld) ?_
          rotate_left
          · intro w hSw; go_simp; try with_reducible rfl
          try simp only [Act.put]
          try simp only [List.setIfInBounds_toArray]
          try simp only [List.set]
          refine wpAnyH_take (i := 1) (oi := { dst := some 118, op := Go.Op.move (Go.Operand.tmp 19), type := 59, pos := _, after := _, guard := _ }) (v := ?_) rfl (by kernel_rfl) (by kernel_rfl) (by kernel_rfl) (fun _ _ _ h => h) (Or.inl ⟨by rfl, ?_⟩) (by exact hHeld) ?_
          rotate_left
          · intro w hSw; go_simp; try with_reducible rfl
          try simp only [Act.put]
          try simp only [List.setIfInBounds_toArray]
          try simp only [List.set]
          refine wpAnyH_ready (rs := [2]) (by kernel_rfl) (by simp) ?_
          refine AllReadyH.cons (o := { dst := some 119, op := Go.Op.call { callee := Go.Callee.value (Go.Operand.func 51), args := #[Go.Operand.tmp 117, Go.Operand.tmp 118], argTypes := #[59, 59] }, type := 4, pos := _, after := _, guard := _ }) rfl (fun K hK => ?_) AllReadyH.nil
          go_simp
          go_at_call 51
          refine (sameW_any _ _ R _ hHeld.2.1.rbw hHeld.2.2.1.rbw).mono ?_
          rintro e w9 ⟨rfl, a9⟩
          have hS2 := And.intro (hHeld.1.to a9) (And.intro (hHeld.2.1.aft a9) (And.intro (hHeld.2.2.1.aft a9) (hHeld.2.2.2.aft a9)))
          clear hHeld
          refine hK.out _ _ hS2 (fun hHeld => ?_)
          clear hK K hS2
          try simp only [Act.put]
          try simp only [List.setIfInBounds_toArray]
          try simp only [List.set]
          refine wpAnyH_take (i := 3) (oi := { dst := some 120, op := Go.Op.unOp Go.UnOp.not 4 (Go.Operand.tmp 119), type := 4, pos := _, after := _, guard := _ }) (v := ?_) rfl (by kernel_rfl) (by kernel_rfl) (by kernel_rfl) (fun _ _ _ h => h) (Or.inl ⟨by rfl, ?_⟩) (by exact hHeld) ?_
          rotate_left
          · intro w hSw; go_simp; try with_reducible rfl
          try simp only [Act.put]
          try simp only [List.setIfInBounds_toArray]
          try simp only [List.set]
          refine wpAnyH_take (i := 4) (oi := { dst := some 121, op := Go.Op.move (Go.Operand.tmp 120), type := 4, pos := _, after := _, guard := _ }) (v := ?_) rfl (by kernel_rfl) (by kernel_rfl) (by kernel_rfl) (fun _ _ _ h => h) (Or.inl ⟨by rfl, ?_⟩) (by exact hHeld) ?_
          rotate_left
          · intro w hSw; go_simp; try with_reducible rfl
          try simp only [Act.put]
          try simp only [List.setIfInBounds_toArray]
          try simp only [List.set]
          refine wpAnyH_take (i := 5) (oi := { dst := some 122, op := Go.Op.move (Go.Operand.tmp 18), type := 23, pos := _, after := _, guard := _ }) (v := ?_) rfl (by kernel_rfl) (by kernel_rfl) (by kernel_rfl) (fun _ _ _ h => h) (Or.inl ⟨by rfl, ?_⟩) (by exact hHeld) ?_
          rotate_left
          · intro w hSw; go_simp; try with_reducible rfl
          try simp only [Act.put]
          try simp only [List.setIfInBounds_toArray]
          try simp only [List.set]
          refine wpAnyH_take (i := 6) (oi := { dst := some 123, op := Go.Op.move (Go.Operand.tmp 20), type := 3, pos := _, after := _, guard := _ }) (v := ?_) rfl (by kernel_rfl) (by kernel_rfl) (by kernel_rfl) (fun _ _ _ h => h) (Or.inl ⟨by rfl, ?_⟩) (by exact hHeld) ?_
          rotate_left
          · intro w hSw; go_simp; try with_reducible rfl
          try simp only [Act.put]
          try simp only [List.setIfInBounds_toArray]
          try simp only [List.set]
          refine wpAnyH_take (i := 7) (oi := { dst := some 124, op := Go.Op.binOp Go.BinOp.neq 3 (Go.Operand.tmp 122) (Go.Operand.tmp 123) 3, type := 4, pos := _, after := _, guard := _ }) (v := ?_) rfl (by kernel_rfl) (by kernel_rfl) (by kernel_rfl) (fun _ _ _ h => h) (Or.inl ⟨by rfl, ?_⟩) (by exact hHeld) ?_
          rotate_left
          · intro w hSw; go_simp; try with_reducible rfl
          try simp only [Act.put]
          try simp only [List.setIfInBounds_toArray]
          try simp only [List.set]
          refine wpAnyH_take (i := 8) (oi := { dst := some 125, op := Go.Op.pick (Go.Operand.tmp 121) (Go.Operand.const (Go.Value.bool true)) (Go.Operand.tmp 124), type := 4, pos := _, after := _, guard := _ }) (v := ?_) rfl (by kernel_rfl) (by kernel_rfl) (by kernel_rfl) (fun _ _ _ h => h) (Or.inl ⟨by rfl, ?_⟩) (by exact hHeld) ?_
          rotate_left
          · intro w hSw; go_simp; try with_reducible rfl
          try simp only [Act.put]
          try simp only [List.setIfInBounds_toArray]
          try simp only [List.set]
          refine wpAnyH_take (i := 9) (oi := { dst := some 126, op := Go.Op.move (Go.Operand.tmp 125), type := 4, pos := _, after := _, guard := _ }) (v := ?_) rfl (by kernel_rfl) (by kernel_rfl) (by kernel_rfl) (fun _ _ _ h => h) (Or.inl ⟨by rfl, ?_⟩) (by exact hHeld) ?_
          rotate_left
          · intro w hSw; go_simp; try with_reducible rfl
          try simp only [Act.put]
          try simp only [List.setIfInBounds_toArray]
          try simp only [List.set]
          refine wpAnyH_take (i := 10) (oi := { dst := some 127, op := Go.Op.move (Go.Operand.tmp 9), type := 74, pos := _, after := _, guard := _ }) (v := ?_) rfl (by kernel_rfl) (by kernel_rfl) (by kernel_rfl) (fun _ _ _ h => h) (Or.inl ⟨by rfl, ?_⟩) (by exact hHeld) ?_
          rotate_left
          · intro w hSw; go_simp; try with_reducible rfl
          try simp only [Act.put]
          try simp only [List.setIfInBounds_toArray]
          try simp only [List.set]
          refine wpAnyH_take (i := 12) (oi := { dst := some 129, op := Go.Op.move (Go.Operand.tmp 13), type := 82, pos := _, after := _, guard := _ }) (v := ?_) rfl (by kernel_rfl) (by kernel_rfl) (by kernel_rfl) (fun _ _ _ h => h) (Or.inl ⟨by rfl, ?_⟩) (by exact hHeld) ?_
          rotate_left
          · intro w hSw; go_simp; try with_reducible rfl
          try simp only [Act.put]
          try simp only [List.setIfInBounds_toArray]
          try simp only [List.set]
          refine wpAnyH_take (i := 13) (oi := { dst := some 130, op := Go.Op.nilCheck (Go.Operand.tmp 129), type := 0, pos := _, after := _, guard := _ }) (v := ?_) rfl (by kernel_rfl) (by kernel_rfl) (by kernel_rfl) (fun _ _ _ h => h) (Or.inl ⟨by rfl, ?_⟩) (by exact hHeld) ?_
          rotate_left
          · intro w hSw; go_simp; try with_reducible rfl
          try simp only [Act.put]
          try simp only [List.setIfInBounds_toArray]
          try simp only [List.set]
          refine wpAnyH_take (i := 14) (oi := { dst := some 131, op := Go.Op.fieldAddr 84 (Go.Operand.tmp 130) 3, type := 0, pos := _, after := _, guard := _ }) (v := ?_) rfl (by kernel_rfl) (by kernel_rfl) (by kernel_rfl) (fun _ _ _ h => h) (Or.inl ⟨by rfl, ?_⟩) (by exact hHeld) ?_
          rotate_left
          · intro w hSw; go_simp; try with_reducible rfl
          try simp only [Act.put]
          try simp only [List.setIfInBounds_toArray]
          try simp only [List.set]
          refine wpAnyH_take (i := 15) (oi := { dst := some 132, op := Go.Op.load 4 (Go.Operand.tmp 131), type := 4, pos := _, after := _, guard := _ }) (v := ?_) rfl (by kernel_rfl) (by kernel_rfl) (by kernel_rfl) (fun _ _ _ h => h) (Or.inl ⟨by rfl, ?_⟩) (by exact hHeld) ?_
          rotate_left
          · intro w hSw; obtain ⟨z0, z1, z2, z3, z4⟩ := hSw.1.ru.cells; obtain ⟨y0, y1, y2, y3⟩ := hSw.1.ru.t.cells; rw [HTE.out] at y0; go_simp; try with_reducible rfl
          try simp only [Act.put]
          try simp only [List.setIfInBounds_toArray]
          try simp only [List.set]
          refine wpAnyH_ready (rs := [11]) (by kernel_rfl) (by simp) ?_
          refine AllReadyH.cons (o := { dst := some 128, op := Go.Op.call { callee := Go.Callee.value (Go.Operand.func 52), args := #[Go.Operand.tmp 127], argTypes := #[74] }, type := 4, pos := _, after := _, guard := _ }) rfl (fun K hK => ?_) AllReadyH.nil
          go_simp
          go_at_call 52
          refine (ubad_any hHeld.1.un).mono ?_
          rintro e w9 ⟨rfl, rfl⟩
          have hS2 := hHeld
          clear hHeld
          refine hK.out _ _ hS2 (fun hHeld => ?_)
          clear hK K hS2
          try simp only [Act.put]
          try simp only [List.setIfInBounds_toArray]
          try simp only [List.set]
          refine wpAnyH_take (i := 16) (oi := { dst := some 133, op := Go.Op.binOp Go.BinOp.neq 4 (Go.Operand.tmp 128) (Go.Operand.tmp 132) 4, type := 4, pos := _, after := _, guard := _ }) (v := ?_) rfl (by kernel_rfl) (by kernel_rfl) (by kernel_rfl) (fun _ _ _ h => h) (Or.inl ⟨by rfl, ?_⟩) (by exact hHeld) ?_
          rotate_left
          · intro w hSw; go_simp; try with_reducible rfl
          try simp only [Act.put]
          try simp only [List.setIfInBounds_toArray]
          try simp only [List.set]
          refine wpAnyH_take (i := 17) (oi := { dst := some 134, op := Go.Op.pick (Go.Operand.tmp 126) (Go.Operand.const (Go.Value.bool true)) (Go.Operand.tmp 133), type := 4, pos := _, after := _, guard := _ }) (v := ?_) rfl (by kernel_rfl) (by kernel_rfl) (by kernel_rfl) (fun _ _ _ h => h) (Or.inl ⟨by rfl, ?_⟩) (by exact hHeld) ?_
          rotate_left
          · intro w hSw; go_simp; try with_reducible rfl
          try simp only [Act.put]
          try simp only [List.setIfInBounds_toArray]
          try simp only [List.set]
          refine wpAnyH_take (i := 18) (oi := { dst := some 135, op := Go.Op.move (Go.Operand.tmp 134), type := 4, pos := _, after := _, guard := _ }) (v := ?_) rfl (by kernel_rfl) (by kernel_rfl) (by kernel_rfl) (fun _ _ _ h => h) (Or.inl ⟨by rfl, ?_⟩) (by exact hHeld) ?_
          rotate_left
          · intro w hSw; go_simp; try with_reducible rfl
          try simp only [Act.put]
          try simp only [List.setIfInBounds_toArray]
          try simp only [List.set]
          refine wpAnyH_take (i := 19) (oi := { dst := some 136, op := Go.Op.move (Go.Operand.tmp 21), type := 3, pos := _, after := _, guard := _ }) (v := ?_) rfl (by kernel_rfl) (by kernel_rfl) (by kernel_rfl) (fun _ _ _ h => h) (Or.inl ⟨by rfl, ?_⟩) (by exact hHeld) ?_
          rotate_left
          · intro w hSw; go_simp; try with_reducible rfl
          try simp only [Act.put]
          try simp only [List.setIfInBounds_toArray]
          try simp only [List.set]
          refine wpAnyH_take (i := 20) (oi := { dst := some 137, op := Go.Op.move (Go.Operand.tmp 13), type := 82, pos := _, after := _, guard := _ }) (v := ?_) rfl (by kernel_rfl) (by kernel_rfl) (by kernel_rfl) (fun _ _ _ h => h) (Or.inl ⟨by rfl, ?_⟩) (by exact hHeld) ?_
          rotate_left
          · intro w hSw; go_simp; try with_reducible rfl
          try simp only [Act.put]
          try simp only [List.setIfInBounds_toArray]
          try simp only [List.set]
          refine wpAnyH_take (i := 21) (oi := { dst := some 138, op := Go.Op.nilCheck (Go.Operand.tmp 137), type := 0, pos := _, after := _, guard := _ }) (v := ?_) rfl (by kernel_rfl) (by kernel_rfl) (by kernel_rfl) (fun _ _ _ h => h) (Or.inl ⟨by rfl, ?_⟩) (by exact hHeld) ?_
          rotate_left
          · intro w hSw; go_simp; try with_reducible rfl
          try simp only [Act.put]
          try simp only [List.setIfInBounds_toArray]
          try simp only [List.set]
          refine wpAnyH_take (i := 22) (oi := { dst := some 139, op := Go.Op.fieldAddr 84 (Go.Operand.tmp 138) 0, type := 0, pos := _, after := _, guard := _ }) (v := ?_) rfl (by kernel_rfl) (by kernel_rfl) (by kernel_rfl) (fun _ _ _ h => h) (Or.inl ⟨by rfl, ?_⟩) (by exact hHeld) ?_
          rotate_left
          · intro w hSw; go_simp; try with_reducible rfl
          try simp only [Act.put]
          try simp only [List.setIfInBounds_toArray]
          try simp only [List.set]
          refine wpAnyH_take (i := 23) (oi := { dst := some 140, op := Go.Op.load 43 (Go.Operand.tmp 139), type := 43, pos := _, after := _, guard := _ }) (v := ?_) rfl (by kernel_rfl) (by kernel_rfl) (by kernel_rfl) (fun _ _ _ h => h) (Or.inl ⟨by rfl, ?_⟩) (by exact hHeld) ?_
          rotate_left
          · intro w hSw; obtain ⟨z0, z1, z2, z3, z4⟩ := hSw.1.ru.cells; obtain ⟨y0, y1, y2, y3⟩ := hSw.1.ru.t.cells; rw [HTE.out] at y0; go_simp; try with_reducible rfl
          try simp only [Act.put]
          try simp only [List.setIfInBounds_toArray]
          try simp only [List.set]
          refine wpAnyH_take (i := 24) (oi := { dst := some 141, op := Go.Op.nilCheck (Go.Operand.tmp 140), type := 0, pos := _, after := _, guard := _ }) (v := ?_) rfl (by kernel_rfl) (by kernel_rfl) (by kernel_rfl) (fun _ _ _ h => h) (Or.inl ⟨by rfl, ?_⟩) (by exact hHeld) ?_
          rotate_left
          · intro w hSw; go_simp; try with_reducible rfl
          try simp only [Act.put]
          try simp only [List.setIfInBounds_toArray]
          try simp only [List.set]
          refine wpAnyH_take (i := 25) (oi := { dst := some 142, op := Go.Op.fieldAddr 49 (Go.Operand.tmp 141) 0, type := 0, pos := _, after := _, guard := _ }) (v := ?_) rfl (by kernel_rfl) (by kernel_rfl) (by kernel_rfl) (fun _ _ _ h => h) (Or.inl ⟨by rfl, ?_⟩) (by exact hHeld) ?_
          rotate_left
          · intro w hSw; go_simp; try with_reducible rfl
          try simp only [Act.put]
          try simp only [List.setIfInBounds_toArray]
          try simp only [List.set]
          refine wpAnyH_take (i := 26) (oi := { dst := some 143, op := Go.Op.load 47 (Go.Operand.tmp 142), type := 47, pos := _, after := _, guard := _ }) (v := ?_) rfl (by kernel_rfl) (by kernel_rfl) (by kernel_rfl) (fun _ _ _ h => h) (Or.inl ⟨by rfl, ?_⟩) (by exact hHeld) ?_
          rotate_left
          · intro w hSw; obtain ⟨z0, z1, z2, z3, z4⟩ := hSw.1.ru.cells; obtain ⟨y0, y1, y2, y3⟩ := hSw.1.ru.t.cells; rw [HTE.out] at y0; go_simp; try with_reducible rfl
          try simp only [Act.put]
          try simp only [List.setIfInBounds_toArray]
          try simp only [List.set]
          refine wpAnyH_take (i := 27) (oi := { dst := some 144, op := Go.Op.call { callee := Go.Callee.builtin Go.Builtin.len, args := #[Go.Operand.tmp 143], argTypes := #[47] }, type := 3, pos := _, after := _, guard := _ }) (v := ?_) rfl (by kernel_rfl) (by kernel_rfl) (by kernel_rfl) (fun _ _ _ h => h) (Or.inl ⟨by rfl, ?_⟩) (by exact hHeld) ?_
          rotate_left
          · intro w hSw; go_simp; try with_reducible rfl
          try simp only [Act.put]
          try simp only [List.setIfInBounds_toArray]
          try simp only [List.set]
          refine wpAnyH_take (i := 28) (oi := { dst := some 145, op := Go.Op.binOp Go.BinOp.neq 3 (Go.Operand.tmp 136) (Go.Operand.tmp 144) 3, type := 4, pos := _, after := _, guard := _ }) (v := ?_) rfl (by kernel_rfl) (by kernel_rfl) (by kernel_rfl) (fun _ _ _ h => h) (Or.inl ⟨by rfl, ?_⟩) (by exact hHeld) ?_
          rotate_left
          · intro w hSw; go_simp; try with_reducible rfl
          try simp only [Act.put]
          try simp only [List.setIfInBounds_toArray]
          try simp only [List.set]
          refine wpAnyH_take (i := 29) (oi := { dst := some 146, op := Go.Op.pick (Go.Operand.tmp 135) (Go.Operand.const (Go.Value.bool true)) (Go.Operand.tmp 145), type := 4, pos := _, after := _, guard := _ }) (v := ?_) rfl (by kernel_rfl) (by kernel_rfl) (by kernel_rfl) (fun _ _ _ h => h) (Or.inl ⟨by rfl, ?_⟩) (by exact hHeld) ?_
          rotate_left
          · intro w hSw; go_simp; try with_reducible rfl
          try simp only [Act.put]
          try simp only [List.setIfInBounds_toArray]
          try simp only [List.set]
          refine wpAnyH_take (i := 30) (oi := { dst := some 147, op := Go.Op.move (Go.Operand.tmp 146), type := 4, pos := _, after := _, guard := _ }) (v := ?_) rfl (by kernel_rfl) (by kernel_rfl) (by kernel_rfl) (fun _ _ _ h => h) (Or.inl ⟨by rfl, ?_⟩) (by exact hHeld) ?_
          rotate_left
          · intro w hSw; go_simp; try with_reducible rfl
          try simp only [Act.put]
          try simp only [List.setIfInBounds_toArray]
          try simp only [List.set]
          refine wpAnyH_take (i := 31) (oi := { dst := some 148, op := Go.Op.move (Go.Operand.tmp 22), type := 3, pos := _, after := _, guard := _ }) (v := ?_) rfl (by kernel_rfl) (by kernel_rfl) (by kernel_rfl) (fun _ _ _ h => h) (Or.inl ⟨by rfl, ?_⟩) (by exact hHeld) ?_
          rotate_left
          · intro w hSw; go_simp; try with_reducible rfl
          try simp only [Act.put]
          try simp only [List.setIfInBounds_toArray]
          try simp only [List.set]
          refine wpAnyH_take (i := 32) (oi := { dst := some 149, op := Go.Op.move (Go.Operand.tmp 13), type := 82, pos := _, after := _, guard := _ }) (v := ?_) rfl (by kernel_rfl) (by kernel_rfl) (by kernel_rfl) (fun _ _ _ h => h) (Or.inl ⟨by rfl, ?_⟩) (by exact hHeld) ?_
          rotate_left
          · intro w hSw; go_simp; try with_reducible rfl
          try simp only [Act.put]
          try simp only [List.setIfInBounds_toArray]
          try simp only [List.set]
          refine wpAnyH_take (i := 33) (oi := { dst := some 150, op := Go.Op.nilCheck (Go.Operand.tmp 149), type := 0, pos := _, after := _, guard := _ }) (v := ?_) rfl (by kernel_rfl) (by kernel_rfl) (by kernel_rfl) (fun _ _ _ h => h) (Or.inl ⟨by rfl, ?_⟩) (by exact hHeld) ?_
          rotate_left
          · intro w hSw; go_simp; try with_reducible rfl
          try simp only [Act.put]
          try simp only [List.setIfInBounds_toArray]
          try simp only [List.set]
          refine wpAnyH_take (i := 34) (oi := { dst := some 151, op := Go.Op.fieldAddr 84 (Go.Operand.tmp 150) 0, type := 0, pos := _, after := _, guard := _ }) (v := ?_) rfl (by kernel_rfl) (by kernel_rfl) (by kernel_rfl) (fun _ _ _ h => h) (Or.inl ⟨by rfl, ?_⟩) (by exact hHeld) ?_
          rotate_left
          · intro w hSw; go_simp; try with_reducible rfl
          try simp only [Act.put]
          try simp only [List.setIfInBounds_toArray]
          try simp only [List.set]
          refine wpAnyH_take (i := 35) (oi := { dst := some 152, op := Go.Op.load 43 (Go.Operand.tmp 151), type := 43, pos := _, after := _, guard := _ }) (v := ?_) rfl (by kernel_rfl) (by kernel_rfl) (by kernel_rfl) (fun _ _ _ h => h) (Or.inl ⟨by rfl, ?_⟩) (by exact hHeld) ?_
          rotate_left
          · intro w hSw; obtain ⟨z0, z1, z2, z3, z4⟩ := hSw.1.ru.cells; obtain ⟨y0, y1, y2, y3⟩ := hSw.1.ru.t.cells; rw [HTE.out] at y0; go_simp; try with_reducible rfl
          try simp only [Act.put]
          try simp only [List.setIfInBounds_toArray]
          try simp only [List.set]
          refine wpAnyH_ready (rs := [36]) (by kernel_rfl) (by simp) ?_
          refine AllReadyH.cons (o := { dst := some 153, op := Go.Op.call { callee := Go.Callee.value (Go.Operand.func 33), args := #[Go.Operand.tmp 152], argTypes := #[43] }, type := 3, pos := _, after := _, guard := _ }) rfl (fun K hK => ?_) AllReadyH.nil
          go_simp
          go_at_call 33
          refine (rsize_any hHeld.1.ru.t HSF.out).mono ?_
          rintro e w9 ⟨rfl, a9⟩
          have hS2 := And.intro (hHeld.1.to a9) (And.intro (hHeld.2.1.aft a9) (And.intro (hHeld.2.2.1.aft a9) (hHeld.2.2.2.aft a9)))
          clear hHeld
          refine hK.out _ _ hS2 (fun hHeld => ?_)
          clear hK K hS2
          try simp only [Act.put]
          try simp only [List.setIfInBounds_toArray]
          try simp only [List.set]
          refine wpAnyH_take (i := 37) (oi := { dst := some 154, op := Go.Op.binOp Go.BinOp.neq 3 (Go.Operand.tmp 148) (Go.Operand.tmp 153) 3, type := 4, pos := _, after := _, guard := _ }) (v := ?_) rfl (by kernel_rfl) (by kernel_rfl) (by kernel_rfl) (fun _ _ _ h => h) (Or.inl ⟨by rfl, ?_⟩) (by exact hHeld) ?_
          rotate_left
          · intro w hSw; go_simp; try with_reducible rfl
          try simp only [Act.put]
          try simp only [List.setIfInBounds_toArray]
          try simp only [List.set]
          refine wpAnyH_take (i := 38) (oi := { dst := some 155, op := Go.Op.pick (Go.Operand.tmp 147) (Go.Operand.const (Go.Value.bool true)) (Go.Operand.tmp 154), type := 4, pos := _, after := _, guard := _ }) (v := ?_) rfl (by kernel_rfl) (by kernel_rfl) (by kernel_rfl) (fun _ _ _ h => h) (Or.inl ⟨by rfl, ?_⟩) (by exact hHeld) ?_
          rotate_left
          · intro w hSw; go_simp; try with_reducible rfl
          try simp only [Act.put]
          try simp only [List.setIfInBounds_toArray]
          try simp only [List.set]
          refine wpAnyH_take (i := 39) (oi := { dst := some 156, op := Go.Op.move (Go.Operand.tmp 155), type := 4, pos := _, after := _, guard := _ }) (v := ?_) rfl (by kernel_rfl) (by kernel_rfl) (by kernel_rfl) (fun _ _ _ h => h) (Or.inl ⟨by rfl, ?_⟩) (by exact hHeld) ?_
          rotate_left
          · intro w hSw; go_simp; try with_reducible rfl
          try simp only [Act.put]
          try simp only [List.setIfInBounds_toArray]
          try simp only [List.set]
          refine wpAnyH_take (i := 40) (oi := { dst := some 157, op := Go.Op.move (Go.Operand.tmp 23), type := 3, pos := _, after := _, guard := _ }) (v := ?_) rfl (by kernel_rfl) (by kernel_rfl) (by kernel_rfl) (fun _ _ _ h => h) (Or.inl ⟨by rfl, ?_⟩) (by exact hHeld) ?_
          rotate_left
          · intro w hSw; go_simp; try with_reducible rfl
          try simp only [Act.put]
          try simp only [List.setIfInBounds_toArray]
          try simp only [List.set]
          refine wpAnyH_take (i := 41) (oi := { dst := some 158, op := Go.Op.move (Go.Operand.tmp 13), type := 82, pos := _, after := _, guard := _ }) (v := ?_) rfl (by kernel_rfl) (by kernel_rfl) (by kernel_rfl) (fun _ _ _ h => h) (Or.inl ⟨by rfl, ?_⟩) (by exact hHeld) ?_
          rotate_left
          · intro w hSw; go_simp; try with_reducible rfl
          try simp only [Act.put]
          try simp only [List.setIfInBounds_toArray]
          try simp only [List.set]
          refine wpAnyH_take (i := 42) (oi := { dst := some 159, op := Go.Op.nilCheck (Go.Operand.tmp 158), type := 0, pos := _, after := _, guard := _ }) (v := ?_) rfl (by kernel_rfl) (by kernel_rfl) (by kernel_rfl) (fun _ _ _ h => h) (Or.inl ⟨by rfl, ?_⟩) (by exact hHeld) ?_
          rotate_left
          · intro w hSw; go_simp; try with_reducible rfl
          try simp only [Act.put]
          try simp only [List.setIfInBounds_toArray]
          try simp only [List.set]
          refine wpAnyH_take (i := 43) (oi := { dst := some 160, op := Go.Op.fieldAddr 84 (Go.Operand.tmp 159) 0, type := 0, pos := _, after := _, guard := _ }) (v := ?_) rfl (by kernel_rfl) (by kernel_rfl) (by kernel_rfl) (fun _ _ _ h => h) (Or.inl ⟨by rfl, ?_⟩) (by exact hHeld) ?_
          rotate_left
          · intro w hSw; go_simp; try with_reducible rfl
          try simp only [Act.put]
          try simp only [List.setIfInBounds_toArray]
          try simp only [List.set]
          refine wpAnyH_take (i := 44) (oi := { dst := some 161, op := Go.Op.load 43 (Go.Operand.tmp 160), type := 43, pos := _, after := _, guard := _ }) (v := ?_) rfl (by kernel_rfl) (by kernel_rfl) (by kernel_rfl) (fun _ _ _ h => h) (Or.inl ⟨by rfl, ?_⟩) (by exact hHeld) ?_
          rotate_left
          · intro w hSw; obtain ⟨z0, z1, z2, z3, z4⟩ := hSw.1.ru.cells; obtain ⟨y0, y1, y2, y3⟩ := hSw.1.ru.t.cells; rw [HTE.out] at y0; go_simp; try with_reducible rfl
          try simp only [Act.put]
          try simp only [List.setIfInBounds_toArray]
          try simp only [List.set]
          refine wpAnyH_take (i := 45) (oi := { dst := some 162, op := Go.Op.nilCheck (Go.Operand.tmp 161), type := 0, pos := _, after := _, guard := _ }) (v := ?_) rfl (by kernel_rfl) (by kernel_rfl) (by kernel_rfl) (fun _ _ _ h => h) (Or.inl ⟨by rfl, ?_⟩) (by exact hHeld) ?_
          rotate_left
          · intro w hSw; go_simp; try with_reducible rfl
          try simp only [Act.put]
          try simp only [List.setIfInBounds_toArray]
          try simp only [List.set]
          refine wpAnyH_take (i := 46) (oi := { dst := some 163, op := Go.Op.fieldAddr 49 (Go.Operand.tmp 162) 1, type := 0, pos := _, after := _, guard := _ }) (v := ?_) rfl (by kernel_rfl) (by kernel_rfl) (by kernel_rfl) (fun _ _ _ h => h) (Or.inl ⟨by rfl, ?_⟩) (by exact hHeld) ?_
          rotate_left
          · intro w hSw; go_simp; try with_reducible rfl
          try simp only [Act.put]
          try simp only [List.setIfInBounds_toArray]
          try simp only [List.set]
          refine wpAnyH_take (i := 47) (oi := { dst := some 164, op := Go.Op.load 3 (Go.Operand.tmp 163), type := 3, pos := _, after := _, guard := _ }) (v := ?_) rfl (by kernel_rfl) (by kernel_rfl) (by kernel_rfl) (fun _ _ _ h => h) (Or.inl ⟨by rfl, ?_⟩) (by exact hHeld) ?_
          rotate_left
          · intro w hSw; obtain ⟨z0, z1, z2, z3, z4⟩ := hSw.1.ru.cells; obtain ⟨y0, y1, y2, y3⟩ := hSw.1.ru.t.cells; rw [HTE.out] at y0; go_simp; try with_reducible rfl
          try simp only [Act.put]
          try simp only [List.setIfInBounds_toArray]
          try simp only [List.set]
          refine wpAnyH_take (i := 48) (oi := { dst := some 165, op := Go.Op.binOp Go.BinOp.neq 3 (Go.Operand.tmp 157) (Go.Operand.tmp 164) 3, type := 4, pos := _, after := _, guard := _ }) (v := ?_) rfl (by kernel_rfl) (by kernel_rfl) (by kernel_rfl) (fun _ _ _ h => h) (Or.inl ⟨by rfl, ?_⟩) (by exact hHeld) ?_
          rotate_left
          · intro w hSw; go_simp; try with_reducible rfl
          try simp only [Act.put]
          try simp only [List.setIfInBounds_toArray]
          try simp only [List.set]
          refine wpAnyH_take (i := 49) (oi := { dst := some 166, op := Go.Op.pick (Go.Operand.tmp 156) (Go.Operand.const (Go.Value.bool true)) (Go.Operand.tmp 165), type := 4, pos := _, after := _, guard := _ }) (v := ?_) rfl (by kernel_rfl) (by kernel_rfl) (by kernel_rfl) (fun _ _ _ h => h) (Or.inl ⟨by rfl, ?_⟩) (by exact hHeld) ?_
          rotate_left
          · intro w hSw; go_simp; try with_reducible rfl
          try simp only [Act.put]
          try simp only [List.setIfInBounds_toArray]
          try simp only [List.set]
          refine wpAnyH_take (i := 50) (oi := { dst := some 167, op := Go.Op.move (Go.Operand.tmp 166), type := 4, pos := _, after := _, guard := _ }) (v := ?_) rfl (by kernel_rfl) (by kernel_rfl) (by kernel_rfl) (fun _ _ _ h => h) (Or.inl ⟨by rfl, ?_⟩) (by exact hHeld) ?_
          rotate_left
          · intro w hSw; go_simp; try with_reducible rfl
          try simp only [Act.put]
          try simp only [List.setIfInBounds_toArray]
          try simp only [List.set]
          refine wpAnyH_take (i := 51) (oi := { dst := some 168, op := Go.Op.move (Go.Operand.tmp 16), type := 54, pos := _, after := _, guard := _ }) (v := ?_) rfl (by kernel_rfl) (by kernel_rfl) (by kernel_rfl) (fun _ _ _ h => h) (Or.inl ⟨by rfl, ?_⟩) (by exact hHeld) ?_
          rotate_left
          · intro w hSw; go_simp; try with_reducible rfl
          try simp only [Act.put]
          try simp only [List.setIfInBounds_toArray]
          try simp only [List.set]
          refine wpAnyH_take (i := 52) (oi := { dst := some 169, op := Go.Op.move (Go.Operand.tmp 15), type := 54, pos := _, after := _, guard := _ }) (v := ?_) rfl (by kernel_rfl) (by kernel_rfl) (by kernel_rfl) (fun _ _ _ h => h) (Or.inl ⟨by rfl, ?_⟩) (by exact hHeld) ?_
          rotate_left
          · intro w hSw; go_simp; try with_reducible rfl
          try simp only [Act.put]
          try simp only [List.setIfInBounds_toArray]
          try simp only [List.set]
          refine wpAnyH_ready (rs := [53]) (by kernel_rfl) (by simp) ?_
          refine AllReadyH.cons (o := { dst := some 170, op := Go.Op.call { callee := Go.Callee.value (Go.Operand.func 55), args := #[Go.Operand.tmp 168, Go.Operand.tmp 169, Go.Operand.const (Go.Value.int Go.IntKind.u8 9)], argTypes := #[54, 54, 5] }, type := 4, pos := _, after := _, guard := _ }) rfl (fun K hK => ?_) AllReadyH.nil
          go_simp
          go_at_call 55
          refine (intact9 _ _ lb _ (hHeld.2.2.2.full HFE.out (by rw [HLL.out]; exact HLM.out) HLL.out) (HRC.out _ hHeld.1.aft) (by rw [HLL.out]; have := HLM.out; omega)).mono ?_
          rintro e w9 ⟨rfl, a9⟩
          have hS2 := And.intro (hHeld.1.to a9) (And.intro (hHeld.2.1.aft a9) (And.intro (hHeld.2.2.1.aft a9) (hHeld.2.2.2.aft a9)))
          clear hHeld
          refine hK.out _ _ hS2 (fun hHeld => ?_)
          clear hK K hS2
          try simp only [Act.put]
          try simp only [List.setIfInBounds_toArray]
          try simp only [List.set]
          refine wpAnyH_take (i := 54) (oi := { dst := some 171, op := Go.Op.unOp Go.UnOp.not 4 (Go.Operand.tmp 170), type := 4, pos := _, after := _, guard := _ }) (v := ?_) rfl (by kernel_rfl) (by kernel_rfl) (by kernel_rfl) (fun _ _ _ h => h) (Or.inl ⟨by rfl, ?_⟩) (by exact hHeld) ?_
          rotate_left
          · intro w hSw; go_simp; try with_reducible rfl
          try simp only [Act.put]
          try simp only [List.setIfInBounds_toArray]
          try simp only [List.set]
          refine wpAnyH_take (i := 55) (oi := { dst := some 172, op := Go.Op.pick (Go.Operand.tmp 167) (Go.Operand.const (Go.Value.bool true)) (Go.Operand.tmp 171), type := 4, pos := _, after := _, guard := _ }) (v := ?_) rfl (by kernel_rfl) (by kernel_rfl) (by kernel_rfl) (fun _ _ _ h => h) (Or.inl ⟨by rfl, ?_⟩) (by exact hHeld) ?_
          rotate_left
          · intro w hSw; go_simp; try with_reducible rfl
          try simp only [Act.put]
          try simp only [List.setIfInBounds_toArray]
          try simp only [List.set]
          refine wpAnyH_done (by kernel_rfl) ?_ _
          have HS9 := Lib.hid hHeld.1
          clear hHeld HD
          go_wp2_with fail
          go_roundw
          case rel => exact ⟨k + 1, T2, M2, bad2, vo6, vo7, HLT.out, by omega, by go_num, HS9, HJ2⟩
          case measure => have := HLT.out; simp [intOf]; omega
      · have i2 : ¬ (k : Int) < 12 := by omega
        go_wp2_with fail
        refine (unpackruns_any wr (HMA.out wr HS.out.aft)).mono ?_
        rintro e w5 ⟨rfl, a5⟩
        have HA5 := Lib.hid (HS.out.aft.trans a5)
        clear a5
        go_wp2_with fail
        go_ret
        exact ⟨rfl, HA5.out⟩
    · have i1 : ¬ (k : Int) < (L.length : Int) := by omega
      go_wp2_with fail
      refine (unpackruns_any wr (HMA.out wr HS.out.aft)).mono ?_
      rintro e w5 ⟨rfl, a5⟩
      have HA5 := Lib.hid (HS.out.aft.trans a5)
      clear a5
      go_wp2_with fail
      go_ret
      exact ⟨rfl, HA5.out⟩

set_option maxRecDepth 100000 in
theorem walkUnpackPlays (w : World) (hsh : w.ShapedOpen Tryd.prog) {H : Type} {enc : TypeId × Value → H} {base : Nat} {v2 : Value} {d2 : DataW H} {p2 : List MemPlace} (a0 : Int) (w0 : (Lit.int .i64 a0).wf = true) (a1 : Int) (w1 : (Lit.int .i64 a1).wf = true)
    (hval2 : Value.okWide Tryd.prog w .any base 81 v2) (k2 : DataW.Trod enc Tryd.prog w 0 (fun _ => true) true 81 v2 d2 p2) :
    Calls Tryd.prog 14 #[.int .i64 a0, .int .i64 a1, v2] w fun e w' => e = .returned (.bool true) ∧ Aft w w' := by
  obtain ⟨L, hr⟩ := open_blocks hval2 k2
  by_cases h : (0 ≤ a0 ∧ a0 ≤ 65536) ∧ (0 ≤ a1 ∧ a1 ≤ 2147483647)
  · exact unpackplays_any v2 a0 a1 h.1.1 h.1.2 h.2.1 h.2.2 L w (maxOk_of w hsh) hr
  · exact unpackplays_out v2 a0 a1 w (maxOk_of w hsh) (by
      by_cases h1 : 0 ≤ a0 ∧ a0 ≤ 65536
      · exact Or.inr (fun h2 => h ⟨h1, h2⟩)
      · exact Or.inl h1)
end Go.Proofs.YtmlnboibclfmcaaDoor
