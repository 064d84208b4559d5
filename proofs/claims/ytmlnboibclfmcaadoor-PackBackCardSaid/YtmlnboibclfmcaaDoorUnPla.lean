/-
  UnpackPlain: the walk of the law.
-/
import Derived.Test.YtmlnboibclfmcaaDoorPushB
import Derived.Test.YtmlnboibclfmcaaDoorUnPlaP
import Derived.Test.YtmlnboibclfmcaaDoorUnRuns2
import Derived.Test.YtmlnboibclfmcaaDoorArgN
import Derived.Deep.RegionHeld
namespace Go.Proofs.YtmlnboibclfmcaaDoor
open Go.ChangeShapes Go.WideShapes Go.ChangeAt Go.RowKit
set_option linter.unusedVariables false

def okP (f : FieldL) : Bool := decide (f.1.length ≤ 100) && decide (f.2.length ≤ 100)
def keptK (l : List FieldL) (k : Nat) : List FieldL := (l.take k).filter okP
theorem keptK_yes {l : List FieldL} {k : Nat} (h : k < l.length) (h1 : l[k].1.length ≤ 100) (h2 : l[k].2.length ≤ 100) : keptK l (k + 1) = keptK l k ++ [l[k]] := by
  unfold keptK
  rw [List.take_succ_eq_append_getElem h, List.filter_append]
  simp [okP, h1, h2]
theorem keptK_no {l : List FieldL} {k : Nat} (h : k < l.length) (h1 : ¬ (l[k].1.length ≤ 100 ∧ l[k].2.length ≤ 100)) : keptK l (k + 1) = keptK l k := by
  unfold keptK
  rw [List.take_succ_eq_append_getElem h, List.filter_append]
  have : okP l[k] = false := by unfold okP; rw [← Bool.not_eq_true]; simpa using h1
  simp [this]
theorem keptK_ok (l : List FieldL) (k : Nat) : ∀ f ∈ keptK l k, f.1.length ≤ 100 ∧ f.2.length ≤ 100 := by
  intro f hf
  have := (List.mem_filter.1 hf).2
  simpa [okP] using this
theorem keptK_len (l : List FieldL) (k : Nat) : (keptK l k).length ≤ k := by
  unfold keptK
  have := List.length_filter_le okP (l.take k)
  rw [List.length_take] at this
  omega
theorem plB_all (how : Int) : ∀ (fs : List FieldL), (∀ f ∈ fs, f.1.length ≤ 100 ∧ f.2.length ≤ 100) → (fs.flatMap (plB how)).length ≤ 203 * fs.length ∧ (fs.map fsize).sum ≤ 232 * fs.length
  | [], _ => by simp
  | f :: fs, h => by
    have h1 := h f (by simp)
    obtain ⟨i1, i2⟩ := plB_all how fs (fun g hg => h g (by simp [hg]))
    rw [List.flatMap_cons, List.length_append, plB_len, List.map_cons, List.sum_cons, List.length_cons]
    have e : fsize f = f.1.length + f.2.length + 32 := rfl
    omega
theorem blkU_plain (how : Int) (hh : how = 2 ∨ how = 3) (fs : List FieldL) (h : ∀ f ∈ fs, f.1.length ≤ 100 ∧ f.2.length ≤ 100) (hl : fs.length ≤ 1000) :
    (blkU 4096 2147483647 (fs.flatMap (plB how)) [] 4096).2 = 0 ∧ (blkU 4096 2147483647 (fs.flatMap (plB how)) [] 4096).1.rows = fs.map (fun f => ⟨f, how⟩) ∧ (blkU 4096 2147483647 (fs.flatMap (plB how)) [] 4096).1.tab = [] ∧ (blkU 4096 2147483647 (fs.flatMap (plB how)) [] 4096).1.most = 4096 := by
  have h2 := (plB_all how fs h).2
  have := runU_plain 4096 2147483647 4096 how hh (fs.flatMap (plB how)) fs (us0 [] 4096) h (Nat.zero_le _) rfl (by show ((0 + (fs.map fsize).sum : Nat) : Int) ≤ _; omega)
  have hq : blkU 4096 2147483647 (fs.flatMap (plB how)) [] 4096 = runU 4096 2147483647 (fs.flatMap (plB how)) ((fs.flatMap (plB how)).length + 1) (us0 [] 4096) := rfl
  rw [hq, this]
  exact ⟨rfl, rfl, rfl, rfl⟩
theorem plB_app (b : List UInt8) (how : Int) (hd : UInt8) (hh : (if how = 3 then (16 : UInt8) else 0) = hd) (f : FieldL) : b ++ [hd, UInt8.ofNat f.1.length] ++ f.1 ++ [UInt8.ofNat f.2.length] ++ f.2 = b ++ plB how f := by
  subst hh
  simp [plB]
theorem Own.slice8 {w : World} {base : Nat} {v : Value} {l : List UInt8} (h : Own w base v l) : ∃ a k, v = .slice a l.length k := by
  rcases h.shape with ⟨a, b⟩ | ⟨g, cap, a, -⟩
  · exact ⟨none, 0, by rw [a, b]; rfl⟩
  · exact ⟨_, _, a⟩
theorem Own.un7 {w w' : World} {B gu g base : Nat} {vo vk v : Value} {l : List FieldL} {most top list : Int} {bad : Bool} {b : List UInt8} (h : Own w base v b) (hu : Un w B gu g vo vk l most top list bad) (hc : Chg (PU gu g vo) w w') : Own w' base v b := h.chg hc (fun k hk e => by
  obtain ⟨cur, hk⟩ := h.blk8 hk
  rcases e with rfl | rfl | e
  · rw [hu.p] at hk
    injection hk with hk
    injection hk with _ hk
    exact absurd hk (by decide)
  · rw [hu.t.blk] at hk
    injection hk with hk
    injection hk with _ hk
    exact absurd hk (by decide)
  · obtain ⟨cur2, h2⟩ := hu.t.own.blk e
    rw [h2] at hk
    injection hk with hk
    injection hk with _ hk
    exact absurd hk (by decide))

set_option linter.unusedSimpArgs false in
set_option maxHeartbeats 32000000 in
set_option maxRecDepth 100000 in
theorem unpackplain_any (v : Value) (nv : Bool) (l : List FieldL) (w : World) (hm : MaxOk w) (hr : RbF w v l) :
    Calls Tryd.prog 16 #[v, .bool nv] w fun e w' => e = .returned (.bool true) ∧ Aft w w' := by
  have HR := Lib.hid hr
  have HMA := Lib.hid (fun w' (a : Aft w w') => hm.aft a)
  have HN := Lib.hid (unew_yes 4096 2147483647 (by decide) (by decide) (by decide) (by decide) w hm)
  obtain ⟨va, vc, vb, voff, rfl, hvc, hvm, h1, h2, h3⟩ := hr.open
  unfold maxLen at hvm
  obtain ⟨how, hhow⟩ : ∃ h : Int, h = (if nv then 3 else 2) := ⟨_, rfl⟩
  have HH := Lib.hid hhow
  clear hr hm h1 h2 h3 hhow
  go_enter Tryd.func16, Tryd.ntmps16
  go_wp2_with fail
  refine HN.out.mono ?_
  rintro e w1 ⟨gu, g, vk, rfl, hu1, a1⟩
  have HU1 := Lib.hid hu1
  have HA1 := Lib.hid a1
  have HR1 := Lib.hid (HR.out.aft a1)
  have HPS : Hid (PS w1 w1 (.slice none 0 0) [] (.slice none 0 0) []) := Lib.hid ⟨Own.nil _ _, World.ownsRow_nil _ _ _ _, Aft.refl _⟩
  clear hu1 a1 HN HR
  go_wp2_with fail
  go_loopw [7, 8, 9, 10, 11] (fun vb vw vi _ _ wr => ∃ k : Nat, k ≤ l.length ∧ k ≤ 20 ∧ vi = .int .i64 (k : Int) ∧ Hid (PS w1 wr vb ((keptK l k).flatMap (plB how)) vw ((keptK l k).map (fun f => ⟨f, how⟩)))) (fun _ _ vi _ _ _ => l.length - (intOf vi).toNat)
  case atStart => exact ⟨0, by omega, by omega, by go_num, HPS⟩
  case round =>
    clear HPS
    obtain ⟨k, hk, hk20, rfl, HPS⟩ := hrel
    by_cases hlt : k < l.length
    · have i1 : (k : Int) < (l.length : Int) := by omega
      by_cases hlt20 : k < 20
      · have i2 : (k : Int) < 20 := by omega
        obtain ⟨pa, pc, pb, poff, hpv, -, -, p1, p2, p3⟩ := HR1.out.open
        injection hpv with hpv _ hpc
        have hne : l ≠ [] := by intro e; rw [e] at hlt; simp at hlt
        have hpa := p1 hne
        have hpb := p2 hne
        obtain ⟨q1, q2⟩ := p3 k hlt
        obtain ⟨S1, hS1⟩ : ∃ s : ByteArray, (⟨l[k].1.toArray⟩ : ByteArray) = s := ⟨_, rfl⟩
        obtain ⟨S2, hS2⟩ : ∃ s : ByteArray, (⟨l[k].2.toArray⟩ : ByteArray) = s := ⟨_, rfl⟩
        have hq1 : w1.cell? ⟨pb, poff + k * 2, none⟩ = some (.string S1) := by rw [q1, ← hS1]; rfl
        have hq2 : w1.cell? ⟨pb, poff + k * 2 + 1, none⟩ = some (.string S2) := by rw [q2, ← hS2]; rfl
        have hz1 : l[k].1.length = S1.size := by rw [← hS1]; show _ = (l[k].1.toArray).size; simp
        have hz2 : l[k].2.length = S2.size := by rw [← hS2]; show _ = (l[k].2.toArray).size; simp
        have ht1 : l[k].1 = S1.data.toList := by rw [← hS1]
        have ht2 : l[k].2 = S2.data.toList := by rw [← hS2]
        have HCELL := Lib.hid (fun (wx : World) (a : Aft w1 wx) => And.intro ((Below.cell a.to (p := ⟨pb, poff + k * 2, none⟩) hpb).trans hq1) ((Below.cell a.to (p := ⟨pb, poff + k * 2 + 1, none⟩) hpb).trans hq2))
        have HZ := Lib.hid (And.intro hz1 hz2)
        have HT := Lib.hid (And.intro ht1 ht2)
        have HS := Lib.hid (And.intro hS1 hS2)
        have hv : va = some ⟨pb, poff, none⟩ := hpv.trans hpa
        have HLT := Lib.hid hlt
        clear p1 p2 p3 q1 q2 hq1 hq2 hpc hpa hpb hne ht1 ht2 hS1 hS2 hpv
        subst hv
        obtain ⟨c1, c2⟩ := HCELL.out wr HPS.out.aft
        by_cases ho1 : S1.size ≤ 100
        · have j1 : ¬ ((S1.size : Int) > 100) := by omega
          by_cases ho2 : S2.size ≤ 100
          · have j2 : ¬ ((S2.size : Int) > 100) := by omega
            have HKY := Lib.hid (keptK_yes hlt (by omega) (by omega))
            have hpl := plB_all how (keptK l k) (keptK_ok l k)
            have hkl := keptK_len l k
            generalize keptK l k = K at HPS HKY hpl hkl
            have HBL : Hid ((K.flatMap (plB how)).length ≤ 100000) := Lib.hid (by omega)
            have HRL : Hid (K.length ≤ 1000) := Lib.hid (by omega)
            have gw1 : IntKind.u8.wrap (S1.size : Int) = (S1.size : Int) := IntWalk.u8_in _ (by omega)
            have gw2 : IntKind.u8.wrap (S2.size : Int) = (S2.size : Int) := IntWalk.u8_in _ (by omega)
            have HN12 : Hid (((S1.size : Int) = ((UInt8.ofNat S1.size).toNat : Int)) ∧ ((S2.size : Int) = ((UInt8.ofNat S2.size).toNat : Int))) := Lib.hid ⟨by rw [UInt8.toNat_ofNat']; omega, by rw [UInt8.toNat_ofNat']; omega⟩
            have H12 := Lib.hid (And.intro ho1 ho2)
            clear hpl hkl hz1 hz2
            generalize l[k] = fk at HKY HZ HT HS
            clear hlt
            obtain ⟨bk, hbk⟩ : ∃ b, K.flatMap (plB how) = b := ⟨_, rfl⟩
            rw [hbk] at HPS HBL
            have HBK := Lib.hid hbk
            clear hbk
            cases nv with
            | true =>
              obtain rfl : how = 3 := HH.out
              go_upto_region 13 with fail
              refine wp_region_held_drew (S := fun wx => Aft w1 wx) (by kernel_rfl) HPS.out.aft.drew (fun hHeld => ?_)
              replace HPS := Lib.hid HPS.out.drew
              clear c1 c2
              generalize wr.drew = W8 at HPS hHeld ⊢
              refine wpAnyH_take (i := 0) (oi := { dst := some 54, op := Go.Op.move (Go.Operand.tmp 7), type := 54, pos := _, after := _, guard := _ }) (v := ?_) rfl (by kernel_rfl) (by kernel_rfl) (by kernel_rfl) (fun _ _ _ h => h) (Or.inl ⟨by rfl, ?_⟩) (by exact hHeld) ?_
              rotate_left
              · intro w hSw; go_simp; try with_reducible rfl
              try simp only [Act.put]
              try simp only [List.setIfInBounds_toArray]
              try simp only [List.set]
              refine wpAnyH_take (i := 1) (oi := { dst := some 55, op := Go.Op.move (Go.Operand.tmp 11), type := 5, pos := _, after := _, guard := _ }) (v := ?_) rfl (by kernel_rfl) (by kernel_rfl) (by kernel_rfl) (fun _ _ _ h => h) (Or.inl ⟨by rfl, ?_⟩) (by exact hHeld) ?_
              rotate_left
              · intro w hSw; go_simp; try with_reducible rfl
              try simp only [Act.put]
              try simp only [List.setIfInBounds_toArray]
              try simp only [List.set]
              refine wpAnyH_take (i := 2) (oi := { dst := some 56, op := Go.Op.move (Go.Operand.tmp 0), type := 47, pos := _, after := _, guard := _ }) (v := ?_) rfl (by kernel_rfl) (by kernel_rfl) (by kernel_rfl) (fun _ _ _ h => h) (Or.inl ⟨by rfl, ?_⟩) (by exact hHeld) ?_
              rotate_left
              · intro w hSw; go_simp; try with_reducible rfl
              try simp only [Act.put]
              try simp only [List.setIfInBounds_toArray]
              try simp only [List.set]
              refine wpAnyH_take (i := 3) (oi := { dst := some 57, op := Go.Op.move (Go.Operand.tmp 9), type := 3, pos := _, after := _, guard := _ }) (v := ?_) rfl (by kernel_rfl) (by kernel_rfl) (by kernel_rfl) (fun _ _ _ h => h) (Or.inl ⟨by rfl, ?_⟩) (by exact hHeld) ?_
              rotate_left
              · intro w hSw; go_simp; try with_reducible rfl
              try simp only [Act.put]
              try simp only [List.setIfInBounds_toArray]
              try simp only [List.set]
              refine wpAnyH_take (i := 4) (oi := { dst := some 58, op := Go.Op.indexAddr 47 (Go.Operand.tmp 56) (Go.Operand.tmp 57), type := 0, pos := _, after := _, guard := _ }) (v := ?_) rfl (by kernel_rfl) (by kernel_rfl) (by kernel_rfl) (fun _ _ _ h => h) (Or.inl ⟨by rfl, ?_⟩) (by exact hHeld) ?_
              rotate_left
              · intro w hSw; go_simp; try with_reducible rfl
              try simp only [Act.put]
              try simp only [List.setIfInBounds_toArray]
              try simp only [List.set]
              refine wpAnyH_take (i := 5) (oi := { dst := some 59, op := Go.Op.fieldAddr 28 (Go.Operand.tmp 58) 0, type := 0, pos := _, after := _, guard := _ }) (v := ?_) rfl (by kernel_rfl) (by kernel_rfl) (by kernel_rfl) (fun _ _ _ h => h) (Or.inl ⟨by rfl, ?_⟩) (by exact hHeld) ?_
              rotate_left
              · intro w hSw; go_simp; try with_reducible rfl
              try simp only [Act.put]
              try simp only [List.setIfInBounds_toArray]
              try simp only [List.set]
              refine wpAnyH_take (i := 6) (oi := { dst := some 60, op := Go.Op.load 9 (Go.Operand.tmp 59), type := 9, pos := _, after := _, guard := _ }) (v := ?_) rfl (by kernel_rfl) (by kernel_rfl) (by kernel_rfl) (fun _ _ _ h => h) (Or.inl ⟨by rfl, ?_⟩) (by exact hHeld) ?_
              rotate_left
              · intro w hSw; obtain ⟨c1, c2⟩ := HCELL.out w hSw; go_simp; try with_reducible rfl
              try simp only [Act.put]
              try simp only [List.setIfInBounds_toArray]
              try simp only [List.set]
              refine wpAnyH_take (i := 7) (oi := { dst := some 61, op := Go.Op.call { callee := Go.Callee.builtin Go.Builtin.len, args := #[Go.Operand.tmp 60], argTypes := #[9] }, type := 3, pos := _, after := _, guard := _ }) (v := ?_) rfl (by kernel_rfl) (by kernel_rfl) (by kernel_rfl) (fun _ _ _ h => h) (Or.inl ⟨by rfl, ?_⟩) (by exact hHeld) ?_
              rotate_left
              · intro w hSw; go_simp; try with_reducible rfl
              try simp only [Act.put]
              try simp only [List.setIfInBounds_toArray]
              try simp only [List.set]
              refine wpAnyH_take (i := 8) (oi := { dst := some 62, op := Go.Op.convert 3 5 (Go.Operand.tmp 61), type := 5, pos := _, after := _, guard := _ }) (v := ?_) rfl (by kernel_rfl) (by kernel_rfl) (by kernel_rfl) (fun _ _ _ h => h) (Or.inl ⟨by rfl, ?_⟩) (by exact hHeld) ?_
              rotate_left
              · intro w hSw; go_simp; try with_reducible rfl
              try simp only [Act.put]
              try simp only [List.setIfInBounds_toArray]
              try simp only [List.set]
              refine wpAnyH_take (i := 11) (oi := { dst := some 65, op := Go.Op.move (Go.Operand.tmp 0), type := 47, pos := _, after := _, guard := _ }) (v := ?_) rfl (by kernel_rfl) (by kernel_rfl) (by kernel_rfl) (fun _ _ _ h => h) (Or.inl ⟨by rfl, ?_⟩) (by exact hHeld) ?_
              rotate_left
              · intro w hSw; go_simp; try with_reducible rfl
              try simp only [Act.put]
              try simp only [List.setIfInBounds_toArray]
              try simp only [List.set]
              refine wpAnyH_take (i := 12) (oi := { dst := some 66, op := Go.Op.move (Go.Operand.tmp 9), type := 3, pos := _, after := _, guard := _ }) (v := ?_) rfl (by kernel_rfl) (by kernel_rfl) (by kernel_rfl) (fun _ _ _ h => h) (Or.inl ⟨by rfl, ?_⟩) (by exact hHeld) ?_
              rotate_left
              · intro w hSw; go_simp; try with_reducible rfl
              try simp only [Act.put]
              try simp only [List.setIfInBounds_toArray]
              try simp only [List.set]
              refine wpAnyH_take (i := 13) (oi := { dst := some 67, op := Go.Op.indexAddr 47 (Go.Operand.tmp 65) (Go.Operand.tmp 66), type := 0, pos := _, after := _, guard := _ }) (v := ?_) rfl (by kernel_rfl) (by kernel_rfl) (by kernel_rfl) (fun _ _ _ h => h) (Or.inl ⟨by rfl, ?_⟩) (by exact hHeld) ?_
              rotate_left
              · intro w hSw; go_simp; try with_reducible rfl
              try simp only [Act.put]
              try simp only [List.setIfInBounds_toArray]
              try simp only [List.set]
              refine wpAnyH_take (i := 14) (oi := { dst := some 68, op := Go.Op.fieldAddr 28 (Go.Operand.tmp 67) 0, type := 0, pos := _, after := _, guard := _ }) (v := ?_) rfl (by kernel_rfl) (by kernel_rfl) (by kernel_rfl) (fun _ _ _ h => h) (Or.inl ⟨by rfl, ?_⟩) (by exact hHeld) ?_
              rotate_left
              · intro w hSw; go_simp; try with_reducible rfl
              try simp only [Act.put]
              try simp only [List.setIfInBounds_toArray]
              try simp only [List.set]
              refine wpAnyH_take (i := 15) (oi := { dst := some 69, op := Go.Op.load 9 (Go.Operand.tmp 68), type := 9, pos := _, after := _, guard := _ }) (v := ?_) rfl (by kernel_rfl) (by kernel_rfl) (by kernel_rfl) (fun _ _ _ h => h) (Or.inl ⟨by rfl, ?_⟩) (by exact hHeld) ?_
              rotate_left
              · intro w hSw; obtain ⟨c1, c2⟩ := HCELL.out w hSw; go_simp; try with_reducible rfl
              try simp only [Act.put]
              try simp only [List.setIfInBounds_toArray]
              try simp only [List.set]
              refine wpAnyH_take (i := 17) (oi := { dst := some 71, op := Go.Op.move (Go.Operand.tmp 0), type := 47, pos := _, after := _, guard := _ }) (v := ?_) rfl (by kernel_rfl) (by kernel_rfl) (by kernel_rfl) (fun _ _ _ h => h) (Or.inl ⟨by rfl, ?_⟩) (by exact hHeld) ?_
              rotate_left
              · intro w hSw; go_simp; try with_reducible rfl
              try simp only [Act.put]
              try simp only [List.setIfInBounds_toArray]
              try simp only [List.set]
              refine wpAnyH_take (i := 18) (oi := { dst := some 72, op := Go.Op.move (Go.Operand.tmp 9), type := 3, pos := _, after := _, guard := _ }) (v := ?_) rfl (by kernel_rfl) (by kernel_rfl) (by kernel_rfl) (fun _ _ _ h => h) (Or.inl ⟨by rfl, ?_⟩) (by exact hHeld) ?_
              rotate_left
              · intro w hSw; go_simp; try with_reducible rfl
              try simp only [Act.put]
              try simp only [List.setIfInBounds_toArray]
              try simp only [List.set]
              refine wpAnyH_take (i := 19) (oi := { dst := some 73, op := Go.Op.indexAddr 47 (Go.Operand.tmp 71) (Go.Operand.tmp 72), type := 0, pos := _, after := _, guard := _ }) (v := ?_) rfl (by kernel_rfl) (by kernel_rfl) (by kernel_rfl) (fun _ _ _ h => h) (Or.inl ⟨by rfl, ?_⟩) (by exact hHeld) ?_
              rotate_left
              · intro w hSw; go_simp; try with_reducible rfl
              try simp only [Act.put]
              try simp only [List.setIfInBounds_toArray]
              try simp only [List.set]
              refine wpAnyH_take (i := 20) (oi := { dst := some 74, op := Go.Op.fieldAddr 28 (Go.Operand.tmp 73) 1, type := 0, pos := _, after := _, guard := _ }) (v := ?_) rfl (by kernel_rfl) (by kernel_rfl) (by kernel_rfl) (fun _ _ _ h => h) (Or.inl ⟨by rfl, ?_⟩) (by exact hHeld) ?_
              rotate_left
              · intro w hSw; go_simp; try with_reducible rfl
              try simp only [Act.put]
              try simp only [List.setIfInBounds_toArray]
              try simp only [List.set]
              refine wpAnyH_take (i := 21) (oi := { dst := some 75, op := Go.Op.load 9 (Go.Operand.tmp 74), type := 9, pos := _, after := _, guard := _ }) (v := ?_) rfl (by kernel_rfl) (by kernel_rfl) (by kernel_rfl) (fun _ _ _ h => h) (Or.inl ⟨by rfl, ?_⟩) (by exact hHeld) ?_
              rotate_left
              · intro w hSw; obtain ⟨c1, c2⟩ := HCELL.out w hSw; go_simp; try with_reducible rfl
              try simp only [Act.put]
              try simp only [List.setIfInBounds_toArray]
              try simp only [List.set]
              refine wpAnyH_take (i := 22) (oi := { dst := some 76, op := Go.Op.call { callee := Go.Callee.builtin Go.Builtin.len, args := #[Go.Operand.tmp 75], argTypes := #[9] }, type := 3, pos := _, after := _, guard := _ }) (v := ?_) rfl (by kernel_rfl) (by kernel_rfl) (by kernel_rfl) (fun _ _ _ h => h) (Or.inl ⟨by rfl, ?_⟩) (by exact hHeld) ?_
              rotate_left
              · intro w hSw; go_simp; try with_reducible rfl
              try simp only [Act.put]
              try simp only [List.setIfInBounds_toArray]
              try simp only [List.set]
              refine wpAnyH_take (i := 23) (oi := { dst := some 77, op := Go.Op.convert 3 5 (Go.Operand.tmp 76), type := 5, pos := _, after := _, guard := _ }) (v := ?_) rfl (by kernel_rfl) (by kernel_rfl) (by kernel_rfl) (fun _ _ _ h => h) (Or.inl ⟨by rfl, ?_⟩) (by exact hHeld) ?_
              rotate_left
              · intro w hSw; go_simp; try with_reducible rfl
              try simp only [Act.put]
              try simp only [List.setIfInBounds_toArray]
              try simp only [List.set]
              refine wpAnyH_take (i := 26) (oi := { dst := some 80, op := Go.Op.move (Go.Operand.tmp 0), type := 47, pos := _, after := _, guard := _ }) (v := ?_) rfl (by kernel_rfl) (by kernel_rfl) (by kernel_rfl) (fun _ _ _ h => h) (Or.inl ⟨by rfl, ?_⟩) (by exact hHeld) ?_
              rotate_left
              · intro w hSw; go_simp; try with_reducible rfl
              try simp only [Act.put]
              try simp only [List.setIfInBounds_toArray]
              try simp only [List.set]
              refine wpAnyH_take (i := 27) (oi := { dst := some 81, op := Go.Op.move (Go.Operand.tmp 9), type := 3, pos := _, after := _, guard := _ }) (v := ?_) rfl (by kernel_rfl) (by kernel_rfl) (by kernel_rfl) (fun _ _ _ h => h) (Or.inl ⟨by rfl, ?_⟩) (by exact hHeld) ?_
              rotate_left
              · intro w hSw; go_simp; try with_reducible rfl
              try simp only [Act.put]
              try simp only [List.setIfInBounds_toArray]
              try simp only [List.set]
              refine wpAnyH_take (i := 28) (oi := { dst := some 82, op := Go.Op.indexAddr 47 (Go.Operand.tmp 80) (Go.Operand.tmp 81), type := 0, pos := _, after := _, guard := _ }) (v := ?_) rfl (by kernel_rfl) (by kernel_rfl) (by kernel_rfl) (fun _ _ _ h => h) (Or.inl ⟨by rfl, ?_⟩) (by exact hHeld) ?_
              rotate_left
              · intro w hSw; go_simp; try with_reducible rfl
              try simp only [Act.put]
              try simp only [List.setIfInBounds_toArray]
              try simp only [List.set]
              refine wpAnyH_take (i := 29) (oi := { dst := some 83, op := Go.Op.fieldAddr 28 (Go.Operand.tmp 82) 1, type := 0, pos := _, after := _, guard := _ }) (v := ?_) rfl (by kernel_rfl) (by kernel_rfl) (by kernel_rfl) (fun _ _ _ h => h) (Or.inl ⟨by rfl, ?_⟩) (by exact hHeld) ?_
              rotate_left
              · intro w hSw; go_simp; try with_reducible rfl
              try simp only [Act.put]
              try simp only [List.setIfInBounds_toArray]
              try simp only [List.set]
              refine wpAnyH_take (i := 30) (oi := { dst := some 84, op := Go.Op.load 9 (Go.Operand.tmp 83), type := 9, pos := _, after := _, guard := _ }) (v := ?_) rfl (by kernel_rfl) (by kernel_rfl) (by kernel_rfl) (fun _ _ _ h => h) (Or.inl ⟨by rfl, ?_⟩) (by exact hHeld) ?_
              rotate_left
              · intro w hSw; obtain ⟨c1, c2⟩ := HCELL.out w hSw; go_simp; try with_reducible rfl
              try simp only [Act.put]
              try simp only [List.setIfInBounds_toArray]
              try simp only [List.set]
              refine wpAnyH_ready (rs := [9, 24]) (by kernel_rfl) (by simp) ?_
              refine (AllReadyH.cons (o := { dst := some 63, op := Go.Op.buildSlice 54 2 #[(0, Go.Operand.tmp 55), (1, Go.Operand.tmp 62)], type := 54, pos := _, after := _, guard := _ }) rfl (fun K hK => ?_) (AllReadyH.cons (o := { dst := some 78, op := Go.Op.buildSlice 54 1 #[(0, Go.Operand.tmp 77)], type := 54, pos := _, after := _, guard := _ }) rfl (fun K hK => ?_) AllReadyH.nil))
              focus
                go_simp
                have HL63 := Lib.hid (HPS.out.lit2 16 (UInt8.ofNat S1.size) 16 (S1.size : Int) rfl HN12.out.1)
                try replace HL78 := Lib.hid (HL78.out.alloc (.cells #[.int .u8 16, .int .u8 (S1.size : Int)] 5))
                replace HPS := Lib.hid (HPS.out.alloc (.cells #[.int .u8 16, .int .u8 (S1.size : Int)] 5))
                first | generalize (World.alloc _ (.cells #[.int .u8 16, .int .u8 (S1.size : Int)] 5)) = W63 at HPS HL63 HL78 ⊢ | generalize (World.alloc _ (.cells #[.int .u8 16, .int .u8 (S1.size : Int)] 5)) = W63 at HPS HL63 ⊢
                have hS2 := HPS.out.aft
                clear hHeld
                refine hK.out _ _ hS2 (fun hHeld => ?_)
                clear hK K hS2
                try simp only [Act.put]
                try simp only [List.setIfInBounds_toArray]
                try simp only [List.set]
                refine wpAnyH_ready (rs := [10, 24]) (by kernel_rfl) (by simp) ?_
                refine (AllReadyH.cons (o := { dst := some 64, op := Go.Op.call { callee := Go.Callee.builtin Go.Builtin.append, args := #[Go.Operand.tmp 54, Go.Operand.tmp 63], argTypes := #[54, 54] }, type := 54, pos := _, after := _, guard := _ }) rfl (fun K hK => ?_) (AllReadyH.cons (o := { dst := some 78, op := Go.Op.buildSlice 54 1 #[(0, Go.Operand.tmp 77)], type := 54, pos := _, after := _, guard := _ }) rfl (fun K hK => ?_) AllReadyH.nil))
                focus
                  refine step_pushB rfl (.tmp 54) (.tmp 63) rfl w1.heap.size _ _ 2 _ [16, UInt8.ofNat S1.size] rfl HPS.out.own rfl (HL63.out.rb (by simp)) (by have := HBL.out; simp; omega) HPS.out.aft.size ?_
                  intro v64 w64 o64 g64 f64
                  try replace HL78 := Lib.hid (HL78.out.push g64 f64)
                  replace HPS := Lib.hid (HPS.out.push o64 g64)
                  clear o64 g64 f64 HL63
                  have hS2 := HPS.out.aft
                  clear hHeld
                  refine hK.out _ _ hS2 (fun hHeld => ?_)
                  clear hK K hS2
                  try simp only [Act.put]
                  try simp only [List.setIfInBounds_toArray]
                  try simp only [List.set]
                  refine wpAnyH_ready (rs := [16, 24]) (by kernel_rfl) (by simp) ?_
                  refine (AllReadyH.cons (o := { dst := some 70, op := Go.Op.call { callee := Go.Callee.builtin Go.Builtin.append, args := #[Go.Operand.tmp 64, Go.Operand.tmp 69], argTypes := #[54, 9] }, type := 54, pos := _, after := _, guard := _ }) rfl (fun K hK => ?_) (AllReadyH.cons (o := { dst := some 78, op := Go.Op.buildSlice 54 1 #[(0, Go.Operand.tmp 77)], type := 54, pos := _, after := _, guard := _ }) rfl (fun K hK => ?_) AllReadyH.nil))
                  focus
                    refine step_pushTx rfl (.tmp 64) (.tmp 69) rfl w1.heap.size v64 _ S1 rfl HPS.out.own rfl (by have := HBL.out; have := H12.out; simp; omega) HPS.out.aft.size ?_
                    intro v70 w70 o70 g70 f70
                    try replace HL78 := Lib.hid (HL78.out.push g70 f70)
                    replace HPS := Lib.hid (HPS.out.push o70 g70)
                    clear o70 g70 f70
                    have hS2 := HPS.out.aft
                    clear hHeld
                    refine hK.out _ _ hS2 (fun hHeld => ?_)
                    clear hK K hS2
                    try simp only [Act.put]
                    try simp only [List.setIfInBounds_toArray]
                    try simp only [List.set]
                    refine wpAnyH_ready (rs := [24]) (by kernel_rfl) (by simp) ?_
                    refine (AllReadyH.cons (o := { dst := some 78, op := Go.Op.buildSlice 54 1 #[(0, Go.Operand.tmp 77)], type := 54, pos := _, after := _, guard := _ }) rfl (fun K hK => ?_) AllReadyH.nil)
                    go_simp
                    have HL78 := Lib.hid (HPS.out.lit1 (UInt8.ofNat S2.size) (S2.size : Int) HN12.out.2)
                    try replace HL63 := Lib.hid (HL63.out.alloc (.cells #[.int .u8 (S2.size : Int)] 5))
                    replace HPS := Lib.hid (HPS.out.alloc (.cells #[.int .u8 (S2.size : Int)] 5))
                    first | generalize (World.alloc _ (.cells #[.int .u8 (S2.size : Int)] 5)) = W78 at HPS HL63 HL78 ⊢ | generalize (World.alloc _ (.cells #[.int .u8 (S2.size : Int)] 5)) = W78 at HPS HL78 ⊢
                    have hS2 := HPS.out.aft
                    clear hHeld
                    refine hK.out _ _ hS2 (fun hHeld => ?_)
                    clear hK K hS2
                    try simp only [Act.put]
                    try simp only [List.setIfInBounds_toArray]
                    try simp only [List.set]
                    refine wpAnyH_ready (rs := [25]) (by kernel_rfl) (by simp) ?_
                    refine (AllReadyH.cons (o := { dst := some 79, op := Go.Op.call { callee := Go.Callee.builtin Go.Builtin.append, args := #[Go.Operand.tmp 70, Go.Operand.tmp 78], argTypes := #[54, 54] }, type := 54, pos := _, after := _, guard := _ }) rfl (fun K hK => ?_) AllReadyH.nil)
                    refine step_pushB rfl (.tmp 70) (.tmp 78) rfl w1.heap.size v70 _ 1 _ [UInt8.ofNat S2.size] rfl HPS.out.own rfl (HL78.out.rb (by simp)) (by have := HBL.out; have := H12.out; have e1 : S1.data.size = S1.size := rfl; simp; omega) HPS.out.aft.size ?_
                    intro v79 w79 o79 g79 f79
                    replace HPS := Lib.hid (HPS.out.push o79 g79)
                    clear o79 g79 f79 HL78
                    have hS2 := HPS.out.aft
                    clear hHeld
                    refine hK.out _ _ hS2 (fun hHeld => ?_)
                    clear hK K hS2
                    try simp only [Act.put]
                    try simp only [List.setIfInBounds_toArray]
                    try simp only [List.set]
                    refine wpAnyH_ready (rs := [31]) (by kernel_rfl) (by simp) ?_
                    refine (AllReadyH.cons (o := { dst := some 85, op := Go.Op.call { callee := Go.Callee.builtin Go.Builtin.append, args := #[Go.Operand.tmp 79, Go.Operand.tmp 84], argTypes := #[54, 9] }, type := 54, pos := _, after := _, guard := _ }) rfl (fun K hK => ?_) AllReadyH.nil)
                    refine step_pushTx rfl (.tmp 79) (.tmp 84) rfl w1.heap.size v79 _ S2 rfl HPS.out.own rfl (by have := HBL.out; have := H12.out; have e1 : S1.data.size = S1.size := rfl; simp; omega) HPS.out.aft.size ?_
                    intro v85 w85 o85 g85 f85
                    replace HPS := Lib.hid (HPS.out.push o85 g85)
                    clear o85 g85 f85
                    have hS2 := HPS.out.aft
                    clear hHeld
                    refine hK.out _ _ hS2 (fun hHeld => ?_)
                    clear hK K hS2
                    try simp only [Act.put]
                    try simp only [List.setIfInBounds_toArray]
                    try simp only [List.set]
                    refine wpAnyH_take (i := 32) (oi := { dst := some 7, op := Go.Op.assign (Go.Operand.tmp 85), type := 54, pos := _, after := _, guard := _ }) (v := ?_) rfl (by kernel_rfl) (by kernel_rfl) (by kernel_rfl) (fun _ _ _ h => h) (Or.inl ⟨by rfl, ?_⟩) (by exact hHeld) ?_
                    rotate_left
                    · intro w hSw; go_simp; try with_reducible rfl
                    try simp only [Act.put]
                    try simp only [List.setIfInBounds_toArray]
                    try simp only [List.set]
                    refine wpAnyH_done (by kernel_rfl) ?_ _
                  rotate_left 1
                  focus
                    go_simp
                    have HL78 := Lib.hid (HPS.out.lit1 (UInt8.ofNat S2.size) (S2.size : Int) HN12.out.2)
                    try replace HL63 := Lib.hid (HL63.out.alloc (.cells #[.int .u8 (S2.size : Int)] 5))
                    replace HPS := Lib.hid (HPS.out.alloc (.cells #[.int .u8 (S2.size : Int)] 5))
                    first | generalize (World.alloc _ (.cells #[.int .u8 (S2.size : Int)] 5)) = W78 at HPS HL63 HL78 ⊢ | generalize (World.alloc _ (.cells #[.int .u8 (S2.size : Int)] 5)) = W78 at HPS HL78 ⊢
                    have hS2 := HPS.out.aft
                    clear hHeld
                    refine hK.out _ _ hS2 (fun hHeld => ?_)
                    clear hK K hS2
                    try simp only [Act.put]
                    try simp only [List.setIfInBounds_toArray]
                    try simp only [List.set]
                    refine wpAnyH_ready (rs := [16]) (by kernel_rfl) (by simp) ?_
                    refine (AllReadyH.cons (o := { dst := some 70, op := Go.Op.call { callee := Go.Callee.builtin Go.Builtin.append, args := #[Go.Operand.tmp 64, Go.Operand.tmp 69], argTypes := #[54, 9] }, type := 54, pos := _, after := _, guard := _ }) rfl (fun K hK => ?_) AllReadyH.nil)
                    refine step_pushTx rfl (.tmp 64) (.tmp 69) rfl w1.heap.size v64 _ S1 rfl HPS.out.own rfl (by have := HBL.out; have := H12.out; simp; omega) HPS.out.aft.size ?_
                    intro v70 w70 o70 g70 f70
                    try replace HL78 := Lib.hid (HL78.out.push g70 f70)
                    replace HPS := Lib.hid (HPS.out.push o70 g70)
                    clear o70 g70 f70
                    have hS2 := HPS.out.aft
                    clear hHeld
                    refine hK.out _ _ hS2 (fun hHeld => ?_)
                    clear hK K hS2
                    try simp only [Act.put]
                    try simp only [List.setIfInBounds_toArray]
                    try simp only [List.set]
                    refine wpAnyH_ready (rs := [25]) (by kernel_rfl) (by simp) ?_
                    refine (AllReadyH.cons (o := { dst := some 79, op := Go.Op.call { callee := Go.Callee.builtin Go.Builtin.append, args := #[Go.Operand.tmp 70, Go.Operand.tmp 78], argTypes := #[54, 54] }, type := 54, pos := _, after := _, guard := _ }) rfl (fun K hK => ?_) AllReadyH.nil)
                    refine step_pushB rfl (.tmp 70) (.tmp 78) rfl w1.heap.size v70 _ 1 _ [UInt8.ofNat S2.size] rfl HPS.out.own rfl (HL78.out.rb (by simp)) (by have := HBL.out; have := H12.out; have e1 : S1.data.size = S1.size := rfl; simp; omega) HPS.out.aft.size ?_
                    intro v79 w79 o79 g79 f79
                    replace HPS := Lib.hid (HPS.out.push o79 g79)
                    clear o79 g79 f79 HL78
                    have hS2 := HPS.out.aft
                    clear hHeld
                    refine hK.out _ _ hS2 (fun hHeld => ?_)
                    clear hK K hS2
                    try simp only [Act.put]
                    try simp only [List.setIfInBounds_toArray]
                    try simp only [List.set]
                    refine wpAnyH_ready (rs := [31]) (by kernel_rfl) (by simp) ?_
                    refine (AllReadyH.cons (o := { dst := some 85, op := Go.Op.call { callee := Go.Callee.builtin Go.Builtin.append, args := #[Go.Operand.tmp 79, Go.Operand.tmp 84], argTypes := #[54, 9] }, type := 54, pos := _, after := _, guard := _ }) rfl (fun K hK => ?_) AllReadyH.nil)
                    refine step_pushTx rfl (.tmp 79) (.tmp 84) rfl w1.heap.size v79 _ S2 rfl HPS.out.own rfl (by have := HBL.out; have := H12.out; have e1 : S1.data.size = S1.size := rfl; simp; omega) HPS.out.aft.size ?_
                    intro v85 w85 o85 g85 f85
                    replace HPS := Lib.hid (HPS.out.push o85 g85)
                    clear o85 g85 f85
                    have hS2 := HPS.out.aft
                    clear hHeld
                    refine hK.out _ _ hS2 (fun hHeld => ?_)
                    clear hK K hS2
                    try simp only [Act.put]
                    try simp only [List.setIfInBounds_toArray]
                    try simp only [List.set]
                    refine wpAnyH_take (i := 32) (oi := { dst := some 7, op := Go.Op.assign (Go.Operand.tmp 85), type := 54, pos := _, after := _, guard := _ }) (v := ?_) rfl (by kernel_rfl) (by kernel_rfl) (by kernel_rfl) (fun _ _ _ h => h) (Or.inl ⟨by rfl, ?_⟩) (by exact hHeld) ?_
                    rotate_left
                    · intro w hSw; go_simp; try with_reducible rfl
                    try simp only [Act.put]
                    try simp only [List.setIfInBounds_toArray]
                    try simp only [List.set]
                    refine wpAnyH_done (by kernel_rfl) ?_ _
                  rotate_left 1
                rotate_left 2
                focus
                  go_simp
                  have HL78 := Lib.hid (HPS.out.lit1 (UInt8.ofNat S2.size) (S2.size : Int) HN12.out.2)
                  try replace HL63 := Lib.hid (HL63.out.alloc (.cells #[.int .u8 (S2.size : Int)] 5))
                  replace HPS := Lib.hid (HPS.out.alloc (.cells #[.int .u8 (S2.size : Int)] 5))
                  first | generalize (World.alloc _ (.cells #[.int .u8 (S2.size : Int)] 5)) = W78 at HPS HL63 HL78 ⊢ | generalize (World.alloc _ (.cells #[.int .u8 (S2.size : Int)] 5)) = W78 at HPS HL78 ⊢
                  have hS2 := HPS.out.aft
                  clear hHeld
                  refine hK.out _ _ hS2 (fun hHeld => ?_)
                  clear hK K hS2
                  try simp only [Act.put]
                  try simp only [List.setIfInBounds_toArray]
                  try simp only [List.set]
                  refine wpAnyH_ready (rs := [10]) (by kernel_rfl) (by simp) ?_
                  refine (AllReadyH.cons (o := { dst := some 64, op := Go.Op.call { callee := Go.Callee.builtin Go.Builtin.append, args := #[Go.Operand.tmp 54, Go.Operand.tmp 63], argTypes := #[54, 54] }, type := 54, pos := _, after := _, guard := _ }) rfl (fun K hK => ?_) AllReadyH.nil)
                  refine step_pushB rfl (.tmp 54) (.tmp 63) rfl w1.heap.size _ _ 2 _ [16, UInt8.ofNat S1.size] rfl HPS.out.own rfl (HL63.out.rb (by simp)) (by have := HBL.out; simp; omega) HPS.out.aft.size ?_
                  intro v64 w64 o64 g64 f64
                  try replace HL78 := Lib.hid (HL78.out.push g64 f64)
                  replace HPS := Lib.hid (HPS.out.push o64 g64)
                  clear o64 g64 f64 HL63
                  have hS2 := HPS.out.aft
                  clear hHeld
                  refine hK.out _ _ hS2 (fun hHeld => ?_)
                  clear hK K hS2
                  try simp only [Act.put]
                  try simp only [List.setIfInBounds_toArray]
                  try simp only [List.set]
                  refine wpAnyH_ready (rs := [16]) (by kernel_rfl) (by simp) ?_
                  refine (AllReadyH.cons (o := { dst := some 70, op := Go.Op.call { callee := Go.Callee.builtin Go.Builtin.append, args := #[Go.Operand.tmp 64, Go.Operand.tmp 69], argTypes := #[54, 9] }, type := 54, pos := _, after := _, guard := _ }) rfl (fun K hK => ?_) AllReadyH.nil)
                  refine step_pushTx rfl (.tmp 64) (.tmp 69) rfl w1.heap.size v64 _ S1 rfl HPS.out.own rfl (by have := HBL.out; have := H12.out; simp; omega) HPS.out.aft.size ?_
                  intro v70 w70 o70 g70 f70
                  try replace HL78 := Lib.hid (HL78.out.push g70 f70)
                  replace HPS := Lib.hid (HPS.out.push o70 g70)
                  clear o70 g70 f70
                  have hS2 := HPS.out.aft
                  clear hHeld
                  refine hK.out _ _ hS2 (fun hHeld => ?_)
                  clear hK K hS2
                  try simp only [Act.put]
                  try simp only [List.setIfInBounds_toArray]
                  try simp only [List.set]
                  refine wpAnyH_ready (rs := [25]) (by kernel_rfl) (by simp) ?_
                  refine (AllReadyH.cons (o := { dst := some 79, op := Go.Op.call { callee := Go.Callee.builtin Go.Builtin.append, args := #[Go.Operand.tmp 70, Go.Operand.tmp 78], argTypes := #[54, 54] }, type := 54, pos := _, after := _, guard := _ }) rfl (fun K hK => ?_) AllReadyH.nil)
                  refine step_pushB rfl (.tmp 70) (.tmp 78) rfl w1.heap.size v70 _ 1 _ [UInt8.ofNat S2.size] rfl HPS.out.own rfl (HL78.out.rb (by simp)) (by have := HBL.out; have := H12.out; have e1 : S1.data.size = S1.size := rfl; simp; omega) HPS.out.aft.size ?_
                  intro v79 w79 o79 g79 f79
                  replace HPS := Lib.hid (HPS.out.push o79 g79)
                  clear o79 g79 f79 HL78
                  have hS2 := HPS.out.aft
                  clear hHeld
                  refine hK.out _ _ hS2 (fun hHeld => ?_)
                  clear hK K hS2
                  try simp only [Act.put]
                  try simp only [List.setIfInBounds_toArray]
                  try simp only [List.set]
                  refine wpAnyH_ready (rs := [31]) (by kernel_rfl) (by simp) ?_
                  refine (AllReadyH.cons (o := { dst := some 85, op := Go.Op.call { callee := Go.Callee.builtin Go.Builtin.append, args := #[Go.Operand.tmp 79, Go.Operand.tmp 84], argTypes := #[54, 9] }, type := 54, pos := _, after := _, guard := _ }) rfl (fun K hK => ?_) AllReadyH.nil)
                  refine step_pushTx rfl (.tmp 79) (.tmp 84) rfl w1.heap.size v79 _ S2 rfl HPS.out.own rfl (by have := HBL.out; have := H12.out; have e1 : S1.data.size = S1.size := rfl; simp; omega) HPS.out.aft.size ?_
                  intro v85 w85 o85 g85 f85
                  replace HPS := Lib.hid (HPS.out.push o85 g85)
                  clear o85 g85 f85
                  have hS2 := HPS.out.aft
                  clear hHeld
                  refine hK.out _ _ hS2 (fun hHeld => ?_)
                  clear hK K hS2
                  try simp only [Act.put]
                  try simp only [List.setIfInBounds_toArray]
                  try simp only [List.set]
                  refine wpAnyH_take (i := 32) (oi := { dst := some 7, op := Go.Op.assign (Go.Operand.tmp 85), type := 54, pos := _, after := _, guard := _ }) (v := ?_) rfl (by kernel_rfl) (by kernel_rfl) (by kernel_rfl) (fun _ _ _ h => h) (Or.inl ⟨by rfl, ?_⟩) (by exact hHeld) ?_
                  rotate_left
                  · intro w hSw; go_simp; try with_reducible rfl
                  try simp only [Act.put]
                  try simp only [List.setIfInBounds_toArray]
                  try simp only [List.set]
                  refine wpAnyH_done (by kernel_rfl) ?_ _
                rotate_left 1
              rotate_left 3
              focus
                go_simp
                have HL78 := Lib.hid (HPS.out.lit1 (UInt8.ofNat S2.size) (S2.size : Int) HN12.out.2)
                try replace HL63 := Lib.hid (HL63.out.alloc (.cells #[.int .u8 (S2.size : Int)] 5))
                replace HPS := Lib.hid (HPS.out.alloc (.cells #[.int .u8 (S2.size : Int)] 5))
                first | generalize (World.alloc _ (.cells #[.int .u8 (S2.size : Int)] 5)) = W78 at HPS HL63 HL78 ⊢ | generalize (World.alloc _ (.cells #[.int .u8 (S2.size : Int)] 5)) = W78 at HPS HL78 ⊢
                have hS2 := HPS.out.aft
                clear hHeld
                refine hK.out _ _ hS2 (fun hHeld => ?_)
                clear hK K hS2
                try simp only [Act.put]
                try simp only [List.setIfInBounds_toArray]
                try simp only [List.set]
                refine wpAnyH_ready (rs := [9]) (by kernel_rfl) (by simp) ?_
                refine (AllReadyH.cons (o := { dst := some 63, op := Go.Op.buildSlice 54 2 #[(0, Go.Operand.tmp 55), (1, Go.Operand.tmp 62)], type := 54, pos := _, after := _, guard := _ }) rfl (fun K hK => ?_) AllReadyH.nil)
                go_simp
                have HL63 := Lib.hid (HPS.out.lit2 16 (UInt8.ofNat S1.size) 16 (S1.size : Int) rfl HN12.out.1)
                try replace HL78 := Lib.hid (HL78.out.alloc (.cells #[.int .u8 16, .int .u8 (S1.size : Int)] 5))
                replace HPS := Lib.hid (HPS.out.alloc (.cells #[.int .u8 16, .int .u8 (S1.size : Int)] 5))
                first | generalize (World.alloc _ (.cells #[.int .u8 16, .int .u8 (S1.size : Int)] 5)) = W63 at HPS HL63 HL78 ⊢ | generalize (World.alloc _ (.cells #[.int .u8 16, .int .u8 (S1.size : Int)] 5)) = W63 at HPS HL63 ⊢
                have hS2 := HPS.out.aft
                clear hHeld
                refine hK.out _ _ hS2 (fun hHeld => ?_)
                clear hK K hS2
                try simp only [Act.put]
                try simp only [List.setIfInBounds_toArray]
                try simp only [List.set]
                refine wpAnyH_ready (rs := [10]) (by kernel_rfl) (by simp) ?_
                refine (AllReadyH.cons (o := { dst := some 64, op := Go.Op.call { callee := Go.Callee.builtin Go.Builtin.append, args := #[Go.Operand.tmp 54, Go.Operand.tmp 63], argTypes := #[54, 54] }, type := 54, pos := _, after := _, guard := _ }) rfl (fun K hK => ?_) AllReadyH.nil)
                refine step_pushB rfl (.tmp 54) (.tmp 63) rfl w1.heap.size _ _ 2 _ [16, UInt8.ofNat S1.size] rfl HPS.out.own rfl (HL63.out.rb (by simp)) (by have := HBL.out; simp; omega) HPS.out.aft.size ?_
                intro v64 w64 o64 g64 f64
                try replace HL78 := Lib.hid (HL78.out.push g64 f64)
                replace HPS := Lib.hid (HPS.out.push o64 g64)
                clear o64 g64 f64 HL63
                have hS2 := HPS.out.aft
                clear hHeld
                refine hK.out _ _ hS2 (fun hHeld => ?_)
                clear hK K hS2
                try simp only [Act.put]
                try simp only [List.setIfInBounds_toArray]
                try simp only [List.set]
                refine wpAnyH_ready (rs := [16]) (by kernel_rfl) (by simp) ?_
                refine (AllReadyH.cons (o := { dst := some 70, op := Go.Op.call { callee := Go.Callee.builtin Go.Builtin.append, args := #[Go.Operand.tmp 64, Go.Operand.tmp 69], argTypes := #[54, 9] }, type := 54, pos := _, after := _, guard := _ }) rfl (fun K hK => ?_) AllReadyH.nil)
                refine step_pushTx rfl (.tmp 64) (.tmp 69) rfl w1.heap.size v64 _ S1 rfl HPS.out.own rfl (by have := HBL.out; have := H12.out; simp; omega) HPS.out.aft.size ?_
                intro v70 w70 o70 g70 f70
                try replace HL78 := Lib.hid (HL78.out.push g70 f70)
                replace HPS := Lib.hid (HPS.out.push o70 g70)
                clear o70 g70 f70
                have hS2 := HPS.out.aft
                clear hHeld
                refine hK.out _ _ hS2 (fun hHeld => ?_)
                clear hK K hS2
                try simp only [Act.put]
                try simp only [List.setIfInBounds_toArray]
                try simp only [List.set]
                refine wpAnyH_ready (rs := [25]) (by kernel_rfl) (by simp) ?_
                refine (AllReadyH.cons (o := { dst := some 79, op := Go.Op.call { callee := Go.Callee.builtin Go.Builtin.append, args := #[Go.Operand.tmp 70, Go.Operand.tmp 78], argTypes := #[54, 54] }, type := 54, pos := _, after := _, guard := _ }) rfl (fun K hK => ?_) AllReadyH.nil)
                refine step_pushB rfl (.tmp 70) (.tmp 78) rfl w1.heap.size v70 _ 1 _ [UInt8.ofNat S2.size] rfl HPS.out.own rfl (HL78.out.rb (by simp)) (by have := HBL.out; have := H12.out; have e1 : S1.data.size = S1.size := rfl; simp; omega) HPS.out.aft.size ?_
                intro v79 w79 o79 g79 f79
                replace HPS := Lib.hid (HPS.out.push o79 g79)
                clear o79 g79 f79 HL78
                have hS2 := HPS.out.aft
                clear hHeld
                refine hK.out _ _ hS2 (fun hHeld => ?_)
                clear hK K hS2
                try simp only [Act.put]
                try simp only [List.setIfInBounds_toArray]
                try simp only [List.set]
                refine wpAnyH_ready (rs := [31]) (by kernel_rfl) (by simp) ?_
                refine (AllReadyH.cons (o := { dst := some 85, op := Go.Op.call { callee := Go.Callee.builtin Go.Builtin.append, args := #[Go.Operand.tmp 79, Go.Operand.tmp 84], argTypes := #[54, 9] }, type := 54, pos := _, after := _, guard := _ }) rfl (fun K hK => ?_) AllReadyH.nil)
                refine step_pushTx rfl (.tmp 79) (.tmp 84) rfl w1.heap.size v79 _ S2 rfl HPS.out.own rfl (by have := HBL.out; have := H12.out; have e1 : S1.data.size = S1.size := rfl; simp; omega) HPS.out.aft.size ?_
                intro v85 w85 o85 g85 f85
                replace HPS := Lib.hid (HPS.out.push o85 g85)
                clear o85 g85 f85
                have hS2 := HPS.out.aft
                clear hHeld
                refine hK.out _ _ hS2 (fun hHeld => ?_)
                clear hK K hS2
                try simp only [Act.put]
                try simp only [List.setIfInBounds_toArray]
                try simp only [List.set]
                refine wpAnyH_take (i := 32) (oi := { dst := some 7, op := Go.Op.assign (Go.Operand.tmp 85), type := 54, pos := _, after := _, guard := _ }) (v := ?_) rfl (by kernel_rfl) (by kernel_rfl) (by kernel_rfl) (fun _ _ _ h => h) (Or.inl ⟨by rfl, ?_⟩) (by exact hHeld) ?_
                rotate_left
                · intro w hSw; go_simp; try with_reducible rfl
                try simp only [Act.put]
                try simp only [List.setIfInBounds_toArray]
                try simp only [List.set]
                refine wpAnyH_done (by kernel_rfl) ?_ _
              rotate_left 1
              all_goals
                clear hHeld
                have HPQ : Hid (PS w1 w85 v85 (bk ++ plB 3 fk) u8 (K.map (fun f => ⟨f, 3⟩))) := Lib.hid (by
                  have h1 := HPS.out
                  have e := plB_app bk 3 16 rfl fk
                  rw [HZ.out.1, HZ.out.2, HT.out.1, HT.out.2] at e
                  rw [← e]
                  exact h1)
                obtain ⟨c1, c2⟩ := HCELL.out w85 HPQ.out.aft
                clear HPS
                go_wp2_with (at_builtin; refine wpList_pushesW rfl (.tmp 86) (.tmp 93) rfl w1.heap.size _ _ _ [⟨fk, 3⟩] rfl (HPQ.out.alloc (.cells #[.string S1, .string S2, .int .i64 3] 57)).wo rfl (rbW_one fk.1 fk.2 3 S1 S2 HS.out.1 HS.out.2 w85) (by have := HRL.out; simp; omega) (HPQ.out.alloc (.cells #[.string S1, .string S2, .int .i64 3] 57)).aft.size ?_; intro v94 w94 o94 g94)
                have HPR := Lib.hid ((HPQ.out.alloc (.cells #[.string S1, .string S2, .int .i64 3] 57)).pushW o94 g94)
                clear o94 g94 HPQ c1 c2
                go_wp2_with fail
                go_roundw
                case rel => exact ⟨k + 1, by have := HLT.out; omega, by omega, by go_num, by rw [HKY.out, List.flatMap_append, List.map_append, HBK.out]; simpa using HPR⟩
                case measure => have := HLT.out; simp [intOf]; omega
            | false =>
              obtain rfl : how = 2 := HH.out
              go_upto_region 13 with fail
              refine wp_region_held_drew (S := fun wx => Aft w1 wx) (by kernel_rfl) HPS.out.aft.drew (fun hHeld => ?_)
              replace HPS := Lib.hid HPS.out.drew
              clear c1 c2
              generalize wr.drew = W8 at HPS hHeld ⊢
              refine wpAnyH_take (i := 0) (oi := { dst := some 54, op := Go.Op.move (Go.Operand.tmp 7), type := 54, pos := _, after := _, guard := _ }) (v := ?_) rfl (by kernel_rfl) (by kernel_rfl) (by kernel_rfl) (fun _ _ _ h => h) (Or.inl ⟨by rfl, ?_⟩) (by exact hHeld) ?_
              rotate_left
              · intro w hSw; go_simp; try with_reducible rfl
              try simp only [Act.put]
              try simp only [List.setIfInBounds_toArray]
              try simp only [List.set]
              refine wpAnyH_take (i := 1) (oi := { dst := some 55, op := Go.Op.move (Go.Operand.tmp 11), type := 5, pos := _, after := _, guard := _ }) (v := ?_) rfl (by kernel_rfl) (by kernel_rfl) (by kernel_rfl) (fun _ _ _ h => h) (Or.inl ⟨by rfl, ?_⟩) (by exact hHeld) ?_
              rotate_left
              · intro w hSw; go_simp; try with_reducible rfl
              try simp only [Act.put]
              try simp only [List.setIfInBounds_toArray]
              try simp only [List.set]
              refine wpAnyH_take (i := 2) (oi := { dst := some 56, op := Go.Op.move (Go.Operand.tmp 0), type := 47, pos := _, after := _, guard := _ }) (v := ?_) rfl (by kernel_rfl) (by kernel_rfl) (by kernel_rfl) (fun _ _ _ h => h) (Or.inl ⟨by rfl, ?_⟩) (by exact hHeld) ?_
              rotate_left
              · intro w hSw; go_simp; try with_reducible rfl
              try simp only [Act.put]
              try simp only [List.setIfInBounds_toArray]
              try simp only [List.set]
              refine wpAnyH_take (i := 3) (oi := { dst := some 57, op := Go.Op.move (Go.Operand.tmp 9), type := 3, pos := _, after := _, guard := _ }) (v := ?_) rfl (by kernel_rfl) (by kernel_rfl) (by kernel_rfl) (fun _ _ _ h => h) (Or.inl ⟨by rfl, ?_⟩) (by exact hHeld) ?_
              rotate_left
              · intro w hSw; go_simp; try with_reducible rfl
              try simp only [Act.put]
              try simp only [List.setIfInBounds_toArray]
              try simp only [List.set]
              refine wpAnyH_take (i := 4) (oi := { dst := some 58, op := Go.Op.indexAddr 47 (Go.Operand.tmp 56) (Go.Operand.tmp 57), type := 0, pos := _, after := _, guard := _ }) (v := ?_) rfl (by kernel_rfl) (by kernel_rfl) (by kernel_rfl) (fun _ _ _ h => h) (Or.inl ⟨by rfl, ?_⟩) (by exact hHeld) ?_
              rotate_left
              · intro w hSw; go_simp; try with_reducible rfl
              try simp only [Act.put]
              try simp only [List.setIfInBounds_toArray]
              try simp only [List.set]
              refine wpAnyH_take (i := 5) (oi := { dst := some 59, op := Go.Op.fieldAddr 28 (Go.Operand.tmp 58) 0, type := 0, pos := _, after := _, guard := _ }) (v := ?_) rfl (by kernel_rfl) (by kernel_rfl) (by kernel_rfl) (fun _ _ _ h => h) (Or.inl ⟨by rfl, ?_⟩) (by exact hHeld) ?_
              rotate_left
              · intro w hSw; go_simp; try with_reducible rfl
              try simp only [Act.put]
              try simp only [List.setIfInBounds_toArray]
              try simp only [List.set]
              refine wpAnyH_take (i := 6) (oi := { dst := some 60, op := Go.Op.load 9 (Go.Operand.tmp 59), type := 9, pos := _, after := _, guard := _ }) (v := ?_) rfl (by kernel_rfl) (by kernel_rfl) (by kernel_rfl) (fun _ _ _ h => h) (Or.inl ⟨by rfl, ?_⟩) (by exact hHeld) ?_
              rotate_left
              · intro w hSw; obtain ⟨c1, c2⟩ := HCELL.out w hSw; go_simp; try with_reducible rfl
              try simp only [Act.put]
              try simp only [List.setIfInBounds_toArray]
              try simp only [List.set]
              refine wpAnyH_take (i := 7) (oi := { dst := some 61, op := Go.Op.call { callee := Go.Callee.builtin Go.Builtin.len, args := #[Go.Operand.tmp 60], argTypes := #[9] }, type := 3, pos := _, after := _, guard := _ }) (v := ?_) rfl (by kernel_rfl) (by kernel_rfl) (by kernel_rfl) (fun _ _ _ h => h) (Or.inl ⟨by rfl, ?_⟩) (by exact hHeld) ?_
              rotate_left
              · intro w hSw; go_simp; try with_reducible rfl
              try simp only [Act.put]
              try simp only [List.setIfInBounds_toArray]
              try simp only [List.set]
              refine wpAnyH_take (i := 8) (oi := { dst := some 62, op := Go.Op.convert 3 5 (Go.Operand.tmp 61), type := 5, pos := _, after := _, guard := _ }) (v := ?_) rfl (by kernel_rfl) (by kernel_rfl) (by kernel_rfl) (fun _ _ _ h => h) (Or.inl ⟨by rfl, ?_⟩) (by exact hHeld) ?_
              rotate_left
              · intro w hSw; go_simp; try with_reducible rfl
              try simp only [Act.put]
              try simp only [List.setIfInBounds_toArray]
              try simp only [List.set]
              refine wpAnyH_take (i := 11) (oi := { dst := some 65, op := Go.Op.move (Go.Operand.tmp 0), type := 47, pos := _, after := _, guard := _ }) (v := ?_) rfl (by kernel_rfl) (by kernel_rfl) (by kernel_rfl) (fun _ _ _ h => h) (Or.inl ⟨by rfl, ?_⟩) (by exact hHeld) ?_
              rotate_left
              · intro w hSw; go_simp; try with_reducible rfl
              try simp only [Act.put]
              try simp only [List.setIfInBounds_toArray]
              try simp only [List.set]
              refine wpAnyH_take (i := 12) (oi := { dst := some 66, op := Go.Op.move (Go.Operand.tmp 9), type := 3, pos := _, after := _, guard := _ }) (v := ?_) rfl (by kernel_rfl) (by kernel_rfl) (by kernel_rfl) (fun _ _ _ h => h) (Or.inl ⟨by rfl, ?_⟩) (by exact hHeld) ?_
              rotate_left
              · intro w hSw; go_simp; try with_reducible rfl
              try simp only [Act.put]
              try simp only [List.setIfInBounds_toArray]
              try simp only [List.set]
              refine wpAnyH_take (i := 13) (oi := { dst := some 67, op := Go.Op.indexAddr 47 (Go.Operand.tmp 65) (Go.Operand.tmp 66), type := 0, pos := _, after := _, guard := _ }) (v := ?_) rfl (by kernel_rfl) (by kernel_rfl) (by kernel_rfl) (fun _ _ _ h => h) (Or.inl ⟨by rfl, ?_⟩) (by exact hHeld) ?_
              rotate_left
              · intro w hSw; go_simp; try with_reducible rfl
              try simp only [Act.put]
              try simp only [List.setIfInBounds_toArray]
              try simp only [List.set]
              refine wpAnyH_take (i := 14) (oi := { dst := some 68, op := Go.Op.fieldAddr 28 (Go.Operand.tmp 67) 0, type := 0, pos := _, after := _, guard := _ }) (v := ?_) rfl (by kernel_rfl) (by kernel_rfl) (by kernel_rfl) (fun _ _ _ h => h) (Or.inl ⟨by rfl, ?_⟩) (by exact hHeld) ?_
              rotate_left
              · intro w hSw; go_simp; try with_reducible rfl
              try simp only [Act.put]
              try simp only [List.setIfInBounds_toArray]
              try simp only [List.set]
              refine wpAnyH_take (i := 15) (oi := { dst := some 69, op := Go.Op.load 9 (Go.Operand.tmp 68), type := 9, pos := _, after := _, guard := _ }) (v := ?_) rfl (by kernel_rfl) (by kernel_rfl) (by kernel_rfl) (fun _ _ _ h => h) (Or.inl ⟨by rfl, ?_⟩) (by exact hHeld) ?_
              rotate_left
              · intro w hSw; obtain ⟨c1, c2⟩ := HCELL.out w hSw; go_simp; try with_reducible rfl
              try simp only [Act.put]
              try simp only [List.setIfInBounds_toArray]
              try simp only [List.set]
              refine wpAnyH_take (i := 17) (oi := { dst := some 71, op := Go.Op.move (Go.Operand.tmp 0), type := 47, pos := _, after := _, guard := _ }) (v := ?_) rfl (by kernel_rfl) (by kernel_rfl) (by kernel_rfl) (fun _ _ _ h => h) (Or.inl ⟨by rfl, ?_⟩) (by exact hHeld) ?_
              rotate_left
              · intro w hSw; go_simp; try with_reducible rfl
              try simp only [Act.put]
              try simp only [List.setIfInBounds_toArray]
              try simp only [List.set]
              refine wpAnyH_take (i := 18) (oi := { dst := some 72, op := Go.Op.move (Go.Operand.tmp 9), type := 3, pos := _, after := _, guard := _ }) (v := ?_) rfl (by kernel_rfl) (by kernel_rfl) (by kernel_rfl) (fun _ _ _ h => h) (Or.inl ⟨by rfl, ?_⟩) (by exact hHeld) ?_
              rotate_left
              · intro w hSw; go_simp; try with_reducible rfl
              try simp only [Act.put]
              try simp only [List.setIfInBounds_toArray]
              try simp only [List.set]
              refine wpAnyH_take (i := 19) (oi := { dst := some 73, op := Go.Op.indexAddr 47 (Go.Operand.tmp 71) (Go.Operand.tmp 72), type := 0, pos := _, after := _, guard := _ }) (v := ?_) rfl (by kernel_rfl) (by kernel_rfl) (by kernel_rfl) (fun _ _ _ h => h) (Or.inl ⟨by rfl, ?_⟩) (by exact hHeld) ?_
              rotate_left
              · intro w hSw; go_simp; try with_reducible rfl
              try simp only [Act.put]
              try simp only [List.setIfInBounds_toArray]
              try simp only [List.set]
              refine wpAnyH_take (i := 20) (oi := { dst := some 74, op := Go.Op.fieldAddr 28 (Go.Operand.tmp 73) 1, type := 0, pos := _, after := _, guard := _ }) (v := ?_) rfl (by kernel_rfl) (by kernel_rfl) (by kernel_rfl) (fun _ _ _ h => h) (Or.inl ⟨by rfl, ?_⟩) (by exact hHeld) ?_
              rotate_left
              · intro w hSw; go_simp; try with_reducible rfl
              try simp only [Act.put]
              try simp only [List.setIfInBounds_toArray]
              try simp only [List.set]
              refine wpAnyH_take (i := 21) (oi := { dst := some 75, op := Go.Op.load 9 (Go.Operand.tmp 74), type := 9, pos := _, after := _, guard := _ }) (v := ?_) rfl (by kernel_rfl) (by kernel_rfl) (by kernel_rfl) (fun _ _ _ h => h) (Or.inl ⟨by rfl, ?_⟩) (by exact hHeld) ?_
              rotate_left
              · intro w hSw; obtain ⟨c1, c2⟩ := HCELL.out w hSw; go_simp; try with_reducible rfl
              try simp only [Act.put]
              try simp only [List.setIfInBounds_toArray]
              try simp only [List.set]
              refine wpAnyH_take (i := 22) (oi := { dst := some 76, op := Go.Op.call { callee := Go.Callee.builtin Go.Builtin.len, args := #[Go.Operand.tmp 75], argTypes := #[9] }, type := 3, pos := _, after := _, guard := _ }) (v := ?_) rfl (by kernel_rfl) (by kernel_rfl) (by kernel_rfl) (fun _ _ _ h => h) (Or.inl ⟨by rfl, ?_⟩) (by exact hHeld) ?_
              rotate_left
              · intro w hSw; go_simp; try with_reducible rfl
              try simp only [Act.put]
              try simp only [List.setIfInBounds_toArray]
              try simp only [List.set]
              refine wpAnyH_take (i := 23) (oi := { dst := some 77, op := Go.Op.convert 3 5 (Go.Operand.tmp 76), type := 5, pos := _, after := _, guard := _ }) (v := ?_) rfl (by kernel_rfl) (by kernel_rfl) (by kernel_rfl) (fun _ _ _ h => h) (Or.inl ⟨by rfl, ?_⟩) (by exact hHeld) ?_
              rotate_left
              · intro w hSw; go_simp; try with_reducible rfl
              try simp only [Act.put]
              try simp only [List.setIfInBounds_toArray]
              try simp only [List.set]
              refine wpAnyH_take (i := 26) (oi := { dst := some 80, op := Go.Op.move (Go.Operand.tmp 0), type := 47, pos := _, after := _, guard := _ }) (v := ?_) rfl (by kernel_rfl) (by kernel_rfl) (by kernel_rfl) (fun _ _ _ h => h) (Or.inl ⟨by rfl, ?_⟩) (by exact hHeld) ?_
              rotate_left
              · intro w hSw; go_simp; try with_reducible rfl
              try simp only [Act.put]
              try simp only [List.setIfInBounds_toArray]
              try simp only [List.set]
              refine wpAnyH_take (i := 27) (oi := { dst := some 81, op := Go.Op.move (Go.Operand.tmp 9), type := 3, pos := _, after := _, guard := _ }) (v := ?_) rfl (by kernel_rfl) (by kernel_rfl) (by kernel_rfl) (fun _ _ _ h => h) (Or.inl ⟨by rfl, ?_⟩) (by exact hHeld) ?_
              rotate_left
              · intro w hSw; go_simp; try with_reducible rfl
              try simp only [Act.put]
              try simp only [List.setIfInBounds_toArray]
              try simp only [List.set]
              refine wpAnyH_take (i := 28) (oi := { dst := some 82, op := Go.Op.indexAddr 47 (Go.Operand.tmp 80) (Go.Operand.tmp 81), type := 0, pos := _, after := _, guard := _ }) (v := ?_) rfl (by kernel_rfl) (by kernel_rfl) (by kernel_rfl) (fun _ _ _ h => h) (Or.inl ⟨by rfl, ?_⟩) (by exact hHeld) ?_
              rotate_left
              · intro w hSw; go_simp; try with_reducible rfl
              try simp only [Act.put]
              try simp only [List.setIfInBounds_toArray]
              try simp only [List.set]
              refine wpAnyH_take (i := 29) (oi := { dst := some 83, op := Go.Op.fieldAddr 28 (Go.Operand.tmp 82) 1, type := 0, pos := _, after := _, guard := _ }) (v := ?_) rfl (by kernel_rfl) (by kernel_rfl) (by kernel_rfl) (fun _ _ _ h => h) (Or.inl ⟨by rfl, ?_⟩) (by exact hHeld) ?_
              rotate_left
              · intro w hSw; go_simp; try with_reducible rfl
              try simp only [Act.put]
              try simp only [List.setIfInBounds_toArray]
              try simp only [List.set]
              refine wpAnyH_take (i := 30) (oi := { dst := some 84, op := Go.Op.load 9 (Go.Operand.tmp 83), type := 9, pos := _, after := _, guard := _ }) (v := ?_) rfl (by kernel_rfl) (by kernel_rfl) (by kernel_rfl) (fun _ _ _ h => h) (Or.inl ⟨by rfl, ?_⟩) (by exact hHeld) ?_
              rotate_left
              · intro w hSw; obtain ⟨c1, c2⟩ := HCELL.out w hSw; go_simp; try with_reducible rfl
              try simp only [Act.put]
              try simp only [List.setIfInBounds_toArray]
              try simp only [List.set]
              refine wpAnyH_ready (rs := [9, 24]) (by kernel_rfl) (by simp) ?_
              refine (AllReadyH.cons (o := { dst := some 63, op := Go.Op.buildSlice 54 2 #[(0, Go.Operand.tmp 55), (1, Go.Operand.tmp 62)], type := 54, pos := _, after := _, guard := _ }) rfl (fun K hK => ?_) (AllReadyH.cons (o := { dst := some 78, op := Go.Op.buildSlice 54 1 #[(0, Go.Operand.tmp 77)], type := 54, pos := _, after := _, guard := _ }) rfl (fun K hK => ?_) AllReadyH.nil))
              focus
                go_simp
                have HL63 := Lib.hid (HPS.out.lit2 0 (UInt8.ofNat S1.size) 0 (S1.size : Int) rfl HN12.out.1)
                try replace HL78 := Lib.hid (HL78.out.alloc (.cells #[.int .u8 0, .int .u8 (S1.size : Int)] 5))
                replace HPS := Lib.hid (HPS.out.alloc (.cells #[.int .u8 0, .int .u8 (S1.size : Int)] 5))
                first | generalize (World.alloc _ (.cells #[.int .u8 0, .int .u8 (S1.size : Int)] 5)) = W63 at HPS HL63 HL78 ⊢ | generalize (World.alloc _ (.cells #[.int .u8 0, .int .u8 (S1.size : Int)] 5)) = W63 at HPS HL63 ⊢
                have hS2 := HPS.out.aft
                clear hHeld
                refine hK.out _ _ hS2 (fun hHeld => ?_)
                clear hK K hS2
                try simp only [Act.put]
                try simp only [List.setIfInBounds_toArray]
                try simp only [List.set]
                refine wpAnyH_ready (rs := [10, 24]) (by kernel_rfl) (by simp) ?_
                refine (AllReadyH.cons (o := { dst := some 64, op := Go.Op.call { callee := Go.Callee.builtin Go.Builtin.append, args := #[Go.Operand.tmp 54, Go.Operand.tmp 63], argTypes := #[54, 54] }, type := 54, pos := _, after := _, guard := _ }) rfl (fun K hK => ?_) (AllReadyH.cons (o := { dst := some 78, op := Go.Op.buildSlice 54 1 #[(0, Go.Operand.tmp 77)], type := 54, pos := _, after := _, guard := _ }) rfl (fun K hK => ?_) AllReadyH.nil))
                focus
                  refine step_pushB rfl (.tmp 54) (.tmp 63) rfl w1.heap.size _ _ 2 _ [0, UInt8.ofNat S1.size] rfl HPS.out.own rfl (HL63.out.rb (by simp)) (by have := HBL.out; simp; omega) HPS.out.aft.size ?_
                  intro v64 w64 o64 g64 f64
                  try replace HL78 := Lib.hid (HL78.out.push g64 f64)
                  replace HPS := Lib.hid (HPS.out.push o64 g64)
                  clear o64 g64 f64 HL63
                  have hS2 := HPS.out.aft
                  clear hHeld
                  refine hK.out _ _ hS2 (fun hHeld => ?_)
                  clear hK K hS2
                  try simp only [Act.put]
                  try simp only [List.setIfInBounds_toArray]
                  try simp only [List.set]
                  refine wpAnyH_ready (rs := [16, 24]) (by kernel_rfl) (by simp) ?_
                  refine (AllReadyH.cons (o := { dst := some 70, op := Go.Op.call { callee := Go.Callee.builtin Go.Builtin.append, args := #[Go.Operand.tmp 64, Go.Operand.tmp 69], argTypes := #[54, 9] }, type := 54, pos := _, after := _, guard := _ }) rfl (fun K hK => ?_) (AllReadyH.cons (o := { dst := some 78, op := Go.Op.buildSlice 54 1 #[(0, Go.Operand.tmp 77)], type := 54, pos := _, after := _, guard := _ }) rfl (fun K hK => ?_) AllReadyH.nil))
                  focus
                    refine step_pushTx rfl (.tmp 64) (.tmp 69) rfl w1.heap.size v64 _ S1 rfl HPS.out.own rfl (by have := HBL.out; have := H12.out; simp; omega) HPS.out.aft.size ?_
                    intro v70 w70 o70 g70 f70
                    try replace HL78 := Lib.hid (HL78.out.push g70 f70)
                    replace HPS := Lib.hid (HPS.out.push o70 g70)
                    clear o70 g70 f70
                    have hS2 := HPS.out.aft
                    clear hHeld
                    refine hK.out _ _ hS2 (fun hHeld => ?_)
                    clear hK K hS2
                    try simp only [Act.put]
                    try simp only [List.setIfInBounds_toArray]
                    try simp only [List.set]
                    refine wpAnyH_ready (rs := [24]) (by kernel_rfl) (by simp) ?_
                    refine (AllReadyH.cons (o := { dst := some 78, op := Go.Op.buildSlice 54 1 #[(0, Go.Operand.tmp 77)], type := 54, pos := _, after := _, guard := _ }) rfl (fun K hK => ?_) AllReadyH.nil)
                    go_simp
                    have HL78 := Lib.hid (HPS.out.lit1 (UInt8.ofNat S2.size) (S2.size : Int) HN12.out.2)
                    try replace HL63 := Lib.hid (HL63.out.alloc (.cells #[.int .u8 (S2.size : Int)] 5))
                    replace HPS := Lib.hid (HPS.out.alloc (.cells #[.int .u8 (S2.size : Int)] 5))
                    first | generalize (World.alloc _ (.cells #[.int .u8 (S2.size : Int)] 5)) = W78 at HPS HL63 HL78 ⊢ | generalize (World.alloc _ (.cells #[.int .u8 (S2.size : Int)] 5)) = W78 at HPS HL78 ⊢
                    have hS2 := HPS.out.aft
                    clear hHeld
                    refine hK.out _ _ hS2 (fun hHeld => ?_)
                    clear hK K hS2
                    try simp only [Act.put]
                    try simp only [List.setIfInBounds_toArray]
                    try simp only [List.set]
                    refine wpAnyH_ready (rs := [25]) (by kernel_rfl) (by simp) ?_
                    refine (AllReadyH.cons (o := { dst := some 79, op := Go.Op.call { callee := Go.Callee.builtin Go.Builtin.append, args := #[Go.Operand.tmp 70, Go.Operand.tmp 78], argTypes := #[54, 54] }, type := 54, pos := _, after := _, guard := _ }) rfl (fun K hK => ?_) AllReadyH.nil)
                    refine step_pushB rfl (.tmp 70) (.tmp 78) rfl w1.heap.size v70 _ 1 _ [UInt8.ofNat S2.size] rfl HPS.out.own rfl (HL78.out.rb (by simp)) (by have := HBL.out; have := H12.out; have e1 : S1.data.size = S1.size := rfl; simp; omega) HPS.out.aft.size ?_
                    intro v79 w79 o79 g79 f79
                    replace HPS := Lib.hid (HPS.out.push o79 g79)
                    clear o79 g79 f79 HL78
                    have hS2 := HPS.out.aft
                    clear hHeld
                    refine hK.out _ _ hS2 (fun hHeld => ?_)
                    clear hK K hS2
                    try simp only [Act.put]
                    try simp only [List.setIfInBounds_toArray]
                    try simp only [List.set]
                    refine wpAnyH_ready (rs := [31]) (by kernel_rfl) (by simp) ?_
                    refine (AllReadyH.cons (o := { dst := some 85, op := Go.Op.call { callee := Go.Callee.builtin Go.Builtin.append, args := #[Go.Operand.tmp 79, Go.Operand.tmp 84], argTypes := #[54, 9] }, type := 54, pos := _, after := _, guard := _ }) rfl (fun K hK => ?_) AllReadyH.nil)
                    refine step_pushTx rfl (.tmp 79) (.tmp 84) rfl w1.heap.size v79 _ S2 rfl HPS.out.own rfl (by have := HBL.out; have := H12.out; have e1 : S1.data.size = S1.size := rfl; simp; omega) HPS.out.aft.size ?_
                    intro v85 w85 o85 g85 f85
                    replace HPS := Lib.hid (HPS.out.push o85 g85)
                    clear o85 g85 f85
                    have hS2 := HPS.out.aft
                    clear hHeld
                    refine hK.out _ _ hS2 (fun hHeld => ?_)
                    clear hK K hS2
                    try simp only [Act.put]
                    try simp only [List.setIfInBounds_toArray]
                    try simp only [List.set]
                    refine wpAnyH_take (i := 32) (oi := { dst := some 7, op := Go.Op.assign (Go.Operand.tmp 85), type := 54, pos := _, after := _, guard := _ }) (v := ?_) rfl (by kernel_rfl) (by kernel_rfl) (by kernel_rfl) (fun _ _ _ h => h) (Or.inl ⟨by rfl, ?_⟩) (by exact hHeld) ?_
                    rotate_left
                    · intro w hSw; go_simp; try with_reducible rfl
                    try simp only [Act.put]
                    try simp only [List.setIfInBounds_toArray]
                    try simp only [List.set]
                    refine wpAnyH_done (by kernel_rfl) ?_ _
                  rotate_left 1
                  focus
                    go_simp
                    have HL78 := Lib.hid (HPS.out.lit1 (UInt8.ofNat S2.size) (S2.size : Int) HN12.out.2)
                    try replace HL63 := Lib.hid (HL63.out.alloc (.cells #[.int .u8 (S2.size : Int)] 5))
                    replace HPS := Lib.hid (HPS.out.alloc (.cells #[.int .u8 (S2.size : Int)] 5))
                    first | generalize (World.alloc _ (.cells #[.int .u8 (S2.size : Int)] 5)) = W78 at HPS HL63 HL78 ⊢ | generalize (World.alloc _ (.cells #[.int .u8 (S2.size : Int)] 5)) = W78 at HPS HL78 ⊢
                    have hS2 := HPS.out.aft
                    clear hHeld
                    refine hK.out _ _ hS2 (fun hHeld => ?_)
                    clear hK K hS2
                    try simp only [Act.put]
                    try simp only [List.setIfInBounds_toArray]
                    try simp only [List.set]
                    refine wpAnyH_ready (rs := [16]) (by kernel_rfl) (by simp) ?_
                    refine (AllReadyH.cons (o := { dst := some 70, op := Go.Op.call { callee := Go.Callee.builtin Go.Builtin.append, args := #[Go.Operand.tmp 64, Go.Operand.tmp 69], argTypes := #[54, 9] }, type := 54, pos := _, after := _, guard := _ }) rfl (fun K hK => ?_) AllReadyH.nil)
                    refine step_pushTx rfl (.tmp 64) (.tmp 69) rfl w1.heap.size v64 _ S1 rfl HPS.out.own rfl (by have := HBL.out; have := H12.out; simp; omega) HPS.out.aft.size ?_
                    intro v70 w70 o70 g70 f70
                    try replace HL78 := Lib.hid (HL78.out.push g70 f70)
                    replace HPS := Lib.hid (HPS.out.push o70 g70)
                    clear o70 g70 f70
                    have hS2 := HPS.out.aft
                    clear hHeld
                    refine hK.out _ _ hS2 (fun hHeld => ?_)
                    clear hK K hS2
                    try simp only [Act.put]
                    try simp only [List.setIfInBounds_toArray]
                    try simp only [List.set]
                    refine wpAnyH_ready (rs := [25]) (by kernel_rfl) (by simp) ?_
                    refine (AllReadyH.cons (o := { dst := some 79, op := Go.Op.call { callee := Go.Callee.builtin Go.Builtin.append, args := #[Go.Operand.tmp 70, Go.Operand.tmp 78], argTypes := #[54, 54] }, type := 54, pos := _, after := _, guard := _ }) rfl (fun K hK => ?_) AllReadyH.nil)
                    refine step_pushB rfl (.tmp 70) (.tmp 78) rfl w1.heap.size v70 _ 1 _ [UInt8.ofNat S2.size] rfl HPS.out.own rfl (HL78.out.rb (by simp)) (by have := HBL.out; have := H12.out; have e1 : S1.data.size = S1.size := rfl; simp; omega) HPS.out.aft.size ?_
                    intro v79 w79 o79 g79 f79
                    replace HPS := Lib.hid (HPS.out.push o79 g79)
                    clear o79 g79 f79 HL78
                    have hS2 := HPS.out.aft
                    clear hHeld
                    refine hK.out _ _ hS2 (fun hHeld => ?_)
                    clear hK K hS2
                    try simp only [Act.put]
                    try simp only [List.setIfInBounds_toArray]
                    try simp only [List.set]
                    refine wpAnyH_ready (rs := [31]) (by kernel_rfl) (by simp) ?_
                    refine (AllReadyH.cons (o := { dst := some 85, op := Go.Op.call { callee := Go.Callee.builtin Go.Builtin.append, args := #[Go.Operand.tmp 79, Go.Operand.tmp 84], argTypes := #[54, 9] }, type := 54, pos := _, after := _, guard := _ }) rfl (fun K hK => ?_) AllReadyH.nil)
                    refine step_pushTx rfl (.tmp 79) (.tmp 84) rfl w1.heap.size v79 _ S2 rfl HPS.out.own rfl (by have := HBL.out; have := H12.out; have e1 : S1.data.size = S1.size := rfl; simp; omega) HPS.out.aft.size ?_
                    intro v85 w85 o85 g85 f85
                    replace HPS := Lib.hid (HPS.out.push o85 g85)
                    clear o85 g85 f85
                    have hS2 := HPS.out.aft
                    clear hHeld
                    refine hK.out _ _ hS2 (fun hHeld => ?_)
                    clear hK K hS2
                    try simp only [Act.put]
                    try simp only [List.setIfInBounds_toArray]
                    try simp only [List.set]
                    refine wpAnyH_take (i := 32) (oi := { dst := some 7, op := Go.Op.assign (Go.Operand.tmp 85), type := 54, pos := _, after := _, guard := _ }) (v := ?_) rfl (by kernel_rfl) (by kernel_rfl) (by kernel_rfl) (fun _ _ _ h => h) (Or.inl ⟨by rfl, ?_⟩) (by exact hHeld) ?_
                    rotate_left
                    · intro w hSw; go_simp; try with_reducible rfl
                    try simp only [Act.put]
                    try simp only [List.setIfInBounds_toArray]
                    try simp only [List.set]
                    refine wpAnyH_done (by kernel_rfl) ?_ _
                  rotate_left 1
                rotate_left 2
                focus
                  go_simp
                  have HL78 := Lib.hid (HPS.out.lit1 (UInt8.ofNat S2.size) (S2.size : Int) HN12.out.2)
                  try replace HL63 := Lib.hid (HL63.out.alloc (.cells #[.int .u8 (S2.size : Int)] 5))
                  replace HPS := Lib.hid (HPS.out.alloc (.cells #[.int .u8 (S2.size : Int)] 5))
                  first | generalize (World.alloc _ (.cells #[.int .u8 (S2.size : Int)] 5)) = W78 at HPS HL63 HL78 ⊢ | generalize (World.alloc _ (.cells #[.int .u8 (S2.size : Int)] 5)) = W78 at HPS HL78 ⊢
                  have hS2 := HPS.out.aft
                  clear hHeld
                  refine hK.out _ _ hS2 (fun hHeld => ?_)
                  clear hK K hS2
                  try simp only [Act.put]
                  try simp only [List.setIfInBounds_toArray]
                  try simp only [List.set]
                  refine wpAnyH_ready (rs := [10]) (by kernel_rfl) (by simp) ?_
                  refine (AllReadyH.cons (o := { dst := some 64, op := Go.Op.call { callee := Go.Callee.builtin Go.Builtin.append, args := #[Go.Operand.tmp 54, Go.Operand.tmp 63], argTypes := #[54, 54] }, type := 54, pos := _, after := _, guard := _ }) rfl (fun K hK => ?_) AllReadyH.nil)
                  refine step_pushB rfl (.tmp 54) (.tmp 63) rfl w1.heap.size _ _ 2 _ [0, UInt8.ofNat S1.size] rfl HPS.out.own rfl (HL63.out.rb (by simp)) (by have := HBL.out; simp; omega) HPS.out.aft.size ?_
                  intro v64 w64 o64 g64 f64
                  try replace HL78 := Lib.hid (HL78.out.push g64 f64)
                  replace HPS := Lib.hid (HPS.out.push o64 g64)
                  clear o64 g64 f64 HL63
                  have hS2 := HPS.out.aft
                  clear hHeld
                  refine hK.out _ _ hS2 (fun hHeld => ?_)
                  clear hK K hS2
                  try simp only [Act.put]
                  try simp only [List.setIfInBounds_toArray]
                  try simp only [List.set]
                  refine wpAnyH_ready (rs := [16]) (by kernel_rfl) (by simp) ?_
                  refine (AllReadyH.cons (o := { dst := some 70, op := Go.Op.call { callee := Go.Callee.builtin Go.Builtin.append, args := #[Go.Operand.tmp 64, Go.Operand.tmp 69], argTypes := #[54, 9] }, type := 54, pos := _, after := _, guard := _ }) rfl (fun K hK => ?_) AllReadyH.nil)
                  refine step_pushTx rfl (.tmp 64) (.tmp 69) rfl w1.heap.size v64 _ S1 rfl HPS.out.own rfl (by have := HBL.out; have := H12.out; simp; omega) HPS.out.aft.size ?_
                  intro v70 w70 o70 g70 f70
                  try replace HL78 := Lib.hid (HL78.out.push g70 f70)
                  replace HPS := Lib.hid (HPS.out.push o70 g70)
                  clear o70 g70 f70
                  have hS2 := HPS.out.aft
                  clear hHeld
                  refine hK.out _ _ hS2 (fun hHeld => ?_)
                  clear hK K hS2
                  try simp only [Act.put]
                  try simp only [List.setIfInBounds_toArray]
                  try simp only [List.set]
                  refine wpAnyH_ready (rs := [25]) (by kernel_rfl) (by simp) ?_
                  refine (AllReadyH.cons (o := { dst := some 79, op := Go.Op.call { callee := Go.Callee.builtin Go.Builtin.append, args := #[Go.Operand.tmp 70, Go.Operand.tmp 78], argTypes := #[54, 54] }, type := 54, pos := _, after := _, guard := _ }) rfl (fun K hK => ?_) AllReadyH.nil)
                  refine step_pushB rfl (.tmp 70) (.tmp 78) rfl w1.heap.size v70 _ 1 _ [UInt8.ofNat S2.size] rfl HPS.out.own rfl (HL78.out.rb (by simp)) (by have := HBL.out; have := H12.out; have e1 : S1.data.size = S1.size := rfl; simp; omega) HPS.out.aft.size ?_
                  intro v79 w79 o79 g79 f79
                  replace HPS := Lib.hid (HPS.out.push o79 g79)
                  clear o79 g79 f79 HL78
                  have hS2 := HPS.out.aft
                  clear hHeld
                  refine hK.out _ _ hS2 (fun hHeld => ?_)
                  clear hK K hS2
                  try simp only [Act.put]
                  try simp only [List.setIfInBounds_toArray]
                  try simp only [List.set]
                  refine wpAnyH_ready (rs := [31]) (by kernel_rfl) (by simp) ?_
                  refine (AllReadyH.cons (o := { dst := some 85, op := Go.Op.call { callee := Go.Callee.builtin Go.Builtin.append, args := #[Go.Operand.tmp 79, Go.Operand.tmp 84], argTypes := #[54, 9] }, type := 54, pos := _, after := _, guard := _ }) rfl (fun K hK => ?_) AllReadyH.nil)
                  refine step_pushTx rfl (.tmp 79) (.tmp 84) rfl w1.heap.size v79 _ S2 rfl HPS.out.own rfl (by have := HBL.out; have := H12.out; have e1 : S1.data.size = S1.size := rfl; simp; omega) HPS.out.aft.size ?_
                  intro v85 w85 o85 g85 f85
                  replace HPS := Lib.hid (HPS.out.push o85 g85)
                  clear o85 g85 f85
                  have hS2 := HPS.out.aft
                  clear hHeld
                  refine hK.out _ _ hS2 (fun hHeld => ?_)
                  clear hK K hS2
                  try simp only [Act.put]
                  try simp only [List.setIfInBounds_toArray]
                  try simp only [List.set]
                  refine wpAnyH_take (i := 32) (oi := { dst := some 7, op := Go.Op.assign (Go.Operand.tmp 85), type := 54, pos := _, after := _, guard := _ }) (v := ?_) rfl (by kernel_rfl) (by kernel_rfl) (by kernel_rfl) (fun _ _ _ h => h) (Or.inl ⟨by rfl, ?_⟩) (by exact hHeld) ?_
                  rotate_left
                  · intro w hSw; go_simp; try with_reducible rfl
                  try simp only [Act.put]
                  try simp only [List.setIfInBounds_toArray]
                  try simp only [List.set]
                  refine wpAnyH_done (by kernel_rfl) ?_ _
                rotate_left 1
              rotate_left 3
              focus
                go_simp
                have HL78 := Lib.hid (HPS.out.lit1 (UInt8.ofNat S2.size) (S2.size : Int) HN12.out.2)
                try replace HL63 := Lib.hid (HL63.out.alloc (.cells #[.int .u8 (S2.size : Int)] 5))
                replace HPS := Lib.hid (HPS.out.alloc (.cells #[.int .u8 (S2.size : Int)] 5))
                first | generalize (World.alloc _ (.cells #[.int .u8 (S2.size : Int)] 5)) = W78 at HPS HL63 HL78 ⊢ | generalize (World.alloc _ (.cells #[.int .u8 (S2.size : Int)] 5)) = W78 at HPS HL78 ⊢
                have hS2 := HPS.out.aft
                clear hHeld
                refine hK.out _ _ hS2 (fun hHeld => ?_)
                clear hK K hS2
                try simp only [Act.put]
                try simp only [List.setIfInBounds_toArray]
                try simp only [List.set]
                refine wpAnyH_ready (rs := [9]) (by kernel_rfl) (by simp) ?_
                refine (AllReadyH.cons (o := { dst := some 63, op := Go.Op.buildSlice 54 2 #[(0, Go.Operand.tmp 55), (1, Go.Operand.tmp 62)], type := 54, pos := _, after := _, guard := _ }) rfl (fun K hK => ?_) AllReadyH.nil)
                go_simp
                have HL63 := Lib.hid (HPS.out.lit2 0 (UInt8.ofNat S1.size) 0 (S1.size : Int) rfl HN12.out.1)
                try replace HL78 := Lib.hid (HL78.out.alloc (.cells #[.int .u8 0, .int .u8 (S1.size : Int)] 5))
                replace HPS := Lib.hid (HPS.out.alloc (.cells #[.int .u8 0, .int .u8 (S1.size : Int)] 5))
                first | generalize (World.alloc _ (.cells #[.int .u8 0, .int .u8 (S1.size : Int)] 5)) = W63 at HPS HL63 HL78 ⊢ | generalize (World.alloc _ (.cells #[.int .u8 0, .int .u8 (S1.size : Int)] 5)) = W63 at HPS HL63 ⊢
                have hS2 := HPS.out.aft
                clear hHeld
                refine hK.out _ _ hS2 (fun hHeld => ?_)
                clear hK K hS2
                try simp only [Act.put]
                try simp only [List.setIfInBounds_toArray]
                try simp only [List.set]
                refine wpAnyH_ready (rs := [10]) (by kernel_rfl) (by simp) ?_
                refine (AllReadyH.cons (o := { dst := some 64, op := Go.Op.call { callee := Go.Callee.builtin Go.Builtin.append, args := #[Go.Operand.tmp 54, Go.Operand.tmp 63], argTypes := #[54, 54] }, type := 54, pos := _, after := _, guard := _ }) rfl (fun K hK => ?_) AllReadyH.nil)
                refine step_pushB rfl (.tmp 54) (.tmp 63) rfl w1.heap.size _ _ 2 _ [0, UInt8.ofNat S1.size] rfl HPS.out.own rfl (HL63.out.rb (by simp)) (by have := HBL.out; simp; omega) HPS.out.aft.size ?_
                intro v64 w64 o64 g64 f64
                try replace HL78 := Lib.hid (HL78.out.push g64 f64)
                replace HPS := Lib.hid (HPS.out.push o64 g64)
                clear o64 g64 f64 HL63
                have hS2 := HPS.out.aft
                clear hHeld
                refine hK.out _ _ hS2 (fun hHeld => ?_)
                clear hK K hS2
                try simp only [Act.put]
                try simp only [List.setIfInBounds_toArray]
                try simp only [List.set]
                refine wpAnyH_ready (rs := [16]) (by kernel_rfl) (by simp) ?_
                refine (AllReadyH.cons (o := { dst := some 70, op := Go.Op.call { callee := Go.Callee.builtin Go.Builtin.append, args := #[Go.Operand.tmp 64, Go.Operand.tmp 69], argTypes := #[54, 9] }, type := 54, pos := _, after := _, guard := _ }) rfl (fun K hK => ?_) AllReadyH.nil)
                refine step_pushTx rfl (.tmp 64) (.tmp 69) rfl w1.heap.size v64 _ S1 rfl HPS.out.own rfl (by have := HBL.out; have := H12.out; simp; omega) HPS.out.aft.size ?_
                intro v70 w70 o70 g70 f70
                try replace HL78 := Lib.hid (HL78.out.push g70 f70)
                replace HPS := Lib.hid (HPS.out.push o70 g70)
                clear o70 g70 f70
                have hS2 := HPS.out.aft
                clear hHeld
                refine hK.out _ _ hS2 (fun hHeld => ?_)
                clear hK K hS2
                try simp only [Act.put]
                try simp only [List.setIfInBounds_toArray]
                try simp only [List.set]
                refine wpAnyH_ready (rs := [25]) (by kernel_rfl) (by simp) ?_
                refine (AllReadyH.cons (o := { dst := some 79, op := Go.Op.call { callee := Go.Callee.builtin Go.Builtin.append, args := #[Go.Operand.tmp 70, Go.Operand.tmp 78], argTypes := #[54, 54] }, type := 54, pos := _, after := _, guard := _ }) rfl (fun K hK => ?_) AllReadyH.nil)
                refine step_pushB rfl (.tmp 70) (.tmp 78) rfl w1.heap.size v70 _ 1 _ [UInt8.ofNat S2.size] rfl HPS.out.own rfl (HL78.out.rb (by simp)) (by have := HBL.out; have := H12.out; have e1 : S1.data.size = S1.size := rfl; simp; omega) HPS.out.aft.size ?_
                intro v79 w79 o79 g79 f79
                replace HPS := Lib.hid (HPS.out.push o79 g79)
                clear o79 g79 f79 HL78
                have hS2 := HPS.out.aft
                clear hHeld
                refine hK.out _ _ hS2 (fun hHeld => ?_)
                clear hK K hS2
                try simp only [Act.put]
                try simp only [List.setIfInBounds_toArray]
                try simp only [List.set]
                refine wpAnyH_ready (rs := [31]) (by kernel_rfl) (by simp) ?_
                refine (AllReadyH.cons (o := { dst := some 85, op := Go.Op.call { callee := Go.Callee.builtin Go.Builtin.append, args := #[Go.Operand.tmp 79, Go.Operand.tmp 84], argTypes := #[54, 9] }, type := 54, pos := _, after := _, guard := _ }) rfl (fun K hK => ?_) AllReadyH.nil)
                refine step_pushTx rfl (.tmp 79) (.tmp 84) rfl w1.heap.size v79 _ S2 rfl HPS.out.own rfl (by have := HBL.out; have := H12.out; have e1 : S1.data.size = S1.size := rfl; simp; omega) HPS.out.aft.size ?_
                intro v85 w85 o85 g85 f85
                replace HPS := Lib.hid (HPS.out.push o85 g85)
                clear o85 g85 f85
                have hS2 := HPS.out.aft
                clear hHeld
                refine hK.out _ _ hS2 (fun hHeld => ?_)
                clear hK K hS2
                try simp only [Act.put]
                try simp only [List.setIfInBounds_toArray]
                try simp only [List.set]
                refine wpAnyH_take (i := 32) (oi := { dst := some 7, op := Go.Op.assign (Go.Operand.tmp 85), type := 54, pos := _, after := _, guard := _ }) (v := ?_) rfl (by kernel_rfl) (by kernel_rfl) (by kernel_rfl) (fun _ _ _ h => h) (Or.inl ⟨by rfl, ?_⟩) (by exact hHeld) ?_
                rotate_left
                · intro w hSw; go_simp; try with_reducible rfl
                try simp only [Act.put]
                try simp only [List.setIfInBounds_toArray]
                try simp only [List.set]
                refine wpAnyH_done (by kernel_rfl) ?_ _
              rotate_left 1
              all_goals
                clear hHeld
                have HPQ : Hid (PS w1 w85 v85 (bk ++ plB 2 fk) u8 (K.map (fun f => ⟨f, 2⟩))) := Lib.hid (by
                  have h1 := HPS.out
                  have e := plB_app bk 2 0 rfl fk
                  rw [HZ.out.1, HZ.out.2, HT.out.1, HT.out.2] at e
                  rw [← e]
                  exact h1)
                obtain ⟨c1, c2⟩ := HCELL.out w85 HPQ.out.aft
                clear HPS
                go_wp2_with (at_builtin; refine wpList_pushesW rfl (.tmp 86) (.tmp 93) rfl w1.heap.size _ _ _ [⟨fk, 2⟩] rfl (HPQ.out.alloc (.cells #[.string S1, .string S2, .int .i64 2] 57)).wo rfl (rbW_one fk.1 fk.2 2 S1 S2 HS.out.1 HS.out.2 w85) (by have := HRL.out; simp; omega) (HPQ.out.alloc (.cells #[.string S1, .string S2, .int .i64 2] 57)).aft.size ?_; intro v94 w94 o94 g94)
                have HPR := Lib.hid ((HPQ.out.alloc (.cells #[.string S1, .string S2, .int .i64 2] 57)).pushW o94 g94)
                clear o94 g94 HPQ c1 c2
                go_wp2_with fail
                go_roundw
                case rel => exact ⟨k + 1, by have := HLT.out; omega, by omega, by go_num, by rw [HKY.out, List.flatMap_append, List.map_append, HBK.out]; simpa using HPR⟩
                case measure => have := HLT.out; simp [intOf]; omega
          · have j2 : (S2.size : Int) > 100 := by omega
            have HKN := Lib.hid (keptK_no hlt (by omega))
            clear hz1 hz2
            go_wp2_with fail
            go_roundw
            case rel => exact ⟨k + 1, by omega, by omega, by go_num, by rw [HKN.out]; exact HPS⟩
            case measure => simp [intOf]; omega
        · have j1 : (S1.size : Int) > 100 := by omega
          have HKN := Lib.hid (keptK_no hlt (by omega))
          clear hz1 hz2
          go_wp2_with fail
          go_roundw
          case rel => exact ⟨k + 1, by omega, by omega, by go_num, by rw [HKN.out]; exact HPS⟩
          case measure => simp [intOf]; omega
      · have i2 : ¬ (k : Int) < 20 := by omega
        have hpl := plB_all how (keptK l k) (keptK_ok l k)
        have hkl := keptK_len l k
        have HQ := Lib.hid (blkU_plain how (by cases nv; exact Or.inl HH.out; exact Or.inr HH.out) (keptK l k) (keptK_ok l k) (by omega))
        obtain ⟨K, hK⟩ : ∃ K, keptK l k = K := ⟨_, rfl⟩
        rw [hK] at hpl hkl HPS HQ
        obtain ⟨bk, hbk⟩ : ∃ b, K.flatMap (plB how) = b := ⟨_, rfl⟩
        rw [hbk] at HPS HQ hpl
        have hbl : bk.length ≤ 10000 := by omega
        obtain ⟨R, hR⟩ : ∃ R, K.map (fun f => (⟨f, how⟩ : RowL)) = R := ⟨_, rfl⟩
        rw [hR] at HPS HQ
        obtain ⟨ba, bc, hbv⟩ := HPS.out.own.slice8
        have HU := Lib.hid (HU1.out.aft HPS.out.aft)
        subst hbv
        have HBK := Lib.hid (ublock_any HU.out (b := bk) (va := ba) (cap := bc) (fun wx hc => (HPS.out.own.un7 HU.out hc).rb) (by omega) (by simp [sumF]) (by decide) (by decide) (by decide) (by decide) (by decide))
        have HPSW := Lib.hid HPS.out.wo
        have HAW := Lib.hid (HA1.out.trans HPS.out.aft)
        clear hpl hkl hK hbk hR hbl hlt hk HPS HR1
        go_wp2_with fail
        refine HBK.out.mono ?_
        intro e w2 hp
        obtain ⟨ra, rk, vo2, rfl, hu2, ho2, hc2⟩ := hp.ok HQ.out.1 R HQ.out.2.1 [] HQ.out.2.2.1 4096 HQ.out.2.2.2 R.length rfl
        have HU2 := Lib.hid hu2
        have HO2 := Lib.hid ho2
        have HW2 := Lib.hid (HPSW.out.un7 HU.out hc2)
        have HA2 := Lib.hid (Un.below HAW.out HU.out (Nat.le_refl _) hc2)
        clear hp hu2 ho2 hc2 HBK HQ HU HPSW HAW
        go_wp2_with fail
        refine (utable_any HU2.out).mono ?_
        rintro e w3 ⟨rfl, a3⟩
        have HSA := Lib.hid (sameW_any _ _ R w3 (HO2.out.rbw.aft a3) (HW2.out.rbw.aft a3))
        have HA3 := Lib.hid (HA2.out.trans a3)
        clear a3 HU2 HO2 HW2 HA2
        go_wp2_with fail
        refine HSA.out.mono ?_
        rintro e w4 ⟨rfl, a4⟩
        have HA4 := Lib.hid (HA3.out.trans a4)
        clear a4 HSA HA3
        go_wp2_with fail
        refine (unpackruns_any w4 (HMA.out w4 HA4.out)).mono ?_
        rintro e w5 ⟨rfl, a5⟩
        have HA5 := Lib.hid (HA4.out.trans a5)
        clear a5
        go_wp2_with fail
        go_ret
        exact ⟨rfl, HA5.out⟩
    · have i1 : ¬ (k : Int) < (l.length : Int) := by omega
      have hpl := plB_all how (keptK l k) (keptK_ok l k)
      have hkl := keptK_len l k
      have HQ := Lib.hid (blkU_plain how (by cases nv; exact Or.inl HH.out; exact Or.inr HH.out) (keptK l k) (keptK_ok l k) (by omega))
      obtain ⟨K, hK⟩ : ∃ K, keptK l k = K := ⟨_, rfl⟩
      rw [hK] at hpl hkl HPS HQ
      obtain ⟨bk, hbk⟩ : ∃ b, K.flatMap (plB how) = b := ⟨_, rfl⟩
      rw [hbk] at HPS HQ hpl
      have hbl : bk.length ≤ 10000 := by omega
      obtain ⟨R, hR⟩ : ∃ R, K.map (fun f => (⟨f, how⟩ : RowL)) = R := ⟨_, rfl⟩
      rw [hR] at HPS HQ
      obtain ⟨ba, bc, hbv⟩ := HPS.out.own.slice8
      have HU := Lib.hid (HU1.out.aft HPS.out.aft)
      subst hbv
      have HBK := Lib.hid (ublock_any HU.out (b := bk) (va := ba) (cap := bc) (fun wx hc => (HPS.out.own.un7 HU.out hc).rb) (by omega) (by simp [sumF]) (by decide) (by decide) (by decide) (by decide) (by decide))
      have HPSW := Lib.hid HPS.out.wo
      have HAW := Lib.hid (HA1.out.trans HPS.out.aft)
      clear hpl hkl hK hbk hR hbl hlt hk HPS HR1
      go_wp2_with fail
      refine HBK.out.mono ?_
      intro e w2 hp
      obtain ⟨ra, rk, vo2, rfl, hu2, ho2, hc2⟩ := hp.ok HQ.out.1 R HQ.out.2.1 [] HQ.out.2.2.1 4096 HQ.out.2.2.2 R.length rfl
      have HU2 := Lib.hid hu2
      have HO2 := Lib.hid ho2
      have HW2 := Lib.hid (HPSW.out.un7 HU.out hc2)
      have HA2 := Lib.hid (Un.below HAW.out HU.out (Nat.le_refl _) hc2)
      clear hp hu2 ho2 hc2 HBK HQ HU HPSW HAW
      go_wp2_with fail
      refine (utable_any HU2.out).mono ?_
      rintro e w3 ⟨rfl, a3⟩
      have HSA := Lib.hid (sameW_any _ _ R w3 (HO2.out.rbw.aft a3) (HW2.out.rbw.aft a3))
      have HA3 := Lib.hid (HA2.out.trans a3)
      clear a3 HU2 HO2 HW2 HA2
      go_wp2_with fail
      refine HSA.out.mono ?_
      rintro e w4 ⟨rfl, a4⟩
      have HA4 := Lib.hid (HA3.out.trans a4)
      clear a4 HSA HA3
      go_wp2_with fail
      refine (unpackruns_any w4 (HMA.out w4 HA4.out)).mono ?_
      rintro e w5 ⟨rfl, a5⟩
      have HA5 := Lib.hid (HA4.out.trans a5)
      clear a5
      go_wp2_with fail
      go_ret
      exact ⟨rfl, HA5.out⟩

set_option maxRecDepth 100000 in
theorem walkUnpackPlain (w : World) (hsh : w.ShapedOpen Tryd.prog) {H : Type} {enc : TypeId × Value → H} {base : Nat} {v0 : Value} {d0 : DataW H} {p0 : List MemPlace}
    (hval0 : Value.okWide Tryd.prog w .any base 47 v0) (k0 : DataW.Trod enc Tryd.prog w 0 (fun _ => true) true 47 v0 d0 p0) (a1 : Bool) :
    Calls Tryd.prog 16 #[v0, .bool a1] w fun e w' => e = .returned (.bool true) ∧ Aft w w' := by
  obtain ⟨l, hr⟩ := open_fields7 hval0 k0
  exact unpackplain_any v0 a1 l w (maxOk_of w hsh) hr
end Go.Proofs.YtmlnboibclfmcaaDoor
