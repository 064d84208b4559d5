/-
  The walk of the reader's text. The walk of the reader's text, where it fails.
-/
import Derived.Test.YtmlnboibclfmcaaDoorUnNum
namespace Go.Proofs.YtmlnboibclfmcaaDoor
open Go.RowKit
set_option linter.unusedVariables false

theorem textU_ok {b : List UInt8} {i : Nat} (h : (textU b i).2.2 = 0) : ∃ (c : UInt8) (n t2 : Nat), b[i]? = some c ∧ getL b i 7 = (n, t2, 0) ∧ n ≤ 65536 ∧ t2 + n ≤ b.length ∧ (textU b i).2.1 = t2 + n ∧ ((c.toNat < 128 ∧ (textU b i).1 = (b.drop t2).take n) ∨ (128 ≤ c.toNat ∧ decF ((b.drop t2).take n) = ((textU b i).1, 0) ∧ (textU b i).1.length ≤ 65536)) := by
  cases hc : b[i]? with
  | none => unfold textU at h; rw [hc] at h; simp at h
  | some c =>
    obtain ⟨⟨n, t2, e⟩, hg⟩ : ∃ q, getL b i 7 = q := ⟨_, rfl⟩
    unfold textU at h ⊢
    rw [hc] at h ⊢
    simp only [hg] at h ⊢
    by_cases h1 : e ≠ 0
    · rw [if_pos h1] at h; exact absurd h h1
    have h1' : e = 0 := Decidable.not_not.1 h1
    subst h1'
    rw [if_neg (by simp)] at h ⊢
    by_cases h2 : 65536 < n
    · rw [if_pos h2] at h; simp at h
    rw [if_neg h2] at h ⊢
    by_cases h3 : b.length < t2 + n
    · rw [if_pos h3] at h; simp at h
    rw [if_neg h3] at h ⊢
    by_cases h4 : c.toNat < 128
    · rw [if_pos h4]
      exact ⟨c, n, t2, rfl, rfl, by omega, by omega, rfl, Or.inl ⟨h4, rfl⟩⟩
    rw [if_neg h4] at h ⊢
    by_cases h5 : (decF ((b.drop t2).take n)).2 ≠ 0
    · rw [if_pos h5] at h; exact absurd h h5
    rw [if_neg h5] at h ⊢
    by_cases h6 : 65536 < (decF ((b.drop t2).take n)).1.length
    · rw [if_pos h6] at h; simp at h
    rw [if_neg h6]
    exact ⟨c, n, t2, rfl, rfl, by omega, by omega, rfl, Or.inr ⟨by omega, Prod.ext rfl (Decidable.not_not.1 h5), by simp only; omega⟩⟩
theorem textU_no {b : List UInt8} {i : Nat} {e9 : Int} (h9 : (textU b i).2.2 = e9) (h : e9 ≠ 0) : (b[i]? = none ∧ e9 = 3) ∨ ∃ c : UInt8, b[i]? = some c ∧ (((getL b i 7).2.2 ≠ 0 ∧ e9 = (getL b i 7).2.2) ∨ ∃ (n t2 : Nat), getL b i 7 = (n, t2, 0) ∧ ((65536 < n ∧ e9 = 2) ∨ (n ≤ 65536 ∧ b.length < t2 + n ∧ e9 = 3) ∨ (n ≤ 65536 ∧ t2 + n ≤ b.length ∧ 128 ≤ c.toNat ∧ (((decF ((b.drop t2).take n)).2 ≠ 0 ∧ e9 = (decF ((b.drop t2).take n)).2) ∨ ((decF ((b.drop t2).take n)).2 = 0 ∧ 65536 < (decF ((b.drop t2).take n)).1.length ∧ e9 = 2))))) := by
  cases hc : b[i]? with
  | none => unfold textU at h9; rw [hc] at h9; exact Or.inl ⟨rfl, h9.symm⟩
  | some c =>
    right
    refine ⟨c, rfl, ?_⟩
    obtain ⟨⟨n, t2, e⟩, hg⟩ : ∃ q, getL b i 7 = q := ⟨_, rfl⟩
    unfold textU at h9
    rw [hc] at h9
    rw [hg]
    simp only [hg] at h9 ⊢
    by_cases h1 : e ≠ 0
    · rw [if_pos h1] at h9; exact Or.inl ⟨h1, h9.symm⟩
    have h1' : e = 0 := Decidable.not_not.1 h1
    subst h1'
    rw [if_neg (by simp)] at h9
    right
    refine ⟨n, t2, rfl, ?_⟩
    by_cases h2 : 65536 < n
    · rw [if_pos h2] at h9; exact Or.inl ⟨h2, h9.symm⟩
    rw [if_neg h2] at h9
    right
    by_cases h3 : b.length < t2 + n
    · rw [if_pos h3] at h9; exact Or.inl ⟨by omega, h3, h9.symm⟩
    rw [if_neg h3] at h9
    right
    by_cases h4 : c.toNat < 128
    · rw [if_pos h4] at h9; exact absurd h9.symm h
    rw [if_neg h4] at h9
    refine ⟨by omega, by omega, by omega, ?_⟩
    by_cases h5 : (decF ((b.drop t2).take n)).2 ≠ 0
    · rw [if_pos h5] at h9; exact Or.inl ⟨h5, h9.symm⟩
    rw [if_neg h5] at h9
    right
    by_cases h6 : 65536 < (decF ((b.drop t2).take n)).1.length
    · rw [if_pos h6] at h9; exact ⟨Decidable.not_not.1 h5, h6, h9.symm⟩
    rw [if_neg h6] at h9
    exact absurd h9.symm h

theorem rb_conv {w : World} {v : Value} {l : List UInt8} (h : Rb w v l) : (convert 54 9 v).run Tryd.prog w = .ok (.string ⟨l.toArray⟩) w := by
  rcases h with ⟨⟨a0, rfl⟩, rfl⟩ | ⟨b, off, cap, rfl, h1, h2, h3, h4⟩
  · cases a0 with
    | none => exact own_string (Own.nil w 0)
    | some ad => exact run_convert_bytes_back (P := Tryd.prog) w 54 9 5 ad 0 [] Tryd.underlying54 Tryd.underlying5 Tryd.underlying9 (fun j hj => by simp at hj)
  · exact run_convert_bytes_back (P := Tryd.prog) w 54 9 5 ⟨b, off, none⟩ cap l Tryd.underlying54 Tryd.underlying5 Tryd.underlying9 (fun j hj => by rw [Addr.add_lit]; exact h4 j hj)
/-- A piece of a readable slice. -/
theorem Rb.sub {w : World} {pb off cap : Nat} {b : List UInt8} (h : Rb w (.slice (some ⟨pb, off, none⟩) b.length cap) b) {i n : Nat} (hi : i + n ≤ b.length) : Rb w (.slice (if cap = i then some ⟨pb, off, none⟩ else some ⟨pb, off + i, none⟩) n (cap - i)) ((b.drop i).take n) := by
  rcases h with ⟨⟨a0, h1⟩, hl0⟩ | ⟨b1, o1, c1, e, h1, h2, h3, h4⟩
  · subst hl0
    injection h1 with e1 _ e2
    subst e2
    simp only [List.length_nil] at hi
    obtain rfl : i = 0 := by omega
    obtain rfl : n = 0 := by omega
    rw [if_pos rfl]
    exact Or.inl ⟨⟨_, rfl⟩, rfl⟩
  · injection e with e1 _ e2
    injection e1 with e1
    injection e1 with e3 e4
    subst e2 e3 e4
    have hl : ((b.drop i).take n).length = n := by rw [List.length_take, List.length_drop]; omega
    by_cases hc : cap = i
    · rw [if_pos hc]
      refine Or.inr ⟨pb, off, cap - i, by rw [hl], by rw [hl]; omega, by omega, h3, fun j hj => ?_⟩
      rw [hl] at hj; omega
    · rw [if_neg hc]
      refine Or.inr ⟨pb, off + i, cap - i, by rw [hl], by rw [hl]; omega, by omega, h3, fun j hj => ?_⟩
      rw [hl] at hj
      have := h4 (i + j) (by omega)
      rw [Nat.add_assoc, this]
      congr 3
      rw [List.getElem_take, List.getElem_drop]
theorem BR.at {W0 : World} {g gr : Nat} {vo0 : Value} {va : Option Addr} {cap : Nat} {b : List UInt8} (hb : BR W0 g gr vo0 va cap b) (hne : b ≠ []) : ∃ pb off, va = some ⟨pb, off, none⟩ ∧ b.length ≤ cap ∧ cap ≤ maxLen ∧ ∀ wx, Chg (TU gr g vo0) W0 wx → ∀ i (h : i < b.length), wx.cell? ⟨pb, off + i, none⟩ = some (.int .u8 (b[i].toNat : Int)) := by
  rcases hb.rb W0 (Chg.refl _ _) with ⟨-, h2⟩ | ⟨pb, off, c0, e, h1, h2, h3, h4⟩
  · exact absurd h2 hne
  · injection e with e1 _ e2
    subst e1 e2
    refine ⟨pb, off, rfl, h1, h2, fun wx hc i hi => ?_⟩
    rcases hb.rb wx hc with ⟨-, h2⟩ | ⟨pb', off', c0', e', _, _, _, h4'⟩
    · exact absurd h2 hne
    · injection e' with e1 _ _
      injection e1 with e1
      injection e1 with e1 e2
      subst e1 e2
      exact h4' i hi

set_option linter.unusedSimpArgs false in
set_option maxHeartbeats 16000000 in
set_option maxRecDepth 100000 in
theorem text_ok {W0 w : World} {B gu g gr : Nat} {vo0 vk vr vo : Value} {top list : Int} {s : US} {va : Option Addr} {cap : Nat} {b : List UInt8} (hb : BR W0 g gr vo0 va cap b) (h : RS W0 w B gu g gr vo0 vk (.slice va b.length cap) top list s vr vo) (he : (textU b s.at_).2.2 = 0) :
    Calls Tryd.prog 98 #[.pointer (some ⟨gr, 0, none⟩)] w fun e w' => e = .returned (.string ⟨(textU b s.at_).1.toArray⟩) ∧ RS W0 w' B gu g gr vo0 vk (.slice va b.length cap) top list { s with at_ := (textU b s.at_).2.1 } vr vo ∧ Chg (fun k => k = gr) w w' := by
  obtain ⟨c, n, t2, hc, hgl, hn1, hn2, hto, hcase⟩ := textU_ok he
  obtain ⟨hlt, hce⟩ := List.getElem?_eq_some_iff.1 hc
  have hne : b ≠ [] := by intro e; rw [e] at hlt; simp at hlt
  obtain ⟨pb, off, rfl, hcap1, hcap2, hcell⟩ := hb.at hne
  have HCB : Hid (∀ wx, Chg (TU gr g vo0) W0 wx → wx.cell? ⟨pb, off + s.at_, none⟩ = some (.int .u8 (c.toNat : Int))) := Lib.hid (fun wx hx => by have := hcell wx hx s.at_ hlt; rw [hce] at this; exact this)
  have HNM := Lib.hid (fun w' (h : RS W0 w' B gu g gr vo0 vk (.slice (some ⟨pb, off, none⟩) b.length cap) top list s vr vo) => number_ok hb h (by omega) 7 (by omega) (by rw [hgl]))
  rw [hgl] at HNM
  simp only at HNM
  rw [hto]
  obtain ⟨S, hS⟩ : ∃ S, (textU b s.at_).1 = S := ⟨_, rfl⟩
  rw [hS] at hcase ⊢
  obtain ⟨SB, hSB⟩ : ∃ SB : ByteArray, (⟨S.toArray⟩ : ByteArray) = SB := ⟨_, rfl⟩
  have hsz : SB.size = S.length := by rw [← hSB]; show S.toArray.size = _; simp
  rw [hSB]
  have HSB := Lib.hid hSB
  have HSZ := Lib.hid hsz
  clear hSB hsz
  have HSUB := Lib.hid (fun wx hx => (hb.rb wx hx).sub (i := t2) (n := n) hn2)
  obtain ⟨at_, hat⟩ : ∃ a, s.at_ = a := ⟨_, rfl⟩
  rw [hat] at HCB hlt
  have HAT := Lib.hid hat
  have hlen := hb.len
  have HD : Hid (RS W0 w.drew B gu g gr vo0 vk (.slice (some ⟨pb, off, none⟩) b.length cap) top list s vr vo) := Lib.hid (h.aft ((Aft.refl w).drew))
  have i1 : (at_ : Int) < (b.length : Int) := by omega
  have i2 : ((at_ : Int) == (b.length : Int)) = false := by simp; omega
  have HLT := Lib.hid hlt
  clear hb h he hc hgl hto hS hne hcell hce hat hlt
  go_enter Tryd.func98, Tryd.ntmps98
  go_upto_region 1 with fail
  refine wp_region_held_drew (S := fun w' => RS W0 w' B gu g gr vo0 vk (.slice (some ⟨pb, off, none⟩) b.length cap) top list s vr vo) (by kernel_rfl) HD.out (fun hHeld => ?_)
  refine wpAnyH_take (i := 0) (oi := { dst := some 8, op := Go.Op.move (Go.Operand.tmp 0), type := 107, pos := _, after := _, guard := _ }) (v := ?_) rfl (by kernel_rfl) (by kernel_rfl) (by kernel_rfl) (fun _ _ _ h => h) (Or.inl ⟨by rfl, ?_⟩) (by exact hHeld) ?_
  rotate_left
  · intro w hSw; go_simp; try with_reducible rfl
  try simp only [Act.put]
  try simp only [List.setIfInBounds_toArray]
  try simp only [List.set]
  refine wpAnyH_take (i := 1) (oi := { dst := some 9, op := Go.Op.nilCheck (Go.Operand.tmp 8), type := 0, pos := _, after := _, guard := _ }) (v := ?_) rfl (by kernel_rfl) (by kernel_rfl) (by kernel_rfl) (fun _ _ _ h => h) (Or.inl ⟨by rfl, ?_⟩) (by exact hHeld) ?_
  rotate_left
  · intro w hSw; go_simp; try with_reducible rfl
  try simp only [Act.put]
  try simp only [List.setIfInBounds_toArray]
  try simp only [List.set]
  refine wpAnyH_take (i := 2) (oi := { dst := some 10, op := Go.Op.fieldAddr 109 (Go.Operand.tmp 9) 2, type := 0, pos := _, after := _, guard := _ }) (v := ?_) rfl (by kernel_rfl) (by kernel_rfl) (by kernel_rfl) (fun _ _ _ h => h) (Or.inl ⟨by rfl, ?_⟩) (by exact hHeld) ?_
  rotate_left
  · intro w hSw; go_simp; try with_reducible rfl
  try simp only [Act.put]
  try simp only [List.setIfInBounds_toArray]
  try simp only [List.set]
  refine wpAnyH_take (i := 3) (oi := { dst := some 11, op := Go.Op.load 3 (Go.Operand.tmp 10), type := 3, pos := _, after := _, guard := _ }) (v := ?_) rfl (by kernel_rfl) (by kernel_rfl) (by kernel_rfl) (fun _ _ _ h => h) (Or.inl ⟨by rfl, ?_⟩) (by exact hHeld) ?_
  rotate_left
  · intro w hSw; obtain ⟨c0, c1, c2, c3, c4, c5, f⟩ := hSw.rd.cells; rw [HAT.out] at c2; go_simp; try with_reducible rfl
  try simp only [Act.put]
  try simp only [List.setIfInBounds_toArray]
  try simp only [List.set]
  refine wpAnyH_take (i := 4) (oi := { dst := some 12, op := Go.Op.move (Go.Operand.tmp 0), type := 107, pos := _, after := _, guard := _ }) (v := ?_) rfl (by kernel_rfl) (by kernel_rfl) (by kernel_rfl) (fun _ _ _ h => h) (Or.inl ⟨by rfl, ?_⟩) (by exact hHeld) ?_
  rotate_left
  · intro w hSw; go_simp; try with_reducible rfl
  try simp only [Act.put]
  try simp only [List.setIfInBounds_toArray]
  try simp only [List.set]
  refine wpAnyH_take (i := 5) (oi := { dst := some 13, op := Go.Op.nilCheck (Go.Operand.tmp 12), type := 0, pos := _, after := _, guard := _ }) (v := ?_) rfl (by kernel_rfl) (by kernel_rfl) (by kernel_rfl) (fun _ _ _ h => h) (Or.inl ⟨by rfl, ?_⟩) (by exact hHeld) ?_
  rotate_left
  · intro w hSw; go_simp; try with_reducible rfl
  try simp only [Act.put]
  try simp only [List.setIfInBounds_toArray]
  try simp only [List.set]
  refine wpAnyH_take (i := 6) (oi := { dst := some 14, op := Go.Op.fieldAddr 109 (Go.Operand.tmp 13) 1, type := 0, pos := _, after := _, guard := _ }) (v := ?_) rfl (by kernel_rfl) (by kernel_rfl) (by kernel_rfl) (fun _ _ _ h => h) (Or.inl ⟨by rfl, ?_⟩) (by exact hHeld) ?_
  rotate_left
  · intro w hSw; go_simp; try with_reducible rfl
  try simp only [Act.put]
  try simp only [List.setIfInBounds_toArray]
  try simp only [List.set]
  refine wpAnyH_take (i := 7) (oi := { dst := some 15, op := Go.Op.load 54 (Go.Operand.tmp 14), type := 54, pos := _, after := _, guard := _ }) (v := ?_) rfl (by kernel_rfl) (by kernel_rfl) (by kernel_rfl) (fun _ _ _ h => h) (Or.inl ⟨by rfl, ?_⟩) (by exact hHeld) ?_
  rotate_left
  · intro w hSw; obtain ⟨c0, c1, c2, c3, c4, c5, f⟩ := hSw.rd.cells; rw [HAT.out] at c2; go_simp; try with_reducible rfl
  try simp only [Act.put]
  try simp only [List.setIfInBounds_toArray]
  try simp only [List.set]
  refine wpAnyH_take (i := 8) (oi := { dst := some 16, op := Go.Op.call { callee := Go.Callee.builtin Go.Builtin.len, args := #[Go.Operand.tmp 15], argTypes := #[54] }, type := 3, pos := _, after := _, guard := _ }) (v := ?_) rfl (by kernel_rfl) (by kernel_rfl) (by kernel_rfl) (fun _ _ _ h => h) (Or.inl ⟨by rfl, ?_⟩) (by exact hHeld) ?_
  rotate_left
  · intro w hSw; go_simp; try with_reducible rfl
  try simp only [Act.put]
  try simp only [List.setIfInBounds_toArray]
  try simp only [List.set]
  refine wpAnyH_take (i := 9) (oi := { dst := some 17, op := Go.Op.binOp Go.BinOp.eql 3 (Go.Operand.tmp 11) (Go.Operand.tmp 16) 3, type := 4, pos := _, after := _, guard := _ }) (v := ?_) rfl (by kernel_rfl) (by kernel_rfl) (by kernel_rfl) (fun _ _ _ h => h) (Or.inl ⟨by rfl, ?_⟩) (by exact hHeld) ?_
  rotate_left
  · intro w hSw; go_simp; try with_reducible rfl
  try simp only [Act.put]
  try simp only [List.setIfInBounds_toArray]
  try simp only [List.set]
  refine wpAnyH_done (by kernel_rfl) ?_ _
  have H1 := Lib.hid hHeld
  have HC1 : Hid (Chg (fun k => k = gr) w w.drew) := Lib.hid ((Chg.refl _ w).drew)
  clear hHeld HD
  generalize w.drew = W1 at H1 HC1 ⊢
  go_upto_region 3 with fail
  have HD : Hid (RS W0 W1.drew B gu g gr vo0 vk (.slice (some ⟨pb, off, none⟩) b.length cap) top list s vr vo) := Lib.hid (H1.out.aft ((Aft.refl W1).drew))
  clear H1
  refine wp_region_held_drew (S := fun w' => RS W0 w' B gu g gr vo0 vk (.slice (some ⟨pb, off, none⟩) b.length cap) top list s vr vo) (by kernel_rfl) HD.out (fun hHeld => ?_)
  refine wpAnyH_take (i := 0) (oi := { dst := some 20, op := Go.Op.move (Go.Operand.tmp 0), type := 107, pos := _, after := _, guard := _ }) (v := ?_) rfl (by kernel_rfl) (by kernel_rfl) (by kernel_rfl) (fun _ _ _ h => h) (Or.inl ⟨by rfl, ?_⟩) (by exact hHeld) ?_
  rotate_left
  · intro w hSw; go_simp; try with_reducible rfl
  try simp only [Act.put]
  try simp only [List.setIfInBounds_toArray]
  try simp only [List.set]
  refine wpAnyH_take (i := 1) (oi := { dst := some 21, op := Go.Op.nilCheck (Go.Operand.tmp 20), type := 0, pos := _, after := _, guard := _ }) (v := ?_) rfl (by kernel_rfl) (by kernel_rfl) (by kernel_rfl) (fun _ _ _ h => h) (Or.inl ⟨by rfl, ?_⟩) (by exact hHeld) ?_
  rotate_left
  · intro w hSw; go_simp; try with_reducible rfl
  try simp only [Act.put]
  try simp only [List.setIfInBounds_toArray]
  try simp only [List.set]
  refine wpAnyH_take (i := 2) (oi := { dst := some 22, op := Go.Op.fieldAddr 109 (Go.Operand.tmp 21) 1, type := 0, pos := _, after := _, guard := _ }) (v := ?_) rfl (by kernel_rfl) (by kernel_rfl) (by kernel_rfl) (fun _ _ _ h => h) (Or.inl ⟨by rfl, ?_⟩) (by exact hHeld) ?_
  rotate_left
  · intro w hSw; go_simp; try with_reducible rfl
  try simp only [Act.put]
  try simp only [List.setIfInBounds_toArray]
  try simp only [List.set]
  refine wpAnyH_take (i := 3) (oi := { dst := some 23, op := Go.Op.load 54 (Go.Operand.tmp 22), type := 54, pos := _, after := _, guard := _ }) (v := ?_) rfl (by kernel_rfl) (by kernel_rfl) (by kernel_rfl) (fun _ _ _ h => h) (Or.inl ⟨by rfl, ?_⟩) (by exact hHeld) ?_
  rotate_left
  · intro w hSw; obtain ⟨c0, c1, c2, c3, c4, c5, f⟩ := hSw.rd.cells; rw [HAT.out] at c2; have hx := HCB.out _ hSw.x.chg; go_simp; try with_reducible rfl
  try simp only [Act.put]
  try simp only [List.setIfInBounds_toArray]
  try simp only [List.set]
  refine wpAnyH_take (i := 4) (oi := { dst := some 24, op := Go.Op.move (Go.Operand.tmp 0), type := 107, pos := _, after := _, guard := _ }) (v := ?_) rfl (by kernel_rfl) (by kernel_rfl) (by kernel_rfl) (fun _ _ _ h => h) (Or.inl ⟨by rfl, ?_⟩) (by exact hHeld) ?_
  rotate_left
  · intro w hSw; go_simp; try with_reducible rfl
  try simp only [Act.put]
  try simp only [List.setIfInBounds_toArray]
  try simp only [List.set]
  refine wpAnyH_take (i := 5) (oi := { dst := some 25, op := Go.Op.nilCheck (Go.Operand.tmp 24), type := 0, pos := _, after := _, guard := _ }) (v := ?_) rfl (by kernel_rfl) (by kernel_rfl) (by kernel_rfl) (fun _ _ _ h => h) (Or.inl ⟨by rfl, ?_⟩) (by exact hHeld) ?_
  rotate_left
  · intro w hSw; go_simp; try with_reducible rfl
  try simp only [Act.put]
  try simp only [List.setIfInBounds_toArray]
  try simp only [List.set]
  refine wpAnyH_take (i := 6) (oi := { dst := some 26, op := Go.Op.fieldAddr 109 (Go.Operand.tmp 25) 2, type := 0, pos := _, after := _, guard := _ }) (v := ?_) rfl (by kernel_rfl) (by kernel_rfl) (by kernel_rfl) (fun _ _ _ h => h) (Or.inl ⟨by rfl, ?_⟩) (by exact hHeld) ?_
  rotate_left
  · intro w hSw; go_simp; try with_reducible rfl
  try simp only [Act.put]
  try simp only [List.setIfInBounds_toArray]
  try simp only [List.set]
  refine wpAnyH_take (i := 7) (oi := { dst := some 27, op := Go.Op.load 3 (Go.Operand.tmp 26), type := 3, pos := _, after := _, guard := _ }) (v := ?_) rfl (by kernel_rfl) (by kernel_rfl) (by kernel_rfl) (fun _ _ _ h => h) (Or.inl ⟨by rfl, ?_⟩) (by exact hHeld) ?_
  rotate_left
  · intro w hSw; obtain ⟨c0, c1, c2, c3, c4, c5, f⟩ := hSw.rd.cells; rw [HAT.out] at c2; have hx := HCB.out _ hSw.x.chg; go_simp; try with_reducible rfl
  try simp only [Act.put]
  try simp only [List.setIfInBounds_toArray]
  try simp only [List.set]
  refine wpAnyH_take (i := 8) (oi := { dst := some 28, op := Go.Op.indexAddr 54 (Go.Operand.tmp 23) (Go.Operand.tmp 27), type := 0, pos := _, after := _, guard := _ }) (v := ?_) rfl (by kernel_rfl) (by kernel_rfl) (by kernel_rfl) (fun _ _ _ h => h) (Or.inl ⟨by rfl, ?_⟩) (by exact hHeld) ?_
  rotate_left
  · intro w hSw; go_simp; try with_reducible rfl
  try simp only [Act.put]
  try simp only [List.setIfInBounds_toArray]
  try simp only [List.set]
  refine wpAnyH_take (i := 9) (oi := { dst := some 29, op := Go.Op.load 5 (Go.Operand.tmp 28), type := 5, pos := _, after := _, guard := _ }) (v := ?_) rfl (by kernel_rfl) (by kernel_rfl) (by kernel_rfl) (fun _ _ _ h => h) (Or.inl ⟨by rfl, ?_⟩) (by exact hHeld) ?_
  rotate_left
  · intro w hSw; obtain ⟨c0, c1, c2, c3, c4, c5, f⟩ := hSw.rd.cells; rw [HAT.out] at c2; have hx := HCB.out _ hSw.x.chg; go_simp; try with_reducible rfl
  try simp only [Act.put]
  try simp only [List.setIfInBounds_toArray]
  try simp only [List.set]
  refine wpAnyH_take (i := 10) (oi := { dst := some 30, op := Go.Op.binOp Go.BinOp.geq 5 (Go.Operand.tmp 29) (Go.Operand.const (Go.Value.int Go.IntKind.u8 128)) 5, type := 4, pos := _, after := _, guard := _ }) (v := ?_) rfl (by kernel_rfl) (by kernel_rfl) (by kernel_rfl) (fun _ _ _ h => h) (Or.inl ⟨by rfl, ?_⟩) (by exact hHeld) ?_
  rotate_left
  · intro w hSw; go_simp; try with_reducible rfl
  try simp only [Act.put]
  try simp only [List.setIfInBounds_toArray]
  try simp only [List.set]
  refine wpAnyH_take (i := 11) (oi := { dst := some 3, op := Go.Op.assign (Go.Operand.tmp 30), type := 4, pos := _, after := _, guard := _ }) (v := ?_) rfl (by kernel_rfl) (by kernel_rfl) (by kernel_rfl) (fun _ _ _ h => h) (Or.inl ⟨by rfl, ?_⟩) (by exact hHeld) ?_
  rotate_left
  · intro w hSw; go_simp; try with_reducible rfl
  try simp only [Act.put]
  try simp only [List.setIfInBounds_toArray]
  try simp only [List.set]
  refine wpAnyH_done (by kernel_rfl) ?_ _
  have H2 := Lib.hid hHeld
  have HC2 := Lib.hid (HC1.out.drew)
  clear hHeld HD HC1
  generalize W1.drew = W2 at H2 HC2 ⊢
  clear i2
  go_wp2_with fail
  refine (HNM.out _ H2.out).mono ?_
  rintro e w3 ⟨rfl, h3, k3⟩
  have H3 := Lib.hid h3
  have HC3 := Lib.hid (HC2.out.trans k3 (fun i hi => Or.inl hi))
  clear h3 k3 H2 HNM HCB HC2
  have n5 : ¬ (n : Int) > 65536 := by omega
  have gw : IntKind.i64.wrap ((b.length : Int) - (t2 : Int)) = (b.length : Int) - (t2 : Int) := IntWalk.i64_in _ (by omega)
  have n7 : ¬ (n : Int) > (b.length : Int) - (t2 : Int) := by omega
  go_upto_region 7 with fail
  have HD : Hid (RS W0 w3.drew B gu g gr vo0 vk (.slice (some ⟨pb, off, none⟩) b.length cap) top list { s with at_ := t2 } vr vo) := Lib.hid (H3.out.aft ((Aft.refl w3).drew))
  clear H3
  refine wp_region_held_drew (S := fun w' => RS W0 w' B gu g gr vo0 vk (.slice (some ⟨pb, off, none⟩) b.length cap) top list { s with at_ := t2 } vr vo) (by kernel_rfl) HD.out (fun hHeld => ?_)
  refine wpAnyH_take (i := 0) (oi := { dst := some 37, op := Go.Op.move (Go.Operand.tmp 4), type := 3, pos := _, after := _, guard := _ }) (v := ?_) rfl (by kernel_rfl) (by kernel_rfl) (by kernel_rfl) (fun _ _ _ h => h) (Or.inl ⟨by rfl, ?_⟩) (by exact hHeld) ?_
  rotate_left
  · intro w hSw; go_simp; try with_reducible rfl
  try simp only [Act.put]
  try simp only [List.setIfInBounds_toArray]
  try simp only [List.set]
  refine wpAnyH_take (i := 1) (oi := { dst := some 38, op := Go.Op.move (Go.Operand.tmp 0), type := 107, pos := _, after := _, guard := _ }) (v := ?_) rfl (by kernel_rfl) (by kernel_rfl) (by kernel_rfl) (fun _ _ _ h => h) (Or.inl ⟨by rfl, ?_⟩) (by exact hHeld) ?_
  rotate_left
  · intro w hSw; go_simp; try with_reducible rfl
  try simp only [Act.put]
  try simp only [List.setIfInBounds_toArray]
  try simp only [List.set]
  refine wpAnyH_take (i := 2) (oi := { dst := some 39, op := Go.Op.nilCheck (Go.Operand.tmp 38), type := 0, pos := _, after := _, guard := _ }) (v := ?_) rfl (by kernel_rfl) (by kernel_rfl) (by kernel_rfl) (fun _ _ _ h => h) (Or.inl ⟨by rfl, ?_⟩) (by exact hHeld) ?_
  rotate_left
  · intro w hSw; go_simp; try with_reducible rfl
  try simp only [Act.put]
  try simp only [List.setIfInBounds_toArray]
  try simp only [List.set]
  refine wpAnyH_take (i := 3) (oi := { dst := some 40, op := Go.Op.fieldAddr 109 (Go.Operand.tmp 39) 1, type := 0, pos := _, after := _, guard := _ }) (v := ?_) rfl (by kernel_rfl) (by kernel_rfl) (by kernel_rfl) (fun _ _ _ h => h) (Or.inl ⟨by rfl, ?_⟩) (by exact hHeld) ?_
  rotate_left
  · intro w hSw; go_simp; try with_reducible rfl
  try simp only [Act.put]
  try simp only [List.setIfInBounds_toArray]
  try simp only [List.set]
  refine wpAnyH_take (i := 4) (oi := { dst := some 41, op := Go.Op.load 54 (Go.Operand.tmp 40), type := 54, pos := _, after := _, guard := _ }) (v := ?_) rfl (by kernel_rfl) (by kernel_rfl) (by kernel_rfl) (fun _ _ _ h => h) (Or.inl ⟨by rfl, ?_⟩) (by exact hHeld) ?_
  rotate_left
  · intro w hSw; obtain ⟨c0, c1, c2, c3, c4, c5, f⟩ := hSw.rd.cells; simp only at c2; go_simp; try with_reducible rfl
  try simp only [Act.put]
  try simp only [List.setIfInBounds_toArray]
  try simp only [List.set]
  refine wpAnyH_take (i := 5) (oi := { dst := some 42, op := Go.Op.call { callee := Go.Callee.builtin Go.Builtin.len, args := #[Go.Operand.tmp 41], argTypes := #[54] }, type := 3, pos := _, after := _, guard := _ }) (v := ?_) rfl (by kernel_rfl) (by kernel_rfl) (by kernel_rfl) (fun _ _ _ h => h) (Or.inl ⟨by rfl, ?_⟩) (by exact hHeld) ?_
  rotate_left
  · intro w hSw; go_simp; try with_reducible rfl
  try simp only [Act.put]
  try simp only [List.setIfInBounds_toArray]
  try simp only [List.set]
  refine wpAnyH_take (i := 6) (oi := { dst := some 43, op := Go.Op.move (Go.Operand.tmp 0), type := 107, pos := _, after := _, guard := _ }) (v := ?_) rfl (by kernel_rfl) (by kernel_rfl) (by kernel_rfl) (fun _ _ _ h => h) (Or.inl ⟨by rfl, ?_⟩) (by exact hHeld) ?_
  rotate_left
  · intro w hSw; go_simp; try with_reducible rfl
  try simp only [Act.put]
  try simp only [List.setIfInBounds_toArray]
  try simp only [List.set]
  refine wpAnyH_take (i := 7) (oi := { dst := some 44, op := Go.Op.nilCheck (Go.Operand.tmp 43), type := 0, pos := _, after := _, guard := _ }) (v := ?_) rfl (by kernel_rfl) (by kernel_rfl) (by kernel_rfl) (fun _ _ _ h => h) (Or.inl ⟨by rfl, ?_⟩) (by exact hHeld) ?_
  rotate_left
  · intro w hSw; go_simp; try with_reducible rfl
  try simp only [Act.put]
  try simp only [List.setIfInBounds_toArray]
  try simp only [List.set]
  refine wpAnyH_take (i := 8) (oi := { dst := some 45, op := Go.Op.fieldAddr 109 (Go.Operand.tmp 44) 2, type := 0, pos := _, after := _, guard := _ }) (v := ?_) rfl (by kernel_rfl) (by kernel_rfl) (by kernel_rfl) (fun _ _ _ h => h) (Or.inl ⟨by rfl, ?_⟩) (by exact hHeld) ?_
  rotate_left
  · intro w hSw; go_simp; try with_reducible rfl
  try simp only [Act.put]
  try simp only [List.setIfInBounds_toArray]
  try simp only [List.set]
  refine wpAnyH_take (i := 9) (oi := { dst := some 46, op := Go.Op.load 3 (Go.Operand.tmp 45), type := 3, pos := _, after := _, guard := _ }) (v := ?_) rfl (by kernel_rfl) (by kernel_rfl) (by kernel_rfl) (fun _ _ _ h => h) (Or.inl ⟨by rfl, ?_⟩) (by exact hHeld) ?_
  rotate_left
  · intro w hSw; obtain ⟨c0, c1, c2, c3, c4, c5, f⟩ := hSw.rd.cells; simp only at c2; go_simp; try with_reducible rfl
  try simp only [Act.put]
  try simp only [List.setIfInBounds_toArray]
  try simp only [List.set]
  refine wpAnyH_take (i := 10) (oi := { dst := some 47, op := Go.Op.binOp Go.BinOp.sub 3 (Go.Operand.tmp 42) (Go.Operand.tmp 46) 3, type := 3, pos := _, after := _, guard := _ }) (v := ?_) rfl (by kernel_rfl) (by kernel_rfl) (by kernel_rfl) (fun _ _ _ h => h) (Or.inl ⟨by rfl, ?_⟩) (by exact hHeld) ?_
  rotate_left
  · intro w hSw; go_simp; try with_reducible rfl
  try simp only [Act.put]
  try simp only [List.setIfInBounds_toArray]
  try simp only [List.set]
  refine wpAnyH_take (i := 11) (oi := { dst := some 48, op := Go.Op.binOp Go.BinOp.gtr 3 (Go.Operand.tmp 37) (Go.Operand.tmp 47) 3, type := 4, pos := _, after := _, guard := _ }) (v := ?_) rfl (by kernel_rfl) (by kernel_rfl) (by kernel_rfl) (fun _ _ _ h => h) (Or.inl ⟨by rfl, ?_⟩) (by exact hHeld) ?_
  rotate_left
  · intro w hSw; go_simp; try with_reducible rfl
  try simp only [Act.put]
  try simp only [List.setIfInBounds_toArray]
  try simp only [List.set]
  refine wpAnyH_done (by kernel_rfl) ?_ _
  have H4 := Lib.hid hHeld
  have HC4 := Lib.hid (HC3.out.drew)
  clear hHeld HD gw HC3
  generalize w3.drew = W4 at H4 HC4 ⊢
  go_upto_region 9 with fail
  have gw2 : IntKind.i64.wrap ((t2 : Int) + (n : Int)) = (t2 : Int) + (n : Int) := IntWalk.i64_in _ (by omega)
  have b1 : (0 : Int) ≤ (t2 : Int) := by omega
  have b2 : (t2 : Int) ≤ (t2 : Int) + (n : Int) := by omega
  have b3 : (t2 : Int) + (n : Int) ≤ (cap : Int) := by omega
  have b4 : (0 : Int) ≤ (t2 : Int) + (n : Int) := by omega
  have t1 : ((t2 : Int) + (n : Int)).toNat = t2 + n := by omega
  have t3 : t2 + n - t2 = n := by omega
  have HD : Hid (RS W0 W4.drew B gu g gr vo0 vk (.slice (some ⟨pb, off, none⟩) b.length cap) top list { s with at_ := t2 } vr vo) := Lib.hid (H4.out.aft ((Aft.refl W4).drew))
  clear H4
  by_cases hcap : cap = t2
  · rw [if_pos hcap] at HSUB
    obtain ⟨P, hP⟩ : ∃ P, Value.slice (some ⟨pb, off, none⟩) n (cap - t2) = P := ⟨_, rfl⟩
    have hP2 : Value.slice (some ⟨pb, off, none⟩) n 0 = P := by rw [← hP, show cap - t2 = 0 by omega]
    have b5 : (t2 : Int) + (n : Int) ≤ (t2 : Int) := by omega
    rw [hP] at HSUB
    have HP := Lib.hid hP2
    clear hP hP2
    refine wp_region_held_drew (S := fun w' => RS W0 w' B gu g gr vo0 vk (.slice (some ⟨pb, off, none⟩) b.length cap) top list { s with at_ := t2 } vr vo) (by kernel_rfl) HD.out (fun hHeld => ?_)
    refine wpAnyH_take (i := 0) (oi := { dst := some 51, op := Go.Op.move (Go.Operand.tmp 0), type := 107, pos := _, after := _, guard := _ }) (v := ?_) rfl (by kernel_rfl) (by kernel_rfl) (by kernel_rfl) (fun _ _ _ h => h) (Or.inl ⟨by rfl, ?_⟩) (by exact hHeld) ?_
    rotate_left
    · intro w hSw; go_simp; try with_reducible rfl
    try simp only [Act.put]
    try simp only [List.setIfInBounds_toArray]
    try simp only [List.set]
    refine wpAnyH_take (i := 1) (oi := { dst := some 52, op := Go.Op.nilCheck (Go.Operand.tmp 51), type := 0, pos := _, after := _, guard := _ }) (v := ?_) rfl (by kernel_rfl) (by kernel_rfl) (by kernel_rfl) (fun _ _ _ h => h) (Or.inl ⟨by rfl, ?_⟩) (by exact hHeld) ?_
    rotate_left
    · intro w hSw; go_simp; try with_reducible rfl
    try simp only [Act.put]
    try simp only [List.setIfInBounds_toArray]
    try simp only [List.set]
    refine wpAnyH_take (i := 2) (oi := { dst := some 53, op := Go.Op.fieldAddr 109 (Go.Operand.tmp 52) 1, type := 0, pos := _, after := _, guard := _ }) (v := ?_) rfl (by kernel_rfl) (by kernel_rfl) (by kernel_rfl) (fun _ _ _ h => h) (Or.inl ⟨by rfl, ?_⟩) (by exact hHeld) ?_
    rotate_left
    · intro w hSw; go_simp; try with_reducible rfl
    try simp only [Act.put]
    try simp only [List.setIfInBounds_toArray]
    try simp only [List.set]
    refine wpAnyH_take (i := 3) (oi := { dst := some 54, op := Go.Op.load 54 (Go.Operand.tmp 53), type := 54, pos := _, after := _, guard := _ }) (v := ?_) rfl (by kernel_rfl) (by kernel_rfl) (by kernel_rfl) (fun _ _ _ h => h) (Or.inl ⟨by rfl, ?_⟩) (by exact hHeld) ?_
    rotate_left
    · intro w hSw; have hz0 := hcap; obtain ⟨c0, c1, c2, c3, c4, c5, f⟩ := hSw.rd.cells; simp only at c2; go_simp; try with_reducible rfl
    try simp only [Act.put]
    try simp only [List.setIfInBounds_toArray]
    try simp only [List.set]
    refine wpAnyH_take (i := 4) (oi := { dst := some 55, op := Go.Op.move (Go.Operand.tmp 0), type := 107, pos := _, after := _, guard := _ }) (v := ?_) rfl (by kernel_rfl) (by kernel_rfl) (by kernel_rfl) (fun _ _ _ h => h) (Or.inl ⟨by rfl, ?_⟩) (by exact hHeld) ?_
    rotate_left
    · intro w hSw; go_simp; try with_reducible rfl
    try simp only [Act.put]
    try simp only [List.setIfInBounds_toArray]
    try simp only [List.set]
    refine wpAnyH_take (i := 5) (oi := { dst := some 56, op := Go.Op.nilCheck (Go.Operand.tmp 55), type := 0, pos := _, after := _, guard := _ }) (v := ?_) rfl (by kernel_rfl) (by kernel_rfl) (by kernel_rfl) (fun _ _ _ h => h) (Or.inl ⟨by rfl, ?_⟩) (by exact hHeld) ?_
    rotate_left
    · intro w hSw; go_simp; try with_reducible rfl
    try simp only [Act.put]
    try simp only [List.setIfInBounds_toArray]
    try simp only [List.set]
    refine wpAnyH_take (i := 6) (oi := { dst := some 57, op := Go.Op.fieldAddr 109 (Go.Operand.tmp 56) 2, type := 0, pos := _, after := _, guard := _ }) (v := ?_) rfl (by kernel_rfl) (by kernel_rfl) (by kernel_rfl) (fun _ _ _ h => h) (Or.inl ⟨by rfl, ?_⟩) (by exact hHeld) ?_
    rotate_left
    · intro w hSw; go_simp; try with_reducible rfl
    try simp only [Act.put]
    try simp only [List.setIfInBounds_toArray]
    try simp only [List.set]
    refine wpAnyH_take (i := 7) (oi := { dst := some 58, op := Go.Op.load 3 (Go.Operand.tmp 57), type := 3, pos := _, after := _, guard := _ }) (v := ?_) rfl (by kernel_rfl) (by kernel_rfl) (by kernel_rfl) (fun _ _ _ h => h) (Or.inl ⟨by rfl, ?_⟩) (by exact hHeld) ?_
    rotate_left
    · intro w hSw; have hz0 := hcap; obtain ⟨c0, c1, c2, c3, c4, c5, f⟩ := hSw.rd.cells; simp only at c2; go_simp; try with_reducible rfl
    try simp only [Act.put]
    try simp only [List.setIfInBounds_toArray]
    try simp only [List.set]
    refine wpAnyH_take (i := 8) (oi := { dst := some 59, op := Go.Op.move (Go.Operand.tmp 0), type := 107, pos := _, after := _, guard := _ }) (v := ?_) rfl (by kernel_rfl) (by kernel_rfl) (by kernel_rfl) (fun _ _ _ h => h) (Or.inl ⟨by rfl, ?_⟩) (by exact hHeld) ?_
    rotate_left
    · intro w hSw; go_simp; try with_reducible rfl
    try simp only [Act.put]
    try simp only [List.setIfInBounds_toArray]
    try simp only [List.set]
    refine wpAnyH_take (i := 9) (oi := { dst := some 60, op := Go.Op.nilCheck (Go.Operand.tmp 59), type := 0, pos := _, after := _, guard := _ }) (v := ?_) rfl (by kernel_rfl) (by kernel_rfl) (by kernel_rfl) (fun _ _ _ h => h) (Or.inl ⟨by rfl, ?_⟩) (by exact hHeld) ?_
    rotate_left
    · intro w hSw; go_simp; try with_reducible rfl
    try simp only [Act.put]
    try simp only [List.setIfInBounds_toArray]
    try simp only [List.set]
    refine wpAnyH_take (i := 10) (oi := { dst := some 61, op := Go.Op.fieldAddr 109 (Go.Operand.tmp 60) 2, type := 0, pos := _, after := _, guard := _ }) (v := ?_) rfl (by kernel_rfl) (by kernel_rfl) (by kernel_rfl) (fun _ _ _ h => h) (Or.inl ⟨by rfl, ?_⟩) (by exact hHeld) ?_
    rotate_left
    · intro w hSw; go_simp; try with_reducible rfl
    try simp only [Act.put]
    try simp only [List.setIfInBounds_toArray]
    try simp only [List.set]
    refine wpAnyH_take (i := 11) (oi := { dst := some 62, op := Go.Op.load 3 (Go.Operand.tmp 61), type := 3, pos := _, after := _, guard := _ }) (v := ?_) rfl (by kernel_rfl) (by kernel_rfl) (by kernel_rfl) (fun _ _ _ h => h) (Or.inl ⟨by rfl, ?_⟩) (by exact hHeld) ?_
    rotate_left
    · intro w hSw; have hz0 := hcap; obtain ⟨c0, c1, c2, c3, c4, c5, f⟩ := hSw.rd.cells; simp only at c2; go_simp; try with_reducible rfl
    try simp only [Act.put]
    try simp only [List.setIfInBounds_toArray]
    try simp only [List.set]
    refine wpAnyH_take (i := 12) (oi := { dst := some 63, op := Go.Op.move (Go.Operand.tmp 4), type := 3, pos := _, after := _, guard := _ }) (v := ?_) rfl (by kernel_rfl) (by kernel_rfl) (by kernel_rfl) (fun _ _ _ h => h) (Or.inl ⟨by rfl, ?_⟩) (by exact hHeld) ?_
    rotate_left
    · intro w hSw; go_simp; try with_reducible rfl
    try simp only [Act.put]
    try simp only [List.setIfInBounds_toArray]
    try simp only [List.set]
    refine wpAnyH_take (i := 13) (oi := { dst := some 64, op := Go.Op.binOp Go.BinOp.add 3 (Go.Operand.tmp 62) (Go.Operand.tmp 63) 3, type := 3, pos := _, after := _, guard := _ }) (v := ?_) rfl (by kernel_rfl) (by kernel_rfl) (by kernel_rfl) (fun _ _ _ h => h) (Or.inl ⟨by rfl, ?_⟩) (by exact hHeld) ?_
    rotate_left
    · intro w hSw; go_simp; try with_reducible rfl
    try simp only [Act.put]
    try simp only [List.setIfInBounds_toArray]
    try simp only [List.set]
    refine wpAnyH_take (i := 14) (oi := { dst := some 65, op := Go.Op.slice 54 (Go.Operand.tmp 54) (some (Go.Operand.tmp 58)) (some (Go.Operand.tmp 64)) none, type := 54, pos := _, after := _, guard := _ }) (v := ?_) rfl (by kernel_rfl) (by kernel_rfl) (by kernel_rfl) (fun _ _ _ h => h) (Or.inl ⟨by rfl, ?_⟩) (by exact hHeld) ?_
    rotate_left
    · intro w hSw; go_simp; try with_reducible rfl
    try simp only [Act.put]
    try simp only [List.setIfInBounds_toArray]
    try simp only [List.set]
    refine wpAnyH_take (i := 15) (oi := { dst := some 5, op := Go.Op.assign (Go.Operand.tmp 65), type := 54, pos := _, after := _, guard := _ }) (v := ?_) rfl (by kernel_rfl) (by kernel_rfl) (by kernel_rfl) (fun _ _ _ h => h) (Or.inl ⟨by rfl, ?_⟩) (by exact hHeld) ?_
    rotate_left
    · intro w hSw; go_simp; try with_reducible rfl
    try simp only [Act.put]
    try simp only [List.setIfInBounds_toArray]
    try simp only [List.set]
    refine wpAnyH_done (by kernel_rfl) ?_ _
    have H4 := Lib.hid hHeld
    have HC5 := Lib.hid (HC4.out.drew)
    clear hHeld HD HC4
    generalize W4.drew = W5 at H4 HC5 ⊢
    rw [show Value.slice (some ⟨pb, off, none⟩) n 0 = P from HP.out]
    clear hcap b5
    obtain ⟨c0, c1, c2, c3, c4, c5, f⟩ := H4.out.rd.cells
    have f2 := f 2
    have H5 := Lib.hid (H4.out.putAt (t2 + n))
    have e2n : (((t2 + n : Nat)) : Int) = (t2 : Int) + (n : Int) := by omega
    rw [e2n] at H5
    simp only at c2 H5
    clear f e2n t1 t3 b1 b2 b3 b4 H4
    rcases hcase with ⟨hc1, hS⟩ | ⟨hc1, hS, hS2⟩
    · have hc2 : decide (128 ≤ (c.toNat : Int)) = false := decide_eq_false (by omega)
      have hcv := rb_conv (HSUB.out _ H5.out.x.chg)
      rw [← hS, HSB.out] at hcv
      have HS := Lib.hid hS
      clear hS
      go_wp2_with fail
      go_ret
      exact ⟨rfl, H5.out, HC5.out.set gr 2 _ (Or.inl rfl)⟩
    · have hc2 : decide (128 ≤ (c.toNat : Int)) = true := decide_eq_true (by omega)
      have HDC := Lib.hid (fun w' hr => decode_any P ((b.drop t2).take n) w' hr (by rw [List.length_take]; omega))
      rw [hS] at HDC
      simp only at HDC
      rw [HSB.out] at HDC
      have i9 : ¬ (SB.size : Int) > 65536 := by rw [HSZ.out]; omega
      have HS := Lib.hid hS
      clear hS
      go_wp2_with fail
      refine (HDC.out _ (HSUB.out _ H5.out.x.chg)).mono ?_
      rintro e w6 ⟨rfl, a6⟩
      have H6 := Lib.hid (H5.out.aft a6)
      have HA6 := Lib.hid a6
      clear a6 H5 HDC
      go_wp2_with fail
      go_ret
      exact ⟨rfl, H6.out, (HC5.out.set gr 2 _ (Or.inl rfl)).aft HA6.out⟩
  · rw [if_neg hcap] at HSUB
    obtain ⟨P, hP⟩ : ∃ P, Value.slice (some ⟨pb, off + t2, none⟩) n (cap - t2) = P := ⟨_, rfl⟩
    rw [hP] at HSUB
    have HP := Lib.hid hP
    clear hP
    refine wp_region_held_drew (S := fun w' => RS W0 w' B gu g gr vo0 vk (.slice (some ⟨pb, off, none⟩) b.length cap) top list { s with at_ := t2 } vr vo) (by kernel_rfl) HD.out (fun hHeld => ?_)
    refine wpAnyH_take (i := 0) (oi := { dst := some 51, op := Go.Op.move (Go.Operand.tmp 0), type := 107, pos := _, after := _, guard := _ }) (v := ?_) rfl (by kernel_rfl) (by kernel_rfl) (by kernel_rfl) (fun _ _ _ h => h) (Or.inl ⟨by rfl, ?_⟩) (by exact hHeld) ?_
    rotate_left
    · intro w hSw; go_simp; try with_reducible rfl
    try simp only [Act.put]
    try simp only [List.setIfInBounds_toArray]
    try simp only [List.set]
    refine wpAnyH_take (i := 1) (oi := { dst := some 52, op := Go.Op.nilCheck (Go.Operand.tmp 51), type := 0, pos := _, after := _, guard := _ }) (v := ?_) rfl (by kernel_rfl) (by kernel_rfl) (by kernel_rfl) (fun _ _ _ h => h) (Or.inl ⟨by rfl, ?_⟩) (by exact hHeld) ?_
    rotate_left
    · intro w hSw; go_simp; try with_reducible rfl
    try simp only [Act.put]
    try simp only [List.setIfInBounds_toArray]
    try simp only [List.set]
    refine wpAnyH_take (i := 2) (oi := { dst := some 53, op := Go.Op.fieldAddr 109 (Go.Operand.tmp 52) 1, type := 0, pos := _, after := _, guard := _ }) (v := ?_) rfl (by kernel_rfl) (by kernel_rfl) (by kernel_rfl) (fun _ _ _ h => h) (Or.inl ⟨by rfl, ?_⟩) (by exact hHeld) ?_
    rotate_left
    · intro w hSw; go_simp; try with_reducible rfl
    try simp only [Act.put]
    try simp only [List.setIfInBounds_toArray]
    try simp only [List.set]
    refine wpAnyH_take (i := 3) (oi := { dst := some 54, op := Go.Op.load 54 (Go.Operand.tmp 53), type := 54, pos := _, after := _, guard := _ }) (v := ?_) rfl (by kernel_rfl) (by kernel_rfl) (by kernel_rfl) (fun _ _ _ h => h) (Or.inl ⟨by rfl, ?_⟩) (by exact hHeld) ?_
    rotate_left
    · intro w hSw; obtain ⟨c0, c1, c2, c3, c4, c5, f⟩ := hSw.rd.cells; simp only at c2; go_simp; try with_reducible rfl
    try simp only [Act.put]
    try simp only [List.setIfInBounds_toArray]
    try simp only [List.set]
    refine wpAnyH_take (i := 4) (oi := { dst := some 55, op := Go.Op.move (Go.Operand.tmp 0), type := 107, pos := _, after := _, guard := _ }) (v := ?_) rfl (by kernel_rfl) (by kernel_rfl) (by kernel_rfl) (fun _ _ _ h => h) (Or.inl ⟨by rfl, ?_⟩) (by exact hHeld) ?_
    rotate_left
    · intro w hSw; go_simp; try with_reducible rfl
    try simp only [Act.put]
    try simp only [List.setIfInBounds_toArray]
    try simp only [List.set]
    refine wpAnyH_take (i := 5) (oi := { dst := some 56, op := Go.Op.nilCheck (Go.Operand.tmp 55), type := 0, pos := _, after := _, guard := _ }) (v := ?_) rfl (by kernel_rfl) (by kernel_rfl) (by kernel_rfl) (fun _ _ _ h => h) (Or.inl ⟨by rfl, ?_⟩) (by exact hHeld) ?_
    rotate_left
    · intro w hSw; go_simp; try with_reducible rfl
    try simp only [Act.put]
    try simp only [List.setIfInBounds_toArray]
    try simp only [List.set]
    refine wpAnyH_take (i := 6) (oi := { dst := some 57, op := Go.Op.fieldAddr 109 (Go.Operand.tmp 56) 2, type := 0, pos := _, after := _, guard := _ }) (v := ?_) rfl (by kernel_rfl) (by kernel_rfl) (by kernel_rfl) (fun _ _ _ h => h) (Or.inl ⟨by rfl, ?_⟩) (by exact hHeld) ?_
    rotate_left
    · intro w hSw; go_simp; try with_reducible rfl
    try simp only [Act.put]
    try simp only [List.setIfInBounds_toArray]
    try simp only [List.set]
    refine wpAnyH_take (i := 7) (oi := { dst := some 58, op := Go.Op.load 3 (Go.Operand.tmp 57), type := 3, pos := _, after := _, guard := _ }) (v := ?_) rfl (by kernel_rfl) (by kernel_rfl) (by kernel_rfl) (fun _ _ _ h => h) (Or.inl ⟨by rfl, ?_⟩) (by exact hHeld) ?_
    rotate_left
    · intro w hSw; obtain ⟨c0, c1, c2, c3, c4, c5, f⟩ := hSw.rd.cells; simp only at c2; go_simp; try with_reducible rfl
    try simp only [Act.put]
    try simp only [List.setIfInBounds_toArray]
    try simp only [List.set]
    refine wpAnyH_take (i := 8) (oi := { dst := some 59, op := Go.Op.move (Go.Operand.tmp 0), type := 107, pos := _, after := _, guard := _ }) (v := ?_) rfl (by kernel_rfl) (by kernel_rfl) (by kernel_rfl) (fun _ _ _ h => h) (Or.inl ⟨by rfl, ?_⟩) (by exact hHeld) ?_
    rotate_left
    · intro w hSw; go_simp; try with_reducible rfl
    try simp only [Act.put]
    try simp only [List.setIfInBounds_toArray]
    try simp only [List.set]
    refine wpAnyH_take (i := 9) (oi := { dst := some 60, op := Go.Op.nilCheck (Go.Operand.tmp 59), type := 0, pos := _, after := _, guard := _ }) (v := ?_) rfl (by kernel_rfl) (by kernel_rfl) (by kernel_rfl) (fun _ _ _ h => h) (Or.inl ⟨by rfl, ?_⟩) (by exact hHeld) ?_
    rotate_left
    · intro w hSw; go_simp; try with_reducible rfl
    try simp only [Act.put]
    try simp only [List.setIfInBounds_toArray]
    try simp only [List.set]
    refine wpAnyH_take (i := 10) (oi := { dst := some 61, op := Go.Op.fieldAddr 109 (Go.Operand.tmp 60) 2, type := 0, pos := _, after := _, guard := _ }) (v := ?_) rfl (by kernel_rfl) (by kernel_rfl) (by kernel_rfl) (fun _ _ _ h => h) (Or.inl ⟨by rfl, ?_⟩) (by exact hHeld) ?_
    rotate_left
    · intro w hSw; go_simp; try with_reducible rfl
    try simp only [Act.put]
    try simp only [List.setIfInBounds_toArray]
    try simp only [List.set]
    refine wpAnyH_take (i := 11) (oi := { dst := some 62, op := Go.Op.load 3 (Go.Operand.tmp 61), type := 3, pos := _, after := _, guard := _ }) (v := ?_) rfl (by kernel_rfl) (by kernel_rfl) (by kernel_rfl) (fun _ _ _ h => h) (Or.inl ⟨by rfl, ?_⟩) (by exact hHeld) ?_
    rotate_left
    · intro w hSw; obtain ⟨c0, c1, c2, c3, c4, c5, f⟩ := hSw.rd.cells; simp only at c2; go_simp; try with_reducible rfl
    try simp only [Act.put]
    try simp only [List.setIfInBounds_toArray]
    try simp only [List.set]
    refine wpAnyH_take (i := 12) (oi := { dst := some 63, op := Go.Op.move (Go.Operand.tmp 4), type := 3, pos := _, after := _, guard := _ }) (v := ?_) rfl (by kernel_rfl) (by kernel_rfl) (by kernel_rfl) (fun _ _ _ h => h) (Or.inl ⟨by rfl, ?_⟩) (by exact hHeld) ?_
    rotate_left
    · intro w hSw; go_simp; try with_reducible rfl
    try simp only [Act.put]
    try simp only [List.setIfInBounds_toArray]
    try simp only [List.set]
    refine wpAnyH_take (i := 13) (oi := { dst := some 64, op := Go.Op.binOp Go.BinOp.add 3 (Go.Operand.tmp 62) (Go.Operand.tmp 63) 3, type := 3, pos := _, after := _, guard := _ }) (v := ?_) rfl (by kernel_rfl) (by kernel_rfl) (by kernel_rfl) (fun _ _ _ h => h) (Or.inl ⟨by rfl, ?_⟩) (by exact hHeld) ?_
    rotate_left
    · intro w hSw; go_simp; try with_reducible rfl
    try simp only [Act.put]
    try simp only [List.setIfInBounds_toArray]
    try simp only [List.set]
    refine wpAnyH_take (i := 14) (oi := { dst := some 65, op := Go.Op.slice 54 (Go.Operand.tmp 54) (some (Go.Operand.tmp 58)) (some (Go.Operand.tmp 64)) none, type := 54, pos := _, after := _, guard := _ }) (v := ?_) rfl (by kernel_rfl) (by kernel_rfl) (by kernel_rfl) (fun _ _ _ h => h) (Or.inl ⟨by rfl, ?_⟩) (by exact hHeld) ?_
    rotate_left
    · intro w hSw; go_simp; try with_reducible rfl
    try simp only [Act.put]
    try simp only [List.setIfInBounds_toArray]
    try simp only [List.set]
    refine wpAnyH_take (i := 15) (oi := { dst := some 5, op := Go.Op.assign (Go.Operand.tmp 65), type := 54, pos := _, after := _, guard := _ }) (v := ?_) rfl (by kernel_rfl) (by kernel_rfl) (by kernel_rfl) (fun _ _ _ h => h) (Or.inl ⟨by rfl, ?_⟩) (by exact hHeld) ?_
    rotate_left
    · intro w hSw; go_simp; try with_reducible rfl
    try simp only [Act.put]
    try simp only [List.setIfInBounds_toArray]
    try simp only [List.set]
    refine wpAnyH_done (by kernel_rfl) ?_ _
    have H4 := Lib.hid hHeld
    have HC5 := Lib.hid (HC4.out.drew)
    clear hHeld HD HC4
    generalize W4.drew = W5 at H4 HC5 ⊢
    rw [show Value.slice (some ⟨pb, off + t2, none⟩) n (cap - t2) = P from HP.out]
    obtain ⟨c0, c1, c2, c3, c4, c5, f⟩ := H4.out.rd.cells
    have f2 := f 2
    have H5 := Lib.hid (H4.out.putAt (t2 + n))
    have e2n : (((t2 + n : Nat)) : Int) = (t2 : Int) + (n : Int) := by omega
    rw [e2n] at H5
    simp only at c2 H5
    clear f e2n t1 t3 b1 b2 b3 b4 H4
    rcases hcase with ⟨hc1, hS⟩ | ⟨hc1, hS, hS2⟩
    · have hc2 : decide (128 ≤ (c.toNat : Int)) = false := decide_eq_false (by omega)
      have hcv := rb_conv (HSUB.out _ H5.out.x.chg)
      rw [← hS, HSB.out] at hcv
      have HS := Lib.hid hS
      clear hS
      go_wp2_with fail
      go_ret
      exact ⟨rfl, H5.out, HC5.out.set gr 2 _ (Or.inl rfl)⟩
    · have hc2 : decide (128 ≤ (c.toNat : Int)) = true := decide_eq_true (by omega)
      have HDC := Lib.hid (fun w' hr => decode_any P ((b.drop t2).take n) w' hr (by rw [List.length_take]; omega))
      rw [hS] at HDC
      simp only at HDC
      rw [HSB.out] at HDC
      have i9 : ¬ (SB.size : Int) > 65536 := by rw [HSZ.out]; omega
      have HS := Lib.hid hS
      clear hS
      go_wp2_with fail
      refine (HDC.out _ (HSUB.out _ H5.out.x.chg)).mono ?_
      rintro e w6 ⟨rfl, a6⟩
      have H6 := Lib.hid (H5.out.aft a6)
      have HA6 := Lib.hid a6
      clear a6 H5 HDC
      go_wp2_with fail
      go_ret
      exact ⟨rfl, H6.out, (HC5.out.set gr 2 _ (Or.inl rfl)).aft HA6.out⟩
end Go.Proofs.YtmlnboibclfmcaaDoor
namespace Go.Proofs.YtmlnboibclfmcaaDoor
open Go.RowKit
set_option linter.unusedVariables false

set_option linter.unusedSimpArgs false in
set_option maxHeartbeats 16000000 in
set_option maxRecDepth 100000 in
theorem text_end {W0 w : World} {B gu g gr : Nat} {vo0 vk vr vo : Value} {top list : Int} {s : US} {va : Option Addr} {cap : Nat} {b : List UInt8} (hb : BR W0 g gr vo0 va cap b) (h : RS W0 w B gu g gr vo0 vk (.slice va b.length cap) top list s vr vo) (he : s.at_ = b.length) :
    Calls Tryd.prog 98 #[.pointer (some ⟨gr, 0, none⟩)] w fun e w' => (∃ a : Int, e = .panicked [fltV 3 a]) ∧ RX W0 w' B gu g gr vo0 vk top list s.tab s.most vo := by
  have HD : Hid (RS W0 w.drew B gu g gr vo0 vk (.slice va b.length cap) top list s vr vo) := Lib.hid (h.aft ((Aft.refl w).drew))
  have HAT := Lib.hid he
  clear hb h he
  go_enter Tryd.func98, Tryd.ntmps98
  go_upto_region 1 with fail
  refine wp_region_held_drew (S := fun w' => RS W0 w' B gu g gr vo0 vk (.slice va b.length cap) top list s vr vo) (by kernel_rfl) HD.out (fun hHeld => ?_)
  refine wpAnyH_take (i := 0) (oi := { dst := some 8, op := Go.Op.move (Go.Operand.tmp 0), type := 107, pos := _, after := _, guard := _ }) (v := ?_) rfl (by kernel_rfl) (by kernel_rfl) (by kernel_rfl) (fun _ _ _ h => h) (Or.inl ⟨by rfl, ?_⟩) (by exact hHeld) ?_
  rotate_left
  · intro w hSw; go_simp; try with_reducible rfl
  try simp only [Act.put]
  try simp only [List.setIfInBounds_toArray]
  try simp only [List.set]
  refine wpAnyH_take (i := 1) (oi := { dst := some 9, op := Go.Op.nilCheck (Go.Operand.tmp 8), type := 0, pos := _, after := _, guard := _ }) (v := ?_) rfl (by kernel_rfl) (by kernel_rfl) (by kernel_rfl) (fun _ _ _ h => h) (Or.inl ⟨by rfl, ?_⟩) (by exact hHeld) ?_
  rotate_left
  · intro w hSw; go_simp; try with_reducible rfl
  try simp only [Act.put]
  try simp only [List.setIfInBounds_toArray]
  try simp only [List.set]
  refine wpAnyH_take (i := 2) (oi := { dst := some 10, op := Go.Op.fieldAddr 109 (Go.Operand.tmp 9) 2, type := 0, pos := _, after := _, guard := _ }) (v := ?_) rfl (by kernel_rfl) (by kernel_rfl) (by kernel_rfl) (fun _ _ _ h => h) (Or.inl ⟨by rfl, ?_⟩) (by exact hHeld) ?_
  rotate_left
  · intro w hSw; go_simp; try with_reducible rfl
  try simp only [Act.put]
  try simp only [List.setIfInBounds_toArray]
  try simp only [List.set]
  refine wpAnyH_take (i := 3) (oi := { dst := some 11, op := Go.Op.load 3 (Go.Operand.tmp 10), type := 3, pos := _, after := _, guard := _ }) (v := ?_) rfl (by kernel_rfl) (by kernel_rfl) (by kernel_rfl) (fun _ _ _ h => h) (Or.inl ⟨by rfl, ?_⟩) (by exact hHeld) ?_
  rotate_left
  · intro w hSw; obtain ⟨c0, c1, c2, c3, c4, c5, f⟩ := hSw.rd.cells; rw [HAT.out] at c2; go_simp; try with_reducible rfl
  try simp only [Act.put]
  try simp only [List.setIfInBounds_toArray]
  try simp only [List.set]
  refine wpAnyH_take (i := 4) (oi := { dst := some 12, op := Go.Op.move (Go.Operand.tmp 0), type := 107, pos := _, after := _, guard := _ }) (v := ?_) rfl (by kernel_rfl) (by kernel_rfl) (by kernel_rfl) (fun _ _ _ h => h) (Or.inl ⟨by rfl, ?_⟩) (by exact hHeld) ?_
  rotate_left
  · intro w hSw; go_simp; try with_reducible rfl
  try simp only [Act.put]
  try simp only [List.setIfInBounds_toArray]
  try simp only [List.set]
  refine wpAnyH_take (i := 5) (oi := { dst := some 13, op := Go.Op.nilCheck (Go.Operand.tmp 12), type := 0, pos := _, after := _, guard := _ }) (v := ?_) rfl (by kernel_rfl) (by kernel_rfl) (by kernel_rfl) (fun _ _ _ h => h) (Or.inl ⟨by rfl, ?_⟩) (by exact hHeld) ?_
  rotate_left
  · intro w hSw; go_simp; try with_reducible rfl
  try simp only [Act.put]
  try simp only [List.setIfInBounds_toArray]
  try simp only [List.set]
  refine wpAnyH_take (i := 6) (oi := { dst := some 14, op := Go.Op.fieldAddr 109 (Go.Operand.tmp 13) 1, type := 0, pos := _, after := _, guard := _ }) (v := ?_) rfl (by kernel_rfl) (by kernel_rfl) (by kernel_rfl) (fun _ _ _ h => h) (Or.inl ⟨by rfl, ?_⟩) (by exact hHeld) ?_
  rotate_left
  · intro w hSw; go_simp; try with_reducible rfl
  try simp only [Act.put]
  try simp only [List.setIfInBounds_toArray]
  try simp only [List.set]
  refine wpAnyH_take (i := 7) (oi := { dst := some 15, op := Go.Op.load 54 (Go.Operand.tmp 14), type := 54, pos := _, after := _, guard := _ }) (v := ?_) rfl (by kernel_rfl) (by kernel_rfl) (by kernel_rfl) (fun _ _ _ h => h) (Or.inl ⟨by rfl, ?_⟩) (by exact hHeld) ?_
  rotate_left
  · intro w hSw; obtain ⟨c0, c1, c2, c3, c4, c5, f⟩ := hSw.rd.cells; rw [HAT.out] at c2; go_simp; try with_reducible rfl
  try simp only [Act.put]
  try simp only [List.setIfInBounds_toArray]
  try simp only [List.set]
  refine wpAnyH_take (i := 8) (oi := { dst := some 16, op := Go.Op.call { callee := Go.Callee.builtin Go.Builtin.len, args := #[Go.Operand.tmp 15], argTypes := #[54] }, type := 3, pos := _, after := _, guard := _ }) (v := ?_) rfl (by kernel_rfl) (by kernel_rfl) (by kernel_rfl) (fun _ _ _ h => h) (Or.inl ⟨by rfl, ?_⟩) (by exact hHeld) ?_
  rotate_left
  · intro w hSw; go_simp; try with_reducible rfl
  try simp only [Act.put]
  try simp only [List.setIfInBounds_toArray]
  try simp only [List.set]
  refine wpAnyH_take (i := 9) (oi := { dst := some 17, op := Go.Op.binOp Go.BinOp.eql 3 (Go.Operand.tmp 11) (Go.Operand.tmp 16) 3, type := 4, pos := _, after := _, guard := _ }) (v := ?_) rfl (by kernel_rfl) (by kernel_rfl) (by kernel_rfl) (fun _ _ _ h => h) (Or.inl ⟨by rfl, ?_⟩) (by exact hHeld) ?_
  rotate_left
  · intro w hSw; go_simp; try with_reducible rfl
  try simp only [Act.put]
  try simp only [List.setIfInBounds_toArray]
  try simp only [List.set]
  refine wpAnyH_done (by kernel_rfl) ?_ _
  have H1 := Lib.hid hHeld
  clear hHeld HD
  go_wp2_with fail
  refine (fail_any H1.out.rd 3).mono ?_
  rintro e9 w9 ⟨rfl, rfl⟩
  go_wp2_with fail
  exact ⟨rfl, ⟨_, rfl⟩, H1.out.x⟩
set_option linter.unusedSimpArgs false in
set_option maxHeartbeats 16000000 in
set_option maxRecDepth 100000 in
theorem text_num {W0 w : World} {B gu g gr : Nat} {vo0 vk vr vo : Value} {top list : Int} {s : US} {va : Option Addr} {cap : Nat} {b : List UInt8} (hb : BR W0 g gr vo0 va cap b) (h : RS W0 w B gu g gr vo0 vk (.slice va b.length cap) top list s vr vo) (c : UInt8) (hc : b[s.at_]? = some c) (he : (getL b s.at_ 7).2.2 ≠ 0) :
    Calls Tryd.prog 98 #[.pointer (some ⟨gr, 0, none⟩)] w fun e w' => (∃ a : Int, e = .panicked [fltV (getL b s.at_ 7).2.2 a]) ∧ RX W0 w' B gu g gr vo0 vk top list s.tab s.most vo := by
  obtain ⟨E, hE⟩ : ∃ E, (getL b s.at_ 7).2.2 = E := ⟨_, rfl⟩
  obtain ⟨hlt, hce⟩ := List.getElem?_eq_some_iff.1 hc
  have hne : b ≠ [] := by intro e; rw [e] at hlt; simp at hlt
  obtain ⟨pb, off, rfl, hcap1, hcap2, hcell⟩ := hb.at hne
  have HCB : Hid (∀ wx, Chg (TU gr g vo0) W0 wx → wx.cell? ⟨pb, off + s.at_, none⟩ = some (.int .u8 (c.toNat : Int))) := Lib.hid (fun wx hx => by have := hcell wx hx s.at_ hlt; rw [hce] at this; exact this)
  have HNM := Lib.hid (fun w' (h : RS W0 w' B gu g gr vo0 vk (.slice (some ⟨pb, off, none⟩) b.length cap) top list s vr vo) => number_no hb h (by omega) 7 (by omega) he)
  rw [hE] at HNM ⊢
  obtain ⟨at_, hat⟩ : ∃ a, s.at_ = a := ⟨_, rfl⟩
  rw [hat] at HCB hlt
  have HAT := Lib.hid hat
  have hlen := hb.len
  have HD : Hid (RS W0 w.drew B gu g gr vo0 vk (.slice (some ⟨pb, off, none⟩) b.length cap) top list s vr vo) := Lib.hid (h.aft ((Aft.refl w).drew))
  have i1 : (at_ : Int) < (b.length : Int) := by omega
  have i2 : ((at_ : Int) == (b.length : Int)) = false := by simp; omega
  have HLT := Lib.hid hlt
  clear hb h hc he hE hne hcell hce hat hlt
  go_enter Tryd.func98, Tryd.ntmps98
  go_upto_region 1 with fail
  refine wp_region_held_drew (S := fun w' => RS W0 w' B gu g gr vo0 vk (.slice (some ⟨pb, off, none⟩) b.length cap) top list s vr vo) (by kernel_rfl) HD.out (fun hHeld => ?_)
  refine wpAnyH_take (i := 0) (oi := { dst := some 8, op := Go.Op.move (Go.Operand.tmp 0), type := 107, pos := _, after := _, guard := _ }) (v := ?_) rfl (by kernel_rfl) (by kernel_rfl) (by kernel_rfl) (fun _ _ _ h => h) (Or.inl ⟨by rfl, ?_⟩) (by exact hHeld) ?_
  rotate_left
  · intro w hSw; go_simp; try with_reducible rfl
  try simp only [Act.put]
  try simp only [List.setIfInBounds_toArray]
  try simp only [List.set]
  refine wpAnyH_take (i := 1) (oi := { dst := some 9, op := Go.Op.nilCheck (Go.Operand.tmp 8), type := 0, pos := _, after := _, guard := _ }) (v := ?_) rfl (by kernel_rfl) (by kernel_rfl) (by kernel_rfl) (fun _ _ _ h => h) (Or.inl ⟨by rfl, ?_⟩) (by exact hHeld) ?_
  rotate_left
  · intro w hSw; go_simp; try with_reducible rfl
  try simp only [Act.put]
  try simp only [List.setIfInBounds_toArray]
  try simp only [List.set]
  refine wpAnyH_take (i := 2) (oi := { dst := some 10, op := Go.Op.fieldAddr 109 (Go.Operand.tmp 9) 2, type := 0, pos := _, after := _, guard := _ }) (v := ?_) rfl (by kernel_rfl) (by kernel_rfl) (by kernel_rfl) (fun _ _ _ h => h) (Or.inl ⟨by rfl, ?_⟩) (by exact hHeld) ?_
  rotate_left
  · intro w hSw; go_simp; try with_reducible rfl
  try simp only [Act.put]
  try simp only [List.setIfInBounds_toArray]
  try simp only [List.set]
  refine wpAnyH_take (i := 3) (oi := { dst := some 11, op := Go.Op.load 3 (Go.Operand.tmp 10), type := 3, pos := _, after := _, guard := _ }) (v := ?_) rfl (by kernel_rfl) (by kernel_rfl) (by kernel_rfl) (fun _ _ _ h => h) (Or.inl ⟨by rfl, ?_⟩) (by exact hHeld) ?_
  rotate_left
  · intro w hSw; obtain ⟨c0, c1, c2, c3, c4, c5, f⟩ := hSw.rd.cells; rw [HAT.out] at c2; go_simp; try with_reducible rfl
  try simp only [Act.put]
  try simp only [List.setIfInBounds_toArray]
  try simp only [List.set]
  refine wpAnyH_take (i := 4) (oi := { dst := some 12, op := Go.Op.move (Go.Operand.tmp 0), type := 107, pos := _, after := _, guard := _ }) (v := ?_) rfl (by kernel_rfl) (by kernel_rfl) (by kernel_rfl) (fun _ _ _ h => h) (Or.inl ⟨by rfl, ?_⟩) (by exact hHeld) ?_
  rotate_left
  · intro w hSw; go_simp; try with_reducible rfl
  try simp only [Act.put]
  try simp only [List.setIfInBounds_toArray]
  try simp only [List.set]
  refine wpAnyH_take (i := 5) (oi := { dst := some 13, op := Go.Op.nilCheck (Go.Operand.tmp 12), type := 0, pos := _, after := _, guard := _ }) (v := ?_) rfl (by kernel_rfl) (by kernel_rfl) (by kernel_rfl) (fun _ _ _ h => h) (Or.inl ⟨by rfl, ?_⟩) (by exact hHeld) ?_
  rotate_left
  · intro w hSw; go_simp; try with_reducible rfl
  try simp only [Act.put]
  try simp only [List.setIfInBounds_toArray]
  try simp only [List.set]
  refine wpAnyH_take (i := 6) (oi := { dst := some 14, op := Go.Op.fieldAddr 109 (Go.Operand.tmp 13) 1, type := 0, pos := _, after := _, guard := _ }) (v := ?_) rfl (by kernel_rfl) (by kernel_rfl) (by kernel_rfl) (fun _ _ _ h => h) (Or.inl ⟨by rfl, ?_⟩) (by exact hHeld) ?_
  rotate_left
  · intro w hSw; go_simp; try with_reducible rfl
  try simp only [Act.put]
  try simp only [List.setIfInBounds_toArray]
  try simp only [List.set]
  refine wpAnyH_take (i := 7) (oi := { dst := some 15, op := Go.Op.load 54 (Go.Operand.tmp 14), type := 54, pos := _, after := _, guard := _ }) (v := ?_) rfl (by kernel_rfl) (by kernel_rfl) (by kernel_rfl) (fun _ _ _ h => h) (Or.inl ⟨by rfl, ?_⟩) (by exact hHeld) ?_
  rotate_left
  · intro w hSw; obtain ⟨c0, c1, c2, c3, c4, c5, f⟩ := hSw.rd.cells; rw [HAT.out] at c2; go_simp; try with_reducible rfl
  try simp only [Act.put]
  try simp only [List.setIfInBounds_toArray]
  try simp only [List.set]
  refine wpAnyH_take (i := 8) (oi := { dst := some 16, op := Go.Op.call { callee := Go.Callee.builtin Go.Builtin.len, args := #[Go.Operand.tmp 15], argTypes := #[54] }, type := 3, pos := _, after := _, guard := _ }) (v := ?_) rfl (by kernel_rfl) (by kernel_rfl) (by kernel_rfl) (fun _ _ _ h => h) (Or.inl ⟨by rfl, ?_⟩) (by exact hHeld) ?_
  rotate_left
  · intro w hSw; go_simp; try with_reducible rfl
  try simp only [Act.put]
  try simp only [List.setIfInBounds_toArray]
  try simp only [List.set]
  refine wpAnyH_take (i := 9) (oi := { dst := some 17, op := Go.Op.binOp Go.BinOp.eql 3 (Go.Operand.tmp 11) (Go.Operand.tmp 16) 3, type := 4, pos := _, after := _, guard := _ }) (v := ?_) rfl (by kernel_rfl) (by kernel_rfl) (by kernel_rfl) (fun _ _ _ h => h) (Or.inl ⟨by rfl, ?_⟩) (by exact hHeld) ?_
  rotate_left
  · intro w hSw; go_simp; try with_reducible rfl
  try simp only [Act.put]
  try simp only [List.setIfInBounds_toArray]
  try simp only [List.set]
  refine wpAnyH_done (by kernel_rfl) ?_ _
  have H1 := Lib.hid hHeld
  have HC1 : Hid (Chg (fun k => k = gr) w w.drew) := Lib.hid ((Chg.refl _ w).drew)
  clear hHeld HD
  generalize w.drew = W1 at H1 HC1 ⊢
  go_upto_region 3 with fail
  have HD : Hid (RS W0 W1.drew B gu g gr vo0 vk (.slice (some ⟨pb, off, none⟩) b.length cap) top list s vr vo) := Lib.hid (H1.out.aft ((Aft.refl W1).drew))
  clear H1
  refine wp_region_held_drew (S := fun w' => RS W0 w' B gu g gr vo0 vk (.slice (some ⟨pb, off, none⟩) b.length cap) top list s vr vo) (by kernel_rfl) HD.out (fun hHeld => ?_)
  refine wpAnyH_take (i := 0) (oi := { dst := some 20, op := Go.Op.move (Go.Operand.tmp 0), type := 107, pos := _, after := _, guard := _ }) (v := ?_) rfl (by kernel_rfl) (by kernel_rfl) (by kernel_rfl) (fun _ _ _ h => h) (Or.inl ⟨by rfl, ?_⟩) (by exact hHeld) ?_
  rotate_left
  · intro w hSw; go_simp; try with_reducible rfl
  try simp only [Act.put]
  try simp only [List.setIfInBounds_toArray]
  try simp only [List.set]
  refine wpAnyH_take (i := 1) (oi := { dst := some 21, op := Go.Op.nilCheck (Go.Operand.tmp 20), type := 0, pos := _, after := _, guard := _ }) (v := ?_) rfl (by kernel_rfl) (by kernel_rfl) (by kernel_rfl) (fun _ _ _ h => h) (Or.inl ⟨by rfl, ?_⟩) (by exact hHeld) ?_
  rotate_left
  · intro w hSw; go_simp; try with_reducible rfl
  try simp only [Act.put]
  try simp only [List.setIfInBounds_toArray]
  try simp only [List.set]
  refine wpAnyH_take (i := 2) (oi := { dst := some 22, op := Go.Op.fieldAddr 109 (Go.Operand.tmp 21) 1, type := 0, pos := _, after := _, guard := _ }) (v := ?_) rfl (by kernel_rfl) (by kernel_rfl) (by kernel_rfl) (fun _ _ _ h => h) (Or.inl ⟨by rfl, ?_⟩) (by exact hHeld) ?_
  rotate_left
  · intro w hSw; go_simp; try with_reducible rfl
  try simp only [Act.put]
  try simp only [List.setIfInBounds_toArray]
  try simp only [List.set]
  refine wpAnyH_take (i := 3) (oi := { dst := some 23, op := Go.Op.load 54 (Go.Operand.tmp 22), type := 54, pos := _, after := _, guard := _ }) (v := ?_) rfl (by kernel_rfl) (by kernel_rfl) (by kernel_rfl) (fun _ _ _ h => h) (Or.inl ⟨by rfl, ?_⟩) (by exact hHeld) ?_
  rotate_left
  · intro w hSw; obtain ⟨c0, c1, c2, c3, c4, c5, f⟩ := hSw.rd.cells; rw [HAT.out] at c2; have hx := HCB.out _ hSw.x.chg; go_simp; try with_reducible rfl
  try simp only [Act.put]
  try simp only [List.setIfInBounds_toArray]
  try simp only [List.set]
  refine wpAnyH_take (i := 4) (oi := { dst := some 24, op := Go.Op.move (Go.Operand.tmp 0), type := 107, pos := _, after := _, guard := _ }) (v := ?_) rfl (by kernel_rfl) (by kernel_rfl) (by kernel_rfl) (fun _ _ _ h => h) (Or.inl ⟨by rfl, ?_⟩) (by exact hHeld) ?_
  rotate_left
  · intro w hSw; go_simp; try with_reducible rfl
  try simp only [Act.put]
  try simp only [List.setIfInBounds_toArray]
  try simp only [List.set]
  refine wpAnyH_take (i := 5) (oi := { dst := some 25, op := Go.Op.nilCheck (Go.Operand.tmp 24), type := 0, pos := _, after := _, guard := _ }) (v := ?_) rfl (by kernel_rfl) (by kernel_rfl) (by kernel_rfl) (fun _ _ _ h => h) (Or.inl ⟨by rfl, ?_⟩) (by exact hHeld) ?_
  rotate_left
  · intro w hSw; go_simp; try with_reducible rfl
  try simp only [Act.put]
  try simp only [List.setIfInBounds_toArray]
  try simp only [List.set]
  refine wpAnyH_take (i := 6) (oi := { dst := some 26, op := Go.Op.fieldAddr 109 (Go.Operand.tmp 25) 2, type := 0, pos := _, after := _, guard := _ }) (v := ?_) rfl (by kernel_rfl) (by kernel_rfl) (by kernel_rfl) (fun _ _ _ h => h) (Or.inl ⟨by rfl, ?_⟩) (by exact hHeld) ?_
  rotate_left
  · intro w hSw; go_simp; try with_reducible rfl
  try simp only [Act.put]
  try simp only [List.setIfInBounds_toArray]
  try simp only [List.set]
  refine wpAnyH_take (i := 7) (oi := { dst := some 27, op := Go.Op.load 3 (Go.Operand.tmp 26), type := 3, pos := _, after := _, guard := _ }) (v := ?_) rfl (by kernel_rfl) (by kernel_rfl) (by kernel_rfl) (fun _ _ _ h => h) (Or.inl ⟨by rfl, ?_⟩) (by exact hHeld) ?_
  rotate_left
  · intro w hSw; obtain ⟨c0, c1, c2, c3, c4, c5, f⟩ := hSw.rd.cells; rw [HAT.out] at c2; have hx := HCB.out _ hSw.x.chg; go_simp; try with_reducible rfl
  try simp only [Act.put]
  try simp only [List.setIfInBounds_toArray]
  try simp only [List.set]
  refine wpAnyH_take (i := 8) (oi := { dst := some 28, op := Go.Op.indexAddr 54 (Go.Operand.tmp 23) (Go.Operand.tmp 27), type := 0, pos := _, after := _, guard := _ }) (v := ?_) rfl (by kernel_rfl) (by kernel_rfl) (by kernel_rfl) (fun _ _ _ h => h) (Or.inl ⟨by rfl, ?_⟩) (by exact hHeld) ?_
  rotate_left
  · intro w hSw; go_simp; try with_reducible rfl
  try simp only [Act.put]
  try simp only [List.setIfInBounds_toArray]
  try simp only [List.set]
  refine wpAnyH_take (i := 9) (oi := { dst := some 29, op := Go.Op.load 5 (Go.Operand.tmp 28), type := 5, pos := _, after := _, guard := _ }) (v := ?_) rfl (by kernel_rfl) (by kernel_rfl) (by kernel_rfl) (fun _ _ _ h => h) (Or.inl ⟨by rfl, ?_⟩) (by exact hHeld) ?_
  rotate_left
  · intro w hSw; obtain ⟨c0, c1, c2, c3, c4, c5, f⟩ := hSw.rd.cells; rw [HAT.out] at c2; have hx := HCB.out _ hSw.x.chg; go_simp; try with_reducible rfl
  try simp only [Act.put]
  try simp only [List.setIfInBounds_toArray]
  try simp only [List.set]
  refine wpAnyH_take (i := 10) (oi := { dst := some 30, op := Go.Op.binOp Go.BinOp.geq 5 (Go.Operand.tmp 29) (Go.Operand.const (Go.Value.int Go.IntKind.u8 128)) 5, type := 4, pos := _, after := _, guard := _ }) (v := ?_) rfl (by kernel_rfl) (by kernel_rfl) (by kernel_rfl) (fun _ _ _ h => h) (Or.inl ⟨by rfl, ?_⟩) (by exact hHeld) ?_
  rotate_left
  · intro w hSw; go_simp; try with_reducible rfl
  try simp only [Act.put]
  try simp only [List.setIfInBounds_toArray]
  try simp only [List.set]
  refine wpAnyH_take (i := 11) (oi := { dst := some 3, op := Go.Op.assign (Go.Operand.tmp 30), type := 4, pos := _, after := _, guard := _ }) (v := ?_) rfl (by kernel_rfl) (by kernel_rfl) (by kernel_rfl) (fun _ _ _ h => h) (Or.inl ⟨by rfl, ?_⟩) (by exact hHeld) ?_
  rotate_left
  · intro w hSw; go_simp; try with_reducible rfl
  try simp only [Act.put]
  try simp only [List.setIfInBounds_toArray]
  try simp only [List.set]
  refine wpAnyH_done (by kernel_rfl) ?_ _
  have H2 := Lib.hid hHeld
  have HC2 := Lib.hid (HC1.out.drew)
  clear hHeld HD HC1
  generalize W1.drew = W2 at H2 HC2 ⊢
  clear i2
  go_wp2_with fail
  refine (HNM.out _ H2.out).mono ?_
  rintro e w3 ⟨a9, rfl, h3⟩
  have H3 := Lib.hid h3
  clear h3 H2 HNM HCB
  go_wp2_with fail
  exact ⟨rfl, ⟨_, rfl⟩, H3.out⟩
set_option linter.unusedSimpArgs false in
set_option maxHeartbeats 16000000 in
set_option maxRecDepth 100000 in
theorem text_big {W0 w : World} {B gu g gr : Nat} {vo0 vk vr vo : Value} {top list : Int} {s : US} {va : Option Addr} {cap : Nat} {b : List UInt8} (hb : BR W0 g gr vo0 va cap b) (h : RS W0 w B gu g gr vo0 vk (.slice va b.length cap) top list s vr vo) (c : UInt8) (hc : b[s.at_]? = some c) (n t2 : Nat) (hgl : getL b s.at_ 7 = (n, t2, 0)) (hn : 65536 < n) :
    Calls Tryd.prog 98 #[.pointer (some ⟨gr, 0, none⟩)] w fun e w' => (∃ a : Int, e = .panicked [fltV 2 a]) ∧ RX W0 w' B gu g gr vo0 vk top list s.tab s.most vo := by
  obtain ⟨hlt, hce⟩ := List.getElem?_eq_some_iff.1 hc
  have hne : b ≠ [] := by intro e; rw [e] at hlt; simp at hlt
  obtain ⟨pb, off, rfl, hcap1, hcap2, hcell⟩ := hb.at hne
  have HCB : Hid (∀ wx, Chg (TU gr g vo0) W0 wx → wx.cell? ⟨pb, off + s.at_, none⟩ = some (.int .u8 (c.toNat : Int))) := Lib.hid (fun wx hx => by have := hcell wx hx s.at_ hlt; rw [hce] at this; exact this)
  have HNM := Lib.hid (fun w' (h : RS W0 w' B gu g gr vo0 vk (.slice (some ⟨pb, off, none⟩) b.length cap) top list s vr vo) => number_ok hb h (by omega) 7 (by omega) (by rw [hgl]))
  rw [hgl] at HNM
  simp only at HNM
  obtain ⟨at_, hat⟩ : ∃ a, s.at_ = a := ⟨_, rfl⟩
  rw [hat] at HCB hlt
  have HAT := Lib.hid hat
  have hlen := hb.len
  have HD : Hid (RS W0 w.drew B gu g gr vo0 vk (.slice (some ⟨pb, off, none⟩) b.length cap) top list s vr vo) := Lib.hid (h.aft ((Aft.refl w).drew))
  have i1 : (at_ : Int) < (b.length : Int) := by omega
  have i2 : ((at_ : Int) == (b.length : Int)) = false := by simp; omega
  have HLT := Lib.hid hlt
  clear hb h hc hgl hne hcell hce hat hlt
  go_enter Tryd.func98, Tryd.ntmps98
  go_upto_region 1 with fail
  refine wp_region_held_drew (S := fun w' => RS W0 w' B gu g gr vo0 vk (.slice (some ⟨pb, off, none⟩) b.length cap) top list s vr vo) (by kernel_rfl) HD.out (fun hHeld => ?_)
  refine wpAnyH_take (i := 0) (oi := { dst := some 8, op := Go.Op.move (Go.Operand.tmp 0), type := 107, pos := _, after := _, guard := _ }) (v := ?_) rfl (by kernel_rfl) (by kernel_rfl) (by kernel_rfl) (fun _ _ _ h => h) (Or.inl ⟨by rfl, ?_⟩) (by exact hHeld) ?_
  rotate_left
  · intro w hSw; go_simp; try with_reducible rfl
  try simp only [Act.put]
  try simp only [List.setIfInBounds_toArray]
  try simp only [List.set]
  refine wpAnyH_take (i := 1) (oi := { dst := some 9, op := Go.Op.nilCheck (Go.Operand.tmp 8), type := 0, pos := _, after := _, guard := _ }) (v := ?_) rfl (by kernel_rfl) (by kernel_rfl) (by kernel_rfl) (fun _ _ _ h => h) (Or.inl ⟨by rfl, ?_⟩) (by exact hHeld) ?_
  rotate_left
  · intro w hSw; go_simp; try with_reducible rfl
  try simp only [Act.put]
  try simp only [List.setIfInBounds_toArray]
  try simp only [List.set]
  refine wpAnyH_take (i := 2) (oi := { dst := some 10, op := Go.Op.fieldAddr 109 (Go.Operand.tmp 9) 2, type := 0, pos := _, after := _, guard := _ }) (v := ?_) rfl (by kernel_rfl) (by kernel_rfl) (by kernel_rfl) (fun _ _ _ h => h) (Or.inl ⟨by rfl, ?_⟩) (by exact hHeld) ?_
  rotate_left
  · intro w hSw; go_simp; try with_reducible rfl
  try simp only [Act.put]
  try simp only [List.setIfInBounds_toArray]
  try simp only [List.set]
  refine wpAnyH_take (i := 3) (oi := { dst := some 11, op := Go.Op.load 3 (Go.Operand.tmp 10), type := 3, pos := _, after := _, guard := _ }) (v := ?_) rfl (by kernel_rfl) (by kernel_rfl) (by kernel_rfl) (fun _ _ _ h => h) (Or.inl ⟨by rfl, ?_⟩) (by exact hHeld) ?_
  rotate_left
  · intro w hSw; obtain ⟨c0, c1, c2, c3, c4, c5, f⟩ := hSw.rd.cells; rw [HAT.out] at c2; go_simp; try with_reducible rfl
  try simp only [Act.put]
  try simp only [List.setIfInBounds_toArray]
  try simp only [List.set]
  refine wpAnyH_take (i := 4) (oi := { dst := some 12, op := Go.Op.move (Go.Operand.tmp 0), type := 107, pos := _, after := _, guard := _ }) (v := ?_) rfl (by kernel_rfl) (by kernel_rfl) (by kernel_rfl) (fun _ _ _ h => h) (Or.inl ⟨by rfl, ?_⟩) (by exact hHeld) ?_
  rotate_left
  · intro w hSw; go_simp; try with_reducible rfl
  try simp only [Act.put]
  try simp only [List.setIfInBounds_toArray]
  try simp only [List.set]
  refine wpAnyH_take (i := 5) (oi := { dst := some 13, op := Go.Op.nilCheck (Go.Operand.tmp 12), type := 0, pos := _, after := _, guard := _ }) (v := ?_) rfl (by kernel_rfl) (by kernel_rfl) (by kernel_rfl) (fun _ _ _ h => h) (Or.inl ⟨by rfl, ?_⟩) (by exact hHeld) ?_
  rotate_left
  · intro w hSw; go_simp; try with_reducible rfl
  try simp only [Act.put]
  try simp only [List.setIfInBounds_toArray]
  try simp only [List.set]
  refine wpAnyH_take (i := 6) (oi := { dst := some 14, op := Go.Op.fieldAddr 109 (Go.Operand.tmp 13) 1, type := 0, pos := _, after := _, guard := _ }) (v := ?_) rfl (by kernel_rfl) (by kernel_rfl) (by kernel_rfl) (fun _ _ _ h => h) (Or.inl ⟨by rfl, ?_⟩) (by exact hHeld) ?_
  rotate_left
  · intro w hSw; go_simp; try with_reducible rfl
  try simp only [Act.put]
  try simp only [List.setIfInBounds_toArray]
  try simp only [List.set]
  refine wpAnyH_take (i := 7) (oi := { dst := some 15, op := Go.Op.load 54 (Go.Operand.tmp 14), type := 54, pos := _, after := _, guard := _ }) (v := ?_) rfl (by kernel_rfl) (by kernel_rfl) (by kernel_rfl) (fun _ _ _ h => h) (Or.inl ⟨by rfl, ?_⟩) (by exact hHeld) ?_
  rotate_left
  · intro w hSw; obtain ⟨c0, c1, c2, c3, c4, c5, f⟩ := hSw.rd.cells; rw [HAT.out] at c2; go_simp; try with_reducible rfl
  try simp only [Act.put]
  try simp only [List.setIfInBounds_toArray]
  try simp only [List.set]
  refine wpAnyH_take (i := 8) (oi := { dst := some 16, op := Go.Op.call { callee := Go.Callee.builtin Go.Builtin.len, args := #[Go.Operand.tmp 15], argTypes := #[54] }, type := 3, pos := _, after := _, guard := _ }) (v := ?_) rfl (by kernel_rfl) (by kernel_rfl) (by kernel_rfl) (fun _ _ _ h => h) (Or.inl ⟨by rfl, ?_⟩) (by exact hHeld) ?_
  rotate_left
  · intro w hSw; go_simp; try with_reducible rfl
  try simp only [Act.put]
  try simp only [List.setIfInBounds_toArray]
  try simp only [List.set]
  refine wpAnyH_take (i := 9) (oi := { dst := some 17, op := Go.Op.binOp Go.BinOp.eql 3 (Go.Operand.tmp 11) (Go.Operand.tmp 16) 3, type := 4, pos := _, after := _, guard := _ }) (v := ?_) rfl (by kernel_rfl) (by kernel_rfl) (by kernel_rfl) (fun _ _ _ h => h) (Or.inl ⟨by rfl, ?_⟩) (by exact hHeld) ?_
  rotate_left
  · intro w hSw; go_simp; try with_reducible rfl
  try simp only [Act.put]
  try simp only [List.setIfInBounds_toArray]
  try simp only [List.set]
  refine wpAnyH_done (by kernel_rfl) ?_ _
  have H1 := Lib.hid hHeld
  have HC1 : Hid (Chg (fun k => k = gr) w w.drew) := Lib.hid ((Chg.refl _ w).drew)
  clear hHeld HD
  generalize w.drew = W1 at H1 HC1 ⊢
  go_upto_region 3 with fail
  have HD : Hid (RS W0 W1.drew B gu g gr vo0 vk (.slice (some ⟨pb, off, none⟩) b.length cap) top list s vr vo) := Lib.hid (H1.out.aft ((Aft.refl W1).drew))
  clear H1
  refine wp_region_held_drew (S := fun w' => RS W0 w' B gu g gr vo0 vk (.slice (some ⟨pb, off, none⟩) b.length cap) top list s vr vo) (by kernel_rfl) HD.out (fun hHeld => ?_)
  refine wpAnyH_take (i := 0) (oi := { dst := some 20, op := Go.Op.move (Go.Operand.tmp 0), type := 107, pos := _, after := _, guard := _ }) (v := ?_) rfl (by kernel_rfl) (by kernel_rfl) (by kernel_rfl) (fun _ _ _ h => h) (Or.inl ⟨by rfl, ?_⟩) (by exact hHeld) ?_
  rotate_left
  · intro w hSw; go_simp; try with_reducible rfl
  try simp only [Act.put]
  try simp only [List.setIfInBounds_toArray]
  try simp only [List.set]
  refine wpAnyH_take (i := 1) (oi := { dst := some 21, op := Go.Op.nilCheck (Go.Operand.tmp 20), type := 0, pos := _, after := _, guard := _ }) (v := ?_) rfl (by kernel_rfl) (by kernel_rfl) (by kernel_rfl) (fun _ _ _ h => h) (Or.inl ⟨by rfl, ?_⟩) (by exact hHeld) ?_
  rotate_left
  · intro w hSw; go_simp; try with_reducible rfl
  try simp only [Act.put]
  try simp only [List.setIfInBounds_toArray]
  try simp only [List.set]
  refine wpAnyH_take (i := 2) (oi := { dst := some 22, op := Go.Op.fieldAddr 109 (Go.Operand.tmp 21) 1, type := 0, pos := _, after := _, guard := _ }) (v := ?_) rfl (by kernel_rfl) (by kernel_rfl) (by kernel_rfl) (fun _ _ _ h => h) (Or.inl ⟨by rfl, ?_⟩) (by exact hHeld) ?_
  rotate_left
  · intro w hSw; go_simp; try with_reducible rfl
  try simp only [Act.put]
  try simp only [List.setIfInBounds_toArray]
  try simp only [List.set]
  refine wpAnyH_take (i := 3) (oi := { dst := some 23, op := Go.Op.load 54 (Go.Operand.tmp 22), type := 54, pos := _, after := _, guard := _ }) (v := ?_) rfl (by kernel_rfl) (by kernel_rfl) (by kernel_rfl) (fun _ _ _ h => h) (Or.inl ⟨by rfl, ?_⟩) (by exact hHeld) ?_
  rotate_left
  · intro w hSw; obtain ⟨c0, c1, c2, c3, c4, c5, f⟩ := hSw.rd.cells; rw [HAT.out] at c2; have hx := HCB.out _ hSw.x.chg; go_simp; try with_reducible rfl
  try simp only [Act.put]
  try simp only [List.setIfInBounds_toArray]
  try simp only [List.set]
  refine wpAnyH_take (i := 4) (oi := { dst := some 24, op := Go.Op.move (Go.Operand.tmp 0), type := 107, pos := _, after := _, guard := _ }) (v := ?_) rfl (by kernel_rfl) (by kernel_rfl) (by kernel_rfl) (fun _ _ _ h => h) (Or.inl ⟨by rfl, ?_⟩) (by exact hHeld) ?_
  rotate_left
  · intro w hSw; go_simp; try with_reducible rfl
  try simp only [Act.put]
  try simp only [List.setIfInBounds_toArray]
  try simp only [List.set]
  refine wpAnyH_take (i := 5) (oi := { dst := some 25, op := Go.Op.nilCheck (Go.Operand.tmp 24), type := 0, pos := _, after := _, guard := _ }) (v := ?_) rfl (by kernel_rfl) (by kernel_rfl) (by kernel_rfl) (fun _ _ _ h => h) (Or.inl ⟨by rfl, ?_⟩) (by exact hHeld) ?_
  rotate_left
  · intro w hSw; go_simp; try with_reducible rfl
  try simp only [Act.put]
  try simp only [List.setIfInBounds_toArray]
  try simp only [List.set]
  refine wpAnyH_take (i := 6) (oi := { dst := some 26, op := Go.Op.fieldAddr 109 (Go.Operand.tmp 25) 2, type := 0, pos := _, after := _, guard := _ }) (v := ?_) rfl (by kernel_rfl) (by kernel_rfl) (by kernel_rfl) (fun _ _ _ h => h) (Or.inl ⟨by rfl, ?_⟩) (by exact hHeld) ?_
  rotate_left
  · intro w hSw; go_simp; try with_reducible rfl
  try simp only [Act.put]
  try simp only [List.setIfInBounds_toArray]
  try simp only [List.set]
  refine wpAnyH_take (i := 7) (oi := { dst := some 27, op := Go.Op.load 3 (Go.Operand.tmp 26), type := 3, pos := _, after := _, guard := _ }) (v := ?_) rfl (by kernel_rfl) (by kernel_rfl) (by kernel_rfl) (fun _ _ _ h => h) (Or.inl ⟨by rfl, ?_⟩) (by exact hHeld) ?_
  rotate_left
  · intro w hSw; obtain ⟨c0, c1, c2, c3, c4, c5, f⟩ := hSw.rd.cells; rw [HAT.out] at c2; have hx := HCB.out _ hSw.x.chg; go_simp; try with_reducible rfl
  try simp only [Act.put]
  try simp only [List.setIfInBounds_toArray]
  try simp only [List.set]
  refine wpAnyH_take (i := 8) (oi := { dst := some 28, op := Go.Op.indexAddr 54 (Go.Operand.tmp 23) (Go.Operand.tmp 27), type := 0, pos := _, after := _, guard := _ }) (v := ?_) rfl (by kernel_rfl) (by kernel_rfl) (by kernel_rfl) (fun _ _ _ h => h) (Or.inl ⟨by rfl, ?_⟩) (by exact hHeld) ?_
  rotate_left
  · intro w hSw; go_simp; try with_reducible rfl
  try simp only [Act.put]
  try simp only [List.setIfInBounds_toArray]
  try simp only [List.set]
  refine wpAnyH_take (i := 9) (oi := { dst := some 29, op := Go.Op.load 5 (Go.Operand.tmp 28), type := 5, pos := _, after := _, guard := _ }) (v := ?_) rfl (by kernel_rfl) (by kernel_rfl) (by kernel_rfl) (fun _ _ _ h => h) (Or.inl ⟨by rfl, ?_⟩) (by exact hHeld) ?_
  rotate_left
  · intro w hSw; obtain ⟨c0, c1, c2, c3, c4, c5, f⟩ := hSw.rd.cells; rw [HAT.out] at c2; have hx := HCB.out _ hSw.x.chg; go_simp; try with_reducible rfl
  try simp only [Act.put]
  try simp only [List.setIfInBounds_toArray]
  try simp only [List.set]
  refine wpAnyH_take (i := 10) (oi := { dst := some 30, op := Go.Op.binOp Go.BinOp.geq 5 (Go.Operand.tmp 29) (Go.Operand.const (Go.Value.int Go.IntKind.u8 128)) 5, type := 4, pos := _, after := _, guard := _ }) (v := ?_) rfl (by kernel_rfl) (by kernel_rfl) (by kernel_rfl) (fun _ _ _ h => h) (Or.inl ⟨by rfl, ?_⟩) (by exact hHeld) ?_
  rotate_left
  · intro w hSw; go_simp; try with_reducible rfl
  try simp only [Act.put]
  try simp only [List.setIfInBounds_toArray]
  try simp only [List.set]
  refine wpAnyH_take (i := 11) (oi := { dst := some 3, op := Go.Op.assign (Go.Operand.tmp 30), type := 4, pos := _, after := _, guard := _ }) (v := ?_) rfl (by kernel_rfl) (by kernel_rfl) (by kernel_rfl) (fun _ _ _ h => h) (Or.inl ⟨by rfl, ?_⟩) (by exact hHeld) ?_
  rotate_left
  · intro w hSw; go_simp; try with_reducible rfl
  try simp only [Act.put]
  try simp only [List.setIfInBounds_toArray]
  try simp only [List.set]
  refine wpAnyH_done (by kernel_rfl) ?_ _
  have H2 := Lib.hid hHeld
  have HC2 := Lib.hid (HC1.out.drew)
  clear hHeld HD HC1
  generalize W1.drew = W2 at H2 HC2 ⊢
  clear i2
  go_wp2_with fail
  refine (HNM.out _ H2.out).mono ?_
  rintro e w3 ⟨rfl, h3, k3⟩
  have H3 := Lib.hid h3
  have HC3 := Lib.hid (HC2.out.trans k3 (fun i hi => Or.inl hi))
  clear h3 k3 H2 HNM HCB HC2
  have n5 : (n : Int) > 65536 := by omega
  go_wp2_with fail
  refine (fail_any H3.out.rd 2).mono ?_
  rintro e9 w9 ⟨rfl, rfl⟩
  go_wp2_with fail
  exact ⟨rfl, ⟨_, rfl⟩, H3.out.x⟩
set_option linter.unusedSimpArgs false in
set_option maxHeartbeats 16000000 in
set_option maxRecDepth 100000 in
theorem text_sho {W0 w : World} {B gu g gr : Nat} {vo0 vk vr vo : Value} {top list : Int} {s : US} {va : Option Addr} {cap : Nat} {b : List UInt8} (hb : BR W0 g gr vo0 va cap b) (h : RS W0 w B gu g gr vo0 vk (.slice va b.length cap) top list s vr vo) (c : UInt8) (hc : b[s.at_]? = some c) (n t2 : Nat) (hgl : getL b s.at_ 7 = (n, t2, 0)) (hn1 : n ≤ 65536) (hn2 : b.length < t2 + n) (ht : t2 ≤ b.length) :
    Calls Tryd.prog 98 #[.pointer (some ⟨gr, 0, none⟩)] w fun e w' => (∃ a : Int, e = .panicked [fltV 3 a]) ∧ RX W0 w' B gu g gr vo0 vk top list s.tab s.most vo := by
  obtain ⟨hlt, hce⟩ := List.getElem?_eq_some_iff.1 hc
  have hne : b ≠ [] := by intro e; rw [e] at hlt; simp at hlt
  obtain ⟨pb, off, rfl, hcap1, hcap2, hcell⟩ := hb.at hne
  have HCB : Hid (∀ wx, Chg (TU gr g vo0) W0 wx → wx.cell? ⟨pb, off + s.at_, none⟩ = some (.int .u8 (c.toNat : Int))) := Lib.hid (fun wx hx => by have := hcell wx hx s.at_ hlt; rw [hce] at this; exact this)
  have HNM := Lib.hid (fun w' (h : RS W0 w' B gu g gr vo0 vk (.slice (some ⟨pb, off, none⟩) b.length cap) top list s vr vo) => number_ok hb h (by omega) 7 (by omega) (by rw [hgl]))
  rw [hgl] at HNM
  simp only at HNM
  obtain ⟨at_, hat⟩ : ∃ a, s.at_ = a := ⟨_, rfl⟩
  rw [hat] at HCB hlt
  have HAT := Lib.hid hat
  have hlen := hb.len
  have HD : Hid (RS W0 w.drew B gu g gr vo0 vk (.slice (some ⟨pb, off, none⟩) b.length cap) top list s vr vo) := Lib.hid (h.aft ((Aft.refl w).drew))
  have i1 : (at_ : Int) < (b.length : Int) := by omega
  have i2 : ((at_ : Int) == (b.length : Int)) = false := by simp; omega
  have HLT := Lib.hid hlt
  clear hb h hc hgl hne hcell hce hat hlt
  go_enter Tryd.func98, Tryd.ntmps98
  go_upto_region 1 with fail
  refine wp_region_held_drew (S := fun w' => RS W0 w' B gu g gr vo0 vk (.slice (some ⟨pb, off, none⟩) b.length cap) top list s vr vo) (by kernel_rfl) HD.out (fun hHeld => ?_)
  refine wpAnyH_take (i := 0) (oi := { dst := some 8, op := Go.Op.move (Go.Operand.tmp 0), type := 107, pos := _, after := _, guard := _ }) (v := ?_) rfl (by kernel_rfl) (by kernel_rfl) (by kernel_rfl) (fun _ _ _ h => h) (Or.inl ⟨by rfl, ?_⟩) (by exact hHeld) ?_
  rotate_left
  · intro w hSw; go_simp; try with_reducible rfl
  try simp only [Act.put]
  try simp only [List.setIfInBounds_toArray]
  try simp only [List.set]
  refine wpAnyH_take (i := 1) (oi := { dst := some 9, op := Go.Op.nilCheck (Go.Operand.tmp 8), type := 0, pos := _, after := _, guard := _ }) (v := ?_) rfl (by kernel_rfl) (by kernel_rfl) (by kernel_rfl) (fun _ _ _ h => h) (Or.inl ⟨by rfl, ?_⟩) (by exact hHeld) ?_
  rotate_left
  · intro w hSw; go_simp; try with_reducible rfl
  try simp only [Act.put]
  try simp only [List.setIfInBounds_toArray]
  try simp only [List.set]
  refine wpAnyH_take (i := 2) (oi := { dst := some 10, op := Go.Op.fieldAddr 109 (Go.Operand.tmp 9) 2, type := 0, pos := _, after := _, guard := _ }) (v := ?_) rfl (by kernel_rfl) (by kernel_rfl) (by kernel_rfl) (fun _ _ _ h => h) (Or.inl ⟨by rfl, ?_⟩) (by exact hHeld) ?_
  rotate_left
  · intro w hSw; go_simp; try with_reducible rfl
  try simp only [Act.put]
  try simp only [List.setIfInBounds_toArray]
  try simp only [List.set]
  refine wpAnyH_take (i := 3) (oi := { dst := some 11, op := Go.Op.load 3 (Go.Operand.tmp 10), type := 3, pos := _, after := _, guard := _ }) (v := ?_) rfl (by kernel_rfl) (by kernel_rfl) (by kernel_rfl) (fun _ _ _ h => h) (Or.inl ⟨by rfl, ?_⟩) (by exact hHeld) ?_
  rotate_left
  · intro w hSw; obtain ⟨c0, c1, c2, c3, c4, c5, f⟩ := hSw.rd.cells; rw [HAT.out] at c2; go_simp; try with_reducible rfl
  try simp only [Act.put]
  try simp only [List.setIfInBounds_toArray]
  try simp only [List.set]
  refine wpAnyH_take (i := 4) (oi := { dst := some 12, op := Go.Op.move (Go.Operand.tmp 0), type := 107, pos := _, after := _, guard := _ }) (v := ?_) rfl (by kernel_rfl) (by kernel_rfl) (by kernel_rfl) (fun _ _ _ h => h) (Or.inl ⟨by rfl, ?_⟩) (by exact hHeld) ?_
  rotate_left
  · intro w hSw; go_simp; try with_reducible rfl
  try simp only [Act.put]
  try simp only [List.setIfInBounds_toArray]
  try simp only [List.set]
  refine wpAnyH_take (i := 5) (oi := { dst := some 13, op := Go.Op.nilCheck (Go.Operand.tmp 12), type := 0, pos := _, after := _, guard := _ }) (v := ?_) rfl (by kernel_rfl) (by kernel_rfl) (by kernel_rfl) (fun _ _ _ h => h) (Or.inl ⟨by rfl, ?_⟩) (by exact hHeld) ?_
  rotate_left
  · intro w hSw; go_simp; try with_reducible rfl
  try simp only [Act.put]
  try simp only [List.setIfInBounds_toArray]
  try simp only [List.set]
  refine wpAnyH_take (i := 6) (oi := { dst := some 14, op := Go.Op.fieldAddr 109 (Go.Operand.tmp 13) 1, type := 0, pos := _, after := _, guard := _ }) (v := ?_) rfl (by kernel_rfl) (by kernel_rfl) (by kernel_rfl) (fun _ _ _ h => h) (Or.inl ⟨by rfl, ?_⟩) (by exact hHeld) ?_
  rotate_left
  · intro w hSw; go_simp; try with_reducible rfl
  try simp only [Act.put]
  try simp only [List.setIfInBounds_toArray]
  try simp only [List.set]
  refine wpAnyH_take (i := 7) (oi := { dst := some 15, op := Go.Op.load 54 (Go.Operand.tmp 14), type := 54, pos := _, after := _, guard := _ }) (v := ?_) rfl (by kernel_rfl) (by kernel_rfl) (by kernel_rfl) (fun _ _ _ h => h) (Or.inl ⟨by rfl, ?_⟩) (by exact hHeld) ?_
  rotate_left
  · intro w hSw; obtain ⟨c0, c1, c2, c3, c4, c5, f⟩ := hSw.rd.cells; rw [HAT.out] at c2; go_simp; try with_reducible rfl
  try simp only [Act.put]
  try simp only [List.setIfInBounds_toArray]
  try simp only [List.set]
  refine wpAnyH_take (i := 8) (oi := { dst := some 16, op := Go.Op.call { callee := Go.Callee.builtin Go.Builtin.len, args := #[Go.Operand.tmp 15], argTypes := #[54] }, type := 3, pos := _, after := _, guard := _ }) (v := ?_) rfl (by kernel_rfl) (by kernel_rfl) (by kernel_rfl) (fun _ _ _ h => h) (Or.inl ⟨by rfl, ?_⟩) (by exact hHeld) ?_
  rotate_left
  · intro w hSw; go_simp; try with_reducible rfl
  try simp only [Act.put]
  try simp only [List.setIfInBounds_toArray]
  try simp only [List.set]
  refine wpAnyH_take (i := 9) (oi := { dst := some 17, op := Go.Op.binOp Go.BinOp.eql 3 (Go.Operand.tmp 11) (Go.Operand.tmp 16) 3, type := 4, pos := _, after := _, guard := _ }) (v := ?_) rfl (by kernel_rfl) (by kernel_rfl) (by kernel_rfl) (fun _ _ _ h => h) (Or.inl ⟨by rfl, ?_⟩) (by exact hHeld) ?_
  rotate_left
  · intro w hSw; go_simp; try with_reducible rfl
  try simp only [Act.put]
  try simp only [List.setIfInBounds_toArray]
  try simp only [List.set]
  refine wpAnyH_done (by kernel_rfl) ?_ _
  have H1 := Lib.hid hHeld
  have HC1 : Hid (Chg (fun k => k = gr) w w.drew) := Lib.hid ((Chg.refl _ w).drew)
  clear hHeld HD
  generalize w.drew = W1 at H1 HC1 ⊢
  go_upto_region 3 with fail
  have HD : Hid (RS W0 W1.drew B gu g gr vo0 vk (.slice (some ⟨pb, off, none⟩) b.length cap) top list s vr vo) := Lib.hid (H1.out.aft ((Aft.refl W1).drew))
  clear H1
  refine wp_region_held_drew (S := fun w' => RS W0 w' B gu g gr vo0 vk (.slice (some ⟨pb, off, none⟩) b.length cap) top list s vr vo) (by kernel_rfl) HD.out (fun hHeld => ?_)
  refine wpAnyH_take (i := 0) (oi := { dst := some 20, op := Go.Op.move (Go.Operand.tmp 0), type := 107, pos := _, after := _, guard := _ }) (v := ?_) rfl (by kernel_rfl) (by kernel_rfl) (by kernel_rfl) (fun _ _ _ h => h) (Or.inl ⟨by rfl, ?_⟩) (by exact hHeld) ?_
  rotate_left
  · intro w hSw; go_simp; try with_reducible rfl
  try simp only [Act.put]
  try simp only [List.setIfInBounds_toArray]
  try simp only [List.set]
  refine wpAnyH_take (i := 1) (oi := { dst := some 21, op := Go.Op.nilCheck (Go.Operand.tmp 20), type := 0, pos := _, after := _, guard := _ }) (v := ?_) rfl (by kernel_rfl) (by kernel_rfl) (by kernel_rfl) (fun _ _ _ h => h) (Or.inl ⟨by rfl, ?_⟩) (by exact hHeld) ?_
  rotate_left
  · intro w hSw; go_simp; try with_reducible rfl
  try simp only [Act.put]
  try simp only [List.setIfInBounds_toArray]
  try simp only [List.set]
  refine wpAnyH_take (i := 2) (oi := { dst := some 22, op := Go.Op.fieldAddr 109 (Go.Operand.tmp 21) 1, type := 0, pos := _, after := _, guard := _ }) (v := ?_) rfl (by kernel_rfl) (by kernel_rfl) (by kernel_rfl) (fun _ _ _ h => h) (Or.inl ⟨by rfl, ?_⟩) (by exact hHeld) ?_
  rotate_left
  · intro w hSw; go_simp; try with_reducible rfl
  try simp only [Act.put]
  try simp only [List.setIfInBounds_toArray]
  try simp only [List.set]
  refine wpAnyH_take (i := 3) (oi := { dst := some 23, op := Go.Op.load 54 (Go.Operand.tmp 22), type := 54, pos := _, after := _, guard := _ }) (v := ?_) rfl (by kernel_rfl) (by kernel_rfl) (by kernel_rfl) (fun _ _ _ h => h) (Or.inl ⟨by rfl, ?_⟩) (by exact hHeld) ?_
  rotate_left
  · intro w hSw; obtain ⟨c0, c1, c2, c3, c4, c5, f⟩ := hSw.rd.cells; rw [HAT.out] at c2; have hx := HCB.out _ hSw.x.chg; go_simp; try with_reducible rfl
  try simp only [Act.put]
  try simp only [List.setIfInBounds_toArray]
  try simp only [List.set]
  refine wpAnyH_take (i := 4) (oi := { dst := some 24, op := Go.Op.move (Go.Operand.tmp 0), type := 107, pos := _, after := _, guard := _ }) (v := ?_) rfl (by kernel_rfl) (by kernel_rfl) (by kernel_rfl) (fun _ _ _ h => h) (Or.inl ⟨by rfl, ?_⟩) (by exact hHeld) ?_
  rotate_left
  · intro w hSw; go_simp; try with_reducible rfl
  try simp only [Act.put]
  try simp only [List.setIfInBounds_toArray]
  try simp only [List.set]
  refine wpAnyH_take (i := 5) (oi := { dst := some 25, op := Go.Op.nilCheck (Go.Operand.tmp 24), type := 0, pos := _, after := _, guard := _ }) (v := ?_) rfl (by kernel_rfl) (by kernel_rfl) (by kernel_rfl) (fun _ _ _ h => h) (Or.inl ⟨by rfl, ?_⟩) (by exact hHeld) ?_
  rotate_left
  · intro w hSw; go_simp; try with_reducible rfl
  try simp only [Act.put]
  try simp only [List.setIfInBounds_toArray]
  try simp only [List.set]
  refine wpAnyH_take (i := 6) (oi := { dst := some 26, op := Go.Op.fieldAddr 109 (Go.Operand.tmp 25) 2, type := 0, pos := _, after := _, guard := _ }) (v := ?_) rfl (by kernel_rfl) (by kernel_rfl) (by kernel_rfl) (fun _ _ _ h => h) (Or.inl ⟨by rfl, ?_⟩) (by exact hHeld) ?_
  rotate_left
  · intro w hSw; go_simp; try with_reducible rfl
  try simp only [Act.put]
  try simp only [List.setIfInBounds_toArray]
  try simp only [List.set]
  refine wpAnyH_take (i := 7) (oi := { dst := some 27, op := Go.Op.load 3 (Go.Operand.tmp 26), type := 3, pos := _, after := _, guard := _ }) (v := ?_) rfl (by kernel_rfl) (by kernel_rfl) (by kernel_rfl) (fun _ _ _ h => h) (Or.inl ⟨by rfl, ?_⟩) (by exact hHeld) ?_
  rotate_left
  · intro w hSw; obtain ⟨c0, c1, c2, c3, c4, c5, f⟩ := hSw.rd.cells; rw [HAT.out] at c2; have hx := HCB.out _ hSw.x.chg; go_simp; try with_reducible rfl
  try simp only [Act.put]
  try simp only [List.setIfInBounds_toArray]
  try simp only [List.set]
  refine wpAnyH_take (i := 8) (oi := { dst := some 28, op := Go.Op.indexAddr 54 (Go.Operand.tmp 23) (Go.Operand.tmp 27), type := 0, pos := _, after := _, guard := _ }) (v := ?_) rfl (by kernel_rfl) (by kernel_rfl) (by kernel_rfl) (fun _ _ _ h => h) (Or.inl ⟨by rfl, ?_⟩) (by exact hHeld) ?_
  rotate_left
  · intro w hSw; go_simp; try with_reducible rfl
  try simp only [Act.put]
  try simp only [List.setIfInBounds_toArray]
  try simp only [List.set]
  refine wpAnyH_take (i := 9) (oi := { dst := some 29, op := Go.Op.load 5 (Go.Operand.tmp 28), type := 5, pos := _, after := _, guard := _ }) (v := ?_) rfl (by kernel_rfl) (by kernel_rfl) (by kernel_rfl) (fun _ _ _ h => h) (Or.inl ⟨by rfl, ?_⟩) (by exact hHeld) ?_
  rotate_left
  · intro w hSw; obtain ⟨c0, c1, c2, c3, c4, c5, f⟩ := hSw.rd.cells; rw [HAT.out] at c2; have hx := HCB.out _ hSw.x.chg; go_simp; try with_reducible rfl
  try simp only [Act.put]
  try simp only [List.setIfInBounds_toArray]
  try simp only [List.set]
  refine wpAnyH_take (i := 10) (oi := { dst := some 30, op := Go.Op.binOp Go.BinOp.geq 5 (Go.Operand.tmp 29) (Go.Operand.const (Go.Value.int Go.IntKind.u8 128)) 5, type := 4, pos := _, after := _, guard := _ }) (v := ?_) rfl (by kernel_rfl) (by kernel_rfl) (by kernel_rfl) (fun _ _ _ h => h) (Or.inl ⟨by rfl, ?_⟩) (by exact hHeld) ?_
  rotate_left
  · intro w hSw; go_simp; try with_reducible rfl
  try simp only [Act.put]
  try simp only [List.setIfInBounds_toArray]
  try simp only [List.set]
  refine wpAnyH_take (i := 11) (oi := { dst := some 3, op := Go.Op.assign (Go.Operand.tmp 30), type := 4, pos := _, after := _, guard := _ }) (v := ?_) rfl (by kernel_rfl) (by kernel_rfl) (by kernel_rfl) (fun _ _ _ h => h) (Or.inl ⟨by rfl, ?_⟩) (by exact hHeld) ?_
  rotate_left
  · intro w hSw; go_simp; try with_reducible rfl
  try simp only [Act.put]
  try simp only [List.setIfInBounds_toArray]
  try simp only [List.set]
  refine wpAnyH_done (by kernel_rfl) ?_ _
  have H2 := Lib.hid hHeld
  have HC2 := Lib.hid (HC1.out.drew)
  clear hHeld HD HC1
  generalize W1.drew = W2 at H2 HC2 ⊢
  clear i2
  go_wp2_with fail
  refine (HNM.out _ H2.out).mono ?_
  rintro e w3 ⟨rfl, h3, k3⟩
  have H3 := Lib.hid h3
  have HC3 := Lib.hid (HC2.out.trans k3 (fun i hi => Or.inl hi))
  clear h3 k3 H2 HNM HCB HC2
  have n5 : ¬ (n : Int) > 65536 := by omega
  have gw : IntKind.i64.wrap ((b.length : Int) - (t2 : Int)) = (b.length : Int) - (t2 : Int) := IntWalk.i64_in _ (by omega)
  have n7 : (n : Int) > (b.length : Int) - (t2 : Int) := by omega
  go_upto_region 7 with fail
  have HD : Hid (RS W0 w3.drew B gu g gr vo0 vk (.slice (some ⟨pb, off, none⟩) b.length cap) top list { s with at_ := t2 } vr vo) := Lib.hid (H3.out.aft ((Aft.refl w3).drew))
  clear H3
  refine wp_region_held_drew (S := fun w' => RS W0 w' B gu g gr vo0 vk (.slice (some ⟨pb, off, none⟩) b.length cap) top list { s with at_ := t2 } vr vo) (by kernel_rfl) HD.out (fun hHeld => ?_)
  refine wpAnyH_take (i := 0) (oi := { dst := some 37, op := Go.Op.move (Go.Operand.tmp 4), type := 3, pos := _, after := _, guard := _ }) (v := ?_) rfl (by kernel_rfl) (by kernel_rfl) (by kernel_rfl) (fun _ _ _ h => h) (Or.inl ⟨by rfl, ?_⟩) (by exact hHeld) ?_
  rotate_left
  · intro w hSw; go_simp; try with_reducible rfl
  try simp only [Act.put]
  try simp only [List.setIfInBounds_toArray]
  try simp only [List.set]
  refine wpAnyH_take (i := 1) (oi := { dst := some 38, op := Go.Op.move (Go.Operand.tmp 0), type := 107, pos := _, after := _, guard := _ }) (v := ?_) rfl (by kernel_rfl) (by kernel_rfl) (by kernel_rfl) (fun _ _ _ h => h) (Or.inl ⟨by rfl, ?_⟩) (by exact hHeld) ?_
  rotate_left
  · intro w hSw; go_simp; try with_reducible rfl
  try simp only [Act.put]
  try simp only [List.setIfInBounds_toArray]
  try simp only [List.set]
  refine wpAnyH_take (i := 2) (oi := { dst := some 39, op := Go.Op.nilCheck (Go.Operand.tmp 38), type := 0, pos := _, after := _, guard := _ }) (v := ?_) rfl (by kernel_rfl) (by kernel_rfl) (by kernel_rfl) (fun _ _ _ h => h) (Or.inl ⟨by rfl, ?_⟩) (by exact hHeld) ?_
  rotate_left
  · intro w hSw; go_simp; try with_reducible rfl
  try simp only [Act.put]
  try simp only [List.setIfInBounds_toArray]
  try simp only [List.set]
  refine wpAnyH_take (i := 3) (oi := { dst := some 40, op := Go.Op.fieldAddr 109 (Go.Operand.tmp 39) 1, type := 0, pos := _, after := _, guard := _ }) (v := ?_) rfl (by kernel_rfl) (by kernel_rfl) (by kernel_rfl) (fun _ _ _ h => h) (Or.inl ⟨by rfl, ?_⟩) (by exact hHeld) ?_
  rotate_left
  · intro w hSw; go_simp; try with_reducible rfl
  try simp only [Act.put]
  try simp only [List.setIfInBounds_toArray]
  try simp only [List.set]
  refine wpAnyH_take (i := 4) (oi := { dst := some 41, op := Go.Op.load 54 (Go.Operand.tmp 40), type := 54, pos := _, after := _, guard := _ }) (v := ?_) rfl (by kernel_rfl) (by kernel_rfl) (by kernel_rfl) (fun _ _ _ h => h) (Or.inl ⟨by rfl, ?_⟩) (by exact hHeld) ?_
  rotate_left
  · intro w hSw; obtain ⟨c0, c1, c2, c3, c4, c5, f⟩ := hSw.rd.cells; simp only at c2; go_simp; try with_reducible rfl
  try simp only [Act.put]
  try simp only [List.setIfInBounds_toArray]
  try simp only [List.set]
  refine wpAnyH_take (i := 5) (oi := { dst := some 42, op := Go.Op.call { callee := Go.Callee.builtin Go.Builtin.len, args := #[Go.Operand.tmp 41], argTypes := #[54] }, type := 3, pos := _, after := _, guard := _ }) (v := ?_) rfl (by kernel_rfl) (by kernel_rfl) (by kernel_rfl) (fun _ _ _ h => h) (Or.inl ⟨by rfl, ?_⟩) (by exact hHeld) ?_
  rotate_left
  · intro w hSw; go_simp; try with_reducible rfl
  try simp only [Act.put]
  try simp only [List.setIfInBounds_toArray]
  try simp only [List.set]
  refine wpAnyH_take (i := 6) (oi := { dst := some 43, op := Go.Op.move (Go.Operand.tmp 0), type := 107, pos := _, after := _, guard := _ }) (v := ?_) rfl (by kernel_rfl) (by kernel_rfl) (by kernel_rfl) (fun _ _ _ h => h) (Or.inl ⟨by rfl, ?_⟩) (by exact hHeld) ?_
  rotate_left
  · intro w hSw; go_simp; try with_reducible rfl
  try simp only [Act.put]
  try simp only [List.setIfInBounds_toArray]
  try simp only [List.set]
  refine wpAnyH_take (i := 7) (oi := { dst := some 44, op := Go.Op.nilCheck (Go.Operand.tmp 43), type := 0, pos := _, after := _, guard := _ }) (v := ?_) rfl (by kernel_rfl) (by kernel_rfl) (by kernel_rfl) (fun _ _ _ h => h) (Or.inl ⟨by rfl, ?_⟩) (by exact hHeld) ?_
  rotate_left
  · intro w hSw; go_simp; try with_reducible rfl
  try simp only [Act.put]
  try simp only [List.setIfInBounds_toArray]
  try simp only [List.set]
  refine wpAnyH_take (i := 8) (oi := { dst := some 45, op := Go.Op.fieldAddr 109 (Go.Operand.tmp 44) 2, type := 0, pos := _, after := _, guard := _ }) (v := ?_) rfl (by kernel_rfl) (by kernel_rfl) (by kernel_rfl) (fun _ _ _ h => h) (Or.inl ⟨by rfl, ?_⟩) (by exact hHeld) ?_
  rotate_left
  · intro w hSw; go_simp; try with_reducible rfl
  try simp only [Act.put]
  try simp only [List.setIfInBounds_toArray]
  try simp only [List.set]
  refine wpAnyH_take (i := 9) (oi := { dst := some 46, op := Go.Op.load 3 (Go.Operand.tmp 45), type := 3, pos := _, after := _, guard := _ }) (v := ?_) rfl (by kernel_rfl) (by kernel_rfl) (by kernel_rfl) (fun _ _ _ h => h) (Or.inl ⟨by rfl, ?_⟩) (by exact hHeld) ?_
  rotate_left
  · intro w hSw; obtain ⟨c0, c1, c2, c3, c4, c5, f⟩ := hSw.rd.cells; simp only at c2; go_simp; try with_reducible rfl
  try simp only [Act.put]
  try simp only [List.setIfInBounds_toArray]
  try simp only [List.set]
  refine wpAnyH_take (i := 10) (oi := { dst := some 47, op := Go.Op.binOp Go.BinOp.sub 3 (Go.Operand.tmp 42) (Go.Operand.tmp 46) 3, type := 3, pos := _, after := _, guard := _ }) (v := ?_) rfl (by kernel_rfl) (by kernel_rfl) (by kernel_rfl) (fun _ _ _ h => h) (Or.inl ⟨by rfl, ?_⟩) (by exact hHeld) ?_
  rotate_left
  · intro w hSw; go_simp; try with_reducible rfl
  try simp only [Act.put]
  try simp only [List.setIfInBounds_toArray]
  try simp only [List.set]
  refine wpAnyH_take (i := 11) (oi := { dst := some 48, op := Go.Op.binOp Go.BinOp.gtr 3 (Go.Operand.tmp 37) (Go.Operand.tmp 47) 3, type := 4, pos := _, after := _, guard := _ }) (v := ?_) rfl (by kernel_rfl) (by kernel_rfl) (by kernel_rfl) (fun _ _ _ h => h) (Or.inl ⟨by rfl, ?_⟩) (by exact hHeld) ?_
  rotate_left
  · intro w hSw; go_simp; try with_reducible rfl
  try simp only [Act.put]
  try simp only [List.setIfInBounds_toArray]
  try simp only [List.set]
  refine wpAnyH_done (by kernel_rfl) ?_ _
  have H4 := Lib.hid hHeld
  have HC4 := Lib.hid (HC3.out.drew)
  clear hHeld HD gw HC3
  generalize w3.drew = W4 at H4 HC4 ⊢
  go_wp2_with fail
  refine (fail_any H4.out.rd 3).mono ?_
  rintro e9 w9 ⟨rfl, rfl⟩
  go_wp2_with fail
  exact ⟨rfl, ⟨_, rfl⟩, H4.out.x⟩
set_option linter.unusedSimpArgs false in
set_option maxHeartbeats 16000000 in
set_option maxRecDepth 100000 in
theorem text_dec {W0 w : World} {B gu g gr : Nat} {vo0 vk vr vo : Value} {top list : Int} {s : US} {va : Option Addr} {cap : Nat} {b : List UInt8} (hb : BR W0 g gr vo0 va cap b) (h : RS W0 w B gu g gr vo0 vk (.slice va b.length cap) top list s vr vo) (c : UInt8) (hc : b[s.at_]? = some c) (n t2 : Nat) (hgl : getL b s.at_ 7 = (n, t2, 0)) (hn1 : n ≤ 65536) (hn2 : t2 + n ≤ b.length) (hc1 : 128 ≤ c.toNat) (hS : (decF ((b.drop t2).take n)).2 ≠ 0) :
    Calls Tryd.prog 98 #[.pointer (some ⟨gr, 0, none⟩)] w fun e w' => (∃ a : Int, e = .panicked [fltV (decF ((b.drop t2).take n)).2 a]) ∧ RX W0 w' B gu g gr vo0 vk top list s.tab s.most vo := by
  have HDF := Lib.hid (fun P w' hr => decode_any P ((b.drop t2).take n) w' hr (by rw [List.length_take]; omega))
  obtain ⟨⟨D1, D2⟩, hDD⟩ : ∃ q, decF ((b.drop t2).take n) = q := ⟨_, rfl⟩
  rw [hDD] at HDF hS
  rw [hDD]
  simp only at HDF hS
  obtain ⟨hlt, hce⟩ := List.getElem?_eq_some_iff.1 hc
  have hne : b ≠ [] := by intro e; rw [e] at hlt; simp at hlt
  obtain ⟨pb, off, rfl, hcap1, hcap2, hcell⟩ := hb.at hne
  have HSUB := Lib.hid (fun wx hx => (hb.rb wx hx).sub (i := t2) (n := n) hn2)
  have HCB : Hid (∀ wx, Chg (TU gr g vo0) W0 wx → wx.cell? ⟨pb, off + s.at_, none⟩ = some (.int .u8 (c.toNat : Int))) := Lib.hid (fun wx hx => by have := hcell wx hx s.at_ hlt; rw [hce] at this; exact this)
  have HNM := Lib.hid (fun w' (h : RS W0 w' B gu g gr vo0 vk (.slice (some ⟨pb, off, none⟩) b.length cap) top list s vr vo) => number_ok hb h (by omega) 7 (by omega) (by rw [hgl]))
  rw [hgl] at HNM
  simp only at HNM
  obtain ⟨at_, hat⟩ : ∃ a, s.at_ = a := ⟨_, rfl⟩
  rw [hat] at HCB hlt
  have HAT := Lib.hid hat
  have hlen := hb.len
  have HD : Hid (RS W0 w.drew B gu g gr vo0 vk (.slice (some ⟨pb, off, none⟩) b.length cap) top list s vr vo) := Lib.hid (h.aft ((Aft.refl w).drew))
  have i1 : (at_ : Int) < (b.length : Int) := by omega
  have i2 : ((at_ : Int) == (b.length : Int)) = false := by simp; omega
  have HLT := Lib.hid hlt
  clear hb h hc hgl hDD hne hcell hce hat hlt
  go_enter Tryd.func98, Tryd.ntmps98
  go_upto_region 1 with fail
  refine wp_region_held_drew (S := fun w' => RS W0 w' B gu g gr vo0 vk (.slice (some ⟨pb, off, none⟩) b.length cap) top list s vr vo) (by kernel_rfl) HD.out (fun hHeld => ?_)
  refine wpAnyH_take (i := 0) (oi := { dst := some 8, op := Go.Op.move (Go.Operand.tmp 0), type := 107, pos := _, after := _, guard := _ }) (v := ?_) rfl (by kernel_rfl) (by kernel_rfl) (by kernel_rfl) (fun _ _ _ h => h) (Or.inl ⟨by rfl, ?_⟩) (by exact hHeld) ?_
  rotate_left
  · intro w hSw; go_simp; try with_reducible rfl
  try simp only [Act.put]
  try simp only [List.setIfInBounds_toArray]
  try simp only [List.set]
  refine wpAnyH_take (i := 1) (oi := { dst := some 9, op := Go.Op.nilCheck (Go.Operand.tmp 8), type := 0, pos := _, after := _, guard := _ }) (v := ?_) rfl (by kernel_rfl) (by kernel_rfl) (by kernel_rfl) (fun _ _ _ h => h) (Or.inl ⟨by rfl, ?_⟩) (by exact hHeld) ?_
  rotate_left
  · intro w hSw; go_simp; try with_reducible rfl
  try simp only [Act.put]
  try simp only [List.setIfInBounds_toArray]
  try simp only [List.set]
  refine wpAnyH_take (i := 2) (oi := { dst := some 10, op := Go.Op.fieldAddr 109 (Go.Operand.tmp 9) 2, type := 0, pos := _, after := _, guard := _ }) (v := ?_) rfl (by kernel_rfl) (by kernel_rfl) (by kernel_rfl) (fun _ _ _ h => h) (Or.inl ⟨by rfl, ?_⟩) (by exact hHeld) ?_
  rotate_left
  · intro w hSw; go_simp; try with_reducible rfl
  try simp only [Act.put]
  try simp only [List.setIfInBounds_toArray]
  try simp only [List.set]
  refine wpAnyH_take (i := 3) (oi := { dst := some 11, op := Go.Op.load 3 (Go.Operand.tmp 10), type := 3, pos := _, after := _, guard := _ }) (v := ?_) rfl (by kernel_rfl) (by kernel_rfl) (by kernel_rfl) (fun _ _ _ h => h) (Or.inl ⟨by rfl, ?_⟩) (by exact hHeld) ?_
  rotate_left
  · intro w hSw; obtain ⟨c0, c1, c2, c3, c4, c5, f⟩ := hSw.rd.cells; rw [HAT.out] at c2; go_simp; try with_reducible rfl
  try simp only [Act.put]
  try simp only [List.setIfInBounds_toArray]
  try simp only [List.set]
  refine wpAnyH_take (i := 4) (oi := { dst := some 12, op := Go.Op.move (Go.Operand.tmp 0), type := 107, pos := _, after := _, guard := _ }) (v := ?_) rfl (by kernel_rfl) (by kernel_rfl) (by kernel_rfl) (fun _ _ _ h => h) (Or.inl ⟨by rfl, ?_⟩) (by exact hHeld) ?_
  rotate_left
  · intro w hSw; go_simp; try with_reducible rfl
  try simp only [Act.put]
  try simp only [List.setIfInBounds_toArray]
  try simp only [List.set]
  refine wpAnyH_take (i := 5) (oi := { dst := some 13, op := Go.Op.nilCheck (Go.Operand.tmp 12), type := 0, pos := _, after := _, guard := _ }) (v := ?_) rfl (by kernel_rfl) (by kernel_rfl) (by kernel_rfl) (fun _ _ _ h => h) (Or.inl ⟨by rfl, ?_⟩) (by exact hHeld) ?_
  rotate_left
  · intro w hSw; go_simp; try with_reducible rfl
  try simp only [Act.put]
  try simp only [List.setIfInBounds_toArray]
  try simp only [List.set]
  refine wpAnyH_take (i := 6) (oi := { dst := some 14, op := Go.Op.fieldAddr 109 (Go.Operand.tmp 13) 1, type := 0, pos := _, after := _, guard := _ }) (v := ?_) rfl (by kernel_rfl) (by kernel_rfl) (by kernel_rfl) (fun _ _ _ h => h) (Or.inl ⟨by rfl, ?_⟩) (by exact hHeld) ?_
  rotate_left
  · intro w hSw; go_simp; try with_reducible rfl
  try simp only [Act.put]
  try simp only [List.setIfInBounds_toArray]
  try simp only [List.set]
  refine wpAnyH_take (i := 7) (oi := { dst := some 15, op := Go.Op.load 54 (Go.Operand.tmp 14), type := 54, pos := _, after := _, guard := _ }) (v := ?_) rfl (by kernel_rfl) (by kernel_rfl) (by kernel_rfl) (fun _ _ _ h => h) (Or.inl ⟨by rfl, ?_⟩) (by exact hHeld) ?_
  rotate_left
  · intro w hSw; obtain ⟨c0, c1, c2, c3, c4, c5, f⟩ := hSw.rd.cells; rw [HAT.out] at c2; go_simp; try with_reducible rfl
  try simp only [Act.put]
  try simp only [List.setIfInBounds_toArray]
  try simp only [List.set]
  refine wpAnyH_take (i := 8) (oi := { dst := some 16, op := Go.Op.call { callee := Go.Callee.builtin Go.Builtin.len, args := #[Go.Operand.tmp 15], argTypes := #[54] }, type := 3, pos := _, after := _, guard := _ }) (v := ?_) rfl (by kernel_rfl) (by kernel_rfl) (by kernel_rfl) (fun _ _ _ h => h) (Or.inl ⟨by rfl, ?_⟩) (by exact hHeld) ?_
  rotate_left
  · intro w hSw; go_simp; try with_reducible rfl
  try simp only [Act.put]
  try simp only [List.setIfInBounds_toArray]
  try simp only [List.set]
  refine wpAnyH_take (i := 9) (oi := { dst := some 17, op := Go.Op.binOp Go.BinOp.eql 3 (Go.Operand.tmp 11) (Go.Operand.tmp 16) 3, type := 4, pos := _, after := _, guard := _ }) (v := ?_) rfl (by kernel_rfl) (by kernel_rfl) (by kernel_rfl) (fun _ _ _ h => h) (Or.inl ⟨by rfl, ?_⟩) (by exact hHeld) ?_
  rotate_left
  · intro w hSw; go_simp; try with_reducible rfl
  try simp only [Act.put]
  try simp only [List.setIfInBounds_toArray]
  try simp only [List.set]
  refine wpAnyH_done (by kernel_rfl) ?_ _
  have H1 := Lib.hid hHeld
  have HC1 : Hid (Chg (fun k => k = gr) w w.drew) := Lib.hid ((Chg.refl _ w).drew)
  clear hHeld HD
  generalize w.drew = W1 at H1 HC1 ⊢
  go_upto_region 3 with fail
  have HD : Hid (RS W0 W1.drew B gu g gr vo0 vk (.slice (some ⟨pb, off, none⟩) b.length cap) top list s vr vo) := Lib.hid (H1.out.aft ((Aft.refl W1).drew))
  clear H1
  refine wp_region_held_drew (S := fun w' => RS W0 w' B gu g gr vo0 vk (.slice (some ⟨pb, off, none⟩) b.length cap) top list s vr vo) (by kernel_rfl) HD.out (fun hHeld => ?_)
  refine wpAnyH_take (i := 0) (oi := { dst := some 20, op := Go.Op.move (Go.Operand.tmp 0), type := 107, pos := _, after := _, guard := _ }) (v := ?_) rfl (by kernel_rfl) (by kernel_rfl) (by kernel_rfl) (fun _ _ _ h => h) (Or.inl ⟨by rfl, ?_⟩) (by exact hHeld) ?_
  rotate_left
  · intro w hSw; go_simp; try with_reducible rfl
  try simp only [Act.put]
  try simp only [List.setIfInBounds_toArray]
  try simp only [List.set]
  refine wpAnyH_take (i := 1) (oi := { dst := some 21, op := Go.Op.nilCheck (Go.Operand.tmp 20), type := 0, pos := _, after := _, guard := _ }) (v := ?_) rfl (by kernel_rfl) (by kernel_rfl) (by kernel_rfl) (fun _ _ _ h => h) (Or.inl ⟨by rfl, ?_⟩) (by exact hHeld) ?_
  rotate_left
  · intro w hSw; go_simp; try with_reducible rfl
  try simp only [Act.put]
  try simp only [List.setIfInBounds_toArray]
  try simp only [List.set]
  refine wpAnyH_take (i := 2) (oi := { dst := some 22, op := Go.Op.fieldAddr 109 (Go.Operand.tmp 21) 1, type := 0, pos := _, after := _, guard := _ }) (v := ?_) rfl (by kernel_rfl) (by kernel_rfl) (by kernel_rfl) (fun _ _ _ h => h) (Or.inl ⟨by rfl, ?_⟩) (by exact hHeld) ?_
  rotate_left
  · intro w hSw; go_simp; try with_reducible rfl
  try simp only [Act.put]
  try simp only [List.setIfInBounds_toArray]
  try simp only [List.set]
  refine wpAnyH_take (i := 3) (oi := { dst := some 23, op := Go.Op.load 54 (Go.Operand.tmp 22), type := 54, pos := _, after := _, guard := _ }) (v := ?_) rfl (by kernel_rfl) (by kernel_rfl) (by kernel_rfl) (fun _ _ _ h => h) (Or.inl ⟨by rfl, ?_⟩) (by exact hHeld) ?_
  rotate_left
  · intro w hSw; obtain ⟨c0, c1, c2, c3, c4, c5, f⟩ := hSw.rd.cells; rw [HAT.out] at c2; have hx := HCB.out _ hSw.x.chg; go_simp; try with_reducible rfl
  try simp only [Act.put]
  try simp only [List.setIfInBounds_toArray]
  try simp only [List.set]
  refine wpAnyH_take (i := 4) (oi := { dst := some 24, op := Go.Op.move (Go.Operand.tmp 0), type := 107, pos := _, after := _, guard := _ }) (v := ?_) rfl (by kernel_rfl) (by kernel_rfl) (by kernel_rfl) (fun _ _ _ h => h) (Or.inl ⟨by rfl, ?_⟩) (by exact hHeld) ?_
  rotate_left
  · intro w hSw; go_simp; try with_reducible rfl
  try simp only [Act.put]
  try simp only [List.setIfInBounds_toArray]
  try simp only [List.set]
  refine wpAnyH_take (i := 5) (oi := { dst := some 25, op := Go.Op.nilCheck (Go.Operand.tmp 24), type := 0, pos := _, after := _, guard := _ }) (v := ?_) rfl (by kernel_rfl) (by kernel_rfl) (by kernel_rfl) (fun _ _ _ h => h) (Or.inl ⟨by rfl, ?_⟩) (by exact hHeld) ?_
  rotate_left
  · intro w hSw; go_simp; try with_reducible rfl
  try simp only [Act.put]
  try simp only [List.setIfInBounds_toArray]
  try simp only [List.set]
  refine wpAnyH_take (i := 6) (oi := { dst := some 26, op := Go.Op.fieldAddr 109 (Go.Operand.tmp 25) 2, type := 0, pos := _, after := _, guard := _ }) (v := ?_) rfl (by kernel_rfl) (by kernel_rfl) (by kernel_rfl) (fun _ _ _ h => h) (Or.inl ⟨by rfl, ?_⟩) (by exact hHeld) ?_
  rotate_left
  · intro w hSw; go_simp; try with_reducible rfl
  try simp only [Act.put]
  try simp only [List.setIfInBounds_toArray]
  try simp only [List.set]
  refine wpAnyH_take (i := 7) (oi := { dst := some 27, op := Go.Op.load 3 (Go.Operand.tmp 26), type := 3, pos := _, after := _, guard := _ }) (v := ?_) rfl (by kernel_rfl) (by kernel_rfl) (by kernel_rfl) (fun _ _ _ h => h) (Or.inl ⟨by rfl, ?_⟩) (by exact hHeld) ?_
  rotate_left
  · intro w hSw; obtain ⟨c0, c1, c2, c3, c4, c5, f⟩ := hSw.rd.cells; rw [HAT.out] at c2; have hx := HCB.out _ hSw.x.chg; go_simp; try with_reducible rfl
  try simp only [Act.put]
  try simp only [List.setIfInBounds_toArray]
  try simp only [List.set]
  refine wpAnyH_take (i := 8) (oi := { dst := some 28, op := Go.Op.indexAddr 54 (Go.Operand.tmp 23) (Go.Operand.tmp 27), type := 0, pos := _, after := _, guard := _ }) (v := ?_) rfl (by kernel_rfl) (by kernel_rfl) (by kernel_rfl) (fun _ _ _ h => h) (Or.inl ⟨by rfl, ?_⟩) (by exact hHeld) ?_
  rotate_left
  · intro w hSw; go_simp; try with_reducible rfl
  try simp only [Act.put]
  try simp only [List.setIfInBounds_toArray]
  try simp only [List.set]
  refine wpAnyH_take (i := 9) (oi := { dst := some 29, op := Go.Op.load 5 (Go.Operand.tmp 28), type := 5, pos := _, after := _, guard := _ }) (v := ?_) rfl (by kernel_rfl) (by kernel_rfl) (by kernel_rfl) (fun _ _ _ h => h) (Or.inl ⟨by rfl, ?_⟩) (by exact hHeld) ?_
  rotate_left
  · intro w hSw; obtain ⟨c0, c1, c2, c3, c4, c5, f⟩ := hSw.rd.cells; rw [HAT.out] at c2; have hx := HCB.out _ hSw.x.chg; go_simp; try with_reducible rfl
  try simp only [Act.put]
  try simp only [List.setIfInBounds_toArray]
  try simp only [List.set]
  refine wpAnyH_take (i := 10) (oi := { dst := some 30, op := Go.Op.binOp Go.BinOp.geq 5 (Go.Operand.tmp 29) (Go.Operand.const (Go.Value.int Go.IntKind.u8 128)) 5, type := 4, pos := _, after := _, guard := _ }) (v := ?_) rfl (by kernel_rfl) (by kernel_rfl) (by kernel_rfl) (fun _ _ _ h => h) (Or.inl ⟨by rfl, ?_⟩) (by exact hHeld) ?_
  rotate_left
  · intro w hSw; go_simp; try with_reducible rfl
  try simp only [Act.put]
  try simp only [List.setIfInBounds_toArray]
  try simp only [List.set]
  refine wpAnyH_take (i := 11) (oi := { dst := some 3, op := Go.Op.assign (Go.Operand.tmp 30), type := 4, pos := _, after := _, guard := _ }) (v := ?_) rfl (by kernel_rfl) (by kernel_rfl) (by kernel_rfl) (fun _ _ _ h => h) (Or.inl ⟨by rfl, ?_⟩) (by exact hHeld) ?_
  rotate_left
  · intro w hSw; go_simp; try with_reducible rfl
  try simp only [Act.put]
  try simp only [List.setIfInBounds_toArray]
  try simp only [List.set]
  refine wpAnyH_done (by kernel_rfl) ?_ _
  have H2 := Lib.hid hHeld
  have HC2 := Lib.hid (HC1.out.drew)
  clear hHeld HD HC1
  generalize W1.drew = W2 at H2 HC2 ⊢
  clear i2
  go_wp2_with fail
  refine (HNM.out _ H2.out).mono ?_
  rintro e w3 ⟨rfl, h3, k3⟩
  have H3 := Lib.hid h3
  have HC3 := Lib.hid (HC2.out.trans k3 (fun i hi => Or.inl hi))
  clear h3 k3 H2 HNM HCB HC2
  have n5 : ¬ (n : Int) > 65536 := by omega
  have gw : IntKind.i64.wrap ((b.length : Int) - (t2 : Int)) = (b.length : Int) - (t2 : Int) := IntWalk.i64_in _ (by omega)
  have n7 : ¬ (n : Int) > (b.length : Int) - (t2 : Int) := by omega
  go_upto_region 7 with fail
  have HD : Hid (RS W0 w3.drew B gu g gr vo0 vk (.slice (some ⟨pb, off, none⟩) b.length cap) top list { s with at_ := t2 } vr vo) := Lib.hid (H3.out.aft ((Aft.refl w3).drew))
  clear H3
  refine wp_region_held_drew (S := fun w' => RS W0 w' B gu g gr vo0 vk (.slice (some ⟨pb, off, none⟩) b.length cap) top list { s with at_ := t2 } vr vo) (by kernel_rfl) HD.out (fun hHeld => ?_)
  refine wpAnyH_take (i := 0) (oi := { dst := some 37, op := Go.Op.move (Go.Operand.tmp 4), type := 3, pos := _, after := _, guard := _ }) (v := ?_) rfl (by kernel_rfl) (by kernel_rfl) (by kernel_rfl) (fun _ _ _ h => h) (Or.inl ⟨by rfl, ?_⟩) (by exact hHeld) ?_
  rotate_left
  · intro w hSw; go_simp; try with_reducible rfl
  try simp only [Act.put]
  try simp only [List.setIfInBounds_toArray]
  try simp only [List.set]
  refine wpAnyH_take (i := 1) (oi := { dst := some 38, op := Go.Op.move (Go.Operand.tmp 0), type := 107, pos := _, after := _, guard := _ }) (v := ?_) rfl (by kernel_rfl) (by kernel_rfl) (by kernel_rfl) (fun _ _ _ h => h) (Or.inl ⟨by rfl, ?_⟩) (by exact hHeld) ?_
  rotate_left
  · intro w hSw; go_simp; try with_reducible rfl
  try simp only [Act.put]
  try simp only [List.setIfInBounds_toArray]
  try simp only [List.set]
  refine wpAnyH_take (i := 2) (oi := { dst := some 39, op := Go.Op.nilCheck (Go.Operand.tmp 38), type := 0, pos := _, after := _, guard := _ }) (v := ?_) rfl (by kernel_rfl) (by kernel_rfl) (by kernel_rfl) (fun _ _ _ h => h) (Or.inl ⟨by rfl, ?_⟩) (by exact hHeld) ?_
  rotate_left
  · intro w hSw; go_simp; try with_reducible rfl
  try simp only [Act.put]
  try simp only [List.setIfInBounds_toArray]
  try simp only [List.set]
  refine wpAnyH_take (i := 3) (oi := { dst := some 40, op := Go.Op.fieldAddr 109 (Go.Operand.tmp 39) 1, type := 0, pos := _, after := _, guard := _ }) (v := ?_) rfl (by kernel_rfl) (by kernel_rfl) (by kernel_rfl) (fun _ _ _ h => h) (Or.inl ⟨by rfl, ?_⟩) (by exact hHeld) ?_
  rotate_left
  · intro w hSw; go_simp; try with_reducible rfl
  try simp only [Act.put]
  try simp only [List.setIfInBounds_toArray]
  try simp only [List.set]
  refine wpAnyH_take (i := 4) (oi := { dst := some 41, op := Go.Op.load 54 (Go.Operand.tmp 40), type := 54, pos := _, after := _, guard := _ }) (v := ?_) rfl (by kernel_rfl) (by kernel_rfl) (by kernel_rfl) (fun _ _ _ h => h) (Or.inl ⟨by rfl, ?_⟩) (by exact hHeld) ?_
  rotate_left
  · intro w hSw; obtain ⟨c0, c1, c2, c3, c4, c5, f⟩ := hSw.rd.cells; simp only at c2; go_simp; try with_reducible rfl
  try simp only [Act.put]
  try simp only [List.setIfInBounds_toArray]
  try simp only [List.set]
  refine wpAnyH_take (i := 5) (oi := { dst := some 42, op := Go.Op.call { callee := Go.Callee.builtin Go.Builtin.len, args := #[Go.Operand.tmp 41], argTypes := #[54] }, type := 3, pos := _, after := _, guard := _ }) (v := ?_) rfl (by kernel_rfl) (by kernel_rfl) (by kernel_rfl) (fun _ _ _ h => h) (Or.inl ⟨by rfl, ?_⟩) (by exact hHeld) ?_
  rotate_left
  · intro w hSw; go_simp; try with_reducible rfl
  try simp only [Act.put]
  try simp only [List.setIfInBounds_toArray]
  try simp only [List.set]
  refine wpAnyH_take (i := 6) (oi := { dst := some 43, op := Go.Op.move (Go.Operand.tmp 0), type := 107, pos := _, after := _, guard := _ }) (v := ?_) rfl (by kernel_rfl) (by kernel_rfl) (by kernel_rfl) (fun _ _ _ h => h) (Or.inl ⟨by rfl, ?_⟩) (by exact hHeld) ?_
  rotate_left
  · intro w hSw; go_simp; try with_reducible rfl
  try simp only [Act.put]
  try simp only [List.setIfInBounds_toArray]
  try simp only [List.set]
  refine wpAnyH_take (i := 7) (oi := { dst := some 44, op := Go.Op.nilCheck (Go.Operand.tmp 43), type := 0, pos := _, after := _, guard := _ }) (v := ?_) rfl (by kernel_rfl) (by kernel_rfl) (by kernel_rfl) (fun _ _ _ h => h) (Or.inl ⟨by rfl, ?_⟩) (by exact hHeld) ?_
  rotate_left
  · intro w hSw; go_simp; try with_reducible rfl
  try simp only [Act.put]
  try simp only [List.setIfInBounds_toArray]
  try simp only [List.set]
  refine wpAnyH_take (i := 8) (oi := { dst := some 45, op := Go.Op.fieldAddr 109 (Go.Operand.tmp 44) 2, type := 0, pos := _, after := _, guard := _ }) (v := ?_) rfl (by kernel_rfl) (by kernel_rfl) (by kernel_rfl) (fun _ _ _ h => h) (Or.inl ⟨by rfl, ?_⟩) (by exact hHeld) ?_
  rotate_left
  · intro w hSw; go_simp; try with_reducible rfl
  try simp only [Act.put]
  try simp only [List.setIfInBounds_toArray]
  try simp only [List.set]
  refine wpAnyH_take (i := 9) (oi := { dst := some 46, op := Go.Op.load 3 (Go.Operand.tmp 45), type := 3, pos := _, after := _, guard := _ }) (v := ?_) rfl (by kernel_rfl) (by kernel_rfl) (by kernel_rfl) (fun _ _ _ h => h) (Or.inl ⟨by rfl, ?_⟩) (by exact hHeld) ?_
  rotate_left
  · intro w hSw; obtain ⟨c0, c1, c2, c3, c4, c5, f⟩ := hSw.rd.cells; simp only at c2; go_simp; try with_reducible rfl
  try simp only [Act.put]
  try simp only [List.setIfInBounds_toArray]
  try simp only [List.set]
  refine wpAnyH_take (i := 10) (oi := { dst := some 47, op := Go.Op.binOp Go.BinOp.sub 3 (Go.Operand.tmp 42) (Go.Operand.tmp 46) 3, type := 3, pos := _, after := _, guard := _ }) (v := ?_) rfl (by kernel_rfl) (by kernel_rfl) (by kernel_rfl) (fun _ _ _ h => h) (Or.inl ⟨by rfl, ?_⟩) (by exact hHeld) ?_
  rotate_left
  · intro w hSw; go_simp; try with_reducible rfl
  try simp only [Act.put]
  try simp only [List.setIfInBounds_toArray]
  try simp only [List.set]
  refine wpAnyH_take (i := 11) (oi := { dst := some 48, op := Go.Op.binOp Go.BinOp.gtr 3 (Go.Operand.tmp 37) (Go.Operand.tmp 47) 3, type := 4, pos := _, after := _, guard := _ }) (v := ?_) rfl (by kernel_rfl) (by kernel_rfl) (by kernel_rfl) (fun _ _ _ h => h) (Or.inl ⟨by rfl, ?_⟩) (by exact hHeld) ?_
  rotate_left
  · intro w hSw; go_simp; try with_reducible rfl
  try simp only [Act.put]
  try simp only [List.setIfInBounds_toArray]
  try simp only [List.set]
  refine wpAnyH_done (by kernel_rfl) ?_ _
  have H4 := Lib.hid hHeld
  have HC4 := Lib.hid (HC3.out.drew)
  clear hHeld HD gw HC3
  generalize w3.drew = W4 at H4 HC4 ⊢
  go_upto_region 9 with fail
  have gw2 : IntKind.i64.wrap ((t2 : Int) + (n : Int)) = (t2 : Int) + (n : Int) := IntWalk.i64_in _ (by omega)
  have b1 : (0 : Int) ≤ (t2 : Int) := by omega
  have b2 : (t2 : Int) ≤ (t2 : Int) + (n : Int) := by omega
  have b3 : (t2 : Int) + (n : Int) ≤ (cap : Int) := by omega
  have b4 : (0 : Int) ≤ (t2 : Int) + (n : Int) := by omega
  have t1 : ((t2 : Int) + (n : Int)).toNat = t2 + n := by omega
  have t3 : t2 + n - t2 = n := by omega
  have HD : Hid (RS W0 W4.drew B gu g gr vo0 vk (.slice (some ⟨pb, off, none⟩) b.length cap) top list { s with at_ := t2 } vr vo) := Lib.hid (H4.out.aft ((Aft.refl W4).drew))
  clear H4
  by_cases hcap : cap = t2
  · rw [if_pos hcap] at HSUB
    obtain ⟨P, hP⟩ : ∃ P, Value.slice (some ⟨pb, off, none⟩) n (cap - t2) = P := ⟨_, rfl⟩
    have hP2 : Value.slice (some ⟨pb, off, none⟩) n 0 = P := by rw [← hP, show cap - t2 = 0 by omega]
    have b5 : (t2 : Int) + (n : Int) ≤ (t2 : Int) := by omega
    rw [hP] at HSUB
    have HP := Lib.hid hP2
    clear hP hP2
    refine wp_region_held_drew (S := fun w' => RS W0 w' B gu g gr vo0 vk (.slice (some ⟨pb, off, none⟩) b.length cap) top list { s with at_ := t2 } vr vo) (by kernel_rfl) HD.out (fun hHeld => ?_)
    refine wpAnyH_take (i := 0) (oi := { dst := some 51, op := Go.Op.move (Go.Operand.tmp 0), type := 107, pos := _, after := _, guard := _ }) (v := ?_) rfl (by kernel_rfl) (by kernel_rfl) (by kernel_rfl) (fun _ _ _ h => h) (Or.inl ⟨by rfl, ?_⟩) (by exact hHeld) ?_
    rotate_left
    · intro w hSw; go_simp; try with_reducible rfl
    try simp only [Act.put]
    try simp only [List.setIfInBounds_toArray]
    try simp only [List.set]
    refine wpAnyH_take (i := 1) (oi := { dst := some 52, op := Go.Op.nilCheck (Go.Operand.tmp 51), type := 0, pos := _, after := _, guard := _ }) (v := ?_) rfl (by kernel_rfl) (by kernel_rfl) (by kernel_rfl) (fun _ _ _ h => h) (Or.inl ⟨by rfl, ?_⟩) (by exact hHeld) ?_
    rotate_left
    · intro w hSw; go_simp; try with_reducible rfl
    try simp only [Act.put]
    try simp only [List.setIfInBounds_toArray]
    try simp only [List.set]
    refine wpAnyH_take (i := 2) (oi := { dst := some 53, op := Go.Op.fieldAddr 109 (Go.Operand.tmp 52) 1, type := 0, pos := _, after := _, guard := _ }) (v := ?_) rfl (by kernel_rfl) (by kernel_rfl) (by kernel_rfl) (fun _ _ _ h => h) (Or.inl ⟨by rfl, ?_⟩) (by exact hHeld) ?_
    rotate_left
    · intro w hSw; go_simp; try with_reducible rfl
    try simp only [Act.put]
    try simp only [List.setIfInBounds_toArray]
    try simp only [List.set]
    refine wpAnyH_take (i := 3) (oi := { dst := some 54, op := Go.Op.load 54 (Go.Operand.tmp 53), type := 54, pos := _, after := _, guard := _ }) (v := ?_) rfl (by kernel_rfl) (by kernel_rfl) (by kernel_rfl) (fun _ _ _ h => h) (Or.inl ⟨by rfl, ?_⟩) (by exact hHeld) ?_
    rotate_left
    · intro w hSw; have hz0 := hcap; obtain ⟨c0, c1, c2, c3, c4, c5, f⟩ := hSw.rd.cells; simp only at c2; go_simp; try with_reducible rfl
    try simp only [Act.put]
    try simp only [List.setIfInBounds_toArray]
    try simp only [List.set]
    refine wpAnyH_take (i := 4) (oi := { dst := some 55, op := Go.Op.move (Go.Operand.tmp 0), type := 107, pos := _, after := _, guard := _ }) (v := ?_) rfl (by kernel_rfl) (by kernel_rfl) (by kernel_rfl) (fun _ _ _ h => h) (Or.inl ⟨by rfl, ?_⟩) (by exact hHeld) ?_
    rotate_left
    · intro w hSw; go_simp; try with_reducible rfl
    try simp only [Act.put]
    try simp only [List.setIfInBounds_toArray]
    try simp only [List.set]
    refine wpAnyH_take (i := 5) (oi := { dst := some 56, op := Go.Op.nilCheck (Go.Operand.tmp 55), type := 0, pos := _, after := _, guard := _ }) (v := ?_) rfl (by kernel_rfl) (by kernel_rfl) (by kernel_rfl) (fun _ _ _ h => h) (Or.inl ⟨by rfl, ?_⟩) (by exact hHeld) ?_
    rotate_left
    · intro w hSw; go_simp; try with_reducible rfl
    try simp only [Act.put]
    try simp only [List.setIfInBounds_toArray]
    try simp only [List.set]
    refine wpAnyH_take (i := 6) (oi := { dst := some 57, op := Go.Op.fieldAddr 109 (Go.Operand.tmp 56) 2, type := 0, pos := _, after := _, guard := _ }) (v := ?_) rfl (by kernel_rfl) (by kernel_rfl) (by kernel_rfl) (fun _ _ _ h => h) (Or.inl ⟨by rfl, ?_⟩) (by exact hHeld) ?_
    rotate_left
    · intro w hSw; go_simp; try with_reducible rfl
    try simp only [Act.put]
    try simp only [List.setIfInBounds_toArray]
    try simp only [List.set]
    refine wpAnyH_take (i := 7) (oi := { dst := some 58, op := Go.Op.load 3 (Go.Operand.tmp 57), type := 3, pos := _, after := _, guard := _ }) (v := ?_) rfl (by kernel_rfl) (by kernel_rfl) (by kernel_rfl) (fun _ _ _ h => h) (Or.inl ⟨by rfl, ?_⟩) (by exact hHeld) ?_
    rotate_left
    · intro w hSw; have hz0 := hcap; obtain ⟨c0, c1, c2, c3, c4, c5, f⟩ := hSw.rd.cells; simp only at c2; go_simp; try with_reducible rfl
    try simp only [Act.put]
    try simp only [List.setIfInBounds_toArray]
    try simp only [List.set]
    refine wpAnyH_take (i := 8) (oi := { dst := some 59, op := Go.Op.move (Go.Operand.tmp 0), type := 107, pos := _, after := _, guard := _ }) (v := ?_) rfl (by kernel_rfl) (by kernel_rfl) (by kernel_rfl) (fun _ _ _ h => h) (Or.inl ⟨by rfl, ?_⟩) (by exact hHeld) ?_
    rotate_left
    · intro w hSw; go_simp; try with_reducible rfl
    try simp only [Act.put]
    try simp only [List.setIfInBounds_toArray]
    try simp only [List.set]
    refine wpAnyH_take (i := 9) (oi := { dst := some 60, op := Go.Op.nilCheck (Go.Operand.tmp 59), type := 0, pos := _, after := _, guard := _ }) (v := ?_) rfl (by kernel_rfl) (by kernel_rfl) (by kernel_rfl) (fun _ _ _ h => h) (Or.inl ⟨by rfl, ?_⟩) (by exact hHeld) ?_
    rotate_left
    · intro w hSw; go_simp; try with_reducible rfl
    try simp only [Act.put]
    try simp only [List.setIfInBounds_toArray]
    try simp only [List.set]
    refine wpAnyH_take (i := 10) (oi := { dst := some 61, op := Go.Op.fieldAddr 109 (Go.Operand.tmp 60) 2, type := 0, pos := _, after := _, guard := _ }) (v := ?_) rfl (by kernel_rfl) (by kernel_rfl) (by kernel_rfl) (fun _ _ _ h => h) (Or.inl ⟨by rfl, ?_⟩) (by exact hHeld) ?_
    rotate_left
    · intro w hSw; go_simp; try with_reducible rfl
    try simp only [Act.put]
    try simp only [List.setIfInBounds_toArray]
    try simp only [List.set]
    refine wpAnyH_take (i := 11) (oi := { dst := some 62, op := Go.Op.load 3 (Go.Operand.tmp 61), type := 3, pos := _, after := _, guard := _ }) (v := ?_) rfl (by kernel_rfl) (by kernel_rfl) (by kernel_rfl) (fun _ _ _ h => h) (Or.inl ⟨by rfl, ?_⟩) (by exact hHeld) ?_
    rotate_left
    · intro w hSw; have hz0 := hcap; obtain ⟨c0, c1, c2, c3, c4, c5, f⟩ := hSw.rd.cells; simp only at c2; go_simp; try with_reducible rfl
    try simp only [Act.put]
    try simp only [List.setIfInBounds_toArray]
    try simp only [List.set]
    refine wpAnyH_take (i := 12) (oi := { dst := some 63, op := Go.Op.move (Go.Operand.tmp 4), type := 3, pos := _, after := _, guard := _ }) (v := ?_) rfl (by kernel_rfl) (by kernel_rfl) (by kernel_rfl) (fun _ _ _ h => h) (Or.inl ⟨by rfl, ?_⟩) (by exact hHeld) ?_
    rotate_left
    · intro w hSw; go_simp; try with_reducible rfl
    try simp only [Act.put]
    try simp only [List.setIfInBounds_toArray]
    try simp only [List.set]
    refine wpAnyH_take (i := 13) (oi := { dst := some 64, op := Go.Op.binOp Go.BinOp.add 3 (Go.Operand.tmp 62) (Go.Operand.tmp 63) 3, type := 3, pos := _, after := _, guard := _ }) (v := ?_) rfl (by kernel_rfl) (by kernel_rfl) (by kernel_rfl) (fun _ _ _ h => h) (Or.inl ⟨by rfl, ?_⟩) (by exact hHeld) ?_
    rotate_left
    · intro w hSw; go_simp; try with_reducible rfl
    try simp only [Act.put]
    try simp only [List.setIfInBounds_toArray]
    try simp only [List.set]
    refine wpAnyH_take (i := 14) (oi := { dst := some 65, op := Go.Op.slice 54 (Go.Operand.tmp 54) (some (Go.Operand.tmp 58)) (some (Go.Operand.tmp 64)) none, type := 54, pos := _, after := _, guard := _ }) (v := ?_) rfl (by kernel_rfl) (by kernel_rfl) (by kernel_rfl) (fun _ _ _ h => h) (Or.inl ⟨by rfl, ?_⟩) (by exact hHeld) ?_
    rotate_left
    · intro w hSw; go_simp; try with_reducible rfl
    try simp only [Act.put]
    try simp only [List.setIfInBounds_toArray]
    try simp only [List.set]
    refine wpAnyH_take (i := 15) (oi := { dst := some 5, op := Go.Op.assign (Go.Operand.tmp 65), type := 54, pos := _, after := _, guard := _ }) (v := ?_) rfl (by kernel_rfl) (by kernel_rfl) (by kernel_rfl) (fun _ _ _ h => h) (Or.inl ⟨by rfl, ?_⟩) (by exact hHeld) ?_
    rotate_left
    · intro w hSw; go_simp; try with_reducible rfl
    try simp only [Act.put]
    try simp only [List.setIfInBounds_toArray]
    try simp only [List.set]
    refine wpAnyH_done (by kernel_rfl) ?_ _
    have H4 := Lib.hid hHeld
    have HC5 := Lib.hid (HC4.out.drew)
    clear hHeld HD HC4
    generalize W4.drew = W5 at H4 HC5 ⊢
    rw [show Value.slice (some ⟨pb, off, none⟩) n 0 = P from HP.out]
    clear hcap b5
    obtain ⟨c0, c1, c2, c3, c4, c5, f⟩ := H4.out.rd.cells
    have f2 := f 2
    have H5 := Lib.hid (H4.out.putAt (t2 + n))
    have e2n : (((t2 + n : Nat)) : Int) = (t2 : Int) + (n : Int) := by omega
    rw [e2n] at H5
    simp only at c2 H5
    clear f e2n t1 t3 b1 b2 b3 b4 H4
    have hc2 : decide (128 ≤ (c.toNat : Int)) = true := decide_eq_true (by omega)
    have HDC := Lib.hid (HDF.out P)
    clear HDF
    have hd2 : (D2 != 0) = true := by simpa using hS
    clear hS
    go_wp2_with fail
    refine (HDC.out _ (HSUB.out _ H5.out.x.chg)).mono ?_
    rintro e w6 ⟨rfl, a6⟩
    have H6 := Lib.hid (H5.out.aft a6)
    clear a6 H5 HDC
    go_wp2_with fail
    refine (fail_any H6.out.rd D2).mono ?_
    rintro e9 w9 ⟨rfl, rfl⟩
    go_wp2_with fail
    exact ⟨rfl, ⟨_, rfl⟩, H6.out.x⟩
  · rw [if_neg hcap] at HSUB
    obtain ⟨P, hP⟩ : ∃ P, Value.slice (some ⟨pb, off + t2, none⟩) n (cap - t2) = P := ⟨_, rfl⟩
    rw [hP] at HSUB
    have HP := Lib.hid hP
    clear hP
    refine wp_region_held_drew (S := fun w' => RS W0 w' B gu g gr vo0 vk (.slice (some ⟨pb, off, none⟩) b.length cap) top list { s with at_ := t2 } vr vo) (by kernel_rfl) HD.out (fun hHeld => ?_)
    refine wpAnyH_take (i := 0) (oi := { dst := some 51, op := Go.Op.move (Go.Operand.tmp 0), type := 107, pos := _, after := _, guard := _ }) (v := ?_) rfl (by kernel_rfl) (by kernel_rfl) (by kernel_rfl) (fun _ _ _ h => h) (Or.inl ⟨by rfl, ?_⟩) (by exact hHeld) ?_
    rotate_left
    · intro w hSw; go_simp; try with_reducible rfl
    try simp only [Act.put]
    try simp only [List.setIfInBounds_toArray]
    try simp only [List.set]
    refine wpAnyH_take (i := 1) (oi := { dst := some 52, op := Go.Op.nilCheck (Go.Operand.tmp 51), type := 0, pos := _, after := _, guard := _ }) (v := ?_) rfl (by kernel_rfl) (by kernel_rfl) (by kernel_rfl) (fun _ _ _ h => h) (Or.inl ⟨by rfl, ?_⟩) (by exact hHeld) ?_
    rotate_left
    · intro w hSw; go_simp; try with_reducible rfl
    try simp only [Act.put]
    try simp only [List.setIfInBounds_toArray]
    try simp only [List.set]
    refine wpAnyH_take (i := 2) (oi := { dst := some 53, op := Go.Op.fieldAddr 109 (Go.Operand.tmp 52) 1, type := 0, pos := _, after := _, guard := _ }) (v := ?_) rfl (by kernel_rfl) (by kernel_rfl) (by kernel_rfl) (fun _ _ _ h => h) (Or.inl ⟨by rfl, ?_⟩) (by exact hHeld) ?_
    rotate_left
    · intro w hSw; go_simp; try with_reducible rfl
    try simp only [Act.put]
    try simp only [List.setIfInBounds_toArray]
    try simp only [List.set]
    refine wpAnyH_take (i := 3) (oi := { dst := some 54, op := Go.Op.load 54 (Go.Operand.tmp 53), type := 54, pos := _, after := _, guard := _ }) (v := ?_) rfl (by kernel_rfl) (by kernel_rfl) (by kernel_rfl) (fun _ _ _ h => h) (Or.inl ⟨by rfl, ?_⟩) (by exact hHeld) ?_
    rotate_left
    · intro w hSw; obtain ⟨c0, c1, c2, c3, c4, c5, f⟩ := hSw.rd.cells; simp only at c2; go_simp; try with_reducible rfl
    try simp only [Act.put]
    try simp only [List.setIfInBounds_toArray]
    try simp only [List.set]
    refine wpAnyH_take (i := 4) (oi := { dst := some 55, op := Go.Op.move (Go.Operand.tmp 0), type := 107, pos := _, after := _, guard := _ }) (v := ?_) rfl (by kernel_rfl) (by kernel_rfl) (by kernel_rfl) (fun _ _ _ h => h) (Or.inl ⟨by rfl, ?_⟩) (by exact hHeld) ?_
    rotate_left
    · intro w hSw; go_simp; try with_reducible rfl
    try simp only [Act.put]
    try simp only [List.setIfInBounds_toArray]
    try simp only [List.set]
    refine wpAnyH_take (i := 5) (oi := { dst := some 56, op := Go.Op.nilCheck (Go.Operand.tmp 55), type := 0, pos := _, after := _, guard := _ }) (v := ?_) rfl (by kernel_rfl) (by kernel_rfl) (by kernel_rfl) (fun _ _ _ h => h) (Or.inl ⟨by rfl, ?_⟩) (by exact hHeld) ?_
    rotate_left
    · intro w hSw; go_simp; try with_reducible rfl
    try simp only [Act.put]
    try simp only [List.setIfInBounds_toArray]
    try simp only [List.set]
    refine wpAnyH_take (i := 6) (oi := { dst := some 57, op := Go.Op.fieldAddr 109 (Go.Operand.tmp 56) 2, type := 0, pos := _, after := _, guard := _ }) (v := ?_) rfl (by kernel_rfl) (by kernel_rfl) (by kernel_rfl) (fun _ _ _ h => h) (Or.inl ⟨by rfl, ?_⟩) (by exact hHeld) ?_
    rotate_left
    · intro w hSw; go_simp; try with_reducible rfl
    try simp only [Act.put]
    try simp only [List.setIfInBounds_toArray]
    try simp only [List.set]
    refine wpAnyH_take (i := 7) (oi := { dst := some 58, op := Go.Op.load 3 (Go.Operand.tmp 57), type := 3, pos := _, after := _, guard := _ }) (v := ?_) rfl (by kernel_rfl) (by kernel_rfl) (by kernel_rfl) (fun _ _ _ h => h) (Or.inl ⟨by rfl, ?_⟩) (by exact hHeld) ?_
    rotate_left
    · intro w hSw; obtain ⟨c0, c1, c2, c3, c4, c5, f⟩ := hSw.rd.cells; simp only at c2; go_simp; try with_reducible rfl
    try simp only [Act.put]
    try simp only [List.setIfInBounds_toArray]
    try simp only [List.set]
    refine wpAnyH_take (i := 8) (oi := { dst := some 59, op := Go.Op.move (Go.Operand.tmp 0), type := 107, pos := _, after := _, guard := _ }) (v := ?_) rfl (by kernel_rfl) (by kernel_rfl) (by kernel_rfl) (fun _ _ _ h => h) (Or.inl ⟨by rfl, ?_⟩) (by exact hHeld) ?_
    rotate_left
    · intro w hSw; go_simp; try with_reducible rfl
    try simp only [Act.put]
    try simp only [List.setIfInBounds_toArray]
    try simp only [List.set]
    refine wpAnyH_take (i := 9) (oi := { dst := some 60, op := Go.Op.nilCheck (Go.Operand.tmp 59), type := 0, pos := _, after := _, guard := _ }) (v := ?_) rfl (by kernel_rfl) (by kernel_rfl) (by kernel_rfl) (fun _ _ _ h => h) (Or.inl ⟨by rfl, ?_⟩) (by exact hHeld) ?_
    rotate_left
    · intro w hSw; go_simp; try with_reducible rfl
    try simp only [Act.put]
    try simp only [List.setIfInBounds_toArray]
    try simp only [List.set]
    refine wpAnyH_take (i := 10) (oi := { dst := some 61, op := Go.Op.fieldAddr 109 (Go.Operand.tmp 60) 2, type := 0, pos := _, after := _, guard := _ }) (v := ?_) rfl (by kernel_rfl) (by kernel_rfl) (by kernel_rfl) (fun _ _ _ h => h) (Or.inl ⟨by rfl, ?_⟩) (by exact hHeld) ?_
    rotate_left
    · intro w hSw; go_simp; try with_reducible rfl
    try simp only [Act.put]
    try simp only [List.setIfInBounds_toArray]
    try simp only [List.set]
    refine wpAnyH_take (i := 11) (oi := { dst := some 62, op := Go.Op.load 3 (Go.Operand.tmp 61), type := 3, pos := _, after := _, guard := _ }) (v := ?_) rfl (by kernel_rfl) (by kernel_rfl) (by kernel_rfl) (fun _ _ _ h => h) (Or.inl ⟨by rfl, ?_⟩) (by exact hHeld) ?_
    rotate_left
    · intro w hSw; obtain ⟨c0, c1, c2, c3, c4, c5, f⟩ := hSw.rd.cells; simp only at c2; go_simp; try with_reducible rfl
    try simp only [Act.put]
    try simp only [List.setIfInBounds_toArray]
    try simp only [List.set]
    refine wpAnyH_take (i := 12) (oi := { dst := some 63, op := Go.Op.move (Go.Operand.tmp 4), type := 3, pos := _, after := _, guard := _ }) (v := ?_) rfl (by kernel_rfl) (by kernel_rfl) (by kernel_rfl) (fun _ _ _ h => h) (Or.inl ⟨by rfl, ?_⟩) (by exact hHeld) ?_
    rotate_left
    · intro w hSw; go_simp; try with_reducible rfl
    try simp only [Act.put]
    try simp only [List.setIfInBounds_toArray]
    try simp only [List.set]
    refine wpAnyH_take (i := 13) (oi := { dst := some 64, op := Go.Op.binOp Go.BinOp.add 3 (Go.Operand.tmp 62) (Go.Operand.tmp 63) 3, type := 3, pos := _, after := _, guard := _ }) (v := ?_) rfl (by kernel_rfl) (by kernel_rfl) (by kernel_rfl) (fun _ _ _ h => h) (Or.inl ⟨by rfl, ?_⟩) (by exact hHeld) ?_
    rotate_left
    · intro w hSw; go_simp; try with_reducible rfl
    try simp only [Act.put]
    try simp only [List.setIfInBounds_toArray]
    try simp only [List.set]
    refine wpAnyH_take (i := 14) (oi := { dst := some 65, op := Go.Op.slice 54 (Go.Operand.tmp 54) (some (Go.Operand.tmp 58)) (some (Go.Operand.tmp 64)) none, type := 54, pos := _, after := _, guard := _ }) (v := ?_) rfl (by kernel_rfl) (by kernel_rfl) (by kernel_rfl) (fun _ _ _ h => h) (Or.inl ⟨by rfl, ?_⟩) (by exact hHeld) ?_
    rotate_left
    · intro w hSw; go_simp; try with_reducible rfl
    try simp only [Act.put]
    try simp only [List.setIfInBounds_toArray]
    try simp only [List.set]
    refine wpAnyH_take (i := 15) (oi := { dst := some 5, op := Go.Op.assign (Go.Operand.tmp 65), type := 54, pos := _, after := _, guard := _ }) (v := ?_) rfl (by kernel_rfl) (by kernel_rfl) (by kernel_rfl) (fun _ _ _ h => h) (Or.inl ⟨by rfl, ?_⟩) (by exact hHeld) ?_
    rotate_left
    · intro w hSw; go_simp; try with_reducible rfl
    try simp only [Act.put]
    try simp only [List.setIfInBounds_toArray]
    try simp only [List.set]
    refine wpAnyH_done (by kernel_rfl) ?_ _
    have H4 := Lib.hid hHeld
    have HC5 := Lib.hid (HC4.out.drew)
    clear hHeld HD HC4
    generalize W4.drew = W5 at H4 HC5 ⊢
    rw [show Value.slice (some ⟨pb, off + t2, none⟩) n (cap - t2) = P from HP.out]
    obtain ⟨c0, c1, c2, c3, c4, c5, f⟩ := H4.out.rd.cells
    have f2 := f 2
    have H5 := Lib.hid (H4.out.putAt (t2 + n))
    have e2n : (((t2 + n : Nat)) : Int) = (t2 : Int) + (n : Int) := by omega
    rw [e2n] at H5
    simp only at c2 H5
    clear f e2n t1 t3 b1 b2 b3 b4 H4
    have hc2 : decide (128 ≤ (c.toNat : Int)) = true := decide_eq_true (by omega)
    have HDC := Lib.hid (HDF.out P)
    clear HDF
    have hd2 : (D2 != 0) = true := by simpa using hS
    clear hS
    go_wp2_with fail
    refine (HDC.out _ (HSUB.out _ H5.out.x.chg)).mono ?_
    rintro e w6 ⟨rfl, a6⟩
    have H6 := Lib.hid (H5.out.aft a6)
    clear a6 H5 HDC
    go_wp2_with fail
    refine (fail_any H6.out.rd D2).mono ?_
    rintro e9 w9 ⟨rfl, rfl⟩
    go_wp2_with fail
    exact ⟨rfl, ⟨_, rfl⟩, H6.out.x⟩
set_option linter.unusedSimpArgs false in
set_option maxHeartbeats 16000000 in
set_option maxRecDepth 100000 in
theorem text_lon {W0 w : World} {B gu g gr : Nat} {vo0 vk vr vo : Value} {top list : Int} {s : US} {va : Option Addr} {cap : Nat} {b : List UInt8} (hb : BR W0 g gr vo0 va cap b) (h : RS W0 w B gu g gr vo0 vk (.slice va b.length cap) top list s vr vo) (c : UInt8) (hc : b[s.at_]? = some c) (n t2 : Nat) (hgl : getL b s.at_ 7 = (n, t2, 0)) (hn1 : n ≤ 65536) (hn2 : t2 + n ≤ b.length) (hc1 : 128 ≤ c.toNat) (hS : (decF ((b.drop t2).take n)).2 = 0) (hS2 : 65536 < (decF ((b.drop t2).take n)).1.length) :
    Calls Tryd.prog 98 #[.pointer (some ⟨gr, 0, none⟩)] w fun e w' => (∃ a : Int, e = .panicked [fltV 2 a]) ∧ RX W0 w' B gu g gr vo0 vk top list s.tab s.most vo := by
  have HDF := Lib.hid (fun P w' hr => decode_any P ((b.drop t2).take n) w' hr (by rw [List.length_take]; omega))
  obtain ⟨⟨D1, D2⟩, hDD⟩ : ∃ q, decF ((b.drop t2).take n) = q := ⟨_, rfl⟩
  rw [hDD] at HDF hS hS2
  simp only at HDF hS hS2
  obtain ⟨hlt, hce⟩ := List.getElem?_eq_some_iff.1 hc
  have hne : b ≠ [] := by intro e; rw [e] at hlt; simp at hlt
  obtain ⟨pb, off, rfl, hcap1, hcap2, hcell⟩ := hb.at hne
  have HSUB := Lib.hid (fun wx hx => (hb.rb wx hx).sub (i := t2) (n := n) hn2)
  have HCB : Hid (∀ wx, Chg (TU gr g vo0) W0 wx → wx.cell? ⟨pb, off + s.at_, none⟩ = some (.int .u8 (c.toNat : Int))) := Lib.hid (fun wx hx => by have := hcell wx hx s.at_ hlt; rw [hce] at this; exact this)
  have HNM := Lib.hid (fun w' (h : RS W0 w' B gu g gr vo0 vk (.slice (some ⟨pb, off, none⟩) b.length cap) top list s vr vo) => number_ok hb h (by omega) 7 (by omega) (by rw [hgl]))
  rw [hgl] at HNM
  simp only at HNM
  obtain ⟨at_, hat⟩ : ∃ a, s.at_ = a := ⟨_, rfl⟩
  rw [hat] at HCB hlt
  have HAT := Lib.hid hat
  have hlen := hb.len
  have HD : Hid (RS W0 w.drew B gu g gr vo0 vk (.slice (some ⟨pb, off, none⟩) b.length cap) top list s vr vo) := Lib.hid (h.aft ((Aft.refl w).drew))
  have i1 : (at_ : Int) < (b.length : Int) := by omega
  have i2 : ((at_ : Int) == (b.length : Int)) = false := by simp; omega
  have HLT := Lib.hid hlt
  clear hb h hc hgl hDD hne hcell hce hat hlt
  go_enter Tryd.func98, Tryd.ntmps98
  go_upto_region 1 with fail
  refine wp_region_held_drew (S := fun w' => RS W0 w' B gu g gr vo0 vk (.slice (some ⟨pb, off, none⟩) b.length cap) top list s vr vo) (by kernel_rfl) HD.out (fun hHeld => ?_)
  refine wpAnyH_take (i := 0) (oi := { dst := some 8, op := Go.Op.move (Go.Operand.tmp 0), type := 107, pos := _, after := _, guard := _ }) (v := ?_) rfl (by kernel_rfl) (by kernel_rfl) (by kernel_rfl) (fun _ _ _ h => h) (Or.inl ⟨by rfl, ?_⟩) (by exact hHeld) ?_
  rotate_left
  · intro w hSw; go_simp; try with_reducible rfl
  try simp only [Act.put]
  try simp only [List.setIfInBounds_toArray]
  try simp only [List.set]
  refine wpAnyH_take (i := 1) (oi := { dst := some 9, op := Go.Op.nilCheck (Go.Operand.tmp 8), type := 0, pos := _, after := _, guard := _ }) (v := ?_) rfl (by kernel_rfl) (by kernel_rfl) (by kernel_rfl) (fun _ _ _ h => h) (Or.inl ⟨by rfl, ?_⟩) (by exact hHeld) ?_
  rotate_left
  · intro w hSw; go_simp; try with_reducible rfl
  try simp only [Act.put]
  try simp only [List.setIfInBounds_toArray]
  try simp only [List.set]
  refine wpAnyH_take (i := 2) (oi := { dst := some 10, op := Go.Op.fieldAddr 109 (Go.Operand.tmp 9) 2, type := 0, pos := _, after := _, guard := _ }) (v := ?_) rfl (by kernel_rfl) (by kernel_rfl) (by kernel_rfl) (fun _ _ _ h => h) (Or.inl ⟨by rfl, ?_⟩) (by exact hHeld) ?_
  rotate_left
  · intro w hSw; go_simp; try with_reducible rfl
  try simp only [Act.put]
  try simp only [List.setIfInBounds_toArray]
  try simp only [List.set]
  refine wpAnyH_take (i := 3) (oi := { dst := some 11, op := Go.Op.load 3 (Go.Operand.tmp 10), type := 3, pos := _, after := _, guard := _ }) (v := ?_) rfl (by kernel_rfl) (by kernel_rfl) (by kernel_rfl) (fun _ _ _ h => h) (Or.inl ⟨by rfl, ?_⟩) (by exact hHeld) ?_
  rotate_left
  · intro w hSw; obtain ⟨c0, c1, c2, c3, c4, c5, f⟩ := hSw.rd.cells; rw [HAT.out] at c2; go_simp; try with_reducible rfl
  try simp only [Act.put]
  try simp only [List.setIfInBounds_toArray]
  try simp only [List.set]
  refine wpAnyH_take (i := 4) (oi := { dst := some 12, op := Go.Op.move (Go.Operand.tmp 0), type := 107, pos := _, after := _, guard := _ }) (v := ?_) rfl (by kernel_rfl) (by kernel_rfl) (by kernel_rfl) (fun _ _ _ h => h) (Or.inl ⟨by rfl, ?_⟩) (by exact hHeld) ?_
  rotate_left
  · intro w hSw; go_simp; try with_reducible rfl
  try simp only [Act.put]
  try simp only [List.setIfInBounds_toArray]
  try simp only [List.set]
  refine wpAnyH_take (i := 5) (oi := { dst := some 13, op := Go.Op.nilCheck (Go.Operand.tmp 12), type := 0, pos := _, after := _, guard := _ }) (v := ?_) rfl (by kernel_rfl) (by kernel_rfl) (by kernel_rfl) (fun _ _ _ h => h) (Or.inl ⟨by rfl, ?_⟩) (by exact hHeld) ?_
  rotate_left
  · intro w hSw; go_simp; try with_reducible rfl
  try simp only [Act.put]
  try simp only [List.setIfInBounds_toArray]
  try simp only [List.set]
  refine wpAnyH_take (i := 6) (oi := { dst := some 14, op := Go.Op.fieldAddr 109 (Go.Operand.tmp 13) 1, type := 0, pos := _, after := _, guard := _ }) (v := ?_) rfl (by kernel_rfl) (by kernel_rfl) (by kernel_rfl) (fun _ _ _ h => h) (Or.inl ⟨by rfl, ?_⟩) (by exact hHeld) ?_
  rotate_left
  · intro w hSw; go_simp; try with_reducible rfl
  try simp only [Act.put]
  try simp only [List.setIfInBounds_toArray]
  try simp only [List.set]
  refine wpAnyH_take (i := 7) (oi := { dst := some 15, op := Go.Op.load 54 (Go.Operand.tmp 14), type := 54, pos := _, after := _, guard := _ }) (v := ?_) rfl (by kernel_rfl) (by kernel_rfl) (by kernel_rfl) (fun _ _ _ h => h) (Or.inl ⟨by rfl, ?_⟩) (by exact hHeld) ?_
  rotate_left
  · intro w hSw; obtain ⟨c0, c1, c2, c3, c4, c5, f⟩ := hSw.rd.cells; rw [HAT.out] at c2; go_simp; try with_reducible rfl
  try simp only [Act.put]
  try simp only [List.setIfInBounds_toArray]
  try simp only [List.set]
  refine wpAnyH_take (i := 8) (oi := { dst := some 16, op := Go.Op.call { callee := Go.Callee.builtin Go.Builtin.len, args := #[Go.Operand.tmp 15], argTypes := #[54] }, type := 3, pos := _, after := _, guard := _ }) (v := ?_) rfl (by kernel_rfl) (by kernel_rfl) (by kernel_rfl) (fun _ _ _ h => h) (Or.inl ⟨by rfl, ?_⟩) (by exact hHeld) ?_
  rotate_left
  · intro w hSw; go_simp; try with_reducible rfl
  try simp only [Act.put]
  try simp only [List.setIfInBounds_toArray]
  try simp only [List.set]
  refine wpAnyH_take (i := 9) (oi := { dst := some 17, op := Go.Op.binOp Go.BinOp.eql 3 (Go.Operand.tmp 11) (Go.Operand.tmp 16) 3, type := 4, pos := _, after := _, guard := _ }) (v := ?_) rfl (by kernel_rfl) (by kernel_rfl) (by kernel_rfl) (fun _ _ _ h => h) (Or.inl ⟨by rfl, ?_⟩) (by exact hHeld) ?_
  rotate_left
  · intro w hSw; go_simp; try with_reducible rfl
  try simp only [Act.put]
  try simp only [List.setIfInBounds_toArray]
  try simp only [List.set]
  refine wpAnyH_done (by kernel_rfl) ?_ _
  have H1 := Lib.hid hHeld
  have HC1 : Hid (Chg (fun k => k = gr) w w.drew) := Lib.hid ((Chg.refl _ w).drew)
  clear hHeld HD
  generalize w.drew = W1 at H1 HC1 ⊢
  go_upto_region 3 with fail
  have HD : Hid (RS W0 W1.drew B gu g gr vo0 vk (.slice (some ⟨pb, off, none⟩) b.length cap) top list s vr vo) := Lib.hid (H1.out.aft ((Aft.refl W1).drew))
  clear H1
  refine wp_region_held_drew (S := fun w' => RS W0 w' B gu g gr vo0 vk (.slice (some ⟨pb, off, none⟩) b.length cap) top list s vr vo) (by kernel_rfl) HD.out (fun hHeld => ?_)
  refine wpAnyH_take (i := 0) (oi := { dst := some 20, op := Go.Op.move (Go.Operand.tmp 0), type := 107, pos := _, after := _, guard := _ }) (v := ?_) rfl (by kernel_rfl) (by kernel_rfl) (by kernel_rfl) (fun _ _ _ h => h) (Or.inl ⟨by rfl, ?_⟩) (by exact hHeld) ?_
  rotate_left
  · intro w hSw; go_simp; try with_reducible rfl
  try simp only [Act.put]
  try simp only [List.setIfInBounds_toArray]
  try simp only [List.set]
  refine wpAnyH_take (i := 1) (oi := { dst := some 21, op := Go.Op.nilCheck (Go.Operand.tmp 20), type := 0, pos := _, after := _, guard := _ }) (v := ?_) rfl (by kernel_rfl) (by kernel_rfl) (by kernel_rfl) (fun _ _ _ h => h) (Or.inl ⟨by rfl, ?_⟩) (by exact hHeld) ?_
  rotate_left
  · intro w hSw; go_simp; try with_reducible rfl
  try simp only [Act.put]
  try simp only [List.setIfInBounds_toArray]
  try simp only [List.set]
  refine wpAnyH_take (i := 2) (oi := { dst := some 22, op := Go.Op.fieldAddr 109 (Go.Operand.tmp 21) 1, type := 0, pos := _, after := _, guard := _ }) (v := ?_) rfl (by kernel_rfl) (by kernel_rfl) (by kernel_rfl) (fun _ _ _ h => h) (Or.inl ⟨by rfl, ?_⟩) (by exact hHeld) ?_
  rotate_left
  · intro w hSw; go_simp; try with_reducible rfl
  try simp only [Act.put]
  try simp only [List.setIfInBounds_toArray]
  try simp only [List.set]
  refine wpAnyH_take (i := 3) (oi := { dst := some 23, op := Go.Op.load 54 (Go.Operand.tmp 22), type := 54, pos := _, after := _, guard := _ }) (v := ?_) rfl (by kernel_rfl) (by kernel_rfl) (by kernel_rfl) (fun _ _ _ h => h) (Or.inl ⟨by rfl, ?_⟩) (by exact hHeld) ?_
  rotate_left
  · intro w hSw; obtain ⟨c0, c1, c2, c3, c4, c5, f⟩ := hSw.rd.cells; rw [HAT.out] at c2; have hx := HCB.out _ hSw.x.chg; go_simp; try with_reducible rfl
  try simp only [Act.put]
  try simp only [List.setIfInBounds_toArray]
  try simp only [List.set]
  refine wpAnyH_take (i := 4) (oi := { dst := some 24, op := Go.Op.move (Go.Operand.tmp 0), type := 107, pos := _, after := _, guard := _ }) (v := ?_) rfl (by kernel_rfl) (by kernel_rfl) (by kernel_rfl) (fun _ _ _ h => h) (Or.inl ⟨by rfl, ?_⟩) (by exact hHeld) ?_
  rotate_left
  · intro w hSw; go_simp; try with_reducible rfl
  try simp only [Act.put]
  try simp only [List.setIfInBounds_toArray]
  try simp only [List.set]
  refine wpAnyH_take (i := 5) (oi := { dst := some 25, op := Go.Op.nilCheck (Go.Operand.tmp 24), type := 0, pos := _, after := _, guard := _ }) (v := ?_) rfl (by kernel_rfl) (by kernel_rfl) (by kernel_rfl) (fun _ _ _ h => h) (Or.inl ⟨by rfl, ?_⟩) (by exact hHeld) ?_
  rotate_left
  · intro w hSw; go_simp; try with_reducible rfl
  try simp only [Act.put]
  try simp only [List.setIfInBounds_toArray]
  try simp only [List.set]
  refine wpAnyH_take (i := 6) (oi := { dst := some 26, op := Go.Op.fieldAddr 109 (Go.Operand.tmp 25) 2, type := 0, pos := _, after := _, guard := _ }) (v := ?_) rfl (by kernel_rfl) (by kernel_rfl) (by kernel_rfl) (fun _ _ _ h => h) (Or.inl ⟨by rfl, ?_⟩) (by exact hHeld) ?_
  rotate_left
  · intro w hSw; go_simp; try with_reducible rfl
  try simp only [Act.put]
  try simp only [List.setIfInBounds_toArray]
  try simp only [List.set]
  refine wpAnyH_take (i := 7) (oi := { dst := some 27, op := Go.Op.load 3 (Go.Operand.tmp 26), type := 3, pos := _, after := _, guard := _ }) (v := ?_) rfl (by kernel_rfl) (by kernel_rfl) (by kernel_rfl) (fun _ _ _ h => h) (Or.inl ⟨by rfl, ?_⟩) (by exact hHeld) ?_
  rotate_left
  · intro w hSw; obtain ⟨c0, c1, c2, c3, c4, c5, f⟩ := hSw.rd.cells; rw [HAT.out] at c2; have hx := HCB.out _ hSw.x.chg; go_simp; try with_reducible rfl
  try simp only [Act.put]
  try simp only [List.setIfInBounds_toArray]
  try simp only [List.set]
  refine wpAnyH_take (i := 8) (oi := { dst := some 28, op := Go.Op.indexAddr 54 (Go.Operand.tmp 23) (Go.Operand.tmp 27), type := 0, pos := _, after := _, guard := _ }) (v := ?_) rfl (by kernel_rfl) (by kernel_rfl) (by kernel_rfl) (fun _ _ _ h => h) (Or.inl ⟨by rfl, ?_⟩) (by exact hHeld) ?_
  rotate_left
  · intro w hSw; go_simp; try with_reducible rfl
  try simp only [Act.put]
  try simp only [List.setIfInBounds_toArray]
  try simp only [List.set]
  refine wpAnyH_take (i := 9) (oi := { dst := some 29, op := Go.Op.load 5 (Go.Operand.tmp 28), type := 5, pos := _, after := _, guard := _ }) (v := ?_) rfl (by kernel_rfl) (by kernel_rfl) (by kernel_rfl) (fun _ _ _ h => h) (Or.inl ⟨by rfl, ?_⟩) (by exact hHeld) ?_
  rotate_left
  · intro w hSw; obtain ⟨c0, c1, c2, c3, c4, c5, f⟩ := hSw.rd.cells; rw [HAT.out] at c2; have hx := HCB.out _ hSw.x.chg; go_simp; try with_reducible rfl
  try simp only [Act.put]
  try simp only [List.setIfInBounds_toArray]
  try simp only [List.set]
  refine wpAnyH_take (i := 10) (oi := { dst := some 30, op := Go.Op.binOp Go.BinOp.geq 5 (Go.Operand.tmp 29) (Go.Operand.const (Go.Value.int Go.IntKind.u8 128)) 5, type := 4, pos := _, after := _, guard := _ }) (v := ?_) rfl (by kernel_rfl) (by kernel_rfl) (by kernel_rfl) (fun _ _ _ h => h) (Or.inl ⟨by rfl, ?_⟩) (by exact hHeld) ?_
  rotate_left
  · intro w hSw; go_simp; try with_reducible rfl
  try simp only [Act.put]
  try simp only [List.setIfInBounds_toArray]
  try simp only [List.set]
  refine wpAnyH_take (i := 11) (oi := { dst := some 3, op := Go.Op.assign (Go.Operand.tmp 30), type := 4, pos := _, after := _, guard := _ }) (v := ?_) rfl (by kernel_rfl) (by kernel_rfl) (by kernel_rfl) (fun _ _ _ h => h) (Or.inl ⟨by rfl, ?_⟩) (by exact hHeld) ?_
  rotate_left
  · intro w hSw; go_simp; try with_reducible rfl
  try simp only [Act.put]
  try simp only [List.setIfInBounds_toArray]
  try simp only [List.set]
  refine wpAnyH_done (by kernel_rfl) ?_ _
  have H2 := Lib.hid hHeld
  have HC2 := Lib.hid (HC1.out.drew)
  clear hHeld HD HC1
  generalize W1.drew = W2 at H2 HC2 ⊢
  clear i2
  go_wp2_with fail
  refine (HNM.out _ H2.out).mono ?_
  rintro e w3 ⟨rfl, h3, k3⟩
  have H3 := Lib.hid h3
  have HC3 := Lib.hid (HC2.out.trans k3 (fun i hi => Or.inl hi))
  clear h3 k3 H2 HNM HCB HC2
  have n5 : ¬ (n : Int) > 65536 := by omega
  have gw : IntKind.i64.wrap ((b.length : Int) - (t2 : Int)) = (b.length : Int) - (t2 : Int) := IntWalk.i64_in _ (by omega)
  have n7 : ¬ (n : Int) > (b.length : Int) - (t2 : Int) := by omega
  go_upto_region 7 with fail
  have HD : Hid (RS W0 w3.drew B gu g gr vo0 vk (.slice (some ⟨pb, off, none⟩) b.length cap) top list { s with at_ := t2 } vr vo) := Lib.hid (H3.out.aft ((Aft.refl w3).drew))
  clear H3
  refine wp_region_held_drew (S := fun w' => RS W0 w' B gu g gr vo0 vk (.slice (some ⟨pb, off, none⟩) b.length cap) top list { s with at_ := t2 } vr vo) (by kernel_rfl) HD.out (fun hHeld => ?_)
  refine wpAnyH_take (i := 0) (oi := { dst := some 37, op := Go.Op.move (Go.Operand.tmp 4), type := 3, pos := _, after := _, guard := _ }) (v := ?_) rfl (by kernel_rfl) (by kernel_rfl) (by kernel_rfl) (fun _ _ _ h => h) (Or.inl ⟨by rfl, ?_⟩) (by exact hHeld) ?_
  rotate_left
  · intro w hSw; go_simp; try with_reducible rfl
  try simp only [Act.put]
  try simp only [List.setIfInBounds_toArray]
  try simp only [List.set]
  refine wpAnyH_take (i := 1) (oi := { dst := some 38, op := Go.Op.move (Go.Operand.tmp 0), type := 107, pos := _, after := _, guard := _ }) (v := ?_) rfl (by kernel_rfl) (by kernel_rfl) (by kernel_rfl) (fun _ _ _ h => h) (Or.inl ⟨by rfl, ?_⟩) (by exact hHeld) ?_
  rotate_left
  · intro w hSw; go_simp; try with_reducible rfl
  try simp only [Act.put]
  try simp only [List.setIfInBounds_toArray]
  try simp only [List.set]
  refine wpAnyH_take (i := 2) (oi := { dst := some 39, op := Go.Op.nilCheck (Go.Operand.tmp 38), type := 0, pos := _, after := _, guard := _ }) (v := ?_) rfl (by kernel_rfl) (by kernel_rfl) (by kernel_rfl) (fun _ _ _ h => h) (Or.inl ⟨by rfl, ?_⟩) (by exact hHeld) ?_
  rotate_left
  · intro w hSw; go_simp; try with_reducible rfl
  try simp only [Act.put]
  try simp only [List.setIfInBounds_toArray]
  try simp only [List.set]
  refine wpAnyH_take (i := 3) (oi := { dst := some 40, op := Go.Op.fieldAddr 109 (Go.Operand.tmp 39) 1, type := 0, pos := _, after := _, guard := _ }) (v := ?_) rfl (by kernel_rfl) (by kernel_rfl) (by kernel_rfl) (fun _ _ _ h => h) (Or.inl ⟨by rfl, ?_⟩) (by exact hHeld) ?_
  rotate_left
  · intro w hSw; go_simp; try with_reducible rfl
  try simp only [Act.put]
  try simp only [List.setIfInBounds_toArray]
  try simp only [List.set]
  refine wpAnyH_take (i := 4) (oi := { dst := some 41, op := Go.Op.load 54 (Go.Operand.tmp 40), type := 54, pos := _, after := _, guard := _ }) (v := ?_) rfl (by kernel_rfl) (by kernel_rfl) (by kernel_rfl) (fun _ _ _ h => h) (Or.inl ⟨by rfl, ?_⟩) (by exact hHeld) ?_
  rotate_left
  · intro w hSw; obtain ⟨c0, c1, c2, c3, c4, c5, f⟩ := hSw.rd.cells; simp only at c2; go_simp; try with_reducible rfl
  try simp only [Act.put]
  try simp only [List.setIfInBounds_toArray]
  try simp only [List.set]
  refine wpAnyH_take (i := 5) (oi := { dst := some 42, op := Go.Op.call { callee := Go.Callee.builtin Go.Builtin.len, args := #[Go.Operand.tmp 41], argTypes := #[54] }, type := 3, pos := _, after := _, guard := _ }) (v := ?_) rfl (by kernel_rfl) (by kernel_rfl) (by kernel_rfl) (fun _ _ _ h => h) (Or.inl ⟨by rfl, ?_⟩) (by exact hHeld) ?_
  rotate_left
  · intro w hSw; go_simp; try with_reducible rfl
  try simp only [Act.put]
  try simp only [List.setIfInBounds_toArray]
  try simp only [List.set]
  refine wpAnyH_take (i := 6) (oi := { dst := some 43, op := Go.Op.move (Go.Operand.tmp 0), type := 107, pos := _, after := _, guard := _ }) (v := ?_) rfl (by kernel_rfl) (by kernel_rfl) (by kernel_rfl) (fun _ _ _ h => h) (Or.inl ⟨by rfl, ?_⟩) (by exact hHeld) ?_
  rotate_left
  · intro w hSw; go_simp; try with_reducible rfl
  try simp only [Act.put]
  try simp only [List.setIfInBounds_toArray]
  try simp only [List.set]
  refine wpAnyH_take (i := 7) (oi := { dst := some 44, op := Go.Op.nilCheck (Go.Operand.tmp 43), type := 0, pos := _, after := _, guard := _ }) (v := ?_) rfl (by kernel_rfl) (by kernel_rfl) (by kernel_rfl) (fun _ _ _ h => h) (Or.inl ⟨by rfl, ?_⟩) (by exact hHeld) ?_
  rotate_left
  · intro w hSw; go_simp; try with_reducible rfl
  try simp only [Act.put]
  try simp only [List.setIfInBounds_toArray]
  try simp only [List.set]
  refine wpAnyH_take (i := 8) (oi := { dst := some 45, op := Go.Op.fieldAddr 109 (Go.Operand.tmp 44) 2, type := 0, pos := _, after := _, guard := _ }) (v := ?_) rfl (by kernel_rfl) (by kernel_rfl) (by kernel_rfl) (fun _ _ _ h => h) (Or.inl ⟨by rfl, ?_⟩) (by exact hHeld) ?_
  rotate_left
  · intro w hSw; go_simp; try with_reducible rfl
  try simp only [Act.put]
  try simp only [List.setIfInBounds_toArray]
  try simp only [List.set]
  refine wpAnyH_take (i := 9) (oi := { dst := some 46, op := Go.Op.load 3 (Go.Operand.tmp 45), type := 3, pos := _, after := _, guard := _ }) (v := ?_) rfl (by kernel_rfl) (by kernel_rfl) (by kernel_rfl) (fun _ _ _ h => h) (Or.inl ⟨by rfl, ?_⟩) (by exact hHeld) ?_
  rotate_left
  · intro w hSw; obtain ⟨c0, c1, c2, c3, c4, c5, f⟩ := hSw.rd.cells; simp only at c2; go_simp; try with_reducible rfl
  try simp only [Act.put]
  try simp only [List.setIfInBounds_toArray]
  try simp only [List.set]
  refine wpAnyH_take (i := 10) (oi := { dst := some 47, op := Go.Op.binOp Go.BinOp.sub 3 (Go.Operand.tmp 42) (Go.Operand.tmp 46) 3, type := 3, pos := _, after := _, guard := _ }) (v := ?_) rfl (by kernel_rfl) (by kernel_rfl) (by kernel_rfl) (fun _ _ _ h => h) (Or.inl ⟨by rfl, ?_⟩) (by exact hHeld) ?_
  rotate_left
  · intro w hSw; go_simp; try with_reducible rfl
  try simp only [Act.put]
  try simp only [List.setIfInBounds_toArray]
  try simp only [List.set]
  refine wpAnyH_take (i := 11) (oi := { dst := some 48, op := Go.Op.binOp Go.BinOp.gtr 3 (Go.Operand.tmp 37) (Go.Operand.tmp 47) 3, type := 4, pos := _, after := _, guard := _ }) (v := ?_) rfl (by kernel_rfl) (by kernel_rfl) (by kernel_rfl) (fun _ _ _ h => h) (Or.inl ⟨by rfl, ?_⟩) (by exact hHeld) ?_
  rotate_left
  · intro w hSw; go_simp; try with_reducible rfl
  try simp only [Act.put]
  try simp only [List.setIfInBounds_toArray]
  try simp only [List.set]
  refine wpAnyH_done (by kernel_rfl) ?_ _
  have H4 := Lib.hid hHeld
  have HC4 := Lib.hid (HC3.out.drew)
  clear hHeld HD gw HC3
  generalize w3.drew = W4 at H4 HC4 ⊢
  go_upto_region 9 with fail
  have gw2 : IntKind.i64.wrap ((t2 : Int) + (n : Int)) = (t2 : Int) + (n : Int) := IntWalk.i64_in _ (by omega)
  have b1 : (0 : Int) ≤ (t2 : Int) := by omega
  have b2 : (t2 : Int) ≤ (t2 : Int) + (n : Int) := by omega
  have b3 : (t2 : Int) + (n : Int) ≤ (cap : Int) := by omega
  have b4 : (0 : Int) ≤ (t2 : Int) + (n : Int) := by omega
  have t1 : ((t2 : Int) + (n : Int)).toNat = t2 + n := by omega
  have t3 : t2 + n - t2 = n := by omega
  have HD : Hid (RS W0 W4.drew B gu g gr vo0 vk (.slice (some ⟨pb, off, none⟩) b.length cap) top list { s with at_ := t2 } vr vo) := Lib.hid (H4.out.aft ((Aft.refl W4).drew))
  clear H4
  by_cases hcap : cap = t2
  · rw [if_pos hcap] at HSUB
    obtain ⟨P, hP⟩ : ∃ P, Value.slice (some ⟨pb, off, none⟩) n (cap - t2) = P := ⟨_, rfl⟩
    have hP2 : Value.slice (some ⟨pb, off, none⟩) n 0 = P := by rw [← hP, show cap - t2 = 0 by omega]
    have b5 : (t2 : Int) + (n : Int) ≤ (t2 : Int) := by omega
    rw [hP] at HSUB
    have HP := Lib.hid hP2
    clear hP hP2
    refine wp_region_held_drew (S := fun w' => RS W0 w' B gu g gr vo0 vk (.slice (some ⟨pb, off, none⟩) b.length cap) top list { s with at_ := t2 } vr vo) (by kernel_rfl) HD.out (fun hHeld => ?_)
    refine wpAnyH_take (i := 0) (oi := { dst := some 51, op := Go.Op.move (Go.Operand.tmp 0), type := 107, pos := _, after := _, guard := _ }) (v := ?_) rfl (by kernel_rfl) (by kernel_rfl) (by kernel_rfl) (fun _ _ _ h => h) (Or.inl ⟨by rfl, ?_⟩) (by exact hHeld) ?_
    rotate_left
    · intro w hSw; go_simp; try with_reducible rfl
    try simp only [Act.put]
    try simp only [List.setIfInBounds_toArray]
    try simp only [List.set]
    refine wpAnyH_take (i := 1) (oi := { dst := some 52, op := Go.Op.nilCheck (Go.Operand.tmp 51), type := 0, pos := _, after := _, guard := _ }) (v := ?_) rfl (by kernel_rfl) (by kernel_rfl) (by kernel_rfl) (fun _ _ _ h => h) (Or.inl ⟨by rfl, ?_⟩) (by exact hHeld) ?_
    rotate_left
    · intro w hSw; go_simp; try with_reducible rfl
    try simp only [Act.put]
    try simp only [List.setIfInBounds_toArray]
    try simp only [List.set]
    refine wpAnyH_take (i := 2) (oi := { dst := some 53, op := Go.Op.fieldAddr 109 (Go.Operand.tmp 52) 1, type := 0, pos := _, after := _, guard := _ }) (v := ?_) rfl (by kernel_rfl) (by kernel_rfl) (by kernel_rfl) (fun _ _ _ h => h) (Or.inl ⟨by rfl, ?_⟩) (by exact hHeld) ?_
    rotate_left
    · intro w hSw; go_simp; try with_reducible rfl
    try simp only [Act.put]
    try simp only [List.setIfInBounds_toArray]
    try simp only [List.set]
    refine wpAnyH_take (i := 3) (oi := { dst := some 54, op := Go.Op.load 54 (Go.Operand.tmp 53), type := 54, pos := _, after := _, guard := _ }) (v := ?_) rfl (by kernel_rfl) (by kernel_rfl) (by kernel_rfl) (fun _ _ _ h => h) (Or.inl ⟨by rfl, ?_⟩) (by exact hHeld) ?_
    rotate_left
    · intro w hSw; have hz0 := hcap; obtain ⟨c0, c1, c2, c3, c4, c5, f⟩ := hSw.rd.cells; simp only at c2; go_simp; try with_reducible rfl
    try simp only [Act.put]
    try simp only [List.setIfInBounds_toArray]
    try simp only [List.set]
    refine wpAnyH_take (i := 4) (oi := { dst := some 55, op := Go.Op.move (Go.Operand.tmp 0), type := 107, pos := _, after := _, guard := _ }) (v := ?_) rfl (by kernel_rfl) (by kernel_rfl) (by kernel_rfl) (fun _ _ _ h => h) (Or.inl ⟨by rfl, ?_⟩) (by exact hHeld) ?_
    rotate_left
    · intro w hSw; go_simp; try with_reducible rfl
    try simp only [Act.put]
    try simp only [List.setIfInBounds_toArray]
    try simp only [List.set]
    refine wpAnyH_take (i := 5) (oi := { dst := some 56, op := Go.Op.nilCheck (Go.Operand.tmp 55), type := 0, pos := _, after := _, guard := _ }) (v := ?_) rfl (by kernel_rfl) (by kernel_rfl) (by kernel_rfl) (fun _ _ _ h => h) (Or.inl ⟨by rfl, ?_⟩) (by exact hHeld) ?_
    rotate_left
    · intro w hSw; go_simp; try with_reducible rfl
    try simp only [Act.put]
    try simp only [List.setIfInBounds_toArray]
    try simp only [List.set]
    refine wpAnyH_take (i := 6) (oi := { dst := some 57, op := Go.Op.fieldAddr 109 (Go.Operand.tmp 56) 2, type := 0, pos := _, after := _, guard := _ }) (v := ?_) rfl (by kernel_rfl) (by kernel_rfl) (by kernel_rfl) (fun _ _ _ h => h) (Or.inl ⟨by rfl, ?_⟩) (by exact hHeld) ?_
    rotate_left
    · intro w hSw; go_simp; try with_reducible rfl
    try simp only [Act.put]
    try simp only [List.setIfInBounds_toArray]
    try simp only [List.set]
    refine wpAnyH_take (i := 7) (oi := { dst := some 58, op := Go.Op.load 3 (Go.Operand.tmp 57), type := 3, pos := _, after := _, guard := _ }) (v := ?_) rfl (by kernel_rfl) (by kernel_rfl) (by kernel_rfl) (fun _ _ _ h => h) (Or.inl ⟨by rfl, ?_⟩) (by exact hHeld) ?_
    rotate_left
    · intro w hSw; have hz0 := hcap; obtain ⟨c0, c1, c2, c3, c4, c5, f⟩ := hSw.rd.cells; simp only at c2; go_simp; try with_reducible rfl
    try simp only [Act.put]
    try simp only [List.setIfInBounds_toArray]
    try simp only [List.set]
    refine wpAnyH_take (i := 8) (oi := { dst := some 59, op := Go.Op.move (Go.Operand.tmp 0), type := 107, pos := _, after := _, guard := _ }) (v := ?_) rfl (by kernel_rfl) (by kernel_rfl) (by kernel_rfl) (fun _ _ _ h => h) (Or.inl ⟨by rfl, ?_⟩) (by exact hHeld) ?_
    rotate_left
    · intro w hSw; go_simp; try with_reducible rfl
    try simp only [Act.put]
    try simp only [List.setIfInBounds_toArray]
    try simp only [List.set]
    refine wpAnyH_take (i := 9) (oi := { dst := some 60, op := Go.Op.nilCheck (Go.Operand.tmp 59), type := 0, pos := _, after := _, guard := _ }) (v := ?_) rfl (by kernel_rfl) (by kernel_rfl) (by kernel_rfl) (fun _ _ _ h => h) (Or.inl ⟨by rfl, ?_⟩) (by exact hHeld) ?_
    rotate_left
    · intro w hSw; go_simp; try with_reducible rfl
    try simp only [Act.put]
    try simp only [List.setIfInBounds_toArray]
    try simp only [List.set]
    refine wpAnyH_take (i := 10) (oi := { dst := some 61, op := Go.Op.fieldAddr 109 (Go.Operand.tmp 60) 2, type := 0, pos := _, after := _, guard := _ }) (v := ?_) rfl (by kernel_rfl) (by kernel_rfl) (by kernel_rfl) (fun _ _ _ h => h) (Or.inl ⟨by rfl, ?_⟩) (by exact hHeld) ?_
    rotate_left
    · intro w hSw; go_simp; try with_reducible rfl
    try simp only [Act.put]
    try simp only [List.setIfInBounds_toArray]
    try simp only [List.set]
    refine wpAnyH_take (i := 11) (oi := { dst := some 62, op := Go.Op.load 3 (Go.Operand.tmp 61), type := 3, pos := _, after := _, guard := _ }) (v := ?_) rfl (by kernel_rfl) (by kernel_rfl) (by kernel_rfl) (fun _ _ _ h => h) (Or.inl ⟨by rfl, ?_⟩) (by exact hHeld) ?_
    rotate_left
    · intro w hSw; have hz0 := hcap; obtain ⟨c0, c1, c2, c3, c4, c5, f⟩ := hSw.rd.cells; simp only at c2; go_simp; try with_reducible rfl
    try simp only [Act.put]
    try simp only [List.setIfInBounds_toArray]
    try simp only [List.set]
    refine wpAnyH_take (i := 12) (oi := { dst := some 63, op := Go.Op.move (Go.Operand.tmp 4), type := 3, pos := _, after := _, guard := _ }) (v := ?_) rfl (by kernel_rfl) (by kernel_rfl) (by kernel_rfl) (fun _ _ _ h => h) (Or.inl ⟨by rfl, ?_⟩) (by exact hHeld) ?_
    rotate_left
    · intro w hSw; go_simp; try with_reducible rfl
    try simp only [Act.put]
    try simp only [List.setIfInBounds_toArray]
    try simp only [List.set]
    refine wpAnyH_take (i := 13) (oi := { dst := some 64, op := Go.Op.binOp Go.BinOp.add 3 (Go.Operand.tmp 62) (Go.Operand.tmp 63) 3, type := 3, pos := _, after := _, guard := _ }) (v := ?_) rfl (by kernel_rfl) (by kernel_rfl) (by kernel_rfl) (fun _ _ _ h => h) (Or.inl ⟨by rfl, ?_⟩) (by exact hHeld) ?_
    rotate_left
    · intro w hSw; go_simp; try with_reducible rfl
    try simp only [Act.put]
    try simp only [List.setIfInBounds_toArray]
    try simp only [List.set]
    refine wpAnyH_take (i := 14) (oi := { dst := some 65, op := Go.Op.slice 54 (Go.Operand.tmp 54) (some (Go.Operand.tmp 58)) (some (Go.Operand.tmp 64)) none, type := 54, pos := _, after := _, guard := _ }) (v := ?_) rfl (by kernel_rfl) (by kernel_rfl) (by kernel_rfl) (fun _ _ _ h => h) (Or.inl ⟨by rfl, ?_⟩) (by exact hHeld) ?_
    rotate_left
    · intro w hSw; go_simp; try with_reducible rfl
    try simp only [Act.put]
    try simp only [List.setIfInBounds_toArray]
    try simp only [List.set]
    refine wpAnyH_take (i := 15) (oi := { dst := some 5, op := Go.Op.assign (Go.Operand.tmp 65), type := 54, pos := _, after := _, guard := _ }) (v := ?_) rfl (by kernel_rfl) (by kernel_rfl) (by kernel_rfl) (fun _ _ _ h => h) (Or.inl ⟨by rfl, ?_⟩) (by exact hHeld) ?_
    rotate_left
    · intro w hSw; go_simp; try with_reducible rfl
    try simp only [Act.put]
    try simp only [List.setIfInBounds_toArray]
    try simp only [List.set]
    refine wpAnyH_done (by kernel_rfl) ?_ _
    have H4 := Lib.hid hHeld
    have HC5 := Lib.hid (HC4.out.drew)
    clear hHeld HD HC4
    generalize W4.drew = W5 at H4 HC5 ⊢
    rw [show Value.slice (some ⟨pb, off, none⟩) n 0 = P from HP.out]
    clear hcap b5
    obtain ⟨c0, c1, c2, c3, c4, c5, f⟩ := H4.out.rd.cells
    have f2 := f 2
    have H5 := Lib.hid (H4.out.putAt (t2 + n))
    have e2n : (((t2 + n : Nat)) : Int) = (t2 : Int) + (n : Int) := by omega
    rw [e2n] at H5
    simp only at c2 H5
    clear f e2n t1 t3 b1 b2 b3 b4 H4
    have hc2 : decide (128 ≤ (c.toNat : Int)) = true := decide_eq_true (by omega)
    have HDC := Lib.hid (HDF.out P)
    clear HDF
    subst hS
    have hsz : (⟨D1.toArray⟩ : ByteArray).size = D1.length := by show D1.toArray.size = _; simp
    generalize (⟨D1.toArray⟩ : ByteArray) = SB at HDC hsz
    have i9 : (SB.size : Int) > 65536 := by omega
    clear hS2 hsz
    go_wp2_with fail
    refine (HDC.out _ (HSUB.out _ H5.out.x.chg)).mono ?_
    rintro e w6 ⟨rfl, a6⟩
    have H6 := Lib.hid (H5.out.aft a6)
    clear a6 H5 HDC
    go_wp2_with fail
    refine (fail_any H6.out.rd 2).mono ?_
    rintro e9 w9 ⟨rfl, rfl⟩
    go_wp2_with fail
    exact ⟨rfl, ⟨_, rfl⟩, H6.out.x⟩
  · rw [if_neg hcap] at HSUB
    obtain ⟨P, hP⟩ : ∃ P, Value.slice (some ⟨pb, off + t2, none⟩) n (cap - t2) = P := ⟨_, rfl⟩
    rw [hP] at HSUB
    have HP := Lib.hid hP
    clear hP
    refine wp_region_held_drew (S := fun w' => RS W0 w' B gu g gr vo0 vk (.slice (some ⟨pb, off, none⟩) b.length cap) top list { s with at_ := t2 } vr vo) (by kernel_rfl) HD.out (fun hHeld => ?_)
    refine wpAnyH_take (i := 0) (oi := { dst := some 51, op := Go.Op.move (Go.Operand.tmp 0), type := 107, pos := _, after := _, guard := _ }) (v := ?_) rfl (by kernel_rfl) (by kernel_rfl) (by kernel_rfl) (fun _ _ _ h => h) (Or.inl ⟨by rfl, ?_⟩) (by exact hHeld) ?_
    rotate_left
    · intro w hSw; go_simp; try with_reducible rfl
    try simp only [Act.put]
    try simp only [List.setIfInBounds_toArray]
    try simp only [List.set]
    refine wpAnyH_take (i := 1) (oi := { dst := some 52, op := Go.Op.nilCheck (Go.Operand.tmp 51), type := 0, pos := _, after := _, guard := _ }) (v := ?_) rfl (by kernel_rfl) (by kernel_rfl) (by kernel_rfl) (fun _ _ _ h => h) (Or.inl ⟨by rfl, ?_⟩) (by exact hHeld) ?_
    rotate_left
    · intro w hSw; go_simp; try with_reducible rfl
    try simp only [Act.put]
    try simp only [List.setIfInBounds_toArray]
    try simp only [List.set]
    refine wpAnyH_take (i := 2) (oi := { dst := some 53, op := Go.Op.fieldAddr 109 (Go.Operand.tmp 52) 1, type := 0, pos := _, after := _, guard := _ }) (v := ?_) rfl (by kernel_rfl) (by kernel_rfl) (by kernel_rfl) (fun _ _ _ h => h) (Or.inl ⟨by rfl, ?_⟩) (by exact hHeld) ?_
    rotate_left
    · intro w hSw; go_simp; try with_reducible rfl
    try simp only [Act.put]
    try simp only [List.setIfInBounds_toArray]
    try simp only [List.set]
    refine wpAnyH_take (i := 3) (oi := { dst := some 54, op := Go.Op.load 54 (Go.Operand.tmp 53), type := 54, pos := _, after := _, guard := _ }) (v := ?_) rfl (by kernel_rfl) (by kernel_rfl) (by kernel_rfl) (fun _ _ _ h => h) (Or.inl ⟨by rfl, ?_⟩) (by exact hHeld) ?_
    rotate_left
    · intro w hSw; obtain ⟨c0, c1, c2, c3, c4, c5, f⟩ := hSw.rd.cells; simp only at c2; go_simp; try with_reducible rfl
    try simp only [Act.put]
    try simp only [List.setIfInBounds_toArray]
    try simp only [List.set]
    refine wpAnyH_take (i := 4) (oi := { dst := some 55, op := Go.Op.move (Go.Operand.tmp 0), type := 107, pos := _, after := _, guard := _ }) (v := ?_) rfl (by kernel_rfl) (by kernel_rfl) (by kernel_rfl) (fun _ _ _ h => h) (Or.inl ⟨by rfl, ?_⟩) (by exact hHeld) ?_
    rotate_left
    · intro w hSw; go_simp; try with_reducible rfl
    try simp only [Act.put]
    try simp only [List.setIfInBounds_toArray]
    try simp only [List.set]
    refine wpAnyH_take (i := 5) (oi := { dst := some 56, op := Go.Op.nilCheck (Go.Operand.tmp 55), type := 0, pos := _, after := _, guard := _ }) (v := ?_) rfl (by kernel_rfl) (by kernel_rfl) (by kernel_rfl) (fun _ _ _ h => h) (Or.inl ⟨by rfl, ?_⟩) (by exact hHeld) ?_
    rotate_left
    · intro w hSw; go_simp; try with_reducible rfl
    try simp only [Act.put]
    try simp only [List.setIfInBounds_toArray]
    try simp only [List.set]
    refine wpAnyH_take (i := 6) (oi := { dst := some 57, op := Go.Op.fieldAddr 109 (Go.Operand.tmp 56) 2, type := 0, pos := _, after := _, guard := _ }) (v := ?_) rfl (by kernel_rfl) (by kernel_rfl) (by kernel_rfl) (fun _ _ _ h => h) (Or.inl ⟨by rfl, ?_⟩) (by exact hHeld) ?_
    rotate_left
    · intro w hSw; go_simp; try with_reducible rfl
    try simp only [Act.put]
    try simp only [List.setIfInBounds_toArray]
    try simp only [List.set]
    refine wpAnyH_take (i := 7) (oi := { dst := some 58, op := Go.Op.load 3 (Go.Operand.tmp 57), type := 3, pos := _, after := _, guard := _ }) (v := ?_) rfl (by kernel_rfl) (by kernel_rfl) (by kernel_rfl) (fun _ _ _ h => h) (Or.inl ⟨by rfl, ?_⟩) (by exact hHeld) ?_
    rotate_left
    · intro w hSw; obtain ⟨c0, c1, c2, c3, c4, c5, f⟩ := hSw.rd.cells; simp only at c2; go_simp; try with_reducible rfl
    try simp only [Act.put]
    try simp only [List.setIfInBounds_toArray]
    try simp only [List.set]
    refine wpAnyH_take (i := 8) (oi := { dst := some 59, op := Go.Op.move (Go.Operand.tmp 0), type := 107, pos := _, after := _, guard := _ }) (v := ?_) rfl (by kernel_rfl) (by kernel_rfl) (by kernel_rfl) (fun _ _ _ h => h) (Or.inl ⟨by rfl, ?_⟩) (by exact hHeld) ?_
    rotate_left
    · intro w hSw; go_simp; try with_reducible rfl
    try simp only [Act.put]
    try simp only [List.setIfInBounds_toArray]
    try simp only [List.set]
    refine wpAnyH_take (i := 9) (oi := { dst := some 60, op := Go.Op.nilCheck (Go.Operand.tmp 59), type := 0, pos := _, after := _, guard := _ }) (v := ?_) rfl (by kernel_rfl) (by kernel_rfl) (by kernel_rfl) (fun _ _ _ h => h) (Or.inl ⟨by rfl, ?_⟩) (by exact hHeld) ?_
    rotate_left
    · intro w hSw; go_simp; try with_reducible rfl
    try simp only [Act.put]
    try simp only [List.setIfInBounds_toArray]
    try simp only [List.set]
    refine wpAnyH_take (i := 10) (oi := { dst := some 61, op := Go.Op.fieldAddr 109 (Go.Operand.tmp 60) 2, type := 0, pos := _, after := _, guard := _ }) (v := ?_) rfl (by kernel_rfl) (by kernel_rfl) (by kernel_rfl) (fun _ _ _ h => h) (Or.inl ⟨by rfl, ?_⟩) (by exact hHeld) ?_
    rotate_left
    · intro w hSw; go_simp; try with_reducible rfl
    try simp only [Act.put]
    try simp only [List.setIfInBounds_toArray]
    try simp only [List.set]
    refine wpAnyH_take (i := 11) (oi := { dst := some 62, op := Go.Op.load 3 (Go.Operand.tmp 61), type := 3, pos := _, after := _, guard := _ }) (v := ?_) rfl (by kernel_rfl) (by kernel_rfl) (by kernel_rfl) (fun _ _ _ h => h) (Or.inl ⟨by rfl, ?_⟩) (by exact hHeld) ?_
    rotate_left
    · intro w hSw; obtain ⟨c0, c1, c2, c3, c4, c5, f⟩ := hSw.rd.cells; simp only at c2; go_simp; try with_reducible rfl
    try simp only [Act.put]
    try simp only [List.setIfInBounds_toArray]
    try simp only [List.set]
    refine wpAnyH_take (i := 12) (oi := { dst := some 63, op := Go.Op.move (Go.Operand.tmp 4), type := 3, pos := _, after := _, guard := _ }) (v := ?_) rfl (by kernel_rfl) (by kernel_rfl) (by kernel_rfl) (fun _ _ _ h => h) (Or.inl ⟨by rfl, ?_⟩) (by exact hHeld) ?_
    rotate_left
    · intro w hSw; go_simp; try with_reducible rfl
    try simp only [Act.put]
    try simp only [List.setIfInBounds_toArray]
    try simp only [List.set]
    refine wpAnyH_take (i := 13) (oi := { dst := some 64, op := Go.Op.binOp Go.BinOp.add 3 (Go.Operand.tmp 62) (Go.Operand.tmp 63) 3, type := 3, pos := _, after := _, guard := _ }) (v := ?_) rfl (by kernel_rfl) (by kernel_rfl) (by kernel_rfl) (fun _ _ _ h => h) (Or.inl ⟨by rfl, ?_⟩) (by exact hHeld) ?_
    rotate_left
    · intro w hSw; go_simp; try with_reducible rfl
    try simp only [Act.put]
    try simp only [List.setIfInBounds_toArray]
    try simp only [List.set]
    refine wpAnyH_take (i := 14) (oi := { dst := some 65, op := Go.Op.slice 54 (Go.Operand.tmp 54) (some (Go.Operand.tmp 58)) (some (Go.Operand.tmp 64)) none, type := 54, pos := _, after := _, guard := _ }) (v := ?_) rfl (by kernel_rfl) (by kernel_rfl) (by kernel_rfl) (fun _ _ _ h => h) (Or.inl ⟨by rfl, ?_⟩) (by exact hHeld) ?_
    rotate_left
    · intro w hSw; go_simp; try with_reducible rfl
    try simp only [Act.put]
    try simp only [List.setIfInBounds_toArray]
    try simp only [List.set]
    refine wpAnyH_take (i := 15) (oi := { dst := some 5, op := Go.Op.assign (Go.Operand.tmp 65), type := 54, pos := _, after := _, guard := _ }) (v := ?_) rfl (by kernel_rfl) (by kernel_rfl) (by kernel_rfl) (fun _ _ _ h => h) (Or.inl ⟨by rfl, ?_⟩) (by exact hHeld) ?_
    rotate_left
    · intro w hSw; go_simp; try with_reducible rfl
    try simp only [Act.put]
    try simp only [List.setIfInBounds_toArray]
    try simp only [List.set]
    refine wpAnyH_done (by kernel_rfl) ?_ _
    have H4 := Lib.hid hHeld
    have HC5 := Lib.hid (HC4.out.drew)
    clear hHeld HD HC4
    generalize W4.drew = W5 at H4 HC5 ⊢
    rw [show Value.slice (some ⟨pb, off + t2, none⟩) n (cap - t2) = P from HP.out]
    obtain ⟨c0, c1, c2, c3, c4, c5, f⟩ := H4.out.rd.cells
    have f2 := f 2
    have H5 := Lib.hid (H4.out.putAt (t2 + n))
    have e2n : (((t2 + n : Nat)) : Int) = (t2 : Int) + (n : Int) := by omega
    rw [e2n] at H5
    simp only at c2 H5
    clear f e2n t1 t3 b1 b2 b3 b4 H4
    have hc2 : decide (128 ≤ (c.toNat : Int)) = true := decide_eq_true (by omega)
    have HDC := Lib.hid (HDF.out P)
    clear HDF
    subst hS
    have hsz : (⟨D1.toArray⟩ : ByteArray).size = D1.length := by show D1.toArray.size = _; simp
    generalize (⟨D1.toArray⟩ : ByteArray) = SB at HDC hsz
    have i9 : (SB.size : Int) > 65536 := by omega
    clear hS2 hsz
    go_wp2_with fail
    refine (HDC.out _ (HSUB.out _ H5.out.x.chg)).mono ?_
    rintro e w6 ⟨rfl, a6⟩
    have H6 := Lib.hid (H5.out.aft a6)
    clear a6 H5 HDC
    go_wp2_with fail
    refine (fail_any H6.out.rd 2).mono ?_
    rintro e9 w9 ⟨rfl, rfl⟩
    go_wp2_with fail
    exact ⟨rfl, ⟨_, rfl⟩, H6.out.x⟩

theorem text_no {W0 w : World} {B gu g gr : Nat} {vo0 vk vr vo : Value} {top list : Int} {s : US} {va : Option Addr} {cap : Nat} {b : List UInt8} (hb : BR W0 g gr vo0 va cap b) (h : RS W0 w B gu g gr vo0 vk (.slice va b.length cap) top list s vr vo) (hat : s.at_ ≤ b.length) (e9 : Int) (h9 : (textU b s.at_).2.2 = e9) (hz : e9 ≠ 0) :
    Calls Tryd.prog 98 #[.pointer (some ⟨gr, 0, none⟩)] w fun e w' => (∃ a : Int, e = .panicked [fltV e9 a]) ∧ RX W0 w' B gu g gr vo0 vk top list s.tab s.most vo := by
  rcases textU_no h9 hz with ⟨hc, rfl⟩ | ⟨c, hc, ⟨h1, rfl⟩ | ⟨n, t2, hg, ⟨h1, rfl⟩ | ⟨h1, h2, rfl⟩ | ⟨h1, h2, h3, ⟨h4, rfl⟩ | ⟨h4, h5, rfl⟩⟩⟩⟩
  · have : b.length ≤ s.at_ := by
      rcases Nat.lt_or_ge s.at_ b.length with hl | hl
      · rw [List.getElem?_eq_getElem hl] at hc; cases hc
      · exact hl
    exact text_end hb h (by omega)
  · exact text_num hb h c hc h1
  · exact text_big hb h c hc n t2 hg h1
  · have ht := getL_to (b := b) (at_ := s.at_) (n := 7) (by decide) (by rw [hg])
    rw [hg] at ht
    exact text_sho hb h c hc n t2 hg h1 h2 ht.2.1
  · exact text_dec hb h c hc n t2 hg h1 h2 h3 h4
  · exact text_lon hb h c hc n t2 hg h1 h2 h3 h4 h5
end Go.Proofs.YtmlnboibclfmcaaDoor
