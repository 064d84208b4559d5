/-
  Chapter 8 in plain words; the walks of pack.text and of the reference's put.
-/
import Derived.Test.YtmlnboibclfmcaaDoorPint
import Derived.Test.YtmlnboibclfmcaaDoorHuffSz
import Derived.Lib.AppendStr
namespace Go.Proofs.YtmlnboibclfmcaaDoor
open Go.RowKit
set_option linter.unusedVariables false

def textL (s : List UInt8) : List UInt8 := if sizeF s < (s.length : Int) then pintL 7 128 (sizeF s).toNat ++ encF s else pintL 7 0 s.length ++ s
def writL (i bits top : Nat) (n v : List UInt8) : List UInt8 := pintL bits top i ++ ((if i = 0 then textL n else []) ++ textL v)

theorem bv_cells (s : ByteArray) : Go.Lib.strCells s = bv s.data.toList := by
  unfold Go.Lib.strCells bv
  rfl
set_option maxRecDepth 100000 in
/-- 'append(out, s...)' of a text, out the call's own. -/
theorem wpList_pushTx {w : World} {ops : Array Oper} {rest : List Oper} {o : Oper} {a : Act} {Q : Exit → Act → World → Prop} (hgd : o.guard = none) (sl x : Operand)
    (ho : o.op = .call { callee := .builtin .append, args := #[sl, x], argTypes := #[54, 9] })
    (base : Nat) (v : Value) (l : List UInt8) (s : ByteArray) (hs : a.eval sl = v) (hown : Own w base v l) (hx : a.eval x = .string s)
    (hl : l.length + s.size ≤ 140737488355328) (hbase : base ≤ w.heap.size)
    (h : ∀ v' w', Own w' base v' (l ++ s.data.toList) → w.grownBy w' v.ownBlock → wpList Tryd.prog ops Q rest (a.put o.dst v') w') : wpList Tryd.prog ops Q (o :: rest) a w := by
  obtain ⟨i0, hi, hz0, hz1, hz2⟩ := info_parts info8
  refine Go.Lib.wpList_append_own_string w hgd sl x 54 9 ho base 5 i0 Tryd.underlying54 Tryd.underlying9 hi hz0 hz1 hz2 v l.length (bv l) hs hown s hx ?_ hl hbase ?_
  · unfold maxLen; omega
  · intro v' w' h1 h2 _
    refine h v' w' ?_ h2
    unfold Own
    rw [bv_append, List.length_append, size_len, ← bv_cells]
    exact h1
theorem sizeF_nn (l : List UInt8) : 0 ≤ sizeF l := by
  have := sizeSum_bd l
  unfold sizeF
  omega

set_option maxHeartbeats 4000000 in
set_option maxRecDepth 100000 in
theorem text_any (v0 : Value) (l : List UInt8) (s : ByteArray) (w : World) (hr : Rb w v0 l) (hl : l.length ≤ 900000000) (hs : s.size ≤ 100000000) :
    Calls Tryd.prog 78 #[v0, .string s] w fun e w' => ∃ v', e = .returned v' ∧ Own w' w.heap.size v' (l ++ textL s.data.toList) ∧ Aft w w' := by
  have HSZ := Lib.hid (fun w => size_any s (by omega) w)
  have HEN := Lib.hid (fun w => encode_any s w (by omega))
  have h0 := sizeF_nn s.data.toList
  have hsl := size_len s
  obtain ⟨n, hn⟩ := Int.eq_ofNat_of_zero_le h0
  have hen := sizeF_len s.data.toList
  rw [hn] at hen
  obtain ⟨E, hE⟩ : ∃ E, encF s.data.toList = E := ⟨_, rfl⟩
  rw [hE] at HEN hen
  by_cases hlt : n < s.size
  · have HT : Hid (textL s.data.toList = pintL 7 128 n ++ E) := Lib.hid (by unfold textL; rw [if_pos (by rw [hn, hsl]; omega), hn, hE]; rfl)
    rw [hn] at HSZ
    have hp := pintL_len 7 128 n
    have HPT := Lib.hid (fun w h => put_any v0 l 7 128 n w h (by omega) (Or.inl ⟨rfl, rfl⟩) (by omega))
    have i1 : (n : Int) < (s.size : Int) := by omega
    have HR := Lib.hid hr
    have hpl : (l ++ pintL 7 128 n).length ≤ 900000006 := by rw [List.length_append]; omega
    have hen2 : E.length ≤ 100000000 := by omega
    generalize pintL 7 128 n = P at HT HPT hpl hp
    clear hr hn hE h0 hsl hlt hen
    go_enter Tryd.func78, Tryd.ntmps78
    go_wp2_with fail
    refine (HSZ.out _).mono ?_
    rintro e w1 ⟨rfl, a1⟩
    go_wp2_with fail
    refine (HPT.out _ (HR.out.aft a1)).mono ?_
    rintro e w2 ⟨v2, rfl, o2, a2⟩
    go_wp2_with fail
    refine (HEN.out _).mono ?_
    rintro e w3 ⟨v3, rfl, o3, a3⟩
    have HO2 := Lib.hid ((o2.aft a3).base a1.to.size)
    have HR3 := Lib.hid o3.rb
    have HA3 := Lib.hid ((a1.trans a2).trans a3)
    clear o2 a1 a2 o3 a3
    go_wp2_with (refine wpList_pushes rfl (.tmp 14) (.tmp 16) rfl w.heap.size _ _ (l ++ P) E rfl HO2.out rfl HR3.out (by omega) HA3.out.to.size ?_; intro v4 w4 o4 g4)
    go_ret
    refine ⟨_, rfl, ?_, push_below HA3.out.to HO2.out g4 (Nat.le_refl _) HA3.out.to.size⟩
    rw [HT.out, ← List.append_assoc]
    exact o4
  · have HT : Hid (textL s.data.toList = pintL 7 0 s.size ++ s.data.toList) := Lib.hid (by unfold textL; rw [if_neg (by rw [hn, hsl]; omega), hsl])
    rw [hn] at HSZ
    have hp := pintL_len 7 0 s.size
    have HPT := Lib.hid (fun w h => put_any v0 l 7 0 s.size w h (by omega) (Or.inr (Or.inl ⟨rfl, rfl⟩)) (by omega))
    have i1 : ¬ (n : Int) < (s.size : Int) := by omega
    have HR := Lib.hid hr
    have hpl : (l ++ pintL 7 0 s.size).length ≤ 900000006 := by rw [List.length_append]; omega
    generalize pintL 7 0 s.size = P at HT HPT hpl hp
    clear hr hn hE h0 hsl hlt HEN hen
    go_enter Tryd.func78, Tryd.ntmps78
    go_wp2_with fail
    refine (HSZ.out _).mono ?_
    rintro e w1 ⟨rfl, a1⟩
    go_wp2_with fail
    refine (HPT.out _ (HR.out.aft a1)).mono ?_
    rintro e w2 ⟨v2, rfl, o2, a2⟩
    have HO2 := Lib.hid (o2.base a1.to.size)
    have HA2 := Lib.hid (a1.trans a2)
    clear o2 a1 a2
    go_wp2_with (refine wpList_pushTx rfl (.tmp 21) (.tmp 22) rfl w.heap.size _ (l ++ P) s rfl HO2.out rfl (by omega) HA2.out.to.size ?_; intro v4 w4 o4 g4)
    go_ret
    refine ⟨_, rfl, ?_, push_below HA2.out.to HO2.out g4 (Nat.le_refl _) HA2.out.to.size⟩
    rw [HT.out, ← List.append_assoc]
    exact o4

end Go.Proofs.YtmlnboibclfmcaaDoor
