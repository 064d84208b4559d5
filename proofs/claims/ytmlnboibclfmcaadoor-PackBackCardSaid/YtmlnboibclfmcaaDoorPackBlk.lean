/-
  Chapter 8 in plain words; the walks of pack.text and of the reference's put. The walk of pack.written. HPACK's packer in memory: New, Resize, Table. The walks of the packer's sizes and Table. The packer's Block: rows, one behind the other. The walk of the packer's Block.
-/
import Derived.Test.YtmlnboibclfmcaaDoorPint
import Derived.Test.YtmlnboibclfmcaaDoorHuffSz
import Derived.Lib.AppendStr
import Derived.Test.YtmlnboibclfmcaaDoorTbl4
import Derived.Deep.RegionHeld
import Derived.Test.YtmlnboibclfmcaaDoorTblP
import Derived.Deep.DeepCutAuto
import Derived.Deep.CutBlock
namespace Go.Proofs.YtmlnboibclfmcaaDoor
open Go.RowKit
set_option linter.unusedVariables false

def textL (s : List UInt8) : List UInt8 := if sizeF s < (s.length : Int) then pintL 7 128 (sizeF s).toNat ++ encF s else pintL 7 0 s.length ++ s
def writL (i bits top : Nat) (n v : List UInt8) : List UInt8 := pintL bits top i ++ ((if i = 0 then textL n else []) ++ textL v)

theorem bv_cells (s : ByteArray) : Go.Lib.strCells s = bv s.data.toList := by
  unfold Go.Lib.strCells bv
  rfl
set_option maxRecDepth 100000 in
/-- 'append(out, s...)' of a text, out the call's own. -/
theorem wpList_pushTx {w : World} {ops : Array Oper} {rest : List Oper} {o : Oper} {a : Act} {Q : Exit → Act → World → Prop} (hgd : o.guard = none) (sl x : Operand)
    (ho : o.op = .call { callee := .builtin .append, args := #[sl, x], argTypes := #[54, 9] })
    (base : Nat) (v : Value) (l : List UInt8) (s : ByteArray) (hs : a.eval sl = v) (hown : Own w base v l) (hx : a.eval x = .string s)
    (hl : l.length + s.size ≤ 140737488355328) (hbase : base ≤ w.heap.size)
    (h : ∀ v' w', Own w' base v' (l ++ s.data.toList) → w.grownBy w' v.ownBlock → wpList Tryd.prog ops Q rest (a.put o.dst v') w') : wpList Tryd.prog ops Q (o :: rest) a w := by
  obtain ⟨i0, hi, hz0, hz1, hz2⟩ := info_parts info8
  refine Go.Lib.wpList_append_own_string w hgd sl x 54 9 ho base 5 i0 Tryd.underlying54 Tryd.underlying9 hi hz0 hz1 hz2 v l.length (bv l) hs hown s hx ?_ hl hbase ?_
  · unfold maxLen; omega
  · intro v' w' h1 h2 _
    refine h v' w' ?_ h2
    unfold Own
    rw [bv_append, List.length_append, size_len, ← bv_cells]
    exact h1
theorem sizeF_nn (l : List UInt8) : 0 ≤ sizeF l := by
  have := sizeSum_bd l
  unfold sizeF
  omega

set_option maxHeartbeats 4000000 in
set_option maxRecDepth 100000 in
theorem text_any (v0 : Value) (l : List UInt8) (s : ByteArray) (w : World) (hr : Rb w v0 l) (hl : l.length ≤ 900000000) (hs : s.size ≤ 100000000) :
    Calls Tryd.prog 78 #[v0, .string s] w fun e w' => ∃ v', e = .returned v' ∧ Own w' w.heap.size v' (l ++ textL s.data.toList) ∧ Aft w w' := by
  have HSZ := Lib.hid (fun w => size_any s (by omega) w)
  have HEN := Lib.hid (fun w => encode_any s w (by omega))
  have h0 := sizeF_nn s.data.toList
  have hsl := size_len s
  obtain ⟨n, hn⟩ := Int.eq_ofNat_of_zero_le h0
  have hen := sizeF_len s.data.toList
  rw [hn] at hen
  obtain ⟨E, hE⟩ : ∃ E, encF s.data.toList = E := ⟨_, rfl⟩
  rw [hE] at HEN hen
  by_cases hlt : n < s.size
  · have HT : Hid (textL s.data.toList = pintL 7 128 n ++ E) := Lib.hid (by unfold textL; rw [if_pos (by rw [hn, hsl]; omega), hn, hE]; rfl)
    rw [hn] at HSZ
    have hp := pintL_len 7 128 n
    have HPT := Lib.hid (fun w h => put_any v0 l 7 128 n w h (by omega) (Or.inl ⟨rfl, rfl⟩) (by omega))
    have i1 : (n : Int) < (s.size : Int) := by omega
    have HR := Lib.hid hr
    have hpl : (l ++ pintL 7 128 n).length ≤ 900000006 := by rw [List.length_append]; omega
    have hen2 : E.length ≤ 100000000 := by omega
    generalize pintL 7 128 n = P at HT HPT hpl hp
    clear hr hn hE h0 hsl hlt hen
    go_enter Tryd.func78, Tryd.ntmps78
    go_wp2_with fail
    refine (HSZ.out _).mono ?_
    rintro e w1 ⟨rfl, a1⟩
    go_wp2_with fail
    refine (HPT.out _ (HR.out.aft a1)).mono ?_
    rintro e w2 ⟨v2, rfl, o2, a2⟩
    go_wp2_with fail
    refine (HEN.out _).mono ?_
    rintro e w3 ⟨v3, rfl, o3, a3⟩
    have HO2 := Lib.hid ((o2.aft a3).base a1.to.size)
    have HR3 := Lib.hid o3.rb
    have HA3 := Lib.hid ((a1.trans a2).trans a3)
    clear o2 a1 a2 o3 a3
    go_wp2_with (refine wpList_pushes rfl (.tmp 14) (.tmp 16) rfl w.heap.size _ _ (l ++ P) E rfl HO2.out rfl HR3.out (by omega) HA3.out.to.size ?_; intro v4 w4 o4 g4)
    go_ret
    refine ⟨_, rfl, ?_, push_below HA3.out.to HO2.out g4 (Nat.le_refl _) HA3.out.to.size⟩
    rw [HT.out, ← List.append_assoc]
    exact o4
  · have HT : Hid (textL s.data.toList = pintL 7 0 s.size ++ s.data.toList) := Lib.hid (by unfold textL; rw [if_neg (by rw [hn, hsl]; omega), hsl])
    rw [hn] at HSZ
    have hp := pintL_len 7 0 s.size
    have HPT := Lib.hid (fun w h => put_any v0 l 7 0 s.size w h (by omega) (Or.inr (Or.inl ⟨rfl, rfl⟩)) (by omega))
    have i1 : ¬ (n : Int) < (s.size : Int) := by omega
    have HR := Lib.hid hr
    have hpl : (l ++ pintL 7 0 s.size).length ≤ 900000006 := by rw [List.length_append]; omega
    generalize pintL 7 0 s.size = P at HT HPT hpl hp
    clear hr hn hE h0 hsl hlt HEN hen
    go_enter Tryd.func78, Tryd.ntmps78
    go_wp2_with fail
    refine (HSZ.out _).mono ?_
    rintro e w1 ⟨rfl, a1⟩
    go_wp2_with fail
    refine (HPT.out _ (HR.out.aft a1)).mono ?_
    rintro e w2 ⟨v2, rfl, o2, a2⟩
    have HO2 := Lib.hid (o2.base a1.to.size)
    have HA2 := Lib.hid (a1.trans a2)
    clear o2 a1 a2
    go_wp2_with (refine wpList_pushTx rfl (.tmp 21) (.tmp 22) rfl w.heap.size _ (l ++ P) s rfl HO2.out rfl (by omega) HA2.out.to.size ?_; intro v4 w4 o4 g4)
    go_ret
    refine ⟨_, rfl, ?_, push_below HA2.out.to HO2.out g4 (Nat.le_refl _) HA2.out.to.size⟩
    rw [HT.out, ← List.append_assoc]
    exact o4

end Go.Proofs.YtmlnboibclfmcaaDoor
namespace Go.Proofs.YtmlnboibclfmcaaDoor
open Go.RowKit
set_option linter.unusedVariables false

theorem textL_len (s : List UInt8) : (textL s).length ≤ 6 + s.length := by
  have h := sizeF_len s
  unfold textL
  split
  · have := pintL_len 7 128 (sizeF s).toNat
    rw [List.length_append]; omega
  · have := pintL_len 7 0 s.length
    rw [List.length_append]; omega
theorem writL_len (i bits top : Nat) (n v : List UInt8) : (writL i bits top n v).length ≤ 18 + n.length + v.length := by
  have h1 := pintL_len bits top i
  have h2 := textL_len n
  have h3 := textL_len v
  unfold writL
  rw [List.length_append, List.length_append]
  split <;> simp <;> omega
theorem fcells (w : World) (n v : ByteArray) : (w.alloc (.cells #[.string n, .string v] 28)).cell? ⟨w.heap.size, 0, none⟩ = some (.string n) ∧ (w.alloc (.cells #[.string n, .string v] 28)).cell? ⟨w.heap.size, 1, none⟩ = some (.string v) := by
  constructor <;> simp [go_sem]

set_option maxHeartbeats 4000000 in
set_option maxRecDepth 100000 in
theorem written_any (v0 : Value) (l : List UInt8) (i bits top : Nat) (n v : ByteArray) (w : World) (hr : Rb w v0 l) (hl : l.length ≤ 600000000) (hi : i ≤ 2147483647) (hp : PreOk bits top) (hn : n.size ≤ 100000000) (hv : v.size ≤ 100000000) :
    Calls Tryd.prog 65 #[v0, .int .i64 (i : Int), .int .i64 (bits : Int), .int .u8 (top : Int), .agg #[.string n, .string v]] w fun e w' => ∃ v', e = .returned v' ∧ Own w' w.heap.size v' (l ++ writL i bits top n.data.toList v.data.toList) ∧ Aft w w' := by
  have hpl := pintL_len bits top i
  have HPT := Lib.hid (fun w h => put_any v0 l bits top i w h (by omega) hp hi)
  obtain ⟨P, hP⟩ : ∃ P, pintL bits top i = P := ⟨_, rfl⟩
  rw [hP] at HPT hpl
  have htn := textL_len n.data.toList
  rw [size_len] at htn
  have hlp : (l ++ P).length ≤ 600000006 := by rw [List.length_append]; omega
  have HTN := Lib.hid (fun v0 w h => text_any v0 (l ++ P) n w h (by omega) hn)
  have HT0 := Lib.hid (fun v0 w h => text_any v0 (l ++ P) v w h (by omega) hv)
  have hlq : (l ++ P ++ textL n.data.toList).length ≤ 700000012 := by rw [List.length_append]; omega
  have HT1 := Lib.hid (fun v0 w h => text_any v0 (l ++ P ++ textL n.data.toList) v w h (by omega) hv)
  have hA : Aft w (w.alloc (.cells #[.string n, .string v] 28)) := (Aft.refl w).alloc _
  have HR := Lib.hid (hr.aft hA)
  have HA := Lib.hid hA
  obtain ⟨c0, c1⟩ := fcells w n v
  have hW : w.heap.size < (w.alloc (.cells #[.string n, .string v] 28)).heap.size := by rw [World.size_alloc]; omega
  have HC := Lib.hid (fun (w' : World) (a : Aft (w.alloc (.cells #[.string n, .string v] 28)) w') => (And.intro ((Below.cell a.to (p := ⟨w.heap.size, 0, none⟩) hW).trans c0) ((Below.cell a.to (p := ⟨w.heap.size, 1, none⟩) hW).trans c1) : w'.cell? ⟨w.heap.size, 0, none⟩ = some (.string n) ∧ w'.cell? ⟨w.heap.size, 1, none⟩ = some (.string v)))
  obtain ⟨W, hWW⟩ : ∃ W, w.alloc (.cells #[.string n, .string v] 28) = W := ⟨_, rfl⟩
  rw [hWW] at HR HA HC
  have HWW := Lib.hid hWW
  have HP := Lib.hid hP
  clear hr hA c0 c1 hW hWW hP hp hpl htn hlp hlq
  by_cases h0 : i = 0
  · have i1 : ((i : Int) == 0) = true := by subst h0; rfl
    have HW : Hid (writL i bits top n.data.toList v.data.toList = P ++ (textL n.data.toList ++ textL v.data.toList)) := Lib.hid (by unfold writL; rw [HP.out, if_pos h0])
    generalize textL n.data.toList = Tn at HTN HT1 HW
    generalize textL v.data.toList = Tv at HT0 HT1 HW
    have i2 : ((i : Int) = 0) = True := by subst h0; simp
    clear h0 HT0 HP i2
    go_enter Tryd.func65, Tryd.ntmps65
    go_upto_region 1 with fail
    rw [HWW.out]
    generalize w.heap.size = g at HC ⊢
    go_wp2_with fail
    refine (HPT.out _ HR.out).mono ?_
    rintro e w1 ⟨v1, rfl, o1, a1⟩
    obtain ⟨x0, x1⟩ := HC.out _ a1
    have HO1 := Lib.hid o1
    have HA1 := Lib.hid a1
    clear o1 a1
    go_wp2_with fail
    refine (HTN.out _ _ HO1.out.rb).mono ?_
    rintro e w2 ⟨v2, rfl, o2, a2⟩
    clear x0 x1
    obtain ⟨x0, x1⟩ := HC.out _ (HA1.out.trans a2)
    have HO2 := Lib.hid o2
    have HA2 := Lib.hid (HA1.out.trans a2)
    clear o2 a2 HO1
    go_wp2_with fail
    refine (HT1.out _ _ HO2.out.rb).mono ?_
    rintro e w3 ⟨v3, rfl, o3, a3⟩
    have HO3 := Lib.hid (o3.base (HA.out.trans HA2.out).to.size)
    have HA3 := Lib.hid ((HA.out.trans HA2.out).trans a3)
    clear o3 a3 x0 x1 HO2 HA1 HA2
    go_wp2_with fail
    go_ret
    refine ⟨_, rfl, ?_, HA3.out⟩
    rw [HW.out, ← List.append_assoc, ← List.append_assoc]
    exact HO3.out
  · have i1 : ((i : Int) == 0) = false := by simp; omega
    have i2 : ¬ (i : Int) = 0 := by omega
    have HW : Hid (writL i bits top n.data.toList v.data.toList = P ++ ([] ++ textL v.data.toList)) := Lib.hid (by unfold writL; rw [HP.out, if_neg h0])
    generalize textL v.data.toList = Tv at HT0 HT1 HW
    clear h0 HT1 HTN HP
    go_enter Tryd.func65, Tryd.ntmps65
    go_upto_region 1 with fail
    rw [HWW.out]
    generalize w.heap.size = g at HC ⊢
    go_wp2_with fail
    refine (HPT.out _ HR.out).mono ?_
    rintro e w1 ⟨v1, rfl, o1, a1⟩
    obtain ⟨x0, x1⟩ := HC.out _ a1
    have HO1 := Lib.hid o1
    have HA1 := Lib.hid a1
    clear o1 a1
    go_wp2_with fail
    refine (HT0.out _ _ HO1.out.rb).mono ?_
    rintro e w3 ⟨v3, rfl, o3, a3⟩
    have HO3 := Lib.hid (o3.base (HA.out.trans HA1.out).to.size)
    have HA3 := Lib.hid ((HA.out.trans HA1.out).trans a3)
    clear o3 a3 x0 x1 HO1 HA1
    go_wp2_with fail
    go_ret
    refine ⟨_, rfl, ?_, HA3.out⟩
    rw [HW.out, List.nil_append, ← List.append_assoc]
    exact HO3.out

end Go.Proofs.YtmlnboibclfmcaaDoor
namespace Go.Proofs.YtmlnboibclfmcaaDoor
open Go.RowKit
set_option linter.unusedVariables false

structure Pk (w : World) (B gp g : Nat) (vo vk : Value) (l : List FieldL) (most : Int) (told : Bool) (least : Int) : Prop where
  t : Tab w B g vo vk l most
  p : w.heap[gp]? = some (.cells #[.pointer (some ⟨g, 0, none⟩), .bool told, .int .i64 least] 100 (0, 0))
  pB : B ≤ gp
/-- The packer's own blocks. -/
def PP (gp g : Nat) (vo : Value) (k : Nat) : Prop := k = gp ∨ TP g vo k
theorem Pk.lt {w : World} {B gp g : Nat} {vo vk : Value} {l : List FieldL} {most : Int} {told : Bool} {least : Int} (h : Pk w B gp g vo vk l most told least) : gp < w.heap.size := by
  rcases Nat.lt_or_ge gp w.heap.size with h1 | h1
  · exact h1
  · have := h.p; rw [Array.getElem?_eq_none h1] at this; cases this
theorem Pk.ne {w : World} {B gp g : Nat} {vo vk : Value} {l : List FieldL} {most : Int} {told : Bool} {least : Int} (h : Pk w B gp g vo vk l most told least) : gp ≠ g ∧ vo.ownBlock ≠ some gp ∧ vk.ownBlock ≠ some gp := by
  refine ⟨fun e => ?_, fun e => ?_, fun e => ?_⟩
  · have h1 := h.t.blk
    rw [← e, h.p] at h1
    injection h1 with h1
    injection h1 with _ h1
    exact absurd h1 (by decide)
  · obtain ⟨cur, h1⟩ := h.t.own.blk e
    rw [h.p] at h1
    injection h1 with h1
    injection h1 with _ h1
    exact absurd h1 (by decide)
  · obtain ⟨cur, h1⟩ := h.t.kn.blk e
    rw [h.p] at h1
    injection h1 with h1
    injection h1 with _ h1
    exact absurd h1 (by decide)
theorem Pk.chg {p : Nat → Prop} {w w' : World} {B gp g : Nat} {vo vk : Value} {l : List FieldL} {most : Int} {told : Bool} {least : Int} (h : Pk w B gp g vo vk l most told least) (hc : Chg p w w') (hgp : ¬ p gp) (hg : ¬ p g) (ho : ∀ k, vo.ownBlock = some k → ¬ p k) (hk : ∀ k, vk.ownBlock = some k → ¬ p k) : Pk w' B gp g vo vk l most told least :=
  ⟨h.t.chg hc hg ho hk, (hc.block gp h.lt hgp).trans h.p, h.pB⟩
theorem Pk.aft {w w' : World} {B gp g : Nat} {vo vk : Value} {l : List FieldL} {most : Int} {told : Bool} {least : Int} (h : Pk w B gp g vo vk l most told least) (ha : Aft w w') : Pk w' B gp g vo vk l most told least :=
  h.chg (Chg.of_aft (p := fun _ => False) ha) (fun h => h) (fun h => h) (fun _ _ h => h) (fun _ _ h => h)
/-- The table has changed. -/
theorem Pk.tab {w w' : World} {B gp g : Nat} {vo vk : Value} {l : List FieldL} {most : Int} {told : Bool} {least : Int} (h : Pk w B gp g vo vk l most told least) {vo' : Value} {l' : List FieldL} {most' : Int} (ht : Tab w' B g vo' vk l' most') (hc : Chg (TP g vo) w w') : Pk w' B gp g vo' vk l' most' told least :=
  ⟨ht, (hc.block gp h.lt (fun e => by
    obtain ⟨h1, h2, h3⟩ := h.ne
    rcases e with e | e
    · exact h1 e
    · exact h2 e)).trans h.p, h.pB⟩
theorem Pk.cells {w : World} {B gp g : Nat} {vo vk : Value} {l : List FieldL} {most : Int} {told : Bool} {least : Int} (h : Pk w B gp g vo vk l most told least) :
    w.cell? ⟨gp, 0, none⟩ = some (.pointer (some ⟨g, 0, none⟩)) ∧ w.cell? ⟨gp, 1, none⟩ = some (.bool told) ∧ w.cell? ⟨gp, 2, none⟩ = some (.int .i64 least) ∧ w.frozen? ⟨gp, 1, none⟩ = false ∧ w.frozen? ⟨gp, 2, none⟩ = false := by
  refine ⟨?_, ?_, ?_, frozen_of_row w gp _ _ _ h.p, frozen_of_row w gp _ _ _ h.p⟩
  all_goals rw [cell_of_row w gp _ _ _ (0, 0) h.p]; rfl
theorem Tab.far {w : World} {B g : Nat} {vo vk : Value} {l : List FieldL} {most : Int} (h : Tab w B g vo vk l most) (gp o : Nat) (v : Value) (h1 : gp ≠ g) (h2 : vo.ownBlock ≠ some gp) (h3 : vk.ownBlock ≠ some gp) : Tab (w.setCell ⟨gp, o, none⟩ v) B g vo vk l most :=
  h.chg ((Chg.refl (fun k => k = gp) w).set gp o v (Or.inl rfl)) (fun e => h1 e.symm) (fun k hk e => h2 (by rw [hk, e])) (fun k hk e => h3 (by rw [hk, e]))
theorem Pk.put1 {w : World} {B gp g : Nat} {vo vk : Value} {l : List FieldL} {most : Int} {told : Bool} {least : Int} (h : Pk w B gp g vo vk l most told least) (b : Bool) : Pk (w.setCell ⟨gp, 1, none⟩ (.bool b)) B gp g vo vk l most b least := by
  obtain ⟨h1, h2, h3⟩ := h.ne
  refine ⟨h.t.far gp 1 _ h1 h2 h3, ?_, h.pB⟩
  rw [heap_setCell_same w gp 1 _ _ _ h.p]
  rfl
theorem Pk.put2 {w : World} {B gp g : Nat} {vo vk : Value} {l : List FieldL} {most : Int} {told : Bool} {least : Int} (h : Pk w B gp g vo vk l most told least) (n : Int) : Pk (w.setCell ⟨gp, 2, none⟩ (.int .i64 n)) B gp g vo vk l most told n := by
  obtain ⟨h1, h2, h3⟩ := h.ne
  refine ⟨h.t.far gp 2 _ h1 h2 h3, ?_, h.pB⟩
  rw [heap_setCell_same w gp 2 _ _ _ h.p]
  rfl

theorem pnew_no (n : Int) (h : ¬ (0 ≤ n ∧ n ≤ 65536)) (w : World) : Calls Tryd.prog 35 #[.int .i64 n] w fun e w' => e = .returned (.tuple #[.pointer none, .int .i64 1]) ∧ w = w' := by
  have HT := Lib.hid (tnew_no n h w)
  clear h
  go_enter Tryd.func35, Tryd.ntmps35
  go_wp2_with fail
  refine HT.out.mono ?_
  rintro e w1 ⟨rfl, rfl⟩
  go_wp2_with fail
  go_ret2
  exact ⟨rfl, rfl⟩
theorem pnew_yes (n : Int) (h0 : 0 ≤ n) (h1 : n ≤ 65536) (w : World) (hm : MaxOk w) : Calls Tryd.prog 35 #[.int .i64 n] w fun e w' => ∃ (gp g : Nat) (vk : Value), e = .returned (.tuple #[.pointer (some ⟨gp, 0, none⟩), .int .i64 0]) ∧ Pk w' w.heap.size gp g (.slice none 0 0) vk [] n true 0 ∧ Aft w w' := by
  have HT := Lib.hid (tnew_yes n h0 h1 w hm)
  clear h0 h1 hm
  go_enter Tryd.func35, Tryd.ntmps35
  go_wp2_with fail
  refine HT.out.mono ?_
  rintro e w1 ⟨g, vk, rfl, ht, a1⟩
  have HP : Hid (Pk (w1.alloc (.cells #[.pointer (some ⟨g, 0, none⟩), .bool true, .int .i64 0] 100)) w.heap.size w1.heap.size g (.slice none 0 0) vk [] n true 0) := Lib.hid ⟨ht.aft ((Aft.refl w1).alloc _), heap_alloc_new w1 _, a1.to.size⟩
  have HA := Lib.hid (a1.alloc (.cells #[.pointer (some ⟨g, 0, none⟩), .bool true, .int .i64 0] 100))
  clear ht a1
  go_wp2_with fail
  go_ret2
  exact ⟨_, _, _, rfl, HP.out, HA.out⟩

set_option maxHeartbeats 2000000 in
theorem presize_no {w : World} {B gp g : Nat} {vo vk : Value} {l : List FieldL} {most : Int} {told : Bool} {least : Int} (m : Int) (hm : ¬ (0 ≤ m ∧ m ≤ 65536)) (h : Pk w B gp g vo vk l most told least) :
    Calls Tryd.prog 39 #[.pointer (some ⟨gp, 0, none⟩), .int .i64 m] w fun e w' => e = .returned (.int .i64 1) ∧ w = w' := by
  have HR := Lib.hid (resize_no (w := w) (B := B) (g := g) m hm)
  obtain ⟨c0, c1, c2, f1, f2⟩ := h.cells
  clear hm h
  go_enter Tryd.func39, Tryd.ntmps39
  go_wp2_with fail
  refine HR.out.mono ?_
  rintro e w1 ⟨rfl, rfl⟩
  go_wp2_with fail
  go_ret
  exact ⟨rfl, rfl⟩
def leastN (told : Bool) (least m : Int) : Int := if told = true ∨ m < least then m else least
set_option maxHeartbeats 4000000 in
theorem presize_yes {w : World} {B gp g : Nat} {vo vk : Value} {l : List FieldL} {most : Int} {told : Bool} {least : Int} (m : Int) (h : Pk w B gp g vo vk l most told least) (hs : sumF l ≤ 1000000000000) (hm0 : 0 ≤ m) (hm1 : m ≤ 65536) :
    Calls Tryd.prog 39 #[.pointer (some ⟨gp, 0, none⟩), .int .i64 m] w fun e w' => e = .returned (.int .i64 0) ∧ ∃ vo', Pk w' B gp g vo' vk (fitF m l) m false (leastN told least m) ∧ Chg (PP gp g vo) w w' ∧ ∀ k, vo'.ownBlock = some k → vo.ownBlock = some k := by
  have HR := Lib.hid (resize_yes m h.t hs hm0 hm1)
  have H := Lib.hid h
  obtain ⟨c0, c1, c2, f1, f2⟩ := h.cells
  obtain ⟨L, hL⟩ : ∃ L, leastN told least m = L := ⟨_, rfl⟩
  rw [hL]
  have HL := Lib.hid hL
  clear h hs hL
  go_enter Tryd.func39, Tryd.ntmps39
  go_wp2_with fail
  refine HR.out.mono ?_
  rintro e w1 ⟨rfl, vo', ht, hc, ho⟩
  have HP1 := Lib.hid (H.out.tab ht (hc.mono (fun i hi => Or.inl hi)))
  have HC := Lib.hid (hc.mono (q := PP gp g vo) (fun i hi => Or.inr (Or.inl hi)))
  have HO := Lib.hid ho
  clear c0 c1 c2 f1 f2 ht hc ho HR
  obtain ⟨c0, c1, c2, f1, f2⟩ := HP1.out.cells
  have HP2 := Lib.hid ((HP1.out.put2 m).put1 false)
  have HP3 := Lib.hid (HP1.out.put1 false)
  obtain ⟨d0, d1, d2, e1, e2⟩ := (HP1.out.put2 m).cells
  have HC2 := Lib.hid ((HC.out.set gp 2 (.int .i64 m) (Or.inl (Or.inl rfl))).set gp 1 (.bool false) (Or.inl (Or.inl rfl)))
  have HC3 := Lib.hid (HC.out.set gp 1 (.bool false) (Or.inl (Or.inl rfl)))
  clear HC HP1 H
  cases told
  · by_cases hlt : m < least
    · have HL2 : Hid (L = m) := Lib.hid (by rw [← HL.out]; unfold leastN; rw [if_pos (Or.inr hlt)])
      go_wp2_with fail
      go_ret
      refine ⟨rfl, vo', ?_, HC2.out, HO.out⟩
      rw [HL2.out]
      exact HP2.out
    · have HL2 : Hid (L = least) := Lib.hid (by rw [← HL.out]; unfold leastN; rw [if_neg (by simp; omega)])
      go_wp2_with fail
      go_ret
      refine ⟨rfl, vo', ?_, HC3.out, HO.out⟩
      rw [HL2.out]
      exact HP3.out
  · have HL2 : Hid (L = m) := Lib.hid (by rw [← HL.out]; unfold leastN; rw [if_pos (Or.inl rfl)])
    go_wp2_with fail
    go_ret
    refine ⟨rfl, vo', ?_, HC2.out, HO.out⟩
    rw [HL2.out]
    exact HP2.out

end Go.Proofs.YtmlnboibclfmcaaDoor
namespace Go.Proofs.YtmlnboibclfmcaaDoor
open Go.RowKit
set_option linter.unusedVariables false

def sizesL (told : Bool) (least most : Int) : List UInt8 := if told = true then [] else (if least < most then pintL 5 32 least.toNat else []) ++ pintL 5 32 most.toNat
theorem sizesL_len (told : Bool) (least most : Int) : (sizesL told least most).length ≤ 12 := by
  have h1 := pintL_len 5 32 least.toNat
  have h2 := pintL_len 5 32 most.toNat
  unfold sizesL
  split
  · simp
  · rw [List.length_append]
    split <;> simp <;> omega
theorem put_none (n top : Nat) (v : Int) (w : World) (hp : PreOk n top) (h0 : 0 ≤ v) (h1 : v ≤ 65536) :
    Calls Tryd.prog 64 #[.slice none 0 0, .int .i64 (n : Int), .int .u8 (top : Int), .int .i64 v] w fun e w' => ∃ v', e = .returned v' ∧ Own w' w.heap.size v' (pintL n top v.toNat) ∧ Aft w w' := by
  have := put_any (.slice none 0 0) [] n top v.toNat w (Or.inl ⟨⟨none, rfl⟩, rfl⟩) (by simp) hp (by omega)
  rw [show ((v.toNat : Nat) : Int) = v by omega] at this
  exact this
theorem put_more (v0 : Value) (l : List UInt8) (n top : Nat) (v : Int) (w : World) (hr : Rb w v0 l) (hl : l.length ≤ 1000) (hp : PreOk n top) (h0 : 0 ≤ v) (h1 : v ≤ 65536) :
    Calls Tryd.prog 64 #[v0, .int .i64 (n : Int), .int .u8 (top : Int), .int .i64 v] w fun e w' => ∃ v', e = .returned v' ∧ Own w' w.heap.size v' (l ++ pintL n top v.toNat) ∧ Aft w w' := by
  have := put_any v0 l n top v.toNat w hr (by omega) hp (by omega)
  rw [show ((v.toNat : Nat) : Int) = v by omega] at this
  exact this

set_option maxHeartbeats 4000000 in
set_option maxRecDepth 100000 in
theorem ptable_any {w : World} {B gp g : Nat} {vo vk : Value} {l : List FieldL} {most : Int} {told : Bool} {least : Int} (h : Pk w B gp g vo vk l most told least) :
    Calls Tryd.prog 38 #[.pointer (some ⟨gp, 0, none⟩)] w fun e w' => e = .returned (.tuple #[.int .i64 (l.length : Int), .int .i64 (sumF l : Int), .int .i64 most]) ∧ Aft w w' := by
  have HL := Lib.hid (fun (w' : World) (h : Pk w' B gp g vo vk l most told least) => tlen_any h.t)
  have HS := Lib.hid (fun (w' : World) (h : Pk w' B gp g vo vk l most told least) => tsize_any h.t)
  have HM := Lib.hid (fun (w' : World) (h : Pk w' B gp g vo vk l most told least) => tmost_any h.t)
  have H := Lib.hid h
  obtain ⟨n, hn⟩ : ∃ n, l.length = n := ⟨_, rfl⟩
  obtain ⟨s, hs⟩ : ∃ s, sumF l = s := ⟨_, rfl⟩
  rw [hn] at HL
  rw [hs] at HS
  rw [hn, hs]
  clear h hn hs
  go_enter Tryd.func38, Tryd.ntmps38
  go_upto_region 1 with fail
  have A5 := (Aft.refl w).drew
  refine wp_region_held_drew (S := fun w' => Pk w' B gp g vo vk l most told least) (by kernel_rfl) (H.out.aft ((Aft.refl w).drew)) (fun hHeld => ?_)
  refine wpAnyH_take (i := 0) (oi := { dst := some 5, op := Go.Op.move (Go.Operand.tmp 0), type := 51, pos := _, after := _, guard := _ }) (v := ?_) rfl (by kernel_rfl) (by kernel_rfl) (by kernel_rfl) (fun _ _ _ h => h) (Or.inl ⟨by rfl, ?_⟩) (by exact hHeld) ?_
  rotate_left
  · intro w hSw; go_simp; try with_reducible rfl
  try simp only [Act.put]
  try simp only [List.setIfInBounds_toArray]
  try simp only [List.set]
  refine wpAnyH_take (i := 1) (oi := { dst := some 6, op := Go.Op.nilCheck (Go.Operand.tmp 5), type := 0, pos := _, after := _, guard := _ }) (v := ?_) rfl (by kernel_rfl) (by kernel_rfl) (by kernel_rfl) (fun _ _ _ h => h) (Or.inl ⟨by rfl, ?_⟩) (by exact hHeld) ?_
  rotate_left
  · intro w hSw; go_simp; try with_reducible rfl
  try simp only [Act.put]
  try simp only [List.setIfInBounds_toArray]
  try simp only [List.set]
  refine wpAnyH_take (i := 2) (oi := { dst := some 7, op := Go.Op.fieldAddr 100 (Go.Operand.tmp 6) 0, type := 0, pos := _, after := _, guard := _ }) (v := ?_) rfl (by kernel_rfl) (by kernel_rfl) (by kernel_rfl) (fun _ _ _ h => h) (Or.inl ⟨by rfl, ?_⟩) (by exact hHeld) ?_
  rotate_left
  · intro w hSw; go_simp; try with_reducible rfl
  try simp only [Act.put]
  try simp only [List.setIfInBounds_toArray]
  try simp only [List.set]
  refine wpAnyH_take (i := 3) (oi := { dst := some 8, op := Go.Op.load 22 (Go.Operand.tmp 7), type := 22, pos := _, after := _, guard := _ }) (v := ?_) rfl (by kernel_rfl) (by kernel_rfl) (by kernel_rfl) (fun _ _ _ h => h) (Or.inl ⟨by rfl, ?_⟩) (by exact hHeld) ?_
  rotate_left
  · intro w hSw; obtain ⟨c0, c1, c2, f1, f2⟩ := hSw.cells; go_simp; try with_reducible rfl
  try simp only [Act.put]
  try simp only [List.setIfInBounds_toArray]
  try simp only [List.set]
  refine wpAnyH_take (i := 5) (oi := { dst := some 10, op := Go.Op.move (Go.Operand.tmp 0), type := 51, pos := _, after := _, guard := _ }) (v := ?_) rfl (by kernel_rfl) (by kernel_rfl) (by kernel_rfl) (fun _ _ _ h => h) (Or.inl ⟨by rfl, ?_⟩) (by exact hHeld) ?_
  rotate_left
  · intro w hSw; go_simp; try with_reducible rfl
  try simp only [Act.put]
  try simp only [List.setIfInBounds_toArray]
  try simp only [List.set]
  refine wpAnyH_take (i := 6) (oi := { dst := some 11, op := Go.Op.nilCheck (Go.Operand.tmp 10), type := 0, pos := _, after := _, guard := _ }) (v := ?_) rfl (by kernel_rfl) (by kernel_rfl) (by kernel_rfl) (fun _ _ _ h => h) (Or.inl ⟨by rfl, ?_⟩) (by exact hHeld) ?_
  rotate_left
  · intro w hSw; go_simp; try with_reducible rfl
  try simp only [Act.put]
  try simp only [List.setIfInBounds_toArray]
  try simp only [List.set]
  refine wpAnyH_take (i := 7) (oi := { dst := some 12, op := Go.Op.fieldAddr 100 (Go.Operand.tmp 11) 0, type := 0, pos := _, after := _, guard := _ }) (v := ?_) rfl (by kernel_rfl) (by kernel_rfl) (by kernel_rfl) (fun _ _ _ h => h) (Or.inl ⟨by rfl, ?_⟩) (by exact hHeld) ?_
  rotate_left
  · intro w hSw; go_simp; try with_reducible rfl
  try simp only [Act.put]
  try simp only [List.setIfInBounds_toArray]
  try simp only [List.set]
  refine wpAnyH_take (i := 8) (oi := { dst := some 13, op := Go.Op.load 22 (Go.Operand.tmp 12), type := 22, pos := _, after := _, guard := _ }) (v := ?_) rfl (by kernel_rfl) (by kernel_rfl) (by kernel_rfl) (fun _ _ _ h => h) (Or.inl ⟨by rfl, ?_⟩) (by exact hHeld) ?_
  rotate_left
  · intro w hSw; obtain ⟨c0, c1, c2, f1, f2⟩ := hSw.cells; go_simp; try with_reducible rfl
  try simp only [Act.put]
  try simp only [List.setIfInBounds_toArray]
  try simp only [List.set]
  refine wpAnyH_take (i := 10) (oi := { dst := some 15, op := Go.Op.move (Go.Operand.tmp 0), type := 51, pos := _, after := _, guard := _ }) (v := ?_) rfl (by kernel_rfl) (by kernel_rfl) (by kernel_rfl) (fun _ _ _ h => h) (Or.inl ⟨by rfl, ?_⟩) (by exact hHeld) ?_
  rotate_left
  · intro w hSw; go_simp; try with_reducible rfl
  try simp only [Act.put]
  try simp only [List.setIfInBounds_toArray]
  try simp only [List.set]
  refine wpAnyH_take (i := 11) (oi := { dst := some 16, op := Go.Op.nilCheck (Go.Operand.tmp 15), type := 0, pos := _, after := _, guard := _ }) (v := ?_) rfl (by kernel_rfl) (by kernel_rfl) (by kernel_rfl) (fun _ _ _ h => h) (Or.inl ⟨by rfl, ?_⟩) (by exact hHeld) ?_
  rotate_left
  · intro w hSw; go_simp; try with_reducible rfl
  try simp only [Act.put]
  try simp only [List.setIfInBounds_toArray]
  try simp only [List.set]
  refine wpAnyH_take (i := 12) (oi := { dst := some 17, op := Go.Op.fieldAddr 100 (Go.Operand.tmp 16) 0, type := 0, pos := _, after := _, guard := _ }) (v := ?_) rfl (by kernel_rfl) (by kernel_rfl) (by kernel_rfl) (fun _ _ _ h => h) (Or.inl ⟨by rfl, ?_⟩) (by exact hHeld) ?_
  rotate_left
  · intro w hSw; go_simp; try with_reducible rfl
  try simp only [Act.put]
  try simp only [List.setIfInBounds_toArray]
  try simp only [List.set]
  refine wpAnyH_take (i := 13) (oi := { dst := some 18, op := Go.Op.load 22 (Go.Operand.tmp 17), type := 22, pos := _, after := _, guard := _ }) (v := ?_) rfl (by kernel_rfl) (by kernel_rfl) (by kernel_rfl) (fun _ _ _ h => h) (Or.inl ⟨by rfl, ?_⟩) (by exact hHeld) ?_
  rotate_left
  · intro w hSw; obtain ⟨c0, c1, c2, f1, f2⟩ := hSw.cells; go_simp; try with_reducible rfl
  try simp only [Act.put]
  try simp only [List.setIfInBounds_toArray]
  try simp only [List.set]
  refine wpAnyH_ready (rs := [4]) (by kernel_rfl) (by simp) ?_
  refine AllReadyH.cons (o := { dst := some 9, op := Go.Op.call { callee := Go.Callee.value (Go.Operand.func 23), args := #[Go.Operand.tmp 8], argTypes := #[22] }, type := 3, pos := _, after := _, guard := _ }) rfl (fun K hK => ?_) AllReadyH.nil
  go_simp
  go_at_call 23
  refine (HL.out _ hHeld).mono ?_
  rintro e w6 ⟨rfl, rfl⟩
  have hS2 := hHeld
  clear hHeld
  refine hK.out _ _ hS2 (fun hHeld => ?_)
  clear hK K hS2
  try simp only [Act.put]
  try simp only [List.setIfInBounds_toArray]
  try simp only [List.set]
  refine wpAnyH_ready (rs := [9]) (by kernel_rfl) (by simp) ?_
  refine AllReadyH.cons (o := { dst := some 14, op := Go.Op.call { callee := Go.Callee.value (Go.Operand.func 22), args := #[Go.Operand.tmp 13], argTypes := #[22] }, type := 3, pos := _, after := _, guard := _ }) rfl (fun K hK => ?_) AllReadyH.nil
  go_simp
  go_at_call 22
  refine (HS.out _ hHeld).mono ?_
  rintro e w6 ⟨rfl, rfl⟩
  have hS2 := hHeld
  clear hHeld
  refine hK.out _ _ hS2 (fun hHeld => ?_)
  clear hK K hS2
  try simp only [Act.put]
  try simp only [List.setIfInBounds_toArray]
  try simp only [List.set]
  refine wpAnyH_ready (rs := [14]) (by kernel_rfl) (by simp) ?_
  refine AllReadyH.cons (o := { dst := some 19, op := Go.Op.call { callee := Go.Callee.value (Go.Operand.func 34), args := #[Go.Operand.tmp 18], argTypes := #[22] }, type := 3, pos := _, after := _, guard := _ }) rfl (fun K hK => ?_) AllReadyH.nil
  go_simp
  go_at_call 34
  refine (HM.out _ hHeld).mono ?_
  rintro e w6 ⟨rfl, rfl⟩
  have hS2 := hHeld
  clear hHeld
  refine hK.out _ _ hS2 (fun hHeld => ?_)
  clear hK K hS2
  try simp only [Act.put]
  try simp only [List.setIfInBounds_toArray]
  try simp only [List.set]
  refine wpAnyH_take (i := 15) (oi := { dst := some 2, op := Go.Op.assign (Go.Operand.tmp 9), type := 3, pos := _, after := _, guard := _ }) (v := ?_) rfl (by kernel_rfl) (by kernel_rfl) (by kernel_rfl) (fun _ _ _ h => h) (Or.inl ⟨by rfl, ?_⟩) (by exact hHeld) ?_
  rotate_left
  · intro w hSw; go_simp; try with_reducible rfl
  try simp only [Act.put]
  try simp only [List.setIfInBounds_toArray]
  try simp only [List.set]
  refine wpAnyH_take (i := 16) (oi := { dst := some 3, op := Go.Op.assign (Go.Operand.tmp 14), type := 3, pos := _, after := _, guard := _ }) (v := ?_) rfl (by kernel_rfl) (by kernel_rfl) (by kernel_rfl) (fun _ _ _ h => h) (Or.inl ⟨by rfl, ?_⟩) (by exact hHeld) ?_
  rotate_left
  · intro w hSw; go_simp; try with_reducible rfl
  try simp only [Act.put]
  try simp only [List.setIfInBounds_toArray]
  try simp only [List.set]
  refine wpAnyH_take (i := 17) (oi := { dst := some 4, op := Go.Op.assign (Go.Operand.tmp 19), type := 3, pos := _, after := _, guard := _ }) (v := ?_) rfl (by kernel_rfl) (by kernel_rfl) (by kernel_rfl) (fun _ _ _ h => h) (Or.inl ⟨by rfl, ?_⟩) (by exact hHeld) ?_
  rotate_left
  · intro w hSw; go_simp; try with_reducible rfl
  try simp only [Act.put]
  try simp only [List.setIfInBounds_toArray]
  try simp only [List.set]
  refine wpAnyH_done (by kernel_rfl) ?_ _
  go_wp2_with fail
  go_ret3
  exact ⟨rfl, A5⟩

set_option maxHeartbeats 4000000 in
set_option maxRecDepth 100000 in
theorem psizes_any {w : World} {B gp g : Nat} {vo vk : Value} {l : List FieldL} {most : Int} {told : Bool} {least : Int} (h : Pk w B gp g vo vk l most told least) (m0 : 0 ≤ most) (m1 : most ≤ 65536) (l0 : 0 ≤ least) (l1 : least ≤ 65536) (hB : B ≤ w.heap.size) :
    Calls Tryd.prog 63 #[.pointer (some ⟨gp, 0, none⟩)] w fun e w' => ∃ v', e = .returned v' ∧ Own w' w.heap.size v' (sizesL told least most) ∧ Pk w' B gp g vo vk l most true least ∧ Chg (fun k => k = gp) w w' := by
  have H := Lib.hid h
  obtain ⟨c0, c1, c2, f1, f2⟩ := h.cells
  cases told
  · have HP1 := Lib.hid (h.put1 true)
    have HC1 : Hid (Chg (fun k => k = gp) w (w.setCell ⟨gp, 1, none⟩ (.bool true))) := Lib.hid ((Chg.refl _ w).set gp 1 _ (Or.inl rfl))
    have HM := Lib.hid (fun (w' : World) (h : Pk w' B gp g vo vk l most true least) => tmost_any h.t)
    have HPL := Lib.hid (fun w => put_none 5 32 least w (by unfold PreOk; simp) l0 l1)
    have HPM := Lib.hid (fun w => put_none 5 32 most w (by unfold PreOk; simp) m0 m1)
    have hlen := pintL_len 5 32 least.toNat
    have HPX := Lib.hid (fun v0 w h => put_more v0 (pintL 5 32 least.toNat) 5 32 most w h (by omega) (by unfold PreOk; simp) m0 m1)
    clear h hlen
    go_enter Tryd.func63, Tryd.ntmps63
    go_upto_region 5 with fail
    generalize hW1 : w.setCell ⟨gp, 1, none⟩ (.bool true) = W1 at HP1 HC1 ⊢
    clear hW1 c0 c1 c2 f1 f2
    have HP2 := Lib.hid (HP1.out.aft ((Aft.refl W1).drew))
    have HC2 := Lib.hid (HC1.out.drew)
    refine wp_region_held_drew (S := fun w' => Pk w' B gp g vo vk l most true least) (by kernel_rfl) HP2.out (fun hHeld => ?_)
    refine wpAnyH_take (i := 0) (oi := { dst := some 11, op := Go.Op.move (Go.Operand.tmp 0), type := 51, pos := _, after := _, guard := _ }) (v := ?_) rfl (by kernel_rfl) (by kernel_rfl) (by kernel_rfl) (fun _ _ _ h => h) (Or.inl ⟨by rfl, ?_⟩) (by exact hHeld) ?_
    rotate_left
    · intro w hSw; go_simp; try with_reducible rfl
    try simp only [Act.put]
    try simp only [List.setIfInBounds_toArray]
    try simp only [List.set]
    refine wpAnyH_take (i := 1) (oi := { dst := some 12, op := Go.Op.nilCheck (Go.Operand.tmp 11), type := 0, pos := _, after := _, guard := _ }) (v := ?_) rfl (by kernel_rfl) (by kernel_rfl) (by kernel_rfl) (fun _ _ _ h => h) (Or.inl ⟨by rfl, ?_⟩) (by exact hHeld) ?_
    rotate_left
    · intro w hSw; go_simp; try with_reducible rfl
    try simp only [Act.put]
    try simp only [List.setIfInBounds_toArray]
    try simp only [List.set]
    refine wpAnyH_take (i := 2) (oi := { dst := some 13, op := Go.Op.fieldAddr 100 (Go.Operand.tmp 12) 2, type := 0, pos := _, after := _, guard := _ }) (v := ?_) rfl (by kernel_rfl) (by kernel_rfl) (by kernel_rfl) (fun _ _ _ h => h) (Or.inl ⟨by rfl, ?_⟩) (by exact hHeld) ?_
    rotate_left
    · intro w hSw; go_simp; try with_reducible rfl
    try simp only [Act.put]
    try simp only [List.setIfInBounds_toArray]
    try simp only [List.set]
    refine wpAnyH_take (i := 3) (oi := { dst := some 14, op := Go.Op.load 3 (Go.Operand.tmp 13), type := 3, pos := _, after := _, guard := _ }) (v := ?_) rfl (by kernel_rfl) (by kernel_rfl) (by kernel_rfl) (fun _ _ _ h => h) (Or.inl ⟨by rfl, ?_⟩) (by exact hHeld) ?_
    rotate_left
    · intro w hSw; obtain ⟨c0, c1, c2, f1, f2⟩ := hSw.cells; go_simp; try with_reducible rfl
    try simp only [Act.put]
    try simp only [List.setIfInBounds_toArray]
    try simp only [List.set]
    refine wpAnyH_take (i := 4) (oi := { dst := some 15, op := Go.Op.move (Go.Operand.tmp 0), type := 51, pos := _, after := _, guard := _ }) (v := ?_) rfl (by kernel_rfl) (by kernel_rfl) (by kernel_rfl) (fun _ _ _ h => h) (Or.inl ⟨by rfl, ?_⟩) (by exact hHeld) ?_
    rotate_left
    · intro w hSw; go_simp; try with_reducible rfl
    try simp only [Act.put]
    try simp only [List.setIfInBounds_toArray]
    try simp only [List.set]
    refine wpAnyH_take (i := 5) (oi := { dst := some 16, op := Go.Op.nilCheck (Go.Operand.tmp 15), type := 0, pos := _, after := _, guard := _ }) (v := ?_) rfl (by kernel_rfl) (by kernel_rfl) (by kernel_rfl) (fun _ _ _ h => h) (Or.inl ⟨by rfl, ?_⟩) (by exact hHeld) ?_
    rotate_left
    · intro w hSw; go_simp; try with_reducible rfl
    try simp only [Act.put]
    try simp only [List.setIfInBounds_toArray]
    try simp only [List.set]
    refine wpAnyH_take (i := 6) (oi := { dst := some 17, op := Go.Op.fieldAddr 100 (Go.Operand.tmp 16) 0, type := 0, pos := _, after := _, guard := _ }) (v := ?_) rfl (by kernel_rfl) (by kernel_rfl) (by kernel_rfl) (fun _ _ _ h => h) (Or.inl ⟨by rfl, ?_⟩) (by exact hHeld) ?_
    rotate_left
    · intro w hSw; go_simp; try with_reducible rfl
    try simp only [Act.put]
    try simp only [List.setIfInBounds_toArray]
    try simp only [List.set]
    refine wpAnyH_take (i := 7) (oi := { dst := some 18, op := Go.Op.load 22 (Go.Operand.tmp 17), type := 22, pos := _, after := _, guard := _ }) (v := ?_) rfl (by kernel_rfl) (by kernel_rfl) (by kernel_rfl) (fun _ _ _ h => h) (Or.inl ⟨by rfl, ?_⟩) (by exact hHeld) ?_
    rotate_left
    · intro w hSw; obtain ⟨c0, c1, c2, f1, f2⟩ := hSw.cells; go_simp; try with_reducible rfl
    try simp only [Act.put]
    try simp only [List.setIfInBounds_toArray]
    try simp only [List.set]
    refine wpAnyH_ready (rs := [8]) (by kernel_rfl) (by simp) ?_
    refine AllReadyH.cons (o := { dst := some 19, op := Go.Op.call { callee := Go.Callee.value (Go.Operand.func 34), args := #[Go.Operand.tmp 18], argTypes := #[22] }, type := 3, pos := _, after := _, guard := _ }) rfl (fun K hK => ?_) AllReadyH.nil
    go_simp
    go_at_call 34
    refine (HM.out _ hHeld).mono ?_
    rintro e w6 ⟨rfl, rfl⟩
    have hS2 := hHeld
    clear hHeld
    refine hK.out _ _ hS2 (fun hHeld => ?_)
    clear hK K hS2
    try simp only [Act.put]
    try simp only [List.setIfInBounds_toArray]
    try simp only [List.set]
    refine wpAnyH_take (i := 9) (oi := { dst := some 20, op := Go.Op.binOp Go.BinOp.lss 3 (Go.Operand.tmp 14) (Go.Operand.tmp 19) 3, type := 4, pos := _, after := _, guard := _ }) (v := ?_) rfl (by kernel_rfl) (by kernel_rfl) (by kernel_rfl) (fun _ _ _ h => h) (Or.inl ⟨by rfl, ?_⟩) (by exact hHeld) ?_
    rotate_left
    · intro w hSw; go_simp; try with_reducible rfl
    try simp only [Act.put]
    try simp only [List.setIfInBounds_toArray]
    try simp only [List.set]
    refine wpAnyH_done (by kernel_rfl) ?_ _
    clear hHeld HP1 HC1
    generalize W1.drew = W2 at HP2 HC2 ⊢
    obtain ⟨c0, c1, c2, f1, f2⟩ := HP2.out.cells
    by_cases hlt : least < most
    · have HS : Hid (sizesL false least most = pintL 5 32 least.toNat ++ pintL 5 32 most.toNat) := Lib.hid (by unfold sizesL; rw [if_neg (by simp), if_pos hlt])
      generalize pintL 5 32 least.toNat = P1 at HPL HPX HS
      generalize pintL 5 32 most.toNat = P2 at HPM HPX HS
      go_wp2_with fail
      refine (HPL.out _).mono ?_
      rintro e w3 ⟨v3, rfl, o3, a3⟩
      have HP3 := Lib.hid (HP2.out.aft a3)
      have HC3 := Lib.hid (HC2.out.aft a3)
      have HR3 := Lib.hid o3.rb
      clear o3 a3 c0 c1 c2 f1 f2
      obtain ⟨c0, c1, c2, f1, f2⟩ := HP3.out.cells
      go_wp2_with fail
      refine (HM.out _ HP3.out).mono ?_
      rintro e w4 ⟨rfl, rfl⟩
      go_wp2_with fail
      refine (HPX.out _ _ HR3.out).mono ?_
      rintro e w4 ⟨v4, rfl, o4, a4⟩
      have HP4 := Lib.hid (HP3.out.aft a4)
      have HC4 := Lib.hid (HC3.out.aft a4)
      have HO4 := Lib.hid (o4.base HC3.out.size)
      clear o4 a4
      go_wp2_with fail
      go_ret
      refine ⟨_, rfl, ?_, HP4.out, HC4.out⟩
      rw [HS.out]
      exact HO4.out
    · have HS : Hid (sizesL false least most = pintL 5 32 most.toNat) := Lib.hid (by unfold sizesL; rw [if_neg (by simp), if_neg hlt, List.nil_append])
      generalize pintL 5 32 most.toNat = P2 at HPM HPX HS
      go_wp2_with fail
      refine (HM.out _ HP2.out).mono ?_
      rintro e w4 ⟨rfl, rfl⟩
      go_wp2_with fail
      refine (HPM.out _).mono ?_
      rintro e w4 ⟨v4, rfl, o4, a4⟩
      have HP4 := Lib.hid (HP2.out.aft a4)
      have HC4 := Lib.hid (HC2.out.aft a4)
      have HO4 := Lib.hid (o4.base HC2.out.size)
      clear o4 a4
      go_wp2_with fail
      go_ret
      refine ⟨_, rfl, ?_, HP4.out, HC4.out⟩
      rw [HS.out]
      exact HO4.out
  · clear h
    go_enter Tryd.func63, Tryd.ntmps63
    go_wp2_with fail
    go_ret
    refine ⟨_, rfl, ?_, H.out, Chg.refl _ w⟩
    unfold sizesL
    rw [if_pos rfl]
    exact Own.nil _ _

end Go.Proofs.YtmlnboibclfmcaaDoor
namespace Go.Proofs.YtmlnboibclfmcaaDoor
open Go.RowKit
set_option linter.unusedVariables false

structure RowL where
  f : FieldL
  how : Int
/-- The slice v of rows can be read: they are l. -/
def RbW (w : World) (v : Value) (l : List RowL) : Prop :=
  ((∃ a, v = .slice a 0 0) ∧ l = []) ∨ ∃ b off cap, v = .slice (some ⟨b, off, none⟩) l.length cap ∧ l.length ≤ cap ∧ cap ≤ maxLen ∧ b < w.heap.size ∧ ∀ i (h : i < l.length), w.cell? ⟨b, off + i * 3, none⟩ = some (strV l[i].f.1) ∧ w.cell? ⟨b, off + i * 3 + 1, none⟩ = some (strV l[i].f.2) ∧ w.cell? ⟨b, off + i * 3 + 2, none⟩ = some (.int .i64 l[i].how)
theorem RbW.open {w : World} {v : Value} {l : List RowL} (h : RbW w v l) : ∃ (a : Option Addr) (cap b off : Nat), v = .slice a l.length cap ∧ l.length ≤ cap ∧ cap ≤ maxLen ∧ ∀ i (h : i < l.length), a = some ⟨b, off, none⟩ ∧ b < w.heap.size ∧ w.cell? ⟨b, off + i * 3, none⟩ = some (strV l[i].f.1) ∧ w.cell? ⟨b, off + i * 3 + 1, none⟩ = some (strV l[i].f.2) ∧ w.cell? ⟨b, off + i * 3 + 2, none⟩ = some (.int .i64 l[i].how) := by
  rcases h with ⟨⟨a0, rfl⟩, rfl⟩ | ⟨b, off, cap, rfl, h1, h2, h3, h4⟩
  · exact ⟨a0, 0, 0, 0, rfl, by simp, Nat.zero_le _, fun i h => by simp at h⟩
  · exact ⟨_, cap, b, off, rfl, h1, h2, fun i hi => ⟨rfl, h3, h4 i hi⟩⟩
theorem RbW.aft {w w' : World} {v : Value} {l : List RowL} (h : RbW w v l) (ha : Aft w w') : RbW w' v l := by
  rcases h with h | ⟨b, off, cap, a, b1, b2, c, d⟩
  · exact Or.inl h
  · refine Or.inr ⟨b, off, cap, a, b1, b2, Nat.lt_of_lt_of_le c ha.size, fun i hi => ?_⟩
    rw [Below.cell ha.to (p := ⟨b, off + i * 3, none⟩) c, Below.cell ha.to (p := ⟨b, off + i * 3 + 1, none⟩) c, Below.cell ha.to (p := ⟨b, off + i * 3 + 2, none⟩) c]
    exact d i hi

/-- One row: its bytes, and the table behind it. -/
def rowB (most : Int) (l : List FieldL) (r : RowL) : List UInt8 × List FieldL :=
  if (findF l r.f).2 = true ∧ r.how ≠ 3 then (pintL 7 128 (findF l r.f).1.toNat, l)
  else if r.how = 1 then (writL (findF l r.f).1.toNat 6 64 r.f.1 r.f.2, addF most r.f l)
  else if r.how = 3 then (writL (findF l r.f).1.toNat 4 16 r.f.1 r.f.2, l)
  else (writL (findF l r.f).1.toNat 4 0 r.f.1 r.f.2, l)
def rowsB (most : Int) : List UInt8 × List FieldL → List RowL → List UInt8 × List FieldL
  | s, [] => s
  | s, r :: rs => rowsB most (s.1 ++ (rowB most s.2 r).1, (rowB most s.2 r).2) rs
theorem rowsB_snoc (most : Int) : ∀ (rs : List RowL) (s : List UInt8 × List FieldL) (r : RowL), rowsB most s (rs ++ [r]) = ((rowsB most s rs).1 ++ (rowB most (rowsB most s rs).2 r).1, (rowB most (rowsB most s rs).2 r).2)
  | [], s, r => rfl
  | x :: rs, s, r => by
    rw [List.cons_append]
    exact rowsB_snoc most rs _ r
theorem Own.pk {w : World} {base B gp g : Nat} {v vo vk : Value} {b : List UInt8} {l : List FieldL} {most : Int} {told : Bool} {least : Int} (ho : Own w base v b) (h : Pk w B gp g vo vk l most told least) : ∀ k, v.ownBlock = some k → ¬ PP gp g vo k := by
  intro k hk hp
  have hb : ∃ cur, w.heap[k]? = some (.cells cur 5 (0, 0)) := by
    rcases ho.2 with ⟨rfl, _⟩ | ⟨g', cap, cur, rfl, _, h1, _⟩
    · cases hk
    · injection hk with hk
      rw [← hk]
      exact ⟨cur, h1⟩
  obtain ⟨cur, hb⟩ := hb
  rcases hp with rfl | rfl | hp
  · rw [h.p] at hb
    injection hb with hb
    injection hb with _ hb
    exact absurd hb (by decide)
  · rw [h.t.blk] at hb
    injection hb with hb
    injection hb with _ hb
    exact absurd hb (by decide)
  · obtain ⟨cur2, h2⟩ := h.t.own.blk hp
    rw [h2] at hb
    injection hb with hb
    injection hb with _ hb
    exact absurd hb (by decide)
theorem Own.chg {p : Nat → Prop} {w w' : World} {base : Nat} {v : Value} {l : List UInt8} (h : Own w base v l) (hc : Chg p w w') (hp : ∀ k, v.ownBlock = some k → ¬ p k) : Own w' base v l := by
  obtain ⟨h1, h2⟩ := id h
  refine ⟨h1, ?_⟩
  rcases h2 with h2 | ⟨g, cap, cur, rfl, b, c, d⟩
  · exact Or.inl h2
  · exact Or.inr ⟨g, cap, cur, rfl, b, (hc.block g (h.lt g rfl).2 (hp g rfl)).trans c, d⟩
/-- A row of the loop's own. -/
def RB3 (w : World) (g : Nat) (n v : ByteArray) (how : Int) : Prop := w.heap[g]? = some (.cells #[.string n, .string v, .int .i64 how] 57 (0, 0))
theorem RB3.cells {w : World} {g : Nat} {n v : ByteArray} {how : Int} (h : RB3 w g n v how) : w.cell? ⟨g, 0, none⟩ = some (.string n) ∧ w.cell? ⟨g, 1, none⟩ = some (.string v) ∧ w.cell? ⟨g, 2, none⟩ = some (.int .i64 how) := by
  unfold RB3 at h
  refine ⟨?_, ?_, ?_⟩ <;> rw [cell_of_row w g _ _ _ (0, 0) h] <;> rfl
theorem RB3.aft {w w' : World} {g : Nat} {n v : ByteArray} {how : Int} (h : RB3 w g n v how) (ha : Aft w w') : RB3 w' g n v how := by
  have hl : g < w.heap.size := by
    rcases Nat.lt_or_ge g w.heap.size with h1 | h1
    · exact h1
    · unfold RB3 at h; rw [Array.getElem?_eq_none h1] at h; cases h
  unfold RB3 at h ⊢
  rw [Below.block ha.to g hl]
  exact h

def sumR (l : List RowL) : Nat := (l.map fun r => r.f.1.length + r.f.2.length + 32).sum
theorem sumR_cons (r : RowL) (l : List RowL) : sumR (r :: l) = r.f.1.length + r.f.2.length + 32 + sumR l := by simp [sumR]
theorem sumR_append (a b : List RowL) : sumR (a ++ b) = sumR a + sumR b := by simp [sumR]
theorem sumR_take (l : List RowL) (k : Nat) : sumR (l.take k) ≤ sumR l := by
  have : sumR (l.take k) + sumR (l.drop k) = sumR l := by rw [← sumR_append, List.take_append_drop]
  omega
theorem sumR_len (l : List RowL) : 32 * l.length ≤ sumR l := by
  induction l with
  | nil => simp [sumR]
  | cons f l ih => rw [sumR_cons, List.length_cons]; omega
theorem sumR_mem {r : RowL} {l : List RowL} (h : r ∈ l) : r.f.1.length + r.f.2.length + 32 ≤ sumR l := by
  induction l with
  | nil => simp at h
  | cons g l ih =>
    rw [sumR_cons]
    rcases List.mem_cons.1 h with rfl | h
    · omega
    · have := ih h; omega
theorem findF_bd (l : List FieldL) (f : FieldL) : 0 ≤ (findF l f).1 ∧ (findF l f).1 ≤ 61 + (l.length : Int) := by
  rcases find_cases l f with h | ⟨j, hj, h, -⟩ | ⟨j, x, hj⟩
  · rw [h]; exact ⟨Int.le_refl _, by omega⟩
  · rw [h]; exact ⟨by show (0 : Int) ≤ (j : Int) + 1; omega, by show (j : Int) + 1 ≤ _; omega⟩
  · first
      | (have h := hj.2.1; rw [h]; exact ⟨by show (0 : Int) ≤ (j : Int) + 1; omega, by show (j : Int) + 1 ≤ _; have := hj.1; omega⟩)
      | (obtain ⟨h1, h2, -⟩ := hj; rw [h2]; exact ⟨by show (0 : Int) ≤ (j : Int) + 1; omega, by show (j : Int) + 1 ≤ _; omega⟩)
theorem rowB_len (most : Int) (l : List FieldL) (r : RowL) : (rowB most l r).1.length ≤ r.f.1.length + r.f.2.length + 32 := by
  have h1 := pintL_len 7 128 (findF l r.f).1.toNat
  have h2 := writL_len (findF l r.f).1.toNat 6 64 r.f.1 r.f.2
  have h3 := writL_len (findF l r.f).1.toNat 4 16 r.f.1 r.f.2
  have h4 := writL_len (findF l r.f).1.toNat 4 0 r.f.1 r.f.2
  unfold rowB
  split
  · simp only; omega
  · split
    · simp only; omega
    · split
      · simp only; omega
      · simp only; omega
theorem rowB_tab (most : Int) (hm : 0 ≤ most) (l : List FieldL) (r : RowL) (h : (sumF l : Int) ≤ most) : (sumF (rowB most l r).2 : Int) ≤ most := by
  unfold rowB
  split
  · exact h
  · split
    · exact addF_le hm
    · split <;> exact h

end Go.Proofs.YtmlnboibclfmcaaDoor
namespace Go.Proofs.YtmlnboibclfmcaaDoor
open Go.RowKit
set_option linter.unusedVariables false

/-- What a round of Block holds: the packer, the bytes so far. -/
structure BlkI (w wr : World) (B gp g : Nat) (vo vk : Value) (most least : Int) (v5 : Value) (bytes : List UInt8) (l : List FieldL) (vo' : Value) : Prop where
  pk : Pk wr B gp g vo' vk l most true least
  own : Own wr w.heap.size v5 bytes
  chg : Chg (PP gp g vo) w wr
  ob : ∀ k, vo'.ownBlock = some k → vo.ownBlock = some k ∨ w.heap.size ≤ k
theorem BlkI.aft {w wr wx : World} {B gp g : Nat} {vo vk : Value} {most least : Int} {v5 : Value} {bytes : List UInt8} {l : List FieldL} {vo' : Value} (h : BlkI w wr B gp g vo vk most least v5 bytes l vo') (a : Aft wr wx) : BlkI w wx B gp g vo vk most least v5 bytes l vo' :=
  ⟨h.pk.aft a, h.own.aft a, h.chg.aft a, h.ob⟩
theorem BlkI.put {w wr wx : World} {B gp g : Nat} {vo vk : Value} {most least : Int} {v5 v6 : Value} {bytes bytes2 : List UInt8} {l : List FieldL} {vo' : Value} (h : BlkI w wr B gp g vo vk most least v5 bytes l vo') (a : Aft wr wx) (o : Own wx wr.heap.size v6 bytes2) : BlkI w wx B gp g vo vk most least v6 bytes2 l vo' :=
  ⟨h.pk.aft a, o.base h.chg.size, h.chg.aft a, h.ob⟩
theorem BlkI.add {w wr wx : World} {B gp g : Nat} {vo vk : Value} {most least : Int} {v5 : Value} {bytes : List UInt8} {l l2 : List FieldL} {vo' vo2 : Value} (h : BlkI w wr B gp g vo vk most least v5 bytes l vo') (ht : Tab wx B g vo2 vk l2 most) (hc : Chg (TP g vo') wr wx) (ho : ∀ k, vo2.ownBlock = some k → vo'.ownBlock = some k ∨ wr.heap.size ≤ k) : BlkI w wx B gp g vo vk most least v5 bytes l2 vo2 := by
  refine ⟨h.pk.tab ht hc, h.own.chg (hc.mono (q := PP gp g vo') (fun i hi => Or.inr hi)) (h.own.pk h.pk), h.chg.trans hc (fun i hi => ?_), fun k hk => ?_⟩
  · rcases hi with rfl | hi
    · exact Or.inl (Or.inr (Or.inl rfl))
    · rcases h.ob i hi with h1 | h1
      · exact Or.inl (Or.inr (Or.inr h1))
      · exact Or.inr h1
  · rcases ho k hk with h1 | h1
    · exact h.ob k h1
    · exact Or.inr (Nat.le_trans h.chg.size h1)

set_option linter.unusedSimpArgs false in
set_option maxHeartbeats 8000000 in
set_option maxRecDepth 100000 in
theorem pblock_any {w : World} {B gp g : Nat} {vo vk : Value} {l : List FieldL} {most : Int} {told : Bool} {least : Int} (v : Value) (rows : List RowL) (h : Pk w B gp g vo vk l most told least) (hs : (sumF l : Int) ≤ most) (m0 : 0 ≤ most) (m1 : most ≤ 65536) (l0 : 0 ≤ least) (l1 : least ≤ 65536) (hB : B ≤ w.heap.size)
    (hrw : ∀ wx, Chg (PP gp g vo) w wx → RbW wx v rows) (hsum : sumR rows ≤ 1000000) :
    Calls Tryd.prog 36 #[.pointer (some ⟨gp, 0, none⟩), v] w fun e w' => ∃ v' vo', e = .returned v' ∧ BlkI w w' B gp g vo vk most least v' (rowsB most (sizesL told least most, l) rows).1 (rowsB most (sizesL told least most, l) rows).2 vo' := by
  have HSZ := Lib.hid (psizes_any h m0 m1 l0 l1 hB)
  have hrl := sumR_len rows
  obtain ⟨va, vc, vb, voff, rfl, hvc, hvm, -⟩ := (hrw w (Chg.refl _ w)).open
  have HRW := Lib.hid hrw
  have HM := Lib.hid (And.intro m0 m1)
  have HSM := Lib.hid hsum
  have HFS := Lib.hid hs
  have hlen : rows.length ≤ 40000 := by omega
  have hsl := sizesL_len told least most
  obtain ⟨b0, hb0⟩ : ∃ b0, sizesL told least most = b0 := ⟨_, rfl⟩
  rw [hb0] at HSZ hsl ⊢
  have HBW := Lib.hid hB
  have HB0 := Lib.hid hsl
  clear h hs hrw hsum hvc hvm hrl hb0 hB hsl
  go_enter Tryd.func36, Tryd.ntmps36
  go_wp2_with fail
  refine HSZ.out.mono ?_
  rintro e w1 ⟨v1, rfl, o1, p1, c1⟩
  have HI1 : Hid (BlkI w w1 B gp g vo vk most least v1 b0 l vo) := Lib.hid ⟨p1, o1, c1.mono (fun i hi => Or.inl hi), fun k hk => Or.inl hk⟩
  clear o1 p1 c1 HSZ
  go_wp2_with fail
  go_loopw [5, 14] (fun v5 vi wr => ∃ (k : Nat) (bytes : List UInt8) (l' : List FieldL) (vo' : Value), k ≤ rows.length ∧ vi = .int .i64 (k : Int) ∧ Hid (rowsB most (b0, l) (rows.take k) = (bytes, l')) ∧ Hid (bytes.length ≤ 12 + sumR (rows.take k)) ∧ Hid ((sumF l' : Int) ≤ most) ∧ Hid (BlkI w wr B gp g vo vk most least v5 bytes l' vo')) (fun _ vi _ => rows.length - (intOf vi).toNat)
  case atStart => exact ⟨0, b0, l, vo, by omega, by go_num, Lib.hid rfl, Lib.hid (by have := HB0.out; omega), HFS, HI1⟩
  case round =>
    obtain ⟨k, bytes, l', vo', hk, rfl, HE, HLN, HTS, HI⟩ := hrel
    by_cases hlt : k < rows.length
    · have hx := (HRW.out wr HI.out.chg)
      rcases hx with ⟨h1, h2⟩ | ⟨bb, oo, cc, h1, h2, h3, h4, h5⟩
      · rw [h2] at hlt; simp at hlt
      injection h1 with e1 _ e3
      subst e1 e3
      obtain ⟨y0, y1, y2⟩ := h5 k hlt
      have hmem : rows[k].f.1.length + rows[k].f.2.length + 32 ≤ 1000000 := Nat.le_trans (sumR_mem (List.getElem_mem hlt)) HSM.out
      have hst : rowsB most (b0, l) (rows.take (k + 1)) = (bytes ++ (rowB most l' rows[k]).1, (rowB most l' rows[k]).2) := by
        rw [List.take_succ_eq_append_getElem hlt, rowsB_snoc, HE.out]
      have hst2 : sumR (rows.take (k + 1)) = sumR (rows.take k) + (rows[k].f.1.length + rows[k].f.2.length + 32) := by
        rw [List.take_succ_eq_append_getElem hlt, sumR_append]
        simp [sumR]
      have hrb := rowB_len most l' rows[k]
      have hrt := rowB_tab most HM.out.1 l' rows[k] HTS.out
      have HST := Lib.hid hst
      have HST2 := Lib.hid hst2
      have HTK := Lib.hid (sumR_take rows k)
      clear hst hst2 h5 h4 h2 h3
      generalize rows[k] = r at *
      obtain ⟨⟨n, x⟩, how⟩ := r
      simp only at y0 y1 y2 hmem hrb
      have z1 : (⟨n.toArray⟩ : ByteArray).size = n.length := by show n.toArray.size = _; simp
      have z2 : (⟨x.toArray⟩ : ByteArray).size = x.length := by show x.toArray.size = _; simp
      have i1 : (k : Int) < (rows.length : Int) := by omega
      have HRB := Lib.hid hrb
      have HRT := Lib.hid hrt
      clear hrb hrt
      unfold strV at y0 y1
      have HW4 : Hid (BlkI w (wr.alloc (.cells #[.string ⟨n.toArray⟩, .string ⟨x.toArray⟩, .int .i64 how] 57)) B gp g vo vk most least u5 bytes l' vo') := Lib.hid (HI.out.aft ((Aft.refl wr).alloc _))
      have HRR : Hid (RB3 (wr.alloc (.cells #[.string ⟨n.toArray⟩, .string ⟨x.toArray⟩, .int .i64 how] 57)) wr.heap.size ⟨n.toArray⟩ ⟨x.toArray⟩ how) := Lib.hid (heap_alloc_new wr _)
      go_upto_region 5 with fail
      obtain ⟨gr, hgr⟩ : ∃ gr, wr.heap.size = gr := ⟨_, rfl⟩
      rw [hgr] at HRR ⊢
      generalize wr.alloc (.cells #[.string ⟨n.toArray⟩, .string ⟨x.toArray⟩, .int .i64 how] 57) = W4 at HW4 HRR ⊢
      have HFN := Lib.hid (fun (w' : World) (h : BlkI w w' B gp g vo vk most least u5 bytes l' vo') => tfind_any (n, x) h.pk.t (by have := sumF_len l'; have := HTS.out; have := HM.out; omega))
      have hfb := findF_bd l' (n, x)
      have hll : 32 * l'.length ≤ 65536 := by have := sumF_len l'; have := HTS.out; have := HM.out; omega
      obtain ⟨q, hq⟩ : ∃ q, findF l' (n, x) = q := ⟨_, rfl⟩
      rw [hq] at HFN hfb
      have HQ := Lib.hid hq
      obtain ⟨q1, q2⟩ := q
      simp only at hfb
      obtain ⟨fi, hfi⟩ := Int.eq_ofNat_of_zero_le hfb.1
      subst hfi
      have hfi2 : fi ≤ 2147483647 := by omega
      clear hq hfb hll y0 y1 y2 HI hgr
      have A5 := (Aft.refl W4).drew
      have D5 := Lib.hid A5
      refine wp_region_held_drew (S := fun w' => BlkI w w' B gp g vo vk most least u5 bytes l' vo' ∧ RB3 w' gr ⟨n.toArray⟩ ⟨x.toArray⟩ how) (by kernel_rfl) ⟨HW4.out.aft D5.out, HRR.out.aft D5.out⟩ (fun hHeld => ?_)
      refine wpAnyH_take (i := 0) (oi := { dst := some 19, op := Go.Op.move (Go.Operand.tmp 0), type := 51, pos := _, after := _, guard := _ }) (v := ?_) rfl (by kernel_rfl) (by kernel_rfl) (by kernel_rfl) (fun _ _ _ h => h) (Or.inl ⟨by rfl, ?_⟩) (by exact hHeld) ?_
      rotate_left
      · intro w hSw; go_simp; try with_reducible rfl
      try simp only [Act.put]
      try simp only [List.setIfInBounds_toArray]
      try simp only [List.set]
      refine wpAnyH_take (i := 1) (oi := { dst := some 20, op := Go.Op.nilCheck (Go.Operand.tmp 19), type := 0, pos := _, after := _, guard := _ }) (v := ?_) rfl (by kernel_rfl) (by kernel_rfl) (by kernel_rfl) (fun _ _ _ h => h) (Or.inl ⟨by rfl, ?_⟩) (by exact hHeld) ?_
      rotate_left
      · intro w hSw; go_simp; try with_reducible rfl
      try simp only [Act.put]
      try simp only [List.setIfInBounds_toArray]
      try simp only [List.set]
      refine wpAnyH_take (i := 2) (oi := { dst := some 21, op := Go.Op.fieldAddr 100 (Go.Operand.tmp 20) 0, type := 0, pos := _, after := _, guard := _ }) (v := ?_) rfl (by kernel_rfl) (by kernel_rfl) (by kernel_rfl) (fun _ _ _ h => h) (Or.inl ⟨by rfl, ?_⟩) (by exact hHeld) ?_
      rotate_left
      · intro w hSw; go_simp; try with_reducible rfl
      try simp only [Act.put]
      try simp only [List.setIfInBounds_toArray]
      try simp only [List.set]
      refine wpAnyH_take (i := 3) (oi := { dst := some 22, op := Go.Op.load 22 (Go.Operand.tmp 21), type := 22, pos := _, after := _, guard := _ }) (v := ?_) rfl (by kernel_rfl) (by kernel_rfl) (by kernel_rfl) (fun _ _ _ h => h) (Or.inl ⟨by rfl, ?_⟩) (by exact hHeld) ?_
      rotate_left
      · intro w hSw; obtain ⟨y0, y1, y2⟩ := hSw.2.cells; obtain ⟨c0, c1, c2, f1, f2⟩ := hSw.1.pk.cells; go_simp; try with_reducible rfl
      try simp only [Act.put]
      try simp only [List.setIfInBounds_toArray]
      try simp only [List.set]
      refine wpAnyH_take (i := 4) (oi := { dst := some 23, op := Go.Op.fieldAddr 57 (Go.Operand.tmp 7) 0, type := 0, pos := _, after := _, guard := _ }) (v := ?_) rfl (by kernel_rfl) (by kernel_rfl) (by kernel_rfl) (fun _ _ _ h => h) (Or.inl ⟨by rfl, ?_⟩) (by exact hHeld) ?_
      rotate_left
      · intro w hSw; go_simp; try with_reducible rfl
      try simp only [Act.put]
      try simp only [List.setIfInBounds_toArray]
      try simp only [List.set]
      refine wpAnyH_take (i := 5) (oi := { dst := some 24, op := Go.Op.load 28 (Go.Operand.tmp 23), type := 28, pos := _, after := _, guard := _ }) (v := ?_) rfl (by kernel_rfl) (by kernel_rfl) (by kernel_rfl) (fun _ _ _ h => h) (Or.inl ⟨by rfl, ?_⟩) (by exact hHeld) ?_
      rotate_left
      · intro w hSw; obtain ⟨y0, y1, y2⟩ := hSw.2.cells; obtain ⟨c0, c1, c2, f1, f2⟩ := hSw.1.pk.cells; go_simp; try with_reducible rfl
      try simp only [Act.put]
      try simp only [List.setIfInBounds_toArray]
      try simp only [List.set]
      refine wpAnyH_ready (rs := [6]) (by kernel_rfl) (by simp) ?_
      refine AllReadyH.cons (o := { dst := some 25, op := Go.Op.call { callee := Go.Callee.value (Go.Operand.func 27), args := #[Go.Operand.tmp 22, Go.Operand.tmp 24], argTypes := #[22, 28] }, type := 40, pos := _, after := _, guard := _ }) rfl (fun K hK => ?_) AllReadyH.nil
      go_simp
      go_at_call 27
      refine (HFN.out _ hHeld.1).mono ?_
      rintro e w6 ⟨rfl, a6⟩
      have hS2 := And.intro (hHeld.1.aft a6) (hHeld.2.aft a6)
      clear hHeld
      refine hK.out _ _ hS2 (fun hHeld => ?_)
      clear hK K hS2
      try simp only [Act.put]
      try simp only [List.setIfInBounds_toArray]
      try simp only [List.set]
      refine wpAnyH_take (i := 7) (oi := { dst := some 18, op := Go.Op.move (Go.Operand.tmp 25), type := 40, pos := _, after := _, guard := _ }) (v := ?_) rfl (by kernel_rfl) (by kernel_rfl) (by kernel_rfl) (fun _ _ _ h => h) (Or.inl ⟨by rfl, ?_⟩) (by exact hHeld) ?_
      rotate_left
      · intro w hSw; go_simp; try with_reducible rfl
      try simp only [Act.put]
      try simp only [List.setIfInBounds_toArray]
      try simp only [List.set]
      refine wpAnyH_take (i := 8) (oi := { dst := some 26, op := Go.Op.extract (Go.Operand.tmp 18) 0, type := 3, pos := _, after := _, guard := _ }) (v := ?_) rfl (by kernel_rfl) (by kernel_rfl) (by kernel_rfl) (fun _ _ _ h => h) (Or.inl ⟨by rfl, ?_⟩) (by exact hHeld) ?_
      rotate_left
      · intro w hSw; go_simp; try with_reducible rfl
      try simp only [Act.put]
      try simp only [List.setIfInBounds_toArray]
      try simp only [List.set]
      refine wpAnyH_take (i := 10) (oi := { dst := some 8, op := Go.Op.assign (Go.Operand.tmp 26), type := 3, pos := _, after := _, guard := _ }) (v := ?_) rfl (by kernel_rfl) (by kernel_rfl) (by kernel_rfl) (fun _ _ _ h => h) (Or.inl ⟨by rfl, ?_⟩) (by exact hHeld) ?_
      rotate_left
      · intro w hSw; go_simp; try with_reducible rfl
      try simp only [Act.put]
      try simp only [List.setIfInBounds_toArray]
      try simp only [List.set]
      refine wpAnyH_take (i := 9) (oi := { dst := some 27, op := Go.Op.extract (Go.Operand.tmp 18) 1, type := 4, pos := _, after := _, guard := _ }) (v := ?_) rfl (by kernel_rfl) (by kernel_rfl) (by kernel_rfl) (fun _ _ _ h => h) (Or.inl ⟨by rfl, ?_⟩) (by exact hHeld) ?_
      rotate_left
      · intro w hSw; go_simp; try with_reducible rfl
      try simp only [Act.put]
      try simp only [List.setIfInBounds_toArray]
      try simp only [List.set]
      refine wpAnyH_take (i := 11) (oi := { dst := some 9, op := Go.Op.assign (Go.Operand.tmp 27), type := 4, pos := _, after := _, guard := _ }) (v := ?_) rfl (by kernel_rfl) (by kernel_rfl) (by kernel_rfl) (fun _ _ _ h => h) (Or.inl ⟨by rfl, ?_⟩) (by exact hHeld) ?_
      rotate_left
      · intro w hSw; go_simp; try with_reducible rfl
      try simp only [Act.put]
      try simp only [List.setIfInBounds_toArray]
      try simp only [List.set]
      refine wpAnyH_done (by kernel_rfl) ?_ _
      have HI6 := Lib.hid hHeld.1
      have HR6 := Lib.hid hHeld.2
      clear hHeld A5 D5 HW4 HRR HFN
      clear a6
      have hbl : bytes.length ≤ 600000000 := by have := HLN.out; have := HTK.out; have := HSM.out; omega
      obtain ⟨y0, y1, y2⟩ := HR6.out.cells
      by_cases hA : q2 = true ∧ how ≠ 3
      · have HRW2 : Hid (rowB most l' ⟨(n, x), how⟩ = (pintL 7 128 fi, l')) := Lib.hid (by unfold rowB; rw [HQ.out, if_pos hA]; rfl)
        obtain ⟨rfl, h3⟩ := hA
        have h3b : (how != 3) = true := by simpa using h3
        go_wp2_with fail
        refine (put_any u5 bytes 7 128 fi w6 HI6.out.own.rb (by omega) (by unfold PreOk; simp) hfi2).mono ?_
        rintro e w7 ⟨v7, rfl, o7, a7⟩
        have HI7 := Lib.hid (HI6.out.put a7 o7)
        clear o7 a7 y0 y1 y2
        go_wp2_with fail
        go_roundw
        case rel => exact ⟨k + 1, _, _, vo', by omega, by go_num, Lib.hid (by rw [HST.out, HRW2.out]), Lib.hid (by rw [HST2.out]; have h1 := HLN.out; have h2 := HRB.out; rw [HRW2.out] at h2; rw [List.length_append]; simp only at h2 ⊢; omega), Lib.hid (by have h3 := HRT.out; rw [HRW2.out] at h3; exact h3), HI7⟩
        case measure => simp [intOf]; omega
      by_cases hB1 : how = 1
      · have hq2 : q2 = false := by cases q2 <;> simp_all
        have HRW2 : Hid (rowB most l' ⟨(n, x), how⟩ = (writL fi 6 64 n x, addF most (n, x) l')) := Lib.hid (by unfold rowB; rw [HQ.out, if_neg hA, if_pos hB1]; rfl)
        subst hq2 hB1
        clear hA
        go_wp2_with fail
        refine (written_any u5 bytes fi 6 64 ⟨n.toArray⟩ ⟨x.toArray⟩ w6 HI6.out.own.rb hbl hfi2 (by unfold PreOk; simp) (by rw [z1]; omega) (by rw [z2]; omega)).mono ?_
        rintro e w7 ⟨v7, rfl, o7, a7⟩
        have HI7 := Lib.hid (HI6.out.put a7 o7)
        have HR7 := Lib.hid (HR6.out.aft a7)
        clear o7 a7 y0 y1 y2
        have HTA := Lib.hid (fun (w' : World) (h : BlkI w w' B gp g vo vk most least v7 (bytes ++ writL fi 6 64 n x) l' vo') => add_any (n, x) h.pk.t HTS.out HM.out.1 HM.out.2 (by unfold fsize; simp only; omega) (Nat.le_trans HBW.out h.chg.size))
        have HJ : Hid (∀ w', (BlkI w w' B gp g vo vk most least v7 (bytes ++ writL fi 6 64 n x) l' vo' ∧ RB3 w' gr ⟨n.toArray⟩ ⟨x.toArray⟩ 1) ∨ (∃ vo2, BlkI w w' B gp g vo vk most least v7 (bytes ++ writL fi 6 64 n x) (addF most (n, x) l') vo2) → True) := Lib.hid (fun _ _ => trivial)
        clear HJ
        go_upto_region 11 with fail
        have HI8 := Lib.hid (HI7.out.aft ((Aft.refl w7).drew))
        have HR8 := Lib.hid (HR7.out.aft ((Aft.refl w7).drew))
        obtain ⟨y0, y1, y2⟩ := HR8.out.cells
        obtain ⟨c0, c1, c2, f1, f2⟩ := HI8.out.pk.cells
        clear HI7 HR7
        refine wp_region_held_drew (S := fun _ => True) (by kernel_rfl) trivial (fun hHeld => ?_)
        generalize w7.drew = W8 at y0 y1 y2 c0 c1 c2 f1 f2 HI8 HR8 ⊢
        refine wpAnyH_take (i := 0) (oi := { dst := some 52, op := Go.Op.move (Go.Operand.tmp 0), type := 51, pos := _, after := _, guard := _ }) (v := ?_) rfl (by kernel_rfl) (by kernel_rfl) (by kernel_rfl) (fun _ _ _ h => h) (Or.inl ⟨by rfl, ?_⟩) trivial ?_
        rotate_left
        · intro w hSw; go_simp; try with_reducible rfl
        try simp only [Act.put]
        try simp only [List.setIfInBounds_toArray]
        try simp only [List.set]
        refine wpAnyH_take (i := 1) (oi := { dst := some 53, op := Go.Op.nilCheck (Go.Operand.tmp 52), type := 0, pos := _, after := _, guard := _ }) (v := ?_) rfl (by kernel_rfl) (by kernel_rfl) (by kernel_rfl) (fun _ _ _ h => h) (Or.inl ⟨by rfl, ?_⟩) trivial ?_
        rotate_left
        · intro w hSw; go_simp; try with_reducible rfl
        try simp only [Act.put]
        try simp only [List.setIfInBounds_toArray]
        try simp only [List.set]
        refine wpAnyH_take (i := 2) (oi := { dst := some 54, op := Go.Op.fieldAddr 100 (Go.Operand.tmp 53) 0, type := 0, pos := _, after := _, guard := _ }) (v := ?_) rfl (by kernel_rfl) (by kernel_rfl) (by kernel_rfl) (fun _ _ _ h => h) (Or.inl ⟨by rfl, ?_⟩) trivial ?_
        rotate_left
        · intro w hSw; go_simp; try with_reducible rfl
        try simp only [Act.put]
        try simp only [List.setIfInBounds_toArray]
        try simp only [List.set]
        refine wpAnyH_take (i := 4) (oi := { dst := some 56, op := Go.Op.fieldAddr 57 (Go.Operand.tmp 7) 0, type := 0, pos := _, after := _, guard := _ }) (v := ?_) rfl (by kernel_rfl) (by kernel_rfl) (by kernel_rfl) (fun _ _ _ h => h) (Or.inl ⟨by rfl, ?_⟩) trivial ?_
        rotate_left
        · intro w hSw; go_simp; try with_reducible rfl
        try simp only [Act.put]
        try simp only [List.setIfInBounds_toArray]
        try simp only [List.set]
        refine wpAnyH_ready (rs := [3, 5]) (by kernel_rfl) (by simp) ?_
        refine (AllReadyH.cons (o := { dst := some 55, op := Go.Op.load 22 (Go.Operand.tmp 54), type := 22, pos := _, after := _, guard := _ }) rfl (fun K hK => ?_) (AllReadyH.cons (o := { dst := some 57, op := Go.Op.load 28 (Go.Operand.tmp 56), type := 28, pos := _, after := _, guard := _ }) rfl (fun K hK => ?_) AllReadyH.nil))
        focus
          go_simp
          skip
          refine hK.out _ _ trivial (fun hHeld => ?_)
          clear hK K
          try simp only [Act.put]
          try simp only [List.setIfInBounds_toArray]
          try simp only [List.set]
          refine wpAnyH_ready (rs := [5]) (by kernel_rfl) (by simp) ?_
          refine (AllReadyH.cons (o := { dst := some 57, op := Go.Op.load 28 (Go.Operand.tmp 56), type := 28, pos := _, after := _, guard := _ }) rfl (fun K hK => ?_) AllReadyH.nil)
          go_simp
          skip
          refine hK.out _ _ trivial (fun hHeld => ?_)
          clear hK K
          try simp only [Act.put]
          try simp only [List.setIfInBounds_toArray]
          try simp only [List.set]
          refine wpAnyH_ready (rs := [6]) (by kernel_rfl) (by simp) ?_
          refine (AllReadyH.cons (o := { dst := some 58, op := Go.Op.call { callee := Go.Callee.value (Go.Operand.func 19), args := #[Go.Operand.tmp 55, Go.Operand.tmp 57], argTypes := #[22, 28] }, type := 0, pos := _, after := _, guard := _ }) rfl (fun K hK => ?_) AllReadyH.nil)
          go_simp
          go_at_call 19
          refine (HTA.out _ HI8.out).mono ?_
          rintro e w9 ⟨rfl, vo2, ht, hc, ho⟩
          have HI9 := Lib.hid (HI8.out.add ht hc ho)
          clear ht hc ho y0 y1 y2 c0 c1 c2 f1 f2
          refine hK.out _ _ trivial (fun hHeld => ?_)
          clear hK K
          try simp only [Act.put]
          try simp only [List.setIfInBounds_toArray]
          try simp only [List.set]
          refine wpAnyH_done (by kernel_rfl) ?_ _
        rotate_left 1
        focus
          go_simp
          skip
          refine hK.out _ _ trivial (fun hHeld => ?_)
          clear hK K
          try simp only [Act.put]
          try simp only [List.setIfInBounds_toArray]
          try simp only [List.set]
          refine wpAnyH_ready (rs := [3]) (by kernel_rfl) (by simp) ?_
          refine (AllReadyH.cons (o := { dst := some 55, op := Go.Op.load 22 (Go.Operand.tmp 54), type := 22, pos := _, after := _, guard := _ }) rfl (fun K hK => ?_) AllReadyH.nil)
          go_simp
          skip
          refine hK.out _ _ trivial (fun hHeld => ?_)
          clear hK K
          try simp only [Act.put]
          try simp only [List.setIfInBounds_toArray]
          try simp only [List.set]
          refine wpAnyH_ready (rs := [6]) (by kernel_rfl) (by simp) ?_
          refine (AllReadyH.cons (o := { dst := some 58, op := Go.Op.call { callee := Go.Callee.value (Go.Operand.func 19), args := #[Go.Operand.tmp 55, Go.Operand.tmp 57], argTypes := #[22, 28] }, type := 0, pos := _, after := _, guard := _ }) rfl (fun K hK => ?_) AllReadyH.nil)
          go_simp
          go_at_call 19
          refine (HTA.out _ HI8.out).mono ?_
          rintro e w9 ⟨rfl, vo2, ht, hc, ho⟩
          have HI9 := Lib.hid (HI8.out.add ht hc ho)
          clear ht hc ho y0 y1 y2 c0 c1 c2 f1 f2
          refine hK.out _ _ trivial (fun hHeld => ?_)
          clear hK K
          try simp only [Act.put]
          try simp only [List.setIfInBounds_toArray]
          try simp only [List.set]
          refine wpAnyH_done (by kernel_rfl) ?_ _
        rotate_left 1
        all_goals
          clear HI8 HR8 HTA
          go_wp2_with fail
          go_roundw
          case rel => exact ⟨k + 1, _, _, vo2, by omega, by go_num, Lib.hid (by rw [HST.out, HRW2.out]), Lib.hid (by rw [HST2.out]; have h1 := HLN.out; have h2 := HRB.out; rw [HRW2.out] at h2; rw [List.length_append]; simp only at h2 ⊢; omega), Lib.hid (by have h3 := HRT.out; rw [HRW2.out] at h3; exact h3), HI9⟩
          case measure => simp [intOf]; omega
      by_cases hC : how = 3
      · have HRW2 : Hid (rowB most l' ⟨(n, x), how⟩ = (writL fi 4 16 n x, l')) := Lib.hid (by unfold rowB; rw [HQ.out, if_neg hA, if_neg hB1, if_pos hC]; rfl)
        subst hC
        clear hA hB1
        cases q2
        all_goals
          go_wp2_with fail
          refine (written_any u5 bytes fi 4 16 ⟨n.toArray⟩ ⟨x.toArray⟩ w6 HI6.out.own.rb hbl hfi2 (by unfold PreOk; simp) (by rw [z1]; omega) (by rw [z2]; omega)).mono ?_
          rintro e w7 ⟨v7, rfl, o7, a7⟩
          have HI7 := Lib.hid (HI6.out.put a7 o7)
          have HR7 := Lib.hid (HR6.out.aft a7)
          clear o7 a7 y0 y1 y2
          go_wp2_with fail
          go_roundw
          case rel => exact ⟨k + 1, _, _, vo', by omega, by go_num, Lib.hid (by rw [HST.out, HRW2.out]), Lib.hid (by rw [HST2.out]; have h1 := HLN.out; have h2 := HRB.out; rw [HRW2.out] at h2; rw [List.length_append]; simp only at h2 ⊢; omega), Lib.hid (by have h3 := HRT.out; rw [HRW2.out] at h3; exact h3), HI7⟩
          case measure => simp [intOf]; omega
      · have hq2 : q2 = false := by cases q2 <;> simp_all
        have HRW2 : Hid (rowB most l' ⟨(n, x), how⟩ = (writL fi 4 0 n x, l')) := Lib.hid (by unfold rowB; rw [HQ.out, if_neg hA, if_neg hB1, if_neg hC]; rfl)
        subst hq2
        have b1 : (how == 1) = false := by simpa using hB1
        have b3 : (how == 3) = false := by simpa using hC
        clear hA
        go_wp2_with fail
        refine (written_any u5 bytes fi 4 0 ⟨n.toArray⟩ ⟨x.toArray⟩ w6 HI6.out.own.rb hbl hfi2 (by unfold PreOk; simp) (by rw [z1]; omega) (by rw [z2]; omega)).mono ?_
        rintro e w7 ⟨v7, rfl, o7, a7⟩
        have HI7 := Lib.hid (HI6.out.put a7 o7)
        have HR7 := Lib.hid (HR6.out.aft a7)
        clear o7 a7 y0 y1 y2
        go_wp2_with fail
        go_roundw
        case rel => exact ⟨k + 1, _, _, vo', by omega, by go_num, Lib.hid (by rw [HST.out, HRW2.out]), Lib.hid (by rw [HST2.out]; have h1 := HLN.out; have h2 := HRB.out; rw [HRW2.out] at h2; rw [List.length_append]; simp only at h2 ⊢; omega), Lib.hid (by have h3 := HRT.out; rw [HRW2.out] at h3; exact h3), HI7⟩
        case measure => simp [intOf]; omega
    · have hkk : rows.take k = rows := List.take_of_length_le (by omega)
      rw [hkk] at HE
      have i1 : ¬ (k : Int) < (rows.length : Int) := by omega
      clear hkk
      go_wp2_with fail
      go_ret
      refine ⟨_, rfl, vo', ?_⟩
      rw [HE.out]
      exact HI.out

end Go.Proofs.YtmlnboibclfmcaaDoor
