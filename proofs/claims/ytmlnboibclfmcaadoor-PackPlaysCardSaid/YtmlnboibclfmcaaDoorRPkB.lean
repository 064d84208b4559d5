/-
  The reference's Size and put. The reference's packer in memory: Resize. The walk of the reference's packer's Block.
-/
import Derived.Test.YtmlnboibclfmcaaDoorPackBlk
import Derived.Test.YtmlnboibclfmcaaDoorRPint
import Derived.Test.YtmlnboibclfmcaaDoorHuffREnc
import Derived.Test.YtmlnboibclfmcaaDoorRTbl4
import Derived.Test.YtmlnboibclfmcaaDoorHuffSz
namespace Go.Proofs.YtmlnboibclfmcaaDoor
open Go.RowKit
set_option linter.unusedVariables false

set_option maxHeartbeats 400000 in
theorem rhsize_any (s : ByteArray) (hs : s.size ≤ 100000000000000000) (w : World) :
    Calls Tryd.prog 79 #[.string s] w fun e w' => e = .returned (.int .i64 (sizeF s.data.toList)) ∧ Aft w w' := by
  go_enter Tryd.func79, Tryd.ntmps79
  go_wp2_with fail
  go_loopw [3, 4] (fun v c wr => ∃ k : Nat, k ≤ s.size ∧ c = .int .i64 (k : Int) ∧ v = .int .i64 (sizeSum (s.data.toList.take k)) ∧ Aft w wr) (fun _ c _ => s.size - (intOf c).toNat)
  case atStart => exact ⟨0, by omega, by go_num, by simp [sizeSum], Aft.refl _⟩
  case round =>
    obtain ⟨k, hk, rfl, rfl, haft⟩ := hrel
    have hsb := sizeSum_bd (s.data.toList.take k)
    have hln : (s.data.toList.take k).length = k := by rw [List.length_take, size_len]; omega
    rw [hln] at hsb
    clear hln
    by_cases hlt : k < s.size
    · have hkl : k < s.data.toList.length := by rw [size_len]; exact hlt
      have hsn : sizeSum (s.data.toList.take (k + 1)) = sizeSum (s.data.toList.take k) + Hp.lenF (s[k].toNat : Int) := by
        rw [List.take_succ_eq_append_getElem hkl, sizeSum_snoc]
        rfl
      have HS := Lib.hid hsn
      clear hsn
      generalize sizeSum (s.data.toList.take k) = S at *
      go_wp2_with (go_at_call 93; refine (len_byteW _ _).mono ?_; rintro e w1 ⟨l, HL, l0, l1, rfl, ha⟩)
      go_roundw
      case rel => exact ⟨k + 1, by omega, by go_num, by rw [HS.out, HL.out], haft.trans ha⟩
      case measure => simp [intOf]; omega
    · have hkk : s.data.toList.take k = s.data.toList := List.take_of_length_le (by rw [size_len]; omega)
      rw [hkk] at hsb
      rw [hkk]
      clear hkk
      go_wp2_with fail
      go_ret
      exact ⟨rfl, haft⟩

set_option maxHeartbeats 4000000 in
set_option maxRecDepth 100000 in
theorem rtext_any (v0 : Value) (l : List UInt8) (s : ByteArray) (w : World) (hr : Rb w v0 l) (hl : l.length ≤ 900000000) (hs : s.size ≤ 100000000) :
    Calls Tryd.prog 67 #[v0, .string s] w fun e w' => ∃ v', e = .returned v' ∧ Own w' w.heap.size v' (l ++ textL s.data.toList) ∧ Aft w w' := by
  have HSZ := Lib.hid (fun w => rhsize_any s (by omega) w)
  have HEN := Lib.hid (fun w => renc_any s w (by omega))
  have h0 := sizeF_nn s.data.toList
  have hsl := size_len s
  obtain ⟨n, hn⟩ := Int.eq_ofNat_of_zero_le h0
  have hen := sizeF_len s.data.toList
  rw [hn] at hen
  obtain ⟨E, hE⟩ : ∃ E, encF s.data.toList = E := ⟨_, rfl⟩
  rw [hE] at HEN hen
  by_cases hlt : n < s.size
  · have HT : Hid (textL s.data.toList = pintL 7 128 n ++ E) := Lib.hid (by unfold textL; rw [if_pos (by rw [hn, hsl]; omega), hn, hE]; rfl)
    rw [hn] at HSZ
    have hp := pintL_len 7 128 n
    have HPT := Lib.hid (fun w h => rput_any v0 l 7 128 n w h (by omega) (Or.inl ⟨rfl, rfl⟩) (by omega))
    have i1 : (n : Int) < (s.size : Int) := by omega
    have HR := Lib.hid hr
    have hpl : (l ++ pintL 7 128 n).length ≤ 900000006 := by rw [List.length_append]; omega
    have hen2 : E.length ≤ 100000000 := by omega
    generalize pintL 7 128 n = P at HT HPT hpl hp
    clear hr hn hE h0 hsl hlt hen
    go_enter Tryd.func67, Tryd.ntmps67
    go_wp2_with fail
    refine (HSZ.out _).mono ?_
    rintro e w1 ⟨rfl, a1⟩
    go_wp2_with fail
    refine (HPT.out _ (HR.out.aft a1)).mono ?_
    rintro e w2 ⟨v2, rfl, o2, a2⟩
    go_wp2_with fail
    refine (HEN.out _).mono ?_
    rintro e w3 ⟨v3, rfl, o3, a3⟩
    have HO2 := Lib.hid ((o2.aft a3).base a1.to.size)
    have HR3 := Lib.hid o3.rb
    have HA3 := Lib.hid ((a1.trans a2).trans a3)
    clear o2 a1 a2 o3 a3
    go_wp2_with (refine wpList_pushes rfl (.tmp 14) (.tmp 16) rfl w.heap.size _ _ (l ++ P) E rfl HO2.out rfl HR3.out (by omega) HA3.out.to.size ?_; intro v4 w4 o4 g4)
    go_ret
    refine ⟨_, rfl, ?_, push_below HA3.out.to HO2.out g4 (Nat.le_refl _) HA3.out.to.size⟩
    rw [HT.out, ← List.append_assoc]
    exact o4
  · have HT : Hid (textL s.data.toList = pintL 7 0 s.size ++ s.data.toList) := Lib.hid (by unfold textL; rw [if_neg (by rw [hn, hsl]; omega), hsl])
    rw [hn] at HSZ
    have hp := pintL_len 7 0 s.size
    have HPT := Lib.hid (fun w h => rput_any v0 l 7 0 s.size w h (by omega) (Or.inr (Or.inl ⟨rfl, rfl⟩)) (by omega))
    have i1 : ¬ (n : Int) < (s.size : Int) := by omega
    have HR := Lib.hid hr
    have hpl : (l ++ pintL 7 0 s.size).length ≤ 900000006 := by rw [List.length_append]; omega
    generalize pintL 7 0 s.size = P at HT HPT hpl hp
    clear hr hn hE h0 hsl hlt HEN hen
    go_enter Tryd.func67, Tryd.ntmps67
    go_wp2_with fail
    refine (HSZ.out _).mono ?_
    rintro e w1 ⟨rfl, a1⟩
    go_wp2_with fail
    refine (HPT.out _ (HR.out.aft a1)).mono ?_
    rintro e w2 ⟨v2, rfl, o2, a2⟩
    have HO2 := Lib.hid (o2.base a1.to.size)
    have HA2 := Lib.hid (a1.trans a2)
    clear o2 a1 a2
    go_wp2_with (refine wpList_pushTx rfl (.tmp 21) (.tmp 22) rfl w.heap.size _ (l ++ P) s rfl HO2.out rfl (by omega) HA2.out.to.size ?_; intro v4 w4 o4 g4)
    go_ret
    refine ⟨_, rfl, ?_, push_below HA2.out.to HO2.out g4 (Nat.le_refl _) HA2.out.to.size⟩
    rw [HT.out, ← List.append_assoc]
    exact o4

end Go.Proofs.YtmlnboibclfmcaaDoor
namespace Go.Proofs.YtmlnboibclfmcaaDoor
open Go.RowKit
set_option linter.unusedVariables false

structure RPk (w : World) (B gp g : Nat) (vo : Value) (l : List FieldL) (m rl rn : Int) : Prop where
  t : RTab w B g vo l m
  p : w.heap[gp]? = some (.cells #[.pointer (some ⟨g, 0, none⟩), .int .i64 rl, .int .i64 rn] 66 (0, 0))
  pB : B ≤ gp
theorem RPk.lt {w : World} {B gp g : Nat} {vo : Value} {l : List FieldL} {m rl rn : Int} (h : RPk w B gp g vo l m rl rn) : gp < w.heap.size := by
  rcases Nat.lt_or_ge gp w.heap.size with h1 | h1
  · exact h1
  · have := h.p; rw [Array.getElem?_eq_none h1] at this; cases this
theorem RPk.ne {w : World} {B gp g : Nat} {vo : Value} {l : List FieldL} {m rl rn : Int} (h : RPk w B gp g vo l m rl rn) : gp ≠ g ∧ vo.ownBlock ≠ some gp := by
  refine ⟨fun e => ?_, fun e => ?_⟩
  · have h1 := h.t.blk
    rw [← e, h.p] at h1
    injection h1 with h1
    injection h1 with _ h1
    exact absurd h1 (by decide)
  · obtain ⟨cur, h1⟩ := h.t.own.blk e
    rw [h.p] at h1
    injection h1 with h1
    injection h1 with _ h1
    exact absurd h1 (by decide)
theorem RPk.chg {p : Nat → Prop} {w w' : World} {B gp g : Nat} {vo : Value} {l : List FieldL} {m rl rn : Int} (h : RPk w B gp g vo l m rl rn) (hc : Chg p w w') (hgp : ¬ p gp) (hg : ¬ p g) (ho : ∀ k, vo.ownBlock = some k → ¬ p k) : RPk w' B gp g vo l m rl rn :=
  ⟨h.t.chg hc hg ho, (hc.block gp h.lt hgp).trans h.p, h.pB⟩
theorem RPk.aft {w w' : World} {B gp g : Nat} {vo : Value} {l : List FieldL} {m rl rn : Int} (h : RPk w B gp g vo l m rl rn) (ha : Aft w w') : RPk w' B gp g vo l m rl rn :=
  h.chg (Chg.of_aft (p := fun _ => False) ha) (fun h => h) (fun h => h) (fun _ _ h => h)
theorem RPk.tab {w w' : World} {B gp g : Nat} {vo : Value} {l : List FieldL} {m rl rn : Int} (h : RPk w B gp g vo l m rl rn) {vo' : Value} {l' : List FieldL} {m' : Int} (ht : RTab w' B g vo' l' m') (hc : Chg (TP g vo) w w') : RPk w' B gp g vo' l' m' rl rn :=
  ⟨ht, (hc.block gp h.lt (fun e => by
    obtain ⟨h1, h2⟩ := h.ne
    rcases e with e | e
    · exact h1 e
    · exact h2 e)).trans h.p, h.pB⟩
theorem RPk.cells {w : World} {B gp g : Nat} {vo : Value} {l : List FieldL} {m rl rn : Int} (h : RPk w B gp g vo l m rl rn) :
    w.cell? ⟨gp, 0, none⟩ = some (.pointer (some ⟨g, 0, none⟩)) ∧ w.cell? ⟨gp, 1, none⟩ = some (.int .i64 rl) ∧ w.cell? ⟨gp, 2, none⟩ = some (.int .i64 rn) ∧ w.frozen? ⟨gp, 1, none⟩ = false ∧ w.frozen? ⟨gp, 2, none⟩ = false := by
  refine ⟨?_, ?_, ?_, frozen_of_row w gp _ _ _ h.p, frozen_of_row w gp _ _ _ h.p⟩
  all_goals rw [cell_of_row w gp _ _ _ (0, 0) h.p]; rfl
theorem RTab.far {w : World} {B g : Nat} {vo : Value} {l : List FieldL} {m : Int} (h : RTab w B g vo l m) (gp o : Nat) (v : Value) (h1 : gp ≠ g) (h2 : vo.ownBlock ≠ some gp) : RTab (w.setCell ⟨gp, o, none⟩ v) B g vo l m :=
  h.chg ((Chg.refl (fun k => k = gp) w).set gp o v (Or.inl rfl)) (fun e => h1 e.symm) (fun k hk e => h2 (by rw [hk, e]))
theorem RPk.put1 {w : World} {B gp g : Nat} {vo : Value} {l : List FieldL} {m rl rn : Int} (h : RPk w B gp g vo l m rl rn) (n : Int) : RPk (w.setCell ⟨gp, 1, none⟩ (.int .i64 n)) B gp g vo l m n rn := by
  obtain ⟨h1, h2⟩ := h.ne
  refine ⟨h.t.far gp 1 _ h1 h2, ?_, h.pB⟩
  rw [heap_setCell_same w gp 1 _ _ _ h.p]
  rfl
theorem RPk.put2 {w : World} {B gp g : Nat} {vo : Value} {l : List FieldL} {m rl rn : Int} (h : RPk w B gp g vo l m rl rn) (n : Int) : RPk (w.setCell ⟨gp, 2, none⟩ (.int .i64 n)) B gp g vo l m rl n := by
  obtain ⟨h1, h2⟩ := h.ne
  refine ⟨h.t.far gp 2 _ h1 h2, ?_, h.pB⟩
  rw [heap_setCell_same w gp 2 _ _ _ h.p]
  rfl
theorem Own.rpk {w : World} {base B gp g : Nat} {v vo : Value} {b : List UInt8} {l : List FieldL} {m rl rn : Int} (ho : Own w base v b) (h : RPk w B gp g vo l m rl rn) : ∀ k, v.ownBlock = some k → ¬ PP gp g vo k := by
  intro k hk hp
  have hb : ∃ cur, w.heap[k]? = some (.cells cur 5 (0, 0)) := by
    rcases ho.2 with ⟨rfl, _⟩ | ⟨g', cap, cur, rfl, _, h1, _⟩
    · cases hk
    · injection hk with hk
      rw [← hk]
      exact ⟨cur, h1⟩
  obtain ⟨cur, hb⟩ := hb
  rcases hp with rfl | rfl | hp
  · rw [h.p] at hb
    injection hb with hb
    injection hb with _ hb
    exact absurd hb (by decide)
  · rw [h.t.blk] at hb
    injection hb with hb
    injection hb with _ hb
    exact absurd hb (by decide)
  · obtain ⟨cur2, h2⟩ := h.t.own.blk hp
    rw [h2] at hb
    injection hb with hb
    injection hb with _ hb
    exact absurd hb (by decide)

set_option maxHeartbeats 2000000 in
theorem rpresize_no {w : World} {B gp g : Nat} {vo : Value} {l : List FieldL} {m rl rn : Int} (n : Int) (hn : ¬ (0 ≤ n ∧ n ≤ 65536)) (h : RPk w B gp g vo l m rl rn) :
    Calls Tryd.prog 41 #[.pointer (some ⟨gp, 0, none⟩), .int .i64 n] w fun e w' => e = .returned (.int .i64 1) ∧ w = w' := by
  have HR := Lib.hid (rresize_no (w := w) (g := g) n hn)
  obtain ⟨c0, c1, c2, f1, f2⟩ := h.cells
  clear hn h
  go_enter Tryd.func41, Tryd.ntmps41
  go_wp2_with fail
  refine HR.out.mono ?_
  rintro e w1 ⟨rfl, rfl⟩
  go_wp2_with fail
  go_ret
  exact ⟨rfl, rfl⟩
def rleastN (rl n : Int) : Int := if rl < 0 ∨ n < rl then n else rl
set_option maxHeartbeats 4000000 in
theorem rpresize_yes {w : World} {B gp g : Nat} {vo : Value} {l : List FieldL} {m rl rn : Int} (n : Int) (h : RPk w B gp g vo l m rl rn) (hs : sumF l ≤ 1000000000000) (hn0 : 0 ≤ n) (hn1 : n ≤ 65536) :
    Calls Tryd.prog 41 #[.pointer (some ⟨gp, 0, none⟩), .int .i64 n] w fun e w' => e = .returned (.int .i64 0) ∧ ∃ vo', RPk w' B gp g vo' (fitF n l) n (rleastN rl n) n ∧ Chg (PP gp g vo) w w' ∧ ∀ k, vo'.ownBlock = some k → vo.ownBlock = some k := by
  have HR := Lib.hid (rresize_yes n h.t hs hn0 hn1)
  have H := Lib.hid h
  obtain ⟨c0, c1, c2, f1, f2⟩ := h.cells
  obtain ⟨L, hL⟩ : ∃ L, rleastN rl n = L := ⟨_, rfl⟩
  rw [hL]
  have HL := Lib.hid hL
  clear h hs hL
  go_enter Tryd.func41, Tryd.ntmps41
  go_wp2_with fail
  refine HR.out.mono ?_
  rintro e w1 ⟨rfl, vo', ht, hc, ho⟩
  have HP1 := Lib.hid (H.out.tab ht (hc.mono (fun i hi => Or.inl hi)))
  have HC := Lib.hid (hc.mono (q := PP gp g vo) (fun i hi => Or.inr (Or.inl hi)))
  have HO := Lib.hid ho
  clear c0 c1 c2 f1 f2 ht hc ho HR
  obtain ⟨c0, c1, c2, f1, f2⟩ := HP1.out.cells
  have HP2 := Lib.hid ((HP1.out.put1 n).put2 n)
  have HP3 := Lib.hid (HP1.out.put2 n)
  obtain ⟨d0, d1, d2, e1, e2⟩ := (HP1.out.put1 n).cells
  have HC2 := Lib.hid ((HC.out.set gp 1 (.int .i64 n) (Or.inl (Or.inl rfl))).set gp 2 (.int .i64 n) (Or.inl (Or.inl rfl)))
  have HC3 := Lib.hid (HC.out.set gp 2 (.int .i64 n) (Or.inl (Or.inl rfl)))
  clear HC HP1 H
  by_cases hz : rl < 0
  · have HL2 : Hid (L = n) := Lib.hid (by rw [← HL.out]; unfold rleastN; rw [if_pos (Or.inl hz)])
    go_wp2_with fail
    go_ret
    refine ⟨rfl, vo', ?_, HC2.out, HO.out⟩
    rw [HL2.out]
    exact HP2.out
  · by_cases hlt : n < rl
    · have HL2 : Hid (L = n) := Lib.hid (by rw [← HL.out]; unfold rleastN; rw [if_pos (Or.inr hlt)])
      go_wp2_with fail
      go_ret
      refine ⟨rfl, vo', ?_, HC2.out, HO.out⟩
      rw [HL2.out]
      exact HP2.out
    · have HL2 : Hid (L = rl) := Lib.hid (by rw [← HL.out]; unfold rleastN; rw [if_neg (by omega)])
      go_wp2_with fail
      go_ret
      refine ⟨rfl, vo', ?_, HC3.out, HO.out⟩
      rw [HL2.out]
      exact HP3.out
def rsizesL (rl rn : Int) : List UInt8 := if 0 ≤ rl then (if rl < rn then pintL 5 32 rl.toNat else []) ++ pintL 5 32 rn.toNat else []
theorem rsizes_eq {told : Bool} {least most rn : Int} (l0 : 0 ≤ least) (h : told = false → rn = most) : rsizesL (if told = true then -1 else least) rn = sizesL told least most := by
  unfold rsizesL sizesL
  cases told
  · simp only [Bool.false_eq_true, if_false]
    rw [if_pos l0, h rfl]
  · simp only [if_true]
    rw [if_neg (by omega)]
theorem rleast_eq {told : Bool} {least n : Int} (l0 : 0 ≤ least) : rleastN (if told = true then -1 else least) n = leastN told least n := by
  unfold rleastN leastN
  cases told
  · rw [if_neg (by simp : ¬ (false = true))]
    by_cases h : n < least
    · rw [if_pos (Or.inr h), if_pos (Or.inr h)]
    · rw [if_neg (by omega), if_neg (by simp; omega)]
  · rw [if_pos rfl, if_pos (Or.inl (by omega)), if_pos (Or.inl rfl)]
end Go.Proofs.YtmlnboibclfmcaaDoor
namespace Go.Proofs.YtmlnboibclfmcaaDoor
open Go.RowKit
set_option linter.unusedVariables false

structure RBlkI (w wr : World) (B gp g : Nat) (vo : Value) (most rn : Int) (v5 : Value) (bytes : List UInt8) (l : List FieldL) (vo' : Value) : Prop where
  pk : RPk wr B gp g vo' l most (-1) rn
  own : Own wr w.heap.size v5 bytes
  chg : Chg (PP gp g vo) w wr
  ob : ∀ k, vo'.ownBlock = some k → vo.ownBlock = some k ∨ w.heap.size ≤ k
theorem RBlkI.aft {w wr wx : World} {B gp g : Nat} {vo : Value} {most rn : Int} {v5 : Value} {bytes : List UInt8} {l : List FieldL} {vo' : Value} (h : RBlkI w wr B gp g vo most rn v5 bytes l vo') (a : Aft wr wx) : RBlkI w wx B gp g vo most rn v5 bytes l vo' :=
  ⟨h.pk.aft a, h.own.aft a, h.chg.aft a, h.ob⟩
theorem RBlkI.put {w wr wx : World} {B gp g : Nat} {vo : Value} {most rn : Int} {v5 v6 : Value} {bytes bytes2 : List UInt8} {l : List FieldL} {vo' : Value} (h : RBlkI w wr B gp g vo most rn v5 bytes l vo') (a : Aft wr wx) (o : Own wx wr.heap.size v6 bytes2) : RBlkI w wx B gp g vo most rn v6 bytes2 l vo' :=
  ⟨h.pk.aft a, o.base h.chg.size, h.chg.aft a, h.ob⟩
theorem RBlkI.add {w wr wx : World} {B gp g : Nat} {vo : Value} {most rn : Int} {v5 : Value} {bytes : List UInt8} {l l2 : List FieldL} {vo' vo2 : Value} (h : RBlkI w wr B gp g vo most rn v5 bytes l vo') (ht : RTab wx B g vo2 l2 most) (hc : Chg (TP g vo') wr wx) (ho : ∀ k, vo2.ownBlock = some k → vo'.ownBlock = some k ∨ wr.heap.size ≤ k) : RBlkI w wx B gp g vo most rn v5 bytes l2 vo2 := by
  refine ⟨h.pk.tab ht hc, h.own.chg (hc.mono (q := PP gp g vo') (fun i hi => Or.inr hi)) (h.own.rpk h.pk), h.chg.trans hc (fun i hi => ?_), fun k hk => ?_⟩
  · rcases hi with rfl | hi
    · exact Or.inl (Or.inr (Or.inl rfl))
    · rcases h.ob i hi with h1 | h1
      · exact Or.inl (Or.inr (Or.inr h1))
      · exact Or.inr h1
  · rcases ho k hk with h1 | h1
    · exact h.ob k h1
    · exact Or.inr (Nat.le_trans h.chg.size h1)
theorem Chg.gp {w w' : World} {gp g : Nat} {vo : Value} (h : Chg (fun k => k = gp) w w') : Chg (PP gp g vo) w w' := h.mono (fun i hi => Or.inl hi)
theorem own_none (w : World) (base : Nat) : Own w base (.slice none 0 0) [] := World.ownsRow_nil _ _ _ _
def FBk (w : World) (g : Nat) (n v : ByteArray) : Prop := w.heap[g]? = some (.cells #[.string n, .string v] 28 (0, 0))
theorem FBk.aft {w w' : World} {g : Nat} {n v : ByteArray} (h : FBk w g n v) (ha : Aft w w') : FBk w' g n v := by
  have hl : g < w.heap.size := by
    rcases Nat.lt_or_ge g w.heap.size with h1 | h1
    · exact h1
    · unfold FBk at h; rw [Array.getElem?_eq_none h1] at h; cases h
  unfold FBk at h ⊢
  rw [ha.block g hl]
  exact h
theorem FBk.chg {w w' : World} {g gt : Nat} {vo : Value} {n v : ByteArray} (h : FBk w g n v) (hc : Chg (TP gt vo) w w') (hne : gt ≠ g ∧ ∀ k, vo.ownBlock = some k → k ≠ g) : FBk w' g n v := by
  have hl : g < w.heap.size := by
    rcases Nat.lt_or_ge g w.heap.size with h1 | h1
    · exact h1
    · unfold FBk at h; rw [Array.getElem?_eq_none h1] at h; cases h
  unfold FBk at h ⊢
  rw [hc.block g hl (fun e => by
    rcases e with e | e
    · exact hne.1 e.symm
    · exact hne.2 g e rfl)]
  exact h
theorem textL_bd (s : List UInt8) : (textL s).length ≤ s.length + 6 := by
  have h1 := pintL_len 7 128 (sizeF s).toNat
  have h2 := pintL_len 7 0 s.length
  have h3 := sizeF_len s
  unfold textL
  split
  · rw [List.length_append]; omega
  · rw [List.length_append]; omega
theorem FBk.cells {w : World} {g : Nat} {n v : ByteArray} (h : FBk w g n v) : w.cell? ⟨g, 0, none⟩ = some (.string n) ∧ w.cell? ⟨g, 1, none⟩ = some (.string v) := by
  unfold FBk at h
  constructor <;> rw [cell_of_row w g _ _ _ (0, 0) h] <;> rfl
theorem FBk.load {w : World} {g : Nat} {n v : ByteArray} (h : FBk w g n v) : (loadVar 28 ⟨g, 0, none⟩).run Tryd.prog w = .ok (.agg #[.string n, .string v]) w :=
  run_loadVar_row w g _ _ #[.string n, .string v] (0, 0) _ h Tryd.underlying28 rfl (by kernel_rfl)

/-- The sizes that are told: behind them the least is told. -/
theorem rsizes_len (rl rn : Int) : (rsizesL rl rn).length ≤ 12 := by
  have h1 := pintL_len 5 32 rl.toNat
  have h2 := pintL_len 5 32 rn.toNat
  unfold rsizesL
  split
  · rw [List.length_append]
    split
    · omega
    · simp; omega
  · simp
theorem rput_none (n top : Nat) (v : Int) (w : World) (hp : PreOk n top) (h0 : 0 ≤ v) (h1 : v ≤ 65536) :
    Calls Tryd.prog 66 #[.slice none 0 0, .int .i64 (n : Int), .int .u8 (top : Int), .int .i64 v] w fun e w' => ∃ v', e = .returned v' ∧ Own w' w.heap.size v' (pintL n top v.toNat) ∧ Aft w w' := by
  obtain ⟨k, rfl⟩ := Int.eq_ofNat_of_zero_le h0
  exact rput_any (.slice none 0 0) [] n top k w (Or.inl ⟨⟨none, rfl⟩, rfl⟩) (by simp) hp (by omega)
theorem rput_more (v0 : Value) (l : List UInt8) (n top : Nat) (v : Int) (w : World) (hr : Rb w v0 l) (hl : l.length ≤ 1000) (hp : PreOk n top) (h0 : 0 ≤ v) (h1 : v ≤ 65536) :
    Calls Tryd.prog 66 #[v0, .int .i64 (n : Int), .int .u8 (top : Int), .int .i64 v] w fun e w' => ∃ v', e = .returned v' ∧ Own w' w.heap.size v' (l ++ pintL n top v.toNat) ∧ Aft w w' := by
  obtain ⟨k, rfl⟩ := Int.eq_ofNat_of_zero_le h0
  exact rput_any v0 l n top k w hr (by omega) hp (by omega)

set_option linter.unusedSimpArgs false in
set_option maxHeartbeats 16000000 in
set_option maxRecDepth 100000 in
theorem rpblock_any {w : World} {B gp g : Nat} {vo : Value} {l : List FieldL} {most rl rn : Int} (v : Value) (rows : List RowL) (h : RPk w B gp g vo l most rl rn) (hs : (sumF l : Int) ≤ most) (m0 : 0 ≤ most) (m1 : most ≤ 65536) (l0 : -1 ≤ rl) (l1 : rl ≤ 65536) (n0 : 0 ≤ rn) (n1 : rn ≤ 65536) (hB : B ≤ w.heap.size)
    (hrw : ∀ wx, Chg (PP gp g vo) w wx → RbW wx v rows) (hsum : sumR rows ≤ 1000000) :
    Calls Tryd.prog 44 #[.pointer (some ⟨gp, 0, none⟩), v] w fun e w' => ∃ v' vo', e = .returned v' ∧ RBlkI w w' B gp g vo most rn v' (rowsB most (rsizesL rl rn, l) rows).1 (rowsB most (rsizesL rl rn, l) rows).2 vo' := by
  have hrl := sumR_len rows
  obtain ⟨va, vc, vb, voff, rfl, hvc, hvm, -⟩ := (hrw w (Chg.refl _ w)).open
  have HRW := Lib.hid hrw
  have HM := Lib.hid (And.intro m0 m1)
  have HSM := Lib.hid hsum
  have HFS := Lib.hid hs
  have hlen : rows.length ≤ 40000 := by omega
  have H := Lib.hid h
  have HBW := Lib.hid hB
  have hsl := rsizes_len rl rn
  obtain ⟨b0, hb0⟩ : ∃ b0, rsizesL rl rn = b0 := ⟨_, rfl⟩
  rw [hb0] at hsl ⊢
  have HBS := Lib.hid hb0
  have HB0 := Lib.hid hsl
  have HPL := Lib.hid (fun w h => rput_none 5 32 rl w (by unfold PreOk; simp) h l1)
  have HPM := Lib.hid (fun w => rput_none 5 32 rn w (by unfold PreOk; simp) n0 n1)
  have hp6 := pintL_len 5 32 rl.toNat
  have HPX := Lib.hid (fun v0 w h => rput_more v0 (pintL 5 32 rl.toNat) 5 32 rn w h (by omega) (by unfold PreOk; simp) n0 n1)
  obtain ⟨c0, c1, c2, f1, f2⟩ := h.cells
  clear h hs hrw hsum hvc hvm hrl hb0 hB hsl hp6 m0 m1 n0 n1 l1
  go_enter Tryd.func44, Tryd.ntmps44
  go_upto_if 14 with fail
  go_cut [5] (fun v5 wx => ∃ (W1 : World), W1 = wx ∧ Hid (RBlkI w wx B gp g vo most rn v5 b0 l vo))
  case first =>
    by_cases hz : rl ≥ 0
    rotate_left
    · have HE : Hid (b0 = [] ∧ rl = -1) := Lib.hid ⟨by rw [← HBS.out]; unfold rsizesL; rw [if_neg (by omega)], by omega⟩
      go_wp2_with fail
      go_meet
      refine ⟨_, rfl, Lib.hid ⟨by rw [← HE.out.2]; exact H.out, by rw [HE.out.1]; exact own_none _ _, Chg.refl _ _, fun k hk => Or.inl hk⟩⟩
    · go_upto_region 3 with fail
      have HD : Hid (RPk w.drew B gp g vo l most rl rn) := Lib.hid (H.out.aft ((Aft.refl w).drew))
      refine wp_region_held_drew (S := fun w' => RPk w' B gp g vo l most rl rn) (by kernel_rfl) HD.out (fun hHeld => ?_)
      refine wpAnyH_take (i := 0) (oi := { dst := some 15, op := Go.Op.move (Go.Operand.tmp 0), type := 64, pos := _, after := _, guard := _ }) (v := ?_) rfl (by kernel_rfl) (by kernel_rfl) (by kernel_rfl) (fun _ _ _ h => h) (Or.inl ⟨by rfl, ?_⟩) (by exact hHeld) ?_
      rotate_left
      · intro w hSw; go_simp; try with_reducible rfl
      try simp only [Act.put]
      try simp only [List.setIfInBounds_toArray]
      try simp only [List.set]
      refine wpAnyH_take (i := 1) (oi := { dst := some 16, op := Go.Op.nilCheck (Go.Operand.tmp 15), type := 0, pos := _, after := _, guard := _ }) (v := ?_) rfl (by kernel_rfl) (by kernel_rfl) (by kernel_rfl) (fun _ _ _ h => h) (Or.inl ⟨by rfl, ?_⟩) (by exact hHeld) ?_
      rotate_left
      · intro w hSw; go_simp; try with_reducible rfl
      try simp only [Act.put]
      try simp only [List.setIfInBounds_toArray]
      try simp only [List.set]
      refine wpAnyH_take (i := 2) (oi := { dst := some 17, op := Go.Op.fieldAddr 66 (Go.Operand.tmp 16) 1, type := 0, pos := _, after := _, guard := _ }) (v := ?_) rfl (by kernel_rfl) (by kernel_rfl) (by kernel_rfl) (fun _ _ _ h => h) (Or.inl ⟨by rfl, ?_⟩) (by exact hHeld) ?_
      rotate_left
      · intro w hSw; go_simp; try with_reducible rfl
      try simp only [Act.put]
      try simp only [List.setIfInBounds_toArray]
      try simp only [List.set]
      refine wpAnyH_take (i := 3) (oi := { dst := some 18, op := Go.Op.load 3 (Go.Operand.tmp 17), type := 3, pos := _, after := _, guard := _ }) (v := ?_) rfl (by kernel_rfl) (by kernel_rfl) (by kernel_rfl) (fun _ _ _ h => h) (Or.inl ⟨by rfl, ?_⟩) (by exact hHeld) ?_
      rotate_left
      · intro w hSw; obtain ⟨c0, c1, c2, f1, f2⟩ := hSw.cells; go_simp; try with_reducible rfl
      try simp only [Act.put]
      try simp only [List.setIfInBounds_toArray]
      try simp only [List.set]
      refine wpAnyH_take (i := 4) (oi := { dst := some 19, op := Go.Op.move (Go.Operand.tmp 0), type := 64, pos := _, after := _, guard := _ }) (v := ?_) rfl (by kernel_rfl) (by kernel_rfl) (by kernel_rfl) (fun _ _ _ h => h) (Or.inl ⟨by rfl, ?_⟩) (by exact hHeld) ?_
      rotate_left
      · intro w hSw; go_simp; try with_reducible rfl
      try simp only [Act.put]
      try simp only [List.setIfInBounds_toArray]
      try simp only [List.set]
      refine wpAnyH_take (i := 5) (oi := { dst := some 20, op := Go.Op.nilCheck (Go.Operand.tmp 19), type := 0, pos := _, after := _, guard := _ }) (v := ?_) rfl (by kernel_rfl) (by kernel_rfl) (by kernel_rfl) (fun _ _ _ h => h) (Or.inl ⟨by rfl, ?_⟩) (by exact hHeld) ?_
      rotate_left
      · intro w hSw; go_simp; try with_reducible rfl
      try simp only [Act.put]
      try simp only [List.setIfInBounds_toArray]
      try simp only [List.set]
      refine wpAnyH_take (i := 6) (oi := { dst := some 21, op := Go.Op.fieldAddr 66 (Go.Operand.tmp 20) 2, type := 0, pos := _, after := _, guard := _ }) (v := ?_) rfl (by kernel_rfl) (by kernel_rfl) (by kernel_rfl) (fun _ _ _ h => h) (Or.inl ⟨by rfl, ?_⟩) (by exact hHeld) ?_
      rotate_left
      · intro w hSw; go_simp; try with_reducible rfl
      try simp only [Act.put]
      try simp only [List.setIfInBounds_toArray]
      try simp only [List.set]
      refine wpAnyH_take (i := 7) (oi := { dst := some 22, op := Go.Op.load 3 (Go.Operand.tmp 21), type := 3, pos := _, after := _, guard := _ }) (v := ?_) rfl (by kernel_rfl) (by kernel_rfl) (by kernel_rfl) (fun _ _ _ h => h) (Or.inl ⟨by rfl, ?_⟩) (by exact hHeld) ?_
      rotate_left
      · intro w hSw; obtain ⟨c0, c1, c2, f1, f2⟩ := hSw.cells; go_simp; try with_reducible rfl
      try simp only [Act.put]
      try simp only [List.setIfInBounds_toArray]
      try simp only [List.set]
      refine wpAnyH_take (i := 8) (oi := { dst := some 23, op := Go.Op.binOp Go.BinOp.lss 3 (Go.Operand.tmp 18) (Go.Operand.tmp 22) 3, type := 4, pos := _, after := _, guard := _ }) (v := ?_) rfl (by kernel_rfl) (by kernel_rfl) (by kernel_rfl) (fun _ _ _ h => h) (Or.inl ⟨by rfl, ?_⟩) (by exact hHeld) ?_
      rotate_left
      · intro w hSw; go_simp; try with_reducible rfl
      try simp only [Act.put]
      try simp only [List.setIfInBounds_toArray]
      try simp only [List.set]
      refine wpAnyH_done (by kernel_rfl) ?_ _
      have HP2 := Lib.hid hHeld
      have HC2 := Lib.hid (Chg.of_aft (p := fun k => k = gp) ((Aft.refl w).drew))
      have HZ : Hid (w.heap.size ≤ w.drew.heap.size) := Lib.hid (Nat.le_refl _)
      clear hHeld c0 c1 c2 f1 f2 HD
      generalize w.drew = W2 at HP2 HC2 HZ ⊢
      obtain ⟨c0, c1, c2, f1, f2⟩ := HP2.out.cells
      by_cases hlt : rl < rn
      · have HS : Hid (b0 = pintL 5 32 rl.toNat ++ pintL 5 32 rn.toNat) := Lib.hid (by rw [← HBS.out]; unfold rsizesL; rw [if_pos hz, if_pos hlt])
        generalize pintL 5 32 rl.toNat = P1 at HPL HPX HS
        generalize pintL 5 32 rn.toNat = P2 at HPM HPX HS
        go_wp2_with fail
        refine (HPL.out _ hz).mono ?_
        rintro e w3 ⟨v3, rfl, o3, a3⟩
        have HP3 := Lib.hid (HP2.out.aft a3)
        have HC3 := Lib.hid (HC2.out.aft a3)
        have HR3 := Lib.hid o3.rb
        have HZ3 := Lib.hid (Nat.le_trans HZ.out a3.to.size)
        clear o3 a3 HP2 HC2 HZ c0 c1 c2 f1 f2
        obtain ⟨c0, c1, c2, f1, f2⟩ := HP3.out.cells
        go_wp2_with fail
        refine (HPX.out _ _ HR3.out).mono ?_
        rintro e w4 ⟨v4, rfl, o4, a4⟩
        have HP4 := Lib.hid (HP3.out.aft a4)
        have HC4 := Lib.hid (HC3.out.aft a4)
        have HO4 := Lib.hid (o4.base HZ3.out)
        clear o4 a4 HP3 HC3 HR3 HZ3 c0 c1 c2 f1 f2
        obtain ⟨c0, c1, c2, f1, f2⟩ := HP4.out.cells
        have HP5 := Lib.hid (HP4.out.put1 (-1))
        have HC5 : Hid (Chg (fun k => k = gp) w (w4.setCell ⟨gp, 1, none⟩ (.int .i64 (-1)))) := Lib.hid (HC4.out.set gp 1 _ (Or.inl rfl))
        have HO5 := Lib.hid (HO4.out.chg ((Chg.refl (fun k => k = gp) w4).set gp 1 (.int .i64 (-1)) (Or.inl rfl)) (fun k hk e => HO4.out.rpk HP4.out k hk (Or.inl e)))
        go_wp2_with fail
        go_meet
        exact ⟨_, rfl, Lib.hid ⟨HP5.out, by rw [HS.out]; exact HO5.out, HC5.out.gp, fun k hk => Or.inl hk⟩⟩
      · have HS : Hid (b0 = pintL 5 32 rn.toNat) := Lib.hid (by rw [← HBS.out]; unfold rsizesL; rw [if_pos hz, if_neg hlt]; rfl)
        generalize pintL 5 32 rn.toNat = P2 at HPM HS
        go_wp2_with fail
        refine (HPM.out _).mono ?_
        rintro e w4 ⟨v4, rfl, o4, a4⟩
        have HP4 := Lib.hid (HP2.out.aft a4)
        have HC4 := Lib.hid (HC2.out.aft a4)
        have HO4 := Lib.hid (o4.base HZ.out)
        clear o4 a4 HP2 HC2 HZ c0 c1 c2 f1 f2
        obtain ⟨c0, c1, c2, f1, f2⟩ := HP4.out.cells
        have HP5 := Lib.hid (HP4.out.put1 (-1))
        have HC5 : Hid (Chg (fun k => k = gp) w (w4.setCell ⟨gp, 1, none⟩ (.int .i64 (-1)))) := Lib.hid (HC4.out.set gp 1 _ (Or.inl rfl))
        have HO5 := Lib.hid (HO4.out.chg ((Chg.refl (fun k => k = gp) w4).set gp 1 (.int .i64 (-1)) (Or.inl rfl)) (fun k hk e => HO4.out.rpk HP4.out k hk (Or.inl e)))
        go_wp2_with fail
        go_meet
        exact ⟨_, rfl, Lib.hid ⟨HP5.out, by rw [HS.out]; exact HO5.out, HC5.out.gp, fun k hk => Or.inl hk⟩⟩
  case rest =>
    obtain ⟨W1, hW1, HI1⟩ := hcut
    subst hW1
    clear HPL HPM HPX H c0 c1 c2 f1 f2 HBS
    go_wp2_with fail
    go_loopw [5, 6] (fun v5 vi wr => ∃ (k : Nat) (bytes : List UInt8) (l' : List FieldL) (vo' : Value), k ≤ rows.length ∧ vi = .int .i64 (k : Int) ∧ Hid (rowsB most (b0, l) (rows.take k) = (bytes, l')) ∧ Hid (bytes.length ≤ 12 + sumR (rows.take k)) ∧ Hid ((sumF l' : Int) ≤ most) ∧ Hid (RBlkI w wr B gp g vo most rn v5 bytes l' vo')) (fun _ vi _ => rows.length - (intOf vi).toNat)
    case atStart => exact ⟨0, b0, l, vo, by omega, by go_num, Lib.hid rfl, Lib.hid (by have := HB0.out; omega), HFS, HI1⟩
    case round =>
      obtain ⟨k, bytes, l', vo', hk, rfl, HE, HLN, HTS, HI⟩ := hrel
      by_cases hlt : k < rows.length
      · have hx := (HRW.out wr HI.out.chg)
        rcases hx with ⟨h1, h2⟩ | ⟨bb, oo, cc, h1, h2, h3, h4, h5⟩
        · rw [h2] at hlt; simp at hlt
        injection h1 with e1 _ e3
        subst e1 e3
        obtain ⟨y0, y1, -⟩ := h5 k hlt
        have HCE : Hid (∀ wx, Chg (PP gp g vo) w wx → wx.cell? ⟨bb, oo + k * 3 + 2, none⟩ = some (.int .i64 rows[k].how)) := Lib.hid (fun wx hc => by
          rcases HRW.out wx hc with ⟨_, h9⟩ | ⟨bb', oo', cc', h1, _, _, _, h5'⟩
          · exact absurd hlt (by rw [h9]; simp)
          · injection h1 with e1 _ e3
            injection e1 with e1
            injection e1 with e1 e2
            subst e1 e2
            exact (h5' k hlt).2.2)
        have hmem : rows[k].f.1.length + rows[k].f.2.length + 32 ≤ 1000000 := Nat.le_trans (sumR_mem (List.getElem_mem hlt)) HSM.out
        have hst : rowsB most (b0, l) (rows.take (k + 1)) = (bytes ++ (rowB most l' rows[k]).1, (rowB most l' rows[k]).2) := by
          rw [List.take_succ_eq_append_getElem hlt, rowsB_snoc, HE.out]
        have hst2 : sumR (rows.take (k + 1)) = sumR (rows.take k) + (rows[k].f.1.length + rows[k].f.2.length + 32) := by
          rw [List.take_succ_eq_append_getElem hlt, sumR_append]
          simp [sumR]
        have hrb := rowB_len most l' rows[k]
        have hrt := rowB_tab most HM.out.1 l' rows[k] HTS.out
        have HST := Lib.hid hst
        have HST2 := Lib.hid hst2
        have HTK := Lib.hid (sumR_take rows k)
        clear hst hst2 h5 h4 h2 h3
        generalize rows[k] = r at *
        obtain ⟨⟨n, x⟩, how⟩ := r
        simp only at y0 y1 hmem hrb HCE
        have z1 : (⟨n.toArray⟩ : ByteArray).size = n.length := by show n.toArray.size = _; simp
        have z2 : (⟨x.toArray⟩ : ByteArray).size = x.length := by show x.toArray.size = _; simp
        have i1 : (k : Int) < (rows.length : Int) := by omega
        have HRB := Lib.hid hrb
        have HRT := Lib.hid hrt
        clear hrb hrt
        unfold strV at y0 y1
        have HW4 : Hid (RBlkI w (wr.alloc (.cells #[.string ⟨n.toArray⟩, .string ⟨x.toArray⟩] 28)) B gp g vo most rn u5 bytes l' vo') := Lib.hid (HI.out.aft ((Aft.refl wr).alloc _))
        have HRR : Hid (FBk (wr.alloc (.cells #[.string ⟨n.toArray⟩, .string ⟨x.toArray⟩] 28)) wr.heap.size ⟨n.toArray⟩ ⟨x.toArray⟩) := Lib.hid (heap_alloc_new wr _)
        go_upto_region 11 with fail
        obtain ⟨gr, hgr⟩ : ∃ gr, wr.heap.size = gr := ⟨_, rfl⟩
        rw [hgr] at HRR ⊢
        generalize wr.alloc (.cells #[.string ⟨n.toArray⟩, .string ⟨x.toArray⟩] 28) = W4 at HW4 HRR ⊢
        have HFN := Lib.hid (fun (w' : World) (h : RBlkI w w' B gp g vo most rn u5 bytes l' vo') => rfind_any (n, x) h.pk.t (by have := sumF_len l'; have := HTS.out; have := HM.out; omega))
        have hfb := findF_bd l' (n, x)
        have hll : 32 * l'.length ≤ 65536 := by have := sumF_len l'; have := HTS.out; have := HM.out; omega
        obtain ⟨q, hq⟩ : ∃ q, findF l' (n, x) = q := ⟨_, rfl⟩
        rw [hq] at HFN hfb
        have HQ := Lib.hid hq
        obtain ⟨q1, q2⟩ := q
        simp only at hfb
        obtain ⟨fi, hfi⟩ := Int.eq_ofNat_of_zero_le hfb.1
        subst hfi
        have hfi2 : fi ≤ 2147483647 := by omega
        have HNE : Hid (g ≠ gr ∧ ∀ k, vo'.ownBlock = some k → k ≠ gr) := Lib.hid (by
          rw [← hgr]
          exact ⟨Nat.ne_of_lt HI.out.pk.t.lt, fun k hk => Nat.ne_of_lt (HI.out.pk.t.own.lt k hk).2⟩)
        clear hq hfb hll y0 y1 HI hgr
        have A5 := (Aft.refl W4).drew
        have D5 := Lib.hid A5
        refine wp_region_held_drew (S := fun w' => RBlkI w w' B gp g vo most rn u5 bytes l' vo' ∧ FBk w' gr ⟨n.toArray⟩ ⟨x.toArray⟩) (by kernel_rfl) ⟨HW4.out.aft D5.out, HRR.out.aft D5.out⟩ (fun hHeld => ?_)
        refine wpAnyH_take (i := 0) (oi := { dst := some 51, op := Go.Op.move (Go.Operand.tmp 0), type := 64, pos := _, after := _, guard := _ }) (v := ?_) rfl (by kernel_rfl) (by kernel_rfl) (by kernel_rfl) (fun _ _ _ h => h) (Or.inl ⟨by rfl, ?_⟩) (by exact hHeld) ?_
        rotate_left
        · intro w hSw; go_simp; try with_reducible rfl
        try simp only [Act.put]
        try simp only [List.setIfInBounds_toArray]
        try simp only [List.set]
        refine wpAnyH_take (i := 1) (oi := { dst := some 52, op := Go.Op.nilCheck (Go.Operand.tmp 51), type := 0, pos := _, after := _, guard := _ }) (v := ?_) rfl (by kernel_rfl) (by kernel_rfl) (by kernel_rfl) (fun _ _ _ h => h) (Or.inl ⟨by rfl, ?_⟩) (by exact hHeld) ?_
        rotate_left
        · intro w hSw; go_simp; try with_reducible rfl
        try simp only [Act.put]
        try simp only [List.setIfInBounds_toArray]
        try simp only [List.set]
        refine wpAnyH_take (i := 2) (oi := { dst := some 53, op := Go.Op.fieldAddr 66 (Go.Operand.tmp 52) 0, type := 0, pos := _, after := _, guard := _ }) (v := ?_) rfl (by kernel_rfl) (by kernel_rfl) (by kernel_rfl) (fun _ _ _ h => h) (Or.inl ⟨by rfl, ?_⟩) (by exact hHeld) ?_
        rotate_left
        · intro w hSw; go_simp; try with_reducible rfl
        try simp only [Act.put]
        try simp only [List.setIfInBounds_toArray]
        try simp only [List.set]
        refine wpAnyH_take (i := 3) (oi := { dst := some 54, op := Go.Op.load 43 (Go.Operand.tmp 53), type := 43, pos := _, after := _, guard := _ }) (v := ?_) rfl (by kernel_rfl) (by kernel_rfl) (by kernel_rfl) (fun _ _ _ h => h) (Or.inl ⟨by rfl, ?_⟩) (by exact hHeld) ?_
        rotate_left
        · intro w hSw; obtain ⟨c0, c1, c2, f1, f2⟩ := hSw.1.pk.cells; obtain ⟨y0, y1⟩ := hSw.2.cells; go_simp; try with_reducible rfl
        try simp only [Act.put]
        try simp only [List.setIfInBounds_toArray]
        try simp only [List.set]
        refine wpAnyH_take (i := 4) (oi := { dst := some 55, op := Go.Op.load 28 (Go.Operand.tmp 7), type := 28, pos := _, after := _, guard := _ }) (v := ?_) rfl (by kernel_rfl) (by kernel_rfl) (by kernel_rfl) (fun _ _ _ h => h) (Or.inl ⟨by rfl, ?_⟩) (by exact hHeld) ?_
        rotate_left
        · intro w hSw; obtain ⟨c0, c1, c2, f1, f2⟩ := hSw.1.pk.cells; obtain ⟨y0, y1⟩ := hSw.2.cells; go_simp; try with_reducible rfl
        try simp only [Act.put]
        try simp only [List.setIfInBounds_toArray]
        try simp only [List.set]
        refine wpAnyH_ready (rs := [5]) (by kernel_rfl) (by simp) ?_
        refine AllReadyH.cons (o := { dst := some 56, op := Go.Op.call { callee := Go.Callee.value (Go.Operand.func 32), args := #[Go.Operand.tmp 54, Go.Operand.tmp 55], argTypes := #[43, 28] }, type := 40, pos := _, after := _, guard := _ }) rfl (fun K hK => ?_) AllReadyH.nil
        go_simp
        go_at_call 32
        refine (HFN.out _ hHeld.1).mono ?_
        rintro e w6 ⟨rfl, a6⟩
        have hS2 := And.intro (hHeld.1.aft a6) (hHeld.2.aft a6)
        clear hHeld
        refine hK.out _ _ hS2 (fun hHeld => ?_)
        clear hK K hS2
        try simp only [Act.put]
        try simp only [List.setIfInBounds_toArray]
        try simp only [List.set]
        refine wpAnyH_take (i := 6) (oi := { dst := some 50, op := Go.Op.move (Go.Operand.tmp 56), type := 40, pos := _, after := _, guard := _ }) (v := ?_) rfl (by kernel_rfl) (by kernel_rfl) (by kernel_rfl) (fun _ _ _ h => h) (Or.inl ⟨by rfl, ?_⟩) (by exact hHeld) ?_
        rotate_left
        · intro w hSw; go_simp; try with_reducible rfl
        try simp only [Act.put]
        try simp only [List.setIfInBounds_toArray]
        try simp only [List.set]
        refine wpAnyH_take (i := 7) (oi := { dst := some 57, op := Go.Op.extract (Go.Operand.tmp 50) 0, type := 3, pos := _, after := _, guard := _ }) (v := ?_) rfl (by kernel_rfl) (by kernel_rfl) (by kernel_rfl) (fun _ _ _ h => h) (Or.inl ⟨by rfl, ?_⟩) (by exact hHeld) ?_
        rotate_left
        · intro w hSw; go_simp; try with_reducible rfl
        try simp only [Act.put]
        try simp only [List.setIfInBounds_toArray]
        try simp only [List.set]
        refine wpAnyH_take (i := 9) (oi := { dst := some 8, op := Go.Op.assign (Go.Operand.tmp 57), type := 3, pos := _, after := _, guard := _ }) (v := ?_) rfl (by kernel_rfl) (by kernel_rfl) (by kernel_rfl) (fun _ _ _ h => h) (Or.inl ⟨by rfl, ?_⟩) (by exact hHeld) ?_
        rotate_left
        · intro w hSw; go_simp; try with_reducible rfl
        try simp only [Act.put]
        try simp only [List.setIfInBounds_toArray]
        try simp only [List.set]
        refine wpAnyH_take (i := 8) (oi := { dst := some 58, op := Go.Op.extract (Go.Operand.tmp 50) 1, type := 4, pos := _, after := _, guard := _ }) (v := ?_) rfl (by kernel_rfl) (by kernel_rfl) (by kernel_rfl) (fun _ _ _ h => h) (Or.inl ⟨by rfl, ?_⟩) (by exact hHeld) ?_
        rotate_left
        · intro w hSw; go_simp; try with_reducible rfl
        try simp only [Act.put]
        try simp only [List.setIfInBounds_toArray]
        try simp only [List.set]
        refine wpAnyH_take (i := 10) (oi := { dst := some 9, op := Go.Op.assign (Go.Operand.tmp 58), type := 4, pos := _, after := _, guard := _ }) (v := ?_) rfl (by kernel_rfl) (by kernel_rfl) (by kernel_rfl) (fun _ _ _ h => h) (Or.inl ⟨by rfl, ?_⟩) (by exact hHeld) ?_
        rotate_left
        · intro w hSw; go_simp; try with_reducible rfl
        try simp only [Act.put]
        try simp only [List.setIfInBounds_toArray]
        try simp only [List.set]
        refine wpAnyH_done (by kernel_rfl) ?_ _
        have HI6 := Lib.hid hHeld.1
        have HR6 := Lib.hid hHeld.2
        clear hHeld A5 D5 HW4 HRR HFN
        clear a6
        have hbl : bytes.length ≤ 600000000 := by have := HLN.out; have := HTK.out; have := HSM.out; omega
        have y2 := HCE.out w6 HI6.out.chg
        by_cases hA : q2 = true ∧ how ≠ 3
        · have HRW2 : Hid (rowB most l' ⟨(n, x), how⟩ = (pintL 7 128 fi, l')) := Lib.hid (by unfold rowB; rw [HQ.out, if_pos hA]; rfl)
          obtain ⟨rfl, h3⟩ := hA
          have h3b : (how != 3) = true := by simpa using h3
          go_wp2_with fail
          refine (rput_any u5 bytes 7 128 fi w6 HI6.out.own.rb (by omega) (by unfold PreOk; simp) hfi2).mono ?_
          rintro e w7 ⟨v7, rfl, o7, a7⟩
          have HI7 := Lib.hid (HI6.out.put a7 o7)
          clear o7 a7 y2
          go_wp2_with fail
          go_roundw
          case rel => exact ⟨k + 1, _, _, vo', by omega, by go_num, Lib.hid (by rw [HST.out, HRW2.out]), Lib.hid (by rw [HST2.out]; have h1 := HLN.out; have h2 := HRB.out; rw [HRW2.out] at h2; rw [List.length_append]; simp only at h2 ⊢; omega), Lib.hid (by have h3 := HRT.out; rw [HRW2.out] at h3; exact h3), HI7⟩
          case measure => simp [intOf]; omega
        have hcase : (how = 1 ∧ q2 = false) ∨ (how = 3) ∨ (how ≠ 1 ∧ how ≠ 3 ∧ q2 = false) := by
          by_cases h1 : how = 1
          · refine Or.inl ⟨h1, ?_⟩
            cases q2
            · rfl
            · exact absurd ⟨rfl, by omega⟩ hA
          · by_cases h3 : how = 3
            · exact Or.inr (Or.inl h3)
            · refine Or.inr (Or.inr ⟨h1, h3, ?_⟩)
              cases q2
              · rfl
              · exact absurd ⟨rfl, h3⟩ hA
        rcases hcase with ⟨hB1, hq2⟩ | hC | ⟨hB1, hC, hq2⟩
        · have HRW2 : Hid (rowB most l' ⟨(n, x), how⟩ = (writL fi 6 64 n x, addF most (n, x) l')) := Lib.hid (by unfold rowB; rw [HQ.out, if_neg hA, if_pos hB1]; rfl)
          subst hq2 hB1
          clear hA
          go_wp2_with fail
          have hpl := pintL_len 6 64 fi
          refine (rput_any u5 bytes 6 64 fi w6 HI6.out.own.rb (by omega) (by unfold PreOk; simp) hfi2).mono ?_
          rintro e w7 ⟨v7, rfl, o7, a7⟩
          have HI7 := Lib.hid (HI6.out.put a7 o7)
          have HR7 := Lib.hid (HR6.out.aft a7)
          clear o7 a7 y2
          have HTA := Lib.hid (fun (w' : World) (h : RBlkI w w' B gp g vo most rn v7 (bytes ++ pintL 6 64 fi) l' vo') => radd_any (n, x) h.pk.t HTS.out HM.out.1 HM.out.2 (by unfold fsize; simp only; omega) (Nat.le_trans HBW.out h.chg.size))
          go_upto_region 18 with fail
          have HI8 := Lib.hid (HI7.out.aft ((Aft.refl w7).drew))
          have HR8 := Lib.hid (HR7.out.aft ((Aft.refl w7).drew))
          obtain ⟨y0, y1⟩ := HR8.out.cells
          obtain ⟨c0, c1, c2, f1, f2⟩ := HI8.out.pk.cells
          clear HI7 HR7
          refine wp_region_held_drew (S := fun _ => True) (by kernel_rfl) trivial (fun hHeld => ?_)
          generalize w7.drew = W8 at y0 y1 c0 c1 c2 f1 f2 HI8 HR8 ⊢
          refine wpAnyH_take (i := 0) (oi := { dst := some 84, op := Go.Op.move (Go.Operand.tmp 0), type := 64, pos := _, after := _, guard := _ }) (v := ?_) rfl (by kernel_rfl) (by kernel_rfl) (by kernel_rfl) (fun _ _ _ h => h) (Or.inl ⟨by rfl, ?_⟩) trivial ?_
          rotate_left
          · intro w hSw; go_simp; try with_reducible rfl
          try simp only [Act.put]
          try simp only [List.setIfInBounds_toArray]
          try simp only [List.set]
          refine wpAnyH_take (i := 1) (oi := { dst := some 85, op := Go.Op.nilCheck (Go.Operand.tmp 84), type := 0, pos := _, after := _, guard := _ }) (v := ?_) rfl (by kernel_rfl) (by kernel_rfl) (by kernel_rfl) (fun _ _ _ h => h) (Or.inl ⟨by rfl, ?_⟩) trivial ?_
          rotate_left
          · intro w hSw; go_simp; try with_reducible rfl
          try simp only [Act.put]
          try simp only [List.setIfInBounds_toArray]
          try simp only [List.set]
          refine wpAnyH_take (i := 2) (oi := { dst := some 86, op := Go.Op.fieldAddr 66 (Go.Operand.tmp 85) 0, type := 0, pos := _, after := _, guard := _ }) (v := ?_) rfl (by kernel_rfl) (by kernel_rfl) (by kernel_rfl) (fun _ _ _ h => h) (Or.inl ⟨by rfl, ?_⟩) trivial ?_
          rotate_left
          · intro w hSw; go_simp; try with_reducible rfl
          try simp only [Act.put]
          try simp only [List.setIfInBounds_toArray]
          try simp only [List.set]
          refine wpAnyH_ready (rs := [3, 4]) (by kernel_rfl) (by simp) ?_
          refine (AllReadyH.cons (o := { dst := some 87, op := Go.Op.load 43 (Go.Operand.tmp 86), type := 43, pos := _, after := _, guard := _ }) rfl (fun K hK => ?_) (AllReadyH.cons (o := { dst := some 88, op := Go.Op.load 28 (Go.Operand.tmp 7), type := 28, pos := _, after := _, guard := _ }) rfl (fun K hK => ?_) AllReadyH.nil))
          focus
            go_simp
            skip
            refine hK.out _ _ trivial (fun hHeld => ?_)
            clear hK K
            try simp only [Act.put]
            try simp only [List.setIfInBounds_toArray]
            try simp only [List.set]
            refine wpAnyH_ready (rs := [4]) (by kernel_rfl) (by simp) ?_
            refine (AllReadyH.cons (o := { dst := some 88, op := Go.Op.load 28 (Go.Operand.tmp 7), type := 28, pos := _, after := _, guard := _ }) rfl (fun K hK => ?_) AllReadyH.nil)
            go_simp
            skip
            refine hK.out _ _ trivial (fun hHeld => ?_)
            clear hK K
            try simp only [Act.put]
            try simp only [List.setIfInBounds_toArray]
            try simp only [List.set]
            refine wpAnyH_ready (rs := [5]) (by kernel_rfl) (by simp) ?_
            refine (AllReadyH.cons (o := { dst := some 89, op := Go.Op.call { callee := Go.Callee.value (Go.Operand.func 29), args := #[Go.Operand.tmp 87, Go.Operand.tmp 88], argTypes := #[43, 28] }, type := 0, pos := _, after := _, guard := _ }) rfl (fun K hK => ?_) AllReadyH.nil)
            go_simp
            go_at_call 29
            refine (HTA.out _ HI8.out).mono ?_
            rintro e w9 ⟨rfl, vo2, ht, hc, ho⟩
            have HIA := Lib.hid (HI8.out.add ht hc ho)
            have HRA := Lib.hid (HR8.out.chg hc HNE.out)
            clear ht hc ho y0 y1 c0 c1 c2 f1 f2
            refine hK.out _ _ trivial (fun hHeld => ?_)
            clear hK K
            try simp only [Act.put]
            try simp only [List.setIfInBounds_toArray]
            try simp only [List.set]
            refine wpAnyH_done (by kernel_rfl) ?_ _
          rotate_left 1
          focus
            go_simp
            skip
            refine hK.out _ _ trivial (fun hHeld => ?_)
            clear hK K
            try simp only [Act.put]
            try simp only [List.setIfInBounds_toArray]
            try simp only [List.set]
            refine wpAnyH_ready (rs := [3]) (by kernel_rfl) (by simp) ?_
            refine (AllReadyH.cons (o := { dst := some 87, op := Go.Op.load 43 (Go.Operand.tmp 86), type := 43, pos := _, after := _, guard := _ }) rfl (fun K hK => ?_) AllReadyH.nil)
            go_simp
            skip
            refine hK.out _ _ trivial (fun hHeld => ?_)
            clear hK K
            try simp only [Act.put]
            try simp only [List.setIfInBounds_toArray]
            try simp only [List.set]
            refine wpAnyH_ready (rs := [5]) (by kernel_rfl) (by simp) ?_
            refine (AllReadyH.cons (o := { dst := some 89, op := Go.Op.call { callee := Go.Callee.value (Go.Operand.func 29), args := #[Go.Operand.tmp 87, Go.Operand.tmp 88], argTypes := #[43, 28] }, type := 0, pos := _, after := _, guard := _ }) rfl (fun K hK => ?_) AllReadyH.nil)
            go_simp
            go_at_call 29
            refine (HTA.out _ HI8.out).mono ?_
            rintro e w9 ⟨rfl, vo2, ht, hc, ho⟩
            have HIA := Lib.hid (HI8.out.add ht hc ho)
            have HRA := Lib.hid (HR8.out.chg hc HNE.out)
            clear ht hc ho y0 y1 c0 c1 c2 f1 f2
            refine hK.out _ _ trivial (fun hHeld => ?_)
            clear hK K
            try simp only [Act.put]
            try simp only [List.setIfInBounds_toArray]
            try simp only [List.set]
            refine wpAnyH_done (by kernel_rfl) ?_ _
          rotate_left 1
          all_goals
            clear HI8 HR8 HTA
            obtain ⟨y0, y1⟩ := HRA.out.cells
            by_cases hz : fi = 0
            · have hz2 : ((fi : Int) == 0) = true := by rw [hz]; rfl
              have HZ0 := Lib.hid hz
              clear hz
              go_wp2_with fail
              refine (rtext_any _ _ ⟨n.toArray⟩ _ HIA.out.own.rb (by rw [List.length_append]; omega) (by rw [z1]; omega)).mono ?_
              rintro e w8 ⟨v8, rfl, o8, a8⟩
              have HI8 := Lib.hid (HIA.out.put a8 o8)
              have HR8 := Lib.hid (HRA.out.aft a8)
              clear o8 a8 y0 y1
              obtain ⟨y0, y1⟩ := HR8.out.cells
              go_wp2_with fail
              refine (rtext_any _ _ ⟨x.toArray⟩ _ HI8.out.own.rb (by rw [List.length_append, List.length_append]; have := textL_bd n; show bytes.length + _ + (textL n).length ≤ _; omega) (by rw [z2]; omega)).mono ?_
              rintro e w9 ⟨v9, rfl, o9, a9⟩
              have HI9 := Lib.hid (HI8.out.put a9 o9)
              have HBY : Hid (bytes ++ writL fi 6 64 n x = ((bytes ++ pintL 6 64 fi) ++ textL n) ++ textL x) := Lib.hid (by unfold writL; rw [if_pos HZ0.out]; simp only [List.append_assoc])
              clear o9 a9 y0 y1 hz2
              go_wp2_with fail
              go_roundw
              case rel => exact ⟨k + 1, _, _, vo2, by omega, by go_num, Lib.hid (by rw [HST.out, HRW2.out, ← HBY.out]), Lib.hid (by rw [HST2.out]; have h1 := HLN.out; have h2 := HRB.out; rw [HRW2.out] at h2; rw [← HBY.out, List.length_append]; simp only at h2 ⊢; omega), Lib.hid (by have h3 := HRT.out; rw [HRW2.out] at h3; exact h3), HI9⟩
              case measure => simp [intOf]; omega
            · have hz2 : ((fi : Int) == 0) = false := by simpa using hz
              have HZ0 := Lib.hid hz
              clear hz
              go_wp2_with fail
              refine (rtext_any _ _ ⟨x.toArray⟩ _ HIA.out.own.rb (by rw [List.length_append]; omega) (by rw [z2]; omega)).mono ?_
              rintro e w9 ⟨v9, rfl, o9, a9⟩
              have HI9 := Lib.hid (HIA.out.put a9 o9)
              have HBY : Hid (bytes ++ writL fi 6 64 n x = (bytes ++ pintL 6 64 fi) ++ textL x) := Lib.hid (by unfold writL; rw [if_neg HZ0.out]; simp only [List.append_assoc, List.nil_append])
              clear o9 a9 y0 y1 hz2
              go_wp2_with fail
              go_roundw
              case rel => exact ⟨k + 1, _, _, vo2, by omega, by go_num, Lib.hid (by rw [HST.out, HRW2.out, ← HBY.out]), Lib.hid (by rw [HST2.out]; have h1 := HLN.out; have h2 := HRB.out; rw [HRW2.out] at h2; rw [← HBY.out, List.length_append]; simp only at h2 ⊢; omega), Lib.hid (by have h3 := HRT.out; rw [HRW2.out] at h3; exact h3), HI9⟩
              case measure => simp [intOf]; omega
        · have HRW2 : Hid (rowB most l' ⟨(n, x), how⟩ = (writL fi 4 16 n x, l')) := Lib.hid (by unfold rowB; rw [HQ.out, if_neg hA, if_neg (show ¬ how = 1 by omega), if_pos hC]; rfl)
          subst hC
          clear hA
          cases q2
          all_goals
            go_wp2_with fail
            have hpl := pintL_len 4 16 fi
            refine (rput_any u5 bytes 4 16 fi w6 HI6.out.own.rb (by omega) (by unfold PreOk; simp) hfi2).mono ?_
            rintro e w7 ⟨v7, rfl, o7, a7⟩
            have HI7 := Lib.hid (HI6.out.put a7 o7)
            have HR7 := Lib.hid (HR6.out.aft a7)
            clear o7 a7 y2
            obtain ⟨y0, y1⟩ := HR7.out.cells
            by_cases hz : fi = 0
            · have hz2 : ((fi : Int) == 0) = true := by rw [hz]; rfl
              have HZ0 := Lib.hid hz
              clear hz
              go_wp2_with fail
              refine (rtext_any _ _ ⟨n.toArray⟩ _ HI7.out.own.rb (by rw [List.length_append]; omega) (by rw [z1]; omega)).mono ?_
              rintro e w8 ⟨v8, rfl, o8, a8⟩
              have HI8 := Lib.hid (HI7.out.put a8 o8)
              have HR8 := Lib.hid (HR7.out.aft a8)
              clear o8 a8 y0 y1
              obtain ⟨y0, y1⟩ := HR8.out.cells
              go_wp2_with fail
              refine (rtext_any _ _ ⟨x.toArray⟩ _ HI8.out.own.rb (by rw [List.length_append, List.length_append]; have := textL_bd n; show bytes.length + _ + (textL n).length ≤ _; omega) (by rw [z2]; omega)).mono ?_
              rintro e w9 ⟨v9, rfl, o9, a9⟩
              have HI9 := Lib.hid (HI8.out.put a9 o9)
              have HBY : Hid (bytes ++ writL fi 4 16 n x = ((bytes ++ pintL 4 16 fi) ++ textL n) ++ textL x) := Lib.hid (by unfold writL; rw [if_pos HZ0.out]; simp only [List.append_assoc])
              clear o9 a9 y0 y1 hz2
              go_wp2_with fail
              go_roundw
              case rel => exact ⟨k + 1, _, _, vo', by omega, by go_num, Lib.hid (by rw [HST.out, HRW2.out, ← HBY.out]), Lib.hid (by rw [HST2.out]; have h1 := HLN.out; have h2 := HRB.out; rw [HRW2.out] at h2; rw [← HBY.out, List.length_append]; simp only at h2 ⊢; omega), Lib.hid (by have h3 := HRT.out; rw [HRW2.out] at h3; exact h3), HI9⟩
              case measure => simp [intOf]; omega
            · have hz2 : ((fi : Int) == 0) = false := by simpa using hz
              have HZ0 := Lib.hid hz
              clear hz
              go_wp2_with fail
              refine (rtext_any _ _ ⟨x.toArray⟩ _ HI7.out.own.rb (by rw [List.length_append]; omega) (by rw [z2]; omega)).mono ?_
              rintro e w9 ⟨v9, rfl, o9, a9⟩
              have HI9 := Lib.hid (HI7.out.put a9 o9)
              have HBY : Hid (bytes ++ writL fi 4 16 n x = (bytes ++ pintL 4 16 fi) ++ textL x) := Lib.hid (by unfold writL; rw [if_neg HZ0.out]; simp only [List.append_assoc, List.nil_append])
              clear o9 a9 y0 y1 hz2
              go_wp2_with fail
              go_roundw
              case rel => exact ⟨k + 1, _, _, vo', by omega, by go_num, Lib.hid (by rw [HST.out, HRW2.out, ← HBY.out]), Lib.hid (by rw [HST2.out]; have h1 := HLN.out; have h2 := HRB.out; rw [HRW2.out] at h2; rw [← HBY.out, List.length_append]; simp only at h2 ⊢; omega), Lib.hid (by have h3 := HRT.out; rw [HRW2.out] at h3; exact h3), HI9⟩
              case measure => simp [intOf]; omega
        · have HRW2 : Hid (rowB most l' ⟨(n, x), how⟩ = (writL fi 4 0 n x, l')) := Lib.hid (by unfold rowB; rw [HQ.out, if_neg hA, if_neg hB1, if_neg hC]; rfl)
          have b1 : (how == 1) = false := by simpa using hB1
          have b3 : (how == 3) = false := by simpa using hC
          subst hq2
          clear hA hB1 hC
          go_wp2_with fail
          have hpl := pintL_len 4 0 fi
          refine (rput_any u5 bytes 4 0 fi w6 HI6.out.own.rb (by omega) (by unfold PreOk; simp) hfi2).mono ?_
          rintro e w7 ⟨v7, rfl, o7, a7⟩
          have HI7 := Lib.hid (HI6.out.put a7 o7)
          have HR7 := Lib.hid (HR6.out.aft a7)
          clear o7 a7 y2
          obtain ⟨y0, y1⟩ := HR7.out.cells
          by_cases hz : fi = 0
          · have hz2 : ((fi : Int) == 0) = true := by rw [hz]; rfl
            have HZ0 := Lib.hid hz
            clear hz
            go_wp2_with fail
            refine (rtext_any _ _ ⟨n.toArray⟩ _ HI7.out.own.rb (by rw [List.length_append]; omega) (by rw [z1]; omega)).mono ?_
            rintro e w8 ⟨v8, rfl, o8, a8⟩
            have HI8 := Lib.hid (HI7.out.put a8 o8)
            have HR8 := Lib.hid (HR7.out.aft a8)
            clear o8 a8 y0 y1
            obtain ⟨y0, y1⟩ := HR8.out.cells
            go_wp2_with fail
            refine (rtext_any _ _ ⟨x.toArray⟩ _ HI8.out.own.rb (by rw [List.length_append, List.length_append]; have := textL_bd n; show bytes.length + _ + (textL n).length ≤ _; omega) (by rw [z2]; omega)).mono ?_
            rintro e w9 ⟨v9, rfl, o9, a9⟩
            have HI9 := Lib.hid (HI8.out.put a9 o9)
            have HBY : Hid (bytes ++ writL fi 4 0 n x = ((bytes ++ pintL 4 0 fi) ++ textL n) ++ textL x) := Lib.hid (by unfold writL; rw [if_pos HZ0.out]; simp only [List.append_assoc])
            clear o9 a9 y0 y1 hz2
            go_wp2_with fail
            go_roundw
            case rel => exact ⟨k + 1, _, _, vo', by omega, by go_num, Lib.hid (by rw [HST.out, HRW2.out, ← HBY.out]), Lib.hid (by rw [HST2.out]; have h1 := HLN.out; have h2 := HRB.out; rw [HRW2.out] at h2; rw [← HBY.out, List.length_append]; simp only at h2 ⊢; omega), Lib.hid (by have h3 := HRT.out; rw [HRW2.out] at h3; exact h3), HI9⟩
            case measure => simp [intOf]; omega
          · have hz2 : ((fi : Int) == 0) = false := by simpa using hz
            have HZ0 := Lib.hid hz
            clear hz
            go_wp2_with fail
            refine (rtext_any _ _ ⟨x.toArray⟩ _ HI7.out.own.rb (by rw [List.length_append]; omega) (by rw [z2]; omega)).mono ?_
            rintro e w9 ⟨v9, rfl, o9, a9⟩
            have HI9 := Lib.hid (HI7.out.put a9 o9)
            have HBY : Hid (bytes ++ writL fi 4 0 n x = (bytes ++ pintL 4 0 fi) ++ textL x) := Lib.hid (by unfold writL; rw [if_neg HZ0.out]; simp only [List.append_assoc, List.nil_append])
            clear o9 a9 y0 y1 hz2
            go_wp2_with fail
            go_roundw
            case rel => exact ⟨k + 1, _, _, vo', by omega, by go_num, Lib.hid (by rw [HST.out, HRW2.out, ← HBY.out]), Lib.hid (by rw [HST2.out]; have h1 := HLN.out; have h2 := HRB.out; rw [HRW2.out] at h2; rw [← HBY.out, List.length_append]; simp only at h2 ⊢; omega), Lib.hid (by have h3 := HRT.out; rw [HRW2.out] at h3; exact h3), HI9⟩
            case measure => simp [intOf]; omega
      · have hkk : rows.take k = rows := List.take_of_length_le (by omega)
        rw [hkk] at HE
        have i1 : ¬ (k : Int) < (rows.length : Int) := by omega
        clear hkk
        go_wp2_with fail
        go_ret
        refine ⟨_, rfl, vo', ?_⟩
        rw [HE.out]
        exact HI.out
end Go.Proofs.YtmlnboibclfmcaaDoor
