/-
  Texts joined: Buf, HuffSz, Strs, Fl, FldPlain, Shelf, FldAll, MaxOk.
-/
import Derived.Test.YtoeeackjlclneaaGreatDoorRows
import Derived.WalkKit
import Derived.WalkSpells
import Derived.WalkLawsBesides
import Derived.Lib.Hide
import Derived.Lib.Strings
import Derived.Deep.QuietTactic
import Derived.BigQuiet
import Derived.Laws.IdiomStrings
import Derived.OwnWalk
import Derived.Laws.AppendOwnNone
import Derived.Lib.BufferRead
import Derived.Great.BuildSlice
import Derived.Great.Walk
import Derived.Deep.DeepCutAuto
import Derived.Deep.RegionLaw
import Derived.RegionTactic
import Derived.ChangeAlike
import Derived.IntWalk
import Derived.Deep.RegionHeld3
import Derived.Lib.SplitLaws
import Derived.Lib.CutLaws
import Derived.Shelf.Strings.Builder1
import Derived.Shelf.Strings.Builder2
import Derived.Shelf.Small.Strs
import Derived.Shelf.Strconv.Itoa0
import Derived.Shelf.Strconv.Itoa1
import Derived.Shelf.LaysM
import Derived.Shelf.Strconv.Itoa2
import Derived.Shelf.Strconv.Itoa3
import Derived.Shelf.Strings.Search1
import Derived.Shelf.Strings.Search2
import Derived.Shelf.Strings.Search3
import Derived.Shelf.Strings.Cut
import Derived.Shelf.Strings.Count
import Derived.Shelf.Strings.Shaped
import Derived.Shelf.Strings.Split
import Derived.Shelf.Strings.SplitShaped
import Derived.Shelf.Unicode.DecodeSlow
import Derived.Test.YtoeeackjlclneaaGreatDoorProg
section
namespace Go.Proofs.YtoeeackjlclneaaGreatDoor
open Go.RowKit
def Aft (w w':World):Prop:=Below w.heap.size w w'
theorem Aft.refl (w:World):Aft w w:=Below.refl _ _
theorem Aft.trans {a b c:World} (h:Aft a b) (k:Aft b c):Aft a c:=Below.trans h (Below.mono k h.size)
theorem Aft.drew {a b:World} (h:Aft a b):Aft a b.drew:=Below.drew h
theorem Aft.drewN {a b:World} (h:Aft a b) (n:Nat):Aft a (b.drewN n):=Below.trans h ⟨rfl,rfl,rfl,Nat.le_refl _,fun _ _=>rfl⟩
theorem Aft.alloc {a b:World} (h:Aft a b) (o:Obj):Aft a (b.alloc o):=Below.alloc h h.size o
theorem Aft.to {w w':World} (h:Aft w w'):Below w.heap.size w w':=h
theorem bset {B:Nat} {a w:World} (h:Below B a w) (b o:Nat) (v:Value) (hb:B ≤ b):Below B a (w.setCell ⟨b,o,none⟩ v):=Below.setCell h hb v
theorem size_len (s:ByteArray):s.data.toList.length = s.size:=(Lib.size_eq s).symm
def byteOf (n:Int):UInt8:=UInt8.ofNat n.toNat
end Go.Proofs.YtoeeackjlclneaaGreatDoor
namespace Go.Proofs.YtoeeackjlclneaaGreatDoor
open Go.RowKit
theorem byteOf_toNat {n:Int} (h0:0 ≤ n) (h1:n < 256):((byteOf n).toNat:Int) = n:=by
 unfold byteOf
 rw [UInt8.toNat_ofNat']
 omega
end Go.Proofs.YtoeeackjlclneaaGreatDoor
namespace Go.Proofs.YtoeeackjlclneaaGreatDoor
open Go.RowKit
theorem cell_new1 (w:World) (v:Value) (t:TypeId):(w.alloc (.cells #[v] t)).cell? ⟨w.heap.size,0,none⟩ = some v:=by simp [go_sem]
theorem le_alloc {w:World} {n:Nat} (h:n ≤ w.heap.size) (o:Obj):n ≤ (w.alloc o).heap.size:=by rw [World.size_alloc]; exact Nat.le_succ_of_le h
end Go.Proofs.YtoeeackjlclneaaGreatDoor
namespace Go.Proofs.YtoeeackjlclneaaGreatDoor
open Go.RowKit
def bv (l:List UInt8):List Value:=l.map fun c => .int .u8 (c.toNat:Int)
theorem bv_append (a b:List UInt8):bv (a ++ b) = bv a ++ bv b:=by simp [bv]
theorem info8:(Tryz.prog.info? 5).map (fun i=>(i.zero,i.size,i.bytes)) = some (some (.int .u8 0),1,1):=by kernel_rfl
def Own (w:World) (base:Nat) (v:Value) (l:List UInt8):Prop:=w.ownsRow base 5 1 v l.length (bv l)
theorem Own.nil (w:World) (base:Nat):Own w base (.slice none 0 0) []:=World.ownsRow_nil _ _ _ _
theorem Own.lt {w:World} {base:Nat} {v:Value} {l:List UInt8} (h:Own w base v l):∀ k,v.ownBlock = some k → base ≤ k ∧ k < w.heap.size:=World.ownsRow.lt h
theorem Own.aft {w w':World} {base:Nat} {v:Value} {l:List UInt8} (h:Own w base v l) (ha:Aft w w'):Own w' base v l:=by
 obtain ⟨h1,h2⟩:=h
 refine ⟨h1, ?_⟩
 rcases h2 with ⟨a,b⟩ | ⟨g,cap,cur,a,b,c,d⟩
 ·exact Or.inl ⟨a,b⟩
 ·refine Or.inr ⟨g,cap,cur,a,b, ?_,d⟩
  rw [Below.block ha g (by rcases Nat.lt_or_ge g w.heap.size with h | h; exact h; rw [Array.getElem?_eq_none h] at c; cases c)]
  exact c
theorem Own.drewN {w:World} {base:Nat} {v:Value} {l:List UInt8} (h:Own w base v l) (n:Nat):Own (w.drewN n) base v l:=h.aft ((Aft.refl _).drewN n)
theorem Own.shape {w:World} {base:Nat} {v:Value} {l:List UInt8} (h:Own w base v l):(v = .slice none 0 0 ∧ l = []) ∨ ∃ g cap,v = .slice (some ⟨g,0,none⟩) l.length cap ∧ base ≤ g ∧ g < w.heap.size ∧ l.length ≤ cap ∧ cap ≤ maxLen:=by
 obtain ⟨h1,⟨a,b⟩ | ⟨g,cap,cur,a,b,c,d,e,_⟩⟩:=id h
 ·exact Or.inl ⟨a,List.eq_nil_of_length_eq_zero b⟩
 ·exact Or.inr ⟨g,cap,a,b,(h.lt g (by rw [a]; rfl)).2,d,e⟩
theorem Own.base {w:World} {base base':Nat} {v:Value} {l:List UInt8} (h:Own w base v l) (hb:base' ≤ base):Own w base' v l:=by
 obtain ⟨h1,h2⟩:=h
 refine ⟨h1, ?_⟩
 rcases h2 with h2 | ⟨g,cap,cur,a,b,c⟩
 ·exact Or.inl h2
 ·exact Or.inr ⟨g,cap,cur,a,by omega,c⟩
theorem wpList_push {w:World} {ops:Array Oper} {rest:List Oper} {o:Oper} {a:Act} {Q:Exit → Act → World → Prop} (hgd:o.guard = none) (s x:Operand)
  (ho:o.op = .call { callee := .builtin .append,args := #[s,x],argTypes := #[81,81] })
  (base:Nat) (v:Value) (l:List UInt8) (hs:a.eval s = v) (hown:Own w base v l) (ad:Addr) (c:Nat) (n:Int) (hx:a.eval x = .slice (some ad) 1 c) (hc:w.cell? ad = some (.int .u8 n))
  (n0:0 ≤ n) (n1:n < 256) (hl:l.length + 1 ≤ 140737488355328) (hbase:base ≤ w.heap.size)
  (h:∀ v' w',Own w' base v' (l ++ [byteOf n]) → w.grownBy w' v.ownBlock → wpList Tryz.prog ops Q rest (a.put o.dst v') w'):wpList Tryz.prog ops Q (o :: rest) a w:=by
 obtain ⟨i0,hi,hz0,hz1,hz2⟩:=info_parts info8
 refine wpList_append_own w hgd s x 81 ho base 5 i0 (.int .u8 0) 1 1 Tryz.underlying81 hi hz0 hz1 hz2 rfl (by decide) v l.length (bv l) hs hown ad 1 c [.int .u8 n] hx rfl ?_ ?_ ?_ ?_ hbase ?_
 ·intro j u hj
  match j,hj with
  | 0,hj=>
   simp at hj
   subst hj
   rw [show ad.add 0 = ad by simp [Addr.add]]
   exact hc
  | j + 1,hj=>simp at hj
 ·intro u hu
  simp at hu
  subst hu
  rfl
 ·unfold maxLen; omega
 ·omega
 ·intro v' w' h1 h2 _
  refine h v' w' ?_ h2
  unfold Own
  rw [bv_append,List.length_append]
  have:bv [byteOf n] = [.int .u8 n]:=by simp [bv,byteOf_toNat n0 n1]
  rw [this]
  exact h1
theorem push_below {B base:Nat} {a w w':World} {v:Value} {l:List UInt8} (h:Below B a w) (ho:Own w base v l) (hg:w.grownBy w' v.ownBlock) (hB:B ≤ base) (hb:base ≤ w.heap.size):Below B a w':=
 Below.grown h hg (by omega) (fun k hk=>by have:=(ho.lt k hk).1; omega)
theorem own_string {w:World} {base:Nat} {v:Value} {l:List UInt8} (h:Own w base v l):(convert 81 9 v).run Tryz.prog w = .ok (.string ⟨l.toArray⟩) w:=by
 rcases h.shape with ⟨a,b⟩ | ⟨g,cap,a,b,c,d,e⟩
 ·subst a b
  exact Lib.run_convert_nil_bytes w 81 9 5 0 Tryz.underlying81 Tryz.underlying5 Tryz.underlying9
 ·subst a
  refine run_convert_bytes_back (P:=Tryz.prog) w 81 9 5 ⟨g,0,none⟩ cap l Tryz.underlying81 Tryz.underlying5 Tryz.underlying9 (fun j hj => ?_)
  have hx:=World.ownsRow.cellAt h j (by omega)
  rw [show (⟨g,0,none⟩:Addr).add j = ⟨g,j,none⟩ by simp [Addr.add]; omega,hx]
  unfold bv
  rw [List.getElem?_map,List.getElem?_eq_getElem hj]
  rfl
end Go.Proofs.YtoeeackjlclneaaGreatDoor
end
section
namespace Go.Proofs.YtoeeackjlclneaaGreatDoor.Hp
def lensL:List Nat:=[13,23,28,28,28,28,28,28,28,24,30,28,28,30,28,28,28,28,28,28,28,28,30,28,28,28,28,28,28,28,28,28,6,10,10,12,13,6,8,11,10,10,8,11,8,6,6,6,5,5,5,6,6,6,6,6,6,6,7,8,15,6,12,10,13,6,7,7,7,7,7,7,7,7,7,7,7,7,7,7,7,7,7,7,7,7,7,7,8,7,8,13,19,13,14,6,15,5,6,5,6,5,6,6,6,5,7,7,6,6,6,5,6,7,6,5,5,6,7,7,7,7,7,15,11,14,13,28,20,22,20,20,22,22,22,23,22,23,23,23,23,23,24,23,24,24,22,23,24,23,23,23,23,21,22,23,22,23,23,24,22,21,20,22,22,23,23,21,23,22,22,24,21,22,23,23,21,21,22,21,23,22,23,23,20,22,22,22,23,22,22,23,26,26,20,19,22,23,22,25,26,26,26,27,27,26,24,25,19,21,26,27,27,26,27,24,21,21,26,26,28,27,27,27,20,24,20,21,22,21,21,23,22,22,25,25,24,24,26,23,26,27,26,26,27,27,27,27,27,28,27,27,27,27,27,26,30]
def lenF (s:Int):Int:=if s < 0 ∨ 257 ≤ s then 0 else (lensL.getD s.toNat 0:Nat)
theorem lensL_len:lensL.length = 257:=by decide +kernel
theorem lensL_bd:∀ i,i < 257 → 5 ≤ lensL.getD i 0 ∧ lensL.getD i 0 ≤ 30:=by decide +kernel
theorem lenF_bd (s:Int) (h0:0 ≤ s) (h1:s ≤ 256):5 ≤ lenF s ∧ lenF s ≤ 30:=by
 unfold lenF
 rw [if_neg (by omega)]
 have:=lensL_bd s.toNat (by omega)
 omega
end Go.Proofs.YtoeeackjlclneaaGreatDoor.Hp
namespace Go.Proofs.YtoeeackjlclneaaGreatDoor
open Go.RowKit
def zeros (n:Nat):Array Value:=(List.replicate n (Value.int .i64 0)).toArray
def lensZ:List Int:=Hp.lensL.map Int.ofNat
def lensA:Array Value:=(lensZ.map (Value.int .i64)).toArray
theorem zeroV257 (w:World):(zeroValue 367).run Tryz.prog w = .ok (.agg (zeros 257)) w:=by kernel_rfl
theorem lensA_at (i:Nat) (h:i < 257):lensA[i]? = some (.int .i64 (Hp.lenF (i:Int))):=by
 have hl:i < Hp.lensL.length:=by rw [Hp.lensL_len]; exact h
 unfold lensA lensZ Hp.lenF
 rw [if_neg (by omega)]
 simp [List.getElem?_eq_getElem hl]
theorem infoInt:(Tryz.prog.info? 3).map (·.size) = some 1:=by kernel_rfl
theorem zero257:((Tryz.prog.info? 367).bind (·.zero)).map (·.cells.size) = some lensZ.length:=by kernel_rfl
theorem und257:Tryz.prog.underlying 367 = some (.array 257 3):=by kernel_rfl
theorem setRow_cell (w:World) (g:Nat) (old cells:Array Value) (t:TypeId) (hg:w.heap[g]? = some (.cells old t (0,0))) (i:Nat):(w.setRow g cells).cell? ⟨g,i,none⟩ = cells[i]? := by
 have h:=setRow_heap w g old cells t (0,0) hg
 simp [World.cell?,h]
theorem heap_new (w:World) (o:Obj):(w.alloc o).heap[w.heap.size]? = some o:=by
 show (w.heap.push o)[w.heap.size]? = some o
 simp
theorem aft_row (w:World) (cells old:Array Value) (t:TypeId):Aft w ((w.alloc (.cells old t)).setRow w.heap.size cells):=by
 refine ⟨rfl,rfl,rfl, ?_,fun k hk => ?_⟩
 ·simp [World.setRow]
 ·have h1:(w.alloc (.cells old t)).heap[k]? = w.heap[k]? := Below.heap_alloc _ _ _ hk
  rw [← h1]
  simp only [World.setRow,Array.getElem?_modify]
  rw [if_neg (by omega)]
set_option maxRecDepth 100000 in
set_option maxHeartbeats 1000000 in
theorem len_any (s : Int) (h0 : -9223372036854775808 ≤ s) (h1 : s ≤ 9223372036854775807) (w : World) :
    Calls Tryz.prog 287 #[.int .i64 s] w fun e w' => e = .returned (.int .i64 (Hp.lenF s)) ∧ Aft w w' := by
  have hzv := zeroV257
  by_cases hb : s < 0 ∨ 257 ≤ s
  · have hf : Hp.lenF s = 0 := by unfold Hp.lenF; rw [if_pos hb]
    have HF := Lib.hid hf
    have HB := Lib.hid hb
    clear hf hb
    go_enter Tryz.func287, Tryz.ntmps287
    go_upto_region 1 with fail
    go_wp2_with (first
      | (refine wpList_buildFlatArrTo rfl 367 3 257 _ rfl .i64 lensZ (some 4) rfl und257 infoInt zero257 (by kernel_rfl) ?_)
      | (refine wpList_store_rowTo rfl 367 _ _ rfl rfl w.heap.size lensA rfl rfl 367 (zeros 257) (heap_new _ _) (by kernel_rfl) (by kernel_rfl) (by kernel_rfl) ?_))
    all_goals
      first
        | (go_ret
           rw [HF.out]
           exact ⟨rfl, aft_row _ _ _ _⟩)
        | (exfalso
           have := HB.out
           omega)
  · have b0 : 0 ≤ s := by omega
    have b1 : s < 257 := by omega
    have b2 : s ≤ 256 := by omega
    have hc : ((w.alloc (.cells (zeros 257) 367)).setRow w.heap.size lensA).cell? ⟨w.heap.size, s.toNat, none⟩ = some (.int .i64 (Hp.lenF s)) := by
      rw [setRow_cell _ _ _ _ _ (heap_new _ _), lensA_at _ (by omega), Int.toNat_of_nonneg b0]
    clear hb
    go_enter Tryz.func287, Tryz.ntmps287
    go_upto_region 1 with fail
    go_wp2_with (first
      | (refine wpList_buildFlatArrTo rfl 367 3 257 _ rfl .i64 lensZ (some 4) rfl und257 infoInt zero257 (by kernel_rfl) ?_)
      | (refine wpList_store_rowTo rfl 367 _ _ rfl rfl w.heap.size lensA rfl rfl 367 (zeros 257) (heap_new _ _) (by kernel_rfl) (by kernel_rfl) (by kernel_rfl) ?_))
    go_ret
    exact ⟨rfl, aft_row _ _ _ _⟩
end Go.Proofs.YtoeeackjlclneaaGreatDoor
namespace Go.Proofs.YtoeeackjlclneaaGreatDoor
open Go.RowKit
structure Arr (w:World) (g n:Nat) (f:Nat → Int):Prop where
 cell:∀ i,i < n → w.cell? ⟨g,i,none⟩ = some (.int .i64 (f i))
 free:∀ i,i < n → w.frozen? ⟨g,i,none⟩ = false
 hb:g < w.heap.size
def upd (f:Nat → Int) (j:Nat) (v:Int):Nat → Int:=fun i=>if i = j then v else f i
theorem Arr.set {w:World} {g n:Nat} {f:Nat → Int} (h:Arr w g n f) {j:Nat} (hj:j < n) (v:Int):Arr (w.setCell ⟨g,j,none⟩ (.int .i64 v)) g n (upd f j v) where
 cell i hi:=by
  unfold upd
  by_cases e:i = j
  ·subst e; rw [if_pos rfl]; exact World.cell?_setCell_same _ _ _ (h.cell i hi)
  ·rw [if_neg e,World.cell?_setCell_other _ _ _ _ (fun h=>e (congrArg Addr.off h).symm)]; exact h.cell i hi
 free i hi:=by rw [World.frozen?_setCell]; exact h.free i hi
 hb:=by simpa [World.setCell] using h.hb
theorem Arr.other {w:World} {g n:Nat} {f:Nat → Int} (h:Arr w g n f) {p:Addr} (hp:p.block ≠ g) (v:Value):Arr (w.setCell p v) g n f where
 cell i hi:=by rw [World.cell?_setCell_other _ _ _ _ (by intro e; subst e; exact hp rfl)]; exact h.cell i hi
 free i hi:=by rw [World.frozen?_setCell]; exact h.free i hi
 hb:=by simpa [World.setCell] using h.hb
theorem Arr.aft {w w':World} {g n:Nat} {f:Nat → Int} (h:Arr w g n f) (ha:Aft w w'):Arr w' g n f where
 cell i hi:=by rw [Below.cell ha.to (p:=⟨g,i,none⟩) h.hb]; exact h.cell i hi
 free i hi:=by rw [Below.frozen ha.to (p:=⟨g,i,none⟩) h.hb]; exact h.free i hi
 hb:=Nat.lt_of_lt_of_le h.hb ha.size
theorem Arr.drewN {w:World} {g n:Nat} {f:Nat → Int} (h:Arr w g n f) (k:Nat):Arr (w.drewN k) g n f:=⟨h.cell,h.free,h.hb⟩
theorem Arr.congr {w:World} {g n:Nat} {f f':Nat → Int} (h:Arr w g n f) (e:∀ i,i < n → f i = f' i):Arr w g n f':=
 ⟨fun i hi=>by rw [← e i hi]; exact h.cell i hi,h.free,h.hb⟩
theorem Arr.new (w:World) (n:Nat) (t:TypeId):Arr (w.alloc (.cells (zeros n) t)) w.heap.size n (fun _=>0) where
 cell i hi:=by
  simp only [World.cell?,heap_new]
  simp [zeros,hi]
 free i hi:=by
  simp only [World.frozen?,heap_new]
  simp
 hb:=by simp
theorem len_of (s l:Int) (hl:Hp.lenF s = l) (h0 : -9223372036854775808 ≤ s) (h1:s ≤ 9223372036854775807) (w:World) :
  Calls Tryz.prog 287 #[.int .i64 s] w fun e w'=>e = .returned (.int .i64 l) ∧ Aft w w':=by
 rw [← hl]
 exact len_any s h0 h1 w
def count (k n:Nat):Int:=(((Hp.lensL.take k).filter (· == n)).length:Nat)
def F1 (k:Nat) (i:Nat):Int:=if 32 ≤ i ∧ i < 64 then count k (i - 32) else 0
theorem count_succ (k n:Nat) (hk:k < 257):count (k + 1) n = count k n + if Hp.lensL.getD k 0 = n then 1 else 0:=by
 have hl:k < Hp.lensL.length:=by rw [Hp.lensL_len]; exact hk
 unfold count
 rw [List.take_succ_eq_append_getElem hl,List.filter_append,List.length_append]
 have:Hp.lensL.getD k 0 = Hp.lensL[k]:=by simp [List.getD,List.getElem?_eq_getElem hl]
 rw [this]
 by_cases h:Hp.lensL[k] = n <;> simp [h]
theorem lenF_nat (k:Nat) (hk:k < 257):Hp.lenF (k:Int) = (Hp.lensL.getD k 0:Nat):=by
 unfold Hp.lenF
 rw [if_neg (by omega),Int.toNat_natCast]
theorem F1_succ (k:Nat) (hk:k < 257) (l:Int) (hl:Hp.lenF (k:Int) = l) (_:0 ≤ l) (h1:l < 32) (i:Nat):upd (F1 k) (32 + l.toNat) (F1 k (32 + l.toNat) + 1) i = F1 (k + 1) i:=by
 rw [lenF_nat k hk] at hl
 unfold upd F1
 by_cases e:i = 32 + l.toNat
 ·subst e
  rw [if_pos rfl,if_pos (by omega),if_pos (by omega),count_succ k _ hk,if_pos (by omega)]
 ·rw [if_neg e]
  by_cases hi:32 ≤ i ∧ i < 64
  ·rw [if_pos hi,if_pos hi,count_succ k _ hk,if_neg (by omega)]
   omega
  ·rw [if_neg hi,if_neg hi]
theorem count_bd (k n:Nat):0 ≤ count k n ∧ count k n ≤ 257:=by
 unfold count
 have h1:=List.length_filter_le (· == n) (Hp.lensL.take k)
 have h2:=List.length_take_le' k Hp.lensL
 rw [Hp.lensL_len] at h2
 omega
theorem F1_bd (k i:Nat):0 ≤ F1 k i ∧ F1 k i ≤ 257:=by
 unfold F1
 split
 ·exact count_bd _ _
 ·omega
theorem Arr.alloc {w:World} {g n:Nat} {f:Nat → Int} (h:Arr w g n f) (o:Obj):Arr (w.alloc o) g n f:=h.aft ((Aft.refl _).alloc o)
def firstF:Nat → Int
 | 0=>0
 | n + 1=>2 * (firstF n + count 257 n)
def startF:Nat → Int
 | 0=>0
 | n + 1=>startF n + count 257 n
theorem first_bd:∀ n,n < 33 → 0 ≤ firstF n ∧ firstF n ≤ 4294967296:=by decide +kernel
theorem start_bd:∀ n,n < 33 → 0 ≤ startF n ∧ startF n ≤ 257:=by decide +kernel
def F2 (m i:Nat):Int:=if i < 32 then (if i < m then firstF i else 0) else if i < 64 then count 257 (i - 32) else if i < 96 then (if i - 64 < m then startF (i - 64) else 0) else 0
def C2 (m i:Nat):Int:=if i < m then firstF i else 0
def A2 (m i:Nat):Int:=if i < m then startF i else 0
theorem C2_succ (m i:Nat):upd (C2 m) m (firstF m) i = C2 (m + 1) i:=by
 unfold upd C2
 by_cases e:i = m
 ·subst e; rw [if_pos rfl,if_pos (by omega)]
 ·rw [if_neg e]
  by_cases h:i < m
  ·rw [if_pos h,if_pos (by omega)]
  ·rw [if_neg h,if_neg (by omega)]
theorem A2_succ (m i:Nat):upd (A2 m) m (startF m) i = A2 (m + 1) i:=by
 unfold upd A2
 by_cases e:i = m
 ·subst e; rw [if_pos rfl,if_pos (by omega)]
 ·rw [if_neg e]
  by_cases h:i < m
  ·rw [if_pos h,if_pos (by omega)]
  ·rw [if_neg h,if_neg (by omega)]
theorem F2_succ (m:Nat) (hm:m < 32) (i:Nat):upd (upd (F2 m) m (firstF m)) (64 + m) (startF m) i = F2 (m + 1) i:=by
 unfold upd F2
 by_cases e:i = 64 + m
 ·subst e
  rw [if_pos rfl,if_neg (by omega),if_neg (by omega),if_pos (by omega),if_pos (by omega),show 64 + m - 64 = m by omega]
 ·rw [if_neg e]
  by_cases e2:i = m
  ·subst e2; rw [if_pos rfl,if_pos (by omega),if_pos (by omega)]
  ·rw [if_neg e2]
   by_cases h1:i < 32
   ·rw [if_pos h1,if_pos h1]
    by_cases h:i < m
    ·rw [if_pos h,if_pos (by omega)]
    ·rw [if_neg h,if_neg (by omega)]
   ·rw [if_neg h1,if_neg h1]
    by_cases h2:i < 64
    ·rw [if_pos h2,if_pos h2]
    ·rw [if_neg h2,if_neg h2]
     by_cases h3:i < 96
     ·rw [if_pos h3,if_pos h3]
      by_cases h:i - 64 < m
      ·rw [if_pos h,if_pos (by omega)]
      ·rw [if_neg h,if_neg (by omega)]
     ·rw [if_neg h3,if_neg h3]
theorem F1_F2 (i:Nat):F1 257 i = F2 1 i:=by
 unfold F1 F2
 by_cases h1:i < 32
 ·rw [if_neg (by omega),if_pos h1]
  by_cases h:i < 1
  ·rw [if_pos h,show i = 0 by omega]; rfl
  ·rw [if_neg h]
 ·rw [if_neg h1]
  by_cases h2:i < 64
  ·rw [if_pos (by omega),if_pos h2]
  ·rw [if_neg (by omega),if_neg h2]
   by_cases h3:i < 96
   ·rw [if_pos h3]
    by_cases h:i - 64 < 1
    ·rw [if_pos h,show i - 64 = 0 by omega]; rfl
    ·rw [if_neg h]
   ·rw [if_neg h3]
def C3 (k i:Nat):Int:=if i < 32 then firstF i + count k i else 0
def A3 (k i:Nat):Int:=if i < 32 then startF i + count k i else 0
def posF (k:Nat):Int:=startF (Hp.lensL.getD k 0) + count k (Hp.lensL.getD k 0)
def codeF (k:Nat):Int:=firstF (Hp.lensL.getD k 0) + count k (Hp.lensL.getD k 0)
def ordF:Nat → Nat → Int
 | 0=>fun _=>0
 | k + 1=>upd (ordF k) (posF k).toNat k
def F3 (k i:Nat):Int:=if i < 96 then F2 32 i else if i < 353 then ordF k (i - 96) else if i - 353 < k then codeF (i - 353) else 0
theorem pos_bd:∀ k,k < 257 → 0 ≤ posF k ∧ posF k < 257:=by decide +kernel
theorem code_bd:∀ k,k < 257 → 0 ≤ codeF k ∧ codeF k ≤ 4294967296:=by decide +kernel
theorem count_zero (n:Nat):count 0 n = 0:=rfl
theorem F2_F3 (i:Nat) (_:i < 610):F2 (31 + 1) i = F3 0 i:=by
 unfold F3
 by_cases h:i < 96
 ·rw [if_pos h]
 ·rw [if_neg h]
  have:F2 32 i = 0:=by unfold F2; rw [if_neg (by omega),if_neg (by omega),if_neg h]
  rw [this]
  by_cases h2:i < 353
  ·rw [if_pos h2]; rfl
  ·rw [if_neg h2,if_neg (by omega)]
theorem C2_C3 (i:Nat) (hi:i < 32):C2 (31 + 1) i = C3 0 i:=by
 unfold C2 C3
 rw [if_pos (by omega),if_pos hi,count_zero]
 omega
theorem A2_A3 (i:Nat) (hi:i < 32):A2 (31 + 1) i = A3 0 i:=by
 unfold A2 A3
 rw [if_pos (by omega),if_pos hi,count_zero]
 omega
theorem C3_succ (k:Nat) (hk:k < 257) (n:Nat) (hn:n = Hp.lensL.getD k 0) (hn2:n < 32) (i:Nat):upd (C3 k) n (C3 k n + 1) i = C3 (k + 1) i:=by
 unfold upd C3
 by_cases e:i = n
 ·subst e; rw [if_pos rfl,if_pos hn2,if_pos hn2,count_succ k _ hk,if_pos hn.symm]; omega
 ·rw [if_neg e]
  by_cases h:i < 32
  ·rw [if_pos h,if_pos h,count_succ k _ hk,if_neg (by omega)]; omega
  ·rw [if_neg h,if_neg h]
theorem A3_succ (k:Nat) (hk:k < 257) (n:Nat) (hn:n = Hp.lensL.getD k 0) (hn2:n < 32) (i:Nat):upd (A3 k) n (A3 k n + 1) i = A3 (k + 1) i:=by
 unfold upd A3
 by_cases e:i = n
 ·subst e; rw [if_pos rfl,if_pos hn2,if_pos hn2,count_succ k _ hk,if_pos hn.symm]; omega
 ·rw [if_neg e]
  by_cases h:i < 32
  ·rw [if_pos h,if_pos h,count_succ k _ hk,if_neg (by omega)]; omega
  ·rw [if_neg h,if_neg h]
theorem F3_succ (k:Nat) (hk:k < 257) (i:Nat):upd (upd (F3 k) (353 + k) (codeF k)) (96 + (posF k).toNat) (k:Int) i = F3 (k + 1) i:=by
 have hp:=pos_bd k hk
 unfold upd F3
 by_cases e:i = 96 + (posF k).toNat
 ·subst e
  rw [if_pos rfl,if_neg (by omega),if_pos (by omega),show 96 + (posF k).toNat - 96 = (posF k).toNat by omega]
  show _ = upd (ordF k) (posF k).toNat k (posF k).toNat
  unfold upd
  rw [if_pos rfl]
 ·rw [if_neg e]
  by_cases e2:i = 353 + k
  ·subst e2
   rw [if_pos rfl,if_neg (by omega),if_neg (by omega),if_pos (by omega),show 353 + k - 353 = k by omega]
  ·rw [if_neg e2]
   by_cases h1:i < 96
   ·rw [if_pos h1,if_pos h1]
   ·rw [if_neg h1,if_neg h1]
    by_cases h2:i < 353
    ·rw [if_pos h2,if_pos h2]
     show _ = upd (ordF k) (posF k).toNat k (i - 96)
     unfold upd
     rw [if_neg (by omega)]
    ·rw [if_neg h2,if_neg h2]
     by_cases h3:i - 353 < k
     ·rw [if_pos h3,if_pos (by omega)]
     ·rw [if_neg h3,if_neg (by omega)]
theorem zeroV32 (w:World):(zeroValue 366).run Tryz.prog w = .ok (.agg (zeros 32)) w:=by kernel_rfl
set_option maxRecDepth 100000 in
set_option maxHeartbeats 2000000 in
theorem made_any (w:World) :
  Calls Tryz.prog 288 #[] w fun e w'=>e = .returned (.pointer (some ⟨w.heap.size,0,none⟩)) ∧ Arr w' w.heap.size 610 (F3 257) ∧ Aft w w':=by
 have hzv:=zeroV32
 go_enter Tryz.func288,Tryz.ntmps288
 go_wp2_with (first
  | (refine wpList_buildTo rfl 369 _ rfl (some 8) rfl (zeros 610) (by kernel_rfl) ?_))
 have hA0:=Arr.new w 610 369
 have hB0:Below w.heap.size w (w.alloc (.cells (zeros 610) 369)):=(Below.refl _ _).alloc (Nat.le_refl _) _
 generalize w.alloc (.cells (zeros 610) 369) = W0 at *
 go_loopw [2,10] (fun _ c wr => ∃ k:Nat,k ≤ 257 ∧ c = .int .i64 (k:Int) ∧ Arr wr w.heap.size 610 (F1 k) ∧ Below w.heap.size w wr) (fun _ c _=>257 - (intOf c).toNat)
 case atStart=>exact ⟨0,by omega,by go_num,hA0.congr (fun i hi=>by simp [F1,count]),hB0⟩
 case round=>
  obtain ⟨k,hk,rfl,hA,hB⟩:=hrel
  by_cases hlt:k < 257
  ·have hlb:=Hp.lenF_bd k (by omega) (by omega)
   generalize hl:Hp.lenF k = l at *
   have HL:=Lib.hid hl
   clear hl
   have hl0:0 ≤ l:=by omega
   have hl1:l < 32:=by omega
   have hAd:Arr wr.drew w.heap.size 610 (F1 k):=hA.drewN 1
   go_wp2_with fail
   go_region_law (first
    | (go_simp; go_at_call 287; refine (len_of k l HL.out (by omega) (by omega) _).mono ?_; rintro e w1 ⟨rfl,ha⟩; have hA1:=hAd.aft ha; have c1:=hA1.cell (32 + l.toNat) (by omega); have f1:=hA1.free (32 + l.toNat) (by omega)))
   go_wp2
   go_roundw
   case rel=>
    refine ⟨k + 1,by omega,by go_num,(hA1.set (by omega) _).congr (fun i _ => ?_),bset (hB.trans (Below.trans ((Below.refl _ _).drew) (Below.mono ha hB.size))) _ _ _ (Nat.le_refl _)⟩
    have:=F1_succ k (by omega) l HL.out hl0 hl1 i
    rw [← this]
    congr 1
    have hb:=F1_bd k (32 + l.toNat)
    exact IntWalk.wrap64_in _ ⟨by omega,by omega⟩
   case measure=>simp [intOf]; omega
  ·have hk257:k = 257:=by omega
   subst hk257
   clear hA0 hB0 hlt hk
   have hA:=hA.congr (fun i _=>F1_F2 i)
   go_wp2_with fail
   obtain ⟨c,hc⟩:∃ c,c = wr.heap.size:=⟨_,rfl⟩
   have hAb:Arr ((wr.alloc (.cells (zeros 32) 366)).alloc (.cells (zeros 32) 366)) w.heap.size 610 (F2 1):=(hA.alloc _).alloc _
   have hAc:Arr ((wr.alloc (.cells (zeros 32) 366)).alloc (.cells (zeros 32) 366)) wr.heap.size 32 (C2 1):=((Arr.new wr 32 _).alloc _).congr (fun i _=>by unfold C2; by_cases h:i < 1 <;> simp [h]; rw [show i = 0 by omega]; rfl)
   have hAd:Arr ((wr.alloc (.cells (zeros 32) 366)).alloc (.cells (zeros 32) 366)) (wr.heap.size + 1) 32 (A2 1):=by
    have:=Arr.new (wr.alloc (.cells (zeros 32) 366)) 32 366
    rw [World.size_alloc] at this
    exact this.congr (fun i _=>by unfold A2; by_cases h:i < 1 <;> simp [h]; rw [show i = 0 by omega]; rfl)
   have hBw:Below w.heap.size w ((wr.alloc (.cells (zeros 32) 366)).alloc (.cells (zeros 32) 366)):=(hB.alloc hB.size _).alloc (by simp; have:=hB.size; omega) _
   have hbc:w.heap.size < wr.heap.size:=hA.hb
   generalize (wr.alloc (.cells (zeros 32) 366)).alloc (.cells (zeros 32) 366) = W2 at *
   rw [← hc] at hAc hAd hbc
   simp only [← hc]
   clear hc hA hB
   generalize hb:w.heap.size = b at *
   have HB:=Lib.hid hb
   clear hb
   go_loopw [5] (fun v wr => ∃ p:Nat,p < 32 ∧ v = .int .i64 ((p:Int) + 1) ∧ Arr wr b 610 (F2 (p + 1)) ∧ Arr wr c 32 (C2 (p + 1)) ∧ Arr wr (c + 1) 32 (A2 (p + 1)) ∧ Below b w wr) (fun v _=>32 - (intOf v).toNat)
   case atStart=>exact ⟨0,by omega,by go_num,hAb,hAc,hAd,hBw⟩
   case round=>
    clear hAb hAc hAd hBw
    obtain ⟨p,hp,rfl,hAb,hAc,hAd,hBw⟩:=hrel
    by_cases hlt:(p:Int) + 1 < 32
    ·have f0:=first_bd p (by omega)
     have f1:=first_bd (p + 1) (by omega)
     have s0:=start_bd p (by omega)
     have s1:=start_bd (p + 1) (by omega)
     have n0:=count_bd 257 p
     have ef:firstF (p + 1) = 2 * (firstF p + count 257 p):=rfl
     have es:startF (p + 1) = startF p + count 257 p:=rfl
     have b1:wr.cell? ⟨b,p,none⟩ = some (.int .i64 (firstF p)):=by rw [hAb.cell p (by omega)]; unfold F2; rw [if_pos (by omega),if_pos (by omega)]
     have b2:wr.cell? ⟨b,32 + p,none⟩ = some (.int .i64 (count 257 p)):=by rw [hAb.cell (32 + p) (by omega)]; unfold F2; rw [if_neg (by omega),if_pos (by omega),show 32 + p - 32 = p by omega]
     have c1:=hAc.cell (p + 1) (by omega)
     have g1:=hAc.free (p + 1) (by omega)
     have w1:IntKind.i64.wrap (firstF p + count 257 p) = firstF p + count 257 p:=IntWalk.i64_in _ (by omega)
     have w2:IntKind.i64.wrap (2 * (firstF p + count 257 p)) = 2 * (firstF p + count 257 p):=IntWalk.i64_in _ (by omega)
     have i1:(p:Int) < 32:=by omega
     have i2:0 ≤ (p:Int):=by omega
     have HEF:=Lib.hid ef
     have HES:=Lib.hid es
     clear ef es
     go_wp2_with fail
     go_region
     go_wp2_with fail
     have hAc3:Arr (wr.setCell ⟨c,p + 1,none⟩ (.int .i64 (2 * (firstF p + count 257 p)))).drew c 32 (C2 (p + 2)):=((hAc.set (by omega) _).drewN 1).congr (fun i _=>by rw [← HEF.out]; exact C2_succ (p + 1) i)
     have hAb3:Arr (wr.setCell ⟨c,p + 1,none⟩ (.int .i64 (2 * (firstF p + count 257 p)))).drew b 610 (F2 (p + 1)):=(hAb.other (by simp; omega) _).drewN 1
     have hAd3:Arr (wr.setCell ⟨c,p + 1,none⟩ (.int .i64 (2 * (firstF p + count 257 p)))).drew (c + 1) 32 (A2 (p + 1)):=(hAd.other (by simp) _).drewN 1
     have hB3:Below b w (wr.setCell ⟨c,p + 1,none⟩ (.int .i64 (2 * (firstF p + count 257 p)))).drew:=(bset hBw _ _ _ (by omega)).drew
     clear b1 b2 c1 g1 w1 w2 hAb hAc hAd hBw
     generalize (wr.setCell ⟨c,p + 1,none⟩ (.int .i64 (2 * (firstF p + count 257 p)))).drew = W3 at *
     have b2:W3.cell? ⟨b,32 + p,none⟩ = some (.int .i64 (count 257 p)):=by rw [hAb3.cell (32 + p) (by omega)]; unfold F2; rw [if_neg (by omega),if_pos (by omega),show 32 + p - 32 = p by omega]
     have d1:W3.cell? ⟨c + 1,p,none⟩ = some (.int .i64 (startF p)):=by rw [hAd3.cell p (by omega)]; unfold A2; rw [if_pos (by omega)]
     have d2:=hAd3.cell (p + 1) (by omega)
     have g2:=hAd3.free (p + 1) (by omega)
     have w3:IntKind.i64.wrap (startF p + count 257 p) = startF p + count 257 p:=IntWalk.i64_in _ (by omega)
     go_region
     go_wp2_with fail
     have hAd4:Arr (W3.setCell ⟨c + 1,p + 1,none⟩ (.int .i64 (startF p + count 257 p))).drew (c + 1) 32 (A2 (p + 2)):=((hAd3.set (by omega) _).drewN 1).congr (fun i _=>by rw [← HES.out]; exact A2_succ (p + 1) i)
     have hAb4:Arr (W3.setCell ⟨c + 1,p + 1,none⟩ (.int .i64 (startF p + count 257 p))).drew b 610 (F2 (p + 1)):=(hAb3.other (by simp; omega) _).drewN 1
     have hAc4:Arr (W3.setCell ⟨c + 1,p + 1,none⟩ (.int .i64 (startF p + count 257 p))).drew c 32 (C2 (p + 2)):=(hAc3.other (by simp) _).drewN 1
     have hB4:Below b w (W3.setCell ⟨c + 1,p + 1,none⟩ (.int .i64 (startF p + count 257 p))).drew:=(bset hB3 _ _ _ (by omega)).drew
     clear b2 d1 d2 g2 w3 hAb3 hAc3 hAd3 hB3
     generalize (W3.setCell ⟨c + 1,p + 1,none⟩ (.int .i64 (startF p + count 257 p))).drew = W4 at *
     have c2:W4.cell? ⟨c,p + 1,none⟩ = some (.int .i64 (firstF (p + 1))):=by rw [hAc4.cell (p + 1) (by omega)]; unfold C2; rw [if_pos (by omega)]
     have d3:W4.cell? ⟨c + 1,p + 1,none⟩ = some (.int .i64 (startF (p + 1))):=by rw [hAd4.cell (p + 1) (by omega)]; unfold A2; rw [if_pos (by omega)]
     have b3:=hAb4.cell (p + 1) (by omega)
     have b4:=hAb4.cell (64 + (p + 1)) (by omega)
     have g3:=hAb4.free (p + 1) (by omega)
     have g4:=hAb4.free (64 + (p + 1)) (by omega)
     go_region
     go_wp2_with fail
     go_roundw
     case rel=>exact ⟨p + 1,by omega,by go_num,(((hAb4.set (by omega) _).set (by omega) _).drewN 1).congr (fun i _=>F2_succ (p + 1) (by omega) i),((hAc4.other (by simp; omega) _).other (by simp; omega) _).drewN 1,((hAd4.other (by simp; omega) _).other (by simp; omega) _).drewN 1,(bset (bset hB4 _ _ _ (Nat.le_refl _)) _ _ _ (Nat.le_refl _)).drew⟩
     case measure=>simp [intOf]; omega
    ·have hp31:p = 31:=by omega
     have hAb:=hAb.congr (f':=F3 0) (fun i hi=>by rw [hp31]; exact F2_F3 i hi)
     have hAc:=hAc.congr (f':=C3 0) (fun i hi=>by rw [hp31]; exact C2_C3 i hi)
     have hAd:=hAd.congr (f':=A3 0) (fun i hi=>by rw [hp31]; exact A2_A3 i hi)
     clear hp31
     go_wp2_with fail
     go_loopw [6,7,77] (fun _ _ v wr => ∃ k:Nat,k ≤ 257 ∧ v = .int .i64 (k:Int) ∧ Arr wr b 610 (F3 k) ∧ Arr wr c 32 (C3 k) ∧ Arr wr (c + 1) 32 (A3 k) ∧ Below b w wr) (fun _ _ v _=>257 - (intOf v).toNat)
     case atStart=>exact ⟨0,by omega,by go_num,hAb,hAc,hAd,hBw⟩
     case round=>
      clear hAb hAc hAd hBw
      obtain ⟨k,hk,rfl,hAb,hAc,hAd,hBw⟩:=hrel
      by_cases hlt:k < 257
      ·have hlb:=Hp.lenF_bd k (by omega) (by omega)
       have hln:=lenF_nat k hlt
       obtain ⟨n,hn⟩:∃ n,n = Hp.lensL.getD k 0:=⟨_,rfl⟩
       rw [← hn] at hln
       rw [hln] at hlb
       have HL:=Lib.hid hln
       have HN:=Lib.hid hn
       clear hln hn
       have l0:0 ≤ (n:Int):=by omega
       have l1:(n:Int) < 32:=by omega
       have hpos:=pos_bd k hlt
       rw [posF,← HN.out] at hpos
       go_wp2_with (go_at_call 287; refine (len_of k n HL.out (by omega) (by omega) _).mono ?_; rintro e w1 ⟨rfl,ha⟩)
       have hcb:=code_bd k hlt
       rw [codeF,← HN.out] at hcb
       have hAb1:=hAb.aft ha
       have hAc1:=hAc.aft ha
       have hAd1:=hAd.aft ha
       have hB1:Below b w w1:=hBw.trans (Below.mono ha (Nat.le_of_lt hAb.hb))
       clear hAb hAc hAd hBw ha
       have c1:w1.cell? ⟨c,n,none⟩ = some (.int .i64 (firstF n + count k n)):=by rw [hAc1.cell n (by omega)]; unfold C3; rw [if_pos (by omega)]
       have d1:w1.cell? ⟨c + 1,n,none⟩ = some (.int .i64 (startF n + count k n)):=by rw [hAd1.cell n (by omega)]; unfold A3; rw [if_pos (by omega)]
       have eC:codeF k = firstF n + count k n:=by unfold codeF; rw [← HN.out]
       have eP:posF k = startF n + count k n:=by unfold posF; rw [← HN.out]
       have eC3:C3 k n = firstF n + count k n:=by unfold C3; rw [if_pos (by omega)]
       have eA3:A3 k n = startF n + count k n:=by unfold A3; rw [if_pos (by omega)]
       generalize firstF n + count k n = C at *
       generalize startF n + count k n = P at *
       have HC:=Lib.hid eC
       have HP:=Lib.hid eP
       have HC3:=Lib.hid eC3
       have HA3:=Lib.hid eA3
       clear eC eP eC3 eA3
       have p0:0 ≤ P:=hpos.1
       have p1:P < 257:=hpos.2
       have q0:0 ≤ C:=hcb.1
       have q1:C ≤ 4294967296:=hcb.2
       clear hpos hcb
       have k1:(k:Int) < 257:=by omega
       have b1:=hAb1.cell (353 + k) (by omega)
       have b2:=hAb1.cell (96 + P.toNat) (by omega)
       have g1:=hAb1.free (353 + k) (by omega)
       have g2:=hAb1.free (96 + P.toNat) (by omega)
       have g3:=hAc1.free n (by omega)
       have g4:=hAd1.free n (by omega)
       go_region
       go_wp2_with fail
       go_roundw
       case rel=>
        refine ⟨k + 1,by omega,by go_num, ?_, ?_, ?_, ?_⟩
        ·refine ((((((hAb1.set (by omega) _).set (by omega) _).other (by simp; omega) _).other (by simp; omega) _).drewN 1)).congr (fun i _ => ?_)
         rw [← HC.out,← HP.out]
         exact F3_succ k hlt i
        ·refine ((((((hAc1.other (by simp; omega) _).other (by simp; omega) _).set (by omega) _).other (by simp) _).drewN 1)).congr (fun i _ => ?_)
         rw [← HC3.out]
         exact C3_succ k hlt n HN.out (by omega) i
        ·refine ((((((hAd1.other (by simp; omega) _).other (by simp; omega) _).other (by simp) _).set (by omega) _).drewN 1)).congr (fun i _ => ?_)
         rw [← HA3.out]
         exact A3_succ k hlt n HN.out (by omega) i
        ·exact (bset (bset (bset (bset hB1 _ _ _ (Nat.le_refl _)) _ _ _ (Nat.le_refl _)) _ _ _ (by omega)) _ _ _ (by omega)).drew
       case measure=>simp [intOf]; omega
      ·have hk257:k = 257:=by omega
       go_wp2_with fail
       go_ret
       rw [HB.out]
       refine ⟨rfl, ?_, ?_⟩
       ·exact hAb.congr (fun i _=>by rw [hk257])
       ·unfold Aft
        rw [HB.out]
        exact hBw
end Go.Proofs.YtoeeackjlclneaaGreatDoor
namespace Go.Proofs.YtoeeackjlclneaaGreatDoor
open Go.RowKit
theorem F3_code (i:Nat) (h:i < 257):F3 257 (353 + i) = codeF i:=by
 unfold F3
 rw [if_neg (by omega),if_neg (by omega),show 353 + i - 353 = i by omega,if_pos h]
theorem len_byteW (c:UInt8) (w:World):Calls Tryz.prog 287 #[.int .i64 (wrap64 (c.toNat:Int))] w fun e w' => ∃ l:Nat,Hid (Hp.lenF (c.toNat:Int) = (l:Int)) ∧ 5 ≤ l ∧ l ≤ 30 ∧ e = .returned (.int .i64 (l:Int)) ∧ Aft w w':=by
 have hc:=c.toNat_lt
 rw [IntWalk.wrap64_in _ ⟨by omega,by omega⟩]
 have hb:=Hp.lenF_bd (c.toNat:Int) (by omega) (by omega)
 obtain ⟨l,hl⟩:=Int.eq_ofNat_of_zero_le (show 0 ≤ Hp.lenF (c.toNat:Int) by omega)
 refine (len_any _ (by omega) (by omega) w).mono fun e w' ⟨he,hw⟩=>⟨l,hl,by omega,by omega,by rw [he,hl],hw⟩
def sizeSum (l:List UInt8):Int:=(l.map fun c=>Hp.lenF (c.toNat:Int)).sum
def sizeF (l:List UInt8):Int:=(sizeSum l + 7) / 8
theorem sizeSum_snoc (l:List UInt8) (c:UInt8):sizeSum (l ++ [c]) = sizeSum l + Hp.lenF (c.toNat:Int):=by
 unfold sizeSum
 simp
theorem byte_lenF (c:UInt8):5 ≤ Hp.lenF (c.toNat:Int) ∧ Hp.lenF (c.toNat:Int) ≤ 30:=by
 have:=c.toNat_lt
 exact Hp.lenF_bd _ (by omega) (by omega)
theorem sizeSum_bd (l:List UInt8):5 * (l.length:Int) ≤ sizeSum l ∧ sizeSum l ≤ 30 * (l.length:Int):=by
 induction l with
 | nil=>simp [sizeSum]
 | cons c l ih=>
  have:=byte_lenF c
  have e:sizeSum (c :: l) = Hp.lenF (c.toNat:Int) + sizeSum l:=by unfold sizeSum; simp
  rw [e]
  simp only [List.length_cons]
  omega
set_option maxHeartbeats 400000 in
theorem size_any (s:ByteArray) (hs:s.size ≤ 100000000000000000) (w:World) :
  Calls Tryz.prog 239 #[.string s] w fun e w'=>e = .returned (.int .i64 (sizeF s.data.toList)) ∧ Aft w w':=by
 go_enter Tryz.func239,Tryz.ntmps239
 go_wp2_with fail
 go_loopw [3,4,7] (fun v _ c wr => ∃ k:Nat,k ≤ s.size ∧ c = .int .i64 (k:Int) ∧ v = .int .i64 (sizeSum (s.data.toList.take k)) ∧ Aft w wr) (fun _ _ c _=>s.size - (intOf c).toNat)
 case atStart=>exact ⟨0,by omega,by go_num,by simp [sizeSum],Aft.refl _⟩
 case round=>
  obtain ⟨k,hk,rfl,rfl,haft⟩:=hrel
  have hsb:=sizeSum_bd (s.data.toList.take k)
  have hln:(s.data.toList.take k).length = k:=by rw [List.length_take,size_len]; omega
  rw [hln] at hsb
  clear hln
  by_cases hlt:k < s.size
  ·have hkl:k < s.data.toList.length:=by rw [size_len]; exact hlt
   have hsn:sizeSum (s.data.toList.take (k + 1)) = sizeSum (s.data.toList.take k) + Hp.lenF (s[k].toNat:Int):=by
    rw [List.take_succ_eq_append_getElem hkl,sizeSum_snoc]
    rfl
   have HS:=Lib.hid hsn
   clear hsn
   generalize sizeSum (s.data.toList.take k) = S at *
   go_wp2_with (go_at_call 287; refine (len_byteW _ _).mono ?_; rintro e w1 ⟨l,HL,l0,l1,rfl,ha⟩)
   go_roundw
   case rel=>exact ⟨k + 1,by omega,by go_num,by rw [HS.out,HL.out],haft.trans ha⟩
   case measure=>simp [intOf]; omega
  ·have hkk:s.data.toList.take k = s.data.toList:=List.take_of_length_le (by rw [size_len]; omega)
   rw [hkk] at hsb
   rw [hkk]
   clear hkk
   go_wp2_with fail
   go_ret
   exact ⟨rfl,haft⟩
end Go.Proofs.YtoeeackjlclneaaGreatDoor
namespace Go.Proofs.YtoeeackjlclneaaGreatDoor
open Go.RowKit
def symF (c:Int) (n:Nat):Int:=if c - firstF n < 0 ∨ count 257 n ≤ c - firstF n then -1 else ordF 257 (startF n + (c - firstF n)).toNat
theorem F3_first (n:Nat) (h:n < 32):F3 257 n = firstF n:=by
 unfold F3 F2
 rw [if_pos (by omega),if_pos h,if_pos h]
theorem F3_count (n:Nat) (h:n < 32):F3 257 (32 + n) = count 257 n:=by
 unfold F3 F2
 rw [if_pos (by omega),if_neg (by omega),if_pos (by omega),show 32 + n - 32 = n by omega]
theorem F3_start (n:Nat) (h:n < 32):F3 257 (64 + n) = startF n:=by
 unfold F3 F2
 rw [if_pos (by omega),if_neg (by omega),if_neg (by omega),if_pos (by omega),if_pos (by omega),show 64 + n - 64 = n by omega]
theorem F3_order (n:Nat) (h:n < 257):F3 257 (96 + n) = ordF 257 n:=by
 unfold F3
 rw [if_neg (by omega),if_pos (by omega),show 96 + n - 96 = n by omega]
set_option maxHeartbeats 1000000 in
theorem symbol_any (b n : Nat) (c : Int) (h0 : 0 ≤ c) (h1 : c ≤ 4294967296) (hn : n < 32) (w : World) (hA : Arr w b 610 (F3 257)) :
    Calls Tryz.prog 380 #[.pointer (some ⟨b, 0, none⟩), .int .i64 c, .int .i64 (n : Int)] w fun e w' => e = .returned (.int .i64 (symF c n)) ∧ Aft w w' := by
  have a1 : w.cell? ⟨b, n, none⟩ = some (.int .i64 (firstF n)) := by rw [hA.cell n (by omega), F3_first n hn]
  have a2 : w.cell? ⟨b, 32 + n, none⟩ = some (.int .i64 (count 257 n)) := by rw [hA.cell (32 + n) (by omega), F3_count n hn]
  have a3 : w.cell? ⟨b, 64 + n, none⟩ = some (.int .i64 (startF n)) := by rw [hA.cell (64 + n) (by omega), F3_start n hn]
  have f0 := first_bd n (by omega)
  have s0 := start_bd n (by omega)
  have s1 := start_bd (n + 1) (by omega)
  have se : startF (n + 1) = startF n + count 257 n := rfl
  have n0 := count_bd 257 n
  have hsym : symF c n = if c - firstF n < 0 ∨ count 257 n ≤ c - firstF n then -1 else ordF 257 (startF n + (c - firstF n)).toNat := rfl
  by_cases hlt : c - firstF n < 0 ∨ count 257 n ≤ c - firstF n
  · rw [if_pos hlt] at hsym
    have HY := Lib.hid hsym
    have HL := Lib.hid hlt
    clear hsym hlt se s1
    go_enter Tryz.func380, Tryz.ntmps380
    go_wp2_with fail
    all_goals
      first
        | (go_ret
           rw [HY.out]
           exact ⟨rfl, Aft.refl _⟩)
        | (exfalso
           have := HL.out
           omega)
  · have k0 : 0 ≤ startF n + (c - firstF n) := by omega
    have k1 : startF n + (c - firstF n) < 257 := by omega
    have a4 : w.cell? ⟨b, 96 + (startF n + (c - firstF n)).toNat, none⟩ = some (.int .i64 (symF c n)) := by
      rw [hA.cell _ (by omega), F3_order _ (by omega), hsym, if_neg hlt]
    have k2 : 0 ≤ c - firstF n := by omega
    have k3 : c - firstF n < count 257 n := by omega
    have e1 : IntKind.i64.wrap (startF n + (c - firstF n)) = startF n + (c - firstF n) := IntWalk.i64_in _ (by omega)
    clear hsym hlt se s1 n0
    generalize symF c n = y at *
    have i0 : (n : Int) < 32 := by omega
    go_enter Tryz.func380, Tryz.ntmps380
    go_wp2_with fail
    go_quiet (fail)
    go_wp2_with fail
    go_ret
    exact ⟨rfl, (Aft.refl _).drewN _⟩
end Go.Proofs.YtoeeackjlclneaaGreatDoor
namespace Go.Proofs.YtoeeackjlclneaaGreatDoor
open Go.RowKit
def emitF:Nat → Int → Nat → List UInt8 → Nat × List UInt8
 | 0,_,n,o=>(n,o)
 | f + 1,left,n,o=>if 8 ≤ n then emitF f left (n - 8) (o ++ [byteOf (left / 2 ^ (n - 8) % 256)]) else (n,o)
def encStep (st:Int × Nat × List UInt8) (x:UInt8):Int × Nat × List UInt8:=
 let sz:=(Hp.lenF (x.toNat:Int)).toNat
 let left:=st.1 * 2 ^ sz % 18446744073709551616 + codeF x.toNat
 (left,emitF 5 left (st.2.1 + sz) st.2.2)
def encSt (l:List UInt8):Int × Nat × List UInt8:=l.foldl encStep (0,0,[])
def encF (l:List UInt8):List UInt8:=
 if 0 < (encSt l).2.1 then (encSt l).2.2 ++ [byteOf ((encSt l).1 * 2 ^ (8 - (encSt l).2.1) % 256 + (2 ^ (8 - (encSt l).2.1) - 1))] else (encSt l).2.2
theorem encSt_snoc (l:List UInt8) (x:UInt8):encSt (l ++ [x]) = encStep (encSt l) x:=by
 unfold encSt
 rw [List.foldl_append]
 rfl
theorem byte_code (c:UInt8):0 ≤ codeF c.toNat ∧ codeF c.toNat ≤ 4294967296:=code_bd _ (by have:=c.toNat_lt; omega)
theorem code_lt:∀ k,k < 257 → codeF k < 2 ^ Hp.lensL.getD k 0:=by decide +kernel
theorem wraps_u64 (n:Int) (h₀:0 ≤ n) (h₁:n < 2 ^ 64):IntKind.u64.wrap n = n:=by
 rw [IntKind.wrap_u64]
 omega
theorem two_dvd {sz:Nat} (hsz:sz ≤ 30):((2:Int) ^ sz) ∣ 18446744073709551616:=by
 have:(18446744073709551616:Int) = 2 ^ sz * 2 ^ (64 - sz):=by
  rw [← Int.pow_add,show sz + (64 - sz) = 64 by omega]
  rfl
 exact ⟨_,this⟩
theorem shl_dvd (left:Int) {sz:Nat} (hsz:sz ≤ 30):((2:Int) ^ sz) ∣ left * 2 ^ sz % 18446744073709551616:=by
 obtain ⟨q,hq⟩:=two_dvd hsz
 have h:=Int.emod_add_mul_ediv (left * 2 ^ sz) 18446744073709551616
 refine ⟨left - q * (left * 2 ^ sz / 18446744073709551616), ?_⟩
 rw [Int.mul_sub,← Int.mul_assoc,← hq,Int.mul_comm (2 ^ sz) left]
 omega
theorem shl_or {left c:Int} {sz:Nat} (_:0 ≤ left) (hsz:sz ≤ 30) (c0:0 ≤ c) (c1:c < 2 ^ sz) :
  bits .or .u64 (IntKind.u64.wrap (left * 2 ^ sz)) c = left * 2 ^ sz % 18446744073709551616 + c:=by
 rw [IntKind.wrap_u64]
 have hp:(2:Int) ^ sz ≤ 2 ^ 30:=by
  have h1:(2:Nat) ^ sz ≤ 2 ^ 30:=Nat.pow_le_pow_right (by decide) hsz
  exact_mod_cast h1
 exact bits_join .u64 64 (by decide) wraps_u64 sz _ c (by omega) (Int.emod_eq_zero_of_dvd (shl_dvd left hsz)) (by omega) c0 c1 (by omega)
theorem shl_lt (left:Int) {c:Int} {sz:Nat} (hsz:sz ≤ 30) (c1:c < 2 ^ sz):left * 2 ^ sz % 18446744073709551616 + c < 18446744073709551616:=by
 have h1:=shl_dvd left hsz
 have h2:=Int.dvd_sub (two_dvd hsz) h1
 have h3:=Int.le_of_dvd (by omega) h2
 omega
theorem last_byte {left:Int} {n:Nat} (_:0 ≤ left) (n0:0 < n) (n1:n ≤ 7):bits .or .u8 (IntKind.u64.wrap (left * 2 ^ (8 - n)) % 256) (255 / 2 ^ n) = left * 2 ^ (8 - n) % 256 + (2 ^ (8 - n) - 1) ∧ 0 ≤ left * 2 ^ (8 - n) % 256 + (2 ^ (8 - n) - 1) ∧ left * 2 ^ (8 - n) % 256 + (2 ^ (8 - n) - 1) < 256:=by
 rw [IntKind.wrap_u64]
 have hc:n = 1 ∨ n = 2 ∨ n = 3 ∨ n = 4 ∨ n = 5 ∨ n = 6 ∨ n = 7:=by omega
 rcases hc with rfl | rfl | rfl | rfl | rfl | rfl | rfl
 ·have:=bits_join .u8 8 (by decide) wraps_u8 7 (left * 2 ^ 7 % 18446744073709551616 % 256) 127 (by omega) (by omega) (by omega) (by omega) (by omega) (by omega)
  exact ⟨this.trans (by omega),by omega,by omega⟩
 ·have:=bits_join .u8 8 (by decide) wraps_u8 6 (left * 2 ^ 6 % 18446744073709551616 % 256) 63 (by omega) (by omega) (by omega) (by omega) (by omega) (by omega)
  exact ⟨this.trans (by omega),by omega,by omega⟩
 ·have:=bits_join .u8 8 (by decide) wraps_u8 5 (left * 2 ^ 5 % 18446744073709551616 % 256) 31 (by omega) (by omega) (by omega) (by omega) (by omega) (by omega)
  exact ⟨this.trans (by omega),by omega,by omega⟩
 ·have:=bits_join .u8 8 (by decide) wraps_u8 4 (left * 2 ^ 4 % 18446744073709551616 % 256) 15 (by omega) (by omega) (by omega) (by omega) (by omega) (by omega)
  exact ⟨this.trans (by omega),by omega,by omega⟩
 ·have:=bits_join .u8 8 (by decide) wraps_u8 3 (left * 2 ^ 3 % 18446744073709551616 % 256) 7 (by omega) (by omega) (by omega) (by omega) (by omega) (by omega)
  exact ⟨this.trans (by omega),by omega,by omega⟩
 ·have:=bits_join .u8 8 (by decide) wraps_u8 2 (left * 2 ^ 2 % 18446744073709551616 % 256) 3 (by omega) (by omega) (by omega) (by omega) (by omega) (by omega)
  exact ⟨this.trans (by omega),by omega,by omega⟩
 ·have:=bits_join .u8 8 (by decide) wraps_u8 1 (left * 2 ^ 1 % 18446744073709551616 % 256) 1 (by omega) (by omega) (by omega) (by omega) (by omega) (by omega)
  exact ⟨this.trans (by omega),by omega,by omega⟩
set_option maxHeartbeats 2000000 in
theorem encode_any (s:ByteArray) (w:World) (hs:s.size ≤ 100000000000) :
  Calls Tryz.prog 240 #[.string s] w fun e w' => ∃ v,e = .returned v ∧ Own w' w.heap.size v (encF s.data.toList) ∧ Aft w w':=by
 have hsz:=sizeSum_bd s.data.toList
 rw [size_len] at hsz
 obtain ⟨S,hS⟩:=Int.eq_ofNat_of_zero_le (show 0 ≤ sizeF s.data.toList by unfold sizeF; omega)
 have hS1:S ≤ 4000000000000:=by unfold sizeF at hS; omega
 have HSZ:=Lib.hid hS
 clear hS hsz
 obtain ⟨i0,hi,hz0,hz1,hz2⟩:=info_parts info8
 go_enter Tryz.func240,Tryz.ntmps240
 go_wp2_with fail
 refine (made_any _).mono ?_
 rintro e w1 ⟨rfl,hA,ha⟩
 go_wp2_with fail
 refine (size_any s (by omega) _).mono ?_
 rintro e w2 ⟨rfl,ha2⟩
 rw [HSZ.out]
 have hA2:=hA.aft ha2
 have hB2:Below w1.heap.size w1 w2:=ha2
 have hb2:i0.bytes * S ≤ 281474976710656:=by rw [hz2]; omega
 have hb3:S ≤ maxLen:=by unfold maxLen; omega
 go_wp2_with (at_make; refine wpList_make_own w2 rfl _ _ 81 rfl w1.heap.size 5 i0 (.int .u8 0) 1 Tryz.underlying81 hi hz0 hz1 .i64 .i64 _ S rfl rfl rfl hb2 hb3 ha2.size ?_; intro w3 hown3 hg3)
 have hO3:Own w3 w1.heap.size (.slice (some ⟨w2.heap.size,0,none⟩) 0 S) []:=hown3
 have hB3:Below w1.heap.size w1 w3:=Below.grown hB2 hg3 ha2.size (fun k hk=>by cases hk)
 clear hown3 hg3 hA2 hi hz0 hz1 hz2 hb2 hb3
 generalize (Value.slice (some ⟨w2.heap.size,0,none⟩) 0 S) = v0 at *
 have hzb:w.heap.size < w1.heap.size:=hA.hb
 generalize hbb:w.heap.size = b at *
 have HBB:=Lib.hid hbb
 clear hbb
 go_loopw [4,5,6,7,8,15] (fun vo vl vn _ _ vk wr => ∃ (k n:Nat) (left:Int) (o:List UInt8),k ≤ s.size ∧ vk = .int .i64 (k:Int) ∧ vl = .int .u64 left ∧ vn = .int .i64 (n:Int) ∧ n ≤ 7 ∧ 0 ≤ left ∧ left < 18446744073709551616 ∧ o.length ≤ 5 * k ∧ Hid (encSt (s.data.toList.take k) = (left,n,o)) ∧ Own wr w1.heap.size vo o ∧ Below w1.heap.size w1 wr) (fun _ _ _ _ _ vk _=>s.size - (intOf vk).toNat)
 case atStart=>exact ⟨0,0,0,[],by omega,by go_num,rfl,by go_num,by omega,by omega,by omega,by simp,Lib.hid rfl,hO3,hB3⟩
 case round=>
  obtain ⟨k,n,left,o,hk,rfl,rfl,rfl,hn7,l0,l1,hol,HE,hown,hbel⟩:=hrel
  by_cases hlt:k < s.size
  ·have hkl:k < s.data.toList.length:=by rw [size_len]; exact hlt
   have hsn:encSt (s.data.toList.take (k + 1)) = encStep (left,n,o) s[k]:=by
    rw [List.take_succ_eq_append_getElem hkl,encSt_snoc,HE.out]
    rfl
   have HSN:=Lib.hid hsn
   clear hsn
   go_wp2_with (go_at_call 287; refine (len_byteW _ _).mono ?_; rintro e w4 ⟨sz,HL,sz0,sz1,rfl,ha4⟩)
   have hbel4:Below w1.heap.size w1 w4:=hbel.trans (Below.mono ha4 hbel.size)
   have hown4:=hown.aft ha4
   have hA4:Arr w4 b 610 (F3 257):=hA.aft (Below.mono hbel4 (Nat.le_refl _))
   have c1:w4.cell? ⟨b,353 + s[k].toNat,none⟩ = some (.int .i64 (codeF s[k].toNat)):=by
    have hc:=s[k].toNat_lt
    rw [hA4.cell _ (by omega),F3_code _ (by omega)]
   have hcb:=byte_code s[k]
   have hb257:(s[k].toNat:Int) < 257:=by have:=s[k].toNat_lt; omega
   have hks:(k:Int) < (s.size:Int):=by omega
   go_region
   go_wp2_with fail
   have hlen:Hp.lensL.getD s[k].toNat 0 = sz:=by
    have h1:=lenF_nat s[k].toNat (by have:=s[k].toNat_lt; omega)
    rw [HL.out] at h1
    omega
   have hcl:=code_lt s[k].toNat (by have:=s[k].toNat_lt; omega)
   rw [hlen] at hcl
   rw [shl_or l0 (by omega) hcb.1 hcl]
   have hstep:encStep (left,n,o) s[k] = (left * 2 ^ sz % 18446744073709551616 + codeF s[k].toNat,emitF 5 (left * 2 ^ sz % 18446744073709551616 + codeF s[k].toNat) (n + sz) o):=by
    unfold encStep
    simp only [HL.out,Int.toNat_natCast]
   have hL0:0 ≤ left * 2 ^ sz % 18446744073709551616 + codeF s[k].toNat:=by omega
   have hL1:=shl_lt left (c:=codeF s[k].toNat) (sz:=sz) (by omega) hcl
   generalize left * 2 ^ sz % 18446744073709551616 + codeF s[k].toNat = L at *
   have HST:=Lib.hid hstep
   clear hstep hlen hcl hcb c1 hb257 l0 l1 HE hown hbel ha4
   have hown5:=hown4.drewN 1
   have hbel5:Below w1.heap.size w1 w4.drew:=hbel4.drew
   rw [show w4.drewN 1 = w4.drew from rfl] at hown5
   generalize w4.drew = w5 at *
   clear hown4 hbel4 hA4
   go_loopw [4,6] (fun vo vn wr => ∃ (f m:Nat) (q:List UInt8),vn = .int .i64 (m:Int) ∧ m ≤ 7 + 8 * f ∧ f ≤ 5 ∧ q.length + f ≤ o.length + 5 ∧ Hid (emitF f L m q = emitF 5 L (n + sz) o) ∧ Own wr w1.heap.size vo q ∧ Below w1.heap.size w1 wr) (fun _ vn _=>(intOf vn).toNat)
   case atStart=>exact ⟨5,n + sz,o,by go_num,by omega,by omega,by omega,Lib.hid rfl,hown5,hbel5⟩
   case round=>
    obtain ⟨f,m,q,rfl,hm,hf,hq,HQ,hownq,hbelq⟩:=hrel
    by_cases hm8:8 ≤ m
    ·obtain ⟨f,rfl⟩:∃ f',f = f' + 1:=⟨f - 1,by omega⟩
     obtain ⟨m,rfl⟩:∃ m',m = m' + 8:=⟨m - 8,by omega⟩
     have hql:q.length + 1 ≤ 140737488355328:=by omega
     go_wp2_with (at_builtin; refine wpList_push rfl _ _ rfl w1.heap.size _ q rfl (hownq.aft ((Aft.refl _).alloc _)) ⟨wr.heap.size,0,none⟩ 1 _ rfl (cell_new1 _ _ _) (Int.emod_nonneg _ (by decide)) (Int.emod_lt_of_pos _ (by decide)) hql (le_alloc hbelq.size _) ?_; intro v' w6 hown6 hgrow)
     go_roundw
     case rel=>
      have hbel6:Below w1.heap.size w1 w6:=push_below (hbelq.alloc hbelq.size _) (hownq.aft ((Aft.refl _).alloc _)) hgrow (Nat.le_refl _) (le_alloc hbelq.size _)
      refine ⟨f,m,q ++ [byteOf (L / 2 ^ m % 256)],rfl,by omega,by omega,by simp; omega, ?_,hown6,hbel6⟩
      rw [← HQ.out]
      simp only [emitF]
      rw [if_pos (by omega),show m + 8 - 8 = m by omega]
      exact Lib.hid rfl
     case measure=>simp [intOf]; omega
    ·have hstop:emitF f L m q = (m,q):=by
      cases f with
      | zero=>rfl
      | succ f=>simp only [emitF]; rw [if_neg hm8]
     rw [hstop] at HQ
     have HS:=Lib.hid hstop
     clear hstop
     go_wp2_with fail
     go_roundw
     case rel=>exact ⟨k + 1,m,L,q,by omega,by go_num,rfl,by go_num,by omega,hL0,hL1,by omega,by rw [HSN.out,HST.out,← HQ.out]; exact Lib.hid rfl,hownq,hbelq⟩
     case measure=>simp [intOf]; omega
  ·have hkk:s.data.toList.take k = s.data.toList:=List.take_of_length_le (by rw [size_len]; omega)
   rw [hkk] at HE
   have hfin:encF s.data.toList = if 0 < n then o ++ [byteOf (left * 2 ^ (8 - n) % 256 + (2 ^ (8 - n) - 1))] else o:=by
    unfold encF
    rw [HE.out]
   have HF:=Lib.hid hfin
   clear hfin hkk
   by_cases hn0:0 < n
   ·have hf2:=HF.out
    rw [if_pos hn0] at hf2
    have HF2:=Lib.hid hf2
    clear hf2 HF
    have hol2:o.length + 1 ≤ 140737488355328:=by omega
    obtain ⟨hlb,hlb0,hlb1⟩:=last_byte l0 hn0 hn7
    have hp0:0 ≤ bits .or .u8 (IntKind.u64.wrap (left * 2 ^ (8 - n)) % 256) (255 / 2 ^ n):=by rw [hlb]; exact hlb0
    have hp1:bits .or .u8 (IntKind.u64.wrap (left * 2 ^ (8 - n)) % 256) (255 / 2 ^ n) < 256:=by rw [hlb]; exact hlb1
    have HLB:=Lib.hid hlb
    clear hlb hlb0 hlb1
    go_wp2_with (at_builtin; refine wpList_push rfl _ _ rfl w1.heap.size _ o rfl (hown.aft ((Aft.refl _).alloc _)) ⟨wr.heap.size,0,none⟩ 1 _ rfl (cell_new1 _ _ _) hp0 hp1 hol2 (le_alloc hbel.size _) ?_; intro v' w6 hown6 hgrow)
    go_ret
    have hbel6:Below w1.heap.size w1 w6:=push_below (hbel.alloc hbel.size _) (hown.aft ((Aft.refl _).alloc _)) hgrow (Nat.le_refl _) (le_alloc hbel.size _)
    rw [HLB.out] at hown6
    refine ⟨_,rfl, ?_, ?_⟩
    ·rw [HF2.out,HBB.out]
     exact hown6.base (by omega)
    ·exact ha.trans (Below.mono hbel6 (Nat.le_refl _))
   ·have hf2:=HF.out
    rw [if_neg hn0] at hf2
    have HF2:=Lib.hid hf2
    clear hf2 HF
    go_wp2_with fail
    go_ret
    refine ⟨_,rfl, ?_, ?_⟩
    ·rw [HF2.out,HBB.out]
     exact hown.base (by omega)
    ·exact ha.trans (Below.mono hbel (Nat.le_refl _))
end Go.Proofs.YtoeeackjlclneaaGreatDoor
namespace Go.Proofs.YtoeeackjlclneaaGreatDoor
open Go.RowKit
def bitL (l:List UInt8) (i:Nat):Int:=(((l.getD (i / 8) 0).toNat / 2 ^ (7 - i % 8) % 2:Nat):Int)
def dstep (st:List UInt8 × Int × Nat) (x:Int):Option (List UInt8 × Int × Nat):=
 let s:=symF (2 * st.2.1 + x) (st.2.2 + 1)
 if s = 256 then none else if 0 ≤ s then some (st.1 ++ [byteOf s],0,0) else some (st.1,2 * st.2.1 + x,st.2.2 + 1)
def drun (l:List UInt8):Nat → Option (List UInt8 × Int × Nat)
 | 0=>some ([],0,0)
 | k + 1=>(drun l k).bind fun st=>dstep st (bitL l k)
def decF (l:List UInt8):List UInt8 × Int:=
 match drun l (8 * l.length) with
 | none=>([],4)
 | some (o,c,n)=>if 7 < n ∨ c ≠ 2 ^ n - 1 then ([],4) else (o,0)
theorem wraps_i64 (n:Int) (h₀:0 ≤ n) (h₁:n < 2 ^ 63):IntKind.i64.wrap n = n:=IntWalk.i64_in _ ⟨by omega,by omega⟩
theorem bit_step {l:List UInt8} {k:Nat} (hk:k / 8 < l.length) (c:Int) (c0:0 ≤ c) (c1:c < 2147483648) :
  bits .or .i64 (c * 2) (wrap64 (bits .and .u8 ((l[k / 8].toNat:Int) / 2 ^ (7 - k % 8)) 1)) = 2 * c + bitL l k:=by
 have hb:=(l[k / 8]).toNat_lt
 have hq:((l[k / 8].toNat:Int) / 2 ^ (7 - k % 8)) = ((l[k / 8].toNat / 2 ^ (7 - k % 8):Nat):Int):=by
  rw [Int.natCast_ediv]
  norm_cast
 have hle:l[k / 8].toNat / 2 ^ (7 - k % 8) ≤ l[k / 8].toNat:=Nat.div_le_self _ _
 have hbl:bitL l k = ((l[k / 8].toNat / 2 ^ (7 - k % 8):Nat):Int) % 2:=by
  unfold bitL
  rw [show l.getD (k / 8) 0 = l[k / 8] by simp [List.getD,List.getElem?_eq_getElem hk]]
  rw [Int.natCast_emod]
  rfl
 rw [hq,hbl]
 generalize l[k / 8].toNat / 2 ^ (7 - k % 8) = q at *
 have h1:=bits_mask .u8 8 (by decide) wraps_u8 1 (by decide) (q:Int) (by omega) (by omega)
 rw [show ((2:Int) ^ 1 - 1) = 1 by decide,show ((2:Int) ^ 1) = 2 by decide] at h1
 rw [h1]
 rw [IntWalk.wrap64_in _ ⟨by omega,by omega⟩,bits_join .i64 63 (by decide) wraps_i64 1 (c * 2) ((q:Int) % 2) (by omega) (by omega) (by omega) (by omega) (by omega) (by omega)]
 omega
theorem symbol_next (b n:Nat) (c:Int) (h0:0 ≤ c) (h1:c ≤ 4294967296) (hn:n + 1 < 32) (w:World) (hA:Arr w b 610 (F3 257)) :
  Calls Tryz.prog 380 #[.pointer (some ⟨b,0,none⟩),.int .i64 c,.int .i64 ((n:Int) + 1)] w fun e w' => ∃ y,Hid (symF c (n + 1) = y) ∧ e = .returned (.int .i64 y) ∧ Aft w w':=
 (symbol_any b (n + 1) c h0 h1 hn w hA).mono fun _ _ ⟨he,hw⟩=>⟨_,Lib.hid rfl,he,hw⟩
theorem bitL_bd (l:List UInt8) (i:Nat):0 ≤ bitL l i ∧ bitL l i ≤ 1:=by
 unfold bitL
 omega
theorem drun_none {l:List UInt8} {k m:Nat} (h:drun l k = none) (hm:k ≤ m):drun l m = none:=by
 induction m with
 | zero=>
  have:k = 0:=by omega
  subst this
  exact h
 | succ m ih=>
  by_cases e:k = m + 1
  ·subst e; exact h
  ·simp only [drun,ih (by omega)]
   rfl
def Inv (c:Int) (n:Nat):Prop:=0 ≤ c ∧ c < 2 ^ n ∧ firstF n + count 257 n ≤ c ∧ n ≤ 29
theorem inv_zero:Inv 0 0:=by
 refine ⟨by omega,by decide, ?_,by omega⟩
 decide +kernel
theorem full30:firstF 30 + count 257 30 = 2 ^ 30:=by decide +kernel
theorem pow_le30 {n:Nat} (h:n ≤ 30):(2:Int) ^ n ≤ 2 ^ 30:=by
 have h1:(2:Nat) ^ n ≤ 2 ^ 30:=Nat.pow_le_pow_right (by decide) h
 exact_mod_cast h1
theorem inv_step {c x:Int} {n:Nat} (h:Inv c n) (hx:0 ≤ x ∧ x ≤ 1):0 ≤ 2 * c + x ∧ 2 * c + x < 2 ^ (n + 1) ∧ firstF (n + 1) ≤ 2 * c + x:=by
 obtain ⟨h0,h1,h2,h3⟩:=h
 have:firstF (n + 1) = 2 * (firstF n + count 257 n):=rfl
 rw [Int.pow_succ]
 refine ⟨by omega,by omega,by omega⟩
theorem ord_nonneg:∀ i,i < 257 → 0 ≤ ordF 257 i ∧ ordF 257 i ≤ 256:=by decide +kernel
theorem sym_bd {c:Int} {n:Nat} (hn:n < 32) (_:firstF n ≤ c) : -1 ≤ symF c n ∧ symF c n ≤ 256:=by
 unfold symF
 split
 ·omega
 ·rename_i hlt
  have s0:=start_bd n (by omega)
  have s1:=start_bd (n + 1) (by omega)
  have se:startF (n + 1) = startF n + count 257 n:=rfl
  have:=ord_nonneg (startF n + (c - firstF n)).toNat (by omega)
  omega
theorem inv_none {c x:Int} {n:Nat} (h:Inv c n) (hx:0 ≤ x ∧ x ≤ 1) (hs:symF (2 * c + x) (n + 1) < 0):Inv (2 * c + x) (n + 1):=by
 obtain ⟨a0,a1,a2⟩:=inv_step h hx
 have hn:n + 1 ≤ 30:=by have:=h.2.2.2; omega
 have hc:firstF (n + 1) + count 257 (n + 1) ≤ 2 * c + x:=by
  unfold symF at hs
  split at hs
  ·omega
  ·rename_i hlt
   have s0:=start_bd (n + 1) (by omega)
   have s1:=start_bd (n + 1 + 1) (by omega)
   have se:startF (n + 1 + 1) = startF (n + 1) + count 257 (n + 1):=rfl
   have:=ord_nonneg (startF (n + 1) + (2 * c + x - firstF (n + 1))).toNat (by omega)
   omega
 refine ⟨a0,a1,hc, ?_⟩
 by_cases e:n + 1 = 30
 ·rw [e,full30] at hc
  rw [e] at a1
  omega
 ·omega
def RbC (w:World) (v:Value) (l:List UInt8):Prop:=
 ((∃ a,v = .slice a 0 0) ∧ l = []) ∨ ∃ b off cap,v = .slice (some ⟨b,off,none⟩) l.length cap ∧ l.length ≤ cap ∧ b < w.heap.size ∧ ∀ i (h:i < l.length),w.cell? ⟨b,off + i,none⟩ = some (.int .u8 (l[i].toNat:Int))
set_option maxHeartbeats 2000000 in
set_option maxRecDepth 20000 in
theorem decode_at (v : Value) (l : List UInt8) (w : World) (hr : RbC w v l) (hlen : l.length ≤ 100000000000) :
    Calls Tryz.prog 371 #[v] w fun e w' => e = .returned (.tuple #[.string ⟨(decF l).1.toArray⟩, .int .i64 (decF l).2]) ∧ Aft w w' := by
  rcases hr with ⟨⟨a0, rfl⟩, rfl⟩ | ⟨pb, off, cap, rfl, hcap, hpb, hcell⟩
  · have hfin : decF [] = ([], 0) := by decide +kernel
    have HF := Lib.hid hfin
    clear hfin
    go_enter Tryz.func371, Tryz.ntmps371
    go_wp2_with (go_at_call 288; refine (made_any _).mono ?_; rintro e w1 ⟨rfl, hA, ha⟩)
    clear hA
    go_loopw [5, 6, 7, 8, 9, 14] (fun vo vc vn _ _ vk wr => vo = .slice none 0 0 ∧ vc = .int .i64 0 ∧ vn = .int .i64 0 ∧ vk = .int .i64 0 ∧ wr = w1) (fun _ _ _ _ _ _ _ => 0)
    case atStart => exact ⟨rfl, rfl, rfl, rfl, rfl⟩
    case round =>
      obtain ⟨rfl, rfl, rfl, rfl, rfl⟩ := hrel
      have hcv := own_string (Own.nil wr 0)
      go_wp2_with fail
      go_ret2
      rw [HF.out]
      exact ⟨rfl, ha⟩
  · go_enter Tryz.func371, Tryz.ntmps371
    go_wp2_with (go_at_call 288; refine (made_any _).mono ?_; rintro e w1 ⟨rfl, hA, ha⟩)
    have hB : Below w1.heap.size w1 w1 := Below.refl _ _
    have hzb : w.heap.size < w1.heap.size := hA.hb
    generalize hbb : w.heap.size = b at *
    have HBB := Lib.hid hbb
    clear hbb
    go_loopw [5, 6, 7, 8, 9, 14] (fun vo vc vn _ _ vk wr => ∃ (k n : Nat) (c : Int) (o : List UInt8), k ≤ 8 * l.length ∧ vk = .int .i64 (k : Int) ∧ vc = .int .i64 c ∧ vn = .int .i64 (n : Int) ∧ Inv c n ∧ o.length ≤ k ∧ Hid (drun l k = some (o, c, n)) ∧ Own wr w1.heap.size vo o ∧ Below w1.heap.size w1 wr) (fun _ _ _ _ _ vk _ => 8 * l.length - (intOf vk).toNat)
    case atStart => exact ⟨0, 0, 0, [], by omega, by go_num, rfl, by go_num, inv_zero, by simp, Lib.hid rfl, Own.nil _ _, hB⟩
    case round =>
      obtain ⟨k, n, c, o, hk, rfl, rfl, rfl, hinv, hol, HD, hown, hbel⟩ := hrel
      have hAr : Arr wr b 610 (F3 257) := hA.aft (Below.mono hbel (Nat.le_refl _))
      have ⟨c0, c1, c2, n1⟩ := hinv
      have c3 := pow_le30 (n := n) (by omega)
      by_cases hlt : k < 8 * l.length
      · have hk8 : k / 8 < l.length := by omega
        have hc8 : wr.cell? ⟨pb, off + k / 8, none⟩ = some (.int .u8 (l[k / 8].toNat : Int)) := by
          rw [Below.cell hbel (p := ⟨pb, off + k / 8, none⟩) (by show pb < _; omega), Below.cell ha.to (p := ⟨pb, off + k / 8, none⟩) (by rw [HBB.out]; exact hpb)]
          exact hcell _ hk8
        have m8 : k % 8 < 8 := by omega
        have c4 : c < 2147483648 := by omega
        clear c1 c2 c3
        go_wp2_with fail
        rw [bit_step hk8 c c0 c4]
        obtain ⟨x0, x1⟩ := bitL_bd l k
        obtain ⟨i0, i1, i2⟩ := inv_step hinv ⟨x0, x1⟩
        have i3 := pow_le30 (n := n + 1) (by omega)
        have hsb := sym_bd (n := n + 1) (by omega) i2
        have hin := inv_none (c := c) (x := bitL l k) (n := n) hinv ⟨x0, x1⟩
        have hst : drun l (k + 1) = dstep (o, c, n) (bitL l k) := by simp only [drun, HD.out, Option.bind_some]
        unfold dstep at hst
        simp only at hst
        have hC : 2 * c + bitL l k ≤ 4294967296 := by omega
        generalize 2 * c + bitL l k = C at *
        have HST := Lib.hid hst
        have HIN := Lib.hid hin
        have HSB := Lib.hid hsb
        clear hst hin hsb i1 i2 i3 x0 x1 hc8
        refine (symbol_next b n C i0 hC (by omega) _ hAr).mono ?_
        rintro e w2 ⟨y, HY, rfl, ha2⟩
        have hyb := HSB.out
        have hbel2 : Below w1.heap.size w1 w2 := hbel.trans (Below.mono ha2 hbel.size)
        have hown2 := hown.aft ha2
        rw [HY.out] at hyb
        have y0 : -1 ≤ y := hyb.1
        have y1 : y ≤ 256 := hyb.2
        clear hyb HSB
        by_cases hy : y = 256
        · have hfin : decF l = ([], 4) := by
            have := HST.out
            rw [HY.out, if_pos hy] at this
            unfold decF
            rw [drun_none this (by omega)]
          have HF := Lib.hid hfin
          have hyB : (y == 256) = true := by simpa using hy
          clear hfin hy
          go_wp2_with fail
          go_ret2
          rw [HF.out]
          exact ⟨rfl, ha.trans (Below.mono hbel2 (Nat.le_refl _))⟩
        · have hyB : (y == 256) = false := by simpa using hy
          by_cases hn : y < 0
          · have hstep : drun l (k + 1) = some (o, C, n + 1) := by
              rw [HST.out, HY.out, if_neg hy, if_neg (by omega)]
            have HS := Lib.hid hstep
            have hinv2 := HIN.out (by rw [HY.out]; exact hn)
            have HI2 := Lib.hid hinv2
            clear hstep hy hinv2
            go_wp2_with fail
            go_roundw
            case rel => exact ⟨k + 1, n + 1, C, o, by omega, by go_num, rfl, by go_num, HI2.out, by omega, HS, hown2, hbel2⟩
            case measure => simp [intOf]; omega
          · have hstep : drun l (k + 1) = some (o ++ [byteOf y], 0, 0) := by
              rw [HST.out, HY.out, if_neg hy, if_pos (by omega)]
            have HS := Lib.hid hstep
            clear hstep
            have y2 : 0 ≤ y := by omega
            have y3 : y < 256 := by omega
            clear hy
            go_wp2_with (at_builtin; refine wpList_push rfl _ _ rfl w1.heap.size _ o rfl (hown2.aft ((Aft.refl _).alloc _)) ⟨w2.heap.size, 0, none⟩ 1 y rfl (cell_new1 _ _ _) y2 y3 (by omega) (le_alloc hbel2.size _) ?_; intro v' w3 hown3 hgrow)
            have hbel3 : Below w1.heap.size w1 w3 := push_below (hbel2.alloc hbel2.size _) (hown2.aft ((Aft.refl _).alloc _)) hgrow (Nat.le_refl _) (le_alloc hbel2.size _)
            go_wp2_with fail
            go_roundw
            case rel => exact ⟨k + 1, 0, 0, o ++ [byteOf y], by omega, by go_num, rfl, by go_num, inv_zero, by simp; omega, HS, hown3, hbel3⟩
            case measure => simp [intOf]; omega
      · have hk8 : k = 8 * l.length := by omega
        have hcv := own_string hown
        have hfin : decF l = if 7 < n ∨ c ≠ 2 ^ n - 1 then ([], 4) else (o, 0) := by
          unfold decF
          rw [← hk8, HD.out]
        have HF := Lib.hid hfin
        clear hfin
        have hbw : Aft w wr := ha.trans (Below.mono hbel (Nat.le_refl _))
        by_cases hbad : 7 < n ∨ c ≠ 2 ^ n - 1
        · have hf2 := HF.out
          rw [if_pos hbad] at hf2
          have HF2 := Lib.hid hf2
          have HB2 := Lib.hid hbad
          clear hf2 hbad HF
          go_wp2_with fail
          all_goals
            first
              | (go_ret2
                 rw [HF2.out]
                 exact ⟨rfl, hbw⟩)
              | (exfalso
                 rcases HB2.out with h | h
                 · omega
                 · simp_all)
        · have hf2 := HF.out
          rw [if_neg hbad] at hf2
          have HF2 := Lib.hid hf2
          have hn7 : n ≤ 7 := by omega
          have hcb : (c != 2 ^ n - 1) = false := by rw [bne_eq_false_iff_eq]; omega
          clear hf2 hbad HF
          go_wp2_with fail
          go_ret2
          rw [HF2.out]
          exact ⟨rfl, hbw⟩
end Go.Proofs.YtoeeackjlclneaaGreatDoor
namespace Go.Proofs.YtoeeackjlclneaaGreatDoor
open Go.RowKit
def low (c:Int):Nat → List Int
 | 0=>[]
 | n + 1=>low (c / 2) n ++ [c % 2]
def byteBits (c:UInt8):List Int:=low (c.toNat:Int) 8
def BB (l:List UInt8):List Int:=l.flatMap byteBits
def ones (n:Nat):List Int:=List.replicate n 1
def symBits (x:UInt8):List Int:=low (codeF x.toNat) (Hp.lensL.getD x.toNat 0)
def encBits (l:List UInt8):List Int:=l.flatMap symBits
theorem low_len (c:Int) (n:Nat):(low c n).length = n:=by
 induction n generalizing c with
 | zero=>rfl
 | succ n ih=>simp [low,ih]
theorem low_mod (c:Int) (n:Nat) (m:Int) (h:∃ k,m = 2 ^ n * k):low (c + m) n = low c n:=by
 induction n generalizing c m with
 | zero=>rfl
 | succ n ih=>
  obtain ⟨k,rfl⟩:=h
  have e:(2:Int) ^ (n + 1) * k = 2 * (2 ^ n * k):=by rw [Int.pow_succ,Int.mul_comm (2 ^ n) 2,Int.mul_assoc]
  simp only [low]
  rw [e,show (c + 2 * (2 ^ n * k)) / 2 = c / 2 + 2 ^ n * k by omega,ih _ _ ⟨k,rfl⟩,show (c + 2 * (2 ^ n * k)) % 2 = c % 2 by omega]
theorem low_cat (c d:Int) (a b:Nat) (h0:0 ≤ d) (h1:d < 2 ^ b):low (c * 2 ^ b + d) (a + b) = low c a ++ low d b:=by
 induction b generalizing d with
 | zero=>
  have:d = 0:=by simp at h1; omega
  subst this
  simp [low]
 | succ b ih=>
  have e:c * 2 ^ (b + 1) = 2 * (c * 2 ^ b):=by rw [Int.pow_succ,Int.mul_comm (2 ^ b) 2,← Int.mul_assoc,Int.mul_comm c 2,Int.mul_assoc]
  have hp:(2:Int) ^ (b + 1) = 2 * 2 ^ b:=by rw [Int.pow_succ,Int.mul_comm]
  show low ((c * 2 ^ (b + 1) + d) / 2) (a + b) ++ [(c * 2 ^ (b + 1) + d) % 2] = _
  rw [e,show (2 * (c * 2 ^ b) + d) / 2 = c * 2 ^ b + d / 2 by omega,ih (d / 2) (by omega) (by omega),show (2 * (c * 2 ^ b) + d) % 2 = d % 2 by omega]
  simp [low]
def runL (bs:List Int) (st:Option (List UInt8 × Int × Nat)):Option (List UInt8 × Int × Nat):=bs.foldl (fun o x=>o.bind fun s=>dstep s x) st
theorem runL_append (a b:List Int) (st:Option (List UInt8 × Int × Nat)):runL (a ++ b) st = runL b (runL a st):=by
 unfold runL
 rw [List.foldl_append]
theorem drun_range (l:List UInt8) (k:Nat):drun l k = runL ((List.range k).map (bitL l)) (some ([],0,0)):=by
 induction k with
 | zero=>rfl
 | succ k ih=>
  rw [List.range_succ,List.map_append,runL_append,← ih]
  rfl
theorem low_get (c:Int) (n j:Nat) (h:j < n):(low c n)[j]? = some (c / 2 ^ (n - 1 - j) % 2):=by
 induction n generalizing c with
 | zero=>omega
 | succ n ih=>
  simp only [low]
  by_cases e:j = n
  ·subst e
   rw [List.getElem?_append_right (by rw [low_len]; exact Nat.le_refl _),low_len]
   simp
  ·rw [List.getElem?_append_left (by rw [low_len]; omega),ih _ (by omega)]
   have hp:(2:Int) ^ (n + 1 - 1 - j) = 2 * 2 ^ (n - 1 - j):=by
    rw [show n + 1 - 1 - j = (n - 1 - j) + 1 by omega,Int.pow_succ,Int.mul_comm]
   rw [hp,Int.ediv_ediv_of_nonneg (by decide)]
theorem BB_get (l:List UInt8) (i:Nat) (h:i < 8 * l.length):(BB l)[i]? = some (bitL l i):=by
 induction l generalizing i with
 | nil=>simp at h
 | cons c r ih=>
  have e:BB (c :: r) = byteBits c ++ BB r:=by simp [BB]
  rw [e]
  have hl:(byteBits c).length = 8:=low_len _ _
  by_cases hi:i < 8
  ·rw [List.getElem?_append_left (by omega)]
   unfold byteBits
   rw [low_get _ _ _ hi]
   unfold bitL
   rw [show i / 8 = 0 by omega,show i % 8 = i by omega]
   simp only [List.getD,List.getElem?_cons_zero,Option.getD_some]
   rw [show 8 - 1 - i = 7 - i by omega]
   norm_cast
  ·rw [List.getElem?_append_right (by omega),hl,ih (i - 8) (by simp only [List.length_cons] at h; omega)]
   unfold bitL
   rw [show i / 8 = (i - 8) / 8 + 1 by omega,show i % 8 = (i - 8) % 8 by omega]
   simp [List.getD]
theorem BB_len (l:List UInt8):(BB l).length = 8 * l.length:=by
 induction l with
 | nil=>rfl
 | cons c r ih=>
  have e:BB (c :: r) = byteBits c ++ BB r:=by simp [BB]
  rw [e,List.length_append,ih,show (byteBits c).length = 8 from low_len _ _,List.length_cons]
  omega
theorem BB_range (l:List UInt8):(List.range (8 * l.length)).map (bitL l) = BB l:=by
 apply List.ext_getElem?
 intro i
 by_cases h:i < 8 * l.length
 ·rw [BB_get l i h,List.getElem?_map,List.getElem?_range h]
  rfl
 ·rw [List.getElem?_eq_none (by simp; omega),List.getElem?_eq_none (by rw [BB_len]; omega)]
theorem drun_BB (l:List UInt8):drun l (8 * l.length) = runL (BB l) (some ([],0,0)):=by
 rw [drun_range,BB_range]
end Go.Proofs.YtoeeackjlclneaaGreatDoor
namespace Go.Proofs.YtoeeackjlclneaaGreatDoor
open Go.RowKit
def symOk (x:Nat):Bool:=decide (symF (codeF x) (Hp.lensL.getD x 0) = (x:Int)) && (decide (firstF (Hp.lensL.getD x 0) ≤ codeF x) && decide (codeF x < 2 ^ Hp.lensL.getD x 0))
theorem sym_ok:∀ x,x < 257 → symOk x = true:=by decide +kernel
theorem sym_self (x:Nat) (hx:x < 257):symF (codeF x) (Hp.lensL.getD x 0) = (x:Int) ∧ firstF (Hp.lensL.getD x 0) ≤ codeF x ∧ codeF x < 2 ^ Hp.lensL.getD x 0:=by
 have:=sym_ok x hx
 unfold symOk at this
 simpa only [Bool.and_eq_true,decide_eq_true_eq] using this
theorem sym_above {c:Int} {n:Nat} (h:firstF n + count 257 n ≤ c):symF c n = -1:=by
 unfold symF
 rw [if_pos (by omega)]
theorem run_low (o:List UInt8):∀ (n:Nat) (c:Int),n ≤ 30 → 0 ≤ c → c < 2 ^ n → firstF n + count 257 n ≤ c → runL (low c n) (some (o,0,0)) = some (o,c,n)
 | 0,c,_,h0,h1,_=>by
  have:c = 0:=by simp at h1; omega
  subst this
  rfl
 | n + 1,c,hn,h0,h1,h2=>by
  have hf:firstF (n + 1) = 2 * (firstF n + count 257 n):=rfl
  have hb:=count_bd 257 (n + 1)
  have hp:(2:Int) ^ (n + 1) = 2 * 2 ^ n:=by rw [Int.pow_succ,Int.mul_comm]
  simp only [low]
  rw [runL_append,run_low o n (c / 2) (by omega) (by omega) (by omega) (by omega)]
  show dstep (o,c / 2,n) (c % 2) = _
  unfold dstep
  simp only
  rw [show 2 * (c / 2) + c % 2 = c by omega,sym_above h2]
  rfl
theorem run_sym (o:List UInt8) (x:Nat) (hx:x < 256):runL (low (codeF x) (Hp.lensL.getD x 0)) (some (o,0,0)) = some (o ++ [byteOf (x:Int)],0,0):=by
 obtain ⟨h1,h2,h3⟩:=sym_self x (by omega)
 have hl:=Hp.lensL_bd x (by omega)
 have hc:=code_bd x (by omega)
 obtain ⟨n,hn⟩:∃ n,Hp.lensL.getD x 0 = n + 1:=⟨Hp.lensL.getD x 0 - 1,by omega⟩
 rw [hn] at h1 h2 h3 hl ⊢
 have hf:firstF (n + 1) = 2 * (firstF n + count 257 n):=rfl
 have hp:(2:Int) ^ (n + 1) = 2 * 2 ^ n:=by rw [Int.pow_succ,Int.mul_comm]
 simp only [low]
 rw [runL_append,run_low o n (codeF x / 2) (by omega) (by omega) (by omega) (by omega)]
 show dstep (o,codeF x / 2,n) (codeF x % 2) = _
 unfold dstep
 simp only
 rw [show 2 * (codeF x / 2) + codeF x % 2 = codeF x by omega,h1,if_neg (by omega),if_pos (by omega)]
theorem byteOf_self (x:UInt8):byteOf ((x.toNat:Nat):Int) = x:=by
 apply UInt8.toNat_inj.1
 have:=byteOf_toNat (n:=(x.toNat:Int)) (by omega) (by have:=x.toNat_lt; omega)
 omega
theorem run_enc (l o:List UInt8):runL (encBits l) (some (o,0,0)) = some (o ++ l,0,0):=by
 induction l generalizing o with
 | nil=>simp [encBits,runL]
 | cons x l ih=>
  have e:encBits (x :: l) = symBits x ++ encBits l:=by simp [encBits]
  rw [e,runL_append]
  unfold symBits
  rw [run_sym o x.toNat x.toNat_lt,byteOf_self,ih]
  simp
theorem ones_ok:∀ p,p < 8 → firstF p + count 257 p ≤ 2 ^ p - 1:=by decide +kernel
theorem low_ones:∀ p,p < 8 → low (2 ^ p - 1) p = ones p:=by decide +kernel
theorem run_ones (o:List UInt8) (p:Nat) (hp:p < 8):runL (ones p) (some (o,0,0)) = some (o,2 ^ p - 1,p):=by
 rw [← low_ones p hp]
 have hpos:(0:Int) < 2 ^ p:=Int.pow_pos (by decide)
 exact run_low o p _ (by omega) (by omega) (by omega) (ones_ok p hp)
end Go.Proofs.YtoeeackjlclneaaGreatDoor
namespace Go.Proofs.YtoeeackjlclneaaGreatDoor
open Go.RowKit
theorem low_split (c:Int) (a b:Nat):low c (a + b) = low (c / 2 ^ b) a ++ low c b:=by
 have hp:(0:Int) < 2 ^ b:=Int.pow_pos (by decide)
 have e:c = (c / 2 ^ b) * 2 ^ b + c % 2 ^ b:=by
  have:=Int.emod_add_mul_ediv c (2 ^ b)
  rw [Int.mul_comm] at this
  omega
 have h1:low c b = low (c % 2 ^ b) b:=by
  have:=low_mod (c % 2 ^ b) b (2 ^ b * (c / 2 ^ b)) ⟨_,rfl⟩
  rw [Int.emod_add_mul_ediv] at this
  exact this
 rw [h1,← low_cat (c / 2 ^ b) (c % 2 ^ b) a b (Int.emod_nonneg _ (by omega)) (Int.emod_lt_of_pos _ hp),← e]
theorem byteBits_low (x:Int):byteBits (byteOf (x % 256)) = low x 8:=by
 unfold byteBits
 rw [byteOf_toNat (by omega) (by omega)]
 have:=low_mod (x % 256) 8 (2 ^ 8 * (x / 256)) ⟨_,rfl⟩
 rw [show x % 256 + 2 ^ 8 * (x / 256) = x by omega] at this
 exact this.symm
theorem BB_append (a b:List UInt8):BB (a ++ b) = BB a ++ BB b:=by simp [BB]
theorem BB_one (c:UInt8):BB [c] = byteBits c:=by simp [BB]
theorem encBits_append (a b:List UInt8):encBits (a ++ b) = encBits a ++ encBits b:=by simp [encBits]
theorem encBits_one (c:UInt8):encBits [c] = symBits c:=by simp [encBits]
theorem emit_bits (left:Int):∀ (f n:Nat) (o:List UInt8),n ≤ 7 + 8 * f →
  (emitF f left n o).1 ≤ 7 ∧ BB (emitF f left n o).2 ++ low left (emitF f left n o).1 = BB o ++ low left n
 | 0,n,o,h=>⟨by simpa [emitF] using h,rfl⟩
 | f + 1,n,o,h=>by
  unfold emitF
  by_cases h8:8 ≤ n
  ·rw [if_pos h8]
   obtain ⟨h1,h2⟩:=emit_bits left f (n - 8) (o ++ [byteOf (left / 2 ^ (n - 8) % 256)]) (by omega)
   refine ⟨h1, ?_⟩
   rw [h2,BB_append,BB_one,byteBits_low,List.append_assoc,← low_split,show 8 + (n - 8) = n by omega]
  ·rw [if_neg h8]
   exact ⟨by omega,rfl⟩
theorem pow_dvd64 {k:Nat} (h:k ≤ 64) (x:Int):∃ q,18446744073709551616 * x = 2 ^ k * q:=by
 refine ⟨2 ^ (64 - k) * x, ?_⟩
 rw [← Int.mul_assoc,← Int.pow_add,show k + (64 - k) = 64 by omega]
 rfl
theorem step_bits (left:Int) (n:Nat) (x:UInt8) (hn:n ≤ 7) :
  low (left * 2 ^ (Hp.lensL.getD x.toNat 0) % 18446744073709551616 + codeF x.toNat) (n + Hp.lensL.getD x.toNat 0) = low left n ++ symBits x:=by
 have hx:=x.toNat_lt
 have hl:=Hp.lensL_bd x.toNat (by omega)
 have hc:=code_lt x.toNat (by omega)
 have hb:=byte_code x
 unfold symBits
 generalize Hp.lensL.getD x.toNat 0 = sz at *
 rw [← low_cat left (codeF x.toNat) n sz hb.1 hc]
 have e:=Int.emod_add_mul_ediv (left * 2 ^ sz) 18446744073709551616
 have:=low_mod (left * 2 ^ sz % 18446744073709551616 + codeF x.toNat) (n + sz) (18446744073709551616 * (left * 2 ^ sz / 18446744073709551616)) (pow_dvd64 (by omega) _)
 rw [← this]
 congr 1
 omega
theorem snoc_ind {α:Type} {P:List α → Prop} (h0:P []) (h1:∀ l x,P l → P (l ++ [x])) (l:List α):P l:=by
 have h:∀ r:List α,P r.reverse:=by
  intro r
  induction r with
  | nil=>exact h0
  | cons x r ih=>rw [List.reverse_cons]; exact h1 _ _ ih
 have:=h l.reverse
 rwa [List.reverse_reverse] at this
theorem encSt_bits (l:List UInt8):(encSt l).2.1 ≤ 7 ∧ BB (encSt l).2.2 ++ low (encSt l).1 (encSt l).2.1 = encBits l:=by
 refine snoc_ind (P:=fun l=>(encSt l).2.1 ≤ 7 ∧ BB (encSt l).2.2 ++ low (encSt l).1 (encSt l).2.1 = encBits l) ⟨by decide,rfl⟩ ?_ l
 ·intro l x ih
  rw [encSt_snoc]
  obtain ⟨h1,h2⟩:=ih
  have hx:=x.toNat_lt
  have hl:=Hp.lensL_bd x.toNat (by omega)
  have hsz:(Hp.lenF (x.toNat:Int)).toNat = Hp.lensL.getD x.toNat 0:=by rw [lenF_nat _ (by omega)]; simp
  unfold encStep
  simp only [hsz]
  have hs:=step_bits (encSt l).1 (encSt l).2.1 x h1
  obtain ⟨g1,g2⟩:=emit_bits ((encSt l).1 * 2 ^ (Hp.lensL.getD x.toNat 0) % 18446744073709551616 + codeF x.toNat) 5 ((encSt l).2.1 + Hp.lensL.getD x.toNat 0) (encSt l).2.2 (by omega)
  refine ⟨g1, ?_⟩
  rw [g2,hs,← List.append_assoc,h2,encBits_append,encBits_one]
theorem encF_bits (l:List UInt8):∃ p,p < 8 ∧ BB (encF l) = encBits l ++ ones p:=by
 obtain ⟨h1,h2⟩:=encSt_bits l
 unfold encF
 generalize encSt l = st at *
 obtain ⟨left,n,o⟩:=st
 simp only at *
 by_cases hn:0 < n
 ·rw [if_pos hn]
  refine ⟨8 - n,by omega, ?_⟩
  rw [BB_append,BB_one,← h2,List.append_assoc]
  congr 1
  have hpos:(0:Int) < 2 ^ (8 - n):=Int.pow_pos (by decide)
  have hp:=low_cat left (2 ^ (8 - n) - 1) n (8 - n) (by omega) (by omega)
  rw [low_ones (8 - n) (by omega),show n + (8 - n) = 8 by omega] at hp
  rw [← hp]
  unfold byteBits
  have hlt:left * 2 ^ (8 - n) % 256 + (2 ^ (8 - n) - 1) < 256 ∧ 0 ≤ left * 2 ^ (8 - n) % 256:=by
   have hc:n = 1 ∨ n = 2 ∨ n = 3 ∨ n = 4 ∨ n = 5 ∨ n = 6 ∨ n = 7:=by omega
   rcases hc with rfl | rfl | rfl | rfl | rfl | rfl | rfl <;> simp only [show (8 - 1:Nat) = 7 from rfl,show (8 - 2:Nat) = 6 from rfl,show (8 - 3:Nat) = 5 from rfl,show (8 - 4:Nat) = 4 from rfl,show (8 - 5:Nat) = 3 from rfl,show (8 - 6:Nat) = 2 from rfl,show (8 - 7:Nat) = 1 from rfl] <;> constructor <;> omega
  rw [byteOf_toNat (by omega) hlt.1]
  have:=low_mod (left * 2 ^ (8 - n) % 256 + (2 ^ (8 - n) - 1)) 8 (2 ^ 8 * (left * 2 ^ (8 - n) / 256)) ⟨_,rfl⟩
  rw [← this]
  congr 1
  omega
 ·rw [if_neg hn]
  refine ⟨0,by omega, ?_⟩
  have:n = 0:=by omega
  subst this
  rw [← h2]
  simp [low,ones]
theorem decF_run (l:List UInt8):decF l = match runL (BB l) (some ([],0,0)) with
  | none=>([],4)
  | some (o,c,n)=>if 7 < n ∨ c ≠ 2 ^ n - 1 then ([],4) else (o,0):=by
 unfold decF
 rw [drun_BB]
 try rfl
theorem dec_enc (l:List UInt8):decF (encF l) = (l,0):=by
 obtain ⟨p,hp,h⟩:=encF_bits l
 rw [decF_run,h,runL_append,run_enc,run_ones _ _ hp]
 simp only [List.nil_append]
 rw [if_neg (by simp; omega)]
end Go.Proofs.YtoeeackjlclneaaGreatDoor
namespace Go.Proofs.YtoeeackjlclneaaGreatDoor
open Go.RowKit
theorem encBits_sum (l:List UInt8):((encBits l).length:Int) = sizeSum l:=by
 induction l with
 | nil=>rfl
 | cons x l ih=>
  have e:encBits (x :: l) = symBits x ++ encBits l:=by simp [encBits]
  have hx:=x.toNat_lt
  have e2:sizeSum (x :: l) = Hp.lenF (x.toNat:Int) + sizeSum l:=by simp [sizeSum]
  rw [e,e2,List.length_append,lenF_nat _ (by omega)]
  unfold symBits
  rw [low_len]
  omega
theorem sizeF_len (l:List UInt8):sizeF l = ((encF l).length:Int):=by
 obtain ⟨p,hp,h⟩:=encF_bits l
 have h1:=congrArg List.length h
 rw [List.length_append,BB_len] at h1
 simp only [ones,List.length_replicate] at h1
 have:=encBits_sum l
 unfold sizeF
 omega
end Go.Proofs.YtoeeackjlclneaaGreatDoor
end
section
namespace Go.Proofs.YtoeeackjlclneaaGreatDoor
open Go.RowKit
def strV (x:List UInt8):Value := .string ⟨x.toArray⟩
end Go.Proofs.YtoeeackjlclneaaGreatDoor
end
section
namespace Go.Proofs.YtoeeackjlclneaaGreatDoor
open Go.RowKit
abbrev FieldL:=List UInt8 × List UInt8
def fv (l:List FieldL):List Value:=l.flatMap fun f=>[strV f.1,strV f.2]
theorem fv_cons (f:FieldL) (l:List FieldL):fv (f :: l) = strV f.1 :: strV f.2 :: fv l:=by simp [fv]
theorem fv_get:∀ (l:List FieldL) (i:Nat) (h:i < l.length),(fv l)[i * 2]? = some (strV l[i].1) ∧ (fv l)[i * 2 + 1]? = some (strV l[i].2)
 | f :: l,0,_=>by rw [fv_cons]; exact ⟨rfl,rfl⟩
 | f :: l,i + 1,h=>by
  rw [fv_cons,show (i + 1) * 2 = (i * 2) + 1 + 1 by omega]
  exact fv_get l i (by simpa using h)
def FB (w:World) (g:Nat) (l:List FieldL):Prop:=w.heap[g]? = some (.cells (fv l).toArray 50 (0,0))
theorem FB.cell {w:World} {g:Nat} {l:List FieldL} (h:FB w g l) {i:Nat} (hi:i < l.length):w.cell? ⟨g,i * 2,none⟩ = some (strV l[i].1) ∧ w.cell? ⟨g,i * 2 + 1,none⟩ = some (strV l[i].2):=by
 obtain ⟨h1,h2⟩:=fv_get l i hi
 rw [cell_of_row w g (i * 2) _ _ (0,0) h,cell_of_row w g (i * 2 + 1) _ _ (0,0) h]
 simpa using ⟨h1,h2⟩
theorem infoF:(Tryz.prog.info? 50).map (fun i=>(i.zero,i.size,i.bytes)) = some (some (.agg #[.string ⟨#[]⟩,.string ⟨#[]⟩]),2,32):=by kernel_rfl
def OwnF (w:World) (base:Nat) (v:Value) (l:List FieldL):Prop:=w.ownsRow base 50 2 v l.length (fv l)
theorem OwnF.nil (w:World) (base:Nat):OwnF w base (.slice none 0 0) []:=World.ownsRow_nil _ _ _ _
theorem OwnF.lt {w:World} {base:Nat} {v:Value} {l:List FieldL} (h:OwnF w base v l):∀ k,v.ownBlock = some k → base ≤ k ∧ k < w.heap.size:=World.ownsRow.lt h
theorem OwnF.aft {w w':World} {base:Nat} {v:Value} {l:List FieldL} (h:OwnF w base v l) (ha:Aft w w'):OwnF w' base v l:=by
 obtain ⟨h1,h2⟩:=h
 refine ⟨h1, ?_⟩
 rcases h2 with ⟨a,b⟩ | ⟨g,cap,cur,a,b,c,d⟩
 ·exact Or.inl ⟨a,b⟩
 ·refine Or.inr ⟨g,cap,cur,a,b, ?_,d⟩
  rw [Below.block ha g (by rcases Nat.lt_or_ge g w.heap.size with h | h; exact h; rw [Array.getElem?_eq_none h] at c; cases c)]
  exact c
theorem OwnF.base {w:World} {base base':Nat} {v:Value} {l:List FieldL} (h:OwnF w base v l) (hb:base' ≤ base):OwnF w base' v l:=by
 obtain ⟨h1,h2⟩:=h
 refine ⟨h1, ?_⟩
 rcases h2 with h2 | ⟨g,cap,cur,a,b,c⟩
 ·exact Or.inl h2
 ·exact Or.inr ⟨g,cap,cur,a,by omega,c⟩
theorem wpList_pushF {w:World} {ops:Array Oper} {rest:List Oper} {o:Oper} {a:Act} {Q:Exit → Act → World → Prop} (hgd:o.guard = none) (s x:Operand)
  (ho:o.op = .call { callee := .builtin .append,args := #[s,x],argTypes := #[27,27] })
  (base:Nat) (v:Value) (l:List FieldL) (hs:a.eval s = v) (hown:OwnF w base v l) (g:Nat) (c:Nat) (n:FieldL) (hx:a.eval x = .slice (some ⟨g,0,none⟩) 1 c) (h0:w.cell? ⟨g,0,none⟩ = some (strV n.1)) (h1:w.cell? ⟨g,1,none⟩ = some (strV n.2))
  (hl:l.length + 1 ≤ 1000000000000) (hbase:base ≤ w.heap.size)
  (h:∀ v' w',OwnF w' base v' (l ++ [n]) → w.grownBy w' v.ownBlock → wpList Tryz.prog ops Q rest (a.put o.dst v') w'):wpList Tryz.prog ops Q (o :: rest) a w:=by
 obtain ⟨i0,hi,hz0,hz1,hz2⟩:=info_parts infoF
 refine wpList_append_own w hgd s x 27 ho base 50 i0 _ 2 32 Tryz.underlying27 hi hz0 hz1 hz2 rfl (by decide) v l.length (fv l) hs hown ⟨g,0,none⟩ 1 c [strV n.1,strV n.2] hx rfl ?_ ?_ ?_ ?_ hbase ?_
 ·intro j u hj
  match j,hj with
  | 0,hj=>simp at hj; subst hj; exact h0
  | 1,hj=>simp at hj; subst hj; exact h1
  | j + 2,hj=>simp at hj
 ·intro u hu
  simp at hu
  rcases hu with rfl | rfl <;> rfl
 ·unfold maxLen; omega
 ·omega
 ·intro v' w' g1 g2 _
  refine h v' w' ?_ g2
  unfold OwnF
  have e:fv (l ++ [n]) = fv l ++ [strV n.1,strV n.2]:=by simp [fv]
  rw [e,List.length_append]
  exact g1
theorem pushF_below {B base:Nat} {a w w':World} {v:Value} {l:List FieldL} (h:Below B a w) (ho:OwnF w base v l) (hg:w.grownBy w' v.ownBlock) (hB:B ≤ base) (hb:base ≤ w.heap.size):Below B a w':=
 Below.grown h hg (by omega) (fun k hk=>by have:=(ho.lt k hk).1; omega)
end Go.Proofs.YtoeeackjlclneaaGreatDoor
end
section
namespace Go.Proofs.YtoeeackjlclneaaGreatDoor
open Go.RowKit
def staticT:List FieldL:=[
 ([58,97,117,116,104,111,114,105,116,121],[]),
 ([58,109,101,116,104,111,100],[71,69,84]),
 ([58,109,101,116,104,111,100],[80,79,83,84]),
 ([58,112,97,116,104],[47]),
 ([58,112,97,116,104],[47,105,110,100,101,120,46,104,116,109,108]),
 ([58,115,99,104,101,109,101],[104,116,116,112]),
 ([58,115,99,104,101,109,101],[104,116,116,112,115]),
 ([58,115,116,97,116,117,115],[50,48,48]),
 ([58,115,116,97,116,117,115],[50,48,52]),
 ([58,115,116,97,116,117,115],[50,48,54]),
 ([58,115,116,97,116,117,115],[51,48,52]),
 ([58,115,116,97,116,117,115],[52,48,48]),
 ([58,115,116,97,116,117,115],[52,48,52]),
 ([58,115,116,97,116,117,115],[53,48,48]),
 ([97,99,99,101,112,116,45,99,104,97,114,115,101,116],[]),
 ([97,99,99,101,112,116,45,101,110,99,111,100,105,110,103],[103,122,105,112,44,32,100,101,102,108,97,116,101]),
 ([97,99,99,101,112,116,45,108,97,110,103,117,97,103,101],[]),
 ([97,99,99,101,112,116,45,114,97,110,103,101,115],[]),
 ([97,99,99,101,112,116],[]),
 ([97,99,99,101,115,115,45,99,111,110,116,114,111,108,45,97,108,108,111,119,45,111,114,105,103,105,110],[]),
 ([97,103,101],[]),
 ([97,108,108,111,119],[]),
 ([97,117,116,104,111,114,105,122,97,116,105,111,110],[]),
 ([99,97,99,104,101,45,99,111,110,116,114,111,108],[]),
 ([99,111,110,116,101,110,116,45,100,105,115,112,111,115,105,116,105,111,110],[]),
 ([99,111,110,116,101,110,116,45,101,110,99,111,100,105,110,103],[]),
 ([99,111,110,116,101,110,116,45,108,97,110,103,117,97,103,101],[]),
 ([99,111,110,116,101,110,116,45,108,101,110,103,116,104],[]),
 ([99,111,110,116,101,110,116,45,108,111,99,97,116,105,111,110],[]),
 ([99,111,110,116,101,110,116,45,114,97,110,103,101],[]),
 ([99,111,110,116,101,110,116,45,116,121,112,101],[]),
 ([99,111,111,107,105,101],[]),
 ([100,97,116,101],[]),
 ([101,116,97,103],[]),
 ([101,120,112,101,99,116],[]),
 ([101,120,112,105,114,101,115],[]),
 ([102,114,111,109],[]),
 ([104,111,115,116],[]),
 ([105,102,45,109,97,116,99,104],[]),
 ([105,102,45,109,111,100,105,102,105,101,100,45,115,105,110,99,101],[]),
 ([105,102,45,110,111,110,101,45,109,97,116,99,104],[]),
 ([105,102,45,114,97,110,103,101],[]),
 ([105,102,45,117,110,109,111,100,105,102,105,101,100,45,115,105,110,99,101],[]),
 ([108,97,115,116,45,109,111,100,105,102,105,101,100],[]),
 ([108,105,110,107],[]),
 ([108,111,99,97,116,105,111,110],[]),
 ([109,97,120,45,102,111,114,119,97,114,100,115],[]),
 ([112,114,111,120,121,45,97,117,116,104,101,110,116,105,99,97,116,101],[]),
 ([112,114,111,120,121,45,97,117,116,104,111,114,105,122,97,116,105,111,110],[]),
 ([114,97,110,103,101],[]),
 ([114,101,102,101,114,101,114],[]),
 ([114,101,102,114,101,115,104],[]),
 ([114,101,116,114,121,45,97,102,116,101,114],[]),
 ([115,101,114,118,101,114],[]),
 ([115,101,116,45,99,111,111,107,105,101],[]),
 ([115,116,114,105,99,116,45,116,114,97,110,115,112,111,114,116,45,115,101,99,117,114,105,116,121],[]),
 ([116,114,97,110,115,102,101,114,45,101,110,99,111,100,105,110,103],[]),
 ([117,115,101,114,45,97,103,101,110,116],[]),
 ([118,97,114,121],[]),
 ([118,105,97],[]),
 ([119,119,119,45,97,117,116,104,101,110,116,105,99,97,116,101],[])]
theorem staticT_len:staticT.length = 61:=by kernel_rfl
def pieceOf (f:FieldL):List UInt8:=if f.2.isEmpty then f.1 else f.1 ++ 61 :: f.2
def joinC (c:UInt8):List (List UInt8) → List UInt8
 | []=>[]
 | [p]=>p
 | p :: q :: r=>p ++ c :: joinC c (q :: r)
theorem pre_one (c b:UInt8) (l:List UInt8):[c].isPrefixOf (b :: l) = (c == b):=by
 simp [List.isPrefixOf]
theorem index_no (c:UInt8):∀ p:List UInt8,c ∉ p → Lib.index p [c] = -1
 | [],_=>rfl
 | b :: l,h=>by
  have h1:c ≠ b:=fun e=>h (by rw [e]; simp)
  have h2:(c == b) = false:=by simpa using h1
  have ih:=index_no c l (fun e=>h (by simp [e]))
  unfold Lib.index
  rw [pre_one,h2,ih]
  rfl
theorem index_at (c:UInt8) (r:List UInt8):∀ p:List UInt8,c ∉ p → Lib.index (p ++ c :: r) [c] = (p.length:Int)
 | [],_=>by
  show Lib.index (c :: r) [c] = _
  unfold Lib.index
  rw [pre_one,if_pos (by simp)]
  rfl
 | b :: l,h=>by
  have h1:c ≠ b:=fun e=>h (by rw [e]; simp)
  have h2:(c == b) = false:=by simpa using h1
  have ih:=index_at c r l (fun e=>h (by simp [e]))
  show Lib.index (b :: (l ++ c :: r)) [c] = _
  unfold Lib.index
  rw [pre_one,h2,if_neg (by simp),ih,if_neg (by simp)]
  simp
theorem split_joinC (c:UInt8):∀ P:List (List UInt8),P ≠ [] → (∀ p ∈ P,c ∉ p) → Lib.splitK [c] 0 (P.length - 1) (joinC c P) = P
 | [],h,_=>absurd rfl h
 | [p],_,_=>rfl
 | p :: q :: r,_,h=>by
  have hp:c ∉ p:=h p (by simp)
  have ih:=split_joinC c (q :: r) (by simp) (fun x hx=>h x (List.mem_cons_of_mem _ hx))
  have e1:(p :: q :: r).length - 1 = r.length + 1:=by simp
  have e2:(q :: r).length - 1 = r.length:=by simp
  rw [e2] at ih
  rw [e1]
  show Lib.splitK [c] 0 (r.length + 1) (p ++ c :: joinC c (q :: r)) = _
  unfold Lib.splitK
  rw [index_at c _ p hp,if_neg (by simp)]
  have e3:((p.length:Int)).toNat = p.length:=by simp
  rw [e3,Nat.add_zero,List.take_left' rfl]
  have e4:(p ++ c :: joinC c (q :: r)).drop (p.length + [c].length) = joinC c (q :: r):=by
   have:(p ++ c :: joinC c (q :: r)) = (p ++ [c]) ++ joinC c (q :: r):=by simp
   rw [this,List.drop_left' (by simp)]
  rw [e4,ih]
def piecesT:List (List UInt8):=staticT.map pieceOf
def knownL:List UInt8:=joinC 124 piecesT
theorem piecesT_len:piecesT.length = 61:=by kernel_rfl
theorem pieces_no_bar:∀ p ∈ piecesT,(124:UInt8) ∉ p:=by
 have h:(piecesT.all fun p => !p.contains 124) = true:=by kernel_rfl
 intro p hp
 have:=List.all_eq_true.1 h p hp
 simpa using this
theorem known_count:Lib.count knownL [124] = 60:=by
 rw [Lib.count_one]
 kernel_rfl
theorem known_split:Lib.splitK [124] 0 60 knownL = piecesT:=by
 have h:=split_joinC 124 piecesT (by intro e; have:=piecesT_len; rw [e] at this; cases this) pieces_no_bar
 rw [piecesT_len] at h
 exact h
theorem known_countB (s:ByteArray) (h:s.data.toList = knownL):Lib.countB s ⟨#[124]⟩ = 60:=by
 show Lib.count s.data.toList [124] = 60
 rw [h,known_count]
theorem known_splitB (s:ByteArray) (h:s.data.toList = knownL):(Lib.splitB ⟨#[124]⟩ 0 60 s).map Value.string = piecesT.map strV:=by
 have e:=Lib.splitB_data ⟨#[124]⟩ 0 60 s
 rw [h] at e
 have e1:Lib.splitK (⟨#[124]⟩:ByteArray).data.toList 0 60 knownL = piecesT:=known_split
 rw [e1] at e
 rw [← e,List.map_map]
 rfl
theorem piece_cut (k:Nat) (h:k < 61):∃ f:FieldL,staticT[k]? = some f ∧ piecesT[k]? = some (pieceOf f) ∧ (Lib.cut (pieceOf f) [61]).1 = f.1 ∧ (Lib.cut (pieceOf f) [61]).2.1 = f.2 ∧ (pieceOf f).length ≤ 1000:=by
 have hl:k < staticT.length:=by rw [staticT_len]; exact h
 have hall:(staticT.all fun f => !f.1.contains 61 && decide ((pieceOf f).length ≤ 1000)) = true:=by kernel_rfl
 have hx:=List.all_eq_true.1 hall staticT[k] (List.getElem_mem hl)
 simp only [Bool.and_eq_true,decide_eq_true_eq,Bool.not_eq_true',List.contains_eq_mem,decide_eq_false_iff_not] at hx
 refine ⟨staticT[k],List.getElem?_eq_getElem hl, ?_, ?_⟩
 ·unfold piecesT
  rw [List.getElem?_map,List.getElem?_eq_getElem hl]
  rfl
 ·generalize staticT[k] = f at hx ⊢
  obtain ⟨f1,f2⟩:=f
  obtain ⟨h1,h2⟩:=hx
  refine ⟨?_, ?_,h2⟩
  all_goals
   unfold pieceOf
   cases f2 with
   | nil=>
    simp only [List.isEmpty_nil,if_true]
    unfold Lib.cut
    rw [index_no 61 f1 h1,if_neg (by decide)]
   | cons a f2=>
    simp only [List.isEmpty_cons,Bool.false_eq_true,if_false]
    unfold Lib.cut
    rw [index_at 61 (a :: f2) f1 h1,if_pos (by omega)]
    simp
end Go.Proofs.YtoeeackjlclneaaGreatDoor
end
section
namespace Go.Proofs
open Go.Shelf
def Tryz.laysM171_ren:Go.Shelf.Ren:=⟨fun | 171=>20 | 243=>48 | 246=>68 | 283=>90 | 284=>91 | 285=>92 | 286=>93 | 129=>131 | 317=>130 | 318=>132 | 319=>133 | 320=>134 | 337=>171 | 338=>172 | n=>n,fun | 3=>3 | 9=>9 | 2=>2 | 4=>4 | 171=>184 | 0=>0 | 53=>185 | 37=>81 | 5=>5 | 173=>188 | 212=>231 | 51=>232 | 20=>20 | 213=>233 | 46=>220 | 232=>292 | 233=>293 | n=>n,fun | 17=>0 | 18=>1 | 19=>2 | n=>n⟩
theorem Tryz.laysM171:Go.Proofs.LaysM.n171 Tryz.prog Tryz.laysM171_ren:={
 mixed:=by kernel_rfl
 f129:=Tryz.func131.trans (congrArg some (by kernel_rfl))
 f171:=Tryz.func20.trans (congrArg some (by kernel_rfl))
 f243:=Tryz.func48.trans (congrArg some (by kernel_rfl))
 f246:=Tryz.func68.trans (congrArg some (by kernel_rfl))
 f283:=Tryz.func90.trans (congrArg some (by kernel_rfl))
 f284:=Tryz.func91.trans (congrArg some (by kernel_rfl))
 f285:=Tryz.func92.trans (congrArg some (by kernel_rfl))
 f286:=Tryz.func93.trans (congrArg some (by kernel_rfl))
 f317:=Tryz.func130.trans (congrArg some (by kernel_rfl))
 f318:=Tryz.func132.trans (congrArg some (by kernel_rfl))
 f319:=Tryz.func133.trans (congrArg some (by kernel_rfl))
 f320:=Tryz.func134.trans (congrArg some (by kernel_rfl))
 f337:=Tryz.func171.trans (congrArg some (by kernel_rfl))
 f338:=Tryz.func172.trans (congrArg some (by kernel_rfl))
 t0:=Tryz.underlying0
 a0:=Tryz.isAgg0
 z0:=Tryz.sizeOf0
 v0:=Tryz.zeroValue0
 t2:=Tryz.underlying2
 a2:=Tryz.isAgg2
 z2:=Tryz.sizeOf2
 v2:=Tryz.zeroValue2
 t3:=Tryz.underlying3
 a3:=Tryz.isAgg3
 z3:=Tryz.sizeOf3
 v3:=Tryz.zeroValue3
 t4:=Tryz.underlying4
 a4:=Tryz.isAgg4
 z4:=Tryz.sizeOf4
 v4:=Tryz.zeroValue4
 t5:=Tryz.underlying5
 a5:=Tryz.isAgg5
 z5:=Tryz.sizeOf5
 v5:=Tryz.zeroValue5
 t9:=Tryz.underlying9
 a9:=Tryz.isAgg9
 z9:=Tryz.sizeOf9
 v9:=Tryz.zeroValue9
 t20:=Tryz.underlying20
 a20:=Tryz.isAgg20
 z20:=Tryz.sizeOf20
 v20:=Tryz.zeroValue20
 t37:=Tryz.underlying81
 a37:=Tryz.isAgg81
 z37:=Tryz.sizeOf81
 v37:=Tryz.zeroValue81
 t46:=Tryz.underlying220
 a46:=Tryz.isAgg220
 z46:=Tryz.sizeOf220
 v46:=Tryz.zeroValue220
 t51:=Tryz.underlying232
 a51:=Tryz.isAgg232
 z51:=Tryz.sizeOf232
 v51:=Tryz.zeroValue232
 t53:=Tryz.underlying185
 a53:=Tryz.isAgg185
 z53:=Tryz.sizeOf185
 v53:=Tryz.zeroValue185
 t171:=Tryz.underlying184
 a171:=Tryz.isAgg184
 z171:=Tryz.sizeOf184
 v171:=Tryz.zeroValue184
 t173:=Tryz.underlying188
 a173:=Tryz.isAgg188
 z173:=Tryz.sizeOf188
 v173:=Tryz.zeroValue188
 t212:=Tryz.underlying231
 a212:=Tryz.isAgg231
 z212:=Tryz.sizeOf231
 v212:=Tryz.zeroValue231
 t213:=Tryz.underlying233
 a213:=Tryz.isAgg233
 z213:=Tryz.sizeOf233
 t232:=Tryz.underlying292
 a232:=Tryz.isAgg292
 z232:=Tryz.sizeOf292
 v232:=Tryz.zeroValue292
 t233:=Tryz.underlying293
 a233:=Tryz.isAgg293
 z233:=Tryz.sizeOf293
 v233:=Tryz.zeroValue293
 g17:=by kernel_rfl
 g18:=by kernel_rfl
 g19:=by kernel_rfl
 i0:=by kernel_rfl
 i2:=by kernel_rfl
 i3:=by kernel_rfl
 i4:=by kernel_rfl
 i5:=by kernel_rfl
 i9:=by kernel_rfl
 i20:=by kernel_rfl
 i37:=by kernel_rfl
 i46:=by kernel_rfl
 i51:=by kernel_rfl
 i53:=by kernel_rfl
 i171:=by kernel_rfl
 i173:=by kernel_rfl
 i212:=by kernel_rfl
 i232:=by kernel_rfl
 i233:=by kernel_rfl
 m17:=by kernel_rfl
 m18:=by kernel_rfl
 m19:=by kernel_rfl }
open Go.RowKit Go.Sort Go.Lib in
theorem Tryz.strconv_Itoa (n : Int) (h0 : -9223372036854775808 ≤ n) (h1 : n ≤ 9223372036854775807) (w : World) (htab : Lib.TabIs Tryz.prog w "internal/strconv.uint64pow10" .u64 Lib.pow10Tab) :
  Calls Tryz.prog 20 #[.int .i64 n] w fun e w'=>e = .returned (.string ⟨(Lib.itoa n).toArray⟩) ∧ ∃ k os,w' = grow (w.drewN k) os:=Any.strconv_Itoa Tryz.laysM171 n h0 h1 w htab
def Tryz.lays217_ren:Go.Shelf.Ren:=⟨fun | 217=>337 | 266=>362 | n=>n,fun | 9=>9 | 5=>5 | 3=>3 | n=>n,fun | n=>n⟩
theorem Tryz.lays217:Go.Proofs.Lays.n217 Tryz.prog Tryz.lays217_ren:={
 mixed:=by kernel_rfl
 f217:=Tryz.func337.trans (congrArg some (by kernel_rfl))
 f266:=Tryz.func362.trans (congrArg some (by kernel_rfl))
 t3:=Tryz.underlying3
 a3:=Tryz.isAgg3
 z3:=Tryz.sizeOf3
 v3:=Tryz.zeroValue3
 t5:=Tryz.underlying5
 a5:=Tryz.isAgg5
 z5:=Tryz.sizeOf5
 v5:=Tryz.zeroValue5
 t9:=Tryz.underlying9
 a9:=Tryz.isAgg9
 z9:=Tryz.sizeOf9
 v9:=Tryz.zeroValue9 }
open Go.RowKit Go.Lib in
theorem Tryz.stringslite_IndexByte (s:ByteArray) (c:Int) (w:World) :
  Calls Tryz.prog 337 #[.string s,.int .u8 c] w fun e w'=>e = .returned (.int .i64 (Lib.indexByte s.data.toList c.toNat.toUInt8)) ∧ w' = w:=Any.stringslite_IndexByte Tryz.lays217 s c w
def Tryz.lays145_ren:Go.Shelf.Ren:=⟨fun | 145=>218 | 220=>256 | 219=>304 | 217=>337 | 225=>338 | 224=>339 | 267=>340 | 266=>362 | 314=>363 | n=>n,fun | 9=>9 | 4=>4 | 59=>295 | 3=>3 | 5=>5 | 46=>220 | 146=>415 | 51=>232 | n=>n,fun | 1=>3 | n=>n⟩
theorem Tryz.lays145:Go.Proofs.Lays.n145 Tryz.prog Tryz.lays145_ren:={
 mixed:=by kernel_rfl
 f145:=Tryz.func218.trans (congrArg some (by kernel_rfl))
 f217:=Tryz.func337.trans (congrArg some (by kernel_rfl))
 f219:=Tryz.func304.trans (congrArg some (by kernel_rfl))
 f220:=Tryz.func256.trans (congrArg some (by kernel_rfl))
 f224:=Tryz.func339.trans (congrArg some (by kernel_rfl))
 f225:=Tryz.func338.trans (congrArg some (by kernel_rfl))
 f266:=Tryz.func362.trans (congrArg some (by kernel_rfl))
 f267:=Tryz.func340.trans (congrArg some (by kernel_rfl))
 f314:=Tryz.func363.trans (congrArg some (by kernel_rfl))
 t3:=Tryz.underlying3
 a3:=Tryz.isAgg3
 z3:=Tryz.sizeOf3
 v3:=Tryz.zeroValue3
 t4:=Tryz.underlying4
 a4:=Tryz.isAgg4
 z4:=Tryz.sizeOf4
 v4:=Tryz.zeroValue4
 t5:=Tryz.underlying5
 a5:=Tryz.isAgg5
 z5:=Tryz.sizeOf5
 v5:=Tryz.zeroValue5
 t9:=Tryz.underlying9
 a9:=Tryz.isAgg9
 z9:=Tryz.sizeOf9
 v9:=Tryz.zeroValue9
 t46:=Tryz.underlying220
 a46:=Tryz.isAgg220
 z46:=Tryz.sizeOf220
 v46:=Tryz.zeroValue220
 t51:=Tryz.underlying232
 a51:=Tryz.isAgg232
 z51:=Tryz.sizeOf232
 v51:=Tryz.zeroValue232
 t59:=Tryz.underlying295
 a59:=Tryz.isAgg295
 z59:=Tryz.sizeOf295
 v59:=Tryz.zeroValue295
 t146:=Tryz.underlying415
 a146:=Tryz.isAgg415
 z146:=Tryz.sizeOf415
 v146:=Tryz.zeroValue415
 g1:=by kernel_rfl }
open Go.RowKit Go.Lib in
theorem Tryz.strings_Cut (s sep:ByteArray) (m:Int) (w:World) (hs:s.size < 4294967281) (hm:w.cell? ⟨3,0,none⟩ = some (.int .i64 m)) :
  Calls Tryz.prog 218 #[.string s,.string sep] w fun e w'=>e = .returned (.tuple #[.string ⟨(Lib.cut s.data.toList sep.data.toList).1.toArray⟩,.string ⟨(Lib.cut s.data.toList sep.data.toList).2.1.toArray⟩,.bool (Lib.cut s.data.toList sep.data.toList).2.2]) ∧ ∃ n,w' = w.drewN n:=Any.strings_Cut Tryz.lays145 s sep m w hs hm
def Tryz.lays146_ren:Go.Shelf.Ren:=⟨fun | 146=>217 | 221=>255 | 268=>301 | 138=>302 | 143=>303 | 195=>334 | 197=>335 | 218=>336 | 219=>304 | 260=>361 | 217=>337 | 225=>338 | 224=>339 | 267=>340 | 266=>362 | 314=>363 | n=>n,fun | 9=>9 | 31=>112 | 3=>3 | 4=>4 | 0=>0 | 105=>395 | 21=>21 | 5=>5 | 46=>220 | 119=>422 | 139=>425 | 138=>424 | 146=>415 | 51=>232 | n=>n,fun | 1=>3 | 3=>4 | 4=>5 | n=>n⟩
theorem Tryz.lays146:Go.Proofs.Lays.n146 Tryz.prog Tryz.lays146_ren:={
 mixed:=by kernel_rfl
 f138:=Tryz.func302.trans (congrArg some (by kernel_rfl))
 f143:=Tryz.func303.trans (congrArg some (by kernel_rfl))
 f146:=Tryz.func217.trans (congrArg some (by kernel_rfl))
 f195:=Tryz.func334.trans (congrArg some (by kernel_rfl))
 f197:=Tryz.func335.trans (congrArg some (by kernel_rfl))
 f217:=Tryz.func337.trans (congrArg some (by kernel_rfl))
 f218:=Tryz.func336.trans (congrArg some (by kernel_rfl))
 f219:=Tryz.func304.trans (congrArg some (by kernel_rfl))
 f221:=Tryz.func255.trans (congrArg some (by kernel_rfl))
 f224:=Tryz.func339.trans (congrArg some (by kernel_rfl))
 f225:=Tryz.func338.trans (congrArg some (by kernel_rfl))
 f260:=Tryz.func361.trans (congrArg some (by kernel_rfl))
 f266:=Tryz.func362.trans (congrArg some (by kernel_rfl))
 f267:=Tryz.func340.trans (congrArg some (by kernel_rfl))
 f268:=Tryz.func301.trans (congrArg some (by kernel_rfl))
 f314:=Tryz.func363.trans (congrArg some (by kernel_rfl))
 t0:=Tryz.underlying0
 a0:=Tryz.isAgg0
 z0:=Tryz.sizeOf0
 v0:=Tryz.zeroValue0
 t3:=Tryz.underlying3
 a3:=Tryz.isAgg3
 z3:=Tryz.sizeOf3
 v3:=Tryz.zeroValue3
 t4:=Tryz.underlying4
 a4:=Tryz.isAgg4
 z4:=Tryz.sizeOf4
 v4:=Tryz.zeroValue4
 t5:=Tryz.underlying5
 a5:=Tryz.isAgg5
 z5:=Tryz.sizeOf5
 v5:=Tryz.zeroValue5
 t9:=Tryz.underlying9
 a9:=Tryz.isAgg9
 z9:=Tryz.sizeOf9
 v9:=Tryz.zeroValue9
 t21:=Tryz.underlying21
 a21:=Tryz.isAgg21
 z21:=Tryz.sizeOf21
 v21:=Tryz.zeroValue21
 t31:=Tryz.underlying112
 a31:=Tryz.isAgg112
 z31:=Tryz.sizeOf112
 v31:=Tryz.zeroValue112
 t46:=Tryz.underlying220
 a46:=Tryz.isAgg220
 z46:=Tryz.sizeOf220
 v46:=Tryz.zeroValue220
 t51:=Tryz.underlying232
 a51:=Tryz.isAgg232
 z51:=Tryz.sizeOf232
 v51:=Tryz.zeroValue232
 t105:=Tryz.underlying395
 a105:=Tryz.isAgg395
 z105:=Tryz.sizeOf395
 v105:=Tryz.zeroValue395
 t119:=Tryz.underlying422
 a119:=Tryz.isAgg422
 z119:=Tryz.sizeOf422
 t138:=Tryz.underlying424
 a138:=Tryz.isAgg424
 z138:=Tryz.sizeOf424
 v138:=Tryz.zeroValue424
 t139:=Tryz.underlying425
 a139:=Tryz.isAgg425
 z139:=Tryz.sizeOf425
 v139:=Tryz.zeroValue425
 t146:=Tryz.underlying415
 a146:=Tryz.isAgg415
 z146:=Tryz.sizeOf415
 v146:=Tryz.zeroValue415
 g1:=by kernel_rfl
 g3:=by kernel_rfl
 g4:=by kernel_rfl }
open Go.RowKit Go.Lib in
theorem Tryz.strings_Split (s sep:ByteArray) (m:Int) (w:World) (hs:s.size < 4294967281) (hm:w.cell? ⟨3,0,none⟩ = some (.int .i64 m)) (h1:1 ≤ sep.size) :
  Calls Tryz.prog 217 #[.string s,.string sep] w fun e w'=>
   e = .returned (.slice (some ⟨w.heap.size,0,none⟩) (Lib.countB s sep + 1) (Lib.countB s sep + 1)) ∧ w' = w.alloc (.cells ((Lib.splitB sep 0 (Lib.countB s sep) s).map Value.string).toArray 9):=Any.strings_Split Tryz.lays146 (by kernel_rfl) s sep m w hs hm h1
end Go.Proofs
end
section
namespace Go.Proofs.YtoeeackjlclneaaGreatDoor
open Go.RowKit
def MaxOk (w:World):Prop := ∃ m,w.cell? ⟨3,0,none⟩ = some (.int .i64 m)
theorem MaxOk.aft {w w':World} (h:MaxOk w) (ha:Aft w w'):MaxOk w':=by
 obtain ⟨m,hm⟩:=h
 refine ⟨m, ?_⟩
 rw [Below.cell ha.to (World.block_lt_of_cell? _ _ hm)]
 exact hm
theorem MaxOk.alloc {w:World} (h:MaxOk w) (o:Obj):MaxOk (w.alloc o):=h.aft ((Aft.refl w).alloc o)
theorem split_known (s:ByteArray) (hs:s.data.toList = knownL) (w:World) (hm:MaxOk w) :
  Calls Tryz.prog 217 #[.string s,.string ⟨#[124]⟩] w fun e w'=>e = .returned (.slice (some ⟨w.heap.size,0,none⟩) 61 61) ∧ w' = w.alloc (.cells (piecesT.map strV).toArray 9):=by
 obtain ⟨m,hm⟩:=hm
 have hlen:knownL.length = 758:=by kernel_rfl
 refine (Tryz.strings_Split s ⟨#[124]⟩ m w (by rw [← size_len,hs,hlen]; decide) hm (by decide)).mono ?_
 rintro e w' ⟨rfl,rfl⟩
 rw [known_countB s hs,known_splitB s hs]
 exact ⟨rfl,rfl⟩
theorem cut_piece (f:FieldL) (h1:(Lib.cut (pieceOf f) [61]).1 = f.1) (h2:(Lib.cut (pieceOf f) [61]).2.1 = f.2) (h3:(pieceOf f).length ≤ 1000) (w:World) (hm:MaxOk w) :
  Calls Tryz.prog 218 #[strV (pieceOf f),.string ⟨#[61]⟩] w fun e w' => ∃ b,e = .returned (.tuple #[.string ⟨f.1.toArray⟩,.string ⟨f.2.toArray⟩,.bool b]) ∧ Aft w w':=by
 obtain ⟨m,hm⟩:=hm
 refine (Tryz.strings_Cut ⟨(pieceOf f).toArray⟩ ⟨#[61]⟩ m w (by show (pieceOf f).toArray.size < _; simp; omega) hm).mono ?_
 rintro e w' ⟨rfl,n,rfl⟩
 refine ⟨(Lib.cut (pieceOf f) [61]).2.2, ?_,(Aft.refl w).drewN n⟩
 show Ending.returned (.tuple #[strV (Lib.cut (pieceOf f) [61]).1,strV (Lib.cut (pieceOf f) [61]).2.1,_]) = _
 rw [h1,h2]
 rfl
theorem new2 (w:World) (a b:Value) (t:TypeId):(w.alloc (.cells #[a,b] t)).cell? ⟨w.heap.size,0,none⟩ = some a ∧ (w.alloc (.cells #[a,b] t)).cell? ⟨w.heap.size,1,none⟩ = some b:=by
 constructor <;> simp [go_sem]
set_option maxHeartbeats 4000000 in
set_option maxRecDepth 100000 in
theorem all_fields (w:World) (hm:MaxOk w) :
  Calls Tryz.prog 174 #[] w fun e w' => ∃ v,e = .returned v ∧ OwnF w' w.heap.size v staticT ∧ Aft w w':=by
 obtain ⟨B0,hB0⟩:∃ B0,w.heap.size = B0:=⟨_,rfl⟩
 have hw1:(w.alloc (.cells (piecesT.map strV).toArray 9)).heap.size = B0 + 1:=by rw [World.size_alloc,hB0]
 have hcell:∀ k p,piecesT[k]? = some p → (w.alloc (.cells (piecesT.map strV).toArray 9)).cell? ⟨B0,k,none⟩ = some (strV p):=by
  intro k p hp
  subst hB0
  have:((piecesT.map strV).toArray)[k]? = some (strV p):=by simp [hp]
  simp [go_sem,this]
 have hm1:MaxOk (w.alloc (.cells (piecesT.map strV).toArray 9)):=hm.alloc _
 have hA1:Aft w (w.alloc (.cells (piecesT.map strV).toArray 9)):=(Aft.refl w).alloc _
 have HB0:=Lib.hid hB0
 have HW1:=Lib.hid hw1
 have HCELL:=Lib.hid hcell
 have HM1:=Lib.hid hm1
 have HA1:=Lib.hid hA1
 clear hB0 hw1 hcell hm1 hA1
 go_enter Tryz.func174,Tryz.ntmps174
 go_wp2_with (go_at_call 217; refine (split_known _ (by kernel_rfl) w hm).mono ?_; rintro e w1 ⟨rfl,hw⟩; rw [hw,HB0.out]; clear hw)
 generalize w.alloc (.cells (piecesT.map strV).toArray 9) = W1 at HW1 HCELL HM1 HA1 ⊢
 go_loopw [1,9] (fun vv vi wr => ∃ k:Nat,k ≤ 61 ∧ vi = .int .i64 (k:Int) ∧ Hid (OwnF wr (B0 + 1) vv (staticT.take k)) ∧ Hid (Aft W1 wr)) (fun _ vi _=>61 - (intOf vi).toNat)
 case atStart=>exact ⟨0,by omega,by go_num,Lib.hid (OwnF.nil _ _),Lib.hid (Aft.refl _)⟩
 case round=>
  obtain ⟨k,hk,rfl,HO,HA⟩:=hrel
  by_cases hlt:k < 61
  ·obtain ⟨f,hf,hp,c1,c2,c3⟩:=piece_cut k hlt
   have hx:wr.cell? ⟨B0,k,none⟩ = some (strV (pieceOf f)):=by
    rw [Below.cell HA.out.to (p:=⟨B0,k,none⟩) (by show B0 < W1.heap.size; rw [HW1.out]; omega)]
    exact HCELL.out k _ hp
   have htk:staticT.take (k + 1) = staticT.take k ++ [f]:=by
    obtain ⟨hl,he⟩:=List.getElem?_eq_some_iff.1 hf
    rw [List.take_succ_eq_append_getElem hl,he]
   have HTK:=Lib.hid htk
   have HMM:=Lib.hid (HM1.out.aft HA.out)
   have HC:=Lib.hid (And.intro c1 (And.intro c2 c3))
   clear htk c1 c2 c3 hp hf
   have i1:(k:Int) < 61:=by omega
   unfold strV at hx
   go_wp2_with fail
   refine (cut_piece f HC.out.1 HC.out.2.1 HC.out.2.2 _ HMM.out).mono ?_
   rintro e w2 ⟨bb,rfl,a2⟩
   have HA2:=Lib.hid (HA.out.trans a2)
   have HO2:=Lib.hid (HO.out.aft a2)
   have HZ:Hid (B0 + 1 ≤ w2.heap.size):=Lib.hid (by rw [← HW1.out]; exact HA2.out.size)
   have HO3:=Lib.hid (HO2.out.aft ((Aft.refl w2).alloc (.cells #[Value.string ⟨f.1.toArray⟩,Value.string ⟨f.2.toArray⟩] 50)))
   have HZ3:=Lib.hid (le_alloc HZ.out (.cells #[Value.string ⟨f.1.toArray⟩,Value.string ⟨f.2.toArray⟩] 50))
   have HB3:Hid (Below (B0 + 1) W1 (w2.alloc (.cells #[Value.string ⟨f.1.toArray⟩,Value.string ⟨f.2.toArray⟩] 50))):=Lib.hid (by rw [← HW1.out]; exact HA2.out.alloc _)
   have HN:=Lib.hid (new2 w2 (Value.string ⟨f.1.toArray⟩) (Value.string ⟨f.2.toArray⟩) 50)
   have HL:Hid ((staticT.take k).length + 1 ≤ 1000000000000):=Lib.hid (by rw [List.length_take]; omega)
   clear a2
   go_wp2_with (at_builtin; refine wpList_pushF rfl (.tmp 19) (.tmp 23) rfl (B0 + 1) _ _ rfl HO3.out w2.heap.size 1 f rfl HN.out.1 HN.out.2 HL.out HZ3.out ?_; intro v6 w6 o6 g6)
   go_roundw
   case rel=>exact ⟨k + 1,by omega,by go_num,Lib.hid (by rw [HTK.out]; exact o6),Lib.hid (by have:=pushF_below HB3.out HO3.out g6 (Nat.le_refl _) HZ3.out; rw [← HW1.out] at this; exact this)⟩
   case measure=>simp [intOf]; omega
  ·have hk2:k = 61:=by omega
   subst hk2
   have HT:Hid (staticT.take 61 = staticT):=Lib.hid (List.take_of_length_le (by rw [staticT_len]; omega))
   go_wp2_with fail
   go_ret
   refine ⟨_,rfl, ?_,HA1.out.trans HA.out⟩
   have:=HO.out
   rw [HT.out] at this
   exact this.base (by rw [HB0.out]; omega)
end Go.Proofs.YtoeeackjlclneaaGreatDoor
end
section
namespace Go.Proofs.YtoeeackjlclneaaGreatDoor
open Go.RowKit
theorem maxOk_of (w:World) (h:w.ShapedOpen Tryz.prog):MaxOk w:=
 Go.Proofs.cell_of_shapedOpen_int (zero := #[.int .i64 0]) (t:=3) h (of_decide_eq_true (by kernel_rfl)) (by kernel_rfl) rfl (by kernel_rfl) (by kernel_rfl) Tryz.underlying3
end Go.Proofs.YtoeeackjlclneaaGreatDoor
end
