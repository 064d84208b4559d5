/-
  Texts joined: SyTrie, SyDom, SyTy, SyMem, SyFm, SyOp, SyOp2, SyNew, SyInt, SyEq, SyBin, SyCv, SySl, SyApp, SyMk, SyMk2, SyMk3, SyMk4, SyLf, SySx, SySb, SyOpn, SyOpe, SyMap.
-/
import Derived.WalkKit
import Derived.Laws.StructEq
import Derived.Laws.Concat
import Derived.Laws.Strings2
import Derived.LaidEql
import Derived.Laws.BytesString
import Derived.Laws.Slices
import Derived.Laws.Append
import Derived.Laws.AppendOwn
import Derived.Laws.MakeOwn
import Derived.MapKept
section
namespace Go.Proofs.YtoeeackjlclneaaGreatDoor
set_option linter.unusedVariables false
structure N16 (α:Type) where
 c0:α
 c1:α
 c2:α
 c3:α
 c4:α
 c5:α
 c6:α
 c7:α
 c8:α
 c9:α
 c10:α
 c11:α
 c12:α
 c13:α
 c14:α
 c15:α
inductive Sel (α:Type) where
 | mk (p:N16 α → α) (u:N16 α → (α → α) → N16 α)
noncomputable def sel_0 (α:Type):Sel α:=Sel.mk (fun n=>n.c0) (fun n f=>N16.rec (motive:=fun _=>(α → α) → N16 α) (fun c0 c1 c2 c3 c4 c5 c6 c7 c8 c9 c10 c11 c12 c13 c14 c15 f=>N16.mk (f c0) c1 c2 c3 c4 c5 c6 c7 c8 c9 c10 c11 c12 c13 c14 c15) n f)
noncomputable def sel_1 (α:Type):Sel α:=Sel.mk (fun n=>n.c1) (fun n f=>N16.rec (motive:=fun _=>(α → α) → N16 α) (fun c0 c1 c2 c3 c4 c5 c6 c7 c8 c9 c10 c11 c12 c13 c14 c15 f=>N16.mk c0 (f c1) c2 c3 c4 c5 c6 c7 c8 c9 c10 c11 c12 c13 c14 c15) n f)
noncomputable def sel_2 (α:Type):Sel α:=Sel.mk (fun n=>n.c2) (fun n f=>N16.rec (motive:=fun _=>(α → α) → N16 α) (fun c0 c1 c2 c3 c4 c5 c6 c7 c8 c9 c10 c11 c12 c13 c14 c15 f=>N16.mk c0 c1 (f c2) c3 c4 c5 c6 c7 c8 c9 c10 c11 c12 c13 c14 c15) n f)
noncomputable def sel_3 (α:Type):Sel α:=Sel.mk (fun n=>n.c3) (fun n f=>N16.rec (motive:=fun _=>(α → α) → N16 α) (fun c0 c1 c2 c3 c4 c5 c6 c7 c8 c9 c10 c11 c12 c13 c14 c15 f=>N16.mk c0 c1 c2 (f c3) c4 c5 c6 c7 c8 c9 c10 c11 c12 c13 c14 c15) n f)
noncomputable def sel_4 (α:Type):Sel α:=Sel.mk (fun n=>n.c4) (fun n f=>N16.rec (motive:=fun _=>(α → α) → N16 α) (fun c0 c1 c2 c3 c4 c5 c6 c7 c8 c9 c10 c11 c12 c13 c14 c15 f=>N16.mk c0 c1 c2 c3 (f c4) c5 c6 c7 c8 c9 c10 c11 c12 c13 c14 c15) n f)
noncomputable def sel_5 (α:Type):Sel α:=Sel.mk (fun n=>n.c5) (fun n f=>N16.rec (motive:=fun _=>(α → α) → N16 α) (fun c0 c1 c2 c3 c4 c5 c6 c7 c8 c9 c10 c11 c12 c13 c14 c15 f=>N16.mk c0 c1 c2 c3 c4 (f c5) c6 c7 c8 c9 c10 c11 c12 c13 c14 c15) n f)
noncomputable def sel_6 (α:Type):Sel α:=Sel.mk (fun n=>n.c6) (fun n f=>N16.rec (motive:=fun _=>(α → α) → N16 α) (fun c0 c1 c2 c3 c4 c5 c6 c7 c8 c9 c10 c11 c12 c13 c14 c15 f=>N16.mk c0 c1 c2 c3 c4 c5 (f c6) c7 c8 c9 c10 c11 c12 c13 c14 c15) n f)
noncomputable def sel_7 (α:Type):Sel α:=Sel.mk (fun n=>n.c7) (fun n f=>N16.rec (motive:=fun _=>(α → α) → N16 α) (fun c0 c1 c2 c3 c4 c5 c6 c7 c8 c9 c10 c11 c12 c13 c14 c15 f=>N16.mk c0 c1 c2 c3 c4 c5 c6 (f c7) c8 c9 c10 c11 c12 c13 c14 c15) n f)
noncomputable def sel_8 (α:Type):Sel α:=Sel.mk (fun n=>n.c8) (fun n f=>N16.rec (motive:=fun _=>(α → α) → N16 α) (fun c0 c1 c2 c3 c4 c5 c6 c7 c8 c9 c10 c11 c12 c13 c14 c15 f=>N16.mk c0 c1 c2 c3 c4 c5 c6 c7 (f c8) c9 c10 c11 c12 c13 c14 c15) n f)
noncomputable def sel_9 (α:Type):Sel α:=Sel.mk (fun n=>n.c9) (fun n f=>N16.rec (motive:=fun _=>(α → α) → N16 α) (fun c0 c1 c2 c3 c4 c5 c6 c7 c8 c9 c10 c11 c12 c13 c14 c15 f=>N16.mk c0 c1 c2 c3 c4 c5 c6 c7 c8 (f c9) c10 c11 c12 c13 c14 c15) n f)
noncomputable def sel_10 (α:Type):Sel α:=Sel.mk (fun n=>n.c10) (fun n f=>N16.rec (motive:=fun _=>(α → α) → N16 α) (fun c0 c1 c2 c3 c4 c5 c6 c7 c8 c9 c10 c11 c12 c13 c14 c15 f=>N16.mk c0 c1 c2 c3 c4 c5 c6 c7 c8 c9 (f c10) c11 c12 c13 c14 c15) n f)
noncomputable def sel_11 (α:Type):Sel α:=Sel.mk (fun n=>n.c11) (fun n f=>N16.rec (motive:=fun _=>(α → α) → N16 α) (fun c0 c1 c2 c3 c4 c5 c6 c7 c8 c9 c10 c11 c12 c13 c14 c15 f=>N16.mk c0 c1 c2 c3 c4 c5 c6 c7 c8 c9 c10 (f c11) c12 c13 c14 c15) n f)
noncomputable def sel_12 (α:Type):Sel α:=Sel.mk (fun n=>n.c12) (fun n f=>N16.rec (motive:=fun _=>(α → α) → N16 α) (fun c0 c1 c2 c3 c4 c5 c6 c7 c8 c9 c10 c11 c12 c13 c14 c15 f=>N16.mk c0 c1 c2 c3 c4 c5 c6 c7 c8 c9 c10 c11 (f c12) c13 c14 c15) n f)
noncomputable def sel_13 (α:Type):Sel α:=Sel.mk (fun n=>n.c13) (fun n f=>N16.rec (motive:=fun _=>(α → α) → N16 α) (fun c0 c1 c2 c3 c4 c5 c6 c7 c8 c9 c10 c11 c12 c13 c14 c15 f=>N16.mk c0 c1 c2 c3 c4 c5 c6 c7 c8 c9 c10 c11 c12 (f c13) c14 c15) n f)
noncomputable def sel_14 (α:Type):Sel α:=Sel.mk (fun n=>n.c14) (fun n f=>N16.rec (motive:=fun _=>(α → α) → N16 α) (fun c0 c1 c2 c3 c4 c5 c6 c7 c8 c9 c10 c11 c12 c13 c14 c15 f=>N16.mk c0 c1 c2 c3 c4 c5 c6 c7 c8 c9 c10 c11 c12 c13 (f c14) c15) n f)
noncomputable def sel_15 (α:Type):Sel α:=Sel.mk (fun n=>n.c15) (fun n f=>N16.rec (motive:=fun _=>(α → α) → N16 α) (fun c0 c1 c2 c3 c4 c5 c6 c7 c8 c9 c10 c11 c12 c13 c14 c15 f=>N16.mk c0 c1 c2 c3 c4 c5 c6 c7 c8 c9 c10 c11 c12 c13 c14 (f c15)) n f)
noncomputable def sel0 (α:Type) (d:Nat):Sel α:=Bool.rec (motive:=fun _=>Sel α) (Bool.rec (motive:=fun _=>Sel α) (Bool.rec (motive:=fun _=>Sel α) (Bool.rec (motive:=fun _=>Sel α) (sel_15 α) (sel_14 α) (Nat.ble d 14)) (Bool.rec (motive:=fun _=>Sel α) (sel_13 α) (sel_12 α) (Nat.ble d 12)) (Nat.ble d 13)) (Bool.rec (motive:=fun _=>Sel α) (Bool.rec (motive:=fun _=>Sel α) (sel_11 α) (sel_10 α) (Nat.ble d 10)) (Bool.rec (motive:=fun _=>Sel α) (sel_9 α) (sel_8 α) (Nat.ble d 8)) (Nat.ble d 9)) (Nat.ble d 11)) (Bool.rec (motive:=fun _=>Sel α) (Bool.rec (motive:=fun _=>Sel α) (Bool.rec (motive:=fun _=>Sel α) (sel_7 α) (sel_6 α) (Nat.ble d 6)) (Bool.rec (motive:=fun _=>Sel α) (sel_5 α) (sel_4 α) (Nat.ble d 4)) (Nat.ble d 5)) (Bool.rec (motive:=fun _=>Sel α) (Bool.rec (motive:=fun _=>Sel α) (sel_3 α) (sel_2 α) (Nat.ble d 2)) (Bool.rec (motive:=fun _=>Sel α) (sel_1 α) (sel_0 α) (Nat.ble d 0)) (Nat.ble d 1)) (Nat.ble d 3)) (Nat.ble d 7)
noncomputable def Sel.p {α:Type} (s:Sel α):N16 α → α:=Sel.rec (motive:=fun _=>N16 α → α) (fun p _=>p) s
noncomputable def Sel.u {α:Type} (s:Sel α):N16 α → (α → α) → N16 α:=Sel.rec (motive:=fun _=>N16 α → (α → α) → N16 α) (fun _ u=>u) s
theorem Sel.eta {α:Type} (s:Sel α):s = Sel.mk s.p s.u:=by cases s; rfl
theorem lt16 {i:Nat} (h:i < 16):i = 0 ∨ i = 1 ∨ i = 2 ∨ i = 3 ∨ i = 4 ∨ i = 5 ∨ i = 6 ∨ i = 7 ∨ i = 8 ∨ i = 9 ∨ i = 10 ∨ i = 11 ∨ i = 12 ∨ i = 13 ∨ i = 14 ∨ i = 15:=by omega
theorem sel_law {α:Type} {i j:Nat} (hi:i < 16) (hj:j < 16) (n:N16 α) (f:α → α):(sel0 α i).p ((sel0 α j).u n f) = if i = j then f ((sel0 α i).p n) else (sel0 α i).p n:=by
 cases n
 rcases lt16 hi with rfl | rfl | rfl | rfl | rfl | rfl | rfl | rfl | rfl | rfl | rfl | rfl | rfl | rfl | rfl | rfl <;> rcases lt16 hj with rfl | rfl | rfl | rfl | rfl | rfl | rfl | rfl | rfl | rfl | rfl | rfl | rfl | rfl | rfl | rfl <;> rfl
structure Tr (α:Type) where
 lo:N16 (N16 (Option α))
 hi:N16 (N16 (N16 (N16 (Option α))))
 ov:List (Nat × α)
noncomputable def nil1 (α:Type):N16 (Option α):=N16.mk none none none none none none none none none none none none none none none none
noncomputable def nil2 (α:Type):N16 (N16 (Option α)):=N16.mk (nil1 α) (nil1 α) (nil1 α) (nil1 α) (nil1 α) (nil1 α) (nil1 α) (nil1 α) (nil1 α) (nil1 α) (nil1 α) (nil1 α) (nil1 α) (nil1 α) (nil1 α) (nil1 α)
noncomputable def nil3 (α:Type):N16 (N16 (N16 (Option α))):=N16.mk (nil2 α) (nil2 α) (nil2 α) (nil2 α) (nil2 α) (nil2 α) (nil2 α) (nil2 α) (nil2 α) (nil2 α) (nil2 α) (nil2 α) (nil2 α) (nil2 α) (nil2 α) (nil2 α)
noncomputable def nil4 (α:Type):N16 (N16 (N16 (N16 (Option α)))):=N16.mk (nil3 α) (nil3 α) (nil3 α) (nil3 α) (nil3 α) (nil3 α) (nil3 α) (nil3 α) (nil3 α) (nil3 α) (nil3 α) (nil3 α) (nil3 α) (nil3 α) (nil3 α) (nil3 α)
noncomputable def Tr.e {α:Type}:Tr α:=Tr.mk (nil2 α) (nil4 α) []
inductive Ac (α:Type) where
 | mk (g:Tr α → Option α) (s:Tr α → α → Tr α)
noncomputable def look {α:Type} (i:Nat):List (Nat × α) → Option α
 | []=>none
 | (k,x) :: r=>match Nat.beq i k with
  | true=>some x
  | false=>look i r
noncomputable def force {β:Type} (F:Nat → β) (x:Nat):β:=Nat.rec (motive:=fun _=>β) (F 0) (fun p _=>F p) (Nat.succ x)
theorem force_eq {β:Type} (F:Nat → β) (x:Nat):force F x = F x:=rfl
inductive Bk (α:Type) where
 | mk (g:Tr α → N16 (Option α)) (s:Tr α → (N16 (Option α) → N16 (Option α)) → Tr α)
noncomputable def blkLo (α:Type) (q:Nat):Bk α:=Sel.rec (motive:=fun _=>Bk α) (fun p1 u1=>
 Bk.mk (fun t=>p1 t.lo) (fun t f=>Tr.rec (motive:=fun _=>(N16 (Option α) → N16 (Option α)) → Tr α) (fun lo hi ov f=>Tr.mk (u1 lo f) hi ov) t f)) (sel0 (N16 (Option α)) q)
noncomputable def blkHi (α:Type) (q:Nat):Bk α:=Sel.rec (motive:=fun _=>Bk α) (fun p3 u3=>Sel.rec (motive:=fun _=>Bk α) (fun p2 u2=>Sel.rec (motive:=fun _=>Bk α) (fun p1 u1=>
 Bk.mk (fun t=>p1 (p2 (p3 t.hi))) (fun t f=>Tr.rec (motive:=fun _=>(N16 (Option α) → N16 (Option α)) → Tr α) (fun lo hi ov f=>Tr.mk lo (u3 hi (fun n=>u2 n (fun n=>u1 n f))) ov) t f))
 (sel0 (N16 (Option α)) (Nat.mod q 16))) (sel0 (N16 (N16 (Option α))) (Nat.mod (Nat.div q 16) 16))) (sel0 (N16 (N16 (N16 (Option α)))) (Nat.div q 256))
noncomputable def accB (α:Type) (d:Nat) (b:Bk α):Ac α:=Bk.rec (motive:=fun _=>Ac α) (fun g s=>Sel.rec (motive:=fun _=>Ac α) (fun p0 u0=>
 Ac.mk (fun t=>p0 (g t)) (fun t x=>s t (fun n=>u0 n (fun _=>some x)))) (sel0 (Option α) d)) b
noncomputable def accLo (α:Type) (i:Nat):Ac α:=force (fun q=>accB α (Nat.mod i 16) (blkLo α q)) (Nat.div i 16)
noncomputable def accHi (α:Type) (i:Nat):Ac α:=force (fun q=>accB α (Nat.mod i 16) (blkHi α q)) (Nat.div i 16)
noncomputable def accOv (α:Type) (i:Nat):Ac α:=Ac.mk (fun t=>look i t.ov) (fun t x=>Tr.mk t.lo t.hi ((i,x) :: t.ov))
noncomputable def acc (α:Type) (i:Nat):Ac α:=
 Bool.rec (motive:=fun _=>Ac α) (Bool.rec (motive:=fun _=>Ac α) (accOv α i) (accHi α i) (Nat.blt i 65536)) (accLo α i) (Nat.blt i 256)
noncomputable def Tr.get {α:Type} (t:Tr α) (i:Nat):Option α:=Ac.rec (motive:=fun _=>Option α) (fun g _=>g t) (acc α i)
noncomputable def Tr.set {α:Type} (t:Tr α) (i:Nat) (x:α):Tr α:=Ac.rec (motive:=fun _=>Tr α) (fun _ s=>s t x) (acc α i)
section
variable {α : Type}
theorem bltD (i n:Nat):Nat.blt i n = decide (i < n):=by
 unfold Nat.blt
 by_cases h:i < n
 ·rw [decide_eq_true h]; exact Nat.ble_eq_true_of_le h
 ·rw [decide_eq_false h]
  cases hb:Nat.ble (i + 1) n
  ·rfl
  ·exact absurd (Nat.le_of_ble_eq_true hb) h
theorem acc_lo {i:Nat} (h:i < 256):acc α i = accLo α i:=by unfold acc; rw [bltD,bltD,decide_eq_true h]
theorem acc_hi {i:Nat} (h : ¬ i < 256) (h2:i < 65536):acc α i = accHi α i:=by unfold acc; rw [bltD,bltD,decide_eq_false h,decide_eq_true h2]
theorem acc_ov {i:Nat} (h : ¬ i < 256) (h2 : ¬ i < 65536):acc α i = accOv α i:=by unfold acc; rw [bltD,bltD,decide_eq_false h,decide_eq_false h2]
theorem Tr.get_eq (t:Tr α) (i:Nat):t.get i = if i < 256 then (sel0 _ (i % 16)).p ((sel0 _ (i / 16)).p t.lo) else if i < 65536 then (sel0 _ (i % 16)).p ((sel0 _ (i / 16 % 16)).p ((sel0 _ (i / 256 % 16)).p ((sel0 _ (i / 4096)).p t.hi))) else look i t.ov:=by
 unfold Tr.get
 by_cases h1:i < 256
 ·rw [acc_lo h1,if_pos h1]
  unfold accLo
  rw [force_eq]
  unfold accB blkLo
  rw [Sel.eta (sel0 (Option α) (Nat.mod i 16)),Sel.eta (sel0 (N16 (Option α)) (Nat.div i 16))]
  rfl
 ·rw [if_neg h1]
  by_cases h2:i < 65536
  ·rw [acc_hi h1 h2,if_pos h2]
   unfold accHi
   rw [force_eq]
   unfold accB blkHi
   rw [show Nat.div (Nat.div i 16) 16 = Nat.div i 256 from Nat.div_div_eq_div_mul i 16 16,show Nat.div (Nat.div i 16) 256 = Nat.div i 4096 from Nat.div_div_eq_div_mul i 16 256]
   rw [Sel.eta (sel0 (Option α) (Nat.mod i 16)),Sel.eta (sel0 (N16 (Option α)) (Nat.mod (Nat.div i 16) 16)),Sel.eta (sel0 (N16 (N16 (Option α))) (Nat.mod (Nat.div i 256) 16)),Sel.eta (sel0 (N16 (N16 (N16 (Option α)))) (Nat.div i 4096))]
   rfl
  ·rw [acc_ov h1 h2,if_neg h2]
   rfl
theorem Tr.set_eq (t:Tr α) (i:Nat) (x:α):t.set i x = if i < 256 then Tr.mk ((sel0 _ (i / 16)).u t.lo fun n=>(sel0 _ (i % 16)).u n fun _=>some x) t.hi t.ov else if i < 65536 then Tr.mk t.lo ((sel0 _ (i / 4096)).u t.hi fun n=>(sel0 _ (i / 256 % 16)).u n fun n=>(sel0 _ (i / 16 % 16)).u n fun n=>(sel0 _ (i % 16)).u n fun _=>some x) t.ov else Tr.mk t.lo t.hi ((i,x) :: t.ov):=by
 unfold Tr.set
 by_cases h1:i < 256
 ·rw [acc_lo h1,if_pos h1]
  unfold accLo
  rw [force_eq]
  unfold accB blkLo
  rw [Sel.eta (sel0 (Option α) (Nat.mod i 16)),Sel.eta (sel0 (N16 (Option α)) (Nat.div i 16))]
  cases t
  rfl
 ·rw [if_neg h1]
  by_cases h2:i < 65536
  ·rw [acc_hi h1 h2,if_pos h2]
   unfold accHi
   rw [force_eq]
   unfold accB blkHi
   rw [show Nat.div (Nat.div i 16) 16 = Nat.div i 256 from Nat.div_div_eq_div_mul i 16 16,show Nat.div (Nat.div i 16) 256 = Nat.div i 4096 from Nat.div_div_eq_div_mul i 16 256]
   rw [Sel.eta (sel0 (Option α) (Nat.mod i 16)),Sel.eta (sel0 (N16 (Option α)) (Nat.mod (Nat.div i 16) 16)),Sel.eta (sel0 (N16 (N16 (Option α))) (Nat.mod (Nat.div i 256) 16)),Sel.eta (sel0 (N16 (N16 (N16 (Option α)))) (Nat.div i 4096))]
   cases t
   rfl
  ·rw [acc_ov h1 h2,if_neg h2]
   rfl
theorem Tr.get_set (x:α) (t:Tr α) (i j:Nat):(t.set i x).get j = if j = i then some x else t.get j:=by
 rw [Tr.get_eq,Tr.get_eq,Tr.set_eq]
 have m:∀ n,n % 16 < 16:=fun n=>Nat.mod_lt _ (by omega)
 by_cases hj:j < 256
 ·rw [if_pos hj,if_pos hj]
  by_cases hi:i < 256
  ·rw [if_pos hi]
   show (sel0 _ (j % 16)).p ((sel0 _ (j / 16)).p ((sel0 _ (i / 16)).u t.lo _)) = _
   rw [sel_law (by omega) (by omega)]
   by_cases e1:j / 16 = i / 16
   ·rw [if_pos e1,sel_law (m _) (m _)]
    by_cases e0:j % 16 = i % 16
    ·rw [if_pos e0,if_pos (by omega)]
    ·rw [if_neg e0,if_neg (by omega)]
   ·rw [if_neg e1,if_neg (fun e=>e1 (by rw [e]))]
  ·rw [if_neg hi]
   by_cases hi2:i < 65536
   ·rw [if_pos hi2,if_neg (show ¬ j = i by omega)]
   ·rw [if_neg hi2,if_neg (show ¬ j = i by omega)]
 ·rw [if_neg hj,if_neg hj]
  by_cases hj2:j < 65536
  ·rw [if_pos hj2,if_pos hj2]
   by_cases hi:i < 256
   ·rw [if_pos hi,if_neg (show ¬ j = i by omega)]
   ·rw [if_neg hi]
    by_cases hi2:i < 65536
    ·rw [if_pos hi2]
     show (sel0 _ (j % 16)).p ((sel0 _ (j / 16 % 16)).p ((sel0 _ (j / 256 % 16)).p ((sel0 _ (j / 4096)).p ((sel0 _ (i / 4096)).u t.hi _)))) = _
     rw [sel_law (by omega) (by omega)]
     by_cases e3:j / 4096 = i / 4096
     ·rw [if_pos e3,sel_law (m _) (m _)]
      by_cases e2:j / 256 % 16 = i / 256 % 16
      ·rw [if_pos e2,sel_law (m _) (m _)]
       by_cases e1:j / 16 % 16 = i / 16 % 16
       ·rw [if_pos e1,sel_law (m _) (m _)]
        by_cases e0:j % 16 = i % 16
        ·rw [if_pos e0,if_pos (by omega)]
        ·rw [if_neg e0,if_neg (by omega)]
       ·rw [if_neg e1,if_neg (fun e=>e1 (by rw [e]))]
      ·rw [if_neg e2,if_neg (fun e=>e2 (by rw [e]))]
     ·rw [if_neg e3,if_neg (fun e=>e3 (by rw [e]))]
    ·rw [if_neg hi2,if_neg (show ¬ j = i by omega)]
  ·rw [if_neg hj2,if_neg hj2]
   by_cases hi:i < 256
   ·rw [if_pos hi,if_neg (show ¬ j = i by omega)]
   ·rw [if_neg hi]
    by_cases hi2:i < 65536
    ·rw [if_pos hi2,if_neg (show ¬ j = i by omega)]
    ·rw [if_neg hi2]
     show look j ((i,x) :: t.ov) = _
     unfold look
     by_cases e:j = i
     ·subst e; rw [Nat.beq_refl,if_pos rfl]
     ·rw [if_neg e]
      cases hb:Nat.beq j i
      ·cases hl:t.ov <;> rfl
      ·exact absurd (Nat.eq_of_beq_eq_true hb) e
theorem Tr.get_set_same (x:α) (t:Tr α) (i:Nat):(t.set i x).get i = some x:=by rw [Tr.get_set,if_pos rfl]
theorem Tr.get_e (i:Nat):(Tr.e:Tr α).get i = none:=by
 rw [Tr.get_eq]
 have m:∀ n,n % 16 < 16:=fun n=>Nat.mod_lt _ (by omega)
 have h1:∀ d,d < 16 → (sel0 (Option α) d).p (nil1 α) = none:=fun d hd=>by rcases lt16 hd with rfl | rfl | rfl | rfl | rfl | rfl | rfl | rfl | rfl | rfl | rfl | rfl | rfl | rfl | rfl | rfl <;> rfl
 have h2:∀ d,d < 16 → (sel0 _ d).p (nil2 α) = nil1 α:=fun d hd=>by rcases lt16 hd with rfl | rfl | rfl | rfl | rfl | rfl | rfl | rfl | rfl | rfl | rfl | rfl | rfl | rfl | rfl | rfl <;> rfl
 have h3:∀ d,d < 16 → (sel0 _ d).p (nil3 α) = nil2 α:=fun d hd=>by rcases lt16 hd with rfl | rfl | rfl | rfl | rfl | rfl | rfl | rfl | rfl | rfl | rfl | rfl | rfl | rfl | rfl | rfl <;> rfl
 have h4:∀ d,d < 16 → (sel0 _ d).p (nil4 α) = nil3 α:=fun d hd=>by rcases lt16 hd with rfl | rfl | rfl | rfl | rfl | rfl | rfl | rfl | rfl | rfl | rfl | rfl | rfl | rfl | rfl | rfl <;> rfl
 by_cases hj:i < 256
 ·rw [if_pos hj]
  show (sel0 _ (i % 16)).p ((sel0 _ (i / 16)).p (nil2 α)) = _
  rw [h2 _ (by omega),h1 _ (m _)]
 ·rw [if_neg hj]
  by_cases hj2:i < 65536
  ·rw [if_pos hj2]
   show (sel0 _ (i % 16)).p ((sel0 _ (i / 16 % 16)).p ((sel0 _ (i / 256 % 16)).p ((sel0 _ (i / 4096)).p (nil4 α)))) = _
   rw [h4 _ (by omega),h3 _ (m _),h2 _ (m _),h1 _ (m _)]
  ·rw [if_neg hj2]; rfl
end
end Go.Proofs.YtoeeackjlclneaaGreatDoor
end
section
namespace Go.Proofs.YtoeeackjlclneaaGreatDoor
set_option linter.unusedVariables false
structure En where
 str:Nat → ByteArray
 num:Nat → Int
 w0:World
structure Lf where
 c:Int
 l:List (Nat × Int)
def sumX (η:En):List (Nat × Int) → Int
 | []=>0
 | (i,a) :: r=>a * η.num i + sumX η r
def Lf.val (η:En) (f:Lf):Int:=f.c + sumX η f.l
structure Loc where
 b:Nat
 s:Nat
 n:Nat
abbrev Nu:=Nat → Option Loc
def Nu.le (ν ν':Nu):Prop := ∀ b p,ν b = some p → ν' b = some p
theorem Nu.le_refl (ν:Nu):ν.le ν:=fun _ _ h=>h
theorem Nu.le_trans {a b c:Nu} (h:a.le b) (g:b.le c):a.le c:=fun _ _ e=>g _ _ (h _ _ e)
inductive AV where
 | vno
 | vn (n:Nat)
 | vb (x:Bool)
 | vi (k:IntKind) (n:Int)
 | vx (k:IntKind) (f:Lf)
 | vq (k:IntKind) (f:Lf) (i w s:Nat)
 | vs (l:List Nat)
 | vy (i:Nat)
 | vfl (n:Nat)
 | vpn
 | vp (b o:Nat)
 | vsn
 | vsl (b o len cap:Nat) (ex:Bool) (z:Nat)
 | vsx (b:Nat) (o n c:Lf) (ex:Bool)
 | vpx (b:Nat) (f:Lf)
 | vse
 | vmn
 | vm (b:Nat)
 | vnf
 | vfn (f:Nat) (l:List AV)
 | vni
 | vag (l:List AV)
 | vtp (l:List AV)
def bytesOfN (l:List Nat):ByteArray:=⟨(l.map UInt8.ofNat).toArray⟩
mutual
def vrel (η:En) (ν:Nu):AV → Value → Prop
 | .vno,v=>False
 | .vn n,v=>v = .int .i64 (n:Int)
 | .vb x,v=>v = .bool x
 | .vi k n,v=>v = .int k n
 | .vx k f,v=>v = .int k (f.val η)
 | .vq k f i w s,v=>v = .int k (((f.val η).toNat / 2 ^ i % 2 ^ w * 2 ^ s:Nat):Int)
 | .vs l,v=>v = .string (bytesOfN l) ∧ ∀ n ∈ l,n < 256
 | .vy i,v=>v = .string (η.str i)
 | .vfl n,v=>v = .float .f64 n
 | .vpn,v=>v = .pointer none
 | .vp b o,v => ∃ q,ν b = some q ∧ v = .pointer (some ⟨q.b,q.s + o,none⟩)
 | .vsn,v=>v = .slice none 0 0
 | .vsl b o len cap ex z,v => ∃ q c,ν b = some q ∧ v = .slice (some ⟨q.b,q.s + o,none⟩) len c ∧ len ≤ cap ∧ cap ≤ c ∧ (ex = true → c = cap) ∧ q.s + o + c * z ≤ q.n ∧ c ≤ maxLen
 | .vsx b o n c ex,v => ∃ q O N K,ν b = some q ∧ v = .slice (some ⟨q.b,q.s + O,none⟩) N K ∧ (O:Int) = o.val η ∧ (N:Int) = n.val η ∧ N ≤ K ∧ c.val η ≤ (K:Int) ∧ (ex = true → (K:Int) = c.val η) ∧ q.s + O + K ≤ q.n ∧ K ≤ maxLen
 | .vpx b f,v => ∃ q O,ν b = some q ∧ v = .pointer (some ⟨q.b,q.s + O,none⟩) ∧ (O:Int) = f.val η
 | .vse,v => ∃ a c,v = .slice (some a) 0 c
 | .vmn,v=>v = .map none
 | .vm b,v => ∃ q,ν b = some q ∧ v = .map (some q.b)
 | .vnf,v=>v = .nilFunc
 | .vfn f l,v => ∃ vs:List Value,v = .func (.func f) #[] vs.toArray ∧ vrels η ν l vs
 | .vni,v=>v = .nilIface
 | .vag l,v => ∃ vs:List Value,v = .agg vs.toArray ∧ vrels η ν l vs
 | .vtp l,v => ∃ vs:List Value,v = .tuple vs.toArray ∧ vrels η ν l vs
def vrels (η:En) (ν:Nu):List AV → List Value → Prop
 | [],vs=>vs = []
 | a :: l,vs => ∃ v r,vs = v :: r ∧ vrel η ν a v ∧ vrels η ν l r
end
theorem vrels_nil {η:En} {ν:Nu} {vs:List Value}:vrels η ν [] vs ↔ vs = []:=by rw [vrels]
theorem vrels_cons {η:En} {ν:Nu} {a:AV} {l:List AV} {v:Value} {vs:List Value}:vrels η ν (a :: l) (v :: vs) ↔ vrel η ν a v ∧ vrels η ν l vs:=by
 rw [vrels]
 constructor
 ·rintro ⟨v',r,h,h1,h2⟩
  obtain ⟨rfl,rfl⟩:=List.cons.inj h
  exact ⟨h1,h2⟩
 ·rintro ⟨h1,h2⟩; exact ⟨_,_,rfl,h1,h2⟩
mutual
theorem vrel_mono {η:En} {ν ν':Nu} (hν:ν.le ν'):∀ (a:AV) (v:Value),vrel η ν a v → vrel η ν' a v
 | .vno,_,h=>by rw [vrel] at h; exact h.elim
 | .vn _,_,h=>by rw [vrel] at h ⊢; exact h
 | .vb _,_,h=>by rw [vrel] at h ⊢; exact h
 | .vi _ _,_,h=>by rw [vrel] at h ⊢; exact h
 | .vx _ _,_,h=>by rw [vrel] at h ⊢; exact h
 | .vq _ _ _ _ _,_,h=>by rw [vrel] at h ⊢; exact h
 | .vs _,_,h=>by rw [vrel] at h ⊢; exact h
 | .vy _,_,h=>by rw [vrel] at h ⊢; exact h
 | .vfl _,_,h=>by rw [vrel] at h ⊢; exact h
 | .vpn,_,h=>by rw [vrel] at h ⊢; exact h
 | .vp _ _,_,h=>by rw [vrel] at h ⊢; obtain ⟨q,h1,h2⟩:=h; exact ⟨q,hν _ _ h1,h2⟩
 | .vsn,_,h=>by rw [vrel] at h ⊢; exact h
 | .vsl _ _ _ _ _ _,_,h=>by rw [vrel] at h ⊢; obtain ⟨q,c,h1,h2⟩:=h; exact ⟨q,c,hν _ _ h1,h2⟩
 | .vsx _ _ _ _ _,_,h=>by rw [vrel] at h ⊢; obtain ⟨q,O,N,K,h1,h2⟩:=h; exact ⟨q,O,N,K,hν _ _ h1,h2⟩
 | .vpx _ _,_,h=>by rw [vrel] at h ⊢; obtain ⟨q,O,h1,h2⟩:=h; exact ⟨q,O,hν _ _ h1,h2⟩
 | .vse,_,h=>by rw [vrel] at h ⊢; exact h
 | .vmn,_,h=>by rw [vrel] at h ⊢; exact h
 | .vm _,_,h=>by rw [vrel] at h ⊢; obtain ⟨q,h1,h2⟩:=h; exact ⟨q,hν _ _ h1,h2⟩
 | .vnf,_,h=>by rw [vrel] at h ⊢; exact h
 | .vfn _ l,_,h=>by rw [vrel] at h ⊢; obtain ⟨vs,h1,h2⟩:=h; exact ⟨vs,h1,vrels_mono hν l vs h2⟩
 | .vni,_,h=>by rw [vrel] at h ⊢; exact h
 | .vag l,_,h=>by rw [vrel] at h ⊢; obtain ⟨vs,h1,h2⟩:=h; exact ⟨vs,h1,vrels_mono hν l vs h2⟩
 | .vtp l,_,h=>by rw [vrel] at h ⊢; obtain ⟨vs,h1,h2⟩:=h; exact ⟨vs,h1,vrels_mono hν l vs h2⟩
theorem vrels_mono {η:En} {ν ν':Nu} (hν:ν.le ν'):∀ (l:List AV) (vs:List Value),vrels η ν l vs → vrels η ν' l vs
 | [],_,h=>by rw [vrels] at h ⊢; exact h
 | a :: l,_,h=>by
  rw [vrels] at h ⊢
  obtain ⟨v,r,h1,h2,h3⟩:=h
  exact ⟨v,r,h1,vrel_mono hν a v h2,vrels_mono hν l r h3⟩
end
def unN (a:AV):AV:=match a with
 | .vn n => .vi .i64 (.ofNat n)
 | a=>a
def toN (a:AV):AV:=match a with
 | .vi .i64 (.ofNat n) => .vn n
 | a=>a
theorem unN_rel {η:En} {ν:Nu} {a:AV} {v:Value} (h:vrel η ν a v):vrel η ν (unN a) v:=by
 cases a <;> first | exact h | (show vrel η ν (.vi .i64 (.ofNat _)) v; rw [vrel] at h ⊢; exact h)
theorem toN_rel {η:En} {ν:Nu} {a:AV} {v:Value} (h:vrel η ν a v):vrel η ν (toN a) v:=by
 cases a
 case vi k n=>
  cases k <;> cases n <;> exact h
 all_goals exact h
def unL:List AV → List AV
 | []=>[]
 | a :: l=>unN a :: unL l
theorem unL_rel {η:En} {ν:Nu}:∀ {l:List AV} {vs:List Value},vrels η ν l vs → vrels η ν (unL l) vs
 | [],vs,h=>h
 | a :: l,vs,h=>by
  rw [vrels] at h
  obtain ⟨v,r,rfl,h1,h2⟩:=h
  rw [unL,vrels]
  exact ⟨v,r,rfl,unN_rel h1,unL_rel h2⟩
theorem vrels_length {η:En} {ν:Nu}:∀ {l:List AV} {vs:List Value},vrels η ν l vs → l.length = vs.length
 | [],vs,h=>by rw [vrels] at h; simp [h]
 | a :: l,vs,h=>by
  rw [vrels] at h
  obtain ⟨v,r,rfl,h1,h2⟩:=h
  simp [vrels_length h2]
theorem vrels_append {η:En} {ν:Nu}:∀ {l m:List AV} {vs us:List Value},vrels η ν l vs → vrels η ν m us → vrels η ν (l ++ m) (vs ++ us)
 | [],m,vs,us,h,g=>by rw [vrels] at h; subst h; exact g
 | a :: l,m,vs,us,h,g=>by
  rw [vrels] at h
  obtain ⟨v,r,rfl,h1,h2⟩:=h
  exact vrels_cons.2 ⟨h1,vrels_append h2 g⟩
theorem vrels_get {η:En} {ν:Nu}:∀ {l:List AV} {vs:List Value} (i:Nat) (a:AV),vrels η ν l vs → l[i]? = some a → ∃ v,vs[i]? = some v ∧ vrel η ν a v
 | [],vs,i,a,h,g=>by simp at g
 | x :: l,vs,i,a,h,g=>by
  rw [vrels] at h
  obtain ⟨v,r,rfl,h1,h2⟩:=h
  cases i with
  | zero=>simp at g; subst g; exact ⟨v,rfl,h1⟩
  | succ i=>simp at g; obtain ⟨u,h3,h4⟩:=vrels_get i a h2 g; exact ⟨u,by simpa using h3,h4⟩
theorem vrels_drop {η:En} {ν:Nu}:∀ {l:List AV} {vs:List Value} (n:Nat),vrels η ν l vs → vrels η ν (l.drop n) (vs.drop n)
 | [],vs,n,h=>by rw [vrels] at h; subst h; simp [vrels]
 | x :: l,vs,0,h=>by simpa using h
 | x :: l,vs,n + 1,h=>by
  rw [vrels] at h
  obtain ⟨v,r,rfl,h1,h2⟩:=h
  simpa using vrels_drop n h2
theorem vrels_take {η:En} {ν:Nu}:∀ {l:List AV} {vs:List Value} (n:Nat),vrels η ν l vs → vrels η ν (l.take n) (vs.take n)
 | [],vs,n,h=>by rw [vrels] at h; subst h; simp [vrels]
 | x :: l,vs,0,h=>by simp [vrels]
 | x :: l,vs,n + 1,h=>by
  rw [vrels] at h
  obtain ⟨v,r,rfl,h1,h2⟩:=h
  simpa using vrels_cons.2 ⟨h1,vrels_take n h2⟩
inductive Sg where
 | c (l:List AV)
 | y (i:Nat)
inductive Ob where
 | oc (l:List AV) (mk:Bool)
 | os (l:List Sg) (mk:Bool)
 | om (l:List (AV × AV))
 | ox
def bytesV (s:ByteArray):List Value:=s.data.toList.map fun b => .int .u8 b.toNat
def segR (η:En) (ν:Nu):List Sg → List Value → Prop
 | [],vs=>vs = []
 | .c l :: r,vs => ∃ us ws,vs = us ++ ws ∧ vrels η ν l us ∧ segR η ν r ws
 | .y i :: r,vs => ∃ ws,vs = bytesV (η.str i) ++ ws ∧ segR η ν r ws
theorem segR_mono {η:En} {ν ν':Nu} (hν:ν.le ν'):∀ {l:List Sg} {vs:List Value},segR η ν l vs → segR η ν' l vs
 | [],vs,h=>h
 | .c l :: r,vs,⟨us,ws,h1,h2,h3⟩=>⟨us,ws,h1,vrels_mono hν _ _ h2,segR_mono hν h3⟩
 | .y i :: r,vs,⟨ws,h1,h3⟩=>⟨ws,h1,segR_mono hν h3⟩
def entRm (η:En) (ν:Nu):List (AV × AV) → List MapEntry → Prop
 | [],es=>es = []
 | (k,v) :: l,es => ∃ e r,es = e :: r ∧ vrel η ν k e.key ∧ vrel η ν v e.val ∧ entRm η ν l r
theorem entR_mono {η:En} {ν ν':Nu} (hν:ν.le ν'):∀ {l:List (AV × AV)} {es:List MapEntry},entRm η ν l es → entRm η ν' l es
 | [],es,h=>h
 | (k,v) :: l,es,⟨e,r,h1,h2,h3,h4⟩=>⟨e,r,h1,vrel_mono hν _ _ h2,vrel_mono hν _ _ h3,entR_mono hν h4⟩
def frOK (fr:Nat × Nat) (n:Nat) (mk:Bool):Prop:=(mk = false → fr = (0,0)) ∧ (fr.1 = fr.2 ∨ n ≤ fr.1)
def orel (η:En) (ν:Nu) (o:Ob) (q:Loc) (ob:Obj):Prop:=match o with
 | .oc l mk => ∃ c e fr,ob = .cells c e fr ∧ c.size = q.n ∧ q.s ≤ c.size ∧ frOK fr c.size mk ∧ ∃ vs rest,c.toList.drop q.s = vs ++ rest ∧ vrels η ν l vs
 | .os l mk => ∃ c e fr,ob = .cells c e fr ∧ c.size = q.n ∧ q.s ≤ c.size ∧ frOK fr c.size mk ∧ ∃ vs rest,c.toList.drop q.s = vs ++ rest ∧ segR η ν l vs
 | .om l => ∃ es k,ob = .map es k ∧ entRm η ν l es.toList
 | .ox=>True
theorem orel_mono {η:En} {ν ν':Nu} (hν:ν.le ν') {o:Ob} {q:Loc} {ob:Obj} (h:orel η ν o q ob):orel η ν' o q ob:=by
 cases o with
 | oc l mk=>obtain ⟨c,e,fr,h1,h0,hs,h2,vs,rest,h3,h4⟩:=h; exact ⟨c,e,fr,h1,h0,hs,h2,vs,rest,h3,vrels_mono hν _ _ h4⟩
 | os l mk=>obtain ⟨c,e,fr,h1,h0,hs,h2,vs,rest,h3,h4⟩:=h; exact ⟨c,e,fr,h1,h0,hs,h2,vs,rest,h3,segR_mono hν h4⟩
 | om l=>obtain ⟨es,k,h2,h3⟩:=h; exact ⟨es,k,h2,entR_mono hν h3⟩
 | ox=>trivial
def dead:Ob → Bool
 | .ox=>true
 | _=>false
structure Bas (η:En) (ν:Nu) (h:Tr Ob) (w:World):Prop where
 low:η.w0.heap.size ≤ w.heap.size
 old:∀ k,k < η.w0.heap.size → w.heap[k]? = η.w0.heap[k]?
 far:∀ b o q,h.get b = some o → dead o = false → ν b = some q → η.w0.heap.size ≤ q.b
structure HR (η:En) (ν:Nu) (h:Tr Ob) (w:World):Prop where
 at_:∀ b o,h.get b = some o → ∃ q ob,ν b = some q ∧ w.heap[q.b]? = some ob ∧ orel η ν o q ob
 inj:∀ b b' o o' q q',h.get b = some o → h.get b' = some o' → dead o = false → dead o' = false → ν b = some q → ν b' = some q' → q.b = q'.b → b = b'
 base:Bas η ν h w
def Nx (ν:Nu) (nx:Nat):Prop := ∀ b,nx ≤ b → ν b = none
def Img (ν:Nu) (h:Tr Ob) (B:Nat):Prop := ∃ b o q,h.get b = some o ∧ dead o = false ∧ ν b = some q ∧ q.b = B
structure Oth (w w':World):Prop where
 os:w'.os = w.os
 tape:w'.tape = w.tape
 output:w'.output = w.output
theorem Oth.refl (w:World):Oth w w:=⟨rfl,rfl,rfl⟩
theorem Oth.trans {a b c:World} (x:Oth a b) (y:Oth b c):Oth a c:=⟨y.os.trans x.os,y.tape.trans x.tape,y.output.trans x.output⟩
structure Fr (ν:Nu) (h:Tr Ob) (w:World) (ν':Nu) (h':Tr Ob) (w':World):Prop where
 le:ν.le ν'
 size:w.heap.size ≤ w'.heap.size
 keep:∀ B,B < w.heap.size → ¬ Img ν h B → w'.heap[B]? = w.heap[B]?
 img:∀ B,B < w.heap.size → Img ν' h' B → Img ν h B
 oth:Oth w w'
theorem Fr.refl (ν:Nu) (h:Tr Ob) (w:World):Fr ν h w ν h w:=⟨Nu.le_refl ν,Nat.le_refl _,fun _ _ _=>rfl,fun _ _ i=>i,Oth.refl _⟩
theorem Fr.trans {ν ν1 ν2:Nu} {h h1 h2:Tr Ob} {w w1 w2:World} (a:Fr ν h w ν1 h1 w1) (b:Fr ν1 h1 w1 ν2 h2 w2):Fr ν h w ν2 h2 w2:=by
 refine ⟨Nu.le_trans a.le b.le,Nat.le_trans a.size b.size,fun B hB hn => ?_,fun B hB hi => ?_,a.oth.trans b.oth⟩
 ·rw [b.keep B (Nat.lt_of_lt_of_le hB a.size) (fun hi=>hn (a.img B hB hi)),a.keep B hB hn]
 ·exact a.img B hB (b.img B (Nat.lt_of_lt_of_le hB a.size) hi)
theorem lt_of_some {w:World} {B:Nat} {ob:Obj} (h:w.heap[B]? = some ob):B < w.heap.size:=by
 rcases Nat.lt_or_ge B w.heap.size with hl | hl
 ·exact hl
 ·rw [Array.getElem?_eq_none hl] at h; cases h
theorem HR.get {η:En} {ν:Nu} {h:Tr Ob} {w:World} (H:HR η ν h w) {b:Nat} {o:Ob} {q:Loc} (g:h.get b = some o) (e:ν b = some q):∃ ob,w.heap[q.b]? = some ob ∧ orel η ν o q ob:=by
 obtain ⟨q',ob,e1,e2,e3⟩:=H.at_ b o g
 rw [e] at e1
 cases e1
 exact ⟨ob,e2,e3⟩
theorem HR.lt {η:En} {ν:Nu} {h:Tr Ob} {w:World} (H:HR η ν h w) {b:Nat} {o:Ob} {q:Loc} (g:h.get b = some o) (e:ν b = some q):q.b < w.heap.size:=by
 obtain ⟨ob,e2, -⟩:=H.get g e
 exact lt_of_some e2
def Nu.put (ν:Nu) (n:Nat) (p:Loc):Nu:=fun b=>if b = n then some p else ν b
theorem Nu.le_put {ν:Nu} {n:Nat} {p:Loc} (h:ν n = none):ν.le (ν.put n p):=by
 intro b q e
 unfold Nu.put
 by_cases hb:b = n
 ·subst hb; rw [h] at e; cases e
 ·rw [if_neg hb]; exact e
theorem HR.new {η:En} {ν:Nu} {h:Tr Ob} {w:World} {nx:Nat} (H:HR η ν h w) (hx:Nx ν nx) (ob:Obj) (o:Ob) (n:Nat) (ho:orel η (ν.put nx ⟨w.heap.size,0,n⟩) o ⟨w.heap.size,0,n⟩ ob) :
  HR η (ν.put nx ⟨w.heap.size,0,n⟩) (h.set nx o) (w.alloc ob) ∧ Nx (ν.put nx ⟨w.heap.size,0,n⟩) (nx + 1) ∧ Fr ν h w (ν.put nx ⟨w.heap.size,0,n⟩) (h.set nx o) (w.alloc ob):=by
 have hle:ν.le (ν.put nx ⟨w.heap.size,0,n⟩):=Nu.le_put (hx nx (Nat.le_refl _))
 have hsz:(w.alloc ob).heap.size = w.heap.size + 1:=by show (w.heap.push ob).size = _; simp
 have hnew:(w.alloc ob).heap[w.heap.size]? = some ob:=by show (w.heap.push ob)[w.heap.size]? = _; simp
 have hold:∀ B,B < w.heap.size → (w.alloc ob).heap[B]? = w.heap[B]? := fun B hB=>by show (w.heap.push ob)[B]? = _; simp [Array.getElem?_push,Nat.ne_of_lt hB]
 have hput:∀ b,b ≠ nx → (ν.put nx ⟨w.heap.size,0,n⟩) b = ν b:=fun b hb=>if_neg hb
 have hn:(ν.put nx ⟨w.heap.size,0,n⟩) nx = some ⟨w.heap.size,0,n⟩:=if_pos rfl
 refine ⟨⟨fun b x hg => ?_,fun b b' x x' q q' hg hg' hd hd' he he' hq => ?_,⟨by have:=H.base.low; omega,fun k hk=>(hold k (Nat.lt_of_lt_of_le hk H.base.low)).trans (H.base.old k hk),fun b x q hg hd he => ?_⟩⟩,fun b hb => ?_,⟨hle,by omega,fun B hB _=>hold B hB,fun B hB hi => ?_,⟨rfl,rfl,rfl⟩⟩⟩
 ·rw [Tr.get_set] at hg
  by_cases hb:b = nx
  ·rw [if_pos hb] at hg
   cases hg
   subst hb
   exact ⟨_,ob,hn,hnew,ho⟩
  ·rw [if_neg hb] at hg
   obtain ⟨q,ob',e1,e2,e3⟩:=H.at_ b x hg
   exact ⟨q,ob',hle _ _ e1,(hold _ (H.lt hg e1)).trans e2,orel_mono hle e3⟩
 ·rw [Tr.get_set] at hg hg'
  by_cases hb:b = nx
  ·by_cases hb':b' = nx
   ·rw [hb,hb']
   ·rw [if_neg hb'] at hg'
    rw [hput b' hb'] at he'
    subst hb
    rw [hn] at he
    cases he
    have:=H.lt hg' he'
    rw [← hq] at this
    exact absurd this (Nat.lt_irrefl _)
  ·rw [if_neg hb] at hg
   rw [hput b hb] at he
   by_cases hb':b' = nx
   ·subst hb'
    rw [hn] at he'
    cases he'
    have:=H.lt hg he
    rw [hq] at this
    exact absurd this (Nat.lt_irrefl _)
   ·rw [if_neg hb'] at hg'
    rw [hput b' hb'] at he'
    exact H.inj b b' x x' q q' hg hg' hd hd' he he' hq
 ·rw [Tr.get_set] at hg
  by_cases hb:b = nx
  ·subst hb
   rw [hn] at he
   cases he
   exact H.base.low
  ·rw [if_neg hb] at hg
   rw [hput b hb] at he
   exact H.base.far b x q hg hd he
 ·rw [hput b (by omega)]; exact hx b (by omega)
 ·obtain ⟨b,x,q,hg,hd,he,hq⟩:=hi
  rw [Tr.get_set] at hg
  by_cases hb:b = nx
  ·subst hb
   rw [hn] at he
   cases he
   exact absurd hB (by rw [← hq]; exact Nat.lt_irrefl _)
  ·rw [if_neg hb] at hg
   rw [hput b hb] at he
   exact ⟨b,x,q,hg,hd,he,hq⟩
theorem HR.upd {η:En} {ν:Nu} {h:Tr Ob} {w w':World} (H:HR η ν h w) {b:Nat} {o o':Ob} {q:Loc} {ob':Obj} (hg:h.get b = some o) (hdo:dead o = false) (hdo':dead o' = false) (he:ν b = some q)
  (hsz:w'.heap.size = w.heap.size) (hB:w'.heap[q.b]? = some ob') (hO:∀ C,C ≠ q.b → w'.heap[C]? = w.heap[C]?) (ot:Oth w w') (ho:orel η ν o' q ob') :
  HR η ν (h.set b o') w' ∧ Fr ν h w ν (h.set b o') w':=by
 have hqf:=H.base.far b o q hg hdo he
 refine ⟨⟨fun c x hc => ?_,fun c c' x x' r r' hc hc' hd hd' hx hx' hr => ?_,⟨by have:=H.base.low; omega,fun k hk=>(hO k (by omega)).trans (H.base.old k hk),fun c x r hc hd hx => ?_⟩⟩,⟨Nu.le_refl _,by omega,fun C hC hn => ?_,fun C hC hi => ?_,ot⟩⟩
 ·rw [Tr.get_set] at hc
  by_cases hb:c = b
  ·rw [if_pos hb] at hc
   cases hc
   subst hb
   exact ⟨q,ob',he,hB,ho⟩
  ·rw [if_neg hb] at hc
   obtain ⟨r,ob2,e1,e2,e3⟩:=H.at_ c x hc
   by_cases hCB:r.b = q.b
   ·cases hdx:dead x
    ·exact absurd (H.inj c b x o r q hc hg hdx hdo e1 he hCB) hb
    ·cases x <;> first | (cases hdx; done) | exact ⟨r,ob',e1,by rw [hCB]; exact hB,trivial⟩
   ·exact ⟨r,ob2,e1,(hO r.b hCB).trans e2,e3⟩
 ·have lift:∀ d y,(h.set b o').get d = some y → dead y = false → ∃ z,h.get d = some z ∧ dead z = false:=fun d y hd hy=>by
   rw [Tr.get_set] at hd
   by_cases hb:d = b
   ·subst hb; exact ⟨o,hg,hdo⟩
   ·rw [if_neg hb] at hd; exact ⟨y,hd,hy⟩
  obtain ⟨z,hz,hz1⟩:=lift c x hc hd
  obtain ⟨z',hz',hz1'⟩:=lift c' x' hc' hd'
  exact H.inj c c' z z' r r' hz hz' hz1 hz1' hx hx' hr
 ·rw [Tr.get_set] at hc
  by_cases hb:c = b
  ·subst hb
   exact H.base.far c o r hg hdo hx
  ·rw [if_neg hb] at hc
   exact H.base.far c x r hc hd hx
 ·exact hO C fun hCB=>hn ⟨b,o,q,hg,hdo,he,hCB.symm⟩
 ·obtain ⟨c,x,r,hc,hd,hx,hr⟩:=hi
  rw [Tr.get_set] at hc
  by_cases hb:c = b
  ·subst hb; exact ⟨c,o,r,hg,hdo,hx,hr⟩
  ·rw [if_neg hb] at hc; exact ⟨c,x,r,hc,hd,hx,hr⟩
theorem HR.kill {η:En} {ν:Nu} {h:Tr Ob} {w:World} (H:HR η ν h w) {b:Nat} {o:Ob} (hg:h.get b = some o):HR η ν (h.set b .ox) w ∧ Fr ν h w ν (h.set b .ox) w:=by
 refine ⟨⟨fun c x hc => ?_,fun c c' x x' r r' hc hc' hd hd' hx hx' hr => ?_,⟨H.base.low,H.base.old,fun c x r hc hd hx => ?_⟩⟩,⟨Nu.le_refl _,Nat.le_refl _,fun _ _ _=>rfl,fun C hC hi => ?_,Oth.refl _⟩⟩
 ·rw [Tr.get_set] at hc
  by_cases hb:c = b
  ·rw [if_pos hb] at hc
   cases hc
   subst hb
   obtain ⟨q,ob,e1,e2, -⟩:=H.at_ c o hg
   exact ⟨q,ob,e1,e2,trivial⟩
  ·rw [if_neg hb] at hc; exact H.at_ c x hc
 ·rw [Tr.get_set] at hc hc'
  by_cases hb:c = b
  ·rw [if_pos hb] at hc; cases hc; cases hd
  ·by_cases hb':c' = b
   ·rw [if_pos hb'] at hc'; cases hc'; cases hd'
   ·rw [if_neg hb] at hc; rw [if_neg hb'] at hc'
    exact H.inj c c' x x' r r' hc hc' hd hd' hx hx' hr
 ·rw [Tr.get_set] at hc
  by_cases hb:c = b
  ·rw [if_pos hb] at hc; cases hc; cases hd
  ·rw [if_neg hb] at hc; exact H.base.far c x r hc hd hx
 ·obtain ⟨c,x,r,hc,hd,hx,hr⟩:=hi
  rw [Tr.get_set] at hc
  by_cases hb:c = b
  ·rw [if_pos hb] at hc; cases hc; cases hd
  ·rw [if_neg hb] at hc; exact ⟨c,x,r,hc,hd,hx,hr⟩
theorem HR.move {η:En} {ν:Nu} {h:Tr Ob} {w w':World} {nx:Nat} (H:HR η ν h w) (X:Nx ν nx) {b:Nat} {o o':Ob} {q q':Loc} {ob':Obj} (hg:h.get b = some o) (hdo:dead o = false) (hdo':dead o' = false) (he:ν b = some q) (hqb:q'.b = q.b)
  (hsz:w'.heap.size = w.heap.size) (hB:w'.heap[q.b]? = some ob') (hO:∀ C,C ≠ q.b → w'.heap[C]? = w.heap[C]?) (ot:Oth w w') (ho:orel η (ν.put nx q') o' q' ob') :
  HR η (ν.put nx q') ((h.set b .ox).set nx o') w' ∧ Nx (ν.put nx q') (nx + 1) ∧ Fr ν h w (ν.put nx q') ((h.set b .ox).set nx o') w':=by
 have hle:ν.le (ν.put nx q'):=Nu.le_put (X nx (Nat.le_refl _))
 have hbn:b ≠ nx:=fun e=>by have:=X b (by omega); rw [he] at this; cases this
 have hput:∀ c,c ≠ nx → (ν.put nx q') c = ν c:=fun c hc=>if_neg hc
 have hn:(ν.put nx q') nx = some q':=if_pos rfl
 have old:∀ c x,((h.set b .ox).set nx o').get c = some x → c ≠ nx → dead x = false → h.get c = some x ∧ c ≠ b:=fun c x hc hcn hd=>by
  rw [Tr.get_set,if_neg hcn,Tr.get_set] at hc
  by_cases hb:c = b
  ·rw [if_pos hb] at hc; cases hc; cases hd
  ·rw [if_neg hb] at hc; exact ⟨hc,hb⟩
 have hqf:=H.base.far b o q hg hdo he
 refine ⟨⟨fun c x hc => ?_,fun c c' x x' r r' hc hc' hd hd' hx hx' hr => ?_,⟨by have:=H.base.low; omega,fun k hk=>(hO k (by omega)).trans (H.base.old k hk),fun c x r hc hd hx => ?_⟩⟩,fun c hc => ?_,⟨hle,by omega,fun C hC hnot => ?_,fun C hC hi => ?_,ot⟩⟩
 ·by_cases hcn:c = nx
  ·subst hcn
   rw [Tr.get_set_same] at hc
   cases hc
   exact ⟨q',ob',hn,by rw [hqb]; exact hB,ho⟩
  ·cases hdx:dead x
   ·obtain ⟨h1,h2⟩:=old c x hc hcn hdx
    obtain ⟨r,ob2,e1,e2,e3⟩:=H.at_ c x h1
    have hCB:r.b ≠ q.b:=fun hCB=>h2 (H.inj c b x o r q h1 hg hdx hdo e1 he hCB)
    exact ⟨r,ob2,hle _ _ e1,(hO r.b hCB).trans e2,orel_mono hle e3⟩
   ·have hx:x = .ox:=by cases x <;> first | rfl | (cases hdx; done)
    subst hx
    rw [Tr.get_set,if_neg hcn,Tr.get_set] at hc
    have hex:∃ y,h.get c = some y:=by
     by_cases hb:c = b
     ·subst hb; exact ⟨o,hg⟩
     ·rw [if_neg hb] at hc; exact ⟨_,hc⟩
    obtain ⟨y,hy⟩:=hex
    obtain ⟨r,ob2,e1,e2, -⟩:=H.at_ c y hy
    by_cases hCB:r.b = q.b
    ·exact ⟨r,ob',hle _ _ e1,by rw [hCB]; exact hB,trivial⟩
    ·exact ⟨r,ob2,hle _ _ e1,(hO r.b hCB).trans e2,trivial⟩
 ·by_cases hcn:c = nx
  ·by_cases hcn':c' = nx
   ·rw [hcn,hcn']
   ·obtain ⟨h1,h2⟩:=old c' x' hc' hcn' hd'
    rw [hput c' hcn'] at hx'
    subst hcn
    rw [hn] at hx
    cases hx
    exact absurd (H.inj c' b x' o r' q h1 hg hd' hdo hx' he (by rw [← hr,hqb])) h2
  ·obtain ⟨h1,h2⟩:=old c x hc hcn hd
   rw [hput c hcn] at hx
   by_cases hcn':c' = nx
   ·subst hcn'
    rw [hn] at hx'
    cases hx'
    exact absurd (H.inj c b x o r q h1 hg hd hdo hx he (by rw [hr,hqb])) h2
   ·obtain ⟨h1',h2'⟩:=old c' x' hc' hcn' hd'
    rw [hput c' hcn'] at hx'
    exact H.inj c c' x x' r r' h1 h1' hd hd' hx hx' hr
 ·by_cases hcn:c = nx
  ·subst hcn
   rw [hn] at hx
   cases hx
   rw [hqb]; exact hqf
  ·obtain ⟨h1,h2⟩:=old c x hc hcn hd
   rw [hput c hcn] at hx
   exact H.base.far c x r h1 hd hx
 ·rw [hput c (by omega)]; exact X c (by omega)
 ·exact hO C fun hCB=>hnot ⟨b,o,q,hg,hdo,he,hCB.symm⟩
 ·obtain ⟨c,x,r,hc,hd,hx,hr⟩:=hi
  by_cases hcn:c = nx
  ·subst hcn
   rw [hn] at hx
   cases hx
   exact ⟨b,o,q,hg,hdo,he,by rw [← hqb]; exact hr⟩
  ·obtain ⟨h1,h2⟩:=old c x hc hcn hd
   rw [hput c hcn] at hx
   exact ⟨c,x,r,h1,hd,hx,hr⟩
end Go.Proofs.YtoeeackjlclneaaGreatDoor
end
section
namespace Go.Proofs.YtoeeackjlclneaaGreatDoor
set_option linter.unusedVariables false
def concC (v:Value):Option AV:=match v with
 | .bool b=>some (.vb b)
 | .int k n=>some (toN (.vi k n))
 | .string s=>some (.vs (s.data.toList.map fun b=>b.toNat))
 | .float .f64 n=>some (.vfl n)
 | .pointer none=>some .vpn
 | .slice none 0 0=>some .vsn
 | .map none=>some .vmn
 | .nilFunc=>some .vnf
 | .nilIface=>some .vni
 | _=>none
def concL:List Value → Option (List AV)
 | []=>some []
 | v :: l=>match concC v with
  | none=>none
  | some a=>match concL l with
   | none=>none
   | some r=>some (a :: r)
def conc (v:Value):Option AV:=match v with
 | .agg l=>match concL l.toList with
  | some r=>some (.vag r)
  | none=>none
 | .tuple l=>match concL l.toList with
  | some r=>some (.vtp r)
  | none=>none
 | .func (.func f) ⟨[]⟩ ⟨[]⟩=>some (.vfn f [])
 | v=>concC v
theorem bytesOfN_map (s:ByteArray):bytesOfN (s.data.toList.map fun b=>b.toNat) = s:=by
 unfold bytesOfN
 rw [List.map_map]
 have h:((UInt8.ofNat ∘ fun b:UInt8=>b.toNat):UInt8 → UInt8) = id:=by funext b; simp
 rw [h,List.map_id]
theorem concC_rel {v:Value} {a:AV} (h:concC v = some a) (η:En) (ν:Nu):vrel η ν a v:=by
 unfold concC at h
 split at h <;> first
  | (cases h; exact toN_rel (by rw [vrel]))
  | (cases h; rw [vrel])
  | cases h
 case h_3 s=>
  refine ⟨by rw [bytesOfN_map],fun n hn => ?_⟩
  obtain ⟨b, -,rfl⟩:=List.mem_map.1 hn
  exact b.toNat_lt
theorem concL_rel:∀ {l:List Value} {r:List AV},concL l = some r → ∀ (η:En) (ν:Nu),vrels η ν r l
 | [],r,h,η,ν=>by cases h; exact vrels_nil.2 rfl
 | v :: l,r,h,η,ν=>by
  unfold concL at h
  split at h
  ·cases h
  ·rename_i a ha
   split at h
   ·cases h
   ·rename_i r' hr
    cases h
    exact vrels_cons.2 ⟨concC_rel ha η ν,concL_rel hr η ν⟩
theorem conc_rel {v:Value} {a:AV} (h:conc v = some a) (η:En) (ν:Nu):vrel η ν a v:=by
 unfold conc at h
 split at h
 ·split at h
  ·rename_i l r hr
   cases h
   rw [vrel]
   exact ⟨_,by simp,concL_rel hr η ν⟩
  ·cases h
 ·split at h
  ·rename_i l r hr
   cases h
   rw [vrel]
   exact ⟨_,by simp,concL_rel hr η ν⟩
  ·cases h
 ·cases h
  rw [vrel]
  exact ⟨[],rfl,vrels_nil.2 rfl⟩
 ·exact concC_rel h η ν
structure TI where
 size:Nat
 kind:TypeDesc
 fields:List (Nat × Nat)
 elem:Nat
 len:Nat
 agg:Bool
 zero:Option (List AV)
def fieldsL:List Field → List (Nat × Nat)
 | []=>[]
 | f :: l=>(f.type,f.offset) :: fieldsL l
def zeroL (v:Option Value):Option (List AV):=match v with
 | none=>none
 | some v=>concL v.cells.toList
def tiMk (i:TypeInfo) (d:TypeDesc):TI:=match d with
 | .struct fs=>⟨i.size,d,fieldsL fs.toList,0,0,true,zeroL i.zero⟩
 | .array n e=>⟨i.size,d,[],e,n,true,zeroL i.zero⟩
 | .slice e=>⟨i.size,d,[],e,0,false,zeroL i.zero⟩
 | .pointer e=>⟨i.size,d,[],e,0,false,zeroL i.zero⟩
 | .map k e=>⟨i.size,d,[],e,k,false,zeroL i.zero⟩
 | d=>⟨i.size,d,[],0,0,false,zeroL i.zero⟩
def tiOf (tt:Nat → Option TypeInfo) (t:Nat):Option TI:=match tt t with
 | none=>none
 | some i=>match i.desc with
  | .named _ u=>match tt u with
   | none=>none
   | some j=>some (tiMk i j.desc)
  | d=>some (tiMk i d)
structure TabE (P:Program) (tt:Nat → Option TypeInfo) (ff:Nat → Option Func):Prop where
 nm : ∀ f fn, ff f = some fn → (fn.name == "runtime.NumGoroutine") = false
 tt:∀ t i,tt t = some i → P.info? t = some i
 ff:∀ f fn,ff f = some fn → P.funcs[f]? = some fn
structure TIok (P:Program) (t:TypeId) (i:TI):Prop where
 under:P.underlying t = some i.kind
 info:∃ inf,P.info? t = some inf ∧ inf.size = i.size ∧ i.zero = zeroL inf.zero
 made:∃ inf,i = tiMk inf i.kind
theorem tiMk_kind (i:TypeInfo) (d:TypeDesc):(tiMk i d).kind = d:=by unfold tiMk; split <;> rfl
theorem tiMk_size (i:TypeInfo) (d:TypeDesc):(tiMk i d).size = i.size:=by unfold tiMk; split <;> rfl
theorem tiMk_zero (i:TypeInfo) (d:TypeDesc):(tiMk i d).zero = zeroL i.zero:=by unfold tiMk; split <;> rfl
theorem tiOf_ok {P:Program} {tt:Nat → Option TypeInfo} {ff:Nat → Option Func} (T:TabE P tt ff) {t:Nat} {i:TI} (h:tiOf tt t = some i):TIok P t i:=by
 unfold tiOf at h
 split at h
 ·cases h
 ·rename_i inf hi
  have h1:=T.tt t inf hi
  split at h
  ·rename_i nm u hd
   split at h
   ·cases h
   ·rename_i j hj
    cases h
    have h2:=T.tt u j hj
    refine ⟨?_,⟨inf,h1,(tiMk_size _ _).symm,tiMk_zero _ _⟩,⟨inf,by rw [tiMk_kind]⟩⟩
    rw [tiMk_kind]
    unfold Program.underlying
    rw [h1]
    obtain ⟨d,s⟩:=inf
    simp only at hd
    subst hd
    simp [h2]
  ·rename_i hd
   cases h
   refine ⟨?_,⟨inf,h1,(tiMk_size _ _).symm,tiMk_zero _ _⟩,⟨inf,by rw [tiMk_kind]⟩⟩
   rw [tiMk_kind]
   unfold Program.underlying
   rw [h1]
   obtain ⟨d,s⟩:=inf
   cases d <;> first | rfl | (exfalso; exact hd _ _ rfl)
end Go.Proofs.YtoeeackjlclneaaGreatDoor
end
section
namespace Go.Proofs.YtoeeackjlclneaaGreatDoor
set_option linter.unusedVariables false
noncomputable def dropL {α:Type} (l:List α):Nat → List α:=
 List.rec (motive:=fun _=>Nat → List α) (fun _=>[]) (fun a r ih n=>Nat.rec (motive:=fun _=>List α) (a :: r) (fun n _=>ih n) n) l
theorem dropL_eq {α:Type}:∀ (l:List α) (n:Nat),dropL l n = l.drop n
 | [],n=>by simp [dropL]
 | a :: r,0=>rfl
 | a :: r,n + 1=>dropL_eq r n
def takeN {α:Type}:Nat → List α → Option (List α)
 | 0,_=>some []
 | _ + 1,[]=>none
 | n + 1,a :: l=>match takeN n l with
  | some r=>some (a :: r)
  | none=>none
theorem takeN_eq {α:Type}:∀ {n:Nat} {l r:List α},takeN n l = some r → r = l.take n ∧ r.length = n ∧ n ≤ l.length
 | 0,l,r,h=>by cases h; simp
 | n + 1,[],r,h=>by cases h
 | n + 1,a :: l,r,h=>by
  unfold takeN at h
  split at h
  ·rename_i r' hr
   cases h
   obtain ⟨h1,h2,h3⟩:=takeN_eq hr
   refine ⟨by rw [List.take_succ_cons,← h1],by simp [h2],by simpa using h3⟩
  ·cases h
def putN {α:Type}:List α → List α → Option (List α)
 | l,[]=>some l
 | [],_ :: _=>none
 | _ :: l,x :: new=>match putN l new with
  | some r=>some (x :: r)
  | none=>none
theorem putN_eq {α:Type}:∀ {l new r:List α},putN l new = some r → r = new ++ l.drop new.length ∧ new.length ≤ l.length
 | l,[],r,h=>by cases l <;> (cases h; simp)
 | [],x :: new,r,h=>by cases h
 | a :: l,x :: new,r,h=>by
  unfold putN at h
  split at h
  ·rename_i r' hr
   cases h
   obtain ⟨h1,h2⟩:=putN_eq hr
   exact ⟨by rw [h1]; simp,by simpa using h2⟩
  ·cases h
def overN {α:Type}:List α → Nat → List α → Option (List α)
 | l,0,new=>putN l new
 | [],_ + 1,_=>none
 | a :: l,n + 1,new=>match overN l n new with
  | some r=>some (a :: r)
  | none=>none
theorem overN_eq {α:Type}:∀ {l:List α} {n:Nat} {new r:List α},overN l n new = some r → r = l.take n ++ (new ++ l.drop (n + new.length)) ∧ n + new.length ≤ l.length
 | l,0,new,r,h=>by
  have h':putN l new = some r:=by cases l <;> exact h
  obtain ⟨h1,h2⟩:=putN_eq h'
  simp [h1,h2]
 | [],n + 1,new,r,h=>by cases h
 | a :: l,n + 1,new,r,h=>by
  unfold overN at h
  split at h
  ·rename_i r' hr
   cases h
   obtain ⟨h1,h2⟩:=overN_eq hr
   refine ⟨by rw [h1]; simp [Nat.add_right_comm],by simp; omega⟩
  ·cases h
noncomputable def readN (h:Tr Ob) (b o n:Nat):Option (List AV):=match h.get b with
 | some (.oc l _)=>takeN n (dropL l o)
 | some (.os (.c l :: _) _)=>takeN n (dropL l o)
 | _=>none
theorem cell_atE (w:World) (g j:Nat) (cs:Array Value) (t:TypeId) (fr:Nat × Nat) (hg:w.heap[g]? = some (.cells cs t fr)):w.cell? ⟨g,j,none⟩ = cs[j]? := by
 simp [World.cell?,hg]
theorem cells_of_drop {c:Array Value} {s o n:Nat} {vs rest:List Value} (h:c.toList.drop s = vs ++ rest) (j:Nat) (v:Value) (hj:((vs.drop o).take n)[j]? = some v):c[s + o + j]? = some v:=by
 have h1:(vs.drop o)[j]? = some v:=by
  rw [List.getElem?_take] at hj
  split at hj
  ·exact hj
  ·cases hj
 rw [List.getElem?_drop] at h1
 have h2:(c.toList.drop s)[o + j]? = some v:=by
  rw [h,List.getElem?_append_left]
  ·exact h1
  ·rcases Nat.lt_or_ge (o + j) vs.length with hl | hl
   ·exact hl
   ·rw [List.getElem?_eq_none hl] at h1; cases h1
 rw [List.getElem?_drop] at h2
 rw [← Array.getElem?_toList]
 rw [show s + o + j = s + (o + j) by omega]
 exact h2
theorem readN_rel {η:En} {ν:Nu} {h:Tr Ob} {w:World} (H:HR η ν h w) {b o n:Nat} {q:Loc} (hq:ν b = some q) {cs:List AV} (hr:readN h b o n = some cs) :
  cs.length = n ∧ ∃ vs,vrels η ν cs vs ∧ ∀ j v,vs[j]? = some v → w.cell? ⟨q.b,q.s + o + j,none⟩ = some v:=by
 unfold readN at hr
 split at hr
 ·rename_i l mk hg
  obtain ⟨ob,e2,c,e,fr,rfl, -, -, -,vs,rest,h3,h4⟩:=H.get hg hq
  obtain ⟨rfl,h6, -⟩:=takeN_eq hr
  rw [dropL_eq] at h6 ⊢
  exact ⟨h6,_,vrels_take n (vrels_drop o h4),fun j v hj=>(cell_atE w _ _ c e fr e2).trans (cells_of_drop h3 j v hj)⟩
 ·rename_i l r mk hg
  obtain ⟨ob,e2,c,e,fr,rfl, -, -, -,vs,rest,h3,us,ws,h5,h4, -⟩:=H.get hg hq
  subst h5
  rw [List.append_assoc] at h3
  obtain ⟨rfl,h6, -⟩:=takeN_eq hr
  rw [dropL_eq] at h6 ⊢
  exact ⟨h6,_,vrels_take n (vrels_drop o h4),fun j v hj=>(cell_atE w _ _ c e fr e2).trans (cells_of_drop h3 j v hj)⟩
 ·cases hr
theorem addr_add (b o n:Nat):(⟨b,o,none⟩:Addr).add n = ⟨b,o + n,none⟩:=by
 unfold Addr.add; split <;> simp_all
theorem run_loadN {P:Program} {w:World} {B o:Nat} {vs:List Value} (h:∀ j v,vs[j]? = some v → w.cell? ⟨B,o + j,none⟩ = some v) :
  (loadCells ⟨B,o,none⟩ vs.length).run P w = .ok vs.toArray w:=
 run_loadCells_list w ⟨B,o,none⟩ vs fun j v hj=>by rw [addr_add]; exact h j v hj
noncomputable def loadA (i:TI) (h:Tr Ob) (b o:Nat):Option AV:=match i.agg with
 | true=>match readN h b o i.size with
  | some l=>some (.vag l)
  | none=>none
 | false=>match readN h b o 1 with
  | some (a :: _)=>some a
  | _=>none
theorem TIok.isAgg {P:Program} {t:TypeId} {i:TI} (k:TIok P t i) (w:World):(isAgg t).run P w = .ok i.agg w:=by
 obtain ⟨inf,hm⟩:=k.made
 unfold Go.isAgg
 rw [Sem.run_bind,run_underlying k.under w]
 rw [hm]
 generalize i.kind = d
 unfold tiMk
 cases d <;> rfl
theorem TIok.sizeOf {P:Program} {t:TypeId} {i:TI} (k:TIok P t i) (w:World):(sizeOf t).run P w = .ok i.size w:=by
 obtain ⟨inf,h1,h2, -⟩:=k.info
 simp [Go.sizeOf,typeInfo,h1,h2]
theorem loadA_rel {P:Program} {η:En} {ν:Nu} {h:Tr Ob} {w:World} (H:HR η ν h w) {t:TypeId} {i:TI} (k:TIok P t i) {b o:Nat} {q:Loc} (hq:ν b = some q) {a:AV} (hr:loadA i h b o = some a) :
  ∃ v,(loadVar t ⟨q.b,q.s + o,none⟩).run P w = .ok v w ∧ vrel η ν a v:=by
 unfold loadA at hr
 split at hr
 ·rename_i ha
  split at hr
  ·rename_i l hl
   cases hr
   obtain ⟨h1,vs,h2,h3⟩:=readN_rel H hq hl
   refine ⟨.agg vs.toArray, ?_,by rw [vrel]; exact ⟨vs,rfl,h2⟩⟩
   have h4:=run_loadN (P:=P) h3
   rw [← vrels_length h2,h1] at h4
   simp [loadVar,k.isAgg,ha,k.sizeOf,h4]
  ·cases hr
 ·rename_i ha
  split at hr
  ·rename_i x r hl
   cases hr
   obtain ⟨h1,vs,h2,h3⟩:=readN_rel H hq hl
   rw [vrels] at h2
   obtain ⟨v,us,rfl,h5, -⟩:=h2
   refine ⟨v, ?_,h5⟩
   have h6:=h3 0 v rfl
   simp [loadVar,k.isAgg,ha,load,Sem.run] at h6 ⊢
   rw [h6]
  ·cases hr
theorem run_storeN {P:Program} {g o:Nat} {t:TypeId} {fr:Nat × Nat}:∀ (vs:List Value) (i:Nat) (cur:Array Value) (w:World),w.heap[g]? = some (.cells cur t fr) → (fr.1 = fr.2 ∨ cur.size ≤ fr.1) →
  o + i + vs.length ≤ cur.size → (∀ v ∈ vs,v.oneCell' = true) →
  ∃ w',(storeCells ⟨g,o,none⟩ vs i).run P w = .ok () w' ∧ w'.heap.size = w.heap.size ∧ (∀ C,C ≠ g → w'.heap[C]? = w.heap[C]?) ∧ Oth w w' ∧
   ∃ cur':Array Value,w'.heap[g]? = some (.cells cur' t fr) ∧ cur'.toList = cur.toList.take (o + i) ++ (vs ++ cur.toList.drop (o + i + vs.length))
 | [],i,cur,w,hg,hf,hl,h1=>⟨w,rfl,rfl,fun _ _=>rfl,Oth.refl _,cur,hg,by simp⟩
 | v :: vs,i,cur,w,hg,hf,hl,h1=>by
  simp only [List.length_cons] at hl
  have hv:=h1 v (List.mem_cons_self ..)
  have hc:w.cell? ⟨g,o + i,none⟩ = some cur[o + i]:=by rw [cell_atE w _ _ cur t fr hg,Array.getElem?_eq_getElem (by omega)]
  have hz:w.frozen? ⟨g,o + i,none⟩ = false:=by
   simp only [World.frozen?,hg]
   rcases hf with hf | hf
   ·obtain ⟨a,b⟩:=fr
    simp only at hf
    subst hf
    simp only [Bool.and_eq_false_iff,decide_eq_false_iff_not]
    omega
   ·simp only [Bool.and_eq_false_iff,decide_eq_false_iff_not]
    omega
  have hs:(store ⟨g,o + i,none⟩ v).run P w = .ok () (w.setCell ⟨g,o + i,none⟩ v):=by
   rw [run_store P w _ v _ hv,hc]; simp [hz]
  have hg':(w.setCell ⟨g,o + i,none⟩ v).heap[g]? = some (.cells (cur.setIfInBounds (o + i) v) t fr):=by
   simp [World.setCell,Array.getElem?_modify,hg]
  have ho:∀ C,C ≠ g → (w.setCell ⟨g,o + i,none⟩ v).heap[C]? = w.heap[C]? := fun C hC=>by
   simp [World.setCell,Array.getElem?_modify,Ne.symm hC]
  obtain ⟨w',r1,r2,r3,ot,cur',r4,r5⟩:=run_storeN (P:=P) (o:=o) vs (i + 1) (cur.setIfInBounds (o + i) v) _ hg' (by simpa using hf) (by simp; omega) (fun u hu=>h1 u (List.mem_cons_of_mem _ hu))
  refine ⟨w', ?_,by rw [r2]; simp,fun C hC=>(r3 C hC).trans (ho C hC),Oth.trans (b:=w.setCell ⟨g,o + i,none⟩ v) ⟨rfl,rfl,rfl⟩ ot,cur',r4, ?_⟩
  ·unfold storeCells
   rw [Sem.run_bind,addr_add,hs]
   exact r1
  ·rw [r5]
   simp only [Array.toList_setIfInBounds,List.length_cons]
   have hlt:o + i < cur.toList.length:=by simp; omega
   apply List.ext_getElem?
   intro j
   simp only [List.getElem?_append,List.length_take,List.length_set,List.getElem?_take,List.getElem?_set,List.getElem?_drop,List.length_cons,List.getElem?_cons]
   grind
def isCell:AV → Bool
 | .vag _=>false
 | .vtp _=>false
 | _=>true
theorem isCell_rel {η:En} {ν:Nu} {a:AV} {v:Value} (h:vrel η ν a v) (hc:isCell a = true):v.oneCell' = true:=by
 cases a <;> simp [isCell] at hc <;> rw [vrel] at h
 all_goals first
  | exact h.elim
  | (subst h; rfl)
  | (obtain ⟨rfl, -⟩:=h; rfl)
  | (obtain ⟨q, -,rfl⟩:=h; rfl)
  | (obtain ⟨q,c, -,rfl, -⟩:=h; rfl)
  | (obtain ⟨q,O,N,K, -,rfl, -⟩:=h; rfl)
  | (obtain ⟨vs,rfl, -⟩:=h; rfl)
  | (obtain ⟨a,c,rfl⟩:=h; rfl)
def cellsA (a:AV):List AV:=match a with
 | .vag l=>l
 | a=>[a]
def allCells:List AV → Bool
 | []=>true
 | a :: l=>match isCell a with
  | true=>allCells l
  | false=>false
theorem allCells_rel {η:En} {ν:Nu}:∀ {l:List AV} {vs:List Value},allCells l = true → vrels η ν l vs → ∀ v ∈ vs,v.oneCell' = true
 | [],vs,h,g,v,hv=>by rw [vrels] at g; subst g; cases hv
 | a :: l,vs,h,g,v,hv=>by
  rw [vrels] at g
  obtain ⟨u,r,rfl,h1,h2⟩:=g
  unfold allCells at h
  split at h
  ·rename_i hc
   rcases List.mem_cons.1 hv with rfl | hv
   ·exact isCell_rel h1 hc
   ·exact allCells_rel h h2 v hv
  ·cases h
theorem cellsA_rel {η:En} {ν:Nu} {a:AV} {v:Value} (h:vrel η ν a v):vrels η ν (cellsA a) v.cells.toList:=by
 cases a
 case vag l=>
  rw [vrel] at h
  obtain ⟨vs,rfl,h2⟩:=h
  exact h2
 all_goals
  have h0:=h
  rw [vrel] at h
  have hc:v.cells = #[v]:=by
   first
    | exact h.elim
    | (subst h; rfl)
    | (obtain ⟨rfl, -⟩:=h; rfl)
    | (obtain ⟨q, -,rfl⟩:=h; rfl)
    | (obtain ⟨q,c, -,rfl, -⟩:=h; rfl)
    | (obtain ⟨q,O,N,K, -,rfl, -⟩:=h; rfl)
    | (obtain ⟨vs,rfl, -⟩:=h; rfl)
    | (obtain ⟨a,c,rfl⟩:=h; rfl)
  rw [hc]
  exact vrels_cons.2 ⟨h0,vrels_nil.2 rfl⟩
noncomputable def writeN (h:Tr Ob) (b o:Nat) (new:List AV):Option (Tr Ob):=match allCells new with
 | false=>none
 | true=>match h.get b with
  | some (.oc l mk)=>match overN l o new with
   | some l=>some (h.set b (.oc l mk))
   | none=>none
  | _=>none
theorem writeN_rel {P:Program} {η:En} {ν:Nu} {h h':Tr Ob} {w:World} (H:HR η ν h w) {b o:Nat} {q:Loc} (hq:ν b = some q) {new:List AV} {vs:List Value} (hn:vrels η ν new vs)
  (hr:writeN h b o new = some h'):∃ w',(storeCells ⟨q.b,q.s + o,none⟩ vs).run P w = .ok () w' ∧ HR η ν h' w' ∧ Fr ν h w ν h' w':=by
 unfold writeN at hr
 split at hr
 ·cases hr
 ·rename_i hac
  split at hr
  ·rename_i l mk hg
   split at hr
   ·rename_i l' hl
    cases hr
    obtain ⟨ob,e2,c,e,fr,rfl,hcz,hsz,hfr,us,rest,h3,h4⟩:=H.get hg hq
    obtain ⟨h5,h6⟩:=overN_eq hl
    have hlen:=vrels_length h4
    have hlen2:=vrels_length hn
    have hdl:c.toList.length - q.s = us.length + rest.length:=by rw [← List.length_drop,h3,List.length_append]
    have hcl:=Array.length_toList (xs:=c)
    have hfit:q.s + o + 0 + vs.length ≤ c.size:=by omega
    obtain ⟨w',r1,r2,r3,ot,cur',r4,r5⟩:=run_storeN (P:=P) (o:=q.s + o) vs 0 c w e2 hfr.2 hfit (allCells_rel hac hn)
    refine ⟨w',r1,H.upd hg rfl rfl hq r2 r4 r3 ot ?_⟩
    have hcs:cur'.size = c.size:=by
     have:=congrArg List.length r5
     simp at this
     omega
    refine ⟨cur',e,fr,rfl,hcs.trans hcz,by rw [hcs]; exact hsz,by rw [hcs]; exact hfr,us.take o ++ (vs ++ us.drop (o + vs.length)),rest, ?_, ?_⟩
    ·have hC:c.toList = c.toList.take q.s ++ (us ++ rest):=by rw [← h3,List.take_append_drop]
     have hA:(c.toList.take q.s).length = q.s:=by rw [List.length_take]; omega
     rw [r5,hC]
     generalize c.toList.take q.s = A at hA
     rw [hlen,hlen2] at h6
     have e1:(A ++ (us ++ rest)).take (q.s + o + 0) = A ++ us.take o:=by
      rw [List.take_append,List.take_of_length_le (by omega),show q.s + o + 0 - A.length = o by omega,List.take_append_of_le_length (by omega)]
     have e2':(A ++ (us ++ rest)).drop (q.s + o + 0 + vs.length) = us.drop (o + vs.length) ++ rest:=by
      rw [List.drop_append,List.drop_eq_nil_of_le (by omega),List.nil_append,show q.s + o + 0 + vs.length - A.length = o + vs.length by omega,List.drop_append_of_le_length (by omega)]
     rw [e1,e2',List.append_assoc,List.drop_append,List.drop_eq_nil_of_le (by omega),List.nil_append,show q.s - A.length = 0 by omega,List.drop_zero]
     simp only [List.append_assoc]
    ·rw [h5]
     exact vrels_append (vrels_take o h4) (vrels_append hn (by rw [hlen2]; exact vrels_drop _ h4))
   ·cases hr
  ·cases hr
end Go.Proofs.YtoeeackjlclneaaGreatDoor
end
section
namespace Go.Proofs.YtoeeackjlclneaaGreatDoor
set_option linter.unusedVariables false
abbrev Fm:=N16 (N16 AV)
noncomputable def fl:N16 AV:=⟨.vno,.vno,.vno,.vno,.vno,.vno,.vno,.vno,.vno,.vno,.vno,.vno,.vno,.vno,.vno,.vno⟩
noncomputable def Fm.e:Fm:=⟨fl,fl,fl,fl,fl,fl,fl,fl,fl,fl,fl,fl,fl,fl,fl,fl⟩
inductive Fa where
 | mk (g:Fm → AV) (s:Fm → AV → Fm)
noncomputable def faLo (k:Nat):Fa:=
 Sel.rec (motive:=fun _=>Fa) (fun p1 u1=>Sel.rec (motive:=fun _=>Fa) (fun p0 u0=>Fa.mk (fun t=>p0 (p1 t)) (fun t a=>u1 t (fun n=>u0 n (fun _=>a))))
  (sel0 AV (Nat.mod k 16))) (sel0 (N16 AV) (Nat.div k 16))
noncomputable def facc (k:Nat):Fa:=Bool.rec (motive:=fun _=>Fa) (Fa.mk (fun _ => .vno) (fun t _=>t)) (faLo k) (Nat.blt k 256)
noncomputable def Fm.at (t:Fm) (k:Nat):AV:=Fa.rec (motive:=fun _=>AV) (fun g _=>g t) (facc k)
noncomputable def Fm.put (t:Fm) (k:Nat) (a:AV):Fm:=Fa.rec (motive:=fun _=>Fm) (fun _ s=>s t a) (facc k)
theorem facc_lo {k:Nat} (h:k < 256):facc k = faLo k:=by unfold facc; rw [bltD,decide_eq_true h]
theorem facc_no {k:Nat} (h : ¬ k < 256):facc k = Fa.mk (fun _ => .vno) (fun t _=>t):=by unfold facc; rw [bltD,decide_eq_false h]
theorem Fm.at_lo (t:Fm) {k:Nat} (h:k < 256):t.at k = (sel0 AV (k % 16)).p ((sel0 (N16 AV) (k / 16)).p t):=by
 unfold Fm.at
 rw [facc_lo h]
 unfold faLo
 rw [Sel.eta (sel0 AV (Nat.mod k 16)),Sel.eta (sel0 (N16 AV) (Nat.div k 16))]
 rfl
theorem Fm.at_no (t:Fm) {k:Nat} (h : ¬ k < 256):t.at k = .vno:=by
 unfold Fm.at
 rw [facc_no h]
theorem Fm.put_lo (t:Fm) {k:Nat} (h:k < 256) (a:AV):t.put k a = (sel0 (N16 AV) (k / 16)).u t fun n=>(sel0 AV (k % 16)).u n fun _=>a:=by
 unfold Fm.put
 rw [facc_lo h]
 unfold faLo
 rw [Sel.eta (sel0 AV (Nat.mod k 16)),Sel.eta (sel0 (N16 AV) (Nat.div k 16))]
 rfl
theorem Fm.put_no (t:Fm) {k:Nat} (h : ¬ k < 256) (a:AV):t.put k a = t:=by
 unfold Fm.put
 rw [facc_no h]
theorem Fm.at_put (t:Fm) (k:Nat) (a:AV) (j:Nat):(j = k ∧ k < 256 ∧ (t.put k a).at j = a) ∨ (j = k ∧ (t.put k a).at j = .vno) ∨ (j ≠ k ∧ (t.put k a).at j = t.at j):=by
 have m:∀ n,n % 16 < 16:=fun n=>Nat.mod_lt _ (by omega)
 by_cases hk:k < 256
 ·by_cases hj:j < 256
  ·rw [Fm.put_lo t hk,Fm.at_lo _ hj,Fm.at_lo _ hj,sel_law (by omega) (by omega)]
   by_cases e1:j / 16 = k / 16
   ·rw [if_pos e1,sel_law (m _) (m _)]
    by_cases e0:j % 16 = k % 16
    ·rw [if_pos e0]; exact Or.inl ⟨by omega,hk,rfl⟩
    ·rw [if_neg e0]; exact Or.inr (Or.inr ⟨by omega,by rw [e1]⟩)
   ·rw [if_neg e1]; exact Or.inr (Or.inr ⟨fun e=>e1 (by rw [e]),rfl⟩)
  ·rw [Fm.at_no _ hj,Fm.at_no _ hj]; exact Or.inr (Or.inr ⟨by omega,rfl⟩)
 ·rw [Fm.put_no t hk]
  by_cases hj:j = k
  ·subst hj; exact Or.inr (Or.inl ⟨rfl,Fm.at_no _ hk⟩)
  ·exact Or.inr (Or.inr ⟨hj,rfl⟩)
theorem Fm.at_put_ne (t:Fm) {k:Nat} (a:AV) {j:Nat} (h:j ≠ k):(t.put k a).at j = t.at j:=by
 rcases Fm.at_put t k a j with ⟨e, -⟩ | ⟨e, -⟩ | ⟨-,e⟩
 ·exact absurd e h
 ·exact absurd e h
 ·exact e
theorem Fm.at_put_same (t:Fm) (k:Nat) (a:AV):(t.put k a).at k = a ∨ (t.put k a).at k = .vno:=by
 rcases Fm.at_put t k a k with ⟨-, -,e⟩ | ⟨-,e⟩ | ⟨e, -⟩
 ·exact Or.inl e
 ·exact Or.inr e
 ·exact absurd rfl e
theorem Fm.at_put_lt (t:Fm) {k:Nat} (h:k < 256) (a:AV):(t.put k a).at k = a:=by
 have m:∀ n,n % 16 < 16:=fun n=>Nat.mod_lt _ (by omega)
 rw [Fm.put_lo t h,Fm.at_lo _ h,sel_law (by omega) (by omega),if_pos rfl,sel_law (m _) (m _),if_pos rfl]
theorem Fm.at_e (k:Nat):Fm.e.at k = .vno:=by
 have m:∀ n,n % 16 < 16:=fun n=>Nat.mod_lt _ (by omega)
 by_cases hk:k < 256
 ·rw [Fm.at_lo _ hk]
  have h1:∀ d,d < 16 → (sel0 (N16 AV) d).p Fm.e = fl:=fun d hd=>by rcases lt16 hd with rfl | rfl | rfl | rfl | rfl | rfl | rfl | rfl | rfl | rfl | rfl | rfl | rfl | rfl | rfl | rfl <;> rfl
  have h2:∀ d,d < 16 → (sel0 AV d).p fl = .vno:=fun d hd=>by rcases lt16 hd with rfl | rfl | rfl | rfl | rfl | rfl | rfl | rfl | rfl | rfl | rfl | rfl | rfl | rfl | rfl | rfl <;> rfl
  rw [h1 _ (by omega),h2 _ (m _)]
 ·exact Fm.at_no _ hk
def wrel (η:En) (ν:Nu) (a:AV) (v:Value):Prop:=a = .vno ∨ vrel η ν a v
theorem wrel_mono {η:En} {ν ν':Nu} (hν:ν.le ν') {a:AV} {v:Value} (h:wrel η ν a v):wrel η ν' a v:=by
 rcases h with h | h
 ·exact Or.inl h
 ·exact Or.inr (vrel_mono hν _ _ h)
def wrels (η:En) (ν:Nu):List AV → List Value → Prop
 | [],vs=>vs = []
 | a :: l,vs => ∃ v r,vs = v :: r ∧ wrel η ν a v ∧ wrels η ν l r
theorem wrels_nil {η:En} {ν:Nu} {vs:List Value}:wrels η ν [] vs ↔ vs = []:=Iff.rfl
theorem wrels_of {η:En} {ν:Nu}:∀ {l:List AV} {vs:List Value},vrels η ν l vs → wrels η ν l vs
 | [],vs,h=>by rw [vrels] at h; exact h
 | a :: l,vs,h=>by
  rw [vrels] at h
  obtain ⟨v,r,rfl,h1,h2⟩:=h
  exact ⟨v,r,rfl,Or.inr h1,wrels_of h2⟩
theorem wrels_length {η:En} {ν:Nu}:∀ {l:List AV} {vs:List Value},wrels η ν l vs → l.length = vs.length
 | [],vs,h=>by rw [wrels_nil] at h; simp [h]
 | a :: l,vs,⟨v,r,e,h1,h2⟩=>by subst e; simp [wrels_length h2]
theorem wrels_append {η:En} {ν:Nu}:∀ {l m:List AV} {vs us:List Value},wrels η ν l vs → wrels η ν m us → wrels η ν (l ++ m) (vs ++ us)
 | [],m,vs,us,h,g=>by rw [wrels_nil] at h; subst h; exact g
 | a :: l,m,vs,us,⟨v,r,e,h1,h2⟩,g=>by subst e; exact ⟨v,_,rfl,h1,wrels_append h2 g⟩
theorem wrels_get {η:En} {ν:Nu}:∀ {l:List AV} {vs:List Value} (i:Nat) (a:AV),wrels η ν l vs → l[i]? = some a → ∃ v,vs[i]? = some v ∧ wrel η ν a v
 | [],vs,i,a,h,g=>by simp at g
 | x :: l,vs,i,a,⟨v,r,e,h1,h2⟩,g=>by
  subst e
  cases i with
  | zero=>simp at g; subst g; exact ⟨v,rfl,h1⟩
  | succ i=>simp at g; obtain ⟨u,h3,h4⟩:=wrels_get i a h2 g; exact ⟨u,by simpa using h3,h4⟩
noncomputable def knA (a:AV):Option AV:=match a with
 | .vno=>none
 | a=>some a
theorem knA_eq {a b:AV} (h:knA a = some b):a = b ∧ a ≠ .vno:=by
 cases a <;> cases h
 all_goals exact ⟨rfl,fun e=>by cases e⟩
noncomputable def knL:List AV → Option (List AV)
 | []=>some []
 | a :: l=>match knA a with
  | none=>none
  | some a=>match knL l with
   | some r=>some (a :: r)
   | none=>none
structure TRf (η:En) (ν:Nu) (t:Fm) (n:Nat) (a:Act):Prop where
 size:a.tmps.size = n
 rel:∀ k,wrel η ν (t.at k) (a.tmps.getD k undef)
 none:a.defers = []
theorem TRf.mono {η:En} {ν ν':Nu} {t:Fm} {n:Nat} {a:Act} (H:TRf η ν t n a) (hν:ν.le ν'):TRf η ν' t n a:=
 ⟨H.size,fun k=>wrel_mono hν (H.rel k),H.none⟩
theorem TRf.put {η:En} {ν:Nu} {t:Fm} {n:Nat} {a:Act} (H:TRf η ν t n a) {d:Nat} (hd:d < n) {x:AV} {v:Value} (hv:wrel η ν x v):TRf η ν (t.put d x) n (a.put (some d) v):=by
 refine ⟨by simp [Act.put,H.size],fun k => ?_,H.none⟩
 by_cases hkd:k = d
 ·subst hkd
  have hs:k < a.tmps.size:=by rw [H.size]; exact hd
  have e:(a.put (some k) v).tmps.getD k undef = v:=by simp [Act.put,hs]
  rw [e]
  rcases Fm.at_put_same t k x with h | h
  ·rw [h]; exact hv
  ·exact Or.inl h
 ·rw [Fm.at_put_ne _ _ hkd]
  have:=H.rel k
  simpa [Act.put,Array.getElem?_setIfInBounds_ne (Ne.symm hkd)] using this
theorem TRf.known {η:En} {ν:Nu} {t:Fm} {n:Nat} {a:Act} (H:TRf η ν t n a) {k:Nat} {x:AV} (h:knA (t.at k) = some x):vrel η ν x (a.tmps.getD k undef):=by
 obtain ⟨h1,h2⟩:=knA_eq h
 subst h1
 rcases H.rel k with h3 | h3
 ·exact absurd h3 h2
 ·exact h3
noncomputable def evO (t:Fm) (x:Operand):Option AV:=match x with
 | .tmp k=>knA (t.at k)
 | .const v=>conc v
 | .global _=>none
 | .func f=>some (.vfn f [])
theorem evO_rel {η:En} {ν:Nu} {t:Fm} {n:Nat} {a:Act} (H:TRf η ν t n a) {x:Operand} {y:AV} (h:evO t x = some y):vrel η ν y (a.eval x):=by
 cases x with
 | tmp k=>
  exact H.known h
 | const v=>exact conc_rel h η ν
 | global g=>cases h
 | func f=>cases h; rw [vrel]; exact ⟨[],rfl,vrels_nil.2 rfl⟩
noncomputable def evL (t:Fm):List Operand → Option (List AV)
 | []=>some []
 | x :: r=>match evO t x with
  | none=>none
  | some a=>match evL t r with
   | some l=>some (a :: l)
   | none=>none
theorem evL_rel {η:En} {ν:Nu} {t:Fm} {n:Nat} {a:Act} (H:TRf η ν t n a):∀ {xs:List Operand} {l:List AV},evL t xs = some l → vrels η ν l (xs.map a.eval)
 | [],l,h=>by cases h; exact vrels_nil.2 rfl
 | x :: r,l,h=>by
  unfold evL at h
  split at h
  ·cases h
  ·rename_i y hy
   split at h
   ·rename_i l' hl
    cases h
    exact vrels_cons.2 ⟨evO_rel H hy,evL_rel H hl⟩
   ·cases h
end Go.Proofs.YtoeeackjlclneaaGreatDoor
end
section
namespace Go.Proofs.YtoeeackjlclneaaGreatDoor
set_option linter.unusedVariables false
inductive Ro where
 | ok (a:AV) (h:Tr Ob) (nx:Nat)
 | er (n:Nat)
def Good (η:En) (ν:Nu) (h:Tr Ob) (w:World) (r:Result Value) (a:AV) (h':Tr Ob) (nx':Nat):Prop:=
 ∃ v w' ν',r = .ok v w' ∧ vrel η ν' a v ∧ HR η ν' h' w' ∧ Nx ν' nx' ∧ Fr ν h w ν' h' w'
theorem Good.same {η:En} {ν:Nu} {h:Tr Ob} {w:World} {nx:Nat} (H:HR η ν h w) (X:Nx ν nx) {a:AV} {v:Value} (hv:vrel η ν a v) {r:Result Value} (hr:r = .ok v w):Good η ν h w r a h nx:=
 ⟨v,w,ν,hr,hv,H,X,Fr.refl _ _ _⟩
noncomputable def opPick (t:Fm) (c x y:Operand):Option AV:=match evO t c with
 | some (.vb true)=>evO t x
 | some (.vb false)=>evO t y
 | _=>none
theorem opPick_rel {P:Program} {η:En} {ν:Nu} {t:Fm} {n:Nat} {a:Act} (H:TRf η ν t n a) (w:World) {c x y:Operand} {z:AV} (h:opPick t c x y = some z) :
  ∃ v,((do pure (if ← asBool (a.eval c) then a.eval x else a.eval y)):Sem Value).run P w = .ok v w ∧ vrel η ν z v:=by
 unfold opPick at h
 split at h
 ·rename_i hc
  have:=evO_rel H hc
  rw [vrel] at this
  exact ⟨_,by simp [this,asBool],evO_rel H h⟩
 ·rename_i hc
  have:=evO_rel H hc
  rw [vrel] at this
  exact ⟨_,by simp [this,asBool],evO_rel H h⟩
 ·cases h
noncomputable def opLoad (i:TI) (p:AV) (h:Tr Ob):Option AV:=match p with
 | .vp b o=>loadA i h b o
 | _=>none
theorem opLoad_rel {P:Program} {η:En} {ν:Nu} {h:Tr Ob} {w:World} (H:HR η ν h w) {t:TypeId} {i:TI} (k:TIok P t i) {p a:AV} {u:Value} (hu:vrel η ν p u) (hr:opLoad i p h = some a) :
  ∃ v,(Instr.loadAt t u).run P w = .ok v w ∧ vrel η ν a v:=by
 unfold opLoad at hr
 split at hr
 ·rename_i b o
  rw [vrel] at hu
  obtain ⟨q,hq,rfl⟩:=hu
  obtain ⟨v,h1,h2⟩:=loadA_rel (P:=P) H k hq hr
  exact ⟨v,by simp [Instr.loadAt,Instr.sureAddr,h1],h2⟩
 ·cases hr
noncomputable def opStore (i:TI) (p x:AV) (h:Tr Ob):Option (Tr Ob):=match p with
 | .vp b o=>match takeN i.size (cellsA x) with
  | some l=>match (cellsA x).drop i.size with
   | []=>writeN h b o (cellsA x)
   | _=>none
  | none=>none
 | _=>none
theorem opStore_rel {P:Program} {η:En} {ν:Nu} {h h':Tr Ob} {w:World} (H:HR η ν h w) {t:TypeId} {i:TI} (k:TIok P t i) {p x:AV} {u v:Value} (hu:vrel η ν p u) (hv:vrel η ν x v)
  (hr:opStore i p x h = some h'):∃ w',(Instr.storeAt t u v).run P w = .ok () w' ∧ HR η ν h' w' ∧ Fr ν h w ν h' w':=by
 unfold opStore at hr
 split at hr
 ·rename_i b o
  split at hr
  ·rename_i l hl
   split at hr
   ·rename_i hd
    rw [vrel] at hu
    obtain ⟨q,hq,rfl⟩:=hu
    have hc:=cellsA_rel hv
    obtain ⟨w',h1,h2,h3⟩:=writeN_rel (P:=P) H hq hc hr
    have hlen:=vrels_length hc
    obtain ⟨-, -,h5⟩:=takeN_eq hl
    have h6:=List.drop_eq_nil_iff.1 hd
    have hsz:v.cells.size = i.size:=by rw [← Array.length_toList,← hlen]; omega
    exact ⟨w',by simp [Instr.storeAt,Instr.sureAddr,storeVar,k.sizeOf,hsz,h1],h2,h3⟩
   ·cases hr
  ·cases hr
 ·cases hr
noncomputable def nthL (l:List (Nat × Nat)):Nat → Option (Nat × Nat):=
 List.rec (motive:=fun _=>Nat → Option (Nat × Nat)) (fun _=>none) (fun a r ih n=>Nat.rec (motive:=fun _=>Option (Nat × Nat)) (some a) (fun n _=>ih n) n) l
end Go.Proofs.YtoeeackjlclneaaGreatDoor
end
section
namespace Go.Proofs.YtoeeackjlclneaaGreatDoor
set_option linter.unusedVariables false
theorem fieldsL_get:∀ {l:List Field} {k:Nat} {p:Nat × Nat},nthL (fieldsL l) k = some p → ∃ f,l[k]? = some f ∧ p = (f.type,f.offset)
 | [],k,p,h=>by cases h
 | f :: l,0,p,h=>by cases h; exact ⟨f,rfl,rfl⟩
 | f :: l,k + 1,p,h=>by
  have h':nthL (fieldsL l) k = some p:=h
  simpa using fieldsL_get h'
theorem TIok.field {P:Program} {t:TypeId} {i:TI} (k:TIok P t i) {n:Nat} {p:Nat × Nat} (h:nthL i.fields n = some p) :
  ∃ fs f,P.underlying t = some (.struct fs) ∧ fs[n]? = some f ∧ p = (f.type,f.offset):=by
 obtain ⟨inf,hm⟩:=k.made
 have hk:=k.under
 rw [hm] at h
 generalize i.kind = d at h hk
 unfold tiMk at h
 split at h
 ·rename_i fs
  obtain ⟨f,h1,h2⟩:=fieldsL_get h
  exact ⟨fs,f,hk,by simpa using h1,h2⟩
 all_goals cases h
theorem TIok.slice {P:Program} {t:TypeId} {i:TI} (k:TIok P t i) {e:TypeId} (h:i.kind = .slice e):i.elem = e:=by
 obtain ⟨inf,hm⟩:=k.made
 rw [hm,h]; rfl
theorem TIok.array {P:Program} {t:TypeId} {i:TI} (k:TIok P t i) {n:Nat} {e:TypeId} (h:i.kind = .array n e):i.elem = e ∧ i.len = n:=by
 obtain ⟨inf,hm⟩:=k.made
 rw [hm,h]; exact ⟨rfl,rfl⟩
theorem vrel_p {η:En} {ν:Nu} {b o:Nat} {q:Loc} (h:ν b = some q) (n:Nat):vrel η ν (.vp b (o + n)) (.pointer (some ((⟨q.b,q.s + o,none⟩:Addr).add n))):=by
 rw [vrel,addr_add]
 exact ⟨q,h,by rw [Nat.add_assoc]⟩
noncomputable def opFA (tt:Nat → Option TypeInfo) (i:TI) (p:AV) (k:Nat):Option AV:=match p with
 | .vp b o=>match nthL i.fields k with
  | some (ft,off)=>match tiOf tt ft with
   | some j=>match j.size with
    | 0=>none
    | _ + 1=>some (.vp b (o + off))
   | none=>none
  | none=>none
 | _=>none
theorem opFA_rel {P:Program} {tt:Nat → Option TypeInfo} {ff:Nat → Option Func} (T:TabE P tt ff) {η:En} {ν:Nu} (w:World) {t:TypeId} {i:TI} (ki:TIok P t i) {p a:AV} {u:Value} (hu:vrel η ν p u) {k:Nat}
  (hr:opFA tt i p k = some a):∃ v,(Instr.fieldAt t u k).run P w = .ok v w ∧ vrel η ν a v:=by
 unfold opFA at hr
 split at hr
 ·rename_i b o
  split at hr
  ·rename_i ft off hf
   split at hr
   ·rename_i j hj
    split at hr
    ·cases hr
    ·rename_i m hz
     cases hr
     obtain ⟨fs,f,h1,h2,h3⟩:=ki.field hf
     cases h3
     rw [vrel] at hu
     obtain ⟨q,hq,rfl⟩:=hu
     refine ⟨_, ?_,vrel_p hq _⟩
     have hs:=(tiOf_ok T hj).sizeOf w
     simp [Instr.fieldAt,run_underlying h1,h2,Instr.sureAddr,fieldPlace,hs,hz]
   ·cases hr
  ·cases hr
 ·cases hr
def natA (a:AV):Option Nat:=match a with
 | .vn n=>some n
 | .vi _ (.ofNat n)=>some n
 | _=>none
theorem natA_rel {P:Program} {η:En} {ν:Nu} {a:AV} {v:Value} (h:vrel η ν a v) {n:Nat} (hn:natA a = some n) (w:World):∃ k,(asIntOf v).run P w = .ok (k,(n:Int)) w:=by
 unfold natA at hn
 split at hn
 ·cases hn
  rw [vrel] at h
  subst h
  exact ⟨_,rfl⟩
 ·cases hn
  rw [vrel] at h
  subst h
  exact ⟨_,rfl⟩
 ·cases hn
noncomputable def opIA (tt:Nat → Option TypeInfo) (i:TI) (x ix:AV):Option AV:=match natA ix with
 | none=>none
 | some n=>match tiOf tt i.elem with
  | none=>none
  | some j=>match i.kind with
   | .slice _=>match x with
    | .vsl b o len _ _ _=>match Nat.blt n len with
     | true=>some (.vp b (o + n * j.size))
     | false=>none
    | _=>none
   | .array _ _=>match x with
    | .vp b o=>match Nat.blt n i.len with
     | true=>some (.vp b (o + n * j.size))
     | false=>none
    | _=>none
   | _=>none
theorem blt_lt {a b:Nat} (h:Nat.blt a b = true):a < b:=by
 have:=Nat.le_of_ble_eq_true h
 omega
theorem opIA_rel {P:Program} {tt:Nat → Option TypeInfo} {ff:Nat → Option Func} (T:TabE P tt ff) {η:En} {ν:Nu} (w:World) {t:TypeId} {i:TI} (ki:TIok P t i) {x ix a:AV} {u v:Value} (hu:vrel η ν x u) (hv:vrel η ν ix v)
  (hr:opIA tt i x ix = some a):∃ r,(Instr.indexAt t u v).run P w = .ok r w ∧ vrel η ν a r:=by
 unfold opIA at hr
 split at hr
 ·cases hr
 ·rename_i n hn
  obtain ⟨k,hi⟩:=natA_rel (P:=P) hv hn w
  split at hr
  ·cases hr
  ·rename_i j hj
   have hs:=(tiOf_ok T hj).sizeOf w
   split at hr
   ·rename_i e hk
    have he:=ki.slice hk
    split at hr
    ·rename_i b o len cap ex z
     split at hr
     ·rename_i hlt
      cases hr
      rw [vrel] at hu
      obtain ⟨q,c,hq,rfl, -⟩:=hu
      refine ⟨_, ?_,vrel_p hq _⟩
      have hd:P.underlying t = some (.slice e):=by rw [ki.under,hk]
      have hl:=blt_lt hlt
      rw [he] at hs
      simp [Instr.indexAt,hi,run_underlying hd,hl,hs]
     ·cases hr
    ·cases hr
   ·rename_i m e hk
    obtain ⟨he,hm⟩:=ki.array hk
    split at hr
    ·rename_i b o
     split at hr
     ·rename_i hlt
      cases hr
      rw [vrel] at hu
      obtain ⟨q,hq,rfl⟩:=hu
      refine ⟨_, ?_,vrel_p hq _⟩
      have hd:P.underlying t = some (.array m e):=by rw [ki.under,hk]
      have hl:=blt_lt hlt
      rw [hm] at hl
      rw [he] at hs
      simp [Instr.indexAt,hi,run_underlying hd,hl,hs,Instr.sureAddr]
     ·cases hr
    ·cases hr
   ·cases hr
noncomputable def partA (j:TI) (l:List AV) (off:Nat):Option AV:=match j.agg with
 | true=>match takeN j.size (dropL l off) with
  | some r=>some (.vag r)
  | none=>none
 | false=>match dropL l off with
  | a :: _=>some a
  | []=>none
theorem partA_rel {P:Program} {η:En} {ν:Nu} (w:World) {e:TypeId} {j:TI} (kj:TIok P e j) {l:List AV} {vs:List Value} (hl:vrels η ν l vs) {off:Nat} {a:AV} (hr:partA j l off = some a) :
  ∃ v,(part e vs.toArray off).run P w = .ok v w ∧ vrel η ν a v:=by
 unfold partA at hr
 split at hr
 ·rename_i ha
  split at hr
  ·rename_i r hr'
   cases hr
   rw [dropL_eq] at hr'
   obtain ⟨rfl, -, -⟩:=takeN_eq hr'
   refine ⟨.agg (vs.toArray.extract off (off + j.size)),by simp [part,kj.isAgg,ha,kj.sizeOf], ?_⟩
   rw [vrel]
   refine ⟨(vs.drop off).take j.size, ?_,vrels_take _ (vrels_drop _ hl)⟩
   congr 1
   apply Array.ext'
   simp [List.take_drop]
  ·cases hr
 ·rename_i ha
  split at hr
  ·rename_i x r hd
   cases hr
   rw [dropL_eq] at hd
   have h1:=vrels_drop off hl
   rw [hd,vrels] at h1
   obtain ⟨v,us,h2,h3, -⟩:=h1
   have h4:vs[off]? = some v:=by
    have:=congrArg (fun l=>l[0]?) h2
    simpa using this
   exact ⟨v,by simp [part,kj.isAgg,ha,h4],h3⟩
  ·cases hr
noncomputable def opField (tt:Nat → Option TypeInfo) (i:TI) (x:AV) (k:Nat):Option AV:=match x with
 | .vag l=>match nthL i.fields k with
  | some (ft,off)=>match tiOf tt ft with
   | some j=>partA j l off
   | none=>none
  | none=>none
 | _=>none
theorem opField_rel {P:Program} {tt:Nat → Option TypeInfo} {ff:Nat → Option Func} (T:TabE P tt ff) {η:En} {ν:Nu} (w:World) {t:TypeId} {i:TI} (ki:TIok P t i) {x a:AV} {u:Value} (hu:vrel η ν x u) {k:Nat}
  (hr:opField tt i x k = some a):∃ v,(Instr.field t u k).run P w = .ok v w ∧ vrel η ν a v:=by
 unfold opField at hr
 split at hr
 ·rename_i l
  split at hr
  ·rename_i ft off hf
   split at hr
   ·rename_i j hj
    obtain ⟨fs,f,h1,h2,h3⟩:=ki.field hf
    cases h3
    rw [vrel] at hu
    obtain ⟨vs,rfl,hvs⟩:=hu
    obtain ⟨v,h4,h5⟩:=partA_rel w (tiOf_ok T hj) hvs hr
    exact ⟨v,by simp [Instr.field,run_underlying h1,h2,asAgg,h4],h5⟩
   ·cases hr
  ·cases hr
 ·cases hr
noncomputable def nthA (l:List AV) (n:Nat):Option AV:=match dropL l n with
 | a :: _=>some a
 | []=>none
theorem nthA_rel {η:En} {ν:Nu} {l:List AV} {vs:List Value} (hl:vrels η ν l vs) {n:Nat} {a:AV} (h:nthA l n = some a):∃ v,vs[n]? = some v ∧ vrel η ν a v:=by
 unfold nthA at h
 rw [dropL_eq] at h
 split at h
 ·rename_i x r hd
  cases h
  have h1:=vrels_drop n hl
  rw [hd,vrels] at h1
  obtain ⟨v,us,h2,h3, -⟩:=h1
  refine ⟨v, ?_,h3⟩
  have:=congrArg (fun l=>l[0]?) h2
  simpa using this
 ·cases h
noncomputable def opExtract (x:AV) (n:Nat):Option AV:=match x with
 | .vtp l=>nthA l n
 | _=>none
theorem opExtract_rel {P:Program} {η:En} {ν:Nu} (w:World) {x a:AV} {u:Value} (hu:vrel η ν x u) {n:Nat} (hr:opExtract x n = some a):∃ v,(Instr.extract u n).run P w = .ok v w ∧ vrel η ν a v:=by
 unfold opExtract at hr
 split at hr
 ·rw [vrel] at hu
  obtain ⟨vs,rfl,hvs⟩:=hu
  obtain ⟨v,h1,h2⟩:=nthA_rel hvs hr
  exact ⟨v,by simp [Instr.extract,h1],h2⟩
 ·cases hr
noncomputable def nthN (l:List Nat) (n:Nat):Option Nat:=match dropL l n with
 | a :: _=>some a
 | []=>none
theorem nthN_eq {l:List Nat} {n c:Nat} (h:nthN l n = some c):l[n]? = some c:=by
 unfold nthN at h
 rw [dropL_eq] at h
 split at h
 ·rename_i x r hd
  cases h
  have:=congrArg (fun l=>l[0]?) hd
  simpa using this
 ·cases h
noncomputable def opIndex (tt:Nat → Option TypeInfo) (i:TI) (x ix:AV):Option AV:=match natA ix with
 | none=>none
 | some n=>match i.kind with
  | .string=>match x with
   | .vs l=>match nthN l n with
    | some c=>some (.vi .u8 (.ofNat c))
    | none=>none
   | _=>none
  | .array _ _=>match x with
   | .vag l=>match Nat.blt n i.len with
    | true=>match tiOf tt i.elem with
     | some j=>partA j l (n * j.size)
     | none=>none
    | false=>none
   | _=>none
  | _=>none
theorem bytesOfN_get {l:List Nat} (h:∀ n ∈ l,n < 256) {n c:Nat} (hc:l[n]? = some c):(bytesOfN l)[n]? = some (UInt8.ofNat c) ∧ (UInt8.ofNat c).toNat = c:=by
 have hm:c < 256:=h c (List.mem_of_getElem? hc)
 obtain ⟨hlt, -⟩:=List.getElem?_eq_some_iff.1 hc
 refine ⟨?_,by simp; omega⟩
 have hsz:(bytesOfN l).size = l.length:=by simp [bytesOfN,ByteArray.size]
 rw [getElem?_pos _ _ (by rw [hsz]; exact hlt)]
 congr 1
 rw [ByteArray.getElem_eq_getElem_data]
 simp only [bytesOfN,List.getElem_toArray,List.getElem_map]
 congr 1
 rw [List.getElem?_eq_getElem hlt] at hc
 exact Option.some.inj hc
theorem opIndex_rel {P:Program} {tt:Nat → Option TypeInfo} {ff:Nat → Option Func} (T:TabE P tt ff) {η:En} {ν:Nu} (w:World) {t:TypeId} {i:TI} (ki:TIok P t i) {x ix a:AV} {u v:Value} (hu:vrel η ν x u) (hv:vrel η ν ix v)
  (hr:opIndex tt i x ix = some a):∃ r,(Instr.index t u v).run P w = .ok r w ∧ vrel η ν a r:=by
 unfold opIndex at hr
 split at hr
 ·cases hr
 ·rename_i n hn
  obtain ⟨k,hi⟩:=natA_rel (P:=P) hv hn w
  split at hr
  ·rename_i hk
   have hd:P.underlying t = some .string:=by rw [ki.under,hk]
   split at hr
   ·rename_i l
    split at hr
    ·rename_i c hc
     cases hr
     rw [vrel] at hu
     obtain ⟨rfl,hlt⟩:=hu
     obtain ⟨h1,h2⟩:=bytesOfN_get hlt (nthN_eq hc)
     refine ⟨.int .u8 c, ?_,by rw [vrel]; rfl⟩
     simp only [Instr.index,Sem.run_bind,hi,Result.andThen_ok,run_underlying hd]
     have h3:(if (0:Int) ≤ (n:Int) then (bytesOfN l)[(n:Int).toNat]? else none) = some (UInt8.ofNat c):=by
      rw [if_pos (by omega)]; simpa using h1
     simp only [h3]
     rw [h2]
     rfl
    ·cases hr
   ·cases hr
  ·rename_i m e hk
   obtain ⟨he,hm⟩:=ki.array hk
   have hd:P.underlying t = some (.array m e):=by rw [ki.under,hk]
   split at hr
   ·rename_i l
    split at hr
    ·rename_i hlt
     split at hr
     ·rename_i j hj
      rw [vrel] at hu
      obtain ⟨vs,rfl,hvs⟩:=hu
      have hl:=blt_lt hlt
      rw [hm] at hl
      have kj:=tiOf_ok T hj
      rw [he] at kj
      obtain ⟨r,h1,h2⟩:=partA_rel w kj hvs hr
      exact ⟨r,by simp [Instr.index,hi,run_underlying hd,hl,kj.sizeOf,h1],h2⟩
     ·cases hr
    ·cases hr
   ·cases hr
  ·cases hr
end Go.Proofs.YtoeeackjlclneaaGreatDoor
end
section
namespace Go.Proofs.YtoeeackjlclneaaGreatDoor
set_option linter.unusedVariables false
theorem frOK_zero (n:Nat) (mk:Bool):frOK (0,0) n mk:=⟨fun _=>rfl,Or.inl rfl⟩
theorem orel_row {η:En} {ν:Nu} {l:List AV} {vs:List Value} (h:vrels η ν l vs) (g:Nat) (e:TypeId):orel η ν (.oc l false) ⟨g,0,vs.length⟩ (.cells vs.toArray e):=
 ⟨vs.toArray,e,(0,0),rfl,by simp,Nat.zero_le _,frOK_zero _ _,vs,[],by simp,h⟩
theorem run_newRow {P:Program} (w:World) (e:TypeId) (cs:Array Value):(newRow e cs).run P w = .ok ⟨w.heap.size,0,none⟩ (w.alloc (.cells cs e)):=rfl
theorem TIok.zero {P:Program} {t:TypeId} {i:TI} (k:TIok P t i) {z:List AV} (hz:i.zero = some z) (η:En) (ν:Nu) (w:World):∃ v,(zeroValue t).run P w = .ok v w ∧ vrels η ν z v.cells.toList:=by
 obtain ⟨inf,h1, -,h3⟩:=k.info
 rw [hz] at h3
 cases hv:inf.zero with
 | none=>rw [hv] at h3; cases h3
 | some v=>
  rw [hv] at h3
  exact ⟨v,by simp [zeroValue,typeInfo,h1,hv],concL_rel h3.symm η ν⟩
theorem newVar_good {P:Program} {η:En} {ν:Nu} {h:Tr Ob} {w:World} {nx:Nat} (H:HR η ν h w) (X:Nx ν nx) {l:List AV} {v:Value} (hl:vrels η ν l v.cells.toList) (e:TypeId) :
  Good η ν h w ((do pure (.pointer (some (← newVar e v))):Sem Value).run P w) (.vp nx 0) (h.set nx (.oc l false)) (nx + 1):=by
 have hle:ν.le (ν.put nx ⟨w.heap.size,0,v.cells.toList.length⟩):=Nu.le_put (X nx (Nat.le_refl _))
 obtain ⟨h1,h2,h3⟩:=H.new X (.cells v.cells.toList.toArray e) (.oc l false) v.cells.toList.length (orel_row (vrels_mono hle _ _ hl) _ _)
 refine ⟨.pointer (some ⟨w.heap.size,0,none⟩),_,_, ?_, ?_,h1,h2,h3⟩
 ·simp only [newVar,Sem.run_bind,run_newRow,Result.andThen_ok,Sem.run_pure,Array.toArray_toList]
 ·rw [vrel]; exact ⟨_,if_pos rfl,rfl⟩
noncomputable def opAlloc (i:TI) (h:Tr Ob) (nx:Nat):Ro:=match i.zero with
 | some z => .ok (.vp nx 0) (h.set nx (.oc z false)) (nx + 1)
 | none => .er 1
theorem opAlloc_rel {P:Program} {η:En} {ν:Nu} {h h':Tr Ob} {w:World} {nx nx':Nat} (H:HR η ν h w) (X:Nx ν nx) {t:TypeId} {i:TI} (k:TIok P t i) {a:AV} (hr:opAlloc i h nx = .ok a h' nx') :
  Good η ν h w ((Instr.alloc t true (.tuple #[])).run P w) a h' nx':=by
 unfold opAlloc at hr
 split at hr
 ·rename_i z hz
  cases hr
  obtain ⟨v,h1,h2⟩:=k.zero hz η ν w
  have:=newVar_good (P:=P) H X h2 t
  simpa [Instr.alloc,h1] using this
 ·cases hr
noncomputable def opBox (a:AV) (h:Tr Ob) (nx:Nat):Ro := .ok (.vp nx 0) (h.set nx (.oc (cellsA a) false)) (nx + 1)
theorem opBox_rel {P:Program} {η:En} {ν:Nu} {h h':Tr Ob} {w:World} {nx nx':Nat} (H:HR η ν h w) (X:Nx ν nx) (t:TypeId) {x a:AV} {v:Value} (hv:vrel η ν x v) (hr:opBox x h nx = .ok a h' nx') :
  Good η ν h w ((Instr.box t v).run P w) a h' nx':=by
 cases hr
 exact newVar_good H X (cellsA_rel hv) t
def lenA:List AV → Nat → Nat
 | [],n=>n
 | _ :: l,n=>lenA l (n + 1)
theorem lenA_eq:∀ (l:List AV) (n:Nat),lenA l n = l.length + n
 | [],n=>by simp [lenA]
 | a :: l,n=>by rw [lenA,lenA_eq l]; simp; omega
noncomputable def fillA (pl:Nat → Option (Nat × Nat)):List AV → List (Nat × AV) → Option (List AV)
 | l,[]=>some l
 | l,(i,a) :: r=>match pl i with
  | none=>none
  | some (off,size)=>match Nat.beq (lenA (cellsA a) 0) size with
   | false=>none
   | true=>match overN l off (cellsA a) with
    | some l=>fillA pl l r
    | none=>none
def partsR (η:En) (ν:Nu):List (Nat × AV) → List (Nat × Value) → Prop
 | [],us=>us = []
 | (i,a) :: r,us => ∃ v s,us = (i,v) :: s ∧ vrel η ν a v ∧ partsR η ν r s
theorem foldl_set (off:Nat):∀ (vs:List Value) (k:Nat) (cs:Array Value),off + k + vs.length ≤ cs.size →
  ((vs.zipIdx k).foldl (fun cs (c,j)=>cs.setIfInBounds (off + j) c) cs).toList = cs.toList.take (off + k) ++ (vs ++ cs.toList.drop (off + k + vs.length))
 | [],k,cs,h=>by simp
 | v :: vs,k,cs,h=>by
  simp only [List.length_cons] at h
  rw [List.zipIdx_cons,List.foldl_cons,foldl_set off vs (k + 1) _ (by simp; omega)]
  simp only [Array.toList_setIfInBounds,List.length_cons]
  have hlt:off + k < cs.toList.length:=by simp; omega
  apply List.ext_getElem?
  intro j
  simp only [List.getElem?_append,List.length_take,List.length_set,List.getElem?_take,List.getElem?_set,List.getElem?_drop,List.length_cons,List.getElem?_cons]
  grind
theorem foldl_zip (off:Nat) (v cs:Array Value) (h:off + v.size ≤ cs.size) :
  (v.zipIdx.foldl (fun cs (c,j)=>cs.setIfInBounds (off + j) c) cs).toList = cs.toList.take off ++ (v.toList ++ cs.toList.drop (off + v.size)):=by
 rw [← Array.foldl_toList,Array.toList_zipIdx]
 have:=foldl_set off v.toList 0 cs (by simpa using h)
 simpa using this
theorem fillA_rel {η:En} {ν:Nu} {pl:Nat → Option (Nat × Nat)}:∀ {r:List (Nat × AV)} {l l':List AV} {us:List (Nat × Value)} {cs:Array Value},vrels η ν l cs.toList → partsR η ν r us → fillA pl l r = some l' →
  ∃ cs',Instr.fill pl cs us = some cs' ∧ vrels η ν l' cs'.toList
 | [],l,l',us,cs,h,g,e=>by
  cases g
  have e':some l = some l':=by cases l <;> exact e
  cases e'
  exact ⟨cs,rfl,h⟩
 | (i,a) :: r,l,l',us,cs,h,g,e=>by
  obtain ⟨v,s,rfl,h1,h2⟩:=g
  have e':(match pl i with
   | none=>none
   | some (off,size)=>match Nat.beq (lenA (cellsA a) 0) size with
    | false=>none
    | true=>match overN l off (cellsA a) with
     | some l=>fillA pl l r
     | none=>none) = some l':=by cases l <;> exact e
  clear e
  split at e'
  ·cases e'
  ·rename_i off size hp
   split at e'
   ·cases e'
   ·rename_i hb
    split at e'
    ·rename_i l2 hl2
     obtain ⟨h3,h4⟩:=overN_eq hl2
     have hc:=cellsA_rel h1
     have hlen:=vrels_length hc
     have hlen2:=vrels_length h
     have hb':=Nat.eq_of_beq_eq_true hb
     rw [lenA_eq] at hb'
     have hvs:v.cells.size = size:=by rw [← Array.length_toList]; omega
     have hfit:off + v.cells.size ≤ cs.size:=by rw [← Array.length_toList (xs:=cs)]; omega
     have hr:vrels η ν l2 (v.cells.zipIdx.foldl (fun cs (c,j)=>cs.setIfInBounds (off + j) c) cs).toList:=by
      rw [foldl_zip off _ _ hfit,h3]
      have e1:off + (cellsA a).length = off + v.cells.size:=by omega
      rw [e1]
      exact vrels_append (vrels_take _ h) (vrels_append hc (vrels_drop _ h))
     obtain ⟨cs',h5,h6⟩:=fillA_rel hr h2 e'
     refine ⟨cs', ?_,h6⟩
     unfold Instr.fill
     simp only [hp]
     rw [if_neg (by simp; omega)]
     exact h5
    ·cases e'
noncomputable def evP (t:Fm):List (Nat × Operand) → Option (List (Nat × AV))
 | []=>some []
 | (i,x) :: r=>match evO t x with
  | none=>none
  | some a=>match evP t r with
   | some l=>some ((i,a) :: l)
   | none=>none
theorem evP_rel {η:En} {ν:Nu} {t:Fm} {n:Nat} {a:Act} (H:TRf η ν t n a):∀ {xs:List (Nat × Operand)} {l:List (Nat × AV)},evP t xs = some l → partsR η ν l (xs.map fun (i,x)=>(i,a.eval x))
 | [],l,h=>by cases h; rfl
 | (i,x) :: r,l,h=>by
  unfold evP at h
  split at h
  ·cases h
  ·rename_i y hy
   split at h
   ·rename_i l' hl
    cases h
    exact ⟨_,_,rfl,evO_rel H hy,evP_rel H hl⟩
   ·cases h
noncomputable def placeS (tt:Nat → Option TypeInfo) (fs:List (Nat × Nat)) (k:Nat):Option (Nat × Nat):=match nthL fs k with
 | none=>none
 | some (ft,off)=>match tiOf tt ft with
  | some j=>some (off,j.size)
  | none=>none
noncomputable def allTi (tt:Nat → Option TypeInfo):List (Nat × Nat) → Bool
 | []=>true
 | (ft,_) :: r=>match tiOf tt ft with
  | some _=>allTi tt r
  | none=>false
noncomputable def opBuild (tt:Nat → Option TypeInfo) (i:TI) (ps:List (Nat × AV)):Option AV:=match i.zero with
 | none=>none
 | some z=>match i.kind with
  | .struct _=>match allTi tt i.fields with
   | false=>none
   | true=>match fillA (placeS tt i.fields) z ps with
    | some l=>some (.vag l)
    | none=>none
  | .array _ _=>match tiOf tt i.elem with
   | none=>none
   | some j=>match fillA (fun k=>some (k * j.size,j.size)) z ps with
    | some l=>some (.vag l)
    | none=>none
  | _=>none
theorem run_mapM_fields {P:Program} {w:World}:∀ {l:List Field},(∀ f ∈ l, ∃ z,(sizeOf f.type).run P w = .ok z w) →
  ∃ ps:List (Nat × Nat),((l.mapM fun f=>do pure (f.offset,← sizeOf f.type)):Sem (List (Nat × Nat))).run P w = .ok ps w ∧ ps.length = l.length ∧ ∀ (k:Nat) (f:Field),l[k]? = some f → ∃ z,(sizeOf f.type).run P w = .ok z w ∧ ps[k]? = some (f.offset,z)
 | [],h=>⟨[],rfl,rfl,fun k f hk=>by simp at hk⟩
 | f :: l,h=>by
  obtain ⟨z,hz⟩:=h f (List.mem_cons_self ..)
  obtain ⟨ps,h1,h2,h3⟩:=run_mapM_fields (l:=l) fun g hg=>h g (List.mem_cons_of_mem _ hg)
  refine ⟨(f.offset,z) :: ps, ?_,by simp [h2],fun k g hk => ?_⟩
  ·rw [List.mapM_cons]
   simp only [Sem.run_bind,hz,Result.andThen_ok,Sem.run_pure,h1]
  ·cases k with
   | zero=>simp at hk; subst hk; exact ⟨z,hz,rfl⟩
   | succ k=>simp at hk; obtain ⟨z',h4,h5⟩:=h3 k g hk; exact ⟨z',h4,by simpa using h5⟩
theorem allTi_mem {tt:Nat → Option TypeInfo}:∀ {l:List Field},allTi tt (fieldsL l) = true → ∀ f ∈ l, ∃ j,tiOf tt f.type = some j
 | [],h,f,hf=>by cases hf
 | g :: l,h,f,hf=>by
  have h':(match tiOf tt g.type with | some _=>allTi tt (fieldsL l) | none=>false) = true:=h
  split at h'
  ·rename_i j hj
   rcases List.mem_cons.1 hf with rfl | hf
   ·exact ⟨j,hj⟩
   ·exact allTi_mem h' f hf
  ·cases h'
theorem fieldsL_nth:∀ {l:List Field} {k:Nat},nthL (fieldsL l) k = (l[k]?).map fun f=>(f.type,f.offset)
 | [],k=>rfl
 | f :: l,0=>rfl
 | f :: l,k + 1=>by
  have:nthL (fieldsL (f :: l)) (k + 1) = nthL (fieldsL l) k:=rfl
  rw [this,fieldsL_nth]; simp
theorem opBuild_rel {P:Program} {tt:Nat → Option TypeInfo} {ff:Nat → Option Func} (T:TabE P tt ff) {η:En} {ν:Nu} (w:World) {t:TypeId} {i:TI} (ki:TIok P t i) {ps:List (Nat × AV)} {us:List (Nat × Value)} (hp:partsR η ν ps us) {a:AV}
  (hr:opBuild tt i ps = some a):∃ v,(Instr.build t us.toArray).run P w = .ok v w ∧ vrel η ν a v:=by
 unfold opBuild at hr
 split at hr
 ·cases hr
 ·rename_i z hz
  obtain ⟨zv,hz1,hz2⟩:=ki.zero hz η ν w
  split at hr
  ·rename_i fs hk
   have hd:P.underlying t = some (.struct fs):=by rw [ki.under,hk]
   have hfl:i.fields = fieldsL fs.toList:=by obtain ⟨inf,hm⟩:=ki.made; rw [hm,hk]; rfl
   split at hr
   ·cases hr
   ·rename_i hall
    split at hr
    ·rename_i l hl
     cases hr
     rw [hfl] at hall hl
     obtain ⟨pl,h1,h2,h3⟩:=run_mapM_fields (P:=P) (w:=w) (l:=fs.toList) fun f hf=>by
      obtain ⟨j,hj⟩:=allTi_mem hall f hf
      exact ⟨_,(tiOf_ok T hj).sizeOf w⟩
     have hpl:(fun k=>pl.toArray[k]?) = placeS tt (fieldsL fs.toList):=by
      funext k
      unfold placeS
      rw [fieldsL_nth]
      cases hf:fs.toList[k]? with
      | none=>
       have:pl[k]? = none:=List.getElem?_eq_none (by rw [h2]; exact List.getElem?_eq_none_iff.1 hf)
       simp [this]
      | some f=>
       obtain ⟨z',h4,h5⟩:=h3 k f hf
       obtain ⟨j,hj⟩:=allTi_mem hall f (List.mem_of_getElem? hf)
       have h6:=(tiOf_ok T hj).sizeOf w
       rw [h4] at h6
       cases h6
       simp [h5,hj]
     rw [← hpl] at hl
     obtain ⟨cs,h7,h8⟩:=fillA_rel hz2 hp hl
     refine ⟨.agg cs, ?_,by rw [vrel]; exact ⟨cs.toList,by simp,h8⟩⟩
     have hmm:((fs.mapM fun f=>do pure (f.offset,← sizeOf f.type)):Sem (Array (Nat × Nat))).run P w = .ok pl.toArray w:=by
      have:=List.mapM_toArray (m:=Sem) (f:=fun f:Field=>do pure (f.offset,← sizeOf f.type)) (l:=fs.toList)
      rw [Array.toArray_toList] at this
      rw [this]
      rw [Sem.run_map,h1]; rfl
     simp only [Instr.build,Sem.run_bind,hz1,Result.andThen_ok,Sem.run_pure,run_underlying hd,hmm,h7]
    ·cases hr
  ·rename_i m e hk
   obtain ⟨he,hm⟩:=ki.array hk
   have hd:P.underlying t = some (.array m e):=by rw [ki.under,hk]
   split at hr
   ·cases hr
   ·rename_i j hj
    have kj:=tiOf_ok T hj
    rw [he] at kj
    split at hr
    ·rename_i l hl
     cases hr
     obtain ⟨cs,h7,h8⟩:=fillA_rel hz2 hp hl
     refine ⟨.agg cs, ?_,by rw [vrel]; exact ⟨cs.toList,by simp,h8⟩⟩
     simp only [Instr.build,Sem.run_bind,hz1,Result.andThen_ok,Sem.run_pure,run_underlying hd,kj.sizeOf w,h7]
    ·cases hr
  ·cases hr
end Go.Proofs.YtoeeackjlclneaaGreatDoor
end
section
namespace Go.Proofs.YtoeeackjlclneaaGreatDoor
set_option linter.unusedVariables false
def hiN:IntKind → Nat
 | .i8=>128
 | .i16=>32768
 | .i32=>2147483648
 | .i64=>9223372036854775808
 | .u8=>256
 | .u16=>65536
 | .u32=>4294967296
 | .u64=>18446744073709551616
def ikN:IntKind → Nat
 | .i8=>0
 | .i16=>1
 | .i32=>2
 | .i64=>3
 | .u8=>4
 | .u16=>5
 | .u32=>6
 | .u64=>7
theorem ikN_inj {a b:IntKind} (h:Nat.beq (ikN a) (ikN b) = true):a = b:=by
 have:=Nat.eq_of_beq_eq_true h
 cases a <;> cases b <;> first | rfl | (simp [ikN] at this)
def wrapA (k:IntKind) (n:Int):Int:=match n with
 | .ofNat m=>match Nat.blt m (hiN k) with
  | true => .ofNat m
  | false=>match k.signed with
   | false => .ofNat (Nat.mod m (hiN k))
   | true=>k.wrap (.ofNat m)
 | .negSucc m=>match k.signed with
  | true=>match Nat.blt m (hiN k) with
   | true => .negSucc m
   | false=>k.wrap (.negSucc m)
  | false=>k.wrap (.negSucc m)
theorem wrap_s (k:IntKind) (hs:k.signed = true) (n:Int):k.wrap n = if n % (2 ^ k.bits:Int) ≥ (2 ^ (k.bits - 1):Int) then n % (2 ^ k.bits:Int) - (2 ^ k.bits:Int) else n % (2 ^ k.bits:Int):=by
 unfold IntKind.wrap
 simp [hs]
theorem wrap_u (k:IntKind) (hs:k.signed = false) (n:Int):k.wrap n = n % (2 ^ k.bits:Int):=by
 unfold IntKind.wrap
 simp [hs]
theorem wrap_pos (k:IntKind) (n:Int) (h0:0 ≤ n) (h:n < hiN k):k.wrap n = n:=by
 cases k <;> first
  | (rw [wrap_s _ rfl,if_neg] <;> simp only [IntKind.bits,hiN,Nat.reduceSub,Int.reducePow] at h ⊢ <;> omega)
  | (rw [wrap_u _ rfl]; simp only [IntKind.bits,hiN,Int.reducePow] at h ⊢; omega)
theorem wrap_nat (k:IntKind) (m:Nat) (h:m < hiN k):k.wrap (.ofNat m) = .ofNat m:=wrap_pos k _ (by simp) (by simpa using h)
theorem wrap_mod (k:IntKind) (m:Nat) (h:k.signed = false):k.wrap (.ofNat m) = .ofNat (m % hiN k):=by
 rw [wrap_u _ h]
 have e:Int.ofNat m = (m:Int):=rfl
 cases k <;> first
  | (simp [IntKind.signed] at h; done)
  | (simp only [IntKind.bits,hiN,Int.reducePow]; rw [e]; show (m:Int) % _ = ((m % _:Nat):Int); omega)
theorem wrap_neg (k:IntKind) (m:Nat) (hs:k.signed = true) (h:m < hiN k):k.wrap (.negSucc m) = .negSucc m:=by
 have hn:Int.negSucc m = -(m:Int) - 1:=by omega
 rw [wrap_s _ hs,hn]
 cases k <;> first
  | (simp [IntKind.signed] at hs; done)
  | (rw [if_pos] <;> simp only [IntKind.bits,hiN,Nat.reduceSub,Int.reducePow] at h ⊢ <;> omega)
theorem wrapA_eq (k:IntKind) (n:Int):wrapA k n = k.wrap n:=by
 unfold wrapA
 split
 ·split
  ·rename_i h; exact (wrap_nat k _ (blt_lt h)).symm
  ·split
   ·rename_i h; exact (wrap_mod k _ h).symm
   ·rfl
 ·split
  ·rename_i hs
   split
   ·rename_i h; exact (wrap_neg k _ hs (blt_lt h)).symm
   ·rfl
  ·rfl
def ltI:Int → Int → Bool
 | .ofNat a,.ofNat b=>Nat.blt a b
 | .ofNat _,.negSucc _=>false
 | .negSucc _,.ofNat _=>true
 | .negSucc a,.negSucc b=>Nat.blt b a
def eqI:Int → Int → Bool
 | .ofNat a,.ofNat b=>Nat.beq a b
 | .ofNat _,.negSucc _=>false
 | .negSucc _,.ofNat _=>false
 | .negSucc a,.negSucc b=>Nat.beq a b
theorem blt_dec (a b:Nat):Nat.blt a b = decide (a < b):=by
 cases h:Nat.blt a b
 ·symm; simp only [decide_eq_false_iff_not]
  intro hl
  have:Nat.ble (a + 1) b = true:=Nat.ble_eq_true_of_le hl
  rw [show Nat.blt a b = Nat.ble (a + 1) b from rfl,this] at h
  cases h
 ·symm; simp only [decide_eq_true_eq]; exact blt_lt h
theorem ltI_eq:∀ (a b:Int),ltI a b = decide (a < b)
 | .ofNat a,.ofNat b=>by rw [ltI,blt_dec]; congr 1; simp
 | .ofNat a,.negSucc b=>by
  rw [ltI]; symm; simp only [decide_eq_false_iff_not]
  have:Int.ofNat a = (a:Int):=rfl
  omega
 | .negSucc a,.ofNat b=>by
  rw [ltI]; symm; simp only [decide_eq_true_eq]
  have:Int.ofNat b = (b:Int):=rfl
  omega
 | .negSucc a,.negSucc b=>by rw [ltI,blt_dec]; congr 1; apply propext; omega
theorem eqI_eq:∀ (a b:Int),eqI a b = decide (a = b)
 | .ofNat a,.ofNat b=>by
  rw [eqI]
  cases h:Nat.beq a b
  ·symm; simp only [decide_eq_false_iff_not]; intro e; have:=Int.ofNat.inj e; subst this; rw [Nat.beq_refl] at h; cases h
  ·have:=Nat.eq_of_beq_eq_true h; subst this; simp
 | .ofNat a,.negSucc b=>by rw [eqI]; symm; simp
 | .negSucc a,.ofNat b=>by rw [eqI]; symm; simp
 | .negSucc a,.negSucc b=>by
  rw [eqI]
  cases h:Nat.beq a b
  ·symm; simp only [decide_eq_false_iff_not]; intro e; have:=Int.negSucc.inj e; subst this; rw [Nat.beq_refl] at h; cases h
  ·have:=Nat.eq_of_beq_eq_true h; subst this; simp
def fullN:IntKind → Nat
 | .i8=>255
 | .i16=>65535
 | .i32=>4294967295
 | .i64=>18446744073709551615
 | .u8=>255
 | .u16=>65535
 | .u32=>4294967295
 | .u64=>18446744073709551615
def bitsN (op:BinOp) (k:IntKind) (a b:Nat):Option Nat:=match op with
 | .and=>some (Nat.land a b)
 | .or=>some (Nat.lor a b)
 | .xor=>some (Nat.xor a b)
 | .andNot=>some (Nat.land a (fullN k - b))
 | _=>none
theorem ofInt_nat (k:IntKind) (m:Nat) (h:m < hiN k):(BitVec.ofInt k.bits (.ofNat m)).toNat = m:=by
 cases k <;> simp [IntKind.bits,hiN] at h ⊢ <;> omega
theorem hi_pow (k:IntKind):∃ n,hiN k = 2 ^ n ∧ n ≤ k.bits:=by
 cases k
 ·exact ⟨7,rfl,by decide⟩
 ·exact ⟨15,rfl,by decide⟩
 ·exact ⟨31,rfl,by decide⟩
 ·exact ⟨63,rfl,by decide⟩
 ·exact ⟨8,rfl,by decide⟩
 ·exact ⟨16,rfl,by decide⟩
 ·exact ⟨32,rfl,by decide⟩
 ·exact ⟨64,rfl,by decide⟩
theorem fullN_eq (k:IntKind):fullN k = 2 ^ k.bits - 1:=by cases k <;> rfl
theorem bitsN_eq {P:Program} {w:World} {op:BinOp} {k:IntKind} {a b r:Nat} (ha:a < hiN k) (hb:b < hiN k) (h:bitsN op k a b = some r) :
  (Op.intBits op k (.ofNat a) (.ofNat b)).run P w = .ok (.int k (.ofNat r)) w:=by
 have h1:=ofInt_nat k a ha
 have h2:=ofInt_nat k b hb
 obtain ⟨n,hn,hnb⟩:=hi_pow k
 unfold bitsN at h
 split at h <;> first | cases h | skip
 ·have hr:a &&& b < hiN k:=Nat.lt_of_le_of_lt Nat.and_le_left ha
  simp only [Op.intBits,BitVec.toNat_and,h1,h2,Sem.run_pure]
  rw [show ((a &&& b:Nat):Int) = .ofNat (a &&& b) from rfl,wrap_nat k _ hr]; rfl
 ·have hr:a ||| b < hiN k:=by rw [hn] at ha hb ⊢; exact Nat.or_lt_two_pow ha hb
  simp only [Op.intBits,BitVec.toNat_or,h1,h2,Sem.run_pure]
  rw [show ((a ||| b:Nat):Int) = .ofNat (a ||| b) from rfl,wrap_nat k _ hr]; rfl
 ·have hr:a ^^^ b < hiN k:=by rw [hn] at ha hb ⊢; exact Nat.xor_lt_two_pow ha hb
  simp only [Op.intBits,BitVec.toNat_xor,h1,h2,Sem.run_pure]
  rw [show ((a ^^^ b:Nat):Int) = .ofNat (a ^^^ b) from rfl,wrap_nat k _ hr]; rfl
 ·have hr:a &&& (fullN k - b) < hiN k:=Nat.lt_of_le_of_lt Nat.and_le_left ha
  have hm:(~~~(BitVec.ofInt k.bits (.ofNat b))).toNat = fullN k - b:=by rw [BitVec.toNat_not,h2,fullN_eq]
  simp only [Op.intBits,BitVec.toNat_and,h1,hm,Sem.run_pure]
  rw [show ((a &&& (fullN k - b):Nat):Int) = .ofNat (a &&& (fullN k - b)) from rfl,wrap_nat k _ hr]; rfl
def binI (op:BinOp) (k:IntKind) (a b:Int):Option AV:=match op with
 | .add=>some (.vi k (wrapA k (a + b)))
 | .sub=>some (.vi k (wrapA k (a - b)))
 | .mul=>some (.vi k (wrapA k (a * b)))
 | .quo=>match eqI b 0 with
  | true=>none
  | false=>some (.vi k (wrapA k (a.tdiv b)))
 | .rem=>match eqI b 0 with
  | true=>none
  | false=>some (.vi k (a.tmod b))
 | .eql=>some (.vb (eqI a b))
 | .neq=>some (.vb (!(eqI a b)))
 | .lss=>some (.vb (ltI a b))
 | .leq=>some (.vb (!(ltI b a)))
 | .gtr=>some (.vb (ltI b a))
 | .geq=>some (.vb (!(ltI a b)))
 | .and | .or | .xor | .andNot=>match a,b with
  | .ofNat m,.ofNat n=>match Nat.blt m (hiN k) with
   | false=>none
   | true=>match Nat.blt n (hiN k) with
    | false=>none
    | true=>match bitsN op k m n with
     | some r=>some (.vi k (.ofNat r))
     | none=>none
  | _,_=>none
 | _=>none
def shI (op:BinOp) (k:IntKind) (a b:Int):Option AV:=match a,b with
 | .ofNat m,.ofNat n=>match op with
  | .shl=>some (.vi k (wrapA k (.ofNat (Nat.mul m (Nat.pow 2 (Nat.min n k.bits))))))
  | .shr=>some (.vi k (.ofNat (Nat.div m (Nat.pow 2 (Nat.min n k.bits)))))
  | _=>none
 | _,_=>none
theorem binI_rel {P:Program} {η:En} {ν:Nu} {w:World} {op:BinOp} {t:TypeId} {k:IntKind} {a b:Int} {r:AV} (h:binI op k a b = some r) :
  ∃ v,(binOp op t (.int k a) (.int k b)).run P w = .ok v w ∧ vrel η ν r v:=by
 have bits:∀ o,(match a,b with
   | .ofNat m,.ofNat n=>match Nat.blt m (hiN k) with
    | false=>none
    | true=>match Nat.blt n (hiN k) with
     | false=>none
     | true=>match bitsN o k m n with
      | some r=>some (.vi k (.ofNat r))
      | none=>none
   | _,_=>none) = some r → ∃ v,(Op.intBits o k a b).run P w = .ok v w ∧ vrel η ν r v:=by
  intro o h
  split at h
  ·rename_i m n
   split at h
   ·cases h
   ·rename_i hm
    split at h
    ·cases h
    ·rename_i hn
     split at h
     ·rename_i r' hb
      cases h
      exact ⟨_,bitsN_eq (blt_lt hm) (blt_lt hn) hb,by rw [vrel]⟩
     ·cases h
  ·cases h
 cases op
 case add=>cases h; exact ⟨.int k (k.wrap (a + b)),by simp [binOp,Op.intArith],by rw [vrel,wrapA_eq]⟩
 case sub=>cases h; exact ⟨.int k (k.wrap (a - b)),by simp [binOp,Op.intArith],by rw [vrel,wrapA_eq]⟩
 case mul=>cases h; exact ⟨.int k (k.wrap (a * b)),by simp [binOp,Op.intArith],by rw [vrel,wrapA_eq]⟩
 case quo=>
  simp only [binI] at h
  split at h
  ·cases h
  ·rename_i hb
   cases h
   rw [eqI_eq] at hb
   have hb':b ≠ 0:=by simpa using hb
   exact ⟨.int k (k.wrap (a.tdiv b)),by simp [binOp,Op.intDiv,hb'],by rw [vrel,wrapA_eq]⟩
 case rem=>
  simp only [binI] at h
  split at h
  ·cases h
  ·rename_i hb
   cases h
   rw [eqI_eq] at hb
   have hb':b ≠ 0:=by simpa using hb
   exact ⟨.int k (a.tmod b),by simp [binOp,Op.intDiv,hb'],by rw [vrel]⟩
 case and=>obtain ⟨v,h1,h2⟩:=bits .and h; exact ⟨v,by simpa [binOp] using h1,h2⟩
 case or=>obtain ⟨v,h1,h2⟩:=bits .or h; exact ⟨v,by simpa [binOp] using h1,h2⟩
 case xor=>obtain ⟨v,h1,h2⟩:=bits .xor h; exact ⟨v,by simpa [binOp] using h1,h2⟩
 case andNot=>obtain ⟨v,h1,h2⟩:=bits .andNot h; exact ⟨v,by simpa [binOp] using h1,h2⟩
 case shl=>cases h
 case shr=>cases h
 case eql=>cases h; exact ⟨.bool (a == b),by simp [binOp,Op.intCmp],by rw [vrel,eqI_eq]; rfl⟩
 case neq=>cases h; exact ⟨.bool (a != b),by simp [binOp,Op.intCmp],by rw [vrel,eqI_eq]; rfl⟩
 case lss=>cases h; exact ⟨.bool (decide (a < b)),by simp [binOp,Op.intCmp],by rw [vrel,ltI_eq]⟩
 case leq=>cases h; exact ⟨.bool (decide (a ≤ b)),by simp [binOp,Op.intCmp],by rw [vrel,ltI_eq,← decide_not]; simp [Int.not_lt]⟩
 case gtr=>cases h; exact ⟨.bool (decide (a > b)),by simp [binOp,Op.intCmp],by rw [vrel,ltI_eq]⟩
 case geq=>cases h; exact ⟨.bool (decide (a ≥ b)),by simp [binOp,Op.intCmp],by rw [vrel,ltI_eq,← decide_not]; simp [Int.not_lt]⟩
theorem shI_rel {P:Program} {η:En} {ν:Nu} {w:World} {op:BinOp} {t:TypeId} {k k':IntKind} {a b:Int} {r:AV} (h:shI op k a b = some r) :
  ∃ v,(binOp op t (.int k a) (.int k' b)).run P w = .ok v w ∧ vrel η ν r v:=by
 unfold shI at h
 split at h
 ·rename_i m n
  have h0 : ¬ ((Int.ofNat n) < 0):=by simp
  have hn:(Int.ofNat n).toNat = n:=rfl
  split at h <;> first | cases h | skip
  ·refine ⟨.int k (k.wrap (Int.ofNat m * 2 ^ (min n k.bits))),by simp only [binOp,Op.shift,h0,if_false,hn,Sem.run_pure], ?_⟩
   rw [vrel,wrapA_eq]
   have e:(Int.ofNat m) * 2 ^ (min n k.bits) = Int.ofNat (Nat.mul m (Nat.pow 2 (Nat.min n k.bits))):=by
    show (m:Int) * 2 ^ (min n k.bits) = ((m * 2 ^ (min n k.bits):Nat):Int)
    simp
   rw [e]
  ·refine ⟨.int k ((Int.ofNat m).fdiv (2 ^ (min n k.bits))),by simp only [binOp,Op.shift,h0,if_false,hn,Sem.run_pure], ?_⟩
   rw [vrel]
   congr 1
   show (Int.ofNat m).fdiv (2 ^ (min n k.bits)) = Int.ofNat (m / 2 ^ (min n k.bits))
   have:(2:Int) ^ (min n k.bits) = ((2 ^ (min n k.bits):Nat):Int):=by simp
   rw [this]
   show ((m:Int)).fdiv _ = ((m / 2 ^ (min n k.bits):Nat):Int)
   rw [Int.fdiv_eq_ediv_of_nonneg _ (Int.natCast_nonneg _)]
   rfl
 ·cases h
end Go.Proofs.YtoeeackjlclneaaGreatDoor
end
section
namespace Go.Proofs.YtoeeackjlclneaaGreatDoor
set_option linter.unusedVariables false
def beqN:List Nat → List Nat → Bool
 | [],[]=>true
 | a :: l,b :: r=>match Nat.beq a b with
  | true=>beqN l r
  | false=>false
 | [],_ :: _=>false
 | _ :: _,[]=>false
theorem beqN_eq:∀ (l r:List Nat),beqN l r = decide (l = r)
 | [],[]=>rfl
 | [],b :: r=>rfl
 | a :: l,[]=>rfl
 | a :: l,b :: r=>by
  rw [beqN]
  split
  ·rename_i h
   have:=Nat.eq_of_beq_eq_true h
   subst this
   rw [beqN_eq]; simp
  ·rename_i h
   have:a ≠ b:=fun e=>by subst e; rw [Nat.beq_refl] at h; cases h
   simp [this]
theorem bytesOfN_inj {l r:List Nat} (hl:∀ n ∈ l,n < 256) (hr:∀ n ∈ r,n < 256) (h:l.map UInt8.ofNat = r.map UInt8.ofNat):l = r:=by
 have h2:=congrArg (fun z:List UInt8=>z.map fun b=>b.toNat) h
 simp only [List.map_map] at h2
 have fix:∀ z:List Nat,(∀ n ∈ z,n < 256) → z.map ((fun b:UInt8=>b.toNat) ∘ UInt8.ofNat) = z:=fun z hz=>by
  conv=>rhs; rw [← List.map_id z]
  refine List.map_congr_left fun n hn => ?_
  have:=hz n hn
  simp
  omega
 rwa [fix l hl,fix r hr] at h2
theorem bytesOfN_toList (l:List Nat):(bytesOfN l).toList = l.map UInt8.ofNat:=by
 rw [ByteArray.toList_eq]; simp [bytesOfN]
theorem beqN_rel {l r:List Nat} (hl:∀ n ∈ l,n < 256) (hr:∀ n ∈ r,n < 256):((bytesOfN l).toList == (bytesOfN r).toList) = beqN l r:=by
 rw [beqN_eq,bytesOfN_toList,bytesOfN_toList]
 by_cases h:l = r
 ·subst h; simp
 ·simp only [h,decide_false]
  cases hb:(List.map UInt8.ofNat l == List.map UInt8.ofNat r)
  ·rfl
  ·exact absurd (bytesOfN_inj hl hr (by simpa using hb)) h
def SeOk (P : Program) (se : Nat → Bool) : Prop := ∀ t, se t = true → P.stoodInHeld t = false ∧ P.eqGuardType P.depth t = false ∧ ∀ fs, P.underlying t = some (.struct fs) → ∀ f ∈ fs.toList, f.name ≠ "_"
noncomputable def plB (h:Tr Ob) (b:Nat):Bool:=match h.get b with
 | some (.oc _ false)=>true
 | _=>false
noncomputable def eq1 (tt:Nat → Option TypeInfo) (h:Tr Ob) (i:TI) (x y:AV):Option Bool:=match i.kind with
 | .bool=>match x,y with
  | .vb a,.vb b=>some (a == b)
  | _,_=>none
 | .int _=>match x,y with
  | .vi k a,.vi k' b=>match Nat.beq (ikN k) (ikN k') with
   | true=>some (eqI a b)
   | false=>none
  | _,_=>none
 | .string=>match x,y with
  | .vs a,.vs b=>some (beqN a b)
  | _,_=>none
 | .pointer _=>match x with
  | .vpn=>match y with
   | .vpn=>some true
   | .vp _ _=>some false
   | _=>none
  | .vp b o=>match y with
   | .vpn=>some false
   | .vp b' o'=>match tiOf tt i.elem with
    | none=>none
    | some j=>match j.size with
     | 0=>none
     | _ + 1=>match plB h b with
      | false=>none
      | true=>match plB h b' with
       | false=>none
       | true=>match Nat.beq b b' with
        | true=>some (Nat.beq o o')
        | false=>some false
   | _=>none
  | _=>none
 | .slice _=>match x with
  | .vsn=>match y with
   | .vsn=>some true
   | .vsl _ _ _ _ _ _=>some false
   | _=>none
  | .vsl _ _ _ _ _ _=>match y with
   | .vsn=>some false
   | _=>none
  | _=>none
 | _=>none
theorem plainB_rel {η:En} {ν:Nu} {h:Tr Ob} {w:World} (H:HR η ν h w) {b:Nat} {q:Loc} (hq:ν b = some q) (hp:plB h b = true):∃ c e,w.heap[q.b]? = some (.cells c e (0,0)):=by
 unfold plB at hp
 split at hp
 ·rename_i l hg
  obtain ⟨ob,e2,c,e,fr,rfl, -, -,hfr, -⟩:=H.get hg hq
  exact ⟨c,e,by rw [e2,hfr.1 rfl]⟩
 ·cases hp
theorem TIok.pointer {P:Program} {t:TypeId} {i:TI} (k:TIok P t i) {e:TypeId} (h:i.kind = .pointer e):i.elem = e:=by
 obtain ⟨inf,hm⟩:=k.made
 rw [hm,h]; rfl
theorem sameAddr_beq {P:Program} {w:World} {B S:Nat} {c c':Array Value} {e e':TypeId} (g1:w.heap[B]? = some (.cells c e (0,0))) (g2:w.heap[B]? = some (.cells c' e' (0,0))) (o o':Nat) :
  (sameAddr ⟨B,S + o,none⟩ ⟨B,S + o',none⟩).run P w = .ok (Nat.beq o o') w:=by
 by_cases ho:o = o'
 ·subst ho
  rw [run_sameAddr_same w,Nat.beq_refl]
 ·have hne:(⟨B,S + o,none⟩:Addr) ≠ ⟨B,S + o',none⟩:=fun e=>ho (by have:=(Addr.mk.inj e).2.1; omega)
  rw [run_sameAddr_other w hne g1 g2]
  congr 1
  symm
  cases hbb:Nat.beq o o'
  ·rfl
  ·exact absurd (Nat.eq_of_beq_eq_true hbb) ho
theorem eq1_rel {P:Program} {tt:Nat → Option TypeInfo} {ff:Nat → Option Func} (T:TabE P tt ff) {η:En} {ν:Nu} {h:Tr Ob} {w:World} (H:HR η ν h w) {t:TypeId} {i:TI} (ki:TIok P t i) {x y:AV} {u v:Value} (hu:vrel η ν x u) (hv:vrel η ν y v)
  {r:Bool} (hr:eq1 tt h i x y = some r) (d:Nat):(Op.equalIn (d + 1) t u v).run P w = .ok r w:=by
 have hd:=ki.under
 unfold eq1 at hr
 split at hr
 ·rename_i hk
  rw [hk] at hd
  split at hr
  ·cases hr
   rw [vrel] at hu; rw [vrel] at hv
   subst hu hv
   exact run_equalIn_bool' w d t _ _ hd
  ·cases hr
 ·rename_i k0 hk
  rw [hk] at hd
  split at hr
  ·split at hr
   ·rename_i hkk
    cases hr
    rw [vrel] at hu; rw [vrel] at hv
    subst hu hv
    have:=ikN_inj hkk
    subst this
    rw [run_equalIn_int w d t _ k0 _ _ hd,eqI_eq]; rfl
   ·cases hr
  ·cases hr
 ·rename_i hk
  rw [hk] at hd
  split at hr
  ·cases hr
   rw [vrel] at hu; rw [vrel] at hv
   obtain ⟨rfl,h1⟩:=hu
   obtain ⟨rfl,h2⟩:=hv
   rw [run_equalIn_string w d t _ _ hd,beqN_rel h1 h2]
  ·cases hr
 ·rename_i e hk
  have he:=ki.pointer hk
  rw [hk] at hd
  split at hr
  ·split at hr <;> cases hr
   ·rw [vrel] at hu; rw [vrel] at hv; subst hu hv; simp [Op.equalIn,run_underlying hd]
   ·rw [vrel] at hu; rw [vrel] at hv; obtain ⟨q, -,rfl⟩:=hv; subst hu; simp [Op.equalIn,run_underlying hd]
  ·split at hr
   ·cases hr; rw [vrel] at hu; rw [vrel] at hv; obtain ⟨q, -,rfl⟩:=hu; subst hv; simp [Op.equalIn,run_underlying hd]
   ·split at hr
    ·cases hr
    ·rename_i j hj
     have kj:=tiOf_ok T hj
     rw [he] at kj
     split at hr
     ·cases hr
     ·rename_i m hz
      split at hr
      ·cases hr
      ·rename_i hp1
       split at hr
       ·cases hr
       ·rename_i hp2
        rw [vrel] at hu; rw [vrel] at hv
        obtain ⟨q,hq,rfl⟩:=hu
        obtain ⟨q',hq',rfl⟩:=hv
        obtain ⟨c,e1,g1⟩:=plainB_rel H hq hp1
        obtain ⟨c',e1',g2⟩:=plainB_rel H hq' hp2
        have hgo:∀ a b:Addr,(Op.equalIn (d + 1) t (.pointer (some a)) (.pointer (some b))).run P w = (sameAddr a b).run P w:=fun a b=>by
         simp only [Op.equalIn,Sem.run_bind,run_underlying hd,Result.andThen_ok,kj.sizeOf,hz]
         rfl
        rw [hgo]
        split at hr
        ·rename_i hb
         have:=Nat.eq_of_beq_eq_true hb
         subst this
         rw [hq] at hq'
         cases hq'
         cases hr
         exact sameAddr_beq g1 g2 _ _
        ·rename_i hb
         cases hr
         have hbn:∀ b b':Nat,Nat.beq b b' = false → b ≠ b':=fun b b' hx e=>by subst e; rw [Nat.beq_refl] at hx; cases hx
         have hne:=hbn _ _ hb
         rw [run_sameAddr_other w (fun e => ?_) g1 g2]
         have hbl:=(Addr.mk.inj e).1
         have pl:∀ b,plB h b = true → ∃ o,h.get b = some o ∧ dead o = false:=fun b hp=>by
          unfold plB at hp
          split at hp
          ·rename_i hg; exact ⟨_,hg,rfl⟩
          ·cases hp
         obtain ⟨o1,ho1,hd1⟩:=pl _ hp1
         obtain ⟨o2,ho2,hd2⟩:=pl _ hp2
         exact hne (H.inj _ _ _ _ _ _ ho1 ho2 hd1 hd2 hq hq' hbl)
   ·cases hr
  ·cases hr
 ·rename_i e hk
  rw [hk] at hd
  split at hr
  ·split at hr <;> cases hr
   ·rw [vrel] at hu; rw [vrel] at hv; subst hu hv; simp [Op.equalIn,run_underlying hd]
   ·rw [vrel] at hu; rw [vrel] at hv; obtain ⟨q,c, -,rfl, -⟩:=hv; subst hu; simp [Op.equalIn,run_underlying hd]
  ·split at hr <;> cases hr
   rw [vrel] at hu; rw [vrel] at hv; obtain ⟨q,c, -,rfl, -⟩:=hu; subst hv; simp [Op.equalIn,run_underlying hd]
  ·cases hr
 ·cases hr
end Go.Proofs.YtoeeackjlclneaaGreatDoor
end
section
namespace Go.Proofs.YtoeeackjlclneaaGreatDoor
set_option linter.unusedVariables false
def lenN:List Nat → Nat → Nat
 | [],n=>n
 | _ :: l,n=>lenN l (n + 1)
theorem lenN_eq:∀ (l:List Nat) (n:Nat),lenN l n = l.length + n
 | [],n=>by simp [lenN]
 | a :: l,n=>by rw [lenN,lenN_eq l]; simp; omega
noncomputable def eqF (tt:Nat → Option TypeInfo) (h:Tr Ob) (l r:List AV):List (Nat × Nat) → Option Bool
 | []=>some true
 | (ft,off) :: fs=>match tiOf tt ft with
  | none=>none
  | some j=>match partA j l off with
   | none=>none
   | some a=>match partA j r off with
    | none=>none
    | some b=>match eq1 tt h j (unN a) (unN b) with
     | none=>none
     | some false=>some false
     | some true=>eqF tt h l r fs
theorem eqF_rel {P:Program} {tt:Nat → Option TypeInfo} {ff:Nat → Option Func} (T:TabE P tt ff) {η:En} {ν:Nu} {h:Tr Ob} {w:World} (H:HR η ν h w) {l r:List AV} {vs us:List Value} (hl:vrels η ν l vs) (hr:vrels η ν r us) (d:Nat) :
  ∀ {fs : List Field} {b : Bool}, (∀ f ∈ fs, f.name ≠ "_") → eqF tt h l r (fieldsL fs) = some b → (Op.eqFields (d + 1) vs.toArray us.toArray fs).run P w = .ok b w
 | [],b,hn,e=>by cases e; rfl
 | f :: fs,b,hn,e=>by
  have hf:=hn f (List.mem_cons_self ..)
  have e':(match tiOf tt f.type with
   | none=>none
   | some j=>match partA j l f.offset with
    | none=>none
    | some a=>match partA j r f.offset with
     | none=>none
     | some c=>match eq1 tt h j (unN a) (unN c) with
      | none=>none
      | some false=>some false
      | some true=>eqF tt h l r (fieldsL fs)) = some b:=e
  split at e'
  ·cases e'
  ·rename_i j hj
   split at e'
   ·cases e'
   ·rename_i a ha
    split at e'
    ·cases e'
    ·rename_i c hc
     have kj:=tiOf_ok T hj
     obtain ⟨v,h1,h2⟩:=partA_rel w kj hl ha
     obtain ⟨u,h3,h4⟩:=partA_rel w kj hr hc
     split at e'
     ·cases e'
     ·rename_i he
      cases e'
      have h5:=eq1_rel T H kj (unN_rel h2) (unN_rel h4) he d
      simp only [Op.eqFields,hf,ne_eq,not_false_eq_true,if_true,Sem.run_bind,h1,Result.andThen_ok,h3,h5,Bool.not_false,Sem.run_pure]
     ·rename_i he
      have h5:=eq1_rel T H kj (unN_rel h2) (unN_rel h4) he d
      have ih:=eqF_rel T H hl hr d (fun g hg=>hn g (List.mem_cons_of_mem _ hg)) e'
      simp only [Op.eqFields,hf,ne_eq,not_false_eq_true,if_true,Sem.run_bind,h1,Result.andThen_ok,h3,h5,Bool.not_true,Bool.false_eq_true,if_false]
      exact ih
noncomputable def binS (op:BinOp) (a b:List Nat):Option AV:=match op with
 | .eql=>some (.vb (beqN a b))
 | .neq=>some (.vb (!(beqN a b)))
 | .add=>match Nat.ble (lenN a (lenN b 0)) 1000000000 with
  | true=>some (.vs (a ++ b))
  | false=>none
 | _=>none
noncomputable def eqlV (op:BinOp) (r:Option Bool):Option AV:=match op with
 | .eql=>match r with
  | some b=>some (.vb b)
  | none=>none
 | .neq=>match r with
  | some b=>some (.vb (!b))
  | none=>none
 | _=>none
noncomputable def binA (tt:Nat → Option TypeInfo) (se:Nat → Bool) (h:Tr Ob) (op:BinOp) (t:Nat) (x y:AV):Option AV:=match x with
 | .vi k a=>match y with
  | .vi k' b=>match op with
   | .shl=>shI .shl k a b
   | .shr=>shI .shr k a b
   | op=>match Nat.beq (ikN k) (ikN k') with
    | true=>binI op k a b
    | false=>none
  | _=>none
 | .vs a=>match y with
  | .vs b=>binS op a b
  | _=>none
 | .vag l=>match y with
  | .vag r=>match se t with
   | true=>match tiOf tt t with
    | some i=>match i.kind with
     | .struct _=>eqlV op (eqF tt h l r i.fields)
     | _=>none
    | none=>none
   | false=>none
  | _=>none
 | .vni=>none
 | x=>match y with
  | .vi _ _=>none
  | .vs _=>none
  | .vag _=>none
  | .vni=>none
  | y=>match tiOf tt t with
   | some i=>eqlV op (eq1 tt h i x y)
   | none=>none
theorem eqGuard_other {P:Program} {w:World} (op:BinOp) (t:TypeId) (x y:Operand) {u v:Value} (h1:u ≠ .nilIface) (h2:∀ c,u ≠ .agg c):(eqGuard op t x y u v).run P w = .ok () w:=by
 cases op <;> first
  | rfl
  | (cases u <;> first | rfl | exact absurd rfl h1 | exact absurd rfl (h2 _) | (cases v <;> rfl))
theorem binS_rel {P:Program} {η:En} {ν:Nu} {w:World} {op:BinOp} {t:TypeId} {a b:List Nat} (ha:∀ n ∈ a,n < 256) (hb:∀ n ∈ b,n < 256) {r:AV} (h:binS op a b = some r) :
  ∃ v,(binOp op t (.string (bytesOfN a)) (.string (bytesOfN b))).run P w = .ok v w ∧ vrel η ν r v:=by
 unfold binS at h
 split at h
 ·cases h
  exact ⟨.bool (beqN a b),by rw [binOp_string_eql,beqN_rel ha hb]; rfl,by rw [vrel]⟩
 ·cases h
  exact ⟨.bool (!(beqN a b)),by rw [binOp_string_neq,beqN_rel ha hb]; rfl,by rw [vrel]⟩
 ·split at h
  ·rename_i hl
   cases h
   have hlen:=Nat.le_of_ble_eq_true hl
   rw [lenN_eq,lenN_eq] at hlen
   have s1:(bytesOfN a).size = a.length:=by simp [bytesOfN,ByteArray.size]
   have s2:(bytesOfN b).size = b.length:=by simp [bytesOfN,ByteArray.size]
   refine ⟨.string (bytesOfN a ++ bytesOfN b),by rw [binOp_string_add]; exact run_string_add_sum w _ _ (by omega), ?_⟩
   rw [vrel]
   refine ⟨?_,fun n hn => ?_⟩
   ·congr 1
    unfold bytesOfN
    rw [ByteArray.mk_append_mk,List.map_append]
   ·rcases List.mem_append.1 hn with hn | hn
    ·exact ha n hn
    ·exact hb n hn
  ·cases h
 ·cases h
theorem TIok.struct {P:Program} {t:TypeId} {i:TI} (k:TIok P t i) {fs:Array Field} (h:i.kind = .struct fs):i.fields = fieldsL fs.toList:=by
 obtain ⟨inf,hm⟩:=k.made
 rw [hm,h]; rfl
def Plain (u:Value):Prop:=(∃ b,u = .bool b) ∨ (∃ p,u = .pointer p) ∨ ∃ a n c,u = .slice a n c
theorem eq1_plain {tt:Nat → Option TypeInfo} {h:Tr Ob} {i:TI} {x y:AV} {b:Bool} (e:eq1 tt h i x y = some b) (hx:∀ k n,x ≠ .vi k n) (hs:∀ l,x ≠ .vs l) {η:En} {ν:Nu} {u:Value} (hu:vrel η ν x u):Plain u:=by
 cases x
 case vb b=>rw [vrel] at hu; exact Or.inl ⟨_,hu⟩
 case vpn=>rw [vrel] at hu; exact Or.inr (Or.inl ⟨_,hu⟩)
 case vp b o=>rw [vrel] at hu; obtain ⟨q, -,rfl⟩:=hu; exact Or.inr (Or.inl ⟨_,rfl⟩)
 case vsn=>rw [vrel] at hu; exact Or.inr (Or.inr ⟨_,_,_,hu⟩)
 case vsl b o len cap ex z=>rw [vrel] at hu; obtain ⟨q,c, -,rfl, -⟩:=hu; exact Or.inr (Or.inr ⟨_,_,_,rfl⟩)
 case vi k n=>exact absurd rfl (hx k n)
 case vs l=>exact absurd rfl (hs l)
 all_goals
  exfalso
  unfold eq1 at e
  split at e <;> first
   | cases e
   | (split at e <;> first | cases e | (rename_i h1 h2; cases h1) | (rename_i h1; cases h1))
   | (simp at e; done)
theorem binOp_plain {P:Program} {w:World} {op:BinOp} {t:TypeId} {u v:Value} (hu:Plain u) {r:Bool} (h:(Op.equal t u v).run P w = .ok r w) {o:Option Bool} (ho:o = some r) {z:AV} (hz:eqlV op o = some z) {η:En} {ν:Nu} :
  ∃ y,(binOp op t u v).run P w = .ok y w ∧ vrel η ν z y:=by
 subst ho
 cases op <;> simp only [eqlV] at hz <;> first
  | (cases hz; done)
  | skip
 ·cases hz
  refine ⟨.bool r, ?_,by rw [vrel]⟩
  have:binOp .eql t u v = (do pure (.bool (← Op.equal t u v))):=by
   rcases hu with ⟨b,rfl⟩ | ⟨p,rfl⟩ | ⟨a,n,c,rfl⟩ <;> cases v <;> rfl
  rw [this]
  simp only [Sem.run_bind,h,Result.andThen_ok,Sem.run_pure]
 ·cases hz
  refine ⟨.bool (!r), ?_,by rw [vrel]⟩
  have:binOp .neq t u v = (do pure (.bool (!(← Op.equal t u v)))):=by
   rcases hu with ⟨b,rfl⟩ | ⟨p,rfl⟩ | ⟨a,n,c,rfl⟩ <;> cases v <;> rfl
  rw [this]
  simp only [Sem.run_bind,h,Result.andThen_ok,Sem.run_pure]
theorem binA_rel {P:Program} {tt:Nat → Option TypeInfo} {ff:Nat → Option Func} {se:Nat → Bool} (T:TabE P tt ff) (S:SeOk P se) {η:En} {ν:Nu} {h:Tr Ob} {w:World} (H:HR η ν h w) {op:BinOp} {t:TypeId} (xo yo:Operand)
  {x y r:AV} {u v:Value} (hu:vrel η ν x u) (hv:vrel η ν y v) (hr:binA tt se h op t x y = some r) :
  ∃ z,((do eqGuard op t xo yo u v; binOp op t u v):Sem Value).run P w = .ok z w ∧ vrel η ν r z:=by
 unfold binA at hr
 split at hr
 ·rename_i k a
  rw [vrel] at hu
  subst hu
  split at hr
  ·rename_i k' b
   rw [vrel] at hv
   subst hv
   have hg:(eqGuard op t xo yo (.int k a) (.int k' b)).run P w = .ok () w:=eqGuard_other op t xo yo (by simp) (by simp)
   have fin:∀ z,(∃ v,(binOp op t (.int k a) (.int k' b)).run P w = .ok v w ∧ vrel η ν z v) → ∃ v,((do eqGuard op t xo yo (.int k a) (.int k' b); binOp op t (.int k a) (.int k' b)):Sem Value).run P w = .ok v w ∧ vrel η ν z v:=fun z ⟨v,h1,h2⟩=>
    ⟨v,by simp only [Sem.run_bind,hg,Result.andThen_ok,h1],h2⟩
   split at hr
   ·exact fin r (shI_rel hr)
   ·exact fin r (shI_rel hr)
   ·split at hr
    ·rename_i hk
     have:=ikN_inj hk
     subst this
     exact fin r (binI_rel hr)
    ·cases hr
  ·cases hr
 ·rename_i a
  split at hr
  ·rename_i b
   rw [vrel] at hu
   rw [vrel] at hv
   obtain ⟨rfl,ha⟩:=hu
   obtain ⟨rfl,hb⟩:=hv
   have hg:(eqGuard op t xo yo (.string (bytesOfN a)) (.string (bytesOfN b))).run P w = .ok () w:=eqGuard_other op t xo yo (by simp) (by simp)
   obtain ⟨z,h1,h2⟩:=binS_rel (P:=P) (η:=η) (ν:=ν) (w:=w) (t:=t) ha hb hr
   exact ⟨z,by simp only [Sem.run_bind,hg,Result.andThen_ok,h1],h2⟩
  ·cases hr
 ·rename_i l
  split at hr
  ·rename_i m
   split at hr
   ·rename_i hse
    split at hr
    ·rename_i i hi
     have ki:=tiOf_ok T hi
     split at hr
     ·rename_i fs hk
      obtain ⟨s1,s2,s3⟩:=S t hse
      have hd:P.underlying t = some (.struct fs):=by rw [ki.under,hk]
      have hfo:P.fieldsOf t = fs:=by simp [Program.fieldsOf,hd]
      rw [vrel] at hu
      rw [vrel] at hv
      obtain ⟨vs,rfl,hvs⟩:=hu
      obtain ⟨us,rfl,hus⟩:=hv
      rw [ki.struct hk] at hr
      have hg:=run_eqGuard_agg (P:=P) w op t xo yo vs.toArray us.toArray s2
      have go:∀ b,eqF tt h l m (fieldsL fs.toList) = some b → (Op.equalIn 10000 t (.agg vs.toArray) (.agg us.toArray)).run P w = .ok b w:=fun b hb=>by
       rw [run_equalIn_agg w 9999 t _ _ (by rw [hfo]; exact hd) s1,hfo]
       exact eqF_rel T H hvs hus 9998 (s3 fs hd) hb
      unfold eqlV at hr
      split at hr
      ·split at hr
       ·rename_i b hb
        cases hr
        exact ⟨.bool b,by simp only [Sem.run_bind,hg,Result.andThen_ok,run_eql_struct,go b hb],by rw [vrel]⟩
       ·cases hr
      ·split at hr
       ·rename_i b hb
        cases hr
        exact ⟨.bool (!b),by simp only [Sem.run_bind,hg,Result.andThen_ok,run_neq_struct,go b hb],by rw [vrel]⟩
       ·cases hr
      ·cases hr
     ·cases hr
    ·cases hr
   ·cases hr
  ·cases hr
 ·cases hr
 ·rename_i h1 h2 h3 h4
  split at hr
  ·cases hr
  ·cases hr
  ·cases hr
  ·cases hr
  ·rename_i g1 g2 g3 g4
   split at hr
   ·rename_i i hi
    have ki:=tiOf_ok T hi
    cases hb:eq1 tt h i x y with
    | none=>rw [hb] at hr; cases op <;> cases hr
    | some b=>
     have hpl:=eq1_plain hb (fun k n e=>h1 k n e) (fun l e=>h2 l e) hu
     have go:(Op.equal t u v).run P w = .ok b w:=eq1_rel T H ki hu hv hb 9999
     have hg:(eqGuard op t xo yo u v).run P w = .ok () w:=eqGuard_other op t xo yo
      (fun e=>by subst e; rcases hpl with ⟨_,e⟩ | ⟨_,e⟩ | ⟨_,_,_,e⟩ <;> cases e)
      (fun c e=>by subst e; rcases hpl with ⟨_,e⟩ | ⟨_,e⟩ | ⟨_,_,_,e⟩ <;> cases e)
     obtain ⟨z,g5,g6⟩:=binOp_plain (P:=P) (η:=η) (ν:=ν) hpl go hb hr
     exact ⟨z,by simp only [Sem.run_bind,hg,Result.andThen_ok,g5],g6⟩
   ·cases hr
end Go.Proofs.YtoeeackjlclneaaGreatDoor
end
section
namespace Go.Proofs.YtoeeackjlclneaaGreatDoor
set_option linter.unusedVariables false
def unA (op:UnOp) (x:AV):Option AV:=match op with
 | .not=>match x with
  | .vb b=>some (.vb (!b))
  | _=>none
 | .neg=>match x with
  | .vi k n=>some (.vi k (wrapA k (0 - n)))
  | _=>none
 | _=>none
theorem unA_rel {P:Program} {η:En} {ν:Nu} {w:World} {op:UnOp} {x a:AV} {u:Value} (hu:vrel η ν x u) (hr:unA op x = some a):∃ v,(Op.unary op u).run P w = .ok v w ∧ vrel η ν a v:=by
 unfold unA at hr
 split at hr
 ·split at hr <;> cases hr
  rw [vrel] at hu
  subst hu
  exact ⟨_,rfl,by rw [vrel]⟩
 ·split at hr <;> cases hr
  rename_i k n
  rw [vrel] at hu
  subst hu
  exact ⟨.int k (k.wrap (0 - n)),rfl,by rw [vrel,wrapA_eq]⟩
 ·cases hr
def nilA (x:AV):Option AV:=match x with
 | .vp b o=>some (.vp b o)
 | .vfn f l=>some (.vfn f l)
 | _=>none
noncomputable def lenV (i:TI) (tt:Nat → Option TypeInfo) (x:AV):Option AV:=match i.kind with
 | .string=>match x with
  | .vs l=>some (.vi .i64 (.ofNat (lenN l 0)))
  | _=>none
 | .slice _=>match x with
  | .vsn=>some (.vi .i64 (.ofNat 0))
  | .vse=>some (.vi .i64 (.ofNat 0))
  | .vsl _ _ n _ _ _=>some (.vi .i64 (.ofNat n))
  | _=>none
 | .array n _=>some (.vi .i64 (.ofNat n))
 | .map _ _=>match x with
  | .vmn=>some (.vi .i64 (.ofNat 0))
  | _=>none
 | _=>none
theorem lenV_rel {P:Program} {tt:Nat → Option TypeInfo} {η:En} {ν:Nu} {w:World} {t ty:TypeId} {i:TI} (ki:TIok P t i) {x a:AV} {u:Value} (hu:vrel η ν x u) (hr:lenV i tt x = some a) :
  ∃ v,(Builtin.len_ #[t] ty #[u]).run P w = .ok v w ∧ vrel η ν a v:=by
 have hd:=ki.under
 unfold lenV at hr
 split at hr
 ·rename_i hk
  rw [hk] at hd
  split at hr <;> cases hr
  rename_i l
  rw [vrel] at hu
  obtain ⟨rfl, -⟩:=hu
  refine ⟨goInt (bytesOfN l).size,by simp [Builtin.len_,run_underlying hd], ?_⟩
  rw [vrel,lenN_eq]
  have s1:(bytesOfN l).size = l.length:=by simp [bytesOfN,ByteArray.size]
  rw [s1]; rfl
 ·rename_i e hk
  rw [hk] at hd
  split at hr <;> cases hr
  ·rw [vrel] at hu; subst hu
   exact ⟨goInt 0,by simp [Builtin.len_,run_underlying hd],by rw [vrel]; rfl⟩
  ·rw [vrel] at hu; obtain ⟨a,c,rfl⟩:=hu
   exact ⟨goInt 0,by simp [Builtin.len_,run_underlying hd],by rw [vrel]; rfl⟩
  ·rename_i b o n cap ex z
   rw [vrel] at hu; obtain ⟨q,c, -,rfl, -⟩:=hu
   exact ⟨goInt n,by simp [Builtin.len_,run_underlying hd],by rw [vrel]; rfl⟩
 ·rename_i n e hk
  rw [hk] at hd
  cases hr
  exact ⟨goInt n,by simp [Builtin.len_,run_underlying hd],by rw [vrel]; rfl⟩
 ·rename_i k e hk
  rw [hk] at hd
  split at hr <;> cases hr
  rw [vrel] at hu; subst hu
  exact ⟨goInt 0,by simp [Builtin.len_,run_underlying hd],by rw [vrel]; rfl⟩
 ·cases hr
def minI (a b:Int):Int:=match ltI b a with
 | true=>b
 | false=>a
def maxI (a b:Int):Int:=match ltI a b with
 | true=>b
 | false=>a
def foldMin (k:IntKind):Int → List AV → Option AV
 | a,[]=>some (.vi k a)
 | a,.vi k' b :: l=>match Nat.beq (ikN k) (ikN k') with
  | true=>foldMin k (minI a b) l
  | false=>none
 | _,_ :: _=>none
def foldMax (k:IntKind):Int → List AV → Option AV
 | a,[]=>some (.vi k a)
 | a,.vi k' b :: l=>match Nat.beq (ikN k) (ikN k') with
  | true=>foldMax k (maxI a b) l
  | false=>none
 | _,_ :: _=>none
theorem foldMin_rel {P:Program} {η:En} {ν:Nu} {w:World} {k:IntKind}:∀ {l:List AV} {vs:List Value} {a:Int} {r:AV},vrels η ν l vs → foldMin k a l = some r →
  ∃ v,(vs.foldlM Builtin.min2 (.int k a)).run P w = .ok v w ∧ vrel η ν r v
 | [],vs,a,r,h,e=>by
  rw [vrels] at h; subst h
  cases e
  exact ⟨.int k a,rfl,by rw [vrel]⟩
 | x :: l,vs,a,r,h,e=>by
  rw [vrels] at h
  obtain ⟨v,us,rfl,h1,h2⟩:=h
  cases x <;> first
   | (cases e; done)
   | skip
  rename_i k' b
  have e':(match Nat.beq (ikN k) (ikN k') with
   | true=>foldMin k (minI a b) l
   | false=>none) = some r:=e
  split at e'
  ·rename_i hk
   have:=ikN_inj hk
   subst this
   rw [vrel] at h1
   subst h1
   obtain ⟨v,g1,g2⟩:=foldMin_rel h2 e'
   refine ⟨v, ?_,g2⟩
   rw [List.foldlM_cons]
   have hm:Builtin.min2 (.int k a) (.int k b) = pure (.int k (minI a b)):=by
    simp only [Builtin.min2,minI,ltI_eq]
    by_cases hb:b < a <;> simp [hb]
   rw [hm]
   simp only [Sem.run_bind,Sem.run_pure,Result.andThen_ok]
   exact g1
  ·cases e'
theorem foldMax_rel {P:Program} {η:En} {ν:Nu} {w:World} {k:IntKind}:∀ {l:List AV} {vs:List Value} {a:Int} {r:AV},vrels η ν l vs → foldMax k a l = some r →
  ∃ v,(vs.foldlM Builtin.max2 (.int k a)).run P w = .ok v w ∧ vrel η ν r v
 | [],vs,a,r,h,e=>by
  rw [vrels] at h; subst h
  cases e
  exact ⟨.int k a,rfl,by rw [vrel]⟩
 | x :: l,vs,a,r,h,e=>by
  rw [vrels] at h
  obtain ⟨v,us,rfl,h1,h2⟩:=h
  cases x <;> first
   | (cases e; done)
   | skip
  rename_i k' b
  have e':(match Nat.beq (ikN k) (ikN k') with
   | true=>foldMax k (maxI a b) l
   | false=>none) = some r:=e
  split at e'
  ·rename_i hk
   have:=ikN_inj hk
   subst this
   rw [vrel] at h1
   subst h1
   obtain ⟨v,g1,g2⟩:=foldMax_rel h2 e'
   refine ⟨v, ?_,g2⟩
   rw [List.foldlM_cons]
   have hm:Builtin.max2 (.int k a) (.int k b) = pure (.int k (maxI a b)):=by
    simp only [Builtin.max2,maxI,ltI_eq]
    by_cases hb:a < b <;> simp [hb]
   rw [hm]
   simp only [Sem.run_bind,Sem.run_pure,Result.andThen_ok]
   exact g1
  ·cases e'
end Go.Proofs.YtoeeackjlclneaaGreatDoor
end
section
namespace Go.Proofs.YtoeeackjlclneaaGreatDoor
set_option linter.unusedVariables false
def BRn (a:Option Nat) (v:Option Value):Prop:=(a = none ∧ v = none) ∨ ∃ n k,a = some n ∧ v = some (.int k (n:Int))
noncomputable def bnd (t:Fm) (x:Option Operand):Option (Option Nat):=match x with
 | none=>some none
 | some x=>match evO t x with
  | some (.vn n)=>some (some n)
  | some (.vi _ (.ofNat n))=>some (some n)
  | _=>none
theorem bnd_rel {η:En} {ν:Nu} {t:Fm} {n:Nat} {a:Act} (H:TRf η ν t n a) {x:Option Operand} {b:Option Nat} (h:bnd t x = some b):BRn b (x.map a.eval):=by
 unfold bnd at h
 split at h
 ·cases h; exact Or.inl ⟨rfl,rfl⟩
 ·split at h <;> cases h
  ·rename_i n hx
   have:=evO_rel H hx
   rw [vrel] at this
   exact Or.inr ⟨n,.i64,rfl,by rw [Option.map_some,this]⟩
  ·rename_i k n hx
   have:=evO_rel H hx
   rw [vrel] at this
   exact Or.inr ⟨n,k,rfl,by rw [Option.map_some,this]; rfl⟩
theorem run_bounds {P:Program} {w:World} {isS:Bool} {len cap:Nat} {lo hi mx:Option Nat} {lv hv mv:Option Value} (hl:BRn lo lv) (hh:BRn hi hv) (hm:BRn mx mv) (hx:mx = none ∨ hi ≠ none)
  (h1:lo.getD 0 ≤ hi.getD len) (h2:hi.getD len ≤ mx.getD cap) (h3:mx.getD cap ≤ cap) :
  (Instr.sliceBounds isS len cap lv hv mv).run P w = .ok (lo.getD 0,hi.getD len,mx.getD cap) w:=by
 have bd:∀ (n y:Nat) (k:IntKind) (code:BoundsCode),n ≤ y → (Instr.sliceBound (.int k (n:Int)) y code).run P w = .ok n w:=fun n y k code h=>by
  have:=run_sliceBound (P:=P) w k (n:Int) y code (by omega) (by omega)
  simpa using this
 rcases hm with ⟨rfl,rfl⟩ | ⟨m,km,rfl,rfl⟩
 ·rcases hh with ⟨rfl,rfl⟩ | ⟨h,kh,rfl,rfl⟩
  ·rcases hl with ⟨rfl,rfl⟩ | ⟨l,kl,rfl,rfl⟩
   ·rfl
   ·simp only [Option.getD_some,Option.getD_none] at h1
    simp [Instr.sliceBounds,bd l len kl _ h1]
  ·simp only [Option.getD_some,Option.getD_none] at h1 h2
   rcases hl with ⟨rfl,rfl⟩ | ⟨l,kl,rfl,rfl⟩
   ·simp [Instr.sliceBounds,bd h cap kh _ h2]
   ·simp only [Option.getD_some] at h1
    simp [Instr.sliceBounds,bd h cap kh _ h2,bd l h kl _ h1]
 ·simp only [Option.getD_some] at h2 h3
  rcases hh with ⟨rfl,rfl⟩ | ⟨h,kh,rfl,rfl⟩
  ·rcases hx with hx | hx
   ·cases hx
   ·exact absurd rfl hx
  ·simp only [Option.getD_some] at h1 h2
   rcases hl with ⟨rfl,rfl⟩ | ⟨l,kl,rfl,rfl⟩
   ·simp [Instr.sliceBounds,bd m cap km _ h3,bd h m kh _ h2]
   ·simp only [Option.getD_some] at h1
    simp [Instr.sliceBounds,bd m cap km _ h3,bd h m kh _ h2,bd l h kl _ h1]
def getN (o:Option Nat) (d:Nat):Nat:=match o with
 | some n=>n
 | none=>d
theorem getN_eq (o:Option Nat) (d:Nat):getN o d = o.getD d:=by cases o <;> rfl
def isN (o:Option Nat):Bool:=match o with
 | some _=>false
 | none=>true
noncomputable def takeB:Nat → List Nat → List Nat
 | 0,_=>[]
 | _ + 1,[]=>[]
 | n + 1,a :: l=>a :: takeB n l
theorem takeB_eq:∀ (n:Nat) (l:List Nat),takeB n l = l.take n
 | 0,l=>by simp [takeB]
 | n + 1,[]=>by simp [takeB]
 | n + 1,a :: l=>by simp [takeB,takeB_eq n l]
noncomputable def slS (z b o n cap:Nat) (ex:Bool) (lo hi mx:Option Nat):Option AV:=match mx with
 | none=>match Nat.ble (getN lo 0) (getN hi n) with
  | false=>none
  | true=>match Nat.ble (getN hi n) cap with
   | false=>none
   | true=>match Nat.beq (getN lo 0) 0 with
    | true=>some (.vsl b o (getN hi n) cap ex z)
    | false=>match Nat.blt (getN lo 0) cap with
     | true=>some (.vsl b (o + getN lo 0 * z) (getN hi n - getN lo 0) (cap - getN lo 0) ex z)
     | false=>match Nat.beq (getN lo 0) (getN hi n) with
      | true=>some .vse
      | false=>none
 | some m=>match isN hi with
  | true=>none
  | false=>match Nat.ble (getN lo 0) (getN hi n) with
   | false=>none
   | true=>match Nat.ble (getN hi n) m with
    | false=>none
    | true=>match Nat.ble m cap with
     | false=>none
     | true=>match Nat.beq (getN lo 0) 0 with
      | true=>some (.vsl b o (getN hi n) m true z)
      | false=>match Nat.blt (getN lo 0) m with
       | true=>some (.vsl b (o + getN lo 0 * z) (getN hi n - getN lo 0) (m - getN lo 0) true z)
       | false=>none
theorem slS_rel {P:Program} {η:En} {ν:Nu} {w:World} {t e:TypeId} (hd:P.underlying t = some (.slice e)) {z:Nat} (hz:(sizeOf e).run P w = .ok z w) {b o n cap:Nat} {ex:Bool} {u:Value} (hu:vrel η ν (.vsl b o n cap ex z) u)
  {lo hi mx:Option Nat} {lv hv mv:Option Value} (hl:BRn lo lv) (hh:BRn hi hv) (hm:BRn mx mv) {a:AV} (hr:slS z b o n cap ex lo hi mx = some a) :
  ∃ v,(Instr.sliceAt t u lv hv mv).run P w = .ok v w ∧ vrel η ν a v:=by
 rw [vrel] at hu
 obtain ⟨q,c,hq,rfl,h1,h2,h3,h4⟩:=hu
 have hs:(Instr.sliceAt t (.slice (some ⟨q.b,q.s + o,none⟩) n c) lv hv mv).run P w = (Instr.slice t (.slice (some ⟨q.b,q.s + o,none⟩) n c) lv hv mv).run P w:=by simp [Instr.sliceAt,run_underlying hd]
 rw [hs]
 have go:(mx = none ∨ hi ≠ none) → lo.getD 0 ≤ hi.getD n → hi.getD n ≤ mx.getD c → mx.getD c ≤ c →
   (Instr.slice t (.slice (some ⟨q.b,q.s + o,none⟩) n c) lv hv mv).run P w = .ok (.slice (if mx.getD c = lo.getD 0 then some ⟨q.b,q.s + o,none⟩ else some ((⟨q.b,q.s + o,none⟩:Addr).add (lo.getD 0 * z))) (hi.getD n - lo.getD 0) (mx.getD c - lo.getD 0)) w:=fun g0 g1 g2 g3=>by
  have:=run_bounds (P:=P) (w:=w) (isS:=true) hl hh hm g0 g1 g2 g3
  simp [Instr.slice,run_underlying hd,this,hz]
 unfold slS at hr
 split at hr
 ·simp only [getN_eq] at hr
  split at hr
  ·cases hr
  ·rename_i k1
   split at hr
   ·cases hr
   ·rename_i k2
    have k1:=Nat.le_of_ble_eq_true k1
    have k2:=Nat.le_of_ble_eq_true k2
    have g:=go (Or.inl rfl) k1 (by simp; omega) (by simp)
    simp only [Option.getD_none] at g
    split at hr
    ·rename_i k3
     cases hr
     have k3:=Nat.eq_of_beq_eq_true k3
     rw [k3] at g
     refine ⟨_,g, ?_⟩
     rw [vrel]
     refine ⟨q,c,hq, ?_,k2,h2,h3,h4⟩
     simp [addr_add]
    ·rename_i k3
     split at hr
     ·rename_i k4
      cases hr
      have k4:=blt_lt k4
      rw [if_neg (by omega)] at g
      refine ⟨_,g, ?_⟩
      rw [vrel]
      refine ⟨q,c - lo.getD 0,hq, ?_,by omega,by omega,fun e=>by rw [h3 e], ?_⟩
      ·rw [addr_add,Nat.add_assoc]
      ·rw [Nat.sub_mul]
       have:lo.getD 0 * z ≤ c * z:=Nat.mul_le_mul_right _ (by omega)
       omega
     ·split at hr
      ·rename_i k5
       cases hr
       have k5:=Nat.eq_of_beq_eq_true k5
       refine ⟨_,g, ?_⟩
       rw [vrel,k5,Nat.sub_self]
       split
       ·exact ⟨_,_,rfl⟩
       ·exact ⟨_,_,rfl⟩
      ·cases hr
 ·rename_i m
  simp only [getN_eq] at hr
  split at hr
  ·cases hr
  ·rename_i k0
   have k0:hi ≠ none:=fun e=>by subst e; simp [isN] at k0
   split at hr
   ·cases hr
   ·rename_i k1
    split at hr
    ·cases hr
    ·rename_i k2
     split at hr
     ·cases hr
     ·rename_i k2b
      have k1:=Nat.le_of_ble_eq_true k1
      have k2:=Nat.le_of_ble_eq_true k2
      have k2b:=Nat.le_of_ble_eq_true k2b
      have g:=go (Or.inr k0) k1 (by simpa using k2) (by simp; omega)
      simp only [Option.getD_some] at g
      have hmz:m * z ≤ c * z:=Nat.mul_le_mul_right _ (by omega)
      split at hr
      ·rename_i k3
       cases hr
       have k3:=Nat.eq_of_beq_eq_true k3
       rw [k3] at g
       refine ⟨_,g, ?_⟩
       rw [vrel]
       refine ⟨q,m,hq, ?_,k2,Nat.le_refl _,fun _=>rfl,by omega⟩
       simp [addr_add]
      ·rename_i k3
       split at hr
       ·rename_i k4
        cases hr
        have k4:=blt_lt k4
        rw [if_neg (by omega)] at g
        refine ⟨_,g, ?_⟩
        rw [vrel]
        refine ⟨q,m - lo.getD 0,hq, ?_,by omega,Nat.le_refl _,fun _=>rfl, ?_⟩
        ·rw [addr_add,Nat.add_assoc]
        ·rw [Nat.sub_mul]
         have:lo.getD 0 * z ≤ m * z:=Nat.mul_le_mul_right _ (by omega)
         omega
       ·cases hr
noncomputable def slT (l:List Nat) (lo hi:Option Nat):Option AV:=match Nat.ble (getN lo 0) (getN hi (lenN l 0)) with
 | false=>none
 | true=>match Nat.ble (getN hi (lenN l 0)) (lenN l 0) with
  | false=>none
  | true=>some (.vs (takeB (getN hi (lenN l 0) - getN lo 0) (dropL l (getN lo 0))))
theorem slT_rel {P:Program} {η:En} {ν:Nu} {w:World} {t:TypeId} (hd:P.underlying t = some .string) {l:List Nat} {u:Value} (hu:vrel η ν (.vs l) u)
  {lo hi:Option Nat} {lv hv:Option Value} (hl:BRn lo lv) (hh:BRn hi hv) {a:AV} (hr:slT l lo hi = some a) :
  ∃ v,(Instr.sliceAt t u lv hv none).run P w = .ok v w ∧ vrel η ν a v:=by
 rw [vrel] at hu
 obtain ⟨rfl,hlt⟩:=hu
 have hs:(Instr.sliceAt t (.string (bytesOfN l)) lv hv none).run P w = (Instr.slice t (.string (bytesOfN l)) lv hv none).run P w:=by simp [Instr.sliceAt,run_underlying hd]
 rw [hs]
 unfold slT at hr
 split at hr
 ·cases hr
 ·rename_i k1
  split at hr
  ·cases hr
  ·rename_i k2
   cases hr
   have k1:=Nat.le_of_ble_eq_true k1
   have k2:=Nat.le_of_ble_eq_true k2
   have hsz:(bytesOfN l).size = l.length:=by simp [bytesOfN,ByteArray.size]
   rw [lenN_eq] at k1 k2
   rw [getN_eq] at k2
   rw [getN_eq,getN_eq] at k1
   simp only [Nat.add_zero] at k1 k2
   have hb:=run_bounds (P:=P) (w:=w) (isS:=false) (len:=l.length) (cap:=l.length) hl hh (Or.inl ⟨rfl,rfl⟩) (Or.inl rfl) k1 (by simpa using k2) (by simp)
   refine ⟨.string ((bytesOfN l).extract (lo.getD 0) (hi.getD l.length)),by simp [Instr.slice,run_underlying hd,hsz,hb], ?_⟩
   rw [vrel]
   simp only [getN_eq,lenN_eq,Nat.add_zero,takeB_eq,dropL_eq]
   refine ⟨?_,fun n hn=>hlt n (List.mem_of_mem_drop (List.mem_of_mem_take hn))⟩
   congr 1
   unfold bytesOfN
   rw [ByteArray.extract_mk,List.map_take,List.map_drop]
noncomputable def sl0 (x:AV) (lo hi mx:Option Nat):Option AV:=match isN mx with
 | false=>none
 | true=>match Nat.beq (getN lo 0) 0 with
  | false=>none
  | true=>match Nat.beq (getN hi 0) 0 with
   | false=>none
   | true=>some x
theorem sl0_eq {x a:AV} {lo hi mx:Option Nat} (h:sl0 x lo hi mx = some a):a = x ∧ mx = none ∧ lo.getD 0 = 0 ∧ hi.getD 0 = 0:=by
 unfold sl0 at h
 split at h
 ·cases h
 ·rename_i h1
  split at h
  ·cases h
  ·rename_i h2
   split at h
   ·cases h
   ·rename_i h3
    cases h
    rw [getN_eq] at h2 h3
    refine ⟨rfl, ?_,Nat.eq_of_beq_eq_true h2,Nat.eq_of_beq_eq_true h3⟩
    cases mx with
    | none=>rfl
    | some _=>cases h1
theorem sl0_nil {P:Program} {η:En} {ν:Nu} {w:World} {t e:TypeId} (hd:P.underlying t = some (.slice e)) {z:Nat} (hz:(sizeOf e).run P w = .ok z w) {u:Value} (hu:vrel η ν .vsn u)
  {lo hi mx:Option Nat} {lv hv mv:Option Value} (hl:BRn lo lv) (hh:BRn hi hv) (hm:BRn mx mv) {a:AV} (hr:sl0 .vsn lo hi mx = some a) :
  ∃ v,(Instr.sliceAt t u lv hv mv).run P w = .ok v w ∧ vrel η ν a v:=by
 obtain ⟨rfl,rfl,h1,h2⟩:=sl0_eq hr
 rw [vrel] at hu
 subst hu
 have:=run_bounds (P:=P) (w:=w) (isS:=true) (len:=0) (cap:=0) hl hh hm (Or.inl rfl) (by omega) (by simp; omega) (by simp)
 simp only [Option.getD_none,h1,h2] at this
 refine ⟨.slice none 0 0, ?_,by rw [vrel]⟩
 simp [Instr.sliceAt,Instr.slice,run_underlying hd,this,hz]
theorem sl0_emp {P:Program} {η:En} {ν:Nu} {w:World} {t e:TypeId} (hd:P.underlying t = some (.slice e)) {z:Nat} (hz:(sizeOf e).run P w = .ok z w) {u:Value} (hu:vrel η ν .vse u)
  {lo hi mx:Option Nat} {lv hv mv:Option Value} (hl:BRn lo lv) (hh:BRn hi hv) (hm:BRn mx mv) {a:AV} (hr:sl0 .vse lo hi mx = some a) :
  ∃ v,(Instr.sliceAt t u lv hv mv).run P w = .ok v w ∧ vrel η ν a v:=by
 obtain ⟨rfl,rfl,h1,h2⟩:=sl0_eq hr
 rw [vrel] at hu
 obtain ⟨ad,c,rfl⟩:=hu
 have:=run_bounds (P:=P) (w:=w) (isS:=true) (len:=0) (cap:=c) hl hh hm (Or.inl rfl) (by omega) (by simp; omega) (by simp)
 simp only [Option.getD_none,h1,h2] at this
 refine ⟨.slice (if c = 0 then some ad else some (ad.add (0 * z))) 0 c, ?_, ?_⟩
 ·simp [Instr.sliceAt,Instr.slice,run_underlying hd,this,hz]
 ·rw [vrel]
  by_cases hc:c = 0
  ·rw [if_pos hc]; exact ⟨_,_,rfl⟩
  ·rw [if_neg hc]; exact ⟨_,_,rfl⟩
end Go.Proofs.YtoeeackjlclneaaGreatDoor
end
section
namespace Go.Proofs.YtoeeackjlclneaaGreatDoor
set_option linter.unusedVariables false
def bytesA:List Nat → List AV
 | []=>[]
 | n :: l => .vi .u8 (.ofNat n) :: bytesA l
noncomputable def srcA (h:Tr Ob) (z:Nat) (x:AV):Option (List AV × Nat):=match x with
 | .vsn=>some ([],0)
 | .vse=>some ([],0)
 | .vs l=>match Nat.beq z 1 with
  | true=>some (bytesA l,lenN l 0)
  | false=>none
 | .vsl b o n cap ex z'=>match readN h b o (n * z) with
  | some l=>some (l,n)
  | none=>none
 | _=>none
theorem bytesA_rel {η:En} {ν:Nu}:∀ {l:List Nat},(∀ n ∈ l,n < 256) → vrels η ν (bytesA l) ((l.map UInt8.ofNat).map fun b => .int .u8 b.toNat)
 | [],h=>vrels_nil.2 rfl
 | n :: l,h=>by
  have hn:=h n (List.mem_cons_self ..)
  refine vrels_cons.2 ⟨?_,bytesA_rel fun m hm=>h m (List.mem_cons_of_mem _ hm)⟩
  rw [vrel]
  have:(UInt8.ofNat n).toNat = n:=by simp; omega
  show Value.int .u8 ((UInt8.ofNat n).toNat:Int) = _
  rw [this]; rfl
theorem srcA_rel {P:Program} {η:En} {ν:Nu} {h:Tr Ob} {w:World} (H:HR η ν h w) {z:Nat} {x:AV} {u:Value} (hu:vrel η ν x u) {l:List AV} {n:Nat} (hr:srcA h z x = some (l,n)) :
  ∃ vs,(Builtin.lenOf u).run P w = .ok n w ∧ (Builtin.firstCells z n u).run P w = .ok vs.toArray w ∧ vrels η ν l vs ∧ vs.length = n * z:=by
 unfold srcA at hr
 split at hr
 ·cases hr
  rw [vrel] at hu; subst hu
  exact ⟨[],rfl,by simp [Builtin.firstCells],vrels_nil.2 rfl,by simp⟩
 ·cases hr
  rw [vrel] at hu; obtain ⟨a,c,rfl⟩:=hu
  exact ⟨[],rfl,by simp [Builtin.firstCells,loadCells,loadCellsFrom],vrels_nil.2 rfl,by simp⟩
 ·rename_i s
  split at hr
  ·rename_i hz
   cases hr
   have:=Nat.eq_of_beq_eq_true hz
   subst this
   rw [vrel] at hu; obtain ⟨rfl,hlt⟩:=hu
   have s1:(bytesOfN s).size = s.length:=by simp [bytesOfN,ByteArray.size]
   refine ⟨(s.map UInt8.ofNat).map fun b => .int .u8 b.toNat,by rw [lenN_eq,← s1]; rfl, ?_,bytesA_rel hlt,by simp [lenN_eq]⟩
   have he:(bytesOfN s).extract 0 (lenN s 0) = bytesOfN s:=by
    rw [lenN_eq]
    unfold bytesOfN
    rw [ByteArray.extract_mk,List.drop_zero,List.take_of_length_le (by simp)]
   simp [Builtin.firstCells,he]
   simp [bytesOfN]
  ·cases hr
 ·rename_i b o m cap ex z'
  split at hr
  ·rename_i l' hl
   cases hr
   rw [vrel] at hu
   obtain ⟨q,c,hq,rfl, -⟩:=hu
   obtain ⟨h1,vs,h2,h3⟩:=readN_rel H hq hl
   have hlen:=vrels_length h2
   refine ⟨vs,rfl, ?_,h2,by omega⟩
   have h4:=run_loadN (P:=P) h3
   rw [← hlen,h1] at h4
   simpa [Builtin.firstCells] using h4
  ·cases hr
 ·cases hr
noncomputable def appA (z:Nat) (s:AV) (new:List AV) (k:Nat) (h:Tr Ob) (nx:Nat):Ro:=match s with
 | .vsn=>match k with
  | 0 => .ok .vsn h nx
  | _ + 1 => .ok (.vsl nx 0 k k false z) (h.set nx (.oc new false)) (nx + 1)
 | .vsl b o n cap ex z'=>match Nat.beq z z' with
  | false => .er 2
  | true=>match k with
   | 0 => .ok (.vsl b o n cap ex z) h nx
   | _ + 1=>match Nat.ble (n + k) cap with
    | true=>match writeN h b (o + n * z) new with
     | some h => .ok (.vsl b o (n + k) cap ex z) h nx
     | none => .er 3
    | false=>match readN h b o (n * z) with
     | none => .er 4
     | some old=>match ex with
      | true => .ok (.vsl nx 0 (n + k) (n + k) false z) (h.set nx (.oc (old ++ new) false)) (nx + 1)
      | false=>match h.get b with
       | some (.oc _ mk)=>match allCells new with
        | true => .ok (.vsl nx 0 (n + k) (n + k) false z) ((h.set b .ox).set nx (.oc (old ++ new) mk)) (nx + 1)
        | false => .er 5
       | _ => .er 6
 | _ => .er 7
def lenA0:AV → Option Nat
 | .vsn=>some 0
 | .vsl _ _ n _ _ _=>some n
 | _=>none
def fitK (n k by_:Nat):Bool:=Nat.ble ((n + k) * by_) 1000000000
theorem cut_ge (need old:Nat) (e:TypeId) (t:Nat) (h:need < 2 ^ 63):need ≤ (Question.appendCap need old e).cut t ∧ (Question.appendCap need old e).cut t < 2 ^ 63:=by
 show need ≤ need + t % (2 ^ 63 - need) ∧ need + t % (2 ^ 63 - need) < 2 ^ 63
 have:t % (2 ^ 63 - need) < 2 ^ 63 - need:=Nat.mod_lt _ (by omega)
 omega
theorem run_append_in {P:Program} {w:World} {t ty e:TypeId} {inf:TypeInfo} (hd:P.underlying t = some (.slice e)) (hi:P.info? e = some inf)
  {base:Option Addr} {n c:Nat} {x:Value} {T2:TypeId} (h2:(∃ e',P.underlying T2 = some (.slice e')) ∨ P.underlying T2 = some .string) {k:Nat} (hk:(Builtin.lenOf x).run P w = .ok k w)
  {new:List Value} (hnew:(Builtin.firstCells inf.size k x).run P w = .ok new.toArray w) (hroom:n + k ≤ c) :
  (Builtin.append_ #[t,T2] ty #[.slice base n c,x]).run P w = (match base with
    | none => .ok (.slice none (n + k) c) w
    | some a=>((storeCells (a.add (n * inf.size)) new).run P w).andThen fun _ w => .ok (.slice (some a) (n + k) c) w):=by
 rcases h2 with ⟨e',h2⟩ | h2 <;> cases base <;> simp [Builtin.append_,run_underlying hd,run_underlying h2,sizeOf,typeInfo,hi,hk,hroom,hnew]
theorem run_append_out {P:Program} {w:World} {t ty e:TypeId} {inf:TypeInfo} {zv:Value} (hd:P.underlying t = some (.slice e)) (hi:P.info? e = some inf) (hz:inf.zero = some zv)
  {base:Option Addr} {n c:Nat} {x:Value} {T2:TypeId} (h2:(∃ e',P.underlying T2 = some (.slice e')) ∨ P.underlying T2 = some .string) {k:Nat} (hk:(Builtin.lenOf x).run P w = .ok k w)
  {new old:List Value} (hold:(Builtin.firstCells inf.size n (.slice base n c)).run P w.drew = .ok old.toArray w.drew)
  (hnew:(Builtin.firstCells inf.size k x).run P w.drew = .ok new.toArray w.drew) (hfit:(n + k) * inf.bytes ≤ 1000000000) (hnk:n + k ≤ 1000000000) (hroom : ¬ n + k ≤ c) :
  (Builtin.append_ #[t,T2] ty #[.slice base n c,x]).run P w = .ok (.slice (some ⟨w.heap.size,0,none⟩) (n + k) (grownCap w (n + k) c e))
    (w.drew.alloc (.cells (old.toArray ++ new.toArray ++ Builtin.zeroCells zv.cells (grownCap w (n + k) c e - (n + k))) e)):=by
 have hns:Builtin.nextslicecap (n + k) c * inf.bytes ≤ 281474976710656:=growslice_fits (by omega) (by omega)
 have h48 : ¬ (281474976710656 < Builtin.nextslicecap (n + k) c * inf.bytes):=by omega
 have h63 : ¬ (9223372036854775807 < ((n:Int) + (k:Int))):=by omega
 rcases h2 with ⟨e',h2⟩ | h2 <;> simp [Builtin.append_,run_underlying hd,run_underlying h2,sizeOf,typeInfo,zeroValue,hi,hz,hk,hroom,h63,h48,Question.forced,hold,hnew,newRow,grownCap] <;> (congr 2; apply Array.ext'; simp [List.append_assoc])
theorem HR.heap {η:En} {ν:Nu} {h:Tr Ob} {w w':World} (H:HR η ν h w) (e:w'.heap = w.heap):HR η ν h w':=by
 refine ⟨fun b o hg => ?_,H.inj,⟨by rw [e]; exact H.base.low,fun k hk=>by rw [e]; exact H.base.old k hk,H.base.far⟩⟩
 rw [e]; exact H.at_ b o hg
theorem Fr.heap {ν ν':Nu} {h h':Tr Ob} {w w1 w':World} (F:Fr ν h w1 ν' h' w') (e:w1.heap = w.heap) (ot:Oth w w1):Fr ν h w ν' h' w':=by
 refine ⟨F.le, ?_,fun B hB hn => ?_,fun B hB hi => ?_,ot.trans F.oth⟩
 ·rw [← e]; exact F.size
 ·rw [← e] at hB ⊢; exact F.keep B hB hn
 ·rw [← e] at hB; exact F.img B hB hi
theorem grown_size {z:Array Value} {sz:Nat} (hz:z.size = sz) (n:Nat):(Builtin.zeroCells z n).size = n * sz:=by simp [Builtin.zeroCells,hz]
theorem orel_more {η:En} {ν:Nu} {l:List AV} {vs:List Value} (h:vrels η ν l vs) (more:Array Value) (g:Nat) (e:TypeId) (c:Array Value) (hc:c = vs.toArray ++ more) (mk:Bool):orel η ν (.oc l mk) ⟨g,0,c.size⟩ (.cells c e):=
 ⟨c,e,(0,0),rfl,rfl,Nat.zero_le _,frOK_zero _ _,vs,more.toList,by simp [hc],h⟩
theorem lt63 {need:Nat} (h:need ≤ 1000000000):need < 2 ^ 63:=Nat.lt_of_le_of_lt h (by decide)
theorem grownCap_ge2 (w:World) {need:Nat} (old:Nat) (e:TypeId) (h:need ≤ 1000000000):need ≤ grownCap w need old e:=(cut_ge need old e _ (lt63 h)).1
theorem grownCap_le2 (w:World) {need:Nat} (old:Nat) (e:TypeId) (h:need ≤ 1000000000):grownCap w need old e ≤ maxLen:=by
 have:=(cut_ge need old e (w.tape w.drawn (.appendCap need old e)) (lt63 h)).2
 show Question.cut _ _ ≤ maxLen
 unfold maxLen
 omega
theorem grow_good {η:En} {ν:Nu} {h:Tr Ob} {w:World} {nx:Nat} (H:HR η ν h w) (X:Nx ν nx) {inf:TypeInfo} {zv:Value} (hz:inf.zero = some zv) (hzs:zv.cells.size = inf.size) {old new:List AV} {vo vs:List Value}
  (ho:vrels η ν old vo) (hn:vrels η ν new vs) {n k:Nat} (lo:vo.length = n * inf.size) (ln:vs.length = k * inf.size) {cap:Nat} (hc:n + k ≤ cap) (hmx:cap ≤ maxLen) (e:TypeId) (mk:Bool) :
  ∃ c:Array Value,vrel η (ν.put nx ⟨w.heap.size,0,c.size⟩) (.vsl nx 0 (n + k) (n + k) false inf.size) (.slice (some ⟨w.heap.size,0,none⟩) (n + k) cap) ∧
   (HR η (ν.put nx ⟨w.heap.size,0,c.size⟩) (h.set nx (.oc (old ++ new) mk)) (w.drew.alloc (.cells c e)) ∧ Nx (ν.put nx ⟨w.heap.size,0,c.size⟩) (nx + 1)) ∧
   Fr ν h w (ν.put nx ⟨w.heap.size,0,c.size⟩) (h.set nx (.oc (old ++ new) mk)) (w.drew.alloc (.cells c e)) ∧ c = vo.toArray ++ vs.toArray ++ Builtin.zeroCells zv.cells (cap - (n + k)):=by
 refine ⟨vo.toArray ++ vs.toArray ++ Builtin.zeroCells zv.cells (cap - (n + k)), ?_, ?_, ?_,rfl⟩
 all_goals
  have hsz:(vo.toArray ++ vs.toArray ++ Builtin.zeroCells zv.cells (cap - (n + k))).size = cap * inf.size:=by
   simp only [Array.size_append,List.size_toArray,lo,ln,grown_size hzs]
   rw [← Nat.add_mul,← Nat.add_mul]
   congr 1
   omega
  have hle:ν.le (ν.put nx ⟨w.heap.size,0,(vo.toArray ++ vs.toArray ++ Builtin.zeroCells zv.cells (cap - (n + k))).size⟩):=Nu.le_put (X nx (Nat.le_refl _))
  have hor:=orel_more (vrels_mono hle _ _ (vrels_append ho hn)) (Builtin.zeroCells zv.cells (cap - (n + k))) w.heap.size e (vo.toArray ++ vs.toArray ++ Builtin.zeroCells zv.cells (cap - (n + k))) (by simp) mk
  have hnew:=(H.heap (w':=w.drew) rfl).new X _ _ _ hor
 ·rw [vrel]
  exact ⟨_,cap,if_pos rfl,rfl,Nat.le_refl _,hc,(fun h=>by cases h),⟨(by show 0 + 0 + cap * inf.size ≤ (vo.toArray ++ vs.toArray ++ Builtin.zeroCells zv.cells (cap - (n + k))).size; omega),hmx⟩⟩
 ·exact ⟨hnew.1,hnew.2.1⟩
 ·exact hnew.2.2.heap rfl ⟨rfl,rfl,rfl⟩
theorem appA_rel {P:Program} {η:En} {ν:Nu} {h h':Tr Ob} {w:World} {nx nx':Nat} (H:HR η ν h w) (X:Nx ν nx) {t ty e:TypeId} {i:TI} {inf:TypeInfo} {zv:Value} (hd:P.underlying t = some (.slice e)) (hi:P.info? e = some inf) (hz:inf.zero = some zv)
  (hzs:zv.cells.size = inf.size) {T2:TypeId} (h2:(∃ e',P.underlying T2 = some (.slice e')) ∨ P.underlying T2 = some .string) {s x a:AV} {u v:Value} (hu:vrel η ν s u) (hv:vrel η ν x v) {new:List AV} {k:Nat} (hsrc:srcA h inf.size x = some (new,k))
  (hall:allCells new = true) {n:Nat} (hn:lenA0 s = some n) (hfit:fitK n k inf.bytes = true) (hfit1:fitK n k 1 = true) (hr:appA inf.size s new k h nx = .ok a h' nx') :
  Good η ν h w ((Builtin.append_ #[t,T2] ty #[u,v]).run P w) a h' nx':=by
 have hf:=Nat.le_of_ble_eq_true hfit
 have hf1:=Nat.le_of_ble_eq_true hfit1
 rw [Nat.mul_one] at hf1
 obtain ⟨vs,k1,k2,k3,k4⟩:=srcA_rel (P:=P) H hv hsrc
 obtain ⟨vs', -,k2',k3',k4'⟩:=srcA_rel (P:=P) (w:=w.drew) (H.heap rfl) hv hsrc
 have hwd:(w.drew.alloc (.cells #[] e)).heap.size = w.heap.size + 1:=by simp
 unfold appA at hr
 split at hr
 ·rw [vrel] at hu; subst hu
  cases hn
  split at hr
  ·cases hr
   refine Good.same H X (by rw [vrel]) ?_
   rw [run_append_in hd hi h2 k1 k2 (Nat.le_refl _)]
  ·rename_i m
   cases hr
   have hrun:=run_append_out (ty:=ty) hd hi hz (base:=none) (n:=0) (c:=0) h2 k1 (old:=[]) (by simp [Builtin.firstCells]) k2' (by simpa using hf) (by simpa using hf1) (by omega)
   have hge:=grownCap_ge2 w 0 e (need:=0 + (m + 1)) (by omega)
   obtain ⟨cc,g1,g2,g3,rfl⟩:=grow_good (old:=[]) H X hz hzs (vrels_nil.2 rfl) k3' (n:=0) (k:=m + 1) (by simp) k4' (cap:=grownCap w (0 + (m + 1)) 0 e) hge (grownCap_le2 w 0 e (by omega)) e false
   exact ⟨_,_,_,hrun,by simpa using g1,g2.1,g2.2,by simpa using g3⟩
 ·rename_i b o n0 cap ex z'
  cases hn
  split at hr
  ·cases hr
  ·rename_i hzz
   have hzz:=Nat.eq_of_beq_eq_true hzz
   subst hzz
   have hu0:=hu
   rw [vrel] at hu
   obtain ⟨q,c,hq,rfl,h1,h2',h3,h4,h5⟩:=hu
   split at hr
   ·cases hr
    have hv0:vs = []:=List.eq_nil_of_length_eq_zero (by rw [k4]; simp)
    subst hv0
    refine Good.same H X hu0 ?_
    rw [run_append_in hd hi h2 k1 k2 (by omega)]
    rfl
   ·rename_i m
    split at hr
    ·rename_i hle
     have hle:=Nat.le_of_ble_eq_true hle
     split at hr
     ·rename_i h'' hw
      cases hr
      obtain ⟨w',w1,w2,w3⟩:=writeN_rel (P:=P) H hq k3 hw
      refine ⟨.slice (some ⟨q.b,q.s + o,none⟩) (n + (m + 1)) c,w',ν, ?_, ?_,w2,X,w3⟩
      ·rw [run_append_in hd hi h2 k1 k2 (by omega)]
       simp only [addr_add]
       rw [Nat.add_assoc,w1]
       rfl
      ·rw [vrel]
       exact ⟨q,c,hq,rfl,hle,h2',h3,h4,h5⟩
     ·cases hr
    ·rename_i hle
     have hle : ¬ n + (m + 1) ≤ cap:=fun hx=>by rw [Nat.ble_eq_true_of_le hx] at hle; cases hle
     split at hr
     ·cases hr
     ·rename_i old hold
      have loads:∀ w1:World,w1.heap = w.heap → ∃ vo,(Builtin.firstCells inf.size n (.slice (some ⟨q.b,q.s + o,none⟩) n c)).run P w1 = .ok vo.toArray w1 ∧ vrels η ν old vo ∧ vo.length = n * inf.size ∧ ∀ j v,vo[j]? = some v → w1.cell? ⟨q.b,q.s + o + j,none⟩ = some v:=fun w1 hw1=>by
       obtain ⟨r1,vo,r2,r3⟩:=readN_rel (H.heap hw1) hq hold
       have hlen:=vrels_length r2
       have r4:=run_loadN (P:=P) r3
       rw [← hlen,r1] at r4
       exact ⟨vo,by simpa [Builtin.firstCells] using r4,r2,by omega,r3⟩
      obtain ⟨vo,o1,o2,o3, -⟩:=loads w.drew rfl
      have outrun : ¬ n + (m + 1) ≤ c → _:=fun hc=>run_append_out (ty:=ty) hd hi hz (base:=some ⟨q.b,q.s + o,none⟩) (n:=n) (c:=c) h2 k1 o1 k2' hf hf1 hc
      have hge:=grownCap_ge2 w c e (need:=n + (m + 1)) hf1
      have hgm:=grownCap_le2 w c e (need:=n + (m + 1)) hf1
      split at hr
      ·have hce:=h3 rfl
       cases hr
       obtain ⟨cc,g1,g2,g3,rfl⟩:=grow_good H X hz hzs o2 k3' o3 k4' hge hgm e false
       exact ⟨_,_,_,outrun (by omega),g1,g2.1,g2.2,g3⟩
      ·split at hr
       ·rename_i l0 mk hgb
        split at hr
        ·cases hr
         by_cases hc:n + (m + 1) ≤ c
         ·obtain ⟨vo', -,o2',o3',o4'⟩:=loads w rfl
          obtain ⟨ob,e2,c0,e0,fr,rfl,hcz,hsz,hfr, -⟩:=H.get hgb hq
          have hmul:(n + (m + 1)) * inf.size ≤ c * inf.size:=Nat.mul_le_mul_right _ hc
          rw [Nat.add_mul] at hmul
          have k4s:vs.length = (m + 1) * inf.size:=k4
          have hA:q.s + o + n * inf.size + vs.length ≤ c0.size:=by rw [k4s]; omega
          obtain ⟨w',r1,r2,r3,ot,cur',r4,r5⟩:=run_storeN (P:=P) (o:=q.s + o + n * inf.size) vs 0 c0 w e2 hfr.2 (by omega) (allCells_rel hall k3)
          have hcs:cur'.size = c0.size:=by
           have:=congrArg List.length r5
           simp at this
           omega
          have hle2:ν.le (ν.put nx ⟨q.b,q.s + o,q.n⟩):=Nu.le_put (X nx (Nat.le_refl _))
          have hor:orel η (ν.put nx ⟨q.b,q.s + o,q.n⟩) (.oc (old ++ new) mk) ⟨q.b,q.s + o,q.n⟩ (.cells cur' e0 fr):=by
           refine ⟨cur',e0,fr,rfl,hcs.trans hcz,by rw [hcs]; show q.s + o ≤ c0.size; omega,by rw [hcs]; exact hfr,vo' ++ vs,c0.toList.drop (q.s + o + n * inf.size + 0 + vs.length), ?_,vrels_mono hle2 _ _ (vrels_append o2' k3)⟩
           rw [r5]
           have hvo:(c0.toList.take (q.s + o + n * inf.size + 0)).drop (q.s + o) = vo':=by
            apply List.ext_getElem?
            intro j
            rw [List.getElem?_drop,List.getElem?_take]
            by_cases hj:j < n * inf.size
            ·rw [if_pos (by omega)]
             have hj2:j < vo'.length:=by omega
             have:=o4' j _ (List.getElem?_eq_getElem hj2)
             rw [cell_atE w _ _ c0 e0 fr e2] at this
             rw [List.getElem?_eq_getElem hj2,← this,Array.getElem?_toList]
            ·rw [if_neg (by omega),List.getElem?_eq_none (by omega)]
           rw [List.drop_append_of_le_length (by simp; omega),hvo,List.append_assoc]
          obtain ⟨m1,m2,m3⟩:=H.move (q':=⟨q.b,q.s + o,q.n⟩) (o' := .oc (old ++ new) mk) X hgb rfl rfl hq rfl r2 r4 r3 ot hor
          refine ⟨.slice (some ⟨q.b,q.s + o,none⟩) (n + (m + 1)) c,w',_, ?_, ?_,m1,m2,m3⟩
          ·rw [run_append_in hd hi h2 k1 k2 hc]
           simp only [addr_add]
           rw [r1]
           rfl
          ·rw [vrel]
           exact ⟨_,c,if_pos rfl,rfl,Nat.le_refl _,hc,(fun h=>by cases h),⟨by show q.s + o + 0 + c * inf.size ≤ q.n; omega,h5⟩⟩
         ·obtain ⟨hk1,hk2⟩:=H.kill hgb
          obtain ⟨cc,g1,g2,g3,rfl⟩:=grow_good hk1 X hz hzs o2 k3' o3 k4' hge hgm e mk
          exact ⟨_,_,_,outrun hc,g1,g2.1,g2.2,hk2.trans g3⟩
        ·cases hr
       ·cases hr
 ·cases hr
end Go.Proofs.YtoeeackjlclneaaGreatDoor
end
section
namespace Go.Proofs.YtoeeackjlclneaaGreatDoor
set_option linter.unusedVariables false
def repA (z:List AV):Nat → List AV
 | 0=>[]
 | n + 1=>z ++ repA z n
def repV (z:List Value):Nat → List Value
 | 0=>[]
 | n + 1=>z ++ repV z n
theorem repA_rel {η:En} {ν:Nu} {z:List AV} {v:List Value} (h:vrels η ν z v):∀ n,vrels η ν (repA z n) (repV v n)
 | 0=>vrels_nil.2 rfl
 | n + 1=>vrels_append h (repA_rel h n)
theorem repV_comm (z:List Value):∀ n,repV z n ++ z = z ++ repV z n
 | 0=>by simp [repV]
 | n + 1=>by rw [repV,List.append_assoc,repV_comm z n]
theorem rep_range (z:Array Value):∀ n,((List.range (n * z.size)).map fun i=>z[i % z.size]!) = repV z.toList n
 | 0=>by simp [repV]
 | n + 1=>by
  rw [Nat.add_mul,Nat.one_mul,List.range_add,List.map_append,rep_range z n,repV,← repV_comm]
  congr 1
  rw [List.map_map]
  apply List.ext_getElem?
  intro j
  by_cases hj:j < z.size
  ·rw [List.getElem?_map,List.getElem?_range hj]
   have hm:(n * z.size + j) % z.size = j:=by rw [Nat.mul_comm,Nat.mul_add_mod,Nat.mod_eq_of_lt hj]
   simp [hm,hj]
  ·rw [List.getElem?_eq_none (by simp; omega),List.getElem?_eq_none (by simp; omega)]
theorem made_toList (z:Array Value) (n:Nat):((Array.range (n * z.size)).map fun i=>z[i % z.size]!).toList = repV z.toList n:=by
 rw [← rep_range]; simp
noncomputable def zeroA (j:TI):Option (List AV):=match j.zero with
 | none=>none
 | some z=>match Nat.beq (lenA z 0) j.size with
  | true=>some z
  | false=>none
theorem zeroA_rel {P:Program} {e:TypeId} {j:TI} (kj:TIok P e j) {z:List AV} (h:zeroA j = some z):∃ inf zv,P.info? e = some inf ∧ inf.zero = some zv ∧ inf.size = j.size ∧ zv.cells.size = j.size ∧ ∀ (η:En) (ν:Nu),vrels η ν z zv.cells.toList:=by
 unfold zeroA at h
 split at h
 ·cases h
 ·rename_i z' hz
  split at h
  ·rename_i hb
   cases h
   obtain ⟨inf,h1,h2,h3⟩:=kj.info
   rw [hz] at h3
   cases hv:inf.zero with
   | none=>rw [hv] at h3; cases h3
   | some zv=>
    rw [hv] at h3
    have hr:=fun η ν=>concL_rel h3.symm η ν
    have hl:=vrels_length (hr ⟨fun _=>ByteArray.empty,fun _=>0,⟨#[],fun _ _=>0,0,default, #[]⟩⟩ fun _=>none)
    have hb:=Nat.eq_of_beq_eq_true hb
    rw [lenA_eq] at hb
    exact ⟨inf,zv,h1,hv,h2,by rw [← Array.length_toList]; omega,hr⟩
  ·cases h
theorem row_good {η:En} {ν:Nu} {h:Tr Ob} {w:World} {nx:Nat} (H:HR η ν h w) (X:Nx ν nx) {l:List AV} {cs:Array Value} (hl:vrels η ν l cs.toList) {len cap z:Nat} (hlen:len ≤ cap) (hmx:cap ≤ maxLen) (hc:cap * z = cs.size) (e:TypeId) :
  Good η ν h w (.ok (.slice (some ⟨w.heap.size,0,none⟩) len cap) (w.alloc (.cells cs e))) (.vsl nx 0 len cap true z) (h.set nx (.oc l false)) (nx + 1):=by
 have hle:ν.le (ν.put nx ⟨w.heap.size,0,cs.toList.length⟩):=Nu.le_put (X nx (Nat.le_refl _))
 have ho:=orel_row (vrels_mono hle _ _ hl) w.heap.size e
 rw [Array.toArray_toList] at ho
 obtain ⟨h1,h2,h3⟩:=H.new X (.cells cs e) (.oc l false) cs.toList.length ho
 refine ⟨_,_,_,rfl, ?_,h1,h2,h3⟩
 rw [vrel]
 exact ⟨_,cap,if_pos rfl,rfl,hlen,Nat.le_refl _,fun _=>rfl,⟨by show 0 + 0 + cap * z ≤ cs.toList.length; rw [Array.length_toList]; omega,hmx⟩⟩
noncomputable def opBuildSlice (j:TI) (n:Nat) (ps:List (Nat × AV)) (h:Tr Ob) (nx:Nat):Ro:=match zeroA j with
 | none => .er 10
 | some z=>match Nat.ble (n * j.size + n) 1000000 with
  | false => .er 11
  | true=>match fillA (fun k=>some (k * j.size,j.size)) (repA z n) ps with
   | some l => .ok (.vsl nx 0 n n true j.size) (h.set nx (.oc l false)) (nx + 1)
   | none => .er 12
theorem fill_size (pl:Nat → Option (Nat × Nat)):∀ (us:List (Nat × Value)) (cs cs':Array Value),Instr.fill pl cs us = some cs' → cs'.size = cs.size
 | [],cs,cs',h=>by cases h; rfl
 | (i,v) :: us,cs,cs',h=>by
  unfold Instr.fill at h
  split at h
  ·cases h
  ·rename_i off size hp
   split at h
   ·cases h
   ·rename_i hc
    rw [fill_size pl us _ _ h]
    have hfit:off + v.cells.size ≤ cs.size:=by simp at hc; omega
    have hz:=congrArg List.length (foldl_zip off v.cells cs hfit)
    rw [Array.length_toList] at hz
    refine hz.trans ?_
    simp
    omega
theorem opBuildSlice_rel {P:Program} {tt:Nat → Option TypeInfo} {ff:Nat → Option Func} (T:TabE P tt ff) {η:En} {ν:Nu} {h h':Tr Ob} {w:World} {nx nx':Nat} (H:HR η ν h w) (X:Nx ν nx) {t e:TypeId} (hd:P.underlying t = some (.slice e)) {j:TI} (kj:TIok P e j)
  {n:Nat} {ps:List (Nat × AV)} {us:List (Nat × Value)} (hp:partsR η ν ps us) {a:AV} (hr:opBuildSlice j n ps h nx = .ok a h' nx'):Good η ν h w ((Instr.buildSlice t n us.toArray).run P w) a h' nx':=by
 unfold opBuildSlice at hr
 split at hr
 ·cases hr
 ·rename_i z hz
  obtain ⟨inf,zv,i1,i2,i3,i4,i5⟩:=zeroA_rel kj hz
  split at hr
  ·cases hr
  ·rename_i hle
   have hle:=Nat.le_of_ble_eq_true hle
   split at hr
   ·rename_i l hl
    cases hr
    have hm:=made_toList zv.cells n
    rw [i4] at hm
    have hrep:vrels η ν (repA z n) ((Array.range (n * j.size)).map fun i=>zv.cells[i % j.size]!).toList:=by rw [hm]; exact repA_rel (i5 η ν) n
    obtain ⟨cs,f1,f2⟩:=fillA_rel hrep hp hl
    have hsz:=fill_size _ _ _ _ f1
    simp only [Array.size_map,Array.size_range] at hsz
    have g:=row_good H X f2 (len:=n) (cap:=n) (z:=j.size) (Nat.le_refl _) (by unfold maxLen; omega) hsz.symm e
    have hnot : ¬ (n * j.size > 2 ^ 24):=by omega
    have hrun:(Instr.buildSlice t n us.toArray).run P w = .ok (.slice (some ⟨w.heap.size,0,none⟩) n n) (w.alloc (.cells cs e)):=by
     unfold Instr.buildSlice
     simp only [Sem.run_bind,run_underlying hd,Result.andThen_ok,kj.sizeOf,hnot,if_false]
     by_cases h0:n * j.size = 0
     ·rw [if_pos h0]
      have e1:((Array.range (n * j.size)).map fun x=>(#[]:Array Value)[x % (#[]:Array Value).size]!) = (Array.range (n * j.size)).map fun i=>zv.cells[i % j.size]! := by simp [h0]
      simp only [Sem.run_bind,Sem.run_pure,Result.andThen_ok,e1,f1,run_newRow]
     ·rw [if_neg h0]
      simp only [Sem.run_bind,zeroValue,typeInfo,run_program,Result.andThen_ok,i1,Sem.run_pure,i2,i4,f1,run_newRow]
    rw [hrun]
    exact g
   ·cases hr
end Go.Proofs.YtoeeackjlclneaaGreatDoor
end
section
namespace Go.Proofs.YtoeeackjlclneaaGreatDoor
set_option linter.unusedVariables false
noncomputable def opMake2 (j:TI) (by_:Nat) (l c:AV) (h:Tr Ob) (nx:Nat):Ro:=match natA l with
 | none => .er 13
 | some l=>match natA c with
  | none => .er 14
  | some c=>match zeroA j with
   | none => .er 15
   | some z=>match Nat.ble l c with
    | false => .er 16
    | true=>match Nat.ble (by_ * c) 1000000000 with
     | false => .er 17
     | true=>match Nat.ble c 1000000000 with
      | false => .er 18
      | true => .ok (.vsl nx 0 l c true j.size) (h.set nx (.oc (repA z c) false)) (nx + 1)
theorem natA_int {η:En} {ν:Nu} {a:AV} {v:Value} (h:vrel η ν a v) {n:Nat} (hn:natA a = some n):∃ k,v = .int k (n:Int):=by
 unfold natA at hn
 split at hn
 ·cases hn
  rw [vrel] at h
  exact ⟨_,h⟩
 ·cases hn
  rw [vrel] at h
  exact ⟨_,h⟩
 ·cases hn
theorem opMake2_rel {P:Program} {η:En} {ν:Nu} {h h':Tr Ob} {w:World} {nx nx':Nat} (H:HR η ν h w) (X:Nx ν nx) {t e:TypeId} (hd:P.underlying t = some (.slice e)) {j:TI} (kj:TIok P e j) {inf:TypeInfo} (hinf:P.info? e = some inf)
  {l c a:AV} {u v:Value} (hu:vrel η ν l u) (hv:vrel η ν c v) (hr:opMake2 j inf.bytes l c h nx = .ok a h' nx'):Good η ν h w ((Instr.makeSlice t u v).run P w) a h' nx':=by
 unfold opMake2 at hr
 split at hr
 ·cases hr
 ·rename_i ln hln
  split at hr
  ·cases hr
  ·rename_i cn hcn
   split at hr
   ·cases hr
   ·rename_i z hz
    split at hr
    ·cases hr
    ·rename_i k1
     split at hr
     ·cases hr
     ·rename_i k2
      split at hr
      ·cases hr
      ·rename_i k3
       cases hr
       have k1:=Nat.le_of_ble_eq_true k1
       have k2:=Nat.le_of_ble_eq_true k2
       have k3:=Nat.le_of_ble_eq_true k3
       obtain ⟨kl,rfl⟩:=natA_int hu hln
       obtain ⟨kc,rfl⟩:=natA_int hv hcn
       obtain ⟨inf',zv,i1,i2,i3,i4,i5⟩:=zeroA_rel kj hz
       rw [hinf] at i1
       cases i1
       have hm:=made_toList zv.cells cn
       rw [i4] at hm
       have hrep:vrels η ν (repA z cn) ((Array.range (cn * j.size)).map fun i=>zv.cells[i % j.size]!).toList:=by rw [hm]; exact repA_rel (i5 η ν) cn
       have g:=row_good H X hrep (len:=ln) (cap:=cn) (z:=j.size) k1 (by unfold maxLen; omega) (by simp) e
       have w1:IntKind.i64.wrap (ln:Int) = (ln:Int):=wrap_pos _ _ (by omega) (by show (ln:Int) < ((9223372036854775808:Nat):Int); omega)
       have w2:IntKind.i64.wrap (cn:Int) = (cn:Int):=wrap_pos _ _ (by omega) (by show (cn:Int) < ((9223372036854775808:Nat):Int); omega)
       have t0:((inf.bytes * cn:Nat):Int) ≤ 1000000000:=by omega
       have t1:((inf.bytes:Int) * (cn:Int)) ≤ 1000000000:=by rw [← Int.natCast_mul]; exact t0
       have hrun:(Instr.makeSlice t (.int kl (ln:Int)) (.int kc (cn:Int))).run P w = .ok (.slice (some ⟨w.heap.size,0,none⟩) ln cn) (w.alloc (.cells ((Array.range (cn * j.size)).map fun i=>zv.cells[i % j.size]!) e)):=by
        have nb : ¬ ((cn:Int) < 0):=by omega
        have nb3 : ¬ ((ln:Int) < 0):=by omega
        have nb4 : ¬ ((cn:Int) < (ln:Int)):=by omega
        have nb2' : ¬ (281474976710656 < (inf.bytes:Int) * (cn:Int)):=by omega
        by_cases h0:cn * j.size = 0
        ·have e1:((Array.range (cn * j.size)).map fun x=>(#[]:Array Value)[x % (#[]:Array Value).size]!) = (Array.range (cn * j.size)).map fun i=>zv.cells[i % j.size]! := by simp [h0]
         rw [← e1]
         simp [Instr.makeSlice,run_underlying hd,asInt,asIntOf,typeInfo,hinf,w1,w2,nb,nb3,nb2',nb4,kj.sizeOf,h0,newRow]
        ·simp [Instr.makeSlice,run_underlying hd,asInt,asIntOf,typeInfo,hinf,w1,w2,nb,nb3,nb2',nb4,kj.sizeOf,h0,newRow,zeroValue,i2,i4]
       rw [hrun]
       exact g
noncomputable def cvInt (k:IntKind) (x:AV):Option AV:=match x with
 | .vi _ n=>some (.vi k (wrapA k n))
 | _=>none
theorem cvInt_rel {P:Program} {η:En} {ν:Nu} {w:World} {src dst:TypeId} {d:TypeDesc} {k:IntKind} (h1:P.underlying src = some d) (h2:P.underlying dst = some (.int k)) {x a:AV} {u:Value} (hu:vrel η ν x u) (hr:cvInt k x = some a) :
  ∃ v,(convert src dst u).run P w = .ok v w ∧ vrel η ν a v:=by
 unfold cvInt at hr
 split at hr <;> cases hr
 rename_i k0 n
 rw [vrel] at hu
 subst hu
 refine ⟨.int k (k.wrap n), ?_,by rw [vrel,wrapA_eq]⟩
 simp only [convert,Sem.run_bind,run_underlying h1,run_underlying h2,Result.andThen_ok]
 cases d <;> rfl
def natsA:List AV → Option (List Nat)
 | []=>some []
 | .vi .u8 (.ofNat m) :: l=>match Nat.blt m 256 with
  | true=>match natsA l with
   | some r=>some (m :: r)
   | none=>none
  | false=>none
 | _ :: _=>none
theorem natsA_rel {η:En} {ν:Nu}:∀ {l:List AV} {vs:List Value} {r:List Nat},vrels η ν l vs → natsA l = some r → vs = (r.map fun m:Nat=>(m:Int)).map (Value.int .u8) ∧ ∀ n ∈ r,n < 256
 | [],vs,r,h,e=>by
  rw [vrels] at h; subst h
  cases e; exact ⟨rfl,fun n hn=>by cases hn⟩
 | x :: l,vs,r,h,e=>by
  rw [vrels] at h
  obtain ⟨v,us,rfl,h1,h2⟩:=h
  unfold natsA at e
  split at e <;> first | (cases e; done) | skip
  ·rename_i h3; cases h3
  ·rename_i m l' h3
   obtain ⟨rfl,rfl⟩:=List.cons.inj h3
   split at e
   ·rename_i hm
    split at e
    ·rename_i r' hr
     cases e
     obtain ⟨h4,h5⟩:=natsA_rel h2 hr
     rw [vrel] at h1
     refine ⟨by rw [h1,h4]; rfl,fun n hn => ?_⟩
     rcases List.mem_cons.1 hn with rfl | hn
     ·exact blt_lt hm
     ·exact h5 n hn
    ·cases e
   ·cases e
theorem foldl_push:∀ (r:List Nat) (s:List UInt8),(r.map fun m:Nat=>(m:Int)).foldl (fun b n=>b.push (UInt8.ofNat n.toNat)) (ByteArray.mk s.toArray) = ByteArray.mk (s ++ r.map UInt8.ofNat).toArray
 | [],s=>by simp
 | m :: r,s=>by
  simp only [List.map_cons,List.foldl_cons]
  have:(ByteArray.mk s.toArray).push (UInt8.ofNat ((m:Int)).toNat) = ByteArray.mk (s ++ [UInt8.ofNat m]).toArray:=by
   show ByteArray.mk (s.toArray.push _) = _
   congr 1
   simp
  rw [this,foldl_push r]
  simp
noncomputable def cvStr (h:Tr Ob) (x:AV):Option AV:=match x with
 | .vs l=>some (.vs l)
 | .vsn=>some (.vs [])
 | .vse=>some (.vs [])
 | .vsl b o n _ _ _=>match readN h b o n with
  | none=>none
  | some l=>match natsA l with
   | some r=>some (.vs r)
   | none=>none
 | _=>none
theorem cvStr_rel {P:Program} {η:En} {ν:Nu} {h:Tr Ob} {w:World} (H:HR η ν h w) {x a:AV} {u:Value} (hu:vrel η ν x u) (hns:∀ l,x ≠ .vs l) (hr:cvStr h x = some a) :
  (∃ p n c,u = .slice p n c) ∧ ∃ v,(Conv.bytesToString u).run P w = .ok v w ∧ vrel η ν a v:=by
 have he:vrel η ν (.vs []) (.string .empty):=by
  rw [vrel]
  exact ⟨rfl,fun n hn=>by cases hn⟩
 unfold cvStr at hr
 split at hr
 ·exact absurd rfl (hns _)
 ·cases hr
  rw [vrel] at hu; subst hu
  exact ⟨⟨_,_,_,rfl⟩,_,rfl,he⟩
 ·cases hr
  rw [vrel] at hu; obtain ⟨p,c,rfl⟩:=hu
  refine ⟨⟨_,_,_,rfl⟩,_, ?_,he⟩
  have:=run_bytesToString (P:=P) w p 0 c [] (by simp [loadCells,loadCellsFrom])
  simpa using this
 ·rename_i b o n cap ex z
  split at hr
  ·cases hr
  ·rename_i l hl
   split at hr
   ·rename_i r hr2
    cases hr
    rw [vrel] at hu; obtain ⟨q,c,hq,rfl, -⟩:=hu
    obtain ⟨h1,vs,h2,h3⟩:=readN_rel H hq hl
    obtain ⟨rfl,h5⟩:=natsA_rel h2 hr2
    have h6:=run_loadN (P:=P) h3
    rw [← vrels_length h2,h1] at h6
    have h7:=run_bytesToString (P:=P) w _ n c _ h6
    have h8:=foldl_push r []
    refine ⟨⟨_,_,_,rfl⟩,.string (bytesOfN r), ?_,by rw [vrel]; exact ⟨rfl,h5⟩⟩
    rw [h7]
    congr 2
   ·cases hr
 ·cases hr
end Go.Proofs.YtoeeackjlclneaaGreatDoor
end
section
namespace Go.Proofs.YtoeeackjlclneaaGreatDoor
set_option linter.unusedVariables false
theorem freeze_heap (w:World) (c:Array Value) (e:TypeId) (k:Nat):((w.alloc (.cells c e)).freeze ⟨w.heap.size,k,none⟩ 1).heap = (w.alloc (.cells c e (k,k + 1))).heap:=by
 have key:∀ f:Obj → Obj,f (.cells c e) = .cells c e (k,k + 1) → (w.alloc (.cells c e)).heap.modify w.heap.size f = (w.alloc (.cells c e (k,k + 1))).heap:=fun f hf=>by
  apply Array.ext_getElem?
  intro i
  rw [Array.getElem?_modify]
  by_cases hi:w.heap.size = i
  ·subst hi
   rw [if_pos rfl,heap_alloc_new,heap_alloc_new,Option.map_some,hf]
  ·rw [if_neg hi]
   by_cases hl:i < w.heap.size
   ·rw [heap_alloc_old w _ hl,heap_alloc_old w _ hl]
   ·rw [Array.getElem?_eq_none (by simp; omega),Array.getElem?_eq_none (by simp; omega)]
 unfold World.freeze
 rw [if_neg (by decide)]
 exact key (fun | .cells c elem (lo,hi) => .cells c elem (if lo == hi then (k,k + 1) else (min lo k,max hi (k + 1))) | o=>o) (by simp)
noncomputable def cvBytes (l:List Nat) (h:Tr Ob) (nx:Nat):Ro:=match Nat.ble (lenN l 0) 1000000000 with
 | true => .ok (.vsl nx 0 (lenN l 0) (lenN l 0) false 1) (h.set nx (.oc (bytesA l) true)) (nx + 1)
 | false => .er 110
theorem cvBytes_rel {P:Program} {η:En} {ν:Nu} {h h':Tr Ob} {w:World} {nx nx':Nat} (H:HR η ν h w) (X:Nx ν nx) (e:TypeId) {l:List Nat} (hl:∀ n ∈ l,n < 256) {a:AV} (hr:cvBytes l h nx = .ok a h' nx') :
  Good η ν h w ((Conv.stringToBytes e (bytesOfN l)).run P w) a h' nx':=by
 unfold cvBytes at hr
 split at hr
 ·rename_i hle
  cases hr
  have hle:=Nat.le_of_ble_eq_true hle
  rw [lenN_eq] at hle ⊢
  have hsz:(bytesOfN l).size = l.length:=by simp [bytesOfN,ByteArray.size]
  have hge:=grownCap_ge2 w 0 e (need:=l.length) (by omega)
  let vs:List Value:=(l.map UInt8.ofNat).map fun b => .int .u8 b.toNat
  have hvs:vs.length = l.length:=by simp [vs]
  let c:Array Value:=vs.toArray ++ Array.replicate (grownCap w l.length 0 e - l.length) (.int .u8 0)
  have hc:c.size = grownCap w l.length 0 e:=by simp [c,hvs]; omega
  have hrun:(Conv.stringToBytes e (bytesOfN l)).run P w = .ok (.slice (some ⟨w.heap.size,0,none⟩) l.length (grownCap w l.length 0 e)) ((w.drew.alloc (.cells c e)).freeze ⟨w.heap.size,c.size,none⟩ 1):=by
   have e1:((bytesOfN l).data.map fun b=>Value.int .u8 b.toNat) = vs.toArray:=by simp [bytesOfN,vs]
   have e2:(World.shape? (w.drew.alloc (.cells c e)) w.heap.size) = some (e,c.size):=by
    have:=heap_alloc_new w.drew (.cells c e)
    simp only [World.shape?]
    have h0:w.drew.heap.size = w.heap.size:=rfl
    rw [h0] at this
    rw [this]
   unfold Conv.stringToBytes
   simp only [Sem.run_bind,run_choose,hsz,Question.forced,Bool.false_eq_true,if_false,Result.andThen_ok,World.drew_eq,e1]
   have e3:(newRow e (vs.toArray ++ Array.replicate ((Question.appendCap l.length 0 e).cut (w.tape w.drawn (Question.appendCap l.length 0 e)) - l.length) (Value.int .u8 0))).run P w.drew = .ok ⟨w.heap.size,0,none⟩ (w.drew.alloc (.cells c e)):=rfl
   simp only [e3,Result.andThen_ok,markStringish,Sem.run_bind,run_shape,e2,run_freeze,Sem.run_pure]
   rfl
  rw [hrun]
  have hor:∀ ν',ν.le ν' → orel η ν' (.oc (bytesA l) true) ⟨w.heap.size,0,c.size⟩ (.cells c e (c.size,c.size + 1)):=fun ν' hle=>by
   refine ⟨c,e,_,rfl,rfl,Nat.zero_le _,⟨(fun h=>by cases h),Or.inr (Nat.le_refl _)⟩,vs,List.replicate (grownCap w l.length 0 e - l.length) (.int .u8 0),by simp [c],bytesA_rel hl⟩
  have hle2:ν.le (ν.put nx ⟨w.heap.size,0,c.size⟩):=Nu.le_put (X nx (Nat.le_refl _))
  obtain ⟨g1,g2,g3⟩:=(H.heap (w':=w.drew) rfl).new X (.cells c e (c.size,c.size + 1)) (.oc (bytesA l) true) c.size (hor _ hle2)
  have hh:((w.drew.alloc (.cells c e)).freeze ⟨w.heap.size,c.size,none⟩ 1).heap = (w.drew.alloc (.cells c e (c.size,c.size + 1))).heap:=freeze_heap w.drew c e c.size
  refine ⟨_,_,_,rfl, ?_,g1.heap hh,g2, ?_⟩
  ·rw [vrel]
   exact ⟨_,_,if_pos rfl,rfl,Nat.le_refl _,hge,(fun h=>by cases h),⟨by show 0 + 0 + grownCap w l.length 0 e * 1 ≤ c.size; omega,grownCap_le2 w 0 e (by omega)⟩⟩
  ·have g4:=g3.heap (w:=w) rfl ⟨rfl,rfl,rfl⟩
   refine ⟨g4.le, ?_,fun B hB hn => ?_,g4.img,Oth.trans g4.oth ⟨rfl,rfl,rfl⟩⟩
   ·rw [hh]; exact g4.size
   ·rw [hh]; exact g4.keep B hB hn
 ·cases hr
end Go.Proofs.YtoeeackjlclneaaGreatDoor
end
section
namespace Go.Proofs.YtoeeackjlclneaaGreatDoor
set_option linter.unusedVariables false
noncomputable def opClear (j:TI) (x:AV) (h:Tr Ob) (nx:Nat):Ro:=match x with
 | .vsn => .ok (.vtp []) h nx
 | .vse => .ok (.vtp []) h nx
 | .vsl b o n _ _ z=>match n with
  | 0 => .ok (.vtp []) h nx
  | _ + 1=>match Nat.beq z j.size with
   | false => .er 120
   | true=>match zeroA j with
    | none => .er 121
    | some zl=>match writeN h b o (repA zl n) with
     | some h => .ok (.vtp []) h nx
     | none => .er 122
 | _ => .er 123
theorem opClear_rel {P:Program} {η:En} {ν:Nu} {h h':Tr Ob} {w:World} {nx nx':Nat} (H:HR η ν h w) (X:Nx ν nx) {t e ty:TypeId} (hd:P.underlying t = some (.slice e)) {j:TI} (kj:TIok P e j) {x a:AV} {u:Value} (hu:vrel η ν x u)
  (hr:opClear j x h nx = .ok a h' nx'):Good η ν h w ((Builtin.clear_ #[t] ty #[u]).run P w) a h' nx':=by
 have tp:vrel η ν (.vtp []) (.tuple #[]):=by rw [vrel]; exact ⟨[],rfl,vrels_nil.2 rfl⟩
 unfold opClear at hr
 split at hr
 ·cases hr
  rw [vrel] at hu; subst hu
  exact Good.same H X tp (by simp [Builtin.clear_,run_underlying hd])
 ·cases hr
  rw [vrel] at hu; obtain ⟨p,c,rfl⟩:=hu
  exact Good.same H X tp (by simp [Builtin.clear_,run_underlying hd])
 ·rename_i b o n cap ex z
  rw [vrel] at hu; obtain ⟨q,c,hq,rfl, -⟩:=hu
  split at hr
  ·cases hr
   exact Good.same H X tp (by simp [Builtin.clear_,run_underlying hd])
  ·rename_i m
   split at hr
   ·cases hr
   ·rename_i hz
    have hz:=Nat.eq_of_beq_eq_true hz
    split at hr
    ·cases hr
    ·rename_i zl hzl
     split at hr
     ·rename_i h1 hw
      cases hr
      obtain ⟨inf,zv,i1,i2,i3,i4,i5⟩:=zeroA_rel kj hzl
      obtain ⟨w',w1,w2,w3⟩:=writeN_rel (P:=P) H hq (repA_rel (i5 η ν) (m + 1)) hw
      refine ⟨.tuple #[],w',ν, ?_,tp,w2,X,w3⟩
      have hzc:(Builtin.zeroCells zv.cells (m + 1)).toList = repV zv.cells.toList (m + 1):=made_toList zv.cells (m + 1)
      have hzr:(zeroValue e).run P w = .ok zv w:=by simp [zeroValue,typeInfo,i1,i2]
      unfold Builtin.clear_
      simp [run_underlying hd,hzr,hzc,w1]
     ·cases hr
 ·cases hr
noncomputable def lenS (x:AV):Option Nat:=match x with
 | .vsn=>some 0
 | .vse=>some 0
 | .vsl _ _ n _ _ _=>some n
 | _=>none
noncomputable def firstA (h:Tr Ob) (z k:Nat) (x:AV):Option (List AV):=match k with
 | 0=>some []
 | _ + 1=>match x with
  | .vsl b o _ _ _ _=>readN h b o (k * z)
  | _=>none
noncomputable def opCopy (j:TI) (d x:AV) (h:Tr Ob) (nx:Nat):Ro:=match lenS d with
 | none => .er 130
 | some n=>match lenS x with
  | none => .er 131
  | some m=>match firstA h j.size (Nat.min m n) x with
   | none => .er 132
   | some l=>match l with
    | [] => .ok (.vi .i64 (.ofNat (Nat.min m n))) h nx
    | _ :: _=>match d with
     | .vsl b o _ _ _ z=>match Nat.beq z j.size with
      | true=>match writeN h b o l with
       | some h => .ok (.vi .i64 (.ofNat (Nat.min m n))) h nx
       | none => .er 133
      | false => .er 134
     | _ => .er 135
theorem lenS_rel {P:Program} {η:En} {ν:Nu} {w:World} {x:AV} {u:Value} (hu:vrel η ν x u) {n:Nat} (h:lenS x = some n):∃ a c,u = .slice a n c ∧ (Builtin.lenOf u).run P w = .ok n w:=by
 unfold lenS at h
 split at h <;> cases h
 ·rw [vrel] at hu; subst hu; exact ⟨_,_,rfl,rfl⟩
 ·rw [vrel] at hu; obtain ⟨a,c,rfl⟩:=hu; exact ⟨_,_,rfl,rfl⟩
 ·rw [vrel] at hu; obtain ⟨q,c, -,rfl, -⟩:=hu; exact ⟨_,_,rfl,rfl⟩
theorem firstA_rel {P:Program} {η:En} {ν:Nu} {h:Tr Ob} {w:World} (H:HR η ν h w) {x:AV} {u:Value} (hu:vrel η ν x u) {z k:Nat} {l:List AV} {a:Option Addr} {n c:Nat} (hs:u = .slice a n c) (hr:firstA h z k x = some l) :
  ∃ vs,(Builtin.firstCells z k u).run P w = .ok vs.toArray w ∧ vrels η ν l vs:=by
 unfold firstA at hr
 split at hr
 ·cases hr
  subst hs
  refine ⟨[], ?_,vrels_nil.2 rfl⟩
  cases a <;> simp [Builtin.firstCells,loadCells,loadCellsFrom]
 ·split at hr
  ·rename_i m b o n' cap ex z'
   rw [vrel] at hu; obtain ⟨q,c',hq,rfl, -⟩:=hu
   obtain ⟨h1,vs,h2,h3⟩:=readN_rel H hq hr
   have h4:=run_loadN (P:=P) h3
   rw [← vrels_length h2,h1] at h4
   exact ⟨vs,by simpa [Builtin.firstCells] using h4,h2⟩
  ·cases hr
theorem opCopy_rel {P:Program} {η:En} {ν:Nu} {h h':Tr Ob} {w:World} {nx nx':Nat} (H:HR η ν h w) (X:Nx ν nx) {t t2 e ty:TypeId} (hd:P.underlying t = some (.slice e)) {j:TI} (kj:TIok P e j) {d x a:AV} {u v:Value} (hu:vrel η ν d u) (hv:vrel η ν x v)
  (hr:opCopy j d x h nx = .ok a h' nx'):Good η ν h w ((Builtin.copy_ #[t,t2] ty #[u,v]).run P w) a h' nx':=by
 unfold opCopy at hr
 split at hr
 ·cases hr
 ·rename_i n hn
  split at hr
  ·cases hr
  ·rename_i m hm
   split at hr
   ·cases hr
   ·rename_i l hl
    obtain ⟨a1,c1,e1, -⟩:=lenS_rel (P:=P) (w:=w) hu hn
    obtain ⟨a2,c2,e2,h2⟩:=lenS_rel (P:=P) (w:=w) hv hm
    obtain ⟨vs,f1,f2⟩:=firstA_rel (P:=P) H hv e2 hl
    have ri:∀ k:Nat,vrel η ν (.vi .i64 (.ofNat k)) (goInt (k:Int)):=fun k=>by rw [vrel]; rfl
    split at hr
    ·cases hr
     rw [vrels] at f2
     subst f2
     refine Good.same H X (ri _) ?_
     subst e1
     unfold Builtin.copy_
     cases a1 <;> simp [run_underlying hd,h2,kj.sizeOf,f1,storeCells]
    ·split at hr
     ·rename_i b o n' cap ex z
      split at hr
      ·rename_i hz
       split at hr
       ·rename_i h1 hw
        cases hr
        rw [vrel] at hu
        obtain ⟨q,c,hq,hu, -⟩:=hu
        rw [hu] at e1
        cases e1
        obtain ⟨w',w1,w2,w3⟩:=writeN_rel (P:=P) H hq f2 hw
        refine ⟨_,w',ν, ?_,ri _,w2,X,w3⟩
        rw [hu]
        unfold Builtin.copy_
        simp [run_underlying hd,h2,kj.sizeOf,f1,w1]
       ·cases hr
      ·cases hr
     ·cases hr
noncomputable def opMark (x:AV) (h:Tr Ob) (nx:Nat):Ro:=match x with
 | .vsl b o n cap ex z=>match h.get b with
  | some (.oc l _) => .ok (.vsl b o n cap ex z) (h.set b (.oc l true)) nx
  | _ => .er 140
 | _ => .er 141
theorem opMark_rel {P:Program} {η:En} {ν:Nu} {h h':Tr Ob} {w:World} {nx nx':Nat} (H:HR η ν h w) (X:Nx ν nx) {t e:TypeId} (hd:P.underlying t = some (.slice e)) (he:P.underlying e = some (.int .u8)) {x a:AV} {u:Value} (hu:vrel η ν x u)
  (hr:opMark x h nx = .ok a h' nx'):Good η ν h w ((convert t t u).run P w) a h' nx':=by
 unfold opMark at hr
 split at hr
 ·rename_i b o n cap ex z
  split at hr
  ·rename_i l mk hg
   cases hr
   have hu0:=hu
   rw [vrel] at hu; obtain ⟨q,c,hq,rfl, -⟩:=hu
   obtain ⟨ob,e2,c0,e0,fr,rfl,hcz,hsz,hfr,vs,rest,h3,h4⟩:=H.get hg hq
   have key:∃ fr',((w.freeze ⟨q.b,c0.size,none⟩ 1).heap[q.b]? = some (.cells c0 e0 fr')) ∧ frOK fr' c0.size true:=by
    obtain ⟨lo,hi⟩:=fr
    refine ⟨if lo == hi then (c0.size,c0.size + 1) else (min lo c0.size,max hi (c0.size + 1)), ?_,(fun h=>by cases h),Or.inr ?_⟩
    ·unfold World.freeze
     rw [if_neg (by decide)]
     simp [Array.getElem?_modify,e2]
    ·split
     ·exact Nat.le_refl _
     ·rename_i hne
      rcases hfr.2 with h5 | h5
      ·exact absurd (by simpa using h5) hne
      ·show c0.size ≤ min lo c0.size
       simp only at h5
       omega
   obtain ⟨fr',k1,k2⟩:=key
   have hO:∀ C,C ≠ q.b → (w.freeze ⟨q.b,c0.size,none⟩ 1).heap[C]? = w.heap[C]? := fun C hC=>by
    unfold World.freeze
    rw [if_neg (by decide)]
    simp [Array.getElem?_modify,Ne.symm hC]
   have hS:(w.freeze ⟨q.b,c0.size,none⟩ 1).heap.size = w.heap.size:=by
    unfold World.freeze
    rw [if_neg (by decide)]
    simp
   obtain ⟨g1,g2⟩:=H.upd (o' := .oc l true) hg rfl rfl hq hS k1 hO ⟨rfl,rfl,rfl⟩ ⟨c0,e0,fr',rfl,hcz,hsz,k2,vs,rest,h3,h4⟩
   refine ⟨_,_,ν, ?_,hu0,g1,X,g2⟩
   have hsh:w.shape? q.b = some (e0,c0.size):=by simp [World.shape?,e2]
   have hm:(markStringish ⟨q.b,q.s + o,none⟩).run P w = .ok () (w.freeze ⟨q.b,c0.size,none⟩ 1):=by
    simp only [markStringish,Sem.run_bind,run_shape,hsh,Result.andThen_ok,run_freeze]
   simp [convert,run_underlying hd,run_underlying he,hm]
  ·cases hr
 ·cases hr
end Go.Proofs.YtoeeackjlclneaaGreatDoor
end
section
namespace Go.Proofs.YtoeeackjlclneaaGreatDoor
set_option linter.unusedVariables false
abbrev Bd:=Nat → Option (Nat × Nat)
def txtN:List Nat → Nat → Nat
 | [],b=>b
 | a :: l,b=>txtN l (256 * b + a)
def eqIx (i:Nat) (l:List Nat):Nat:=65536 + 16 * txtN l 1 + i
def byteIx (i j:Nat):Nat:=1024 + (64 * i + j)
def sufIx (j:Nat):Nat:=2048 + j
structure BdOk (η:En) (bd:Bd):Prop where
 le:∀ i lo hi,bd i = some (lo,hi) → (lo:Int) ≤ η.num i ∧ η.num i ≤ (hi:Int)
 size:∀ i,i < 16 → η.num i = (η.str i).size
 ne:∀ i l r,i < 16 → (∀ n ∈ l,n < 256) → bd (eqIx i l) = some r → η.str i ≠ bytesOfN l
 byte:∀ i j r,i < 16 → j < 64 → bd (byteIx i j) = some r → ∃ c:UInt8,(η.str i)[j]? = some c ∧ η.num (byteIx i j) = (c.toNat:Int)
 suf:∀ j k n,j < 16 → k < 16 → bd (sufIx j) = some (k,n) → n + (η.str j).size = (η.str k).size ∧ (η.str k).extract n (η.str k).size = η.str j
def addX (i:Nat) (a:Int):List (Nat × Int) → List (Nat × Int)
 | []=>match eqI a 0 with
  | true=>[]
  | false=>[(i,a)]
 | (j,b) :: r=>match Nat.beq i j with
  | true=>match eqI (a + b) 0 with
   | true=>r
   | false=>(j,a + b) :: r
  | false=>(j,b) :: addX i a r
theorem eqI_t {a b:Int} (h:eqI a b = true):a = b:=by rw [eqI_eq] at h; exact of_decide_eq_true h
theorem addX_val (η:En) (i:Nat) (a:Int):∀ l,sumX η (addX i a l) = a * η.num i + sumX η l
 | []=>by
  unfold addX
  split
  ·rename_i h; rw [eqI_t h]; simp [sumX]
  ·rfl
 | (j,b) :: r=>by
  unfold addX
  split
  ·rename_i h
   have:=Nat.eq_of_beq_eq_true h
   subst this
   split
   ·rename_i h2
    have h3:=eqI_t h2
    show _ = a * η.num i + (b * η.num i + sumX η r)
    have h4:a * η.num i + (b * η.num i + sumX η r) = (a + b) * η.num i + sumX η r:=by rw [Int.add_mul]; omega
    rw [h4,h3]; simp
   ·show (a + b) * η.num i + sumX η r = a * η.num i + (b * η.num i + sumX η r)
    rw [Int.add_mul]; omega
  ·show b * η.num j + sumX η (addX i a r) = a * η.num i + (b * η.num j + sumX η r)
   rw [addX_val η i a r]; omega
def addXL:List (Nat × Int) → List (Nat × Int) → List (Nat × Int)
 | [],m=>m
 | (i,a) :: r,m=>addXL r (addX i a m)
theorem addXL_val (η:En):∀ l m,sumX η (addXL l m) = sumX η l + sumX η m
 | [],m=>by show sumX η m = 0 + sumX η m; omega
 | (i,a) :: r,m=>by
  show sumX η (addXL r (addX i a m)) = a * η.num i + sumX η r + sumX η m
  rw [addXL_val η r,addX_val]; omega
def mulXL (k:Int):List (Nat × Int) → List (Nat × Int)
 | []=>[]
 | (i,a) :: r=>(i,k * a) :: mulXL k r
theorem mulXL_val (η:En) (k:Int):∀ l,sumX η (mulXL k l) = k * sumX η l
 | []=>by simp [mulXL,sumX]
 | (i,a) :: r=>by
  show k * a * η.num i + sumX η (mulXL k r) = k * (a * η.num i + sumX η r)
  rw [mulXL_val η k r,Int.mul_add,Int.mul_assoc]
def Lf.add (f e:Lf):Lf:=⟨f.c + e.c,addXL f.l e.l⟩
def Lf.neg (f:Lf):Lf:=⟨-f.c,mulXL (-1) f.l⟩
def Lf.sub (f e:Lf):Lf:=f.add e.neg
def Lf.of (n:Int):Lf:=⟨n,[]⟩
def Lf.scale (k:Int) (f:Lf):Lf:=⟨k * f.c,mulXL k f.l⟩
theorem Lf.scale_val (η:En) (k:Int) (f:Lf):(f.scale k).val η = k * f.val η:=by
 unfold Lf.val Lf.scale; simp only [mulXL_val,Int.mul_add]
theorem Lf.add_val (η:En) (f e:Lf):(f.add e).val η = f.val η + e.val η:=by
 unfold Lf.val Lf.add; simp only [addXL_val]; omega
theorem Lf.neg_val (η:En) (f:Lf):f.neg.val η = -f.val η:=by
 unfold Lf.val Lf.neg; simp only [mulXL_val]; omega
theorem Lf.sub_val (η:En) (f e:Lf):(f.sub e).val η = f.val η - e.val η:=by
 unfold Lf.sub; rw [Lf.add_val,Lf.neg_val]; omega
theorem Lf.of_val (η:En) (n:Int):(Lf.of n).val η = n:=Int.add_zero n
def isNeg:Int → Bool
 | .ofNat _=>false
 | .negSucc _=>true
theorem isNeg_t {a:Int} (h:isNeg a = true):a < 0:=by cases a with | ofNat n=>cases h | negSucc n=>exact Int.negSucc_lt_zero n
theorem isNeg_f {a:Int} (h:isNeg a = false):0 ≤ a:=by cases a with | ofNat n=>exact Int.natCast_nonneg n | negSucc n=>cases h
def loX (bd:Bd):List (Nat × Int) → Option Int
 | []=>some 0
 | (i,a) :: r=>match bd i with
  | none=>none
  | some (lo,hi)=>match loX bd r with
   | none=>none
   | some m=>match isNeg a with
    | true=>some (a * hi + m)
    | false=>some (a * lo + m)
theorem loX_le {η:En} {bd:Bd} (B:BdOk η bd):∀ {l:List (Nat × Int)} {m:Int},loX bd l = some m → m ≤ sumX η l
 | [],m,h=>by cases h; exact Int.le_refl _
 | (i,a) :: r,m,h=>by
  unfold loX at h
  split at h
  ·cases h
  ·rename_i lo hi hb
   split at h
   ·cases h
   ·rename_i m' hm
    have ih:=loX_le B hm
    obtain ⟨h1,h2⟩:=B.le i lo hi hb
    show m ≤ a * η.num i + sumX η r
    split at h <;> cases h
    ·rename_i hn
     have h3:=isNeg_t hn
     have:a * (hi:Int) ≤ a * η.num i:=Int.mul_le_mul_of_nonpos_left (by omega) h2
     omega
    ·rename_i hn
     have h3:=isNeg_f hn
     have:a * (lo:Int) ≤ a * η.num i:=Int.mul_le_mul_of_nonneg_left h1 h3
     omega
def Lf.lo (bd:Bd) (f:Lf):Option Int:=match loX bd f.l with
 | some m=>some (f.c + m)
 | none=>none
def Lf.hi (bd:Bd) (f:Lf):Option Int:=match f.neg.lo bd with
 | some m=>some (-m)
 | none=>none
theorem Lf.lo_le {η:En} {bd:Bd} (B:BdOk η bd) {f:Lf} {m:Int} (h:f.lo bd = some m):m ≤ f.val η:=by
 unfold Lf.lo at h
 split at h
 ·rename_i m' hm
  cases h
  have:=loX_le B hm
  unfold Lf.val; omega
 ·cases h
theorem Lf.hi_ge {η:En} {bd:Bd} (B:BdOk η bd) {f:Lf} {m:Int} (h:f.hi bd = some m):f.val η ≤ m:=by
 unfold Lf.hi at h
 split at h
 ·rename_i m' hm
  cases h
  have:=Lf.lo_le B hm
  rw [Lf.neg_val] at this
  omega
 ·cases h
def Lf.pos (bd:Bd) (f:Lf):Option Bool:=match f.lo bd with
 | none=>none
 | some m=>match ltI 0 m with
  | true=>some true
  | false=>match f.hi bd with
   | none=>none
   | some m=>match ltI 0 m with
    | true=>none
    | false=>some false
theorem Lf.pos_eq {η:En} {bd:Bd} (B:BdOk η bd) {f:Lf} {b:Bool} (h:f.pos bd = some b):decide (0 < f.val η) = b:=by
 unfold Lf.pos at h
 split at h
 ·cases h
 ·rename_i m hm
  have h1:=Lf.lo_le B hm
  split at h
  ·rename_i hl
   cases h
   rw [ltI_eq] at hl
   have:=of_decide_eq_true hl
   exact decide_eq_true (by omega)
  ·split at h
   ·cases h
   ·rename_i m2 hm2
    have h2:=Lf.hi_ge B hm2
    split at h
    ·cases h
    ·rename_i hl
     cases h
     rw [ltI_eq] at hl
     have:=of_decide_eq_false hl
     exact decide_eq_false (by omega)
def Lf.lt (bd:Bd) (f e:Lf):Option Bool:=(e.sub f).pos bd
theorem Lf.lt_eq {η:En} {bd:Bd} (B:BdOk η bd) {f e:Lf} {b:Bool} (h:f.lt bd e = some b):decide (f.val η < e.val η) = b:=by
 have:=Lf.pos_eq B h
 rw [Lf.sub_val] at this
 rw [← this]
 by_cases h1:f.val η < e.val η
 ·rw [decide_eq_true h1,decide_eq_true (by omega)]
 ·rw [decide_eq_false h1,decide_eq_false (by omega)]
def isNilX:List (Nat × Int) → Bool
 | []=>true
 | _ :: _=>false
def eqO (x y:Option Bool):Option Bool:=match x with
 | some true=>some false
 | some false=>match y with
  | some true=>some false
  | some false=>some true
  | none=>none
 | none=>match y with
  | some true=>some false
  | _=>none
def Lf.eq (bd:Bd) (f e:Lf):Option Bool:=match isNilX (f.sub e).l with
 | true=>some (eqI (f.sub e).c 0)
 | false=>eqO (f.lt bd e) (e.lt bd f)
theorem Lf.eq_eq {η:En} {bd:Bd} (B:BdOk η bd) {f e:Lf} {b:Bool} (h:f.eq bd e = some b):decide (f.val η = e.val η) = b:=by
 unfold Lf.eq at h
 split at h
 ·rename_i hn
  cases h
  have h1:=Lf.sub_val η f e
  have h2:(f.sub e).val η = (f.sub e).c:=by
   unfold Lf.val
   cases hl:(f.sub e).l with
   | nil=>simp [sumX]
   | cons x r=>rw [hl] at hn; cases hn
  rw [eqI_eq]
  by_cases h3:f.val η = e.val η
  ·rw [decide_eq_true h3,decide_eq_true (by omega)]
  ·rw [decide_eq_false h3,decide_eq_false (by omega)]
 ·unfold eqO at h
  split at h
  ·rename_i hl
   cases h
   have:=of_decide_eq_true (Lf.lt_eq B hl)
   exact decide_eq_false (by omega)
  ·rename_i hl
   have h1:=of_decide_eq_false (Lf.lt_eq B hl)
   split at h
   ·rename_i hl
    cases h
    have:=of_decide_eq_true (Lf.lt_eq B hl)
    exact decide_eq_false (by omega)
   ·rename_i hl
    cases h
    have h2:=of_decide_eq_false (Lf.lt_eq B hl)
    exact decide_eq_true (by omega)
   ·cases h
  ·split at h
   ·rename_i hl
    cases h
    have:=of_decide_eq_true (Lf.lt_eq B hl)
    exact decide_eq_false (by omega)
   ·cases h
end Go.Proofs.YtoeeackjlclneaaGreatDoor
end
section
namespace Go.Proofs.YtoeeackjlclneaaGreatDoor
set_option linter.unusedVariables false
def asLf (a:AV):Option (IntKind × Lf):=match a with
 | .vn n=>some (.i64,Lf.of n)
 | .vi k n=>some (k,Lf.of n)
 | .vx k f=>some (k,f)
 | _=>none
theorem asLf_rel {η:En} {ν:Nu} {a:AV} {v:Value} {k:IntKind} {f:Lf} (h:asLf a = some (k,f)) (hv:vrel η ν a v):v = .int k (f.val η):=by
 unfold asLf at h
 split at h <;> cases h
 ·rw [vrel] at hv; rw [hv,Lf.of_val]
 ·rw [vrel] at hv; rw [hv,Lf.of_val]
 ·rw [vrel] at hv; exact hv
def okR (bd:Bd) (k:IntKind) (f:Lf):Bool:=match f.lo bd with
 | none=>false
 | some m=>match isNeg m with
  | true=>false
  | false=>match f.hi bd with
   | none=>false
   | some m=>ltI m (hiN k)
theorem okR_rel {η:En} {bd:Bd} (B:BdOk η bd) {k:IntKind} {f:Lf} (h:okR bd k f = true):0 ≤ f.val η ∧ f.val η < hiN k:=by
 unfold okR at h
 split at h
 ·cases h
 ·rename_i m hm
  split at h
  ·cases h
  ·rename_i hn
   split at h
   ·cases h
   ·rename_i m2 hm2
    have h1:=Lf.lo_le B hm
    have h2:=Lf.hi_ge B hm2
    have h3:=isNeg_f hn
    rw [ltI_eq] at h
    have h4:=of_decide_eq_true h
    exact ⟨by omega,by omega⟩
def mkX (k:IntKind) (f:Lf):AV:=match f.l with
 | []=>toN (.vi k f.c)
 | _ :: _ => .vx k f
theorem mkX_rel {η:En} {ν:Nu} {k:IntKind} {f:Lf}:vrel η ν (mkX k f) (.int k (f.val η)):=by
 obtain ⟨c,l⟩:=f
 cases l with
 | nil=>
  refine toN_rel ?_
  rw [vrel]
  show Value.int k (c + 0) = _
  rw [Int.add_zero]
 | cons x r=>show vrel η ν (.vx k _) _; rw [vrel]
def arX (bd:Bd) (k:IntKind) (f:Lf):Option AV:=match okR bd k f with
 | true=>some (mkX k f)
 | false=>none
def vbO:Option Bool → Option AV
 | some b=>some (.vb b)
 | none=>none
def notO:Option Bool → Option Bool
 | some b=>some (!b)
 | none=>none
def binXI (bd:Bd) (op:BinOp) (k:IntKind) (f e:Lf):Option AV:=match op with
 | .add=>arX bd k (f.add e)
 | .sub=>arX bd k (f.sub e)
 | .mul=>match f.l with
  | []=>arX bd k (e.scale f.c)
  | _ :: _=>match e.l with
   | []=>arX bd k (f.scale e.c)
   | _ :: _=>none
 | .eql=>vbO (f.eq bd e)
 | .neq=>vbO (notO (f.eq bd e))
 | .lss=>vbO (f.lt bd e)
 | .gtr=>vbO (e.lt bd f)
 | .leq=>vbO (notO (e.lt bd f))
 | .geq=>vbO (notO (f.lt bd e))
 | _=>none
theorem vbO_eq {o:Option Bool} {r:AV} (h:vbO o = some r):∃ b,o = some b ∧ r = .vb b:=by
 cases o with
 | none=>cases h
 | some b=>cases h; exact ⟨b,rfl,rfl⟩
theorem notO_eq {o:Option Bool} {b:Bool} (h:notO o = some b):o = some (!b):=by
 cases o with
 | none=>cases h
 | some c=>cases h; simp
theorem binXI_rel {P:Program} {η:En} {ν:Nu} {w:World} {bd:Bd} (B:BdOk η bd) {op:BinOp} {t:TypeId} {k:IntKind} {f e:Lf} {r:AV} (h:binXI bd op k f e = some r) :
  ∃ v,(binOp op t (.int k (f.val η)) (.int k (e.val η))).run P w = .ok v w ∧ vrel η ν r v:=by
 have ar:∀ {op:BinOp} {d:Lf},arX bd k d = some r → binI op k (f.val η) (e.val η) = some (.vi k (wrapA k (d.val η))) → ∃ v,(binOp op t (.int k (f.val η)) (.int k (e.val η))).run P w = .ok v w ∧ vrel η ν r v:=fun {op d} hr hb=>by
  unfold arX at hr
  split at hr
  ·rename_i ho
   cases hr
   obtain ⟨h1,h2⟩:=okR_rel B ho
   rw [wrapA_eq,wrap_pos k _ h1 h2] at hb
   obtain ⟨v,h3,h4⟩:=binI_rel (P:=P) (η:=η) (ν:=ν) (w:=w) (t:=t) hb
   rw [vrel] at h4
   subst h4
   exact ⟨_,h3,mkX_rel⟩
  ·cases hr
 have cm:∀ {op:BinOp} {b:Bool},binI op k (f.val η) (e.val η) = some (.vb b) → r = .vb b → ∃ v,(binOp op t (.int k (f.val η)) (.int k (e.val η))).run P w = .ok v w ∧ vrel η ν r v:=fun {op b} hb hr=>by
  subst hr
  exact binI_rel (P:=P) (η:=η) (ν:=ν) (w:=w) (t:=t) hb
 unfold binXI at h
 split at h
 ·exact ar h (by rw [Lf.add_val]; rfl)
 ·exact ar h (by rw [Lf.sub_val]; rfl)
 ·split at h
  ·rename_i hl
   refine ar h ?_
   rw [Lf.scale_val]
   have:f.val η = f.c:=by unfold Lf.val; rw [hl]; show f.c + 0 = f.c; omega
   rw [this]
   rfl
  ·split at h
   ·rename_i hl
    refine ar h ?_
    rw [Lf.scale_val]
    have:e.val η = e.c:=by unfold Lf.val; rw [hl]; show e.c + 0 = e.c; omega
    rw [this,Int.mul_comm]
    rfl
   ·cases h
 ·obtain ⟨b,h1,h2⟩:=vbO_eq h
  refine cm ?_ h2
  have:=Lf.eq_eq B h1
  show some (AV.vb (eqI (f.val η) (e.val η))) = _
  rw [eqI_eq,this]
 ·obtain ⟨b,h1,h2⟩:=vbO_eq h
  refine cm ?_ h2
  have:=Lf.eq_eq B (notO_eq h1)
  show some (AV.vb (!(eqI (f.val η) (e.val η)))) = _
  rw [eqI_eq,this]; simp
 ·obtain ⟨b,h1,h2⟩:=vbO_eq h
  refine cm ?_ h2
  have:=Lf.lt_eq B h1
  show some (AV.vb (ltI (f.val η) (e.val η))) = _
  rw [ltI_eq,this]
 ·obtain ⟨b,h1,h2⟩:=vbO_eq h
  refine cm ?_ h2
  have:=Lf.lt_eq B h1
  show some (AV.vb (ltI (e.val η) (f.val η))) = _
  rw [ltI_eq,this]
 ·obtain ⟨b,h1,h2⟩:=vbO_eq h
  refine cm ?_ h2
  have:=Lf.lt_eq B (notO_eq h1)
  show some (AV.vb (!(ltI (e.val η) (f.val η)))) = _
  rw [ltI_eq,this]; simp
 ·obtain ⟨b,h1,h2⟩:=vbO_eq h
  refine cm ?_ h2
  have:=Lf.lt_eq B (notO_eq h1)
  show some (AV.vb (!(ltI (f.val η) (e.val η)))) = _
  rw [ltI_eq,this]; simp
 ·cases h
def farS (bd:Bd) (i n:Nat):Bool:=match bd i with
 | none=>false
 | some (lo,hi)=>Nat.blt i 16 && (Nat.blt n lo || Nat.blt hi n)
theorem farS_rel {η:En} {bd:Bd} (B:BdOk η bd) {i:Nat} {l:List Nat} (h:farS bd i (lenN l 0) = true):((η.str i).toList == (bytesOfN l).toList) = false:=by
 unfold farS at h
 split at h
 ·cases h
 ·rename_i lo hi hb
  rw [Bool.and_eq_true,Bool.or_eq_true] at h
  have h1:=blt_lt h.1
  have h2:=B.size i h1
  obtain ⟨h3,h4⟩:=B.le i lo hi hb
  rw [lenN_eq] at h
  have h5:(η.str i).size ≠ l.length:=by
   rcases h.2 with h6 | h6 <;> have:=blt_lt h6 <;> omega
  rw [beq_eq_false_iff_ne]
  intro e
  apply h5
  have:=congrArg List.length e
  rw [bytesOfN_toList,List.length_map,ByteArray.toList_eq,Array.length_toList] at this
  exact this
def farB (bd:Bd) (i:Nat):List Nat → Nat → Bool
 | [],_=>false
 | c :: l,j=>match Nat.blt j 64 with
  | false=>false
  | true=>match bd (byteIx i j) with
   | none=>false
   | some (lo,hi)=>match Nat.blt c lo || Nat.blt hi c with
    | true=>true
    | false=>farB bd i l (j + 1)
theorem farB_rel {η:En} {bd:Bd} (B:BdOk η bd) {i:Nat} (hi:i < 16):∀ {l:List Nat} {j:Nat},(∀ n ∈ l,n < 256) → farB bd i l j = true → (η.str i).data.toList.drop j ≠ l.map UInt8.ofNat
 | [],j,_,h=>by cases h
 | c :: l,j,hc,h=>by
  unfold farB at h
  split at h
  ·cases h
  ·rename_i hj
   split at h
   ·cases h
   ·rename_i lo hi2 hb
    obtain ⟨d,h1,h2⟩:=B.byte i j _ hi (Nat.le_of_ble_eq_true hj) hb
    obtain ⟨h3,h4⟩:=B.le _ _ _ hb
    have h6:(η.str i).data.toList[j]? = some d:=by
     obtain ⟨hlt,e⟩:=getElem?_eq_some_iff.1 h1
     rw [ByteArray.getElem_eq_getElem_data] at e
     rw [Array.getElem?_toList]
     exact Array.getElem?_eq_some_iff.2 ⟨hlt,e⟩
    obtain ⟨hlt,e⟩:=List.getElem?_eq_some_iff.1 h6
    rw [List.drop_eq_getElem_cons hlt,e,List.map_cons]
    intro hx
    injection hx with hx1 hx2
    split at h
    ·rename_i hf
     rw [Bool.or_eq_true] at hf
     have h7:=congrArg UInt8.toNat hx1
     have hcc:=hc c (List.mem_cons_self ..)
     rw [UInt8.toNat_ofNat'] at h7
     rcases hf with h8 | h8
     ·have:=blt_lt h8
      omega
     ·have:=blt_lt h8
      omega
    ·exact farB_rel B hi (fun n hn=>hc n (List.mem_cons_of_mem _ hn)) h hx2
def farT (bd:Bd) (i:Nat) (l:List Nat):Bool:=match farS bd i (lenN l 0) with
 | true=>true
 | false=>match bd (eqIx i l) with
  | some _=>Nat.blt i 16
  | none=>Nat.blt i 16 && farB bd i l 0
theorem farT_rel {η:En} {bd:Bd} (B:BdOk η bd) {i:Nat} {l:List Nat} (hl:∀ n ∈ l,n < 256) (h:farT bd i l = true):((η.str i).toList == (bytesOfN l).toList) = false:=by
 unfold farT at h
 split at h
 ·exact farS_rel B ‹_›
 ·split at h
  ·rename_i r hr
   have h1:=B.ne i l r (blt_lt h) hl hr
   rw [beq_eq_false_iff_ne]
   intro e
   apply h1
   rw [ByteArray.toList_eq,ByteArray.toList_eq] at e
   have e2:(η.str i).data = (bytesOfN l).data:=Array.toList_inj.1 e
   exact ByteArray.ext e2
  ·rw [Bool.and_eq_true] at h
   have h1:=farB_rel B (blt_lt h.1) hl h.2
   rw [beq_eq_false_iff_ne]
   intro e
   apply h1
   rw [ByteArray.toList_eq,bytesOfN_toList] at e
   exact e
def binXS (bd:Bd) (op:BinOp) (x y:AV):Option AV:=match op with
 | .eql=>match x with
  | .vy i=>match y with
   | .vs l=>match farT bd i l with
    | true=>some (.vb false)
    | false=>none
   | .vy j=>match Nat.beq i j with
    | true=>some (.vb true)
    | false=>none
   | _=>none
  | .vs l=>match y with
   | .vy i=>match farT bd i l with
    | true=>some (.vb false)
    | false=>none
   | _=>none
  | _=>none
 | .neq=>match x with
  | .vy i=>match y with
   | .vs l=>match farT bd i l with
    | true=>some (.vb true)
    | false=>none
   | .vy j=>match Nat.beq i j with
    | true=>some (.vb false)
    | false=>none
   | _=>none
  | .vs l=>match y with
   | .vy i=>match farT bd i l with
    | true=>some (.vb true)
    | false=>none
   | _=>none
  | _=>none
 | _=>none
theorem beq_comm' (a b:List UInt8):(a == b) = (b == a):=by
 by_cases h:a = b
 ·subst h; rfl
 ·have h1:(a == b) = false:=by simpa using h
  have h2:(b == a) = false:=by simpa using (fun e=>h (Eq.symm e))
  rw [h1,h2]
theorem binXS_rel {P:Program} {η:En} {ν:Nu} {w:World} {bd:Bd} (B:BdOk η bd) {op:BinOp} {t:TypeId} {x y r:AV} {u v:Value} (hu:vrel η ν x u) (hv:vrel η ν y v) (h:binXS bd op x y = some r) :
  ∃ z,(binOp op t u v).run P w = .ok z w ∧ vrel η ν r z:=by
 have ge:∀ (a b:ByteArray) (c:Bool),(a.toList == b.toList) = c → r = .vb c → ∃ z,(binOp .eql t (.string a) (.string b)).run P w = .ok z w ∧ vrel η ν r z:=fun a b c hc hr=>by
  subst hr; exact ⟨.bool c,by rw [binOp_string_eql,hc]; rfl,by rw [vrel]⟩
 have gn:∀ (a b:ByteArray) (c:Bool),(a.toList == b.toList) = c → r = .vb (!c) → ∃ z,(binOp .neq t (.string a) (.string b)).run P w = .ok z w ∧ vrel η ν r z:=fun a b c hc hr=>by
  subst hr; exact ⟨.bool (!c),by rw [binOp_string_neq,hc]; rfl,by rw [vrel]⟩
 unfold binXS at h
 split at h
 ·split at h
  ·rename_i i
   rw [vrel] at hu; subst hu
   split at h
   ·rename_i l
    rw [vrel] at hv; obtain ⟨rfl,hl⟩:=hv
    split at h
    ·rename_i hf; cases h; exact ge _ _ false (farT_rel B hl hf) rfl
    ·cases h
   ·rename_i j
    rw [vrel] at hv; subst hv
    split at h
    ·rename_i hij
     cases h
     have:=Nat.eq_of_beq_eq_true hij
     subst this
     exact ge _ _ true (by simp) rfl
    ·cases h
   ·cases h
  ·rename_i l
   rw [vrel] at hu; obtain ⟨rfl,hl⟩:=hu
   split at h
   ·rename_i i
    rw [vrel] at hv; subst hv
    split at h
    ·rename_i hf; cases h; exact ge _ _ false (by rw [beq_comm']; exact farT_rel B hl hf) rfl
    ·cases h
   ·cases h
  ·cases h
 ·split at h
  ·rename_i i
   rw [vrel] at hu; subst hu
   split at h
   ·rename_i l
    rw [vrel] at hv; obtain ⟨rfl,hl⟩:=hv
    split at h
    ·rename_i hf; cases h; exact gn _ _ false (farT_rel B hl hf) rfl
    ·cases h
   ·rename_i j
    rw [vrel] at hv; subst hv
    split at h
    ·rename_i hij
     cases h
     have:=Nat.eq_of_beq_eq_true hij
     subst this
     exact gn _ _ true (by simp) rfl
    ·cases h
   ·cases h
  ·rename_i l
   rw [vrel] at hu; obtain ⟨rfl,hl⟩:=hu
   split at h
   ·rename_i i
    rw [vrel] at hv; subst hv
    split at h
    ·rename_i hf; cases h; exact gn _ _ false (by rw [beq_comm']; exact farT_rel B hl hf) rfl
    ·cases h
   ·cases h
  ·cases h
 ·cases h
def binX (bd:Bd) (op:BinOp) (x y:AV):Option AV:=match asLf x with
 | some (k,f)=>match asLf y with
  | some (k',e)=>match Nat.beq (ikN k) (ikN k') with
   | true=>binXI bd op k f e
   | false=>none
  | none=>none
 | none=>binXS bd op x y
theorem binX_rel {P:Program} {η:En} {ν:Nu} {w:World} {bd:Bd} (B:BdOk η bd) {op:BinOp} {t:TypeId} (xo yo:Operand) {x y r:AV} {u v:Value} (hu:vrel η ν x u) (hv:vrel η ν y v) (hs:∃ a,u = .string a ∨ ∃ k n,u = .int k n) (h:binX bd op x y = some r) :
  ∃ z,((do eqGuard op t xo yo u v; binOp op t u v):Sem Value).run P w = .ok z w ∧ vrel η ν r z:=by
 have hg:(eqGuard op t xo yo u v).run P w = .ok () w:=by
  rcases hs with ⟨a,rfl | ⟨k,n,rfl⟩⟩
  ·exact eqGuard_other op t xo yo (by simp) (by simp)
  ·exact eqGuard_other op t xo yo (by simp) (by simp)
 have fin:(∃ z,(binOp op t u v).run P w = .ok z w ∧ vrel η ν r z) → ∃ z,((do eqGuard op t xo yo u v; binOp op t u v):Sem Value).run P w = .ok z w ∧ vrel η ν r z:=fun ⟨z,h1,h2⟩=>
  ⟨z,by simp only [Sem.run_bind,hg,Result.andThen_ok,h1],h2⟩
 apply fin
 unfold binX at h
 split at h
 ·rename_i k f hf
  split at h
  ·rename_i k' e he
   split at h
   ·rename_i hk
    have:=ikN_inj hk
    subst this
    rw [asLf_rel hf hu,asLf_rel he hv]
    exact binXI_rel B h
   ·cases h
  ·cases h
 ·exact binXS_rel B hu hv h
end Go.Proofs.YtoeeackjlclneaaGreatDoor
end
section
namespace Go.Proofs.YtoeeackjlclneaaGreatDoor
set_option linter.unusedVariables false
def belowP (bd:Bd) (f:Lf) (n:Nat):Bool:=match f.hi bd with
 | none=>false
 | some m=>ltI m (.ofNat (Nat.pow 2 n))
theorem belowP_rel {η:En} {bd:Bd} (B:BdOk η bd) {f:Lf} {n:Nat} (h:belowP bd f n = true):f.val η < (2 ^ n:Nat):=by
 unfold belowP at h
 split at h
 ·cases h
 ·rename_i m hm
  have h1:=Lf.hi_ge B hm
  rw [ltI_eq] at h
  have h2:=of_decide_eq_true h
  have h3:(Int.ofNat (Nat.pow 2 n)) = ((2 ^ n:Nat):Int):=rfl
  omega
def mkQ (bd:Bd) (k:IntKind) (f:Lf) (i w s:Nat):AV:=match Nat.beq i 0 && (Nat.beq s 0 && (okR bd k f && belowP bd f w)) with
 | true=>mkX k f
 | false => .vq k f i w s
theorem mkQ_rel {η:En} {ν:Nu} {bd:Bd} (B:BdOk η bd) {k:IntKind} {f:Lf} {i w s:Nat}:vrel η ν (mkQ bd k f i w s) (.int k (((f.val η).toNat / 2 ^ i % 2 ^ w * 2 ^ s:Nat):Int)):=by
 unfold mkQ
 split
 ·rename_i h
  simp only [Bool.and_eq_true] at h
  obtain ⟨h1,h2,h3,h4⟩:=h
  have h1:=Nat.eq_of_beq_eq_true h1
  have h2:=Nat.eq_of_beq_eq_true h2
  subst h1 h2
  obtain ⟨h5, -⟩:=okR_rel B h3
  have h6:=belowP_rel B h4
  have h7:(f.val η).toNat < 2 ^ w:=by omega
  have e:(((f.val η).toNat / 2 ^ 0 % 2 ^ w * 2 ^ 0:Nat):Int) = f.val η:=by
   rw [Nat.pow_zero,Nat.div_one,Nat.mul_one,Nat.mod_eq_of_lt h7]; omega
  rw [e]; exact mkX_rel
 ·rw [vrel]
def shrX (bd:Bd) (x y:AV):Option AV:=match x with
 | .vx k f=>match natA y with
  | none=>none
  | some n=>match okR bd k f && Nat.blt n k.bits with
   | false=>none
   | true=>match belowP bd f n with
    | true=>some (toN (.vi k (.ofNat 0)))
    | false=>some (mkQ bd k f n 64 0)
 | _=>none
theorem natA_is {η:En} {ν:Nu} {a:AV} {v:Value} {n:Nat} (h:natA a = some n) (hv:vrel η ν a v):∃ k,v = .int k (.ofNat n):=by
 unfold natA at h
 split at h <;> cases h
 ·rw [vrel] at hv; exact ⟨_,hv⟩
 ·rw [vrel] at hv; exact ⟨_,hv⟩
theorem hi64 (k:IntKind):hiN k ≤ 2 ^ 64:=by cases k <;> decide
theorem shrX_rel {P:Program} {η:En} {ν:Nu} {w:World} {bd:Bd} (B:BdOk η bd) {t:TypeId} {x y r:AV} {u v:Value} (hu:vrel η ν x u) (hv:vrel η ν y v) (h:shrX bd x y = some r) :
  ∃ z,(binOp .shr t u v).run P w = .ok z w ∧ vrel η ν r z:=by
 unfold shrX at h
 split at h
 ·rename_i k f
  rw [vrel] at hu
  split at h
  ·cases h
  ·rename_i n hn
   obtain ⟨k',hv⟩:=natA_is hn hv
   split at h
   ·cases h
   ·rename_i hc
    rw [Bool.and_eq_true] at hc
    obtain ⟨h1,h2⟩:=okR_rel B hc.1
    have h3:=blt_lt hc.2
    obtain ⟨m,hm⟩:∃ m:Nat,f.val η = .ofNat m:=⟨(f.val η).toNat,by simp only [Int.ofNat_eq_natCast]; omega⟩
    have hmin:Nat.min n k.bits = n:=Nat.min_eq_left (by omega)
    obtain ⟨z,r1,r2⟩:=shI_rel (P:=P) (η:=η) (ν:=ν) (w:=w) (op := .shr) (t:=t) (k:=k) (k':=k') (a := .ofNat m) (b := .ofNat n) (r := .vi k (.ofNat (Nat.div m (Nat.pow 2 (Nat.min n k.bits))))) rfl
    rw [hmin,vrel] at r2
    subst r2
    refine ⟨_,by rw [hu,hv,hm]; exact r1, ?_⟩
    have hmt:(f.val η).toNat = m:=by rw [hm]; rfl
    have hml:m < 2 ^ 64:=by
     have:=hi64 k
     rw [hm] at h2
     simp only [Int.ofNat_eq_natCast] at h2
     omega
    split at h
    ·rename_i hb
     cases h
     have h4:=belowP_rel B hb
     have h5:m < 2 ^ n:=by rw [hm] at h4; simp only [Int.ofNat_eq_natCast] at h4; omega
     refine toN_rel ?_
     rw [vrel]
     have:Nat.div m (Nat.pow 2 n) = 0:=Nat.div_eq_of_lt h5
     rw [this]
    ·cases h
     have e:(((f.val η).toNat / 2 ^ n % 2 ^ 64 * 2 ^ 0:Nat):Int) = Int.ofNat (Nat.div m (Nat.pow 2 n)):=by
      rw [hmt,Nat.pow_zero,Nat.mul_one,Nat.mod_eq_of_lt (Nat.lt_of_le_of_lt (Nat.div_le_self _ _) hml)]; rfl
     rw [← e]
     exact mkQ_rel B
 ·cases h
def shlX (bd:Bd) (x y:AV):Option AV:=match x with
 | .vq .i64 f i w 0=>match natA y with
  | none=>none
  | some n=>match Nat.blt (w + n) 63 with
   | true=>some (.vq .i64 f i w n)
   | false=>none
 | _=>none
theorem shlX_rel {P:Program} {η:En} {ν:Nu} {w:World} {bd:Bd} {t:TypeId} {x y r:AV} {u v:Value} (hu:vrel η ν x u) (hv:vrel η ν y v) (h:shlX bd x y = some r) :
  ∃ z,(binOp .shl t u v).run P w = .ok z w ∧ vrel η ν r z:=by
 unfold shlX at h
 split at h
 ·rename_i f i w'
  rw [vrel] at hu
  split at h
  ·cases h
  ·rename_i n hn
   obtain ⟨k',hv⟩:=natA_is hn hv
   split at h
   ·rename_i hb
    cases h
    have hb:=blt_lt hb
    have hmin:Nat.min n 64 = n:=Nat.min_eq_left (by omega)
    have hq:(f.val η).toNat / 2 ^ i % 2 ^ w' < 2 ^ w':=Nat.mod_lt _ (Nat.two_pow_pos _)
    have hu':u = .int .i64 (.ofNat ((f.val η).toNat / 2 ^ i % 2 ^ w')):=by rw [hu,Nat.pow_zero,Nat.mul_one]; rfl
    obtain ⟨z,r1,r2⟩:=shI_rel (P:=P) (η:=η) (ν:=ν) (w:=w) (op := .shl) (t:=t) (k := .i64) (k':=k') (a := .ofNat ((f.val η).toNat / 2 ^ i % 2 ^ w')) (b := .ofNat n) (r := .vi .i64 (wrapA .i64 (.ofNat (Nat.mul ((f.val η).toNat / 2 ^ i % 2 ^ w') (Nat.pow 2 (Nat.min n 64)))))) rfl
    rw [hmin] at r2
    have hlt:(f.val η).toNat / 2 ^ i % 2 ^ w' * 2 ^ n < 2 ^ 62:=by
     refine Nat.lt_of_lt_of_le (Nat.mul_lt_mul_of_pos_right hq (Nat.two_pow_pos _)) ?_
     rw [← Nat.pow_add]
     exact Nat.pow_le_pow_right (by omega) (by omega)
    have hwr:wrapA .i64 (.ofNat (Nat.mul ((f.val η).toNat / 2 ^ i % 2 ^ w') (Nat.pow 2 n))) = .ofNat (Nat.mul ((f.val η).toNat / 2 ^ i % 2 ^ w') (Nat.pow 2 n)):=by
     rw [wrapA_eq]
     exact wrap_nat .i64 _ (Nat.lt_of_lt_of_le hlt (by decide))
    rw [hwr,vrel] at r2
    subst r2
    exact ⟨_,by rw [hu',hv]; exact r1,by rw [vrel]; rfl⟩
   ·cases h
 ·cases h
def orX (bd:Bd) (x y:AV):Option AV:=match x with
 | .vq .i64 f i w s=>match y with
  | .vq .i64 f' i' w' s'=>match lfE f f' && (Nat.beq i (i' + w') && (Nat.beq s (s' + w') && Nat.blt (w + w' + s') 63)) with
   | true=>some (mkQ bd .i64 f i' (w + w') s')
   | false=>none
  | _=>none
 | _=>none
 where
 lxE:List (Nat × Int) → List (Nat × Int) → Bool
  | [],b=>match b with
   | []=>true
   | _=>false
  | (i,x) :: a,b=>match b with
   | []=>false
   | (j,y) :: b=>Nat.beq i j && (eqI x y && lxE a b)
 lfE (a b:Lf):Bool:=eqI a.c b.c && lxE a.l b.l
theorem lxE_eq:∀ {a b:List (Nat × Int)},orX.lxE a b = true → a = b
 | [],[],_=>rfl
 | [],_ :: _,h=>by cases h
 | _ :: _,[],h=>by cases h
 | (i,x) :: a,(j,y) :: b,h=>by
  rw [orX.lxE] at h
  simp only [Bool.and_eq_true] at h
  rw [Nat.eq_of_beq_eq_true h.1,eqI_t h.2.1,lxE_eq h.2.2]
theorem lfE_eq {a b:Lf} (h:orX.lfE a b = true):a = b:=by
 obtain ⟨c,l⟩:=a
 obtain ⟨c',l'⟩:=b
 unfold orX.lfE at h
 simp only [Bool.and_eq_true] at h
 rw [eqI_t h.1,lxE_eq h.2]
theorem bits_join (m i w w' s:Nat):m / 2 ^ (i + w') % 2 ^ w * 2 ^ (s + w') ||| m / 2 ^ i % 2 ^ w' * 2 ^ s = m / 2 ^ i % 2 ^ (w + w') * 2 ^ s:=by
 apply Nat.eq_of_testBit_eq
 intro j
 rw [Nat.testBit_or]
 simp only [Nat.testBit_mul_two_pow,Nat.testBit_mod_two_pow,Nat.testBit_div_two_pow]
 by_cases h1:s ≤ j
 ·by_cases h2:s + w' ≤ j
  ·have e:j - (s + w') + (i + w') = j - s + i:=by omega
   rw [e]
   by_cases h3:j - (s + w') < w
   ·simp only [h1,h2,h3,decide_true,Bool.true_and,show ¬ j - s < w' by omega,decide_false,Bool.false_and,Bool.or_false,show j - s < w + w' by omega]
   ·simp only [h1,h2,h3,decide_true,Bool.true_and,show ¬ j - s < w' by omega,decide_false,Bool.false_and,Bool.or_false,show ¬ j - s < w + w' by omega]
  ·simp only [h1,h2,decide_true,decide_false,Bool.true_and,Bool.false_and,Bool.false_or,show j - s < w' by omega,show j - s < w + w' by omega]
 ·simp only [h1,decide_false,Bool.false_and,show ¬ s + w' ≤ j by omega,Bool.or_false]
theorem lt62 {n:Nat} (h:n < 2 ^ 62):Nat.blt n (hiN .i64) = true:=by
 rw [blt_dec]; exact decide_eq_true (Nat.lt_of_lt_of_le h (by decide))
theorem q_lt (m i w s:Nat) (h:w + s < 63):m / 2 ^ i % 2 ^ w * 2 ^ s < 2 ^ 62:=by
 refine Nat.lt_of_lt_of_le (Nat.mul_lt_mul_of_pos_right (Nat.mod_lt _ (Nat.two_pow_pos _)) (Nat.two_pow_pos _)) ?_
 rw [← Nat.pow_add]
 exact Nat.pow_le_pow_right (by omega) (by omega)
theorem run_or {P:Program} {w:World} {t:TypeId} {m n:Nat} (hm:m < 2 ^ 62) (hn:n < 2 ^ 62) (η:En) (ν:Nu):(binOp .or t (.int .i64 (.ofNat m)) (.int .i64 (.ofNat n))).run P w = .ok (.int .i64 (.ofNat (m ||| n))) w:=by
 have hb:binI .or .i64 (.ofNat m) (.ofNat n) = some (.vi .i64 (.ofNat (Nat.lor m n))):=by
  simp only [binI,lt62 hm,lt62 hn,bitsN]
 obtain ⟨z,r1,r2⟩:=binI_rel (P:=P) (η:=η) (ν:=ν) (w:=w) (t:=t) hb
 rw [vrel] at r2
 subst r2
 exact r1
theorem orX_rel {P:Program} {η:En} {ν:Nu} {w:World} {bd:Bd} (B:BdOk η bd) {t:TypeId} {x y r:AV} {u v:Value} (hu:vrel η ν x u) (hv:vrel η ν y v) (h:orX bd x y = some r) :
  ∃ z,(binOp .or t u v).run P w = .ok z w ∧ vrel η ν r z:=by
 unfold orX at h
 split at h
 ·rename_i f i w1 s
  rw [vrel] at hu
  split at h
  ·rename_i f' i' w2 s'
   rw [vrel] at hv
   split at h
   ·rename_i hc
    cases h
    simp only [Bool.and_eq_true] at hc
    obtain ⟨h1,h2,h3,h4⟩:=hc
    have:=lfE_eq h1
    subst this
    have h2:=Nat.eq_of_beq_eq_true h2
    have h3:=Nat.eq_of_beq_eq_true h3
    have h4:=blt_lt h4
    subst h2 h3
    have b1:=q_lt (f.val η).toNat (i' + w2) w1 (s' + w2) (by omega)
    have b2:=q_lt (f.val η).toNat i' w2 s' (by omega)
    refine ⟨_,by rw [hu,hv]; exact run_or b1 b2 η ν, ?_⟩
    rw [bits_join]
    exact mkQ_rel B
   ·cases h
  ·cases h
 ·cases h
def lowQ (bd:Bd) (x:AV):Option AV:=match x with
 | .vq .i64 f i w s=>match Nat.blt (w + s) 63 with
  | true=>some (.vq .i64 f i w s)
  | false=>none
 | .vx .i64 f=>match okR bd .i64 f && belowP bd f 62 with
  | true=>some (.vx .i64 f)
  | false=>none
 | _=>none
theorem lowQ_rel {η:En} {ν:Nu} {bd:Bd} (B:BdOk η bd) {x r:AV} {u:Value} (hu:vrel η ν x u) (h:lowQ bd x = some r):r = x ∧ ∃ m:Nat,u = .int .i64 (.ofNat m) ∧ m < 2 ^ 62:=by
 unfold lowQ at h
 split at h
 ·rename_i f i w s
  split at h
  ·rename_i hb
   cases h
   rw [vrel] at hu
   exact ⟨rfl,_,hu,q_lt _ _ _ _ (blt_lt hb)⟩
  ·cases h
 ·rename_i f
  split at h
  ·rename_i hb
   cases h
   rw [Bool.and_eq_true] at hb
   obtain ⟨h1, -⟩:=okR_rel B hb.1
   have h2:=belowP_rel B hb.2
   rw [vrel] at hu
   refine ⟨rfl,(f.val η).toNat, ?_,by omega⟩
   rw [hu]; congr 1; simp only [Int.ofNat_eq_natCast]; omega
  ·cases h
 ·cases h
def orZ (bd:Bd) (x y:AV):Option AV:=match x with
 | .vn 0=>lowQ bd y
 | x=>match y with
  | .vn 0=>lowQ bd x
  | y=>orX bd x y
theorem orZ_rel {P:Program} {η:En} {ν:Nu} {w:World} {bd:Bd} (B:BdOk η bd) {t:TypeId} {x y r:AV} {u v:Value} (hu:vrel η ν x u) (hv:vrel η ν y v) (h:orZ bd x y = some r) :
  ∃ z,(binOp .or t u v).run P w = .ok z w ∧ vrel η ν r z:=by
 unfold orZ at h
 split at h
 ·rw [vrel] at hu
  obtain ⟨rfl,m,rfl,hm⟩:=lowQ_rel B hv h
  refine ⟨_,by rw [hu]; exact run_or (m:=0) (n:=m) (by decide) hm η ν, ?_⟩
  rw [Nat.zero_or]; exact hv
 ·split at h
  ·rw [vrel] at hv
   obtain ⟨rfl,m,rfl,hm⟩:=lowQ_rel B hu h
   refine ⟨_,by rw [hv]; exact run_or (m:=m) (n:=0) hm (by decide) η ν, ?_⟩
   rw [Nat.or_zero]; exact hu
  ·exact orX_rel B hu hv h
def andX (bd:Bd) (x y:AV):Option AV:=match x with
 | .vx .i64 f=>match y with
  | .vn m=>match okR bd .i64 f && (belowP bd f (Nat.log2 (m + 1)) && (Nat.beq (m + 1) (Nat.pow 2 (Nat.log2 (m + 1))) && Nat.blt m (hiN .i64))) with
   | true=>some (.vx .i64 f)
   | false=>none
  | _=>none
 | _=>none
theorem andX_rel {P:Program} {η:En} {ν:Nu} {w:World} {bd:Bd} (B:BdOk η bd) {t:TypeId} {x y r:AV} {u v:Value} (hu:vrel η ν x u) (hv:vrel η ν y v) (h:andX bd x y = some r) :
  ∃ z,(binOp .and t u v).run P w = .ok z w ∧ vrel η ν r z:=by
 unfold andX at h
 split at h
 ·rename_i f
  split at h
  ·rename_i m
   split at h
   ·rename_i hc
    cases h
    simp only [Bool.and_eq_true] at hc
    obtain ⟨h1,h2,h3,h4⟩:=hc
    obtain ⟨h5,h6⟩:=okR_rel B h1
    have h7:=belowP_rel B h2
    have h8:m + 1 = 2 ^ Nat.log2 (m + 1):=Nat.eq_of_beq_eq_true h3
    have hu0:=hu
    rw [vrel] at hu
    rw [vrel] at hv
    obtain ⟨q,hq⟩:∃ q:Nat,f.val η = .ofNat q:=⟨(f.val η).toNat,by simp only [Int.ofNat_eq_natCast]; omega⟩
    have hql:Nat.blt q (hiN .i64) = true:=by
     rw [blt_dec]; refine decide_eq_true ?_
     rw [hq] at h6; simp only [Int.ofNat_eq_natCast] at h6; omega
    have hb:binI .and .i64 (.ofNat q) (.ofNat m) = some (.vi .i64 (.ofNat (Nat.land q m))):=by
     simp only [binI,hql,h4,bitsN]
    obtain ⟨z,r1,r2⟩:=binI_rel (P:=P) (η:=η) (ν:=ν) (w:=w) (t:=t) hb
    rw [vrel] at r2
    subst r2
    have hand:Nat.land q m = q:=by
     have e1:m = 2 ^ Nat.log2 (m + 1) - 1:=by omega
     have e2:q &&& (2 ^ Nat.log2 (m + 1) - 1) = q:=by
      rw [Nat.and_two_pow_sub_one_eq_mod]
      exact Nat.mod_eq_of_lt (by rw [hq] at h7; simp only [Int.ofNat_eq_natCast] at h7; omega)
     show q &&& m = q
     rw [← e1] at e2; exact e2
    refine ⟨_,by rw [hu,hv,hq]; exact r1, ?_⟩
    rw [hand,← hq,← hu]; exact hu0
   ·cases h
  ·cases h
 ·cases h
def cvX (bd:Bd) (k':IntKind) (x:AV):Option AV:=match x with
 | .vx k f=>match okR bd k' f with
  | true=>some (mkX k' f)
  | false=>match okR bd k f with
   | false=>none
   | true=>match k' with
    | .u8=>some (.vq .u8 f 0 8 0)
    | _=>none
 | .vq k f i w 0=>match k' with
  | .u8=>match Nat.ble 8 w with
   | true=>some (.vq .u8 f i 8 0)
   | false=>none
  | .i64=>match Nat.blt w 63 with
   | true=>some (mkQ bd .i64 f i w 0)
   | false=>none
  | _=>none
 | _=>none
theorem cvX_rel {P:Program} {η:En} {ν:Nu} {w:World} {bd:Bd} (B:BdOk η bd) {src dst:TypeId} {d:TypeDesc} {k:IntKind} (h1:P.underlying src = some d) (h2:P.underlying dst = some (.int k)) {x a:AV} {u:Value} (hu:vrel η ν x u) (hr:cvX bd k x = some a) :
  ∃ v,(convert src dst u).run P w = .ok v w ∧ vrel η ν a v:=by
 have run:∀ k0 n,(convert src dst (.int k0 n)).run P w = .ok (.int k (k.wrap n)) w:=fun k0 n=>by
  simp only [convert,Sem.run_bind,run_underlying h1,run_underlying h2,Result.andThen_ok]
  cases d <;> rfl
 unfold cvX at hr
 split at hr
 ·rename_i k0 f
  rw [vrel] at hu
  subst hu
  refine ⟨_,run k0 _, ?_⟩
  split at hr
  ·rename_i hk
   cases hr
   obtain ⟨h3,h4⟩:=okR_rel B hk
   rw [wrap_pos k _ h3 h4]
   exact mkX_rel
  ·split at hr
   ·cases hr
   ·rename_i hk
    obtain ⟨h3, -⟩:=okR_rel B hk
    split at hr
    ·cases hr
     obtain ⟨q,hq⟩:∃ q:Nat,f.val η = .ofNat q:=⟨(f.val η).toNat,by simp only [Int.ofNat_eq_natCast]; omega⟩
     rw [vrel,hq,wrap_mod .u8 q rfl]
     show Value.int .u8 (Int.ofNat (q % 256)) = Value.int .u8 (((Int.ofNat q).toNat / 2 ^ 0 % 2 ^ 8 * 2 ^ 0:Nat):Int)
     rw [Nat.pow_zero,Nat.div_one,Nat.mul_one]; rfl
    ·cases hr
 ·rename_i k0 f i w'
  rw [vrel] at hu
  subst hu
  refine ⟨_,run k0 _, ?_⟩
  split at hr
  ·split at hr
   ·rename_i hw
    cases hr
    have hw:=Nat.le_of_ble_eq_true hw
    rw [vrel]
    rw [show (((f.val η).toNat / 2 ^ i % 2 ^ w' * 2 ^ 0:Nat):Int) = Int.ofNat ((f.val η).toNat / 2 ^ i % 2 ^ w') by rw [Nat.pow_zero,Nat.mul_one]; rfl,wrap_mod .u8 _ rfl]
    show Value.int .u8 (Int.ofNat (((f.val η).toNat / 2 ^ i % 2 ^ w') % 2 ^ 8)) = _
    rw [Nat.mod_mod_of_dvd _ (Nat.pow_dvd_pow 2 hw),Nat.pow_zero,Nat.mul_one]; rfl
   ·cases hr
  ·split at hr
   ·rename_i hw
    cases hr
    have hw:=blt_lt hw
    have h5:=q_lt (f.val η).toNat i w' 0 (by omega)
    have h6:IntKind.i64.wrap (((f.val η).toNat / 2 ^ i % 2 ^ w' * 2 ^ 0:Nat):Int) = (((f.val η).toNat / 2 ^ i % 2 ^ w' * 2 ^ 0:Nat):Int):=
     wrap_nat .i64 _ (Nat.lt_of_lt_of_le h5 (by decide))
    rw [h6]
    exact mkQ_rel B
   ·cases hr
  ·cases hr
 ·cases hr
end Go.Proofs.YtoeeackjlclneaaGreatDoor
end
section
namespace Go.Proofs.YtoeeackjlclneaaGreatDoor
set_option linter.unusedVariables false
def openK:AV → Bool
 | .vn _=>true
 | .vi _ _=>true
 | .vx _ _=>true
 | .vq _ _ _ _ _=>true
 | .vs _=>true
 | .vy _=>true
 | _=>false
theorem openK_rel {η:En} {ν:Nu} {x:AV} {u:Value} (h:openK x = true) (hu:vrel η ν x u):(∃ a,u = .string a) ∨ ∃ k n,u = .int k n:=by
 cases x <;> first
  | (cases h; done)
  | skip
 all_goals rw [vrel] at hu
 all_goals first
  | exact Or.inr ⟨_,_,hu⟩
  | exact Or.inr ⟨_,_,hu.1⟩
  | exact Or.inl ⟨_,hu⟩
  | exact Or.inl ⟨_,hu.1⟩
def nearX (bd:Bd) (i:Nat):Bool:=match Nat.blt i 16 with
 | false=>false
 | true=>match bd i with
  | none=>false
  | some (_,hi)=>Nat.ble hi 1000000000
theorem nearX_rel {η:En} {bd:Bd} (B:BdOk η bd) {i:Nat} (h:nearX bd i = true):η.num i = ((η.str i).size:Int) ∧ (η.str i).size ≤ 1000000000:=by
 unfold nearX at h
 split at h
 ·cases h
 ·rename_i h1
  have h2:=B.size i (Nat.le_of_ble_eq_true h1)
  split at h
  ·cases h
  ·rename_i lo hi h3
   have h4:=(B.le i lo hi h3).2
   have h5:=Nat.le_of_ble_eq_true h
   exact ⟨h2,by omega⟩
def pfxN (bd:Bd) (i:Nat):List Nat → Nat → Bool
 | [],_=>true
 | c :: l,j=>match Nat.blt j 64 with
  | false=>false
  | true=>match bd (byteIx i j) with
   | none=>false
   | some (lo,hi)=>match Nat.beq lo c && Nat.beq hi c with
    | false=>false
    | true=>pfxN bd i l (j + 1)
theorem pfxN_rel {η:En} {bd:Bd} (B:BdOk η bd) {i:Nat} (hi:i < 16):∀ {l:List Nat} {j:Nat},(∀ c ∈ l,c < 256) → pfxN bd i l j = true → ((η.str i).data.toList.drop j).take l.length = l.map UInt8.ofNat
 | [],j,_,h=>by simp
 | c :: l,j,hc,h=>by
  unfold pfxN at h
  split at h
  ·cases h
  ·rename_i hj
   split at h
   ·cases h
   ·rename_i lo hi2 hb
    split at h
    ·cases h
    ·rename_i he
     rw [Bool.and_eq_true] at he
     have e1:=Nat.eq_of_beq_eq_true he.1
     have e2:=Nat.eq_of_beq_eq_true he.2
     subst e1
     subst e2
     obtain ⟨d,h1,h2⟩:=B.byte i j _ hi (Nat.le_of_ble_eq_true hj) hb
     obtain ⟨h3,h4⟩:=B.le _ _ _ hb
     have h5:UInt8.ofNat hi2 = d:=by
      have:d.toNat = hi2:=by omega
      rw [← this]; simp
     have h6:(η.str i).data.toList[j]? = some d:=by
      obtain ⟨hlt,e⟩:=getElem?_eq_some_iff.1 h1
      rw [ByteArray.getElem_eq_getElem_data] at e
      rw [Array.getElem?_toList]
      exact Array.getElem?_eq_some_iff.2 ⟨hlt,e⟩
     obtain ⟨hlt,e⟩:=List.getElem?_eq_some_iff.1 h6
     have ih:=pfxN_rel B hi (fun d hd=>hc d (List.mem_cons_of_mem _ hd)) h
     rw [List.drop_eq_getElem_cons hlt,e,List.length_cons,List.take_succ_cons,ih,List.map_cons,h5]
def catN (bd:Bd) (l:List Nat) (j:Nat):Option Nat:=match Nat.blt j 16 with
 | false=>none
 | true=>match bd (sufIx j) with
  | none=>none
  | some (k,n)=>match Nat.blt k 16 && (Nat.beq n l.length && (pfxN bd k l 0 && nearX bd k)) with
   | true=>some k
   | false=>none
theorem catN_rel {η:En} {bd:Bd} (B:BdOk η bd) {l:List Nat} {j k:Nat} (hl:∀ c ∈ l,c < 256) (h:catN bd l j = some k):bytesOfN l ++ η.str j = η.str k ∧ (η.str k).size ≤ 1000000000:=by
 unfold catN at h
 split at h
 ·cases h
 ·rename_i hj
  split at h
  ·cases h
  ·rename_i k' n hb
   split at h
   ·rename_i hc
    cases h
    simp only [Bool.and_eq_true] at hc
    obtain ⟨c1,c2,c3,c4⟩:=hc
    have c2:=Nat.eq_of_beq_eq_true c2
    have hk:=Nat.le_of_ble_eq_true c1
    obtain ⟨h1,h2⟩:=B.suf j k n (Nat.le_of_ble_eq_true hj) hk hb
    have h3:=pfxN_rel B hk hl c3
    refine ⟨?_,(nearX_rel B c4).2⟩
    apply ByteArray.ext
    apply Array.toList_inj.1
    have h4:(η.str j).data.toList = (η.str k).data.toList.drop n:=by
     rw [← h2,ByteArray.data_extract,Array.toList_extract,List.extract_eq_take_drop]
     apply List.take_of_length_le
     rw [List.length_drop,Array.length_toList]
     exact Nat.le_refl _
    rw [List.drop_zero] at h3
    have h5:(bytesOfN l).data.toList = l.map UInt8.ofNat:=by simp [bytesOfN]
    rw [ByteArray.data_append,Array.toList_append,h5,← h3,h4,← c2]
    exact List.take_append_drop _ _
   ·cases h
def plusX (bd:Bd) (x y:AV):Option AV:=match x with
 | .vy i=>match y with
  | .vs []=>match nearX bd i with
   | true=>some (.vy i)
   | false=>none
  | _=>none
 | .vs []=>match y with
  | .vy j=>match nearX bd j with
   | true=>some (.vy j)
   | false=>none
  | _=>none
 | .vs (c :: l)=>match y with
  | .vy j=>match catN bd (c :: l) j with
   | some k=>some (.vy k)
   | none=>none
  | _=>none
 | x=>binX bd .add x y
theorem plusX_rel {P:Program} {η:En} {ν:Nu} {w:World} {bd:Bd} (B:BdOk η bd) {t:TypeId} (xo yo:Operand) {x y r:AV} {u v:Value} (hu:vrel η ν x u) (hv:vrel η ν y v) (hx:(∃ a,u = .string a ∨ ∃ k n,u = .int k n)) (h:plusX bd x y = some r) :
  ∃ z,((do eqGuard .add t xo yo u v; binOp .add t u v):Sem Value).run P w = .ok z w ∧ vrel η ν r z:=by
 have he:(bytesOfN []) = ByteArray.empty:=rfl
 have emp:∀ {l:List Nat},l = [] → vrel η ν (.vs l) = fun v=>v = Value.string .empty ∧ ∀ n ∈ l,n < 256:=fun {l} e=>by
  subst e
  funext v
  rw [vrel]
  rfl
 cases x <;> first
  | exact binX_rel B xo yo hu hv hx h
  | skip
 ·rename_i l
  cases l with
  | cons c l=>
   cases y <;> first
    | (cases h; done)
    | skip
   rename_i j
   have h':(match catN bd (c :: l) j with
    | some k=>some (AV.vy k)
    | none=>none) = some r:=h
   split at h'
   rotate_left
   ·cases h'
   rename_i k hk
   cases h'
   generalize c :: l = m at hu hk
   rw [vrel] at hu
   rw [vrel] at hv
   obtain ⟨rfl,hl⟩:=hu
   subst hv
   obtain ⟨h1,h2⟩:=catN_rel B hl hk
   refine ⟨.string (η.str k), ?_,by rw [vrel]⟩
   have h3:(bytesOfN m).size + (η.str j).size = (η.str k).size:=by rw [← h1,ByteArray.size_append]
   simp [eqGuard,binOp,Op.stringOp,Sem.run_pure,h1]
   omega
  | nil=>
   cases y <;> first
    | (cases h; done)
    | skip
   rename_i j
   have h':(match nearX bd j with
    | true=>some (AV.vy j)
    | false=>none) = some r:=h
   split at h'
   rotate_left
   ·cases h'
   rename_i hn
   have hn:=(nearX_rel B hn).2
   cases h'
   rw [emp rfl] at hu
   rw [vrel] at hv
   obtain ⟨rfl, -⟩:=hu
   subst hv
   refine ⟨_, ?_,by rw [vrel]⟩
   simp [eqGuard,binOp,Op.stringOp,Sem.run_pure]
   omega
 ·rename_i i
  cases y <;> first
   | (cases h; done)
   | skip
  rename_i l
  cases l with
  | cons a l=>cases h
  | nil=>
   have h':(match nearX bd i with
    | true=>some (AV.vy i)
    | false=>none) = some r:=h
   split at h'
   rotate_left
   ·cases h'
   rename_i hn
   have hn:=(nearX_rel B hn).2
   cases h'
   rw [emp rfl] at hv
   rw [vrel] at hu
   obtain ⟨rfl, -⟩:=hv
   subst hu
   refine ⟨_, ?_,by rw [vrel]⟩
   simp [eqGuard,binOp,Op.stringOp,Sem.run_pure]
   omega
def binY (bd:Bd) (op:BinOp) (x y:AV):Option AV:=match openK x with
 | false=>none
 | true=>match op with
  | .shr=>shrX bd x y
  | .shl=>shlX bd x y
  | .or=>orZ bd x y
  | .and=>andX bd x y
  | .add=>plusX bd x y
  | op=>binX bd op x y
theorem binY_rel {P:Program} {η:En} {ν:Nu} {w:World} {bd:Bd} (B:BdOk η bd) {op:BinOp} {t:TypeId} (xo yo:Operand) {x y r:AV} {u v:Value} (hu:vrel η ν x u) (hv:vrel η ν y v) (h:binY bd op x y = some r) :
  ∃ z,((do eqGuard op t xo yo u v; binOp op t u v):Sem Value).run P w = .ok z w ∧ vrel η ν r z:=by
 unfold binY at h
 split at h
 ·cases h
 ·rename_i ho
  have hs:=openK_rel ho hu
  have hg:(eqGuard op t xo yo u v).run P w = .ok () w:=by
   rcases hs with ⟨a,rfl⟩ | ⟨k,n,rfl⟩
   ·exact eqGuard_other op t xo yo (by simp) (by simp)
   ·exact eqGuard_other op t xo yo (by simp) (by simp)
  have fin:(∃ z,(binOp op t u v).run P w = .ok z w ∧ vrel η ν r z) → ∃ z,((do eqGuard op t xo yo u v; binOp op t u v):Sem Value).run P w = .ok z w ∧ vrel η ν r z:=fun ⟨z,h1,h2⟩=>
   ⟨z,by simp only [Sem.run_bind,hg,Result.andThen_ok,h1],h2⟩
  have hx:(∃ a,u = .string a ∨ ∃ k n,u = .int k n):=by
   rcases hs with ⟨a,h⟩ | ⟨k,n,h⟩
   ·exact ⟨a,Or.inl h⟩
   ·exact ⟨default,Or.inr ⟨k,n,h⟩⟩
  split at h
  ·exact fin (shrX_rel B hu hv h)
  ·exact fin (shlX_rel hu hv h)
  ·exact fin (orZ_rel B hu hv h)
  ·exact fin (andX_rel B hu hv h)
  ·exact plusX_rel B xo yo hu hv hx h
  ·exact binX_rel B xo yo hu hv hx h
def numX (i:Nat):Lf:=⟨0,[(i,1)]⟩
theorem numX_val {η:En} {i:Nat}:(numX i).val η = η.num i:=by
 simp only [numX,Lf.val,sumX]; omega
def lenN0 (bd:Bd) (n:Nat):AV:=match bd n with
 | some (lo,hi)=>match Nat.beq lo hi with
  | true => .vn lo
  | false => .vx .i64 (numX n)
 | none => .vx .i64 (numX n)
theorem lenN0_rel {η:En} {bd:Bd} (B:BdOk η bd) {ν:Nu} {n:Nat} {v:Value} (h:v = .int .i64 (η.num n)):vrel η ν (lenN0 bd n) v:=by
 have base:vrel η ν (.vx .i64 (numX n)) v:=by rw [vrel,numX_val]; exact h
 unfold lenN0
 split
 ·rename_i lo hi hb
  split
  ·rename_i he
   have he:=Nat.eq_of_beq_eq_true he
   subst he
   obtain ⟨h1,h2⟩:=B.le n lo lo hb
   rw [vrel,h]
   congr 1
   omega
  ·exact base
 ·exact base
def lenX (bd:Bd) (i:TI) (x:AV):Option AV:=match i.kind with
 | .string=>match x with
  | .vy n=>match Nat.blt n 16 with
   | true=>some (lenN0 bd n)
   | false=>none
  | _=>none
 | .slice _=>match x with
  | .vsx _ _ n _ _=>some (mkX .i64 n)
  | _=>none
 | _=>none
theorem lenX_rel {P:Program} {η:En} {bd:Bd} (B:BdOk η bd) {ν:Nu} {w:World} {t ty:TypeId} {i:TI} (ki:TIok P t i) {x a:AV} {u:Value} (hu:vrel η ν x u) (hr:lenX bd i x = some a) :
  ∃ v,(Builtin.len_ #[t] ty #[u]).run P w = .ok v w ∧ vrel η ν a v:=by
 have hd:=ki.under
 unfold lenX at hr
 split at hr
 ·rename_i hk
  rw [hk] at hd
  split at hr
  ·rename_i n
   split at hr
   ·rename_i hn
    cases hr
    rw [vrel] at hu
    subst hu
    refine ⟨goInt (η.str n).size,by simp [Builtin.len_,run_underlying hd],lenN0_rel B ?_⟩
    rw [B.size n (Nat.le_of_ble_eq_true hn)]
    rfl
   ·cases hr
  ·cases hr
 ·rename_i e hk
  rw [hk] at hd
  split at hr
  ·rename_i b o n c ex
   cases hr
   rw [vrel] at hu
   obtain ⟨q,O,N,K,h1,rfl,h2,h3,h4⟩:=hu
   refine ⟨goInt N,by simp [Builtin.len_,run_underlying hd], ?_⟩
   have:=mkX_rel (η:=η) (ν:=ν) (k := .i64) (f:=n)
   rw [← h3] at this
   exact this
  ·cases hr
 ·cases hr
def minX (bd:Bd) (k:IntKind):Lf → List AV → Option AV
 | f,[]=>some (mkX k f)
 | f,y :: l=>match asLf y with
  | none=>none
  | some (k',e)=>match Nat.beq (ikN k) (ikN k') with
   | false=>none
   | true=>match e.lt bd f with
    | some true=>minX bd k e l
    | some false=>minX bd k f l
    | none=>none
def maxX (bd:Bd) (k:IntKind):Lf → List AV → Option AV
 | f,[]=>some (mkX k f)
 | f,y :: l=>match asLf y with
  | none=>none
  | some (k',e)=>match Nat.beq (ikN k) (ikN k') with
   | false=>none
   | true=>match f.lt bd e with
    | some true=>maxX bd k e l
    | some false=>maxX bd k f l
    | none=>none
theorem minX_rel {P:Program} {η:En} {bd:Bd} (B:BdOk η bd) {ν:Nu} {w:World} {k:IntKind}:∀ {l:List AV} {vs:List Value} {f:Lf} {r:AV},vrels η ν l vs → minX bd k f l = some r →
  ∃ v,(vs.foldlM Builtin.min2 (.int k (f.val η))).run P w = .ok v w ∧ vrel η ν r v
 | [],vs,f,r,h,e=>by
  rw [vrels] at h; subst h
  cases e
  exact ⟨_,rfl,mkX_rel⟩
 | y :: l,vs,f,r,h,e=>by
  rw [vrels] at h
  obtain ⟨v,us,rfl,h1,h2⟩:=h
  unfold minX at e
  split at e
  ·cases e
  ·rename_i k' z hz
   split at e
   ·cases e
   ·rename_i hk
    have:=ikN_inj hk
    subst this
    have hv:=asLf_rel hz h1
    subst hv
    rw [List.foldlM_cons]
    split at e
    ·rename_i hl
     have hl:=of_decide_eq_true (Lf.lt_eq B hl)
     have hm:Builtin.min2 (.int k (f.val η)) (.int k (z.val η)) = pure (.int k (z.val η)):=by
      simp only [Builtin.min2]
      simp [hl]
     rw [hm]
     simp only [Sem.run_bind,Sem.run_pure,Result.andThen_ok]
     exact minX_rel B h2 e
    ·rename_i hl
     have hl:=of_decide_eq_false (Lf.lt_eq B hl)
     have hm:Builtin.min2 (.int k (f.val η)) (.int k (z.val η)) = pure (.int k (f.val η)):=by
      simp only [Builtin.min2]
      simp [hl]
     rw [hm]
     simp only [Sem.run_bind,Sem.run_pure,Result.andThen_ok]
     exact minX_rel B h2 e
    ·cases e
theorem maxX_rel {P:Program} {η:En} {bd:Bd} (B:BdOk η bd) {ν:Nu} {w:World} {k:IntKind}:∀ {l:List AV} {vs:List Value} {f:Lf} {r:AV},vrels η ν l vs → maxX bd k f l = some r →
  ∃ v,(vs.foldlM Builtin.max2 (.int k (f.val η))).run P w = .ok v w ∧ vrel η ν r v
 | [],vs,f,r,h,e=>by
  rw [vrels] at h; subst h
  cases e
  exact ⟨_,rfl,mkX_rel⟩
 | y :: l,vs,f,r,h,e=>by
  rw [vrels] at h
  obtain ⟨v,us,rfl,h1,h2⟩:=h
  unfold maxX at e
  split at e
  ·cases e
  ·rename_i k' z hz
   split at e
   ·cases e
   ·rename_i hk
    have:=ikN_inj hk
    subst this
    have hv:=asLf_rel hz h1
    subst hv
    rw [List.foldlM_cons]
    split at e
    ·rename_i hl
     have hl:=of_decide_eq_true (Lf.lt_eq B hl)
     have hm:Builtin.max2 (.int k (f.val η)) (.int k (z.val η)) = pure (.int k (z.val η)):=by
      simp only [Builtin.max2]
      simp [hl]
     rw [hm]
     simp only [Sem.run_bind,Sem.run_pure,Result.andThen_ok]
     exact maxX_rel B h2 e
    ·rename_i hl
     have hl:=of_decide_eq_false (Lf.lt_eq B hl)
     have hm:Builtin.max2 (.int k (f.val η)) (.int k (z.val η)) = pure (.int k (f.val η)):=by
      simp only [Builtin.max2]
      simp [hl]
     rw [hm]
     simp only [Sem.run_bind,Sem.run_pure,Result.andThen_ok]
     exact maxX_rel B h2 e
    ·cases e
def mmX (bd:Bd) (m:Bool) (args:List AV):Option AV:=match args with
 | []=>none
 | y :: l=>match asLf y with
  | none=>none
  | some (k,f)=>match m with
   | true=>minX bd k f l
   | false=>maxX bd k f l
theorem mmX_rel {P:Program} {η:En} {bd:Bd} (B:BdOk η bd) {ν:Nu} {w:World} {m:Bool} {l:List AV} {vs:List Value} {r:AV} (hv:vrels η ν l vs) (h:mmX bd m l = some r) :
  ∃ u us,vs = u :: us ∧ ∃ v,(us.foldlM (match m with | true=>Builtin.min2 | false=>Builtin.max2) u).run P w = .ok v w ∧ vrel η ν r v:=by
 unfold mmX at h
 split at h
 ·cases h
 ·split at h
  ·cases h
  ·rename_i k f hf
   rw [vrels] at hv
   obtain ⟨v,us,rfl,h2,h3⟩:=hv
   have:=asLf_rel hf h2
   subst this
   split at h
   ·obtain ⟨z,h4,h5⟩:=minX_rel (P:=P) (w:=w) B h3 h
    exact ⟨_,us,rfl,z,h4,h5⟩
   ·obtain ⟨z,h4,h5⟩:=maxX_rel (P:=P) (w:=w) B h3 h
    exact ⟨_,us,rfl,z,h4,h5⟩
end Go.Proofs.YtoeeackjlclneaaGreatDoor
end
section
namespace Go.Proofs.YtoeeackjlclneaaGreatDoor
set_option linter.unusedVariables false
noncomputable def eq1X (bd:Bd) (i:TI) (x y:AV):Option Bool:=match i.kind with
 | .string=>match x with
  | .vy a=>match y with
   | .vs l=>match farT bd a l with
    | true=>some false
    | false=>none
   | .vy b=>match Nat.beq a b with
    | true=>some true
    | false=>none
   | _=>none
  | .vs l=>match y with
   | .vy a=>match farT bd a l with
    | true=>some false
    | false=>none
   | _=>none
  | _=>none
 | _=>none
theorem eq1X_rel {P:Program} {η:En} {bd:Bd} (B:BdOk η bd) {ν:Nu} {w:World} {t:TypeId} {i:TI} (ki:TIok P t i) {x y:AV} {u v:Value} (hu:vrel η ν x u) (hv:vrel η ν y v)
  {r:Bool} (hr:eq1X bd i x y = some r) (d:Nat):(Op.equalIn (d + 1) t u v).run P w = .ok r w:=by
 have hd:=ki.under
 unfold eq1X at hr
 split at hr
 ·rename_i hk
  rw [hk] at hd
  split at hr
  ·rw [vrel] at hu; subst hu
   split at hr
   ·rw [vrel] at hv; obtain ⟨rfl,hl⟩:=hv
    split at hr
    ·rename_i hf
     cases hr
     rw [run_equalIn_string w d t _ _ hd]
     rw [farT_rel B hl hf]
    ·cases hr
   ·rw [vrel] at hv; subst hv
    split at hr
    ·rename_i hf
     cases hr
     have:=Nat.eq_of_beq_eq_true hf
     subst this
     rw [run_equalIn_string w d t _ _ hd]
     simp
    ·cases hr
   ·cases hr
  ·rw [vrel] at hu; obtain ⟨rfl,hl⟩:=hu
   split at hr
   ·rw [vrel] at hv; subst hv
    split at hr
    ·rename_i hf
     cases hr
     rw [run_equalIn_string w d t _ _ hd]
     rw [beq_comm',farT_rel B hl hf]
    ·cases hr
   ·cases hr
  ·cases hr
 ·cases hr
noncomputable def eq1Y (tt:Nat → Option TypeInfo) (bd:Bd) (h:Tr Ob) (i:TI) (x y:AV):Option Bool:=match eq1 tt h i x y with
 | some b=>some b
 | none=>eq1X bd i x y
theorem eq1Y_rel {P:Program} {tt:Nat → Option TypeInfo} {ff:Nat → Option Func} (T:TabE P tt ff) {η:En} {bd:Bd} (B:BdOk η bd) {ν:Nu} {h:Tr Ob} {w:World} (H:HR η ν h w) {t:TypeId} {i:TI} (ki:TIok P t i) {x y:AV} {u v:Value} (hu:vrel η ν x u) (hv:vrel η ν y v)
  {r:Bool} (hr:eq1Y tt bd h i x y = some r) (d:Nat):(Op.equalIn (d + 1) t u v).run P w = .ok r w:=by
 unfold eq1Y at hr
 split at hr
 ·cases hr
  exact eq1_rel T H ki hu hv ‹_› d
 ·exact eq1X_rel B ki hu hv hr d
noncomputable def eqFX (tt:Nat → Option TypeInfo) (bd:Bd) (h:Tr Ob) (l r:List AV):List (Nat × Nat) → Option Bool
 | []=>some true
 | (ft,off) :: fs=>match tiOf tt ft with
  | none=>none
  | some j=>match partA j l off with
   | none=>none
   | some a=>match partA j r off with
    | none=>none
    | some b=>match eq1Y tt bd h j (unN a) (unN b) with
     | none=>none
     | some false=>some false
     | some true=>eqFX tt bd h l r fs
theorem eqFX_rel {P:Program} {tt:Nat → Option TypeInfo} {ff:Nat → Option Func} (T:TabE P tt ff) {η:En} {bd:Bd} (B:BdOk η bd) {ν:Nu} {h:Tr Ob} {w:World} (H:HR η ν h w) {l r:List AV} {vs us:List Value} (hl:vrels η ν l vs) (hr:vrels η ν r us) (d:Nat) :
  ∀ {fs : List Field} {b : Bool}, (∀ f ∈ fs, f.name ≠ "_") → eqFX tt bd h l r (fieldsL fs) = some b → (Op.eqFields (d + 1) vs.toArray us.toArray fs).run P w = .ok b w
 | [],b,hn,e=>by cases e; rfl
 | f :: fs,b,hn,e=>by
  have hf:=hn f (List.mem_cons_self ..)
  have e':(match tiOf tt f.type with
   | none=>none
   | some j=>match partA j l f.offset with
    | none=>none
    | some a=>match partA j r f.offset with
     | none=>none
     | some c=>match eq1Y tt bd h j (unN a) (unN c) with
      | none=>none
      | some false=>some false
      | some true=>eqFX tt bd h l r (fieldsL fs)) = some b:=e
  split at e'
  ·cases e'
  ·rename_i j hj
   split at e'
   ·cases e'
   ·rename_i a ha
    split at e'
    ·cases e'
    ·rename_i c hc
     have kj:=tiOf_ok T hj
     obtain ⟨v,h1,h2⟩:=partA_rel w kj hl ha
     obtain ⟨u,h3,h4⟩:=partA_rel w kj hr hc
     split at e'
     ·cases e'
     ·rename_i he
      cases e'
      have h5:=eq1Y_rel T B H kj (unN_rel h2) (unN_rel h4) he d
      simp only [Op.eqFields,hf,ne_eq,not_false_eq_true,if_true,Sem.run_bind,h1,Result.andThen_ok,h3,h5,Bool.not_false,Sem.run_pure]
     ·rename_i he
      have h5:=eq1Y_rel T B H kj (unN_rel h2) (unN_rel h4) he d
      have ih:=eqFX_rel T B H hl hr d (fun g hg=>hn g (List.mem_cons_of_mem _ hg)) e'
      simp only [Op.eqFields,hf,ne_eq,not_false_eq_true,if_true,Sem.run_bind,h1,Result.andThen_ok,h3,h5,Bool.not_true,Bool.false_eq_true,if_false]
      exact ih
noncomputable def binG (tt:Nat → Option TypeInfo) (se:Nat → Bool) (bd:Bd) (h:Tr Ob) (op:BinOp) (t:Nat) (x y:AV):Option AV:=match x with
 | .vag l=>match y with
  | .vag r=>match se t with
   | true=>match tiOf tt t with
    | some i=>match i.kind with
     | .struct _=>eqlV op (eqFX tt bd h l r i.fields)
     | _=>none
    | none=>none
   | false=>none
  | _=>none
 | x=>binY bd op x y
theorem binG_rel {P:Program} {tt:Nat → Option TypeInfo} {ff:Nat → Option Func} (T:TabE P tt ff) {se:Nat → Bool} (S:SeOk P se) {η:En} {bd:Bd} (B:BdOk η bd) {ν:Nu} {h:Tr Ob} {w:World} (H:HR η ν h w) {op:BinOp} {t:TypeId} (xo yo:Operand) {x y a:AV} {u v:Value} (hu:vrel η ν x u) (hv:vrel η ν y v) (hr:binG tt se bd h op t x y = some a) :
  ∃ z,((do eqGuard op t xo yo u v; binOp op t u v):Sem Value).run P w = .ok z w ∧ vrel η ν a z:=by
 unfold binG at hr
 split at hr
 ·rename_i l
  split at hr
  ·rename_i m
   split at hr
   ·rename_i hse
    split at hr
    ·rename_i i hi
     have ki:=tiOf_ok T hi
     split at hr
     ·rename_i fs hk
      obtain ⟨s1,s2,s3⟩:=S t hse
      have hd:P.underlying t = some (.struct fs):=by rw [ki.under,hk]
      have hfo:P.fieldsOf t = fs:=by simp [Program.fieldsOf,hd]
      rw [vrel] at hu
      rw [vrel] at hv
      obtain ⟨vs,rfl,hvs⟩:=hu
      obtain ⟨us,rfl,hus⟩:=hv
      rw [ki.struct hk] at hr
      have hg:=run_eqGuard_agg (P:=P) w op t xo yo vs.toArray us.toArray s2
      have go:∀ b,eqFX tt bd h l m (fieldsL fs.toList) = some b → (Op.equalIn 10000 t (.agg vs.toArray) (.agg us.toArray)).run P w = .ok b w:=fun b hb=>by
       rw [run_equalIn_agg w 9999 t _ _ (by rw [hfo]; exact hd) s1,hfo]
       exact eqFX_rel T B H hvs hus 9998 (s3 fs hd) hb
      unfold eqlV at hr
      split at hr
      ·split at hr
       ·rename_i b hb
        cases hr
        exact ⟨.bool b,by simp only [Sem.run_bind,hg,Result.andThen_ok,run_eql_struct,go b hb],by rw [vrel]⟩
       ·cases hr
      ·split at hr
       ·rename_i b hb
        cases hr
        exact ⟨.bool (!b),by simp only [Sem.run_bind,hg,Result.andThen_ok,run_neq_struct,go b hb],by rw [vrel]⟩
       ·cases hr
      ·cases hr
     ·cases hr
    ·cases hr
   ·cases hr
  ·cases hr
 ·exact binY_rel B xo yo hu hv hr
end Go.Proofs.YtoeeackjlclneaaGreatDoor
end
section
namespace Go.Proofs.YtoeeackjlclneaaGreatDoor
set_option linter.unusedVariables false
noncomputable def sameI (a b:AV):Bool:=match unN a with
 | .vi k n=>match unN b with
  | .vi k' m=>Nat.beq (ikN k) (ikN k') && eqI n m
  | _=>false
 | _=>false
noncomputable def sameL:List AV → List AV → Bool
 | [],b=>match b with
  | []=>true
  | _ :: _=>false
 | x :: a,b=>match b with
  | []=>false
  | y :: b=>sameI x y && sameL a b
noncomputable def numsF (tt:Nat → Option TypeInfo) (l:List AV):List (Nat × Nat) → Bool
 | []=>true
 | (ft,off) :: fs=>match tiOf tt ft with
  | none=>false
  | some j=>match j.kind with
   | .int _=>match partA j l off with
    | none=>false
    | some _=>numsF tt l fs
   | _=>false
noncomputable def keyOk (tt:Nat → Option TypeInfo) (se:Nat → Bool) (kt:Nat) (i:TI) (k:AV):Bool:=match i.kind with
 | .string=>match k with
  | .vs _=>true
  | _=>false
 | .struct _=>match k with
  | .vag l=>se kt && numsF tt l i.fields
  | _=>false
 | _=>false
noncomputable def keyE (tt:Nat → Option TypeInfo) (h:Tr Ob) (i:TI) (a b:AV):Option Bool:=match i.kind with
 | .string=>match a with
  | .vs l=>match b with
   | .vs r=>some (beqN l r)
   | _=>none
  | _=>none
 | .struct _=>match a with
  | .vag l=>match b with
   | .vag r=>match eqF tt h l r i.fields with
    | some true=>match sameL l r with
     | true=>some true
     | false=>none
    | some false=>some false
    | none=>none
   | _=>none
  | _=>none
 | _=>none
noncomputable def findE (tt:Nat → Option TypeInfo) (h:Tr Ob) (i:TI) (k:AV):List (AV × AV) → Nat → Option (Option (Nat × AV))
 | [],_=>some none
 | (a,v) :: r,n=>match keyE tt h i k a with
  | none=>none
  | some true=>some (some (n,v))
  | some false=>findE tt h i k r (n + 1)
noncomputable def putE (l:List (AV × AV)) (n:Nat) (k v:AV):List (AV × AV):=match l with
 | []=>[]
 | x :: r=>match n with
  | 0=>(k,v) :: r
  | n + 1=>x :: putE r n k v
noncomputable def opMakeMap (h:Tr Ob) (nx:Nat):Ro := .ok (.vm nx) (h.set nx (.om [])) (nx + 1)
noncomputable def ents (h:Tr Ob) (m:AV):Option (List (AV × AV)):=match m with
 | .vmn=>some []
 | .vm b=>match h.get b with
  | some (.om l)=>some l
  | _=>none
 | _=>none
noncomputable def lkV (ok:Bool) (v:AV) (b:Bool):AV:=match ok with
 | true => .vtp [v,.vb b]
 | false=>v
noncomputable def zeroV (tt:Nat → Option TypeInfo) (t:Nat):Option AV:=match tt t with
 | none=>none
 | some inf=>match inf.zero with
  | none=>none
  | some v=>conc v
noncomputable def opLookup (tt:Nat → Option TypeInfo) (se:Nat → Bool) (i:TI) (m k:AV) (ok:Bool) (h:Tr Ob):Option AV:=match i.kind with
 | .map kt et=>match tiOf tt kt with
  | none=>none
  | some ki=>match tiOf tt et with
   | none=>none
   | some ei=>match keyOk tt se kt ki k with
    | false=>none
    | true=>match ents h m with
     | none=>none
     | some l=>match findE tt h ki k l 0 with
      | none=>none
      | some r=>match r with
       | some (_,v)=>some (lkV ok v true)
       | none=>match zeroV tt et with
        | some z=>some (lkV ok z false)
        | none=>none
 | _=>none
noncomputable def opUpdate (tt:Nat → Option TypeInfo) (se:Nat → Bool) (i:TI) (m k v:AV) (h:Tr Ob):Option (Tr Ob):=match i.kind with
 | .map kt _=>match tiOf tt kt with
  | none=>none
  | some ki=>match keyOk tt se kt ki k with
   | false=>none
   | true=>match m with
    | .vm b=>match h.get b with
     | some (.om l)=>match findE tt h ki k l 0 with
      | none=>none
      | some r=>match r with
       | some (n,_)=>some (h.set b (.om (putE l n k v)))
       | none=>some (h.set b (.om (l ++ [(k,v)])))
     | _=>none
    | _=>none
 | _=>none
theorem sameI_eq {η:En} {ν:Nu} {a b:AV} {u v:Value} (h:sameI a b = true) (hu:vrel η ν a u) (hv:vrel η ν b v):u = v ∧ ∃ k n,u = .int k n:=by
 have hu:=unN_rel hu
 have hv:=unN_rel hv
 unfold sameI at h
 split at h
 ·rename_i k n hk
  split at h
  ·rename_i k' m hk'
   rw [Bool.and_eq_true] at h
   rw [hk,vrel] at hu
   rw [hk',vrel] at hv
   have h1:=Nat.eq_of_beq_eq_true h.1
   have h2:n = m:=by have:=h.2; rw [eqI_eq] at this; exact of_decide_eq_true this
   have h3:k = k':=by cases k <;> cases k' <;> first | rfl | (cases h1; done)
   subst h2 h3
   exact ⟨by rw [hu,hv],k,n,hu⟩
  ·cases h
 ·cases h
theorem sameL_eq {η:En} {ν:Nu}:∀ {a b:List AV} {us vs:List Value},sameL a b = true → vrels η ν a us → vrels η ν b vs → us = vs ∧ ∀ u ∈ us, ∃ k n,u = .int k n
 | [],[],us,vs,h,hu,hv=>by rw [vrels] at hu hv; subst hu hv; exact ⟨rfl,fun u hu=>by cases hu⟩
 | [],_ :: _,us,vs,h,_,_=>by cases h
 | _ :: _,[],us,vs,h,_,_=>by cases h
 | x :: a,y :: b,us,vs,h,hu,hv=>by
  rw [sameL,Bool.and_eq_true] at h
  rw [vrels] at hu
  rw [vrels] at hv
  obtain ⟨u,r,rfl,h1,h2⟩:=hu
  obtain ⟨v,s,rfl,h3,h4⟩:=hv
  obtain ⟨e1,e2⟩:=sameI_eq h.1 h1 h3
  obtain ⟨e3,e4⟩:=sameL_eq h.2 h2 h4
  refine ⟨by rw [e1,e3],fun w hw => ?_⟩
  rcases List.mem_cons.1 hw with rfl | hw
  ·exact e2
  ·exact e4 w hw
theorem sameBits_ints:∀ {us:List Value},(∀ u ∈ us, ∃ k n,u = .int k n) → Instr.sameBits 10000 (.agg us.toArray) (.agg us.toArray) = true:=by
 intro us h
 rw [show (10000:Nat) = 9999 + 1 from rfl,Instr.sameBits]
 simp only [beq_self_eq_true,Bool.true_and,List.all_eq_true]
 rintro ⟨x,y⟩ hxy
 have hxy':x = y ∧ x ∈ us:=by
  have this:=hxy
  clear h hxy
  induction us with
  | nil=>cases this
  | cons u us ih=>
   simp only [List.zip_cons_cons,List.mem_cons,Prod.mk.injEq] at this
   rcases this with ⟨rfl,rfl⟩ | this
   ·exact ⟨rfl,List.mem_cons_self ..⟩
   ·obtain ⟨e1,e2⟩:=ih this
    exact ⟨e1,List.mem_cons_of_mem _ e2⟩
 obtain ⟨rfl,hx⟩:=hxy'
 obtain ⟨k,n,rfl⟩:=h x hx
 rw [show (9999:Nat) = 9998 + 1 from rfl,Instr.sameBits]
 simp
theorem run_checkInt {P:Program} {w:World} {t:TypeId} {k:IntKind} (h:P.underlying t = some (.int k)) (em:Bool) (n:Nat) (v:Value):(Instr.checkKey em (n + 1) t v).run P w = .ok () w:=by
 rw [Instr.checkKey]
 simp only [Sem.run_bind,run_underlying h,Result.andThen_ok]
 cases v <;> rfl
theorem numsF_rel {P:Program} {tt:Nat → Option TypeInfo} {ff:Nat → Option Func} (T:TabE P tt ff) {η:En} {ν:Nu} {w:World} {l:List AV} {vs:List Value} (hl:vrels η ν l vs):∀ {fs:List Field},numsF tt l (fieldsL fs) = true →
  ∀ f ∈ fs, ∃ a,(part f.type vs.toArray f.offset).run P w = .ok a w ∧ ∃ k,P.underlying f.type = some (.int k)
 | [],_,f,hf=>by cases hf
 | x :: fs,h,f,hf=>by
  have h':(match tiOf tt x.type with
   | none=>false
   | some j=>match j.kind with
    | .int _=>match partA j l x.offset with
     | none=>false
     | some _=>numsF tt l (fieldsL fs)
    | _=>false) = true:=h
  split at h'
  ·cases h'
  ·rename_i j hj
   split at h'
   ·rename_i k hk
    split at h'
    ·cases h'
    ·rename_i a ha
     rcases List.mem_cons.1 hf with rfl | hf
     ·obtain ⟨v,h1, -⟩:=partA_rel (P:=P) w (tiOf_ok T hj) hl ha
      exact ⟨v,h1,k,by rw [(tiOf_ok T hj).under,hk]⟩
     ·exact numsF_rel T hl h' f hf
   ·cases h'
theorem keyOk_rel {P:Program} {tt:Nat → Option TypeInfo} {ff:Nat → Option Func} {se:Nat → Bool} (T:TabE P tt ff) (S:SeOk P se) {η:En} {ν:Nu} {w:World} {kt:TypeId} {i:TI} (ki:TIok P kt i) {k:AV} {u:Value} (hu:vrel η ν k u) (h:keyOk tt se kt i k = true) (em:Bool) :
  (Instr.checkKey em 10000 kt u).run P w = .ok () w:=by
 have hd:=ki.under
 rw [show (10000:Nat) = 9999 + 1 from rfl,Instr.checkKey]
 simp only [Sem.run_bind,run_underlying hd,Result.andThen_ok]
 unfold keyOk at h
 split at h
 ·rename_i hk
  split at h
  ·rw [vrel] at hu; obtain ⟨rfl, -⟩:=hu
   rw [hk]; rfl
  ·cases h
 ·rename_i fs hk
  split at h
  ·rename_i l
   rw [vrel] at hu; obtain ⟨vs,rfl,hl⟩:=hu
   rw [Bool.and_eq_true] at h
   rw [hk]
   have hfs:i.fields = fieldsL fs.toList:=by
    obtain ⟨inf,hm⟩:=ki.made
    rw [hm,hk]; rfl
   rw [hfs] at h
   have hf:=numsF_rel (P:=P) (w:=w) T hl h.2
   have hn : ∀ f ∈ fs.toList, f.name ≠ "_" := (S kt h.1).2.2 fs (by rw [hd, hk])
   show (do for f in fs do if f.name ≠ "_" then Instr.checkKey em 9999 f.type (← part f.type vs.toArray f.offset) : Sem Unit).run P w = _
   rw [← Array.forIn_toList]
   generalize fs.toList = L at hf hn
   induction L with
   | nil=>simp
   | cons f L ih=>
    obtain ⟨a,h1,kk,h2⟩:=hf f (List.mem_cons_self ..)
    have h3:=hn f (List.mem_cons_self ..)
    have h4:=run_checkInt (P:=P) (w:=w) h2 em 9998 a
    simp only [List.forIn_cons,Sem.run_bind,h3,ne_eq,not_false_eq_true,if_true,Result.andThen_ok,h1,h4,Sem.run_pure]
    have ih':=ih (fun y hy=>hf y (List.mem_cons_of_mem _ hy)) (fun y hy=>hn y (List.mem_cons_of_mem _ hy))
    simp only [Sem.run_bind,ne_eq,Sem.run_pure] at ih'
    exact ih'
  ·cases h
 ·cases h
theorem keyE_str {tt:Nat → Option TypeInfo} {h:Tr Ob} {i:TI} (hk:i.kind = .string) {η:En} {ν:Nu} {a b:AV} {u v:Value} (hu:vrel η ν a u) (hv:vrel η ν b v) {r:Bool} (hr:keyE tt h i a b = some r) :
  Instr.sameNow .string u v = some r ∧ (r = true → v = u ∧ ∃ x,u = .string x):=by
 unfold keyE at hr
 rw [hk] at hr
 simp only at hr
 split at hr
 ·rename_i l
  split at hr
  ·rename_i m
   cases hr
   rw [vrel] at hu; rw [vrel] at hv
   obtain ⟨rfl,h1⟩:=hu
   obtain ⟨rfl,h2⟩:=hv
   obtain ⟨r,h3,h4⟩:=MapKept.sameNow_of_keys (d := .string) (a := .string (bytesOfN l)) (b := .string (bytesOfN m)) trivial trivial
   have key:beqN l m = r:=by
    rw [← beqN_rel h1 h2]
    cases r with
    | true=>
     have:=Value.string.inj (h4.1 rfl)
     rw [this]; simp
    | false=>
     cases hb:((bytesOfN l).toList == (bytesOfN m).toList)
     ·rfl
     ·have h5:l = m:=by
       rw [beqN_rel h1 h2,beqN_eq] at hb
       exact of_decide_eq_true hb
      rw [h5] at h4
      have:=h4.2 rfl; cases this
   rw [key]
   exact ⟨h3,fun e=>⟨(h4.1 e).symm,_,rfl⟩⟩
  ·cases hr
 ·cases hr
theorem keyE_struct {P:Program} {tt:Nat → Option TypeInfo} {ff:Nat → Option Func} {se:Nat → Bool} (T:TabE P tt ff) (S:SeOk P se) {η:En} {ν:Nu} {h:Tr Ob} {w:World} (H:HR η ν h w) {kt:TypeId} {i:TI} (ki:TIok P kt i) (hse:se kt = true) {fs:Array Field} (hk:i.kind = .struct fs) {a b:AV} {u v:Value}
  (hu:vrel η ν a u) (hv:vrel η ν b v) {r:Bool} (hr:keyE tt h i a b = some r):(Op.equal kt u v).run P w = .ok r w ∧ (r = true → v = u ∧ Instr.sameBits 10000 u u = true):=by
 unfold keyE at hr
 rw [hk] at hr
 simp only at hr
 split at hr
 ·rename_i l
  split at hr
  ·rename_i m
   obtain ⟨s1,s2,s3⟩:=S kt hse
   have hd:P.underlying kt = some (.struct fs):=by rw [ki.under,hk]
   have hfo:P.fieldsOf kt = fs:=by simp [Program.fieldsOf,hd]
   rw [vrel] at hu
   rw [vrel] at hv
   obtain ⟨vs,rfl,hvs⟩:=hu
   obtain ⟨us,rfl,hus⟩:=hv
   rw [ki.struct hk] at hr
   have go:∀ b,eqF tt h l m (fieldsL fs.toList) = some b → (Op.equalIn 10000 kt (.agg vs.toArray) (.agg us.toArray)).run P w = .ok b w:=fun b hb=>by
    rw [run_equalIn_agg w 9999 kt _ _ (by rw [hfo]; exact hd) s1,hfo]
    exact eqF_rel T H hvs hus 9998 (s3 fs hd) hb
   split at hr
   ·rename_i hb
    split at hr
    ·rename_i hs
     cases hr
     obtain ⟨e1,e2⟩:=sameL_eq hs hvs hus
     subst e1
     exact ⟨go true hb,fun _=>⟨rfl,sameBits_ints e2⟩⟩
    ·cases hr
   ·rename_i hb
    cases hr
    exact ⟨go false hb,fun e=>by cases e⟩
   ·cases hr
  ·cases hr
 ·cases hr
def FR (η:En) (ν:Nu) (es:List MapEntry) (u:Value) (n:Nat) (r:Option (Nat × AV)) (R:Option (Nat × Value)):Prop:=
 (r = none ∧ R = none) ∨ ∃ m a e,r = some (n + m,a) ∧ R = some (n + m,e.val) ∧ vrel η ν a e.val ∧ es[m]? = some e ∧ e.key = u ∧ Instr.sameBits 10000 u u = true
theorem FR.cons {η:En} {ν:Nu} {es:List MapEntry} {x:MapEntry} {u:Value} {n:Nat} {r:Option (Nat × AV)} {R:Option (Nat × Value)} (h:FR η ν es u (n + 1) r R):FR η ν (x :: es) u n r R:=by
 rcases h with h | ⟨m,a,e,h1,h2,h3,h4,h5⟩
 ·exact Or.inl h
 ·exact Or.inr ⟨m + 1,a,e,by rw [h1]; congr 2; omega,by rw [h2]; congr 2; omega,h3,by simpa using h4,h5⟩
theorem findE_str {P:Program} {tt:Nat → Option TypeInfo} {h:Tr Ob} {i:TI} (hk:i.kind = .string) {η:En} {ν:Nu} {k:AV} {u:Value} (hu:vrel η ν k u):∀ {l:List (AV × AV)} {es:List MapEntry} {n:Nat} {r:Option (Nat × AV)},entRm η ν l es → findE tt h i k l n = some r →
  ∃ R,Instr.findNow .string u es n = some R ∧ FR η ν es u n r R
 | [],es,n,r,he,hr=>by
  have he':es = []:=he
  subst he'
  cases hr; exact ⟨none,rfl,Or.inl ⟨rfl,rfl⟩⟩
 | (a,v) :: l,es,n,r,⟨e,es',he',h1,h2,h3⟩,hr=>by
  subst he'
  rw [findE] at hr
  split at hr
  ·cases hr
  ·rename_i hb
   cases hr
   obtain ⟨h4,h5⟩:=keyE_str hk hu h1 hb
   obtain ⟨h6,x,h7⟩:=h5 rfl
   refine ⟨some (n,e.val),by rw [Instr.findNow,h4],Or.inr ⟨0,v,e,rfl,rfl,h2,rfl,h6, ?_⟩⟩
   rw [h7,show (10000:Nat) = 9999 + 1 from rfl,Instr.sameBits]
   have:=(MapKept.sameNow_of_keys (d := .string) (a := .string x) (b := .string x) trivial trivial)
   obtain ⟨r,g1,g2⟩:=this
   rw [g2.2 rfl] at g1
   exact Option.some.inj g1
  ·rename_i hb
   obtain ⟨h4, -⟩:=keyE_str hk hu h1 hb
   obtain ⟨R,h5,h6⟩:=findE_str (P:=P) hk hu h3 hr
   exact ⟨R,by rw [Instr.findNow,h4]; exact h5,h6.cons⟩
theorem findE_struct {P:Program} {tt:Nat → Option TypeInfo} {ff:Nat → Option Func} {se:Nat → Bool} (T:TabE P tt ff) (S:SeOk P se) {η:En} {ν:Nu} {h:Tr Ob} {w:World} (H:HR η ν h w) {kt:TypeId} {i:TI} (ki:TIok P kt i) (hse:se kt = true) {fs:Array Field} (hk:i.kind = .struct fs) {k:AV} {u:Value} (hu:vrel η ν k u) :
  ∀ {l:List (AV × AV)} {es:List MapEntry} {n:Nat} {r:Option (Nat × AV)},entRm η ν l es → findE tt h i k l n = some r → ∃ R,(Instr.findAsking kt u es n).run P w = .ok R w ∧ FR η ν es u n r R
 | [],es,n,r,he,hr=>by
  have he':es = []:=he
  subst he'
  cases hr; exact ⟨none,rfl,Or.inl ⟨rfl,rfl⟩⟩
 | (a,v) :: l,es,n,r,⟨e,es',he',h1,h2,h3⟩,hr=>by
  subst he'
  rw [findE] at hr
  split at hr
  ·cases hr
  ·rename_i hb
   cases hr
   obtain ⟨h4,h5⟩:=keyE_struct (P:=P) T S H ki hse hk hu h1 hb
   obtain ⟨h6,h7⟩:=h5 rfl
   exact ⟨some (n,e.val),by rw [Instr.findAsking]; simp only [Sem.run_bind,h4,Result.andThen_ok,if_true,Sem.run_pure],Or.inr ⟨0,v,e,rfl,rfl,h2,rfl,h6,h7⟩⟩
  ·rename_i hb
   obtain ⟨h4, -⟩:=keyE_struct (P:=P) T S H ki hse hk hu h1 hb
   obtain ⟨R,h5,h6⟩:=findE_struct (P:=P) T S H ki hse hk hu h3 hr
   exact ⟨R,by rw [Instr.findAsking]; simp only [Sem.run_bind,h4,Result.andThen_ok,Bool.false_eq_true,if_false]; exact h5,h6.cons⟩
theorem findE_rel {P:Program} {tt:Nat → Option TypeInfo} {ff:Nat → Option Func} {se:Nat → Bool} (T:TabE P tt ff) (S:SeOk P se) {η:En} {ν:Nu} {h:Tr Ob} {w:World} (H:HR η ν h w) {kt:TypeId} {i:TI} (ki:TIok P kt i) {k:AV} {u:Value} (hu:vrel η ν k u) (hok:keyOk tt se kt i k = true)
  {l:List (AV × AV)} {es:List MapEntry} {r:Option (Nat × AV)} (he:entRm η ν l es) (hr:findE tt h i k l 0 = some r):∃ R,(Instr.findKey kt u es).run P w = .ok R w ∧ FR η ν es u 0 r R:=by
 have hd:=ki.under
 unfold keyOk at hok
 split at hok
 ·rename_i hk
  obtain ⟨R,h1,h2⟩:=findE_str (P:=P) hk hu he hr
  exact ⟨R,MapKept.run_findKey (by rw [hd,hk]) h1,h2⟩
 ·rename_i fs hk
  split at hok
  ·rename_i lk
   rw [Bool.and_eq_true] at hok
   obtain ⟨R,h1,h2⟩:=findE_struct (P:=P) T S H ki hok.1 hk hu he hr
   refine ⟨R, ?_,h2⟩
   rw [← h1]
   cases es with
   | nil=>simp [Instr.findKey,run_underlying hd,Instr.findNow,Instr.findAsking]
   | cons e es=>simp [Instr.findKey,run_underlying hd,hk,Instr.findNow,Instr.sameNow]
  ·cases hok
 ·cases hok
theorem zeroV_rel {P:Program} {tt:Nat → Option TypeInfo} {ff:Nat → Option Func} (T:TabE P tt ff) {η:En} {ν:Nu} {w:World} {t:TypeId} {z:AV} (hz:zeroV tt t = some z):∃ v,(zeroValue t).run P w = .ok v w ∧ vrel η ν z v:=by
 unfold zeroV at hz
 split at hz
 ·cases hz
 ·rename_i inf hi
  split at hz
  ·cases hz
  ·rename_i v hv
   exact ⟨v,by simp [zeroValue,typeInfo,T.tt t inf hi,hv],conc_rel hz η ν⟩
theorem lkV_rel {η:En} {ν:Nu} {ok b:Bool} {a:AV} {v:Value} (h:vrel η ν a v):vrel η ν (lkV ok a b) (if ok then .tuple #[v,.bool b] else v):=by
 cases ok
 ·exact h
 ·show vrel η ν (.vtp [a,.vb b]) (.tuple #[v,.bool b])
  rw [vrel]
  exact ⟨[v,.bool b],rfl,vrels_cons.2 ⟨h,vrels_cons.2 ⟨by rw [vrel],vrels_nil.2 rfl⟩⟩⟩
theorem opLookup_rel {P:Program} {tt:Nat → Option TypeInfo} {ff:Nat → Option Func} {se:Nat → Bool} (T:TabE P tt ff) (S:SeOk P se) {η:En} {ν:Nu} {h:Tr Ob} {w:World} (H:HR η ν h w) {t:TypeId} {i:TI} (ki:TIok P t i) {m k a:AV} {u v:Value} (hu:vrel η ν m u) (hv:vrel η ν k v) {ok:Bool}
  (hr:opLookup tt se i m k ok h = some a):∃ x,(Instr.lookup t u v ok).run P w = .ok x w ∧ vrel η ν a x:=by
 have hd:=ki.under
 unfold opLookup at hr
 split at hr
 ·rename_i kt et hk
  rw [hk] at hd
  split at hr
  ·cases hr
  ·rename_i kti hkt
   split at hr
   ·cases hr
   ·rename_i eti het
    split at hr
    ·cases hr
    ·rename_i hok
     split at hr
     ·cases hr
     ·rename_i l hl
      split at hr
      ·cases hr
      ·rename_i r hf
       have look:∀ es:Array MapEntry,entRm η ν l es.toList → (u = .map none ∧ es = #[] ∨ ∃ B c,u = .map (some B) ∧ w.heap[B]? = some (.map es c)) → ∃ x,(Instr.lookup t u v ok).run P w = .ok x w ∧ vrel η ν a x:=fun es g2 hu'=>by
        have g3:=keyOk_rel (P:=P) (w:=w) T S (tiOf_ok T hkt) hv hok es.isEmpty
        obtain ⟨R,g4,g5⟩:=findE_rel (P:=P) T S H (tiOf_ok T hkt) hv hok g2 hf
        rcases g5 with ⟨rfl,rfl⟩ | ⟨j,av,e,rfl,rfl,h3, -⟩
        ·simp only at hr
         split at hr
         ·rename_i z hz
          cases hr
          obtain ⟨x,z1,z2⟩:=zeroV_rel (P:=P) (η:=η) (ν:=ν) (w:=w) T hz
          refine ⟨_, ?_,lkV_rel z2⟩
          rcases hu' with ⟨rfl,rfl⟩ | ⟨B,c,rfl,hb⟩
          ·have g3':(Instr.checkKey true 10000 kt v).run P w = .ok () w:=g3
           have g4':(Instr.findKey kt v []).run P w = .ok none w:=g4
           simp [Instr.lookup,run_underlying hd,g3',g4',z1,Result.andThen]
          ·simp [Instr.lookup,run_underlying hd,MapKept.run_getObj_map hb,g3,g4,z1,Result.andThen]
         ·cases hr
        ·cases hr
         refine ⟨_, ?_,lkV_rel h3⟩
         rcases hu' with ⟨rfl,rfl⟩ | ⟨B,c,rfl,hb⟩
         ·have g3':(Instr.checkKey true 10000 kt v).run P w = .ok () w:=g3
          have g4':(Instr.findKey kt v []).run P w = .ok (some (0 + j,e.val)) w:=g4
          simp [Instr.lookup,run_underlying hd,g3',g4',Result.andThen]
         ·simp [Instr.lookup,run_underlying hd,MapKept.run_getObj_map hb,g3,g4,Result.andThen]
       unfold ents at hl
       split at hl
       ·cases hl
        rw [vrel] at hu
        exact look #[] rfl (Or.inl ⟨hu,rfl⟩)
       ·rename_i b
        split at hl
        ·rename_i l' hg
         cases hl
         rw [vrel] at hu
         obtain ⟨q,hq,hu⟩:=hu
         obtain ⟨ob,h1,es,c,rfl,h2⟩:=H.get hg hq
         exact look es h2 (Or.inr ⟨q.b,c,hu,h1⟩)
        ·cases hl
       ·cases hl
 ·cases hr
theorem opMakeMap_rel {P:Program} {η:En} {ν:Nu} {h h':Tr Ob} {w:World} {nx nx':Nat} (H:HR η ν h w) (X:Nx ν nx) {t:TypeId} {a:AV} (hr:opMakeMap h nx = .ok a h' nx'):Good η ν h w ((Instr.makeMap t none).run P w) a h' nx':=by
 cases hr
 obtain ⟨h1,h2,h3⟩:=H.new X (.map #[] 0) (.om []) 0 ⟨#[],0,rfl,rfl⟩
 exact ⟨.map (some w.heap.size),_,_,rfl,by rw [vrel]; exact ⟨_,if_pos rfl,rfl⟩,h1,h2,h3⟩
theorem putE_rel {η:En} {ν:Nu} {k v:AV} {u x:Value} (hk:vrel η ν k u) (hv:vrel η ν v x):∀ {l:List (AV × AV)} {es:List MapEntry} {n:Nat},entRm η ν l es → ∀ f:MapEntry → MapEntry,(∀ e,(f e).key = u ∧ (f e).val = x) → entRm η ν (putE l n k v) (es.modify n f)
 | [],es,n,he,f,hf=>by
  have he':es = []:=he
  subst he'
  cases n <;> exact rfl
 | (a,b) :: l,es,n,⟨e,es',he',h1,h2,h3⟩,f,hf=>by
  subst he'
  cases n with
  | zero=>exact ⟨f e,es',rfl,by rw [(hf e).1]; exact hk,by rw [(hf e).2]; exact hv,h3⟩
  | succ n=>exact ⟨e,es'.modify n f,rfl,h1,h2,putE_rel hk hv h3 f hf⟩
theorem entR_push {η:En} {ν:Nu} {k v:AV} {e:MapEntry} (hk:vrel η ν k e.key) (hv:vrel η ν v e.val):∀ {l:List (AV × AV)} {es:List MapEntry},entRm η ν l es → entRm η ν (l ++ [(k,v)]) (es ++ [e])
 | [],es,he=>by
  have he':es = []:=he
  subst he'
  exact ⟨e,[],rfl,hk,hv,rfl⟩
 | (a,b) :: l,es,⟨x,es',he',h1,h2,h3⟩=>by
  subst he'
  exact ⟨x,es' ++ [e],rfl,h1,h2,entR_push hk hv h3⟩
theorem opUpdate_rel {P:Program} {tt:Nat → Option TypeInfo} {ff:Nat → Option Func} {se:Nat → Bool} (T:TabE P tt ff) (S:SeOk P se) {η:En} {ν:Nu} {h h':Tr Ob} {w:World} (H:HR η ν h w) {t:TypeId} {i:TI} (ki:TIok P t i) {m k a:AV} {u v x:Value} (hu:vrel η ν m u) (hv:vrel η ν k v) (hx:vrel η ν a x)
  (hr:opUpdate tt se i m k a h = some h'):∃ w',(Instr.mapUpdate t u v x).run P w = .ok () w' ∧ HR η ν h' w' ∧ Fr ν h w ν h' w':=by
 have hd:=ki.under
 unfold opUpdate at hr
 split at hr
 ·rename_i kt et hk
  rw [hk] at hd
  split at hr
  ·cases hr
  ·rename_i kti hkt
   split at hr
   ·cases hr
   ·rename_i hok
    split at hr
    ·rename_i b
     split at hr
     ·rename_i l hg
      split at hr
      ·cases hr
      ·rename_i r hf
       rw [vrel] at hu
       obtain ⟨q,hq,rfl⟩:=hu
       obtain ⟨ob,h1,es,c,rfl,h2⟩:=H.get hg hq
       have g3:=keyOk_rel (P:=P) (w:=w) T S (tiOf_ok T hkt) hv hok false
       obtain ⟨R,g4,g5⟩:=findE_rel (P:=P) T S H (tiOf_ok T hkt) hv hok h2 hf
       have fin:∀ (es':Array MapEntry) (c':Nat) (l':List (AV × AV)),entRm η ν l' es'.toList → some (h.set b (.om l')) = some h' → (Instr.mapUpdate t (.map (some q.b)) v x).run P w = .ok () { w with heap:=w.heap.setIfInBounds q.b (.map es' c') } →
         ∃ w',(Instr.mapUpdate t (.map (some q.b)) v x).run P w = .ok () w' ∧ HR η ν h' w' ∧ Fr ν h w ν h' w':=fun es' c' l' he e run=>by
        cases e
        have hs:=MapKept.heap_set (o' := .map es' c') h1
        obtain ⟨k1,k2⟩:=H.upd (w':={ w with heap:=w.heap.setIfInBounds q.b (.map es' c') }) (o' := .om l') (ob' := .map es' c') hg rfl rfl hq (by simp) hs.1 (fun C hC=>hs.2 C hC) ⟨rfl,rfl,rfl⟩ ⟨es',c',rfl,he⟩
        exact ⟨_,run,k1,k2⟩
       rcases g5 with ⟨rfl,rfl⟩ | ⟨j,av,e,rfl,rfl,h3,h4,h5,h6⟩
       ·refine fin (es.push ⟨v,x,c⟩) (c + 1) _ ?_ hr ?_
        ·rw [Array.toList_push]; exact entR_push hv hx h2
        ·simp [Instr.mapUpdate,run_underlying hd,MapKept.run_getObj_map h1,g3,g4,MapKept.run_setObj_map _ h1,Result.andThen]
       ·have hj:es[j]? = some e:=by simpa using h4
        have kts:(Instr.keyThatStays e.key v).run P w = .ok v w:=by
         rw [h5]; simp [Instr.keyThatStays,h6]
        refine fin (es.modify j (fun e'=>{ e' with key:=v,val:=x })) c _ ?_ hr ?_
        ·rw [Array.toList_modify,Nat.zero_add]
         exact putE_rel hv hx h2 _ fun e=>⟨rfl,rfl⟩
        ·simp [Instr.mapUpdate,run_underlying hd,MapKept.run_getObj_map h1,g3,g4,hj,kts,MapKept.run_setObj_map _ h1,Result.andThen]
     ·cases hr
    ·cases hr
 ·cases hr
end Go.Proofs.YtoeeackjlclneaaGreatDoor
end
