/-
  Texts joined: TlCls.
-/
import Derived.Test.YtoeeackjlclneaaGreatDoorEvC7
import Derived.Lib.ItoaMem
section
namespace Go.Proofs.YtoeeackjlclneaaGreatDoor
open Go.RowKit
set_option linter.unusedVariables false
set_option maxRecDepth 10000
theorem wi_in {lo hi:Int} (h0:0 ≤ lo) (h1:lo ≤ hi) (n:Int):lo ≤ wiF n lo hi ∧ wiF n lo hi ≤ hi:=by
 have hm0:(n.tmod (hi - lo + 1)) < hi - lo + 1:=Int.tmod_lt_of_pos _ (by omega)
 have hm1 : -(hi - lo + 1) < n.tmod (hi - lo + 1):=by
  have h:=Int.tmod_lt_of_pos (-n) (show 0 < hi - lo + 1 by omega)
  rw [Int.neg_tmod] at h
  omega
 unfold wiF
 split <;> omega
structure In64 (x:Int):Prop where
 low : -9223372036854775808 ≤ x
 high:x ≤ 9223372036854775807
def preL:List Nat:=[109,97,120,45,97,103,101,61]
def preB:List UInt8:=preL.map UInt8.ofNat
def ctlB (v:Nat):List UInt8:=preB ++ Lib.decDigits v
noncomputable def strA (body:ByteArray) (v:Nat) (i:Nat):ByteArray:=match i with
 | 0=>body
 | 1=>⟨(Lib.decDigits v).toArray⟩
 | 2=>⟨(ctlB v).toArray⟩
 | 3=>⟨(encF (ctlB v)).toArray⟩
 | _=>ByteArray.empty
def byAt (s:ByteArray) (j:Nat):Int:=match s[j]? with
 | some c=>(c.toNat:Int)
 | none=>0
noncomputable def numA (body:ByteArray) (v:Nat) (n a:Int) (i:Nat):Int:=
 if i < 16 then ((strA body v i).size:Int) else if i = 17 then (v:Int) else if i = 18 then n else if i = 19 then a else if i = 2049 then 2 else if 1024 ≤ i ∧ i < 2048 then byAt (strA body v ((i - 1024) / 64)) ((i - 1024) % 64) else 0
noncomputable def etaA (body:ByteArray) (v:Nat) (n a:Int) (w:World):En where
 str:=strA body v
 num:=numA body v n a
 w0:=w
def digBd (d j:Nat):Option (Nat × Nat):=match Nat.blt j d with
 | false=>none
 | true=>match j with
  | 0=>some (49,57)
  | _ + 1=>some (48,57)
def preBd (j:Nat):Option (Nat × Nat):=match preL[j]? with
 | some c=>some (c,c)
 | none=>none
noncomputable def bdA (d c b0 b1:Nat) (i:Nat):Option (Nat × Nat):=match Nat.blt i 16 with
 | true=>match i with
  | 0=>some (b0,b1)
  | 1=>some (d,d)
  | 2=>some (8 + d,8 + d)
  | 3=>some (c,c)
  | _=>none
 | false=>match Nat.beq i 17 with
  | true=>some (10 ^ (d - 1),10 ^ d - 1)
  | false=>match Nat.beq i 2049 with
   | true=>some (2,8)
   | false=>match Nat.blt i 1088 with
    | true=>none
    | false=>match Nat.blt i 1152 with
     | true=>digBd d (i - 1088)
     | false=>match Nat.blt i 1216 with
      | false=>none
      | true=>match Nat.blt (i - 1152) 8 with
       | true=>preBd (i - 1152)
       | false=>digBd d (i - 1160)
structure DigN (v d:Nat):Prop where
 d1:1 ≤ d
 d7:d ≤ 7
 lo:10 ^ (d - 1) ≤ v
 hi:v < 10 ^ d
theorem DigN.nd {v d:Nat} (h:DigN v d):Lib.nDigits v = d:=by
 obtain ⟨e,rfl⟩:∃ e,d = e + 1:=⟨d - 1,by have:=h.d1; omega⟩
 exact Lib.nDigits_unique e v h.lo h.hi
theorem DigN.len {v d:Nat} (h:DigN v d):(Lib.decDigits v).length = d:=by rw [Lib.decDigits_length,h.nd]
theorem dig_toNat (u j:Nat):(Lib.dg u j).toNat = 48 + u / 10 ^ j % 10:=by
 unfold Lib.dg
 rw [UInt8.toNat_ofNat']
 omega
theorem DigN.at {v d:Nat} (h:DigN v d) {j:Nat} (hj:j < d):∃ c,(Lib.decDigits v)[j]? = some c ∧ 48 ≤ c.toNat ∧ c.toNat ≤ 57 ∧ (j = 0 → 49 ≤ c.toNat):=by
 refine ⟨Lib.dg v (d - 1 - j), ?_, ?_⟩
 ·rw [Lib.decDigits_eq,h.nd,List.getElem?_map,List.getElem?_range hj]
  rfl
 ·rw [dig_toNat]
  refine ⟨by omega,by omega,fun e => ?_⟩
  subst e
  have h1:=h.lo
  have h2:=h.hi
  have hp:0 < 10 ^ (d - 1):=Nat.pow_pos (by decide)
  have h3:1 ≤ v / 10 ^ (d - 1):=(Nat.le_div_iff_mul_le hp).2 (by omega)
  have h4:v / 10 ^ (d - 1) < 10:=(Nat.div_lt_iff_lt_mul hp).2 (by
   have e:d = (d - 1) + 1:=by have:=h.d1; omega
   rw [e,Nat.pow_succ,Nat.mul_comm] at h2
   exact h2)
  rw [Nat.sub_zero]
  omega
theorem blt_f {a b:Nat} (h:Nat.blt a b = false) : ¬ a < b:=fun h1=>by
 rw [show Nat.blt a b = true from Nat.ble_eq_true_of_le h1] at h
 cases h
theorem digBd_eq {v d:Nat} (D:DigN v d) {j:Nat} {r:Nat × Nat} (h:digBd d j = some r):∃ c,(Lib.decDigits v)[j]? = some c ∧ r.1 ≤ c.toNat ∧ c.toNat ≤ r.2:=by
 unfold digBd at h
 split at h
 ·cases h
 ·rename_i hj
  obtain ⟨c,h1,h2,h3,h4⟩:=D.at (Nat.le_of_ble_eq_true hj)
  split at h
  ·cases h
   exact ⟨c,h1,h4 rfl,h3⟩
  ·cases h
   exact ⟨c,h1,h2,h3⟩
theorem preL_lt:∀ j < 8, ∃ c,preL[j]? = some c ∧ c < 256:=by decide
theorem preBd_eq {v j:Nat} (hj:j < 8) {r:Nat × Nat} (h:preBd j = some r):∃ c,(ctlB v)[j]? = some c ∧ r.1 ≤ c.toNat ∧ c.toNat ≤ r.2:=by
 obtain ⟨c,h1,h2⟩:=preL_lt j hj
 unfold preBd at h
 rw [h1] at h
 cases h
 refine ⟨UInt8.ofNat c, ?_, ?_⟩
 ·unfold ctlB preB
  rw [List.getElem?_append_left (by rw [List.length_map]; exact hj),List.getElem?_map,h1]
  rfl
 ·rw [UInt8.toNat_ofNat']
  omega
theorem ctlB_len {v d:Nat} (D:DigN v d):(ctlB v).length = 8 + d:=by
 unfold ctlB
 rw [List.length_append,D.len]
 rfl
theorem ctlB_dig {v j:Nat}:(ctlB v)[8 + j]? = (Lib.decDigits v)[j]? := by
 unfold ctlB
 rw [List.getElem?_append_right (by show 8 ≤ 8 + j; omega)]
 show (Lib.decDigits v)[8 + j - 8]? = _
 rw [Nat.add_sub_cancel_left]
theorem ba_get {l:List UInt8} {j:Nat}:(⟨l.toArray⟩:ByteArray)[j]? = l[j]? := by
 by_cases h:j < l.length
 ·rw [List.getElem?_eq_getElem h,getElem?_pos (⟨l.toArray⟩:ByteArray) j (by simpa [ByteArray.size] using h)]
  rw [ByteArray.getElem_eq_getElem_data]
  simp
 ·rw [List.getElem?_eq_none (by omega),getElem?_neg (⟨l.toArray⟩:ByteArray) j (by simpa [ByteArray.size] using h)]
theorem ba_size {l:List UInt8}:(⟨l.toArray⟩:ByteArray).size = l.length:=by simp [ByteArray.size]
theorem bdA_at {v d c b0 b1:Nat} (D:DigN v d) {body:ByteArray} {i:Nat} {r:Nat × Nat} (h0 : ¬ i < 16) (h17:i ≠ 17) (h2:i ≠ 2049) (h:bdA d c b0 b1 i = some r) :
  1024 ≤ i ∧ i < 2048 ∧ ∃ x:UInt8,(strA body v ((i - 1024) / 64))[(i - 1024) % 64]? = some x ∧ r.1 ≤ x.toNat ∧ x.toNat ≤ r.2:=by
 unfold bdA at h
 split at h
 ·rename_i h1; exact absurd (Nat.le_of_ble_eq_true h1) h0
 split at h
 ·rename_i h1; exact absurd (Nat.eq_of_beq_eq_true h1) h17
 split at h
 ·rename_i h1; exact absurd (Nat.eq_of_beq_eq_true h1) h2
 split at h
 ·cases h
 rename_i g1
 have g1:=blt_f g1
 split at h
 ·rename_i g2
  have g2:i < 1152:=Nat.le_of_ble_eq_true g2
  refine ⟨by omega,by omega, ?_⟩
  rw [show (i - 1024) / 64 = 1 by omega,show (i - 1024) % 64 = i - 1088 by omega]
  obtain ⟨x,e1,e2,e3⟩:=digBd_eq D h
  exact ⟨x,by rw [strA,ba_get]; exact e1,e2,e3⟩
 rename_i g2
 have g2:=blt_f g2
 split at h
 ·cases h
 rename_i g3
 have g3:i < 1216:=Nat.le_of_ble_eq_true g3
 refine ⟨by omega,by omega, ?_⟩
 rw [show (i - 1024) / 64 = 2 by omega,show (i - 1024) % 64 = i - 1152 by omega]
 split at h
 ·rename_i g4
  obtain ⟨x,e1,e2,e3⟩:=preBd_eq (v:=v) (Nat.le_of_ble_eq_true g4) h
  exact ⟨x,by rw [strA,ba_get]; exact e1,e2,e3⟩
 ·rename_i g4
  have g4:=blt_f g4
  obtain ⟨x,e1,e2,e3⟩:=digBd_eq D h
  refine ⟨x, ?_,e2,e3⟩
  rw [strA,ba_get,show i - 1152 = 8 + (i - 1160) by omega,ctlB_dig]
  exact e1
theorem bdA_ok {v d c b0 b1:Nat} (D:DigN v d) {body:ByteArray} {n a:Int} {w:World} (hb0:b0 ≤ body.size) (hb1:body.size ≤ b1) (hc:(encF (ctlB v)).length = c):BdOk (etaA body v n a w) (bdA d c b0 b1):=by
 refine ⟨fun i lo hi h => ?_,fun i h => ?_,fun i l r hi hl h => ?_,fun i j r hi hj h => ?_,fun j k m hj hk h => ?_⟩
 ·show (lo:Int) ≤ numA body v n a i ∧ numA body v n a i ≤ (hi:Int)
  unfold numA
  by_cases h0:i < 16
  ·rw [if_pos h0]
   unfold bdA at h
   rw [show Nat.blt i 16 = true from Nat.ble_eq_true_of_le h0] at h
   simp only at h
   split at h
   ·cases h; exact ⟨Int.ofNat_le.2 hb0,Int.ofNat_le.2 hb1⟩
   ·cases h; rw [strA,ba_size,D.len]; exact ⟨Int.le_refl _,Int.le_refl _⟩
   ·cases h; rw [strA,ba_size,ctlB_len D]; exact ⟨Int.le_refl _,Int.le_refl _⟩
   ·cases h; rw [strA,ba_size,hc]; exact ⟨Int.le_refl _,Int.le_refl _⟩
   ·cases h
  ·rw [if_neg h0]
   by_cases h1:i = 17
   ·rw [if_pos h1]
    subst h1
    have e:bdA d c b0 b1 17 = some (10 ^ (d - 1),10 ^ d - 1):=rfl
    rw [e] at h
    cases h
    have:=D.lo
    have:=D.hi
    exact ⟨Int.ofNat_le.2 D.lo,Int.ofNat_le.2 (by omega)⟩
   ·rw [if_neg h1]
    by_cases h2:i = 2049
    ·subst h2
     have e:bdA d c b0 b1 2049 = some (2,8):=rfl
     rw [e] at h
     cases h
     rw [if_neg (by decide),if_neg (by decide),if_pos rfl]
     exact ⟨by decide,by decide⟩
    ·obtain ⟨g1,g2,x,g3,g4,g5⟩:=bdA_at D (body:=body) h0 h1 h2 h
     rw [if_neg (by omega),if_neg (by omega),if_neg h2,if_pos ⟨g1,g2⟩]
     unfold byAt
     rw [g3]
     exact ⟨Int.ofNat_le.2 g4,Int.ofNat_le.2 g5⟩
 ·show numA body v n a i = ((strA body v i).size:Int)
  unfold numA
  rw [if_pos h]
 ·have hx:65536 ≤ eqIx i l:=by unfold eqIx; omega
  obtain ⟨-,g2, -⟩:=bdA_at D (body:=body) (show ¬ eqIx i l < 16 by omega) (by omega) (by omega) h
  omega
 ·have hx:byteIx i j = 1024 + (64 * i + j):=rfl
  obtain ⟨g1,g2,x,g3,g4,g5⟩:=bdA_at D (body:=body) (show ¬ byteIx i j < 16 by omega) (by omega) (by omega) h
  rw [show (byteIx i j - 1024) / 64 = i by omega,show (byteIx i j - 1024) % 64 = j by omega] at g3
  refine ⟨x,g3, ?_⟩
  show numA body v n a (byteIx i j) = _
  unfold numA
  rw [if_neg (by omega),if_neg (by omega),if_neg (by omega),if_neg (by omega),if_neg (by omega),if_pos ⟨g1,g2⟩,show (byteIx i j - 1024) / 64 = i by omega,show (byteIx i j - 1024) % 64 = j by omega]
  unfold byAt
  rw [g3]
 ·have hx:sufIx j = 2048 + j:=rfl
  by_cases h1:j = 1
  ·subst h1
   have e:bdA d c b0 b1 (sufIx 1) = some (2,8):=rfl
   rw [e] at h
   cases h
   have e1:(etaA body v n a w).str 1 = ⟨(Lib.decDigits v).toArray⟩:=rfl
   have e2:(etaA body v n a w).str 2 = ⟨(ctlB v).toArray⟩:=rfl
   rw [e1,e2,ba_size,ba_size,ctlB_len D,D.len]
   refine ⟨rfl, ?_⟩
   apply ByteArray.ext
   apply Array.toList_inj.1
   rw [ByteArray.data_extract,Array.toList_extract,List.extract_eq_take_drop]
   show ((ctlB v).drop 8).take (8 + d - 8) = Lib.decDigits v
   have e3:(ctlB v).drop 8 = Lib.decDigits v:=rfl
   rw [e3]
   exact List.take_of_length_le (by rw [D.len]; omega)
  ·obtain ⟨-,g2, -⟩:=bdA_at D (body:=body) (show ¬ sufIx j < 16 by omega) (by omega) (by omega) h
   omega
theorem dig_lenF:∀ k:Nat,48 ≤ k → k ≤ 57 → 5 ≤ Hp.lenF (k:Int) ∧ Hp.lenF (k:Int) ≤ 6:=by
 intro k h1 h2
 have:k = 48 ∨ k = 49 ∨ k = 50 ∨ k = 51 ∨ k = 52 ∨ k = 53 ∨ k = 54 ∨ k = 55 ∨ k = 56 ∨ k = 57:=by omega
 rcases this with rfl | rfl | rfl | rfl | rfl | rfl | rfl | rfl | rfl | rfl <;> decide
theorem sum_dig:∀ l:List UInt8,(∀ c ∈ l,48 ≤ c.toNat ∧ c.toNat ≤ 57) → 5 * (l.length:Int) ≤ sizeSum l ∧ sizeSum l ≤ 6 * (l.length:Int)
 | [],_=>⟨Int.le_refl _,Int.le_refl _⟩
 | c :: l,h=>by
  obtain ⟨h1,h2⟩:=h c (List.mem_cons_self ..)
  obtain ⟨h3,h4⟩:=dig_lenF c.toNat h1 h2
  obtain ⟨h5,h6⟩:=sum_dig l (fun x hx=>h x (List.mem_cons_of_mem _ hx))
  have e:sizeSum (c :: l) = Hp.lenF (c.toNat:Int) + sizeSum l:=by
   unfold sizeSum
   rw [List.map_cons,List.sum_cons]
  rw [e,List.length_cons]
  omega
theorem code_len {v d:Nat} (D:DigN v d):(46 + 5 * d + 7) / 8 ≤ (encF (ctlB v)).length ∧ (encF (ctlB v)).length ≤ (46 + 6 * d + 7) / 8:=by
 have h1:=sizeF_len (ctlB v)
 have h2:sizeSum (ctlB v) = 46 + sizeSum (Lib.decDigits v):=by
  have e:sizeSum (ctlB v) = sizeSum preB + sizeSum (Lib.decDigits v):=by
   unfold sizeSum ctlB
   rw [List.map_append,List.sum_append]
  rw [e,show sizeSum preB = 46 by decide]
 obtain ⟨h3,h4⟩:=sum_dig (Lib.decDigits v) (fun c hc=>by
  obtain ⟨j,hj,e⟩:=List.getElem_of_mem hc
  rw [D.len] at hj
  obtain ⟨c',g1,g2,g3, -⟩:=D.at hj
  rw [List.getElem?_eq_getElem (by rw [D.len]; exact hj),e] at g1
  cases g1
  exact ⟨g2,g3⟩)
 rw [D.len] at h3 h4
 unfold sizeF at h1
 omega
def argIs (A0:AV) (body:ByteArray):Prop := ∀ η:En,η.str 0 = body → ∀ ν,vrel η ν A0 (.string body)
theorem arg_open (body:ByteArray):argIs (.vy 0) body:=by
 intro η h ν
 rw [vrel,h]
theorem arg_nil:argIs (.vs []) ByteArray.empty:=by
 intro η h ν
 rw [vrel]
 exact ⟨rfl,by simp⟩
theorem num_rel (η:En) (ν:Nu) (i:Nat) {x:Int} (h:η.num i = x):vrel η ν (.vx .i64 (numX i)) (.int .i64 x):=by
 rw [vrel,numX_val,h]
theorem args_rel {body:ByteArray} {v:Nat} {n a:Int} {w:World} {A0:AV} (hA:argIs A0 body):wrels (etaA body v n a w) (fun _=>none) [.vx .i64 (numX 18),.vx .i64 (numX 19),A0] [.int .i64 n,.int .i64 a,.string body]:=
 ⟨_,_,rfl,Or.inr (num_rel _ _ 18 rfl),_,_,rfl,Or.inr (num_rel _ _ 19 rfl),_,_,rfl,Or.inr (hA _ rfl _),rfl⟩
noncomputable def vlA (k d c b0 b1:Nat):Ev:=⟨bdA d c b0 b1,[⟨2,3,c⟩],[⟨17,1⟩],[⟨18,1,18,.vn k⟩,⟨19,1,1048576,.vx .i64 (numX 17)⟩]⟩
noncomputable def bdZ (i:Nat):Option (Nat × Nat):=match i with
 | 0=>some (3001,9223372036854775807)
 | _=>none
noncomputable def vlZ:Ev:=⟨bdZ,[],[],[]⟩
noncomputable def tlR (b:Ev) (A0:AV):RJ:=unc 3 (s4 b (jt (dynL b) 100)) [.vx .i64 (numX 18),.vx .i64 (numX 19),A0] .e 3 finT
theorem tl_run {η:En} {b:Ev} (E:EvOk η b.bd b.th b.ti b.tw) {A0:AV} (hr:tlR b A0 = .v (.vb true) .e 0) {vs:List Value} (hv:wrels η (fun _=>none) [.vx .i64 (numX 18),.vx .i64 (numX 19),A0] vs) :
  Calls Tryz.prog 4 vs.toArray η.w0 fun e w'=>e = .returned (.bool true) ∧ Aft η.w0 w':=
 term_run (n:=3) (F:=s4 b) (m4 E) (T:=dynL b) (dynL_ok E) (m:=100) (args:=[.vx .i64 (numX 18),.vx .i64 (numX 19),A0]) (nx0:=3) hr hv
section
variable {n a : Int} (im : In64 n) (is : In64 a) {body : ByteArray} {w : World} (hM : MaxOk w) (hT : Lib.TabIs Tryz.prog w "internal/strconv.uint64pow10" .u64 Lib.pow10Tab)
include im is hM hT
theorem cls_a {v k d c b0 b1:Nat} (D:DigN v d) {A0:AV} (hr:tlR (vlA k d c b0 b1) A0 = .v (.vb true) .e 0) (hA:argIs A0 body) (hb0:b0 ≤ body.size) (hb1:body.size ≤ b1) (hn:wiF n 1 18 = (k:Int)) (ha:wiF a 1 1048576 = (v:Int)) (hc:(encF (ctlB v)).length = c) :
  Calls Tryz.prog 4 #[.int .i64 n,.int .i64 a,.string body] w fun e w'=>e = .returned (.bool true) ∧ Aft w w':=by
 have E:EvOk (etaA body v n a w) (vlA k d c b0 b1).bd (vlA k d c b0 b1).th (vlA k d c b0 b1).ti (vlA k d c b0 b1).tw:=by
  refine ⟨bdA_ok D hb0 hb1 hc,fun e he => ?_,fun e he => ?_,fun e he => ?_,hM,hT⟩
  ·rw [show (vlA k d c b0 b1).th = [⟨2,3,c⟩] from rfl,List.mem_singleton] at he
   subst he
   have h3:((etaA body v n a w).str 3).size = (encF (ctlB v)).length:=ba_size
   have h4:=code_len D
   have h5:=D.d7
   refine ⟨by show 3 < 16; omega,rfl, ?_, ?_,fun _ => ?_⟩
   ·show (⟨(ctlB v).toArray⟩:ByteArray).size ≤ 1000000
    rw [ba_size,ctlB_len D]
    omega
   ·show 0 < ((etaA body v n a w).str 3).size
    rw [h3]
    omega
   ·show ((etaA body v n a w).str 3).size = c
    rw [h3,hc]
  ·rw [show (vlA k d c b0 b1).ti = [⟨17,1⟩] from rfl,List.mem_singleton] at he
   subst he
   have h1:=D.hi
   have h2:10 ^ d ≤ 10 ^ 7:=Nat.pow_le_pow_right (by decide) D.d7
   have e:(etaA body v n a w).num 17 = (v:Int):=rfl
   show _ ≤ (etaA body v n a w).num 17 ∧ (etaA body v n a w).num 17 ≤ _ ∧ Lib.itoa ((etaA body v n a w).num 17) = _
   rw [e]
   refine ⟨by omega,by omega, ?_⟩
   rw [Lib.itoa_nonneg]
   rfl
  ·rw [show (vlA k d c b0 b1).tw = [⟨18,1,18,.vn k⟩,⟨19,1,1048576,.vx .i64 (numX 17)⟩] from rfl,List.mem_cons,List.mem_singleton] at he
   rcases he with rfl | rfl
   ·refine ⟨im.low,im.high,(show 1 ≤ 18 by decide),(show 18 ≤ 1000000000000 by decide),fun ν => ?_⟩
    rw [vrel]
    exact congrArg (Value.int .i64) hn
   ·refine ⟨is.low,is.high,(show 1 ≤ 1048576 by decide),(show 1048576 ≤ 1000000000000 by decide),fun ν => ?_⟩
    exact num_rel _ ν 17 ha.symm
 exact tl_run E hr (args_rel hA)
omit im is in
theorem cls_z {v:Nat} (hr:tlR vlZ (.vy 0) = .v (.vb true) .e 0) (hb0:3001 ≤ body.size) (hb1:body.size ≤ 9223372036854775807) :
  Calls Tryz.prog 4 #[.int .i64 n,.int .i64 a,.string body] w fun e w'=>e = .returned (.bool true) ∧ Aft w w':=by
 have B:BdOk (etaA body v n a w) bdZ:=by
  have sm:∀ i r,bdZ i = some r → i = 0 ∧ r = (3001,9223372036854775807):=fun i r h=>by
   unfold bdZ at h
   split at h
   ·cases h; exact ⟨rfl,rfl⟩
   ·cases h
  refine ⟨fun i lo hi h => ?_,fun i h => ?_,fun i l r hi hl h => ?_,fun i j r hi hj h => ?_,fun j k m hj hk h => ?_⟩
  ·obtain ⟨rfl,e⟩:=sm _ _ h
   cases e
   exact ⟨Int.ofNat_le.2 hb0,Int.ofNat_le.2 hb1⟩
  ·show numA body v n a i = ((strA body v i).size:Int)
   unfold numA
   rw [if_pos h]
  ·have:=(sm _ _ h).1
   unfold eqIx at this
   omega
  ·have:=(sm _ _ h).1
   unfold byteIx at this
   omega
  ·have:=(sm _ _ h).1
   unfold sufIx at this
   omega
 have E:EvOk (etaA body v n a w) vlZ.bd vlZ.th vlZ.ti vlZ.tw:=
  ⟨B,fun e he=>(by cases he),fun e he=>(by cases he),fun e he=>(by cases he),hM,hT⟩
 exact tl_run E hr (args_rel (arg_open body))
end
end Go.Proofs.YtoeeackjlclneaaGreatDoor
end
