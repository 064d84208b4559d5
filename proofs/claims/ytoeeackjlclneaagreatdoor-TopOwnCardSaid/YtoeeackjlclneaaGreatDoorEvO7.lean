/-
  Texts joined: Shh, ToHk, ToS, ToCls.
-/
import Derived.Test.YtoeeackjlclneaaGreatDoorEvO6
set_option linter.unusedVariables false
namespace Go.Proofs.YtoeeackjlclneaaGreatDoor
section
open Go.RowKit
abbrev KMb:=List Bool → KJ
def GT (r:RJ):Prop := ∃ h nx,r = .v (.vb true) h nx
theorem GT.good {r:RJ} (h:GT r):GoodR r:=by
 obtain ⟨h1,nx,e⟩:=h
 exact ⟨_,_,_,e⟩
noncomputable def both (x y : RJ) : RJ := RJ.rec (motive := fun _ => RJ) (fun a _ _ => gdF a true y (.er 1 "") (.er 1 "")) (fun _ _ _ _ => .er 1 "") (fun n p => .er n p) x
theorem both_gt {x y:RJ} (h:GT (both x y)):GT x ∧ GT y:=by
 obtain ⟨h1,n1,e⟩:=h
 cases x with
 | v a h2 n2=>
  have e : gdF a true y (.er 1 "") (.er 1 "") = .v (.vb true) h1 n1 := e
  have e2:=gdF_true e (fun e=>by cases e) (fun e=>by cases e)
  subst e2
  exact ⟨⟨_,_,rfl⟩,⟨h1,n1,e⟩⟩
 | c x t h2 n2=>cases e
 | er n p=>cases e
noncomputable def nthB:List Bool → Nat → Option Bool
 | [],_=>none
 | b :: r,i=>match i with
  | 0=>some b
  | i + 1=>nthB r i
def MOk (B:Nat → Bool) (m:List Bool):Prop := ∀ i b,nthB m i = some b → b = B i
theorem nthB_snoc:∀ (m:List Bool) (x:Bool) (i:Nat) (b:Bool),nthB (m ++ [x]) i = some b → nthB m i = some b ∨ (i = m.length ∧ b = x)
 | [],x,0,b,h=>by
  have h:some x = some b:=h
  cases h
  exact Or.inr ⟨rfl,rfl⟩
 | [],x,i + 1,b,h=>by cases h
 | a :: r,x,0,b,h=>Or.inl h
 | a :: r,x,i + 1,b,h=>by
  rcases nthB_snoc r x i b h with e | ⟨e,f⟩
  ·exact Or.inl e
  ·exact Or.inr ⟨by simp [e],f⟩
theorem MOk.snoc {B:Nat → Bool} {m:List Bool} (h:MOk B m) {x:Bool} (hx:x = B m.length):MOk B (m ++ [x]):=by
 intro i b e
 rcases nthB_snoc m x i b e with e | ⟨rfl,rfl⟩
 ·exact h i b e
 ·exact hx
noncomputable def hkP (m:List Bool) (a:AV) (k:List Bool → AV → RJ):RJ:=match a with
 | .vn i=>match nthB m i with
  | some b=>k m (.vb b)
  | none=>match Nat.beq i m.length with
   | true=>both (k (m ++ [true]) (.vb true)) (k (m ++ [false]) (.vb false))
   | false => .er 130 ""
 | _ => .er 131 ""
theorem hkP_gt {B:Nat → Bool} {m:List Bool} (hm:MOk B m) {a:AV} {k:List Bool → AV → RJ} (h:GT (hkP m a k)):∃ i m',a = .vn i ∧ MOk B m' ∧ GT (k m' (.vb (B i))):=by
 unfold hkP at h
 split at h
 ·rename_i i
  split at h
  ·rename_i b hb
   rw [hm i b hb] at h
   exact ⟨i,m,rfl,hm,h⟩
  ·cases hi:Nat.beq i m.length with
   | false=>rw [hi] at h; exact absurd h.good er_bad
   | true=>
    rw [hi] at h
    have hi:=Nat.eq_of_beq_eq_true hi
    obtain ⟨h1,h2⟩:=both_gt h
    cases hB:B i with
    | true=>exact ⟨i,_,rfl,hm.snoc (by rw [← hi,hB]),by rw [hB]; exact h1⟩
    | false=>exact ⟨i,_,rfl,hm.snoc (by rw [← hi,hB]),by rw [hB]; exact h2⟩
 ·exact absurd h.good er_bad
def selM (x:Xt) (kn:KMb) (ex:Nat → KMb) (kr:KMb):KMb:=match x with
 | .nrm=>kn
 | .ex id=>ex id
 | .rt=>kr
noncomputable abbrev exM (i id:Nat) (j k:KMb):KMb:=fun m t h nx=>exP i id (j m) (k m) t h nx
noncomputable def lpM (n:Nat) (F:(List Bool → Ar n) → List Bool → Ar n) (q:Nat):List Bool → Ar n:=Nat.rec (motive:=fun _=>List Bool → Ar n) (fun _=>zA n) (fun _ ih=>F ih) q
noncomputable def lpH (n:Nat) (F:(List Bool → Ar n) → List Bool → Ar n):List Bool → Ar n:=lpM n F 1000000
inductive HAn where
 | l (a:Ann)
 | h (i d:Nat)
 | s (a b:HAn)
 | d (a b:HAn)
 | e (a:HAn)
 | o (W:List Nat) (a:HAn)
noncomputable abbrev hcode (g:G) (n:Nat) (tab:Tab) (J:JC):Code → HAn → List Bool → Fm → Tr Ob → Nat → KMb → (Nat → KMb) → KMb → RJ
 | c,.l an,m,t,h,nx,kn,ex,kr=>dcode g n tab J c an t h nx (kn m) (fun i=>ex i m) (kr m)
 | .region _ ops _,.h i d,m,t,h,nx,kn,ex,kr=>hkP m (t.at i) fun m x=>kn m (rst (some d) (drp (dstL ops.toList) t) x) h nx
 | .seq a b,.s x y,m,t,h,nx,kn,ex,kr=>hcode g n tab J a x m t h nx (fun m t h nx=>hcode g n tab J b y m t h nx kn ex kr) ex kr
 | .cond v a b,.d x y,m,t,h,nx,kn,ex,kr=>cdP ((cev v).f t) (hcode g n tab J a x m t h nx kn ex kr) (hcode g n tab J b y m t h nx kn ex kr)
 | .block id b,.e x,m,t,h,nx,kn,ex,kr=>hcode g n tab J b x m t h nx kn (fun i=>exM i id kn (ex i)) kr
 | .loop b,.o W x,m,t,h,nx,kn,ex,kr=>appW W (lpH (ln W) (fun self m=>absW W (drp (wr b) t) (fun t h nx=>hcode g n tab J b x m t h nx (fun m=>appW W (self m)) ex kr)) m) t h nx
 | _, _, _, _, _, _, _, _, _ => .er 121 ""
section
variable {P : Program} {η : En} {I : Nu → Prop} (hI : ∀ ν ν' : Nu, ν.le ν' → I ν → I ν') {B : Nat → Bool} {n : Nat}
def HOut (P:Program) (η:En) (I:Nu → Prop) (B:Nat → Bool) (n:Nat) (c:Code) (ds:List Nat) (t:Fm) (h:Tr Ob) (nx:Nat) (X:KMb → (Nat → KMb) → KMb → RJ):Prop:=
 ∀ kn ex kr,GT (X kn ex kr) → ∃ x m' t' h' nx',MOk B m' ∧ GT (selM x kn ex kr m' t' h' nx') ∧ (∀ d,d ∉ ds → t'.at d = t.at d) ∧ ∀ ν w act,I ν → HR η ν h w → Nx ν nx → TRf η ν t n act → c.wp P (CodePost η ν h w n (exitOf x) t' h' nx') act w
theorem HOut.mono {c:Code} {ds ds':List Nat} {t:Fm} {h:Tr Ob} {nx:Nat} {X:KMb → (Nat → KMb) → KMb → RJ} (H:HOut P η I B n c ds t h nx X) (hd:∀ d,d ∈ ds → d ∈ ds'):HOut P η I B n c ds' t h nx X:=by
 intro kn ex kr hg
 obtain ⟨x,m',t',h',nx',hm,g,c2,c3⟩:=H _ _ _ hg
 exact ⟨x,m',t',h',nx',hm,g,fun d h=>c2 d fun h'=>h (hd d h'),c3⟩
theorem leaf_h {c:Code} {ds:List Nat} {m:List Bool} {t:Fm} {h:Tr Ob} {nx:Nat} {X:KJ → (Nat → KJ) → KJ → RJ} (H:COut P η n c ds t h nx X) (hm:MOk B m):HOut P η I B n c ds t h nx fun kn ex kr=>X (kn m) (fun i=>ex i m) (kr m):=by
 intro kn ex kr hg
 rcases H with c | ⟨x,t',h',nx',c1,c2,c3⟩
 ·exact absurd hg.good (c _ _ _)
 ·have hg:GT (X (kn m) (fun i=>ex i m) (kr m)):=hg
  rw [c1] at hg
  refine ⟨x,m,t',h',nx',hm, ?_,c2,fun ν w act _ H X A=>c3 ν w act H X A⟩
  cases x <;> exact hg
include hI in
theorem seq_h {a b:Code} {t:Fm} {h:Tr Ob} {nx:Nat} {X:KMb → (Nat → KMb) → KMb → RJ} {Y:List Bool → Fm → Tr Ob → Nat → KMb → (Nat → KMb) → KMb → RJ} (HX:HOut P η I B n a (wr a) t h nx X) (HY:∀ m t' h nx,MOk B m → (∀ d,d ∉ wr a → t'.at d = t.at d) → HOut P η I B n b (wr b) t' h nx (Y m t' h nx)) :
  HOut P η I B n (.seq a b) (wr (.seq a b)) t h nx fun kn ex kr=>X (fun m t h nx=>Y m t h nx kn ex kr) ex kr:=by
 intro kn ex kr hg
 obtain ⟨x,m1,t1,h1,nx1,hm,g,c2,c3⟩:=HX _ _ _ hg
 have d2:∀ d,d ∉ wr (.seq a b) → t1.at d = t.at d:=fun d hd=>c2 d fun h'=>hd (List.mem_append_left _ h')
 cases x with
 | nrm=>
  obtain ⟨x,m2,t2,h2,nx2,hm2,g2,e2,e3⟩:=HY m1 t1 h1 nx1 hm c2 kn ex kr g
  refine ⟨x,m2,t2,h2,nx2,hm2,g2,fun d hd => ?_,fun ν w act i H X A=>wp_seq (wp_mono (c3 ν w act i H X A) ?_)⟩
  ·rw [e2 d fun h'=>hd (List.mem_append_right _ h'),d2 d hd]
  ·rintro e a1 w1 ⟨rfl,ν1,p1,p2,p3,p4⟩
   show b.wp P _ a1 w1
   exact wp_mono (e3 ν1 w1 a1 (hI _ _ p4.le i) p2 p3 p1) fun e a w' q=>CodePost.trans p4 q
 | ex id=>
  refine ⟨.ex id,m1,t1,h1,nx1,hm,g,d2,fun ν w act i H X A=>wp_seq (wp_mono (c3 ν w act i H X A) ?_)⟩
  rintro e a1 w1 ⟨rfl,p⟩
  exact ⟨rfl,p⟩
 | rt=>
  refine ⟨.rt,m1,t1,h1,nx1,hm,g,d2,fun ν w act i H X A=>wp_seq (wp_mono (c3 ν w act i H X A) ?_)⟩
  rintro e a1 w1 ⟨rfl,p⟩
  exact ⟨rfl,p⟩
theorem cond_h {v:Operand} {a b:Code} {ds:List Nat} {t:Fm} {h:Tr Ob} {nx:Nat} {X Y:KMb → (Nat → KMb) → KMb → RJ} (HX:HOut P η I B n a ds t h nx X) (HY:HOut P η I B n b ds t h nx Y) :
  HOut P η I B n (.cond v a b) ds t h nx fun kn ex kr=>cdP ((cev v).f t) (X kn ex kr) (Y kn ex kr):=by
 intro kn ex kr hg
 obtain ⟨h1,n1,e⟩:=hg
 unfold cdP at e
 rcases cdF_eq e (fun e=>by cases e) with ⟨hv,e⟩ | ⟨hv,e⟩
 ·obtain ⟨x,m',t',h',nx',hm,g,c2,c3⟩:=HX _ _ _ ⟨_,_,e⟩
  refine ⟨x,m',t',h',nx',hm,g,c2,fun ν w act i H X A=>wp_cond_true ?_ (c3 ν w act i H X A)⟩
  have h2:=evO_rel A (cev_is hv (fun e=>by cases e))
  rw [vrel] at h2
  exact h2
 ·obtain ⟨x,m',t',h',nx',hm,g,c2,c3⟩:=HY _ _ _ ⟨_,_,e⟩
  refine ⟨x,m',t',h',nx',hm,g,c2,fun ν w act i H X A=>wp_cond_false ?_ (c3 ν w act i H X A)⟩
  have h2:=evO_rel A (cev_is hv (fun e=>by cases e))
  rw [vrel] at h2
  exact h2
theorem block_h {id:Nat} {b:Code} {ds:List Nat} {t:Fm} {h:Tr Ob} {nx:Nat} {X:KMb → (Nat → KMb) → KMb → RJ} (H:HOut P η I B n b ds t h nx X) :
  HOut P η I B n (.block id b) ds t h nx fun kn ex kr=>X kn (fun i=>exM i id kn (ex i)) kr:=by
 intro kn ex kr hg
 obtain ⟨x,m',t',h',nx',hm,g,c2,c3⟩:=H _ _ _ hg
 cases x with
 | nrm=>
  refine ⟨.nrm,m',t',h',nx',hm,g,c2,fun ν w act i H X A=>wp_block (wp_mono (c3 ν w act i H X A) ?_)⟩
  rintro e a1 w1 ⟨rfl,p⟩
  exact ⟨rfl,p⟩
 | rt=>
  refine ⟨.rt,m',t',h',nx',hm,g,c2,fun ν w act i H X A=>wp_block (wp_mono (c3 ν w act i H X A) ?_)⟩
  rintro e a1 w1 ⟨rfl,p⟩
  exact ⟨rfl,p⟩
 | ex j=>
  have g:GT (exP j id (kn m') (ex j m') t' h' nx'):=g
  unfold exP at g
  by_cases hj:j = id
  ·subst hj
   rw [Nat.beq_refl] at g
   refine ⟨.nrm,m',t',h',nx',hm,g,c2,fun ν w act i H X A=>wp_block (wp_mono (c3 ν w act i H X A) ?_)⟩
   rintro e a1 w1 ⟨rfl,p⟩
   show (if j = j then _ else _)
   rw [if_pos rfl]
   exact ⟨rfl,p⟩
  ·have hb:Nat.beq j id = false:=by
    cases hb:Nat.beq j id
    ·rfl
    ·exact absurd (Nat.eq_of_beq_eq_true hb) hj
   rw [hb] at g
   refine ⟨.ex j,m',t',h',nx',hm,g,c2,fun ν w act i H X A=>wp_block (wp_mono (c3 ν w act i H X A) ?_)⟩
   rintro e a1 w1 ⟨rfl,p⟩
   show (if j = id then _ else _)
   rw [if_neg hj]
   exact ⟨rfl,p⟩
include hI in
theorem loop_h {b:Code} {ds:List Nat} {W:List Nat} {t0:Fm} {F:List Bool → Fm → Tr Ob → Nat → KMb → (Nat → KMb) → KMb → RJ} (HF:∀ m t h nx,MOk B m → (∀ d,d ∉ ds → t.at d = t0.at d) → HOut P η I B n b ds t h nx (F m t h nx)) (ex:Nat → KMb) (kr:KMb):∀ q m t h nx,MOk B m → (∀ d,d ∉ ds → t.at d = t0.at d) →
  GT (appW W (lpM (ln W) (fun self m=>absW W (drp ds t0) (fun t h nx=>F m t h nx (fun m=>appW W (self m)) ex kr)) q m) t h nx) →
  ∃ x m' t' h' nx',MOk B m' ∧ x ≠ .nrm ∧ (∀ kn,GT (selM x kn ex kr m' t' h' nx')) ∧ (∀ d,d ∉ ds → t'.at d = t0.at d) ∧ ∀ ν w act,I ν → HR η ν h w → Nx ν nx → TRf η ν t n act → LoopWp P b (CodePost η ν h w n (exitOf x) t' h' nx') act w
 | 0,m,t,h,nx,hm,ht,hg=>by
  have z : ∀ (W : List Nat) t, appW W (zA (ln W)) t h nx = .er 94 "" := by
   intro W
   induction W with
   | nil=>exact fun t=>rfl
   | cons w r ih=>exact fun t=>ih t
  have e : appW W (lpM (ln W) (fun self m => absW W (drp ds t0) (fun t h nx => F m t h nx (fun m => appW W (self m)) ex kr)) 0 m) t h nx = .er 94 "" := z W t
  rw [e] at hg
  exact absurd hg.good er_bad
 | q + 1,m,t,h,nx,hm,ht,hg=>by
  have ih:=loop_h HF ex kr (t0:=t0) (W:=W) q
  have e0:appW W (lpM (ln W) (fun self m=>absW W (drp ds t0) (fun t h nx=>F m t h nx (fun m=>appW W (self m)) ex kr)) (q + 1) m) t h nx
    = F m (updW W (drp ds t0) t) h nx (fun m=>appW W (lpM (ln W) (fun self m=>absW W (drp ds t0) (fun t h nx=>F m t h nx (fun m=>appW W (self m)) ex kr)) q m)) ex kr:=
   app_abs W (drp ds t0) _ t h nx
  have le:LeF (updW W (drp ds t0) t) t:=updW_le W _ (drp_le ht)
  have sm:∀ d,d ∉ ds → (updW W (drp ds t0) t).at d = t0.at d:=fun d hd=>by rw [updW_same W _ (drp_same hd (ht d hd)),ht d hd]
  rw [e0] at hg
  obtain ⟨x,m1,t1,h1,nx1,hm1,g,c2,c3⟩:=HF m _ h nx hm sm _ _ _ hg
  have st:∀ d,d ∉ ds → t1.at d = t0.at d:=fun d hd=>(c2 d hd).trans (sm d hd)
  cases x with
  | nrm=>
   obtain ⟨x,m',t',h',nx',e1,e2,e3,e4,e5⟩:=ih m1 t1 h1 nx1 hm1 st g
   refine ⟨x,m',t',h',nx',e1,e2,e3,e4,fun ν w act i H X A=>LoopWp.unroll (wp_mono (c3 ν w act i H X (le.tr A)) ?_)⟩
   rintro e a1 w1 ⟨rfl,ν1,p1,p2,p3,p4⟩
   show LoopWp P b _ a1 w1
   intro b' k cs
   obtain ⟨e,a',w',q,r⟩:=e5 ν1 w1 a1 (hI _ _ p4.le i) p2 p3 p1 b' k cs
   exact ⟨e,a',w',CodePost.trans p4 q,r⟩
  | ex id=>
   refine ⟨.ex id,m1,t1,h1,nx1,hm1,(fun e=>by cases e),fun kn=>g,st,fun ν w act i H X A=>LoopWp.unroll (wp_mono (c3 ν w act i H X (le.tr A)) ?_)⟩
   rintro e a1 w1 ⟨rfl,p⟩
   exact ⟨rfl,p⟩
  | rt=>
   refine ⟨.rt,m1,t1,h1,nx1,hm1,(fun e=>by cases e),fun kn=>g,st,fun ν w act i H X A=>LoopWp.unroll (wp_mono (c3 ν w act i H X (le.tr A)) ?_)⟩
   rintro e a1 w1 ⟨rfl,p⟩
   exact ⟨rfl,p⟩
def HkSem (P:Program) (η:En) (I:Nu → Prop) (B:Nat → Bool) (n s:Nat) (v:AV):Code → HAn → Prop
 | _,.l _=>True
 | .region id ops dr,.h i d=>d ∈ dstL ops.toList ∧ ∀ t h nx j,t.at s = v → t.at i = .vn j → ∀ ν w act,I ν → HR η ν h w → Nx ν nx → TRf η ν t n act → (Code.region id ops dr).wp P (CodePost η ν h w n .normal (rst (some d) (drp (dstL ops.toList) t) (.vb (B j))) h nx) act w
 | .seq a b,.s x y=>HkSem P η I B n s v a x ∧ HkSem P η I B n s v b y
 | .cond _ a b,.d x y=>HkSem P η I B n s v a x ∧ HkSem P η I B n s v b y
 | .block _ b,.e x=>HkSem P η I B n s v b x
 | .loop b,.o _ x=>HkSem P η I B n s v b x
 | _,_=>False
include hI in
theorem hcode_ok (hmix:P.follows .mixedOrders = true) {g:G} (T:TabE P g.tt g.ff) (S:EnvOk P g η) {tab:Tab} {J:JC} (SJ:SndC P η (sJ tab J)) {s:Nat} {v:AV} :
  ∀ c an m t h nx,MOk B m → t.at s = v → s ∉ wr c → HkSem P η I B n s v c an → HOut P η I B n c (wr c) t h nx (hcode g n tab J c an m t h nx):=by
 intro c
 induction c with
 | region id ops dr=>
  intro an m t h nx hm ht hs hk
  cases an with
  | l a=>exact leaf_h (dcode_ok (P:=P) hmix T S SJ (n:=n) _ a t h nx) hm
  | h i d=>
   intro kn ex kr hg
   obtain ⟨j,m',e1,e2,e3⟩:=hkP_gt hm hg
   refine ⟨.nrm,m',_,h,nx,e2,e3,fun d' hd => ?_,hk.2 t h nx j ht e1⟩
   have hd:d' ∉ dstL ops.toList:=hd
   rw [rst_at (fun e=>by cases e; exact hd hk.1),drp_out hd]
  | _=>exact hk.elim
 | seq a b iha ihb=>
  intro an m t h nx hm ht hs hk
  cases an with
  | l a=>exact leaf_h (dcode_ok (P:=P) hmix T S SJ (n:=n) _ a t h nx) hm
  | s x y=>
   have hsa:s ∉ wr a:=fun h'=>hs (List.mem_append_left _ h')
   exact seq_h hI (X:=hcode g n tab J a x m t h nx) (Y:=fun m t h nx=>hcode g n tab J b y m t h nx) (iha x m t h nx hm ht hsa hk.1) fun m' t' h' nx' hm' st=>ihb y m' t' h' nx' hm' ((st s hsa).trans ht) (fun h'=>hs (List.mem_append_right _ h')) hk.2
  | _=>exact hk.elim
 | cond v a b iha ihb=>
  intro an m t h nx hm ht hs hk
  cases an with
  | l a=>exact leaf_h (dcode_ok (P:=P) hmix T S SJ (n:=n) _ a t h nx) hm
  | d x y=>exact cond_h (X:=hcode g n tab J a x m t h nx) (Y:=hcode g n tab J b y m t h nx) ((iha x m t h nx hm ht (fun h'=>hs (List.mem_append_left _ h')) hk.1).mono fun d h'=>List.mem_append_left _ h') ((ihb y m t h nx hm ht (fun h'=>hs (List.mem_append_right _ h')) hk.2).mono fun d h'=>List.mem_append_right _ h')
  | _=>exact hk.elim
 | block id b ih=>
  intro an m t h nx hm ht hs hk
  cases an with
  | l a=>exact leaf_h (dcode_ok (P:=P) hmix T S SJ (n:=n) _ a t h nx) hm
  | e x=>exact block_h (X:=hcode g n tab J b x m t h nx) (ih x m t h nx hm ht hs hk)
  | _=>exact hk.elim
 | loop b ih=>
  intro an m t h nx hm ht hs hk
  cases an with
  | l a=>exact leaf_h (dcode_ok (P:=P) hmix T S SJ (n:=n) _ a t h nx) hm
  | o W x=>
   intro kn ex kr hg
   obtain ⟨x,m',t',h',nx',e1,e2,e3,e4,e5⟩:=loop_h hI (P:=P) (η:=η) (I:=I) (n:=n) (t0:=t) (W:=W) (F:=fun m t h nx=>hcode g n tab J b x m t h nx) (fun m t' h nx hm st=>ih x m t' h nx hm ((st s hs).trans ht) hs hk) ex kr 1000000 m t h nx hm (fun _ _=>rfl) hg
   exact ⟨x,m',t',h',nx',e1,e3 kn,e4,fun ν w act i H X A=>(e5 ν w act i H X A).loop⟩
  | _=>exact hk.elim
 | _=>
  intro an m t h nx hm ht hs hk
  cases an with
  | l a=>exact leaf_h (dcode_ok (P:=P) hmix T S SJ (n:=n) _ a t h nx) hm
  | _=>exact hk.elim
noncomputable abbrev hfn (g:G) (tab:Tab) (an:HAn) (fn:Func) (c:Code) (m:List Bool) (J:JC) (args:List AV) (h:Tr Ob) (nx:Nat) (k:KV):RJ:=match Nat.ble (lenA args 0) fn.ntmps with
 | false => .er 94 ""
 | true => hcode g fn.ntmps tab J c an m (ofL args 0 Fm.e) h nx (fun _ => dres g fn.results.toList k) (fun _ _ _ _ _ => .er 92 "") (fun _ => dres g fn.results.toList k)
theorem aft_e {w w':World} {ν ν':Nu} {h':Tr Ob} (F:Fr ν .e w ν' h' w'):Aft w w':=
 (⟨F.oth.os,F.oth.tape,F.oth.output,F.size,fun k hk=>F.keep k hk fun ⟨b,o,q,hg,_⟩=>by rw [Tr.get_e] at hg; cases hg⟩:Below w.heap.size w w')
include hI in
theorem hfn_run (hmix:P.follows .mixedOrders = true) {g:G} (T:TabE P g.tt g.ff) (S:EnvOk P g η) {tab:Tab} {J:JC} (SJ:SndC P η (sJ tab J)) {f:Nat} {fn:Func} {c:Code} (hf:g.ff f = some fn) (hb:fn.body = some c) {an:HAn} {m:List Bool} (hm:MOk B m) {s:Nat} {v:AV} {args:List AV} {nx0:Nat}
  (ha:(ofL args 0 Fm.e).at s = v) (hs:s ∉ wr c) (hk:HkSem P η I B fn.ntmps s v c an) (hr:hfn g tab an fn c m J args .e nx0 finT = .v (.vb true) .e 0) {ν:Nu} {vs:List Value} (i:I ν) (X:Nx ν nx0) (hv:wrels η ν args vs) :
  Calls P f vs.toArray η.w0 fun e w'=>e = .returned (.bool true) ∧ Aft η.w0 w':=by
 have H:HR η ν .e η.w0:=
  ⟨fun b o hg=>(by rw [Tr.get_e] at hg; cases hg),fun b b' o o' q q' hg=>(by rw [Tr.get_e] at hg; cases hg),⟨Nat.le_refl _,fun _ _=>rfl,fun b o q hg=>(by rw [Tr.get_e] at hg; cases hg)⟩⟩
 unfold hfn at hr
 cases hle:Nat.ble (lenA args 0) fn.ntmps with
 | false=>rw [hle] at hr; cases hr
 | true=>
  rw [hle] at hr
  have hle:=Nat.le_of_ble_eq_true hle
  rw [lenA_eq] at hle
  obtain ⟨x,m',t',h',nx',g1,g2,g3,g4⟩:=hcode_ok hI hmix T S SJ (n:=fn.ntmps) c an m (ofL args 0 Fm.e) .e nx0 hm ha hs hk _ _ _ ⟨_,_,hr⟩
  have fin:GT (dres g fn.results.toList finT t' h' nx') → exitOf x = .normal ∨ exitOf x = .ret → Calls P f vs.toArray η.w0 fun e w'=>e = .returned (.bool true) ∧ Aft η.w0 w':=by
   intro hg hx
   rcases dres_one (g:=g) (rs:=fn.results.toList) (t:=t') (h:=h') (nx:=nx') with e | ⟨a,e1,e2,e3⟩
   ·exact absurd hg.good (e _)
   ·rw [e3] at hg
    obtain ⟨h2,n2,e4⟩:=hg
    have e5 := gdF_true (show gdF a true (.v (.vb true) .e 0) (.er 1 "false") (.er 1 "") = _ from e4) (fun e => by cases e) (fun e => by cases e)
    subst e5
    refine calls_of_wp (T.ff _ _ hf) hb (wp_mono (g4 ν _ _ i H X (ofL_TR hv hle)) ?_)
    rintro e act w1 ⟨rfl,ν1,p1,p2,p3,p4⟩
    obtain ⟨u,q1,q2⟩:=cres_rel (P:=P) T p2 p1 (fn:=fn) (by rw [e2]; exact e1)
    rw [e2,vrel] at q2
    subst q2
    rcases hx with hx | hx
    ·rw [hx]; exact ⟨p1.none,_,q1,rfl,aft_e p4⟩
    ·rw [hx]; exact ⟨p1.none,_,q1,rfl,aft_e p4⟩
  cases x with
  | nrm=>exact fin g2 (Or.inl rfl)
  | rt=>exact fin g2 (Or.inr rfl)
  | ex id => exact absurd (show GT (.er 92 "") from g2).good er_bad
end
end
section
open Go.RowKit
theorem put_eq {a:Act} {d:Nat} {v:Value} (h:d < a.tmps.size):(a.put (some d) v).tmps.getD d undef = v:=by simp [Act.put,h]
theorem put_ne {a:Act} {d k:Nat} {v:Value} (h:k ≠ d):(a.put (some d) v).tmps.getD k undef = a.tmps.getD k undef:=by simp [Act.put,Array.getElem?_setIfInBounds_ne (Ne.symm h)]
theorem put_sz {a:Act} {d:Nat} {v:Value}:(a.put (some d) v).tmps.size = a.tmps.size:=by simp [Act.put]
theorem ops_val {P:Program} {ops:Array Oper} {i:Nat} {rest:List Nat} {o:Oper} {d:Nat} {a:Act} {w:World} {v:Value} {Q:Exit → Act → World → Prop} (ho:ops[i]? = some o) (hd:o.dst = some d) (hw:Region.wanted o (yielded ops a.tmps) = true) (hr:(execOp a.eval o).run P w = .ok (.value v) w) (h:wpOps P ops Q rest (a.put (some d) v) w):wpOps P ops Q (i :: rest) a w:=by
 simp only [wpOps,ho,hw,if_true]
 refine Or.inl ?_
 unfold Oper.wp
 rw [hr,Oper.upon_value,hd]
 exact h
theorem ops_skip {P:Program} {ops:Array Oper} {i:Nat} {rest:List Nat} {o:Oper} {d:Nat} {a:Act} {w:World} {Q:Exit → Act → World → Prop} (ho:ops[i]? = some o) (hd:o.dst = some d) (hw:Region.wanted o (yielded ops a.tmps) = false) (h:wpOps P ops Q rest (a.put (some d) undef) w):wpOps P ops Q (i :: rest) a w:=by
 simp only [wpOps,ho,hw]
 rw [hd]
 exact h
structure AskR (ops:Array Oper) (i e:Nat):Prop where
 o0:∃ o,ops[0]? = some o ∧ o.dst = some e ∧ o.op = .move (.tmp i) ∧ o.guard = none
 o1:∃ o,ops[1]? = some o ∧ o.dst = some (e + 1) ∧ o.op = .move (.tmp 1) ∧ o.guard = none
 o2:∃ o c,ops[2]? = some o ∧ o.dst = some (e + 2) ∧ o.op = .call c ∧ c.callee = .builtin .len ∧ c.args = #[.tmp (e + 1)] ∧ c.argTypes = #[75] ∧ o.guard = none
 o3:∃ o,ops[3]? = some o ∧ o.dst = some (e + 3) ∧ o.op = .binOp .lss 3 (.tmp e) (.tmp (e + 2)) 3 ∧ o.guard = none
 o4:∃ o,ops[4]? = some o ∧ o.dst = some (e + 4) ∧ o.op = .move (.tmp (e + 3)) ∧ o.guard = none
 o5:∃ o,ops[5]? = some o ∧ o.dst = some (e + 5) ∧ o.op = .move (.tmp 1) ∧ o.guard = some (4,true)
 o6:∃ o,ops[6]? = some o ∧ o.dst = some (e + 6) ∧ o.op = .move (.tmp i) ∧ o.guard = some (4,true)
 o7:∃ o,ops[7]? = some o ∧ o.dst = some (e + 7) ∧ o.op = .indexAddr 75 (.tmp (e + 5)) (.tmp (e + 6)) ∧ o.guard = some (4,true)
 o8:∃ o,ops[8]? = some o ∧ o.dst = some (e + 8) ∧ o.op = .load 4 (.tmp (e + 7)) ∧ o.guard = some (4,true)
 o9:∃ o,ops[9]? = some o ∧ o.dst = some (e + 9) ∧ o.op = .pick (.tmp (e + 4)) (.tmp (e + 8)) (.const (.bool false)) ∧ o.guard = none
theorem want_none {ops:Array Oper} {o:Oper} {t:Array Value} (h:o.guard = none):Region.wanted o (yielded ops t) = true:=by
 unfold Region.wanted
 rw [h]
theorem want_some {ops:Array Oper} {o o4:Oper} {t:Array Value} {d:Nat} {b:Bool} (h:o.guard = some (4,true)) (h4:ops[4]? = some o4) (hd:o4.dst = some d) (hs:d < t.size) (hv:t.getD d undef = .bool b):Region.wanted o (yielded ops t) = b:=by
 unfold Region.wanted
 rw [h]
 have e:t[d]? = some (.bool b):=by
  rw [← hv]
  simp [hs]
 have:yielded ops t 4 = some b:=by
  unfold yielded
  rw [h4]
  simp only [Option.bind_some,hd]
  rw [e]
 simp only [this]
 cases b <;> rfl
theorem run_move {P:Program} {o:Oper} {x:Operand} {ρ:Operand → Value} {w:World} (h:o.op = .move x):(execOp ρ o).run P w = .ok (.value (ρ x)) w:=by
 unfold execOp
 rw [h]
 rfl
theorem run_len {o:Oper} {c:Call} {x:Nat} {a:Act} {w:World} {oa:Option Addr} {L K:Nat} (h:o.op = .call c) (hc:c.callee = .builtin .len) (ha:c.args = #[.tmp x]) (ht:c.argTypes = #[75]) (hv:a.tmps.getD x undef = .slice oa L K):(execOp a.eval o).run Tryz.prog w = .ok (.value (.int .i64 L)) w:=by
 have e:a.eval (.tmp x) = .slice oa L K:=hv
 unfold execOp
 rw [h]
 simp [resolve,invoke,builtin,hc,ha,ht,e,Builtin.len_,run_underlying Tryz.underlying75,goInt]
theorem run_lss {o:Oper} {x y:Nat} {a:Act} {w:World} {i j:Int} (h:o.op = .binOp .lss 3 (.tmp x) (.tmp y) 3) (hx:a.tmps.getD x undef = .int .i64 i) (hy:a.tmps.getD y undef = .int .i64 j):(execOp a.eval o).run Tryz.prog w = .ok (.value (.bool (decide (i < j)))) w:=by
 have e1:a.eval (.tmp x) = .int .i64 i:=hx
 have e2:a.eval (.tmp y) = .int .i64 j:=hy
 unfold execOp
 rw [h]
 simp [e1,e2,binOp,Op.intCmp,eqGuard]
theorem run_at {o:Oper} {x y:Nat} {a:Act} {w:World} {ad:Addr} {L K j:Nat} (h:o.op = .indexAddr 75 (.tmp x) (.tmp y)) (hx:a.tmps.getD x undef = .slice (some ad) L K) (hy:a.tmps.getD y undef = .int .i64 (j:Int)) (hl:j < L):(execOp a.eval o).run Tryz.prog w = .ok (.value (.pointer (some (ad.add j)))) w:=by
 have e1:a.eval (.tmp x) = .slice (some ad) L K:=hx
 have e2:a.eval (.tmp y) = .int .i64 (j:Int):=hy
 unfold execOp
 rw [h]
 simp [e1,e2,Instr.indexAt,asIntOf,run_underlying Tryz.underlying75,hl]
theorem run_load {o:Oper} {x:Nat} {a:Act} {w:World} {ad:Addr} {b:Bool} (h:o.op = .load 4 (.tmp x)) (hx:a.tmps.getD x undef = .pointer (some ad)) (hc:w.cell? ad = some (.bool b)):(execOp a.eval o).run Tryz.prog w = .ok (.value (.bool b)) w:=by
 have e1:a.eval (.tmp x) = .pointer (some ad):=hx
 unfold execOp
 rw [h]
 have hg:(isAgg 4).run Tryz.prog w = .ok false w:=by kernel_rfl
 simp [e1,Instr.loadAt,Instr.sureAddr,loadVar,hg,hc]
theorem run_pick {P:Program} {o:Oper} {x y:Nat} {a:Act} {w:World} {b:Bool} (h:o.op = .pick (.tmp x) (.tmp y) (.const (.bool false))) (hx:a.tmps.getD x undef = .bool b):(execOp a.eval o).run P w = .ok (.value (if b = true then a.tmps.getD y undef else .bool false)) w:=by
 have e1:a.eval (.tmp x) = .bool b:=hx
 have e2:a.eval (.const (.bool false)) = .bool false:=rfl
 have e3:a.eval (.tmp y) = a.tmps.getD y undef:=rfl
 unfold execOp
 rw [h]
 cases b <;> simp [e1,e2,e3,asBool]
theorem ask_wp {ops:Array Oper} {i e:Nat} (R:AskR ops i e) {a:Act} {w:World} (hs:e + 10 ≤ a.tmps.size) (hi:i < e) (h1:1 < e) {oa:Option Addr} {L K j:Nat} (hv:a.tmps.getD 1 undef = .slice oa L K) (hj:a.tmps.getD i undef = .int .i64 (j:Int)) {b:Bool}
  (hin:j < L → ∃ ad:Addr,oa = some ad ∧ w.cell? (ad.add j) = some (.bool b)) (hout:L ≤ j → b = false) {Q:Exit → Act → World → Prop} (hQ:∀ a':Act,a'.defers = a.defers → a'.tmps.size = a.tmps.size → a'.tmps.getD (e + 9) undef = .bool b → (∀ k,(∀ q,q < 10 → k ≠ e + q) → a'.tmps.getD k undef = a.tmps.getD k undef) → Q .normal a' w) :
  wpOps Tryz.prog ops Q [0,1,2,3,4,5,6,7,8,9] a w:=by
 obtain ⟨o0,p0,d0,q0,g0⟩:=R.o0
 obtain ⟨o1,p1,d1,q1,g1⟩:=R.o1
 obtain ⟨o2,c2,p2,d2,q2,c3,c4,c5,g2⟩:=R.o2
 obtain ⟨o3,p3,d3,q3,g3⟩:=R.o3
 obtain ⟨o4,p4,d4,q4,g4⟩:=R.o4
 obtain ⟨o5,p5,d5,q5,g5⟩:=R.o5
 obtain ⟨o6,p6,d6,q6,g6⟩:=R.o6
 obtain ⟨o7,p7,d7,q7,g7⟩:=R.o7
 obtain ⟨o8,p8,d8,q8,g8⟩:=R.o8
 obtain ⟨o9,p9,d9,q9,g9⟩:=R.o9
 refine ops_val p0 d0 (want_none g0) (run_move q0) ?_
 rw [show a.eval (.tmp i) = .int .i64 (j:Int) from hj]
 generalize ha1:a.put (some e) (.int .i64 (j:Int)) = a1
 have s1:a1.tmps.size = a.tmps.size:=by rw [← ha1]; exact put_sz
 have f1:a1.defers = a.defers:=by rw [← ha1]; rfl
 have k1:∀ k,k ≠ e → a1.tmps.getD k undef = a.tmps.getD k undef:=fun k hk=>by rw [← ha1]; exact put_ne hk
 have v1:a1.tmps.getD e undef = .int .i64 (j:Int):=by rw [← ha1]; exact put_eq (by omega)
 clear ha1
 refine ops_val p1 d1 (want_none g1) (run_move q1) ?_
 rw [show a1.eval (.tmp 1) = .slice oa L K from (k1 1 (by omega)).trans hv]
 generalize ha2:a1.put (some (e + 1)) (.slice oa L K) = a2
 have s2:a2.tmps.size = a.tmps.size:=by rw [← ha2]; exact put_sz.trans s1
 have f2:a2.defers = a.defers:=by rw [← ha2]; exact f1
 have k2:∀ k,k ≠ e + 1 → a2.tmps.getD k undef = a1.tmps.getD k undef:=fun k hk=>by rw [← ha2]; exact put_ne hk
 have v2:a2.tmps.getD (e + 1) undef = .slice oa L K:=by rw [← ha2]; exact put_eq (by omega)
 clear ha2
 refine ops_val p2 d2 (want_none g2) (run_len q2 c3 c4 c5 v2) ?_
 generalize ha3:a2.put (some (e + 2)) (.int .i64 (L:Int)) = a3
 have s3:a3.tmps.size = a.tmps.size:=by rw [← ha3]; exact put_sz.trans s2
 have f3:a3.defers = a.defers:=by rw [← ha3]; exact f2
 have k3:∀ k,k ≠ e + 2 → a3.tmps.getD k undef = a2.tmps.getD k undef:=fun k hk=>by rw [← ha3]; exact put_ne hk
 have v3:a3.tmps.getD (e + 2) undef = .int .i64 (L:Int):=by rw [← ha3]; exact put_eq (by omega)
 clear ha3
 refine ops_val p3 d3 (want_none g3) (run_lss q3 (((k3 e (by omega)).trans (k2 e (by omega))).trans v1) v3) ?_
 generalize ha4:a3.put (some (e + 3)) (.bool (decide ((j:Int) < (L:Int)))) = a4
 have s4:a4.tmps.size = a.tmps.size:=by rw [← ha4]; exact put_sz.trans s3
 have f4:a4.defers = a.defers:=by rw [← ha4]; exact f3
 have k4:∀ k,k ≠ e + 3 → a4.tmps.getD k undef = a3.tmps.getD k undef:=fun k hk=>by rw [← ha4]; exact put_ne hk
 have v4:a4.tmps.getD (e + 3) undef = .bool (decide ((j:Int) < (L:Int))):=by rw [← ha4]; exact put_eq (by omega)
 clear ha4
 refine ops_val p4 d4 (want_none g4) (run_move q4) ?_
 rw [show a4.eval (.tmp (e + 3)) = .bool (decide ((j:Int) < (L:Int))) from v4]
 generalize ha5:a4.put (some (e + 4)) (.bool (decide ((j:Int) < (L:Int)))) = a5
 have s5:a5.tmps.size = a.tmps.size:=by rw [← ha5]; exact put_sz.trans s4
 have f5:a5.defers = a.defers:=by rw [← ha5]; exact f4
 have k5:∀ k,k ≠ e + 4 → a5.tmps.getD k undef = a4.tmps.getD k undef:=fun k hk=>by rw [← ha5]; exact put_ne hk
 have v5:a5.tmps.getD (e + 4) undef = .bool (decide ((j:Int) < (L:Int))):=by rw [← ha5]; exact put_eq (by omega)
 clear ha5
 have u5:∀ k,(∀ q,q < 10 → k ≠ e + q) → a5.tmps.getD k undef = a.tmps.getD k undef:=fun k hk=>by
  rw [k5 k (hk 4 (by omega)),k4 k (hk 3 (by omega)),k3 k (hk 2 (by omega)),k2 k (hk 1 (by omega)),k1 k (hk 0 (by omega))]
 have w1:a5.tmps.getD 1 undef = .slice oa L K:=(u5 1 fun q _=>by omega).trans hv
 have wi:a5.tmps.getD i undef = .int .i64 (j:Int):=(u5 i fun q _=>by omega).trans hj
 clear k1 v1 k2 v2 k3 v3 k4 v4 k5 s1 s2 s3 s4 f1 f2 f3 f4
 have z5:e + 4 < a5.tmps.size:=by omega
 rcases Nat.lt_or_ge j L with hl | hl
 ·obtain ⟨ad,rfl,hc⟩:=hin hl
  rw [show decide ((j:Int) < (L:Int)) = true from decide_eq_true (by omega)] at v5
  refine ops_val p5 d5 (want_some g5 p4 d4 z5 v5) (run_move q5) ?_
  rw [show a5.eval (.tmp 1) = .slice (some ad) L K from w1]
  generalize ha6:a5.put (some (e + 5)) (.slice (some ad) L K) = a6
  have s6:a6.tmps.size = a.tmps.size:=by rw [← ha6]; exact put_sz.trans s5
  have f6:a6.defers = a.defers:=by rw [← ha6]; exact f5
  have k6:∀ k,k ≠ e + 5 → a6.tmps.getD k undef = a5.tmps.getD k undef:=fun k hk=>by rw [← ha6]; exact put_ne hk
  have v6:a6.tmps.getD (e + 5) undef = .slice (some ad) L K:=by rw [← ha6]; exact put_eq (by omega)
  clear ha6
  refine ops_val p6 d6 (want_some g6 p4 d4 (by omega) ((k6 (e + 4) (by omega)).trans v5)) (run_move q6) ?_
  rw [show a6.eval (.tmp i) = .int .i64 (j:Int) from (k6 i (by omega)).trans wi]
  generalize ha7:a6.put (some (e + 6)) (.int .i64 (j:Int)) = a7
  have s7:a7.tmps.size = a.tmps.size:=by rw [← ha7]; exact put_sz.trans s6
  have f7:a7.defers = a.defers:=by rw [← ha7]; exact f6
  have k7:∀ k,k ≠ e + 6 → a7.tmps.getD k undef = a6.tmps.getD k undef:=fun k hk=>by rw [← ha7]; exact put_ne hk
  have v7:a7.tmps.getD (e + 6) undef = .int .i64 (j:Int):=by rw [← ha7]; exact put_eq (by omega)
  clear ha7
  have t7:a7.tmps.getD (e + 4) undef = .bool true:=((k7 (e + 4) (by omega)).trans (k6 (e + 4) (by omega))).trans v5
  refine ops_val p7 d7 (want_some g7 p4 d4 (by omega) t7) (run_at q7 ((k7 (e + 5) (by omega)).trans v6) v7 hl) ?_
  generalize ha8:a7.put (some (e + 7)) (.pointer (some (ad.add j))) = a8
  have s8:a8.tmps.size = a.tmps.size:=by rw [← ha8]; exact put_sz.trans s7
  have f8:a8.defers = a.defers:=by rw [← ha8]; exact f7
  have k8:∀ k,k ≠ e + 7 → a8.tmps.getD k undef = a7.tmps.getD k undef:=fun k hk=>by rw [← ha8]; exact put_ne hk
  have v8:a8.tmps.getD (e + 7) undef = .pointer (some (ad.add j)):=by rw [← ha8]; exact put_eq (by omega)
  clear ha8
  have t8:a8.tmps.getD (e + 4) undef = .bool true:=(k8 (e + 4) (by omega)).trans t7
  refine ops_val p8 d8 (want_some g8 p4 d4 (by omega) t8) (run_load q8 v8 hc) ?_
  generalize ha9:a8.put (some (e + 8)) (.bool b) = a9
  have s9:a9.tmps.size = a.tmps.size:=by rw [← ha9]; exact put_sz.trans s8
  have f9:a9.defers = a.defers:=by rw [← ha9]; exact f8
  have k9:∀ k,k ≠ e + 8 → a9.tmps.getD k undef = a8.tmps.getD k undef:=fun k hk=>by rw [← ha9]; exact put_ne hk
  have v9:a9.tmps.getD (e + 8) undef = .bool b:=by rw [← ha9]; exact put_eq (by omega)
  clear ha9
  refine ops_val p9 d9 (want_none g9) (run_pick q9 ((k9 (e + 4) (by omega)).trans t8)) ?_
  rw [if_pos rfl,v9]
  exact hQ _ f9 (put_sz.trans s9) (put_eq (by omega)) fun k hk=>by
   rw [put_ne (hk 9 (by omega)),k9 k (hk 8 (by omega)),k8 k (hk 7 (by omega)),k7 k (hk 6 (by omega)),k6 k (hk 5 (by omega)),u5 k hk]
 ·have hb:=hout hl
  subst hb
  rw [show decide ((j:Int) < (L:Int)) = false from decide_eq_false (by omega)] at v5
  refine ops_skip p5 d5 (want_some g5 p4 d4 z5 v5) ?_
  generalize ha6:a5.put (some (e + 5)) undef = a6
  have s6:a6.tmps.size = a.tmps.size:=by rw [← ha6]; exact put_sz.trans s5
  have f6:a6.defers = a.defers:=by rw [← ha6]; exact f5
  have k6:∀ k,k ≠ e + 5 → a6.tmps.getD k undef = a5.tmps.getD k undef:=fun k hk=>by rw [← ha6]; exact put_ne hk
  clear ha6
  have t6:a6.tmps.getD (e + 4) undef = .bool false:=(k6 (e + 4) (by omega)).trans v5
  refine ops_skip p6 d6 (want_some g6 p4 d4 (by omega) t6) ?_
  generalize ha7:a6.put (some (e + 6)) undef = a7
  have s7:a7.tmps.size = a.tmps.size:=by rw [← ha7]; exact put_sz.trans s6
  have f7:a7.defers = a.defers:=by rw [← ha7]; exact f6
  have k7:∀ k,k ≠ e + 6 → a7.tmps.getD k undef = a6.tmps.getD k undef:=fun k hk=>by rw [← ha7]; exact put_ne hk
  clear ha7
  have t7:a7.tmps.getD (e + 4) undef = .bool false:=(k7 (e + 4) (by omega)).trans t6
  refine ops_skip p7 d7 (want_some g7 p4 d4 (by omega) t7) ?_
  generalize ha8:a7.put (some (e + 7)) undef = a8
  have s8:a8.tmps.size = a.tmps.size:=by rw [← ha8]; exact put_sz.trans s7
  have f8:a8.defers = a.defers:=by rw [← ha8]; exact f7
  have k8:∀ k,k ≠ e + 7 → a8.tmps.getD k undef = a7.tmps.getD k undef:=fun k hk=>by rw [← ha8]; exact put_ne hk
  clear ha8
  have t8:a8.tmps.getD (e + 4) undef = .bool false:=(k8 (e + 4) (by omega)).trans t7
  refine ops_skip p8 d8 (want_some g8 p4 d4 (by omega) t8) ?_
  generalize ha9:a8.put (some (e + 8)) undef = a9
  have s9:a9.tmps.size = a.tmps.size:=by rw [← ha9]; exact put_sz.trans s8
  have f9:a9.defers = a.defers:=by rw [← ha9]; exact f8
  have k9:∀ k,k ≠ e + 8 → a9.tmps.getD k undef = a8.tmps.getD k undef:=fun k hk=>by rw [← ha9]; exact put_ne hk
  clear ha9
  refine ops_val p9 d9 (want_none g9) (run_pick q9 ((k9 (e + 4) (by omega)).trans t8)) ?_
  rw [if_neg (by simp)]
  exact hQ _ f9 (put_sz.trans s9) (put_eq (by omega)) fun k hk=>by
   rw [put_ne (hk 9 (by omega)),k9 k (hk 8 (by omega)),k8 k (hk 7 (by omega)),k7 k (hk 6 (by omega)),k6 k (hk 5 (by omega)),u5 k hk]
structure Lst (η:En) (I:Nu → Prop) (v:AV) (B:Nat → Bool):Prop where
 pin:∃ (oa:Option Addr) (L K:Nat),(∀ ν u,I ν → wrel η ν v u → u = .slice oa L K) ∧ ∀ j,(j < L → ∃ b o:Nat,oa = some ⟨b,o,none⟩ ∧ b < η.w0.heap.size ∧ η.w0.cell? ⟨b,o + j,none⟩ = some (.bool (B j))) ∧ (L ≤ j → B j = false)
theorem old_cell {η:En} {ν:Nu} {h:Tr Ob} {w:World} (H:HR η ν h w) {ad:Addr} (hb:ad.block < η.w0.heap.size):w.cell? ad = η.w0.cell? ad:=by
 unfold World.cell?
 rw [H.base.old _ hb]
theorem ask_sem {η:En} {I:Nu → Prop} {v:AV} {B:Nat → Bool} (hl:Lst η I v B) {id:Nat} {ops:Array Oper} {i e n:Nat} (R:AskR ops i e) (hd:dstL ops.toList = [e,e + 1,e + 2,e + 3,e + 4,e + 5,e + 6,e + 7,e + 8,e + 9]) (hz:ops.size = 10) (hn:e + 10 ≤ n) (hi:i < e) (h1:1 < e) :
  e + 9 ∈ dstL ops.toList ∧ ∀ t h nx j,t.at 1 = v → t.at i = .vn j → ∀ ν w act,I ν → HR η ν h w → Nx ν nx → TRf η ν t n act → (Code.region id ops false).wp Tryz.prog (CodePost η ν h w n .normal (rst (some (e + 9)) (drp (dstL ops.toList) t) (.vb (B j))) h nx) act w:=by
 have hm:∀ k,k ∈ dstL ops.toList ↔ ∃ q,q < 10 ∧ k = e + q:=by
  intro k
  rw [hd]
  simp only [List.mem_cons,List.not_mem_nil,or_false]
  constructor
  ·intro h
   exact ⟨k - e,by omega,by omega⟩
  ·rintro ⟨q,hq,rfl⟩
   omega
 refine ⟨(hm _).2 ⟨9,by omega,rfl⟩,fun t h nx j ht hj ν w act hI H X A=>wp_region ?_⟩
 obtain ⟨oa,L,K,p1,p2⟩:=hl.pin
 have e1:act.tmps.getD 1 undef = .slice oa L K:=p1 ν _ hI (by rw [← ht]; exact A.rel 1)
 have e2:act.tmps.getD i undef = .int .i64 (j:Int):=by
  have:=A.rel i
  rw [hj] at this
  rcases this with h | h
  ·cases h
  ·rw [vrel] at h; exact h
 rw [show List.range ops.size = [0,1,2,3,4,5,6,7,8,9] by rw [hz]; rfl]
 refine ask_wp R (by rw [A.size]; exact hn) hi h1 e1 e2 (b:=B j) (fun hj => ?_) (p2 j).2 fun a' q1 q2 q3 q4=>⟨rfl,ν,⟨q2.trans A.size,fun k => ?_,q1.trans A.none⟩,H,X,Fr.refl _ _ _⟩
 ·obtain ⟨b,o,g1,g2,g3⟩:=(p2 j).1 hj
  refine ⟨_,g1, ?_⟩
  rw [addr_add,old_cell H g2]
  exact g3
 ·by_cases hk:k = e + 9
  ·subst hk
   rw [q3]
   rcases Fm.at_put_same (drp (dstL ops.toList) t) (e + 9) (.vb (B j)) with h | h
   ·refine Or.inr ?_
    show vrel η ν (((drp (dstL ops.toList) t).put (e + 9) (.vb (B j))).at (e + 9)) _
    rw [h,vrel]
   ·exact Or.inl h
  ·rw [rst_at (fun e=>hk (by cases e; rfl))]
   by_cases hk2:k ∈ dstL ops.toList
   ·rw [drp_in hk2]; exact Or.inl rfl
   ·rw [drp_out hk2,q4 k fun q hq he=>hk2 ((hm k).2 ⟨q,hq,he⟩)]
    exact A.rel k
end
section
open Go.RowKit
set_option maxRecDepth 100000
noncomputable def s7h (b:Ev) (J:JC) (m:List Bool) (a0:AV) (a1:AV) (h:Tr Ob) (n:Nat) (k:KV):RJ:=
 s8 b J (.vn 1) (.vn 20) h n fun a2 h3 n4=>vhR eqPt a2 .vpn h3 (q7 b 4 [a2] h3 n4) fun a6=>cdP a6 (rtP (.vb false) h3 n4 k) (c16 b J [a0,(.vn 1),(.vn 10)] h3 n4 fun a7 h8 n9=>lpH 2 (fun s10 m11 a12 a13 h14 n15=>ltR a13 a7 (q7 b 13 [a13,a7] h14 n15) fun a17=>cdP a17 (s31 b J a13 h14 n15 fun a18 h19 n20=>s12 b J (.vs [71,69,84]) a18 .vsn h19 n20 fun a21 h22 n23=>hkP m11 a13 fun m24 a25=>jn 1 (fun j26=>cdP a25 (s19 b J (.vs [99,97,99,104,101,45,99,111,110,116,114,111,108]) (.vs [111,110,108,121,45,105,102,45,99,97,99,104,101,100]) h22 n23 fun a27 h28 n29=>bsE b.g 52 1 3 [0] [a27] h28 n29 (r7 b 30 [a27] h28 n29) fun a31 h32 n33=>apE 3 40 [a21,a31] h32 n33 (r7 b 31 [a21,a31] h32 n33) j26) (j26 a21 h22 n23)) (fun a38 h39 n40=>vlQ (bdV b.g 36 [0,4,6]) [(.vn 2),a38,(.vb true)] (q7 b 35 [a38] h39 n40) fun a42=>s11 b J a2 a42 h39 n40 fun a43 h44 n45=>alP [(.vb false),(.vn 0),(.vn 0)] h44 n45 fun a46 h47 n48=>sgE 3 a46 a43 h47 n48 fun a49 h50 n51=>faR 0 a46 fun a52=>ldR a52 h50 fun a53=>ntR a53 fun a54=>cdP a54 (rtP (.vb false) h50 n51 k) (faR 1 a46 fun a55=>ldR a55 h50 fun a56=>bsE b.g 3 1 1 [0] [a56] h50 n51 (r7 b 46 [a56] h50 n51) fun a58 h59 n60=>apE 1 8 [a12,a58] h59 n60 (r7 b 47 [a12,a58] h59 n60) fun a62 h63 n64=>addR a13 (.vn 1) (q7 b 50 [a13] h63 n64) fun a66=>s10 m24 a62 a66 h63 n64))) (vlQ (bdV b.g 36 [0,2]) [(.vn 10),(.vn 262144)] (q7 b 53 [] h14 n15) fun a68=>s11 b J a2 a68 h14 n15 fun a69 h70 n71=>vlQ (bdV b.g 36 [0,2]) [(.vn 12),(.vn 262144)] (q7 b 56 [] h70 n71) fun a73=>s11 b J a2 a73 h70 n71 fun a74 h75 n76=>vlQ (bdV b.g 36 [0]) [(.vn 9)] (q7 b 59 [] h75 n76) fun a78=>s11 b J a2 a78 h75 n76 fun a79 h80 n81=>vlQ (bdV b.g 36 [0,2]) [(.vn 11),(.vn 262144)] (q7 b 62 [] h80 n81) fun a83=>s11 b J a2 a83 h80 n81 fun a84 h85 n86=>lpH 7 (fun s87 m88 a89 a90 a91 a92 a93 a94 a95 h96 n97=>ltR a89 a7 (q7 b 67 [a89,a7] h96 n97) fun a99=>cdP a99 (ixR 1 a12 a89 (q7 b 71 [a12,a89] h96 n97) fun a101=>ldR a101 h96 fun a102=>s22 b J a2 (.vn 0) a102 h96 n97 fun a103 h104 n105=>alP [(.vn 0),(.vn 0),(.vn 0),.vsn,(.vs []),(.vb false),(.vb false),(.vn 0),(.vn 0)] h104 n105 fun a106 h107 n108=>sgE 9 a106 a103 h107 n108 fun a109 h110 n111=>hkP m88 a89 fun m112 a113=>jn 1 (fun j114=>cdP a113 (j114 (.vn 504) h110 n111) (j114 (.vn 502) h110 n111)) (fun a115 h116 n117=>lgR 9 a106 h116 fun a118=>s23 b J a118 h116 n117 fun a119 h120 n121=>neR a119 a115 (q7 b 91 [a119,a115] h120 n121) fun a123=>gdQ a123 false (lgR 9 a106 h120) fun a125=>gdE a123 false (s30 b J a125 h120 n121) h120 n121 fun a127 h128 n129=>gdQ a123 false (ntR a127) fun a131=>pkR a123 (.vb true) a131 fun a132=>gdQ a132 false (faR 5 a106) fun a134=>gdQ a132 false (ldR a134 h128) fun a136=>gdQ a132 false (ntR a136) fun a138=>pkR a132 (.vb true) a138 fun a139=>cdP a139 (rtP (.vb false) h128 n129 k) (addR a89 (.vn 1) (q7 b 104 [a89] h128 n129) fun a141=>s87 m112 a141 a125 a127 a131 a134 a136 a138 h128 n129))) (s14 b J a2 h96 n97 fun a142 h143 n144=>s15 b J a142 h143 n144 fun a145 h146 n147=>exR 0 a145 fun a148=>exR 1 a145 fun a149=>eqR a148 (.vn 0) (q7 b 115 [a148] h146 n147) fun a151=>gdE a151 true (c9 b J [] h146 n147) h146 n147 fun a153 h154 n155=>pkR a151 a153 (.vb false) fun a156=>rtP a156 h154 n155 k)) m11 (.vn 0) .vno .vno .vno .vno .vno .vno h85 n86)) m .vsn (.vn 0) h8 n9)
noncomputable def t7h (b:Ev):Tab:=tbl b [p8,p16,p31,p12,p19,p11,p22,p23,p30,p14,p15,p9]
noncomputable def han:HAn:=(.s (.l .l) (.s (.l .l) (.s (.l (.s .l (.d (.s .l .l) .l))) (.s (.l .l) (.s (.l .l) (.s (.s (.l .l) (.e (.o [7,8] (.s (.l (.s .l (.d .l .l))) (.s (.e (.s (.l .l) (.s (.s (.h 8 38) (.l (.c [9] .l .l))) (.l (.s .l (.s (.s .l (.d (.s .l .l) .l)) .l)))))) (.l .l)))))) (.s (.l .l) (.s (.l .l) (.s (.l .l) (.s (.l .l) (.s (.s (.l .l) (.e (.o [11,93,94,95,98,99,100] (.s (.l (.s .l (.d .l .l))) (.s (.e (.s (.l .l) (.s (.l .l) (.s (.s (.h 11 87) (.l (.c [13] .l .l))) (.l (.s .l (.d (.s .l .l) .l))))))) (.l .l)))))) (.l (.s .l (.s .l .l))))))))))))))
theorem e7h (b:Ev) (J:JC) (m:List Bool) (x y:AV) (h:Tr Ob) (n:Nat) (k:KV):s7h b J m x y h n k = hfn b.g (t7h b) han Tryz.f7 (codeOf Tryz.f7) m J [x,y] h n k:=by kernel_rfl
theorem wr_7:(wr (codeOf Tryz.f7)).elem 1 = false:=by kernel_rfl
theorem hk_7 {η:En} {I:Nu → Prop} {v:AV} {B:Nat → Bool} (hl:Lst η I v B):HkSem Tryz.prog η I B Tryz.f7.ntmps 1 v (codeOf Tryz.f7) han:=by
 have key:∀ c:Code,c = codeOf Tryz.f7 → HkSem Tryz.prog η I B Tryz.f7.ntmps 1 v c han:=by
  intro c hc
  unfold codeOf Tryz.f7 at hc
  simp only at hc
  subst hc
  unfold han
  simp only [HkSem,true_and,and_true]
  exact ⟨ask_sem hl (i:=8) (e:=29) ⟨⟨_,rfl,rfl,rfl,rfl⟩,⟨_,rfl,rfl,rfl,rfl⟩,⟨_,_,rfl,rfl,rfl,rfl,rfl,rfl,rfl⟩,⟨_,rfl,rfl,rfl,rfl⟩,⟨_,rfl,rfl,rfl,rfl⟩,⟨_,rfl,rfl,rfl,rfl⟩,⟨_,rfl,rfl,rfl,rfl⟩,⟨_,rfl,rfl,rfl,rfl⟩,⟨_,rfl,rfl,rfl,rfl⟩,⟨_,rfl,rfl,rfl,rfl⟩⟩ rfl rfl (by decide) (by decide) (by decide),ask_sem hl (i:=11) (e:=78) ⟨⟨_,rfl,rfl,rfl,rfl⟩,⟨_,rfl,rfl,rfl,rfl⟩,⟨_,_,rfl,rfl,rfl,rfl,rfl,rfl,rfl⟩,⟨_,rfl,rfl,rfl,rfl⟩,⟨_,rfl,rfl,rfl,rfl⟩,⟨_,rfl,rfl,rfl,rfl⟩,⟨_,rfl,rfl,rfl,rfl⟩,⟨_,rfl,rfl,rfl,rfl⟩,⟨_,rfl,rfl,rfl,rfl⟩,⟨_,rfl,rfl,rfl,rfl⟩⟩ rfl rfl (by decide) (by decide) (by decide)⟩
 exact key _ rfl
section
variable {η : En} {b : Ev} (E : EvOk η b.bd b.th b.ti b.tw)
include E
theorem t7h_ok:TabOk Tryz.prog η (t7h b):=tc (m8 E)<|tc (m16 E)<|tc (m31 E)<|tc (m12 E)<|tc (m19 E)<|tc (m11 E)<|tc (m22 E)<|tc (m23 E)<|tc (m30 E)<|tc (m14 E)<|tc (m15 E)<|tc (m9 E)<|tn
theorem own_run {I:Nu → Prop} (hI:∀ ν ν':Nu,ν.le ν' → I ν → I ν') {v:AV} {B:Nat → Bool} (hl:Lst η I v B) {m:List Bool} (hm:MOk B m) {u:AV} {nx0:Nat} (hr:s7h b (jt (dynL b) 100) m u v .e nx0 finT = .v (.vb true) .e 0) {ν:Nu} {vs:List Value} (i:I ν) (X:Nx ν nx0) (hv:wrels η ν [u,v] vs) :
  Calls Tryz.prog 7 vs.toArray η.w0 fun e w'=>e = .returned (.bool true) ∧ Aft η.w0 w':=
 by
 have e:=e7h b (jt (dynL b) 100) m u v .e nx0 finT
 rw [hr] at e
 have hf:b.g.ff 7 = some Tryz.f7:=ff_of (by kernel_rfl)
 have hb:Tryz.f7.body = some (codeOf Tryz.f7):=by kernel_rfl
 have hs:1 ∉ wr (codeOf Tryz.f7):=fun h=>by
  have h2:=wr_7
  rw [List.elem_eq_true_of_mem h] at h2
  cases h2
 have ha:(ofL [u,v] 0 Fm.e).at 1 = v:=rfl
 have S:EnvOk Tryz.prog b.g η:=env_top E.bd
 have SJ:SndC Tryz.prog η (sJ (t7h b) (jt (dynL b) 100)):=sJ_ok (t7h_ok E) (jt_ok (dynL_ok E) 100)
 have T:TabE Tryz.prog b.g.tt b.g.ff:=tab_top b.bd
 generalize jt (dynL b) 100 = J at e SJ
 generalize t7h b = tab at e SJ
 have hk:=hk_7 hl
 generalize b.g = g at e S T hf
 generalize Tryz.f7 = fn at e hf hb hs hk
 generalize codeOf fn = c at e hb hs hk
 exact hfn_run (g:=g) (tab:=tab) (J:=J) (f:=7) (fn:=fn) (c:=c) (an:=han) (m:=m) (s:=1) (v:=v) (args:=[u,v]) (nx0:=nx0) hI mixed_top T S SJ hf hb hm ha hs hk e.symm i X hv
end
end
section
open Go.RowKit
set_option maxRecDepth 10000
theorem wi_in {lo hi:Int} (h0:0 ≤ lo) (h1:lo ≤ hi) (n:Int):lo ≤ wiF n lo hi ∧ wiF n lo hi ≤ hi:=by
 have hm0:(n.tmod (hi - lo + 1)) < hi - lo + 1:=Int.tmod_lt_of_pos _ (by omega)
 have hm1 : -(hi - lo + 1) < n.tmod (hi - lo + 1):=by
  have h:=Int.tmod_lt_of_pos (-n) (show 0 < hi - lo + 1 by omega)
  rw [Int.neg_tmod] at h
  omega
 unfold wiF
 split <;> omega
structure In64 (x:Int):Prop where
 low : -9223372036854775808 ≤ x
 high:x ≤ 9223372036854775807
noncomputable def etaO (n L K:Int) (w:World):En where
 str:=fun _=>ByteArray.empty
 num:=fun i=>if i < 16 then 0 else if i = 18 then n else if i = 20 then L else if i = 21 then K else 0
 w0:=w
theorem bdO_ok {n L K:Int} {w:World}:BdOk (etaO n L K w) (fun _=>none):=
 ⟨fun i a b h=>(by cases h),fun i h=>if_pos h,fun i l r hi hl h=>(by cases h),fun i j r hi hj h=>(by cases h),fun j k m hj hk h=>(by cases h)⟩
noncomputable def voK (k:Nat):Ev:=⟨fun _=>none,[],[],[⟨18,1,10,.vn k⟩]⟩
noncomputable def toR (k:Nat) (m:List Bool) (v:AV):RJ:=s7h (voK k) (jt (dynL (voK k)) 100) m (.vx .i64 (numX 18)) v .e 3 finT
def LstV (w:World) (u:Value) (B:Nat → Bool):Prop:=
 (u = .slice none 0 0 ∧ ∀ j,B j = false) ∨ ∃ b o L K,u = .slice (some ⟨b,o,none⟩) L K ∧ L ≤ K ∧ K ≤ maxLen ∧ b < w.heap.size ∧ ∀ j,(j < L → w.cell? ⟨b,o + j,none⟩ = some (.bool (B j))) ∧ (L ≤ j → B j = false)
theorem cls_own {n : Int} (im : In64 n) {w : World} (hM : MaxOk w) (hT : Lib.TabIs Tryz.prog w "internal/strconv.uint64pow10" .u64 Lib.pow10Tab) {k : Nat} {m : List Bool} (hr : ∀ v, toR k m v = .v (.vb true) .e 0) {B : Nat → Bool} (hm : MOk B m) {u : Value} (hu : LstV w u B) (hk : wiF n 1 10 = (k : Int)) :
  Calls Tryz.prog 7 #[.int .i64 n,u] w fun e w'=>e = .returned (.bool true) ∧ Aft w w':=by
 have E:∀ L K,EvOk (etaO n L K w) (voK k).bd (voK k).th (voK k).ti (voK k).tw:=fun L K=>by
  refine ⟨bdO_ok,fun e he=>(by cases he),fun e he=>(by cases he),fun e he => ?_,hM,hT⟩
  rw [show (voK k).tw = [⟨18,1,10,.vn k⟩] from rfl,List.mem_singleton] at he
  subst he
  refine ⟨im.low,im.high,(show 1 ≤ 10 by decide),(show 10 ≤ 1000000000000 by decide),fun ν => ?_⟩
  rw [vrel]
  exact congrArg (Value.int .i64) hk
 have num:∀ L K ν,wrel (etaO n L K w) ν (.vx .i64 (numX 18)) (.int .i64 n):=fun L K ν=>Or.inr (by rw [vrel,numX_val]; rfl)
 rcases hu with ⟨rfl,hB⟩ | ⟨b,o,L,K,rfl,h1,h2,h3,h4⟩
 ·have hl:Lst (etaO n 0 0 w) (fun _=>True) .vsn B:=⟨none,0,0,fun ν u _ h=>by rcases h with h | h; (cases h); (rw [vrel] at h; exact h),fun j=>⟨fun h=>absurd h (Nat.not_lt_zero _),fun _=>hB j⟩⟩
  exact own_run (E 0 0) (fun _ _ _ _=>trivial) hl hm (hr _) (ν:=fun _=>none) trivial (fun _ _=>rfl) (vs:=[.int .i64 n,.slice none 0 0]) ⟨_,_,rfl,num _ _ _,_,_,rfl,Or.inr (by rw [vrel]),rfl⟩
 ·have hz:(Lf.of 0).val (etaO n L K w) = 0:=by simp [Lf.of,Lf.val,sumX]
  have e20:(numX 20).val (etaO n L K w) = (L:Int):=by rw [numX_val]; rfl
  have e21:(numX 21).val (etaO n L K w) = (K:Int):=by rw [numX_val]; rfl
  have hl:Lst (etaO n L K w) (fun ν=>ν 0 = some ⟨b,o,o + K⟩) (.vsx 0 (Lf.of 0) (numX 20) (numX 21) true) B:=by
   refine ⟨some ⟨b,o,none⟩,L,K,fun ν u i h => ?_,fun j=>⟨fun h=>⟨b,o,rfl,h3,(h4 j).1 h⟩,(h4 j).2⟩⟩
   rcases h with h | h
   ·cases h
   ·rw [vrel,hz,e20,e21] at h
    obtain ⟨q,O,N,K',g1,rfl,g2,g3, -, -,g4, -⟩:=h
    rw [i] at g1
    cases g1
    have g4:=g4 rfl
    have:O = 0:=by omega
    subst this
    have:N = L:=by omega
    subst this
    have:K' = K:=by omega
    subst this
    rfl
  refine own_run (E L K) (fun ν ν' hn i=>hn _ _ i) hl hm (hr _) (ν:=fun b'=>if b' = 0 then some ⟨b,o,o + K⟩ else none) (if_pos rfl) (fun b' hb=>if_neg (by omega)) (vs:=[.int .i64 n,.slice (some ⟨b,o,none⟩) L K]) ⟨_,_,rfl,num _ _ _,_,_,rfl,Or.inr ?_,rfl⟩
  rw [vrel,hz,e20,e21]
  exact ⟨⟨b,o,o + K⟩,0,L,K,if_pos rfl,rfl,rfl,rfl,h1,Int.le_refl _,fun _=>rfl,(by show o + 0 + K ≤ o + K; omega),h2⟩
noncomputable abbrev G0:RJ := .v (.vb true) .e 0
abbrev R (k:Nat) (m:List Bool):Prop := ∀ v,toR k m v = G0
noncomputable def mB:Nat → Nat → List Bool
 | 0,_=>[]
 | p + 1,c=>mB p (Nat.div c 2) ++ [Nat.beq (Nat.mod c 2) 1]
abbrev Q (k c:Nat):Prop:=R k (mB (Nat.sub k 2) c)
def Rn (k:Nat):Nat → List Bool → Prop
 | 0,m=>R k m
 | p + 1,m=>Rn k p (m ++ [true]) ∧ Rn k p (m ++ [false])
theorem nd {k p:Nat} {m:List Bool} (a:Rn k p (m ++ [true])) (b:Rn k p (m ++ [false])):Rn k (p + 1) m:=⟨a,b⟩
theorem Rn.at {k:Nat} {B:Nat → Bool}:∀ p m,MOk B m → Rn k p m → ∃ m',MOk B m' ∧ R k m'
 | 0,m,hm,h=>⟨m,hm,h⟩
 | p + 1,m,hm,h=>by
  cases hB:B m.length with
  | true=>exact Rn.at p _ (hm.snoc hB.symm) h.1
  | false=>exact Rn.at p _ (hm.snoc hB.symm) h.2
end
end Go.Proofs.YtoeeackjlclneaaGreatDoor
