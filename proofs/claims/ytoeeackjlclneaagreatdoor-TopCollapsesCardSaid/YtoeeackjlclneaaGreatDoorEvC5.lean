/-
  Texts joined: Shd.
-/
import Derived.Test.YtoeeackjlclneaaGreatDoorEvC4
section
namespace Go.Proofs.YtoeeackjlclneaaGreatDoor
set_option linter.unusedVariables false
def OpSem (P:Program) (η:En) (o:Oper) (t:Fm) (h:Tr Ob) (nx:Nat) (a:AV) (h1:Tr Ob) (nx1:Nat):Prop:=
 ∀ ν w act n,HR η ν h w → Nx ν nx → TRf η ν t n act → ∀ (next:Act → World → Prop) (Q:Exit → Act → World → Prop),(∀ v w1 ν1,wrel η ν1 a v → HR η ν1 h1 w1 → Nx ν1 nx1 → Fr ν h w ν1 h1 w1 → next (act.put o.dst v) w1) → o.wp P act w next Q
noncomputable def tagK:KV:=fun a h nx => .c .nrm (Fm.e.put 0 a) h nx
theorem tagK_inj {a b:AV} {h h1:Tr Ob} {nx nx1:Nat} (e:tagK a h nx = tagK b h1 nx1):a = b ∧ h = h1 ∧ nx = nx1:=by
 unfold tagK at e
 injection e with e1 e2 e3 e4
 have:=congrArg (fun t=>Fm.at t 0) e2
 simp only [Fm.at_put_lt _ (show (0:Nat) < 256 by omega)] at this
 exact ⟨this,e3,e4⟩
theorem TRf.mask {η:En} {ν:Nu} {t:Fm} {n:Nat} {a:Act} (A:TRf η ν t n a) (ds:List Nat):TRf η ν (mask ds t) n a:=TR_mask A.size A.none fun d _=>A.rel d
theorem q_sem {P:Program} {g:G} (T:TabE P g.tt g.ff) {η:En} (S:EnvOk P g η) {o:Oper} {V:Fm → Tr Ob → Nat → AV} (hc:cop g o = .q V) {ds:List Nat} {t:Fm} {h:Tr Ob} {nx:Nat} (hk:V (mask ds t) h nx ≠ .vno):OpSem P η o t h nx (V (mask ds t) h nx) h nx:=by
 intro ν w act n H X A next Q hn
 have ok:=cop_ok T S (P:=P) (η:=η) o
 rw [hc] at ok
 obtain ⟨a,h1,h2⟩:=ok.2 (mask ds t) h nx hk
 refine good_wp (step1_plain (P:=P) T S H X (A.mask ds) h1) fun v w1 ν1 p H1 X1 F1=>hn v w1 ν1 (Or.inr ?_) H1 X1 F1
 rcases h2 with h2 | h2
 ·rw [h2]; exact p
 ·rw [h2]; exact toN_rel p
theorem e_sem {P:Program} {g:G} (T:TabE P g.tt g.ff) {η:En} (S:EnvOk P g η) {o:Oper} {F:JJ → Fm → Tr Ob → Nat → KV → RJ} (hc:cop g o = .e F) {J:JJ} (D:SndJ P η J) {ds:List Nat} {t:Fm} {h h1:Tr Ob} {nx nx1:Nat} {a:AV}
  (hF:∀ k,F J (mask ds t) h nx k = k a h1 nx1):OpSem P η o t h nx a h1 nx1:=by
 intro ν w act n H X A next Q hn
 have ok:=cop_ok T S (P:=P) (η:=η) o
 rw [hc] at ok
 obtain ⟨a',h1',nx1',e1,e2⟩:=ok J D (mask ds t) h nx tagK _ _ _ _ (hF tagK)
 have e1:tagK a' h1' nx1' = tagK a h1 nx1:=e1
 obtain ⟨rfl,rfl,rfl⟩:=tagK_inj e1
 exact e2 ν w act n H X (A.mask ds) next Q fun v w1 ν1 p H1 X1 F1=>hn v w1 ν1 (Or.inr p) H1 X1 F1
theorem mv_sem {P:Program} {η:En} {o:Oper} {x:Operand} (hx:mvOf o.op = some x) {ds:List Nat} {t:Fm} {h:Tr Ob} {nx:Nat}:OpSem P η o t h nx ((cev x).f (mask ds t)) h nx:=by
 intro ν w act n H X A next Q hn
 have run:(execOp act.eval o).run P w = .ok (.value (act.eval x)) w:=by
  obtain ⟨dst,op,ty0,pos,after,guard⟩:=o
  unfold mvOf at hx
  simp only at hx
  split at hx
  ·cases hx; rfl
  ·cases hx; rfl
  ·cases hx
 unfold Oper.wp
 rw [run]
 exact hn _ w ν (cev_w (A.mask ds) x) H X (Fr.refl _ _ _)
def StepW (P:Program) (all:Array Oper) (o:Oper) (act:Act) (w:World) (next:Act → World → Prop) (Q:Exit → Act → World → Prop):Prop:=
 if Region.wanted o (yielded all act.tmps) = true then o.wp P act w next Q ∨ (o.asks P act w ∧ LetsOut Q) else next (act.put o.dst undef) w
def StepSem (P:Program) (η:En) (all:Array Oper) (o:Oper) (t:Fm) (h:Tr Ob) (nx:Nat) (a:AV) (h1:Tr Ob) (nx1:Nat):Prop:=
 ∀ ν w act n,HR η ν h w → Nx ν nx → TRf η ν t n act → ∀ (next:Act → World → Prop) (Q:Exit → Act → World → Prop),(∀ v w1 ν1,wrel η ν1 a v → HR η ν1 h1 w1 → Nx ν1 nx1 → Fr ν h w ν1 h1 w1 → next (act.put o.dst v) w1) → StepW P all o act w next Q
def DoSem (P:Program) (η:En) (o:Oper) (ds:List Nat) (J:JC):DO → Prop
 | .no=>True
 | .q f => ∀ t h nx,(∀ k, ¬ GoodR (f (vl t ds) h nx k)) ∨ ∃ a,(∀ k,f (vl t ds) h nx k = k a) ∧ OpSem P η o t h nx a h nx
 | .e f => ∀ t h nx,(∀ k, ¬ GoodR (f J (vl t ds) h nx k)) ∨ ∃ a h1 nx1,(∀ k,f J (vl t ds) h nx k = k a h1 nx1) ∧ OpSem P η o t h nx a h1 nx1
theorem dopM_sem {P:Program} {g:G} (T:TabE P g.tt g.ff) {η:En} (S:EnvOk P g η) {o:Oper} {ds:List Nat} {J:JC} (SJ:SndC P η J):DoSem P η o ds J (dopM false g ds o):=by
 unfold dopM
 cases hm:mvOf o.op with
 | some x=>
  intro t h nx
  refine Or.inr ⟨(cev x).f (mask ds t),fun k => ?_,mv_sem hm⟩
  show k ((cev x).f (unm ds (vl t ds))) = _
  rw [unm_vl]
 | none=>
  simp only
  have ok:=dop_ok (g:=g) (ds:=ds) (o:=o)
  revert ok
  cases dop g ds o with
  | no=>exact fun _=>trivial
  | q f=>
   rintro ⟨V,hc,hf⟩ t h nx
   rcases hf t h nx with c | ⟨a,e1,e2,e3⟩
   ·exact Or.inl c
   ·subst e1
    exact Or.inr ⟨_,e3,q_sem T S hc e2⟩
  | e f=>
   intro ok t h nx
   obtain ⟨F,hc,hf⟩:=ok J SJ.one
   rcases hf t h nx with c | ⟨a,h1,nx1,e1,e2⟩
   ·exact Or.inl c
   ·exact Or.inr ⟨_,_,_,e2,e_sem T S hc SJ.dir e1⟩
theorem step_plain {P:Program} {η:En} {all:Array Oper} {o:Oper} {D:DO} {J:JC} (hD:DoSem P η o (mens all.toList o) J D) (t:Fm) (h:Tr Ob) (nx:Nat) :
  (∀ KQ KE, ¬ GoodR (stepD (gdOf all.toList o) t D J (vl t (mens all.toList o)) h nx KQ KE)) ∨
  (∃ a,(∀ KQ KE,stepD (gdOf all.toList o) t D J (vl t (mens all.toList o)) h nx KQ KE = KQ a) ∧ StepSem P η all o t h nx a h nx) ∨
  ∃ a h1 nx1,(∀ KQ KE,stepD (gdOf all.toList o) t D J (vl t (mens all.toList o)) h nx KQ KE = KE a h1 nx1) ∧ StepSem P η all o t h nx a h1 nx1:=by
 have yes:∀ {a h1 nx1},OpSem P η o t h nx a h1 nx1 → (∀ ν n act,TRf η ν t n act → Region.wanted o (yielded all act.tmps) = true) → StepSem P η all o t h nx a h1 nx1:=by
  intro a h1 nx1 hs hw ν w act n H X A next Q hn
  unfold StepW
  rw [if_pos (hw ν n act A)]
  exact Or.inl (hs ν w act n H X A next Q hn)
 have no:(∀ ν n act,TRf η ν t n act → Region.wanted o (yielded all act.tmps) = false) → StepSem P η all o t h nx (.vtp []) h nx:=by
  intro hw ν w act n H X A next Q hn
  unfold StepW
  rw [hw ν n act A]
  exact hn undef w ν (Or.inr (by rw [vrel]; exact ⟨[],rfl,vrels_nil.2 rfl⟩)) H X (Fr.refl _ _ _)
 cases D with
 | no=>exact Or.inl fun KQ KE=>er_bad
 | q f=>
  have hf:=hD t h nx
  unfold stepD gdOf
  rcases hg:o.guard with _ | ⟨j,want⟩
  ·simp only
   rcases hf with c | ⟨a,e1,e2⟩
   ·exact Or.inl fun KQ KE=>c KQ
   ·exact Or.inr (Or.inl ⟨a,fun KQ KE=>e1 KQ,yes e2 fun ν n act A=>by unfold Region.wanted; rw [hg]⟩)
  ·simp only
   rcases hj:nthO all.toList j with _ | oj
   ·exact Or.inl fun KQ KE=>er_bad
   ·simp only
    rcases hd:oj.dst with _ | d
    ·exact Or.inl fun KQ KE=>er_bad
    ·simp only
     have hW:∀ x,t.at d = .vb x → ∀ ν n act,TRf η ν t n act → Region.wanted o (yielded all act.tmps) = (x == want):=fun x hx ν n act A=>wantA_rel A (by unfold wantA; rw [hg]; simp only [hj,hd,hx])
     have hW2:t.at d = .vtp [] → ∀ ν n act,TRf η ν t n act → Region.wanted o (yielded all act.tmps) = false:=fun hx ν n act A=>wantA_rel A (by unfold wantA; rw [hg]; simp only [hj,hd,hx])
     unfold gdQ
     rcases gdF_nat (t.at d) want with e | e | e
     ·simp only [e]
      rcases hf with c | ⟨a,e1,e2⟩
      ·exact Or.inl fun KQ KE=>c KQ
      ·refine Or.inr (Or.inl ⟨a,fun KQ KE=>e1 KQ,yes e2 ?_⟩)
       rcases gdF_eq (e (.er 1 "") (.er 2 "") (.er 3 "")) (fun e => by cases e) with ⟨x, h1, ⟨h2, -⟩ | ⟨-, h3⟩⟩ | ⟨-, h3⟩
       ·subst h2; intro ν n act A; rw [hW x h1 ν n act A]; exact beq_self_eq_true x
       ·cases h3
       ·cases h3
     ·simp only [e]
      refine Or.inr (Or.inl ⟨.vtp [],(fun KQ KE=>by first | rfl | trivial),no ?_⟩)
      rcases gdF_eq (e (.er 1 "") (.er 2 "") (.er 3 "")) (fun e => by cases e) with ⟨x, h1, ⟨-, h3⟩ | ⟨h2, -⟩⟩ | ⟨h1, -⟩
      ·cases h3
      ·intro ν n act A; rw [hW x h1 ν n act A]; cases x <;> cases want <;> first | rfl | exact absurd rfl h2
      ·exact hW2 h1
     ·simp only [e]
      exact Or.inl fun KQ KE=>er_bad
 | e f=>
  have hf:=hD t h nx
  unfold stepD gdOf
  rcases hg:o.guard with _ | ⟨j,want⟩
  ·simp only
   rcases hf with c | ⟨a,h1,nx1,e1,e2⟩
   ·exact Or.inl fun KQ KE=>c KE
   ·exact Or.inr (Or.inr ⟨a,h1,nx1,fun KQ KE=>e1 KE,yes e2 fun ν n act A=>by unfold Region.wanted; rw [hg]⟩)
  ·simp only
   rcases hj:nthO all.toList j with _ | oj
   ·exact Or.inl fun KQ KE=>er_bad
   ·simp only
    rcases hd:oj.dst with _ | d
    ·exact Or.inl fun KQ KE=>er_bad
    ·simp only
     have hW:∀ x,t.at d = .vb x → ∀ ν n act,TRf η ν t n act → Region.wanted o (yielded all act.tmps) = (x == want):=fun x hx ν n act A=>wantA_rel A (by unfold wantA; rw [hg]; simp only [hj,hd,hx])
     have hW2:t.at d = .vtp [] → ∀ ν n act,TRf η ν t n act → Region.wanted o (yielded all act.tmps) = false:=fun hx ν n act A=>wantA_rel A (by unfold wantA; rw [hg]; simp only [hj,hd,hx])
     unfold gdE
     rcases gdF_nat (t.at d) want with e | e | e
     ·simp only [e]
      rcases hf with c | ⟨a,h1,nx1,e1,e2⟩
      ·exact Or.inl fun KQ KE=>c KE
      ·refine Or.inr (Or.inr ⟨a,h1,nx1,fun KQ KE=>e1 KE,yes e2 ?_⟩)
       rcases gdF_eq (e (.er 1 "") (.er 2 "") (.er 3 "")) (fun e => by cases e) with ⟨x, h1, ⟨h2, -⟩ | ⟨-, h3⟩⟩ | ⟨-, h3⟩
       ·subst h2; intro ν n act A; rw [hW x h1 ν n act A]; exact beq_self_eq_true x
       ·cases h3
       ·cases h3
     ·simp only [e]
      refine Or.inr (Or.inr ⟨.vtp [],h,nx,(fun KQ KE=>by first | rfl | trivial),no ?_⟩)
      rcases gdF_eq (e (.er 1 "") (.er 2 "") (.er 3 "")) (fun e => by cases e) with ⟨x, h1, ⟨-, h3⟩ | ⟨h2, -⟩⟩ | ⟨h1, -⟩
      ·cases h3
      ·intro ν n act A; rw [hW x h1 ν n act A]; cases x <;> cases want <;> first | rfl | exact absurd rfl h2
      ·exact hW2 h1
     ·simp only [e]
      exact Or.inl fun KQ KE=>er_bad
theorem rst_TR {η:En} {ν:Nu} {t:Fm} {n:Nat} {a:Act} (A:TRf η ν t n a) {dst:Option Nat} (hd:dstK n dst = true) {x:AV} {v:Value} (hv:wrel η ν x v):TRf η ν (rst dst t x) n (a.put dst v):=by
 cases dst with
 | none=>exact A
 | some d=>exact A.put (blt_lt hd) hv
noncomputable abbrev finP:Fm → Fm → Tr Ob → Nat → List Stg → KJ → RJ:=fun _ t h nx _ kn=>kn t h nx
theorem within_00 (k:Nat):within 0 0 k = false:=by
 unfold within
 rw [bltD,decide_eq_false (show ¬ k < 0 + 0 by omega),Bool.and_false]
theorem dops_plain {P:Program} {g:G} (T:TabE P g.tt g.ff) {η:En} (S:EnvOk P g η) {n:Nat} {tab:Tab} {J:JC} (SJ:SndC P η (sJ tab J)) {all:Array Oper} (u:Fm) :
  ∀ l k,all.toList.drop k = l → ∀ t h nx hs,(∀ kn, ¬ GoodR (dops g n tab false all.toList 0 0 finP J l k u t h nx hs kn)) ∨ ∃ t' h' nx',(∀ kn,dops g n tab false all.toList 0 0 finP J l k u t h nx hs kn = kn t' h' nx') ∧ (∀ d,d ∉ dstL l → t'.at d = t.at d) ∧
   ∀ ν w act,HR η ν h w → Nx ν nx → TRf η ν t n act → ∀ Q:Exit → Act → World → Prop,(∀ e a w',CodePost η ν h w n .normal t' h' nx' e a w' → Q e a w') → wpOps P all Q (List.range' k (all.size - k)) act w
 | [],k,hl,t,h,nx,hs=>by
  refine Or.inr ⟨t,h,nx,fun kn=>rfl,fun _ _=>rfl,fun ν w act H X A Q hQ => ?_⟩
  have hk:all.size ≤ k:=by simpa using hl
  rw [show all.size - k = 0 by omega]
  exact hQ _ _ _ ⟨rfl,ν,A,H,X,Fr.refl _ _ _⟩
 | o :: r,k,hl,t,h,nx,hs=>by
  have hk:k < all.size:=by
   rcases Nat.lt_or_ge k all.size with hk | hk
   ·exact hk
   ·rw [List.drop_eq_nil_of_le (by simpa using hk)] at hl; cases hl
  have ho:all[k]? = some o:=by
   have:=congrArg (fun l=>l[0]?) hl
   simpa using this
  have hr2:all.toList.drop (k + 1) = r:=by
   have:=congrArg List.tail hl
   simpa using this
  have ih:=dops_plain T S SJ (n:=n) u r (k + 1) hr2
  have e0:∀ kn,dops g n tab false all.toList 0 0 finP J (o :: r) k u t h nx hs kn = match dstK n o.dst with
   | false => .er 98 ""
   | true=>match within 0 0 k with
    | true=>match freeZ g o with
     | none => .er 38 ""
     | some z=>alP z h nx (fun x h nx=>dops g n tab false all.toList 0 0 finP J r (k + 1) u (rst o.dst t x) h nx hs kn)
    | false=>stepD (gdOf all.toList o) t (dopM false g (mens all.toList o) o) (sJ tab J) (vl t (mens all.toList o)) h nx
      (fun x=>dops g n tab false all.toList 0 0 finP J r (k + 1) u (rst o.dst t x) h nx hs kn)
      (fun x h nx=>dops g n tab false all.toList 0 0 finP J r (k + 1) u (rst o.dst t x) h nx (⟨h,nx⟩ :: hs) kn):=fun kn=>rfl
  simp only [e0,within_00]
  cases hd:dstK n o.dst with
  | false=>exact Or.inl fun kn=>er_bad
  | true=>
   simp only
   have fin:∀ x h1 nx1 hs1,StepSem P η all o t h nx x h1 nx1 → ∀ (F:KJ → RJ),(∀ kn,F kn = dops g n tab false all.toList 0 0 finP J r (k + 1) u (rst o.dst t x) h1 nx1 hs1 kn) →
     (∀ kn, ¬ GoodR (F kn)) ∨ ∃ t' h' nx',(∀ kn,F kn = kn t' h' nx') ∧ (∀ d,d ∉ dstL (o :: r) → t'.at d = t.at d) ∧
      ∀ ν w act,HR η ν h w → Nx ν nx → TRf η ν t n act → ∀ Q:Exit → Act → World → Prop,(∀ e a w',CodePost η ν h w n .normal t' h' nx' e a w' → Q e a w') → wpOps P all Q (List.range' k (all.size - k)) act w:=by
    intro x h1 nx1 hs1 hS F hF
    rcases ih (rst o.dst t x) h1 nx1 hs1 with c | ⟨t',h',nx',c1,c2,c3⟩
    ·exact Or.inl fun kn=>by rw [hF]; exact c kn
    ·refine Or.inr ⟨t',h',nx',fun kn=>by rw [hF]; exact c1 kn,fun d hd => ?_,fun ν w act H X A Q hQ => ?_⟩
     ·obtain ⟨g1,g2⟩:=dstL_cons hd
      rw [c2 d g2,rst_at g1]
     ·rw [show all.size - k = (all.size - (k + 1)) + 1 by omega,List.range'_succ]
      simp only [wpOps,ho]
      exact hS ν w act n H X A _ Q fun v w1 ν1 p H1 X1 F1=>c3 ν1 w1 _ H1 X1 (rst_TR (A.mono F1.le) hd p) Q fun e a w' q=>hQ e a w' (CodePost.trans F1 q)
   rcases step_plain (dopM_sem T S SJ (o:=o) (ds:=mens all.toList o)) t h nx with c | ⟨x,c1,c2⟩ | ⟨x,h1,nx1,c1,c2⟩
   ·exact Or.inl fun kn=>c _ _
   ·exact fin x h nx hs c2 _ fun kn=>c1 _ _
   ·exact fin x h1 nx1 _ c2 _ fun kn=>c1 _ _
noncomputable abbrev dreg (g:G) (n:Nat) (tab:Tab) (J:JC) (ops:List Oper) (t:Fm) (h:Tr Ob) (nx:Nat) (kn:KJ):Bool → RJ
 | false=>dops g n tab false ops 0 0 finP J ops 0 t t h nx [] kn
 | true=>ddr g n tab J ops t h nx kn
inductive Ann where
 | l
 | s (a b:Ann)
 | c (W:List Nat) (a b:Ann)
 | d (a b:Ann)
 | b (W:List Nat) (a:Ann)
 | e (a:Ann)
 | o (W:List Nat) (a:Ann)
def Ar:Nat → Type
 | 0=>Tr Ob → Nat → RJ
 | n + 1=>AV → Ar n
def ln:List Nat → Nat
 | []=>0
 | _ :: r=>ln r + 1
noncomputable abbrev absW:(W:List Nat) → Fm → KJ → Ar (ln W)
 | [],t,k=>fun h nx=>k t h nx
 | w :: r,t,k=>fun a=>absW r (t.put w a) k
noncomputable abbrev appW:(W:List Nat) → Ar (ln W) → KJ
 | [],F,_,h,nx=>F h nx
 | w :: r,F,t,h,nx=>appW r (F (t.at w)) t h nx
noncomputable def zA:(n:Nat) → Ar n
 | 0 => fun _ _ => .er 94 ""
 | n + 1=>fun _=>zA n
noncomputable def jn (n:Nat) (B:Ar n → RJ) (j:Ar n):RJ:=B j
noncomputable def cdP (c : AV) (x y : RJ) : RJ := cdF c x y (.er 95 "")
noncomputable def lpI (n:Nat) (F:Ar n → Ar n) (m:Nat):Ar n:=Nat.rec (motive:=fun _=>Ar n) (zA n) (fun _ ih=>F ih) m
noncomputable def lp (n:Nat) (F:Ar n → Ar n):Ar n:=lpI n F 1000000
noncomputable def drp:List Nat → Fm → Fm
 | [],t=>t
 | d :: r,t=>(drp r t).put d .vno
noncomputable def wr:Code → List Nat
 | .region _ ops _=>dstL ops.toList
 | .seq a b=>wr a ++ wr b
 | .cond _ a b=>wr a ++ wr b
 | .block _ b=>wr b
 | .loop b=>wr b
 | _=>[]
noncomputable abbrev exP (i id:Nat) (j k:KJ):KJ:=fun t h nx=>Bool.rec (motive:=fun _=>RJ) (k t h nx) (j t h nx) (Nat.beq i id)
noncomputable abbrev dcode (g:G) (n:Nat) (tab:Tab) (J:JC):Code → Ann → Fm → Tr Ob → Nat → KJ → (Nat → KJ) → KJ → RJ
 | .skip,_,t,h,nx,kn,_,_=>kn t h nx
 | .label _,_,t,h,nx,kn,_,_=>kn t h nx
 | .region _ ops draw,_,t,h,nx,kn,_,_=>dreg g n tab J ops.toList t h nx kn draw
 | .seq a b,an,t,h,nx,kn,ex,kr=>match an with
  | .s x y=>dcode g n tab J a x t h nx (fun t h nx=>dcode g n tab J b y t h nx kn ex kr) ex kr
  | _ => .er 121 ""
 | .cond v a b,an,t,h,nx,kn,ex,kr=>match an with
  | .c W x y=>jn (ln W) (fun j=>cdP ((cev v).f t) (dcode g n tab J a x t h nx (appW W j) ex kr) (dcode g n tab J b y t h nx (appW W j) ex kr)) (absW W (drp (wr a ++ wr b) t) kn)
  | .d x y=>cdP ((cev v).f t) (dcode g n tab J a x t h nx kn ex kr) (dcode g n tab J b y t h nx kn ex kr)
  | _ => .er 121 ""
 | .block id b,an,t,h,nx,kn,ex,kr=>match an with
  | .b W x=>jn (ln W) (fun j=>dcode g n tab J b x t h nx (appW W j) (fun i=>exP i id (appW W j) (ex i)) kr) (absW W (drp (wr b) t) kn)
  | .e x=>dcode g n tab J b x t h nx kn (fun i=>exP i id kn (ex i)) kr
  | _ => .er 121 ""
 | .loop b,an,t,h,nx,_,ex,kr=>match an with
  | .o W x=>appW W (lp (ln W) (fun self=>absW W (drp (wr b) t) (fun t h nx=>dcode g n tab J b x t h nx (appW W self) ex kr))) t h nx
  | _ => .er 121 ""
 | .exit id,_,t,h,nx,_,ex,_=>ex id t h nx
 | .ret,_,t,h,nx,_,_,kr=>kr t h nx
 | _, _, _, _, _, _, _, _ => .er 96 ""
def sel (x:Xt) (kn:KJ) (ex:Nat → KJ) (kr:KJ):KJ:=match x with
 | .nrm=>kn
 | .ex id=>ex id
 | .rt=>kr
def LeF (t t':Fm):Prop := ∀ d,t.at d = .vno ∨ t.at d = t'.at d
theorem LeF.tr {η:En} {ν:Nu} {t t':Fm} {n:Nat} {a:Act} (L:LeF t t') (A:TRf η ν t' n a):TRf η ν t n a:=by
 refine ⟨A.size,fun k => ?_,A.none⟩
 rcases L k with h | h
 ·exact Or.inl h
 ·rw [h]; exact A.rel k
theorem CodePost.le {η:En} {ν:Nu} {h:Tr Ob} {w:World} {n:Nat} {x:Exit} {t t':Fm} {h':Tr Ob} {nx':Nat} {e:Exit} {a:Act} {w':World} (L:LeF t t') (p:CodePost η ν h w n x t' h' nx' e a w'):CodePost η ν h w n x t h' nx' e a w':=by
 obtain ⟨rfl,ν',p1,p2,p3,p4⟩:=p
 exact ⟨rfl,ν',L.tr p1,p2,p3,p4⟩
noncomputable def updW:List Nat → Fm → Fm → Fm
 | [],t,_=>t
 | w :: r,t,t'=>updW r (t.put w (t'.at w)) t'
theorem app_abs:∀ (W:List Nat) (t:Fm) (k:KJ) (t':Fm) (h:Tr Ob) (nx:Nat),appW W (absW W t k) t' h nx = k (updW W t t') h nx
 | [],t,k,t',h,nx=>rfl
 | w :: r,t,k,t',h,nx=>app_abs r (t.put w (t'.at w)) k t' h nx
theorem put_at (t:Fm) (w:Nat) (a:AV) (d:Nat):(t.put w a).at d = .vno ∨ (t.put w a).at d = t.at d ∨ (d = w ∧ (t.put w a).at d = a):=by
 rcases Fm.at_put t w a d with ⟨h1, -,h2⟩ | ⟨-,h2⟩ | ⟨-,h2⟩
 ·exact Or.inr (Or.inr ⟨h1,h2⟩)
 ·exact Or.inl h2
 ·exact Or.inr (Or.inl h2)
theorem updW_le {t':Fm}:∀ (W:List Nat) (t:Fm),LeF t t' → LeF (updW W t t') t'
 | [],t,h=>h
 | w :: r,t,h=>updW_le r _ fun d=>by
  rcases put_at t w (t'.at w) d with e | e | ⟨e1,e2⟩
  ·exact Or.inl e
  ·rw [e]; exact h d
  ·subst e1; exact Or.inr e2
theorem updW_same {t':Fm} {d:Nat}:∀ (W:List Nat) (t:Fm),t.at d = t'.at d → (updW W t t').at d = t'.at d
 | [],t,h=>h
 | w :: r,t,h=>updW_same r _ (by
  by_cases hw:d = w
  ·subst hw
   exact put_at_same _ _ (at_ge t' d)
  ·rw [Fm.at_put_ne _ _ hw]; exact h)
theorem drp_in {d:Nat}:∀ {ds:List Nat} {t:Fm},d ∈ ds → (drp ds t).at d = .vno
 | [],t,h=>by cases h
 | x :: r,t,h=>by
  rw [drp]
  by_cases hx:d = x
  ·subst hx; exact put_at_same _ _ (Or.inr rfl)
  ·rw [Fm.at_put_ne _ _ hx]
   rcases List.mem_cons.1 h with h | h
   ·exact absurd h hx
   ·exact drp_in h
theorem drp_out {d:Nat}:∀ {ds:List Nat} {t:Fm},d ∉ ds → (drp ds t).at d = t.at d
 | [],t,h=>rfl
 | x :: r,t,h=>by
  rw [drp,Fm.at_put_ne _ _ (fun e=>h (by rw [e]; exact List.mem_cons_self ..))]
  exact drp_out fun h'=>h (List.mem_cons_of_mem _ h')
theorem drp_le {ds:List Nat} {t t':Fm} (h:∀ d,d ∉ ds → t'.at d = t.at d):LeF (drp ds t) t':=fun d=>by
 by_cases hd:d ∈ ds
 ·exact Or.inl (drp_in hd)
 ·exact Or.inr (by rw [drp_out hd,h d hd])
theorem drp_same {ds:List Nat} {t t':Fm} {d:Nat} (hd:d ∉ ds) (h:t'.at d = t.at d):(drp ds t).at d = t'.at d:=by rw [drp_out hd,h]
def COut (P:Program) (η:En) (n:Nat) (c:Code) (ds:List Nat) (t:Fm) (h:Tr Ob) (nx:Nat) (X:KJ → (Nat → KJ) → KJ → RJ):Prop:=
 (∀ kn ex kr, ¬ GoodR (X kn ex kr)) ∨ ∃ x t' h' nx',(∀ kn ex kr,X kn ex kr = sel x kn ex kr t' h' nx') ∧ (∀ d,d ∉ ds → t'.at d = t.at d) ∧ ∀ ν w act,HR η ν h w → Nx ν nx → TRf η ν t n act → c.wp P (CodePost η ν h w n (exitOf x) t' h' nx') act w
theorem join_out {P:Program} {η:En} {n:Nat} {c:Code} {ds:List Nat} {t:Fm} {h:Tr Ob} {nx:Nat} {X:KJ → (Nat → KJ) → KJ → RJ} (W:List Nat) (H:COut P η n c ds t h nx X) :
  COut P η n c ds t h nx fun kn ex kr=>X (appW W (absW W (drp ds t) kn)) ex kr:=by
 rcases H with c | ⟨x,t',h',nx',c1,c2,c3⟩
 ·exact Or.inl fun kn ex kr=>c _ _ _
 ·cases x with
  | nrm=>
   refine Or.inr ⟨.nrm,updW W (drp ds t) t',h',nx',fun kn ex kr => ?_,fun d hd => ?_,fun ν w act H X A=>wp_mono (c3 ν w act H X A) fun e a w' p=>CodePost.le (updW_le W _ (drp_le c2)) p⟩
   ·simp only [c1]
    show appW W (absW W (drp ds t) kn) t' h' nx' = _
    rw [app_abs]; rfl
   ·rw [updW_same W _ (drp_same hd (c2 d hd)),c2 d hd]
  | ex id=>exact Or.inr ⟨.ex id,t',h',nx',fun kn ex kr=>c1 _ _ _,c2,c3⟩
  | rt=>exact Or.inr ⟨.rt,t',h',nx',fun kn ex kr=>c1 _ _ _,c2,c3⟩
theorem COut.mono {P:Program} {η:En} {n:Nat} {c:Code} {ds ds':List Nat} {t:Fm} {h:Tr Ob} {nx:Nat} {X:KJ → (Nat → KJ) → KJ → RJ} (H:COut P η n c ds t h nx X) (hd:∀ d,d ∈ ds → d ∈ ds'):COut P η n c ds' t h nx X:=by
 rcases H with c | ⟨x,t',h',nx',c1,c2,c3⟩
 ·exact Or.inl c
 ·exact Or.inr ⟨x,t',h',nx',c1,fun d h=>c2 d fun h'=>h (hd d h'),c3⟩
theorem COut.code {P:Program} {η:En} {n:Nat} {c c':Code} {ds:List Nat} {t:Fm} {h:Tr Ob} {nx:Nat} {X:KJ → (Nat → KJ) → KJ → RJ} (H:COut P η n c ds t h nx X) (hw:∀ ν w act,TRf η ν t n act → ∀ Q,c.wp P Q act w → c'.wp P Q act w):COut P η n c' ds t h nx X:=by
 rcases H with c | ⟨x,t',h',nx',c1,c2,c3⟩
 ·exact Or.inl c
 ·exact Or.inr ⟨x,t',h',nx',c1,c2,fun ν w act H X A=>hw ν w act A _ (c3 ν w act H X A)⟩
theorem cond_out {P:Program} {η:En} {n:Nat} {v:Operand} {a b:Code} {ds:List Nat} {t:Fm} {h:Tr Ob} {nx:Nat} {X Y:KJ → (Nat → KJ) → KJ → RJ} (HX:COut P η n a ds t h nx X) (HY:COut P η n b ds t h nx Y) :
  COut P η n (.cond v a b) ds t h nx fun kn ex kr=>cdP ((cev v).f t) (X kn ex kr) (Y kn ex kr):=by
 unfold cdP
 rcases cdF_nat ((cev v).f t) with e | e | e
 ·simp only [e]
  refine HX.code fun ν w act A Q q=>wp_cond_true ?_ q
  rcases cdF_eq (e (.er 1 "") (.er 2 "") (.er 3 "")) (fun e => by cases e) with ⟨h1, -⟩ | ⟨h1, h2⟩
  ·have hv:=evO_rel A (cev_is h1 (fun e=>by cases e)); rw [vrel] at hv; exact hv
  ·cases h2
 ·simp only [e]
  refine HY.code fun ν w act A Q q=>wp_cond_false ?_ q
  rcases cdF_eq (e (.er 1 "") (.er 2 "") (.er 3 "")) (fun e => by cases e) with ⟨h1, h2⟩ | ⟨h1, -⟩
  ·cases h2
  ·have hv:=evO_rel A (cev_is h1 (fun e=>by cases e)); rw [vrel] at hv; exact hv
 ·simp only [e]
  exact Or.inl fun kn ex kr=>er_bad
theorem block_out {P:Program} {η:En} {n id:Nat} {b:Code} {ds:List Nat} {t:Fm} {h:Tr Ob} {nx:Nat} {X:KJ → (Nat → KJ) → KJ → RJ} (H:COut P η n b ds t h nx X) :
  COut P η n (.block id b) ds t h nx fun kn ex kr=>X kn (fun i=>exP i id kn (ex i)) kr:=by
 rcases H with c | ⟨x,t',h',nx',c1,c2,c3⟩
 ·exact Or.inl fun kn ex kr=>c _ _ _
 ·cases x with
  | nrm=>
   refine Or.inr ⟨.nrm,t',h',nx',fun kn ex kr=>c1 _ _ _,c2,fun ν w act H X A=>wp_block (wp_mono (c3 ν w act H X A) ?_)⟩
   rintro e a1 w1 ⟨rfl,p⟩
   exact ⟨rfl,p⟩
  | rt=>
   refine Or.inr ⟨.rt,t',h',nx',fun kn ex kr=>c1 _ _ _,c2,fun ν w act H X A=>wp_block (wp_mono (c3 ν w act H X A) ?_)⟩
   rintro e a1 w1 ⟨rfl,p⟩
   exact ⟨rfl,p⟩
  | ex i=>
   by_cases hi:i = id
   ·subst hi
    refine Or.inr ⟨.nrm,t',h',nx',fun kn ex kr => ?_,c2,fun ν w act H X A=>wp_block (wp_mono (c3 ν w act H X A) ?_)⟩
    ·simp only [c1]
     show exP i i kn (ex i) t' h' nx' = kn t' h' nx'
     unfold exP
     rw [Nat.beq_refl]
    ·rintro e a1 w1 ⟨rfl,p⟩
     show (if i = i then _ else _)
     rw [if_pos rfl]
     exact ⟨rfl,p⟩
   ·refine Or.inr ⟨.ex i,t',h',nx',fun kn ex kr => ?_,c2,fun ν w act H X A=>wp_block (wp_mono (c3 ν w act H X A) ?_)⟩
    ·simp only [c1]
     show exP i id kn (ex i) t' h' nx' = ex i t' h' nx'
     unfold exP
     have:Nat.beq i id = false:=by
      cases hb:Nat.beq i id
      ·rfl
      ·exact absurd (Nat.eq_of_beq_eq_true hb) hi
     rw [this]
    ·rintro e a1 w1 ⟨rfl,p⟩
     show (if i = id then _ else _)
     rw [if_neg hi]
     exact ⟨rfl,p⟩
theorem loop_out {P:Program} {η:En} {n:Nat} {b:Code} {ds:List Nat} {W:List Nat} {t0:Fm} {F:Fm → Tr Ob → Nat → KJ → (Nat → KJ) → KJ → RJ} (HF:∀ t h nx,COut P η n b ds t h nx (F t h nx)):∀ m t h nx,(∀ d,d ∉ ds → t.at d = t0.at d) →
  (∀ ex kr, ¬ GoodR (appW W (lpI (ln W) (fun self=>absW W (drp ds t0) (fun t h nx=>F t h nx (appW W self) ex kr)) m) t h nx)) ∨
  ∃ x t' h' nx',x ≠ .nrm ∧ (∀ kn ex kr,appW W (lpI (ln W) (fun self=>absW W (drp ds t0) (fun t h nx=>F t h nx (appW W self) ex kr)) m) t h nx = sel x kn ex kr t' h' nx') ∧ (∀ d,d ∉ ds → t'.at d = t0.at d) ∧
   ∀ ν w act,HR η ν h w → Nx ν nx → TRf η ν t n act → LoopWp P b (CodePost η ν h w n (exitOf x) t' h' nx') act w
 | 0,t,h,nx,ht=>by
  refine Or.inl fun ex kr => ?_
  have z : ∀ (W : List Nat) t, appW W (zA (ln W)) t h nx = .er 94 "" := by
   intro W
   induction W with
   | nil=>exact fun t=>rfl
   | cons w r ih=>exact fun t=>ih t
  have e : appW W (lpI (ln W) (fun self => absW W (drp ds t0) (fun t h nx => F t h nx (appW W self) ex kr)) 0) t h nx = .er 94 "" := z W t
  rw [e]
  exact er_bad
 | m + 1,t,h,nx,ht=>by
  have ih:=loop_out (t0:=t0) (W:=W) HF m
  have e0:∀ ex kr,appW W (lpI (ln W) (fun self=>absW W (drp ds t0) (fun t h nx=>F t h nx (appW W self) ex kr)) (m + 1)) t h nx
    = F (updW W (drp ds t0) t) h nx (appW W (lpI (ln W) (fun self=>absW W (drp ds t0) (fun t h nx=>F t h nx (appW W self) ex kr)) m)) ex kr:=fun ex kr=>
   app_abs W (drp ds t0) _ t h nx
  have le:LeF (updW W (drp ds t0) t) t:=updW_le W _ (drp_le ht)
  have sm:∀ d,d ∉ ds → (updW W (drp ds t0) t).at d = t0.at d:=fun d hd=>by rw [updW_same W _ (drp_same hd (ht d hd)),ht d hd]
  simp only [e0]
  rcases HF (updW W (drp ds t0) t) h nx with c | ⟨x,t1,h1,nx1,c1,c2,c3⟩
  ·exact Or.inl fun ex kr=>c _ _ _
  ·have st:∀ d,d ∉ ds → t1.at d = t0.at d:=fun d hd=>(c2 d hd).trans (sm d hd)
   cases x with
   | nrm=>
    simp only [c1]
    rcases ih t1 h1 nx1 st with e | ⟨x,t',h',nx',e1,e2,e3,e4⟩
    ·exact Or.inl fun ex kr=>e ex kr
    ·refine Or.inr ⟨x,t',h',nx',e1,fun kn ex kr=>e2 kn ex kr,e3,fun ν w act H X A=>LoopWp.unroll (wp_mono (c3 ν w act H X (le.tr A)) ?_)⟩
     rintro e a1 w1 ⟨rfl,ν1,p1,p2,p3,p4⟩
     show LoopWp P b _ a1 w1
     intro b' k cs
     obtain ⟨e,a',w',q,r⟩:=e4 ν1 w1 a1 p2 p3 p1 b' k cs
     exact ⟨e,a',w',CodePost.trans p4 q,r⟩
   | ex id=>
    refine Or.inr ⟨.ex id,t1,h1,nx1,(fun e=>by cases e),fun kn ex kr=>c1 _ _ _,st,fun ν w act H X A=>LoopWp.unroll (wp_mono (c3 ν w act H X (le.tr A)) ?_)⟩
    rintro e a1 w1 ⟨rfl,p⟩
    exact ⟨rfl,p⟩
   | rt=>
    refine Or.inr ⟨.rt,t1,h1,nx1,(fun e=>by cases e),fun kn ex kr=>c1 _ _ _,st,fun ν w act H X A=>LoopWp.unroll (wp_mono (c3 ν w act H X (le.tr A)) ?_)⟩
    rintro e a1 w1 ⟨rfl,p⟩
    exact ⟨rfl,p⟩
theorem er_out {P : Program} {η : En} {n : Nat} {c : Code} {ds : List Nat} {t : Fm} {h : Tr Ob} {nx : Nat} {m : Nat} : COut P η n c ds t h nx fun _ _ _ => .er m "" := Or.inl fun _ _ _ => er_bad
theorem dcode_ok {P:Program} (hmix:P.follows .mixedOrders = true) {g:G} (T:TabE P g.tt g.ff) {η:En} (S:EnvOk P g η) {n:Nat} {tab:Tab} {J:JC} (SJ:SndC P η (sJ tab J)) :
  ∀ c an t h nx,COut P η n c (wr c) t h nx (dcode g n tab J c an t h nx):=by
 intro c
 induction c with
 | skip=>exact fun an t h nx=>Or.inr ⟨.nrm,t,h,nx,fun _ _ _=>rfl,fun _ _=>rfl,fun ν w act H X A=>wp_skip ⟨rfl,ν,A,H,X,Fr.refl _ _ _⟩⟩
 | label l=>exact fun an t h nx=>Or.inr ⟨.nrm,t,h,nx,fun _ _ _=>rfl,fun _ _=>rfl,fun ν w act H X A=>wp_label ⟨rfl,ν,A,H,X,Fr.refl _ _ _⟩⟩
 | exit id=>exact fun an t h nx=>Or.inr ⟨.ex id,t,h,nx,fun _ _ _=>rfl,fun _ _=>rfl,fun ν w act H X A=>wp_exit ⟨rfl,ν,A,H,X,Fr.refl _ _ _⟩⟩
 | ret=>exact fun an t h nx=>Or.inr ⟨.rt,t,h,nx,fun _ _ _=>rfl,fun _ _=>rfl,fun ν w act H X A=>wp_ret ⟨rfl,ν,A,H,X,Fr.refl _ _ _⟩⟩
 | region id ops draw=>
  intro an t h nx
  cases draw with
  | false=>
   rcases dops_plain (P:=P) T S SJ (all:=ops) t ops.toList 0 (by simp) t h nx [] (n:=n) with c | ⟨t',h',nx',c1,c2,c3⟩
   ·exact Or.inl fun kn _ _=>c kn
   ·refine Or.inr ⟨.nrm,t',h',nx',fun kn _ _=>c1 kn,c2,fun ν w act H X A=>wp_region ?_⟩
    have:=c3 ν w act H X A _ fun e a w' p=>p
    rw [Nat.sub_zero,← List.range_eq_range'] at this
    exact this
  | true=>
   rcases ddr_one (g:=g) (n:=n) SJ.one (l:=ops.toList) t h nx with c | ⟨t',h',nx',c1,c2,c3⟩
   ·exact Or.inl fun kn _ _=>c kn
   ·exact Or.inr ⟨.nrm,t',h',nx',fun kn _ _=>c1 kn,c3,fun ν w act H X A=>cdr_ok hmix T S n id ops _ SJ.dir t h nx _ _ _ _ c2 ν w act H X A⟩
 | seq a b iha ihb=>
  intro an t h nx
  cases an with
  | s x y=>
   rcases iha x t h nx with c | ⟨e,t1,h1,nx1,c1,c2,c3⟩
   ·exact Or.inl fun kn ex kr=>c _ _ _
   ·have c2:∀ d,d ∉ wr (.seq a b) → t1.at d = t.at d:=fun d hd=>c2 d fun h'=>hd (List.mem_append_left _ h')
    cases e with
    | nrm=>
     rcases ihb y t1 h1 nx1 with e | ⟨e,t',h',nx',e1,e2,e3⟩
     ·exact Or.inl fun kn ex kr=>by
       show ¬ GoodR (dcode g n tab J a x t h nx (fun t h nx=>dcode g n tab J b y t h nx kn ex kr) ex kr)
       rw [c1]; exact e _ _ _
     ·refine Or.inr ⟨e,t',h',nx',fun kn ex kr => ?_,fun d hd => ?_,fun ν w act H X A=>wp_seq (wp_mono (c3 ν w act H X A) ?_)⟩
      ·show dcode g n tab J a x t h nx (fun t h nx=>dcode g n tab J b y t h nx kn ex kr) ex kr = _
       rw [c1]; exact e1 _ _ _
      ·rw [e2 d fun h'=>hd (List.mem_append_right _ h'),c2 d hd]
      ·rintro e a1 w1 ⟨rfl,ν1,p1,p2,p3,p4⟩
       show b.wp P _ a1 w1
       exact wp_mono (e3 ν1 w1 a1 p2 p3 p1) fun e a w' q=>CodePost.trans p4 q
    | ex id=>
     refine Or.inr ⟨.ex id,t1,h1,nx1,fun kn ex kr=>c1 _ _ _,c2,fun ν w act H X A=>wp_seq (wp_mono (c3 ν w act H X A) ?_)⟩
     rintro e a1 w1 ⟨rfl,p⟩
     exact ⟨rfl,p⟩
    | rt=>
     refine Or.inr ⟨.rt,t1,h1,nx1,fun kn ex kr=>c1 _ _ _,c2,fun ν w act H X A=>wp_seq (wp_mono (c3 ν w act H X A) ?_)⟩
     rintro e a1 w1 ⟨rfl,p⟩
     exact ⟨rfl,p⟩
  | _=>exact er_out
 | cond v a b iha ihb=>
  intro an t h nx
  have ha:∀ x,COut P η n a (wr (.cond v a b)) t h nx (dcode g n tab J a x t h nx):=fun x=>(iha x t h nx).mono fun d h'=>List.mem_append_left _ h'
  have hb:∀ x,COut P η n b (wr (.cond v a b)) t h nx (dcode g n tab J b x t h nx):=fun x=>(ihb x t h nx).mono fun d h'=>List.mem_append_right _ h'
  cases an with
  | c W x y=>exact join_out W (cond_out (v:=v) (ha x) (hb y))
  | d x y=>exact cond_out (v:=v) (ha x) (hb y)
  | _=>exact er_out
 | block id b ih=>
  intro an t h nx
  cases an with
  | b W x=>exact join_out W (block_out (id:=id) (ih x t h nx))
  | e x=>exact block_out (id:=id) (ih x t h nx)
  | _=>exact er_out
 | loop b ih=>
  intro an t h nx
  cases an with
  | o W x=>
   rcases loop_out (P:=P) (η:=η) (n:=n) (b:=b) (W:=W) (t0:=t) (fun t h nx=>ih x t h nx) 1000000 t h nx (fun _ _=>rfl) with c | ⟨e,t',h',nx',c1,c2,c3,c4⟩
   ·exact Or.inl fun kn ex kr=>c ex kr
   ·exact Or.inr ⟨e,t',h',nx',fun kn ex kr=>c2 kn ex kr,c3,fun ν w act H X A=>(c4 ν w act H X A).loop⟩
  | _=>exact er_out
 | _=>exact fun an t h nx=>er_out
noncomputable def rtP (a : AV) (h : Tr Ob) (nx : Nat) (k : KV) : RJ := knK a (fun a => k a h nx) (.er 93 "")
noncomputable def rtT (l:List AV) (h:Tr Ob) (nx:Nat) (k:KV):RJ:=match knL l with
 | some l=>k (.vtp l) h nx
 | none => .er 93 ""
noncomputable abbrev rtF (l:List AV) (h:Tr Ob) (nx:Nat) (k:KV):RJ:=match l with
 | [a]=>rtP a h nx k
 | l=>rtT l h nx k
noncomputable abbrev rsL (g:G) (t:Fm) (h:Tr Ob):List ResultVar → (List AV → RJ) → RJ
 | [],K=>K []
 | .tmp k :: r,K=>rsL g t h r fun l=>K (t.at k :: l)
 | .cell k ty :: r,K=>match tiOf g.tt ty with
  | none => .er 93 ""
  | some i=>match i.agg with
   | true=>lgR i.size (t.at k) h fun a=>rsL g t h r fun l=>K (a :: l)
   | false=>ldR (t.at k) h fun a=>rsL g t h r fun l=>K (a :: l)
noncomputable abbrev dres (g:G) (rs:List ResultVar) (k:KV):KJ:=fun t h nx=>rsL g t h rs fun l=>rtF l h nx k
theorem rsL_one {g:G} {t:Fm} {h:Tr Ob}:∀ rs:List ResultVar,(∀ K, ¬ GoodR (rsL g t h rs K)) ∨ ∃ l,(∀ K,rsL g t h rs K = K l) ∧ ∀ l',knL l = some l' → resL g t h rs = some l'
 | []=>Or.inr ⟨[],fun _=>rfl,fun l' e=>by cases e; rfl⟩
 | .tmp k :: r=>by
  rcases rsL_one (g:=g) (t:=t) (h:=h) r with c | ⟨l,c1,c2⟩
  ·exact Or.inl fun K=>c _
  ·refine Or.inr ⟨t.at k :: l,fun K=>c1 _,fun l' e => ?_⟩
   unfold knL at e
   unfold resL
   cases ha:knA (t.at k) with
   | none=>rw [ha] at e; cases e
   | some a=>
    rw [ha] at e
    simp only at e ⊢
    split at e
    ·rename_i r' hr
     cases e
     rw [c2 r' hr]
    ·cases e
 | .cell k ty :: r=>by
  have ih:=rsL_one (g:=g) (t:=t) (h:=h) r
  unfold rsL resL
  cases hi:tiOf g.tt ty with
  | none=>exact Or.inl fun K=>er_bad
  | some i=>
   simp only
   have fin:∀ a,a ≠ .vno → (∃ b o,t.at k = .vp b o ∧ loadA i h b o = some a) → ∀ X:(List AV → RJ) → RJ,(∀ K,X K = rsL g t h r fun l=>K (a :: l)) → (∀ K, ¬ GoodR (X K)) ∨ ∃ l,(∀ K,X K = K l) ∧ ∀ l',knL l = some l' →
     (match knA (t.at k) with
      | some (.vp b o)=>match loadA i h b o with
       | none=>none
       | some a=>match resL g t h r with
        | some l=>some (a :: l)
        | none=>none
      | _=>none) = some l':=by
    rintro a ha ⟨b,o,h1,h2⟩ X hX
    rcases ih with c | ⟨l,c1,c2⟩
    ·exact Or.inl fun K=>by rw [hX]; exact c _
    ·refine Or.inr ⟨a :: l,fun K=>by rw [hX]; exact c1 _,fun l' e => ?_⟩
     rw [h1]
     have e3:knA (AV.vp b o) = some (.vp b o):=rfl
     rw [e3]
     simp only [h2]
     unfold knL at e
     rw [knA_of ha] at e
     simp only at e
     split at e
     ·rename_i r' hr
      cases e
      rw [c2 r' hr]
     ·cases e
   cases hg:i.agg with
   | true=>
    simp only
    rcases lgR_ok i.size (t.at k) h with e | ⟨e1,e2⟩
    ·exact Or.inl fun K=>e _
    ·obtain ⟨b,o,h1,h2⟩:=onP_eq e1
     refine fin _ e1 ⟨b,o,h1, ?_⟩ _ fun K=>e2 _
     simp only at e1 ⊢
     rw [h2] at e1 ⊢
     exact ldG_eq e1 hg
   | false=>
    simp only
    rcases ldR_ok (t.at k) h with e | ⟨e1,e2⟩
    ·exact Or.inl fun K=>e _
    ·obtain ⟨b,o,h1,h2⟩:=onP_eq e1
     refine fin _ e1 ⟨b,o,h1, ?_⟩ _ fun K=>e2 _
     simp only at e1 ⊢
     rw [h2] at e1 ⊢
     exact ldF_eq e1 hg
theorem knL_self:∀ {l r:List AV},knL l = some r → r = l
 | [],r,h=>by cases h; rfl
 | a :: l,r,h=>by
  unfold knL at h
  split at h
  ·cases h
  ·rename_i b hb
   split at h
   ·rename_i r' hr
    cases h
    rw [knL_self hr,(knA_eq hb).1]
   ·cases h
theorem dres_one {g:G} {rs:List ResultVar} {t:Fm} {h:Tr Ob} {nx:Nat}:(∀ k, ¬ GoodR (dres g rs k t h nx)) ∨ ∃ a,a ≠ .vno ∧ cres g rs t h = a ∧ ∀ k,dres g rs k t h nx = k a h nx:=by
 have hR:=rsL_one (g:=g) (t:=t) (h:=h) rs
 unfold dres
 rcases hR with c | ⟨l,c1,c2⟩
 ·exact Or.inl fun k=>c _
 ·simp only [c1]
  have hc:∀ a,resA g t h rs = some a → a ≠ .vno → cres g rs t h = a:=by
   intro a ha hn
   unfold cres
   cases h1:isOne rs with
   | none=>
    simp only
    rw [ha]; rfl
   | some d=>
    rw [isOne_eq h1] at ha
    unfold resA at ha
    simp only [resL] at ha
    cases hk:knA (t.at d) with
    | none=>rw [hk] at ha; cases ha
    | some x=>
     rw [hk] at ha
     cases ha
     exact (knA_eq hk).1
  have many:∀ X:KV → RJ,(∀ k,X k = rtT l h nx k) → (∀ a,l ≠ [a]) → (∀ k, ¬ GoodR (X k)) ∨ ∃ a,a ≠ .vno ∧ cres g rs t h = a ∧ ∀ k,X k = k a h nx:=by
   intro X hX hl
   unfold rtT at hX
   cases h4:knL l with
   | none=>exact Or.inl fun k=>by rw [hX,h4]; exact er_bad
   | some l'=>
    have:=knL_self h4
    subst this
    refine Or.inr ⟨.vtp l',(fun e=>by cases e),hc _ ?_ (fun e=>by cases e),fun k=>by rw [hX,h4]⟩
    unfold resA
    rw [c2 l' h4]
    match l',hl with
    | [],_=>rfl
    | [a],hl=>exact absurd rfl (hl a)
    | a :: b :: r,_=>rfl
  match l,c2,many with
  | [a],c2,_=>
   have e0 : ∀ k, rtF [a] h nx k = knK a (fun a => k a h nx) (.er 93 "") := fun _ => rfl
   simp only [e0]
   by_cases ha:a = .vno
   ·subst ha; exact Or.inl fun k=>er_bad
   ·refine Or.inr ⟨a,ha,hc a ?_ ha,fun k=>knK_kn ha _ _⟩
    unfold resA
    rw [c2 [a] (by unfold knL; rw [knA_of ha]; rfl)]
  | [],_,many=>exact many _ (fun _=>rfl) (fun a e=>by cases e)
  | a :: b :: r,_,many=>exact many _ (fun _=>rfl) (fun a e=>by cases e)
noncomputable abbrev dfn (g:G) (tab:Tab) (an:Ann) (fn:Func) (c:Code) (J:JC) (args:List AV) (h:Tr Ob) (nx:Nat) (k:KV):RJ:=match Nat.ble (lenA args 0) fn.ntmps with
 | false => .er 94 ""
 | true => dcode g fn.ntmps tab J c an (ofL args 0 Fm.e) h nx (dres g fn.results.toList k) (fun _ _ _ _ => .er 92 "") (dres g fn.results.toList k)
theorem ofL_TR {η:En} {ν:Nu} {args:List AV} {vs:List Value} {n:Nat} (hv:wrels η ν args vs) (hle:args.length ≤ n):TRf η ν (ofL args 0 Fm.e) n { tmps:=vs.toArray ++ Array.replicate (n - vs.toArray.size) undef,defers:=[] }:=by
 have hlen:=wrels_length hv
 refine ⟨by simp; omega,fun k => ?_,rfl⟩
 rcases ofL_at (l:=args) (i:=0) (t:=Fm.e) (k:=k) with h0 | ⟨-,h2⟩ | h2
 ·exact Or.inl h0
 ·obtain ⟨v,h3,h4⟩:=wrels_get _ _ hv h2
  simp only [Nat.sub_zero] at h3
  have hlt:k < vs.length:=by
   rcases Nat.lt_or_ge k vs.length with hl | hl
   ·exact hl
   ·rw [List.getElem?_eq_none hl] at h3; cases h3
  have:(vs.toArray ++ Array.replicate (n - vs.toArray.size) undef)[k]? = some v:=by
   rw [Array.getElem?_append_left (by simpa using hlt)]
   simpa using h3
  rw [Array.getD_eq_getD_getElem?,this]
  exact h4
 ·rw [Fm.at_e] at h2; exact Or.inl h2
theorem dfn_ok {P:Program} (hmix:P.follows .mixedOrders = true) {g:G} (T:TabE P g.tt g.ff) {η:En} (S:EnvOk P g η) {tab:Tab} (TO:TabOk P η tab) {f:Nat} {fn:Func} {c:Code} (hf:g.ff f = some fn) (hb:fn.body = some c) (an:Ann):FOk P η f (dfn g tab an fn c):=by
 intro J SJ args h nx
 have SJ':=sJ_ok TO SJ
 have fo:FnOk P f:=⟨fn,T.ff _ _ hf,by rw [hb]; rfl,T.nm _ _ hf⟩
 unfold dfn
 cases hle:Nat.ble (lenA args 0) fn.ntmps with
 | false=>exact ⟨Or.inl fun k=>er_bad,fun a h' nx' e=>by cases e⟩
 | true=>
  simp only
  have hle:=Nat.le_of_ble_eq_true hle
  rw [lenA_eq] at hle
  rcases dcode_ok (P:=P) hmix T S SJ' (n:=fn.ntmps) c an (ofL args 0 Fm.e) h nx with e | ⟨x,t',h',nx',c1,c2,c3⟩
  ·exact ⟨Or.inl fun k=>e _ _ _,fun a h' nx' hr=>absurd ⟨_,_,_,hr⟩ (e _ _ _)⟩
  ·simp only [c1]
   have out : (∀ k, sel x (dres g fn.results.toList k) (fun _ _ _ _ => .er 92 "") (dres g fn.results.toList k) t' h' nx' = dres g fn.results.toList k t' h' nx') → exitOf x = .normal ∨ exitOf x = .ret →
     One (fun k => sel x (dres g fn.results.toList k) (fun _ _ _ _ => .er 92 "") (dres g fn.results.toList k) t' h' nx') ∧ ∀ a h1 nx1, sel x (dres g fn.results.toList fun a h nx => .v a h nx) (fun _ _ _ _ => .er 92 "") (dres g fn.results.toList fun a h nx => .v a h nx) t' h' nx' = .v a h1 nx1 →
      FnOk P f ∧ ∀ ν w vs,HR η ν h w → Nx ν nx → wrels η ν args vs → Calls P f vs.toArray w (CallPostE η ν h w a h1 nx1):=by
    intro hs hx
    simp only [hs]
    rcases dres_one (g:=g) (rs:=fn.results.toList) (t:=t') (h:=h') (nx:=nx') with e | ⟨v,e1,e2,e3⟩
    ·exact ⟨Or.inl e,fun a h1 nx1 hr=>absurd ⟨_,_,_,hr⟩ (e _)⟩
    ·refine ⟨Or.inr ⟨v,h',nx',e3⟩,fun a h1 nx1 hr=>⟨fo,fun ν w vs H X hv => ?_⟩⟩
     rw [e3] at hr
     cases hr
     refine calls_of_wp (T.ff _ _ hf) hb (wp_mono (c3 ν w _ H X (ofL_TR hv hle)) ?_)
     rintro e act w1 ⟨rfl,ν1,p1,p2,p3,p4⟩
     obtain ⟨u,q1,q2⟩:=cres_rel (P:=P) T p2 p1 (fn:=fn) (by rw [e2]; exact e1)
     rw [e2] at q2
     rcases hx with hx | hx
     ·rw [hx]; exact ⟨p1.none,u,q1,u,ν1,rfl,q2,p2,p3,p4⟩
     ·rw [hx]; exact ⟨p1.none,u,q1,u,ν1,rfl,q2,p2,p3,p4⟩
   cases x with
   | nrm=>exact out (fun _=>rfl) (Or.inl rfl)
   | rt=>exact out (fun _=>rfl) (Or.inr rfl)
   | ex id=>exact ⟨Or.inl fun k=>er_bad,fun a h1 nx1 hr=>by cases hr⟩
def ArK:Nat → Type
 | 0=>Tr Ob → Nat → KV → RJ
 | n + 1=>AV → ArK n
noncomputable abbrev unc:(n:Nat) → ArK n → FnC
 | 0,F,l=>match l with
  | []=>F
  | _ :: _ => fun _ _ _ => .er 94 ""
 | n + 1,F,l=>match l with
  | [] => fun _ _ _ => .er 94 ""
  | a :: l=>unc n (F a) l
def EqA:(n:Nat) → ArK n → FnC → Prop
 | 0,F,G=>F = G []
 | n + 1,F,G => ∀ a,EqA n (F a) fun l=>G (a :: l)
theorem unc_eq:∀ (n:Nat) (F:ArK n) (G:FnC),EqA n F G → ∀ l,l.length = n → unc n F l = G l
 | 0,F,G,h,[],_=>h
 | n + 1,F,G,h,a :: l,hl=>unc_eq n (F a) (fun l=>G (a :: l)) (h a) l (by simpa using hl)
theorem unc_bad : ∀ (n : Nat) (F : ArK n) (l : List AV), l.length ≠ n → ∀ h nx k, unc n F l h nx k = .er 94 ""
 | 0,F,[],hl,_,_,_=>absurd rfl hl
 | 0,F,a :: l,hl,_,_,_=>rfl
 | n + 1,F,[],hl,_,_,_=>rfl
 | n + 1,F,a :: l,hl,h,nx,k=>unc_bad n (F a) l (fun e=>hl (by simp [e])) h nx k
theorem fok_unc {P:Program} {η:En} {f n:Nat} {F:JC → ArK n} {G:JC → FnC} (hG:FOk P η f G) (e:∀ J,EqA n (F J) (G J)):FOk P η f fun J=>unc n (F J):=by
 intro J SJ args h nx
 by_cases hl:args.length = n
 ·show One (unc n (F J) args h nx) ∧ ∀ a h' nx',unc n (F J) args h nx (fun a h nx => .v a h nx) = .v a h' nx' → _
  rw [unc_eq n (F J) (G J) (e J) args hl]
  exact hG J SJ args h nx
 ·have hb:=unc_bad n (F J) args hl h nx
  refine ⟨Or.inl fun k => ?_,fun a h' nx' hr => ?_⟩
  ·show ¬ GoodR (unc n (F J) args h nx k)
   rw [hb]; exact er_bad
  ·have hr:unc n (F J) args h nx (fun a h nx => .v a h nx) = .v a h' nx':=hr
   rw [hb] at hr; cases hr
end Go.Proofs.YtoeeackjlclneaaGreatDoor
end
