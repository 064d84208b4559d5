/-
  Texts joined: SyDrc, SyDri, SyDrd, SyDre, SyCa, SyCb, SyCc, SyCf, Sha, Shb, Shc, Shd.
-/
import Derived.Test.YtoeeackjlclneaaGreatDoorEvO3
set_option linter.unusedVariables false
namespace Go.Proofs.YtoeeackjlclneaaGreatDoor
section
theorem effsG_mem {g:G} {a mf e:Nat}:∀ {l:List Oper} {i:Nat},e ∈ effsG g a mf l i ↔ ∃ k o,l[k]? = some o ∧ e = i + k ∧ within a mf e = false ∧ isE (cop g o) = true
 | [],i=>⟨(fun h=>by cases h),fun ⟨k,o,h,_⟩=>by cases h⟩
 | x :: r,i=>by
  have ih:=effsG_mem (g:=g) (a:=a) (mf:=mf) (e:=e) (l:=r) (i:=i + 1)
  have tail:(∃ k o,r[k]? = some o ∧ e = i + 1 + k ∧ within a mf e = false ∧ isE (cop g o) = true) → ∃ k o,(x :: r)[k]? = some o ∧ e = i + k ∧ within a mf e = false ∧ isE (cop g o) = true:=fun ⟨k,o,h1,h2,h3⟩=>⟨k + 1,o,by simpa using h1,by omega,h3⟩
  have back:(∃ k o,(x :: r)[k]? = some o ∧ e = i + k ∧ within a mf e = false ∧ isE (cop g o) = true) → (e = i ∧ within a mf e = false ∧ isE (cop g x) = true) ∨ ∃ k o,r[k]? = some o ∧ e = i + 1 + k ∧ within a mf e = false ∧ isE (cop g o) = true:=fun ⟨k,o,h1,h2,h3⟩=>by
   cases k with
   | zero=>cases h1; exact Or.inl ⟨h2,h3⟩
   | succ k=>exact Or.inr ⟨k,o,by simpa using h1,by omega,h3⟩
  rw [effsG]
  split
  ·rename_i hw
   rw [ih]
   refine ⟨tail,fun h => ?_⟩
   rcases back h with ⟨rfl,h1, -⟩ | h
   ·rw [hw] at h1; cases h1
   ·exact h
  ·rename_i hw
   split
   ·rename_i hE
    rw [List.mem_cons,ih]
    constructor
    ·rintro (rfl | h)
     ·exact ⟨0,x,rfl,rfl,hw,hE⟩
     ·exact tail h
    ·intro h
     rcases back h with ⟨rfl, -⟩ | h
     ·exact Or.inl rfl
     ·exact Or.inr h
   ·rename_i hE
    rw [ih]
    refine ⟨tail,fun h => ?_⟩
    rcases back h with ⟨rfl, -,h1⟩ | h
    ·rw [hE] at h1; cases h1
    ·exact h
theorem effsG_sorted {g:G} {a mf:Nat}:∀ (l:List Oper) (i:Nat),(effsG g a mf l i).Pairwise (· < ·)
 | [],i => .nil
 | x :: r,i=>by
  rw [effsG]
  split
  ·exact effsG_sorted r (i + 1)
  ·split
   ·refine List.pairwise_cons.2 ⟨fun e he => ?_,effsG_sorted r (i + 1)⟩
    obtain ⟨k,o, -,h2, -⟩:=effsG_mem.1 he
    omega
   ·exact effsG_sorted r (i + 1)
theorem cntL_succ:∀ {l:List Nat} {k:Nat},l.Pairwise (· < ·) → cntL l (k + 1) = cntL l k + if k ∈ l then 1 else 0
 | [],k,_=>rfl
 | e :: r,k,h=>by
  obtain ⟨h1,h2⟩:=List.pairwise_cons.1 h
  have ih:=cntL_succ (l:=r) (k:=k) h2
  rw [cntL,cntL,bltD,bltD]
  rcases Nat.lt_trichotomy e k with hlt | heq | hgt
  ·rw [decide_eq_true (by omega:e < k + 1),decide_eq_true hlt]
   simp only [ih,List.mem_cons]
   have : ¬ k = e:=by omega
   simp only [this,false_or]
   omega
  ·subst heq
   have hr:e ∉ r:=fun he=>absurd (h1 e he) (Nat.lt_irrefl _)
   rw [decide_eq_true (by omega:e < e + 1),decide_eq_false (Nat.lt_irrefl e)]
   simp only [ih,hr,if_false,List.mem_cons,true_or,if_true]
   try omega
  ·rw [decide_eq_false (by omega : ¬ e < k + 1),decide_eq_false (by omega : ¬ e < k)]
   simp only [ih,List.mem_cons]
   have : ¬ k = e:=by omega
   simp only [this,false_or]
theorem cntL_mono {l:List Nat} (h:l.Pairwise (· < ·)) {j:Nat}:∀ {k:Nat},j ≤ k → cntL l j ≤ cntL l k
 | 0,hk=>by rw [Nat.le_zero.1 hk]; exact Nat.le_refl _
 | k + 1,hk=>by
  rcases Nat.eq_or_lt_of_le hk with rfl | hlt
  ·exact Nat.le_refl _
  ·have:=cntL_mono h (j:=j) (k:=k) (by omega)
   rw [cntL_succ h]; omega
theorem cntL_lt {l:List Nat} (h:l.Pairwise (· < ·)) {e k:Nat} (he:e ∈ l) (hk:e < k):cntL l e < cntL l k:=by
 have:=cntL_mono h (j:=e + 1) (k:=k) hk
 rw [cntL_succ h,if_pos he] at this
 omega
theorem cntL_all:∀ {l:List Nat} {k:Nat},(∀ e ∈ l,e < k) → cntL l k = l.length
 | [],k,_=>rfl
 | e :: r,k,h=>by
  rw [cntL,bltD,decide_eq_true (h e (List.mem_cons_self ..))]
  simp only [List.length_cons]
  rw [cntL_all fun x hx=>h x (List.mem_cons_of_mem _ hx)]
theorem mayAt_iff {R:RG} {k p:Nat}:∀ {l:List Nat} {q:Nat},mayAt R k p l q = true ↔ ∀ i e,l[i]? = some e → (q + i < p → inM (ancAt R.A e) k = false) ∧ (¬ q + i < p → inM (ancAt R.A k) e = false)
 | [],q=>⟨(fun _ i e h=>by cases h),fun _=>rfl⟩
 | x :: r,q=>by
  have ih:=mayAt_iff (R:=R) (k:=k) (p:=p) (l:=r) (q:=q + 1)
  rw [mayAt,Bool.and_eq_true,ih]
  have first:mayOne R k p x q = true ↔ (q < p → inM (ancAt R.A x) k = false) ∧ (¬ q < p → inM (ancAt R.A k) x = false):=by
   unfold mayOne
   rw [bltD]
   by_cases hq:q < p
   ·rw [decide_eq_true hq]
    simp only [Bool.not_eq_true']
    exact ⟨fun h=>⟨fun _=>h,fun h'=>absurd hq h'⟩,fun h=>h.1 hq⟩
   ·rw [decide_eq_false hq]
    simp only [Bool.not_eq_true']
    exact ⟨fun h=>⟨fun h'=>absurd h' hq,fun _=>h⟩,fun h=>h.2 hq⟩
  rw [first]
  constructor
  ·rintro ⟨h1,h2⟩ i e hi
   cases i with
   | zero=>cases hi; simpa using h1
   | succ i=>
    have:=h2 i e (by simpa using hi)
    rw [show q + (i + 1) = q + 1 + i by omega]
    exact this
  ·intro h
   refine ⟨by have:=h 0 x rfl; simpa using this,fun i e hi => ?_⟩
   have:=h (i + 1) e (by simpa using hi)
   rw [show q + (i + 1) = q + 1 + i by omega] at this
   exact this
theorem cntL_at:∀ {l:List Nat} {i e:Nat},l.Pairwise (· < ·) → l[i]? = some e → cntL l e = i
 | [],i,e,_,h=>by cases h
 | x :: r,i,e,hp,h=>by
  obtain ⟨h1,h2⟩:=List.pairwise_cons.1 hp
  rw [cntL,bltD]
  cases i with
  | zero=>
   cases h
   rw [decide_eq_false (Nat.lt_irrefl _)]
   have:∀ {l:List Nat},(∀ y ∈ l,x < y) → cntL l x = 0:=by
    intro l
    induction l with
    | nil=>intro _; rfl
    | cons y l ih=>
     intro hl
     rw [cntL,bltD,decide_eq_false (by have:=hl y (List.mem_cons_self ..); omega)]
     exact ih fun z hz=>hl z (List.mem_cons_of_mem _ hz)
   exact this h1
  | succ i=>
   have he:e ∈ r:=List.mem_of_getElem? (by simpa using h)
   rw [decide_eq_true (h1 e he)]
   simp only
   rw [cntL_at h2 (by simpa using h)]
theorem loE_le {m p:Nat}:∀ {l:List Nat} {q a:Nat},a ≤ p → (∀ i e,l[i]? = some e → ¬ q + i < p → inM m e = false) → loE m l q a ≤ p
 | [],q,a,ha,_=>ha
 | e :: r,q,a,ha,h=>by
  have e1:loE m (e :: r) q a = Bool.rec (motive:=fun _=>Nat) (loE m r (q + 1) a) (loE m r (q + 1) (q + 1)) (inM m e):=rfl
  have hr:∀ i x,r[i]? = some x → ¬ q + 1 + i < p → inM m x = false:=fun i x hx hn=>h (i + 1) x (by simpa using hx) (by omega)
  rw [e1]
  cases hb:inM m e with
  | false=>exact loE_le ha hr
  | true=>
   have hq:q < p:=by
    rcases Nat.lt_or_ge q p with hq | hq
    ·exact hq
    ·have:=h 0 e rfl (by omega)
     rw [hb] at this; cases this
   exact loE_le hq hr
theorem hiE_ge {A:Tr Nat} {k p:Nat}:∀ {l:List Nat} {q:Nat},p ≤ q + l.length → (∀ i e,l[i]? = some e → q + i < p → inM (ancAt A e) k = false) → p ≤ hiE A k l q
 | [],q,hp,_=>by show p ≤ q; simpa using hp
 | e :: r,q,hp,h=>by
  have e1:hiE A k (e :: r) q = Bool.rec (motive:=fun _=>Nat) (hiE A k r (q + 1)) q (inM (ancAt A e) k):=rfl
  have hr:∀ i x,r[i]? = some x → q + 1 + i < p → inM (ancAt A x) k = false:=fun i x hx hn=>h (i + 1) x (by simpa using hx) (by omega)
  rw [e1]
  cases hb:inM (ancAt A e) k with
  | false=>exact hiE_ge (by simp only [List.length_cons] at hp; omega) hr
  | true=>
   show p ≤ q
   rcases Nat.lt_or_ge q p with hq | hq
   ·have:=h 0 e rfl (by omega)
    rw [hb] at this; cases this
   ·exact hq
theorem rngE_mem {c lo p:Nat} (hc:p ≠ c) (hl:lo ≤ p):∀ {s:Nat},p ≤ s → p ∈ rngE c lo s
 | 0,hs=>by
  have:p = 0:=Nat.le_zero.1 hs
  subst this
  have e1:rngE c lo 0 = Bool.rec (motive:=fun _=>List Nat) [] (Bool.rec (motive:=fun _=>List Nat) [0] [] (Nat.beq 0 c)) (Nat.ble lo 0):=rfl
  rw [e1,Nat.ble_eq_true_of_le hl]
  cases hb:Nat.beq 0 c with
  | true=>exact absurd (Nat.eq_of_beq_eq_true hb) hc
  | false=>exact List.mem_cons_self ..
 | s + 1,hs=>by
  have e1:rngE c lo (s + 1) = Bool.rec (motive:=fun _=>List Nat) [] (Bool.rec (motive:=fun _=>List Nat) (Nat.succ s :: rngE c lo s) (rngE c lo s) (Nat.beq (Nat.succ s) c)) (Nat.ble lo (Nat.succ s)):=rfl
  rw [e1,Nat.ble_eq_true_of_le (show lo ≤ Nat.succ s by omega)]
  by_cases hps:p = s + 1
  ·subst hps
   cases hb:Nat.beq (Nat.succ s) c with
   | true=>exact absurd (Nat.eq_of_beq_eq_true hb) hc
   | false=>exact List.mem_cons_self ..
  ·have ih:=rngE_mem hc hl (s:=s) (by omega)
   cases hb:Nat.beq (Nat.succ s) c with
   | true=>exact ih
   | false=>exact List.mem_cons_of_mem _ ih
theorem needs_mem {R:RG} {effs:List Nat} {k p:Nat} (hc:p ≠ cntL effs k) (hm:mayAt R k p effs 0 = true) (hs:p ≤ effs.length):p ∈ needs R effs k:=by
 rw [mayAt_iff] at hm
 unfold needs
 rw [force_eq,force_eq]
 exact rngE_mem hc (loE_le (Nat.zero_le _) fun i e hi hn=>(hm i e hi).2 hn) (hiE_ge (by omega) fun i e hi hn=>(hm i e hi).1 hn)
theorem allIn_mem {m:Nat}:∀ {l:List Nat},allIn m l = true → ∀ e ∈ l,inM m e = true
 | [],_,e,he=>by cases he
 | x :: r,h,e,he=>by
  rw [allIn,Bool.and_eq_true] at h
  rcases List.mem_cons.1 he with rfl | he
  ·exact h.1
  ·exact allIn_mem h.2 e he
theorem belowL_mem {k e:Nat}:∀ {l:List Nat},e ∈ l → e < k → e ∈ belowL l k
 | [],h,_=>by cases h
 | x :: r,h,hk=>by
  rw [belowL,bltD]
  rcases List.mem_cons.1 h with rfl | h
  ·rw [decide_eq_true hk]; exact List.mem_cons_self ..
  ·have:=belowL_mem h hk
   split
   ·exact List.mem_cons_of_mem _ this
   ·exact this
theorem rangeL_mem:∀ {m a f:Nat},a ≤ f → f < a + m → f ∈ rangeL a m
 | 0,a,f,h1,h2=>by omega
 | m + 1,a,f,h1,h2=>by
  rw [rangeL]
  by_cases h:f = a
  ·rw [h]; exact List.mem_cons_self ..
  ·exact List.mem_cons_of_mem _ (rangeL_mem (by omega) (by omega))
theorem mkWr_get {d w:Nat}:∀ {l:List Oper} {i:Nat} {A:Tr Nat},(mkWr l i A).get d = some w → A.get d = some w ∨ ∃ k o,l[k]? = some o ∧ o.dst = some d ∧ w = i + k
 | [],i,A,h=>Or.inl h
 | o :: r,i,A,h=>by
  have e:mkWr (o :: r) i A = match o.dst with | some d=>mkWr r (i + 1) (A.set d i) | none=>mkWr r (i + 1) A:=rfl
  rw [e] at h
  have up:(∃ k o',r[k]? = some o' ∧ o'.dst = some d ∧ w = i + 1 + k) → ∃ k o',(o :: r)[k]? = some o' ∧ o'.dst = some d ∧ w = i + k:=fun ⟨k,o',h1,h2,h3⟩=>⟨k + 1,o',by simpa using h1,h2,by omega⟩
  cases hd:o.dst with
  | none=>
   rw [hd] at h
   rcases mkWr_get (l:=r) h with h | h
   ·exact Or.inl h
   ·exact Or.inr (up h)
  | some d'=>
   rw [hd] at h
   rcases mkWr_get (l:=r) h with h | h
   ·rw [Tr.get_set] at h
    by_cases hdd:d = d'
    ·rw [if_pos hdd] at h
     cases h
     exact Or.inr ⟨0,o,rfl,by rw [hd,hdd],rfl⟩
    ·rw [if_neg hdd] at h; exact Or.inl h
   ·exact Or.inr (up h)
theorem notW {a mf k:Nat} (h:k < a ∨ a + mf ≤ k):within a mf k = false:=by
 cases hw:within a mf k
 ·rfl
 ·obtain ⟨h1,h2⟩:=within_yes hw; omega
structure DC (P:Program) (η:En) (g:G) (R:RG) (n a mf:Nat) (effs:List Nat) (S:Nat → StE) (V:Nat → AV) (t0:Fm) (h0:Tr Ob) (nx0:Nat):Prop where
 gk:RGok R n
 W:∀ d w,R.W.get d = some w → ∃ o,R.all[w]? = some o ∧ o.dst = some d
 le:a + mf ≤ R.all.length
 fr:mf = 0 ∨ cntL effs a < effs.length
 ef:effs = effsG g a mf R.all 0
 st:∀ k o,R.all[k]? = some o → StepOk P η g R n a mf k o (S k) (V k) (S (k + 1))
 op:∀ k o,R.all[k]? = some o → opOk g R effs a mf k o = true
 lk:∀ k o,R.all[k]? = some o → lookO g R effs k o t0 (S R.all.length).t (S R.all.length).hs = true
 s0:S 0 = ⟨t0,h0,nx0,[⟨h0,nx0⟩]⟩
section
variable {P : Program} {η : En} {g : G} {R : RG} {n a mf : Nat} {effs : List Nat} {S : Nat → StE} {V : Nat → AV} {t0 : Fm} {h0 : Tr Ob} {nx0 : Nat} (C : DC P η g R n a mf effs S V t0 h0 nx0)
include C
theorem DC.sorted:effs.Pairwise (· < ·):=by rw [C.ef]; exact effsG_sorted _ _
theorem DC.mem {k:Nat}:k ∈ effs ↔ ∃ o,R.all[k]? = some o ∧ within a mf k = false ∧ isE (cop g o) = true:=by
 rw [C.ef,effsG_mem]
 constructor
 ·rintro ⟨j,o,h1,h2,h3⟩
  have:k = j:=by omega
  subst this
  exact ⟨o,h1,h3⟩
 ·rintro ⟨o,h1,h2⟩; exact ⟨k,o,h1,by omega,h2⟩
theorem DC.hs {k:Nat} {o:Oper} (ho:R.all[k]? = some o):(k ∈ effs → (S (k + 1)).hs = ⟨(S (k + 1)).h,(S (k + 1)).nx⟩ :: (S k).hs) ∧ (k ∉ effs → (S (k + 1)).hs = (S k).hs) ∧
  (k ∉ effs → within a mf k = false → (S (k + 1)).h = (S k).h ∧ (S (k + 1)).nx = (S k).nx):=by
 have s:=(C.st k o ho).way
 have hm:k ∈ effs ↔ within a mf k = false ∧ isE (cop g o) = true:=by
  rw [C.mem]
  constructor
  ·rintro ⟨o',h1,h2⟩; rw [ho] at h1; cases h1; exact h2
  ·intro h; exact ⟨o,ho,h⟩
 rcases s with ⟨hw,hs, -⟩ | ⟨hw,⟨-, -,h1,h2,h3⟩ | ⟨-,⟨Vv,hc, -, -,h1,h2,h3⟩ | ⟨F,hc, -,h3⟩⟩⟩
 ·have hn:k ∉ effs:=fun h=>by rw [(hm.1 h).1] at hw; cases hw
  exact ⟨fun h=>absurd h hn,fun _=>hs,fun _ h=>by rw [hw] at h; cases h⟩
 ·cases hE:isE (cop g o)
  ·have hn:k ∉ effs:=fun h=>by rw [(hm.1 h).2] at hE; cases hE
   rw [hE,if_neg Bool.false_ne_true] at h3
   exact ⟨fun h=>absurd h hn,fun _=>h3,fun _ _=>⟨h1,h2⟩⟩
  ·have hy:k ∈ effs:=hm.2 ⟨hw,hE⟩
   rw [hE,if_pos rfl] at h3
   exact ⟨fun _=>by rw [h3,h1,h2],fun h=>absurd hy h,fun h=>absurd hy h⟩
 ·have hn:k ∉ effs:=fun h=>by have:=(hm.1 h).2; rw [hc] at this; cases this
  exact ⟨fun h=>absurd h hn,fun _=>h3,fun _ _=>⟨h1,h2⟩⟩
 ·have hy:k ∈ effs:=hm.2 ⟨hw,by rw [hc]; rfl⟩
  exact ⟨fun _=>h3,fun h=>absurd hy h,fun h=>absurd hy h⟩
theorem DC.len:∀ {k:Nat},k ≤ R.all.length → (S k).hs.length = cntL effs k + 1
 | 0,_=>by
  have:cntL effs 0 = 0:=by
   have:∀ l:List Nat,cntL l 0 = 0:=fun l=>by
    induction l with
    | nil=>rfl
    | cons e r ih=>rw [cntL,bltD,decide_eq_false (Nat.not_lt_zero e)]; exact ih
   exact this effs
  rw [C.s0,this]; rfl
 | k + 1,hk=>by
  have ih:=DC.len (k:=k) (by omega)
  obtain ⟨h1,h2, -⟩:=C.hs (List.getElem?_eq_getElem (show k < R.all.length by omega))
  rw [cntL_succ C.sorted]
  by_cases hm:k ∈ effs
  ·rw [h1 hm,if_pos hm]; simp only [List.length_cons,ih]
  ·rw [h2 hm,if_neg hm,ih]
theorem DC.pre {k:Nat}:∀ {d:Nat},k + d ≤ R.all.length → ∃ l,(S (k + d)).hs = l ++ (S k).hs
 | 0,_=>⟨[],rfl⟩
 | d + 1,hk=>by
  obtain ⟨l,hl⟩:=DC.pre (k:=k) (d:=d) (by omega)
  obtain ⟨h1,h2, -⟩:=C.hs (k:=k + d) (List.getElem?_eq_getElem (show k + d < R.all.length by omega))
  by_cases hm:k + d ∈ effs
  ·exact ⟨_ :: l,by rw [show k + (d + 1) = k + d + 1 by omega,h1 hm,hl]; rfl⟩
  ·exact ⟨l,by rw [show k + (d + 1) = k + d + 1 by omega,h2 hm,hl]⟩
theorem DC.stage {k p:Nat} (hk:k ≤ R.all.length) (hp:p ≤ cntL effs k):(S R.all.length).hs[cntL effs R.all.length - p]? = (S k).hs[cntL effs k - p]? := by
 obtain ⟨l,hl⟩:=C.pre (k:=k) (d:=R.all.length - k) (by omega)
 rw [show k + (R.all.length - k) = R.all.length by omega] at hl
 have h1:=C.len (Nat.le_refl R.all.length)
 have h2:=C.len hk
 rw [hl,List.length_append,h2] at h1
 have hm:=cntL_mono C.sorted hk
 rw [hl,List.getElem?_append_right (by omega)]
 congr 1; omega
theorem DC.noE {k:Nat} (h1:a ≤ k) (h2:k < a + mf):k ∉ effs:=fun h=>by
 obtain ⟨o, -,hw, -⟩:=C.mem.1 h
 rcases within_no hw with h | h <;> omega
theorem DC.cntF:∀ {j:Nat},j ≤ mf → cntL effs (a + j) = cntL effs a
 | 0,_=>rfl
 | j + 1,hj=>by
  rw [show a + (j + 1) = a + j + 1 by omega,cntL_succ C.sorted,if_neg (C.noE (by omega) (by omega)),DC.cntF (j:=j) (by omega)]
  omega
theorem DC.heapA:∀ {k:Nat},k ≤ a → (S k).hs[0]? = some ⟨(S k).h,(S k).nx⟩
 | 0,_=>by rw [C.s0]; rfl
 | k + 1,hk=>by
  have ih:=DC.heapA (k:=k) (by omega)
  have hle:=C.le
  obtain ⟨h1,h2,h3⟩:=C.hs (List.getElem?_eq_getElem (show k < R.all.length by omega))
  by_cases hm:k ∈ effs
  ·rw [h1 hm]; rfl
  ·obtain ⟨e1,e2⟩:=h3 hm (notW (by omega))
   rw [h2 hm,e1,e2]; exact ih
theorem DC.heapB:∀ {d:Nat},a + mf + d ≤ R.all.length → (cntL effs (a + mf + d) = cntL effs a ∧ (S (a + mf + d)).h = (S (a + mf)).h ∧ (S (a + mf + d)).nx = (S (a + mf)).nx) ∨
  (cntL effs a < cntL effs (a + mf + d) ∧ (S (a + mf + d)).hs[0]? = some ⟨(S (a + mf + d)).h,(S (a + mf + d)).nx⟩)
 | 0,_=>Or.inl ⟨C.cntF (Nat.le_refl _),rfl,rfl⟩
 | d + 1,hd=>by
  have ih:=DC.heapB (d:=d) (by omega)
  obtain ⟨h1,h2,h3⟩:=C.hs (k:=a + mf + d) (List.getElem?_eq_getElem (show a + mf + d < R.all.length by omega))
  rw [show a + mf + (d + 1) = a + mf + d + 1 by omega]
  have hc:=cntL_succ C.sorted (k:=a + mf + d)
  by_cases hm:a + mf + d ∈ effs
  ·rw [if_pos hm] at hc
   refine Or.inr ⟨?_,by rw [h1 hm]; rfl⟩
   rcases ih with ⟨e, -⟩ | ⟨e, -⟩ <;> omega
  ·rw [if_neg hm] at hc
   obtain ⟨e1,e2⟩:=h3 hm (notW (by omega))
   rcases ih with ⟨i1,i2,i3⟩ | ⟨i1,i2⟩
   ·exact Or.inl ⟨by omega,by rw [e1,i2],by rw [e2,i3]⟩
   ·exact Or.inr ⟨by omega,by rw [h2 hm,e1,e2]; exact i2⟩
theorem DC.frame:∀ {k:Nat},k ≤ R.all.length → ∀ d,(∀ w,R.W.get d = some w → w < k → (S k).t.at d = V w) ∧ ((∀ w,R.W.get d = some w → k ≤ w) → (S k).t.at d = t0.at d)
 | 0,_,d=>by rw [C.s0]; exact ⟨fun w _ h=>absurd h (Nat.not_lt_zero _),fun _=>rfl⟩
 | k + 1,hk,d=>by
  obtain ⟨ih1,ih2⟩:=DC.frame (k:=k) (by omega) d
  have hkl:k < R.all.length:=by omega
  have ho:R.all[k]? = some R.all[k]:=List.getElem?_eq_getElem hkl
  obtain ⟨sd,hsd,ht⟩:=(C.st k _ ho).put
  rw [ht]
  unfold cdst at hsd
  cases hd:R.all[k].dst with
  | none=>
   rw [hd] at hsd
   cases hsd
   have hne:∀ w,R.W.get d = some w → w ≠ k:=fun w hw e=>by
    obtain ⟨o',h1,h2⟩:=C.W d w hw
    subst e
    rw [ho] at h1; cases h1
    rw [hd] at h2; cases h2
   exact ⟨fun w hw hlt=>ih1 w hw (by have:=hne w hw; omega),fun h=>ih2 fun w hw=>by have:=h w hw; omega⟩
  | some d'=>
   rw [hd] at hsd
   obtain ⟨hW,hdn,hd256⟩:=C.gk.dst k _ d' ho hd
   have hb:Nat.blt d' n = true:=by rw [bltD]; exact decide_eq_true hdn
   simp only [hb] at hsd
   have e:sd (S k).t (V k) = (S k).t.put d' (V k):=by
    unfold Fm.put
    generalize facc d' = c at hsd
    cases c
    cases hsd
    rfl
   rw [e]
   by_cases hdd:d = d'
   ·subst hdd
    rw [Fm.at_put_lt _ hd256]
    refine ⟨fun w hw hlt=>by rw [hW] at hw; cases hw; rfl,fun h=>by have:=h k hW; omega⟩
   ·rw [Fm.at_put_ne _ _ hdd]
    have hne:∀ w,R.W.get d = some w → w ≠ k:=fun w hw e=>by
     obtain ⟨o',h1,h2⟩:=C.W d w hw
     subst e
     rw [ho] at h1; cases h1
     rw [hd] at h2; cases h2
     exact hdd rfl
    exact ⟨fun w hw hlt=>ih1 w hw (by have:=hne w hw; omega),fun h=>ih2 fun w hw=>by have:=h w hw; omega⟩
end
end
section
theorem anc_mem {R:RG} {n:Nat} (G:RGok R n) {listed:Array Bool} (hs:listed.size = R.all.length) (hc:∀ i o,listed.getD i false = true → R.all[i]? = some o → ∀ e ∈ o.after,Region.binds .any e = true → listed.getD e.on false = true) :
  ∀ (k i:Nat),i < k → listed.getD i false = true → ∀ m,inM (ancAt R.A i) m = true → listed.getD m false = true
 | 0,i,hi,_,_,_=>by omega
 | k + 1,i,hi,hl,m,hm=>by
  have hlt:i < listed.size:=by
   rcases Nat.lt_or_ge i listed.size with h | h
   ·exact h
   ·rw [Array.getD_eq_getD_getElem?,Array.getElem?_eq_none h] at hl; cases hl
  have ho:R.all[i]? = some R.all[i]:=List.getElem?_eq_getElem (by omega)
  obtain ⟨e,he,hb,h1⟩:=G.anc i _ ho m hm
  have h2:=hc i _ hl ho e he hb
  rcases h1 with rfl | h1
  ·exact h2
  ·exact anc_mem G hs hc k e.on (by have:=G.lt i _ ho e he hb; omega) h2 m h1
theorem put_same {a:Act} {d:Nat} {v:Value} (h:d < a.tmps.size):(a.put (some d) v).tmps.getD d undef = v:=by simp [Act.put,h]
theorem put_other {a:Act} {dst:Option Nat} {d:Nat} {v:Value} (h:dst ≠ some d):(a.put dst v).tmps.getD d undef = a.tmps.getD d undef:=by
 cases dst with
 | none=>rfl
 | some d'=>
  have hne:d' ≠ d:=fun e=>h (by rw [e])
  simp [Act.put,Array.getElem?_setIfInBounds_ne hne]
theorem put_size {a:Act} {dst:Option Nat} {v:Value}:(a.put dst v).tmps.size = a.tmps.size:=by
 cases dst <;> simp [Act.put]
theorem put_defs {a:Act} {dst:Option Nat} {v:Value}:(a.put dst v).defers = a.defers:=by
 cases dst <;> rfl
theorem alloc_old {w:World} {ob:Obj} {B:Nat} (h:B < w.heap.size):(w.alloc ob).heap[B]? = w.heap[B]? := by
 show (w.heap.push ob)[B]? = _; simp [Array.getElem?_push,Nat.ne_of_lt h]
theorem alloc_new {w:World} {ob:Obj}:(w.alloc ob).heap[w.heap.size]? = some ob:=by
 show (w.heap.push ob)[w.heap.size]? = _; simp
theorem alloc_size {w:World} {ob:Obj}:(w.alloc ob).heap.size = w.heap.size + 1:=by
 show (w.heap.push ob).size = _; simp
theorem HR.grow {η:En} {ν:Nu} {h:Tr Ob} {w:World} (H:HR η ν h w) (ob:Obj):HR η ν h (w.alloc ob):=by
 refine ⟨fun b o hg => ?_,H.inj,⟨by have:=H.base.low; rw [alloc_size]; omega,fun k hk=>(alloc_old (Nat.lt_of_lt_of_le hk H.base.low)).trans (H.base.old k hk),H.base.far⟩⟩
 obtain ⟨q,ob',e1,e2,e3⟩:=H.at_ b o hg
 exact ⟨q,ob',e1,by rw [alloc_old (lt_of_some e2)]; exact e2,e3⟩
theorem HR.add {η:En} {ν:Nu} {h:Tr Ob} {w:World} {nx:Nat} (H:HR η ν h w) (X:Nx ν nx) {q:Loc} {ob:Obj} {o:Ob} (hb:w.heap[q.b]? = some ob) (ho:∀ ν',orel η ν' o q ob) (hi : ¬ Img ν h q.b) (hB:η.w0.heap.size ≤ q.b) :
  HR η (ν.put nx q) (h.set nx o) w ∧ Nx (ν.put nx q) (nx + 1) ∧ ν.le (ν.put nx q) ∧ ∀ C,Img (ν.put nx q) (h.set nx o) C → C = q.b ∨ Img ν h C:=by
 have hle:ν.le (ν.put nx q):=Nu.le_put (X nx (Nat.le_refl _))
 have hput:∀ b,b ≠ nx → (ν.put nx q) b = ν b:=fun b hb=>if_neg hb
 have hn:(ν.put nx q) nx = some q:=if_pos rfl
 refine ⟨⟨fun b x hg => ?_,fun b b' x x' r r' hg hg' hd hd' he he' hq => ?_,⟨H.base.low,H.base.old,fun b x r hg hd he => ?_⟩⟩,fun b hb=>by rw [hput b (by omega)]; exact X b (by omega),hle,fun C hC => ?_⟩
 ·rw [Tr.get_set] at hg
  by_cases hbn:b = nx
  ·rw [if_pos hbn] at hg
   cases hg
   subst hbn
   exact ⟨_,ob,hn,hb,ho _⟩
  ·rw [if_neg hbn] at hg
   obtain ⟨r,ob',e1,e2,e3⟩:=H.at_ b x hg
   exact ⟨r,ob',hle _ _ e1,e2,orel_mono hle e3⟩
 ·rw [Tr.get_set] at hg hg'
  by_cases hbn:b = nx
  ·by_cases hbn':b' = nx
   ·rw [hbn,hbn']
   ·rw [if_neg hbn'] at hg'
    rw [hput b' hbn'] at he'
    subst hbn
    rw [hn] at he
    cases he
    exact absurd ⟨b',x',r',hg',hd',he',hq.symm⟩ hi
  ·rw [if_neg hbn] at hg
   rw [hput b hbn] at he
   by_cases hbn':b' = nx
   ·subst hbn'
    rw [hn] at he'
    cases he'
    exact absurd ⟨b,x,r,hg,hd,he,hq⟩ hi
   ·rw [if_neg hbn'] at hg'
    rw [hput b' hbn'] at he'
    exact H.inj b b' x x' r r' hg hg' hd hd' he he' hq
 ·rw [Tr.get_set] at hg
  by_cases hbn:b = nx
  ·subst hbn
   rw [hn] at he
   cases he
   exact hB
  ·rw [if_neg hbn] at hg
   rw [hput b hbn] at he
   exact H.base.far b x r hg hd he
 ·obtain ⟨b,x,r,hg,hd,he,hq⟩:=hC
  rw [Tr.get_set] at hg
  by_cases hbn:b = nx
  ·subst hbn
   rw [hn] at he
   cases he
   exact Or.inl hq.symm
  ·rw [if_neg hbn] at hg
   rw [hput b hbn] at he
   exact Or.inr ⟨b,x,r,hg,hd,he,hq⟩
def ZeroOf (g:G) (R:RG) (f:Nat) (z:List AV):Prop := ∃ o ty i,R.all[f]? = some o ∧ o.op = .alloc ty ∧ tiOf g.tt ty = some i ∧ i.zero = some z
structure FrB (η:En) (g:G) (R:RG) (ν:Nu) (h:Tr Ob) (w0 w:World) (tm:Array Value) (f B:Nat):Prop where
 new:w0.heap.size ≤ B ∧ η.w0.heap.size ≤ B
 out : ¬ Img ν h B
 blk:∃ z N ob,ZeroOf g R f z ∧ w.heap[B]? = some ob ∧ ∀ ν',orel η ν' (.oc z false) ⟨B,0,N⟩ ob
 tmp:∀ o d,R.all[f]? = some o → o.dst = some d → tm.getD d undef = .pointer (some ⟨B,0,none⟩)
def Tm (η:En) (ν:Nu) (R:RG) (V:Nat → AV) (t0:Fm) (a mf:Nat) (b:Bool) (ls:Nat → Bool) (tm:Array Value):Prop:=
 ∀ d,(∀ w,R.W.get d = some w → ls w = true → (b = true ∨ within a mf w = false) → wrel η ν (V w) (tm.getD d undef)) ∧ ((∀ w,R.W.get d = some w → ls w = false) → wrel η ν (t0.at d) (tm.getD d undef))
structure Core (η:En) (g:G) (R:RG) (V:Nat → AV) (t0:Fm) (a mf:Nat) (ν0:Nu) (h0:Tr Ob) (w0:World) (b:Bool) (ls:Nat → Bool) (tm:Array Value) (w:World) (ν:Nu) (h:Tr Ob) (nx:Nat):Prop where
 H:HR η ν h w
 X:Nx ν nx
 F:Fr ν0 h0 w0 ν h w
 tms:Tm η ν R V t0 a mf b ls tm
 nm:b = true → ∀ f,within a mf f = true → ls f = true
 un:b = false → (∀ k,a + mf ≤ k → ls k = false) ∧ ∃ Bf:Nat → Nat,(∀ f,within a mf f = true → ls f = true → FrB η g R ν h w0 w tm f (Bf f)) ∧
  ∀ f f',within a mf f = true → within a mf f' = true → ls f = true → ls f' = true → Bf f = Bf f' → f = f'
def lsPut (ls:Nat → Bool) (i:Nat):Nat → Bool:=fun k=>if k = i then true else ls k
section
variable {P : Program} {η : En} {g : G} {R : RG} {n a mf : Nat} {effs : List Nat} {S : Nat → StE} {V : Nat → AV} {t0 : Fm} {h0 : Tr Ob} {nx0 : Nat} (C : DC P η g R n a mf effs S V t0 h0 nx0)
  {ν0 : Nu} {w0 : World}
include C
theorem DC.wr {i d:Nat} {o:Oper} (ho:R.all[i]? = some o):o.dst = some d ↔ R.W.get d = some i:=by
 constructor
 ·intro h; exact (C.gk.dst i o d ho h).1
 ·intro h
  obtain ⟨o',h1,h2⟩:=C.W d i h
  rw [ho] at h1; cases h1; exact h2
theorem Core.tmPut {ν ν1:Nu} (hle:ν.le ν1) {b:Bool} {ls:Nat → Bool} {act:Act} (hn:act.tmps.size = n) (K:Tm η ν R V t0 a mf b ls act.tmps) {i:Nat} {o:Oper} (ho:R.all[i]? = some o) {v:Value} (hv:(∀ d,o.dst = some d → wrel η ν1 (V i) v) ∨ (within a mf i = true ∧ b = false)) :
  Tm η ν1 R V t0 a mf b (lsPut ls i) (act.put o.dst v).tmps:=by
 intro d
 obtain ⟨c1,c2⟩:=K d
 constructor
 ·intro w hw hl hN
  by_cases hwi:w = i
  ·subst hwi
   have hd:=(C.wr ho).2 hw
   rcases hv with hv | ⟨h1,h2⟩
   ·rw [hd,put_same (by rw [hn]; exact (C.gk.dst w o d ho hd).2.1)]; exact hv d hd
   ·rcases hN with hN | hN
    ·rw [h2] at hN; cases hN
    ·rw [h1] at hN; cases hN
  ·have hne:o.dst ≠ some d:=fun e=>by
    have:=(C.wr ho).1 e
    rw [hw] at this
    exact hwi (Option.some.inj this)
   rw [put_other hne]
   have hl':ls w = true:=by
    have h2:(if w = i then true else ls w) = true:=hl
    rwa [if_neg hwi] at h2
   exact wrel_mono hle (c1 w hw hl' hN)
 ·intro hall
  have hne:o.dst ≠ some d:=fun e=>by
   have:=hall i ((C.wr ho).1 e)
   have h2:(if i = i then true else ls i) = false:=this
   rw [if_pos rfl] at h2; cases h2
  rw [put_other hne]
  refine wrel_mono hle (c2 fun w hw => ?_)
  have hwi:w ≠ i:=fun e=>by subst e; exact hne ((C.wr ho).2 hw)
  have h2:(if w = i then true else ls w) = false:=hall w hw
  rwa [if_neg hwi] at h2
theorem FrB.keep {ν ν1:Nu} {h h1:Tr Ob} {w w1:World} {act:Act} {f B:Nat} (K:FrB η g R ν h w0 w act.tmps f B) (F1:Fr ν h w ν1 h1 w1) {i:Nat} {o:Oper} (ho:R.all[i]? = some o) (hif:i ≠ f) {v:Value} :
  FrB η g R ν1 h1 w0 w1 (act.put o.dst v).tmps f B:=by
 obtain ⟨z,N,ob,hz,hb,hor⟩:=K.blk
 have hlt:=lt_of_some hb
 refine ⟨K.new,fun hi=>K.out (F1.img B hlt hi),⟨z,N,ob,hz,by rw [F1.keep B hlt K.out]; exact hb,hor⟩,fun o' d ho' hd' => ?_⟩
 have hne:o.dst ≠ some d:=fun e=>by
  have h1:=(C.wr ho).1 e
  have h2:=(C.wr ho').1 hd'
  rw [h1] at h2
  exact hif (Option.some.inj h2)
 rw [put_other hne]
 exact K.tmp o' d ho' hd'
theorem Core.put {b:Bool} {ls:Nat → Bool} {act:Act} {w w1:World} {ν ν1:Nu} {h h1:Tr Ob} {nx nx1:Nat} (hn:act.tmps.size = n) (K:Core η g R V t0 a mf ν0 h0 w0 b ls act.tmps w ν h nx) {i:Nat} {o:Oper} (ho:R.all[i]? = some o)
  (hw:within a mf i = false) (hb:b = true ∨ i < a) {v:Value} (hv:∀ d,o.dst = some d → wrel η ν1 (V i) v) (H1:HR η ν1 h1 w1) (X1:Nx ν1 nx1) (F1:Fr ν h w ν1 h1 w1) :
  Core η g R V t0 a mf ν0 h0 w0 b (lsPut ls i) (act.put o.dst v).tmps w1 ν1 h1 nx1:=by
 refine ⟨H1,X1,K.F.trans F1,Core.tmPut C F1.le hn K.tms ho (Or.inl hv),fun e f hf => ?_,fun e => ?_⟩
 ·have:=K.nm e f hf
  show (if f = i then true else ls f) = true
  split
  ·rfl
  ·exact this
 ·obtain ⟨u1,Bf,u2,u3⟩:=K.un e
  have hia:i < a:=by
   rcases hb with hb | hb
   ·rw [e] at hb; cases hb
   ·exact hb
  have hf:∀ f,within a mf f = true → lsPut ls i f = ls f:=fun f hf=>if_neg (fun e=>by obtain ⟨h1, -⟩:=within_yes hf; omega)
  refine ⟨fun k hk => ?_,Bf,fun f hf1 hf2 => ?_,fun f f' hf1 hf1' hf2 hf2' => ?_⟩
  ·show (if k = i then true else ls k) = false
   rw [if_neg (by omega)]; exact u1 k hk
  ·rw [hf f hf1] at hf2
   exact FrB.keep C (i:=i) (u2 f hf1 hf2) F1 ho (fun e=>by obtain ⟨h1, -⟩:=within_yes hf1; omega)
  ·rw [hf f hf1] at hf2
   rw [hf f' hf1'] at hf2'
   exact u3 f f' hf1 hf1' hf2 hf2'
theorem Core.free (T:TabE P g.tt g.ff) {ls:Nat → Bool} {act:Act} {w:World} {ν:Nu} {h:Tr Ob} {nx:Nat} (hn:act.tmps.size = n) (K:Core η g R V t0 a mf ν0 h0 w0 false ls act.tmps w ν h nx) {i:Nat} {o:Oper} (ho:R.all[i]? = some o)
  (hw:within a mf i = true) {ty:Nat} {ti:TI} {z:List AV} (h1:o.op = .alloc ty) (h2:tiOf g.tt ty = some ti) (h3:ti.zero = some z) :
  ∃ v w1,(execOp act.eval o).run P w = .ok (.value v) w1 ∧ Core η g R V t0 a mf ν0 h0 w0 false (lsPut ls i) (act.put o.dst v).tmps w1 ν h nx:=by
 obtain ⟨zv,e1, -⟩:=(tiOf_ok T h2).zero (P:=P) h3 η ν w
 have e2:∀ ν',vrels η ν' z zv.cells.toList:=fun ν'=>by
  obtain ⟨zv',e1',e2'⟩:=(tiOf_ok T h2).zero (P:=P) h3 η ν' w
  rw [e1] at e1'
  cases e1'
  exact e2'
 have run:(execOp act.eval o).run P w = .ok (.value (.pointer (some ⟨w.heap.size,0,none⟩))) (w.alloc (.cells zv.cells.toList.toArray ty)):=by
  obtain ⟨dst,op,ty0,pos,after,guard⟩:=o
  simp only at h1
  subst h1
  unfold execOp
  simp [Instr.alloc,e1,newVar,run_newRow]
 refine ⟨_,_,run,K.H.grow _,K.X,⟨K.F.le,by rw [alloc_size]; have:=K.F.size; omega,fun B hB hi => ?_,K.F.img,Oth.trans K.F.oth ⟨rfl,rfl,rfl⟩⟩,Core.tmPut C (Nu.le_refl _) hn K.tms ho (Or.inr ⟨hw,rfl⟩),(fun e=>by cases e),fun _ => ?_⟩
 ·rw [alloc_old (Nat.lt_of_lt_of_le hB K.F.size)]; exact K.F.keep B hB hi
 ·obtain ⟨u1,Bf,u2,u3⟩:=K.un rfl
  have hlt:∀ f,within a mf f = true → ls f = true → Bf f < w.heap.size:=fun f hf hl=>by
   obtain ⟨-, -,ob, -,hb, -⟩:=(u2 f hf hl).blk
   exact lt_of_some hb
  have hls:∀ f,f ≠ i → lsPut ls i f = ls f:=fun f hf=>if_neg hf
  refine ⟨fun k hk => ?_,fun f=>if f = i then w.heap.size else Bf f,fun f hf1 hf2 => ?_,fun f f' hf1 hf1' hf2 hf2' he => ?_⟩
  ·obtain ⟨-,h5⟩:=within_yes hw
   rw [hls k (by omega)]; exact u1 k hk
  ·dsimp only
   by_cases hfi:f = i
   ·subst hfi
    rw [if_pos rfl]
    refine ⟨⟨K.F.size,K.H.base.low⟩,fun hi => ?_,⟨z,zv.cells.toList.length,_,⟨o,ty,ti,ho,h1,h2,h3⟩,alloc_new,fun ν' => ?_⟩,fun o' d ho' hd' => ?_⟩
    ·obtain ⟨b,x,q,hg,hd,he,hq⟩:=hi
     have:=K.H.lt hg he
     omega
    ·exact orel_row (e2 ν') _ _
    ·rw [ho] at ho'; cases ho'
     rw [hd',put_same (by rw [hn]; exact (C.gk.dst f o d ho hd').2.1)]
   ·rw [if_neg hfi]
    rw [hls f hfi] at hf2
    have fb:=u2 f hf1 hf2
    obtain ⟨z',N',ob',hz',hb',hor'⟩:=fb.blk
    refine ⟨fb.new,fb.out,⟨z',N',ob',hz',by rw [alloc_old (lt_of_some hb')]; exact hb',hor'⟩,fun o' d ho' hd' => ?_⟩
    have hne:o.dst ≠ some d:=fun e=>by
     have h1:=(C.wr ho).1 e
     have h2:=(C.wr ho').1 hd'
     rw [h1] at h2
     exact hfi (Option.some.inj h2).symm
    rw [put_other hne]
    exact fb.tmp o' d ho' hd'
  ·simp only at he
   by_cases hfi:f = i
   ·by_cases hfi':f' = i
    ·rw [hfi,hfi']
    ·rw [if_pos hfi,if_neg hfi'] at he
     rw [hls f' hfi'] at hf2'
     have:=hlt f' hf1' hf2'
     omega
   ·rw [if_neg hfi] at he
    rw [hls f hfi] at hf2
    have h5:=hlt f hf1 hf2
    by_cases hfi':f' = i
    ·rw [if_pos hfi'] at he; omega
    ·rw [if_neg hfi'] at he
     rw [hls f' hfi'] at hf2'
     exact u3 f f' hf1 hf1' hf2 hf2' he
theorem Core.name {ls:Nat → Bool} {tm:Array Value} {w:World} {ν:Nu} (K:Core η g R V t0 a mf ν0 h0 w0 false ls tm w ν (S a).h (S a).nx) (hall:∀ f,within a mf f = true → ls f = true) :
  ∃ ν',Core η g R V t0 a mf ν0 h0 w0 true ls tm w ν' (S (a + mf)).h (S (a + mf)).nx:=by
 obtain ⟨-,Bf,u2,u3⟩:=K.un rfl
 have hw:∀ j,j < mf → within a mf (a + j) = true:=fun j hj=>by
  unfold within
  rw [Nat.ble_eq_true_of_le (Nat.le_add_right _ _),bltD,decide_eq_true (by omega)]; rfl
 have key:∀ j,j ≤ mf → ∃ ν',ν.le ν' ∧ HR η ν' (S (a + j)).h w ∧ Nx ν' (S (a + j)).nx ∧ (∀ B,Img ν' (S (a + j)).h B → (∃ i,i < j ∧ B = Bf (a + i)) ∨ Img ν (S a).h B) ∧ ∀ i,i < j → ∀ o d,R.all[a + i]? = some o → o.dst = some d → vrel η ν' (V (a + i)) (tm.getD d undef):=by
  intro j
  induction j with
  | zero=>intro _; exact ⟨ν,Nu.le_refl _,K.H,K.X,fun B h=>Or.inr h,fun i hi=>by omega⟩
  | succ j ih=>
   intro hj
   obtain ⟨ν1,l1,l2,l3,l4,l5⟩:=ih (by omega)
   have hlt:a + j < R.all.length:=by have:=C.le; omega
   have ho:R.all[a + j]? = some R.all[a + j]:=List.getElem?_eq_getElem hlt
   have fb:=u2 (a + j) (hw j (by omega)) (hall _ (hw j (by omega)))
   obtain ⟨z,N,ob,⟨o',ty',i',z1,z2,z3,z4⟩,hb,hor⟩:=fb.blk
   rcases (C.st _ _ ho).way with ⟨-, -,ty,i,z',y1,y2,y3,y4,y5,y6⟩ | ⟨hno, -⟩
   ·rw [ho] at z1; cases z1
    rw [y1] at z2; cases z2
    rw [y2] at z3; cases z3
    rw [y3] at z4; cases z4
    have hout : ¬ Img ν1 (S (a + j)).h (Bf (a + j)):=fun hi=>by
     rcases l4 _ hi with ⟨i,hi1,hi2⟩ | hi
     ·have:=u3 (a + j) (a + i) (hw j (by omega)) (hw i (by omega)) (hall _ (hw j (by omega))) (hall _ (hw i (by omega))) hi2
      omega
     ·exact fb.out hi
    obtain ⟨m1,m2,m3,m4⟩:=HR.add l2 l3 hb hor hout fb.new.2
    refine ⟨ν1.put (S (a + j)).nx ⟨Bf (a + j),0,N⟩,Nu.le_trans l1 m3, ?_, ?_,fun B hB => ?_,fun i hi o d ho' hd' => ?_⟩
    ·rw [show a + (j + 1) = a + j + 1 by omega,y5]; exact m1
    ·rw [show a + (j + 1) = a + j + 1 by omega,y6]; exact m2
    ·rw [show a + (j + 1) = a + j + 1 by omega,y5] at hB
     rcases m4 B hB with h | h
     ·exact Or.inl ⟨j,Nat.lt_succ_self _,h⟩
     ·rcases l4 B h with ⟨i,hi1,hi2⟩ | h
      ·exact Or.inl ⟨i,by omega,hi2⟩
      ·exact Or.inr h
    ·by_cases hij:i = j
     ·subst hij
      rw [fb.tmp o d ho' hd',y4,vrel]
      exact ⟨⟨Bf (a + i),0,N⟩,if_pos rfl,rfl⟩
     ·exact vrel_mono m3 _ _ (l5 i (by omega) o d ho' hd')
   ·rw [hw j (by omega)] at hno; cases hno
 obtain ⟨ν',l1,l2,l3,l4,l5⟩:=key mf (Nat.le_refl _)
 refine ⟨ν',l2,l3,⟨Nu.le_trans K.F.le l1,K.F.size,K.F.keep,fun B hB hi => ?_,K.F.oth⟩,fun d => ?_,fun _=>hall,(fun e=>by cases e)⟩
 ·rcases l4 B hi with ⟨i,hi1,rfl⟩ | hi
  ·have:=(u2 (a + i) (hw i hi1) (hall _ (hw i hi1))).new; omega
  ·exact K.F.img B hB hi
 ·obtain ⟨c1,c2⟩:=K.tms d
  refine ⟨fun k hk hl _ => ?_,fun h=>wrel_mono l1 (c2 h)⟩
  cases hwk:within a mf k
  ·exact wrel_mono l1 (c1 k hk hl (Or.inr hwk))
  ·obtain ⟨h1,h2⟩:=within_yes hwk
   obtain ⟨o,ho,hd⟩:=C.W d k hk
   have:=l5 (k - a) (by omega) o d (by rw [show a + (k - a) = k by omega]; exact ho) hd
   rw [show a + (k - a) = k by omega] at this
   exact Or.inr this
end
end
section
structure DI (η:En) (g:G) (R:RG) (n a mf:Nat) (effs:List Nat) (S:Nat → StE) (V:Nat → AV) (t0:Fm) (ν0:Nu) (h0:Tr Ob) (w0:World) (listed:Array Bool) (act:Act) (w:World):Prop where
 size:listed.size = R.all.length
 closed:∀ i o,listed.getD i false = true → R.all[i]? = some o → ∀ e ∈ o.after,Region.binds .any e = true → listed.getD e.on false = true
 asize:act.tmps.size = n
 defs:act.defers = []
 ex:∃ ν p h nx,(S R.all.length).hs[cntL effs R.all.length - p]? = some ⟨h,nx⟩ ∧ p ≤ cntL effs R.all.length ∧ (∀ e ∈ effs,(listed.getD e false = true ↔ cntL effs e < p)) ∧
  Core η g R V t0 a mf ν0 h0 w0 (Nat.blt (cntL effs a) p) (fun k=>listed.getD k false) act.tmps w ν h nx
section
variable {P : Program} {η : En} {g : G} {R : RG} {n a mf : Nat} {effs : List Nat} {S : Nat → StE} {V : Nat → AV} {t0 : Fm} {h0 : Tr Ob} {nx0 : Nat} {ν0 : Nu} {w0 : World}
theorem DI.put {listed:Array Bool} {act:Act} {w1:World} (hs:listed.size = R.all.length) (hc:∀ i o,listed.getD i false = true → R.all[i]? = some o → ∀ e ∈ o.after,Region.binds .any e = true → listed.getD e.on false = true)
  (hn:act.tmps.size = n) (hd:act.defers = []) {i:Nat} {o:Oper} (ho:R.all[i]? = some o) (hra:∀ e ∈ o.after,Region.binds .any e = true → listed.getD e.on false = true) {v:Value} {ν1:Nu} {p:Nat} {h1:Tr Ob} {nx1:Nat}
  (e1:(S R.all.length).hs[cntL effs R.all.length - p]? = some ⟨h1,nx1⟩) (e2:p ≤ cntL effs R.all.length) (e3:∀ e ∈ effs,((lsPut (fun k=>listed.getD k false) i e) = true ↔ cntL effs e < p))
  (K:Core η g R V t0 a mf ν0 h0 w0 (Nat.blt (cntL effs a) p) (lsPut (fun k=>listed.getD k false) i) (act.put o.dst v).tmps w1 ν1 h1 nx1) :
  DI η g R n a mf effs S V t0 ν0 h0 w0 (listed.setIfInBounds i true) (act.put o.dst v) w1:=by
 have hlt:i < R.all.length:=(List.getElem?_eq_some_iff.1 ho).1
 have hset:∀ k,(listed.setIfInBounds i true).getD k false = lsPut (fun k=>listed.getD k false) i k:=fun k=>by
  unfold lsPut
  by_cases hk:k = i
  ·subst hk
   rw [if_pos rfl]
   simp [Array.getD_eq_getD_getElem?,hs,hlt]
  ·rw [if_neg hk,getD_set_ne _ (Ne.symm hk)]
 refine ⟨by simpa using hs,fun k o' hk ho' e he hb => ?_,by rw [put_size]; exact hn,by rw [put_defs]; exact hd,ν1,p,h1,nx1,e1,e2,fun e he=>by rw [hset]; exact e3 e he, ?_⟩
 ·rw [hset] at hk ⊢
  unfold lsPut at hk ⊢
  by_cases hki:k = i
  ·subst hki
   rw [ho] at ho'; cases ho'
   split
   ·rfl
   ·exact hra e he hb
  ·rw [if_neg hki] at hk
   split
   ·rfl
   ·exact hc k o' hk ho' e he hb
 ·have:(fun k=>(listed.setIfInBounds i true).getD k false) = lsPut (fun k=>listed.getD k false) i:=by funext k; exact hset k
  rw [this]; exact K
theorem quiet_wp (T:TabE P g.tt g.ff) (Se:EnvOk P g η) {o:Oper} {Vv:Fm → Tr Ob → Nat → AV} (hq:QOk g o.op Vv) {t:Fm} {h:Tr Ob} {nx:Nat} (hne:Vv t h nx ≠ .vno) {ν:Nu} {w:World} {act:Act} (H:HR η ν h w) (X:Nx ν nx) (A:TRf η ν t n act)
  {next:Act → World → Prop} {Q:Exit → Act → World → Prop} (hn:∀ v w1 ν1,vrel η ν1 (Vv t h nx) v → HR η ν1 h w1 → Nx ν1 nx → Fr ν h w ν1 h w1 → next (act.put o.dst v) w1):o.wp P act w next Q:=by
 obtain ⟨x,h1,h2⟩:=hq.2 t h nx hne
 refine good_wp (step1_plain (P:=P) T Se H X A h1) fun v w1 ν1 p H1 X1 F1=>hn v w1 ν1 ?_ H1 X1 F1
 rcases h2 with h2 | h2
 ·rw [h2]; exact p
 ·rw [h2]; exact toN_rel p
end
section
variable {P : Program} {η : En} {g : G} {R : RG} {n a mf : Nat} {effs : List Nat} {S : Nat → StE} {V : Nat → AV} {t0 : Fm} {h0 : Tr Ob} {nx0 : Nat} (C : DC P η g R n a mf effs S V t0 h0 nx0)
  {ν0 : Nu} {w0 : World}
include C
theorem DC.TRm {b:Bool} {listed:Array Bool} {act:Act} {ν:Nu} (hs:listed.size = R.all.length) (hc:∀ i o,listed.getD i false = true → R.all[i]? = some o → ∀ e ∈ o.after,Region.binds .any e = true → listed.getD e.on false = true)
  (hn:act.tmps.size = n) (hd:act.defers = []) (K:Tm η ν R V t0 a mf b (fun k=>listed.getD k false) act.tmps) {i:Nat} {o:Oper} (ho:R.all[i]? = some o) (hli:listed.getD i false = false) (hra:∀ m,inM (ancAt R.A i) m = true → listed.getD m false = true)
  (hb:b = true ∨ i < a):TRf η ν (mask (mens R.all o) (S i).t) n act:=by
 have hlt:i < R.all.length:=(List.getElem?_eq_some_iff.1 ho).1
 refine TR_mask hn hd fun d hm => ?_
 have hok:=C.gk.men i o d ho hm
 obtain ⟨f1,f2⟩:=C.frame (k:=i) (by omega) d
 obtain ⟨c1,c2⟩:=K d
 unfold menOk at hok
 cases hW:R.W.get d with
 | none=>
  rw [f2 fun w hw=>by rw [hW] at hw; cases hw]
  exact c2 fun w hw=>by rw [hW] at hw; cases hw
 | some w=>
  rw [hW] at hok
  simp only at hok
  split at hok
  ·cases hok
  ·split at hok
   ·cases hok
   ·rw [Bool.and_eq_true] at hok
    have hok2:=hok.2
    split at hok2
    ·rename_i hwi
     have hwi:=blt_lt hwi
     rw [f1 w hW hwi]
     refine c1 w hW (hra w hok2) ?_
     rcases hb with hb | hb
     ·exact Or.inl hb
     ·exact Or.inr (notW (Or.inl (by omega)))
    ·rename_i hwi
     simp only [Bool.or_eq_true] at hok2
     have hge:i ≤ w:=by
      rcases Nat.lt_or_ge w i with h | h
      ·rw [bltD,decide_eq_true h] at hwi; cases hwi
      ·exact h
     rw [f2 fun w' hw'=>by rw [hW] at hw'; cases hw'; exact hge]
     refine c2 fun w' hw' => ?_
     rw [hW] at hw'; cases hw'
     show listed.getD w false = false
     rcases hok2 with h2 | h2
     ·rw [Nat.eq_of_beq_eq_true h2]; exact hli
     ·cases hlw:listed.getD w false
      ·rfl
      ·rw [anc_mem C.gk hs hc (w + 1) w (Nat.lt_succ_self _) hlw i h2] at hli; cases hli
theorem DC.step (T:TabE P g.tt g.ff) (Se:EnvOk P g η) {ops:Array Oper} (hall:R.all = ops.toList) {Q:Exit → Act → World → Prop} {listed:Array Bool} {i:Nat} {act:Act} {w:World}
  (I:DI η g R n a mf effs S V t0 ν0 h0 w0 listed act w) (hi:i ∈ Region.ready .any ops listed):wpOp P ops Q i (DI η g R n a mf effs S V t0 ν0 h0 w0 (listed.setIfInBounds i true)) act w:=by
 obtain ⟨hl,o,ho,hra⟩:=mem_ready.1 hi
 have hoR:R.all[i]? = some o:=by rw [hall,Array.getElem?_toList]; exact ho
 have hlt:i < R.all.length:=(List.getElem?_eq_some_iff.1 hoR).1
 have hli:listed.getD i false = false:=by
  have:=I.size
  have h2:i < listed.size:=by omega
  rw [Array.getD_eq_getD_getElem?,Array.getElem?_eq_getElem h2] at hl ⊢
  exact hl
 have hanc:∀ k,inM (ancAt R.A i) k = true → listed.getD k false = true:=fun k hk=>by
  obtain ⟨e,he,hb,h1⟩:=C.gk.anc i o hoR k hk
  have h2:=hra e he hb
  rcases h1 with rfl | h1
  ·exact h2
  ·exact anc_mem C.gk I.size I.closed (e.on + 1) e.on (Nat.lt_succ_self _) h2 k h1
 obtain ⟨ν,p,h,nx,e1,e2,e3,K⟩:=I.ex
 have opk:=C.op i o hoR
 have sorted:=C.sorted
 have hm:i ∈ effs ↔ within a mf i = false ∧ isE (cop g o) = true:=by
  rw [C.mem]
  constructor
  ·rintro ⟨o',h1,h2⟩; rw [hoR] at h1; cases h1; exact h2
  ·intro h; exact ⟨o,hoR,h⟩
 have effAt:i ∈ effs → allIn (ancAt R.A i) (belowL effs i) = true → p = cntL effs i:=fun hie hal=>by
  have h1:p ≤ cntL effs i:=by
   rcases Nat.lt_or_ge (cntL effs i) p with h | h
   ·rw [(e3 i hie).2 h] at hli; cases hli
   ·exact h
  rcases Nat.lt_or_ge p (cntL effs i) with h2 | h2
  ·exfalso
   have h3:cntL effs i ≤ effs.length:=by
    have:=cntL_mono sorted (j:=i) (k:=R.all.length) (by omega)
    rw [cntL_all (k:=R.all.length) fun e he=>by obtain ⟨o',h4, -⟩:=C.mem.1 he; exact (List.getElem?_eq_some_iff.1 h4).1] at this
    exact this
   have h4:p < effs.length:=by omega
   have h5:effs[p]? = some effs[p]:=List.getElem?_eq_getElem h4
   have h6:=cntL_at sorted h5
   have h7:effs[p] ∈ effs:=List.getElem_mem h4
   have h8:effs[p] < i:=by
    rcases Nat.lt_or_ge effs[p] i with h | h
    ·exact h
    ·have:=cntL_mono sorted h
     omega
   have h9:=hanc _ (allIn_mem hal _ (belowL_mem h7 h8))
   have:=(e3 _ h7).1 h9
   omega
  ·omega
 have keep3:i ∉ effs → ∀ e ∈ effs,(lsPut (fun k=>listed.getD k false) i e = true ↔ cntL effs e < p):=fun hne e he=>by
  have:e ≠ i:=fun h=>by subst h; exact hne he
  show (if e = i then true else listed.getD e false) = true ↔ _
  rw [if_neg this]; exact e3 e he
 have next3:i ∈ effs → p = cntL effs i → ∀ e ∈ effs,(lsPut (fun k=>listed.getD k false) i e = true ↔ cntL effs e < p + 1):=fun hie hp e he=>by
  show (if e = i then true else listed.getD e false) = true ↔ _
  by_cases hei:e = i
  ·subst hei
   rw [if_pos rfl]
   simp [hp]
  ·rw [if_neg hei,e3 e he]
   have:cntL effs e ≠ p:=fun h=>by
    rcases Nat.lt_trichotomy e i with h1 | h1 | h1
    ·have:=cntL_lt sorted he h1; omega
    ·exact hei h1
    ·have:=cntL_lt sorted hie h1; omega
   omega
 have cnt1:i ∈ effs → p = cntL effs i → p + 1 ≤ cntL effs R.all.length:=fun hie hp=>by
  have:=cntL_lt sorted hie hlt
  omega
 have stage1:i ∈ effs → p = cntL effs i → (S R.all.length).hs[cntL effs R.all.length - (p + 1)]? = some ⟨(S (i + 1)).h,(S (i + 1)).nx⟩:=fun hie hp=>by
  have h1:=cntL_succ sorted (k:=i)
  rw [if_pos hie] at h1
  rw [C.stage (k:=i + 1) (by omega) (by omega),((C.hs hoR).1 hie),h1,hp]
  simp
 unfold wpOp
 rw [ho]
 simp only
 unfold opOk at opk
 rcases (C.st i o hoR).way with ⟨hw, -,ty,ti,z,y1,y2,y3,y4,y5,y6⟩ | ⟨hw,W⟩
 ·
  rw [hw] at opk
  simp only [Bool.and_eq_true] at opk
  have hg:o.guard = none:=by
   have:=opk.1
   unfold isAl at this
   split at this
   ·split at this
    ·assumption
    ·cases this
   ·cases this
  have hw':Region.wanted o (yielded ops act.tmps) = true:=by unfold Region.wanted; rw [hg]
  simp only [hw',if_true]
  left
  have hb:Nat.blt (cntL effs a) p = false:=by
   cases hb:Nat.blt (cntL effs a) p
   ·rfl
   ·have:=K.nm hb i hw
    simp only [hli] at this; cases this
  rw [hb] at K
  obtain ⟨v,w1,r1,r2⟩:=Core.free C T I.asize K hoR hw y1 y2 y3
  unfold Oper.wp
  rw [r1]
  have hne:i ∉ effs:=fun h=>by rw [(hm.1 h).1] at hw; cases hw
  exact DI.put I.size I.closed I.asize I.defs hoR hra e1 e2 (keep3 hne) (by rw [hb]; exact r2)
 ·rw [hw] at opk
  simp only at opk
  have hia:i < a ∨ a + mf ≤ i:=within_no hw
  by_cases hie:i ∈ effs
  ·
   have hE:=(hm.1 hie).2
   rw [hE] at opk
   simp only [Bool.and_eq_true] at opk
   have hp:=effAt hie opk.1
   have st:∃ ν' b',(b' = true ∨ i < a) ∧ Core η g R V t0 a mf ν0 h0 w0 b' (fun k=>listed.getD k false) act.tmps w ν' (S i).h (S i).nx ∧ b' = Nat.blt (cntL effs a) (p + 1):=by
    rcases hia with hia | hia
    ·have hc:=cntL_mono sorted (j:=i + 1) (k:=a) (by omega)
     rw [cntL_succ sorted,if_pos hie] at hc
     have hb:Nat.blt (cntL effs a) p = false:=by rw [bltD,decide_eq_false (by omega)]
     have hb1:Nat.blt (cntL effs a) (p + 1) = false:=by rw [bltD,decide_eq_false (by omega)]
     have he:=C.stage (k:=i) (p:=p) (by omega) (by omega)
     rw [e1,hp,Nat.sub_self,C.heapA (by omega)] at he
     cases he
     rw [hb] at K
     exact ⟨ν,false,Or.inr hia,K,hb1.symm⟩
    ·have hfr:allIn (ancAt R.A i) (rangeL a mf) = true:=by
      have:=opk.2
      rw [bltD,decide_eq_false (by omega)] at this
      exact this
     have hfl:∀ f,within a mf f = true → listed.getD f false = true:=fun f hf=>by
      obtain ⟨f1,f2⟩:=within_yes hf
      exact hanc f (allIn_mem hfr f (rangeL_mem f1 f2))
     have hc:=cntL_mono sorted (j:=a) (k:=i) (by omega)
     have hb1:Nat.blt (cntL effs a) (p + 1) = true:=by rw [bltD,decide_eq_true (by omega)]
     have hB:=C.heapB (d:=i - (a + mf)) (by omega)
     rw [show a + mf + (i - (a + mf)) = i by omega] at hB
     rcases hB with ⟨b1,b2,b3⟩ | ⟨b1,b2⟩
     ·have hb:Nat.blt (cntL effs a) p = false:=by rw [bltD,decide_eq_false (by omega)]
      rw [hb] at K
      have hle:=C.le
      have he:=C.stage (k:=a) (p:=p) (by omega) (by omega)
      rw [e1,show cntL effs a - p = 0 by omega,C.heapA (Nat.le_refl _)] at he
      cases he
      obtain ⟨ν',K'⟩:=Core.name C K hfl
      rw [b2,b3]
      exact ⟨ν',true,Or.inl rfl,K',hb1.symm⟩
     ·have hb:Nat.blt (cntL effs a) p = true:=by rw [bltD,decide_eq_true (by omega)]
      rw [hb] at K
      have he:=C.stage (k:=i) (p:=p) (by omega) (by omega)
      rw [e1,hp,Nat.sub_self,b2] at he
      cases he
      exact ⟨ν,true,Or.inl rfl,K,hb1.symm⟩
   obtain ⟨ν',b',s1,s2,s3⟩:=st
   have A:=C.TRm I.size I.closed I.asize I.defs s2.tms hoR hli hanc s1
   rcases W with ⟨hwa,hv,k1,k2,k3⟩ | ⟨hwa,⟨Vv,hc, -⟩ | ⟨F,hc,hF,k3⟩⟩
   ·have hw':Region.wanted o (yielded ops act.tmps) = false:=wantA_rel A (by rw [← hall]; exact hwa)
    simp only [hw',Bool.false_eq_true,if_false]
    have K1:=Core.put C I.asize s2 hoR hw s1 (v:=undef) (fun _ _=>by rw [hv]; exact Or.inr (by rw [vrel]; exact ⟨[],rfl,vrels_nil.2 rfl⟩)) s2.H s2.X (Fr.refl _ _ _)
    rw [← k1,← k2] at K1
    rw [s3] at K1
    exact DI.put I.size I.closed I.asize I.defs hoR hra (stage1 hie hp) (cnt1 hie hp) (next3 hie hp) K1
   ·rw [hc] at hE; cases hE
   ·have hw':Region.wanted o (yielded ops act.tmps) = true:=wantA_rel A (by rw [← hall]; exact hwa)
    simp only [hw',if_true]
    left
    refine hF ν' w act n s2.H s2.X A _ Q fun v w1 ν1 pv H1 X1 F1 => ?_
    have K1:=Core.put C I.asize s2 hoR hw s1 (fun _ _=>Or.inr pv) H1 X1 F1
    rw [s3] at K1
    exact DI.put I.size I.closed I.asize I.defs hoR hra (stage1 hie hp) (cnt1 hie hp) (next3 hie hp) K1
  ·
   have hE:isE (cop g o) = false:=by
    cases hE:isE (cop g o)
    ·rfl
    ·exact absurd (hm.2 ⟨hw,hE⟩) hie
   rw [hE] at opk
   simp only at opk
   have may:mayAt R i p effs 0 = true:=by
    rw [mayAt_iff]
    intro q e hq
    have hqe:=cntL_at sorted hq
    have hee:e ∈ effs:=List.mem_of_getElem? hq
    rw [Nat.zero_add]
    refine ⟨fun hlt' => ?_,fun hge => ?_⟩
    ·cases hin:inM (ancAt R.A e) i
     ·rfl
     ·have h1:=(e3 e hee).2 (by omega)
      rw [anc_mem C.gk I.size I.closed (e + 1) e (Nat.lt_succ_self _) h1 i hin] at hli
      cases hli
    ·cases hin:inM (ancAt R.A i) e
     ·rfl
     ·have h1:=(e3 e hee).1 (hanc e hin)
      omega
   have hlen:cntL effs R.all.length = effs.length:=cntL_all fun e he=>by obtain ⟨o',h4, -⟩:=C.mem.1 he; exact (List.getElem?_eq_some_iff.1 h4).1
   have inNeeds:p ≠ cntL effs i → p ∈ needs R effs i:=fun hne=>by
    exact needs_mem hne may (by omega)
   have hb:Nat.blt (cntL effs a) p = true ∨ i < a:=by
    rcases hia with hia | hia
    ·exact Or.inr hia
    ·split at opk
     ·rename_i hnil
      have hpc:p = cntL effs i:=by
       by_cases hne:p = cntL effs i
       ·exact hne
       ·have:=inNeeds hne
        rw [hnil] at this; cases this
      rw [bltD i a,decide_eq_false (by omega)] at opk
      simp only [Bool.and_eq_true] at opk
      have:=blt_lt opk.2
      exact Or.inl (by rw [bltD,decide_eq_true (by omega)])
     ·have:=blt_lt opk
      omega
   have A:=C.TRm I.size I.closed I.asize I.defs K.tms hoR hli hanc hb
   rcases W with ⟨hwa,hv, -⟩ | ⟨hwa,⟨Vv,hc,hval,hne,k1,k2, -⟩ | ⟨F,hc, -⟩⟩
   ·have hw':Region.wanted o (yielded ops act.tmps) = false:=wantA_rel A (by rw [← hall]; exact hwa)
    simp only [hw',Bool.false_eq_true,if_false]
    have K1:=Core.put C I.asize K hoR hw hb (v:=undef) (fun _ _=>by rw [hv]; exact Or.inr (by rw [vrel]; exact ⟨[],rfl,vrels_nil.2 rfl⟩)) K.H K.X (Fr.refl _ _ _)
    exact DI.put I.size I.closed I.asize I.defs hoR hra e1 e2 (keep3 hie) K1
   ·have hw':Region.wanted o (yielded ops act.tmps) = true:=wantA_rel A (by rw [← hall]; exact hwa)
    simp only [hw',if_true]
    left
    have ok:=cop_ok T Se (P:=P) (η:=η) o
    rw [hc] at ok
    have val:Vv (mask (mens R.all o) (S i).t) h nx ≠ .vno ∧ ∀ v ν1,vrel η ν1 (Vv (mask (mens R.all o) (S i).t) h nx) v → ∀ d,o.dst = some d → wrel η ν1 (V i) v:=by
     by_cases hpc:p = cntL effs i
     ·have hcur:h = (S i).h ∧ nx = (S i).nx:=by
       rcases hia with hia | hia
       ·have he:=C.stage (k:=i) (p:=p) (by omega) (by omega)
        rw [e1,hpc,Nat.sub_self,C.heapA (by omega)] at he
        cases he; exact ⟨rfl,rfl⟩
       ·have hB:=C.heapB (d:=i - (a + mf)) (by omega)
        rw [show a + mf + (i - (a + mf)) = i by omega] at hB
        rcases hB with ⟨b1, -⟩ | ⟨b1,b2⟩
        ·rcases hb with hb | hb
         ·have:=blt_lt hb; omega
         ·omega
        ·have he:=C.stage (k:=i) (p:=p) (by omega) (by omega)
         rw [e1,hpc,Nat.sub_self,b2] at he
         cases he; exact ⟨rfl,rfl⟩
      rw [hcur.1,hcur.2,hval]
      exact ⟨hne,fun v ν1 hv _ _=>Or.inr hv⟩
     ·have hin:=inNeeds hpc
      have lk:=C.lk i o hoR
      unfold lookO at lk
      split at opk
      ·rename_i hnil; rw [hnil] at hin; cases hin
      ·rename_i p0 r0 hcons
       rw [hcons,hc] at lk
       simp only at lk
       have hmk:maskU R i t0 (S R.all.length).t (mens R.all o) = mask (mens R.all o) (S i).t:=maskU_eq fun d hd=>by
        obtain ⟨g1,g2⟩:=C.frame (k:=R.all.length) (Nat.le_refl _) d
        obtain ⟨f1,f2⟩:=C.frame (k:=i) (by omega) d
        unfold pickU
        cases hW:R.W.get d with
        | none=>rw [f2 (fun w hw=>by rw [hW] at hw; cases hw)]
        | some w=>
         simp only
         rw [bltD]
         by_cases hwi:w < i
         ·rw [decide_eq_true hwi,f1 w hW hwi]
          exact g1 w hW (by omega)
         ·rw [decide_eq_false hwi,f2 (fun w' hw'=>by rw [hW] at hw'; cases hw'; omega)]
       rw [hmk,hwa] at lk
       simp only at lk
       have each:∀ l,looks Vv (mask (mens R.all o) (S i).t) (dstV (S R.all.length).t o.dst) (S R.all.length).hs (lenN effs 0) l = true → p ∈ l → look1 Vv (mask (mens R.all o) (S i).t) (dstV (S R.all.length).t o.dst) (S R.all.length).hs (lenN effs 0 - p) = true:=by
        intro l
        induction l with
        | nil=>intro _ h; cases h
        | cons x r ih=>
         intro h hx
         rw [looks,Bool.and_eq_true] at h
         rcases List.mem_cons.1 hx with rfl | hx
         ·exact h.1
         ·exact ih h.2 hx
       have l1:=each _ lk (by rw [← hcons]; exact hin)
       unfold look1 at l1
       rw [nthS_eq,lenN_eq,Nat.add_zero,← hlen,e1] at l1
       simp only at l1
       unfold sameV dstV at l1
       cases hd:o.dst with
       | none=>
        rw [hd] at l1
        exact ⟨isKn_eq l1,fun v ν1 hv d hd'=>by cases hd'⟩
       | some d=>
        rw [hd] at l1
        simp only [Bool.and_eq_true] at l1
        refine ⟨isKn_eq l1.1,fun v ν1 hv _ _=>Or.inr ?_⟩
        have hW:=(C.wr hoR).1 hd
        obtain ⟨g1, -⟩:=C.frame (k:=R.all.length) (Nat.le_refl _) d
        rw [← g1 i hW hlt,← avEq_eq _ _ l1.2]
        exact hv
    refine quiet_wp T Se ok val.1 K.H K.X A fun v w1 ν1 pv H1 X1 F1 => ?_
    have K1:=Core.put C I.asize K hoR hw hb (val.2 v ν1 pv) H1 X1 F1
    exact DI.put I.size I.closed I.asize I.defs hoR hra e1 e2 (keep3 hie) K1
   ·rw [hc] at hE; cases hE
end
end
section
theorem lenO_eq:∀ l:List Oper,lenO l = l.length
 | []=>rfl
 | _ :: r=>by rw [lenO,lenO_eq r]; rfl
theorem hend_eq {g:G} {R:RG} {effs:List Nat} {l:List (Nat × Oper)} {J:JJ} {u t:Fm} {h:Tr Ob} {nx:Nat} {hs:List Stg} {x:Xt} {t':Fm} {h':Tr Ob} {nx':Nat} (hr:(hend g R effs l).f J u t h nx hs = .c x t' h' nx') :
  lookL g R effs u t hs l = true ∧ x = .nrm ∧ t' = t ∧ h' = h ∧ nx' = nx:=by
 cases l with
 | nil=>cases hr; exact ⟨rfl,rfl,rfl,rfl,rfl⟩
 | cons y r=>
  unfold hend at hr
  simp only at hr
  rw [KB.eta (clookL g R effs (y :: r))] at hr
  have hr' : Bool.rec (motive := fun _ => RJ) (.er 112 "") (.c .nrm t h nx) ((clookL g R effs (y :: r)).f u t hs) = .c x t' h' nx' := hr
  cases hl:(clookL g R effs (y :: r)).f u t hs
  ·rw [hl] at hr'; cases hr'
  ·rw [hl] at hr'; cases hr'; exact ⟨clookL_eq hl,rfl,rfl,rfl,rfl⟩
theorem all_listed {R:RG} {n:Nat} (G:RGok R n) {ops:Array Oper} (hall:R.all = ops.toList) {listed:Array Bool} (hs:listed.size = R.all.length) (hrd:Region.ready .any ops listed = []):∀ k i,i < k → i < R.all.length → listed.getD i false = true
 | 0,i,hi,_=>by omega
 | k + 1,i,hi,hlt=>by
  cases hl:listed.getD i false
  ·exfalso
   obtain ⟨o1,ho⟩:∃ o1,R.all[i]? = some o1:=⟨_,List.getElem?_eq_getElem hlt⟩
   have hmem:i ∈ Region.ready .any ops listed:=by
    refine mem_ready.2 ⟨?_,o1, ?_,fun e he hb => ?_⟩
    ·have h2:i < listed.size:=by rw [hs]; exact hlt
     rw [Array.getD_eq_getD_getElem?,Array.getElem?_eq_getElem h2] at hl ⊢
     exact hl
    ·rw [← Array.getElem?_toList,← hall]; exact ho
    ·have:=G.lt i _ ho e he hb
     exact all_listed G hall hs hrd k e.on (by omega) (by omega)
   rw [hrd] at hmem; cases hmem
  ·rfl
theorem cdr_ok {P:Program} (hmix:P.follows .mixedOrders = true) {g:G} (T:TabE P g.tt g.ff) {η:En} (Se:EnvOk P g η) (n id:Nat) (ops:Array Oper):CodeOk P η n (.region id ops true) (cdr g n ops.toList).f:=by
 intro J D t h nx x t' h' nx' hr ν w act H X A
 unfold cdr cdrG cdrA at hr
 generalize hR:(⟨ops.toList,mkAnc ops.toList 0 .e,mkWr ops.toList 0 .e⟩:RG) = R at hr
 have hall:R.all = ops.toList:=by rw [← hR]
 have hWr:R.W = mkWr R.all 0 .e:=by rw [← hR]
 generalize freeAt g R R.all 0 false = a at hr
 generalize freeN R (dropL R.all a) a = mf at hr
 generalize hef:effsG g a mf R.all 0 = effs at hr
 unfold cdrR at hr
 split at hr
 ·cases hr
 ·rename_i hchk
  simp only [Bool.and_eq_true] at hchk
  obtain ⟨c1,c2,c3,c4⟩:=hchk
  have G:=statsOk_ok c1
  rw [KHr.eta (hops g n R.all a mf (hend g R effs (lookers R effs R.all 0)) R.all 0)] at hr
  have hr1:(hops g n R.all a mf (hend g R effs (lookers R effs R.all 0)) R.all 0).f J t t h nx [⟨h,nx⟩] = .c x t' h' nx':=hr
  obtain ⟨sf,tr,he⟩:=hops_trace (s:=⟨t,h,nx,[⟨h,nx⟩]⟩) (fun o=>cop_ok T Se (P:=P) (η:=η) o) D hr1
  obtain ⟨hlk,rfl,rfl,rfl,rfl⟩:=hend_eq he
  obtain ⟨S,V,s1,s2,s3⟩:=tr.fn
  rw [Nat.zero_add] at s2
  have C:DC P η g R n a mf effs S V t h nx:=by
   refine ⟨G,fun d k hk => ?_,by have:=Nat.le_of_ble_eq_true c3; rwa [lenO_eq] at this, ?_,hef.symm,fun k o ho => ?_,fun k o ho => ?_,fun k o ho => ?_,s1⟩
   ·rw [hWr] at hk
    rcases mkWr_get hk with hk | ⟨j,o,h1,h2,h3⟩
    ·rw [Tr.get_e] at hk; cases hk
    ·have:k = j:=by omega
     subst this
     exact ⟨o,h1,h2⟩
   ·rw [Bool.or_eq_true] at c4
    rcases c4 with c4 | c4
    ·exact Or.inl (Nat.eq_of_beq_eq_true c4)
    ·have:=blt_lt c4
     rw [lenN_eq] at this
     exact Or.inr (by omega)
   ·have:=s3 k o ho
    rw [Nat.zero_add] at this
    exact this
   ·have:=opsOk_at c2 ho
    rw [Nat.zero_add] at this
    exact this
   ·rw [s2]
    have:=lookL_at hlk ho
    rw [Nat.zero_add] at this
    exact this
  have hlen:cntL effs R.all.length = effs.length:=cntL_all fun e he=>by obtain ⟨o',h4, -⟩:=C.mem.1 he; exact (List.getElem?_eq_some_iff.1 h4).1
  have hsz:R.all.length = ops.size:=by rw [hall]; simp
  have hf0:∀ k,(Array.replicate ops.size false).getD k false = false:=fun k=>by
   rw [Array.getD_eq_getD_getElem?]
   rcases Nat.lt_or_ge k ops.size with h1 | h1
   ·simp [h1]
   ·rw [Array.getElem?_eq_none (by simpa using h1)]; rfl
  refine wp_region_any hmix (wpAny_inv (I:=DI η g R n a mf effs S V t ν h w) (fun listed i a1 w1 hI hi=>C.step T Se hall hI hi) ?_ ops.size _ act _ ?_ ?_)
  ·intro listed a1 w1 I hrd
   have every:=all_listed G hall I.size hrd R.all.length
   obtain ⟨ν1,p,h1,nx1,e1,e2,e3,K⟩:=I.ex
   have hp:p = cntL effs R.all.length:=by
    rcases Nat.lt_or_ge p (cntL effs R.all.length) with hlt | hge
    ·exfalso
     rw [hlen] at hlt
     have h5:effs[p]? = some effs[p]:=List.getElem?_eq_getElem hlt
     have h6:=cntL_at C.sorted h5
     have h7:effs[p] ∈ effs:=List.getElem_mem hlt
     obtain ⟨o',h8, -⟩:=C.mem.1 h7
     have h9:=(List.getElem?_eq_some_iff.1 h8).1
     have:=(e3 _ h7).1 (every _ h9 h9)
     omega
    ·omega
   have hcur:h1 = sf.h ∧ nx1 = sf.nx:=by
    have hle:=C.le
    have hB:=C.heapB (d:=R.all.length - (a + mf)) (by omega)
    rw [show a + mf + (R.all.length - (a + mf)) = R.all.length by omega,s2] at hB
    rw [s2,hp] at e1
    rcases hB with ⟨b1,b2,b3⟩ | ⟨b1,b2⟩
    ·have hmf:mf = 0:=by
      rcases C.fr with h0 | h0
      ·exact h0
      ·omega
     subst hmf
     have hst:=C.stage (k:=a) (p:=cntL effs a) (by omega) (Nat.le_refl _)
     rw [s2,b1,Nat.sub_self,C.heapA (Nat.le_refl _)] at hst
     rw [Nat.sub_self,hst] at e1
     cases e1
     exact ⟨b2.symm,b3.symm⟩
    ·rw [Nat.sub_self,b2] at e1
     cases e1; exact ⟨rfl,rfl⟩
   obtain ⟨rfl,rfl⟩:=hcur
   refine ⟨rfl,ν1,⟨I.asize,fun d => ?_,I.defs⟩,K.H,K.X,K.F⟩
   obtain ⟨f1,f2⟩:=C.frame (Nat.le_refl R.all.length) d
   rw [s2] at f1 f2
   obtain ⟨c1,c2⟩:=K.tms d
   cases hW:R.W.get d with
   | none=>
    rw [f2 (fun k hk=>by rw [hW] at hk; cases hk)]
    exact c2 fun k hk=>by rw [hW] at hk; cases hk
   | some k=>
    obtain ⟨o,ho, -⟩:=C.W d k hW
    have hlt:=(List.getElem?_eq_some_iff.1 ho).1
    rw [f1 k hW hlt]
    refine c1 k hW (every k hlt hlt) ?_
    rcases C.fr with h0 | h0
    ·refine Or.inr (notW ?_)
     omega
    ·exact Or.inl (by rw [bltD,decide_eq_true (by omega)])
  ·refine ⟨by simp [hsz],(fun i o hi ho e he hb=>by rw [hf0] at hi; cases hi),A.size,A.none,ν,0,h,nx, ?_,Nat.zero_le _,fun e he => ?_, ?_⟩
   ·have:=C.stage (k:=0) (p:=0) (Nat.zero_le _) (Nat.zero_le _)
    rw [this,s1]
    have hc0:cntL effs 0 = 0:=by
     have:∀ l:List Nat,cntL l 0 = 0:=fun l=>by
      induction l with
      | nil=>rfl
      | cons e r ih=>rw [cntL,bltD,decide_eq_false (Nat.not_lt_zero e)]; exact ih
     exact this effs
    rw [hc0]; rfl
   ·rw [hf0]
    exact ⟨fun h=>(by cases h),fun h=>absurd h (Nat.not_lt_zero _)⟩
   ·have hb:Nat.blt (cntL effs a) 0 = false:=by rw [bltD,decide_eq_false (Nat.not_lt_zero _)]
    rw [hb]
    refine ⟨⟨H.at_,H.inj,⟨H.base.low,H.base.old,H.base.far⟩⟩,X,⟨Nu.le_refl _,Nat.le_refl _,fun _ _ _=>rfl,fun _ _ i=>i,⟨rfl,rfl,rfl⟩⟩,fun d=>⟨fun k _ hl => ?_,fun _=>A.rel d⟩,fun e=>(by cases e),fun _=>⟨fun k _=>hf0 k,fun _=>0,fun f _ hl => ?_,fun f f' _ _ hl => ?_⟩⟩
    ·have hl':(Array.replicate ops.size false).getD k false = true:=hl
     rw [hf0] at hl'; cases hl'
    ·have hl':(Array.replicate ops.size false).getD f false = true:=hl
     rw [hf0] at hl'; cases hl'
    ·have hl':(Array.replicate ops.size false).getD f false = true:=hl
     rw [hf0] at hl'; cases hl'
  ·unfold unl
   exact Nat.le_trans List.countP_le_length (by simp)
noncomputable def go (g:G) (K:Kn) (fuel:Nat):JJ:=run g K (cdr g) fuel
theorem go_ok {P:Program} (hmix:P.follows .mixedOrders = true) {g:G} (T:TabE P g.tt g.ff) {η:En} (S:EnvOk P g η) {K:Kn} (KO:KnOk P η K) (fuel:Nat):SndJ P η (go g K fuel):=
 run_ok T S KO (fun n id ops=>cdr_ok hmix T S n id ops) fuel
end
section
inductive SK (α:Type) where
 | mk (p:N16 α → (α → RJ) → RJ) (u:N16 α → (α → (α → RJ) → RJ) → (N16 α → RJ) → RJ)
noncomputable def SK.p {α:Type} (s:SK α):N16 α → (α → RJ) → RJ:=SK.rec (motive:=fun _=>N16 α → (α → RJ) → RJ) (fun p _=>p) s
noncomputable def SK.u {α:Type} (s:SK α):N16 α → (α → (α → RJ) → RJ) → (N16 α → RJ) → RJ:=SK.rec (motive:=fun _=>N16 α → (α → (α → RJ) → RJ) → (N16 α → RJ) → RJ) (fun _ u=>u) s
theorem SK.eta {α:Type} (s:SK α):s = SK.mk s.p s.u:=by cases s; rfl
noncomputable def sk_0 (α:Type):SK α:=SK.mk (fun n k=>N16.rec (motive:=fun _=>(α → RJ) → RJ) (fun c0 c1 c2 c3 c4 c5 c6 c7 c8 c9 c10 c11 c12 c13 c14 c15 k=>k c0) n k) (fun n f k=>N16.rec (motive:=fun _=>(α → (α → RJ) → RJ) → (N16 α → RJ) → RJ) (fun c0 c1 c2 c3 c4 c5 c6 c7 c8 c9 c10 c11 c12 c13 c14 c15 f k=>f c0 (fun x=>k (N16.mk x c1 c2 c3 c4 c5 c6 c7 c8 c9 c10 c11 c12 c13 c14 c15))) n f k)
noncomputable def sk_1 (α:Type):SK α:=SK.mk (fun n k=>N16.rec (motive:=fun _=>(α → RJ) → RJ) (fun c0 c1 c2 c3 c4 c5 c6 c7 c8 c9 c10 c11 c12 c13 c14 c15 k=>k c1) n k) (fun n f k=>N16.rec (motive:=fun _=>(α → (α → RJ) → RJ) → (N16 α → RJ) → RJ) (fun c0 c1 c2 c3 c4 c5 c6 c7 c8 c9 c10 c11 c12 c13 c14 c15 f k=>f c1 (fun x=>k (N16.mk c0 x c2 c3 c4 c5 c6 c7 c8 c9 c10 c11 c12 c13 c14 c15))) n f k)
noncomputable def sk_2 (α:Type):SK α:=SK.mk (fun n k=>N16.rec (motive:=fun _=>(α → RJ) → RJ) (fun c0 c1 c2 c3 c4 c5 c6 c7 c8 c9 c10 c11 c12 c13 c14 c15 k=>k c2) n k) (fun n f k=>N16.rec (motive:=fun _=>(α → (α → RJ) → RJ) → (N16 α → RJ) → RJ) (fun c0 c1 c2 c3 c4 c5 c6 c7 c8 c9 c10 c11 c12 c13 c14 c15 f k=>f c2 (fun x=>k (N16.mk c0 c1 x c3 c4 c5 c6 c7 c8 c9 c10 c11 c12 c13 c14 c15))) n f k)
noncomputable def sk_3 (α:Type):SK α:=SK.mk (fun n k=>N16.rec (motive:=fun _=>(α → RJ) → RJ) (fun c0 c1 c2 c3 c4 c5 c6 c7 c8 c9 c10 c11 c12 c13 c14 c15 k=>k c3) n k) (fun n f k=>N16.rec (motive:=fun _=>(α → (α → RJ) → RJ) → (N16 α → RJ) → RJ) (fun c0 c1 c2 c3 c4 c5 c6 c7 c8 c9 c10 c11 c12 c13 c14 c15 f k=>f c3 (fun x=>k (N16.mk c0 c1 c2 x c4 c5 c6 c7 c8 c9 c10 c11 c12 c13 c14 c15))) n f k)
noncomputable def sk_4 (α:Type):SK α:=SK.mk (fun n k=>N16.rec (motive:=fun _=>(α → RJ) → RJ) (fun c0 c1 c2 c3 c4 c5 c6 c7 c8 c9 c10 c11 c12 c13 c14 c15 k=>k c4) n k) (fun n f k=>N16.rec (motive:=fun _=>(α → (α → RJ) → RJ) → (N16 α → RJ) → RJ) (fun c0 c1 c2 c3 c4 c5 c6 c7 c8 c9 c10 c11 c12 c13 c14 c15 f k=>f c4 (fun x=>k (N16.mk c0 c1 c2 c3 x c5 c6 c7 c8 c9 c10 c11 c12 c13 c14 c15))) n f k)
noncomputable def sk_5 (α:Type):SK α:=SK.mk (fun n k=>N16.rec (motive:=fun _=>(α → RJ) → RJ) (fun c0 c1 c2 c3 c4 c5 c6 c7 c8 c9 c10 c11 c12 c13 c14 c15 k=>k c5) n k) (fun n f k=>N16.rec (motive:=fun _=>(α → (α → RJ) → RJ) → (N16 α → RJ) → RJ) (fun c0 c1 c2 c3 c4 c5 c6 c7 c8 c9 c10 c11 c12 c13 c14 c15 f k=>f c5 (fun x=>k (N16.mk c0 c1 c2 c3 c4 x c6 c7 c8 c9 c10 c11 c12 c13 c14 c15))) n f k)
noncomputable def sk_6 (α:Type):SK α:=SK.mk (fun n k=>N16.rec (motive:=fun _=>(α → RJ) → RJ) (fun c0 c1 c2 c3 c4 c5 c6 c7 c8 c9 c10 c11 c12 c13 c14 c15 k=>k c6) n k) (fun n f k=>N16.rec (motive:=fun _=>(α → (α → RJ) → RJ) → (N16 α → RJ) → RJ) (fun c0 c1 c2 c3 c4 c5 c6 c7 c8 c9 c10 c11 c12 c13 c14 c15 f k=>f c6 (fun x=>k (N16.mk c0 c1 c2 c3 c4 c5 x c7 c8 c9 c10 c11 c12 c13 c14 c15))) n f k)
noncomputable def sk_7 (α:Type):SK α:=SK.mk (fun n k=>N16.rec (motive:=fun _=>(α → RJ) → RJ) (fun c0 c1 c2 c3 c4 c5 c6 c7 c8 c9 c10 c11 c12 c13 c14 c15 k=>k c7) n k) (fun n f k=>N16.rec (motive:=fun _=>(α → (α → RJ) → RJ) → (N16 α → RJ) → RJ) (fun c0 c1 c2 c3 c4 c5 c6 c7 c8 c9 c10 c11 c12 c13 c14 c15 f k=>f c7 (fun x=>k (N16.mk c0 c1 c2 c3 c4 c5 c6 x c8 c9 c10 c11 c12 c13 c14 c15))) n f k)
noncomputable def sk_8 (α:Type):SK α:=SK.mk (fun n k=>N16.rec (motive:=fun _=>(α → RJ) → RJ) (fun c0 c1 c2 c3 c4 c5 c6 c7 c8 c9 c10 c11 c12 c13 c14 c15 k=>k c8) n k) (fun n f k=>N16.rec (motive:=fun _=>(α → (α → RJ) → RJ) → (N16 α → RJ) → RJ) (fun c0 c1 c2 c3 c4 c5 c6 c7 c8 c9 c10 c11 c12 c13 c14 c15 f k=>f c8 (fun x=>k (N16.mk c0 c1 c2 c3 c4 c5 c6 c7 x c9 c10 c11 c12 c13 c14 c15))) n f k)
noncomputable def sk_9 (α:Type):SK α:=SK.mk (fun n k=>N16.rec (motive:=fun _=>(α → RJ) → RJ) (fun c0 c1 c2 c3 c4 c5 c6 c7 c8 c9 c10 c11 c12 c13 c14 c15 k=>k c9) n k) (fun n f k=>N16.rec (motive:=fun _=>(α → (α → RJ) → RJ) → (N16 α → RJ) → RJ) (fun c0 c1 c2 c3 c4 c5 c6 c7 c8 c9 c10 c11 c12 c13 c14 c15 f k=>f c9 (fun x=>k (N16.mk c0 c1 c2 c3 c4 c5 c6 c7 c8 x c10 c11 c12 c13 c14 c15))) n f k)
noncomputable def sk_10 (α:Type):SK α:=SK.mk (fun n k=>N16.rec (motive:=fun _=>(α → RJ) → RJ) (fun c0 c1 c2 c3 c4 c5 c6 c7 c8 c9 c10 c11 c12 c13 c14 c15 k=>k c10) n k) (fun n f k=>N16.rec (motive:=fun _=>(α → (α → RJ) → RJ) → (N16 α → RJ) → RJ) (fun c0 c1 c2 c3 c4 c5 c6 c7 c8 c9 c10 c11 c12 c13 c14 c15 f k=>f c10 (fun x=>k (N16.mk c0 c1 c2 c3 c4 c5 c6 c7 c8 c9 x c11 c12 c13 c14 c15))) n f k)
noncomputable def sk_11 (α:Type):SK α:=SK.mk (fun n k=>N16.rec (motive:=fun _=>(α → RJ) → RJ) (fun c0 c1 c2 c3 c4 c5 c6 c7 c8 c9 c10 c11 c12 c13 c14 c15 k=>k c11) n k) (fun n f k=>N16.rec (motive:=fun _=>(α → (α → RJ) → RJ) → (N16 α → RJ) → RJ) (fun c0 c1 c2 c3 c4 c5 c6 c7 c8 c9 c10 c11 c12 c13 c14 c15 f k=>f c11 (fun x=>k (N16.mk c0 c1 c2 c3 c4 c5 c6 c7 c8 c9 c10 x c12 c13 c14 c15))) n f k)
noncomputable def sk_12 (α:Type):SK α:=SK.mk (fun n k=>N16.rec (motive:=fun _=>(α → RJ) → RJ) (fun c0 c1 c2 c3 c4 c5 c6 c7 c8 c9 c10 c11 c12 c13 c14 c15 k=>k c12) n k) (fun n f k=>N16.rec (motive:=fun _=>(α → (α → RJ) → RJ) → (N16 α → RJ) → RJ) (fun c0 c1 c2 c3 c4 c5 c6 c7 c8 c9 c10 c11 c12 c13 c14 c15 f k=>f c12 (fun x=>k (N16.mk c0 c1 c2 c3 c4 c5 c6 c7 c8 c9 c10 c11 x c13 c14 c15))) n f k)
noncomputable def sk_13 (α:Type):SK α:=SK.mk (fun n k=>N16.rec (motive:=fun _=>(α → RJ) → RJ) (fun c0 c1 c2 c3 c4 c5 c6 c7 c8 c9 c10 c11 c12 c13 c14 c15 k=>k c13) n k) (fun n f k=>N16.rec (motive:=fun _=>(α → (α → RJ) → RJ) → (N16 α → RJ) → RJ) (fun c0 c1 c2 c3 c4 c5 c6 c7 c8 c9 c10 c11 c12 c13 c14 c15 f k=>f c13 (fun x=>k (N16.mk c0 c1 c2 c3 c4 c5 c6 c7 c8 c9 c10 c11 c12 x c14 c15))) n f k)
noncomputable def sk_14 (α:Type):SK α:=SK.mk (fun n k=>N16.rec (motive:=fun _=>(α → RJ) → RJ) (fun c0 c1 c2 c3 c4 c5 c6 c7 c8 c9 c10 c11 c12 c13 c14 c15 k=>k c14) n k) (fun n f k=>N16.rec (motive:=fun _=>(α → (α → RJ) → RJ) → (N16 α → RJ) → RJ) (fun c0 c1 c2 c3 c4 c5 c6 c7 c8 c9 c10 c11 c12 c13 c14 c15 f k=>f c14 (fun x=>k (N16.mk c0 c1 c2 c3 c4 c5 c6 c7 c8 c9 c10 c11 c12 c13 x c15))) n f k)
noncomputable def sk_15 (α:Type):SK α:=SK.mk (fun n k=>N16.rec (motive:=fun _=>(α → RJ) → RJ) (fun c0 c1 c2 c3 c4 c5 c6 c7 c8 c9 c10 c11 c12 c13 c14 c15 k=>k c15) n k) (fun n f k=>N16.rec (motive:=fun _=>(α → (α → RJ) → RJ) → (N16 α → RJ) → RJ) (fun c0 c1 c2 c3 c4 c5 c6 c7 c8 c9 c10 c11 c12 c13 c14 c15 f k=>f c15 (fun x=>k (N16.mk c0 c1 c2 c3 c4 c5 c6 c7 c8 c9 c10 c11 c12 c13 c14 x))) n f k)
noncomputable def sk (α:Type) (d:Nat):SK α:=Bool.rec (motive:=fun _=>SK α) (Bool.rec (motive:=fun _=>SK α) (Bool.rec (motive:=fun _=>SK α) (Bool.rec (motive:=fun _=>SK α) (sk_15 α) (sk_14 α) (Nat.ble d 14)) (Bool.rec (motive:=fun _=>SK α) (sk_13 α) (sk_12 α) (Nat.ble d 12)) (Nat.ble d 13)) (Bool.rec (motive:=fun _=>SK α) (Bool.rec (motive:=fun _=>SK α) (sk_11 α) (sk_10 α) (Nat.ble d 10)) (Bool.rec (motive:=fun _=>SK α) (sk_9 α) (sk_8 α) (Nat.ble d 8)) (Nat.ble d 9)) (Nat.ble d 11)) (Bool.rec (motive:=fun _=>SK α) (Bool.rec (motive:=fun _=>SK α) (Bool.rec (motive:=fun _=>SK α) (sk_7 α) (sk_6 α) (Nat.ble d 6)) (Bool.rec (motive:=fun _=>SK α) (sk_5 α) (sk_4 α) (Nat.ble d 4)) (Nat.ble d 5)) (Bool.rec (motive:=fun _=>SK α) (Bool.rec (motive:=fun _=>SK α) (sk_3 α) (sk_2 α) (Nat.ble d 2)) (Bool.rec (motive:=fun _=>SK α) (sk_1 α) (sk_0 α) (Nat.ble d 0)) (Nat.ble d 1)) (Nat.ble d 3)) (Nat.ble d 7)
theorem sk_u {α:Type} {d:Nat} (h:d < 16) (n:N16 α) (f:α → (α → RJ) → RJ) (f0:α → α) (hf:∀ c K,f c K = K (f0 c)) (K:N16 α → RJ):(sk α d).u n f K = K ((sel0 α d).u n f0):=by
 cases n
 rcases lt16 h with rfl | rfl | rfl | rfl | rfl | rfl | rfl | rfl | rfl | rfl | rfl | rfl | rfl | rfl | rfl | rfl <;> exact hf _ _
end
section
abbrev JC:=Nat → List AV → Tr Ob → Nat → KV → RJ
noncomputable def dirJ (J:JC):JJ:=fun f a h nx=>J f a h nx (fun a h nx => .v a h nx)
def GoodR (R:RJ):Prop := ∃ a h nx,R = .v a h nx
theorem GoodR.er {n:Nat} {p:String} {R:RJ} (G:GoodR R) (h:RJ.er n p = R):False:=by
 obtain ⟨a,h1,nx,rfl⟩:=G
 cases h
def LeJ (J D:JJ):Prop := ∀ f args h nx a h' nx',J f args h nx = .v a h' nx' → D f args h nx = .v a h' nx'
def ESim (F:JJ → Fm → Tr Ob → Nat → KV → RJ):Prop := ∀ J1 J2,LeJ J1 J2 → ∀ t h nx k R,GoodR R → F J1 t h nx k = R → ∃ a h1 nx1,k a h1 nx1 = R ∧ ∀ k2,F J2 t h nx k2 = k2 a h1 nx1
def KSim:KO → Prop
 | .q _=>True
 | .e F=>ESim F
theorem stF_nat (a:AV):(∃ b o, ∀ F er,stF a F er = F b o) ∨ ∀ F er,stF a F er = er:=by
 cases a <;> first
  | exact Or.inr fun _ _=>rfl
  | exact Or.inl ⟨_,_,fun _ _=>rfl⟩
theorem clK_nat (a:AV):(∃ v, ∀ k er,clK a k er = k v) ∨ ∀ k er,clK a k er = er:=by
 cases a <;> first
  | exact Or.inr fun _ _=>rfl
  | exact Or.inl ⟨_,fun _ _=>rfl⟩
theorem knK_nat (a:AV):(∃ v, ∀ k er,knK a k er = k v) ∨ ∀ k er,knK a k er = er:=by
 cases a <;> first
  | exact Or.inr fun _ _=>rfl
  | exact Or.inl ⟨_,fun _ _=>rfl⟩
theorem agR_nat (a:AV):(∃ l, ∀ F er,agR a F er = F l) ∨ ∀ F er,agR a F er = er:=by
 cases a <;> first
  | exact Or.inr fun _ _=>rfl
  | exact Or.inl ⟨_,fun _ _=>rfl⟩
theorem caF_nat (a:AV) (args:List AV):(∃ f l, ∀ F er,caF a args F er = F f l) ∨ ∀ F er,caF a args F er = er:=by
 cases a <;> first
  | exact Or.inr fun _ _=>rfl
  | skip
 rename_i f l
 cases l with
 | nil=>exact Or.inl ⟨_,_,fun _ _=>rfl⟩
 | cons x r=>exact Or.inl ⟨_,_,fun _ _=>rfl⟩
theorem rjK_nat (r:RJ):(∃ a h nx,r = .v a h nx ∧ ∀ k p,rjK r k p = k a h nx) ∨ ∀ p, ∃ n q, ∀ k,rjK r k p = .er n q:=by
 cases r with
 | v a h nx=>exact Or.inl ⟨_,_,_,rfl,fun _ _=>rfl⟩
 | c x t h nx=>exact Or.inr fun p=>⟨_,_,fun _=>rfl⟩
 | er n q=>exact Or.inr fun p=>⟨_,_,fun _=>rfl⟩
theorem setK_nat:∀ (n:Nat) (l:List AV) (a:AV),(∃ l', ∀ k er,setK n l a k er = k l') ∨ ∀ k er,setK n l a k er = er
 | 0,[],a=>Or.inr fun _ _=>rfl
 | 0,x :: l,a=>Or.inl ⟨_,fun _ _=>rfl⟩
 | n + 1,l,a=>by
  have e:∀ l k er,setK (n + 1) l a k er = match l with | []=>er | x :: r=>setK n r a (fun r'=>k (x :: r')) er:=fun l k er=>by
   unfold setK
   have e1:lsacc (n + 1) = Ls.rec (motive:=fun _=>Ls) (fun s=>Ls.mk (fun l a k er=>List.rec (motive:=fun _=>AV → (List AV → RJ) → RJ → RJ) (fun _ _ er=>er) (fun x r _ a k er=>s r a (fun r'=>k (x :: r')) er) l a k er)) (lsacc n):=rfl
   rw [e1]
   generalize lsacc n = c
   cases c
   cases l <;> rfl
  cases l with
  | nil=>exact Or.inr fun k er=>e [] k er
  | cons x r=>
   rcases setK_nat n r a with ⟨l',h⟩ | h
   ·exact Or.inl ⟨x :: l',fun k er=>by rw [e]; exact h _ _⟩
   ·exact Or.inr fun k er=>by rw [e]; exact h _ _
theorem opS_nat (ob:Option Ob) (o:Nat) (a:AV):(∃ b, ∀ k er,opS ob o a k er = k b) ∨ ∀ k er,opS ob o a k er = er:=by
 cases ob with
 | none=>exact Or.inr fun _ _=>rfl
 | some ob=>
  cases ob with
  | oc l mk=>
   rcases setK_nat o l a with ⟨l',h⟩ | h
   ·exact Or.inl ⟨.oc l' mk,fun k er=>h (fun l'=>k (.oc l' mk)) er⟩
   ·exact Or.inr fun k er=>h (fun l'=>k (.oc l' mk)) er
  | os l mk=>exact Or.inr fun _ _=>rfl
  | om l=>exact Or.inr fun _ _=>rfl
  | ox=>exact Or.inr fun _ _=>rfl
theorem esim_of {F:JJ → Fm → Tr Ob → Nat → KV → RJ} (h:∀ t h nx,(∃ a h1 nx1, ∀ J k,F J t h nx k = k a h1 nx1) ∨ ∃ n p, ∀ J k,F J t h nx k = .er n p):ESim F:=by
 intro J1 J2 L t hh nx k R G hr
 rcases h t hh nx with ⟨a,h1,nx1,e⟩ | ⟨n,p,e⟩
 ·exact ⟨a,h1,nx1,by rw [← e J1 k]; exact hr,fun k2=>e J2 k2⟩
 ·rw [e] at hr; exact (G.er hr).elim
theorem eStore_sim {p x:Fm → AV} {pos:String}:ESim (eStore p x pos):=by
 refine esim_of fun t h nx => ?_
 unfold eStore
 rcases stF_nat (p t) with ⟨b,o,h1⟩ | h1
 ·rcases clK_nat (x t) with ⟨a,h2⟩ | h2
  ·rcases opS_nat (h.get b) o a with ⟨ob,h3⟩ | h3
   ·exact Or.inl ⟨_,_,_,fun J k=>by rw [h1,h2,h3]⟩
   ·exact Or.inr ⟨_,_,fun J k=>by rw [h1,h2,h3]⟩
  ·exact Or.inr ⟨_,_,fun J k=>by rw [h1,h2]⟩
 ·exact Or.inr ⟨_,_,fun J k=>by rw [h1]⟩
theorem eAlloc_sim {z:List AV}:ESim (eAlloc z):=by
 refine esim_of fun t h nx=>Or.inl ⟨.vp nx 0,h.set nx (.oc z false),Nat.succ nx,fun J k => ?_⟩
 unfold eAlloc
 rw [force_eq]
theorem eBox_sim {x:Fm → AV} {pos:String}:ESim (eBox x pos):=by
 refine esim_of fun t h nx => ?_
 unfold eBox
 rcases knK_nat (x t) with ⟨a,h1⟩ | h1
 ·exact Or.inl ⟨.vp nx 0,h.set nx (.oc (cellsA a) false),Nat.succ nx,fun J k=>by rw [h1,force_eq]⟩
 ·exact Or.inr ⟨_,_,fun J k=>by rw [h1]⟩
theorem eSlow_sim {g:G} {op:Op} {pos:String}:ESim (eSlow g op pos):=by
 intro J1 J2 L t h nx k R G hr
 unfold eSlow at hr ⊢
 cases hs:step1 g op t h nx with
 | pl r=>
  rw [hs] at hr
  cases r with
  | ok a h1 nx1=>exact ⟨toN a,h1,nx1,hr,fun k2=>rfl⟩
  | er n=>exact (G.er hr).elim
 | call f args=>
  rw [hs] at hr
  have hr:rjK (J1 f args h nx) k pos = R:=hr
  rcases rjK_nat (J1 f args h nx) with ⟨a,h1,nx1,e1,e2⟩ | e
  ·rw [e2] at hr
   have e3:=L _ _ _ _ _ _ _ e1
   refine ⟨a,h1,nx1,hr,fun k2 => ?_⟩
   show rjK (J2 f args h nx) k2 pos = _
   rw [e3]; rfl
  ·obtain ⟨n,q,e⟩:=e pos
   rw [e] at hr
   exact (G.er hr).elim
theorem eCall_sim {f:Fm → AV} {l:List Operand} {pos:String}:ESim (eCall f (cargs l).f pos):=by
 intro J1 J2 L t h nx k R G hr
 obtain ⟨as_,as1, -⟩:=cargs_w (η:=⟨fun _=>ByteArray.empty,fun _=>0,default⟩) (ν:=fun _=>none) (t:=t) (n:=0) (a:={ tmps := #[],defers:=[] }) l
 unfold eCall at hr ⊢
 rw [as1] at hr
 rcases caF_nat (f t) as_ with ⟨fi,args,h1⟩ | h1
 ·rw [h1] at hr
  rcases rjK_nat (J1 fi args h nx) with ⟨a,h2,nx2,e1,e2⟩ | e
  ·rw [e2] at hr
   have e3:=L _ _ _ _ _ _ _ e1
   refine ⟨a,h2,nx2,hr,fun k2 => ?_⟩
   rw [as1,h1,e3]; rfl
  ·obtain ⟨n,q,e⟩:=e pos
   rw [e] at hr
   exact (G.er hr).elim
 ·rw [h1] at hr
  exact (G.er hr).elim
theorem putK_nat:∀ (new l:List AV),(∃ l', ∀ k er,putK new l k er = k l') ∨ ∀ k er,putK new l k er = er
 | [],l=>Or.inl ⟨l,fun _ _=>rfl⟩
 | a :: new,[]=>Or.inr fun _ _=>rfl
 | a :: new,x :: l=>by
  rcases putK_nat new l with ⟨l',h⟩ | h
  ·exact Or.inl ⟨a :: l',fun k er=>h (fun r'=>k (a :: r')) er⟩
  ·exact Or.inr fun k er=>h (fun r'=>k (a :: r')) er
theorem ovK_nat (new:List AV):∀ (n:Nat) (l:List AV),(∃ l', ∀ k er,ovK n l new k er = k l') ∨ ∀ k er,ovK n l new k er = er
 | 0,l=>putK_nat new l
 | n + 1,l=>by
  have e:∀ l k er,ovK (n + 1) l new k er = match l with | []=>er | x :: r=>ovK n r new (fun r'=>k (x :: r')) er:=fun l k er=>by
   unfold ovK
   have e1:poacc (n + 1) = Po.rec (motive:=fun _=>Po) (fun s=>Po.mk (fun l new k er=>List.rec (motive:=fun _=>List AV → (List AV → RJ) → RJ → RJ) (fun _ _ er=>er) (fun x r _ new k er=>s r new (fun r'=>k (x :: r')) er) l new k er)) (poacc n):=rfl
   rw [e1]
   generalize poacc n = c
   cases c
   cases l <;> rfl
  cases l with
  | nil=>exact Or.inr fun k er=>e [] k er
  | cons x r=>
   rcases ovK_nat new n r with ⟨l',h⟩ | h
   ·exact Or.inl ⟨x :: l',fun k er=>by rw [e]; exact h _ _⟩
   ·exact Or.inr fun k er=>by rw [e]; exact h _ _
theorem opW_nat (ob:Option Ob) (o:Nat) (new:List AV):(∃ b, ∀ k er,opW ob o new k er = k b) ∨ ∀ k er,opW ob o new k er = er:=by
 cases ob with
 | none=>exact Or.inr fun _ _=>rfl
 | some ob=>
  cases ob with
  | oc l mk=>
   rcases ovK_nat new o l with ⟨l',h⟩ | h
   ·exact Or.inl ⟨.oc l' mk,fun k er=>h (fun l'=>k (.oc l' mk)) er⟩
   ·exact Or.inr fun k er=>h (fun l'=>k (.oc l' mk)) er
  | os l mk=>exact Or.inr fun _ _=>rfl
  | om l=>exact Or.inr fun _ _=>rfl
  | ox=>exact Or.inr fun _ _=>rfl
theorem eStoreG_sim {size:Nat} {p x:Fm → AV} {pos:String}:ESim (eStoreG size p x pos):=by
 refine esim_of fun t h nx => ?_
 unfold eStoreG
 rcases stF_nat (p t) with ⟨b,o,h1⟩ | h1
 ·rcases agR_nat (x t) with ⟨l,h2⟩ | h2
  ·cases ha:allK l with
   | false=>exact Or.inr ⟨26,pos,fun J k=>by rw [h1,h2,ha]⟩
   | true=>
    cases hb:Nat.beq (lenK l) size with
    | false=>exact Or.inr ⟨26,pos,fun J k=>by rw [h1,h2,ha,hb]⟩
    | true=>
     rcases opW_nat (h.get b) o l with ⟨ob,h3⟩ | h3
     ·exact Or.inl ⟨.vtp [],h.set b ob,nx,fun J k=>by rw [h1,h2,ha,hb]; exact h3 _ _⟩
     ·exact Or.inr ⟨26,pos,fun J k=>by rw [h1,h2,ha,hb]; exact h3 _ _⟩
  ·exact Or.inr ⟨26,pos,fun J k=>by rw [h1,h2]⟩
 ·exact Or.inr ⟨26,pos,fun J k=>by rw [h1]⟩
theorem kUn_sim {g:G} {op:Op} {V:AV → AV} {x:Operand}:KSim (kUn g op V x):=by
 unfold kUn; rw [KE.eta (cev x)]; trivial
theorem kBin_sim {g:G} {op:Op} {V:AV → AV → AV} {x y:Operand}:KSim (kBin g op V x y):=by
 unfold kBin; rw [KE.eta (cev x),KE.eta (cev y)]; trivial
theorem kBinO_sim {g:G} {op:Op} {b:BinOp} {ty:Nat} {x y:Operand}:KSim (kBinO g op b ty x y):=by
 unfold kBinO
 split <;> first | exact kBin_sim | (split <;> exact kBin_sim) | trivial
theorem kBin2_sim {g:G} {op:Op} {b:BinOp} {ty:Nat} {x y:Operand}:KSim (kBin2 g op b ty x y):=by
 unfold kBin2
 split <;> first | exact kBin_sim | exact kBinO_sim
theorem kLoad_sim {g:G} {ty:Nat} {x:Operand}:KSim (kLoad g ty x):=by
 unfold kLoad
 split
 ·trivial
 ·split
  ·trivial
  ·rw [KE.eta (cev x)]; trivial
theorem kLoad2_sim {g:G} {ty:Nat} {x:Operand}:KSim (kLoad2 g ty x):=by
 unfold kLoad2
 split
 ·trivial
 ·split
  ·rw [KE.eta (cev x)]; trivial
  ·exact kLoad_sim
theorem kFa_sim {g:G} {ty:Nat} {x:Operand} {k:Nat}:KSim (kFa g ty x k):=by
 unfold kFa
 split
 ·trivial
 ·split
  ·trivial
  ·split
   ·trivial
   ·split
    ·trivial
    ·rw [KE.eta (cev x)]; trivial
theorem kIa_sim {g:G} {ty:Nat} {x y:Operand}:KSim (kIa g ty x y):=by
 unfold kIa
 split
 ·trivial
 ·split
  ·split
   ·trivial
   ·rw [KE.eta (cev x),KE.eta (cev y)]; trivial
  ·trivial
theorem kIa2_sim {g:G} {ty:Nat} {x y:Operand}:KSim (kIa2 g ty x y):=by
 unfold kIa2
 split
 ·trivial
 ·split
  ·split
   ·trivial
   ·rw [KE.eta (cev x),KE.eta (cev y)]; trivial
  ·exact kIa_sim
theorem kStore_sim {g:G} {ty:Nat} {x y:Operand} {pos:String}:KSim (kStore g ty x y pos):=by
 unfold kStore
 split
 ·exact eSlow_sim
 ·split
  ·rw [KE.eta (cev x),KE.eta (cev y)]; exact eStoreG_sim
  ·split
   ·rw [KE.eta (cev x),KE.eta (cev y)]; exact eStore_sim
   ·exact eSlow_sim
theorem kAlloc_sim {g:G} {ty:Nat} {pos:String}:KSim (kAlloc g ty pos):=by
 unfold kAlloc
 split
 ·exact eSlow_sim
 ·split
  ·exact eAlloc_sim
  ·exact eSlow_sim
theorem kConv_sim {g:G} {s d:Nat} {x:Operand} {pos:String}:KSim (kConv g s d x pos):=by
 unfold kConv
 split
 ·exact eSlow_sim
 ·split
  ·split
   ·trivial
   ·exact eSlow_sim
  ·exact kUn_sim
theorem kCall_eq (f:Operand) (l:List Operand) (pos:String):kCall f l pos = KO.e (eCall (cev f).f (cargs l).f pos):=by
 unfold kCall; rw [KE.eta (cev f),KLr.eta (cargs l)]; rfl
theorem kLen_sim {g:G} {c:Call}:KSim (kLen g c):=by
 unfold kLen
 split
 ·split
  ·split
   ·split
    ·(generalize cev _ = e0; cases e0; trivial)
    ·trivial
   ·trivial
  ·trivial
 ·trivial
theorem kCallO_sim {g:G} {o:Oper} {c:Call}:KSim (kCallO g o c):=by
 unfold kCallO
 split
 ·rw [kCall_eq]; exact eCall_sim
 ·split
  ·exact kLen_sim
  ·split
   ·trivial
   ·exact eSlow_sim
 ·exact eSlow_sim
theorem copB_sim {g:G} {o:Oper}:KSim (copB g o):=by
 unfold copB
 split
 ·rw [kMove_eq]; trivial
 ·rw [kMove_eq]; trivial
 ·rw [kPick_eq]; trivial
 ·exact kLoad2_sim
 ·exact kStore_sim
 ·exact kFa_sim
 ·exact kIa2_sim
 ·exact kAlloc_sim
 ·rename_i x _; unfold kBox; rw [KE.eta (cev x)]; exact eBox_sim
 ·exact kBin2_sim
 ·rename_i x _; unfold kNot; rw [KE.eta (cev x)]; trivial
 ·rename_i x _; unfold kNil; rw [KE.eta (cev x)]; trivial
 ·exact kCallO_sim
 ·exact kUn_sim
 ·exact kConv_sim
 ·split
  ·trivial
  ·exact eSlow_sim
theorem kIdxA_sim {g:G} {ty:Nat} {x y:Operand}:KSim (kIdxA g ty x y):=by
 unfold kIdxA
 split
 ·trivial
 ·split
  ·split
   ·trivial
   ·split
    ·trivial
    ·split
     ·trivial
     ·rw [KE.eta (cev x),KE.eta (cev y)]; trivial
  ·trivial
theorem kIdx2_sim {g:G} {ty:Nat} {x y:Operand}:KSim (kIdx2 g ty x y):=by
 unfold kIdx2
 split
 ·split
  ·rw [KE.eta (cev x),KE.eta (cev y)]; trivial
  ·exact kIdxA_sim
 ·exact kIdxA_sim
theorem kLenS_sim {g:G} {o:Oper} {c:Call}:KSim (kLenS g o c):=by
 unfold kLenS
 split
 ·split
  ·split
   ·split
    ·split
     ·(generalize cev _ = e0; cases e0; trivial)
     ·exact copB_sim
    ·exact copB_sim
   ·exact copB_sim
  ·exact copB_sim
 ·exact copB_sim
theorem kCmp_sim {g:G} {o:Oper} {op:Op} {b:BinOp} {x y:Operand}:KSim (kCmp g o op b x y):=by
 unfold kCmp
 split <;> first | exact kBin_sim | exact copB_sim
theorem kEqP_sim {g:G} {op:Op} {neg:Bool} {x y:Operand}:KSim (kEqP g op neg x y):=by
 unfold kEqP
 rw [KE.eta (cev x),KE.eta (cev y)]
 cases neg <;> trivial
theorem cop_sim {g:G} {o:Oper}:KSim (cop g o):=by
 unfold cop
 split
 ·exact kIdx2_sim
 ·exact kLenS_sim
 ·split
  ·exact kCmp_sim
  ·split
   ·split
    ·exact kEqP_sim
    ·exact copB_sim
   ·split
    ·exact kEqP_sim
    ·exact copB_sim
   ·exact copB_sim
 ·exact copB_sim
theorem cop_call {g:G} {o:Oper} {c:Call} {f:Operand} (ho:o.op = .call c) (hc:c.callee = .value f):cop g o = KO.e (eCall (cev f).f (cargs c.args.toList).f o.pos):=by
 obtain ⟨dst,op,ty,pos,after,guard⟩:=o
 simp only at ho
 subst ho
 unfold cop
 simp only
 unfold kLenS
 rw [hc]
 simp only
 unfold copB
 simp only
 unfold kCallO
 rw [hc]
 simp only
 rw [kCall_eq]
end
section
theorem gdF_nat (a:AV) (want:Bool):(∀ x y er,gdF a want x y er = x) ∨ (∀ x y er,gdF a want x y er = y) ∨ ∀ x y er,gdF a want x y er = er:=by
 cases a <;> first
  | exact Or.inr (Or.inr fun _ _ _=>rfl)
  | skip
 all_goals (rename_i b; cases b <;> cases want <;> first
  | exact Or.inl fun _ _ _=>rfl
  | exact Or.inr (Or.inl fun _ _ _=>rfl)
  | exact Or.inr (Or.inr fun _ _ _=>rfl))
theorem cdF_nat (a:AV):(∀ x y er,cdF a x y er = x) ∨ (∀ x y er,cdF a x y er = y) ∨ ∀ x y er,cdF a x y er = er:=by
 cases a <;> first
  | exact Or.inr (Or.inr fun _ _ _=>rfl)
  | skip
 rename_i b
 cases b <;> first
  | exact Or.inl fun _ _ _=>rfl
  | exact Or.inr (Or.inl fun _ _ _=>rfl)
end
section
noncomputable def finT : KV := fun a h nx => gdF a true (.v (.vb true) .e 0) (.er 1 "false") (.er 1 "")
theorem gdF_true {a:AV} {x y er R:RJ} (h:gdF a true x y er = R) (hy:y ≠ R) (he:er ≠ R):a = .vb true:=by
 cases a <;> first
  | exact (he h).elim
  | skip
 all_goals (rename_i b; cases b <;> first
  | rfl
  | exact (hy h).elim
  | exact (he h).elim)
end
section
def One (X:KV → RJ):Prop:=(∀ k, ¬ GoodR (X k)) ∨ ∃ a h nx, ∀ k,X k = k a h nx
abbrev FnC:=List AV → Tr Ob → Nat → KV → RJ
def FSnd (P:Program) (η:En) (f:Nat) (F:FnC):Prop := ∀ args h nx,One (F args h nx) ∧ ∀ a h' nx',F args h nx (fun a h nx => .v a h nx) = .v a h' nx' → FnOk P f ∧ ∀ ν w vs,HR η ν h w → Nx ν nx → wrels η ν args vs → Calls P f vs.toArray w (CallPostE η ν h w a h' nx')
def SndC (P:Program) (η:En) (J:JC):Prop := ∀ f,FSnd P η f (J f)
def FOk (P:Program) (η:En) (f:Nat) (F:JC → FnC):Prop := ∀ J,SndC P η J → FSnd P η f (F J)
theorem SndC.dir {P:Program} {η:En} {J:JC} (S:SndC P η J):SndJ P η (dirJ J):=fun f args h nx a h' nx' hr=>((S f) args h nx).2 a h' nx' hr
def OneJ (J:JC):Prop := ∀ f args h nx,One (J f args h nx)
theorem SndC.one {P:Program} {η:En} {J:JC} (S:SndC P η J):OneJ J:=fun f args h nx=>((S f) args h nx).1
abbrev Tab:=Nat → Option (JC → FnC)
noncomputable abbrev sJ (tab:Tab) (J:JC):JC:=fun f args h nx k=>match tab f with
 | some F=>F J args h nx k
 | none=>J f args h nx k
def TabOk (P:Program) (η:En) (tab:Tab):Prop := ∀ f F,tab f = some F → FOk P η f F
theorem sJ_ok {P:Program} {η:En} {tab:Tab} (T:TabOk P η tab) {J:JC} (S:SndC P η J):SndC P η (sJ tab J):=by
 intro f
 have h1:=S f
 have h2:=T f
 unfold sJ
 cases h:tab f with
 | some F=>exact h2 F h J S
 | none=>exact h1
inductive DO where
 | q (f:List AV → Tr Ob → Nat → (AV → RJ) → RJ)
 | e (f:JC → List AV → Tr Ob → Nat → KV → RJ)
 | no
noncomputable def vl (t:Fm):List Nat → List AV
 | []=>[]
 | d :: r=>t.at d :: vl t r
inductive UM where
 | mk (f:List AV → Fm)
noncomputable def cunm:List Nat → UM
 | []=>UM.mk (fun _=>Fm.e)
 | d :: r=>Fa.rec (motive:=fun _=>UM) (fun _ s=>UM.rec (motive:=fun _=>UM) (fun f=>UM.mk (fun vs=>List.rec (motive:=fun _=>Fm) Fm.e (fun v vs _=>s (f vs) v) vs)) (cunm r)) (facc d)
noncomputable def unm (ds:List Nat) (vs:List AV):Fm:=UM.rec (motive:=fun _=>Fm) (fun f=>f vs) (cunm ds)
theorem unm_cons (d:Nat) (r:List Nat) (v:AV) (vs:List AV):unm (d :: r) (v :: vs) = (unm r vs).put d v:=by
 unfold unm Fm.put
 have e:cunm (d :: r) = Fa.rec (motive:=fun _=>UM) (fun _ s=>UM.rec (motive:=fun _=>UM) (fun f=>UM.mk (fun vs=>List.rec (motive:=fun _=>Fm) Fm.e (fun v vs _=>s (f vs) v) vs)) (cunm r)) (facc d):=rfl
 rw [e]
theorem unm_vl (t:Fm):∀ ds,unm ds (vl t ds) = mask ds t
 | []=>rfl
 | d :: r=>by rw [vl,unm_cons,mask_cons,unm_vl t r]
abbrev Opp:=List Nat × Oper
noncomputable def noJ : JJ := fun _ _ _ _ => .er 120 ""
noncomputable def slq (g:G) (p:Opp) (vs:List AV) (h:Tr Ob) (nx:Nat) (k:AV → RJ):RJ:=
 Prod.rec (motive := fun _ => RJ) (fun ds o => KO.rec (motive := fun _ => RJ) (fun V => knK (V (unm ds vs) h nx) k (.er 20 o.pos)) (fun _ => .er 20 "") (cop g o)) p
noncomputable def sle (g:G) (p:Opp) (vs:List AV) (h:Tr Ob) (nx:Nat) (k:KV):RJ:=
 Prod.rec (motive := fun _ => RJ) (fun ds o => KO.rec (motive := fun _ => RJ) (fun _ => .er 21 "") (fun F => F noJ (unm ds vs) h nx k) (cop g o)) p
def DoQ (ko:KO) (ds:List Nat) (f:List AV → Tr Ob → Nat → (AV → RJ) → RJ):Prop := ∃ V,ko = .q V ∧ ∀ t h nx,(∀ k, ¬ GoodR (f (vl t ds) h nx k)) ∨ ∃ a,V (mask ds t) h nx = a ∧ a ≠ .vno ∧ ∀ k,f (vl t ds) h nx k = k a
def DoE (ko:KO) (ds:List Nat) (J:JC) (f:List AV → Tr Ob → Nat → KV → RJ):Prop := ∃ F,ko = .e F ∧ ∀ t h nx,(∀ k, ¬ GoodR (f (vl t ds) h nx k)) ∨ ∃ a h1 nx1,(∀ k,F (dirJ J) (mask ds t) h nx k = k a h1 nx1) ∧ ∀ k,f (vl t ds) h nx k = k a h1 nx1
def DoOk (ko:KO) (ds:List Nat):DO → Prop
 | .no=>True
 | .q f=>DoQ ko ds f
 | .e f => ∀ J,OneJ J → DoE ko ds J (f J)
theorem knK_kn {a:AV} (h:a ≠ .vno):∀ k er,knK a k er = k a:=by cases a <;> first | exact (h rfl).elim | exact fun _ _=>rfl
theorem er_bad {n:Nat} {p:String} : ¬ GoodR (.er n p):=fun ⟨_,_,_,e⟩=>by cases e
theorem slq_ok {g:G} {ds:List Nat} {o:Oper} {V:Fm → Tr Ob → Nat → AV} (hc:cop g o = .q V):DoQ (cop g o) ds (fun vs h nx k=>slq g (ds,o) vs h nx k):=by
 refine ⟨V,hc,fun t h nx => ?_⟩
 have e:∀ k,slq g (ds,o) (vl t ds) h nx k = knK (V (mask ds t) h nx) k (.er 20 o.pos):=fun k=>by
  show (KO.rec (motive := fun _ => RJ) (fun V => knK (V (unm ds (vl t ds)) h nx) k (.er 20 o.pos)) (fun _ => .er 20 "") (cop g o) : RJ) = _
  rw [hc,unm_vl]
 simp only [e]
 by_cases hv:V (mask ds t) h nx = .vno
 ·exact Or.inl fun k=>by rw [hv]; exact er_bad
 ·exact Or.inr ⟨_,rfl,hv,fun k=>knK_kn hv k _⟩
theorem sle_ok {g:G} {ds:List Nat} {o:Oper} {F:JJ → Fm → Tr Ob → Nat → KV → RJ} (hc:cop g o = .e F) (J:JC):DoE (cop g o) ds J (fun vs h nx k=>sle g (ds,o) vs h nx k):=by
 refine ⟨F,hc,fun t h nx => ?_⟩
 have e:∀ k,sle g (ds,o) (vl t ds) h nx k = F noJ (mask ds t) h nx k:=fun k=>by
  show (KO.rec (motive := fun _ => RJ) (fun _ => .er 21 "") (fun F => F noJ (unm ds (vl t ds)) h nx k) (cop g o) : RJ) = _
  rw [hc,unm_vl]
 have hs:ESim F:=by
  have:=cop_sim (g:=g) (o:=o)
  rw [hc] at this
  exact this
 by_cases hg:∃ k,GoodR (sle g (ds,o) (vl t ds) h nx k)
 ·obtain ⟨k,hk⟩:=hg
  obtain ⟨a,h1,nx1, -,e2⟩:=hs noJ (dirJ J) (fun _ _ _ _ _ _ _ h=>by cases h) (mask ds t) h nx k _ hk (e k).symm
  obtain ⟨a',h1',nx1', -,e2'⟩:=hs noJ noJ (fun _ _ _ _ _ _ _ h=>by cases h) (mask ds t) h nx k _ hk (e k).symm
  have e3:=hs noJ (dirJ J) (fun _ _ _ _ _ _ _ h=>by cases h) (mask ds t) h nx (fun a h nx => .v a h nx) _ ⟨a',h1',nx1',e2' _⟩ rfl
  obtain ⟨a2,h2,nx2,e4,e5⟩:=e3
  have e4:RJ.v a2 h2 nx2 = .v a' h1' nx1':=e4.trans (e2' _)
  cases e4
  exact Or.inr ⟨a',h1',nx1',e5,fun k=>(e k).trans (e2' k)⟩
 ·exact Or.inl fun k hk=>hg ⟨k,hk⟩
noncomputable def dopK (g:G) (ds:List Nat) (o:Oper):DO:=match cop g o with
 | .q _ => .q (fun vs h nx k=>slq g (ds,o) vs h nx k)
 | .e _ => .e (fun _ vs h nx k=>sle g (ds,o) vs h nx k)
theorem dopK_ok {g:G} {ds:List Nat} {o:Oper}:DoOk (cop g o) ds (dopK g ds o):=by
 unfold dopK
 cases hc:cop g o with
 | q V=>
  have h:=slq_ok (ds:=ds) hc
  rw [hc] at h
  exact h
 | e F=>
  intro J _
  have h:=sle_ok (ds:=ds) hc J
  rw [hc] at h
  exact h
noncomputable def evs (t:Fm):List Operand → List AV
 | []=>[]
 | x :: r=>(cev x).f t :: evs t r
theorem cargs_evs (t:Fm):∀ (l:List Operand) (k:List AV → RJ),(cargs l).f t k = k (evs t l)
 | [],k=>rfl
 | x :: r,k=>by
  have e:(cargs (x :: r)).f t k = fkA ((cev x).f t) (fun a=>(cargs r).f t (fun l=>k (a :: l))):=by
   show (KE.rec (motive:=fun _=>KLr) (fun e=>KLr.rec (motive:=fun _=>KLr) (fun es=>KLr.mk (fun t k=>fkA (e t) (fun a=>es t (fun l=>k (a :: l))))) (cargs r)) (cev x)).f t k = _
   rw [KE.eta (cev x),KLr.eta (cargs r)]
   rfl
  rw [e,fkA_eq,cargs_evs t r,evs]
noncomputable def caC (J : JC) (a : AV) (l : List AV) (h : Tr Ob) (nx : Nat) (k : KV) : RJ := caF a l (fun f l => J f l h nx k) (.er 81 "")
noncomputable def dcall (ds:List Nat) (x:Operand) (xs:List Operand):DO:=match x with
 | .func f => .e (fun J vs h nx k=>J f (evs (unm ds vs) xs) h nx k)
 | x => .e (fun J vs h nx k=>caC J ((cev x).f (unm ds vs)) (evs (unm ds vs) xs) h nx k)
theorem rj_one {J:JC} (O:OneJ J) (f:Nat) (l:List AV) (h:Tr Ob) (nx:Nat) (pos:String):(∀ k, ¬ GoodR (J f l h nx k)) ∨ ∃ a h1 nx1,(∀ k,rjK (dirJ J f l h nx) k pos = k a h1 nx1) ∧ ∀ k,J f l h nx k = k a h1 nx1:=by
 rcases O f l h nx with e | ⟨a,h1,nx1,e⟩
 ·exact Or.inl e
 ·refine Or.inr ⟨a,h1,nx1,fun k => ?_,e⟩
  unfold dirJ
  rw [e]
  rfl
theorem dcall_ok {g:G} {ds:List Nat} {o:Oper} {c:Call} {x:Operand} (ho:o.op = .call c) (hc:c.callee = .value x):DoOk (cop g o) ds (dcall ds x c.args.toList):=by
 rw [cop_call ho hc]
 have dyn:∀ J,OneJ J → DoE (.e (eCall (cev x).f (cargs c.args.toList).f o.pos)) ds J (fun vs h nx k=>caC J ((cev x).f (unm ds vs)) (evs (unm ds vs) c.args.toList) h nx k):=by
  intro J O
  refine ⟨_,rfl,fun t h nx => ?_⟩
  unfold caC eCall
  simp only [unm_vl,cargs_evs]
  rcases caF_nat ((cev x).f (mask ds t)) (evs (mask ds t) c.args.toList) with ⟨f,l,e⟩ | e
  ·simp only [e]
   exact rj_one O f l h nx o.pos
  ·simp only [e]
   exact Or.inl fun k=>er_bad
 unfold dcall
 cases x with
 | func f=>
  intro J O
  refine ⟨_,rfl,fun t h nx => ?_⟩
  unfold eCall
  simp only [unm_vl,cargs_evs]
  exact rj_one O f _ h nx o.pos
 | tmp k=>exact dyn
 | const v=>exact dyn
 | global n=>exact dyn
noncomputable def dopG (g:G) (ds:List Nat) (o:Oper):DO:=match o.op with
 | .call c=>match c.callee with
  | .value x=>dcall ds x c.args.toList
  | _=>dopK g ds o
 | _=>dopK g ds o
theorem dopG_ok {g:G} {ds:List Nat} {o:Oper}:DoOk (cop g o) ds (dopG g ds o):=by
 unfold dopG
 cases ho:o.op with
 | call c=>
  simp only
  cases hc:c.callee with
  | value x=>exact dcall_ok ho hc
  | _=>exact dopK_ok
 | _=>exact dopK_ok
end
section
inductive HA where
 | mk (s:Tr Ob → Ob → (Tr Ob → RJ) → RJ)
noncomputable def HA.s (a:HA):Tr Ob → Ob → (Tr Ob → RJ) → RJ:=HA.rec (motive:=fun _=>Tr Ob → Ob → (Tr Ob → RJ) → RJ) (fun s=>s) a
noncomputable def haLo (q d:Nat):HA:=SK.rec (motive:=fun _=>HA) (fun _ u1=>SK.rec (motive:=fun _=>HA) (fun _ u0=>HA.mk (fun t x k=>Tr.rec (motive:=fun _=>Ob → (Tr Ob → RJ) → RJ) (fun lo hi ov x k=>u1 lo (fun n k=>u0 n (fun _ k=>k (some x)) k) (fun lo=>k (Tr.mk lo hi ov))) t x k)) (sk (Option Ob) d)) (sk (N16 (Option Ob)) q)
noncomputable def haHi (q d:Nat):HA:=SK.rec (motive:=fun _=>HA) (fun _ u3=>SK.rec (motive:=fun _=>HA) (fun _ u2=>SK.rec (motive:=fun _=>HA) (fun _ u1=>SK.rec (motive:=fun _=>HA) (fun _ u0=>HA.mk (fun t x k=>Tr.rec (motive:=fun _=>Ob → (Tr Ob → RJ) → RJ) (fun lo hi ov x k=>u3 hi (fun n k=>u2 n (fun n k=>u1 n (fun n k=>u0 n (fun _ k=>k (some x)) k) k) k) (fun hi=>k (Tr.mk lo hi ov))) t x k)) (sk (Option Ob) d)) (sk (N16 (Option Ob)) (Nat.mod q 16))) (sk (N16 (N16 (Option Ob))) (Nat.mod (Nat.div q 16) 16))) (sk (N16 (N16 (N16 (Option Ob)))) (Nat.div q 256))
noncomputable def hacc (i:Nat):HA:=Bool.rec (motive:=fun _=>HA) (Bool.rec (motive:=fun _=>HA) (HA.mk (fun t x k=>k (t.set i x))) (haHi (Nat.div i 16) (Nat.mod i 16)) (Nat.blt i 65536)) (haLo (Nat.div i 16) (Nat.mod i 16)) (Nat.blt i 256)
theorem hacc_eq (i:Nat) (h:Tr Ob) (x:Ob) (K:Tr Ob → RJ):(hacc i).s h x K = K (h.set i x):=by
 have m:∀ n,Nat.mod n 16 < 16:=fun n=>Nat.mod_lt _ (by omega)
 rw [Tr.set_eq]
 unfold hacc
 by_cases h1:i < 256
 ·rw [bltD i 256,decide_eq_true h1,if_pos h1]
  unfold haLo
  rw [SK.eta (sk (Option Ob) (Nat.mod i 16)),SK.eta (sk (N16 (Option Ob)) (Nat.div i 16))]
  cases h with
  | mk lo hi ov=>
   show (sk (N16 (Option Ob)) (Nat.div i 16)).u lo _ _ = _
   rw [sk_u (show Nat.div i 16 < 16 by show i / 16 < 16; omega) lo _ (fun n=>(sel0 (Option Ob) (Nat.mod i 16)).u n fun _=>some x) (fun n K=>sk_u (m i) n _ (fun _=>some x) (fun _ _=>rfl) K)]
   rfl
 ·rw [bltD i 256,bltD i 65536,decide_eq_false h1,if_neg h1]
  by_cases h2:i < 65536
  ·rw [decide_eq_true h2,if_pos h2]
   unfold haHi
   rw [show Nat.div (Nat.div i 16) 16 = Nat.div i 256 from Nat.div_div_eq_div_mul i 16 16,show Nat.div (Nat.div i 16) 256 = Nat.div i 4096 from Nat.div_div_eq_div_mul i 16 256]
   rw [SK.eta (sk (Option Ob) (Nat.mod i 16)),SK.eta (sk (N16 (Option Ob)) (Nat.mod (Nat.div i 16) 16)),SK.eta (sk (N16 (N16 (Option Ob))) (Nat.mod (Nat.div i 256) 16)),SK.eta (sk (N16 (N16 (N16 (Option Ob)))) (Nat.div i 4096))]
   cases h with
   | mk lo hi ov=>
    show (sk (N16 (N16 (N16 (Option Ob)))) (Nat.div i 4096)).u hi _ _ = _
    rw [sk_u (show Nat.div i 4096 < 16 by show i / 4096 < 16; omega) hi _ (fun n=>(sel0 (N16 (N16 (Option Ob))) (Nat.mod (Nat.div i 256) 16)).u n fun n=>(sel0 (N16 (Option Ob)) (Nat.mod (Nat.div i 16) 16)).u n fun n=>(sel0 (Option Ob) (Nat.mod i 16)).u n fun _=>some x)
     (fun n K=>sk_u (m _) n _ (fun n=>(sel0 (N16 (Option Ob)) (Nat.mod (Nat.div i 16) 16)).u n fun n=>(sel0 (Option Ob) (Nat.mod i 16)).u n fun _=>some x)
      (fun n K=>sk_u (m _) n _ (fun n=>(sel0 (Option Ob) (Nat.mod i 16)).u n fun _=>some x) (fun n K=>sk_u (m i) n _ (fun _=>some x) (fun _ _=>rfl) K) K) K)]
    rfl
  ·rw [decide_eq_false h2,if_neg h2]
   unfold HA.s Tr.set
   rw [acc_ov h1 h2]
   rfl
noncomputable def hsK (h:Tr Ob) (i:Nat) (x:Ob) (k:Tr Ob → RJ):RJ:=HA.rec (motive:=fun _=>RJ) (fun s=>s h x k) (hacc i)
theorem hsK_eq (h:Tr Ob) (i:Nat) (x:Ob) (k:Tr Ob → RJ):hsK h i x k = k (h.set i x):=by
 rw [← hacc_eq i h x k]
 unfold hsK HA.s
 cases hacc i
 rfl
noncomputable def alP (z:List AV) (h:Tr Ob) (nx:Nat) (k:KV):RJ:=force (fun nx1=>hsK h nx (.oc z false) (fun h1=>k (.vp nx 0) h1 nx1)) (Nat.succ nx)
theorem alP_eq (z:List AV) (h:Tr Ob) (nx:Nat) (k:KV):alP z h nx k = k (.vp nx 0) (h.set nx (.oc z false)) (Nat.succ nx):=by
 unfold alP
 rw [force_eq,hsK_eq]
abbrev Q2:=AV → AV → ((AV → RJ) → RJ) → (AV → RJ) → RJ
def Q2Ok (F:Q2) (V:AV → AV → AV):Prop := ∀ a b,(∀ s k,F a b s k = s k) ∨ V a b ≠ .vno ∧ ∀ s k,F a b s k = k (V a b)
noncomputable def addR (x y:AV) (s:(AV → RJ) → RJ) (k:AV → RJ):RJ:=AV.rec (motive_1:=fun _=>AV → ((AV → RJ) → RJ) → (AV → RJ) → RJ) (motive_2:=fun _=>Unit) (fun _ s k=>s k) (fun a y s k=>AV.rec (motive_1:=fun _=>Nat → ((AV → RJ) → RJ) → (AV → RJ) → RJ) (motive_2:=fun _=>Unit) (fun _ s k=>s k) (fun b a s k=>Nat.rec (motive:=fun _=>((AV → RJ) → RJ) → (AV → RJ) → RJ) (fun s k=>s k) (fun c _ s k=>Bool.rec (motive:=fun _=>Nat → ((AV → RJ) → RJ) → (AV → RJ) → RJ) (fun _ s k=>s k) (fun c _ k=>k (.vn c)) (Nat.ble c 9223372036854775807) c s k) (Nat.succ (Nat.add a b)) s k) (fun _ _ s k=>s k) (fun _ _ _ s k=>s k) (fun _ _ _ s k=>s k) (fun _ _ _ _ _ _ s k=>s k) (fun _ _ s k=>s k) (fun _ _ s k=>s k) (fun _ _ s k=>s k) (fun _ s k=>s k) (fun _ _ _ s k=>s k) (fun _ s k=>s k) (fun _ _ _ _ _ _ _ s k=>s k) (fun _ _ _ _ _ _ s k=>s k) (fun _ _ _ s k=>s k) (fun _ s k=>s k) (fun _ s k=>s k) (fun _ _ s k=>s k) (fun _ s k=>s k) (fun _ _ _ _ s k=>s k) (fun _ s k=>s k) (fun _ _ _ s k=>s k) (fun _ _ _ s k=>s k) () (fun _ _ _ _=>()) y a s k) (fun _ _ s k=>s k) (fun _ _ _ s k=>s k) (fun _ _ _ s k=>s k) (fun _ _ _ _ _ _ s k=>s k) (fun _ _ s k=>s k) (fun _ _ s k=>s k) (fun _ _ s k=>s k) (fun _ s k=>s k) (fun _ _ _ s k=>s k) (fun _ s k=>s k) (fun _ _ _ _ _ _ _ s k=>s k) (fun _ _ _ _ _ _ s k=>s k) (fun _ _ _ s k=>s k) (fun _ s k=>s k) (fun _ s k=>s k) (fun _ _ s k=>s k) (fun _ s k=>s k) (fun _ _ _ _ s k=>s k) (fun _ s k=>s k) (fun _ _ _ s k=>s k) (fun _ _ _ s k=>s k) () (fun _ _ _ _=>()) x y s k
noncomputable def subR (x y:AV) (s:(AV → RJ) → RJ) (k:AV → RJ):RJ:=AV.rec (motive_1:=fun _=>AV → ((AV → RJ) → RJ) → (AV → RJ) → RJ) (motive_2:=fun _=>Unit) (fun _ s k=>s k) (fun a y s k=>AV.rec (motive_1:=fun _=>Nat → ((AV → RJ) → RJ) → (AV → RJ) → RJ) (motive_2:=fun _=>Unit) (fun _ s k=>s k) (fun b a s k=>Bool.rec (motive:=fun _=>Nat → Nat → ((AV → RJ) → RJ) → (AV → RJ) → RJ) (fun _ _ s k=>s k) (fun a b s k=>Nat.rec (motive:=fun _=>((AV → RJ) → RJ) → (AV → RJ) → RJ) (fun s k=>s k) (fun c _ s k=>Bool.rec (motive:=fun _=>Nat → ((AV → RJ) → RJ) → (AV → RJ) → RJ) (fun _ s k=>s k) (fun c _ k=>k (.vn c)) (Nat.ble c 9223372036854775807) c s k) (Nat.succ (Nat.sub a b)) s k) (Nat.ble b a) a b s k) (fun _ _ s k=>s k) (fun _ _ _ s k=>s k) (fun _ _ _ s k=>s k) (fun _ _ _ _ _ _ s k=>s k) (fun _ _ s k=>s k) (fun _ _ s k=>s k) (fun _ _ s k=>s k) (fun _ s k=>s k) (fun _ _ _ s k=>s k) (fun _ s k=>s k) (fun _ _ _ _ _ _ _ s k=>s k) (fun _ _ _ _ _ _ s k=>s k) (fun _ _ _ s k=>s k) (fun _ s k=>s k) (fun _ s k=>s k) (fun _ _ s k=>s k) (fun _ s k=>s k) (fun _ _ _ _ s k=>s k) (fun _ s k=>s k) (fun _ _ _ s k=>s k) (fun _ _ _ s k=>s k) () (fun _ _ _ _=>()) y a s k) (fun _ _ s k=>s k) (fun _ _ _ s k=>s k) (fun _ _ _ s k=>s k) (fun _ _ _ _ _ _ s k=>s k) (fun _ _ s k=>s k) (fun _ _ s k=>s k) (fun _ _ s k=>s k) (fun _ s k=>s k) (fun _ _ _ s k=>s k) (fun _ s k=>s k) (fun _ _ _ _ _ _ _ s k=>s k) (fun _ _ _ _ _ _ s k=>s k) (fun _ _ _ s k=>s k) (fun _ s k=>s k) (fun _ s k=>s k) (fun _ _ s k=>s k) (fun _ s k=>s k) (fun _ _ _ _ s k=>s k) (fun _ s k=>s k) (fun _ _ _ s k=>s k) (fun _ _ _ s k=>s k) () (fun _ _ _ _=>()) x y s k
noncomputable def ltR (x y:AV) (s:(AV → RJ) → RJ) (k:AV → RJ):RJ:=AV.rec (motive_1:=fun _=>AV → ((AV → RJ) → RJ) → (AV → RJ) → RJ) (motive_2:=fun _=>Unit) (fun _ s k=>s k) (fun a y s k=>AV.rec (motive_1:=fun _=>Nat → ((AV → RJ) → RJ) → (AV → RJ) → RJ) (motive_2:=fun _=>Unit) (fun _ s k=>s k) (fun b a s k=>Bool.rec (motive:=fun _=>(AV → RJ) → RJ) (fun k=>k (.vb false)) (fun k=>k (.vb true)) (Nat.ble (Nat.succ a) b) k) (fun _ _ s k=>s k) (fun _ _ _ s k=>s k) (fun _ _ _ s k=>s k) (fun _ _ _ _ _ _ s k=>s k) (fun _ _ s k=>s k) (fun _ _ s k=>s k) (fun _ _ s k=>s k) (fun _ s k=>s k) (fun _ _ _ s k=>s k) (fun _ s k=>s k) (fun _ _ _ _ _ _ _ s k=>s k) (fun _ _ _ _ _ _ s k=>s k) (fun _ _ _ s k=>s k) (fun _ s k=>s k) (fun _ s k=>s k) (fun _ _ s k=>s k) (fun _ s k=>s k) (fun _ _ _ _ s k=>s k) (fun _ s k=>s k) (fun _ _ _ s k=>s k) (fun _ _ _ s k=>s k) () (fun _ _ _ _=>()) y a s k) (fun _ _ s k=>s k) (fun _ _ _ s k=>s k) (fun _ _ _ s k=>s k) (fun _ _ _ _ _ _ s k=>s k) (fun _ _ s k=>s k) (fun _ _ s k=>s k) (fun _ _ s k=>s k) (fun _ s k=>s k) (fun _ _ _ s k=>s k) (fun _ s k=>s k) (fun _ _ _ _ _ _ _ s k=>s k) (fun _ _ _ _ _ _ s k=>s k) (fun _ _ _ s k=>s k) (fun _ s k=>s k) (fun _ s k=>s k) (fun _ _ s k=>s k) (fun _ s k=>s k) (fun _ _ _ _ s k=>s k) (fun _ s k=>s k) (fun _ _ _ s k=>s k) (fun _ _ _ s k=>s k) () (fun _ _ _ _=>()) x y s k
noncomputable def leR (x y:AV) (s:(AV → RJ) → RJ) (k:AV → RJ):RJ:=AV.rec (motive_1:=fun _=>AV → ((AV → RJ) → RJ) → (AV → RJ) → RJ) (motive_2:=fun _=>Unit) (fun _ s k=>s k) (fun a y s k=>AV.rec (motive_1:=fun _=>Nat → ((AV → RJ) → RJ) → (AV → RJ) → RJ) (motive_2:=fun _=>Unit) (fun _ s k=>s k) (fun b a s k=>Bool.rec (motive:=fun _=>(AV → RJ) → RJ) (fun k=>k (.vb false)) (fun k=>k (.vb true)) (Nat.ble a b) k) (fun _ _ s k=>s k) (fun _ _ _ s k=>s k) (fun _ _ _ s k=>s k) (fun _ _ _ _ _ _ s k=>s k) (fun _ _ s k=>s k) (fun _ _ s k=>s k) (fun _ _ s k=>s k) (fun _ s k=>s k) (fun _ _ _ s k=>s k) (fun _ s k=>s k) (fun _ _ _ _ _ _ _ s k=>s k) (fun _ _ _ _ _ _ s k=>s k) (fun _ _ _ s k=>s k) (fun _ s k=>s k) (fun _ s k=>s k) (fun _ _ s k=>s k) (fun _ s k=>s k) (fun _ _ _ _ s k=>s k) (fun _ s k=>s k) (fun _ _ _ s k=>s k) (fun _ _ _ s k=>s k) () (fun _ _ _ _=>()) y a s k) (fun _ _ s k=>s k) (fun _ _ _ s k=>s k) (fun _ _ _ s k=>s k) (fun _ _ _ _ _ _ s k=>s k) (fun _ _ s k=>s k) (fun _ _ s k=>s k) (fun _ _ s k=>s k) (fun _ s k=>s k) (fun _ _ _ s k=>s k) (fun _ s k=>s k) (fun _ _ _ _ _ _ _ s k=>s k) (fun _ _ _ _ _ _ s k=>s k) (fun _ _ _ s k=>s k) (fun _ s k=>s k) (fun _ s k=>s k) (fun _ _ s k=>s k) (fun _ s k=>s k) (fun _ _ _ _ s k=>s k) (fun _ s k=>s k) (fun _ _ _ s k=>s k) (fun _ _ _ s k=>s k) () (fun _ _ _ _=>()) x y s k
noncomputable def eqR (x y:AV) (s:(AV → RJ) → RJ) (k:AV → RJ):RJ:=AV.rec (motive_1:=fun _=>AV → ((AV → RJ) → RJ) → (AV → RJ) → RJ) (motive_2:=fun _=>Unit) (fun _ s k=>s k) (fun a y s k=>AV.rec (motive_1:=fun _=>Nat → ((AV → RJ) → RJ) → (AV → RJ) → RJ) (motive_2:=fun _=>Unit) (fun _ s k=>s k) (fun b a s k=>Bool.rec (motive:=fun _=>(AV → RJ) → RJ) (fun k=>k (.vb false)) (fun k=>k (.vb true)) (Nat.beq a b) k) (fun _ _ s k=>s k) (fun _ _ _ s k=>s k) (fun _ _ _ s k=>s k) (fun _ _ _ _ _ _ s k=>s k) (fun _ _ s k=>s k) (fun _ _ s k=>s k) (fun _ _ s k=>s k) (fun _ s k=>s k) (fun _ _ _ s k=>s k) (fun _ s k=>s k) (fun _ _ _ _ _ _ _ s k=>s k) (fun _ _ _ _ _ _ s k=>s k) (fun _ _ _ s k=>s k) (fun _ s k=>s k) (fun _ s k=>s k) (fun _ _ s k=>s k) (fun _ s k=>s k) (fun _ _ _ _ s k=>s k) (fun _ s k=>s k) (fun _ _ _ s k=>s k) (fun _ _ _ s k=>s k) () (fun _ _ _ _=>()) y a s k) (fun _ _ s k=>s k) (fun _ _ _ s k=>s k) (fun _ _ _ s k=>s k) (fun _ _ _ _ _ _ s k=>s k) (fun _ _ s k=>s k) (fun _ _ s k=>s k) (fun _ _ s k=>s k) (fun _ s k=>s k) (fun _ _ _ s k=>s k) (fun _ s k=>s k) (fun _ _ _ _ _ _ _ s k=>s k) (fun _ _ _ _ _ _ s k=>s k) (fun _ _ _ s k=>s k) (fun _ s k=>s k) (fun _ s k=>s k) (fun _ _ s k=>s k) (fun _ s k=>s k) (fun _ _ _ _ s k=>s k) (fun _ s k=>s k) (fun _ _ _ s k=>s k) (fun _ _ _ s k=>s k) () (fun _ _ _ _=>()) x y s k
noncomputable def neR (x y:AV) (s:(AV → RJ) → RJ) (k:AV → RJ):RJ:=AV.rec (motive_1:=fun _=>AV → ((AV → RJ) → RJ) → (AV → RJ) → RJ) (motive_2:=fun _=>Unit) (fun _ s k=>s k) (fun a y s k=>AV.rec (motive_1:=fun _=>Nat → ((AV → RJ) → RJ) → (AV → RJ) → RJ) (motive_2:=fun _=>Unit) (fun _ s k=>s k) (fun b a s k=>Bool.rec (motive:=fun _=>(AV → RJ) → RJ) (fun k=>k (.vb true)) (fun k=>k (.vb false)) (Nat.beq a b) k) (fun _ _ s k=>s k) (fun _ _ _ s k=>s k) (fun _ _ _ s k=>s k) (fun _ _ _ _ _ _ s k=>s k) (fun _ _ s k=>s k) (fun _ _ s k=>s k) (fun _ _ s k=>s k) (fun _ s k=>s k) (fun _ _ _ s k=>s k) (fun _ s k=>s k) (fun _ _ _ _ _ _ _ s k=>s k) (fun _ _ _ _ _ _ s k=>s k) (fun _ _ _ s k=>s k) (fun _ s k=>s k) (fun _ s k=>s k) (fun _ _ s k=>s k) (fun _ s k=>s k) (fun _ _ _ _ s k=>s k) (fun _ s k=>s k) (fun _ _ _ s k=>s k) (fun _ _ _ s k=>s k) () (fun _ _ _ _=>()) y a s k) (fun _ _ s k=>s k) (fun _ _ _ s k=>s k) (fun _ _ _ s k=>s k) (fun _ _ _ _ _ _ s k=>s k) (fun _ _ s k=>s k) (fun _ _ s k=>s k) (fun _ _ s k=>s k) (fun _ s k=>s k) (fun _ _ _ s k=>s k) (fun _ s k=>s k) (fun _ _ _ _ _ _ _ s k=>s k) (fun _ _ _ _ _ _ s k=>s k) (fun _ _ _ s k=>s k) (fun _ s k=>s k) (fun _ s k=>s k) (fun _ _ s k=>s k) (fun _ s k=>s k) (fun _ _ _ _ s k=>s k) (fun _ s k=>s k) (fun _ _ _ s k=>s k) (fun _ _ _ s k=>s k) () (fun _ _ _ _=>()) x y s k
noncomputable def esR (x y:AV) (s:(AV → RJ) → RJ) (k:AV → RJ):RJ:=AV.rec (motive_1:=fun _=>AV → ((AV → RJ) → RJ) → (AV → RJ) → RJ) (motive_2:=fun _=>Unit) (fun _ s k=>s k) (fun _ _ s k=>s k) (fun _ _ s k=>s k) (fun _ _ _ s k=>s k) (fun _ _ _ s k=>s k) (fun _ _ _ _ _ _ s k=>s k) (fun a y s k=>AV.rec (motive_1:=fun _=>List Nat → ((AV → RJ) → RJ) → (AV → RJ) → RJ) (motive_2:=fun _=>Unit) (fun _ s k=>s k) (fun _ _ s k=>s k) (fun _ _ s k=>s k) (fun _ _ _ s k=>s k) (fun _ _ _ s k=>s k) (fun _ _ _ _ _ _ s k=>s k) (fun b a s k=>Bool.rec (motive:=fun _=>(AV → RJ) → RJ) (fun k=>k (.vb false)) (fun k=>k (.vb true)) (beqN a b) k) (fun _ _ s k=>s k) (fun _ _ s k=>s k) (fun _ s k=>s k) (fun _ _ _ s k=>s k) (fun _ s k=>s k) (fun _ _ _ _ _ _ _ s k=>s k) (fun _ _ _ _ _ _ s k=>s k) (fun _ _ _ s k=>s k) (fun _ s k=>s k) (fun _ s k=>s k) (fun _ _ s k=>s k) (fun _ s k=>s k) (fun _ _ _ _ s k=>s k) (fun _ s k=>s k) (fun _ _ _ s k=>s k) (fun _ _ _ s k=>s k) () (fun _ _ _ _=>()) y a s k) (fun _ _ s k=>s k) (fun _ _ s k=>s k) (fun _ s k=>s k) (fun _ _ _ s k=>s k) (fun _ s k=>s k) (fun _ _ _ _ _ _ _ s k=>s k) (fun _ _ _ _ _ _ s k=>s k) (fun _ _ _ s k=>s k) (fun _ s k=>s k) (fun _ s k=>s k) (fun _ _ s k=>s k) (fun _ s k=>s k) (fun _ _ _ _ s k=>s k) (fun _ s k=>s k) (fun _ _ _ s k=>s k) (fun _ _ _ s k=>s k) () (fun _ _ _ _=>()) x y s k
noncomputable def nsR (x y:AV) (s:(AV → RJ) → RJ) (k:AV → RJ):RJ:=AV.rec (motive_1:=fun _=>AV → ((AV → RJ) → RJ) → (AV → RJ) → RJ) (motive_2:=fun _=>Unit) (fun _ s k=>s k) (fun _ _ s k=>s k) (fun _ _ s k=>s k) (fun _ _ _ s k=>s k) (fun _ _ _ s k=>s k) (fun _ _ _ _ _ _ s k=>s k) (fun a y s k=>AV.rec (motive_1:=fun _=>List Nat → ((AV → RJ) → RJ) → (AV → RJ) → RJ) (motive_2:=fun _=>Unit) (fun _ s k=>s k) (fun _ _ s k=>s k) (fun _ _ s k=>s k) (fun _ _ _ s k=>s k) (fun _ _ _ s k=>s k) (fun _ _ _ _ _ _ s k=>s k) (fun b a s k=>Bool.rec (motive:=fun _=>(AV → RJ) → RJ) (fun k=>k (.vb true)) (fun k=>k (.vb false)) (beqN a b) k) (fun _ _ s k=>s k) (fun _ _ s k=>s k) (fun _ s k=>s k) (fun _ _ _ s k=>s k) (fun _ s k=>s k) (fun _ _ _ _ _ _ _ s k=>s k) (fun _ _ _ _ _ _ s k=>s k) (fun _ _ _ s k=>s k) (fun _ s k=>s k) (fun _ s k=>s k) (fun _ _ s k=>s k) (fun _ s k=>s k) (fun _ _ _ _ s k=>s k) (fun _ s k=>s k) (fun _ _ _ s k=>s k) (fun _ _ _ s k=>s k) () (fun _ _ _ _=>()) y a s k) (fun _ _ s k=>s k) (fun _ _ s k=>s k) (fun _ s k=>s k) (fun _ _ _ s k=>s k) (fun _ s k=>s k) (fun _ _ _ _ _ _ _ s k=>s k) (fun _ _ _ _ _ _ s k=>s k) (fun _ _ _ s k=>s k) (fun _ s k=>s k) (fun _ s k=>s k) (fun _ _ s k=>s k) (fun _ s k=>s k) (fun _ _ _ _ s k=>s k) (fun _ s k=>s k) (fun _ _ _ s k=>s k) (fun _ _ _ s k=>s k) () (fun _ _ _ _=>()) x y s k
noncomputable def gtR (x y:AV) (s:(AV → RJ) → RJ) (k:AV → RJ):RJ:=ltR y x s k
noncomputable def geR (x y:AV) (s:(AV → RJ) → RJ) (k:AV → RJ):RJ:=leR y x s k
noncomputable def vR (V:AV → AV → AV) (x y:AV) (s:(AV → RJ) → RJ) (k:AV → RJ):RJ:=knK (V x y) k (s k)
theorem vR_ok (V:AV → AV → AV):Q2Ok (vR V) V:=by
 intro a b
 unfold vR
 by_cases h:V a b = .vno
 ·exact Or.inl fun s k=>by rw [h]; rfl
 ·exact Or.inr ⟨h,fun s k=>knK_kn h k _⟩
theorem num2 {F:Q2} {V:AV → AV → AV} (h1:∀ a b,(∀ n,a ≠ .vn n) → ∀ s k,F a b s k = s k) (h2:∀ a b,(∀ n,b ≠ .vn n) → ∀ s k,F (.vn a) b s k = s k)
  (h3:∀ a b,(∀ s k,F (.vn a) (.vn b) s k = s k) ∨ V (.vn a) (.vn b) ≠ .vno ∧ ∀ s k,F (.vn a) (.vn b) s k = k (V (.vn a) (.vn b))):Q2Ok F V:=by
 intro a b
 by_cases ha:∃ n,a = .vn n
 ·obtain ⟨n,rfl⟩:=ha
  by_cases hb:∃ m,b = .vn m
  ·obtain ⟨m,rfl⟩:=hb
   exact h3 n m
  ·exact Or.inl (h2 n b fun m e=>hb ⟨m,e⟩)
 ·exact Or.inl (h1 a b fun m e=>ha ⟨m,e⟩)
theorem fit_le (n:Nat):(Nat.ble n 9223372036854775807 = false ∧ fit63 n = .vno) ∨ (Nat.ble n 9223372036854775807 = true ∧ fit63 n = .vn n):=by
 unfold fit63
 rw [force_eq]
 have e:Nat.blt n 9223372036854775808 = Nat.ble n 9223372036854775807:=by
  rw [bltD]
  cases hb:Nat.ble n 9223372036854775807
  ·exact decide_eq_false fun h=>by rw [Nat.ble_eq_true_of_le (by omega)] at hb; cases hb
  ·exact decide_eq_true (by have:=Nat.le_of_ble_eq_true hb; omega)
 rw [e]
 cases Nat.ble n 9223372036854775807
 ·exact Or.inl ⟨rfl,rfl⟩
 ·exact Or.inr ⟨rfl,rfl⟩
theorem addR_ok:Q2Ok addR adF:=by
 refine num2 (fun a b h s k=>by cases a <;> first | rfl | exact absurd rfl (h _)) (fun a b h s k=>by cases b <;> first | rfl | exact absurd rfl (h _)) fun a b => ?_
 have e:∀ s k,addR (.vn a) (.vn b) s k = Bool.rec (motive:=fun _=>Nat → ((AV → RJ) → RJ) → (AV → RJ) → RJ) (fun _ s k=>s k) (fun c _ k=>k (.vn c)) (Nat.ble (Nat.add a b) 9223372036854775807) (Nat.add a b) s k:=fun _ _=>rfl
 have e2:adF (.vn a) (.vn b) = fit63 (Nat.add a b):=rfl
 simp only [e,e2]
 rcases fit_le (Nat.add a b) with ⟨h1,h2⟩ | ⟨h1,h2⟩
 ·rw [h1]; exact Or.inl fun _ _=>rfl
 ·rw [h1,h2]; exact Or.inr ⟨(fun e=>by cases e),fun _ _=>rfl⟩
theorem subR_ok:Q2Ok subR subF:=by
 refine num2 (fun a b h s k=>by cases a <;> first | rfl | exact absurd rfl (h _)) (fun a b h s k=>by cases b <;> first | rfl | exact absurd rfl (h _)) fun a b => ?_
 have e:∀ s k,subR (.vn a) (.vn b) s k = Bool.rec (motive:=fun _=>Nat → Nat → ((AV → RJ) → RJ) → (AV → RJ) → RJ) (fun _ _ s k=>s k) (fun a b s k=>Bool.rec (motive:=fun _=>Nat → ((AV → RJ) → RJ) → (AV → RJ) → RJ) (fun _ s k=>s k) (fun c _ k=>k (.vn c)) (Nat.ble (Nat.sub a b) 9223372036854775807) (Nat.sub a b) s k) (Nat.ble b a) a b s k:=fun _ _=>rfl
 have e2:subF (.vn a) (.vn b) = Bool.rec (motive:=fun _=>AV) .vno (fit63 (Nat.sub a b)) (Nat.ble b a):=rfl
 simp only [e,e2]
 cases Nat.ble b a
 ·exact Or.inl fun _ _=>rfl
 ·show (∀ s k,(Bool.rec (motive:=fun _=>Nat → ((AV → RJ) → RJ) → (AV → RJ) → RJ) (fun _ s k=>s k) (fun c _ k=>k (.vn c)) (Nat.ble (Nat.sub a b) 9223372036854775807) (Nat.sub a b) s k:RJ) = s k) ∨ fit63 (Nat.sub a b) ≠ .vno ∧
   ∀ s k,(Bool.rec (motive:=fun _=>Nat → ((AV → RJ) → RJ) → (AV → RJ) → RJ) (fun _ s k=>s k) (fun c _ k=>k (.vn c)) (Nat.ble (Nat.sub a b) 9223372036854775807) (Nat.sub a b) s k:RJ) = k (fit63 (Nat.sub a b))
  rcases fit_le (Nat.sub a b) with ⟨h1,h2⟩ | ⟨h1,h2⟩
  ·rw [h1]; exact Or.inl fun _ _=>rfl
  ·rw [h1,h2]; exact Or.inr ⟨(fun e=>by cases e),fun _ _=>rfl⟩
theorem cmp_ok {F:Q2} {V:AV → AV → AV} (h1:∀ a b,(∀ n,a ≠ .vn n) → ∀ s k,F a b s k = s k) (h2:∀ a b,(∀ n,b ≠ .vn n) → ∀ s k,F (.vn a) b s k = s k) {f:Nat → Nat → Bool} (hV:∀ a b,V (.vn a) (.vn b) = .vb (f a b))
  (hF:∀ a b s k,F (.vn a) (.vn b) s k = k (.vb (f a b))):Q2Ok F V:=num2 h1 h2 fun a b=>Or.inr ⟨(by rw [hV]; exact (fun e=>by cases e)),fun s k=>by rw [hV,hF]⟩
theorem ltR_ok:Q2Ok ltR ltnF:=cmp_ok (f:=Nat.blt) (fun a b h s k=>by cases a <;> first | rfl | exact absurd rfl (h _)) (fun a b h s k=>by cases b <;> first | rfl | exact absurd rfl (h _)) (fun _ _=>rfl) fun a b s k=>by
 show (Bool.rec (motive:=fun _=>(AV → RJ) → RJ) (fun k=>k (.vb false)) (fun k=>k (.vb true)) (Nat.blt a b) k:RJ) = _
 cases Nat.blt a b <;> rfl
theorem leR_ok:Q2Ok leR lnF':=cmp_ok (f:=Nat.ble) (fun a b h s k=>by cases a <;> first | rfl | exact absurd rfl (h _)) (fun a b h s k=>by cases b <;> first | rfl | exact absurd rfl (h _)) (fun _ _=>rfl) fun a b s k=>by
 show (Bool.rec (motive:=fun _=>(AV → RJ) → RJ) (fun k=>k (.vb false)) (fun k=>k (.vb true)) (Nat.ble a b) k:RJ) = _
 cases Nat.ble a b <;> rfl
theorem eqR_ok:Q2Ok eqR eqnF:=cmp_ok (f:=Nat.beq) (fun a b h s k=>by cases a <;> first | rfl | exact absurd rfl (h _)) (fun a b h s k=>by cases b <;> first | rfl | exact absurd rfl (h _)) (fun _ _=>rfl) fun a b s k=>by
 show (Bool.rec (motive:=fun _=>(AV → RJ) → RJ) (fun k=>k (.vb false)) (fun k=>k (.vb true)) (Nat.beq a b) k:RJ) = _
 cases Nat.beq a b <;> rfl
theorem neR_ok:Q2Ok neR nenF:=cmp_ok (f:=fun a b => !Nat.beq a b) (fun a b h s k=>by cases a <;> first | rfl | exact absurd rfl (h _)) (fun a b h s k=>by cases b <;> first | rfl | exact absurd rfl (h _))
 (fun a b=>by show (Bool.rec (motive:=fun _=>AV) (.vb true) (.vb false) (Nat.beq a b):AV) = .vb (!Nat.beq a b); cases Nat.beq a b <;> rfl) fun a b s k=>by
 show (Bool.rec (motive:=fun _=>(AV → RJ) → RJ) (fun k=>k (.vb true)) (fun k=>k (.vb false)) (Nat.beq a b) k:RJ) = k (.vb (!Nat.beq a b))
 cases Nat.beq a b <;> rfl
theorem txt2 {F:Q2} {V:AV → AV → AV} (h1:∀ a b,(∀ n,a ≠ .vs n) → ∀ s k,F a b s k = s k) (h2:∀ a b,(∀ n,b ≠ .vs n) → ∀ s k,F (.vs a) b s k = s k) {f:List Nat → List Nat → Bool} (hV:∀ a b,V (.vs a) (.vs b) = .vb (f a b))
  (hF:∀ a b s k,F (.vs a) (.vs b) s k = k (.vb (f a b))):Q2Ok F V:=by
 intro a b
 by_cases ha:∃ n,a = .vs n
 ·obtain ⟨n,rfl⟩:=ha
  by_cases hb:∃ m,b = .vs m
  ·obtain ⟨m,rfl⟩:=hb
   exact Or.inr ⟨(by rw [hV]; exact (fun e=>by cases e)),fun s k=>by rw [hV,hF]⟩
  ·exact Or.inl (h2 n b fun m e=>hb ⟨m,e⟩)
 ·exact Or.inl (h1 a b fun m e=>ha ⟨m,e⟩)
theorem esR_ok:Q2Ok esR eqsF:=txt2 (f:=beqN) (fun a b h s k=>by cases a <;> first | rfl | exact absurd rfl (h _)) (fun a b h s k=>by cases b <;> first | rfl | exact absurd rfl (h _)) (fun _ _=>rfl) fun a b s k=>by
 show (Bool.rec (motive:=fun _=>(AV → RJ) → RJ) (fun k=>k (.vb false)) (fun k=>k (.vb true)) (beqN a b) k:RJ) = _
 cases beqN a b <;> rfl
theorem nsR_ok:Q2Ok nsR nesF:=txt2 (f:=fun a b => !beqN a b) (fun a b h s k=>by cases a <;> first | rfl | exact absurd rfl (h _)) (fun a b h s k=>by cases b <;> first | rfl | exact absurd rfl (h _))
 (fun a b=>by show (Bool.rec (motive:=fun _=>AV) (.vb true) (.vb false) (beqN a b):AV) = .vb (!beqN a b); cases beqN a b <;> rfl) fun a b s k=>by
 show (Bool.rec (motive:=fun _=>(AV → RJ) → RJ) (fun k=>k (.vb true)) (fun k=>k (.vb false)) (beqN a b) k:RJ) = k (.vb (!beqN a b))
 cases beqN a b <;> rfl
theorem dq_of {g:G} {ds:List Nat} {o:Oper} {V:Fm → Tr Ob → Nat → AV} (hc:cop g o = .q V) {F:List AV → Tr Ob → Nat → ((AV → RJ) → RJ) → (AV → RJ) → RJ} {W:Fm → Tr Ob → AV}
  (hF:∀ t h nx,(∀ s k,F (vl t ds) h nx s k = s k) ∨ W (mask ds t) h ≠ .vno ∧ ∀ s k,F (vl t ds) h nx s k = k (W (mask ds t) h)) (hV:∀ t h nx,W t h ≠ .vno → V t h nx = W t h) :
  DoQ (cop g o) ds fun vs h nx k=>F vs h nx (slq g (ds,o) vs h nx) k:=by
 obtain ⟨V',hc',hs⟩:=slq_ok (ds:=ds) hc
 refine ⟨V,hc,fun t h nx => ?_⟩
 rw [hc] at hc'
 cases hc'
 rcases hF t h nx with e | ⟨e1,e2⟩
 ·simp only [e]
  exact hs t h nx
 ·simp only [e2]
  exact Or.inr ⟨_,hV _ h nx e1,e1,fun _=>rfl⟩
noncomputable def d2 (F:Q2) (g:G) (ds:List Nat) (o:Oper) (x y:Operand):DO := .q fun vs h nx k=>F ((cev x).f (unm ds vs)) ((cev y).f (unm ds vs)) (slq g (ds,o) vs h nx) k
theorem d2_ok {F:Q2} {V:AV → AV → AV} (hF:Q2Ok F V) {g:G} {ds:List Nat} {o:Oper} {op:Op} {x y:Operand} (hc:cop g o = kBin g op V x y):DoOk (cop g o) ds (d2 F g ds o x y):=by
 have hc2:cop g o = KO.q (fun t h nx=>Bool.rec (motive:=fun _=>AV) (qSlow g op t h nx) (V ((cev x).f t) ((cev y).f t)) (isKn (V ((cev x).f t) ((cev y).f t)))):=by
  rw [hc]; unfold kBin
  generalize cev x = e
  generalize cev y = e'
  cases e
  cases e'
  rfl
 refine dq_of (F:=fun vs h nx s k=>F ((cev x).f (unm ds vs)) ((cev y).f (unm ds vs)) s k) (W:=fun t _=>V ((cev x).f t) ((cev y).f t)) hc2 (fun t h nx => ?_) fun t h nx hk => ?_
 ·simp only [unm_vl]; exact hF _ _
 ·show (Bool.rec (motive:=fun _=>AV) (qSlow g op t h nx) (V ((cev x).f t) ((cev y).f t)) (isKn (V ((cev x).f t) ((cev y).f t))):AV) = _
  rw [isKn_of hk]
abbrev Q1:=AV → Tr Ob → ((AV → RJ) → RJ) → (AV → RJ) → RJ
def Q1Ok (F:Q1) (V:AV → Tr Ob → AV):Prop := ∀ a h,(∀ s k,F a h s k = s k) ∨ V a h ≠ .vno ∧ ∀ s k,F a h s k = k (V a h)
noncomputable def d1 (F:Q1) (g:G) (ds:List Nat) (o:Oper) (x:Operand):DO := .q fun vs h nx k=>F ((cev x).f (unm ds vs)) h (slq g (ds,o) vs h nx) k
theorem d1_ok {F:Q1} {V:AV → Tr Ob → AV} (hF:Q1Ok F V) {g:G} {ds:List Nat} {o:Oper} {x:Operand} {W:Fm → Tr Ob → Nat → AV} (hc:cop g o = KO.q W) (hW:∀ t h nx,V ((cev x).f t) h ≠ .vno → W t h nx = V ((cev x).f t) h):DoOk (cop g o) ds (d1 F g ds o x):=by
 refine dq_of (F:=fun vs h nx s k=>F ((cev x).f (unm ds vs)) h s k) (W:=fun t h=>V ((cev x).f t) h) hc (fun t h nx => ?_) hW
 simp only [unm_vl]; exact hF _ _
noncomputable def ixR (z:Nat) (x y:AV) (s:(AV → RJ) → RJ) (k:AV → RJ):RJ:=AV.rec (motive_1:=fun _=>Nat → AV → ((AV → RJ) → RJ) → (AV → RJ) → RJ) (motive_2:=fun _=>Unit) (fun _ _ s k=>s k) (fun _ _ _ s k=>s k) (fun _ _ _ s k=>s k) (fun _ _ _ _ s k=>s k) (fun _ _ _ _ s k=>s k) (fun _ _ _ _ _ _ _ s k=>s k) (fun _ _ _ s k=>s k) (fun _ _ _ s k=>s k) (fun _ _ _ s k=>s k) (fun _ _ s k=>s k) (fun _ _ _ _ s k=>s k) (fun _ _ s k=>s k) (fun b o n _ _ _ z y s k=>AV.rec (motive_1:=fun _=>Nat → Nat → Nat → Nat → ((AV → RJ) → RJ) → (AV → RJ) → RJ) (motive_2:=fun _=>Unit) (fun _ _ _ _ s k=>s k) (fun i b o n z s k=>Bool.rec (motive:=fun _=>Nat → Nat → Nat → Nat → ((AV → RJ) → RJ) → (AV → RJ) → RJ) (fun _ _ _ _ s k=>s k) (fun i b o z s k=>Nat.rec (motive:=fun _=>Nat → (AV → RJ) → RJ) (fun b k=>k (.vp b 0)) (fun c _ b k=>k (.vp b c)) (Nat.succ (Nat.add o (Nat.mul i z))) b k) (Nat.ble (Nat.succ i) n) i b o z s k) (fun _ _ _ _ _ s k=>s k) (fun _ _ _ _ _ _ s k=>s k) (fun _ _ _ _ _ _ s k=>s k) (fun _ _ _ _ _ _ _ _ _ s k=>s k) (fun _ _ _ _ _ s k=>s k) (fun _ _ _ _ _ s k=>s k) (fun _ _ _ _ _ s k=>s k) (fun _ _ _ _ s k=>s k) (fun _ _ _ _ _ _ s k=>s k) (fun _ _ _ _ s k=>s k) (fun _ _ _ _ _ _ _ _ _ _ s k=>s k) (fun _ _ _ _ _ _ _ _ _ s k=>s k) (fun _ _ _ _ _ _ s k=>s k) (fun _ _ _ _ s k=>s k) (fun _ _ _ _ s k=>s k) (fun _ _ _ _ _ s k=>s k) (fun _ _ _ _ s k=>s k) (fun _ _ _ _ _ _ _ s k=>s k) (fun _ _ _ _ s k=>s k) (fun _ _ _ _ _ _ s k=>s k) (fun _ _ _ _ _ _ s k=>s k) () (fun _ _ _ _=>()) y b o n z s k) (fun _ _ _ _ _ _ _ s k=>s k) (fun _ _ _ _ s k=>s k) (fun _ _ s k=>s k) (fun _ _ s k=>s k) (fun _ _ _ s k=>s k) (fun _ _ s k=>s k) (fun _ _ _ _ _ s k=>s k) (fun _ _ s k=>s k) (fun _ _ _ _ s k=>s k) (fun _ _ _ _ s k=>s k) () (fun _ _ _ _=>()) x z y s k
theorem ixR_ok (z:Nat):Q2Ok (ixR z) (ixF z):=by
 intro a b
 cases a <;> first | exact Or.inl fun _ _=>rfl | skip
 rename_i bb oo n c e z'
 cases b <;> first | exact Or.inl fun _ _=>rfl | skip
 rename_i i
 have e0:ixF z (.vsl bb oo n c e z') (.vn i) = Bool.rec (motive:=fun _=>AV) .vno (.vp bb (Nat.add oo (Nat.mul i z))) (Nat.blt i n):=rfl
 have e1:∀ s k,ixR z (.vsl bb oo n c e z') (.vn i) s k = Bool.rec (motive:=fun _=>Nat → Nat → Nat → Nat → ((AV → RJ) → RJ) → (AV → RJ) → RJ) (fun _ _ _ _ s k=>s k) (fun i b o z s k=>Nat.rec (motive:=fun _=>Nat → (AV → RJ) → RJ) (fun b k=>k (.vp b 0)) (fun c _ b k=>k (.vp b c)) (Nat.succ (Nat.add o (Nat.mul i z))) b k) (Nat.blt i n) i bb oo z s k:=fun _ _=>rfl
 simp only [e0,e1]
 cases Nat.blt i n
 ·exact Or.inl fun _ _=>rfl
 ·exact Or.inr ⟨(fun e=>by cases e),fun _ _=>rfl⟩
abbrev P1:=AV → (AV → RJ) → RJ
def P1Ok (F:P1) (V:AV → AV):Prop := ∀ a,(∀ k, ¬ GoodR (F a k)) ∨ V a ≠ .vno ∧ ∀ k,F a k = k (V a)
noncomputable def e1 (F:P1) (ds:List Nat) (x:Operand):DO := .q fun vs _ _ k=>F ((cev x).f (unm ds vs)) k
theorem e1_ok {F:P1} {V:AV → AV} (hF:P1Ok F V) {g:G} {ds:List Nat} {o:Oper} {x:Operand} {W:Fm → Tr Ob → Nat → AV} (hc:cop g o = KO.q W) (hW:∀ t h nx,V ((cev x).f t) ≠ .vno → W t h nx = V ((cev x).f t)):DoOk (cop g o) ds (e1 F ds x):=by
 refine ⟨W,hc,fun t h nx => ?_⟩
 simp only [unm_vl]
 rcases hF ((cev x).f (mask ds t)) with e | ⟨e1,e2⟩
 ·exact Or.inl e
 ·exact Or.inr ⟨_,hW _ _ _ e1,e1,e2⟩
abbrev H1:=AV → Tr Ob → (AV → RJ) → RJ
def H1Ok (F:H1) (V:AV → Tr Ob → AV):Prop := ∀ a h,(∀ k, ¬ GoodR (F a h k)) ∨ V a h ≠ .vno ∧ ∀ k,F a h k = k (V a h)
noncomputable def l1 (F:H1) (ds:List Nat) (x:Operand):DO := .q fun vs h _ k=>F ((cev x).f (unm ds vs)) h k
theorem l1_ok {F:H1} {V:AV → Tr Ob → AV} (hF:H1Ok F V) {g:G} {ds:List Nat} {o:Oper} {x:Operand} {W:Fm → Tr Ob → Nat → AV} (hc:cop g o = KO.q W) (hW:∀ t h nx,V ((cev x).f t) h ≠ .vno → W t h nx = V ((cev x).f t) h):DoOk (cop g o) ds (l1 F ds x):=by
 refine ⟨W,hc,fun t h nx => ?_⟩
 simp only [unm_vl]
 rcases hF ((cev x).f (mask ds t)) h with e | ⟨e1,e2⟩
 ·exact Or.inl e
 ·exact Or.inr ⟨_,hW _ _ _ e1,e1,e2⟩
noncomputable def ntR (a : AV) (k : AV → RJ) : RJ := AV.rec (motive_1 := fun _ => (AV → RJ) → RJ) (motive_2 := fun _ => Unit) (fun _ => .er 22 "") (fun _ _ => .er 22 "") (fun x k => Bool.rec (motive := fun _ => (AV → RJ) → RJ) (fun k => k (.vb true)) (fun k => k (.vb false)) x k) (fun _ _ _ => .er 22 "") (fun _ _ _ => .er 22 "") (fun _ _ _ _ _ _ => .er 22 "") (fun _ _ => .er 22 "") (fun _ _ => .er 22 "") (fun _ _ => .er 22 "") (fun _ => .er 22 "") (fun _ _ _ => .er 22 "") (fun _ => .er 22 "") (fun _ _ _ _ _ _ _ => .er 22 "") (fun _ _ _ _ _ _ => .er 22 "") (fun _ _ _ => .er 22 "") (fun _ => .er 22 "") (fun _ => .er 22 "") (fun _ _ => .er 22 "") (fun _ => .er 22 "") (fun _ _ _ _ => .er 22 "") (fun _ => .er 22 "") (fun _ _ _ => .er 22 "") (fun _ _ _ => .er 22 "") () (fun _ _ _ _ => ()) a k
noncomputable def nlR (a : AV) (k : AV → RJ) : RJ := AV.rec (motive_1 := fun _ => (AV → RJ) → RJ) (motive_2 := fun _ => Unit) (fun _ => .er 22 "") (fun _ _ => .er 22 "") (fun _ _ => .er 22 "") (fun _ _ _ => .er 22 "") (fun _ _ _ => .er 22 "") (fun _ _ _ _ _ _ => .er 22 "") (fun _ _ => .er 22 "") (fun _ _ => .er 22 "") (fun _ _ => .er 22 "") (fun _ => .er 22 "") (fun b o k => k (.vp b o)) (fun _ => .er 22 "") (fun _ _ _ _ _ _ _ => .er 22 "") (fun _ _ _ _ _ _ => .er 22 "") (fun _ _ _ => .er 22 "") (fun _ => .er 22 "") (fun _ => .er 22 "") (fun _ _ => .er 22 "") (fun _ => .er 22 "") (fun f l _ k => k (.vfn f l)) (fun _ => .er 22 "") (fun _ _ _ => .er 22 "") (fun _ _ _ => .er 22 "") () (fun _ _ _ _ => ()) a k
noncomputable def faR (off : Nat) (a : AV) (k : AV → RJ) : RJ := AV.rec (motive_1 := fun _ => Nat → (AV → RJ) → RJ) (motive_2 := fun _ => Unit) (fun _ _ => .er 22 "") (fun _ _ _ => .er 22 "") (fun _ _ _ => .er 22 "") (fun _ _ _ _ => .er 22 "") (fun _ _ _ _ => .er 22 "") (fun _ _ _ _ _ _ _ => .er 22 "") (fun _ _ _ => .er 22 "") (fun _ _ _ => .er 22 "") (fun _ _ _ => .er 22 "") (fun _ _ => .er 22 "") (fun b o off k => Nat.rec (motive := fun _ => Nat → (AV → RJ) → RJ) (fun b k => k (.vp b 0)) (fun c _ b k => k (.vp b c)) (Nat.succ (Nat.add o off)) b k) (fun _ _ => .er 22 "") (fun _ _ _ _ _ _ _ _ => .er 22 "") (fun _ _ _ _ _ _ _ => .er 22 "") (fun _ _ _ _ => .er 22 "") (fun _ _ => .er 22 "") (fun _ _ => .er 22 "") (fun _ _ _ => .er 22 "") (fun _ _ => .er 22 "") (fun _ _ _ _ _ => .er 22 "") (fun _ _ => .er 22 "") (fun _ _ _ _ => .er 22 "") (fun _ _ _ _ => .er 22 "") () (fun _ _ _ _ => ()) a off k
theorem ntR_ok:P1Ok ntR notF:=by
 intro a
 cases a <;> first | exact Or.inl fun k=>er_bad | skip
 rename_i x
 cases x
 ·exact Or.inr ⟨(fun e=>by cases e),fun k=>rfl⟩
 ·exact Or.inr ⟨(fun e=>by cases e),fun k=>rfl⟩
theorem nlR_ok:P1Ok nlR nilF:=by
 intro a
 cases a <;> first | exact Or.inl fun k=>er_bad | exact Or.inr ⟨(fun e=>by cases e),fun k=>rfl⟩
theorem faR_ok (off:Nat):P1Ok (faR off) (addP off):=by
 intro a
 cases a <;> first | exact Or.inl fun k=>er_bad | exact Or.inr ⟨(fun e=>by cases e),fun k=>rfl⟩
inductive L2 where
 | mk (g:List AV → (AV → RJ) → RJ)
noncomputable def l2 (n : Nat) : L2 := Nat.rec (motive := fun _ => L2) (L2.mk (fun l k => List.rec (motive := fun _ => (AV → RJ) → RJ) (fun k => .er 22 "") (fun a _ _ k => knK a k (.er 22 "")) l k))
 (fun _ ih => L2.rec (motive := fun _ => L2) (fun g => L2.mk (fun l k => List.rec (motive := fun _ => (AV → RJ) → RJ) (fun k => .er 22 "") (fun _ r _ k => g r k) l k)) ih) n
noncomputable def nthK (n:Nat) (l:List AV) (k:AV → RJ):RJ:=L2.rec (motive:=fun _=>RJ) (fun g=>g l k) (l2 n)
theorem nthK_ok:∀ (n:Nat) (l:List AV),(∀ k, ¬ GoodR (nthK n l k)) ∨ nthV n l ≠ .vno ∧ ∀ k,nthK n l k = k (nthV n l)
 | 0,[]=>Or.inl fun k=>er_bad
 | 0,a :: l=>by
  by_cases h:a = .vno
  ·subst h; exact Or.inl fun k=>er_bad
  ·exact Or.inr ⟨h,fun k=>knK_kn h k _⟩
 | n + 1,l=>by
  have e1 : l2 (n + 1) = L2.rec (motive := fun _ => L2) (fun g => L2.mk (fun l k => List.rec (motive := fun _ => (AV → RJ) → RJ) (fun k => .er 22 "") (fun _ r _ k => g r k) l k)) (l2 n) := rfl
  have e2:lacc (n + 1) = La.rec (motive:=fun _=>La) (fun g=>La.mk (fun l=>List.rec (motive:=fun _=>AV) .vno (fun _ r _=>g r) l)) (lacc n):=rfl
  have e3:∀ x r k,nthK (n + 1) (x :: r) k = nthK n r k:=fun x r k=>by
   unfold nthK
   rw [e1]
  have e4:∀ x r,nthV (n + 1) (x :: r) = nthV n r:=fun x r=>by
   unfold nthV
   rw [e2]
  cases l with
  | nil=>
   refine Or.inl fun k => ?_
   have : nthK (n + 1) [] k = .er 22 "" := by
    unfold nthK
    rw [e1]
   rw [this]
   exact er_bad
  | cons x r=>
   simp only [e3,e4]
   exact nthK_ok n r
noncomputable def exR (n : Nat) (a : AV) (k : AV → RJ) : RJ := AV.rec (motive_1 := fun _ => Nat → (AV → RJ) → RJ) (motive_2 := fun _ => Unit) (fun _ _ => .er 22 "") (fun _ _ _ => .er 22 "") (fun _ _ _ => .er 22 "") (fun _ _ _ _ => .er 22 "") (fun _ _ _ _ => .er 22 "") (fun _ _ _ _ _ _ _ => .er 22 "") (fun _ _ _ => .er 22 "") (fun _ _ _ => .er 22 "") (fun _ _ _ => .er 22 "") (fun _ _ => .er 22 "") (fun _ _ _ _ => .er 22 "") (fun _ _ => .er 22 "") (fun _ _ _ _ _ _ _ _ => .er 22 "") (fun _ _ _ _ _ _ _ => .er 22 "") (fun _ _ _ _ => .er 22 "") (fun _ _ => .er 22 "") (fun _ _ => .er 22 "") (fun _ _ _ => .er 22 "") (fun _ _ => .er 22 "") (fun _ _ _ _ _ => .er 22 "") (fun _ _ => .er 22 "") (fun _ _ _ _ => .er 22 "") (fun l _ n k => nthK n l k) () (fun _ _ _ _ => ()) a n k
noncomputable def ldR (a : AV) (h : Tr Ob) (k : AV → RJ) : RJ := AV.rec (motive_1 := fun _ => Tr Ob → (AV → RJ) → RJ) (motive_2 := fun _ => Unit) (fun _ _ => .er 22 "") (fun _ _ _ => .er 22 "") (fun _ _ _ => .er 22 "") (fun _ _ _ _ => .er 22 "") (fun _ _ _ _ => .er 22 "") (fun _ _ _ _ _ _ _ => .er 22 "") (fun _ _ _ => .er 22 "") (fun _ _ _ => .er 22 "") (fun _ _ _ => .er 22 "") (fun _ _ => .er 22 "") (fun b o h k => Option.rec (motive := fun _ => Nat → (AV → RJ) → RJ) (fun _ _ => .er 22 "") (fun ob o k => Ob.rec (motive := fun _ => Nat → (AV → RJ) → RJ) (fun l _ o k => nthK o l k) (fun _ _ _ _ => .er 22 "") (fun _ _ _ => .er 22 "") (fun _ _ => .er 22 "") ob o k) (h.get b) o k) (fun _ _ => .er 22 "") (fun _ _ _ _ _ _ _ _ => .er 22 "") (fun _ _ _ _ _ _ _ => .er 22 "") (fun _ _ _ _ => .er 22 "") (fun _ _ => .er 22 "") (fun _ _ => .er 22 "") (fun _ _ _ => .er 22 "") (fun _ _ => .er 22 "") (fun _ _ _ _ _ => .er 22 "") (fun _ _ => .er 22 "") (fun _ _ _ _ => .er 22 "") (fun _ _ _ _ => .er 22 "") () (fun _ _ _ _ => ()) a h k
theorem exR_ok (n:Nat):P1Ok (exR n) (extF n):=by
 intro a
 cases a <;> first | exact Or.inl fun k=>er_bad | skip
 rename_i l
 exact nthK_ok n l
theorem ldR_ok:H1Ok ldR (fun a h=>onP a (fun b o=>ldF h b o)):=by
 intro a h
 cases a <;> first | exact Or.inl fun k=>er_bad | skip
 rename_i b o
 have e0 : ∀ k, ldR (.vp b o) h k = Option.rec (motive := fun _ => Nat → (AV → RJ) → RJ) (fun _ _ => .er 22 "") (fun ob o k => Ob.rec (motive := fun _ => Nat → (AV → RJ) → RJ) (fun l _ o k => nthK o l k) (fun _ _ _ _ => .er 22 "") (fun _ _ _ => .er 22 "") (fun _ _ => .er 22 "") ob o k) (h.get b) o k := fun k => rfl
 have e1:onP (AV.vp b o) (fun b o=>ldF h b o) = ldF h b o:=rfl
 simp only [e0,e1]
 unfold ldF
 cases h.get b with
 | none=>exact Or.inl fun k=>er_bad
 | some ob=>
  cases ob with
  | oc l mk=>exact nthK_ok o l
  | os l mk=>exact Or.inl fun k=>er_bad
  | om l=>exact Or.inl fun k=>er_bad
  | ox=>exact Or.inl fun k=>er_bad
inductive L3 where
 | mk (g:List AV → (List AV → RJ) → RJ)
noncomputable def l3 (n : Nat) : L3 := Nat.rec (motive := fun _ => L3) (L3.mk (fun _ k => k [])) (fun _ ih => L3.rec (motive := fun _ => L3) (fun g => L3.mk (fun l k => List.rec (motive := fun _ => (List AV → RJ) → RJ) (fun k => .er 22 "") (fun a r _ k => g r (fun l => k (a :: l))) l k)) ih) n
noncomputable def takK (n:Nat) (l:List AV) (k:List AV → RJ):RJ:=L3.rec (motive:=fun _=>RJ) (fun g=>g l k) (l3 n)
theorem takK_ok:∀ (n:Nat) (l:List AV),(∀ k, ¬ GoodR (takK n l k)) ∨ ∃ r,(∀ K,takeV n l K = K r) ∧ ∀ k,takK n l k = k r
 | 0,l=>Or.inr ⟨[],fun _=>rfl,fun _=>rfl⟩
 | n + 1,l=>by
  have e1 : l3 (n + 1) = L3.rec (motive := fun _ => L3) (fun g => L3.mk (fun l k => List.rec (motive := fun _ => (List AV → RJ) → RJ) (fun k => .er 22 "") (fun a r _ k => g r (fun l => k (a :: l))) l k)) (l3 n) := rfl
  have e2:tacc (n + 1) = Ta.rec (motive:=fun _=>Ta) (fun f=>Ta.mk (fun l k=>List.rec (motive:=fun _=>(List AV → AV) → AV) (fun _ => .vno) (fun a r _ k=>f r (fun x=>k (a :: x))) l k)) (tacc n):=rfl
  have e3:∀ x r k,takK (n + 1) (x :: r) k = takK n r (fun l=>k (x :: l)):=fun x r k=>by
   unfold takK
   rw [e1]
  have e4:∀ x r k,takeV (n + 1) (x :: r) k = takeV n r (fun l=>k (x :: l)):=fun x r k=>by
   unfold takeV
   rw [e2]
  cases l with
  | nil=>
   refine Or.inl fun k => ?_
   have : takK (n + 1) [] k = .er 22 "" := by
    unfold takK
    rw [e1]
   rw [this]
   exact er_bad
  | cons x r=>
   simp only [e3,e4]
   rcases takK_ok n r with c | ⟨l',c1,c2⟩
   ·exact Or.inl fun k=>c _
   ·exact Or.inr ⟨x :: l',fun K=>c1 _,fun k=>c2 _⟩
noncomputable def lgR (n : Nat) (a : AV) (h : Tr Ob) (k : AV → RJ) : RJ := AV.rec (motive_1 := fun _ => Nat → Tr Ob → (AV → RJ) → RJ) (motive_2 := fun _ => Unit) (fun _ _ _ => .er 22 "") (fun _ _ _ _ => .er 22 "") (fun _ _ _ _ => .er 22 "") (fun _ _ _ _ _ => .er 22 "") (fun _ _ _ _ _ => .er 22 "") (fun _ _ _ _ _ _ _ _ => .er 22 "") (fun _ _ _ _ => .er 22 "") (fun _ _ _ _ => .er 22 "") (fun _ _ _ _ => .er 22 "") (fun _ _ _ => .er 22 "") (fun b o n h k => Option.rec (motive := fun _ => Nat → Nat → (AV → RJ) → RJ) (fun _ _ _ => .er 22 "") (fun ob o n k => Ob.rec (motive := fun _ => Nat → Nat → (AV → RJ) → RJ) (fun l _ o n k => takK n (dropC o l) (fun l => k (.vag l))) (fun _ _ _ _ _ => .er 22 "") (fun _ _ _ _ => .er 22 "") (fun _ _ _ => .er 22 "") ob o n k) (h.get b) o n k) (fun _ _ _ => .er 22 "") (fun _ _ _ _ _ _ _ _ _ => .er 22 "") (fun _ _ _ _ _ _ _ _ => .er 22 "") (fun _ _ _ _ _ => .er 22 "") (fun _ _ _ => .er 22 "") (fun _ _ _ => .er 22 "") (fun _ _ _ _ => .er 22 "") (fun _ _ _ => .er 22 "") (fun _ _ _ _ _ _ => .er 22 "") (fun _ _ _ => .er 22 "") (fun _ _ _ _ _ => .er 22 "") (fun _ _ _ _ _ => .er 22 "") () (fun _ _ _ _ => ()) a n h k
theorem lgR_ok (n:Nat):H1Ok (lgR n) (fun a h=>onP a (fun b o=>ldG h b o n)):=by
 intro a h
 cases a <;> first | exact Or.inl fun k=>er_bad | skip
 rename_i b o
 have e0 : ∀ k, lgR n (.vp b o) h k = Option.rec (motive := fun _ => Nat → Nat → (AV → RJ) → RJ) (fun _ _ _ => .er 22 "") (fun ob o n k => Ob.rec (motive := fun _ => Nat → Nat → (AV → RJ) → RJ) (fun l _ o n k => takK n (dropC o l) (fun l => k (.vag l))) (fun _ _ _ _ _ => .er 22 "") (fun _ _ _ _ => .er 22 "") (fun _ _ _ => .er 22 "") ob o n k) (h.get b) o n k := fun k => rfl
 have e1:onP (AV.vp b o) (fun b o=>ldG h b o n) = ldG h b o n:=rfl
 simp only [e0,e1]
 unfold ldG
 cases h.get b with
 | none=>exact Or.inl fun k=>er_bad
 | some ob=>
  cases ob with
  | oc l mk=>
   have e2:obG (.oc l mk) o n = takeV n (dropC o l) .vag:=rfl
   simp only [e2]
   rcases takK_ok n (dropC o l) with c | ⟨r,c1,c2⟩
   ·exact Or.inl fun k=>c _
   ·rw [c1]; exact Or.inr ⟨(fun e=>by cases e),fun k=>c2 _⟩
  | os l mk=>exact Or.inl fun k=>er_bad
  | om l=>exact Or.inl fun k=>er_bad
  | ox=>exact Or.inl fun k=>er_bad
noncomputable def v1R (V:AV → AV) (a:AV) (s:(AV → RJ) → RJ) (k:AV → RJ):RJ:=knK (V a) k (s k)
noncomputable def w1 (V:AV → AV) (g:G) (ds:List Nat) (o:Oper) (x:Operand):DO := .q fun vs h nx k=>v1R V ((cev x).f (unm ds vs)) (slq g (ds,o) vs h nx) k
theorem w1_ok {V:AV → AV} {g:G} {ds:List Nat} {o:Oper} {x:Operand} {W:Fm → Tr Ob → Nat → AV} (hc:cop g o = KO.q W) (hW:∀ t h nx,V ((cev x).f t) ≠ .vno → W t h nx = V ((cev x).f t)):DoOk (cop g o) ds (w1 V g ds o x):=by
 refine dq_of (F:=fun vs h nx s k=>v1R V ((cev x).f (unm ds vs)) s k) (W:=fun t _=>V ((cev x).f t)) hc (fun t h nx => ?_) hW
 simp only [unm_vl]
 unfold v1R
 by_cases hv:V ((cev x).f (mask ds t)) = .vno
 ·exact Or.inl fun s k=>by rw [hv]; rfl
 ·exact Or.inr ⟨hv,fun s k=>knK_kn hv k _⟩
noncomputable def vhR (V:AV → AV → Tr Ob → AV) (x y:AV) (h:Tr Ob) (s:(AV → RJ) → RJ) (k:AV → RJ):RJ:=knK (V x y h) k (s k)
noncomputable def w2 (V:AV → AV → Tr Ob → AV) (g:G) (ds:List Nat) (o:Oper) (x y:Operand):DO := .q fun vs h nx k=>vhR V ((cev x).f (unm ds vs)) ((cev y).f (unm ds vs)) h (slq g (ds,o) vs h nx) k
theorem w2_ok {V:AV → AV → Tr Ob → AV} {g:G} {ds:List Nat} {o:Oper} {x y:Operand} {W:Fm → Tr Ob → Nat → AV} (hc:cop g o = KO.q W) (hW:∀ t h nx,V ((cev x).f t) ((cev y).f t) h ≠ .vno → W t h nx = V ((cev x).f t) ((cev y).f t) h):DoOk (cop g o) ds (w2 V g ds o x y):=by
 refine dq_of (F:=fun vs h nx s k=>vhR V ((cev x).f (unm ds vs)) ((cev y).f (unm ds vs)) h s k) (W:=fun t h=>V ((cev x).f t) ((cev y).f t) h) hc (fun t h nx => ?_) hW
 simp only [unm_vl]
 unfold vhR
 by_cases hv:V ((cev x).f (mask ds t)) ((cev y).f (mask ds t)) h = .vno
 ·exact Or.inl fun s k=>by rw [hv]; rfl
 ·exact Or.inr ⟨hv,fun s k=>knK_kn hv k _⟩
theorem q2_ok {F:Q2} {V:AV → AV → AV} (hF:Q2Ok F V) {g:G} {ds:List Nat} {o:Oper} {x y:Operand} {W:Fm → Tr Ob → Nat → AV} (hc:cop g o = KO.q W) (hW:∀ t h nx,V ((cev x).f t) ((cev y).f t) ≠ .vno → W t h nx = V ((cev x).f t) ((cev y).f t)):DoOk (cop g o) ds (d2 F g ds o x y):=by
 refine dq_of (F:=fun vs h nx s k=>F ((cev x).f (unm ds vs)) ((cev y).f (unm ds vs)) s k) (W:=fun t _=>V ((cev x).f t) ((cev y).f t)) hc (fun t h nx => ?_) hW
 simp only [unm_vl]; exact hF _ _
noncomputable def pkR (c x y : AV) (k : AV → RJ) : RJ := cdF c (knK x k (.er 22 "")) (knK y k (.er 22 "")) (.er 22 "")
noncomputable def dpick (ds:List Nat) (c x y:Operand):DO := .q fun vs _ _ k=>pkR ((cev c).f (unm ds vs)) ((cev x).f (unm ds vs)) ((cev y).f (unm ds vs)) k
theorem kn_two (a : AV) : (∀ k, ¬ GoodR (knK a k (.er 22 ""))) ∨ (a ≠ .vno ∧ ∀ k, knK a k (.er 22 "") = k a) := by
 by_cases h:a = .vno
 ·subst h; exact Or.inl fun k=>er_bad
 ·exact Or.inr ⟨h,fun k=>knK_kn h k _⟩
theorem dpick_ok {g:G} {ds:List Nat} {o:Oper} {c x y:Operand} (ho:o.op = .pick c x y):DoOk (cop g o) ds (dpick ds c x y):=by
 have hc:cop g o = KO.q (fun t _ _=>onB ((cev c).f t) ((cev x).f t) ((cev y).f t)):=by
  rw [← kPick_eq]
  unfold cop copB
  simp only [ho]
 refine ⟨_,hc,fun t h nx => ?_⟩
 simp only [unm_vl]
 unfold pkR
 generalize (cev c).f (mask ds t) = cv
 cases cv <;> first | exact Or.inl fun k=>er_bad | skip
 rename_i b
 cases b
 ·show (∀ k, ¬ GoodR (knK ((cev y).f (mask ds t)) k (.er 22 ""))) ∨ ∃ a, (cev y).f (mask ds t) = a ∧ a ≠ .vno ∧ ∀ k, knK ((cev y).f (mask ds t)) k (.er 22 "") = k a
  rcases kn_two ((cev y).f (mask ds t)) with e | ⟨e1,e2⟩
  ·exact Or.inl e
  ·exact Or.inr ⟨_,rfl,e1,e2⟩
 ·show (∀ k, ¬ GoodR (knK ((cev x).f (mask ds t)) k (.er 22 ""))) ∨ ∃ a, (cev x).f (mask ds t) = a ∧ a ≠ .vno ∧ ∀ k, knK ((cev x).f (mask ds t)) k (.er 22 "") = k a
  rcases kn_two ((cev x).f (mask ds t)) with e | ⟨e1,e2⟩
  ·exact Or.inl e
  ·exact Or.inr ⟨_,rfl,e1,e2⟩
noncomputable def stE (p x : AV) (h : Tr Ob) (nx : Nat) (k : KV) : RJ := stF p (fun b o => clK x (fun a => opS (h.get b) o a (fun ob => hsK h b ob (fun h1 => k (.vtp []) h1 nx)) (.er 26 "")) (.er 26 "")) (.er 26 "")
noncomputable def sgE (size : Nat) (p x : AV) (h : Tr Ob) (nx : Nat) (k : KV) : RJ := stF p (fun b o => agR x (fun l => Bool.rec (motive := fun _ => RJ) (.er 26 "") (Bool.rec (motive := fun _ => RJ) (.er 26 "") (opW (h.get b) o l (fun ob => hsK h b ob (fun h1 => k (.vtp []) h1 nx)) (.er 26 "")) (Nat.beq (lenK l) size)) (allK l)) (.er 26 "")) (.er 26 "")
noncomputable def b1E (x : AV) (h : Tr Ob) (nx : Nat) (k : KV) : RJ := clK x (fun a => force (fun nx1 => hsK h nx (.oc [a] false) (fun h1 => k (.vp nx 0) h1 nx1)) (Nat.succ nx)) (.er 39 "")
noncomputable def bgE (x : AV) (h : Tr Ob) (nx : Nat) (k : KV) : RJ := agR x (fun l => force (fun nx1 => hsK h nx (.oc l false) (fun h1 => k (.vp nx 0) h1 nx1)) (Nat.succ nx)) (.er 39 "")
noncomputable def f2 (F:AV → AV → Tr Ob → Nat → KV → RJ) (ds:List Nat) (x y:Operand):DO := .e fun _ vs h nx k=>F ((cev x).f (unm ds vs)) ((cev y).f (unm ds vs)) h nx k
noncomputable def f1 (F:AV → Tr Ob → Nat → KV → RJ) (ds:List Nat) (x:Operand):DO := .e fun _ vs h nx k=>F ((cev x).f (unm ds vs)) h nx k
theorem stE_ok {g:G} {ds:List Nat} {o:Oper} {x y:Operand} {pos:String} (hc:cop g o = .e (eStore (cev x).f (cev y).f pos)):DoOk (cop g o) ds (f2 stE ds x y):=by
 intro J O
 refine ⟨_,hc,fun t h nx => ?_⟩
 unfold stE eStore
 simp only [unm_vl,hsK_eq]
 rcases stF_nat ((cev x).f (mask ds t)) with ⟨b,p,h1⟩ | h1
 ·rcases clK_nat ((cev y).f (mask ds t)) with ⟨a,h2⟩ | h2
  ·rcases opS_nat (h.get b) p a with ⟨ob,h3⟩ | h3
   ·simp only [h1,h2,h3]; exact Or.inr ⟨_,_,_,fun _=>rfl,fun _=>rfl⟩
   ·simp only [h1,h2,h3]; exact Or.inl fun k=>er_bad
  ·simp only [h1,h2]; exact Or.inl fun k=>er_bad
 ·simp only [h1]; exact Or.inl fun k=>er_bad
theorem sgE_ok {g:G} {ds:List Nat} {o:Oper} {x y:Operand} {pos:String} {size:Nat} (hc:cop g o = .e (eStoreG size (cev x).f (cev y).f pos)):DoOk (cop g o) ds (f2 (sgE size) ds x y):=by
 intro J O
 refine ⟨_,hc,fun t h nx => ?_⟩
 unfold sgE eStoreG
 simp only [unm_vl,hsK_eq]
 rcases stF_nat ((cev x).f (mask ds t)) with ⟨b,p,h1⟩ | h1
 ·rcases agR_nat ((cev y).f (mask ds t)) with ⟨l,h2⟩ | h2
  ·cases ha:allK l with
   | false=>simp only [h1,h2,ha]; exact Or.inl fun k=>er_bad
   | true=>
    cases hb:Nat.beq (lenK l) size with
    | false=>simp only [h1,h2,ha,hb]; exact Or.inl fun k=>er_bad
    | true=>
     rcases opW_nat (h.get b) p l with ⟨ob,h3⟩ | h3
     ·simp only [h1,h2,ha,hb,h3]; exact Or.inr ⟨_,_,_,fun _=>rfl,fun _=>rfl⟩
     ·simp only [h1,h2,ha,hb,h3]; exact Or.inl fun k=>er_bad
  ·simp only [h1,h2]; exact Or.inl fun k=>er_bad
 ·simp only [h1]; exact Or.inl fun k=>er_bad
theorem clK_cell (a:AV):(∀ k er,clK a k er = er) ∨ (a ≠ .vno ∧ cellsA a = [a] ∧ ∀ k er,clK a k er = k a):=by
 cases a <;> first | exact Or.inl fun _ _=>rfl | exact Or.inr ⟨(fun e=>by cases e),rfl,fun _ _=>rfl⟩
theorem agR_vag (a:AV):(∀ k er,agR a k er = er) ∨ ∃ l,a = .vag l ∧ ∀ k er,agR a k er = k l:=by
 cases a <;> first | exact Or.inl fun _ _=>rfl | exact Or.inr ⟨_,rfl,fun _ _=>rfl⟩
theorem b1E_ok {g:G} {ds:List Nat} {o:Oper} {x:Operand} {pos:String} (hc:cop g o = .e (eBox (cev x).f pos)):DoOk (cop g o) ds (f1 b1E ds x):=by
 intro J O
 refine ⟨_,hc,fun t h nx => ?_⟩
 unfold b1E eBox
 simp only [unm_vl,hsK_eq,force_eq]
 rcases clK_cell ((cev x).f (mask ds t)) with e | ⟨e1,e2,e3⟩
 ·simp only [e]; exact Or.inl fun k=>er_bad
 ·simp only [e3,knK_kn e1,e2]; exact Or.inr ⟨_,_,_,fun _=>rfl,fun _=>rfl⟩
theorem bgE_ok {g:G} {ds:List Nat} {o:Oper} {x:Operand} {pos:String} (hc:cop g o = .e (eBox (cev x).f pos)):DoOk (cop g o) ds (f1 bgE ds x):=by
 intro J O
 refine ⟨_,hc,fun t h nx => ?_⟩
 unfold bgE eBox
 simp only [unm_vl,hsK_eq,force_eq]
 rcases agR_vag ((cev x).f (mask ds t)) with e | ⟨l,e1,e2⟩
 ·simp only [e]; exact Or.inl fun k=>er_bad
 ·simp only [e1]; exact Or.inr ⟨_,_,_,fun _=>rfl,fun _=>rfl⟩
noncomputable def dalloc (z:List AV):DO := .e fun _ _ h nx k=>alP z h nx k
theorem dalloc_ok {g:G} {ds:List Nat} {o:Oper} {z:List AV} (hc:cop g o = .e (eAlloc z)):DoOk (cop g o) ds (dalloc z):=by
 intro J O
 refine ⟨_,hc,fun t h nx=>Or.inr ⟨_,_,_,fun k => ?_,fun k=>alP_eq z h nx k⟩⟩
 unfold eAlloc
 rw [force_eq]
noncomputable def ldV (a:AV) (h:Tr Ob):AV:=onP a (fun b o=>ldF h b o)
noncomputable def v1hR (V:AV → Tr Ob → AV) (a:AV) (h:Tr Ob) (s:(AV → RJ) → RJ) (k:AV → RJ):RJ:=knK (V a h) k (s k)
theorem v1hR_ok (V:AV → Tr Ob → AV):Q1Ok (v1hR V) V:=by
 intro a h
 unfold v1hR
 by_cases hv:V a h = .vno
 ·exact Or.inl fun s k=>by rw [hv]; rfl
 ·exact Or.inr ⟨hv,fun s k=>knK_kn hv k _⟩
noncomputable def vlQ (V:List AV → AV) (l:List AV) (s:(AV → RJ) → RJ) (k:AV → RJ):RJ:=knK (V l) k (s k)
noncomputable def wl (V:List AV → AV) (g:G) (ds:List Nat) (o:Oper) (xs:List Operand):DO := .q fun vs h nx k=>vlQ V (evs (unm ds vs) xs) (slq g (ds,o) vs h nx) k
theorem wl_ok {V:List AV → AV} {g:G} {ds:List Nat} {o:Oper} {xs:List Operand} {W:Fm → Tr Ob → Nat → AV} (hc:cop g o = KO.q W) (hW:∀ t h nx,V (evs t xs) ≠ .vno → W t h nx = V (evs t xs)):DoOk (cop g o) ds (wl V g ds o xs):=by
 refine dq_of (F:=fun vs h nx s k=>vlQ V (evs (unm ds vs) xs) s k) (W:=fun t _=>V (evs t xs)) hc (fun t h nx => ?_) hW
 simp only [unm_vl]
 unfold vlQ
 by_cases hv:V (evs (mask ds t) xs) = .vno
 ·exact Or.inl fun s k=>by rw [hv]; rfl
 ·exact Or.inr ⟨hv,fun s k=>knK_kn hv k _⟩
noncomputable def oV (r:Option AV):AV:=match r with
 | some a=>toN a
 | none => .vno
theorem evL_of (t:Fm):∀ {xs:List Operand} {l:List AV},knL (evs t xs) = some l → evL t xs = some l
 | [],l,h=>by cases h; rfl
 | x :: r,l,h=>by
  rw [evs] at h
  unfold knL at h
  unfold evL
  split at h
  ·cases h
  ·rename_i a ha
   obtain ⟨h1,h2⟩:=knA_eq ha
   rw [cev_ev h2,h1]
   simp only
   split at h
   ·rename_i r' hr
    cases h
    rw [evL_of t hr]
   ·cases h
noncomputable def bdP:List Nat → List AV → Option (List (Nat × AV))
 | [],[]=>some []
 | i :: is,a :: l=>match knA a with
  | none=>none
  | some a=>match bdP is l with
   | some r=>some ((i,a) :: r)
   | none=>none
 | _,_=>none
noncomputable def fstL:List (Nat × Operand) → List Nat
 | []=>[]
 | (i,_) :: r=>i :: fstL r
noncomputable def sndO:List (Nat × Operand) → List Operand
 | []=>[]
 | (_,x) :: r=>x :: sndO r
theorem evP_of (t:Fm):∀ {ps:List (Nat × Operand)} {l:List (Nat × AV)},bdP (fstL ps) (evs t (sndO ps)) = some l → evP t ps = some l
 | [],l,h=>by cases h; rfl
 | (i,x) :: r,l,h=>by
  rw [fstL,sndO,evs] at h
  unfold bdP at h
  unfold evP
  split at h
  ·cases h
  ·rename_i a ha
   obtain ⟨h1,h2⟩:=knA_eq ha
   rw [cev_ev h2,h1]
   simp only
   split at h
   ·rename_i r' hr
    cases h
    rw [evP_of t hr]
   ·cases h
noncomputable def bdV (g:G) (ty:Nat) (is:List Nat) (l:List AV):AV:=match bdP is l with
 | none => .vno
 | some pl=>match tiOf g.tt ty with
  | none => .vno
  | some i=>oV (opBuild g.tt i pl)
theorem dbuild_ok {g:G} {ds:List Nat} {o:Oper} {ty:Nat} {ps:Array (Nat × Operand)} (ho:o.op = .build ty ps):DoOk (cop g o) ds (wl (bdV g ty (fstL ps.toList)) g ds o (sndO ps.toList)):=by
 have e:cop g o = KO.q (qSlow g (.build ty ps)):=by unfold cop copB; simp only [ho]; rfl
 refine wl_ok e fun t h nx hk => ?_
 show ro2v (.pl (pBuild g t ty ps.toList h nx)) = _
 unfold bdV at hk ⊢
 cases h1:bdP (fstL ps.toList) (evs t (sndO ps.toList)) with
 | none=>rw [h1] at hk; exact absurd rfl hk
 | some pl=>
  rw [h1] at hk
  simp only at hk ⊢
  unfold pBuild
  rw [evP_of t h1]
  cases h2:tiOf g.tt ty with
  | none=>rw [h2] at hk; exact absurd rfl hk
  | some i=>
   rw [h2] at hk
   simp only at hk ⊢
   cases h3:opBuild g.tt i pl with
   | none=>rw [h3] at hk; exact absurd rfl hk
   | some a=>rfl
noncomputable def mfV (f:Nat) (l:List AV):AV:=match knL l with
 | some l => .vfn f l
 | none => .vno
theorem dfunc_ok {g:G} {ds:List Nat} {o:Oper} {f:Nat} {fs cs:Array Operand} (ho:o.op = .makeFunc (.func f) fs cs) (hf:fs.toList = []):DoOk (cop g o) ds (wl (mfV f) g ds o cs.toList):=by
 have e:cop g o = KO.q (qSlow g (.makeFunc (.func f) fs cs)):=by unfold cop copB; simp only [ho]; rfl
 refine wl_ok e fun t h nx hk => ?_
 show ro2v (.pl (pFunc t (.func f) fs.toList cs.toList h nx)) = _
 unfold mfV at hk ⊢
 cases h1:knL (evs t cs.toList) with
 | none=>rw [h1] at hk; exact absurd rfl hk
 | some l=>
  unfold pFunc
  rw [hf]
  simp only [evL_of t h1]
  rfl
noncomputable def mnV (l:List AV):AV:=match knL l with
 | some l=>oV (minB l)
 | none => .vno
noncomputable def mxV (l:List AV):AV:=match knL l with
 | some l=>oV (maxB l)
 | none => .vno
theorem dmin_ok {g:G} {ds:List Nat} {o:Oper} {c:Call} (ho:o.op = .call c) (hc:c.callee = .builtin .min):DoOk (cop g o) ds (wl mnV g ds o c.args.toList):=by
 have e:cop g o = KO.q (qSlow g (.call c)):=by unfold cop kLenS copB kCallO; simp only [ho,hc]; rfl
 refine wl_ok e fun t h nx hk => ?_
 show ro2v (stCall g c t h nx) = _
 unfold mnV at hk ⊢
 cases h1:knL (evs t c.args.toList) with
 | none=>rw [h1] at hk; exact absurd rfl hk
 | some l=>
  rw [h1] at hk
  unfold stCall
  rw [evL_of t h1]
  simp only [hc] at hk ⊢
  unfold builtinB
  simp only
  cases h2:minB l with
  | none=>rw [h2] at hk; exact absurd rfl hk
  | some r=>rfl
theorem dmax_ok {g:G} {ds:List Nat} {o:Oper} {c:Call} (ho:o.op = .call c) (hc:c.callee = .builtin .max):DoOk (cop g o) ds (wl mxV g ds o c.args.toList):=by
 have e:cop g o = KO.q (qSlow g (.call c)):=by unfold cop kLenS copB kCallO; simp only [ho,hc]; rfl
 refine wl_ok e fun t h nx hk => ?_
 show ro2v (stCall g c t h nx) = _
 unfold mxV at hk ⊢
 cases h1:knL (evs t c.args.toList) with
 | none=>rw [h1] at hk; exact absurd rfl hk
 | some l=>
  rw [h1] at hk
  unfold stCall
  rw [evL_of t h1]
  simp only [hc] at hk ⊢
  unfold builtinB
  simp only
  cases h2:maxB l with
  | none=>rw [h2] at hk; exact absurd rfl hk
  | some r=>rfl
noncomputable def slV (g:G) (ty:Nat) (hl hh:Bool) (l:List AV):AV:=match l with
 | p :: r=>match knA p with
  | none => .vno
  | some p=>match tiOf g.tt ty with
   | none => .vno
   | some i=>match hl,hh,r with
    | false,false,[]=>oV (slAny g i p none none none)
    | true,false,[a]=>match natA a with
     | some n=>oV (slAny g i p (some n) none none)
     | none => .vno
    | false,true,[b]=>match natA b with
     | some m=>oV (slAny g i p none (some m) none)
     | none => .vno
    | true,true,[a,b]=>match natA a with
     | none => .vno
     | some n=>match natA b with
      | some m=>oV (slAny g i p (some n) (some m) none)
      | none => .vno
    | _,_,_ => .vno
 | [] => .vno
theorem bnd_of {t:Fm} {x:Operand} {n:Nat} (h:natA ((cev x).f t) = some n):bnd t (some x) = some (some n):=by
 have hn:(cev x).f t ≠ .vno:=fun e=>by rw [e] at h; cases h
 unfold bnd
 simp only [cev_ev hn]
 unfold natA at h
 split at h
 ·rename_i m hm; cases h; simp only [hm]
 ·rename_i k m hm; cases h; simp only [hm]
 ·cases h
theorem slV_ok {g:G} {ty:Nat} {x:Operand} {lo hi:Option Operand} {t:Fm} {h:Tr Ob} {nx:Nat} (hk:slV g ty lo.isSome hi.isSome (evs t (x :: (lo.toList ++ hi.toList))) ≠ .vno) :
  ro2v (.pl (pSlice g t ty x lo hi none h nx)) = slV g ty lo.isSome hi.isSome (evs t (x :: (lo.toList ++ hi.toList))):=by
 unfold slV at hk ⊢
 unfold pSlice
 rw [evs] at hk ⊢
 simp only at hk ⊢
 cases h1:knA ((cev x).f t) with
 | none=>rw [h1] at hk; exact absurd rfl hk
 | some p=>
  obtain ⟨e1,e2⟩:=knA_eq h1
  rw [h1] at hk
  rw [cev_ev e2,e1]
  cases h2:tiOf g.tt ty with
  | none=>rw [h2] at hk; exact absurd rfl hk
  | some i=>
   rw [h2] at hk
   simp only at hk ⊢
   have b0:bnd t none = some none:=rfl
   have fin:∀ l u,oV (slAny g i p l u none) ≠ .vno → ro2v (.pl (match slAny g i p l u none with | some a => .ok a h nx | none=>pSliceX g t i p lo hi none h nx)) = oV (slAny g i p l u none):=by
    intro l u hn
    cases hs:slAny g i p l u none with
    | none=>rw [hs] at hn; exact absurd rfl hn
    | some a=>rfl
   cases lo with
   | none=>
    cases hi with
    | none=>exact fin none none hk
    | some b=>
     simp only [Option.toList,Option.isSome,List.nil_append,evs] at hk ⊢
     cases h3:natA ((cev b).f t) with
     | none=>rw [h3] at hk; exact absurd rfl hk
     | some m=>
      rw [h3] at hk
      simp only [bnd_of h3,b0] at hk ⊢
      exact fin none (some m) hk
   | some a=>
    cases hi with
    | none=>
     simp only [Option.toList,Option.isSome,List.append_nil,evs] at hk ⊢
     cases h3:natA ((cev a).f t) with
     | none=>rw [h3] at hk; exact absurd rfl hk
     | some m=>
      rw [h3] at hk
      simp only [bnd_of h3,b0] at hk ⊢
      exact fin (some m) none hk
    | some b=>
     simp only [Option.toList,Option.isSome,List.cons_append,List.nil_append,evs] at hk ⊢
     cases h3:natA ((cev a).f t) with
     | none=>rw [h3] at hk; exact absurd rfl hk
     | some m=>
      rw [h3] at hk
      simp only at hk ⊢
      cases h4:natA ((cev b).f t) with
      | none=>rw [h4] at hk; exact absurd rfl hk
      | some m2=>
       rw [h4] at hk
       simp only [bnd_of h3,bnd_of h4,b0] at hk ⊢
       exact fin (some m) (some m2) hk
theorem dslice_ok {g:G} {ds:List Nat} {o:Oper} {ty:Nat} {x:Operand} {lo hi:Option Operand} (ho:o.op = .slice ty x lo hi none):DoOk (cop g o) ds (wl (slV g ty lo.isSome hi.isSome) g ds o (x :: (lo.toList ++ hi.toList))):=by
 have e:cop g o = KO.q (qSlow g (.slice ty x lo hi none)):=by unfold cop copB; simp only [ho]; rfl
 refine wl_ok e fun t h nx hk => ?_
 show ro2v (.pl (pSlice g t ty x lo hi none h nx)) = _
 exact slV_ok hk
noncomputable def de (F:List AV → Tr Ob → Nat → (KV → RJ) → KV → RJ) (g:G) (ds:List Nat) (o:Oper) (xs:List Operand):DO := .e fun _ vs h nx k=>F (evs (unm ds vs) xs) h nx (sle g (ds,o) vs h nx) k
theorem de_ok {F:List AV → Tr Ob → Nat → (KV → RJ) → KV → RJ} {g:G} {ds:List Nat} {o:Oper} {op:Op} {pos:String} {xs:List Operand} (hc:cop g o = .e (eSlow g op pos))
  (hF:∀ t h nx,(∀ s k,F (evs t xs) h nx s k = s k) ∨ (∀ s k, ¬ GoodR (F (evs t xs) h nx s k)) ∨ ∃ a h1 nx1,step1 g op t h nx = .pl (.ok a h1 nx1) ∧ ∀ s k,F (evs t xs) h nx s k = k (toN a) h1 nx1):DoOk (cop g o) ds (de F g ds o xs):=by
 intro J O
 obtain ⟨F0,h0,hs⟩:=sle_ok (g:=g) (ds:=ds) hc J
 refine ⟨_,hc,fun t h nx => ?_⟩
 rw [hc] at h0
 cases h0
 simp only [unm_vl]
 rcases hF (mask ds t) h nx with e | e | ⟨a,h1,nx1,e1,e2⟩
 ·simp only [e]
  exact hs t h nx
 ·exact Or.inl fun k=>e _ k
 ·refine Or.inr ⟨toN a,h1,nx1,fun k => ?_,fun k=>e2 _ k⟩
  unfold eSlow
  rw [e1]
  rfl
noncomputable def appK (old new:List AV) (k:List AV → RJ):RJ:=List.rec (motive:=fun _=>List AV → (List AV → RJ) → RJ) (fun new k=>k new) (fun a _ ih new k=>ih new (fun l=>k (a :: l))) old new k
theorem appK_eq:∀ (old new:List AV) (k:List AV → RJ),appK old new k = k (old ++ new)
 | [],new,k=>rfl
 | a :: old,new,k=>appK_eq old new (fun l=>k (a :: l))
noncomputable def byK (l:List Nat) (k:List AV → RJ):RJ:=List.rec (motive:=fun _=>(List AV → RJ) → RJ) (fun k=>k []) (fun n _ ih k=>ih (fun l=>k (.vi .u8 (.ofNat n) :: l))) l k
theorem byK_eq:∀ (l:List Nat) (k:List AV → RJ),byK l k = k (bytesA l)
 | [],k=>rfl
 | n :: l,k=>byK_eq l (fun l=>k (.vi .u8 (.ofNat n) :: l))
noncomputable def rdK (h:Tr Ob) (b o m:Nat) (k:List AV → RJ) (er:RJ):RJ:=Option.rec (motive:=fun _=>RJ) er (fun ob=>Ob.rec (motive:=fun _=>RJ) (fun l _=>takK m (dropC o l) k) (fun _ _=>er) (fun _=>er) er ob) (h.get b)
theorem rdK_ok (h:Tr Ob) (b o m:Nat):(∀ k er,rdK h b o m k er = er) ∨ (∀ k er, ¬ GoodR (rdK h b o m k er)) ∨ ∃ l,readN h b o m = some l ∧ ∀ k er,rdK h b o m k er = k l:=by
 unfold rdK readN
 cases h.get b with
 | none=>exact Or.inl fun _ _=>rfl
 | some ob=>
  cases ob with
  | oc l mk=>
   simp only
   rcases takK_ok m (dropC o l) with c | ⟨r,c1,c2⟩
   ·exact Or.inr (Or.inl fun k _=>c k)
   ·refine Or.inr (Or.inr ⟨r, ?_,fun k _=>c2 k⟩)
    have hn:takeV m (dropC o l) .vag ≠ .vno:=by rw [c1]; exact fun e=>by cases e
    obtain ⟨r',h1,h2⟩:=takeV_eq hn
    rw [c1] at h2
    cases h2
    rw [← dropC_eq]
    exact h1
  | os l mk=>exact Or.inl fun _ _=>rfl
  | om l=>exact Or.inl fun _ _=>rfl
  | ox=>exact Or.inl fun _ _=>rfl
noncomputable def srK (z:Nat) (x:AV) (h:Tr Ob) (K:List AV → Nat → RJ) (er:RJ):RJ:=match x with
 | .vsn=>K [] 0
 | .vse=>K [] 0
 | .vs l=>match Nat.beq z 1 with
  | true=>byK l (fun new=>force (fun n=>K new n) (lenN l 0))
  | false=>er
 | .vsl b o n cap ex z'=>force (fun m=>rdK h b o m (fun new=>K new n) er) (Nat.mul n z)
 | _=>er
theorem srK_ok (z:Nat) (x:AV) (h:Tr Ob):(∀ K er,srK z x h K er = er) ∨ (∀ K er, ¬ GoodR (srK z x h K er)) ∨ ∃ l n,srcA h z x = some (l,n) ∧ ∀ K er,srK z x h K er = K l n:=by
 cases x <;> first
  | exact Or.inl fun _ _=>rfl
  | exact Or.inr (Or.inr ⟨_,_,rfl,fun _ _=>rfl⟩)
  | skip
 ·rename_i l
  unfold srK srcA
  simp only
  cases Nat.beq z 1 with
  | false=>exact Or.inl fun _ _=>rfl
  | true=>exact Or.inr (Or.inr ⟨_,_,rfl,fun K er=>by simp only [byK_eq,force_eq]⟩)
 ·rename_i b o n cap ex z'
  unfold srK srcA
  simp only [force_eq]
  rcases rdK_ok h b o (Nat.mul n z) with e | e | ⟨l,e1,e2⟩
  ·exact Or.inl fun K er=>e _ _
  ·exact Or.inr (Or.inl fun K er=>e _ _)
  ·have e1:readN h b o (n * z) = some l:=e1
   rw [e1]
   exact Or.inr (Or.inr ⟨_,_,rfl,fun K er=>e2 _ _⟩)
noncomputable def nbK (row:List AV) (mk:Bool) (len:Nat) (ex:Bool) (z:Nat) (h:Tr Ob) (nx:Nat) (k:KV):RJ:=force (fun nx1=>hsK h nx (.oc row mk) (fun h1=>k (.vsl nx 0 len len ex z) h1 nx1)) (Nat.succ nx)
theorem nbK_eq (row:List AV) (mk:Bool) (len:Nat) (ex:Bool) (z:Nat) (h:Tr Ob) (nx:Nat) (k:KV):nbK row mk len ex z h nx k = k (.vsl nx 0 len len ex z) (h.set nx (.oc row mk)) (nx + 1):=by
 unfold nbK
 simp only [force_eq,hsK_eq]
noncomputable def apA (z:Nat) (s:AV) (new:List AV) (kk:Nat) (h:Tr Ob) (nx:Nat) (sl:RJ) (k:KV):RJ:=match s with
 | .vsn=>match kk with
  | 0=>k .vsn h nx
  | kk + 1=>nbK new false (kk + 1) false z h nx k
 | .vsl b o n cap ex z'=>match Nat.beq z z' with
  | false=>sl
  | true=>match kk with
   | 0=>k (.vsl b o n cap ex z) h nx
   | kk + 1=>force (fun len=>match Nat.ble len cap with
    | true=>force (fun p=>opW (h.get b) p new (fun ob=>hsK h b ob (fun h1=>k (.vsl b o len cap ex z) h1 nx)) sl) (o + n * z)
    | false=>force (fun m=>rdK h b o m (fun old=>appK old new (fun row=>match ex with
     | true=>nbK row false len false z h nx k
     | false=>Option.rec (motive:=fun _=>RJ) sl (fun ob=>Ob.rec (motive:=fun _=>RJ) (fun _ mk=>hsK h b .ox (fun h1=>nbK row mk len false z h1 nx k)) (fun _ _=>sl) (fun _=>sl) sl ob) (h.get b))) sl) (n * z)) (n + (kk + 1))
 | _=>sl
theorem apA_ok {z:Nat} {s:AV} {new:List AV} {kk:Nat} {h:Tr Ob} {nx:Nat} (ha:allCells new = true):(∀ sl k,apA z s new kk h nx sl k = sl) ∨ (∀ sl k, ¬ GoodR (apA z s new kk h nx sl k)) ∨ ∃ a h1 nx1,appA z s new kk h nx = .ok a h1 nx1 ∧ toN a = a ∧ ∀ sl k,apA z s new kk h nx sl k = k a h1 nx1:=by
 cases s <;> first
  | exact Or.inl fun _ _=>rfl
  | skip
 ·cases kk with
  | zero=>exact Or.inr (Or.inr ⟨_,_,_,rfl,rfl,fun _ _=>rfl⟩)
  | succ kk=>exact Or.inr (Or.inr ⟨_,_,_,rfl,rfl,fun _ _=>nbK_eq ..⟩)
 ·rename_i b o n cap ex z'
  unfold apA appA
  simp only
  cases Nat.beq z z' with
  | false=>exact Or.inl fun _ _=>rfl
  | true=>
   simp only
   cases kk with
   | zero=>exact Or.inr (Or.inr ⟨_,_,_,rfl,rfl,fun _ _=>rfl⟩)
   | succ kk=>
    simp only [force_eq]
    cases Nat.ble (n + (kk + 1)) cap with
    | true=>
     simp only
     by_cases hg:∃ ob, ∀ k er,opW (h.get b) (o + n * z) new k er = k ob
     ·obtain ⟨ob,hob⟩:=hg
      obtain ⟨ob', h1, h2⟩ := opW_eq (k := fun ob => .v .vpn (Tr.e.set 0 ob) 0) (er := .er 1 "") (hob _ _) (fun e => by cases e) ha
      injection h2 with _ h2 _
      have:=congrArg (fun t=>Tr.get t 0) h2
      simp only [Tr.get_set_same] at this
      cases this
      simp only [h1,hob,hsK_eq]
      exact Or.inr (Or.inr ⟨_,_,_,rfl,rfl,fun _ _=>rfl⟩)
     ·rcases opW_nat (h.get b) (o + n * z) new with ⟨ob,hob⟩ | e
      ·exact absurd ⟨ob,hob⟩ hg
      ·exact Or.inl fun sl k=>by rw [e]
    | false=>
     simp only
     rcases rdK_ok h b o (n * z) with e | e | ⟨old,e1,e2⟩
     ·exact Or.inl fun sl k=>e _ _
     ·exact Or.inr (Or.inl fun sl k=>e _ _)
     ·simp only [e1,e2,appK_eq]
      cases ex with
      | true=>exact Or.inr (Or.inr ⟨_,_,_,rfl,rfl,fun _ _=>nbK_eq ..⟩)
      | false=>
       simp only
       cases h.get b with
       | none=>exact Or.inl fun _ _=>rfl
       | some ob=>
        cases ob with
        | oc l mk=>
         simp only [ha]
         exact Or.inr (Or.inr ⟨_,_,_,rfl,rfl,fun _ _=>by simp only [hsK_eq,nbK_eq]⟩)
        | os l mk=>exact Or.inl fun _ _=>rfl
        | om l=>exact Or.inl fun _ _=>rfl
        | ox=>exact Or.inl fun _ _=>rfl
noncomputable def ap2 (z by_:Nat) (s x:AV) (h:Tr Ob) (nx:Nat) (sl:KV → RJ) (k:KV):RJ:=match lenA0 s with
 | none=>sl k
 | some n=>srK z x h (fun new kk=>match allK new with
  | false=>sl k
  | true=>match fitK n kk by_ with
   | false=>sl k
   | true=>match fitK n kk 1 with
    | false=>sl k
    | true=>apA z s new kk h nx (sl k) k) (sl k)
noncomputable def apE (z by_:Nat) (l:List AV) (h:Tr Ob) (nx:Nat) (sl:KV → RJ) (k:KV):RJ:=match l with
 | s :: r=>match r with
  | [x]=>ap2 z by_ s x h nx sl k
  | _=>sl k
 | []=>sl k
noncomputable def apS (g:G) (tys:List TypeId):Option (Nat × Nat):=match tys with
 | [t,t2]=>match tiOf g.tt t with
  | none=>none
  | some i=>match i.kind with
   | .slice e=>match tiOf g.tt e with
    | none=>none
    | some j=>match tiOf g.tt t2 with
     | none=>none
     | some i2=>match isSrc i2 with
      | false=>none
      | true=>match g.tt e with
       | none=>none
       | some inf=>match zeroA j with
        | none=>none
        | some _=>some (j.size,inf.bytes)
   | _=>none
 | _=>none
theorem apS_ok {g:G} {tys:List TypeId} {z by_:Nat} (h0:apS g tys = some (z,by_)) {s x:AV} {h:Tr Ob} {nx n kk:Nat} {new:List AV} (h1:lenA0 s = some n) (h2:srcA h z x = some (new,kk)) (h3:allCells new = true) (h4:fitK n kk by_ = true) (h5:fitK n kk 1 = true) {a:AV} {hh:Tr Ob} {nn:Nat} (h6:appA z s new kk h nx = .ok a hh nn) :
  builtinB g .append tys [s,x] h nx = .ok a hh nn:=by
 unfold builtinB
 simp only
 have:appB g tys [s,x] h nx = .ok a hh nn:=by
  unfold apS at h0
  split at h0
  ·rename_i t t2
   unfold appB
   simp only
   cases e1:tiOf g.tt t with
   | none=>rw [e1] at h0; cases h0
   | some i=>
    rw [e1] at h0
    simp only at h0 ⊢
    split at h0
    ·rename_i e hk
     simp only [hk]
     cases e2:tiOf g.tt e with
     | none=>rw [e2] at h0; cases h0
     | some j=>
      rw [e2] at h0
      simp only at h0 ⊢
      cases e3:tiOf g.tt t2 with
      | none=>rw [e3] at h0; cases h0
      | some i2=>
       rw [e3] at h0
       simp only at h0 ⊢
       cases e4:isSrc i2 with
       | false=>rw [e4] at h0; cases h0
       | true=>
        rw [e4] at h0
        simp only at h0 ⊢
        cases e5:g.tt e with
        | none=>rw [e5] at h0; cases h0
        | some inf=>
         rw [e5] at h0
         simp only at h0 ⊢
         cases e6:zeroA j with
         | none=>rw [e6] at h0; cases h0
         | some zz=>
          rw [e6] at h0
          cases h0
          simp only [h1,h2,h3,h4,h5]
          exact h6
    ·cases h0
  ·cases h0
 rw [this]
noncomputable def dapp (g:G) (ds:List Nat) (o:Oper) (c:Call):DO:=match apS g c.argTypes.toList with
 | none => .no
 | some (z,by_)=>de (apE z by_) g ds o c.args.toList
theorem dapp_ok {g:G} {ds:List Nat} {o:Oper} {c:Call} (ho:o.op = .call c) (hc:c.callee = .builtin .append):DoOk (cop g o) ds (dapp g ds o c):=by
 have e:cop g o = KO.e (eSlow g (.call c) o.pos):=by unfold cop kLenS copB kCallO; simp only [ho,hc]; rfl
 unfold dapp
 cases h0:apS g c.argTypes.toList with
 | none=>exact trivial
 | some zb=>
  obtain ⟨z,by_⟩:=zb
  refine de_ok e fun t h nx => ?_
  have hl:∀ l,evs t c.args.toList = l → (∀ s k,apE z by_ l h nx s k = s k) ∨ (∀ s k, ¬ GoodR (apE z by_ l h nx s k)) ∨ ∃ a h1 nx1,step1 g (.call c) t h nx = .pl (.ok a h1 nx1) ∧ ∀ s k,apE z by_ l h nx s k = k (toN a) h1 nx1:=by
   intro l hl
   match l,hl with
   | [],_=>exact Or.inl fun _ _=>rfl
   | [_],_=>exact Or.inl fun _ _=>rfl
   | _ :: _ :: _ :: _,_=>exact Or.inl fun _ _=>rfl
   | [s,x],hl=>
    unfold apE ap2
    simp only
    cases h1:lenA0 s with
    | none=>exact Or.inl fun _ _=>rfl
    | some n=>
     simp only
     rcases srK_ok z x h with e | e | ⟨new,kk,e1,e2⟩
     ·exact Or.inl fun sl k=>e _ _
     ·exact Or.inr (Or.inl fun sl k=>e _ _)
     ·simp only [e2]
      cases h3:allK new with
      | false=>exact Or.inl fun _ _=>rfl
      | true=>
       cases h4:fitK n kk by_ with
       | false=>exact Or.inl fun _ _=>rfl
       | true=>
        cases h5:fitK n kk 1 with
        | false=>exact Or.inl fun _ _=>rfl
        | true=>
         simp only
         rcases apA_ok (z:=z) (s:=s) (new:=new) (kk:=kk) (h:=h) (nx:=nx) (allK_eq h3) with e | e | ⟨a,hh,nn,g1,g2,g3⟩
         ·exact Or.inl fun sl k=>e _ _
         ·exact Or.inr (Or.inl fun sl k=>e _ _)
         ·refine Or.inr (Or.inr ⟨a,hh,nn, ?_,fun sl k=>by rw [g2]; exact g3 _ _⟩)
          show stCall g c t h nx = _
          unfold stCall
          have hs:s ≠ .vno:=fun e=>by subst e; cases h1
          have hx:x ≠ .vno:=fun e=>by subst e; cases e1
          have hkn:knL (evs t c.args.toList) = some [s,x]:=by
           rw [hl]
           unfold knL
           rw [knA_of hs]
           simp only
           unfold knL
           rw [knA_of hx]
           rfl
          rw [evL_of t hkn]
          simp only [hc]
          rw [apS_ok h0 h1 e1 (allK_eq h3) h4 h5 g1]
  exact hl _ rfl
noncomputable def bsL (g:G) (e n:Nat) (is:List Nat) (l:List AV):Option (List AV):=match tiOf g.tt e with
 | none=>none
 | some j=>match bdP is l with
  | none=>none
  | some ps=>match zeroA j with
   | none=>none
   | some z=>match Nat.ble (n * j.size + n) 1000000 with
    | false=>none
    | true=>fillA (fun k=>some (k * j.size,j.size)) (repA z n) ps
noncomputable def bsE (g:G) (e n z:Nat) (is:List Nat) (l:List AV) (h:Tr Ob) (nx:Nat) (sl:KV → RJ) (k:KV):RJ:=Option.rec (motive:=fun _=>RJ) (sl k) (fun row=>appK row [] (fun row=>nbK row false n true z h nx k)) (bsL g e n is l)
noncomputable def bsS (g:G) (ty:Nat):Option (Nat × Nat):=match tiOf g.tt ty with
 | none=>none
 | some i=>match i.kind with
  | .slice e=>match tiOf g.tt e with
   | none=>none
   | some j=>some (e,j.size)
  | _=>none
noncomputable def dbs (g:G) (ds:List Nat) (o:Oper) (ty n:Nat) (ps:List (Nat × Operand)):DO:=match bsS g ty with
 | none => .no
 | some (e,z)=>de (bsE g e n z (fstL ps)) g ds o (sndO ps)
theorem dbs_ok {g:G} {ds:List Nat} {o:Oper} {ty n:Nat} {ps:Array (Nat × Operand)} (ho:o.op = .buildSlice ty n ps):DoOk (cop g o) ds (dbs g ds o ty n ps.toList):=by
 have e:cop g o = KO.e (eSlow g (.buildSlice ty n ps) o.pos):=by unfold cop copB; simp only [ho]; rfl
 unfold dbs
 cases h0:bsS g ty with
 | none=>exact trivial
 | some ez=>
  obtain ⟨el,z⟩:=ez
  refine de_ok e fun t h nx => ?_
  unfold bsE
  cases h1:bsL g el n (fstL ps.toList) (evs t (sndO ps.toList)) with
  | none=>exact Or.inl fun _ _=>rfl
  | some row=>
   simp only [appK_eq,nbK_eq,List.append_nil]
   refine Or.inr (Or.inr ⟨.vsl nx 0 n n true z,_,_, ?_,fun _ _=>rfl⟩)
   show S1.pl (pBuildSlice g t ty n ps.toList h nx) = _
   unfold bsS at h0
   unfold bsL at h1
   unfold pBuildSlice
   cases e1:tiOf g.tt ty with
   | none=>rw [e1] at h0; cases h0
   | some i=>
    rw [e1] at h0
    simp only at h0 ⊢
    split at h0
    ·rename_i e' hk
     simp only [hk]
     cases e2:tiOf g.tt e' with
     | none=>rw [e2] at h0; cases h0
     | some j=>
      rw [e2] at h0
      cases h0
      rw [e2] at h1
      simp only at h1 ⊢
      cases e3:bdP (fstL ps.toList) (evs t (sndO ps.toList)) with
      | none=>rw [e3] at h1; cases h1
      | some pl=>
       rw [e3] at h1
       simp only at h1
       rw [evP_of t e3]
       simp only
       unfold opBuildSlice
       cases e4:zeroA j with
       | none=>rw [e4] at h1; cases h1
       | some zz=>
        rw [e4] at h1
        simp only at h1 ⊢
        cases e5:Nat.ble (n * j.size + n) 1000000 with
        | false=>rw [e5] at h1; cases h1
        | true=>
         rw [e5] at h1
         simp only at h1 ⊢
         rw [h1]
    ·cases h0
noncomputable def gtN (m n:Nat):Bool:=Nat.blt n m
noncomputable def geN (m n:Nat):Bool:=Nat.ble n m
noncomputable def eqPn1 (x y:AV) (h:Tr Ob):AV:=notF (eqPt x y h)
noncomputable def dbin (g:G) (ds:List Nat) (o:Oper) (b:BinOp) (ty:Nat) (x y:Operand):DO:=match b with
 | .mul=>d2 (vR mulF) g ds o x y
 | .quo=>d2 (vR quoF) g ds o x y
 | .rem=>d2 (vR remF) g ds o x y
 | .and=>d2 (vR (bitF Nat.land)) g ds o x y
 | .or=>d2 (vR (bitF Nat.lor)) g ds o x y
 | .xor=>d2 (vR (bitF Nat.xor)) g ds o x y
 | .shl=>d2 (vR shlF) g ds o x y
 | .shr=>d2 (vR shrF) g ds o x y
 | .add=>d2 addR g ds o x y
 | .sub=>d2 subR g ds o x y
 | .lss=>d2 ltR g ds o x y
 | .leq=>d2 leR g ds o x y
 | .gtr=>d2 gtR g ds o x y
 | .geq=>d2 geR g ds o x y
 | .eql=>match isStr g ty with
  | true=>d2 esR g ds o x y
  | false=>d2 eqR g ds o x y
 | .neq=>match isStr g ty with
  | true=>d2 nsR g ds o x y
  | false=>d2 neR g ds o x y
 | _ => .no
theorem dbin_ok {g:G} {ds:List Nat} {o:Oper} {op:Op} {b:BinOp} {ty:Nat} {x y:Operand} (hc:cop g o = kBin2 g op b ty x y):DoOk (cop g o) ds (dbin g ds o b ty x y):=by
 unfold dbin
 unfold kBin2 kBinO at hc
 cases b <;> simp only at hc ⊢ <;> first
  | exact trivial
  | exact d2_ok (vR_ok _) hc
  | exact d2_ok addR_ok hc
  | exact d2_ok subR_ok hc
  | exact d2_ok ltR_ok hc
  | exact d2_ok leR_ok hc
  | exact d2_ok ltR_ok.swap hc
  | exact d2_ok leR_ok.swap hc
  | (cases hs:isStr g ty <;> simp only [hs] at hc ⊢ <;> first
    | exact d2_ok eqR_ok hc
    | exact d2_ok esR_ok hc
    | exact d2_ok neR_ok hc
    | exact d2_ok nsR_ok hc)
noncomputable def dcmp (g:G) (ds:List Nat) (o:Oper) (b:BinOp) (x y:Operand):DO:=match b with
 | .lss=>d2 (vR (cmpI Nat.blt)) g ds o x y
 | .gtr=>d2 (vR (cmpI gtN)) g ds o x y
 | .leq=>d2 (vR (cmpI Nat.ble)) g ds o x y
 | .geq=>d2 (vR (cmpI geN)) g ds o x y
 | .eql=>d2 (vR (cmpI Nat.beq)) g ds o x y
 | .neq=>d2 (vR (cmpI nbeq)) g ds o x y
 | _ => .no
theorem dcmp_ok {g:G} {ds:List Nat} {o:Oper} {op:Op} {b:BinOp} {x y:Operand} (hc:cop g o = kCmp g o op b x y):DoOk (cop g o) ds (dcmp g ds o b x y):=by
 unfold dcmp
 unfold kCmp at hc
 cases b <;> simp only at hc ⊢ <;> first
  | exact trivial
  | exact d2_ok (vR_ok _) hc
noncomputable def dbinO (g:G) (ds:List Nat) (o:Oper) (b:BinOp) (ty:Nat) (x y:Operand):DO:=match isBy g ty with
 | true=>dcmp g ds o b x y
 | false=>match b with
  | .eql=>match isPt g ty with
   | true=>w2 eqPt g ds o x y
   | false=>dbin g ds o .eql ty x y
  | .neq=>match isPt g ty with
   | true=>w2 eqPn1 g ds o x y
   | false=>dbin g ds o .neq ty x y
  | b=>dbin g ds o b ty x y
theorem kEqP_q {g:G} {op:Op} {x y:Operand} (neg:Bool):kEqP g op neg x y = match neg with
  | false=>KO.q (fun t h nx=>orV (eqPt ((cev x).f t) ((cev y).f t) h) (qSlow g op t h nx))
  | true=>KO.q (fun t h nx=>orV (notF (eqPt ((cev x).f t) ((cev y).f t) h)) (qSlow g op t h nx)):=by
 unfold kEqP
 generalize cev x = e
 generalize cev y = e'
 cases e
 cases e'
 cases neg <;> rfl
theorem dbinO_ok {g:G} {ds:List Nat} {o:Oper} {b:BinOp} {ty yt:Nat} {x y:Operand} (ho:o.op = .binOp b ty x y yt):DoOk (cop g o) ds (dbinO g ds o b ty x y):=by
 unfold dbinO
 have e1:copB g o = kBin2 g (.binOp b ty x y yt) b ty x y:=by unfold copB; simp only [ho]
 cases hy:isBy g ty with
 | true=>
  have e:cop g o = kCmp g o (.binOp b ty x y yt) b x y:=by unfold cop; simp only [ho,hy]
  exact dcmp_ok e
 | false=>
  have pl:(∀ c,b ≠ c → True) → cop g o = copB g o → DoOk (cop g o) ds (dbin g ds o b ty x y):=fun _ h=>dbin_ok (h.trans e1)
  cases b <;> simp only <;> first
   | exact pl (fun _ _=>trivial) (by unfold cop; simp only [ho,hy])
   | skip
  ·cases hp:isPt g ty with
   | false=>exact pl (fun _ _=>trivial) (by unfold cop; simp only [ho,hy,hp])
   | true=>
    have e:cop g o = kEqP g (.binOp .eql ty x y yt) false x y:=by unfold cop; simp only [ho,hy,hp]
    rw [kEqP_q] at e
    exact w2_ok (V:=eqPt) e fun t h nx hk=>orV_kn hk
  ·cases hp:isPt g ty with
   | false=>exact pl (fun _ _=>trivial) (by unfold cop; simp only [ho,hy,hp])
   | true=>
    have e:cop g o = kEqP g (.binOp .neq ty x y yt) true x y:=by unfold cop; simp only [ho,hy,hp]
    rw [kEqP_q] at e
    exact w2_ok (V:=eqPn1) e fun t h nx hk=>orV_kn hk
noncomputable def dload (g:G) (ds:List Nat) (o:Oper) (ty:Nat) (x:Operand):DO:=match tiOf g.tt ty with
 | none => .no
 | some i=>match i.agg with
  | true=>l1 (lgR i.size) ds x
  | false=>match isBy g ty with
   | true=>d1 (v1hR ldV) g ds o x
   | false=>l1 ldR ds x
theorem dload_ok {g:G} {ds:List Nat} {o:Oper} {ty:Nat} {x:Operand} (ho:o.op = .load ty x):DoOk (cop g o) ds (dload g ds o ty x):=by
 have e:cop g o = kLoad2 g ty x:=by unfold cop copB; simp only [ho]
 unfold dload
 unfold kLoad2 kLoad at e
 cases hi:tiOf g.tt ty with
 | none=>exact trivial
 | some i=>
  rw [hi] at e
  simp only at e ⊢
  cases ha:i.agg with
  | true=>
   rw [ha] at e
   simp only at e ⊢
   rw [KE.eta (cev x)] at e
   exact l1_ok (lgR_ok i.size) e fun t h nx hk=>orV_kn hk
  | false=>
   rw [ha] at e
   simp only at e ⊢
   cases isBy g ty with
   | true=>
    rw [KE.eta (cev x)] at e
    exact d1_ok (v1hR_ok ldV) e fun t h nx hk=>orV_kn hk
   | false=>
    rw [KE.eta (cev x)] at e
    exact l1_ok ldR_ok e fun t h nx hk=>orV_kn hk
noncomputable def faO (g:G) (ty k:Nat):Option Nat:=match tiOf g.tt ty with
 | none=>none
 | some i=>match nthL i.fields k with
  | none=>none
  | some (ft,off)=>match tiOf g.tt ft with
   | none=>none
   | some j=>match j.size with
    | 0=>none
    | _ + 1=>some off
noncomputable def dfa (g:G) (ds:List Nat) (ty k:Nat) (x:Operand):DO:=match faO g ty k with
 | some off=>e1 (faR off) ds x
 | none => .no
theorem dfa_ok {g:G} {ds:List Nat} {o:Oper} {ty k:Nat} {x:Operand} (ho:o.op = .fieldAddr ty x k):DoOk (cop g o) ds (dfa g ds ty k x):=by
 have e:cop g o = kFa g ty x k:=by unfold cop copB; simp only [ho]
 unfold dfa faO
 unfold kFa at e
 rcases h1:tiOf g.tt ty with _ | i
 ·exact trivial
 ·rw [h1] at e
  simp only at e ⊢
  rcases h2:nthL i.fields k with _ | ⟨ft,off⟩
  ·exact trivial
  ·rw [h2] at e
   simp only at e ⊢
   rcases h3:tiOf g.tt ft with _ | j
   ·exact trivial
   ·rw [h3] at e
    simp only at e ⊢
    rcases h4:j.size with _ | m
    ·exact trivial
    ·rw [h4] at e
     simp only at e ⊢
     rw [KE.eta (cev x)] at e
     exact e1_ok (faR_ok off) e fun t h nx hk=>rfl
noncomputable def dia (g:G) (ds:List Nat) (o:Oper) (ty:Nat) (x y:Operand):DO:=match tiOf g.tt ty with
 | none => .no
 | some i=>match i.kind with
  | .array _ _=>match tiOf g.tt i.elem with
   | none => .no
   | some j=>d2 (vR (ixP j.size i.len)) g ds o x y
  | .slice _=>match tiOf g.tt i.elem with
   | none => .no
   | some j=>d2 (ixR j.size) g ds o x y
  | _ => .no
theorem dia_ok {g:G} {ds:List Nat} {o:Oper} {ty:Nat} {x y:Operand} (ho:o.op = .indexAddr ty x y):DoOk (cop g o) ds (dia g ds o ty x y):=by
 have e:cop g o = kIa2 g ty x y:=by unfold cop copB; simp only [ho]
 unfold dia
 unfold kIa2 kIa at e
 rcases h1:tiOf g.tt ty with _ | i
 ·exact trivial
 ·rw [h1] at e
  simp only at e ⊢
  cases hk:i.kind <;> first | exact trivial | skip
  ·rw [hk] at e
   simp only at e ⊢
   rcases h2:tiOf g.tt i.elem with _ | j
   ·exact trivial
   ·rw [h2] at e
    simp only at e ⊢
    rw [KE.eta (cev x),KE.eta (cev y)] at e
    exact q2_ok (ixR_ok j.size) e fun t h nx hk=>orV_kn hk
  ·rw [hk] at e
   simp only at e ⊢
   rcases h2:tiOf g.tt i.elem with _ | j
   ·exact trivial
   ·rw [h2] at e
    simp only at e ⊢
    rw [KE.eta (cev x),KE.eta (cev y)] at e
    exact q2_ok (vR_ok (ixP j.size i.len)) e fun t h nx hk=>rfl
noncomputable def didx (g:G) (ds:List Nat) (o:Oper) (ty:Nat) (x y:Operand):DO:=match tiOf g.tt ty with
 | none => .no
 | some i=>match i.kind with
  | .string=>d2 (vR ixS) g ds o x y
  | .array _ _=>match tiOf g.tt i.elem with
   | none => .no
   | some j=>match j.agg with
    | true => .no
    | false=>match Nat.beq j.size 1 with
     | false => .no
     | true=>d2 (vR (ixA i.len)) g ds o x y
  | _ => .no
theorem didx_ok {g:G} {ds:List Nat} {o:Oper} {ty:Nat} {x y:Operand} (ho:o.op = .index ty x y):DoOk (cop g o) ds (didx g ds o ty x y):=by
 have e:cop g o = kIdx2 g ty x y:=by unfold cop; simp only [ho]
 unfold didx
 unfold kIdx2 kIdxA at e
 rcases h1:tiOf g.tt ty with _ | i
 ·exact trivial
 ·rw [h1] at e
  simp only at e ⊢
  cases hk:i.kind <;> first | exact trivial | skip
  ·rw [hk] at e
   simp only at e ⊢
   rw [KE.eta (cev x),KE.eta (cev y)] at e
   exact q2_ok (vR_ok ixS) e fun t h nx hk=>orV_kn hk
  ·rw [hk] at e
   simp only at e ⊢
   rcases h2:tiOf g.tt i.elem with _ | j
   ·exact trivial
   ·rw [h2] at e
    simp only at e ⊢
    cases ha:j.agg with
    | true=>exact trivial
    | false=>
     rw [ha] at e
     simp only at e ⊢
     cases hb:Nat.beq j.size 1 with
     | false=>exact trivial
     | true=>
      rw [hb] at e
      simp only at e ⊢
      rw [KE.eta (cev x),KE.eta (cev y)] at e
      exact q2_ok (vR_ok (ixA i.len)) e fun t h nx hk=>orV_kn hk
noncomputable def dlen (g:G) (ds:List Nat) (o:Oper) (c:Call):DO:=match c.callee with
 | .builtin .len=>match c.argTypes.toList with
  | t :: _=>match c.args.toList with
   | [x]=>match tiOf g.tt t with
    | some i=>match i.kind with
     | .string=>w1 lnS g ds o x
     | .slice _=>w1 lnF g ds o x
     | _ => .no
    | none => .no
   | _ => .no
  | [] => .no
 | _ => .no
theorem dlen_ok {g:G} {ds:List Nat} {o:Oper} {c:Call} (ho:o.op = .call c):DoOk (cop g o) ds (dlen g ds o c):=by
 have e:cop g o = kLenS g o c:=by unfold cop; simp only [ho]
 unfold dlen
 cases hc:c.callee with
 | builtin b=>
  cases b <;> simp only <;> first | exact trivial | skip
  have e2:copB g o = kLen g c:=by unfold copB kCallO; simp only [ho,hc]
  unfold kLenS at e
  simp only [hc] at e
  unfold kLen at e2
  cases h1:c.argTypes.toList with
  | nil=>exact trivial
  | cons t r=>
   simp only [h1] at e e2 ⊢
   cases h2:c.args.toList with
   | nil=>exact trivial
   | cons x r2=>
    cases r2 with
    | cons _ _=>exact trivial
    | nil=>
     simp only [h2] at e e2 ⊢
     rcases h3:tiOf g.tt t with _ | i
     ·exact trivial
     ·simp only [h3] at e e2 ⊢
      cases hk:i.kind <;> first | exact trivial | skip
      ·simp only [hk] at e e2 ⊢
       rw [KE.eta (cev x)] at e
       exact w1_ok e fun t h nx hk=>orV_kn hk
      ·simp only [hk] at e e2 ⊢
       rw [e2,KE.eta (cev x)] at e
       exact w1_ok e fun t h nx hk=>orV_kn hk
 | _=>exact trivial
noncomputable def dconv (g:G) (ds:List Nat) (o:Oper) (s d:Nat) (x:Operand):DO:=match tiOf g.tt s with
 | none => .no
 | some _=>match intK g d with
  | none => .no
  | some k=>w1 (cvF k) g ds o x
theorem dconv_ok {g:G} {ds:List Nat} {o:Oper} {s d:Nat} {x:Operand} (ho:o.op = .convert s d x):DoOk (cop g o) ds (dconv g ds o s d x):=by
 have e:cop g o = kConv g s d x o.pos:=by unfold cop copB; simp only [ho]
 unfold dconv
 unfold kConv kUn at e
 rcases h1:tiOf g.tt s with _ | i
 ·exact trivial
 ·rw [h1] at e
  simp only at e ⊢
  rcases h2:intK g d with _ | k
  ·exact trivial
  ·rw [h2] at e
   simp only at e ⊢
   rw [KE.eta (cev x)] at e
   exact w1_ok e fun t h nx hk=>(by show (Bool.rec (motive:=fun _=>AV) (qSlow g (.convert s d x) t h nx) (cvF k ((cev x).f t)) (isKn (cvF k ((cev x).f t))):AV) = _; rw [isKn_of hk])
noncomputable def dstore (g:G) (ds:List Nat) (ty:Nat) (x y:Operand):DO:=match tiOf g.tt ty with
 | none => .no
 | some i=>match i.agg with
  | true=>f2 (sgE i.size) ds x y
  | false=>match i.size with
   | 1=>f2 stE ds x y
   | _ => .no
theorem dstore_ok {g:G} {ds:List Nat} {o:Oper} {ty:Nat} {x y:Operand} (ho:o.op = .store ty x y):DoOk (cop g o) ds (dstore g ds ty x y):=by
 have e:cop g o = kStore g ty x y o.pos:=by unfold cop copB; simp only [ho]
 unfold dstore
 unfold kStore at e
 rcases h1:tiOf g.tt ty with _ | i
 ·exact trivial
 ·rw [h1] at e
  simp only at e ⊢
  cases ha:i.agg with
  | true=>
   rw [ha] at e
   simp only at e ⊢
   rw [KE.eta (cev x),KE.eta (cev y)] at e
   exact sgE_ok e
  | false=>
   rw [ha] at e
   simp only at e ⊢
   split
   ·rename_i hs
    rw [hs,KE.eta (cev x),KE.eta (cev y)] at e
    exact stE_ok e
   ·exact trivial
noncomputable def dbox (g:G) (ds:List Nat) (ty:Nat) (x:Operand):DO:=match tiOf g.tt ty with
 | none => .no
 | some i=>match i.agg with
  | true=>f1 bgE ds x
  | false=>f1 b1E ds x
theorem dbox_ok {g:G} {ds:List Nat} {o:Oper} {ty:Nat} {x:Operand} (ho:o.op = .box ty x):DoOk (cop g o) ds (dbox g ds ty x):=by
 have e:cop g o = kBox g x o.pos:=by unfold cop copB; simp only [ho]
 unfold dbox
 unfold kBox at e
 rw [KE.eta (cev x)] at e
 split
 ·exact trivial
 ·split
  ·exact bgE_ok e
  ·exact b1E_ok e
noncomputable def dal (g:G) (ty:Nat):DO:=match tiOf g.tt ty with
 | none => .no
 | some i=>match i.zero with
  | some z=>dalloc z
  | none => .no
theorem dal_ok {g:G} {ds:List Nat} {o:Oper} {ty:Nat} (ho:o.op = .alloc ty):DoOk (cop g o) ds (dal g ty):=by
 have e:cop g o = kAlloc g ty o.pos:=by unfold cop copB; simp only [ho]
 unfold dal
 unfold kAlloc at e
 rcases h1:tiOf g.tt ty with _ | i
 ·exact trivial
 ·rw [h1] at e
  simp only at e ⊢
  cases h2:i.zero with
  | none=>exact trivial
  | some z=>
   rw [h2] at e
   exact dalloc_ok e
noncomputable def dopQ (g:G) (ds:List Nat) (o:Oper):DO:=match o.op with
 | .load ty x=>dload g ds o ty x
 | .store ty x y=>dstore g ds ty x y
 | .fieldAddr ty x k=>dfa g ds ty k x
 | .nilCheck x=>e1 nlR ds x
 | .unOp .not _ x=>e1 ntR ds x
 | .extract x n=>e1 (exR n) ds x
 | .binOp b ty x y _=>dbinO g ds o b ty x y
 | .indexAddr ty x y=>dia g ds o ty x y
 | .index ty x y=>didx g ds o ty x y
 | .call c=>match c.callee with
  | .builtin .len=>dlen g ds o c
  | .builtin .append=>dapp g ds o c
  | .builtin .min=>wl mnV g ds o c.args.toList
  | .builtin .max=>wl mxV g ds o c.args.toList
  | _ => .no
 | .build ty ps=>wl (bdV g ty (fstL ps.toList)) g ds o (sndO ps.toList)
 | .buildSlice ty n ps=>dbs g ds o ty n ps.toList
 | .makeFunc f fs cs=>match f with
  | .func f=>match fs.toList with
   | []=>wl (mfV f) g ds o cs.toList
   | _ => .no
  | _ => .no
 | .slice ty x lo hi mx=>match mx with
  | none=>wl (slV g ty lo.isSome hi.isSome) g ds o (x :: (lo.toList ++ hi.toList))
  | some _ => .no
 | .convert s d x=>dconv g ds o s d x
 | .pick c x y=>dpick ds c x y
 | .alloc ty=>dal g ty
 | .box ty x=>dbox g ds ty x
 | _ => .no
theorem dopQ_ok {g:G} {ds:List Nat} {o:Oper}:DoOk (cop g o) ds (dopQ g ds o):=by
 unfold dopQ
 split
 ·rename_i ho; exact dload_ok ho
 ·rename_i ho; exact dstore_ok ho
 ·rename_i ho; exact dfa_ok ho
 ·rename_i x ho
  have e:cop g o = kNil g x:=by unfold cop copB; simp only [ho]
  unfold kNil at e
  rw [KE.eta (cev x)] at e
  exact e1_ok nlR_ok e fun t h nx hk=>rfl
 ·rename_i ty x ho
  have e:cop g o = kNot g (.unOp .not ty x) x:=by unfold cop copB; simp only [ho]
  unfold kNot at e
  rw [KE.eta (cev x)] at e
  exact e1_ok ntR_ok e fun t h nx hk=>(by show (Bool.rec (motive:=fun _=>AV) (qSlow g (.unOp .not ty x) t h nx) (notF ((cev x).f t)) (isKn (notF ((cev x).f t))):AV) = _; rw [isKn_of hk])
 ·rename_i x n ho
  have e:cop g o = kUn g (.extract x n) (extF n) x:=by unfold cop copB; simp only [ho]
  unfold kUn at e
  rw [KE.eta (cev x)] at e
  exact e1_ok (exR_ok n) e fun t h nx hk=>(by show (Bool.rec (motive:=fun _=>AV) (qSlow g (.extract x n) t h nx) (extF n ((cev x).f t)) (isKn (extF n ((cev x).f t))):AV) = _; rw [isKn_of hk])
 ·rename_i ho; exact dbinO_ok ho
 ·rename_i ho; exact dia_ok ho
 ·rename_i ho; exact didx_ok ho
 ·rename_i ho
  split
  ·exact dlen_ok ho
  ·rename_i hc; exact dapp_ok ho hc
  ·rename_i hc; exact dmin_ok ho hc
  ·rename_i hc; exact dmax_ok ho hc
  ·exact trivial
 ·rename_i ho; exact dbuild_ok ho
 ·rename_i ho; exact dbs_ok ho
 ·rename_i ho
  split
  ·split
   ·rename_i hf; exact dfunc_ok ho hf
   ·exact trivial
  ·exact trivial
 ·rename_i ho
  split
  ·exact dslice_ok ho
  ·exact trivial
 ·rename_i ho; exact dconv_ok ho
 ·rename_i ho; exact dpick_ok ho
 ·rename_i ho; exact dal_ok ho
 ·rename_i ho; exact dbox_ok ho
 ·exact trivial
noncomputable def dop (g:G) (ds:List Nat) (o:Oper):DO:=match dopQ g ds o with
 | .no=>dopG g ds o
 | d=>d
theorem dop_ok {g:G} {ds:List Nat} {o:Oper}:DoOk (cop g o) ds (dop g ds o):=by
 have h:=dopQ_ok (g:=g) (ds:=ds) (o:=o)
 unfold dop
 cases hd:dopQ g ds o with
 | no=>exact dopG_ok
 | q f=>rw [hd] at h; exact h
 | e f=>rw [hd] at h; exact h
end
section
abbrev KJ:=Fm → Tr Ob → Nat → RJ
noncomputable def rst (dst:Option Nat) (t:Fm) (a:AV):Fm:=match dst with
 | none=>t
 | some d=>t.put d a
noncomputable def dstK (n:Nat) (dst:Option Nat):Bool:=match dst with
 | none=>true
 | some d=>Nat.blt d n
theorem cdst_rst {n:Nat} {dst:Option Nat} (h:dstK n dst = true):∃ s,cdst n dst = KD.mk s ∧ ∀ t a,s t a = rst dst t a:=by
 cases dst with
 | none=>exact ⟨_,rfl,fun _ _=>rfl⟩
 | some d=>
  unfold dstK at h
  simp only at h
  unfold cdst
  simp only [h]
  refine ⟨fun t a=>t.put d a, ?_,fun _ _=>rfl⟩
  unfold Fm.put
  generalize facc d = c
  cases c
  rfl
noncomputable def gdOf (all:List Oper) (o:Oper):Option (Option (Nat × Bool)):=match o.guard with
 | none=>some none
 | some (j,want)=>match nthO all j with
  | none=>none
  | some oj=>match oj.dst with
   | none=>none
   | some d=>some (some (d,want))
noncomputable def gdQ (c : AV) (want : Bool) (y : (AV → RJ) → RJ) (k : AV → RJ) : RJ := gdF c want (y k) (k (.vtp [])) (.er 99 "")
noncomputable def gdE (c : AV) (want : Bool) (y : KV → RJ) (h : Tr Ob) (nx : Nat) (k : KV) : RJ := gdF c want (y k) (k (.vtp []) h nx) (.er 99 "")
noncomputable def mvOf:Op → Option Operand
 | .move x=>some x
 | .assign x=>some x
 | _=>none
noncomputable def knP (a : AV) (k : AV → RJ) : RJ := knK a k (.er 20 "")
noncomputable def dmv (dr:Bool) (ds:List Nat) (x:Operand):DO:=match dr with
 | true => .q (fun vs _ _ k=>knP ((cev x).f (unm ds vs)) k)
 | false => .q (fun vs _ _ k=>k ((cev x).f (unm ds vs)))
noncomputable def dopM (dr:Bool) (g:G) (ds:List Nat) (o:Oper):DO:=match mvOf o.op with
 | some x=>dmv dr ds x
 | none=>dop g ds o
theorem cop_mv {g:G} {o:Oper} {x:Operand} (h:mvOf o.op = some x):cop g o = .q (fun t _ _=>(cev x).f t):=by
 rw [← kMove_eq]
 unfold mvOf at h
 split at h
 ·rename_i y hy; cases h; unfold cop copB; simp only [hy]
 ·rename_i y hy; cases h; unfold cop copB; simp only [hy]
 ·cases h
theorem kn_one (a:AV):(∀ k, ¬ GoodR (knP a k)) ∨ (a ≠ .vno ∧ ∀ k,knP a k = k a):=by
 by_cases h:a = .vno
 ·subst h; exact Or.inl fun k=>er_bad
 ·exact Or.inr ⟨h,fun k=>knK_kn h k _⟩
theorem dopM_ok {g:G} {ds:List Nat} {o:Oper}:DoOk (cop g o) ds (dopM true g ds o):=by
 unfold dopM
 cases h:mvOf o.op with
 | none=>exact dop_ok
 | some x=>
  show DoQ (cop g o) ds (fun vs _ _ k=>knP ((cev x).f (unm ds vs)) k)
  refine ⟨_,cop_mv h,fun t hh nx => ?_⟩
  simp only [unm_vl]
  rcases kn_one ((cev x).f (mask ds t)) with e | ⟨e1,e2⟩
  ·exact Or.inl e
  ·exact Or.inr ⟨_,rfl,e1,e2⟩
noncomputable abbrev stepD (gd:Option (Option (Nat × Bool))) (t:Fm) (D:DO) (J:JC) (vs:List AV) (h:Tr Ob) (nx:Nat) (KQ:AV → RJ) (KE:AV → Tr Ob → Nat → RJ):RJ:=match D with
 | .no => .er 97 ""
 | .q f=>match gd with
  | none => .er 99 ""
  | some none=>f vs h nx KQ
  | some (some (d,want))=>gdQ (t.at d) want (f vs h nx) KQ
 | .e f=>match gd with
  | none => .er 99 ""
  | some none=>f J vs h nx KE
  | some (some (d,want))=>gdE (t.at d) want (f J vs h nx) h nx KE
noncomputable def freeZ (g:G) (o:Oper):Option (List AV):=match o.op with
 | .alloc ty=>match tiOf g.tt ty with
  | none=>none
  | some i=>i.zero
 | _=>none
noncomputable abbrev dops (g:G) (n:Nat) (tab:Tab) (dr:Bool) (all:List Oper) (a mf:Nat) (fin:Fm → Fm → Tr Ob → Nat → List Stg → KJ → RJ) (J:JC):List Oper → Nat → Fm → Fm → Tr Ob → Nat → List Stg → KJ → RJ
 | [],_,u,t,h,nx,hs,kn=>fin u t h nx hs kn
 | o :: r,k,u,t,h,nx,hs,kn=>match dstK n o.dst with
  | false => .er 98 ""
  | true=>match within a mf k with
   | true=>match freeZ g o with
    | none => .er 38 ""
    | some z=>alP z h nx (fun x h nx=>dops g n tab dr all a mf fin J r (k + 1) u (rst o.dst t x) h nx hs kn)
   | false=>stepD (gdOf all o) t (dopM dr g (mens all o) o) (sJ tab J) (vl t (mens all o)) h nx
     (fun x=>dops g n tab dr all a mf fin J r (k + 1) u (rst o.dst t x) h nx hs kn)
     (fun x h nx=>dops g n tab dr all a mf fin J r (k + 1) u (rst o.dst t x) h nx (⟨h,nx⟩ :: hs) kn)
noncomputable def dstL:List Oper → List Nat
 | []=>[]
 | o :: r=>match o.dst with
  | none=>dstL r
  | some d=>d :: dstL r
theorem rst_at {dst:Option Nat} {t:Fm} {a:AV} {d:Nat} (h:dst ≠ some d):(rst dst t a).at d = t.at d:=by
 cases dst with
 | none=>rfl
 | some e=>exact Fm.at_put_ne _ _ fun e'=>h (by rw [e'])
theorem dstL_cons {o:Oper} {r:List Oper} {d:Nat} (h:d ∉ dstL (o :: r)):o.dst ≠ some d ∧ d ∉ dstL r:=by
 unfold dstL at h
 cases hd:o.dst with
 | none=>rw [hd] at h; exact ⟨(fun e=>by cases e),h⟩
 | some e=>
  rw [hd] at h
  exact ⟨fun e'=>h (by cases e'; exact List.mem_cons_self ..),fun e'=>h (List.mem_cons_of_mem _ e')⟩
theorem step_sim {g:G} {all:List Oper} {o:Oper} {D:DO} (hD:DoOk (cop g o) (mens all o) D) {J:JC} (O:OneJ J) (t:Fm) (h:Tr Ob) (nx:Nat) :
  (∀ KQ KE, ¬ GoodR (stepD (gdOf all o) t D J (vl t (mens all o)) h nx KQ KE)) ∨
  (∃ a,(∀ KQ KE,stepD (gdOf all o) t D J (vl t (mens all o)) h nx KQ KE = KQ a) ∧ ∀ s fr u hs,(hguard all o (hskip g o s fr) (hbase g o s (mask (mens all o)) fr)).f (dirJ J) u t h nx hs = fr (dirJ J) u (s t a) h nx hs) ∨
  ∃ a h1 nx1,(∀ KQ KE,stepD (gdOf all o) t D J (vl t (mens all o)) h nx KQ KE = KE a h1 nx1) ∧ ∀ s fr u hs,(hguard all o (hskip g o s fr) (hbase g o s (mask (mens all o)) fr)).f (dirJ J) u t h nx hs = fr (dirJ J) u (s t a) h1 nx1 (⟨h1,nx1⟩ :: hs):=by
 cases D with
 | no=>exact Or.inl fun KQ KE=>er_bad
 | q f=>
  obtain ⟨V,hc,hf⟩:=hD
  have hb:∀ s fr,hbase g o s (mask (mens all o)) fr = KHr.mk (fun J u t h nx hs=>knK (V (mask (mens all o) t) h nx) (fun a=>fr J u (s t a) h nx hs) (.er 20 o.pos)):=fun s fr=>by unfold hbase; rw [hc]
  have hk:∀ s fr,hskip g o s fr = KHr.mk (fun J u t h nx hs=>fr J u (s t (.vtp [])) h nx hs):=fun s fr=>by unfold hskip; rw [hc]; rfl
  have hf:=hf t h nx
  unfold stepD gdOf hguard
  rcases o.guard with _ | ⟨j,want⟩
  ·simp only
   rcases hf with e | ⟨a,e1,e2,e3⟩
   ·exact Or.inl fun KQ KE=>e KQ
   ·refine Or.inr (Or.inl ⟨a,fun KQ KE=>e3 KQ,fun s fr u hs => ?_⟩)
    rw [hb]
    show knK (V (mask (mens all o) t) h nx) _ _ = _
    rw [e1,knK_kn e2]
  ·simp only
   rcases nthO all j with _ | oj
   ·exact Or.inl fun KQ KE=>er_bad
   ·simp only
    rcases oj.dst with _ | d
    ·exact Or.inl fun KQ KE=>er_bad
    ·simp only
     have e0:∀ s fr u hs,(KHr.rec (motive:=fun _=>KHr) (fun yes=>KHr.rec (motive:=fun _=>KHr) (fun no=>Fa.rec (motive:=fun _=>KHr) (fun gd _=>KHr.mk (fun J u t h nx hs=>gdF (gd t) want (yes J u t h nx hs) (no J u t h nx hs) (.er 99 o.pos))) (facc d)) (hskip g o s fr)) (hbase g o s (mask (mens all o)) fr)).f (dirJ J) u t h nx hs
       = gdF (t.at d) want (knK (V (mask (mens all o) t) h nx) (fun a=>fr (dirJ J) u (s t a) h nx hs) (.er 20 o.pos)) (fr (dirJ J) u (s t (.vtp [])) h nx hs) (.er 99 o.pos):=fun s fr u hs=>by
      rw [hb,hk]
      unfold Fm.at
      generalize facc d = c
      cases c
      rfl
     unfold gdQ
     rcases gdF_nat (t.at d) want with e | e | e
     ·simp only [e0,e]
      rcases hf with c | ⟨a,e1,e2,e3⟩
      ·exact Or.inl fun KQ KE=>c KQ
      ·refine Or.inr (Or.inl ⟨a,fun KQ KE=>e3 KQ,fun s fr u hs => ?_⟩)
       rw [e1,knK_kn e2]
     ·simp only [e0,e]
      exact Or.inr (Or.inl ⟨.vtp [],fun KQ KE=>rfl,fun s fr u hs=>rfl⟩)
     ·simp only [e]
      exact Or.inl fun KQ KE=>er_bad
 | e f=>
  obtain ⟨F,hc,hf⟩:=hD J O
  have hb:∀ s fr,hbase g o s (mask (mens all o)) fr = KHr.mk (fun J u t h nx hs=>force (fun nx=>F J (mask (mens all o) t) h nx (fun a h nx=>fr J u (s t a) h nx (⟨h,nx⟩ :: hs))) nx):=fun s fr=>by unfold hbase; rw [hc]
  have hk:∀ s fr,hskip g o s fr = KHr.mk (fun J u t h nx hs=>fr J u (s t (.vtp [])) h nx (⟨h,nx⟩ :: hs)):=fun s fr=>by unfold hskip; rw [hc]; rfl
  have hf:=hf t h nx
  unfold stepD gdOf hguard
  rcases o.guard with _ | ⟨j,want⟩
  ·simp only
   rcases hf with e | ⟨a,h1,nx1,e1,e3⟩
   ·exact Or.inl fun KQ KE=>e KE
   ·refine Or.inr (Or.inr ⟨a,h1,nx1,fun KQ KE=>e3 KE,fun s fr u hs => ?_⟩)
    rw [hb]
    show force (fun nx=>F (dirJ J) (mask (mens all o) t) h nx (fun a h nx=>fr (dirJ J) u (s t a) h nx (⟨h,nx⟩ :: hs))) nx = _
    rw [force_eq,e1]
  ·simp only
   rcases nthO all j with _ | oj
   ·exact Or.inl fun KQ KE=>er_bad
   ·simp only
    rcases oj.dst with _ | d
    ·exact Or.inl fun KQ KE=>er_bad
    ·simp only
     have e0:∀ s fr u hs,(KHr.rec (motive:=fun _=>KHr) (fun yes=>KHr.rec (motive:=fun _=>KHr) (fun no=>Fa.rec (motive:=fun _=>KHr) (fun gd _=>KHr.mk (fun J u t h nx hs=>gdF (gd t) want (yes J u t h nx hs) (no J u t h nx hs) (.er 99 o.pos))) (facc d)) (hskip g o s fr)) (hbase g o s (mask (mens all o)) fr)).f (dirJ J) u t h nx hs
       = gdF (t.at d) want (force (fun nx=>F (dirJ J) (mask (mens all o) t) h nx (fun a h nx=>fr (dirJ J) u (s t a) h nx (⟨h,nx⟩ :: hs))) nx) (fr (dirJ J) u (s t (.vtp [])) h nx (⟨h,nx⟩ :: hs)) (.er 99 o.pos):=fun s fr u hs=>by
      rw [hb,hk]
      unfold Fm.at
      generalize facc d = c
      cases c
      rfl
     unfold gdE
     rcases gdF_nat (t.at d) want with e | e | e
     ·simp only [e0,e,force_eq]
      rcases hf with c | ⟨a,h1,nx1,e1,e3⟩
      ·exact Or.inl fun KQ KE=>c KE
      ·exact Or.inr (Or.inr ⟨a,h1,nx1,fun KQ KE=>e3 KE,fun s fr u hs=>by rw [e1]⟩)
     ·simp only [e0,e]
      exact Or.inr (Or.inr ⟨.vtp [],h,nx,fun KQ KE=>rfl,fun s fr u hs=>rfl⟩)
     ·simp only [e]
      exact Or.inl fun KQ KE=>er_bad
def FinOk (fin:Fm → Fm → Tr Ob → Nat → List Stg → KJ → RJ) (fin0:KHr):Prop := ∀ u t h nx hs,(∀ kn, ¬ GoodR (fin u t h nx hs kn)) ∨ ((∀ kn,fin u t h nx hs kn = kn t h nx) ∧ ∀ D,fin0.f D u t h nx hs = .c .nrm t h nx)
theorem dops_sim {g:G} {n:Nat} {tab:Tab} {all:List Oper} {a mf:Nat} {fin:Fm → Fm → Tr Ob → Nat → List Stg → KJ → RJ} {fin0:KHr} (hfin:FinOk fin fin0) {J:JC} (O:OneJ (sJ tab J)) :
  ∀ l k u t h nx hs,(∀ kn, ¬ GoodR (dops g n tab true all a mf fin J l k u t h nx hs kn)) ∨ ∃ t' h' nx',(∀ kn,dops g n tab true all a mf fin J l k u t h nx hs kn = kn t' h' nx') ∧ (hops g n all a mf fin0 l k).f (dirJ (sJ tab J)) u t h nx hs = .c .nrm t' h' nx' ∧ ∀ d,d ∉ dstL l → t'.at d = t.at d
 | [],k,u,t,h,nx,hs=>by
  rcases hfin u t h nx hs with e | ⟨e1,e2⟩
  ·exact Or.inl e
  ·exact Or.inr ⟨t,h,nx,e1,e2 _,fun _ _=>rfl⟩
 | o :: r,k,u,t,h,nx,hs=>by
  have ih:=dops_sim (g:=g) (n:=n) (tab:=tab) (all:=all) (a:=a) (mf:=mf) hfin O r (k + 1) u
  have e0:∀ kn,dops g n tab true all a mf fin J (o :: r) k u t h nx hs kn = match dstK n o.dst with
   | false => .er 98 ""
   | true=>match within a mf k with
    | true=>match freeZ g o with
     | none => .er 38 ""
     | some z=>alP z h nx (fun x h nx=>dops g n tab true all a mf fin J r (k + 1) u (rst o.dst t x) h nx hs kn)
    | false=>stepD (gdOf all o) t (dopM true g (mens all o) o) (sJ tab J) (vl t (mens all o)) h nx
      (fun x=>dops g n tab true all a mf fin J r (k + 1) u (rst o.dst t x) h nx hs kn)
      (fun x h nx=>dops g n tab true all a mf fin J r (k + 1) u (rst o.dst t x) h nx (⟨h,nx⟩ :: hs) kn):=fun kn=>rfl
  have e1:hops g n all a mf fin0 (o :: r) k = hstep g n all a mf k o (hops g n all a mf fin0 r (k + 1)):=rfl
  rw [e1]
  suffices key:∀ X:KJ → RJ,(∀ kn,X kn = match dstK n o.dst with
   | false => .er 98 ""
   | true=>match within a mf k with
    | true=>match freeZ g o with
     | none => .er 38 ""
     | some z=>alP z h nx (fun x h nx=>dops g n tab true all a mf fin J r (k + 1) u (rst o.dst t x) h nx hs kn)
    | false=>stepD (gdOf all o) t (dopM true g (mens all o) o) (sJ tab J) (vl t (mens all o)) h nx
      (fun x=>dops g n tab true all a mf fin J r (k + 1) u (rst o.dst t x) h nx hs kn)
      (fun x h nx=>dops g n tab true all a mf fin J r (k + 1) u (rst o.dst t x) h nx (⟨h,nx⟩ :: hs) kn)) →
    (∀ kn, ¬ GoodR (X kn)) ∨ ∃ t' h' nx',(∀ kn,X kn = kn t' h' nx') ∧ (hstep g n all a mf k o (hops g n all a mf fin0 r (k + 1))).f (dirJ (sJ tab J)) u t h nx hs = .c .nrm t' h' nx' ∧ ∀ d,d ∉ dstL (o :: r) → t'.at d = t.at d by
   exact key _ e0
  intro X hX
  simp only [hX]
  clear hX e0
  cases hd:dstK n o.dst with
  | false=>exact Or.inl fun kn=>er_bad
  | true=>
   obtain ⟨s,hs1,hs2⟩:=cdst_rst hd
   unfold hstep
   rw [hs1,KHr.eta (hops g n all a mf fin0 r (k + 1))]
   simp only
   cases hw:within a mf k with
   | true=>
    simp only
    cases hz:freeZ g o with
    | none=>exact Or.inl fun kn=>er_bad
    | some z=>
     simp only [alP_eq]
     rcases ih (rst o.dst t (.vp nx 0)) (h.set nx (.oc z false)) (Nat.succ nx) hs with c | ⟨t',h',nx',c1,c2,c3⟩
     ·exact Or.inl c
     ·refine Or.inr ⟨t',h',nx',c1, ?_,fun d hd => ?_⟩
      ·have hf:(hfree g o s (hops g n all a mf fin0 r (k + 1)).f).f (dirJ (sJ tab J)) u t h nx hs = (hops g n all a mf fin0 r (k + 1)).f (dirJ (sJ tab J)) u (s t (.vp nx 0)) (h.set nx (.oc z false)) (Nat.succ nx) hs:=by
        unfold freeZ at hz
        unfold hfree
        split at hz
        ·rename_i ty ho
         try simp only [ho]
         split at hz
         ·cases hz
         ·rename_i i hi
          try simp only [hi,hz]
          all_goals rfl
        ·cases hz
       rw [hf,hs2]
       exact c2
      ·obtain ⟨h1,h2⟩:=dstL_cons hd
       rw [c3 d h2,rst_at h1]
   | false=>
    simp only
    rw [KM.eta (cmask (mens all o))]
    simp only
    rcases step_sim (dopM_ok (g:=g) (ds:=mens all o) (o:=o)) O t h nx with c | ⟨x,c1,c2⟩ | ⟨x,h1,nx1,c1,c2⟩
    ·exact Or.inl fun kn=>c _ _
    ·simp only [c1]
     have c2:=c2 s (hops g n all a mf fin0 r (k + 1)).f u hs
     rcases ih (rst o.dst t x) h nx hs with e | ⟨t',h',nx',e1,e2,e3⟩
     ·exact Or.inl e
     ·refine Or.inr ⟨t',h',nx',e1, ?_,fun d hd => ?_⟩
      ·rw [hs2] at c2; exact c2.trans e2
      ·obtain ⟨h1,h2⟩:=dstL_cons hd
       rw [e3 d h2,rst_at h1]
    ·simp only [c1]
     have c2:=c2 s (hops g n all a mf fin0 r (k + 1)).f u hs
     rcases ih (rst o.dst t x) h1 nx1 (⟨h1,nx1⟩ :: hs) with e | ⟨t',h',nx',e1,e2,e3⟩
     ·exact Or.inl e
     ·refine Or.inr ⟨t',h',nx',e1, ?_,fun d hd => ?_⟩
      ·rw [hs2] at c2; exact c2.trans e2
      ·obtain ⟨h1,h2⟩:=dstL_cons hd
       rw [e3 d h2,rst_at h1]
noncomputable def vlU (R:RG) (k:Nat) (u t:Fm):List Nat → List AV
 | []=>[]
 | d :: r=>pickU R k u t d :: vlU R k u t r
theorem unm_vlU (R:RG) (k:Nat) (u t:Fm):∀ ds,unm ds (vlU R k u t ds) = maskU R k u t ds
 | []=>rfl
 | d :: r=>by rw [vlU,unm_cons,maskU,unm_vlU R k u t r]
theorem maskU_at {R:RG} {k:Nat} {u t:Fm} {d:Nat}:∀ {ds:List Nat},d ∈ ds → (maskU R k u t ds).at d = pickU R k u t d
 | [],h=>by cases h
 | x :: r,h=>by
  rw [maskU]
  by_cases hx:d = x
  ·subst hx
   refine put_at_same _ _ ?_
   unfold pickU
   split
   ·exact at_ge u d
   ·split
    ·exact at_ge t d
    ·exact at_ge u d
  ·rw [Fm.at_put_ne _ _ hx]
   rcases List.mem_cons.1 h with h | h
   ·exact absurd h hx
   ·exact maskU_at h
theorem vlU_vl {R:RG} {k:Nat} {u t X:Fm}:∀ {ds:List Nat},(∀ d ∈ ds,X.at d = pickU R k u t d) → vlU R k u t ds = vl X ds
 | [],_=>rfl
 | d :: r,h=>by rw [vlU,vl,h d (List.mem_cons_self ..),vlU_vl fun d hd=>h d (List.mem_cons_of_mem _ hd)]
noncomputable def lkC (v x : AV) (z : RJ) : RJ := Bool.rec (motive := fun _ => RJ) (.er 112 "") z (sameQ v x)
noncomputable abbrev dlk1 (f:List AV → Tr Ob → Nat → (AV → RJ) → RJ) (vs:List AV) (x:Option AV) (hs:List Stg) (s:Nat):List Nat → RJ → RJ
 | [],z=>z
 | q :: r,z=>match nthS hs (Nat.sub s q) with
  | none => .er 112 ""
  | some st=>f vs st.h st.nx fun v=>match x with
   | some x=>lkC v x (dlk1 f vs (some x) hs s r z)
   | none=>dlk1 f vs none hs s r z
noncomputable def lgP (c : AV) (want : Bool) (y : RJ → RJ) (z : RJ) : RJ := gdF c want (y z) z (.er 99 "")
noncomputable abbrev dlkO (g:G) (R:RG) (effs:List Nat) (k:Nat) (o:Oper) (u t:Fm) (hs:List Stg) (z:RJ):RJ:=match needs R effs k with
 | []=>z
 | p :: r=>match dopM true g (mens R.all o) o with
  | .no => .er 97 ""
  | .e _=>z
  | .q f=>match gdOf R.all o with
   | none => .er 99 ""
   | some none=>dlk1 f (vlU R k u t (mens R.all o)) (dstV t o.dst) hs (lenN effs 0) (p :: r) z
   | some (some (d,want))=>lgP ((unm (mens R.all o) (vlU R k u t (mens R.all o))).at d) want (dlk1 f (vlU R k u t (mens R.all o)) (dstV t o.dst) hs (lenN effs 0) (p :: r)) z
noncomputable abbrev dlkL (g:G) (R:RG) (effs:List Nat) (u t:Fm) (hs:List Stg):List (Nat × Oper) → RJ → RJ
 | [],z=>z
 | (k,o) :: r,z=>dlkO g R effs k o u t hs (dlkL g R effs u t hs r z)
noncomputable def eqD (t:Fm) (dst:Option Nat):AV → Bool:=match dst with
 | none=>isKn
 | some d=>fun v=>sameQ v (t.at d)
theorem dlk1_one {V:Fm → Tr Ob → Nat → AV} {rs:Fm} {f:List AV → Tr Ob → Nat → (AV → RJ) → RJ} {vs:List AV} (hq:∀ h nx,(∀ k, ¬ GoodR (f vs h nx k)) ∨ ∃ a,V rs h nx = a ∧ a ≠ .vno ∧ ∀ k,f vs h nx k = k a) {t:Fm} {dst:Option Nat} {hs:List Stg} {s:Nat}:∀ l,
  (∀ z, ¬ GoodR (dlk1 f vs (dstV t dst) hs s l z)) ∨ ((∀ z,dlk1 f vs (dstV t dst) hs s l z = z) ∧ ∀ q ∈ l, ∃ st,nthS hs (s - q) = some st ∧ eqD t dst (V rs st.h st.nx) = true)
 | []=>Or.inr ⟨fun _=>rfl,fun q hq=>by cases hq⟩
 | q :: r=>by
  have ih:=dlk1_one hq (t:=t) (dst:=dst) (hs:=hs) (s:=s) r
  have e0:∀ x z,dlk1 f vs x hs s (q :: r) z = match nthS hs (s - q) with
   | none => .er 112 ""
   | some st=>f vs st.h st.nx fun v=>match x with
    | some x=>lkC v x (dlk1 f vs (some x) hs s r z)
    | none=>dlk1 f vs none hs s r z:=fun x z=>rfl
  suffices key:∀ X:RJ → RJ,(∀ z,X z = match nthS hs (s - q) with
   | none => .er 112 ""
   | some st=>f vs st.h st.nx fun v=>match dstV t dst with
    | some x=>lkC v x (dlk1 f vs (some x) hs s r z)
    | none=>dlk1 f vs none hs s r z) → (∀ z, ¬ GoodR (X z)) ∨ ((∀ z,X z = z) ∧ ∀ q' ∈ q :: r, ∃ st,nthS hs (s - q') = some st ∧ eqD t dst (V rs st.h st.nx) = true) by
   exact key _ (e0 _)
  intro X hX
  clear e0
  cases hn:nthS hs (s - q) with
  | none=>exact Or.inl fun z=>by rw [hX,hn]; exact er_bad
  | some st=>
   rcases hq st.h st.nx with c | ⟨a,h1,h2,h3⟩
   ·exact Or.inl fun z=>by rw [hX,hn]; exact c _
   ·have hX2:∀ z,X z = match dstV t dst with
     | some x=>lkC a x (dlk1 f vs (some x) hs s r z)
     | none=>dlk1 f vs none hs s r z:=fun z=>by rw [hX,hn]; exact h3 _
    have go:(eqD t dst a = true → ∀ z,X z = dlk1 f vs (dstV t dst) hs s r z) → (eqD t dst a = false → ∀ z, ¬ GoodR (X z)) → (∀ z, ¬ GoodR (X z)) ∨ ((∀ z,X z = z) ∧ ∀ q' ∈ q :: r, ∃ st,nthS hs (s - q') = some st ∧ eqD t dst (V rs st.h st.nx) = true):=by
     intro g1 g2
     cases he:eqD t dst a with
     | false=>exact Or.inl (g2 he)
     | true=>
      rcases ih with c | ⟨c1,c2⟩
      ·exact Or.inl fun z=>by rw [g1 he]; exact c z
      ·refine Or.inr ⟨fun z=>by rw [g1 he]; exact c1 z,fun q' hq' => ?_⟩
       rcases List.mem_cons.1 hq' with rfl | hq'
       ·exact ⟨st,hn,by rw [h1]; exact he⟩
       ·exact c2 q' hq'
    cases dst with
    | none=>exact go (fun _ z=>hX2 z) fun he=>by have:isKn a = false:=he; rw [isKn_of h2] at this; cases this
    | some d=>
     refine go (fun he z => ?_) fun he z => ?_
     ·have he:sameQ a (t.at d) = true:=he
      rw [hX2]
      show lkC a (t.at d) _ = _
      unfold lkC
      rw [he]; rfl
     ·have he:sameQ a (t.at d) = false:=he
      rw [hX2]
      show ¬ GoodR (lkC a (t.at d) _)
      unfold lkC
      rw [he]; exact er_bad
theorem clooks_of {V:Fm → Tr Ob → Nat → AV} {s:Nat} {rs:Fm} {eq:AV → Bool} {hs:List Stg}:∀ l,(∀ q ∈ l, ∃ st,nthS hs (s - q) = some st ∧ eq (V rs st.h st.nx) = true) → (clooks V s l).f rs eq hs = true
 | [],_=>rfl
 | p :: r,h=>by
  obtain ⟨st,h1,h2⟩:=h p (List.mem_cons_self ..)
  rw [clooks,Sa.eta (sacc (Nat.sub s p)),KL2.eta (clooks V s r)]
  show Bool.rec (motive:=fun _=>Bool) false ((clooks V s r).f rs eq hs) ((sacc (Nat.sub s p)).g hs (fun h nx=>eq (V rs h nx))) = true
  rw [sacc_eq]
  have h1:nthS hs (Nat.sub s p) = some st:=h1
  rw [h1]
  simp only [h2]
  exact clooks_of r fun q hq=>h q (List.mem_cons_of_mem _ hq)
theorem looks_of {V:Fm → Tr Ob → Nat → AV} {s:Nat} {rs:Fm} {eq:AV → Bool} {x:Option AV} {hs:List Stg} (he:∀ v,eq v = true → sameV v x = true):∀ l,(∀ q ∈ l, ∃ st,nthS hs (s - q) = some st ∧ eq (V rs st.h st.nx) = true) → looks V rs x hs s l = true
 | [],_=>rfl
 | p :: r,h=>by
  obtain ⟨st,h1,h2⟩:=h p (List.mem_cons_self ..)
  rw [looks,looks_of he r fun q hq=>h q (List.mem_cons_of_mem _ hq),Bool.and_true]
  unfold look1
  rw [h1]
  exact he _ h2
theorem eqD_same {t:Fm} {dst:Option Nat} (v:AV) (h:eqD t dst v = true):sameV v (dstV t dst) = true:=by
 cases dst with
 | none=>exact h
 | some d=>exact sameQ_eq h
theorem dlkO_one {g:G} {R:RG} {effs:List Nat} {k:Nat} {o:Oper} {u t:Fm} {hs:List Stg}:(∀ z, ¬ GoodR (dlkO g R effs k o u t hs z)) ∨ ((∀ z,dlkO g R effs k o u t hs z = z) ∧ (clookO g R effs k o).f u t hs = true):=by
 unfold dlkO clookO
 cases hn:needs R effs k with
 | nil=>exact Or.inr ⟨fun _=>rfl,rfl⟩
 | cons p r=>
  simp only
  have ok:=dopM_ok (g:=g) (ds:=mens R.all o) (o:=o)
  revert ok
  cases dopM true g (mens R.all o) o with
  | no=>exact fun _=>Or.inl fun z=>er_bad
  | e f=>
   intro ok
   obtain ⟨F, hc, -⟩ := ok (fun _ _ _ _ _ => .er 0 "") fun _ _ _ _ => Or.inl fun _ => er_bad
   simp only [hc]
   exact Or.inr ⟨fun _=>trivial,rfl⟩
  | q f=>
   rintro ⟨V,hc,hf⟩
   have hq:∀ h nx,(∀ k', ¬ GoodR (f (vlU R k u t (mens R.all o)) h nx k')) ∨ ∃ a,V (unm (mens R.all o) (vlU R k u t (mens R.all o))) h nx = a ∧ a ≠ .vno ∧ ∀ k',f (vlU R k u t (mens R.all o)) h nx k' = k' a:=by
    intro h nx
    have e1:vlU R k u t (mens R.all o) = vl (maskU R k u t (mens R.all o)) (mens R.all o):=vlU_vl fun d hd=>maskU_at hd
    rw [e1,unm_vl]
    exact hf _ h nx
   simp only [hc]
   unfold gdOf
   rcases hg:o.guard with _ | ⟨j,want⟩
   ·simp only
    rcases dlk1_one hq (t:=t) (dst:=o.dst) (hs:=hs) (s:=lenN effs 0) (p :: r) with c | ⟨c1,c2⟩
    ·exact Or.inl c
    ·refine Or.inr ⟨c1, ?_⟩
     rw [KMU.eta (cmaskU R k (mens R.all o)),KL2.eta (clooks V (lenN effs 0) (p :: r))]
     simp only
     have c3:=clooks_of (V:=V) (p :: r) c2
     rw [unm_vlU,← cmaskU_eq] at c3
     cases hd:o.dst with
     | none=>
      rw [hd] at c3
      exact c3
     | some d=>
      rw [hd] at c3
      have c4:(clooks V (lenN effs 0) (p :: r)).f ((cmaskU R k (mens R.all o)).f u t) (fun v=>sameQ v (t.at d)) hs = true:=c3
      simp only
      revert c4
      unfold Fm.at
      generalize facc d = c
      cases c
      exact fun h=>h
   ·simp only
    rcases hj:nthO R.all j with _ | oj
    ·exact Or.inl fun z=>er_bad
    ·simp only
     rcases hd:oj.dst with _ | d
     ·exact Or.inl fun z=>er_bad
     ·simp only
      have hL:∀ b,wantA o R.all (maskU R k u t (mens R.all o)) = some b → (b = true → looks V (maskU R k u t (mens R.all o)) (dstV t o.dst) hs (lenN effs 0) (p :: r) = true) → lookO g R effs k o u t hs = true:=fun b hb h1=>by
       unfold lookO
       rw [hn]
       simp only [hc,hb]
       cases b with
       | false=>rfl
       | true=>exact h1 rfl
      have hW:∀ x,(maskU R k u t (mens R.all o)).at d = .vb x → wantA o R.all (maskU R k u t (mens R.all o)) = some (x == want):=fun x hx=>by
       unfold wantA
       rw [hg]; simp only [hj,hd,hx]
      have hW2:(maskU R k u t (mens R.all o)).at d = .vtp [] → wantA o R.all (maskU R k u t (mens R.all o)) = some false:=fun hx=>by
       unfold wantA
       rw [hg]; simp only [hj,hd,hx]
      unfold lgP
      rw [unm_vlU]
      rcases dlk1_one hq (t:=t) (dst:=o.dst) (hs:=hs) (s:=lenN effs 0) (p :: r) with c | ⟨c1,c2⟩
      ·by_cases hb : ∃ z, GoodR (gdF ((maskU R k u t (mens R.all o)).at d) want (dlk1 f (vlU R k u t (mens R.all o)) (dstV t o.dst) hs (lenN effs 0) (p :: r) z) z (.er 99 ""))
       ·obtain ⟨z,hz⟩:=hb
        rcases gdF_eq (rfl : gdF ((maskU R k u t (mens R.all o)).at d) want (dlk1 f (vlU R k u t (mens R.all o)) (dstV t o.dst) hs (lenN effs 0) (p :: r) z) z (.er 99 "") = _) (fun e => er_bad (n := 99) (p := "") (by rw [e]; exact hz)) with ⟨x, h1, ⟨h2, h3⟩ | ⟨h2, h3⟩⟩ | ⟨h1, h3⟩
        ·exact absurd (h3 ▸ hz) (c z)
        ·have hx:(x == want) = false:=by cases x <;> cases want <;> first | rfl | exact absurd rfl h2
         refine Or.inr ⟨fun z => ?_,hL false (by rw [hW x h1,hx]) (fun e=>by cases e)⟩
         rw [h1]
         cases x <;> cases want <;> first | rfl | exact absurd rfl h2
        ·refine Or.inr ⟨fun z => ?_,hL false (hW2 h1) (fun e=>by cases e)⟩
         rw [h1]; rfl
       ·exact Or.inl fun z hz=>hb ⟨z,hz⟩
      ·simp only [c1]
       have c3:=looks_of (V:=V) eqD_same (p :: r) c2
       rw [unm_vlU] at c3
       rcases gdF_nat ((maskU R k u t (mens R.all o)).at d) want with e | e | e
       all_goals simp only [e]
       ·refine Or.inr ⟨(fun z=>by first | rfl | trivial), ?_⟩
        by_cases hv:∃ x,(maskU R k u t (mens R.all o)).at d = .vb x
        ·obtain ⟨x,hx⟩:=hv
         exact hL _ (hW x hx) fun _=>c3
        ·rcases gdF_eq (e (.er 1 "") (.er 2 "") (.er 3 "")) (fun e => by cases e) with ⟨x, h1, -⟩ | ⟨h1, h3⟩
         ·exact absurd ⟨x,h1⟩ hv
         ·cases h3
       ·refine Or.inr ⟨(fun z=>by first | rfl | trivial), ?_⟩
        rcases gdF_eq (e (.er 1 "") (.er 2 "") (.er 3 "")) (fun e => by cases e) with ⟨x, h1, -⟩ | ⟨h1, -⟩
        ·exact hL _ (hW x h1) fun _=>c3
        ·exact hL false (hW2 h1) (fun e=>by cases e)
       ·exact Or.inl fun z=>er_bad
theorem dlkL_one {g:G} {R:RG} {effs:List Nat} {u t:Fm} {hs:List Stg}:∀ l,(∀ z, ¬ GoodR (dlkL g R effs u t hs l z)) ∨ ((∀ z,dlkL g R effs u t hs l z = z) ∧ (clookL g R effs l).f u t hs = true)
 | []=>Or.inr ⟨fun _=>rfl,rfl⟩
 | (k,o) :: r=>by
  have ih:=dlkL_one (g:=g) (R:=R) (effs:=effs) (u:=u) (t:=t) (hs:=hs) r
  have e0:∀ z,dlkL g R effs u t hs ((k,o) :: r) z = dlkO g R effs k o u t hs (dlkL g R effs u t hs r z):=fun z=>rfl
  simp only [e0]
  rcases dlkO_one (g:=g) (R:=R) (effs:=effs) (k:=k) (o:=o) (u:=u) (t:=t) (hs:=hs) with c | ⟨c1,c2⟩
  ·exact Or.inl fun z=>c _
  ·simp only [c1]
   rcases ih with e | ⟨e1,e2⟩
   ·exact Or.inl e
   ·refine Or.inr ⟨e1, ?_⟩
    rw [clookL,KB.eta (clookO g R effs k o),KB.eta (clookL g R effs r)]
    show Bool.rec (motive:=fun _=>Bool) false ((clookL g R effs r).f u t hs) ((clookO g R effs k o).f u t hs) = true
    rw [c2]
    exact e2
noncomputable abbrev dend (g:G) (R:RG) (effs:List Nat) (l:List (Nat × Oper)):Fm → Fm → Tr Ob → Nat → List Stg → KJ → RJ:=fun u t h nx hs kn=>dlkL g R effs u t hs l (kn t h nx)
theorem dend_ok {g:G} {R:RG} {effs:List Nat} {l:List (Nat × Oper)}:FinOk (dend g R effs l) (hend g R effs l):=by
 intro u t h nx hs
 unfold dend hend
 cases l with
 | nil=>exact Or.inr ⟨fun kn=>rfl,fun D=>rfl⟩
 | cons x r=>
  rcases dlkL_one (g:=g) (R:=R) (effs:=effs) (u:=u) (t:=t) (hs:=hs) (x :: r) with c | ⟨c1,c2⟩
  ·exact Or.inl fun kn=>c _
  ·refine Or.inr ⟨fun kn=>c1 _,fun D => ?_⟩
   simp only
   rw [KB.eta (clookL g R effs (x :: r))]
   show Bool.rec (motive := fun _ => RJ) (.er 112 "") (.c .nrm t h nx) ((clookL g R effs (x :: r)).f u t hs) = _
   rw [c2]
noncomputable abbrev ddrR (g:G) (n:Nat) (tab:Tab) (J:JC) (R:RG) (a mf:Nat) (effs:List Nat) (t:Fm) (h:Tr Ob) (nx:Nat) (kn:KJ):RJ:=match statsOk R n R.all 0 && (opsOk g R effs a mf R.all 0 && (Nat.ble (a + mf) (lenO R.all) && (Nat.beq mf 0 || Nat.blt (cntL effs a) (lenN effs 0)))) with
 | false => .er 113 ""
 | true=>dops g n tab true R.all a mf (dend g R effs (lookers R effs R.all 0)) J R.all 0 t t h nx [⟨h,nx⟩] kn
noncomputable abbrev ddrG (g:G) (n:Nat) (tab:Tab) (J:JC) (R:RG) (a:Nat) (mf:Nat) (t:Fm) (h:Tr Ob) (nx:Nat) (kn:KJ):RJ:=ddrR g n tab J R a mf (effsG g a mf R.all 0) t h nx kn
noncomputable abbrev ddrF (g:G) (n:Nat) (tab:Tab) (J:JC) (R:RG) (a:Nat) (t:Fm) (h:Tr Ob) (nx:Nat) (kn:KJ):RJ:=ddrG g n tab J R a (freeN R (dropL R.all a) a) t h nx kn
noncomputable abbrev ddrA (g:G) (n:Nat) (tab:Tab) (J:JC) (R:RG) (t:Fm) (h:Tr Ob) (nx:Nat) (kn:KJ):RJ:=ddrF g n tab J R (freeAt g R R.all 0 false) t h nx kn
noncomputable abbrev ddr (g:G) (n:Nat) (tab:Tab) (J:JC) (l:List Oper) (t:Fm) (h:Tr Ob) (nx:Nat) (kn:KJ):RJ:=ddrA g n tab J ⟨l,mkAnc l 0 .e,mkWr l 0 .e⟩ t h nx kn
theorem ddr_one {g:G} {n:Nat} {tab:Tab} {J:JC} (O:OneJ (sJ tab J)) {l:List Oper} (t:Fm) (h:Tr Ob) (nx:Nat) :
  (∀ kn, ¬ GoodR (ddr g n tab J l t h nx kn)) ∨ ∃ t' h' nx',(∀ kn,ddr g n tab J l t h nx kn = kn t' h' nx') ∧ (cdr g n l).f (dirJ (sJ tab J)) t h nx = .c .nrm t' h' nx' ∧ ∀ d,d ∉ dstL l → t'.at d = t.at d:=by
 unfold ddr ddrA ddrF ddrG cdr cdrG cdrA
 generalize hR:(⟨l,mkAnc l 0 .e,mkWr l 0 .e⟩:RG) = R
 have hall:R.all = l:=by rw [← hR]
 generalize freeAt g R R.all 0 false = a
 generalize freeN R (dropL R.all a) a = mf
 generalize effsG g a mf R.all 0 = effs
 unfold ddrR cdrR
 cases statsOk R n R.all 0 && (opsOk g R effs a mf R.all 0 && (Nat.ble (a + mf) (lenO R.all) && (Nat.beq mf 0 || Nat.blt (cntL effs a) (lenN effs 0)))) with
 | false=>exact Or.inl fun kn=>er_bad
 | true=>
  simp only
  rcases dops_sim (g:=g) (n:=n) (tab:=tab) (all:=R.all) (a:=a) (mf:=mf) (dend_ok (g:=g) (R:=R) (effs:=effs) (l:=lookers R effs R.all 0)) O R.all 0 t t h nx [⟨h,nx⟩] with c | ⟨t',h',nx',c1,c2,c3⟩
  ·exact Or.inl c
  ·refine Or.inr ⟨t',h',nx',c1, ?_,by rw [← hall]; exact c3⟩
   rw [KHr.eta (hops g n R.all a mf (hend g R effs (lookers R effs R.all 0)) R.all 0)]
   exact c2
end
section
def OpSem (P:Program) (η:En) (o:Oper) (t:Fm) (h:Tr Ob) (nx:Nat) (a:AV) (h1:Tr Ob) (nx1:Nat):Prop:=
 ∀ ν w act n,HR η ν h w → Nx ν nx → TRf η ν t n act → ∀ (next:Act → World → Prop) (Q:Exit → Act → World → Prop),(∀ v w1 ν1,wrel η ν1 a v → HR η ν1 h1 w1 → Nx ν1 nx1 → Fr ν h w ν1 h1 w1 → next (act.put o.dst v) w1) → o.wp P act w next Q
noncomputable def tagK:KV:=fun a h nx => .c .nrm (Fm.e.put 0 a) h nx
theorem tagK_inj {a b:AV} {h h1:Tr Ob} {nx nx1:Nat} (e:tagK a h nx = tagK b h1 nx1):a = b ∧ h = h1 ∧ nx = nx1:=by
 unfold tagK at e
 injection e with e1 e2 e3 e4
 have:=congrArg (fun t=>Fm.at t 0) e2
 simp only [Fm.at_put_lt _ (show (0:Nat) < 256 by omega)] at this
 exact ⟨this,e3,e4⟩
theorem TRf.mask {η:En} {ν:Nu} {t:Fm} {n:Nat} {a:Act} (A:TRf η ν t n a) (ds:List Nat):TRf η ν (mask ds t) n a:=TR_mask A.size A.none fun d _=>A.rel d
theorem q_sem {P:Program} {g:G} (T:TabE P g.tt g.ff) {η:En} (S:EnvOk P g η) {o:Oper} {V:Fm → Tr Ob → Nat → AV} (hc:cop g o = .q V) {ds:List Nat} {t:Fm} {h:Tr Ob} {nx:Nat} (hk:V (mask ds t) h nx ≠ .vno):OpSem P η o t h nx (V (mask ds t) h nx) h nx:=by
 intro ν w act n H X A next Q hn
 have ok:=cop_ok T S (P:=P) (η:=η) o
 rw [hc] at ok
 obtain ⟨a,h1,h2⟩:=ok.2 (mask ds t) h nx hk
 refine good_wp (step1_plain (P:=P) T S H X (A.mask ds) h1) fun v w1 ν1 p H1 X1 F1=>hn v w1 ν1 (Or.inr ?_) H1 X1 F1
 rcases h2 with h2 | h2
 ·rw [h2]; exact p
 ·rw [h2]; exact toN_rel p
theorem e_sem {P:Program} {g:G} (T:TabE P g.tt g.ff) {η:En} (S:EnvOk P g η) {o:Oper} {F:JJ → Fm → Tr Ob → Nat → KV → RJ} (hc:cop g o = .e F) {J:JJ} (D:SndJ P η J) {ds:List Nat} {t:Fm} {h h1:Tr Ob} {nx nx1:Nat} {a:AV}
  (hF:∀ k,F J (mask ds t) h nx k = k a h1 nx1):OpSem P η o t h nx a h1 nx1:=by
 intro ν w act n H X A next Q hn
 have ok:=cop_ok T S (P:=P) (η:=η) o
 rw [hc] at ok
 obtain ⟨a',h1',nx1',e1,e2⟩:=ok J D (mask ds t) h nx tagK _ _ _ _ (hF tagK)
 have e1:tagK a' h1' nx1' = tagK a h1 nx1:=e1
 obtain ⟨rfl,rfl,rfl⟩:=tagK_inj e1
 exact e2 ν w act n H X (A.mask ds) next Q fun v w1 ν1 p H1 X1 F1=>hn v w1 ν1 (Or.inr p) H1 X1 F1
theorem mv_sem {P:Program} {η:En} {o:Oper} {x:Operand} (hx:mvOf o.op = some x) {ds:List Nat} {t:Fm} {h:Tr Ob} {nx:Nat}:OpSem P η o t h nx ((cev x).f (mask ds t)) h nx:=by
 intro ν w act n H X A next Q hn
 have run:(execOp act.eval o).run P w = .ok (.value (act.eval x)) w:=by
  obtain ⟨dst,op,ty0,pos,after,guard⟩:=o
  unfold mvOf at hx
  simp only at hx
  split at hx
  ·cases hx; rfl
  ·cases hx; rfl
  ·cases hx
 unfold Oper.wp
 rw [run]
 exact hn _ w ν (cev_w (A.mask ds) x) H X (Fr.refl _ _ _)
def StepW (P:Program) (all:Array Oper) (o:Oper) (act:Act) (w:World) (next:Act → World → Prop) (Q:Exit → Act → World → Prop):Prop:=
 if Region.wanted o (yielded all act.tmps) = true then o.wp P act w next Q ∨ (o.asks P act w ∧ LetsOut Q) else next (act.put o.dst undef) w
def StepSem (P:Program) (η:En) (all:Array Oper) (o:Oper) (t:Fm) (h:Tr Ob) (nx:Nat) (a:AV) (h1:Tr Ob) (nx1:Nat):Prop:=
 ∀ ν w act n,HR η ν h w → Nx ν nx → TRf η ν t n act → ∀ (next:Act → World → Prop) (Q:Exit → Act → World → Prop),(∀ v w1 ν1,wrel η ν1 a v → HR η ν1 h1 w1 → Nx ν1 nx1 → Fr ν h w ν1 h1 w1 → next (act.put o.dst v) w1) → StepW P all o act w next Q
def DoSem (P:Program) (η:En) (o:Oper) (ds:List Nat) (J:JC):DO → Prop
 | .no=>True
 | .q f => ∀ t h nx,(∀ k, ¬ GoodR (f (vl t ds) h nx k)) ∨ ∃ a,(∀ k,f (vl t ds) h nx k = k a) ∧ OpSem P η o t h nx a h nx
 | .e f => ∀ t h nx,(∀ k, ¬ GoodR (f J (vl t ds) h nx k)) ∨ ∃ a h1 nx1,(∀ k,f J (vl t ds) h nx k = k a h1 nx1) ∧ OpSem P η o t h nx a h1 nx1
theorem dopM_sem {P:Program} {g:G} (T:TabE P g.tt g.ff) {η:En} (S:EnvOk P g η) {o:Oper} {ds:List Nat} {J:JC} (SJ:SndC P η J):DoSem P η o ds J (dopM false g ds o):=by
 unfold dopM
 cases hm:mvOf o.op with
 | some x=>
  intro t h nx
  refine Or.inr ⟨(cev x).f (mask ds t),fun k => ?_,mv_sem hm⟩
  show k ((cev x).f (unm ds (vl t ds))) = _
  rw [unm_vl]
 | none=>
  simp only
  have ok:=dop_ok (g:=g) (ds:=ds) (o:=o)
  revert ok
  cases dop g ds o with
  | no=>exact fun _=>trivial
  | q f=>
   rintro ⟨V,hc,hf⟩ t h nx
   rcases hf t h nx with c | ⟨a,e1,e2,e3⟩
   ·exact Or.inl c
   ·subst e1
    exact Or.inr ⟨_,e3,q_sem T S hc e2⟩
  | e f=>
   intro ok t h nx
   obtain ⟨F,hc,hf⟩:=ok J SJ.one
   rcases hf t h nx with c | ⟨a,h1,nx1,e1,e2⟩
   ·exact Or.inl c
   ·exact Or.inr ⟨_,_,_,e2,e_sem T S hc SJ.dir e1⟩
theorem step_plain {P:Program} {η:En} {all:Array Oper} {o:Oper} {D:DO} {J:JC} (hD:DoSem P η o (mens all.toList o) J D) (t:Fm) (h:Tr Ob) (nx:Nat) :
  (∀ KQ KE, ¬ GoodR (stepD (gdOf all.toList o) t D J (vl t (mens all.toList o)) h nx KQ KE)) ∨
  (∃ a,(∀ KQ KE,stepD (gdOf all.toList o) t D J (vl t (mens all.toList o)) h nx KQ KE = KQ a) ∧ StepSem P η all o t h nx a h nx) ∨
  ∃ a h1 nx1,(∀ KQ KE,stepD (gdOf all.toList o) t D J (vl t (mens all.toList o)) h nx KQ KE = KE a h1 nx1) ∧ StepSem P η all o t h nx a h1 nx1:=by
 have yes:∀ {a h1 nx1},OpSem P η o t h nx a h1 nx1 → (∀ ν n act,TRf η ν t n act → Region.wanted o (yielded all act.tmps) = true) → StepSem P η all o t h nx a h1 nx1:=by
  intro a h1 nx1 hs hw ν w act n H X A next Q hn
  unfold StepW
  rw [if_pos (hw ν n act A)]
  exact Or.inl (hs ν w act n H X A next Q hn)
 have no:(∀ ν n act,TRf η ν t n act → Region.wanted o (yielded all act.tmps) = false) → StepSem P η all o t h nx (.vtp []) h nx:=by
  intro hw ν w act n H X A next Q hn
  unfold StepW
  rw [hw ν n act A]
  exact hn undef w ν (Or.inr (by rw [vrel]; exact ⟨[],rfl,vrels_nil.2 rfl⟩)) H X (Fr.refl _ _ _)
 cases D with
 | no=>exact Or.inl fun KQ KE=>er_bad
 | q f=>
  have hf:=hD t h nx
  unfold stepD gdOf
  rcases hg:o.guard with _ | ⟨j,want⟩
  ·simp only
   rcases hf with c | ⟨a,e1,e2⟩
   ·exact Or.inl fun KQ KE=>c KQ
   ·exact Or.inr (Or.inl ⟨a,fun KQ KE=>e1 KQ,yes e2 fun ν n act A=>by unfold Region.wanted; rw [hg]⟩)
  ·simp only
   rcases hj:nthO all.toList j with _ | oj
   ·exact Or.inl fun KQ KE=>er_bad
   ·simp only
    rcases hd:oj.dst with _ | d
    ·exact Or.inl fun KQ KE=>er_bad
    ·simp only
     have hW:∀ x,t.at d = .vb x → ∀ ν n act,TRf η ν t n act → Region.wanted o (yielded all act.tmps) = (x == want):=fun x hx ν n act A=>wantA_rel A (by unfold wantA; rw [hg]; simp only [hj,hd,hx])
     have hW2:t.at d = .vtp [] → ∀ ν n act,TRf η ν t n act → Region.wanted o (yielded all act.tmps) = false:=fun hx ν n act A=>wantA_rel A (by unfold wantA; rw [hg]; simp only [hj,hd,hx])
     unfold gdQ
     rcases gdF_nat (t.at d) want with e | e | e
     ·simp only [e]
      rcases hf with c | ⟨a,e1,e2⟩
      ·exact Or.inl fun KQ KE=>c KQ
      ·refine Or.inr (Or.inl ⟨a,fun KQ KE=>e1 KQ,yes e2 ?_⟩)
       rcases gdF_eq (e (.er 1 "") (.er 2 "") (.er 3 "")) (fun e => by cases e) with ⟨x, h1, ⟨h2, -⟩ | ⟨-, h3⟩⟩ | ⟨-, h3⟩
       ·subst h2; intro ν n act A; rw [hW x h1 ν n act A]; exact beq_self_eq_true x
       ·cases h3
       ·cases h3
     ·simp only [e]
      refine Or.inr (Or.inl ⟨.vtp [],(fun KQ KE=>by first | rfl | trivial),no ?_⟩)
      rcases gdF_eq (e (.er 1 "") (.er 2 "") (.er 3 "")) (fun e => by cases e) with ⟨x, h1, ⟨-, h3⟩ | ⟨h2, -⟩⟩ | ⟨h1, -⟩
      ·cases h3
      ·intro ν n act A; rw [hW x h1 ν n act A]; cases x <;> cases want <;> first | rfl | exact absurd rfl h2
      ·exact hW2 h1
     ·simp only [e]
      exact Or.inl fun KQ KE=>er_bad
 | e f=>
  have hf:=hD t h nx
  unfold stepD gdOf
  rcases hg:o.guard with _ | ⟨j,want⟩
  ·simp only
   rcases hf with c | ⟨a,h1,nx1,e1,e2⟩
   ·exact Or.inl fun KQ KE=>c KE
   ·exact Or.inr (Or.inr ⟨a,h1,nx1,fun KQ KE=>e1 KE,yes e2 fun ν n act A=>by unfold Region.wanted; rw [hg]⟩)
  ·simp only
   rcases hj:nthO all.toList j with _ | oj
   ·exact Or.inl fun KQ KE=>er_bad
   ·simp only
    rcases hd:oj.dst with _ | d
    ·exact Or.inl fun KQ KE=>er_bad
    ·simp only
     have hW:∀ x,t.at d = .vb x → ∀ ν n act,TRf η ν t n act → Region.wanted o (yielded all act.tmps) = (x == want):=fun x hx ν n act A=>wantA_rel A (by unfold wantA; rw [hg]; simp only [hj,hd,hx])
     have hW2:t.at d = .vtp [] → ∀ ν n act,TRf η ν t n act → Region.wanted o (yielded all act.tmps) = false:=fun hx ν n act A=>wantA_rel A (by unfold wantA; rw [hg]; simp only [hj,hd,hx])
     unfold gdE
     rcases gdF_nat (t.at d) want with e | e | e
     ·simp only [e]
      rcases hf with c | ⟨a,h1,nx1,e1,e2⟩
      ·exact Or.inl fun KQ KE=>c KE
      ·refine Or.inr (Or.inr ⟨a,h1,nx1,fun KQ KE=>e1 KE,yes e2 ?_⟩)
       rcases gdF_eq (e (.er 1 "") (.er 2 "") (.er 3 "")) (fun e => by cases e) with ⟨x, h1, ⟨h2, -⟩ | ⟨-, h3⟩⟩ | ⟨-, h3⟩
       ·subst h2; intro ν n act A; rw [hW x h1 ν n act A]; exact beq_self_eq_true x
       ·cases h3
       ·cases h3
     ·simp only [e]
      refine Or.inr (Or.inr ⟨.vtp [],h,nx,(fun KQ KE=>by first | rfl | trivial),no ?_⟩)
      rcases gdF_eq (e (.er 1 "") (.er 2 "") (.er 3 "")) (fun e => by cases e) with ⟨x, h1, ⟨-, h3⟩ | ⟨h2, -⟩⟩ | ⟨h1, -⟩
      ·cases h3
      ·intro ν n act A; rw [hW x h1 ν n act A]; cases x <;> cases want <;> first | rfl | exact absurd rfl h2
      ·exact hW2 h1
     ·simp only [e]
      exact Or.inl fun KQ KE=>er_bad
theorem rst_TR {η:En} {ν:Nu} {t:Fm} {n:Nat} {a:Act} (A:TRf η ν t n a) {dst:Option Nat} (hd:dstK n dst = true) {x:AV} {v:Value} (hv:wrel η ν x v):TRf η ν (rst dst t x) n (a.put dst v):=by
 cases dst with
 | none=>exact A
 | some d=>exact A.put (blt_lt hd) hv
noncomputable abbrev finP:Fm → Fm → Tr Ob → Nat → List Stg → KJ → RJ:=fun _ t h nx _ kn=>kn t h nx
theorem within_00 (k:Nat):within 0 0 k = false:=by
 unfold within
 rw [bltD,decide_eq_false (show ¬ k < 0 + 0 by omega),Bool.and_false]
theorem dops_plain {P:Program} {g:G} (T:TabE P g.tt g.ff) {η:En} (S:EnvOk P g η) {n:Nat} {tab:Tab} {J:JC} (SJ:SndC P η (sJ tab J)) {all:Array Oper} (u:Fm) :
  ∀ l k,all.toList.drop k = l → ∀ t h nx hs,(∀ kn, ¬ GoodR (dops g n tab false all.toList 0 0 finP J l k u t h nx hs kn)) ∨ ∃ t' h' nx',(∀ kn,dops g n tab false all.toList 0 0 finP J l k u t h nx hs kn = kn t' h' nx') ∧ (∀ d,d ∉ dstL l → t'.at d = t.at d) ∧
   ∀ ν w act,HR η ν h w → Nx ν nx → TRf η ν t n act → ∀ Q:Exit → Act → World → Prop,(∀ e a w',CodePost η ν h w n .normal t' h' nx' e a w' → Q e a w') → wpOps P all Q (List.range' k (all.size - k)) act w
 | [],k,hl,t,h,nx,hs=>by
  refine Or.inr ⟨t,h,nx,fun kn=>rfl,fun _ _=>rfl,fun ν w act H X A Q hQ => ?_⟩
  have hk:all.size ≤ k:=by simpa using hl
  rw [show all.size - k = 0 by omega]
  exact hQ _ _ _ ⟨rfl,ν,A,H,X,Fr.refl _ _ _⟩
 | o :: r,k,hl,t,h,nx,hs=>by
  have hk:k < all.size:=by
   rcases Nat.lt_or_ge k all.size with hk | hk
   ·exact hk
   ·rw [List.drop_eq_nil_of_le (by simpa using hk)] at hl; cases hl
  have ho:all[k]? = some o:=by
   have:=congrArg (fun l=>l[0]?) hl
   simpa using this
  have hr2:all.toList.drop (k + 1) = r:=by
   have:=congrArg List.tail hl
   simpa using this
  have ih:=dops_plain T S SJ (n:=n) u r (k + 1) hr2
  have e0:∀ kn,dops g n tab false all.toList 0 0 finP J (o :: r) k u t h nx hs kn = match dstK n o.dst with
   | false => .er 98 ""
   | true=>match within 0 0 k with
    | true=>match freeZ g o with
     | none => .er 38 ""
     | some z=>alP z h nx (fun x h nx=>dops g n tab false all.toList 0 0 finP J r (k + 1) u (rst o.dst t x) h nx hs kn)
    | false=>stepD (gdOf all.toList o) t (dopM false g (mens all.toList o) o) (sJ tab J) (vl t (mens all.toList o)) h nx
      (fun x=>dops g n tab false all.toList 0 0 finP J r (k + 1) u (rst o.dst t x) h nx hs kn)
      (fun x h nx=>dops g n tab false all.toList 0 0 finP J r (k + 1) u (rst o.dst t x) h nx (⟨h,nx⟩ :: hs) kn):=fun kn=>rfl
  simp only [e0,within_00]
  cases hd:dstK n o.dst with
  | false=>exact Or.inl fun kn=>er_bad
  | true=>
   simp only
   have fin:∀ x h1 nx1 hs1,StepSem P η all o t h nx x h1 nx1 → ∀ (F:KJ → RJ),(∀ kn,F kn = dops g n tab false all.toList 0 0 finP J r (k + 1) u (rst o.dst t x) h1 nx1 hs1 kn) →
     (∀ kn, ¬ GoodR (F kn)) ∨ ∃ t' h' nx',(∀ kn,F kn = kn t' h' nx') ∧ (∀ d,d ∉ dstL (o :: r) → t'.at d = t.at d) ∧
      ∀ ν w act,HR η ν h w → Nx ν nx → TRf η ν t n act → ∀ Q:Exit → Act → World → Prop,(∀ e a w',CodePost η ν h w n .normal t' h' nx' e a w' → Q e a w') → wpOps P all Q (List.range' k (all.size - k)) act w:=by
    intro x h1 nx1 hs1 hS F hF
    rcases ih (rst o.dst t x) h1 nx1 hs1 with c | ⟨t',h',nx',c1,c2,c3⟩
    ·exact Or.inl fun kn=>by rw [hF]; exact c kn
    ·refine Or.inr ⟨t',h',nx',fun kn=>by rw [hF]; exact c1 kn,fun d hd => ?_,fun ν w act H X A Q hQ => ?_⟩
     ·obtain ⟨g1,g2⟩:=dstL_cons hd
      rw [c2 d g2,rst_at g1]
     ·rw [show all.size - k = (all.size - (k + 1)) + 1 by omega,List.range'_succ]
      simp only [wpOps,ho]
      exact hS ν w act n H X A _ Q fun v w1 ν1 p H1 X1 F1=>c3 ν1 w1 _ H1 X1 (rst_TR (A.mono F1.le) hd p) Q fun e a w' q=>hQ e a w' (CodePost.trans F1 q)
   rcases step_plain (dopM_sem T S SJ (o:=o) (ds:=mens all.toList o)) t h nx with c | ⟨x,c1,c2⟩ | ⟨x,h1,nx1,c1,c2⟩
   ·exact Or.inl fun kn=>c _ _
   ·exact fin x h nx hs c2 _ fun kn=>c1 _ _
   ·exact fin x h1 nx1 _ c2 _ fun kn=>c1 _ _
noncomputable abbrev dreg (g:G) (n:Nat) (tab:Tab) (J:JC) (ops:List Oper) (t:Fm) (h:Tr Ob) (nx:Nat) (kn:KJ):Bool → RJ
 | false=>dops g n tab false ops 0 0 finP J ops 0 t t h nx [] kn
 | true=>ddr g n tab J ops t h nx kn
inductive Ann where
 | l
 | s (a b:Ann)
 | c (W:List Nat) (a b:Ann)
 | d (a b:Ann)
 | b (W:List Nat) (a:Ann)
 | e (a:Ann)
 | o (W:List Nat) (a:Ann)
def Ar:Nat → Type
 | 0=>Tr Ob → Nat → RJ
 | n + 1=>AV → Ar n
def ln:List Nat → Nat
 | []=>0
 | _ :: r=>ln r + 1
noncomputable abbrev absW:(W:List Nat) → Fm → KJ → Ar (ln W)
 | [],t,k=>fun h nx=>k t h nx
 | w :: r,t,k=>fun a=>absW r (t.put w a) k
noncomputable abbrev appW:(W:List Nat) → Ar (ln W) → KJ
 | [],F,_,h,nx=>F h nx
 | w :: r,F,t,h,nx=>appW r (F (t.at w)) t h nx
noncomputable def zA:(n:Nat) → Ar n
 | 0 => fun _ _ => .er 94 ""
 | n + 1=>fun _=>zA n
noncomputable def jn (n:Nat) (B:Ar n → RJ) (j:Ar n):RJ:=B j
noncomputable def cdP (c : AV) (x y : RJ) : RJ := cdF c x y (.er 95 "")
noncomputable def lpI (n:Nat) (F:Ar n → Ar n) (m:Nat):Ar n:=Nat.rec (motive:=fun _=>Ar n) (zA n) (fun _ ih=>F ih) m
noncomputable def lp (n:Nat) (F:Ar n → Ar n):Ar n:=lpI n F 1000000
noncomputable def drp:List Nat → Fm → Fm
 | [],t=>t
 | d :: r,t=>(drp r t).put d .vno
noncomputable def wr:Code → List Nat
 | .region _ ops _=>dstL ops.toList
 | .seq a b=>wr a ++ wr b
 | .cond _ a b=>wr a ++ wr b
 | .block _ b=>wr b
 | .loop b=>wr b
 | _=>[]
noncomputable abbrev exP (i id:Nat) (j k:KJ):KJ:=fun t h nx=>Bool.rec (motive:=fun _=>RJ) (k t h nx) (j t h nx) (Nat.beq i id)
noncomputable abbrev dcode (g:G) (n:Nat) (tab:Tab) (J:JC):Code → Ann → Fm → Tr Ob → Nat → KJ → (Nat → KJ) → KJ → RJ
 | .skip,_,t,h,nx,kn,_,_=>kn t h nx
 | .label _,_,t,h,nx,kn,_,_=>kn t h nx
 | .region _ ops draw,_,t,h,nx,kn,_,_=>dreg g n tab J ops.toList t h nx kn draw
 | .seq a b,an,t,h,nx,kn,ex,kr=>match an with
  | .s x y=>dcode g n tab J a x t h nx (fun t h nx=>dcode g n tab J b y t h nx kn ex kr) ex kr
  | _ => .er 121 ""
 | .cond v a b,an,t,h,nx,kn,ex,kr=>match an with
  | .c W x y=>jn (ln W) (fun j=>cdP ((cev v).f t) (dcode g n tab J a x t h nx (appW W j) ex kr) (dcode g n tab J b y t h nx (appW W j) ex kr)) (absW W (drp (wr a ++ wr b) t) kn)
  | .d x y=>cdP ((cev v).f t) (dcode g n tab J a x t h nx kn ex kr) (dcode g n tab J b y t h nx kn ex kr)
  | _ => .er 121 ""
 | .block id b,an,t,h,nx,kn,ex,kr=>match an with
  | .b W x=>jn (ln W) (fun j=>dcode g n tab J b x t h nx (appW W j) (fun i=>exP i id (appW W j) (ex i)) kr) (absW W (drp (wr b) t) kn)
  | .e x=>dcode g n tab J b x t h nx kn (fun i=>exP i id kn (ex i)) kr
  | _ => .er 121 ""
 | .loop b,an,t,h,nx,_,ex,kr=>match an with
  | .o W x=>appW W (lp (ln W) (fun self=>absW W (drp (wr b) t) (fun t h nx=>dcode g n tab J b x t h nx (appW W self) ex kr))) t h nx
  | _ => .er 121 ""
 | .exit id,_,t,h,nx,_,ex,_=>ex id t h nx
 | .ret,_,t,h,nx,_,_,kr=>kr t h nx
 | _, _, _, _, _, _, _, _ => .er 96 ""
def sel (x:Xt) (kn:KJ) (ex:Nat → KJ) (kr:KJ):KJ:=match x with
 | .nrm=>kn
 | .ex id=>ex id
 | .rt=>kr
def LeF (t t':Fm):Prop := ∀ d,t.at d = .vno ∨ t.at d = t'.at d
theorem LeF.tr {η:En} {ν:Nu} {t t':Fm} {n:Nat} {a:Act} (L:LeF t t') (A:TRf η ν t' n a):TRf η ν t n a:=by
 refine ⟨A.size,fun k => ?_,A.none⟩
 rcases L k with h | h
 ·exact Or.inl h
 ·rw [h]; exact A.rel k
theorem CodePost.le {η:En} {ν:Nu} {h:Tr Ob} {w:World} {n:Nat} {x:Exit} {t t':Fm} {h':Tr Ob} {nx':Nat} {e:Exit} {a:Act} {w':World} (L:LeF t t') (p:CodePost η ν h w n x t' h' nx' e a w'):CodePost η ν h w n x t h' nx' e a w':=by
 obtain ⟨rfl,ν',p1,p2,p3,p4⟩:=p
 exact ⟨rfl,ν',L.tr p1,p2,p3,p4⟩
noncomputable def updW:List Nat → Fm → Fm → Fm
 | [],t,_=>t
 | w :: r,t,t'=>updW r (t.put w (t'.at w)) t'
theorem app_abs:∀ (W:List Nat) (t:Fm) (k:KJ) (t':Fm) (h:Tr Ob) (nx:Nat),appW W (absW W t k) t' h nx = k (updW W t t') h nx
 | [],t,k,t',h,nx=>rfl
 | w :: r,t,k,t',h,nx=>app_abs r (t.put w (t'.at w)) k t' h nx
theorem put_at (t:Fm) (w:Nat) (a:AV) (d:Nat):(t.put w a).at d = .vno ∨ (t.put w a).at d = t.at d ∨ (d = w ∧ (t.put w a).at d = a):=by
 rcases Fm.at_put t w a d with ⟨h1, -,h2⟩ | ⟨-,h2⟩ | ⟨-,h2⟩
 ·exact Or.inr (Or.inr ⟨h1,h2⟩)
 ·exact Or.inl h2
 ·exact Or.inr (Or.inl h2)
theorem updW_le {t':Fm}:∀ (W:List Nat) (t:Fm),LeF t t' → LeF (updW W t t') t'
 | [],t,h=>h
 | w :: r,t,h=>updW_le r _ fun d=>by
  rcases put_at t w (t'.at w) d with e | e | ⟨e1,e2⟩
  ·exact Or.inl e
  ·rw [e]; exact h d
  ·subst e1; exact Or.inr e2
theorem updW_same {t':Fm} {d:Nat}:∀ (W:List Nat) (t:Fm),t.at d = t'.at d → (updW W t t').at d = t'.at d
 | [],t,h=>h
 | w :: r,t,h=>updW_same r _ (by
  by_cases hw:d = w
  ·subst hw
   exact put_at_same _ _ (at_ge t' d)
  ·rw [Fm.at_put_ne _ _ hw]; exact h)
theorem drp_in {d:Nat}:∀ {ds:List Nat} {t:Fm},d ∈ ds → (drp ds t).at d = .vno
 | [],t,h=>by cases h
 | x :: r,t,h=>by
  rw [drp]
  by_cases hx:d = x
  ·subst hx; exact put_at_same _ _ (Or.inr rfl)
  ·rw [Fm.at_put_ne _ _ hx]
   rcases List.mem_cons.1 h with h | h
   ·exact absurd h hx
   ·exact drp_in h
theorem drp_out {d:Nat}:∀ {ds:List Nat} {t:Fm},d ∉ ds → (drp ds t).at d = t.at d
 | [],t,h=>rfl
 | x :: r,t,h=>by
  rw [drp,Fm.at_put_ne _ _ (fun e=>h (by rw [e]; exact List.mem_cons_self ..))]
  exact drp_out fun h'=>h (List.mem_cons_of_mem _ h')
theorem drp_le {ds:List Nat} {t t':Fm} (h:∀ d,d ∉ ds → t'.at d = t.at d):LeF (drp ds t) t':=fun d=>by
 by_cases hd:d ∈ ds
 ·exact Or.inl (drp_in hd)
 ·exact Or.inr (by rw [drp_out hd,h d hd])
theorem drp_same {ds:List Nat} {t t':Fm} {d:Nat} (hd:d ∉ ds) (h:t'.at d = t.at d):(drp ds t).at d = t'.at d:=by rw [drp_out hd,h]
def COut (P:Program) (η:En) (n:Nat) (c:Code) (ds:List Nat) (t:Fm) (h:Tr Ob) (nx:Nat) (X:KJ → (Nat → KJ) → KJ → RJ):Prop:=
 (∀ kn ex kr, ¬ GoodR (X kn ex kr)) ∨ ∃ x t' h' nx',(∀ kn ex kr,X kn ex kr = sel x kn ex kr t' h' nx') ∧ (∀ d,d ∉ ds → t'.at d = t.at d) ∧ ∀ ν w act,HR η ν h w → Nx ν nx → TRf η ν t n act → c.wp P (CodePost η ν h w n (exitOf x) t' h' nx') act w
theorem join_out {P:Program} {η:En} {n:Nat} {c:Code} {ds:List Nat} {t:Fm} {h:Tr Ob} {nx:Nat} {X:KJ → (Nat → KJ) → KJ → RJ} (W:List Nat) (H:COut P η n c ds t h nx X) :
  COut P η n c ds t h nx fun kn ex kr=>X (appW W (absW W (drp ds t) kn)) ex kr:=by
 rcases H with c | ⟨x,t',h',nx',c1,c2,c3⟩
 ·exact Or.inl fun kn ex kr=>c _ _ _
 ·cases x with
  | nrm=>
   refine Or.inr ⟨.nrm,updW W (drp ds t) t',h',nx',fun kn ex kr => ?_,fun d hd => ?_,fun ν w act H X A=>wp_mono (c3 ν w act H X A) fun e a w' p=>CodePost.le (updW_le W _ (drp_le c2)) p⟩
   ·simp only [c1]
    show appW W (absW W (drp ds t) kn) t' h' nx' = _
    rw [app_abs]; rfl
   ·rw [updW_same W _ (drp_same hd (c2 d hd)),c2 d hd]
  | ex id=>exact Or.inr ⟨.ex id,t',h',nx',fun kn ex kr=>c1 _ _ _,c2,c3⟩
  | rt=>exact Or.inr ⟨.rt,t',h',nx',fun kn ex kr=>c1 _ _ _,c2,c3⟩
theorem COut.mono {P:Program} {η:En} {n:Nat} {c:Code} {ds ds':List Nat} {t:Fm} {h:Tr Ob} {nx:Nat} {X:KJ → (Nat → KJ) → KJ → RJ} (H:COut P η n c ds t h nx X) (hd:∀ d,d ∈ ds → d ∈ ds'):COut P η n c ds' t h nx X:=by
 rcases H with c | ⟨x,t',h',nx',c1,c2,c3⟩
 ·exact Or.inl c
 ·exact Or.inr ⟨x,t',h',nx',c1,fun d h=>c2 d fun h'=>h (hd d h'),c3⟩
theorem COut.code {P:Program} {η:En} {n:Nat} {c c':Code} {ds:List Nat} {t:Fm} {h:Tr Ob} {nx:Nat} {X:KJ → (Nat → KJ) → KJ → RJ} (H:COut P η n c ds t h nx X) (hw:∀ ν w act,TRf η ν t n act → ∀ Q,c.wp P Q act w → c'.wp P Q act w):COut P η n c' ds t h nx X:=by
 rcases H with c | ⟨x,t',h',nx',c1,c2,c3⟩
 ·exact Or.inl c
 ·exact Or.inr ⟨x,t',h',nx',c1,c2,fun ν w act H X A=>hw ν w act A _ (c3 ν w act H X A)⟩
theorem cond_out {P:Program} {η:En} {n:Nat} {v:Operand} {a b:Code} {ds:List Nat} {t:Fm} {h:Tr Ob} {nx:Nat} {X Y:KJ → (Nat → KJ) → KJ → RJ} (HX:COut P η n a ds t h nx X) (HY:COut P η n b ds t h nx Y) :
  COut P η n (.cond v a b) ds t h nx fun kn ex kr=>cdP ((cev v).f t) (X kn ex kr) (Y kn ex kr):=by
 unfold cdP
 rcases cdF_nat ((cev v).f t) with e | e | e
 ·simp only [e]
  refine HX.code fun ν w act A Q q=>wp_cond_true ?_ q
  rcases cdF_eq (e (.er 1 "") (.er 2 "") (.er 3 "")) (fun e => by cases e) with ⟨h1, -⟩ | ⟨h1, h2⟩
  ·have hv:=evO_rel A (cev_is h1 (fun e=>by cases e)); rw [vrel] at hv; exact hv
  ·cases h2
 ·simp only [e]
  refine HY.code fun ν w act A Q q=>wp_cond_false ?_ q
  rcases cdF_eq (e (.er 1 "") (.er 2 "") (.er 3 "")) (fun e => by cases e) with ⟨h1, h2⟩ | ⟨h1, -⟩
  ·cases h2
  ·have hv:=evO_rel A (cev_is h1 (fun e=>by cases e)); rw [vrel] at hv; exact hv
 ·simp only [e]
  exact Or.inl fun kn ex kr=>er_bad
theorem block_out {P:Program} {η:En} {n id:Nat} {b:Code} {ds:List Nat} {t:Fm} {h:Tr Ob} {nx:Nat} {X:KJ → (Nat → KJ) → KJ → RJ} (H:COut P η n b ds t h nx X) :
  COut P η n (.block id b) ds t h nx fun kn ex kr=>X kn (fun i=>exP i id kn (ex i)) kr:=by
 rcases H with c | ⟨x,t',h',nx',c1,c2,c3⟩
 ·exact Or.inl fun kn ex kr=>c _ _ _
 ·cases x with
  | nrm=>
   refine Or.inr ⟨.nrm,t',h',nx',fun kn ex kr=>c1 _ _ _,c2,fun ν w act H X A=>wp_block (wp_mono (c3 ν w act H X A) ?_)⟩
   rintro e a1 w1 ⟨rfl,p⟩
   exact ⟨rfl,p⟩
  | rt=>
   refine Or.inr ⟨.rt,t',h',nx',fun kn ex kr=>c1 _ _ _,c2,fun ν w act H X A=>wp_block (wp_mono (c3 ν w act H X A) ?_)⟩
   rintro e a1 w1 ⟨rfl,p⟩
   exact ⟨rfl,p⟩
  | ex i=>
   by_cases hi:i = id
   ·subst hi
    refine Or.inr ⟨.nrm,t',h',nx',fun kn ex kr => ?_,c2,fun ν w act H X A=>wp_block (wp_mono (c3 ν w act H X A) ?_)⟩
    ·simp only [c1]
     show exP i i kn (ex i) t' h' nx' = kn t' h' nx'
     unfold exP
     rw [Nat.beq_refl]
    ·rintro e a1 w1 ⟨rfl,p⟩
     show (if i = i then _ else _)
     rw [if_pos rfl]
     exact ⟨rfl,p⟩
   ·refine Or.inr ⟨.ex i,t',h',nx',fun kn ex kr => ?_,c2,fun ν w act H X A=>wp_block (wp_mono (c3 ν w act H X A) ?_)⟩
    ·simp only [c1]
     show exP i id kn (ex i) t' h' nx' = ex i t' h' nx'
     unfold exP
     have:Nat.beq i id = false:=by
      cases hb:Nat.beq i id
      ·rfl
      ·exact absurd (Nat.eq_of_beq_eq_true hb) hi
     rw [this]
    ·rintro e a1 w1 ⟨rfl,p⟩
     show (if i = id then _ else _)
     rw [if_neg hi]
     exact ⟨rfl,p⟩
theorem loop_out {P:Program} {η:En} {n:Nat} {b:Code} {ds:List Nat} {W:List Nat} {t0:Fm} {F:Fm → Tr Ob → Nat → KJ → (Nat → KJ) → KJ → RJ} (HF:∀ t h nx,COut P η n b ds t h nx (F t h nx)):∀ m t h nx,(∀ d,d ∉ ds → t.at d = t0.at d) →
  (∀ ex kr, ¬ GoodR (appW W (lpI (ln W) (fun self=>absW W (drp ds t0) (fun t h nx=>F t h nx (appW W self) ex kr)) m) t h nx)) ∨
  ∃ x t' h' nx',x ≠ .nrm ∧ (∀ kn ex kr,appW W (lpI (ln W) (fun self=>absW W (drp ds t0) (fun t h nx=>F t h nx (appW W self) ex kr)) m) t h nx = sel x kn ex kr t' h' nx') ∧ (∀ d,d ∉ ds → t'.at d = t0.at d) ∧
   ∀ ν w act,HR η ν h w → Nx ν nx → TRf η ν t n act → LoopWp P b (CodePost η ν h w n (exitOf x) t' h' nx') act w
 | 0,t,h,nx,ht=>by
  refine Or.inl fun ex kr => ?_
  have z : ∀ (W : List Nat) t, appW W (zA (ln W)) t h nx = .er 94 "" := by
   intro W
   induction W with
   | nil=>exact fun t=>rfl
   | cons w r ih=>exact fun t=>ih t
  have e : appW W (lpI (ln W) (fun self => absW W (drp ds t0) (fun t h nx => F t h nx (appW W self) ex kr)) 0) t h nx = .er 94 "" := z W t
  rw [e]
  exact er_bad
 | m + 1,t,h,nx,ht=>by
  have ih:=loop_out (t0:=t0) (W:=W) HF m
  have e0:∀ ex kr,appW W (lpI (ln W) (fun self=>absW W (drp ds t0) (fun t h nx=>F t h nx (appW W self) ex kr)) (m + 1)) t h nx
    = F (updW W (drp ds t0) t) h nx (appW W (lpI (ln W) (fun self=>absW W (drp ds t0) (fun t h nx=>F t h nx (appW W self) ex kr)) m)) ex kr:=fun ex kr=>
   app_abs W (drp ds t0) _ t h nx
  have le:LeF (updW W (drp ds t0) t) t:=updW_le W _ (drp_le ht)
  have sm:∀ d,d ∉ ds → (updW W (drp ds t0) t).at d = t0.at d:=fun d hd=>by rw [updW_same W _ (drp_same hd (ht d hd)),ht d hd]
  simp only [e0]
  rcases HF (updW W (drp ds t0) t) h nx with c | ⟨x,t1,h1,nx1,c1,c2,c3⟩
  ·exact Or.inl fun ex kr=>c _ _ _
  ·have st:∀ d,d ∉ ds → t1.at d = t0.at d:=fun d hd=>(c2 d hd).trans (sm d hd)
   cases x with
   | nrm=>
    simp only [c1]
    rcases ih t1 h1 nx1 st with e | ⟨x,t',h',nx',e1,e2,e3,e4⟩
    ·exact Or.inl fun ex kr=>e ex kr
    ·refine Or.inr ⟨x,t',h',nx',e1,fun kn ex kr=>e2 kn ex kr,e3,fun ν w act H X A=>LoopWp.unroll (wp_mono (c3 ν w act H X (le.tr A)) ?_)⟩
     rintro e a1 w1 ⟨rfl,ν1,p1,p2,p3,p4⟩
     show LoopWp P b _ a1 w1
     intro b' k cs
     obtain ⟨e,a',w',q,r⟩:=e4 ν1 w1 a1 p2 p3 p1 b' k cs
     exact ⟨e,a',w',CodePost.trans p4 q,r⟩
   | ex id=>
    refine Or.inr ⟨.ex id,t1,h1,nx1,(fun e=>by cases e),fun kn ex kr=>c1 _ _ _,st,fun ν w act H X A=>LoopWp.unroll (wp_mono (c3 ν w act H X (le.tr A)) ?_)⟩
    rintro e a1 w1 ⟨rfl,p⟩
    exact ⟨rfl,p⟩
   | rt=>
    refine Or.inr ⟨.rt,t1,h1,nx1,(fun e=>by cases e),fun kn ex kr=>c1 _ _ _,st,fun ν w act H X A=>LoopWp.unroll (wp_mono (c3 ν w act H X (le.tr A)) ?_)⟩
    rintro e a1 w1 ⟨rfl,p⟩
    exact ⟨rfl,p⟩
theorem er_out {P : Program} {η : En} {n : Nat} {c : Code} {ds : List Nat} {t : Fm} {h : Tr Ob} {nx : Nat} {m : Nat} : COut P η n c ds t h nx fun _ _ _ => .er m "" := Or.inl fun _ _ _ => er_bad
theorem dcode_ok {P:Program} (hmix:P.follows .mixedOrders = true) {g:G} (T:TabE P g.tt g.ff) {η:En} (S:EnvOk P g η) {n:Nat} {tab:Tab} {J:JC} (SJ:SndC P η (sJ tab J)) :
  ∀ c an t h nx,COut P η n c (wr c) t h nx (dcode g n tab J c an t h nx):=by
 intro c
 induction c with
 | skip=>exact fun an t h nx=>Or.inr ⟨.nrm,t,h,nx,fun _ _ _=>rfl,fun _ _=>rfl,fun ν w act H X A=>wp_skip ⟨rfl,ν,A,H,X,Fr.refl _ _ _⟩⟩
 | label l=>exact fun an t h nx=>Or.inr ⟨.nrm,t,h,nx,fun _ _ _=>rfl,fun _ _=>rfl,fun ν w act H X A=>wp_label ⟨rfl,ν,A,H,X,Fr.refl _ _ _⟩⟩
 | exit id=>exact fun an t h nx=>Or.inr ⟨.ex id,t,h,nx,fun _ _ _=>rfl,fun _ _=>rfl,fun ν w act H X A=>wp_exit ⟨rfl,ν,A,H,X,Fr.refl _ _ _⟩⟩
 | ret=>exact fun an t h nx=>Or.inr ⟨.rt,t,h,nx,fun _ _ _=>rfl,fun _ _=>rfl,fun ν w act H X A=>wp_ret ⟨rfl,ν,A,H,X,Fr.refl _ _ _⟩⟩
 | region id ops draw=>
  intro an t h nx
  cases draw with
  | false=>
   rcases dops_plain (P:=P) T S SJ (all:=ops) t ops.toList 0 (by simp) t h nx [] (n:=n) with c | ⟨t',h',nx',c1,c2,c3⟩
   ·exact Or.inl fun kn _ _=>c kn
   ·refine Or.inr ⟨.nrm,t',h',nx',fun kn _ _=>c1 kn,c2,fun ν w act H X A=>wp_region ?_⟩
    have:=c3 ν w act H X A _ fun e a w' p=>p
    rw [Nat.sub_zero,← List.range_eq_range'] at this
    exact this
  | true=>
   rcases ddr_one (g:=g) (n:=n) SJ.one (l:=ops.toList) t h nx with c | ⟨t',h',nx',c1,c2,c3⟩
   ·exact Or.inl fun kn _ _=>c kn
   ·exact Or.inr ⟨.nrm,t',h',nx',fun kn _ _=>c1 kn,c3,fun ν w act H X A=>cdr_ok hmix T S n id ops _ SJ.dir t h nx _ _ _ _ c2 ν w act H X A⟩
 | seq a b iha ihb=>
  intro an t h nx
  cases an with
  | s x y=>
   rcases iha x t h nx with c | ⟨e,t1,h1,nx1,c1,c2,c3⟩
   ·exact Or.inl fun kn ex kr=>c _ _ _
   ·have c2:∀ d,d ∉ wr (.seq a b) → t1.at d = t.at d:=fun d hd=>c2 d fun h'=>hd (List.mem_append_left _ h')
    cases e with
    | nrm=>
     rcases ihb y t1 h1 nx1 with e | ⟨e,t',h',nx',e1,e2,e3⟩
     ·exact Or.inl fun kn ex kr=>by
       show ¬ GoodR (dcode g n tab J a x t h nx (fun t h nx=>dcode g n tab J b y t h nx kn ex kr) ex kr)
       rw [c1]; exact e _ _ _
     ·refine Or.inr ⟨e,t',h',nx',fun kn ex kr => ?_,fun d hd => ?_,fun ν w act H X A=>wp_seq (wp_mono (c3 ν w act H X A) ?_)⟩
      ·show dcode g n tab J a x t h nx (fun t h nx=>dcode g n tab J b y t h nx kn ex kr) ex kr = _
       rw [c1]; exact e1 _ _ _
      ·rw [e2 d fun h'=>hd (List.mem_append_right _ h'),c2 d hd]
      ·rintro e a1 w1 ⟨rfl,ν1,p1,p2,p3,p4⟩
       show b.wp P _ a1 w1
       exact wp_mono (e3 ν1 w1 a1 p2 p3 p1) fun e a w' q=>CodePost.trans p4 q
    | ex id=>
     refine Or.inr ⟨.ex id,t1,h1,nx1,fun kn ex kr=>c1 _ _ _,c2,fun ν w act H X A=>wp_seq (wp_mono (c3 ν w act H X A) ?_)⟩
     rintro e a1 w1 ⟨rfl,p⟩
     exact ⟨rfl,p⟩
    | rt=>
     refine Or.inr ⟨.rt,t1,h1,nx1,fun kn ex kr=>c1 _ _ _,c2,fun ν w act H X A=>wp_seq (wp_mono (c3 ν w act H X A) ?_)⟩
     rintro e a1 w1 ⟨rfl,p⟩
     exact ⟨rfl,p⟩
  | _=>exact er_out
 | cond v a b iha ihb=>
  intro an t h nx
  have ha:∀ x,COut P η n a (wr (.cond v a b)) t h nx (dcode g n tab J a x t h nx):=fun x=>(iha x t h nx).mono fun d h'=>List.mem_append_left _ h'
  have hb:∀ x,COut P η n b (wr (.cond v a b)) t h nx (dcode g n tab J b x t h nx):=fun x=>(ihb x t h nx).mono fun d h'=>List.mem_append_right _ h'
  cases an with
  | c W x y=>exact join_out W (cond_out (v:=v) (ha x) (hb y))
  | d x y=>exact cond_out (v:=v) (ha x) (hb y)
  | _=>exact er_out
 | block id b ih=>
  intro an t h nx
  cases an with
  | b W x=>exact join_out W (block_out (id:=id) (ih x t h nx))
  | e x=>exact block_out (id:=id) (ih x t h nx)
  | _=>exact er_out
 | loop b ih=>
  intro an t h nx
  cases an with
  | o W x=>
   rcases loop_out (P:=P) (η:=η) (n:=n) (b:=b) (W:=W) (t0:=t) (fun t h nx=>ih x t h nx) 1000000 t h nx (fun _ _=>rfl) with c | ⟨e,t',h',nx',c1,c2,c3,c4⟩
   ·exact Or.inl fun kn ex kr=>c ex kr
   ·exact Or.inr ⟨e,t',h',nx',fun kn ex kr=>c2 kn ex kr,c3,fun ν w act H X A=>(c4 ν w act H X A).loop⟩
  | _=>exact er_out
 | _=>exact fun an t h nx=>er_out
noncomputable def rtP (a : AV) (h : Tr Ob) (nx : Nat) (k : KV) : RJ := knK a (fun a => k a h nx) (.er 93 "")
noncomputable def rtT (l:List AV) (h:Tr Ob) (nx:Nat) (k:KV):RJ:=match knL l with
 | some l=>k (.vtp l) h nx
 | none => .er 93 ""
noncomputable abbrev rtF (l:List AV) (h:Tr Ob) (nx:Nat) (k:KV):RJ:=match l with
 | [a]=>rtP a h nx k
 | l=>rtT l h nx k
noncomputable abbrev rsL (g:G) (t:Fm) (h:Tr Ob):List ResultVar → (List AV → RJ) → RJ
 | [],K=>K []
 | .tmp k :: r,K=>rsL g t h r fun l=>K (t.at k :: l)
 | .cell k ty :: r,K=>match tiOf g.tt ty with
  | none => .er 93 ""
  | some i=>match i.agg with
   | true=>lgR i.size (t.at k) h fun a=>rsL g t h r fun l=>K (a :: l)
   | false=>ldR (t.at k) h fun a=>rsL g t h r fun l=>K (a :: l)
noncomputable abbrev dres (g:G) (rs:List ResultVar) (k:KV):KJ:=fun t h nx=>rsL g t h rs fun l=>rtF l h nx k
theorem rsL_one {g:G} {t:Fm} {h:Tr Ob}:∀ rs:List ResultVar,(∀ K, ¬ GoodR (rsL g t h rs K)) ∨ ∃ l,(∀ K,rsL g t h rs K = K l) ∧ ∀ l',knL l = some l' → resL g t h rs = some l'
 | []=>Or.inr ⟨[],fun _=>rfl,fun l' e=>by cases e; rfl⟩
 | .tmp k :: r=>by
  rcases rsL_one (g:=g) (t:=t) (h:=h) r with c | ⟨l,c1,c2⟩
  ·exact Or.inl fun K=>c _
  ·refine Or.inr ⟨t.at k :: l,fun K=>c1 _,fun l' e => ?_⟩
   unfold knL at e
   unfold resL
   cases ha:knA (t.at k) with
   | none=>rw [ha] at e; cases e
   | some a=>
    rw [ha] at e
    simp only at e ⊢
    split at e
    ·rename_i r' hr
     cases e
     rw [c2 r' hr]
    ·cases e
 | .cell k ty :: r=>by
  have ih:=rsL_one (g:=g) (t:=t) (h:=h) r
  unfold rsL resL
  cases hi:tiOf g.tt ty with
  | none=>exact Or.inl fun K=>er_bad
  | some i=>
   simp only
   have fin:∀ a,a ≠ .vno → (∃ b o,t.at k = .vp b o ∧ loadA i h b o = some a) → ∀ X:(List AV → RJ) → RJ,(∀ K,X K = rsL g t h r fun l=>K (a :: l)) → (∀ K, ¬ GoodR (X K)) ∨ ∃ l,(∀ K,X K = K l) ∧ ∀ l',knL l = some l' →
     (match knA (t.at k) with
      | some (.vp b o)=>match loadA i h b o with
       | none=>none
       | some a=>match resL g t h r with
        | some l=>some (a :: l)
        | none=>none
      | _=>none) = some l':=by
    rintro a ha ⟨b,o,h1,h2⟩ X hX
    rcases ih with c | ⟨l,c1,c2⟩
    ·exact Or.inl fun K=>by rw [hX]; exact c _
    ·refine Or.inr ⟨a :: l,fun K=>by rw [hX]; exact c1 _,fun l' e => ?_⟩
     rw [h1]
     have e3:knA (AV.vp b o) = some (.vp b o):=rfl
     rw [e3]
     simp only [h2]
     unfold knL at e
     rw [knA_of ha] at e
     simp only at e
     split at e
     ·rename_i r' hr
      cases e
      rw [c2 r' hr]
     ·cases e
   cases hg:i.agg with
   | true=>
    simp only
    rcases lgR_ok i.size (t.at k) h with e | ⟨e1,e2⟩
    ·exact Or.inl fun K=>e _
    ·obtain ⟨b,o,h1,h2⟩:=onP_eq e1
     refine fin _ e1 ⟨b,o,h1, ?_⟩ _ fun K=>e2 _
     simp only at e1 ⊢
     rw [h2] at e1 ⊢
     exact ldG_eq e1 hg
   | false=>
    simp only
    rcases ldR_ok (t.at k) h with e | ⟨e1,e2⟩
    ·exact Or.inl fun K=>e _
    ·obtain ⟨b,o,h1,h2⟩:=onP_eq e1
     refine fin _ e1 ⟨b,o,h1, ?_⟩ _ fun K=>e2 _
     simp only at e1 ⊢
     rw [h2] at e1 ⊢
     exact ldF_eq e1 hg
theorem knL_self:∀ {l r:List AV},knL l = some r → r = l
 | [],r,h=>by cases h; rfl
 | a :: l,r,h=>by
  unfold knL at h
  split at h
  ·cases h
  ·rename_i b hb
   split at h
   ·rename_i r' hr
    cases h
    rw [knL_self hr,(knA_eq hb).1]
   ·cases h
theorem dres_one {g:G} {rs:List ResultVar} {t:Fm} {h:Tr Ob} {nx:Nat}:(∀ k, ¬ GoodR (dres g rs k t h nx)) ∨ ∃ a,a ≠ .vno ∧ cres g rs t h = a ∧ ∀ k,dres g rs k t h nx = k a h nx:=by
 have hR:=rsL_one (g:=g) (t:=t) (h:=h) rs
 unfold dres
 rcases hR with c | ⟨l,c1,c2⟩
 ·exact Or.inl fun k=>c _
 ·simp only [c1]
  have hc:∀ a,resA g t h rs = some a → a ≠ .vno → cres g rs t h = a:=by
   intro a ha hn
   unfold cres
   cases h1:isOne rs with
   | none=>
    simp only
    rw [ha]; rfl
   | some d=>
    rw [isOne_eq h1] at ha
    unfold resA at ha
    simp only [resL] at ha
    cases hk:knA (t.at d) with
    | none=>rw [hk] at ha; cases ha
    | some x=>
     rw [hk] at ha
     cases ha
     exact (knA_eq hk).1
  have many:∀ X:KV → RJ,(∀ k,X k = rtT l h nx k) → (∀ a,l ≠ [a]) → (∀ k, ¬ GoodR (X k)) ∨ ∃ a,a ≠ .vno ∧ cres g rs t h = a ∧ ∀ k,X k = k a h nx:=by
   intro X hX hl
   unfold rtT at hX
   cases h4:knL l with
   | none=>exact Or.inl fun k=>by rw [hX,h4]; exact er_bad
   | some l'=>
    have:=knL_self h4
    subst this
    refine Or.inr ⟨.vtp l',(fun e=>by cases e),hc _ ?_ (fun e=>by cases e),fun k=>by rw [hX,h4]⟩
    unfold resA
    rw [c2 l' h4]
    match l',hl with
    | [],_=>rfl
    | [a],hl=>exact absurd rfl (hl a)
    | a :: b :: r,_=>rfl
  match l,c2,many with
  | [a],c2,_=>
   have e0 : ∀ k, rtF [a] h nx k = knK a (fun a => k a h nx) (.er 93 "") := fun _ => rfl
   simp only [e0]
   by_cases ha:a = .vno
   ·subst ha; exact Or.inl fun k=>er_bad
   ·refine Or.inr ⟨a,ha,hc a ?_ ha,fun k=>knK_kn ha _ _⟩
    unfold resA
    rw [c2 [a] (by unfold knL; rw [knA_of ha]; rfl)]
  | [],_,many=>exact many _ (fun _=>rfl) (fun a e=>by cases e)
  | a :: b :: r,_,many=>exact many _ (fun _=>rfl) (fun a e=>by cases e)
noncomputable abbrev dfn (g:G) (tab:Tab) (an:Ann) (fn:Func) (c:Code) (J:JC) (args:List AV) (h:Tr Ob) (nx:Nat) (k:KV):RJ:=match Nat.ble (lenA args 0) fn.ntmps with
 | false => .er 94 ""
 | true => dcode g fn.ntmps tab J c an (ofL args 0 Fm.e) h nx (dres g fn.results.toList k) (fun _ _ _ _ => .er 92 "") (dres g fn.results.toList k)
theorem ofL_TR {η:En} {ν:Nu} {args:List AV} {vs:List Value} {n:Nat} (hv:wrels η ν args vs) (hle:args.length ≤ n):TRf η ν (ofL args 0 Fm.e) n { tmps:=vs.toArray ++ Array.replicate (n - vs.toArray.size) undef,defers:=[] }:=by
 have hlen:=wrels_length hv
 refine ⟨by simp; omega,fun k => ?_,rfl⟩
 rcases ofL_at (l:=args) (i:=0) (t:=Fm.e) (k:=k) with h0 | ⟨-,h2⟩ | h2
 ·exact Or.inl h0
 ·obtain ⟨v,h3,h4⟩:=wrels_get _ _ hv h2
  simp only [Nat.sub_zero] at h3
  have hlt:k < vs.length:=by
   rcases Nat.lt_or_ge k vs.length with hl | hl
   ·exact hl
   ·rw [List.getElem?_eq_none hl] at h3; cases h3
  have:(vs.toArray ++ Array.replicate (n - vs.toArray.size) undef)[k]? = some v:=by
   rw [Array.getElem?_append_left (by simpa using hlt)]
   simpa using h3
  rw [Array.getD_eq_getD_getElem?,this]
  exact h4
 ·rw [Fm.at_e] at h2; exact Or.inl h2
theorem dfn_ok {P:Program} (hmix:P.follows .mixedOrders = true) {g:G} (T:TabE P g.tt g.ff) {η:En} (S:EnvOk P g η) {tab:Tab} (TO:TabOk P η tab) {f:Nat} {fn:Func} {c:Code} (hf:g.ff f = some fn) (hb:fn.body = some c) (an:Ann):FOk P η f (dfn g tab an fn c):=by
 intro J SJ args h nx
 have SJ':=sJ_ok TO SJ
 have fo:FnOk P f:=⟨fn,T.ff _ _ hf,by rw [hb]; rfl,T.nm _ _ hf⟩
 unfold dfn
 cases hle:Nat.ble (lenA args 0) fn.ntmps with
 | false=>exact ⟨Or.inl fun k=>er_bad,fun a h' nx' e=>by cases e⟩
 | true=>
  simp only
  have hle:=Nat.le_of_ble_eq_true hle
  rw [lenA_eq] at hle
  rcases dcode_ok (P:=P) hmix T S SJ' (n:=fn.ntmps) c an (ofL args 0 Fm.e) h nx with e | ⟨x,t',h',nx',c1,c2,c3⟩
  ·exact ⟨Or.inl fun k=>e _ _ _,fun a h' nx' hr=>absurd ⟨_,_,_,hr⟩ (e _ _ _)⟩
  ·simp only [c1]
   have out : (∀ k, sel x (dres g fn.results.toList k) (fun _ _ _ _ => .er 92 "") (dres g fn.results.toList k) t' h' nx' = dres g fn.results.toList k t' h' nx') → exitOf x = .normal ∨ exitOf x = .ret →
     One (fun k => sel x (dres g fn.results.toList k) (fun _ _ _ _ => .er 92 "") (dres g fn.results.toList k) t' h' nx') ∧ ∀ a h1 nx1, sel x (dres g fn.results.toList fun a h nx => .v a h nx) (fun _ _ _ _ => .er 92 "") (dres g fn.results.toList fun a h nx => .v a h nx) t' h' nx' = .v a h1 nx1 →
      FnOk P f ∧ ∀ ν w vs,HR η ν h w → Nx ν nx → wrels η ν args vs → Calls P f vs.toArray w (CallPostE η ν h w a h1 nx1):=by
    intro hs hx
    simp only [hs]
    rcases dres_one (g:=g) (rs:=fn.results.toList) (t:=t') (h:=h') (nx:=nx') with e | ⟨v,e1,e2,e3⟩
    ·exact ⟨Or.inl e,fun a h1 nx1 hr=>absurd ⟨_,_,_,hr⟩ (e _)⟩
    ·refine ⟨Or.inr ⟨v,h',nx',e3⟩,fun a h1 nx1 hr=>⟨fo,fun ν w vs H X hv => ?_⟩⟩
     rw [e3] at hr
     cases hr
     refine calls_of_wp (T.ff _ _ hf) hb (wp_mono (c3 ν w _ H X (ofL_TR hv hle)) ?_)
     rintro e act w1 ⟨rfl,ν1,p1,p2,p3,p4⟩
     obtain ⟨u,q1,q2⟩:=cres_rel (P:=P) T p2 p1 (fn:=fn) (by rw [e2]; exact e1)
     rw [e2] at q2
     rcases hx with hx | hx
     ·rw [hx]; exact ⟨p1.none,u,q1,u,ν1,rfl,q2,p2,p3,p4⟩
     ·rw [hx]; exact ⟨p1.none,u,q1,u,ν1,rfl,q2,p2,p3,p4⟩
   cases x with
   | nrm=>exact out (fun _=>rfl) (Or.inl rfl)
   | rt=>exact out (fun _=>rfl) (Or.inr rfl)
   | ex id=>exact ⟨Or.inl fun k=>er_bad,fun a h1 nx1 hr=>by cases hr⟩
def ArK:Nat → Type
 | 0=>Tr Ob → Nat → KV → RJ
 | n + 1=>AV → ArK n
noncomputable abbrev unc:(n:Nat) → ArK n → FnC
 | 0,F,l=>match l with
  | []=>F
  | _ :: _ => fun _ _ _ => .er 94 ""
 | n + 1,F,l=>match l with
  | [] => fun _ _ _ => .er 94 ""
  | a :: l=>unc n (F a) l
def EqA:(n:Nat) → ArK n → FnC → Prop
 | 0,F,G=>F = G []
 | n + 1,F,G => ∀ a,EqA n (F a) fun l=>G (a :: l)
theorem unc_eq:∀ (n:Nat) (F:ArK n) (G:FnC),EqA n F G → ∀ l,l.length = n → unc n F l = G l
 | 0,F,G,h,[],_=>h
 | n + 1,F,G,h,a :: l,hl=>unc_eq n (F a) (fun l=>G (a :: l)) (h a) l (by simpa using hl)
theorem unc_bad : ∀ (n : Nat) (F : ArK n) (l : List AV), l.length ≠ n → ∀ h nx k, unc n F l h nx k = .er 94 ""
 | 0,F,[],hl,_,_,_=>absurd rfl hl
 | 0,F,a :: l,hl,_,_,_=>rfl
 | n + 1,F,[],hl,_,_,_=>rfl
 | n + 1,F,a :: l,hl,h,nx,k=>unc_bad n (F a) l (fun e=>hl (by simp [e])) h nx k
theorem fok_unc {P:Program} {η:En} {f n:Nat} {F:JC → ArK n} {G:JC → FnC} (hG:FOk P η f G) (e:∀ J,EqA n (F J) (G J)):FOk P η f fun J=>unc n (F J):=by
 intro J SJ args h nx
 by_cases hl:args.length = n
 ·show One (unc n (F J) args h nx) ∧ ∀ a h' nx',unc n (F J) args h nx (fun a h nx => .v a h nx) = .v a h' nx' → _
  rw [unc_eq n (F J) (G J) (e J) args hl]
  exact hG J SJ args h nx
 ·have hb:=unc_bad n (F J) args hl h nx
  refine ⟨Or.inl fun k => ?_,fun a h' nx' hr => ?_⟩
  ·show ¬ GoodR (unc n (F J) args h nx k)
   rw [hb]; exact er_bad
  ·have hr:unc n (F J) args h nx (fun a h nx => .v a h nx) = .v a h' nx':=hr
   rw [hb] at hr; cases hr
end
end Go.Proofs.YtoeeackjlclneaaGreatDoor
