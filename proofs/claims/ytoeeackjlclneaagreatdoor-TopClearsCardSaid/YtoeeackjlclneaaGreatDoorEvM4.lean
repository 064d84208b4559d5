/-
  Texts joined: SyDrS, SyDrw, SyDrt, SyDrc, SyDri, SyDrd, SyDre.
-/
import Derived.Test.YtoeeackjlclneaaGreatDoorEvM3
import Derived.Orders
section
/-! A region that comes up in any order: what stands fixed of it. -/
namespace Go.Proofs.YtoeeackjlclneaaGreatDoor
set_option linter.unusedVariables false

theorem countP_lt {p q : Nat → Bool} : ∀ {l : List Nat}, (∀ x, x ∈ l → q x = true → p x = true) → ∀ {i : Nat}, i ∈ l → p i = true → q i = false → l.countP q < l.countP p
  | [], _, i, hi, _, _ => by cases hi
  | x :: l, h, i, hi, hp, hq => by
    have hle : l.countP q ≤ l.countP p := List.countP_mono_left fun y hy => h y (List.mem_cons_of_mem _ hy)
    rw [List.countP_cons, List.countP_cons]
    rcases List.mem_cons.1 hi with rfl | hi
    · simp only [hp, hq, if_true, Bool.false_eq_true, if_false]; omega
    · have ih := countP_lt (fun y hy => h y (List.mem_cons_of_mem _ hy)) hi hp hq
      have hx := h x (List.mem_cons_self ..)
      cases hqx : q x
      · simp only [Bool.false_eq_true, if_false]; omega
      · simp only [hx hqx, if_true]; omega
noncomputable def unl (ops : Array Oper) (listed : Array Bool) : Nat := (List.range ops.size).countP fun i => !listed.getD i true
theorem wpAny_inv {P : Program} {ops : Array Oper} {Q : Exit → Act → World → Prop} {md : Region.Mode} {I : Array Bool → Act → World → Prop}
    (step : ∀ listed i a w, I listed a w → i ∈ Region.ready md ops listed → wpOp P ops Q i (I (listed.setIfInBounds i true)) a w)
    (fin : ∀ listed a w, I listed a w → Region.ready md ops listed = [] → Q .normal a w) :
    ∀ (fuel : Nat) (listed : Array Bool) (a : Act) (w : World), I listed a w → unl ops listed ≤ fuel → wpAny P md ops Q fuel listed a w := by
  intro fuel
  induction fuel with
  | zero =>
    intro listed a w hI hu
    have hr : Region.ready md ops listed = [] := by
      rw [List.eq_nil_iff_forall_not_mem]
      intro i hi
      obtain ⟨h1, o, h2, -⟩ := mem_ready.1 hi
      have hlt : i < ops.size := (Array.getElem?_eq_some_iff.1 h2).1
      have h0 : unl ops listed = 0 := Nat.le_zero.1 hu
      unfold unl at h0
      rw [List.countP_eq_zero] at h0
      exact h0 i (List.mem_range.2 hlt) (by simp [h1])
    exact ⟨hr, fin listed a w hI hr⟩
  | succ fuel ih =>
    intro listed a w hI hu
    refine ⟨fun hr => fin listed a w hI hr, fun i hi => wpOp_mono (K := I (listed.setIfInBounds i true)) (fun a w h => ?_) (step listed i a w hI hi)⟩
    refine ih _ a w h ?_
    obtain ⟨h1, o, h2, -⟩ := mem_ready.1 hi
    have hlt : i < ops.size := (Array.getElem?_eq_some_iff.1 h2).1
    have hls : i < listed.size := by
      rcases Nat.lt_or_ge i listed.size with h | h
      · exact h
      · rw [Array.getD_eq_getD_getElem?, Array.getElem?_eq_none h] at h1; cases h1
    have : unl ops (listed.setIfInBounds i true) < unl ops listed := by
      unfold unl
      refine countP_lt (fun x _ hx => ?_) (List.mem_range.2 hlt) (by simp [h1]) ?_
      · by_cases hxi : i = x
        · subst hxi; simp [h1]
        · rw [getD_set_ne _ hxi] at hx; exact hx
      · simp [Array.getD_eq_getD_getElem?, hls]
    omega

/-! ### sets as numbers -/
noncomputable def inM (m i : Nat) : Bool := Nat.beq (Nat.land (Nat.shiftRight m i) 1) 1
theorem inM_bit (m i : Nat) : inM m i = m.testBit i := by
  unfold inM Nat.testBit
  show Nat.beq ((m >>> i) &&& 1) 1 = (1 &&& (m >>> i) != 0)
  rw [Nat.and_comm 1]
  have h : (m >>> i) &&& 1 = (m >>> i) % 2 := Nat.and_one_is_mod _
  rw [h]
  rcases Nat.mod_two_eq_zero_or_one (m >>> i) with h | h <;> rw [h] <;> rfl
noncomputable def ancAt (A : Tr Nat) (i : Nat) : Nat := match A.get i with
  | some m => m
  | none => 0
noncomputable def ancOf (A : Tr Nat) : List Edge → Nat
  | [] => 0
  | e :: r => match Region.binds .any e with
    | true => Nat.lor (Nat.lor (Nat.shiftLeft 1 e.on) (ancAt A e.on)) (ancOf A r)
    | false => ancOf A r
theorem ancOf_in {A : Tr Nat} {j : Nat} : ∀ {l : List Edge}, inM (ancOf A l) j = true → ∃ e ∈ l, Region.binds .any e = true ∧ (j = e.on ∨ inM (ancAt A e.on) j = true)
  | [], h => by rw [inM_bit] at h; simp [ancOf] at h
  | e :: r, h => by
    unfold ancOf at h
    split at h
    · rename_i hb
      rw [inM_bit] at h
      have h' : ((1 <<< e.on ||| ancAt A e.on) ||| ancOf A r).testBit j = true := h
      rw [Nat.testBit_or, Nat.testBit_or, Bool.or_eq_true, Bool.or_eq_true] at h'
      rcases h' with (h' | h') | h'
      · refine ⟨e, List.mem_cons_self .., hb, Or.inl ?_⟩
        rw [Nat.one_shiftLeft, Nat.testBit_two_pow] at h'
        have := of_decide_eq_true h'
        omega
      · exact ⟨e, List.mem_cons_self .., hb, Or.inr (by rw [inM_bit]; exact h')⟩
      · obtain ⟨e', h1, h2⟩ := ancOf_in (l := r) (by rw [inM_bit]; exact h')
        exact ⟨e', List.mem_cons_of_mem _ h1, h2⟩
    · obtain ⟨e', h1, h2⟩ := ancOf_in (l := r) h
      exact ⟨e', List.mem_cons_of_mem _ h1, h2⟩
noncomputable def mkAnc (l : List Oper) : Nat → Tr Nat → Tr Nat := List.rec (motive := fun _ => Nat → Tr Nat → Tr Nat) (fun _ A => A) (fun o _ ih i A => ih (i + 1) (A.set i (ancOf A o.after.toList))) l
noncomputable def mkWr (l : List Oper) : Nat → Tr Nat → Tr Nat := List.rec (motive := fun _ => Nat → Tr Nat → Tr Nat) (fun _ A => A) (fun o _ ih i A => match o.dst with
  | some d => ih (i + 1) (A.set d i)
  | none => ih (i + 1) A) l

/-! ### what an operation looks at -/
noncomputable def optL (x : Option Operand) : List Operand := match x with
  | some x => [x]
  | none => []
noncomputable def sndL : List (Nat × Operand) → List Operand
  | [] => []
  | (_, x) :: r => x :: sndL r
noncomputable def opnds (op : Op) : List Operand := match op with
  | .move x => [x]
  | .assign x => [x]
  | .pick c x y => [c, x, y]
  | .load _ x => [x]
  | .store _ x y => [x, y]
  | .fieldAddr _ x _ => [x]
  | .indexAddr _ x y => [x, y]
  | .field _ x _ => [x]
  | .index _ x y => [x, y]
  | .extract x _ => [x]
  | .box _ x => [x]
  | .build _ ps => sndL ps.toList
  | .buildSlice _ _ ps => sndL ps.toList
  | .binOp _ _ x y _ => [x, y]
  | .unOp _ _ x => [x]
  | .nilCheck x => [x]
  | .makeFunc _ a b => a.toList ++ b.toList
  | .slice _ x lo hi mx => x :: (optL lo ++ (optL hi ++ optL mx))
  | .convert _ _ x => [x]
  | .makeSlice _ l c => [l, c]
  | .makeMap _ r => optL r
  | .lookup _ m k _ => [m, k]
  | .mapUpdate _ m k v => [m, k, v]
  | .call c => match c.callee with
    | .value f => f :: c.args.toList
    | _ => c.args.toList
  | _ => []
noncomputable def tmpsL : List Operand → List Nat → List Nat
  | [], r => r
  | x :: l, r => match x with
    | .tmp k => k :: tmpsL l r
    | _ => tmpsL l r
noncomputable def mens (all : List Oper) (o : Oper) : List Nat := tmpsL (opnds o.op) (match o.guard with
  | none => []
  | some (j, _) => match nthO all j with
    | none => []
    | some oj => match oj.dst with
      | none => []
      | some d => [d])

/-- What stands fixed of a region: its ancestors, its writers. -/
structure RG where
  all : List Oper
  A : Tr Nat
  W : Tr Nat
noncomputable def edgesLt (i : Nat) : List Edge → Bool
  | [] => true
  | e :: r => match Region.binds .any e with
    | true => Nat.blt e.on i && edgesLt i r
    | false => edgesLt i r
theorem edgesLt_mem {i : Nat} : ∀ {l : List Edge}, edgesLt i l = true → ∀ e ∈ l, Region.binds .any e = true → e.on < i
  | [], _, e, he, _ => by cases he
  | x :: r, h, e, he, hb => by
    unfold edgesLt at h
    rcases List.mem_cons.1 he with rfl | he
    · rw [hb] at h
      simp only [Bool.and_eq_true] at h
      exact blt_lt h.1
    · split at h
      · simp only [Bool.and_eq_true] at h; exact edgesLt_mem h.2 e he hb
      · exact edgesLt_mem h e he hb
noncomputable def menOk (R : RG) (i d : Nat) : Bool := match R.W.get d with
  | none => true
  | some w => match nthO R.all w with
    | none => false
    | some o => match o.dst with
      | none => false
      | some d' => Nat.beq d' d && (match Nat.blt w i with
        | true => inM (ancAt R.A i) w
        | false => Nat.beq w i || inM (ancAt R.A w) i)
noncomputable def mensOk (R : RG) (i : Nat) : List Nat → Bool
  | [] => true
  | d :: r => menOk R i d && mensOk R i r
noncomputable def dstOk (R : RG) (n i : Nat) (dst : Option Nat) : Bool := match dst with
  | none => true
  | some d => match R.W.get d with
    | some w => Nat.beq w i && (Nat.blt d n && Nat.blt d 256)
    | none => false
noncomputable def statOk (R : RG) (n i : Nat) (o : Oper) : Bool :=
  edgesLt i o.after.toList && (Nat.beq (ancAt R.A i) (ancOf R.A o.after.toList) && (dstOk R n i o.dst && mensOk R i (mens R.all o)))
noncomputable def statsOk (R : RG) (n : Nat) : List Oper → Nat → Bool
  | [], _ => true
  | o :: r, i => statOk R n i o && statsOk R n r (i + 1)
theorem statsOk_at {R : RG} {n : Nat} : ∀ {l : List Oper} {i : Nat}, statsOk R n l i = true → ∀ {k : Nat} {o : Oper}, l[k]? = some o → statOk R n (i + k) o = true
  | [], i, _, k, o, hk => by cases hk
  | x :: r, i, h, k, o, hk => by
    rw [statsOk, Bool.and_eq_true] at h
    cases k with
    | zero => cases hk; exact h.1
    | succ k =>
      have := statsOk_at h.2 (k := k) (o := o) (by simpa using hk)
      rw [show i + (k + 1) = i + 1 + k by omega]
      exact this
/-- The static part, said. -/
structure RGok (R : RG) (n : Nat) : Prop where
  lt : ∀ i o, R.all[i]? = some o → ∀ e ∈ o.after, Region.binds .any e = true → e.on < i
  anc : ∀ i o, R.all[i]? = some o → ∀ j, inM (ancAt R.A i) j = true → ∃ e ∈ o.after, Region.binds .any e = true ∧ (j = e.on ∨ inM (ancAt R.A e.on) j = true)
  dst : ∀ i o d, R.all[i]? = some o → o.dst = some d → R.W.get d = some i ∧ d < n ∧ d < 256
  men : ∀ i o d, R.all[i]? = some o → d ∈ mens R.all o → menOk R i d = true
theorem mensOk_mem {R : RG} {i : Nat} : ∀ {l : List Nat}, mensOk R i l = true → ∀ d ∈ l, menOk R i d = true
  | [], _, d, hd => by cases hd
  | x :: r, h, d, hd => by
    rw [mensOk, Bool.and_eq_true] at h
    rcases List.mem_cons.1 hd with rfl | hd
    · exact h.1
    · exact mensOk_mem h.2 d hd
theorem statsOk_ok {R : RG} {n : Nat} (h : statsOk R n R.all 0 = true) : RGok R n := by
  have key : ∀ i o, R.all[i]? = some o → statOk R n i o = true := fun i o ho => by
    have := statsOk_at h ho
    rwa [Nat.zero_add] at this
  refine ⟨fun i o ho e he hb => ?_, fun i o ho j hj => ?_, fun i o d ho hd => ?_, fun i o d ho hd => ?_⟩
  all_goals have hs := key i o ho
  all_goals unfold statOk at hs
  all_goals simp only [Bool.and_eq_true] at hs
  all_goals obtain ⟨h1, h2, h3, h4⟩ := hs
  · exact edgesLt_mem h1 e (by simpa using he) hb
  · rw [Nat.eq_of_beq_eq_true h2] at hj
    obtain ⟨e, h5, h6⟩ := ancOf_in hj
    exact ⟨e, by simpa using h5, h6⟩
  · unfold dstOk at h3
    rw [hd] at h3
    simp only at h3
    split at h3
    · rename_i w hw
      simp only [Bool.and_eq_true] at h3
      rw [← Nat.eq_of_beq_eq_true h3.1]
      exact ⟨hw, blt_lt h3.2.1, blt_lt h3.2.2⟩
    · cases h3
  · exact mensOk_mem h4 d hd

end Go.Proofs.YtoeeackjlclneaaGreatDoor
end
section
/-! A region that comes up in any order, made ready: it is run in the order of its text; what may have come up elsewhere is looked at again. -/
namespace Go.Proofs.YtoeeackjlclneaaGreatDoor
set_option linter.unusedVariables false

/-! ### an operation's own operands -/
inductive KM where
  | mk (f : Fm → Fm)
noncomputable def KM.f (e : KM) : Fm → Fm := KM.rec (motive := fun _ => Fm → Fm) (fun f => f) e
theorem KM.eta (e : KM) : e = KM.mk e.f := by cases e; rfl
noncomputable def cmask : List Nat → KM
  | [] => KM.mk (fun _ => Fm.e)
  | d :: r => Fa.rec (motive := fun _ => KM) (fun g s => KM.rec (motive := fun _ => KM) (fun f => KM.mk (fun t => s (f t) (g t))) (cmask r)) (facc d)
noncomputable def mask (ds : List Nat) (t : Fm) : Fm := (cmask ds).f t
theorem mask_nil (t : Fm) : mask [] t = Fm.e := rfl
theorem mask_cons (d : Nat) (r : List Nat) (t : Fm) : mask (d :: r) t = (mask r t).put d (t.at d) := by
  have e : cmask (d :: r) = Fa.rec (motive := fun _ => KM) (fun g s => KM.rec (motive := fun _ => KM) (fun f => KM.mk (fun t => s (f t) (g t))) (cmask r)) (facc d) := rfl
  unfold mask Fm.put Fm.at
  rw [e, KM.eta (cmask r)]
  generalize facc d = c
  cases c
  rfl
theorem put_at_same (t : Fm) (d : Nat) {a : AV} (h : d < 256 ∨ a = .vno) : (t.put d a).at d = a := by
  by_cases hd : d < 256
  · exact Fm.at_put_lt t hd a
  · rcases h with h | h
    · exact absurd h hd
    · rw [h, Fm.at_no _ hd]
theorem at_ge (t : Fm) (d : Nat) : d < 256 ∨ t.at d = .vno := by
  by_cases hd : d < 256
  · exact Or.inl hd
  · exact Or.inr (Fm.at_no _ hd)
theorem mask_in {d : Nat} {t : Fm} : ∀ {ds : List Nat}, d ∈ ds → (mask ds t).at d = t.at d
  | [], h => by cases h
  | x :: r, h => by
    rw [mask_cons]
    by_cases hx : d = x
    · subst hx; exact put_at_same _ _ (at_ge t d)
    · rw [Fm.at_put_ne _ _ hx]
      rcases List.mem_cons.1 h with h | h
      · exact absurd h hx
      · exact mask_in h
theorem mask_out {d : Nat} {t : Fm} : ∀ {ds : List Nat}, d ∉ ds → (mask ds t).at d = .vno
  | [], h => by rw [mask_nil]; exact Fm.at_e d
  | x :: r, h => by
    rw [mask_cons, Fm.at_put_ne _ _ (fun e => h (by rw [e]; exact List.mem_cons_self ..))]
    exact mask_out fun h' => h (List.mem_cons_of_mem _ h')
theorem mask_congr {t t' : Fm} : ∀ {ds : List Nat}, (∀ d ∈ ds, t.at d = t'.at d) → mask ds t = mask ds t'
  | [], h => rfl
  | x :: r, h => by rw [mask_cons, mask_cons, h x (List.mem_cons_self ..), mask_congr fun d hd => h d (List.mem_cons_of_mem _ hd)]
theorem TR_mask {η : En} {ν : Nu} {ds : List Nat} {t : Fm} {n : Nat} {a : Act} (hs : a.tmps.size = n) (hn : a.defers = []) (h : ∀ d ∈ ds, wrel η ν (t.at d) (a.tmps.getD d undef)) : TRf η ν (mask ds t) n a := by
  refine ⟨hs, fun k => ?_, hn⟩
  by_cases hk : k ∈ ds
  · rw [mask_in hk]; exact h k hk
  · exact Or.inl (mask_out hk)

/-! ### the region's own numbers -/
structure Stg where
  h : Tr Ob
  nx : Nat
noncomputable def isE (k : KO) : Bool := KO.rec (motive := fun _ => Bool) (fun _ => false) (fun _ => true) k
noncomputable def within (a m k : Nat) : Bool := Nat.ble a k && Nat.blt k (a + m)
/-- The effects of a region. -/
noncomputable def effsG (g : G) (a mf : Nat) : List Oper → Nat → List Nat
  | [], _ => []
  | o :: r, k => match within a mf k with
    | true => effsG g a mf r (k + 1)
    | false => match isE (cop g o) with
      | true => k :: effsG g a mf r (k + 1)
      | false => effsG g a mf r (k + 1)
noncomputable def cntL (effs : List Nat) (k : Nat) : Nat := match effs with
  | [] => 0
  | e :: r => match Nat.blt e k with
    | true => cntL r k + 1
    | false => cntL r k
/-- May an operation that leaves the heap come up behind so many effects? -/
noncomputable def mayOne (R : RG) (k p e q : Nat) : Bool := match Nat.blt q p with
  | true => !(inM (ancAt R.A e) k)
  | false => !(inM (ancAt R.A k) e)
noncomputable def mayAt (R : RG) (k p : Nat) : List Nat → Nat → Bool
  | [], _ => true
  | e :: r, q => mayOne R k p e q && mayAt R k p r (q + 1)
noncomputable def needsTo (R : RG) (effs : List Nat) (k c : Nat) : Nat → List Nat
  | 0 => match Nat.beq 0 c with
    | true => []
    | false => match mayAt R k 0 effs 0 with
      | true => [0]
      | false => []
  | p + 1 => match Nat.beq (p + 1) c with
    | true => needsTo R effs k c p
    | false => match mayAt R k (p + 1) effs 0 with
      | true => (p + 1) :: needsTo R effs k c p
      | false => needsTo R effs k c p
noncomputable def needs (R : RG) (effs : List Nat) (k : Nat) : List Nat := needsTo R effs k (cntL effs k) (lenN effs 0)
/-- What an operation sees, told from the frames ahead of the region and behind it. -/
noncomputable def pickU (R : RG) (k : Nat) (u t : Fm) (d : Nat) : AV := match R.W.get d with
  | none => u.at d
  | some w => match Nat.blt w k with
    | true => t.at d
    | false => u.at d
noncomputable def maskU (R : RG) (k : Nat) (u t : Fm) : List Nat → Fm
  | [] => Fm.e
  | d :: r => (maskU R k u t r).put d (pickU R k u t d)
theorem maskU_eq {R : RG} {k : Nat} {u t x : Fm} : ∀ {ds : List Nat}, (∀ d ∈ ds, pickU R k u t d = x.at d) → maskU R k u t ds = mask ds x
  | [], h => rfl
  | d :: r, h => by rw [maskU, mask_cons, h d (List.mem_cons_self ..), maskU_eq fun d hd => h d (List.mem_cons_of_mem _ hd)]
noncomputable def allIn (m : Nat) : List Nat → Bool
  | [] => true
  | e :: r => inM m e && allIn m r
noncomputable def belowL (effs : List Nat) (k : Nat) : List Nat := match effs with
  | [] => []
  | e :: r => match Nat.blt e k with
    | true => e :: belowL r k
    | false => belowL r k
noncomputable def rangeL (a : Nat) : Nat → List Nat
  | 0 => []
  | m + 1 => a :: rangeL (a + 1) m
noncomputable def isAl (o : Oper) : Bool := match o.op with
  | .alloc _ => match o.guard with
    | none => match o.dst with
      | some _ => true
      | none => false
    | some _ => false
  | _ => false
noncomputable def lenO : List Oper → Nat
  | [] => 0
  | _ :: r => lenO r + 1
noncomputable def isNilL : List Nat → Bool
  | [] => true
  | _ :: _ => false
/-- What is to be right of an operation, beside its own statistics. -/
noncomputable def opOk (g : G) (R : RG) (effs : List Nat) (a mf k : Nat) (o : Oper) : Bool := match within a mf k with
  | true => isAl o && Nat.beq (ancAt R.A k) 0
  | false => match isE (cop g o) with
    | true => allIn (ancAt R.A k) (belowL effs k) && (match Nat.blt k a with
      | true => true
      | false => allIn (ancAt R.A k) (rangeL a mf))
    | false => match needs R effs k with
      | [] => match Nat.blt k a with
        | true => true
        | false => allIn (ancAt R.A k) (rangeL a mf) && Nat.blt (cntL effs a) (cntL effs k)
      | _ :: _ => Nat.blt k a
noncomputable def opsOk (g : G) (R : RG) (effs : List Nat) (a mf : Nat) : List Oper → Nat → Bool
  | [], _ => true
  | o :: r, k => opOk g R effs a mf k o && opsOk g R effs a mf r (k + 1)
theorem opsOk_at {g : G} {R : RG} {effs : List Nat} {a mf : Nat} : ∀ {l : List Oper} {i : Nat}, opsOk g R effs a mf l i = true → ∀ {k : Nat} {o : Oper}, l[k]? = some o → opOk g R effs a mf (i + k) o = true
  | [], i, _, k, o, hk => by cases hk
  | x :: r, i, h, k, o, hk => by
    rw [opsOk, Bool.and_eq_true] at h
    cases k with
    | zero => cases hk; exact h.1
    | succ k =>
      have := opsOk_at h.2 (k := k) (o := o) (by simpa using hk)
      rw [show i + (k + 1) = i + 1 + k by omega]
      exact this

/-! ### the looks that are to be taken again -/
noncomputable def nthS (l : List Stg) (n : Nat) : Option Stg := match dropL l n with
  | a :: _ => some a
  | [] => none
theorem nthS_eq {l : List Stg} {n : Nat} : nthS l n = l[n]? := by
  unfold nthS
  rw [dropL_eq]
  have : l[n]? = (l.drop n)[0]? := by simp
  rw [this]
  cases l.drop n <;> rfl
noncomputable def sameV (v : AV) (x : Option AV) : Bool := match x with
  | none => isKn v
  | some x => isKn v && avEq v x
noncomputable def dstV (t : Fm) (dst : Option Nat) : Option AV := match dst with
  | none => none
  | some d => some (t.at d)
noncomputable def look1 (V : Fm → Tr Ob → Nat → AV) (rs : Fm) (x : Option AV) (hs : List Stg) (i : Nat) : Bool := match nthS hs i with
  | none => false
  | some st => sameV (V rs st.h st.nx) x
noncomputable def looks (V : Fm → Tr Ob → Nat → AV) (rs : Fm) (x : Option AV) (hs : List Stg) (s : Nat) : List Nat → Bool
  | [] => true
  | p :: r => look1 V rs x hs (s - p) && looks V rs x hs s r
/-- An operation's looks. -/
noncomputable def lookO (g : G) (R : RG) (effs : List Nat) (k : Nat) (o : Oper) (u t : Fm) (hs : List Stg) : Bool := match needs R effs k with
  | [] => true
  | p :: r => match cop g o with
    | .e _ => true
    | .q V => match wantA o R.all (maskU R k u t (mens R.all o)) with
      | some true => looks V (maskU R k u t (mens R.all o)) (dstV t o.dst) hs (lenN effs 0) (p :: r)
      | some false => true
      | none => false
noncomputable def lookL (g : G) (R : RG) (effs : List Nat) (u t : Fm) (hs : List Stg) : List (Nat × Oper) → Bool
  | [] => true
  | (k, o) :: r => lookO g R effs k o u t hs && lookL g R effs u t hs r
/-- Those operations that have any. -/
noncomputable def lookers (R : RG) (effs : List Nat) : List Oper → Nat → List (Nat × Oper)
  | [], _ => []
  | o :: r, k => match needs R effs k with
    | [] => lookers R effs r (k + 1)
    | _ :: _ => (k, o) :: lookers R effs r (k + 1)
theorem lookL_at {g : G} {R : RG} {effs : List Nat} {u t : Fm} {hs : List Stg} : ∀ {l : List Oper} {i : Nat}, lookL g R effs u t hs (lookers R effs l i) = true → ∀ {k : Nat} {o : Oper}, l[k]? = some o → lookO g R effs (i + k) o u t hs = true
  | [], i, _, k, o, hk => by cases hk
  | x :: r, i, h, k, o, hk => by
    rw [lookers] at h
    split at h
    · rename_i hn
      cases k with
      | zero => cases hk; unfold lookO; simp only [Nat.add_zero, hn]
      | succ k =>
        have := lookL_at h (k := k) (o := o) (by simpa using hk)
        rw [show i + (k + 1) = i + 1 + k by omega]
        exact this
    · rw [lookL, Bool.and_eq_true] at h
      cases k with
      | zero => cases hk; exact h.1
      | succ k =>
        have := lookL_at h.2 (k := k) (o := o) (by simpa using hk)
        rw [show i + (k + 1) = i + 1 + k by omega]
        exact this

/-! ### the run -/
inductive KHr where
  | mk (f : JJ → Fm → Fm → Tr Ob → Nat → List Stg → RJ)
noncomputable def KHr.f (c : KHr) : JJ → Fm → Fm → Tr Ob → Nat → List Stg → RJ := KHr.rec (motive := fun _ => JJ → Fm → Fm → Tr Ob → Nat → List Stg → RJ) (fun f => f) c
theorem KHr.eta (c : KHr) : c = KHr.mk c.f := by cases c; rfl
noncomputable def hbase (g : G) (o : Oper) (s : Fm → AV → Fm) (ms : Fm → Fm) (fr : JJ → Fm → Fm → Tr Ob → Nat → List Stg → RJ) : KHr :=
  KO.rec (motive := fun _ => KHr) (fun V => KHr.mk (fun J u t h nx hs => knK (V (ms t) h nx) (fun a => fr J u (s t a) h nx hs) (.er 20 o.pos)))
    (fun F => KHr.mk (fun J u t h nx hs => force (fun nx => F J (ms t) h nx (fun a h nx => fr J u (s t a) h nx (⟨h, nx⟩ :: hs))) nx)) (cop g o)
/-- What follows a skipped operation. -/
noncomputable def hskip (g : G) (o : Oper) (s : Fm → AV → Fm) (fr : JJ → Fm → Fm → Tr Ob → Nat → List Stg → RJ) : KHr := match isE (cop g o) with
  | true => KHr.mk (fun J u t h nx hs => fr J u (s t (.vtp [])) h nx (⟨h, nx⟩ :: hs))
  | false => KHr.mk (fun J u t h nx hs => fr J u (s t (.vtp [])) h nx hs)
noncomputable def hguard (all : List Oper) (o : Oper) (no : KHr) (base : KHr) : KHr := match o.guard with
  | none => base
  | some (j, want) => match nthO all j with
    | none => KHr.mk (fun _ _ _ _ _ _ => .er 99 o.pos)
    | some oj => match oj.dst with
      | none => KHr.mk (fun _ _ _ _ _ _ => .er 99 o.pos)
      | some d => KHr.rec (motive := fun _ => KHr) (fun yes => KHr.rec (motive := fun _ => KHr) (fun no => Fa.rec (motive := fun _ => KHr) (fun gd _ => KHr.mk (fun J u t h nx hs => gdF (gd t) want (yes J u t h nx hs) (no J u t h nx hs) (.er 99 o.pos))) (facc d)) no) base
noncomputable def hfree (g : G) (o : Oper) (s : Fm → AV → Fm) (fr : JJ → Fm → Fm → Tr Ob → Nat → List Stg → RJ) : KHr := match o.op with
  | .alloc ty => match tiOf g.tt ty with
    | none => KHr.mk (fun _ _ _ _ _ _ => .er 38 o.pos)
    | some i => match i.zero with
      | none => KHr.mk (fun _ _ _ _ _ _ => .er 38 o.pos)
      | some z => KHr.mk (fun J u t h nx hs => force (fun nx => fr J u (s t (.vp nx 0)) (h.set nx (.oc z false)) (Nat.succ nx) hs) nx)
  | _ => KHr.mk (fun _ _ _ _ _ _ => .er 38 o.pos)
noncomputable def hstep (g : G) (n : Nat) (all : List Oper) (a mf k : Nat) (o : Oper) (r : KHr) : KHr :=
  KD.rec (motive := fun _ => KHr) (fun s => KHr.rec (motive := fun _ => KHr) (fun fr => match within a mf k with
    | true => hfree g o s fr
    | false => KM.rec (motive := fun _ => KHr) (fun ms => hguard all o (hskip g o s fr) (hbase g o s ms fr)) (cmask (mens all o))) r) (KHr.mk (fun _ _ _ _ _ _ => .er 98 o.pos)) (cdst n o.dst)
noncomputable def hops (g : G) (n : Nat) (all : List Oper) (a mf : Nat) (fin : KHr) : List Oper → Nat → KHr
  | [], _ => fin
  | o :: r, k => hstep g n all a mf k o (hops g n all a mf fin r (k + 1))
noncomputable def hend (g : G) (R : RG) (effs : List Nat) (l : List (Nat × Oper)) : KHr := match l with
  | [] => KHr.mk (fun _ _ t h nx _ => .c .nrm t h nx)
  | x :: r => KHr.mk (fun _ u t h nx hs => Bool.rec (motive := fun _ => RJ) (.er 112 "") (.c .nrm t h nx) (lookL g R effs u t hs (x :: r)))
/-- Where the free new blocks stand: behind the first effect. -/
noncomputable def freeAt (g : G) (R : RG) : List Oper → Nat → Bool → Nat
  | [], k, _ => k
  | o :: r, k, seen => match seen && (isAl o && Nat.beq (ancAt R.A k) 0) with
    | true => k
    | false => freeAt g R r (k + 1) (seen || isE (cop g o))
noncomputable def freeN (R : RG) : List Oper → Nat → Nat
  | [], _ => 0
  | o :: r, k => match isAl o && Nat.beq (ancAt R.A k) 0 with
    | true => freeN R r (k + 1) + 1
    | false => 0
noncomputable def pos0 : List Oper → String
  | [] => ""
  | o :: _ => o.pos
noncomputable def cdrR (g : G) (n : Nat) (R : RG) (a mf : Nat) (effs : List Nat) : KC := match statsOk R n R.all 0 && (opsOk g R effs a mf R.all 0 && (Nat.ble (a + mf) (lenO R.all) && (Nat.beq mf 0 || Nat.blt (cntL effs a) (lenN effs 0)))) with
  | false => KC.mk (fun _ _ _ _ => .er 113 (pos0 R.all))
  | true => KHr.rec (motive := fun _ => KC) (fun f => KC.mk (fun J t h nx => f J t t h nx [⟨h, nx⟩])) (hops g n R.all a mf (hend g R effs (lookers R effs R.all 0)) R.all 0)
noncomputable def cdrA (g : G) (n : Nat) (R : RG) (a mf : Nat) : KC := cdrR g n R a mf (effsG g a mf R.all 0)
noncomputable def cdrG (g : G) (n : Nat) (R : RG) : KC := cdrA g n R (freeAt g R R.all 0 false) (freeN R (dropL R.all (freeAt g R R.all 0 false)) (freeAt g R R.all 0 false))
noncomputable def cdr (g : G) (n : Nat) (l : List Oper) : KC := cdrG g n ⟨l, mkAnc l 0 .e, mkWr l 0 .e⟩
end Go.Proofs.YtoeeackjlclneaaGreatDoor
end
section
/-! A region in the order of its text: what was done at each operation. -/
namespace Go.Proofs.YtoeeackjlclneaaGreatDoor
set_option linter.unusedVariables false

structure StE where
  t : Fm
  h : Tr Ob
  nx : Nat
  hs : List Stg
/-- An effect, whatever the world. -/
def EffAt (P : Program) (η : En) (o : Oper) (t : Fm) (h : Tr Ob) (nx : Nat) (a : AV) (h1 : Tr Ob) (nx1 : Nat) : Prop :=
  ∀ ν w act n, HR η ν h w → Nx ν nx → TRf η ν t n act → ∀ (next : Act → World → Prop) (Q : Exit → Act → World → Prop),
    (∀ v w1 ν1, vrel η ν1 a v → HR η ν1 h1 w1 → Nx ν1 nx1 → Fr ν h w ν1 h1 w1 → next (act.put o.dst v) w1) → o.wp P act w next Q
structure StepOk (P : Program) (η : En) (g : G) (R : RG) (n a mf k : Nat) (o : Oper) (s : StE) (v : AV) (s1 : StE) : Prop where
  put : ∃ sd, cdst n o.dst = KD.mk sd ∧ s1.t = sd s.t v
  way : (within a mf k = true ∧ s1.hs = s.hs ∧ ∃ ty i z, o.op = .alloc ty ∧ tiOf g.tt ty = some i ∧ i.zero = some z ∧ v = .vp s.nx 0 ∧ s1.h = s.h.set s.nx (.oc z false) ∧ s1.nx = s.nx + 1) ∨
    (within a mf k = false ∧ ((wantA o R.all (mask (mens R.all o) s.t) = some false ∧ v = .vtp [] ∧ s1.h = s.h ∧ s1.nx = s.nx ∧ s1.hs = if isE (cop g o) = true then ⟨s.h, s.nx⟩ :: s.hs else s.hs) ∨
      (wantA o R.all (mask (mens R.all o) s.t) = some true ∧
        ((∃ V, cop g o = .q V ∧ V (mask (mens R.all o) s.t) s.h s.nx = v ∧ v ≠ .vno ∧ s1.h = s.h ∧ s1.nx = s.nx ∧ s1.hs = s.hs) ∨
         (∃ F, cop g o = .e F ∧ EffAt P η o (mask (mens R.all o) s.t) s.h s.nx v s1.h s1.nx ∧ s1.hs = ⟨s1.h, s1.nx⟩ :: s.hs)))))
inductive Trace (P : Program) (η : En) (g : G) (R : RG) (n a mf : Nat) : Nat → List Oper → StE → StE → Prop where
  | nil (k : Nat) (s : StE) : Trace P η g R n a mf k [] s s
  | cons (k : Nat) (o : Oper) (r : List Oper) (s s1 sf : StE) (v : AV) : StepOk P η g R n a mf k o s v s1 → Trace P η g R n a mf (k + 1) r s1 sf → Trace P η g R n a mf k (o :: r) s sf
theorem tmpsL_base {d : Nat} : ∀ {l : List Operand} {r : List Nat}, d ∈ r → d ∈ tmpsL l r
  | [], r, h => h
  | x :: l, r, h => by
    unfold tmpsL
    split
    · exact List.mem_cons_of_mem _ (tmpsL_base h)
    · exact tmpsL_base h
theorem mens_guard {all : List Oper} {o oj : Oper} {j : Nat} {want : Bool} {d : Nat} (hg : o.guard = some (j, want)) (hj : nthO all j = some oj) (hd : oj.dst = some d) : d ∈ mens all o := by
  unfold mens
  refine tmpsL_base ?_
  rw [hg]
  simp only [hj, hd]
  exact List.mem_cons_self ..
theorem within_no {a mf k : Nat} (h : within a mf k = false) : k < a ∨ a + mf ≤ k := by
  unfold within at h
  rcases Nat.lt_or_ge k a with h1 | h1
  · exact Or.inl h1
  · rcases Nat.lt_or_ge k (a + mf) with h2 | h2
    · rw [Nat.ble_eq_true_of_le h1, bltD, decide_eq_true h2] at h; cases h
    · exact Or.inr h2
theorem within_yes {a mf k : Nat} (h : within a mf k = true) : a ≤ k ∧ k < a + mf := by
  unfold within at h
  rw [Bool.and_eq_true] at h
  exact ⟨Nat.le_of_ble_eq_true h.1, blt_lt h.2⟩
theorem hbase_step {P : Program} {η : En} {g : G} {R : RG} {n a mf k : Nat} {o : Oper} (ok : COk P η g o (cop g o)) (hw : within a mf k = false) {sd : Fm → AV → Fm} (hd : cdst n o.dst = KD.mk sd) {fr : JJ → Fm → Fm → Tr Ob → Nat → List Stg → RJ} {J : JJ} {u : Fm} (D : SndJ P η J)
    {t : Fm} {h : Tr Ob} {nx : Nat} {hs : List Stg} {x : Xt} {t' : Fm} {h' : Tr Ob} {nx' : Nat} (hwant : wantA o R.all (mask (mens R.all o) t) = some true)
    (hr : (hbase g o sd (mask (mens R.all o)) fr).f J u t h nx hs = .c x t' h' nx') : ∃ v s1, StepOk P η g R n a mf k o ⟨t, h, nx, hs⟩ v s1 ∧ fr J u s1.t s1.h s1.nx s1.hs = .c x t' h' nx' := by
  unfold hbase at hr
  cases hc : cop g o with
  | q V =>
    rw [hc] at hr
    have hr' : knK (V (mask (mens R.all o) t) h nx) (fun a => fr J u (sd t a) h nx hs) (.er 20 o.pos) = .c x t' h' nx' := hr
    obtain ⟨hk, hr'⟩ := knK_eq hr' er_ne
    exact ⟨_, ⟨_, h, nx, hs⟩, ⟨⟨sd, hd, rfl⟩, Or.inr ⟨hw, Or.inr ⟨hwant, Or.inl ⟨V, hc, rfl, hk, rfl, rfl, rfl⟩⟩⟩⟩, hr'⟩
  | e F =>
    rw [hc] at hr ok
    have hr' : F J (mask (mens R.all o) t) h nx (fun a h nx => fr J u (sd t a) h nx (⟨h, nx⟩ :: hs)) = .c x t' h' nx' := hr
    obtain ⟨v, h1, nx1, h2, h3⟩ := ok J D _ h nx _ x t' h' nx' hr'
    exact ⟨v, ⟨sd t v, h1, nx1, ⟨h1, nx1⟩ :: hs⟩, ⟨⟨sd, hd, rfl⟩, Or.inr ⟨hw, Or.inr ⟨hwant, Or.inr ⟨F, hc, h3, rfl⟩⟩⟩⟩, h2⟩
theorem hskip_step {P : Program} {η : En} {g : G} {R : RG} {n a mf k : Nat} {o : Oper} (hw : within a mf k = false) {sd : Fm → AV → Fm} (hd : cdst n o.dst = KD.mk sd) {fr : JJ → Fm → Fm → Tr Ob → Nat → List Stg → RJ} {J : JJ} {u : Fm}
    {t : Fm} {h : Tr Ob} {nx : Nat} {hs : List Stg} {x : Xt} {t' : Fm} {h' : Tr Ob} {nx' : Nat} (hwant : wantA o R.all (mask (mens R.all o) t) = some false)
    (hr : (hskip g o sd fr).f J u t h nx hs = .c x t' h' nx') : ∃ v s1, StepOk P η g R n a mf k o ⟨t, h, nx, hs⟩ v s1 ∧ fr J u s1.t s1.h s1.nx s1.hs = .c x t' h' nx' := by
  unfold hskip at hr
  split at hr
  · rename_i hE
    exact ⟨_, ⟨sd t (.vtp []), h, nx, ⟨h, nx⟩ :: hs⟩, ⟨⟨sd, hd, rfl⟩, Or.inr ⟨hw, Or.inl ⟨hwant, rfl, rfl, rfl, by rw [if_pos hE]⟩⟩⟩, hr⟩
  · rename_i hE
    exact ⟨_, ⟨sd t (.vtp []), h, nx, hs⟩, ⟨⟨sd, hd, rfl⟩, Or.inr ⟨hw, Or.inl ⟨hwant, rfl, rfl, rfl, by rw [if_neg (by rw [hE]; exact Bool.false_ne_true)]⟩⟩⟩, hr⟩
theorem hfree_step {P : Program} {η : En} {g : G} {R : RG} {n a mf k : Nat} {o : Oper} (hw : within a mf k = true) {sd : Fm → AV → Fm} (hd : cdst n o.dst = KD.mk sd) {fr : JJ → Fm → Fm → Tr Ob → Nat → List Stg → RJ} {J : JJ} {u : Fm}
    {t : Fm} {h : Tr Ob} {nx : Nat} {hs : List Stg} {x : Xt} {t' : Fm} {h' : Tr Ob} {nx' : Nat}
    (hr : (hfree g o sd fr).f J u t h nx hs = .c x t' h' nx') : ∃ v s1, StepOk P η g R n a mf k o ⟨t, h, nx, hs⟩ v s1 ∧ fr J u s1.t s1.h s1.nx s1.hs = .c x t' h' nx' := by
  unfold hfree at hr
  split at hr
  · rename_i ty ho
    split at hr
    · cases hr
    · rename_i i hi
      split at hr
      · cases hr
      · rename_i z hz
        exact ⟨_, ⟨_, _, _, hs⟩, ⟨⟨sd, hd, rfl⟩, Or.inl ⟨hw, rfl, ty, i, z, ho, hi, hz, rfl, rfl, rfl⟩⟩, hr⟩
  · cases hr
theorem hstep_step {P : Program} {η : En} {g : G} {R : RG} {n a mf k : Nat} {o : Oper} (ok : COk P η g o (cop g o)) {r : KHr} {J : JJ} {u : Fm} (D : SndJ P η J)
    {t : Fm} {h : Tr Ob} {nx : Nat} {hs : List Stg} {x : Xt} {t' : Fm} {h' : Tr Ob} {nx' : Nat} (hr : (hstep g n R.all a mf k o r).f J u t h nx hs = .c x t' h' nx') :
    ∃ v s1, StepOk P η g R n a mf k o ⟨t, h, nx, hs⟩ v s1 ∧ r.f J u s1.t s1.h s1.nx s1.hs = .c x t' h' nx' := by
  unfold hstep at hr
  rw [KHr.eta r] at hr
  cases hd : cdst n o.dst with
  | no => rw [hd] at hr; cases hr
  | mk sd =>
    rw [hd] at hr
    have hr0 : (match within a mf k with
      | true => hfree g o sd r.f
      | false => KM.rec (motive := fun _ => KHr) (fun ms => hguard R.all o (hskip g o sd r.f) (hbase g o sd ms r.f)) (cmask (mens R.all o))).f J u t h nx hs = .c x t' h' nx' := hr
    cases hw : within a mf k with
    | true => rw [hw] at hr0; exact hfree_step hw hd hr0
    | false =>
      rw [hw] at hr0
      simp only at hr0
      rw [KM.eta (cmask (mens R.all o))] at hr0
      have hr1 : (hguard R.all o (hskip g o sd r.f) (hbase g o sd (mask (mens R.all o)) r.f)).f J u t h nx hs = .c x t' h' nx' := hr0
      unfold hguard at hr1
      split at hr1
      · rename_i hg
        exact hbase_step ok hw hd D (by unfold wantA; rw [hg]) hr1
      · rename_i j want hg
        split at hr1
        · cases hr1
        · rename_i oj hj
          split at hr1
          · cases hr1
          · rename_i d hdj
            rw [KHr.eta (hbase g o sd (mask (mens R.all o)) r.f), KHr.eta (hskip g o sd r.f)] at hr1
            have hr2 : gdF (t.at d) want ((hbase g o sd (mask (mens R.all o)) r.f).f J u t h nx hs) ((hskip g o sd r.f).f J u t h nx hs) (.er 99 o.pos) = .c x t' h' nx' := by
              rw [← hr1]
              unfold Fm.at
              generalize facc d = c
              cases c
              rfl
            have hin : (mask (mens R.all o) t).at d = t.at d := mask_in (mens_guard hg hj hdj)
            rcases gdF_eq hr2 er_ne with ⟨b, h1, h2⟩ | ⟨h1, h2⟩
            · have hwa : wantA o R.all (mask (mens R.all o) t) = some (b == want) := by
                unfold wantA
                rw [hg]; simp only [hj, hdj, hin, h1]
              rcases h2 with ⟨rfl, h2⟩ | ⟨hne, h2⟩
              · exact hbase_step ok hw hd D (by rw [hwa]; simp) h2
              · have : (b == want) = false := by cases b <;> cases want <;> first | rfl | exact absurd rfl hne
                exact hskip_step hw hd (by rw [hwa, this]) h2
            · have hwa : wantA o R.all (mask (mens R.all o) t) = some false := by
                unfold wantA
                rw [hg]; simp only [hj, hdj, hin, h1]
              exact hskip_step hw hd hwa h2
theorem hops_trace {P : Program} {η : En} {g : G} {R : RG} {n a mf : Nat} (ok : ∀ o, COk P η g o (cop g o)) {fin : KHr} {J : JJ} {u : Fm} (D : SndJ P η J) {x : Xt} {t' : Fm} {h' : Tr Ob} {nx' : Nat} :
    ∀ {l : List Oper} {k : Nat} {s : StE}, (hops g n R.all a mf fin l k).f J u s.t s.h s.nx s.hs = .c x t' h' nx' → ∃ sf, Trace P η g R n a mf k l s sf ∧ fin.f J u sf.t sf.h sf.nx sf.hs = .c x t' h' nx'
  | [], k, s, hr => ⟨s, .nil k s, hr⟩
  | o :: r, k, s, hr => by
    obtain ⟨v, s1, h1, h2⟩ := hstep_step (ok o) D hr
    obtain ⟨sf, h3, h4⟩ := hops_trace ok D h2
    exact ⟨sf, .cons k o r s s1 sf v h1 h3, h4⟩
theorem Trace.fn {P : Program} {η : En} {g : G} {R : RG} {n a mf : Nat} {k : Nat} {l : List Oper} {s sf : StE} (T : Trace P η g R n a mf k l s sf) :
    ∃ (S : Nat → StE) (V : Nat → AV), S k = s ∧ S (k + l.length) = sf ∧ ∀ i o, l[i]? = some o → StepOk P η g R n a mf (k + i) o (S (k + i)) (V (k + i)) (S (k + i + 1)) := by
  induction T with
  | nil k s => exact ⟨fun _ => s, fun _ => .vno, rfl, rfl, fun i o h => by cases h⟩
  | cons k o r s s1 sf v h1 h2 ih =>
    obtain ⟨S, V, e1, e2, e3⟩ := ih
    refine ⟨fun j => if j = k then s else S j, fun j => if j = k then v else V j, if_pos rfl, ?_, fun i p hp => ?_⟩
    · simp only [List.length_cons]
      rw [if_neg (by omega), ← e2]
      congr 1; omega
    · cases i with
      | zero =>
        cases hp
        simp only [Nat.add_zero, if_true]
        rw [if_neg (by omega), e1]
        exact h1
      | succ i =>
        dsimp only
        rw [if_neg (show ¬ (k + (i + 1) = k) by omega), if_neg (show ¬ (k + (i + 1) = k) by omega), if_neg (show ¬ (k + (i + 1) + 1 = k) by omega)]
        have := e3 i p (by simpa using hp)
        rw [show k + (i + 1) = k + 1 + i by omega]
        exact this
end Go.Proofs.YtoeeackjlclneaaGreatDoor
end
section
/-! A region in the order of its text: its effects numbered, the heaps between them, the frames. -/
namespace Go.Proofs.YtoeeackjlclneaaGreatDoor
set_option linter.unusedVariables false

theorem effsG_mem {g : G} {a mf e : Nat} : ∀ {l : List Oper} {i : Nat}, e ∈ effsG g a mf l i ↔ ∃ k o, l[k]? = some o ∧ e = i + k ∧ within a mf e = false ∧ isE (cop g o) = true
  | [], i => ⟨(fun h => by cases h), fun ⟨k, o, h, _⟩ => by cases h⟩
  | x :: r, i => by
    have ih := effsG_mem (g := g) (a := a) (mf := mf) (e := e) (l := r) (i := i + 1)
    have tail : (∃ k o, r[k]? = some o ∧ e = i + 1 + k ∧ within a mf e = false ∧ isE (cop g o) = true) → ∃ k o, (x :: r)[k]? = some o ∧ e = i + k ∧ within a mf e = false ∧ isE (cop g o) = true := fun ⟨k, o, h1, h2, h3⟩ => ⟨k + 1, o, by simpa using h1, by omega, h3⟩
    have back : (∃ k o, (x :: r)[k]? = some o ∧ e = i + k ∧ within a mf e = false ∧ isE (cop g o) = true) → (e = i ∧ within a mf e = false ∧ isE (cop g x) = true) ∨ ∃ k o, r[k]? = some o ∧ e = i + 1 + k ∧ within a mf e = false ∧ isE (cop g o) = true := fun ⟨k, o, h1, h2, h3⟩ => by
      cases k with
      | zero => cases h1; exact Or.inl ⟨h2, h3⟩
      | succ k => exact Or.inr ⟨k, o, by simpa using h1, by omega, h3⟩
    rw [effsG]
    split
    · rename_i hw
      rw [ih]
      refine ⟨tail, fun h => ?_⟩
      rcases back h with ⟨rfl, h1, -⟩ | h
      · rw [hw] at h1; cases h1
      · exact h
    · rename_i hw
      split
      · rename_i hE
        rw [List.mem_cons, ih]
        constructor
        · rintro (rfl | h)
          · exact ⟨0, x, rfl, rfl, hw, hE⟩
          · exact tail h
        · intro h
          rcases back h with ⟨rfl, -⟩ | h
          · exact Or.inl rfl
          · exact Or.inr h
      · rename_i hE
        rw [ih]
        refine ⟨tail, fun h => ?_⟩
        rcases back h with ⟨rfl, -, h1⟩ | h
        · rw [hE] at h1; cases h1
        · exact h
theorem effsG_sorted {g : G} {a mf : Nat} : ∀ (l : List Oper) (i : Nat), (effsG g a mf l i).Pairwise (· < ·)
  | [], i => .nil
  | x :: r, i => by
    rw [effsG]
    split
    · exact effsG_sorted r (i + 1)
    · split
      · refine List.pairwise_cons.2 ⟨fun e he => ?_, effsG_sorted r (i + 1)⟩
        obtain ⟨k, o, -, h2, -⟩ := effsG_mem.1 he
        omega
      · exact effsG_sorted r (i + 1)
theorem cntL_succ : ∀ {l : List Nat} {k : Nat}, l.Pairwise (· < ·) → cntL l (k + 1) = cntL l k + if k ∈ l then 1 else 0
  | [], k, _ => rfl
  | e :: r, k, h => by
    obtain ⟨h1, h2⟩ := List.pairwise_cons.1 h
    have ih := cntL_succ (l := r) (k := k) h2
    rw [cntL, cntL, bltD, bltD]
    rcases Nat.lt_trichotomy e k with hlt | heq | hgt
    · rw [decide_eq_true (by omega : e < k + 1), decide_eq_true hlt]
      simp only [ih, List.mem_cons]
      have : ¬ k = e := by omega
      simp only [this, false_or]
      omega
    · subst heq
      have hr : e ∉ r := fun he => absurd (h1 e he) (Nat.lt_irrefl _)
      rw [decide_eq_true (by omega : e < e + 1), decide_eq_false (Nat.lt_irrefl e)]
      simp only [ih, hr, if_false, List.mem_cons, true_or, if_true]
      try omega
    · rw [decide_eq_false (by omega : ¬ e < k + 1), decide_eq_false (by omega : ¬ e < k)]
      simp only [ih, List.mem_cons]
      have : ¬ k = e := by omega
      simp only [this, false_or]
theorem cntL_mono {l : List Nat} (h : l.Pairwise (· < ·)) {j : Nat} : ∀ {k : Nat}, j ≤ k → cntL l j ≤ cntL l k
  | 0, hk => by rw [Nat.le_zero.1 hk]; exact Nat.le_refl _
  | k + 1, hk => by
    rcases Nat.eq_or_lt_of_le hk with rfl | hlt
    · exact Nat.le_refl _
    · have := cntL_mono h (j := j) (k := k) (by omega)
      rw [cntL_succ h]; omega
theorem cntL_lt {l : List Nat} (h : l.Pairwise (· < ·)) {e k : Nat} (he : e ∈ l) (hk : e < k) : cntL l e < cntL l k := by
  have := cntL_mono h (j := e + 1) (k := k) hk
  rw [cntL_succ h, if_pos he] at this
  omega
theorem cntL_all : ∀ {l : List Nat} {k : Nat}, (∀ e ∈ l, e < k) → cntL l k = l.length
  | [], k, _ => rfl
  | e :: r, k, h => by
    rw [cntL, bltD, decide_eq_true (h e (List.mem_cons_self ..))]
    simp only [List.length_cons]
    rw [cntL_all fun x hx => h x (List.mem_cons_of_mem _ hx)]
theorem mayAt_iff {R : RG} {k p : Nat} : ∀ {l : List Nat} {q : Nat}, mayAt R k p l q = true ↔ ∀ i e, l[i]? = some e → (q + i < p → inM (ancAt R.A e) k = false) ∧ (¬ q + i < p → inM (ancAt R.A k) e = false)
  | [], q => ⟨(fun _ i e h => by cases h), fun _ => rfl⟩
  | x :: r, q => by
    have ih := mayAt_iff (R := R) (k := k) (p := p) (l := r) (q := q + 1)
    rw [mayAt, Bool.and_eq_true, ih]
    have first : mayOne R k p x q = true ↔ (q < p → inM (ancAt R.A x) k = false) ∧ (¬ q < p → inM (ancAt R.A k) x = false) := by
      unfold mayOne
      rw [bltD]
      by_cases hq : q < p
      · rw [decide_eq_true hq]
        simp only [Bool.not_eq_true']
        exact ⟨fun h => ⟨fun _ => h, fun h' => absurd hq h'⟩, fun h => h.1 hq⟩
      · rw [decide_eq_false hq]
        simp only [Bool.not_eq_true']
        exact ⟨fun h => ⟨fun h' => absurd h' hq, fun _ => h⟩, fun h => h.2 hq⟩
    rw [first]
    constructor
    · rintro ⟨h1, h2⟩ i e hi
      cases i with
      | zero => cases hi; simpa using h1
      | succ i =>
        have := h2 i e (by simpa using hi)
        rw [show q + (i + 1) = q + 1 + i by omega]
        exact this
    · intro h
      refine ⟨by have := h 0 x rfl; simpa using this, fun i e hi => ?_⟩
      have := h (i + 1) e (by simpa using hi)
      rw [show q + (i + 1) = q + 1 + i by omega] at this
      exact this
theorem cntL_at : ∀ {l : List Nat} {i e : Nat}, l.Pairwise (· < ·) → l[i]? = some e → cntL l e = i
  | [], i, e, _, h => by cases h
  | x :: r, i, e, hp, h => by
    obtain ⟨h1, h2⟩ := List.pairwise_cons.1 hp
    rw [cntL, bltD]
    cases i with
    | zero =>
      cases h
      rw [decide_eq_false (Nat.lt_irrefl _)]
      have : ∀ {l : List Nat}, (∀ y ∈ l, x < y) → cntL l x = 0 := by
        intro l
        induction l with
        | nil => intro _; rfl
        | cons y l ih =>
          intro hl
          rw [cntL, bltD, decide_eq_false (by have := hl y (List.mem_cons_self ..); omega)]
          exact ih fun z hz => hl z (List.mem_cons_of_mem _ hz)
      exact this h1
    | succ i =>
      have he : e ∈ r := List.mem_of_getElem? (by simpa using h)
      rw [decide_eq_true (h1 e he)]
      simp only
      rw [cntL_at h2 (by simpa using h)]
theorem needsTo_mem {R : RG} {effs : List Nat} {k c p : Nat} (hc : p ≠ c) (hm : mayAt R k p effs 0 = true) : ∀ {s : Nat}, p ≤ s → p ∈ needsTo R effs k c s
  | 0, hs => by
    have : p = 0 := Nat.le_zero.1 hs
    subst this
    rw [needsTo]
    split
    · rename_i hb; exact absurd (Nat.eq_of_beq_eq_true hb) hc
    · rw [hm]; exact List.mem_cons_self ..
  | s + 1, hs => by
    rw [needsTo]
    by_cases hps : p = s + 1
    · subst hps
      split
      · rename_i hb; exact absurd (Nat.eq_of_beq_eq_true hb) hc
      · rw [hm]; exact List.mem_cons_self ..
    · have ih := needsTo_mem hc hm (s := s) (by omega)
      split
      · exact ih
      · split
        · exact List.mem_cons_of_mem _ ih
        · exact ih
theorem allIn_mem {m : Nat} : ∀ {l : List Nat}, allIn m l = true → ∀ e ∈ l, inM m e = true
  | [], _, e, he => by cases he
  | x :: r, h, e, he => by
    rw [allIn, Bool.and_eq_true] at h
    rcases List.mem_cons.1 he with rfl | he
    · exact h.1
    · exact allIn_mem h.2 e he
theorem belowL_mem {k e : Nat} : ∀ {l : List Nat}, e ∈ l → e < k → e ∈ belowL l k
  | [], h, _ => by cases h
  | x :: r, h, hk => by
    rw [belowL, bltD]
    rcases List.mem_cons.1 h with rfl | h
    · rw [decide_eq_true hk]; exact List.mem_cons_self ..
    · have := belowL_mem h hk
      split
      · exact List.mem_cons_of_mem _ this
      · exact this
theorem rangeL_mem : ∀ {m a f : Nat}, a ≤ f → f < a + m → f ∈ rangeL a m
  | 0, a, f, h1, h2 => by omega
  | m + 1, a, f, h1, h2 => by
    rw [rangeL]
    by_cases h : f = a
    · rw [h]; exact List.mem_cons_self ..
    · exact List.mem_cons_of_mem _ (rangeL_mem (by omega) (by omega))
theorem mkWr_get {d w : Nat} : ∀ {l : List Oper} {i : Nat} {A : Tr Nat}, (mkWr l i A).get d = some w → A.get d = some w ∨ ∃ k o, l[k]? = some o ∧ o.dst = some d ∧ w = i + k
  | [], i, A, h => Or.inl h
  | o :: r, i, A, h => by
    have e : mkWr (o :: r) i A = match o.dst with | some d => mkWr r (i + 1) (A.set d i) | none => mkWr r (i + 1) A := rfl
    rw [e] at h
    have up : (∃ k o', r[k]? = some o' ∧ o'.dst = some d ∧ w = i + 1 + k) → ∃ k o', (o :: r)[k]? = some o' ∧ o'.dst = some d ∧ w = i + k := fun ⟨k, o', h1, h2, h3⟩ => ⟨k + 1, o', by simpa using h1, h2, by omega⟩
    cases hd : o.dst with
    | none =>
      rw [hd] at h
      rcases mkWr_get (l := r) h with h | h
      · exact Or.inl h
      · exact Or.inr (up h)
    | some d' =>
      rw [hd] at h
      rcases mkWr_get (l := r) h with h | h
      · rw [Tr.get_set] at h
        by_cases hdd : d = d'
        · rw [if_pos hdd] at h
          cases h
          exact Or.inr ⟨0, o, rfl, by rw [hd, hdd], rfl⟩
        · rw [if_neg hdd] at h; exact Or.inl h
      · exact Or.inr (up h)

theorem notW {a mf k : Nat} (h : k < a ∨ a + mf ≤ k) : within a mf k = false := by
  cases hw : within a mf k
  · rfl
  · obtain ⟨h1, h2⟩ := within_yes hw; omega
/-- All that is known of a region that was run in the order of its text. -/
structure DC (P : Program) (η : En) (g : G) (R : RG) (n a mf : Nat) (effs : List Nat) (S : Nat → StE) (V : Nat → AV) (t0 : Fm) (h0 : Tr Ob) (nx0 : Nat) : Prop where
  gk : RGok R n
  W : ∀ d w, R.W.get d = some w → ∃ o, R.all[w]? = some o ∧ o.dst = some d
  le : a + mf ≤ R.all.length
  fr : mf = 0 ∨ cntL effs a < effs.length
  ef : effs = effsG g a mf R.all 0
  st : ∀ k o, R.all[k]? = some o → StepOk P η g R n a mf k o (S k) (V k) (S (k + 1))
  op : ∀ k o, R.all[k]? = some o → opOk g R effs a mf k o = true
  lk : ∀ k o, R.all[k]? = some o → lookO g R effs k o t0 (S R.all.length).t (S R.all.length).hs = true
  s0 : S 0 = ⟨t0, h0, nx0, [⟨h0, nx0⟩]⟩
section
variable {P : Program} {η : En} {g : G} {R : RG} {n a mf : Nat} {effs : List Nat} {S : Nat → StE} {V : Nat → AV} {t0 : Fm} {h0 : Tr Ob} {nx0 : Nat} (C : DC P η g R n a mf effs S V t0 h0 nx0)
include C
theorem DC.sorted : effs.Pairwise (· < ·) := by rw [C.ef]; exact effsG_sorted _ _
theorem DC.mem {k : Nat} : k ∈ effs ↔ ∃ o, R.all[k]? = some o ∧ within a mf k = false ∧ isE (cop g o) = true := by
  rw [C.ef, effsG_mem]
  constructor
  · rintro ⟨j, o, h1, h2, h3⟩
    have : k = j := by omega
    subst this
    exact ⟨o, h1, h3⟩
  · rintro ⟨o, h1, h2⟩; exact ⟨k, o, h1, by omega, h2⟩
/-- What a step does to the stages, and to the heap. -/
theorem DC.hs {k : Nat} {o : Oper} (ho : R.all[k]? = some o) : (k ∈ effs → (S (k + 1)).hs = ⟨(S (k + 1)).h, (S (k + 1)).nx⟩ :: (S k).hs) ∧ (k ∉ effs → (S (k + 1)).hs = (S k).hs) ∧
    (k ∉ effs → within a mf k = false → (S (k + 1)).h = (S k).h ∧ (S (k + 1)).nx = (S k).nx) := by
  have s := (C.st k o ho).way
  have hm : k ∈ effs ↔ within a mf k = false ∧ isE (cop g o) = true := by
    rw [C.mem]
    constructor
    · rintro ⟨o', h1, h2⟩; rw [ho] at h1; cases h1; exact h2
    · intro h; exact ⟨o, ho, h⟩
  rcases s with ⟨hw, hs, -⟩ | ⟨hw, ⟨-, -, h1, h2, h3⟩ | ⟨-, ⟨Vv, hc, -, -, h1, h2, h3⟩ | ⟨F, hc, -, h3⟩⟩⟩
  · have hn : k ∉ effs := fun h => by rw [(hm.1 h).1] at hw; cases hw
    exact ⟨fun h => absurd h hn, fun _ => hs, fun _ h => by rw [hw] at h; cases h⟩
  · cases hE : isE (cop g o)
    · have hn : k ∉ effs := fun h => by rw [(hm.1 h).2] at hE; cases hE
      rw [hE, if_neg Bool.false_ne_true] at h3
      exact ⟨fun h => absurd h hn, fun _ => h3, fun _ _ => ⟨h1, h2⟩⟩
    · have hy : k ∈ effs := hm.2 ⟨hw, hE⟩
      rw [hE, if_pos rfl] at h3
      exact ⟨fun _ => by rw [h3, h1, h2], fun h => absurd hy h, fun h => absurd hy h⟩
  · have hn : k ∉ effs := fun h => by have := (hm.1 h).2; rw [hc] at this; cases this
    exact ⟨fun h => absurd h hn, fun _ => h3, fun _ _ => ⟨h1, h2⟩⟩
  · have hy : k ∈ effs := hm.2 ⟨hw, by rw [hc]; rfl⟩
    exact ⟨fun _ => h3, fun h => absurd hy h, fun h => absurd hy h⟩
theorem DC.len : ∀ {k : Nat}, k ≤ R.all.length → (S k).hs.length = cntL effs k + 1
  | 0, _ => by
    have : cntL effs 0 = 0 := by
      have : ∀ l : List Nat, cntL l 0 = 0 := fun l => by
        induction l with
        | nil => rfl
        | cons e r ih => rw [cntL, bltD, decide_eq_false (Nat.not_lt_zero e)]; exact ih
      exact this effs
    rw [C.s0, this]; rfl
  | k + 1, hk => by
    have ih := DC.len (k := k) (by omega)
    obtain ⟨h1, h2, -⟩ := C.hs (List.getElem?_eq_getElem (show k < R.all.length by omega))
    rw [cntL_succ C.sorted]
    by_cases hm : k ∈ effs
    · rw [h1 hm, if_pos hm]; simp only [List.length_cons, ih]
    · rw [h2 hm, if_neg hm, ih]
theorem DC.pre {k : Nat} : ∀ {d : Nat}, k + d ≤ R.all.length → ∃ l, (S (k + d)).hs = l ++ (S k).hs
  | 0, _ => ⟨[], rfl⟩
  | d + 1, hk => by
    obtain ⟨l, hl⟩ := DC.pre (k := k) (d := d) (by omega)
    obtain ⟨h1, h2, -⟩ := C.hs (k := k + d) (List.getElem?_eq_getElem (show k + d < R.all.length by omega))
    by_cases hm : k + d ∈ effs
    · exact ⟨_ :: l, by rw [show k + (d + 1) = k + d + 1 by omega, h1 hm, hl]; rfl⟩
    · exact ⟨l, by rw [show k + (d + 1) = k + d + 1 by omega, h2 hm, hl]⟩
/-- The heap behind so many effects. -/
theorem DC.stage {k p : Nat} (hk : k ≤ R.all.length) (hp : p ≤ cntL effs k) : (S R.all.length).hs[cntL effs R.all.length - p]? = (S k).hs[cntL effs k - p]? := by
  obtain ⟨l, hl⟩ := C.pre (k := k) (d := R.all.length - k) (by omega)
  rw [show k + (R.all.length - k) = R.all.length by omega] at hl
  have h1 := C.len (Nat.le_refl R.all.length)
  have h2 := C.len hk
  rw [hl, List.length_append, h2] at h1
  have hm := cntL_mono C.sorted hk
  rw [hl, List.getElem?_append_right (by omega)]
  congr 1; omega
theorem DC.noE {k : Nat} (h1 : a ≤ k) (h2 : k < a + mf) : k ∉ effs := fun h => by
  obtain ⟨o, -, hw, -⟩ := C.mem.1 h
  rcases within_no hw with h | h <;> omega
theorem DC.cntF : ∀ {j : Nat}, j ≤ mf → cntL effs (a + j) = cntL effs a
  | 0, _ => rfl
  | j + 1, hj => by
    rw [show a + (j + 1) = a + j + 1 by omega, cntL_succ C.sorted, if_neg (C.noE (by omega) (by omega)), DC.cntF (j := j) (by omega)]
    omega
/-- Ahead of the free new blocks the heap is that behind the last effect. -/
theorem DC.heapA : ∀ {k : Nat}, k ≤ a → (S k).hs[0]? = some ⟨(S k).h, (S k).nx⟩
  | 0, _ => by rw [C.s0]; rfl
  | k + 1, hk => by
    have ih := DC.heapA (k := k) (by omega)
    have hle := C.le
    obtain ⟨h1, h2, h3⟩ := C.hs (List.getElem?_eq_getElem (show k < R.all.length by omega))
    by_cases hm : k ∈ effs
    · rw [h1 hm]; rfl
    · obtain ⟨e1, e2⟩ := h3 hm (notW (by omega))
      rw [h2 hm, e1, e2]; exact ih
theorem DC.heapB : ∀ {d : Nat}, a + mf + d ≤ R.all.length → (cntL effs (a + mf + d) = cntL effs a ∧ (S (a + mf + d)).h = (S (a + mf)).h ∧ (S (a + mf + d)).nx = (S (a + mf)).nx) ∨
    (cntL effs a < cntL effs (a + mf + d) ∧ (S (a + mf + d)).hs[0]? = some ⟨(S (a + mf + d)).h, (S (a + mf + d)).nx⟩)
  | 0, _ => Or.inl ⟨C.cntF (Nat.le_refl _), rfl, rfl⟩
  | d + 1, hd => by
    have ih := DC.heapB (d := d) (by omega)
    obtain ⟨h1, h2, h3⟩ := C.hs (k := a + mf + d) (List.getElem?_eq_getElem (show a + mf + d < R.all.length by omega))
    rw [show a + mf + (d + 1) = a + mf + d + 1 by omega]
    have hc := cntL_succ C.sorted (k := a + mf + d)
    by_cases hm : a + mf + d ∈ effs
    · rw [if_pos hm] at hc
      refine Or.inr ⟨?_, by rw [h1 hm]; rfl⟩
      rcases ih with ⟨e, -⟩ | ⟨e, -⟩ <;> omega
    · rw [if_neg hm] at hc
      obtain ⟨e1, e2⟩ := h3 hm (notW (by omega))
      rcases ih with ⟨i1, i2, i3⟩ | ⟨i1, i2⟩
      · exact Or.inl ⟨by omega, by rw [e1, i2], by rw [e2, i3]⟩
      · exact Or.inr ⟨by omega, by rw [h2 hm, e1, e2]; exact i2⟩
/-- The frames on the way. -/
theorem DC.frame : ∀ {k : Nat}, k ≤ R.all.length → ∀ d, (∀ w, R.W.get d = some w → w < k → (S k).t.at d = V w) ∧ ((∀ w, R.W.get d = some w → k ≤ w) → (S k).t.at d = t0.at d)
  | 0, _, d => by rw [C.s0]; exact ⟨fun w _ h => absurd h (Nat.not_lt_zero _), fun _ => rfl⟩
  | k + 1, hk, d => by
    obtain ⟨ih1, ih2⟩ := DC.frame (k := k) (by omega) d
    have hkl : k < R.all.length := by omega
    have ho : R.all[k]? = some R.all[k] := List.getElem?_eq_getElem hkl
    obtain ⟨sd, hsd, ht⟩ := (C.st k _ ho).put
    rw [ht]
    unfold cdst at hsd
    cases hd : R.all[k].dst with
    | none =>
      rw [hd] at hsd
      cases hsd
      have hne : ∀ w, R.W.get d = some w → w ≠ k := fun w hw e => by
        obtain ⟨o', h1, h2⟩ := C.W d w hw
        subst e
        rw [ho] at h1; cases h1
        rw [hd] at h2; cases h2
      exact ⟨fun w hw hlt => ih1 w hw (by have := hne w hw; omega), fun h => ih2 fun w hw => by have := h w hw; omega⟩
    | some d' =>
      rw [hd] at hsd
      obtain ⟨hW, hdn, hd256⟩ := C.gk.dst k _ d' ho hd
      have hb : Nat.blt d' n = true := by rw [bltD]; exact decide_eq_true hdn
      simp only [hb] at hsd
      have e : sd (S k).t (V k) = (S k).t.put d' (V k) := by
        unfold Fm.put
        generalize facc d' = c at hsd
        cases c
        cases hsd
        rfl
      rw [e]
      by_cases hdd : d = d'
      · subst hdd
        rw [Fm.at_put_lt _ hd256]
        refine ⟨fun w hw hlt => by rw [hW] at hw; cases hw; rfl, fun h => by have := h k hW; omega⟩
      · rw [Fm.at_put_ne _ _ hdd]
        have hne : ∀ w, R.W.get d = some w → w ≠ k := fun w hw e => by
          obtain ⟨o', h1, h2⟩ := C.W d w hw
          subst e
          rw [ho] at h1; cases h1
          rw [hd] at h2; cases h2
          exact hdd rfl
        exact ⟨fun w hw hlt => ih1 w hw (by have := hne w hw; omega), fun h => ih2 fun w hw => by have := h w hw; omega⟩
end
end Go.Proofs.YtoeeackjlclneaaGreatDoor
end
section
/-! A region that comes up in any order: what holds at each point. -/
namespace Go.Proofs.YtoeeackjlclneaaGreatDoor
set_option linter.unusedVariables false

theorem anc_mem {R : RG} {n : Nat} (G : RGok R n) {listed : Array Bool} (hs : listed.size = R.all.length) (hc : ∀ i o, listed.getD i false = true → R.all[i]? = some o → ∀ e ∈ o.after, Region.binds .any e = true → listed.getD e.on false = true) :
    ∀ (k i : Nat), i < k → listed.getD i false = true → ∀ m, inM (ancAt R.A i) m = true → listed.getD m false = true
  | 0, i, hi, _, _, _ => by omega
  | k + 1, i, hi, hl, m, hm => by
    have hlt : i < listed.size := by
      rcases Nat.lt_or_ge i listed.size with h | h
      · exact h
      · rw [Array.getD_eq_getD_getElem?, Array.getElem?_eq_none h] at hl; cases hl
    have ho : R.all[i]? = some R.all[i] := List.getElem?_eq_getElem (by omega)
    obtain ⟨e, he, hb, h1⟩ := G.anc i _ ho m hm
    have h2 := hc i _ hl ho e he hb
    rcases h1 with rfl | h1
    · exact h2
    · exact anc_mem G hs hc k e.on (by have := G.lt i _ ho e he hb; omega) h2 m h1
theorem put_same {a : Act} {d : Nat} {v : Value} (h : d < a.tmps.size) : (a.put (some d) v).tmps.getD d undef = v := by simp [Act.put, h]
theorem put_other {a : Act} {dst : Option Nat} {d : Nat} {v : Value} (h : dst ≠ some d) : (a.put dst v).tmps.getD d undef = a.tmps.getD d undef := by
  cases dst with
  | none => rfl
  | some d' =>
    have hne : d' ≠ d := fun e => h (by rw [e])
    simp [Act.put, Array.getElem?_setIfInBounds_ne hne]
theorem put_size {a : Act} {dst : Option Nat} {v : Value} : (a.put dst v).tmps.size = a.tmps.size := by
  cases dst <;> simp [Act.put]
theorem put_defs {a : Act} {dst : Option Nat} {v : Value} : (a.put dst v).defers = a.defers := by
  cases dst <;> rfl
theorem alloc_old {w : World} {ob : Obj} {B : Nat} (h : B < w.heap.size) : (w.alloc ob).heap[B]? = w.heap[B]? := by
  show (w.heap.push ob)[B]? = _; simp [Array.getElem?_push, Nat.ne_of_lt h]
theorem alloc_new {w : World} {ob : Obj} : (w.alloc ob).heap[w.heap.size]? = some ob := by
  show (w.heap.push ob)[w.heap.size]? = _; simp
theorem alloc_size {w : World} {ob : Obj} : (w.alloc ob).heap.size = w.heap.size + 1 := by
  show (w.heap.push ob).size = _; simp
/-- A block that nobody names comes up. -/
theorem HR.grow {η : En} {ν : Nu} {h : Tr Ob} {w : World} (H : HR η ν h w) (ob : Obj) : HR η ν h (w.alloc ob) := by
  refine ⟨fun b o hg => ?_, H.inj, ⟨by have := H.base.low; rw [alloc_size]; omega, fun k hk => (alloc_old (Nat.lt_of_lt_of_le hk H.base.low)).trans (H.base.old k hk), H.base.far⟩⟩
  obtain ⟨q, ob', e1, e2, e3⟩ := H.at_ b o hg
  exact ⟨q, ob', e1, by rw [alloc_old (lt_of_some e2)]; exact e2, e3⟩
/-- A block that stands there gets a name. -/
theorem HR.add {η : En} {ν : Nu} {h : Tr Ob} {w : World} {nx : Nat} (H : HR η ν h w) (X : Nx ν nx) {q : Loc} {ob : Obj} {o : Ob} (hb : w.heap[q.b]? = some ob) (ho : ∀ ν', orel η ν' o q ob) (hi : ¬ Img ν h q.b) (hB : η.w0.heap.size ≤ q.b) :
    HR η (ν.put nx q) (h.set nx o) w ∧ Nx (ν.put nx q) (nx + 1) ∧ ν.le (ν.put nx q) ∧ ∀ C, Img (ν.put nx q) (h.set nx o) C → C = q.b ∨ Img ν h C := by
  have hle : ν.le (ν.put nx q) := Nu.le_put (X nx (Nat.le_refl _))
  have hput : ∀ b, b ≠ nx → (ν.put nx q) b = ν b := fun b hb => if_neg hb
  have hn : (ν.put nx q) nx = some q := if_pos rfl
  refine ⟨⟨fun b x hg => ?_, fun b b' x x' r r' hg hg' hd hd' he he' hq => ?_, ⟨H.base.low, H.base.old, fun b x r hg hd he => ?_⟩⟩, fun b hb => by rw [hput b (by omega)]; exact X b (by omega), hle, fun C hC => ?_⟩
  · rw [Tr.get_set] at hg
    by_cases hbn : b = nx
    · rw [if_pos hbn] at hg
      cases hg
      subst hbn
      exact ⟨_, ob, hn, hb, ho _⟩
    · rw [if_neg hbn] at hg
      obtain ⟨r, ob', e1, e2, e3⟩ := H.at_ b x hg
      exact ⟨r, ob', hle _ _ e1, e2, orel_mono hle e3⟩
  · rw [Tr.get_set] at hg hg'
    by_cases hbn : b = nx
    · by_cases hbn' : b' = nx
      · rw [hbn, hbn']
      · rw [if_neg hbn'] at hg'
        rw [hput b' hbn'] at he'
        subst hbn
        rw [hn] at he
        cases he
        exact absurd ⟨b', x', r', hg', hd', he', hq.symm⟩ hi
    · rw [if_neg hbn] at hg
      rw [hput b hbn] at he
      by_cases hbn' : b' = nx
      · subst hbn'
        rw [hn] at he'
        cases he'
        exact absurd ⟨b, x, r, hg, hd, he, hq⟩ hi
      · rw [if_neg hbn'] at hg'
        rw [hput b' hbn'] at he'
        exact H.inj b b' x x' r r' hg hg' hd hd' he he' hq
  · rw [Tr.get_set] at hg
    by_cases hbn : b = nx
    · subst hbn
      rw [hn] at he
      cases he
      exact hB
    · rw [if_neg hbn] at hg
      rw [hput b hbn] at he
      exact H.base.far b x r hg hd he
  · obtain ⟨b, x, r, hg, hd, he, hq⟩ := hC
    rw [Tr.get_set] at hg
    by_cases hbn : b = nx
    · subst hbn
      rw [hn] at he
      cases he
      exact Or.inl hq.symm
    · rw [if_neg hbn] at hg
      rw [hput b hbn] at he
      exact Or.inr ⟨b, x, r, hg, hd, he, hq⟩

def ZeroOf (g : G) (R : RG) (f : Nat) (z : List AV) : Prop := ∃ o ty i, R.all[f]? = some o ∧ o.op = .alloc ty ∧ tiOf g.tt ty = some i ∧ i.zero = some z
/-- A free new block, not named yet. -/
structure FrB (η : En) (g : G) (R : RG) (ν : Nu) (h : Tr Ob) (w0 w : World) (tm : Array Value) (f B : Nat) : Prop where
  new : w0.heap.size ≤ B ∧ η.w0.heap.size ≤ B
  out : ¬ Img ν h B
  blk : ∃ z N ob, ZeroOf g R f z ∧ w.heap[B]? = some ob ∧ ∀ ν', orel η ν' (.oc z false) ⟨B, 0, N⟩ ob
  tmp : ∀ o d, R.all[f]? = some o → o.dst = some d → tm.getD d undef = .pointer (some ⟨B, 0, none⟩)
/-- The temporaries. -/
def Tm (η : En) (ν : Nu) (R : RG) (V : Nat → AV) (t0 : Fm) (a mf : Nat) (b : Bool) (ls : Nat → Bool) (tm : Array Value) : Prop :=
  ∀ d, (∀ w, R.W.get d = some w → ls w = true → (b = true ∨ within a mf w = false) → wrel η ν (V w) (tm.getD d undef)) ∧ ((∀ w, R.W.get d = some w → ls w = false) → wrel η ν (t0.at d) (tm.getD d undef))
structure Core (η : En) (g : G) (R : RG) (V : Nat → AV) (t0 : Fm) (a mf : Nat) (ν0 : Nu) (h0 : Tr Ob) (w0 : World) (b : Bool) (ls : Nat → Bool) (tm : Array Value) (w : World) (ν : Nu) (h : Tr Ob) (nx : Nat) : Prop where
  H : HR η ν h w
  X : Nx ν nx
  F : Fr ν0 h0 w0 ν h w
  tms : Tm η ν R V t0 a mf b ls tm
  nm : b = true → ∀ f, within a mf f = true → ls f = true
  un : b = false → (∀ k, a + mf ≤ k → ls k = false) ∧ ∃ Bf : Nat → Nat, (∀ f, within a mf f = true → ls f = true → FrB η g R ν h w0 w tm f (Bf f)) ∧
    ∀ f f', within a mf f = true → within a mf f' = true → ls f = true → ls f' = true → Bf f = Bf f' → f = f'
def lsPut (ls : Nat → Bool) (i : Nat) : Nat → Bool := fun k => if k = i then true else ls k
section
variable {P : Program} {η : En} {g : G} {R : RG} {n a mf : Nat} {effs : List Nat} {S : Nat → StE} {V : Nat → AV} {t0 : Fm} {h0 : Tr Ob} {nx0 : Nat} (C : DC P η g R n a mf effs S V t0 h0 nx0)
  {ν0 : Nu} {w0 : World}
include C
theorem DC.wr {i d : Nat} {o : Oper} (ho : R.all[i]? = some o) : o.dst = some d ↔ R.W.get d = some i := by
  constructor
  · intro h; exact (C.gk.dst i o d ho h).1
  · intro h
    obtain ⟨o', h1, h2⟩ := C.W d i h
    rw [ho] at h1; cases h1; exact h2
theorem Core.tmPut {ν ν1 : Nu} (hle : ν.le ν1) {b : Bool} {ls : Nat → Bool} {act : Act} (hn : act.tmps.size = n) (K : Tm η ν R V t0 a mf b ls act.tmps) {i : Nat} {o : Oper} (ho : R.all[i]? = some o) {v : Value} (hv : (∀ d, o.dst = some d → wrel η ν1 (V i) v) ∨ (within a mf i = true ∧ b = false)) :
    Tm η ν1 R V t0 a mf b (lsPut ls i) (act.put o.dst v).tmps := by
  intro d
  obtain ⟨c1, c2⟩ := K d
  constructor
  · intro w hw hl hN
    by_cases hwi : w = i
    · subst hwi
      have hd := (C.wr ho).2 hw
      rcases hv with hv | ⟨h1, h2⟩
      · rw [hd, put_same (by rw [hn]; exact (C.gk.dst w o d ho hd).2.1)]; exact hv d hd
      · rcases hN with hN | hN
        · rw [h2] at hN; cases hN
        · rw [h1] at hN; cases hN
    · have hne : o.dst ≠ some d := fun e => by
        have := (C.wr ho).1 e
        rw [hw] at this
        exact hwi (Option.some.inj this)
      rw [put_other hne]
      have hl' : ls w = true := by
        have h2 : (if w = i then true else ls w) = true := hl
        rwa [if_neg hwi] at h2
      exact wrel_mono hle (c1 w hw hl' hN)
  · intro hall
    have hne : o.dst ≠ some d := fun e => by
      have := hall i ((C.wr ho).1 e)
      have h2 : (if i = i then true else ls i) = false := this
      rw [if_pos rfl] at h2; cases h2
    rw [put_other hne]
    refine wrel_mono hle (c2 fun w hw => ?_)
    have hwi : w ≠ i := fun e => by subst e; exact hne ((C.wr ho).2 hw)
    have h2 : (if w = i then true else ls w) = false := hall w hw
    rwa [if_neg hwi] at h2
theorem FrB.keep {ν ν1 : Nu} {h h1 : Tr Ob} {w w1 : World} {act : Act} {f B : Nat} (K : FrB η g R ν h w0 w act.tmps f B) (F1 : Fr ν h w ν1 h1 w1) {i : Nat} {o : Oper} (ho : R.all[i]? = some o) (hif : i ≠ f) {v : Value} :
    FrB η g R ν1 h1 w0 w1 (act.put o.dst v).tmps f B := by
  obtain ⟨z, N, ob, hz, hb, hor⟩ := K.blk
  have hlt := lt_of_some hb
  refine ⟨K.new, fun hi => K.out (F1.img B hlt hi), ⟨z, N, ob, hz, by rw [F1.keep B hlt K.out]; exact hb, hor⟩, fun o' d ho' hd' => ?_⟩
  have hne : o.dst ≠ some d := fun e => by
    have h1 := (C.wr ho).1 e
    have h2 := (C.wr ho').1 hd'
    rw [h1] at h2
    exact hif (Option.some.inj h2)
  rw [put_other hne]
  exact K.tmp o' d ho' hd'
/-- An operation that is no free new block. -/
theorem Core.put {b : Bool} {ls : Nat → Bool} {act : Act} {w w1 : World} {ν ν1 : Nu} {h h1 : Tr Ob} {nx nx1 : Nat} (hn : act.tmps.size = n) (K : Core η g R V t0 a mf ν0 h0 w0 b ls act.tmps w ν h nx) {i : Nat} {o : Oper} (ho : R.all[i]? = some o)
    (hw : within a mf i = false) (hb : b = true ∨ i < a) {v : Value} (hv : ∀ d, o.dst = some d → wrel η ν1 (V i) v) (H1 : HR η ν1 h1 w1) (X1 : Nx ν1 nx1) (F1 : Fr ν h w ν1 h1 w1) :
    Core η g R V t0 a mf ν0 h0 w0 b (lsPut ls i) (act.put o.dst v).tmps w1 ν1 h1 nx1 := by
  refine ⟨H1, X1, K.F.trans F1, Core.tmPut C F1.le hn K.tms ho (Or.inl hv), fun e f hf => ?_, fun e => ?_⟩
  · have := K.nm e f hf
    show (if f = i then true else ls f) = true
    split
    · rfl
    · exact this
  · obtain ⟨u1, Bf, u2, u3⟩ := K.un e
    have hia : i < a := by
      rcases hb with hb | hb
      · rw [e] at hb; cases hb
      · exact hb
    have hf : ∀ f, within a mf f = true → lsPut ls i f = ls f := fun f hf => if_neg (fun e => by obtain ⟨h1, -⟩ := within_yes hf; omega)
    refine ⟨fun k hk => ?_, Bf, fun f hf1 hf2 => ?_, fun f f' hf1 hf1' hf2 hf2' => ?_⟩
    · show (if k = i then true else ls k) = false
      rw [if_neg (by omega)]; exact u1 k hk
    · rw [hf f hf1] at hf2
      exact FrB.keep C (i := i) (u2 f hf1 hf2) F1 ho (fun e => by obtain ⟨h1, -⟩ := within_yes hf1; omega)
    · rw [hf f hf1] at hf2
      rw [hf f' hf1'] at hf2'
      exact u3 f f' hf1 hf1' hf2 hf2'
/-- A free new block. -/
theorem Core.free (T : TabE P g.tt g.ff) {ls : Nat → Bool} {act : Act} {w : World} {ν : Nu} {h : Tr Ob} {nx : Nat} (hn : act.tmps.size = n) (K : Core η g R V t0 a mf ν0 h0 w0 false ls act.tmps w ν h nx) {i : Nat} {o : Oper} (ho : R.all[i]? = some o)
    (hw : within a mf i = true) {ty : Nat} {ti : TI} {z : List AV} (h1 : o.op = .alloc ty) (h2 : tiOf g.tt ty = some ti) (h3 : ti.zero = some z) :
    ∃ v w1, (execOp act.eval o).run P w = .ok (.value v) w1 ∧ Core η g R V t0 a mf ν0 h0 w0 false (lsPut ls i) (act.put o.dst v).tmps w1 ν h nx := by
  obtain ⟨zv, e1, -⟩ := (tiOf_ok T h2).zero (P := P) h3 η ν w
  have e2 : ∀ ν', vrels η ν' z zv.cells.toList := fun ν' => by
    obtain ⟨zv', e1', e2'⟩ := (tiOf_ok T h2).zero (P := P) h3 η ν' w
    rw [e1] at e1'
    cases e1'
    exact e2'
  have run : (execOp act.eval o).run P w = .ok (.value (.pointer (some ⟨w.heap.size, 0, none⟩))) (w.alloc (.cells zv.cells.toList.toArray ty)) := by
    obtain ⟨dst, op, ty0, pos, after, guard⟩ := o
    simp only at h1
    subst h1
    unfold execOp
    simp [Instr.alloc, e1, newVar, run_newRow]
  refine ⟨_, _, run, K.H.grow _, K.X, ⟨K.F.le, by rw [alloc_size]; have := K.F.size; omega, fun B hB hi => ?_, K.F.img, Oth.trans K.F.oth ⟨rfl, rfl, rfl⟩⟩, Core.tmPut C (Nu.le_refl _) hn K.tms ho (Or.inr ⟨hw, rfl⟩), (fun e => by cases e), fun _ => ?_⟩
  · rw [alloc_old (Nat.lt_of_lt_of_le hB K.F.size)]; exact K.F.keep B hB hi
  · obtain ⟨u1, Bf, u2, u3⟩ := K.un rfl
    have hlt : ∀ f, within a mf f = true → ls f = true → Bf f < w.heap.size := fun f hf hl => by
      obtain ⟨-, -, ob, -, hb, -⟩ := (u2 f hf hl).blk
      exact lt_of_some hb
    have hls : ∀ f, f ≠ i → lsPut ls i f = ls f := fun f hf => if_neg hf
    refine ⟨fun k hk => ?_, fun f => if f = i then w.heap.size else Bf f, fun f hf1 hf2 => ?_, fun f f' hf1 hf1' hf2 hf2' he => ?_⟩
    · obtain ⟨-, h5⟩ := within_yes hw
      rw [hls k (by omega)]; exact u1 k hk
    · dsimp only
      by_cases hfi : f = i
      · subst hfi
        rw [if_pos rfl]
        refine ⟨⟨K.F.size, K.H.base.low⟩, fun hi => ?_, ⟨z, zv.cells.toList.length, _, ⟨o, ty, ti, ho, h1, h2, h3⟩, alloc_new, fun ν' => ?_⟩, fun o' d ho' hd' => ?_⟩
        · obtain ⟨b, x, q, hg, hd, he, hq⟩ := hi
          have := K.H.lt hg he
          omega
        · exact orel_row (e2 ν') _ _
        · rw [ho] at ho'; cases ho'
          rw [hd', put_same (by rw [hn]; exact (C.gk.dst f o d ho hd').2.1)]
      · rw [if_neg hfi]
        rw [hls f hfi] at hf2
        have fb := u2 f hf1 hf2
        obtain ⟨z', N', ob', hz', hb', hor'⟩ := fb.blk
        refine ⟨fb.new, fb.out, ⟨z', N', ob', hz', by rw [alloc_old (lt_of_some hb')]; exact hb', hor'⟩, fun o' d ho' hd' => ?_⟩
        have hne : o.dst ≠ some d := fun e => by
          have h1 := (C.wr ho).1 e
          have h2 := (C.wr ho').1 hd'
          rw [h1] at h2
          exact hfi (Option.some.inj h2).symm
        rw [put_other hne]
        exact fb.tmp o' d ho' hd'
    · simp only at he
      by_cases hfi : f = i
      · by_cases hfi' : f' = i
        · rw [hfi, hfi']
        · rw [if_pos hfi, if_neg hfi'] at he
          rw [hls f' hfi'] at hf2'
          have := hlt f' hf1' hf2'
          omega
      · rw [if_neg hfi] at he
        rw [hls f hfi] at hf2
        have h5 := hlt f hf1 hf2
        by_cases hfi' : f' = i
        · rw [if_pos hfi'] at he; omega
        · rw [if_neg hfi'] at he
          rw [hls f' hfi'] at hf2'
          exact u3 f f' hf1 hf1' hf2 hf2' he
/-- All free new blocks get their names. -/
theorem Core.name {ls : Nat → Bool} {tm : Array Value} {w : World} {ν : Nu} (K : Core η g R V t0 a mf ν0 h0 w0 false ls tm w ν (S a).h (S a).nx) (hall : ∀ f, within a mf f = true → ls f = true) :
    ∃ ν', Core η g R V t0 a mf ν0 h0 w0 true ls tm w ν' (S (a + mf)).h (S (a + mf)).nx := by
  obtain ⟨-, Bf, u2, u3⟩ := K.un rfl
  have hw : ∀ j, j < mf → within a mf (a + j) = true := fun j hj => by
    unfold within
    rw [Nat.ble_eq_true_of_le (Nat.le_add_right _ _), bltD, decide_eq_true (by omega)]; rfl
  have key : ∀ j, j ≤ mf → ∃ ν', ν.le ν' ∧ HR η ν' (S (a + j)).h w ∧ Nx ν' (S (a + j)).nx ∧ (∀ B, Img ν' (S (a + j)).h B → (∃ i, i < j ∧ B = Bf (a + i)) ∨ Img ν (S a).h B) ∧ ∀ i, i < j → ∀ o d, R.all[a + i]? = some o → o.dst = some d → vrel η ν' (V (a + i)) (tm.getD d undef) := by
    intro j
    induction j with
    | zero => intro _; exact ⟨ν, Nu.le_refl _, K.H, K.X, fun B h => Or.inr h, fun i hi => by omega⟩
    | succ j ih =>
      intro hj
      obtain ⟨ν1, l1, l2, l3, l4, l5⟩ := ih (by omega)
      have hlt : a + j < R.all.length := by have := C.le; omega
      have ho : R.all[a + j]? = some R.all[a + j] := List.getElem?_eq_getElem hlt
      have fb := u2 (a + j) (hw j (by omega)) (hall _ (hw j (by omega)))
      obtain ⟨z, N, ob, ⟨o', ty', i', z1, z2, z3, z4⟩, hb, hor⟩ := fb.blk
      rcases (C.st _ _ ho).way with ⟨-, -, ty, i, z', y1, y2, y3, y4, y5, y6⟩ | ⟨hno, -⟩
      · rw [ho] at z1; cases z1
        rw [y1] at z2; cases z2
        rw [y2] at z3; cases z3
        rw [y3] at z4; cases z4
        have hout : ¬ Img ν1 (S (a + j)).h (Bf (a + j)) := fun hi => by
          rcases l4 _ hi with ⟨i, hi1, hi2⟩ | hi
          · have := u3 (a + j) (a + i) (hw j (by omega)) (hw i (by omega)) (hall _ (hw j (by omega))) (hall _ (hw i (by omega))) hi2
            omega
          · exact fb.out hi
        obtain ⟨m1, m2, m3, m4⟩ := HR.add l2 l3 hb hor hout fb.new.2
        refine ⟨ν1.put (S (a + j)).nx ⟨Bf (a + j), 0, N⟩, Nu.le_trans l1 m3, ?_, ?_, fun B hB => ?_, fun i hi o d ho' hd' => ?_⟩
        · rw [show a + (j + 1) = a + j + 1 by omega, y5]; exact m1
        · rw [show a + (j + 1) = a + j + 1 by omega, y6]; exact m2
        · rw [show a + (j + 1) = a + j + 1 by omega, y5] at hB
          rcases m4 B hB with h | h
          · exact Or.inl ⟨j, Nat.lt_succ_self _, h⟩
          · rcases l4 B h with ⟨i, hi1, hi2⟩ | h
            · exact Or.inl ⟨i, by omega, hi2⟩
            · exact Or.inr h
        · by_cases hij : i = j
          · subst hij
            rw [fb.tmp o d ho' hd', y4, vrel]
            exact ⟨⟨Bf (a + i), 0, N⟩, if_pos rfl, rfl⟩
          · exact vrel_mono m3 _ _ (l5 i (by omega) o d ho' hd')
      · rw [hw j (by omega)] at hno; cases hno
  obtain ⟨ν', l1, l2, l3, l4, l5⟩ := key mf (Nat.le_refl _)
  refine ⟨ν', l2, l3, ⟨Nu.le_trans K.F.le l1, K.F.size, K.F.keep, fun B hB hi => ?_, K.F.oth⟩, fun d => ?_, fun _ => hall, (fun e => by cases e)⟩
  · rcases l4 B hi with ⟨i, hi1, rfl⟩ | hi
    · have := (u2 (a + i) (hw i hi1) (hall _ (hw i hi1))).new; omega
    · exact K.F.img B hB hi
  · obtain ⟨c1, c2⟩ := K.tms d
    refine ⟨fun k hk hl _ => ?_, fun h => wrel_mono l1 (c2 h)⟩
    cases hwk : within a mf k
    · exact wrel_mono l1 (c1 k hk hl (Or.inr hwk))
    · obtain ⟨h1, h2⟩ := within_yes hwk
      obtain ⟨o, ho, hd⟩ := C.W d k hk
      have := l5 (k - a) (by omega) o d (by rw [show a + (k - a) = k by omega]; exact ho) hd
      rw [show a + (k - a) = k by omega] at this
      exact Or.inr this
end
end Go.Proofs.YtoeeackjlclneaaGreatDoor
end
section
/-! A region that comes up in any order does what its run in the order of its text says. -/
namespace Go.Proofs.YtoeeackjlclneaaGreatDoor
set_option linter.unusedVariables false

structure DI (η : En) (g : G) (R : RG) (n a mf : Nat) (effs : List Nat) (S : Nat → StE) (V : Nat → AV) (t0 : Fm) (ν0 : Nu) (h0 : Tr Ob) (w0 : World) (listed : Array Bool) (act : Act) (w : World) : Prop where
  size : listed.size = R.all.length
  closed : ∀ i o, listed.getD i false = true → R.all[i]? = some o → ∀ e ∈ o.after, Region.binds .any e = true → listed.getD e.on false = true
  asize : act.tmps.size = n
  defs : act.defers = []
  ex : ∃ ν p h nx, (S R.all.length).hs[cntL effs R.all.length - p]? = some ⟨h, nx⟩ ∧ p ≤ cntL effs R.all.length ∧ (∀ e ∈ effs, (listed.getD e false = true ↔ cntL effs e < p)) ∧
    Core η g R V t0 a mf ν0 h0 w0 (Nat.blt (cntL effs a) p) (fun k => listed.getD k false) act.tmps w ν h nx
section
variable {P : Program} {η : En} {g : G} {R : RG} {n a mf : Nat} {effs : List Nat} {S : Nat → StE} {V : Nat → AV} {t0 : Fm} {h0 : Tr Ob} {nx0 : Nat} {ν0 : Nu} {w0 : World}
theorem DI.put {listed : Array Bool} {act : Act} {w1 : World} (hs : listed.size = R.all.length) (hc : ∀ i o, listed.getD i false = true → R.all[i]? = some o → ∀ e ∈ o.after, Region.binds .any e = true → listed.getD e.on false = true)
    (hn : act.tmps.size = n) (hd : act.defers = []) {i : Nat} {o : Oper} (ho : R.all[i]? = some o) (hra : ∀ e ∈ o.after, Region.binds .any e = true → listed.getD e.on false = true) {v : Value} {ν1 : Nu} {p : Nat} {h1 : Tr Ob} {nx1 : Nat}
    (e1 : (S R.all.length).hs[cntL effs R.all.length - p]? = some ⟨h1, nx1⟩) (e2 : p ≤ cntL effs R.all.length) (e3 : ∀ e ∈ effs, ((lsPut (fun k => listed.getD k false) i e) = true ↔ cntL effs e < p))
    (K : Core η g R V t0 a mf ν0 h0 w0 (Nat.blt (cntL effs a) p) (lsPut (fun k => listed.getD k false) i) (act.put o.dst v).tmps w1 ν1 h1 nx1) :
    DI η g R n a mf effs S V t0 ν0 h0 w0 (listed.setIfInBounds i true) (act.put o.dst v) w1 := by
  have hlt : i < R.all.length := (List.getElem?_eq_some_iff.1 ho).1
  have hset : ∀ k, (listed.setIfInBounds i true).getD k false = lsPut (fun k => listed.getD k false) i k := fun k => by
    unfold lsPut
    by_cases hk : k = i
    · subst hk
      rw [if_pos rfl]
      simp [Array.getD_eq_getD_getElem?, hs, hlt]
    · rw [if_neg hk, getD_set_ne _ (Ne.symm hk)]
  refine ⟨by simpa using hs, fun k o' hk ho' e he hb => ?_, by rw [put_size]; exact hn, by rw [put_defs]; exact hd, ν1, p, h1, nx1, e1, e2, fun e he => by rw [hset]; exact e3 e he, ?_⟩
  · rw [hset] at hk ⊢
    unfold lsPut at hk ⊢
    by_cases hki : k = i
    · subst hki
      rw [ho] at ho'; cases ho'
      split
      · rfl
      · exact hra e he hb
    · rw [if_neg hki] at hk
      split
      · rfl
      · exact hc k o' hk ho' e he hb
  · have : (fun k => (listed.setIfInBounds i true).getD k false) = lsPut (fun k => listed.getD k false) i := by funext k; exact hset k
    rw [this]; exact K
theorem quiet_wp (T : TabE P g.tt g.ff) (Se : EnvOk P g η) {o : Oper} {Vv : Fm → Tr Ob → Nat → AV} (hq : QOk g o.op Vv) {t : Fm} {h : Tr Ob} {nx : Nat} (hne : Vv t h nx ≠ .vno) {ν : Nu} {w : World} {act : Act} (H : HR η ν h w) (X : Nx ν nx) (A : TRf η ν t n act)
    {next : Act → World → Prop} {Q : Exit → Act → World → Prop} (hn : ∀ v w1 ν1, vrel η ν1 (Vv t h nx) v → HR η ν1 h w1 → Nx ν1 nx → Fr ν h w ν1 h w1 → next (act.put o.dst v) w1) : o.wp P act w next Q := by
  obtain ⟨x, h1, h2⟩ := hq.2 t h nx hne
  refine good_wp (step1_plain (P := P) T Se H X A h1) fun v w1 ν1 p H1 X1 F1 => hn v w1 ν1 ?_ H1 X1 F1
  rcases h2 with h2 | h2
  · rw [h2]; exact p
  · rw [h2]; exact toN_rel p
end
section
variable {P : Program} {η : En} {g : G} {R : RG} {n a mf : Nat} {effs : List Nat} {S : Nat → StE} {V : Nat → AV} {t0 : Fm} {h0 : Tr Ob} {nx0 : Nat} (C : DC P η g R n a mf effs S V t0 h0 nx0)
  {ν0 : Nu} {w0 : World}
include C
theorem DC.TRm {b : Bool} {listed : Array Bool} {act : Act} {ν : Nu} (hs : listed.size = R.all.length) (hc : ∀ i o, listed.getD i false = true → R.all[i]? = some o → ∀ e ∈ o.after, Region.binds .any e = true → listed.getD e.on false = true)
    (hn : act.tmps.size = n) (hd : act.defers = []) (K : Tm η ν R V t0 a mf b (fun k => listed.getD k false) act.tmps) {i : Nat} {o : Oper} (ho : R.all[i]? = some o) (hli : listed.getD i false = false) (hra : ∀ m, inM (ancAt R.A i) m = true → listed.getD m false = true)
    (hb : b = true ∨ i < a) : TRf η ν (mask (mens R.all o) (S i).t) n act := by
  have hlt : i < R.all.length := (List.getElem?_eq_some_iff.1 ho).1
  refine TR_mask hn hd fun d hm => ?_
  have hok := C.gk.men i o d ho hm
  obtain ⟨f1, f2⟩ := C.frame (k := i) (by omega) d
  obtain ⟨c1, c2⟩ := K d
  unfold menOk at hok
  cases hW : R.W.get d with
  | none =>
    rw [f2 fun w hw => by rw [hW] at hw; cases hw]
    exact c2 fun w hw => by rw [hW] at hw; cases hw
  | some w =>
    rw [hW] at hok
    simp only at hok
    split at hok
    · cases hok
    · split at hok
      · cases hok
      · rw [Bool.and_eq_true] at hok
        have hok2 := hok.2
        split at hok2
        · rename_i hwi
          have hwi := blt_lt hwi
          rw [f1 w hW hwi]
          refine c1 w hW (hra w hok2) ?_
          rcases hb with hb | hb
          · exact Or.inl hb
          · exact Or.inr (notW (Or.inl (by omega)))
        · rename_i hwi
          simp only [Bool.or_eq_true] at hok2
          have hge : i ≤ w := by
            rcases Nat.lt_or_ge w i with h | h
            · rw [bltD, decide_eq_true h] at hwi; cases hwi
            · exact h
          rw [f2 fun w' hw' => by rw [hW] at hw'; cases hw'; exact hge]
          refine c2 fun w' hw' => ?_
          rw [hW] at hw'; cases hw'
          show listed.getD w false = false
          rcases hok2 with h2 | h2
          · rw [Nat.eq_of_beq_eq_true h2]; exact hli
          · cases hlw : listed.getD w false
            · rfl
            · rw [anc_mem C.gk hs hc (w + 1) w (Nat.lt_succ_self _) hlw i h2] at hli; cases hli
theorem DC.step (T : TabE P g.tt g.ff) (Se : EnvOk P g η) {ops : Array Oper} (hall : R.all = ops.toList) {Q : Exit → Act → World → Prop} {listed : Array Bool} {i : Nat} {act : Act} {w : World}
    (I : DI η g R n a mf effs S V t0 ν0 h0 w0 listed act w) (hi : i ∈ Region.ready .any ops listed) : wpOp P ops Q i (DI η g R n a mf effs S V t0 ν0 h0 w0 (listed.setIfInBounds i true)) act w := by
  obtain ⟨hl, o, ho, hra⟩ := mem_ready.1 hi
  have hoR : R.all[i]? = some o := by rw [hall, Array.getElem?_toList]; exact ho
  have hlt : i < R.all.length := (List.getElem?_eq_some_iff.1 hoR).1
  have hli : listed.getD i false = false := by
    have := I.size
    have h2 : i < listed.size := by omega
    rw [Array.getD_eq_getD_getElem?, Array.getElem?_eq_getElem h2] at hl ⊢
    exact hl
  have hanc : ∀ k, inM (ancAt R.A i) k = true → listed.getD k false = true := fun k hk => by
    obtain ⟨e, he, hb, h1⟩ := C.gk.anc i o hoR k hk
    have h2 := hra e he hb
    rcases h1 with rfl | h1
    · exact h2
    · exact anc_mem C.gk I.size I.closed (e.on + 1) e.on (Nat.lt_succ_self _) h2 k h1
  obtain ⟨ν, p, h, nx, e1, e2, e3, K⟩ := I.ex
  have opk := C.op i o hoR
  have sorted := C.sorted
  have hm : i ∈ effs ↔ within a mf i = false ∧ isE (cop g o) = true := by
    rw [C.mem]
    constructor
    · rintro ⟨o', h1, h2⟩; rw [hoR] at h1; cases h1; exact h2
    · intro h; exact ⟨o, hoR, h⟩
  -- where an effect stands
  have effAt : i ∈ effs → allIn (ancAt R.A i) (belowL effs i) = true → p = cntL effs i := fun hie hal => by
    have h1 : p ≤ cntL effs i := by
      rcases Nat.lt_or_ge (cntL effs i) p with h | h
      · rw [(e3 i hie).2 h] at hli; cases hli
      · exact h
    rcases Nat.lt_or_ge p (cntL effs i) with h2 | h2
    · exfalso
      have h3 : cntL effs i ≤ effs.length := by
        have := cntL_mono sorted (j := i) (k := R.all.length) (by omega)
        rw [cntL_all (k := R.all.length) fun e he => by obtain ⟨o', h4, -⟩ := C.mem.1 he; exact (List.getElem?_eq_some_iff.1 h4).1] at this
        exact this
      have h4 : p < effs.length := by omega
      have h5 : effs[p]? = some effs[p] := List.getElem?_eq_getElem h4
      have h6 := cntL_at sorted h5
      have h7 : effs[p] ∈ effs := List.getElem_mem h4
      have h8 : effs[p] < i := by
        rcases Nat.lt_or_ge effs[p] i with h | h
        · exact h
        · have := cntL_mono sorted h
          omega
      have h9 := hanc _ (allIn_mem hal _ (belowL_mem h7 h8))
      have := (e3 _ h7).1 h9
      omega
    · omega
  have keep3 : i ∉ effs → ∀ e ∈ effs, (lsPut (fun k => listed.getD k false) i e = true ↔ cntL effs e < p) := fun hne e he => by
    have : e ≠ i := fun h => by subst h; exact hne he
    show (if e = i then true else listed.getD e false) = true ↔ _
    rw [if_neg this]; exact e3 e he
  have next3 : i ∈ effs → p = cntL effs i → ∀ e ∈ effs, (lsPut (fun k => listed.getD k false) i e = true ↔ cntL effs e < p + 1) := fun hie hp e he => by
    show (if e = i then true else listed.getD e false) = true ↔ _
    by_cases hei : e = i
    · subst hei
      rw [if_pos rfl]
      simp [hp]
    · rw [if_neg hei, e3 e he]
      have : cntL effs e ≠ p := fun h => by
        rcases Nat.lt_trichotomy e i with h1 | h1 | h1
        · have := cntL_lt sorted he h1; omega
        · exact hei h1
        · have := cntL_lt sorted hie h1; omega
      omega
  have cnt1 : i ∈ effs → p = cntL effs i → p + 1 ≤ cntL effs R.all.length := fun hie hp => by
    have := cntL_lt sorted hie hlt
    omega
  have stage1 : i ∈ effs → p = cntL effs i → (S R.all.length).hs[cntL effs R.all.length - (p + 1)]? = some ⟨(S (i + 1)).h, (S (i + 1)).nx⟩ := fun hie hp => by
    have h1 := cntL_succ sorted (k := i)
    rw [if_pos hie] at h1
    rw [C.stage (k := i + 1) (by omega) (by omega), ((C.hs hoR).1 hie), h1, hp]
    simp
  unfold wpOp
  rw [ho]
  simp only
  unfold opOk at opk
  rcases (C.st i o hoR).way with ⟨hw, -, ty, ti, z, y1, y2, y3, y4, y5, y6⟩ | ⟨hw, W⟩
  · -- a free new block
    rw [hw] at opk
    simp only [Bool.and_eq_true] at opk
    have hg : o.guard = none := by
      have := opk.1
      unfold isAl at this
      split at this
      · split at this
        · assumption
        · cases this
      · cases this
    have hw' : Region.wanted o (yielded ops act.tmps) = true := by unfold Region.wanted; rw [hg]
    simp only [hw', if_true]
    left
    have hb : Nat.blt (cntL effs a) p = false := by
      cases hb : Nat.blt (cntL effs a) p
      · rfl
      · have := K.nm hb i hw
        simp only [hli] at this; cases this
    rw [hb] at K
    obtain ⟨v, w1, r1, r2⟩ := Core.free C T I.asize K hoR hw y1 y2 y3
    unfold Oper.wp
    rw [r1]
    have hne : i ∉ effs := fun h => by rw [(hm.1 h).1] at hw; cases hw
    exact DI.put I.size I.closed I.asize I.defs hoR hra e1 e2 (keep3 hne) (by rw [hb]; exact r2)
  · rw [hw] at opk
    simp only at opk
    have hia : i < a ∨ a + mf ≤ i := within_no hw
    -- the frame that it sees, once the new blocks behind which it stands have names
    by_cases hie : i ∈ effs
    · -- an effect
      have hE := (hm.1 hie).2
      rw [hE] at opk
      simp only [Bool.and_eq_true] at opk
      have hp := effAt hie opk.1
      -- the state at the effect: all named that stands ahead
      have st : ∃ ν' b', (b' = true ∨ i < a) ∧ Core η g R V t0 a mf ν0 h0 w0 b' (fun k => listed.getD k false) act.tmps w ν' (S i).h (S i).nx ∧ b' = Nat.blt (cntL effs a) (p + 1) := by
        rcases hia with hia | hia
        · have hc := cntL_mono sorted (j := i + 1) (k := a) (by omega)
          rw [cntL_succ sorted, if_pos hie] at hc
          have hb : Nat.blt (cntL effs a) p = false := by rw [bltD, decide_eq_false (by omega)]
          have hb1 : Nat.blt (cntL effs a) (p + 1) = false := by rw [bltD, decide_eq_false (by omega)]
          have he := C.stage (k := i) (p := p) (by omega) (by omega)
          rw [e1, hp, Nat.sub_self, C.heapA (by omega)] at he
          cases he
          rw [hb] at K
          exact ⟨ν, false, Or.inr hia, K, hb1.symm⟩
        · have hfr : allIn (ancAt R.A i) (rangeL a mf) = true := by
            have := opk.2
            rw [bltD, decide_eq_false (by omega)] at this
            exact this
          have hfl : ∀ f, within a mf f = true → listed.getD f false = true := fun f hf => by
            obtain ⟨f1, f2⟩ := within_yes hf
            exact hanc f (allIn_mem hfr f (rangeL_mem f1 f2))
          have hc := cntL_mono sorted (j := a) (k := i) (by omega)
          have hb1 : Nat.blt (cntL effs a) (p + 1) = true := by rw [bltD, decide_eq_true (by omega)]
          have hB := C.heapB (d := i - (a + mf)) (by omega)
          rw [show a + mf + (i - (a + mf)) = i by omega] at hB
          rcases hB with ⟨b1, b2, b3⟩ | ⟨b1, b2⟩
          · have hb : Nat.blt (cntL effs a) p = false := by rw [bltD, decide_eq_false (by omega)]
            rw [hb] at K
            have hle := C.le
            have he := C.stage (k := a) (p := p) (by omega) (by omega)
            rw [e1, show cntL effs a - p = 0 by omega, C.heapA (Nat.le_refl _)] at he
            cases he
            obtain ⟨ν', K'⟩ := Core.name C K hfl
            rw [b2, b3]
            exact ⟨ν', true, Or.inl rfl, K', hb1.symm⟩
          · have hb : Nat.blt (cntL effs a) p = true := by rw [bltD, decide_eq_true (by omega)]
            rw [hb] at K
            have he := C.stage (k := i) (p := p) (by omega) (by omega)
            rw [e1, hp, Nat.sub_self, b2] at he
            cases he
            exact ⟨ν, true, Or.inl rfl, K, hb1.symm⟩
      obtain ⟨ν', b', s1, s2, s3⟩ := st
      have A := C.TRm I.size I.closed I.asize I.defs s2.tms hoR hli hanc s1
      rcases W with ⟨hwa, hv, k1, k2, k3⟩ | ⟨hwa, ⟨Vv, hc, -⟩ | ⟨F, hc, hF, k3⟩⟩
      · have hw' : Region.wanted o (yielded ops act.tmps) = false := wantA_rel A (by rw [← hall]; exact hwa)
        simp only [hw', Bool.false_eq_true, if_false]
        have K1 := Core.put C I.asize s2 hoR hw s1 (v := undef) (fun _ _ => by rw [hv]; exact Or.inr (by rw [vrel]; exact ⟨[], rfl, vrels_nil.2 rfl⟩)) s2.H s2.X (Fr.refl _ _ _)
        rw [← k1, ← k2] at K1
        rw [s3] at K1
        exact DI.put I.size I.closed I.asize I.defs hoR hra (stage1 hie hp) (cnt1 hie hp) (next3 hie hp) K1
      · rw [hc] at hE; cases hE
      · have hw' : Region.wanted o (yielded ops act.tmps) = true := wantA_rel A (by rw [← hall]; exact hwa)
        simp only [hw', if_true]
        left
        refine hF ν' w act n s2.H s2.X A _ Q fun v w1 ν1 pv H1 X1 F1 => ?_
        have K1 := Core.put C I.asize s2 hoR hw s1 (fun _ _ => Or.inr pv) H1 X1 F1
        rw [s3] at K1
        exact DI.put I.size I.closed I.asize I.defs hoR hra (stage1 hie hp) (cnt1 hie hp) (next3 hie hp) K1
    · -- an operation that leaves the heap
      have hE : isE (cop g o) = false := by
        cases hE : isE (cop g o)
        · rfl
        · exact absurd (hm.2 ⟨hw, hE⟩) hie
      rw [hE] at opk
      simp only at opk
      have may : mayAt R i p effs 0 = true := by
        rw [mayAt_iff]
        intro q e hq
        have hqe := cntL_at sorted hq
        have hee : e ∈ effs := List.mem_of_getElem? hq
        rw [Nat.zero_add]
        refine ⟨fun hlt' => ?_, fun hge => ?_⟩
        · cases hin : inM (ancAt R.A e) i
          · rfl
          · have h1 := (e3 e hee).2 (by omega)
            rw [anc_mem C.gk I.size I.closed (e + 1) e (Nat.lt_succ_self _) h1 i hin] at hli
            cases hli
        · cases hin : inM (ancAt R.A i) e
          · rfl
          · have h1 := (e3 e hee).1 (hanc e hin)
            omega
      have hlen : cntL effs R.all.length = effs.length := cntL_all fun e he => by obtain ⟨o', h4, -⟩ := C.mem.1 he; exact (List.getElem?_eq_some_iff.1 h4).1
      have inNeeds : p ≠ cntL effs i → p ∈ needs R effs i := fun hne => by
        unfold needs
        exact needsTo_mem hne may (by rw [lenN_eq]; omega)
      have hb : Nat.blt (cntL effs a) p = true ∨ i < a := by
        rcases hia with hia | hia
        · exact Or.inr hia
        · split at opk
          · rename_i hnil
            have hpc : p = cntL effs i := by
              by_cases hne : p = cntL effs i
              · exact hne
              · have := inNeeds hne
                rw [hnil] at this; cases this
            rw [bltD i a, decide_eq_false (by omega)] at opk
            simp only [Bool.and_eq_true] at opk
            have := blt_lt opk.2
            exact Or.inl (by rw [bltD, decide_eq_true (by omega)])
          · have := blt_lt opk
            omega
      have A := C.TRm I.size I.closed I.asize I.defs K.tms hoR hli hanc hb
      rcases W with ⟨hwa, hv, -⟩ | ⟨hwa, ⟨Vv, hc, hval, hne, k1, k2, -⟩ | ⟨F, hc, -⟩⟩
      · have hw' : Region.wanted o (yielded ops act.tmps) = false := wantA_rel A (by rw [← hall]; exact hwa)
        simp only [hw', Bool.false_eq_true, if_false]
        have K1 := Core.put C I.asize K hoR hw hb (v := undef) (fun _ _ => by rw [hv]; exact Or.inr (by rw [vrel]; exact ⟨[], rfl, vrels_nil.2 rfl⟩)) K.H K.X (Fr.refl _ _ _)
        exact DI.put I.size I.closed I.asize I.defs hoR hra e1 e2 (keep3 hie) K1
      · have hw' : Region.wanted o (yielded ops act.tmps) = true := wantA_rel A (by rw [← hall]; exact hwa)
        simp only [hw', if_true]
        left
        have ok := cop_ok T Se (P := P) (η := η) o
        rw [hc] at ok
        -- the value at this stage
        have val : Vv (mask (mens R.all o) (S i).t) h nx ≠ .vno ∧ ∀ v ν1, vrel η ν1 (Vv (mask (mens R.all o) (S i).t) h nx) v → ∀ d, o.dst = some d → wrel η ν1 (V i) v := by
          by_cases hpc : p = cntL effs i
          · have hcur : h = (S i).h ∧ nx = (S i).nx := by
              rcases hia with hia | hia
              · have he := C.stage (k := i) (p := p) (by omega) (by omega)
                rw [e1, hpc, Nat.sub_self, C.heapA (by omega)] at he
                cases he; exact ⟨rfl, rfl⟩
              · have hB := C.heapB (d := i - (a + mf)) (by omega)
                rw [show a + mf + (i - (a + mf)) = i by omega] at hB
                rcases hB with ⟨b1, -⟩ | ⟨b1, b2⟩
                · rcases hb with hb | hb
                  · have := blt_lt hb; omega
                  · omega
                · have he := C.stage (k := i) (p := p) (by omega) (by omega)
                  rw [e1, hpc, Nat.sub_self, b2] at he
                  cases he; exact ⟨rfl, rfl⟩
            rw [hcur.1, hcur.2, hval]
            exact ⟨hne, fun v ν1 hv _ _ => Or.inr hv⟩
          · have hin := inNeeds hpc
            have lk := C.lk i o hoR
            unfold lookO at lk
            split at opk
            · rename_i hnil; rw [hnil] at hin; cases hin
            · rename_i p0 r0 hcons
              rw [hcons, hc] at lk
              simp only at lk
              have hmk : maskU R i t0 (S R.all.length).t (mens R.all o) = mask (mens R.all o) (S i).t := maskU_eq fun d hd => by
                obtain ⟨g1, g2⟩ := C.frame (k := R.all.length) (Nat.le_refl _) d
                obtain ⟨f1, f2⟩ := C.frame (k := i) (by omega) d
                unfold pickU
                cases hW : R.W.get d with
                | none => rw [f2 (fun w hw => by rw [hW] at hw; cases hw)]
                | some w =>
                  simp only
                  rw [bltD]
                  by_cases hwi : w < i
                  · rw [decide_eq_true hwi, f1 w hW hwi]
                    exact g1 w hW (by omega)
                  · rw [decide_eq_false hwi, f2 (fun w' hw' => by rw [hW] at hw'; cases hw'; omega)]
              rw [hmk, hwa] at lk
              simp only at lk
              have each : ∀ l, looks Vv (mask (mens R.all o) (S i).t) (dstV (S R.all.length).t o.dst) (S R.all.length).hs (lenN effs 0) l = true → p ∈ l → look1 Vv (mask (mens R.all o) (S i).t) (dstV (S R.all.length).t o.dst) (S R.all.length).hs (lenN effs 0 - p) = true := by
                intro l
                induction l with
                | nil => intro _ h; cases h
                | cons x r ih =>
                  intro h hx
                  rw [looks, Bool.and_eq_true] at h
                  rcases List.mem_cons.1 hx with rfl | hx
                  · exact h.1
                  · exact ih h.2 hx
              have l1 := each _ lk (by rw [← hcons]; exact hin)
              unfold look1 at l1
              rw [nthS_eq, lenN_eq, Nat.add_zero, ← hlen, e1] at l1
              simp only at l1
              unfold sameV dstV at l1
              cases hd : o.dst with
              | none =>
                rw [hd] at l1
                exact ⟨isKn_eq l1, fun v ν1 hv d hd' => by cases hd'⟩
              | some d =>
                rw [hd] at l1
                simp only [Bool.and_eq_true] at l1
                refine ⟨isKn_eq l1.1, fun v ν1 hv _ _ => Or.inr ?_⟩
                have hW := (C.wr hoR).1 hd
                obtain ⟨g1, -⟩ := C.frame (k := R.all.length) (Nat.le_refl _) d
                rw [← g1 i hW hlt, ← avEq_eq _ _ l1.2]
                exact hv
        refine quiet_wp T Se ok val.1 K.H K.X A fun v w1 ν1 pv H1 X1 F1 => ?_
        have K1 := Core.put C I.asize K hoR hw hb (val.2 v ν1 pv) H1 X1 F1
        exact DI.put I.size I.closed I.asize I.defs hoR hra e1 e2 (keep3 hie) K1
      · rw [hc] at hE; cases hE
end
end Go.Proofs.YtoeeackjlclneaaGreatDoor
end
section
/-! A region that comes up in any order, made ready: sound. -/
namespace Go.Proofs.YtoeeackjlclneaaGreatDoor
set_option linter.unusedVariables false

theorem lenO_eq : ∀ l : List Oper, lenO l = l.length
  | [] => rfl
  | _ :: r => by rw [lenO, lenO_eq r]; rfl
theorem hend_eq {g : G} {R : RG} {effs : List Nat} {l : List (Nat × Oper)} {J : JJ} {u t : Fm} {h : Tr Ob} {nx : Nat} {hs : List Stg} {x : Xt} {t' : Fm} {h' : Tr Ob} {nx' : Nat} (hr : (hend g R effs l).f J u t h nx hs = .c x t' h' nx') :
    lookL g R effs u t hs l = true ∧ x = .nrm ∧ t' = t ∧ h' = h ∧ nx' = nx := by
  cases l with
  | nil => cases hr; exact ⟨rfl, rfl, rfl, rfl, rfl⟩
  | cons y r =>
    have hr' : Bool.rec (motive := fun _ => RJ) (.er 112 "") (.c .nrm t h nx) (lookL g R effs u t hs (y :: r)) = .c x t' h' nx' := hr
    cases hl : lookL g R effs u t hs (y :: r)
    · rw [hl] at hr'; cases hr'
    · rw [hl] at hr'; cases hr'; exact ⟨rfl, rfl, rfl, rfl, rfl⟩
theorem all_listed {R : RG} {n : Nat} (G : RGok R n) {ops : Array Oper} (hall : R.all = ops.toList) {listed : Array Bool} (hs : listed.size = R.all.length) (hrd : Region.ready .any ops listed = []) : ∀ k i, i < k → i < R.all.length → listed.getD i false = true
  | 0, i, hi, _ => by omega
  | k + 1, i, hi, hlt => by
    cases hl : listed.getD i false
    · exfalso
      obtain ⟨o1, ho⟩ : ∃ o1, R.all[i]? = some o1 := ⟨_, List.getElem?_eq_getElem hlt⟩
      have hmem : i ∈ Region.ready .any ops listed := by
        refine mem_ready.2 ⟨?_, o1, ?_, fun e he hb => ?_⟩
        · have h2 : i < listed.size := by rw [hs]; exact hlt
          rw [Array.getD_eq_getD_getElem?, Array.getElem?_eq_getElem h2] at hl ⊢
          exact hl
        · rw [← Array.getElem?_toList, ← hall]; exact ho
        · have := G.lt i _ ho e he hb
          exact all_listed G hall hs hrd k e.on (by omega) (by omega)
      rw [hrd] at hmem; cases hmem
    · rfl
theorem cdr_ok {P : Program} (hmix : P.follows .mixedOrders = true) {g : G} (T : TabE P g.tt g.ff) {η : En} (Se : EnvOk P g η) (n id : Nat) (ops : Array Oper) : CodeOk P η n (.region id ops true) (cdr g n ops.toList).f := by
  intro J D t h nx x t' h' nx' hr ν w act H X A
  unfold cdr cdrG cdrA at hr
  generalize hR : (⟨ops.toList, mkAnc ops.toList 0 .e, mkWr ops.toList 0 .e⟩ : RG) = R at hr
  have hall : R.all = ops.toList := by rw [← hR]
  have hWr : R.W = mkWr R.all 0 .e := by rw [← hR]
  generalize freeAt g R R.all 0 false = a at hr
  generalize freeN R (dropL R.all a) a = mf at hr
  generalize hef : effsG g a mf R.all 0 = effs at hr
  unfold cdrR at hr
  split at hr
  · cases hr
  · rename_i hchk
    simp only [Bool.and_eq_true] at hchk
    obtain ⟨c1, c2, c3, c4⟩ := hchk
    have G := statsOk_ok c1
    rw [KHr.eta (hops g n R.all a mf (hend g R effs (lookers R effs R.all 0)) R.all 0)] at hr
    have hr1 : (hops g n R.all a mf (hend g R effs (lookers R effs R.all 0)) R.all 0).f J t t h nx [⟨h, nx⟩] = .c x t' h' nx' := hr
    obtain ⟨sf, tr, he⟩ := hops_trace (s := ⟨t, h, nx, [⟨h, nx⟩]⟩) (fun o => cop_ok T Se (P := P) (η := η) o) D hr1
    obtain ⟨hlk, rfl, rfl, rfl, rfl⟩ := hend_eq he
    obtain ⟨S, V, s1, s2, s3⟩ := tr.fn
    rw [Nat.zero_add] at s2
    have C : DC P η g R n a mf effs S V t h nx := by
      refine ⟨G, fun d k hk => ?_, by have := Nat.le_of_ble_eq_true c3; rwa [lenO_eq] at this, ?_, hef.symm, fun k o ho => ?_, fun k o ho => ?_, fun k o ho => ?_, s1⟩
      · rw [hWr] at hk
        rcases mkWr_get hk with hk | ⟨j, o, h1, h2, h3⟩
        · rw [Tr.get_e] at hk; cases hk
        · have : k = j := by omega
          subst this
          exact ⟨o, h1, h2⟩
      · rw [Bool.or_eq_true] at c4
        rcases c4 with c4 | c4
        · exact Or.inl (Nat.eq_of_beq_eq_true c4)
        · have := blt_lt c4
          rw [lenN_eq] at this
          exact Or.inr (by omega)
      · have := s3 k o ho
        rw [Nat.zero_add] at this
        exact this
      · have := opsOk_at c2 ho
        rw [Nat.zero_add] at this
        exact this
      · rw [s2]
        have := lookL_at hlk ho
        rw [Nat.zero_add] at this
        exact this
    have hlen : cntL effs R.all.length = effs.length := cntL_all fun e he => by obtain ⟨o', h4, -⟩ := C.mem.1 he; exact (List.getElem?_eq_some_iff.1 h4).1
    have hsz : R.all.length = ops.size := by rw [hall]; simp
    have hf0 : ∀ k, (Array.replicate ops.size false).getD k false = false := fun k => by
      rw [Array.getD_eq_getD_getElem?]
      rcases Nat.lt_or_ge k ops.size with h1 | h1
      · simp [h1]
      · rw [Array.getElem?_eq_none (by simpa using h1)]; rfl
    refine wp_region_any hmix (wpAny_inv (I := DI η g R n a mf effs S V t ν h w) (fun listed i a1 w1 hI hi => C.step T Se hall hI hi) ?_ ops.size _ act _ ?_ ?_)
    · intro listed a1 w1 I hrd
      have every := all_listed G hall I.size hrd R.all.length
      obtain ⟨ν1, p, h1, nx1, e1, e2, e3, K⟩ := I.ex
      have hp : p = cntL effs R.all.length := by
        rcases Nat.lt_or_ge p (cntL effs R.all.length) with hlt | hge
        · exfalso
          rw [hlen] at hlt
          have h5 : effs[p]? = some effs[p] := List.getElem?_eq_getElem hlt
          have h6 := cntL_at C.sorted h5
          have h7 : effs[p] ∈ effs := List.getElem_mem hlt
          obtain ⟨o', h8, -⟩ := C.mem.1 h7
          have h9 := (List.getElem?_eq_some_iff.1 h8).1
          have := (e3 _ h7).1 (every _ h9 h9)
          omega
        · omega
      have hcur : h1 = sf.h ∧ nx1 = sf.nx := by
        have hle := C.le
        have hB := C.heapB (d := R.all.length - (a + mf)) (by omega)
        rw [show a + mf + (R.all.length - (a + mf)) = R.all.length by omega, s2] at hB
        rw [s2, hp] at e1
        rcases hB with ⟨b1, b2, b3⟩ | ⟨b1, b2⟩
        · have hmf : mf = 0 := by
            rcases C.fr with h0 | h0
            · exact h0
            · omega
          subst hmf
          have hst := C.stage (k := a) (p := cntL effs a) (by omega) (Nat.le_refl _)
          rw [s2, b1, Nat.sub_self, C.heapA (Nat.le_refl _)] at hst
          rw [Nat.sub_self, hst] at e1
          cases e1
          exact ⟨b2.symm, b3.symm⟩
        · rw [Nat.sub_self, b2] at e1
          cases e1; exact ⟨rfl, rfl⟩
      obtain ⟨rfl, rfl⟩ := hcur
      refine ⟨rfl, ν1, ⟨I.asize, fun d => ?_, I.defs⟩, K.H, K.X, K.F⟩
      obtain ⟨f1, f2⟩ := C.frame (Nat.le_refl R.all.length) d
      rw [s2] at f1 f2
      obtain ⟨c1, c2⟩ := K.tms d
      cases hW : R.W.get d with
      | none =>
        rw [f2 (fun k hk => by rw [hW] at hk; cases hk)]
        exact c2 fun k hk => by rw [hW] at hk; cases hk
      | some k =>
        obtain ⟨o, ho, -⟩ := C.W d k hW
        have hlt := (List.getElem?_eq_some_iff.1 ho).1
        rw [f1 k hW hlt]
        refine c1 k hW (every k hlt hlt) ?_
        rcases C.fr with h0 | h0
        · refine Or.inr (notW ?_)
          omega
        · exact Or.inl (by rw [bltD, decide_eq_true (by omega)])
    · refine ⟨by simp [hsz], (fun i o hi ho e he hb => by rw [hf0] at hi; cases hi), A.size, A.none, ν, 0, h, nx, ?_, Nat.zero_le _, fun e he => ?_, ?_⟩
      · have := C.stage (k := 0) (p := 0) (Nat.zero_le _) (Nat.zero_le _)
        rw [this, s1]
        have hc0 : cntL effs 0 = 0 := by
          have : ∀ l : List Nat, cntL l 0 = 0 := fun l => by
            induction l with
            | nil => rfl
            | cons e r ih => rw [cntL, bltD, decide_eq_false (Nat.not_lt_zero e)]; exact ih
          exact this effs
        rw [hc0]; rfl
      · rw [hf0]
        exact ⟨fun h => (by cases h), fun h => absurd h (Nat.not_lt_zero _)⟩
      · have hb : Nat.blt (cntL effs a) 0 = false := by rw [bltD, decide_eq_false (Nat.not_lt_zero _)]
        rw [hb]
        refine ⟨⟨H.at_, H.inj, ⟨H.base.low, H.base.old, H.base.far⟩⟩, X, ⟨Nu.le_refl _, Nat.le_refl _, fun _ _ _ => rfl, fun _ _ i => i, ⟨rfl, rfl, rfl⟩⟩, fun d => ⟨fun k _ hl => ?_, fun _ => A.rel d⟩, fun e => (by cases e), fun _ => ⟨fun k _ => hf0 k, fun _ => 0, fun f _ hl => ?_, fun f f' _ _ hl => ?_⟩⟩
        · have hl' : (Array.replicate ops.size false).getD k false = true := hl
          rw [hf0] at hl'; cases hl'
        · have hl' : (Array.replicate ops.size false).getD f false = true := hl
          rw [hf0] at hl'; cases hl'
        · have hl' : (Array.replicate ops.size false).getD f false = true := hl
          rw [hf0] at hl'; cases hl'
    · unfold unl
      exact Nat.le_trans List.countP_le_length (by simp)
/-- The evaluator with draw regions. -/
noncomputable def go (g : G) (K : Kn) (fuel : Nat) : JJ := run g K (cdr g) fuel
theorem go_ok {P : Program} (hmix : P.follows .mixedOrders = true) {g : G} (T : TabE P g.tt g.ff) {η : En} (S : EnvOk P g η) {K : Kn} (KO : KnOk P η K) (fuel : Nat) : SndJ P η (go g K fuel) :=
  run_ok T S KO (fun n id ops => cdr_ok hmix T S n id ops) fuel
end Go.Proofs.YtoeeackjlclneaaGreatDoor
end
