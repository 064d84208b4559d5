/-
  The walk of token.Pairs.
-/
import Derived.Test.YtdcdckjdloddiaaTokMore
import Derived.Test.YtdcdckjdloddiaaTokAll
namespace Go.Proofs.Ytdcdckjdloddiaa
open Go.RowKit

def pairC (p : PairL) : List Value := [strV p.name, strV p.value, .bool p.has]
def pv (l : List PairL) : List Value := l.flatMap pairC
theorem pv_len (l : List PairL) : (pv l).length = l.length * 3 := by
  induction l with
  | nil => rfl
  | cons p l ih =>
    have e : pv (p :: l) = pairC p ++ pv l := by simp [pv]
    rw [e, List.length_append, ih, List.length_cons]
    show 3 + l.length * 3 = _
    omega
def OwnP (w : World) (base : Nat) (v : Value) (l : List PairL) : Prop := w.ownsRow base 84 3 v l.length (pv l)
theorem infoP : (Try.prog.info? 84).map (fun i => (i.zero, i.size, i.bytes)) = some (some (.agg #[.string ⟨#[]⟩, .string ⟨#[]⟩, .bool false]), 3, 40) := by kernel_rfl
theorem OwnP.nil (w : World) (base : Nat) : OwnP w base (.slice none 0 0) [] := World.ownsRow_nil _ _ _ _
theorem OwnP.lt {w : World} {base : Nat} {v : Value} {l : List PairL} (h : OwnP w base v l) : ∀ k, v.ownBlock = some k → base ≤ k ∧ k < w.heap.size := World.ownsRow.lt h
theorem OwnP.aft {w w' : World} {base : Nat} {v : Value} {l : List PairL} (h : OwnP w base v l) (ha : Aft w w') : OwnP w' base v l := by
  obtain ⟨h1, h2⟩ := h
  refine ⟨h1, ?_⟩
  rcases h2 with ⟨a, b⟩ | ⟨g, cap, cur, a, b, c, d⟩
  · exact Or.inl ⟨a, b⟩
  · refine Or.inr ⟨g, cap, cur, a, b, ?_, d⟩
    rw [Below.block ha g (by rcases Nat.lt_or_ge g w.heap.size with h | h; exact h; rw [Array.getElem?_eq_none h] at c; cases c)]
    exact c
theorem OwnP.base {w : World} {base base' : Nat} {v : Value} {l : List PairL} (h : OwnP w base v l) (hb : base' ≤ base) : OwnP w base' v l := by
  obtain ⟨h1, h2⟩ := h
  refine ⟨h1, ?_⟩
  rcases h2 with h2 | ⟨g, cap, cur, a, b, c⟩
  · exact Or.inl h2
  · exact Or.inr ⟨g, cap, cur, a, by omega, c⟩
theorem OwnP.slice {w : World} {base : Nat} {v : Value} {l : List PairL} (h : OwnP w base v l) : ∃ a k, v = .slice a l.length k ∧ l.length ≤ k ∧ k ≤ maxLen := by
  rcases h.2 with ⟨e, h⟩ | ⟨g, cap, cur, e, _, _, h1, h2, _⟩
  · exact ⟨none, 0, by rw [e, h], by omega, Nat.zero_le _⟩
  · exact ⟨_, _, e, h1, h2⟩
theorem pv_get {l : List PairL} {i j : Nat} (hi : i < l.length) (hj : j < 3) : (pv l)[i * 3 + j]? = (pairC l[i])[j]? := by
  induction l generalizing i with
  | nil => simp at hi
  | cons p l ih =>
    have e : pv (p :: l) = pairC p ++ pv l := by simp [pv]
    have hl : (pairC p).length = 3 := rfl
    rw [e]
    cases i with
    | zero => rw [List.getElem?_append_left (by omega)]; simp
    | succ i =>
      rw [List.getElem?_append_right (by omega), hl, show (i + 1) * 3 + j - 3 = i * 3 + j by omega, ih (by simpa using hi)]
      rfl
theorem OwnP.form {w : World} {base : Nat} {v : Value} {l : List PairL} (h : OwnP w base v l) : ∃ (a : Option Addr) (g k : Nat), v = .slice a l.length k ∧ l.length ≤ k ∧ k ≤ maxLen ∧ (l ≠ [] → a = some ⟨g, 0, none⟩ ∧ g < w.heap.size) ∧ ∀ i (h : i < l.length), w.cell? ⟨g, i * 3, none⟩ = some (strV l[i].name) ∧ w.cell? ⟨g, i * 3 + 1, none⟩ = some (strV l[i].value) ∧ w.cell? ⟨g, i * 3 + 2, none⟩ = some (.bool l[i].has) := by
  rcases id h.2 with ⟨e, h0⟩ | ⟨g, cap, cur, e, _, _, h1, h2, _⟩
  · have : l = [] := List.eq_nil_of_length_eq_zero h0
    subst this
    exact ⟨none, 0, 0, by rw [e]; rfl, by simp, Nat.zero_le _, fun h => absurd rfl h, fun i hi => by simp at hi⟩
  · refine ⟨_, g, cap, e, h1, h2, fun _ => ⟨rfl, (h.lt g (by rw [e]; rfl)).2⟩, fun i hi => ?_⟩
    subst e
    have hx := fun j (hj : j < 3) => World.ownsRow.cellAt h (i * 3 + j) (by omega)
    refine ⟨?_, ?_, ?_⟩
    · have := hx 0 (by omega)
      rw [Nat.add_zero] at this
      rw [this]
      exact pv_get (j := 0) hi (by omega)
    · rw [hx 1 (by omega)]
      exact pv_get hi (by omega)
    · rw [hx 2 (by omega)]
      exact pv_get hi (by omega)
theorem wpList_pushP {w : World} {ops : Array Oper} {rest : List Oper} {o : Oper} {a : Act} {Q : Exit → Act → World → Prop} (hgd : o.guard = none) (s x : Operand)
    (ho : o.op = .call { callee := .builtin .append, args := #[s, x], argTypes := #[82, 82] })
    (base : Nat) (v : Value) (l : List PairL) (hs : a.eval s = v) (hown : OwnP w base v l) (g : Nat) (c : Nat) (n : PairL) (hx : a.eval x = .slice (some ⟨g, 0, none⟩) 1 c) (h0 : w.cell? ⟨g, 0, none⟩ = some (strV n.name)) (h1 : w.cell? ⟨g, 1, none⟩ = some (strV n.value)) (h2 : w.cell? ⟨g, 2, none⟩ = some (.bool n.has))
    (hl : l.length + 1 ≤ 1000000000000) (hbase : base ≤ w.heap.size)
    (h : ∀ v' w', OwnP w' base v' (l ++ [n]) → w.grownBy w' v.ownBlock → wpList Try.prog ops Q rest (a.put o.dst v') w') : wpList Try.prog ops Q (o :: rest) a w := by
  obtain ⟨i0, hi, hz0, hz1, hz2⟩ := info_parts infoP
  refine wpList_append_own w hgd s x 82 ho base 84 i0 _ 3 40 Try.underlying82 hi hz0 hz1 hz2 rfl (by decide) v l.length (pv l) hs hown ⟨g, 0, none⟩ 1 c (pairC n) hx rfl ?_ ?_ ?_ ?_ hbase ?_
  · intro j u hj
    match j, hj with
    | 0, hj => simp [pairC] at hj; subst hj; exact h0
    | 1, hj => simp [pairC] at hj; subst hj; exact h1
    | 2, hj => simp [pairC] at hj; subst hj; exact h2
    | j + 3, hj => simp [pairC] at hj
  · intro u hu
    simp [pairC] at hu
    rcases hu with rfl | rfl | rfl <;> rfl
  · unfold maxLen; omega
  · omega
  · intro v' w' g1 g2 _
    refine h v' w' ?_ g2
    unfold OwnP
    have e : pv (l ++ [n]) = pv l ++ pairC n := by simp [pv]
    rw [e, List.length_append]
    exact g1
theorem pushP_below {B base : Nat} {a w w' : World} {v : Value} {l : List PairL} (h : Below B a w) (ho : OwnP w base v l) (hg : w.grownBy w' v.ownBlock) (hB : B ≤ base) (hb : base ≤ w.heap.size) : Below B a w' :=
  Below.grown h hg (by omega) (fun k hk => by have := (ho.lt k hk).1; omega)

/-- The pairs in the fields of a name. -/
def partsF (name : List UInt8) (l : List FieldL) : List (List UInt8) := match splF (Lib.join (valsF name l) [44, 32]) with | none => [] | some P => P
def pairsF (name : List UInt8) (l : List FieldL) : List PairL := (partsF name l).filterMap ofF
theorem split_parts (s : ByteArray) (P : List (List UInt8)) (w : World) (hs : s.size ≤ 1000000000) (h : (match splF s.data.toList with | none => [] | some P => P) = P) :
    Calls Try.prog 66 #[.string s] w fun e w' => ∃ v b, e = .returned (.tuple #[v, .bool b]) ∧ OwnS w' w.heap.size v P ∧ Aft w w' := by
  cases hs2 : splF s.data.toList with
  | none =>
    rw [hs2] at h
    subst h
    refine (split_none s w hs hs2).mono ?_
    rintro e w' ⟨rfl, ha⟩
    exact ⟨_, _, rfl, OwnS.nil _ _, ha⟩
  | some L =>
    rw [hs2] at h
    subst h
    refine (split_some s L w hs hs2).mono ?_
    rintro e w' ⟨v, rfl, ho, ha⟩
    exact ⟨v, _, rfl, ho, ha⟩

theorem splGo_num : ∀ (f : Nat) (cur l : List UInt8) (L : List (List UInt8)), splGo f cur l = some L → L.length ≤ l.length + 1
  | 0, _, _, _, h => by simp [splGo] at h
  | f + 1, cur, [], L, h => by
    simp only [splGo, Option.some.injEq] at h
    subst h
    unfold elemL
    split <;> simp
  | f + 1, cur, c :: r, L, h => by
    unfold splGo at h
    by_cases h1 : c = 44
    · rw [if_pos h1] at h
      simp only [Option.map_eq_some_iff] at h
      obtain ⟨M, hM, rfl⟩ := h
      have := splGo_num f [] r M hM
      have h2 : (elemL cur).length ≤ 1 := by unfold elemL; split <;> simp
      simp only [List.length_append, List.length_cons]
      omega
    · rw [if_neg h1] at h
      by_cases h2 : c = 34
      · rw [if_pos h2] at h
        cases hq : qend r with
        | none => rw [hq] at h; cases h
        | some n =>
          rw [hq] at h
          have := splGo_num f _ _ L h
          rw [List.length_drop] at this
          simp only [List.length_cons]
          omega
      · rw [if_neg h2] at h
        have := splGo_num f _ _ L h
        simp only [List.length_cons]
        omega
theorem two_new (w : World) (a b c : Value) (o : Obj) (t : TypeId) : ((w.alloc o).alloc (.cells #[a, b, c] t)).cell? ⟨w.heap.size + 1, 0, none⟩ = some a ∧ ((w.alloc o).alloc (.cells #[a, b, c] t)).cell? ⟨w.heap.size + 1, 1, none⟩ = some b ∧ ((w.alloc o).alloc (.cells #[a, b, c] t)).cell? ⟨w.heap.size + 1, 2, none⟩ = some c := by
  have h := P3.new (w.alloc o) a b c t
  rw [World.size_alloc] at h
  exact ⟨h.c0, h.c1, h.c2⟩
set_option maxHeartbeats 4000000 in
theorem pairs_any (v : Value) (l : List FieldL) (name : ByteArray) (w : World) (hr : RbF w v l) (hlen : l.length ≤ 1000000) (hj : (Lib.join (valsF name.data.toList l) [44, 32]).length ≤ 100000000) :
    Calls Try.prog 55 #[v, .string name] w fun e w' => ∃ v', e = .returned v' ∧ OwnP w' w.heap.size v' (pairsF name.data.toList l) ∧ Aft w w' := by
  obtain ⟨J, hJ⟩ : ∃ J : ByteArray, J = ⟨(Lib.join (valsF name.data.toList l) [44, 32]).toArray⟩ := ⟨_, rfl⟩
  have hJd : J.data.toList = Lib.join (valsF name.data.toList l) [44, 32] := by rw [hJ]
  have hJs : J.size ≤ 100000000 := by rw [← size_len, hJd]; exact hj
  have CA := all_any v l name w hr hlen hj
  rw [← hJ] at CA
  obtain ⟨P, hP⟩ : ∃ P, partsF name.data.toList l = P := ⟨_, rfl⟩
  have hPs : (match splF J.data.toList with | none => [] | some P => P) = P := by rw [hJd]; exact hP
  have hPl : ∀ x ∈ P, x.length ≤ 100000000 := by
    cases hs2 : splF J.data.toList with
    | none => rw [hs2] at hPs; subst hPs; simp
    | some L =>
      rw [hs2] at hPs
      subst hPs
      intro x hx
      have := splF_len hs2 x hx
      rw [size_len] at this
      omega
  have hPn : P.length ≤ 100000001 := by
    cases hs2 : splF J.data.toList with
    | none => rw [hs2] at hPs; subst hPs; simp
    | some L =>
      rw [hs2] at hPs
      subst hPs
      have := splGo_num _ _ _ L hs2
      rw [size_len] at this
      show L.length ≤ _
      omega
  have hPP : pairsF name.data.toList l = P.filterMap ofF := by unfold pairsF; rw [hP]
  have HPL := Lib.hid hPl
  have HPP := Lib.hid hPP
  have CS := Lib.hid (fun w => split_parts J P w (by omega) hPs)
  have HCA := Lib.hid CA
  obtain ⟨n, hn⟩ : ∃ n : Int, ((valsF name.data.toList l).length : Int) = n := ⟨_, rfl⟩
  rw [hn] at HCA
  clear hJ hJd hj CA hP hPs hPl hPP hn
  obtain ⟨a1, c1, b1, o1, rfl, m1, m2, _⟩ := hr.open
  clear hr
  obtain ⟨B, hB⟩ : ∃ B, w.heap.size = B := ⟨_, rfl⟩
  have HB := Lib.hid hB
  clear hB
  go_enter Try.func55, Try.ntmps55
  go_wp2_with fail
  refine HCA.out.mono ?_
  rintro e w1 ⟨rfl, a1'⟩
  go_wp2_with fail
  refine (CS.out _).mono ?_
  rintro e w2 ⟨vp, bp, rfl, op, a2'⟩
  obtain ⟨ad, g, k, rfl, hk1, hk2, hpos, hcell⟩ := op.form
  unfold maxLen at hk2
  have HPO := Lib.hid hpos
  have HCE := Lib.hid hcell
  have hb0 : Below B w w2 := by have := a1'.trans a2'; unfold Aft at this; rw [HB.out] at this; exact this
  have hb2 : Below w2.heap.size w2 w2 := Below.refl _ _
  have hBw : B ≤ w2.heap.size := by rw [← HB.out]; exact hb0.size
  clear hpos hcell op
  go_wp2_with fail
  go_loopw [9, 11, 12, 13, 27] (fun vo _ _ _ vi wr => ∃ (i : Nat) (xs : List PairL), i ≤ P.length ∧ vi = .int .i64 (i : Int) ∧ Hid ((P.take i).filterMap ofF = xs) ∧ Hid (OwnP wr w2.heap.size vo xs) ∧ xs.length ≤ i ∧ Hid (Below w2.heap.size w2 wr)) (fun _ _ _ _ vi _ => P.length - (intOf vi).toNat)
  case atStart => exact ⟨0, [], by omega, by go_num, Lib.hid rfl, Lib.hid (OwnP.nil _ _), by simp, Lib.hid hb2⟩
  case round =>
    clear hb2
    obtain ⟨i, xs, hi, rfl, HX, HO, hxs, HBE⟩ := hrel
    have hbs : w2.heap.size ≤ wr.heap.size := HBE.out.size
    by_cases hlt : i < P.length
    · have hne : P ≠ [] := by intro e; rw [e] at hlt; simp at hlt
      obtain ⟨hp1, hp2⟩ := HPO.out hne
      have hx : wr.cell? ⟨g, i, none⟩ = some (strV P[i]) := by
        rw [Below.cell HBE.out (p := ⟨g, i, none⟩) hp2]
        exact HCE.out i hlt
      have hyl := HPL.out P[i] (List.getElem_mem hlt)
      have hsn : (P.take (i + 1)).filterMap ofF = xs ++ (match ofF P[i] with | none => [] | some p => [p]) := by
        rw [List.take_succ_eq_append_getElem hlt, List.filterMap_append, HX.out]
        congr 1
        cases h : ofF P[i] <;> simp [h]
      have HSN := Lib.hid hsn
      generalize P[i] = y at hx hyl HSN
      have CO := Lib.hid (fun w => of_any ⟨y.toArray⟩ w (by simp [ByteArray.size]; omega))
      unfold strV at hx
      subst hp1
      have hil : (i : Int) < (P.length : Int) := by omega
      clear hsn hne
      cases hof : ofF y with
      | none =>
        have hofr : ofres (ofF (⟨y.toArray⟩ : ByteArray).data.toList) = .tuple #[.agg #[.string ⟨#[]⟩, .string ⟨#[]⟩, .bool false], .bool false] := by
          show ofres (ofF y) = _
          rw [hof]
          rfl
        rw [hofr] at CO
        rw [hof] at HSN
        simp only [List.append_nil] at HSN
        clear hof hofr
        go_wp2_with fail
        refine (CO.out _).mono ?_
        rintro e w3 ⟨rfl, b3⟩
        go_wp2_with fail
        go_roundw
        case rel => exact ⟨i + 1, xs, by omega, by go_num, HSN, Lib.hid ((HO.out.aft b3).aft ((Aft.refl _).alloc _)), by omega, Lib.hid ((HBE.out.trans (Below.mono b3.to hbs)).alloc (Nat.le_trans hbs b3.to.size) _)⟩
        case measure => simp [intOf]; omega
      | some p =>
        have hofr : ofres (ofF (⟨y.toArray⟩ : ByteArray).data.toList) = .tuple #[pairV p, .bool true] := by
          show ofres (ofF y) = _
          rw [hof]
          rfl
        rw [hofr] at CO
        rw [hof] at HSN
        unfold pairV at CO
        clear hof hofr
        obtain ⟨pn, pvv, ph⟩ := p
        simp only at CO
        go_wp2_with fail
        refine (CO.out _).mono ?_
        rintro e w3 ⟨rfl, b3⟩
        have hnew := two_new w3 (strV pn) (strV pvv) (.bool ph) (.cells #[.string ⟨pn.toArray⟩, .string ⟨pvv.toArray⟩, .bool ph] 84) 84
        have HNEW := Lib.hid hnew
        clear hnew
        have hb3 : w2.heap.size ≤ w3.heap.size := Nat.le_trans hbs b3.to.size
        have HB3 : Below w2.heap.size w2 w3 := HBE.out.trans (Below.mono b3.to hbs)
        have HO3 := Lib.hid (((HO.out.aft b3).aft ((Aft.refl _).alloc (.cells #[.string ⟨pn.toArray⟩, .string ⟨pvv.toArray⟩, .bool ph] 84))).aft ((Aft.refl _).alloc (.cells #[strV pn, strV pvv, .bool ph] 84)))
        have HB4 : Hid (Below w2.heap.size w2 ((w3.alloc (.cells #[.string ⟨pn.toArray⟩, .string ⟨pvv.toArray⟩, .bool ph] 84)).alloc (.cells #[strV pn, strV pvv, .bool ph] 84))) := Lib.hid ((HB3.alloc hb3 _).alloc (le_alloc hb3 _) _)
        go_wp2_with (at_builtin; refine wpList_pushP rfl (.tmp 37) (.tmp 39) rfl w2.heap.size _ xs rfl HO3.out (w3.heap.size + 1) 1 ⟨pn, pvv, ph⟩ rfl HNEW.out.1 HNEW.out.2.1 HNEW.out.2.2 (by omega) (le_alloc (le_alloc hb3 _) _) ?_; intro v6 w6 o6 g6)
        go_roundw
        case rel => exact ⟨i + 1, xs ++ [⟨pn, pvv, ph⟩], by omega, by go_num, HSN, Lib.hid o6, by simp; omega, Lib.hid (pushP_below HB4.out HO3.out g6 (Nat.le_refl _) (le_alloc (le_alloc hb3 _) _))⟩
        case measure => simp [intOf]; omega
    · have hkk : P.take i = P := List.take_of_length_le (by omega)
      rw [hkk] at HX
      have hfin : pairsF name.data.toList l = xs := by rw [HPP.out, HX.out]
      have HF := Lib.hid hfin
      clear hkk hfin
      go_wp2_with fail
      go_ret
      refine ⟨_, rfl, ?_, ?_⟩
      · rw [HF.out, HB.out]
        exact HO.out.base hBw
      · unfold Aft
        rw [HB.out]
        exact hb0.trans (Below.mono HBE.out hBw)

end Go.Proofs.Ytdcdckjdloddiaa
