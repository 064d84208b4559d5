/-
  The walks of keep.Plain, has and Stars.
-/
import Derived.Test.YtaaffpndfeidfaaCtlOf
namespace Go.Proofs.Ytaaffpndfeidfaa
open Go.RowKit

def plS (n : Int) : Bool := n == 200 || (n == 203 || (n == 204 || (n == 300 || (n == 301 || (n == 308 || (n == 404 || (n == 405 || (n == 410 || (n == 414 || n == 501)))))))))
set_option maxHeartbeats 2000000 in
theorem plain_st (n : Int) (w : World) :
    Calls Try.prog 35 #[.int .i64 n] w fun e w' => e = .returned (.bool (plS n)) ∧ w = w' := by
  obtain ⟨b, hb⟩ : ∃ b, plS n = b := ⟨_, rfl⟩
  rw [hb]
  have HB := Lib.hid hb
  clear hb
  go_enter Try.func35, Try.ntmps35
  go_wp2_with fail
  all_goals
    go_ret
    refine ⟨ret_bool ?_, rfl⟩
    have hb := HB.out
    unfold plS at hb
    first
      | (rw [← hb]; rfl)
      | (rw [← hb]; simp [*])
      | (rw [← hb]; symm; simp; omega)

def hasF (l : List FieldL) (name : List UInt8) : Bool := decide (0 < (valsF name l).length)
theorem has_any (v : Value) (l : List FieldL) (name : ByteArray) (w : World) (hr : RbF w v l) (hlen : l.length ≤ 1000000) (hj : (Lib.join (valsF name.data.toList l) [44, 32]).length ≤ 100000000) :
    Calls Try.prog 34 #[v, .string name] w fun e w' => e = .returned (.bool (hasF l name.data.toList)) ∧ Aft w w' := by
  have HA := Lib.hid (all_any v l name w hr hlen hj)
  obtain ⟨n, hn⟩ : ∃ n, (valsF name.data.toList l).length = n := ⟨_, rfl⟩
  have HF : Hid (hasF l name.data.toList = decide (0 < n)) := Lib.hid (by unfold hasF; rw [hn])
  rw [hn] at HA
  clear hr hlen hj hn
  go_enter Try.func34, Try.ntmps34
  go_wp2_with fail
  refine HA.out.mono ?_
  rintro e w1 ⟨rfl, a1⟩
  have A1 := Lib.hid a1
  clear a1
  go_wp2_with fail
  go_ret
  refine ⟨ret_bool ?_, A1.out⟩
  rw [HF.out]
  all_goals (try simp)

def starP (P : List (List UInt8)) : Bool := P.any fun x => x == [42] || !tokB x
def starF (l : List FieldL) : Bool := match splF (Lib.join (valsF [118, 97, 114, 121] l) [44, 32]) with | none => true | some P => starP P
theorem starP_take {P : List (List UInt8)} {k : Nat} (hk : k < P.length) (h : starP (P.take k) = false) : starP (P.take (k + 1)) = (P[k] == [42] || !tokB P[k]) := by
  unfold starP at h ⊢
  rw [List.take_succ_eq_append_getElem hk, List.any_append, h, Bool.false_or]
  simp
theorem starP_true {P : List (List UInt8)} {k : Nat} (hk : k < P.length) (h : (P[k] == [42] || !tokB P[k]) = true) : starP P = true := by
  unfold starP
  exact List.any_eq_true.2 ⟨P[k], List.getElem_mem hk, h⟩

/-- From place k on the cells of block g are the texts P; all can be written. -/
structure SFrom (w : World) (g k : Nat) (P : List (List UInt8)) : Prop where
  cell : ∀ i (h : i < P.length), k ≤ i → w.cell? ⟨g, i, none⟩ = some (strV P[i])
  free : ∀ i, i < P.length → w.frozen? ⟨g, i, none⟩ = false
theorem SFrom.put {w : World} {g k : Nat} {P : List (List UInt8)} (h : SFrom w g k P) (v : Value) : SFrom (w.setCell ⟨g, k, none⟩ v) g (k + 1) P where
  cell i hi hk := by
    rw [World.cell?_setCell_other _ _ _ _ (fun e => by have := congrArg Addr.off e; simp at this; omega)]
    exact h.cell i hi (by omega)
  free i hi := by
    rw [World.frozen?_setCell]
    exact h.free i hi
theorem OwnS.sfrom {w : World} {base g K : Nat} {P : List (List UInt8)} (h : OwnS w base (.slice (some ⟨g, 0, none⟩) P.length K) P) : SFrom w g 0 P ∧ base ≤ g := by
  obtain ⟨h1, h2⟩ := id h
  rcases h2 with ⟨e, h2⟩ | ⟨g', cap, cur, e, hb, hg, m1, m2, m3⟩
  · cases e
  · injection e with e1 _ e2
    injection e1 with e1
    injection e1 with e1
    subst e1 e2
    refine ⟨⟨fun i hi _ => ?_, fun i hi => frozen_of_row w g i _ _ hg⟩, hb⟩
    have := World.ownsRow.cellAt h i (by omega)
    rw [this]
    simp [sv, hi]

set_option maxHeartbeats 8000000 in
theorem stars_any (v : Value) (l : List FieldL) (w : World) (hr : RbF w v l) (hlen : l.length ≤ 1000000) (hj : (Lib.join (valsF [118, 97, 114, 121] l) [44, 32]).length ≤ 100000000) :
    Calls Try.prog 33 #[v] w fun e w' => ∃ u, e = .returned (.tuple #[u, .bool (starF l)]) ∧ Aft w w' := by
  have HA := Lib.hid (all_any v l ⟨#[118, 97, 114, 121]⟩ w hr hlen hj)
  obtain ⟨J, hJ⟩ : ∃ J : ByteArray, J = ⟨(Lib.join (valsF [118, 97, 114, 121] l) [44, 32]).toArray⟩ := ⟨_, rfl⟩
  have hJd : J.data.toList = Lib.join (valsF [118, 97, 114, 121] l) [44, 32] := by rw [hJ]
  have hJs : J.size ≤ 100000000 := by rw [← size_len, hJd]; exact hj
  have HSF : Hid (starF l = match splF J.data.toList with | none => true | some P => starP P) := Lib.hid (by rw [hJd]; rfl)
  have e0 : (⟨#[118, 97, 114, 121]⟩ : ByteArray).data.toList = [118, 97, 114, 121] := rfl
  rw [e0, ← hJ] at HA
  obtain ⟨n, hn⟩ : ∃ n, (valsF [118, 97, 114, 121] l).length = n := ⟨_, rfl⟩
  rw [hn] at HA
  clear hr hlen hj hn hJ hJd e0
  cases hs : splF J.data.toList with
  | none =>
    rw [hs] at HSF
    have HT := Lib.hid (fun w => split_none J w (by omega) hs)
    clear hs hJs
    go_enter Try.func33, Try.ntmps33
    go_wp2_with fail
    refine HA.out.mono ?_
    rintro e w1 ⟨rfl, a1⟩
    have A1 := Lib.hid a1
    clear a1
    go_wp2_with fail
    refine (HT.out _).mono ?_
    rintro e w2 ⟨rfl, a2⟩
    have A2 := Lib.hid (A1.out.trans a2)
    clear a2
    go_wp2_with fail
    go_ret2
    rw [HSF.out]
    exact ⟨_, rfl, A2.out⟩
  | some P =>
    rw [hs] at HSF
    have HT := Lib.hid (fun w => split_some J P w (by omega) hs)
    have HPL := Lib.hid (fun x hx => splF_len hs x hx)
    rw [size_len] at HPL
    have HJS := Lib.hid hJs
    have hnum : P.length ≤ 100000001 := by
      have := splGo_num _ _ _ P hs
      rw [size_len] at this
      omega
    clear hs hJs
    go_enter Try.func33, Try.ntmps33
    go_wp2_with fail
    refine HA.out.mono ?_
    rintro e w1 ⟨rfl, a1⟩
    have A1 := Lib.hid a1
    clear a1
    go_wp2_with fail
    refine (HT.out _).mono ?_
    rintro e w2 ⟨v', rfl, ho, a2⟩
    have A2 := Lib.hid (A1.out.trans a2)
    obtain ⟨a, g, K, rfl, m1, m2, p1, _⟩ := ho.form
    unfold maxLen at m2
    have hsf : P ≠ [] → SFrom w2 g 0 P ∧ w1.heap.size ≤ g := by
      intro hne
      obtain ⟨rfl, _⟩ := p1 hne
      exact ho.sfrom
    have hpa : P ≠ [] → a = some ⟨g, 0, none⟩ := fun h => (p1 h).1
    have HW1 : Hid (w.heap.size ≤ w1.heap.size) := Lib.hid A1.out.size
    have HSF1 := Lib.hid hsf
    have HPA := Lib.hid hpa
    clear ho p1 a2 hsf hpa
    go_wp2_with fail
    go_loopw [24] (fun vi wr => ∃ k : Nat, k ≤ P.length ∧ vi = .int .i64 (k : Int) ∧ Hid (starP (P.take k) = false) ∧ Hid (P ≠ [] → SFrom wr g k P) ∧ Hid (Aft w wr)) (fun vi _ => P.length - (intOf vi).toNat)
    case atStart => exact ⟨0, by omega, by go_num, Lib.hid rfl, Lib.hid (fun h => (HSF1.out h).1), A2⟩
    case round =>
      obtain ⟨k, hk, rfl, HK, HF, HW⟩ := hrel
      by_cases hlt : k < P.length
      · have hne : P ≠ [] := by intro e; rw [e] at hlt; simp at hlt
        obtain rfl := HPA.out hne
        have hx := (HF.out hne).cell k hlt (Nat.le_refl _)
        have hfz := (HF.out hne).free k hlt
        have hst := starP_take hlt HK.out
        have htr := fun h => starP_true (P := P) hlt h
        have hpl := HPL.out P[k] (List.getElem_mem hlt)
        have hgw := (HSF1.out hne).2
        have HGW : Hid (w.heap.size ≤ g) := Lib.hid (by have := HW1.out; omega)
        have HFP := Lib.hid (fun (v : Value) (w : World) (h : SFrom w g k P) => h.put v)
        have HFK := Lib.hid (HF.out hne)
        have HGL : Hid (g < wr.heap.size) := Lib.hid (World.block_lt_of_cell? _ _ hx)
        have HJL := HJS.out
        generalize P[k] = x at hx hst htr hpl
        have hz : (⟨x.toArray⟩ : ByteArray).size ≤ 100000000 := by show x.toArray.size ≤ _; simp; omega
        have HTK := Lib.hid (fun w => token_any ⟨x.toArray⟩ w (by unfold maxLen; omega))
        have HLW := Lib.hid (fun w => lower_any ⟨x.toArray⟩ w (by unfold maxLen; omega))
        have e1 : (⟨x.toArray⟩ : ByteArray).data.toList = x := rfl
        rw [e1] at HTK
        obtain ⟨b, hb⟩ : ∃ b, tokB x = b := ⟨_, rfl⟩
        rw [hb] at HTK hst htr
        have HST := Lib.hid hst
        have HTR := Lib.hid htr
        unfold strV at hx
        have hkl : (k : Int) < (P.length : Int) := by omega
        have hq : ((⟨x.toArray⟩ : ByteArray).toList == [42]) = (x == [42]) := by rw [Lib.toList_data]
        obtain ⟨q, hqq⟩ : ∃ q, (x == [42]) = q := ⟨_, rfl⟩
        rw [hqq] at hq HST HTR
        obtain ⟨X, hX⟩ : ∃ X : ByteArray, (⟨x.toArray⟩ : ByteArray) = X := ⟨_, rfl⟩
        rw [hX] at hx HTK HLW hq hz
        have HZ := Lib.hid hz
        clear hst htr hpl hgw HJL hb hqq e1 hz hX hne
        cases q
        · cases b
          · have HT1 : Hid (starP P = true) := Lib.hid (HTR.out rfl)
            go_wp2_with fail
            refine (HTK.out _).mono ?_
            rintro e w3 ⟨rfl, rfl⟩
            go_wp2_with fail
            go_ret2
            rw [show starF l = true by rw [HSF.out]; exact HT1.out]
            exact ⟨_, rfl, HW.out⟩
          · go_wp2_with fail
            refine (HTK.out _).mono ?_
            rintro e w3 ⟨rfl, rfl⟩
            go_wp2_with fail
            refine (HLW.out _).mono ?_
            rintro e w4 ⟨rfl, a4⟩
            have hF4 : SFrom w4 g k P := ⟨fun i hi hk => by rw [Below.cell a4.to (p := ⟨g, i, none⟩) HGL.out]; exact HFK.out.cell i hi hk, fun i hi => by rw [Below.frozen a4.to (p := ⟨g, i, none⟩) HGL.out]; exact HFK.out.free i hi⟩
            have c4 := hF4.cell k hlt (Nat.le_refl _)
            have f4 := hF4.free k hlt
            obtain ⟨cv, hcv⟩ : ∃ cv, w4.cell? ⟨g, k, none⟩ = some cv := ⟨_, c4⟩
            have HF4 := Lib.hid hF4
            have HA4 := Lib.hid (HW.out.trans a4)
            have HK2 : Hid (starP (P.take (k + 1)) = false) := Lib.hid (by rw [HST.out]; rfl)
            clear hF4 c4 a4
            unfold strV at *
            go_wp2_with fail
            go_roundw
            case rel => exact ⟨k + 1, by omega, by go_num, HK2, Lib.hid (fun _ => HF4.out.put _), Lib.hid (bset HA4.out _ _ _ HGW.out)⟩
            case measure => simp [intOf]; omega
        · have HT1 : Hid (starP P = true) := Lib.hid (HTR.out (by simp))
          go_wp2_with fail
          go_ret2
          rw [show starF l = true by rw [HSF.out]; exact HT1.out]
          first | exact ⟨_, rfl, HW.out⟩ | exact ⟨rfl, HW.out⟩ | exact ⟨by simp, HW.out⟩ | trace_state
      · have hk2 : k = P.length := by omega
        subst hk2
        have HT0 : Hid (starP P = false) := Lib.hid (by rw [← List.take_of_length_le (Nat.le_refl P.length)]; exact HK.out)
        go_wp2_with fail
        go_ret2
        rw [show starF l = false by rw [HSF.out]; exact HT0.out]
        exact ⟨_, rfl, HW.out⟩

end Go.Proofs.Ytaaffpndfeidfaa
