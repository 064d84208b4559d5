/-
  The walk of the reference's All.
-/
import Derived.Test.YtdcdckjdloddiaaTokAll
namespace Go.Proofs.Ytdcdckjdloddiaa
open Go.RowKit

theorem join_snoc (xs : List (List UInt8)) (y : List UInt8) : Lib.join (xs ++ [y]) [44, 32] = if xs.length = 0 then y else Lib.join xs [44, 32] ++ ([44, 32] ++ y) := by
  cases xs with
  | nil => exact Lib.join_one y _
  | cons x r =>
    rw [List.cons_append, Lib.join_cons, Lib.join_cons, if_neg (by simp)]
    unfold Lib.joinTail
    simp
theorem str_app2 (a b : ByteArray) : (a ++ b).data.toList = a.data.toList ++ b.data.toList := by rw [ByteArray.data_append, Array.toList_append]

theorem join_len (xs : List (List UInt8)) (h : ∀ x ∈ xs, x.length ≤ 2000) : (Lib.join xs [44, 32]).length ≤ 2002 * xs.length := by
  cases xs with
  | nil => simp [Lib.join_nil]
  | cons x r =>
    rw [Lib.join_cons, List.length_append]
    have h1 := h x List.mem_cons_self
    have h2 : ∀ r : List (List UInt8), (∀ x ∈ r, x.length ≤ 2000) → (Lib.joinTail [44, 32] r).length ≤ 2002 * r.length := by
      intro r
      induction r with
      | nil => intro _; simp [Lib.joinTail]
      | cons y r ih =>
        intro hr
        have e : Lib.joinTail [44, 32] (y :: r) = ([44, 32] ++ y) ++ Lib.joinTail [44, 32] r := by simp [Lib.joinTail]
        have h3 := hr y List.mem_cons_self
        have h4 := ih (fun z hz => hr z (List.mem_cons_of_mem _ hz))
        rw [e, List.length_append, List.length_append, List.length_cons]
        simp only [List.length_cons, List.length_nil]
        omega
    have h3 := h2 r (fun z hz => h z (List.mem_cons_of_mem _ hz))
    rw [List.length_cons]
    omega
theorem vals_len (name : List UInt8) (l : List FieldL) (h : ∀ f ∈ l, f.2.length ≤ 2000) : (∀ x ∈ valsF name l, x.length ≤ 2000) ∧ (valsF name l).length ≤ l.length := by
  unfold valsF
  constructor
  · intro x hx
    obtain ⟨f, hf, rfl⟩ := List.mem_map.1 hx
    exact h f (List.mem_filter.1 hf).1
  · rw [List.length_map]
    exact List.length_filter_le _ _
set_option maxHeartbeats 4000000 in
theorem rall_any (v : Value) (l : List FieldL) (name : ByteArray) (w : World) (hr : RbF w v l) (hlen : l.length ≤ 1000000) (hv : ∀ f ∈ l, f.2.length ≤ 2000) :
    Calls Try.prog 28 #[v, .string name] w fun e w' => e = .returned (.tuple #[.string ⟨(Lib.join (valsF name.data.toList l) [44, 32]).toArray⟩, .int .i64 ((valsF name.data.toList l).length : Int)]) ∧ Aft w w' := by
  obtain ⟨a1, c1, b1, o1, rfl, m1, m2, p1, q1, r1⟩ := hr.open
  unfold maxLen at m2
  have P1 := Lib.hid p1
  have R1 := Lib.hid r1
  have HV := Lib.hid hv
  clear hr p1 q1 r1 hv
  go_enter Try.func28, Try.ntmps28
  go_wp2_with fail
  go_loopw [6, 7, 8] (fun vs vn vi wr => ∃ (k : Nat) (xs : List (List UInt8)) (x : ByteArray), k ≤ l.length ∧ vi = .int .i64 (k : Int) ∧ vs = .string x ∧ vn = .int .i64 (xs.length : Int) ∧ Hid (valsF name.data.toList (l.take k) = xs) ∧ Hid (x.data.toList = Lib.join xs [44, 32]) ∧ xs.length ≤ k ∧ Hid (wr = w) ∧ x.size ≤ 2002 * k) (fun _ _ vi _ => l.length - (intOf vi).toNat)
  case atStart => exact ⟨0, [], _, by omega, by go_num, rfl, by go_num, Lib.hid rfl, Lib.hid rfl, by simp, Lib.hid rfl, by decide⟩
  case round =>
    obtain ⟨k, xs, x, hk, rfl, rfl, rfl, HX, HS, hxs, HW, hxz⟩ := hrel
    by_cases hlt : k < l.length
    · have hne : l ≠ [] := by intro e; rw [e] at hlt; simp at hlt
      have hpa := P1.out hne
      have hx := R1.out k hlt
      rw [← HW.out] at hx
      obtain ⟨hx1, hx2⟩ := hx
      have hsn := valsF_snoc name.data.toList (l.take k) l[k]
      rw [← List.take_succ_eq_append_getElem hlt, HX.out] at hsn
      have HSN := Lib.hid hsn
      have hfl := HV.out l[k] (List.getElem_mem hlt)
      generalize l[k] = f at hx1 hx2 HSN hfl
      obtain ⟨f1, f2⟩ := f
      unfold strV at hx1 hx2
      simp only at hx1 hx2 hfl
      subst hpa
      have hk6 : k ≤ 1000000 := by omega
      have hkl : (k : Int) < (l.length : Int) := by omega
      clear hsn hne
      cases hb : (f1 == name.data.toList)
      · have hb' : (f1 == name.toList) = false := by rw [Lib.toList_data]; exact hb
        have hb'' : (f1 != name.toList) = true := by unfold bne; rw [hb']; rfl
        have HS2 : Hid (valsF name.data.toList (l.take (k + 1)) = xs) := Lib.hid (by rw [HSN.out]; simp [hb])
        clear hb
        go_wp2_with fail
        go_roundw
        case rel => exact ⟨k + 1, xs, x, by omega, by go_num, rfl, rfl, HS2, HS, by omega, HW, by omega⟩
        case measure => simp [intOf] <;> omega
      · have hb' : (f1 == name.toList) = true := by rw [Lib.toList_data]; exact hb
        have hb'' : (f1 != name.toList) = false := by unfold bne; rw [hb']; rfl
        have HS2 : Hid (valsF name.data.toList (l.take (k + 1)) = xs ++ [f2]) := Lib.hid (by rw [HSN.out]; simp [hb])
        clear hb
        by_cases h0 : xs.length = 0
        · have h0' : (xs.length : Int) ≤ 0 := by omega
          have HJ : Hid (f2 = Lib.join (xs ++ [f2]) [44, 32]) := Lib.hid (by rw [join_snoc, if_pos h0])
          have HE : Hid (x.data.toList = []) := Lib.hid (by rw [HS.out, List.eq_nil_of_length_eq_zero h0]; rfl)
          clear h0
          go_wp2_with fail
          go_roundw
          case rel => exact ⟨k + 1, xs ++ [f2], x ++ ⟨f2.toArray⟩, by omega, by go_num, rfl, by simp, HS2, Lib.hid (by rw [str_app2, HE.out]; exact HJ.out), by simp; omega, HW, by rw [ByteArray.size_append]; show x.size + f2.length ≤ _; omega⟩
          case measure => simp [intOf] <;> omega
        · have h0' : 0 < (xs.length : Int) := by omega
          have HJ : Hid (Lib.join (xs ++ [f2]) [44, 32] = Lib.join xs [44, 32] ++ ([44, 32] ++ f2)) := Lib.hid (by rw [join_snoc, if_neg h0])
          clear h0
          go_wp2_with fail
          go_roundw
          case rel => exact ⟨k + 1, xs ++ [f2], x ++ ⟨#[44, 32]⟩ ++ ⟨f2.toArray⟩, by omega, by go_num, rfl, by simp, HS2, Lib.hid (by rw [HJ.out, ← HS.out, str_app2, str_app2, List.append_assoc]), by simp; omega, HW, by rw [ByteArray.size_append, ByteArray.size_append]; show x.size + 2 + f2.length ≤ _; omega⟩
          case measure => simp [intOf] <;> omega
    · have hkk : l.take k = l := List.take_of_length_le (by omega)
      rw [hkk] at HX
      have HR : Hid (Ending.returned (.tuple #[.string x, .int .i64 (xs.length : Int)]) = Ending.returned (.tuple #[.string ⟨(Lib.join (valsF name.data.toList l) [44, 32]).toArray⟩, .int .i64 ((valsF name.data.toList l).length : Int)])) := Lib.hid (by rw [HX.out, ← HS.out, mk_toList])
      clear hkk
      go_wp2_with fail
      go_ret2
      refine ⟨?_, by rw [HW.out]; exact Aft.refl _⟩
      exact HR.out

end Go.Proofs.Ytdcdckjdloddiaa
