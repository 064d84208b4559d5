/-
  The walks of fields.Static, Bytes and Sum.
-/
import Derived.Test.YtdachmjchgnabaaDoorFldAll
import Derived.Laws.Rows
import Derived.Laws.Tables
import Derived.RegionTactic
namespace Go.Proofs.YtdachmjchgnabaaDoor
open Go.RowKit

theorem bcellF {W w1 : World} (hb : Below W.heap.size W w1) : (∀ b o, b < W.heap.size → w1.cell? ⟨b, o, none⟩ = W.cell? ⟨b, o, none⟩) ∧ (∀ b o, b < W.heap.size → w1.frozen? ⟨b, o, none⟩ = W.frozen? ⟨b, o, none⟩) :=
  ⟨fun b o h => hb.cell (p := ⟨b, o, none⟩) h, fun b o h => hb.frozen (p := ⟨b, o, none⟩) h⟩

def fieldV (f : FieldL) : Value := .agg #[.string ⟨f.1.toArray⟩, .string ⟨f.2.toArray⟩]
def fsize (f : FieldL) : Nat := f.1.length + f.2.length + 32
def sumF (l : List FieldL) : Nat := (l.map fsize).sum
theorem sumF_nil : sumF [] = 0 := rfl
theorem sumF_cons (f : FieldL) (l : List FieldL) : sumF (f :: l) = fsize f + sumF l := by simp [sumF]
theorem sumF_append (a b : List FieldL) : sumF (a ++ b) = sumF a + sumF b := by simp [sumF]
theorem sumF_mem {f : FieldL} {l : List FieldL} (h : f ∈ l) : fsize f ≤ sumF l := by
  induction l with
  | nil => simp at h
  | cons g l ih =>
    rw [sumF_cons]
    rcases List.mem_cons.1 h with rfl | h
    · omega
    · have := ih h; omega
theorem sumF_take (l : List FieldL) (k : Nat) : sumF (l.take k) ≤ sumF l := by
  have : sumF (l.take k) + sumF (l.drop k) = sumF l := by rw [← sumF_append, List.take_append_drop]
  omega
theorem sumF_len (l : List FieldL) : 32 * l.length ≤ sumF l := by
  induction l with
  | nil => simp
  | cons f l ih => rw [sumF_cons, List.length_cons]; unfold fsize; omega

theorem bytes_any (f : FieldL) (h : fsize f ≤ 1000000000000) (w : World) :
    Calls Tryd.prog 9 #[fieldV f] w fun e w' => e = .returned (.int .i64 (fsize f : Int)) ∧ Aft w w' := by
  obtain ⟨n, hn⟩ : ∃ n, (⟨f.1.toArray⟩ : ByteArray).size = n := ⟨_, rfl⟩
  obtain ⟨m, hm⟩ : ∃ m, (⟨f.2.toArray⟩ : ByteArray).size = m := ⟨_, rfl⟩
  have hz : fsize f = n + m + 32 := by
    subst hn hm
    show _ = f.1.toArray.size + f.2.toArray.size + 32
    simp [fsize]
  rw [hz] at h ⊢
  unfold fieldV
  generalize (⟨f.1.toArray⟩ : ByteArray) = A at hn ⊢
  generalize (⟨f.2.toArray⟩ : ByteArray) = B at hm ⊢
  have g1 : IntKind.i64.wrap ((n : Int) + (m : Int)) = (n : Int) + (m : Int) := IntWalk.i64_in _ (by omega)
  have g2 : IntKind.i64.wrap ((n : Int) + (m : Int) + 32) = (n : Int) + (m : Int) + 32 := IntWalk.i64_in _ (by omega)
  subst hn hm
  clear hz
  go_enter Tryd.func9, Tryd.ntmps9
  go_wp2_with fail
  go_ret
  exact ⟨ret_int (by push_cast; omega), (Aft.refl w).alloc _⟩

set_option maxHeartbeats 2000000 in
theorem sum_any (v : Value) (l : List FieldL) (w : World) (hr : RbF w v l) (hs : sumF l ≤ 1000000000000) :
    Calls Tryd.prog 10 #[v] w fun e w' => e = .returned (.int .i64 (sumF l : Int)) ∧ Aft w w' := by
  obtain ⟨a1, c1, b1, o1, rfl, m1, m2, p1, q1, r1⟩ := hr.open
  unfold maxLen at m2
  have P1 := Lib.hid p1
  have Q1 := Lib.hid q1
  have R1 := Lib.hid r1
  have HS := Lib.hid hs
  clear hr p1 q1 r1 hs
  go_enter Tryd.func10, Tryd.ntmps10
  go_wp2_with fail
  go_loopw [3, 8] (fun vs vi wr => ∃ (k : Nat) (s : Nat), k ≤ l.length ∧ vi = .int .i64 (k : Int) ∧ vs = .int .i64 (s : Int) ∧ Hid (sumF (l.take k) = s) ∧ Hid (Aft w wr)) (fun _ vi _ => l.length - (intOf vi).toNat)
  case atStart => exact ⟨0, 0, by omega, by go_num, by go_num, Lib.hid rfl, Lib.hid (Aft.refl _)⟩
  case round =>
    obtain ⟨k, s, hk, rfl, rfl, HX, HA⟩ := hrel
    by_cases hlt : k < l.length
    · have hne : l ≠ [] := by intro e; rw [e] at hlt; simp at hlt
      have hpa := P1.out hne
      have hbb := Q1.out hne
      have hx := R1.out k hlt
      have hx1 : wr.cell? ⟨b1, o1 + k * 2, none⟩ = some (strV l[k].1) := by
        rw [Below.cell HA.out.to (p := ⟨b1, o1 + k * 2, none⟩) hbb]
        exact hx.1
      have hx2 : wr.cell? ⟨b1, o1 + k * 2 + 1, none⟩ = some (strV l[k].2) := by
        rw [Below.cell HA.out.to (p := ⟨b1, o1 + k * 2 + 1, none⟩) hbb]
        exact hx.2
      have hsn : sumF (l.take (k + 1)) = s + fsize l[k] := by
        rw [List.take_succ_eq_append_getElem hlt, sumF_append, HX.out]
        simp [sumF]
      have hle : s + fsize l[k] ≤ 1000000000000 := by
        rw [← hsn]
        exact Nat.le_trans (sumF_take l (k + 1)) HS.out
      have HSN := Lib.hid hsn
      generalize l[k] = f at hx1 hx2 HSN hle
      have HB := Lib.hid (bytes_any f (by omega))
      have HLE := Lib.hid hle
      unfold strV at hx1 hx2
      subst hpa
      have hkl : (k : Int) < (l.length : Int) := by omega
      clear hx hsn hne hle
      go_wp2_with fail
      refine (HB.out _).mono ?_
      rintro e w2 ⟨rfl, a2⟩
      have g1 : IntKind.i64.wrap ((s : Int) + (fsize f : Int)) = (s : Int) + (fsize f : Int) := IntWalk.i64_in _ (by have := HLE.out; omega)
      have HA2 : Hid (Aft w w2) := Lib.hid ((HA.out.alloc _).trans a2)
      clear a2
      go_wp2_with fail
      go_roundw
      case rel => exact ⟨k + 1, s + fsize f, by omega, by go_num, by push_cast; rfl, HSN, HA2⟩
      case measure => simp [intOf]; omega
    · have hk2 : k = l.length := by omega
      subst hk2
      have HT : Hid (s = sumF l) := Lib.hid (by rw [← HX.out, List.take_of_length_le (Nat.le_refl _)])
      go_wp2_with fail
      go_ret
      exact ⟨ret_int (by rw [HT.out]), HA.out⟩

/-- The field of a number, and whether there is one. -/
def statF (i : Int) : FieldL := if 1 ≤ i ∧ i ≤ 61 then staticT.getD (i - 1).toNat ([], []) else ([], [])
def statB (i : Int) : Bool := decide (1 ≤ i ∧ i ≤ 61)
theorem statF_out {i : Int} (h : ¬ (1 ≤ i ∧ i ≤ 61)) : statF i = ([], []) ∧ statB i = false := by
  unfold statF statB
  rw [if_neg h]
  exact ⟨rfl, by simpa using h⟩
theorem statF_in (j : Nat) (h : j < 61) : (∃ hl : j < staticT.length, statF ((j : Int) + 1) = staticT[j]'hl) ∧ statB ((j : Int) + 1) = true := by
  have hl : j < staticT.length := by rw [staticT_len]; exact h
  unfold statF statB
  rw [if_pos (by omega)]
  refine ⟨⟨hl, ?_⟩, by simp; omega⟩
  have : ((j : Int) + 1 - 1).toNat = j := by omega
  rw [this, List.getD_eq_getElem?_getD, List.getElem?_eq_getElem hl]
  rfl

set_option maxHeartbeats 2000000 in
theorem static_any (i : Int) (h0 : -9223372036854775808 ≤ i) (h1 : i ≤ 9223372036854775807) (w : World) (hm : MaxOk w) :
    Calls Tryd.prog 7 #[.int .i64 i] w fun e w' => e = .returned (.tuple #[fieldV (statF i), .bool (statB i)]) ∧ Aft w w' := by
  have HM : Hid (MaxOk (w.alloc (.cells #[.string ⟨#[]⟩, .string ⟨#[]⟩] 23))) := Lib.hid (hm.alloc _)
  go_enter Tryd.func7, Tryd.ntmps7
  go_wp2_with fail
  refine (all_fields _ HM.out).mono ?_
  rintro e w1 ⟨v, rfl, ho, b1⟩
  obtain ⟨a, g, k, rfl, m1, _, hp, hc⟩ := ho.form
  obtain ⟨hcl, hfr⟩ := bcellF b1.to
  have hne : staticT ≠ [] := by intro e; have := staticT_len; rw [e] at this; cases this
  obtain ⟨rfl, hg⟩ := hp hne
  have hb : Below w.heap.size w w1 := ((Below.refl _ _).alloc (Nat.le_refl _) _).trans (Below.mono b1.to (by simp))
  have HB := Lib.hid hb
  have HC := Lib.hid hc
  rw [staticT_len] at m1 ⊢
  clear ho hp hc hb b1 hne hm HM
  by_cases c1 : i < 1
  · obtain ⟨e1, e2⟩ := statF_out (i := i) (by omega)
    have E1 := Lib.hid e1
    have E2 := Lib.hid e2
    clear e1 e2
    go_wp2_with fail
    refine bodyPost_ret (v := .tuple #[.agg #[.string ⟨#[]⟩, .string ⟨#[]⟩], .bool false]) (by simp [results, Tryd.results7, go_sem, hcl]) rfl ?_
    rw [E1.out, E2.out]
    exact ⟨rfl, (HB.out.setCell (p := ⟨w.heap.size, 0, none⟩) (Nat.le_refl _) _).setCell (p := ⟨w.heap.size, 1, none⟩) (Nat.le_refl _) _⟩
  · by_cases c2 : i > 61
    · obtain ⟨e1, e2⟩ := statF_out (i := i) (by omega)
      have E1 := Lib.hid e1
      have E2 := Lib.hid e2
      clear e1 e2
      go_wp2_with fail
      refine bodyPost_ret (v := .tuple #[.agg #[.string ⟨#[]⟩, .string ⟨#[]⟩], .bool false]) (by simp [results, Tryd.results7, go_sem, hcl]) rfl ?_
      rw [E1.out, E2.out]
      exact ⟨rfl, (HB.out.setCell (p := ⟨w.heap.size, 0, none⟩) (Nat.le_refl _) _).setCell (p := ⟨w.heap.size, 1, none⟩) (Nat.le_refl _) _⟩
    · obtain ⟨j, hj⟩ : ∃ j : Nat, i = (j : Int) + 1 := ⟨(i - 1).toNat, by omega⟩
      obtain ⟨⟨hl, e1⟩, e2⟩ := statF_in j (by omega)
      rw [← hj] at e1 e2
      have hx := HC.out j hl
      generalize staticT[j] = f at hx e1
      have E1 := Lib.hid e1
      have E2 := Lib.hid e2
      obtain ⟨x1, x2⟩ := hx
      unfold strV at x1 x2
      have g1 : IntKind.i64.wrap (i - 1) = (j : Int) := by rw [show i - 1 = (j : Int) by omega]; exact IntWalk.i64_in _ (by omega)
      have i1 : (j : Int) < 61 := by omega
      clear e1 e2 HC hl hj h0 h1 hg m1
      go_wp2_with fail
      refine bodyPost_ret (v := .tuple #[fieldV f, .bool true]) (by simp [results, Tryd.results7, go_sem, hcl, fieldV]) rfl ?_
      rw [E1.out, E2.out]
      exact ⟨rfl, (HB.out.setCell (p := ⟨w.heap.size, 0, none⟩) (Nat.le_refl _) _).setCell (p := ⟨w.heap.size, 1, none⟩) (Nat.le_refl _) _⟩

end Go.Proofs.YtdachmjchgnabaaDoor
