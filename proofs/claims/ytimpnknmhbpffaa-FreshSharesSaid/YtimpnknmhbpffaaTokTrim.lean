/-
  The walks of token's Trim and quoted.
-/
import Derived.Test.YtimpnknmhbpffaaTokSign
namespace Go.Proofs.Ytimpnknmhbpffaa
open Go.RowKit

theorem trimR_snoc_no {l : List UInt8} {c : UInt8} (h : blankB c = false) : trimR (l ++ [c]) = l ++ [c] := by
  unfold trimR
  rw [List.reverse_append, List.reverse_singleton, List.singleton_append, List.dropWhile_cons, if_neg (by simp [h])]
  simp
theorem trimR_snoc_yes {l : List UInt8} {c : UInt8} (h : blankB c = true) : trimR (l ++ [c]) = trimR l := by
  unfold trimR
  rw [List.reverse_append, List.reverse_singleton, List.singleton_append, List.dropWhile_cons, if_pos h]
theorem trimR_nil : trimR [] = [] := rfl
theorem snoc_of {l : List UInt8} {n : Nat} (h : l.length = n + 1) : l = l.take n ++ [l[n]'(by omega)] := by
  have := List.take_succ_eq_append_getElem (l := l) (i := n) (by omega)
  rw [← this, List.take_of_length_le (by omega)]
theorem blank_of (c : UInt8) (b : Bool) (h : blankB c = b) (w : World) :
    Calls Try.prog 94 #[.int .u8 (c.toNat : Int)] w fun e w' => e = .returned (.bool b) ∧ w = w' := by
  rw [← h]
  exact blank_any c w
theorem mk_toList (s : ByteArray) : (⟨s.data.toList.toArray⟩ : ByteArray) = s := by cases s; rfl
theorem ne_empty {t : ByteArray} (h : 0 < t.size) : t.toList.isEmpty = false := by
  rw [Lib.toList_data]
  have := size_len t
  cases ht : t.data.toList with
  | nil => rw [ht] at this; simp at this; omega
  | cons a r => rfl
theorem is_empty {t : ByteArray} (h : t.size = 0) : t.toList.isEmpty = true ∧ t.data.toList = [] := by
  have h2 := size_len t
  rw [h] at h2
  have := List.eq_nil_of_length_eq_zero h2
  exact ⟨by rw [Lib.toList_data, this]; rfl, this⟩

set_option maxHeartbeats 2000000 in
theorem trim_same (s : ByteArray) (w : World) (hs : s.size ≤ maxLen) :
    Calls Try.prog 84 #[.string s] w fun e w' => e = .returned (.string ⟨(trimL s.data.toList).toArray⟩) ∧ w' = w := by
  unfold maxLen at hs
  go_enter Try.func84, Try.ntmps84
  go_wp2_with fail
  go_loopw [0] (fun v wr => ∃ t : ByteArray, v = .string t ∧ t.size ≤ s.size ∧ Hid (t.data.toList.dropWhile blankB = s.data.toList.dropWhile blankB) ∧ Hid (wr = w)) (fun v _ => match v with | .string t => t.size | _ => 0)
  case atStart => exact ⟨s, rfl, Nat.le_refl _, Lib.hid rfl, Lib.hid rfl⟩
  case round =>
    obtain ⟨t, rfl, ht, HT, hw⟩ := hrel
    by_cases h0 : 0 < t.size
    · have hne := ne_empty h0
      have hsz := size_len t
      obtain ⟨b, hb⟩ : ∃ b, blankB (t[0]) = b := ⟨_, rfl⟩
      have HBl := Lib.hid (blank_of (t[0]) b hb)
      have hcons : t.data.toList = t[0] :: t.data.toList.drop 1 := by
        have := List.drop_eq_getElem_cons (l := t.data.toList) (i := 0) (by omega)
        rw [List.drop_zero] at this
        exact this
      cases b
      · have hend : t.data.toList = s.data.toList.dropWhile blankB := by
          have := HT.out
          rw [hcons, List.dropWhile_cons, if_neg (by simp [hb]), ← hcons] at this
          exact this
        have HE : Hid (trimR t.data.toList = trimL s.data.toList) := Lib.hid (by rw [hend]; rfl)
        clear hend hb hcons
        go_wp2_with (go_at_call 94; refine (HBl.out _).mono ?_; rintro e w1 ⟨rfl, rfl⟩)
        go_loopw [0] (fun v wr => ∃ u : ByteArray, v = .string u ∧ u.size ≤ s.size ∧ Hid (trimR u.data.toList = trimL s.data.toList) ∧ Hid (wr = w)) (fun v _ => match v with | .string t => t.size | _ => 0)
        case atStart => exact ⟨t, rfl, ht, HE, hw⟩
        case round =>
          obtain ⟨u, rfl, hu, HU, hw2⟩ := hrel
          by_cases h1 : 0 < u.size
          · have hne2 := ne_empty h1
            have hsz2 := size_len u
            have hsnoc := snoc_of (l := u.data.toList) (n := u.size - 1) (by omega)
            have hge : u[u.size - 1] = u.data.toList[u.size - 1]'(by omega) := rfl
            rw [← hge] at hsnoc
            obtain ⟨b, hb⟩ : ∃ b, blankB (u[u.size - 1]) = b := ⟨_, rfl⟩
            have HBl2 := Lib.hid (blank_of (u[u.size - 1]) b hb)
            have e1 : (u.size : Int) - 1 = ((u.size - 1 : Nat) : Int) := by omega
            cases b
            · have hend : u.data.toList = trimL s.data.toList := by
                have h2 := HU.out
                rw [hsnoc, trimR_snoc_no hb, ← hsnoc] at h2
                exact h2
              have HE2 := Lib.hid hend
              clear hend hb hsnoc hge
              go_wp2_with (go_at_call 94; refine (HBl2.out _).mono ?_; rintro e w1 ⟨rfl, rfl⟩)
              go_ret
              rw [← HE2.out, mk_toList]
              exact ⟨rfl, hw2.out⟩
            · have hnext : trimR (u.extract 0 (u.size - 1)).data.toList = trimL s.data.toList := by
                rw [← HU.out, extract_front]
                conv => rhs; rw [hsnoc, trimR_snoc_yes hb]
              have hz2 : (u.extract 0 (u.size - 1)).size = u.size - 1 := by rw [ByteArray.size_extract]; omega
              have HN2 := Lib.hid hnext
              have HZ2 := Lib.hid hz2
              clear hnext hb hsnoc hge hz2
              go_wp2_with (go_at_call 94; refine (HBl2.out _).mono ?_; rintro e w1 ⟨rfl, rfl⟩)
              go_roundw
              case rel => exact ⟨_, rfl, by rw [HZ2.out]; omega, HN2, hw2⟩
              case measure => simp only; rw [HZ2.out]; omega
          · obtain ⟨he1, he2⟩ := is_empty (t := u) (by omega)
            have hend : u.data.toList = trimL s.data.toList := by
              rw [← HU.out, he2]
              rfl
            have HE2 := Lib.hid hend
            clear hend he2
            go_wp2_with fail
            go_ret
            rw [← HE2.out, mk_toList]
            exact ⟨rfl, hw2.out⟩
      · have hnext : (t.extract 1 t.size).data.toList.dropWhile blankB = s.data.toList.dropWhile blankB := by
          rw [← HT.out, extract_end]
          conv => rhs; rw [hcons, List.dropWhile_cons, if_pos hb]
        have HN := Lib.hid hnext
        have hz2 : (t.extract 1 t.size).size = t.size - 1 := by rw [ByteArray.size_extract]; omega
        have HZ := Lib.hid hz2
        clear hnext hb hcons hz2
        go_wp2_with (go_at_call 94; refine (HBl.out _).mono ?_; rintro e w1 ⟨rfl, rfl⟩)
        go_roundw
        case rel => exact ⟨_, rfl, by rw [HZ.out]; omega, HN, hw⟩
        case measure => simp only; rw [HZ.out]; omega
    · obtain ⟨he1, he2⟩ := is_empty (t := t) (by omega)
      have HE : Hid (trimR t.data.toList = trimL s.data.toList) := Lib.hid (by
        unfold trimL
        rw [← HT.out, he2]
        rfl)
      clear he2
      go_wp2_with fail
      go_loopw [0] (fun v wr => ∃ u : ByteArray, v = .string u ∧ u.size ≤ s.size ∧ Hid (trimR u.data.toList = trimL s.data.toList) ∧ Hid (wr = w)) (fun v _ => match v with | .string t => t.size | _ => 0)
      case atStart => exact ⟨t, rfl, ht, HE, hw⟩
      case round =>
        obtain ⟨u, rfl, hu, HU, hw2⟩ := hrel
        by_cases h1 : 0 < u.size
        · have hne2 := ne_empty h1
          have hsz2 := size_len u
          have hsnoc := snoc_of (l := u.data.toList) (n := u.size - 1) (by omega)
          have hge : u[u.size - 1] = u.data.toList[u.size - 1]'(by omega) := rfl
          rw [← hge] at hsnoc
          obtain ⟨b, hb⟩ : ∃ b, blankB (u[u.size - 1]) = b := ⟨_, rfl⟩
          have HBl2 := Lib.hid (blank_of (u[u.size - 1]) b hb)
          have e1 : (u.size : Int) - 1 = ((u.size - 1 : Nat) : Int) := by omega
          cases b
          · have hend : u.data.toList = trimL s.data.toList := by
              have h2 := HU.out
              rw [hsnoc, trimR_snoc_no hb, ← hsnoc] at h2
              exact h2
            have HE2 := Lib.hid hend
            clear hend hb hsnoc hge
            go_wp2_with (go_at_call 94; refine (HBl2.out _).mono ?_; rintro e w1 ⟨rfl, rfl⟩)
            go_ret
            rw [← HE2.out, mk_toList]
            exact ⟨rfl, hw2.out⟩
          · have hnext : trimR (u.extract 0 (u.size - 1)).data.toList = trimL s.data.toList := by
              rw [← HU.out, extract_front]
              conv => rhs; rw [hsnoc, trimR_snoc_yes hb]
            have hz2 : (u.extract 0 (u.size - 1)).size = u.size - 1 := by rw [ByteArray.size_extract]; omega
            have HN2 := Lib.hid hnext
            have HZ2 := Lib.hid hz2
            clear hnext hb hsnoc hge hz2
            go_wp2_with (go_at_call 94; refine (HBl2.out _).mono ?_; rintro e w1 ⟨rfl, rfl⟩)
            go_roundw
            case rel => exact ⟨_, rfl, by rw [HZ2.out]; omega, HN2, hw2⟩
            case measure => simp only; rw [HZ2.out]; omega
        · obtain ⟨he1, he2⟩ := is_empty (t := u) (by omega)
          have hend : u.data.toList = trimL s.data.toList := by
            rw [← HU.out, he2]
            rfl
          have HE2 := Lib.hid hend
          clear hend he2
          go_wp2_with fail
          go_ret
          rw [← HE2.out, mk_toList]
          exact ⟨rfl, hw2.out⟩

theorem trim_any (s : ByteArray) (w : World) (hs : s.size ≤ maxLen) :
    Calls Try.prog 84 #[.string s] w fun e w' => e = .returned (.string ⟨(trimL s.data.toList).toArray⟩) ∧ Aft w w' :=
  (trim_same s w hs).mono fun _ _ ⟨he, hw⟩ => ⟨he, by rw [hw]; exact Aft.refl _⟩

/-! ### quoted -/
def qres (o : Option Nat) (a : Nat) : Value := match o with | none => .tuple #[.int .i64 0, .bool false] | some n => .tuple #[.int .i64 ((a + n : Nat) : Int), .bool true]
theorem q_esc {l : List UInt8} {i : Nat} (hi : i < l.length) (h : l[i] = 92) : qend (l.drop i) = (qend (l.drop (i + 2))).map (· + 2) := by
  rw [List.drop_eq_getElem_cons hi]
  conv => lhs; unfold qend
  rw [if_pos h]
  by_cases h2 : i + 1 < l.length
  · rw [List.drop_eq_getElem_cons h2]
  · rw [List.drop_eq_nil_of_le (by omega : l.length ≤ i + 1), List.drop_eq_nil_of_le (by omega : l.length ≤ i + 2)]
    rfl
theorem q_end {l : List UInt8} {i : Nat} (hi : i < l.length) (h : l[i] = 34) : qend (l.drop i) = some 1 := by
  rw [List.drop_eq_getElem_cons hi]
  unfold qend
  rw [if_neg (by rw [h]; decide), if_pos h]
theorem q_other {l : List UInt8} {i : Nat} (hi : i < l.length) (h : l[i] ≠ 92) (h2 : l[i] ≠ 34) : qend (l.drop i) = (qend (l.drop (i + 1))).map (· + 1) := by
  rw [List.drop_eq_getElem_cons hi]
  conv => lhs; unfold qend
  rw [if_neg h, if_neg h2]
theorem byte_eq {c d : UInt8} : c = d ↔ (c.toNat : Int) = (d.toNat : Int) := by
  rw [← UInt8.toNat_inj]
  omega
set_option maxHeartbeats 1000000 in
theorem quoted_any (s : ByteArray) (a : Nat) (w : World) (hs : s.size ≤ 1000000000000) (ha : a < s.size) :
    Calls Try.prog 85 #[.string s, .int .i64 (a : Int)] w fun e w' => e = .returned (qres (qend (s.data.toList.drop (a + 1))) (a + 1)) ∧ w = w' := by
  go_enter Try.func85, Try.ntmps85
  go_wp2_with fail
  go_loop [6] (fun vi => ∃ i : Nat, a + 1 ≤ i ∧ i ≤ s.size + 1 ∧ vi = .int .i64 (i : Int) ∧ Hid (qend (s.data.toList.drop (a + 1)) = (qend (s.data.toList.drop i)).map (· + (i - (a + 1))))) (fun vi => s.size + 2 - (intOf vi).toNat)
  case atStart => exact ⟨a + 1, by omega, by omega, by go_num, Lib.hid (by simp)⟩
  case round =>
    obtain ⟨i, hi, hi2, rfl, HJ⟩ := hrel
    by_cases hlt : i < s.size
    · have hil : i < s.data.toList.length := by rw [size_len]; exact hlt
      have H92 : Hid (((s[i].toNat : Int) == 92) = true → qend (s.data.toList.drop (a + 1)) = (qend (s.data.toList.drop (i + 2))).map (· + (i + 2 - (a + 1)))) := Lib.hid fun h => by
        have hq := q_esc hil (byte_eq.2 (by have := eq_of_beq h; exact this))
        rw [HJ.out, hq, Option.map_map]
        congr 1
        funext x
        simp
        omega
      have H34 : Hid (((s[i].toNat : Int) == 34) = true → qend (s.data.toList.drop (a + 1)) = some (i + 1 - (a + 1))) := Lib.hid fun h => by
        have hq := q_end hil (byte_eq.2 (by have := eq_of_beq h; exact this))
        rw [HJ.out, hq]
        simp
        omega
      have Hno : Hid (((s[i].toNat : Int) == 92) = false → ((s[i].toNat : Int) == 34) = false → qend (s.data.toList.drop (a + 1)) = (qend (s.data.toList.drop (i + 1))).map (· + (i + 1 - (a + 1)))) := Lib.hid fun h h2 => by
        have hq := q_other hil (fun e => by have := byte_eq.1 e; exact ne_of_beq_false h this) (fun e => by have := byte_eq.1 e; exact ne_of_beq_false h2 this)
        rw [HJ.out, hq, Option.map_map]
        congr 1
        funext x
        simp
        omega
      clear HJ
      go_wp2_with fail
      · have h : ((s[i].toNat : Int) == 92) = true := by assumption
        have HN := Lib.hid (H92.out h)
        clear h H92 H34 Hno
        go_round
        case rel => exact ⟨i + 2, by omega, by omega, by go_num, HN⟩
        case measure => simp [intOf]; omega
      · have h : ((s[i].toNat : Int) == 34) = true := by assumption
        have hr := H34.out h
        go_ret2
        rw [hr]
        refine ⟨?_, rfl⟩
        have e : ((a + 1 + (i + 1 - (a + 1)) : Nat) : Int) = (i : Int) + 1 := by omega
        unfold qres
        simp only [e]
        rfl
      · have h : ((s[i].toNat : Int) == 92) = false := by assumption
        have h2 : ((s[i].toNat : Int) == 34) = false := by assumption
        have HN := Lib.hid (Hno.out h h2)
        clear h h2 H92 H34 Hno
        go_round
        case rel => exact ⟨i + 1, by omega, by omega, by go_num, HN⟩
        case measure => simp [intOf]; omega
    · have hr : qend (s.data.toList.drop (a + 1)) = none := by
        rw [HJ.out, List.drop_eq_nil_of_le (by rw [size_len]; omega)]
        rfl
      have HR := Lib.hid hr
      clear hr
      go_wp2_with fail
      go_ret2
      rw [HR.out]
      exact ⟨rfl, rfl⟩

end Go.Proofs.Ytimpnknmhbpffaa
