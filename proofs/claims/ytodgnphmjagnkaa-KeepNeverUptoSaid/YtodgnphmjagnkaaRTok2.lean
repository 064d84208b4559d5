/-
  The walks of the reference's Token, blank, Trim, Lower.
-/
import Derived.Test.YtodgnphmjagnkaaRTok1
namespace Go.Proofs.Ytodgnphmjagnkaa
open Go.RowKit

theorem tchar_of (c : UInt8) (b : Bool) (h : signB c = b) (w : World) :
    Calls Try.prog 66 #[.int .u8 (c.toNat : Int)] w fun e w' => e = .returned (.bool b) ∧ w = w' := by
  rw [← h]
  exact tchar_any c w
set_option maxHeartbeats 1000000 in
theorem rtoken_any (s : ByteArray) (w : World) (hs : s.size ≤ maxLen) :
    Calls Try.prog 56 #[.string s] w fun e w' => e = .returned (.bool (tokB s.data.toList)) ∧ w = w' := by
  unfold maxLen at hs
  go_enter Try.func56, Try.ntmps56
  go_wp2_with fail
  go_loop [3] (fun vk => ∃ k : Nat, k ≤ s.size ∧ vk = .int .i64 (k : Int) ∧ Hid ((s.data.toList.take k).all signB = true)) (fun vk => s.size - (intOf vk).toNat)
  case atStart => exact ⟨0, by omega, by go_num, Lib.hid (by simp)⟩
  case round =>
    obtain ⟨k, hk, rfl, HK⟩ := hrel
    by_cases hlt : k < s.size
    · have hkl : k < s.data.toList.length := by rw [size_len]; exact hlt
      have hsn := all_take_succ (p := signB) hkl
      rw [HK.out, Bool.true_and] at hsn
      obtain ⟨b, hb⟩ : ∃ b, signB s.data.toList[k] = b := ⟨_, rfl⟩
      rw [hb] at hsn
      have HSN := Lib.hid hsn
      have HS := Lib.hid (tchar_of s.data.toList[k] b hb)
      have HF : Hid (b = false → s.data.toList.all signB = false) := Lib.hid fun e => all_false_of hkl (by rw [hb, e])
      clear hsn hb
      cases b
      · go_wp2_with (go_at_call 66; refine (HS.out _).mono ?_; rintro e w1 ⟨rfl, rfl⟩)
        go_ret
        refine ⟨ret_bool ?_, rfl⟩
        unfold tokB
        rw [HF.out (by first | rfl | trivial)]
        rfl
      · go_wp2_with (go_at_call 66; refine (HS.out _).mono ?_; rintro e w1 ⟨rfl, rfl⟩)
        go_round
        case rel => exact ⟨k + 1, by omega, by go_num, HSN⟩
        case measure => simp [intOf]; omega
    · have hkk : s.data.toList.take k = s.data.toList := List.take_of_length_le (by rw [size_len]; omega)
      rw [hkk] at HK
      go_wp2_with fail
      go_ret
      refine ⟨ret_bool ?_, rfl⟩
      unfold tokB
      rw [HK.out, Lib.toList_data, Bool.true_and]

theorem rblank_any (c : UInt8) (w : World) :
    Calls Try.prog 47 #[.int .u8 (c.toNat : Int)] w fun e w' => e = .returned (.bool (blankB c)) ∧ w = w' := by
  have h0 : 0 ≤ (c.toNat : Int) := by omega
  have h1 : (c.toNat : Int) ≤ 255 := by have := c.toNat_lt; omega
  obtain ⟨b, hb⟩ : ∃ b, blankB c = b := ⟨_, rfl⟩
  rw [hb]
  unfold blankB at hb
  have HB := Lib.hid hb
  clear hb
  generalize (c.toNat : Int) = n at *
  go_enter Try.func47, Try.ntmps47
  go_wp2_with fail
  all_goals
    go_ret
    refine ⟨ret_bool ?_, rfl⟩
    have hb := HB.out
    first
      | (rw [← hb]; done)
      | (rw [← hb, Bool.eq_iff_iff]; simp; done)
      | (rw [← hb, Bool.eq_iff_iff]; simp; omega)

theorem rblank_of (c : UInt8) (b : Bool) (h : blankB c = b) (w : World) :
    Calls Try.prog 47 #[.int .u8 (c.toNat : Int)] w fun e w' => e = .returned (.bool b) ∧ w = w' := by
  rw [← h]
  exact rblank_any c w
set_option maxHeartbeats 2000000 in
theorem rtrim_same (s : ByteArray) (w : World) (hs : s.size ≤ maxLen) :
    Calls Try.prog 40 #[.string s] w fun e w' => e = .returned (.string ⟨(trimL s.data.toList).toArray⟩) ∧ w' = w := by
  unfold maxLen at hs
  go_enter Try.func40, Try.ntmps40
  go_wp2_with fail
  go_loopw [0] (fun v wr => ∃ t : ByteArray, v = .string t ∧ t.size ≤ s.size ∧ Hid (t.data.toList.dropWhile blankB = s.data.toList.dropWhile blankB) ∧ Hid (wr = w)) (fun v _ => match v with | .string t => t.size | _ => 0)
  case atStart => exact ⟨s, rfl, Nat.le_refl _, Lib.hid rfl, Lib.hid rfl⟩
  case round =>
    obtain ⟨t, rfl, ht, HT, hw⟩ := hrel
    by_cases h0 : 0 < t.size
    · have hne := ne_empty h0
      have hsz := size_len t
      obtain ⟨b, hb⟩ : ∃ b, blankB (t[0]) = b := ⟨_, rfl⟩
      have HBl := Lib.hid (rblank_of (t[0]) b hb)
      have hcons : t.data.toList = t[0] :: t.data.toList.drop 1 := by
        have := List.drop_eq_getElem_cons (l := t.data.toList) (i := 0) (by omega)
        rw [List.drop_zero] at this
        exact this
      cases b
      · have hend : t.data.toList = s.data.toList.dropWhile blankB := by
          have := HT.out
          rw [hcons, List.dropWhile_cons, if_neg (by simp [hb]), ← hcons] at this
          exact this
        have HE : Hid (trimR t.data.toList = trimL s.data.toList) := Lib.hid (by rw [hend]; rfl)
        clear hend hb hcons
        go_wp2_with (go_at_call 47; refine (HBl.out _).mono ?_; rintro e w1 ⟨rfl, rfl⟩)
        go_loopw [0] (fun v wr => ∃ u : ByteArray, v = .string u ∧ u.size ≤ s.size ∧ Hid (trimR u.data.toList = trimL s.data.toList) ∧ Hid (wr = w)) (fun v _ => match v with | .string t => t.size | _ => 0)
        case atStart => exact ⟨t, rfl, ht, HE, hw⟩
        case round =>
          obtain ⟨u, rfl, hu, HU, hw2⟩ := hrel
          by_cases h1 : 0 < u.size
          · have hne2 := ne_empty h1
            have hsz2 := size_len u
            have hsnoc := snoc_of (l := u.data.toList) (n := u.size - 1) (by omega)
            have hge : u[u.size - 1] = u.data.toList[u.size - 1]'(by omega) := rfl
            rw [← hge] at hsnoc
            obtain ⟨b, hb⟩ : ∃ b, blankB (u[u.size - 1]) = b := ⟨_, rfl⟩
            have HBl2 := Lib.hid (rblank_of (u[u.size - 1]) b hb)
            have e1 : (u.size : Int) - 1 = ((u.size - 1 : Nat) : Int) := by omega
            cases b
            · have hend : u.data.toList = trimL s.data.toList := by
                have h2 := HU.out
                rw [hsnoc, trimR_snoc_no hb, ← hsnoc] at h2
                exact h2
              have HE2 := Lib.hid hend
              clear hend hb hsnoc hge
              go_wp2_with (go_at_call 47; refine (HBl2.out _).mono ?_; rintro e w1 ⟨rfl, rfl⟩)
              go_ret
              rw [← HE2.out, mk_toList]
              exact ⟨rfl, hw2.out⟩
            · have hnext : trimR (u.extract 0 (u.size - 1)).data.toList = trimL s.data.toList := by
                rw [← HU.out, extract_front]
                conv => rhs; rw [hsnoc, trimR_snoc_yes hb]
              have hz2 : (u.extract 0 (u.size - 1)).size = u.size - 1 := by rw [ByteArray.size_extract]; omega
              have HN2 := Lib.hid hnext
              have HZ2 := Lib.hid hz2
              clear hnext hb hsnoc hge hz2
              go_wp2_with (go_at_call 47; refine (HBl2.out _).mono ?_; rintro e w1 ⟨rfl, rfl⟩)
              go_roundw
              case rel => exact ⟨_, rfl, by rw [HZ2.out]; omega, HN2, hw2⟩
              case measure => simp only; rw [HZ2.out]; omega
          · obtain ⟨he1, he2⟩ := is_empty (t := u) (by omega)
            have hend : u.data.toList = trimL s.data.toList := by
              rw [← HU.out, he2]
              rfl
            have HE2 := Lib.hid hend
            clear hend he2
            go_wp2_with fail
            go_ret
            rw [← HE2.out, mk_toList]
            exact ⟨rfl, hw2.out⟩
      · have hnext : (t.extract 1 t.size).data.toList.dropWhile blankB = s.data.toList.dropWhile blankB := by
          rw [← HT.out, extract_end]
          conv => rhs; rw [hcons, List.dropWhile_cons, if_pos hb]
        have HN := Lib.hid hnext
        have hz2 : (t.extract 1 t.size).size = t.size - 1 := by rw [ByteArray.size_extract]; omega
        have HZ := Lib.hid hz2
        clear hnext hb hcons hz2
        go_wp2_with (go_at_call 47; refine (HBl.out _).mono ?_; rintro e w1 ⟨rfl, rfl⟩)
        go_roundw
        case rel => exact ⟨_, rfl, by rw [HZ.out]; omega, HN, hw⟩
        case measure => simp only; rw [HZ.out]; omega
    · obtain ⟨he1, he2⟩ := is_empty (t := t) (by omega)
      have HE : Hid (trimR t.data.toList = trimL s.data.toList) := Lib.hid (by
        unfold trimL
        rw [← HT.out, he2]
        rfl)
      clear he2
      go_wp2_with fail
      go_loopw [0] (fun v wr => ∃ u : ByteArray, v = .string u ∧ u.size ≤ s.size ∧ Hid (trimR u.data.toList = trimL s.data.toList) ∧ Hid (wr = w)) (fun v _ => match v with | .string t => t.size | _ => 0)
      case atStart => exact ⟨t, rfl, ht, HE, hw⟩
      case round =>
        obtain ⟨u, rfl, hu, HU, hw2⟩ := hrel
        by_cases h1 : 0 < u.size
        · have hne2 := ne_empty h1
          have hsz2 := size_len u
          have hsnoc := snoc_of (l := u.data.toList) (n := u.size - 1) (by omega)
          have hge : u[u.size - 1] = u.data.toList[u.size - 1]'(by omega) := rfl
          rw [← hge] at hsnoc
          obtain ⟨b, hb⟩ : ∃ b, blankB (u[u.size - 1]) = b := ⟨_, rfl⟩
          have HBl2 := Lib.hid (rblank_of (u[u.size - 1]) b hb)
          have e1 : (u.size : Int) - 1 = ((u.size - 1 : Nat) : Int) := by omega
          cases b
          · have hend : u.data.toList = trimL s.data.toList := by
              have h2 := HU.out
              rw [hsnoc, trimR_snoc_no hb, ← hsnoc] at h2
              exact h2
            have HE2 := Lib.hid hend
            clear hend hb hsnoc hge
            go_wp2_with (go_at_call 47; refine (HBl2.out _).mono ?_; rintro e w1 ⟨rfl, rfl⟩)
            go_ret
            rw [← HE2.out, mk_toList]
            exact ⟨rfl, hw2.out⟩
          · have hnext : trimR (u.extract 0 (u.size - 1)).data.toList = trimL s.data.toList := by
              rw [← HU.out, extract_front]
              conv => rhs; rw [hsnoc, trimR_snoc_yes hb]
            have hz2 : (u.extract 0 (u.size - 1)).size = u.size - 1 := by rw [ByteArray.size_extract]; omega
            have HN2 := Lib.hid hnext
            have HZ2 := Lib.hid hz2
            clear hnext hb hsnoc hge hz2
            go_wp2_with (go_at_call 47; refine (HBl2.out _).mono ?_; rintro e w1 ⟨rfl, rfl⟩)
            go_roundw
            case rel => exact ⟨_, rfl, by rw [HZ2.out]; omega, HN2, hw2⟩
            case measure => simp only; rw [HZ2.out]; omega
        · obtain ⟨he1, he2⟩ := is_empty (t := u) (by omega)
          have hend : u.data.toList = trimL s.data.toList := by
            rw [← HU.out, he2]
            rfl
          have HE2 := Lib.hid hend
          clear hend he2
          go_wp2_with fail
          go_ret
          rw [← HE2.out, mk_toList]
          exact ⟨rfl, hw2.out⟩


end Go.Proofs.Ytodgnphmjagnkaa
