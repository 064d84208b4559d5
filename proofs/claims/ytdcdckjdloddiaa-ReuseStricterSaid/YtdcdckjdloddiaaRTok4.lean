/-
  The walks of the reference's small functions of chapter 14: tchar, Token, blank. The walks of the reference's Token, blank, Trim, Lower. The walk of the reference's Lower. The walk of the reference's Unquote.
-/
import Derived.Test.YtdcdckjdloddiaaTokTrim
import Derived.Test.YtdcdckjdloddiaaTokLawP
import Derived.Test.YtdcdckjdloddiaaTokSplit
namespace Go.Proofs.Ytdcdckjdloddiaa
open Go.RowKit

def othersU : List UInt8 := [33, 35, 36, 37, 38, 39, 42, 43, 45, 46, 94, 95, 96, 124, 126]
def rangesB (n : Int) : Bool := (decide (97 ≤ n) && decide (n ≤ 122)) || ((decide (65 ≤ n) && decide (n ≤ 90)) || (decide (48 ≤ n) && decide (n ≤ 57)))
theorem sign_ref (c : UInt8) : signB c = (rangesB (c.toNat : Int) || othersU.any fun x => (x.toNat : Int) == (c.toNat : Int)) := by
  have := all_bytes (p := fun c => signB c == (rangesB (c.toNat : Int) || othersU.any fun x => (x.toNat : Int) == (c.toNat : Int))) (by decide +kernel) c
  exact eq_of_beq this
theorem any_take_succ {p : UInt8 → Bool} {l : List UInt8} {k : Nat} (hk : k < l.length) : (l.take (k + 1)).any p = ((l.take k).any p || p l[k]) := by
  rw [List.take_succ_eq_append_getElem hk, List.any_append]
  simp
theorem any_true_of {p : UInt8 → Bool} {l : List UInt8} {k : Nat} (hk : k < l.length) (h : p l[k] = true) : l.any p = true := by
  rw [List.any_eq_true]
  exact ⟨l[k], List.getElem_mem hk, h⟩

set_option maxHeartbeats 4000000 in
theorem tchar_any (c : UInt8) (w : World) :
    Calls Try.prog 88 #[.int .u8 (c.toNat : Int)] w fun e w' => e = .returned (.bool (signB c)) ∧ w = w' := by
  have h0 : 0 ≤ (c.toNat : Int) := by omega
  have h1 : (c.toNat : Int) ≤ 255 := by have := c.toNat_lt; omega
  obtain ⟨b, hb⟩ : ∃ b, signB c = b := ⟨_, rfl⟩
  rw [hb]
  rw [sign_ref] at hb
  generalize (c.toNat : Int) = n at *
  by_cases hr : rangesB n = true
  · have hr2 : (97 ≤ n ∧ n ≤ 122) ∨ (65 ≤ n ∧ n ≤ 90) ∨ (48 ≤ n ∧ n ≤ 57) := by
      unfold rangesB at hr
      simpa using hr
    have hbt : b = true := by rw [← hb, hr]; rfl
    subst hbt
    clear hr hb
    rcases hr2 with ⟨a, b⟩ | ⟨a, b⟩ | ⟨a, b⟩
    all_goals
      go_enter Try.func88, Try.ntmps88
      go_wp2_with fail
      all_goals
        go_ret
        exact ⟨rfl, rfl⟩
  · have hr2 : ¬ (97 ≤ n ∧ n ≤ 122) ∧ ¬ (65 ≤ n ∧ n ≤ 90) ∧ ¬ (48 ≤ n ∧ n ≤ 57) := by
      unfold rangesB at hr
      simp at hr
      omega
    have hr3 : rangesB n = false := by simpa using hr
    rw [hr3, Bool.false_or] at hb
    have HBX := Lib.hid hb
    have hreg : n < 48 ∨ (57 < n ∧ n < 65) ∨ (90 < n ∧ n < 97) ∨ 122 < n := by omega
    clear hr hr2 hr3 hb
    rcases hreg with a | ⟨a, b⟩ | ⟨a, b⟩ | a
    all_goals
      go_enter Try.func88, Try.ntmps88
      go_wp2_with fail
      go_loop [3] (fun vi => ∃ k : Nat, k ≤ 15 ∧ vi = .int .i64 (k : Int) ∧ Hid ((othersU.take k).any (fun x => (x.toNat : Int) == n) = false)) (fun vi => 15 - (intOf vi).toNat)
      case atStart => exact ⟨0, by omega, by go_num, Lib.hid rfl⟩
      case round =>
        obtain ⟨k, hk, rfl, HK⟩ := hrel
        by_cases hk15 : k < 15
        · have HT : Hid (((othersU[k]'hk15).toNat == n : Bool) = true → othersU.any (fun x => (x.toNat : Int) == n) = true) := Lib.hid fun h => any_true_of (k := k) hk15 h
          have HF : Hid (((othersU[k]'hk15).toNat == n : Bool) = false → (othersU.take (k + 1)).any (fun x => (x.toNat : Int) == n) = false) := Lib.hid fun h => by
            rw [any_take_succ (l := othersU) hk15, HK.out, Bool.false_or]
            exact h
          go_wp2_with fail
          · go_ret
            refine ⟨ret_bool ?_, rfl⟩
            rw [← HBX.out]
            exact (HT.out (by assumption)).symm
          · go_round
            case rel => exact ⟨k + 1, by omega, by go_num, Lib.hid (HF.out (by assumption))⟩
            case measure => simp [intOf]; omega
        · have hk2 : k = 15 := by omega
          have hno : othersU.any (fun x => (x.toNat : Int) == n) = false := by
            have := HK.out
            rw [hk2] at this
            exact this
          rw [HBX.out] at hno
          subst hno
          go_wp2_with fail
          go_ret
          exact ⟨rfl, rfl⟩

end Go.Proofs.Ytdcdckjdloddiaa
namespace Go.Proofs.Ytdcdckjdloddiaa
open Go.RowKit

theorem tchar_of (c : UInt8) (b : Bool) (h : signB c = b) (w : World) :
    Calls Try.prog 88 #[.int .u8 (c.toNat : Int)] w fun e w' => e = .returned (.bool b) ∧ w = w' := by
  rw [← h]
  exact tchar_any c w
set_option maxHeartbeats 1000000 in
theorem rtoken_any (s : ByteArray) (w : World) (hs : s.size ≤ maxLen) :
    Calls Try.prog 75 #[.string s] w fun e w' => e = .returned (.bool (tokB s.data.toList)) ∧ w = w' := by
  unfold maxLen at hs
  go_enter Try.func75, Try.ntmps75
  go_wp2_with fail
  go_loop [3] (fun vk => ∃ k : Nat, k ≤ s.size ∧ vk = .int .i64 (k : Int) ∧ Hid ((s.data.toList.take k).all signB = true)) (fun vk => s.size - (intOf vk).toNat)
  case atStart => exact ⟨0, by omega, by go_num, Lib.hid (by simp)⟩
  case round =>
    obtain ⟨k, hk, rfl, HK⟩ := hrel
    by_cases hlt : k < s.size
    · have hkl : k < s.data.toList.length := by rw [size_len]; exact hlt
      have hsn := all_take_succ (p := signB) hkl
      rw [HK.out, Bool.true_and] at hsn
      obtain ⟨b, hb⟩ : ∃ b, signB s.data.toList[k] = b := ⟨_, rfl⟩
      rw [hb] at hsn
      have HSN := Lib.hid hsn
      have HS := Lib.hid (tchar_of s.data.toList[k] b hb)
      have HF : Hid (b = false → s.data.toList.all signB = false) := Lib.hid fun e => all_false_of hkl (by rw [hb, e])
      clear hsn hb
      cases b
      · go_wp2_with (go_at_call 88; refine (HS.out _).mono ?_; rintro e w1 ⟨rfl, rfl⟩)
        go_ret
        refine ⟨ret_bool ?_, rfl⟩
        unfold tokB
        rw [HF.out (by first | rfl | trivial)]
        rfl
      · go_wp2_with (go_at_call 88; refine (HS.out _).mono ?_; rintro e w1 ⟨rfl, rfl⟩)
        go_round
        case rel => exact ⟨k + 1, by omega, by go_num, HSN⟩
        case measure => simp [intOf]; omega
    · have hkk : s.data.toList.take k = s.data.toList := List.take_of_length_le (by rw [size_len]; omega)
      rw [hkk] at HK
      go_wp2_with fail
      go_ret
      refine ⟨ret_bool ?_, rfl⟩
      unfold tokB
      rw [HK.out, Lib.toList_data, Bool.true_and]

theorem rblank_any (c : UInt8) (w : World) :
    Calls Try.prog 64 #[.int .u8 (c.toNat : Int)] w fun e w' => e = .returned (.bool (blankB c)) ∧ w = w' := by
  have h0 : 0 ≤ (c.toNat : Int) := by omega
  have h1 : (c.toNat : Int) ≤ 255 := by have := c.toNat_lt; omega
  obtain ⟨b, hb⟩ : ∃ b, blankB c = b := ⟨_, rfl⟩
  rw [hb]
  unfold blankB at hb
  have HB := Lib.hid hb
  clear hb
  generalize (c.toNat : Int) = n at *
  go_enter Try.func64, Try.ntmps64
  go_wp2_with fail
  all_goals
    go_ret
    refine ⟨ret_bool ?_, rfl⟩
    have hb := HB.out
    first
      | (rw [← hb]; done)
      | (rw [← hb, Bool.eq_iff_iff]; simp; done)
      | (rw [← hb, Bool.eq_iff_iff]; simp; omega)

theorem rblank_of (c : UInt8) (b : Bool) (h : blankB c = b) (w : World) :
    Calls Try.prog 64 #[.int .u8 (c.toNat : Int)] w fun e w' => e = .returned (.bool b) ∧ w = w' := by
  rw [← h]
  exact rblank_any c w
set_option maxHeartbeats 2000000 in
theorem rtrim_same (s : ByteArray) (w : World) (hs : s.size ≤ maxLen) :
    Calls Try.prog 52 #[.string s] w fun e w' => e = .returned (.string ⟨(trimL s.data.toList).toArray⟩) ∧ w' = w := by
  unfold maxLen at hs
  go_enter Try.func52, Try.ntmps52
  go_wp2_with fail
  go_loopw [0] (fun v wr => ∃ t : ByteArray, v = .string t ∧ t.size ≤ s.size ∧ Hid (t.data.toList.dropWhile blankB = s.data.toList.dropWhile blankB) ∧ Hid (wr = w)) (fun v _ => match v with | .string t => t.size | _ => 0)
  case atStart => exact ⟨s, rfl, Nat.le_refl _, Lib.hid rfl, Lib.hid rfl⟩
  case round =>
    obtain ⟨t, rfl, ht, HT, hw⟩ := hrel
    by_cases h0 : 0 < t.size
    · have hne := ne_empty h0
      have hsz := size_len t
      obtain ⟨b, hb⟩ : ∃ b, blankB (t[0]) = b := ⟨_, rfl⟩
      have HBl := Lib.hid (rblank_of (t[0]) b hb)
      have hcons : t.data.toList = t[0] :: t.data.toList.drop 1 := by
        have := List.drop_eq_getElem_cons (l := t.data.toList) (i := 0) (by omega)
        rw [List.drop_zero] at this
        exact this
      cases b
      · have hend : t.data.toList = s.data.toList.dropWhile blankB := by
          have := HT.out
          rw [hcons, List.dropWhile_cons, if_neg (by simp [hb]), ← hcons] at this
          exact this
        have HE : Hid (trimR t.data.toList = trimL s.data.toList) := Lib.hid (by rw [hend]; rfl)
        clear hend hb hcons
        go_wp2_with (go_at_call 64; refine (HBl.out _).mono ?_; rintro e w1 ⟨rfl, rfl⟩)
        go_loopw [0] (fun v wr => ∃ u : ByteArray, v = .string u ∧ u.size ≤ s.size ∧ Hid (trimR u.data.toList = trimL s.data.toList) ∧ Hid (wr = w)) (fun v _ => match v with | .string t => t.size | _ => 0)
        case atStart => exact ⟨t, rfl, ht, HE, hw⟩
        case round =>
          obtain ⟨u, rfl, hu, HU, hw2⟩ := hrel
          by_cases h1 : 0 < u.size
          · have hne2 := ne_empty h1
            have hsz2 := size_len u
            have hsnoc := snoc_of (l := u.data.toList) (n := u.size - 1) (by omega)
            have hge : u[u.size - 1] = u.data.toList[u.size - 1]'(by omega) := rfl
            rw [← hge] at hsnoc
            obtain ⟨b, hb⟩ : ∃ b, blankB (u[u.size - 1]) = b := ⟨_, rfl⟩
            have HBl2 := Lib.hid (rblank_of (u[u.size - 1]) b hb)
            have e1 : (u.size : Int) - 1 = ((u.size - 1 : Nat) : Int) := by omega
            cases b
            · have hend : u.data.toList = trimL s.data.toList := by
                have h2 := HU.out
                rw [hsnoc, trimR_snoc_no hb, ← hsnoc] at h2
                exact h2
              have HE2 := Lib.hid hend
              clear hend hb hsnoc hge
              go_wp2_with (go_at_call 64; refine (HBl2.out _).mono ?_; rintro e w1 ⟨rfl, rfl⟩)
              go_ret
              rw [← HE2.out, mk_toList]
              exact ⟨rfl, hw2.out⟩
            · have hnext : trimR (u.extract 0 (u.size - 1)).data.toList = trimL s.data.toList := by
                rw [← HU.out, extract_front]
                conv => rhs; rw [hsnoc, trimR_snoc_yes hb]
              have hz2 : (u.extract 0 (u.size - 1)).size = u.size - 1 := by rw [ByteArray.size_extract]; omega
              have HN2 := Lib.hid hnext
              have HZ2 := Lib.hid hz2
              clear hnext hb hsnoc hge hz2
              go_wp2_with (go_at_call 64; refine (HBl2.out _).mono ?_; rintro e w1 ⟨rfl, rfl⟩)
              go_roundw
              case rel => exact ⟨_, rfl, by rw [HZ2.out]; omega, HN2, hw2⟩
              case measure => simp only; rw [HZ2.out]; omega
          · obtain ⟨he1, he2⟩ := is_empty (t := u) (by omega)
            have hend : u.data.toList = trimL s.data.toList := by
              rw [← HU.out, he2]
              rfl
            have HE2 := Lib.hid hend
            clear hend he2
            go_wp2_with fail
            go_ret
            rw [← HE2.out, mk_toList]
            exact ⟨rfl, hw2.out⟩
      · have hnext : (t.extract 1 t.size).data.toList.dropWhile blankB = s.data.toList.dropWhile blankB := by
          rw [← HT.out, extract_end]
          conv => rhs; rw [hcons, List.dropWhile_cons, if_pos hb]
        have HN := Lib.hid hnext
        have hz2 : (t.extract 1 t.size).size = t.size - 1 := by rw [ByteArray.size_extract]; omega
        have HZ := Lib.hid hz2
        clear hnext hb hcons hz2
        go_wp2_with (go_at_call 64; refine (HBl.out _).mono ?_; rintro e w1 ⟨rfl, rfl⟩)
        go_roundw
        case rel => exact ⟨_, rfl, by rw [HZ.out]; omega, HN, hw⟩
        case measure => simp only; rw [HZ.out]; omega
    · obtain ⟨he1, he2⟩ := is_empty (t := t) (by omega)
      have HE : Hid (trimR t.data.toList = trimL s.data.toList) := Lib.hid (by
        unfold trimL
        rw [← HT.out, he2]
        rfl)
      clear he2
      go_wp2_with fail
      go_loopw [0] (fun v wr => ∃ u : ByteArray, v = .string u ∧ u.size ≤ s.size ∧ Hid (trimR u.data.toList = trimL s.data.toList) ∧ Hid (wr = w)) (fun v _ => match v with | .string t => t.size | _ => 0)
      case atStart => exact ⟨t, rfl, ht, HE, hw⟩
      case round =>
        obtain ⟨u, rfl, hu, HU, hw2⟩ := hrel
        by_cases h1 : 0 < u.size
        · have hne2 := ne_empty h1
          have hsz2 := size_len u
          have hsnoc := snoc_of (l := u.data.toList) (n := u.size - 1) (by omega)
          have hge : u[u.size - 1] = u.data.toList[u.size - 1]'(by omega) := rfl
          rw [← hge] at hsnoc
          obtain ⟨b, hb⟩ : ∃ b, blankB (u[u.size - 1]) = b := ⟨_, rfl⟩
          have HBl2 := Lib.hid (rblank_of (u[u.size - 1]) b hb)
          have e1 : (u.size : Int) - 1 = ((u.size - 1 : Nat) : Int) := by omega
          cases b
          · have hend : u.data.toList = trimL s.data.toList := by
              have h2 := HU.out
              rw [hsnoc, trimR_snoc_no hb, ← hsnoc] at h2
              exact h2
            have HE2 := Lib.hid hend
            clear hend hb hsnoc hge
            go_wp2_with (go_at_call 64; refine (HBl2.out _).mono ?_; rintro e w1 ⟨rfl, rfl⟩)
            go_ret
            rw [← HE2.out, mk_toList]
            exact ⟨rfl, hw2.out⟩
          · have hnext : trimR (u.extract 0 (u.size - 1)).data.toList = trimL s.data.toList := by
              rw [← HU.out, extract_front]
              conv => rhs; rw [hsnoc, trimR_snoc_yes hb]
            have hz2 : (u.extract 0 (u.size - 1)).size = u.size - 1 := by rw [ByteArray.size_extract]; omega
            have HN2 := Lib.hid hnext
            have HZ2 := Lib.hid hz2
            clear hnext hb hsnoc hge hz2
            go_wp2_with (go_at_call 64; refine (HBl2.out _).mono ?_; rintro e w1 ⟨rfl, rfl⟩)
            go_roundw
            case rel => exact ⟨_, rfl, by rw [HZ2.out]; omega, HN2, hw2⟩
            case measure => simp only; rw [HZ2.out]; omega
        · obtain ⟨he1, he2⟩ := is_empty (t := u) (by omega)
          have hend : u.data.toList = trimL s.data.toList := by
            rw [← HU.out, he2]
            rfl
          have HE2 := Lib.hid hend
          clear hend he2
          go_wp2_with fail
          go_ret
          rw [← HE2.out, mk_toList]
          exact ⟨rfl, hw2.out⟩


end Go.Proofs.Ytdcdckjdloddiaa
namespace Go.Proofs.Ytdcdckjdloddiaa
open Go.RowKit

set_option maxHeartbeats 1000000 in
theorem rlower_any (s : ByteArray) (w : World) (hs : s.size ≤ maxLen) :
    Calls Try.prog 76 #[.string s] w fun e w' => e = .returned (.string ⟨(lowerL s.data.toList).toArray⟩) ∧ Aft w w' := by
  unfold maxLen at hs
  have hcv := Lib.run_convert_string_bytes (P := Try.prog) w 9 81 5 s Try.underlying9 Try.underlying81 Try.underlying5
  have hc0 := Cb.of_bytes w s
  have ha0 := aft_bytes w s
  obtain ⟨G, hG⟩ : ∃ G, w.heap.size = G := ⟨_, rfl⟩
  rw [hG] at hcv hc0
  generalize Lib.bytesWorld w 5 s = W0 at *
  generalize grownCap w s.size 0 5 = K at *
  have HG := Lib.hid hG
  have HC0 := Lib.hid hc0
  clear hG hc0
  go_enter Try.func76, Try.ntmps76
  go_wp2_with fail
  have hb0 : Below G w W0 := by have := ha0; unfold Aft at this; rw [HG.out] at this; exact this
  clear hcv ha0
  go_loopw [4] (fun vk wr => ∃ k : Nat, k ≤ s.size ∧ vk = .int .i64 (k : Int) ∧ Hid (Cb wr G (lowTo s.data.toList k)) ∧ Below G w wr) (fun vk _ => s.size - (intOf vk).toNat)
  case atStart => exact ⟨0, by omega, by go_num, by simpa [lowTo] using HC0, hb0⟩
  case round =>
    obtain ⟨k, hk, rfl, HC, hbel⟩ := hrel
    by_cases hlt : k < s.size
    · have hkl : k < s.data.toList.length := by rw [size_len]; exact hlt
      have hkl2 : k < (lowTo s.data.toList k).length := by rw [lowTo_len]; exact hkl
      have hcl := HC.out.cell k hkl2
      rw [lowTo_get hkl] at hcl
      have hfr := HC.out.free k hkl2
      have c0 : 0 ≤ (s.data.toList[k].toNat : Int) := by omega
      have c1 : (s.data.toList[k].toNat : Int) ≤ 255 := by have := (s.data.toList[k]).toNat_lt; omega
      by_cases hup : 65 ≤ s.data.toList[k].toNat ∧ s.data.toList[k].toNat ≤ 90
      · have hset := HC.out.put hkl2 (lowC s.data.toList[k])
        rw [lowTo_set hkl, lowC_up hup] at hset
        have u0 : 65 ≤ (s.data.toList[k].toNat : Int) := by omega
        have u1 : (s.data.toList[k].toNat : Int) ≤ 90 := by omega
        have HS := Lib.hid hset
        clear hset hup
        generalize (s.data.toList[k].toNat : Int) = n at *
        go_wp2_with fail
        go_roundw
        case rel => exact ⟨k + 1, by omega, by go_num, HS, hbel.setCell (Nat.le_refl _) _⟩
        case measure => simp [intOf]; omega
      · have hs2 := lowTo_same hkl (lowC_no hup)
        rw [hs2] at HC
        have hn : ¬ (65 ≤ (s.data.toList[k].toNat : Int) ∧ (s.data.toList[k].toNat : Int) ≤ 90) := by omega
        clear hup hs2
        generalize (s.data.toList[k].toNat : Int) = n at *
        by_cases hn1 : n < 65
        · go_wp2_with fail
          go_roundw
          case rel => exact ⟨k + 1, by omega, by go_num, HC, hbel⟩
          case measure => simp [intOf]; omega
        · have hn2 : 90 < n := by omega
          go_wp2_with fail
          go_roundw
          case rel => exact ⟨k + 1, by omega, by go_num, HC, hbel⟩
          case measure => simp [intOf]; omega
    · have hke : k = s.size := by omega
      have hfull : lowTo s.data.toList k = lowerL s.data.toList := by
        unfold lowTo lowerL
        rw [List.take_of_length_le (by rw [size_len]; omega), List.drop_eq_nil_of_le (by rw [size_len]; omega), List.append_nil]
      rw [hfull] at HC
      have hcs := HC.out.string (cap := K)
      rw [show (lowerL s.data.toList).length = s.size by unfold lowerL; rw [List.length_map, size_len]] at hcs
      clear hfull
      go_wp2_with fail
      go_ret
      exact ⟨rfl, by unfold Aft; rw [HG.out]; exact hbel⟩

theorem rtoken_of (s : ByteArray) (b : Bool) (h : tokB s.data.toList = b) (hs : s.size ≤ maxLen) (w : World) :
    Calls Try.prog 75 #[.string s] w fun e w' => e = .returned (.bool b) ∧ w = w' := by
  rw [← h]
  exact rtoken_any s w hs
/-- What a byte that may stand in a value is, and one that may not. -/
theorem plain_cases {c : UInt8} {b : Bool} (h : plainB c = b) : (b = true ∧ ((32 ≤ (c.toNat : Int) ∧ (c.toNat : Int) ≠ 127) ∨ (c.toNat : Int) = 9)) ∨ (b = false ∧ (((c.toNat : Int) < 32 ∧ (c.toNat : Int) ≠ 9) ∨ (c.toNat : Int) = 127)) := by
  unfold plainB at h
  cases b
  · refine Or.inr ⟨rfl, ?_⟩
    simp only [Bool.or_eq_false_iff, Bool.and_eq_false_iff, decide_eq_false_iff_not, bne_eq_false_iff_eq, beq_eq_false_iff_ne] at h
    omega
  · refine Or.inl ⟨rfl, ?_⟩
    simp only [Bool.or_eq_true, Bool.and_eq_true, decide_eq_true_eq, bne_iff_ne, beq_iff_eq] at h
    exact h

end Go.Proofs.Ytdcdckjdloddiaa
namespace Go.Proofs.Ytdcdckjdloddiaa
open Go.RowKit

theorem str_app (a b : ByteArray) : (a ++ b).data.toList = a.data.toList ++ b.data.toList := by rw [ByteArray.data_append, Array.toList_append]
set_option maxHeartbeats 4000000 in
set_option maxRecDepth 100000 in
theorem runquote_any (s : ByteArray) (w : World) (hs : s.size ≤ 1000000000) :
    Calls Try.prog 77 #[.string s] w fun e w' => e = .returned (uqres (unqF s.data.toList)) ∧ Aft w w' := by
  have hm : s.size ≤ maxLen := by unfold maxLen; omega
  have hsl := size_len s
  obtain ⟨tb, htb⟩ : ∃ b, tokB s.data.toList = b := ⟨_, rfl⟩
  have HT := Lib.hid (rtoken_of s tb htb hm)
  have hun : unqF s.data.toList = if tb then some s.data.toList else if s.data.toList.length < 2 then none else if s.data.toList.getD 0 0 ≠ 34 then none else if s.data.toList.getD (s.data.toList.length - 1) 0 ≠ 34 then none else unqGo ((s.data.toList.take (s.data.toList.length - 1)).drop 1) := by
    unfold unqF
    rw [htb]
  rw [hsl] at hun
  have HU := Lib.hid hun
  clear htb hun hm hsl
  cases tb
  · by_cases h2 : s.size < 2
    · have HN : Hid (unqF s.data.toList = none) := Lib.hid (by rw [HU.out, if_neg (by decide), if_pos h2])
      go_enter Try.func77, Try.ntmps77
      go_wp2_with (go_at_call 75; refine (HT.out _).mono ?_; rintro e w1 ⟨rfl, rfl⟩)
      go_ret2
      rw [HN.out]
      exact ⟨rfl, Aft.refl _⟩
    · have hge0 : s.data.toList.getD 0 0 = s[0] := by
        have : 0 < s.data.toList.length := by rw [size_len]; omega
        simp [List.getD, List.getElem?_eq_getElem this]
        rfl
      have hge1 : s.data.toList.getD (s.size - 1) 0 = s[s.size - 1] := by
        have : s.size - 1 < s.data.toList.length := by rw [size_len]; omega
        simp [List.getD, List.getElem?_eq_getElem this]
        rfl
      by_cases hq0 : s[0] = 34
      · have hb0 : ((s[0].toNat : Int) != 34) = false := by rw [hq0]; rfl
        by_cases hq1 : s[s.size - 1] = 34
        · have hb1 : ((s[s.size - 1].toNat : Int) != 34) = false := by rw [hq1]; rfl
          obtain ⟨t, ht⟩ : ∃ t, s.extract 1 (s.size - 1) = t := ⟨_, rfl⟩
          have hts : t.size = s.size - 2 := by rw [← ht, ByteArray.size_extract]; omega
          have htd : t.data.toList = (s.data.toList.take (s.size - 1)).drop 1 := by
            rw [← ht, Lib.extract_data, List.drop_take]
          have HUN : Hid (unqF s.data.toList = unqGo t.data.toList) := Lib.hid (by rw [HU.out, if_neg (by decide), if_neg h2, if_neg (by rw [hge0, hq0]; simp), if_neg (by rw [hge1, hq1]; simp), htd])
          have HTS := Lib.hid hts
          have e1 : (s.size : Int) - 1 = ((s.size - 1 : Nat) : Int) := by omega
          have ht9 : t.size ≤ 1000000000 := by omega
          have hd2 : decide ((s.size : Int) < 2) = false := by simp; omega
          clear hts htd hge0 hge1 hq0 hq1 HU
          go_enter Try.func77, Try.ntmps77
          go_wp2_with (go_at_call 75; refine (HT.out _).mono ?_; rintro e w1 ⟨rfl, rfl⟩)
          obtain ⟨B, hB⟩ : ∃ B, w.heap.size = B := ⟨_, rfl⟩
          have HB := Lib.hid hB
          have hb0 : Below B w w := Below.refl _ _
          clear hB
          go_loopw [4, 6, 7] (fun vo vi _ wr => ∃ (i : Nat) (o : List UInt8) (x : ByteArray), i ≤ t.size ∧ vi = .int .i64 (i : Int) ∧ vo = .string x ∧ Hid (x.data.toList = o) ∧ x.size ≤ i ∧ Hid (unqGo t.data.toList = (unqGo (t.data.toList.drop i)).map (o ++ ·)) ∧ o.length ≤ i ∧ Hid (Below B w wr)) (fun _ vi _ _ => t.size - (intOf vi).toNat)
          case atStart => exact ⟨0, [], _, by omega, by go_num, rfl, Lib.hid rfl, by decide, Lib.hid (by simp), by simp, Lib.hid hb0⟩
          case round =>
            clear hb0
            obtain ⟨i, o, x, hi, rfl, rfl, HO, hxz, HG, hol, HBE⟩ := hrel
            have hbel : Below B w wr := HBE.out
            have hbs : B ≤ wr.heap.size := by rw [← HB.out]; exact hbel.size
            by_cases hlt : i < t.size
            · have hil : i < t.data.toList.length := by rw [size_len]; exact hlt
              by_cases h34 : t[i] = 34
              · have hb : ((t[i].toNat : Int) == 34) = true := by rw [h34]; rfl
                have HN : Hid (unqF s.data.toList = none) := Lib.hid (by rw [HUN.out, HG.out, unq_quote hil h34]; rfl)
                clear h34
                go_wp2_with fail
                go_ret2
                rw [HN.out]
                exact ⟨rfl, by unfold Aft; rw [HB.out]; exact hbel⟩
              · have hb : ((t[i].toNat : Int) == 34) = false := by
                  rw [beq_eq_false_iff_ne]
                  intro e
                  exact h34 (byte_eq.2 e)
                by_cases h92 : t[i] = 92
                · have hb2 : ((t[i].toNat : Int) == 92) = true := by rw [h92]; rfl
                  by_cases hlast : i + 1 = t.size
                  · have HN : Hid (unqF s.data.toList = none) := Lib.hid (by rw [HUN.out, HG.out, unq_esc_end hil h92 (by rw [size_len]; exact hlast)]; rfl)
                    have hb3 : ((i : Int) + 1 == (t.size : Int)) = true := by simp; omega
                    clear h34 h92
                    go_wp2_with fail
                    go_ret2
                    rw [HN.out]
                    exact ⟨rfl, by unfold Aft; rw [HB.out]; exact hbel⟩
                  · have hb3 : ((i : Int) + 1 == (t.size : Int)) = false := by simp; omega
                    have hil2 : i + 1 < t.data.toList.length := by rw [size_len]; omega
                    have hi1 : i + 1 < t.size := by omega
                    have hesc := unq_esc hil2 h92
                    obtain ⟨pb, hpb⟩ : ∃ b, plainB t[i + 1] = b := ⟨_, rfl⟩
                    have hpb2 : plainB (t.data.toList[i + 1]) = pb := hpb
                    rw [hpb2] at hesc
                    have HPI := Lib.hid (plain_cases hpb)
                    have HE := Lib.hid hesc
                    clear hesc hpb hpb2 h34 h92
                    cases pb
                    · have HN : Hid (unqF s.data.toList = none) := Lib.hid (by rw [HUN.out, HG.out, HE.out]; rfl)
                      obtain ⟨y, hy⟩ : ∃ y : Int, (t[i + 1].toNat : Int) = y := ⟨_, rfl⟩
                      have hpi := HPI.out
                      rw [hy] at hpi
                      have hpi2 : (y < 32 ∧ y ≠ 9) ∨ y = 127 := by
                        rcases hpi with ⟨h, _⟩ | ⟨_, h⟩
                        · cases h
                        · exact h
                      clear hpi
                      rcases hpi2 with ⟨g1, g2⟩ | g1
                      · have b9 : (y != 9) = true := by rw [bne_iff_ne]; exact g2
                        clear g2
                        go_wp2_with fail
                        go_ret2
                        rw [HN.out]
                        exact ⟨rfl, by unfold Aft; rw [HB.out]; exact hbel⟩
                      · have b127 : (y == 127) = true := by rw [beq_iff_eq]; exact g1
                        have g32 : 32 ≤ y := by omega
                        clear g1
                        go_wp2_with fail
                        go_ret2
                        rw [HN.out]
                        exact ⟨rfl, by unfold Aft; rw [HB.out]; exact hbel⟩
                    · have hnx : unqGo t.data.toList = (unqGo (t.data.toList.drop (i + 2))).map ((o ++ [t[i + 1]]) ++ ·) := by
                        rw [HG.out, HE.out, if_pos rfl]
                        exact push_map o t[i + 1] _
                      have HN := Lib.hid hnx
                      clear hnx HE HG
                      obtain ⟨y, hy⟩ : ∃ y : Int, (t[i + 1].toNat : Int) = y := ⟨_, rfl⟩
                      have hpi := HPI.out
                      rw [hy] at hpi
                      have hpi2 : (32 ≤ y ∧ y ≠ 127) ∨ y = 9 := by
                        rcases hpi with ⟨_, h⟩ | ⟨h, _⟩
                        · exact h
                        · cases h
                      have y0 : 0 ≤ y := by omega
                      have y1 : y < 256 := by have := (t[i + 1]).toNat_lt; omega
                      have hby : Hid (byteOf y = t[i + 1]) := Lib.hid (by rw [← hy]; exact byteOf_self _)
                      have hcv := conv1 wr y y0 y1
                      clear hpi
                      rcases hpi2 with ⟨g1, g2⟩ | g1
                      · have b127 : (y == 127) = false := by rw [beq_eq_false_iff_ne]; exact g2
                        clear g2
                        go_wp2_with fail
                        go_roundw
                        case rel =>
                          refine ⟨i + 2, o ++ [t[i + 1]], x ++ ⟨#[byteOf y]⟩, by omega, by go_num, rfl, Lib.hid ?_, ?_, HN, by simp; omega, Lib.hid (hbel.alloc hbs _)⟩
                          · rw [str_app, HO.out, hby.out]
                          · rw [ByteArray.size_append]
                            show x.size + 1 ≤ _
                            omega
                        case measure => simp [intOf]; omega
                      · have b9 : (y != 9) = false := by rw [bne_eq_false_iff_eq]; exact g1
                        have b127 : (y == 127) = false := by rw [beq_eq_false_iff_ne]; omega
                        have g32 : y < 32 := by omega
                        clear g1
                        go_wp2_with fail
                        go_roundw
                        case rel =>
                          refine ⟨i + 2, o ++ [t[i + 1]], x ++ ⟨#[byteOf y]⟩, by omega, by go_num, rfl, Lib.hid ?_, ?_, HN, by simp; omega, Lib.hid (hbel.alloc hbs _)⟩
                          · rw [str_app, HO.out, hby.out]
                          · rw [ByteArray.size_append]
                            show x.size + 1 ≤ _
                            omega
                        case measure => simp [intOf]; omega
                · have hb2 : ((t[i].toNat : Int) == 92) = false := by
                    rw [beq_eq_false_iff_ne]
                    intro e
                    exact h92 (byte_eq.2 e)
                  have hoth := unq_other hil h34 h92
                  obtain ⟨pb, hpb⟩ : ∃ b, plainB t[i] = b := ⟨_, rfl⟩
                  have hpb2 : plainB (t.data.toList[i]) = pb := hpb
                  rw [hpb2] at hoth
                  have HPI := Lib.hid (plain_cases hpb)
                  have HE := Lib.hid hoth
                  clear hoth hpb hpb2 h34 h92
                  cases pb
                  · have HN : Hid (unqF s.data.toList = none) := Lib.hid (by rw [HUN.out, HG.out, HE.out]; rfl)
                    obtain ⟨y, hy⟩ : ∃ y : Int, (t[i].toNat : Int) = y := ⟨_, rfl⟩
                    have hpi := HPI.out
                    rw [hy] at hpi
                    have hpi2 : (y < 32 ∧ y ≠ 9) ∨ y = 127 := by
                      rcases hpi with ⟨h, _⟩ | ⟨_, h⟩
                      · cases h
                      · exact h
                    clear hpi
                    rw [hy] at hb hb2
                    rcases hpi2 with ⟨g1, g2⟩ | g1
                    · have b9 : (y != 9) = true := by rw [bne_iff_ne]; exact g2
                      clear g2
                      go_wp2_with fail
                      go_ret2
                      rw [HN.out]
                      exact ⟨rfl, by unfold Aft; rw [HB.out]; exact hbel⟩
                    · have b127 : (y == 127) = true := by rw [beq_iff_eq]; exact g1
                      have g32 : 32 ≤ y := by omega
                      clear g1
                      go_wp2_with fail
                      go_ret2
                      rw [HN.out]
                      exact ⟨rfl, by unfold Aft; rw [HB.out]; exact hbel⟩
                  · have hnx : unqGo t.data.toList = (unqGo (t.data.toList.drop (i + 1))).map ((o ++ [t[i]]) ++ ·) := by
                      rw [HG.out, HE.out, if_pos rfl]
                      exact push_map o t[i] _
                    have HN := Lib.hid hnx
                    clear hnx HE HG
                    obtain ⟨y, hy⟩ : ∃ y : Int, (t[i].toNat : Int) = y := ⟨_, rfl⟩
                    have hpi := HPI.out
                    rw [hy] at hpi
                    have hpi2 : (32 ≤ y ∧ y ≠ 127) ∨ y = 9 := by
                      rcases hpi with ⟨_, h⟩ | ⟨h, _⟩
                      · exact h
                      · cases h
                    have y0 : 0 ≤ y := by omega
                    have y1 : y < 256 := by have := (t[i]).toNat_lt; omega
                    have hby : Hid (byteOf y = t[i]) := Lib.hid (by rw [← hy]; exact byteOf_self _)
                    have hcv := conv1 wr y y0 y1
                    clear hpi
                    rw [hy] at hb hb2
                    rcases hpi2 with ⟨g1, g2⟩ | g1
                    · have b127 : (y == 127) = false := by rw [beq_eq_false_iff_ne]; exact g2
                      clear g2
                      go_wp2_with fail
                      go_roundw
                      case rel =>
                        refine ⟨i + 1, o ++ [t[i]], x ++ ⟨#[byteOf y]⟩, by omega, by go_num, rfl, Lib.hid ?_, ?_, HN, by simp; omega, Lib.hid (hbel.alloc hbs _)⟩
                        · rw [str_app, HO.out, hby.out]
                        · rw [ByteArray.size_append]
                          show x.size + 1 ≤ _
                          omega
                      case measure => simp [intOf]; omega
                    · have b9 : (y != 9) = false := by rw [bne_eq_false_iff_eq]; exact g1
                      have b127 : (y == 127) = false := by rw [beq_eq_false_iff_ne]; omega
                      have g32 : y < 32 := by omega
                      clear g1
                      go_wp2_with fail
                      go_roundw
                      case rel =>
                        refine ⟨i + 1, o ++ [t[i]], x ++ ⟨#[byteOf y]⟩, by omega, by go_num, rfl, Lib.hid ?_, ?_, HN, by simp; omega, Lib.hid (hbel.alloc hbs _)⟩
                        · rw [str_app, HO.out, hby.out]
                        · rw [ByteArray.size_append]
                          show x.size + 1 ≤ _
                          omega
                      case measure => simp [intOf]; omega
            · have hfin : unqF s.data.toList = some o := by
                rw [HUN.out, HG.out, List.drop_eq_nil_of_le (by rw [size_len]; omega)]
                simp [unqGo]
              have hfin2 : uqres (unqF s.data.toList) = .tuple #[.string x, .bool true] := by
                rw [hfin, ← HO.out]
                unfold uqres
                simp only [mk_toList]
              have HN := Lib.hid hfin2
              clear hfin hfin2
              go_wp2_with fail
              go_ret2
              rw [HN.out]
              exact ⟨rfl, by unfold Aft; rw [HB.out]; exact hbel⟩
        · have hb1 : ((s[s.size - 1].toNat : Int) != 34) = true := by
            rw [bne_iff_ne]
            intro e
            exact hq1 (byte_eq.2 e)
          have HN : Hid (unqF s.data.toList = none) := Lib.hid (by rw [HU.out, if_neg (by decide), if_neg h2, if_neg (by rw [hge0, hq0]; simp), if_pos (by rw [hge1]; exact hq1)])
          have e1 : (s.size : Int) - 1 = ((s.size - 1 : Nat) : Int) := by omega
          clear hge0 hge1 hq0 hq1 HU
          go_enter Try.func77, Try.ntmps77
          go_wp2_with (go_at_call 75; refine (HT.out _).mono ?_; rintro e w1 ⟨rfl, rfl⟩)
          go_ret2
          rw [HN.out]
          exact ⟨rfl, Aft.refl _⟩
      · have hb0 : ((s[0].toNat : Int) != 34) = true := by
          rw [bne_iff_ne]
          intro e
          exact hq0 (byte_eq.2 e)
        have HN : Hid (unqF s.data.toList = none) := Lib.hid (by rw [HU.out, if_neg (by decide), if_neg h2, if_pos (by rw [hge0]; exact hq0)])
        clear hge0 hge1 hq0 HU
        go_enter Try.func77, Try.ntmps77
        go_wp2_with (go_at_call 75; refine (HT.out _).mono ?_; rintro e w1 ⟨rfl, rfl⟩)
        go_ret2
        rw [HN.out]
        exact ⟨rfl, Aft.refl _⟩
  · have HN : Hid (unqF s.data.toList = some s.data.toList) := Lib.hid (by rw [HU.out, if_pos rfl])
    clear HU
    go_enter Try.func77, Try.ntmps77
    go_wp2_with (go_at_call 75; refine (HT.out _).mono ?_; rintro e w1 ⟨rfl, rfl⟩)
    go_ret2
    rw [HN.out]
    unfold uqres
    simp only [mk_toList]
    exact ⟨rfl, Aft.refl _⟩


end Go.Proofs.Ytdcdckjdloddiaa
