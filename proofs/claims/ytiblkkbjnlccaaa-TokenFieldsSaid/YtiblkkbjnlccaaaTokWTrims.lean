/-
  The walk of TokenTrims.
-/
import Derived.Test.YtiblkkbjnlccaaaTokLawT
import Derived.Test.YtiblkkbjnlccaaaTokRuns
namespace Go.Proofs.Ytiblkkbjnlccaaa
open Go.RowKit

theorem short_any (s : ByteArray) (w : World) (hs : s.size ≤ maxLen) :
    Calls Try.prog 14 #[.string s] w fun e w' => ∃ t : ByteArray, e = .returned (.string t) ∧ t.size ≤ 300 ∧ Hid (t.data.toList = s.data.toList.take 300) ∧ w = w' := by
  unfold maxLen at hs
  have hx : (s.extract 0 300).size ≤ 300 := by rw [ByteArray.size_extract]; omega
  have hd := extract_front s 300
  have HD := Lib.hid hd
  clear hd
  by_cases h : 300 < s.size
  · go_enter Try.func14, Try.ntmps14
    go_wp2_with fail
    go_ret
    exact ⟨_, rfl, hx, HD, rfl⟩
  · have he : s.data.toList = s.data.toList.take 300 := (List.take_of_length_le (by rw [size_len]; omega)).symm
    have HE := Lib.hid he
    clear he
    go_enter Try.func14, Try.ntmps14
    go_wp2_with fail
    go_ret
    exact ⟨_, rfl, by omega, HE, rfl⟩
theorem lower_of (s t : ByteArray) (w : World) (hs : s.size ≤ 1000000000) (h : lowerL s.data.toList = t.data.toList) :
    Calls Try.prog 16 #[.string s] w fun e w' => e = .returned (.string t) ∧ Aft w w' := by
  have := lower_any s w (by unfold maxLen; omega)
  rw [h, mk_toList] at this
  exact this
theorem trim_of (s t : ByteArray) (w : World) (hs : s.size ≤ 1000000000) (h : trimL s.data.toList = t.data.toList) :
    Calls Try.prog 17 #[.string s] w fun e w' => e = .returned (.string t) ∧ w' = w := by
  have := trim_same s w (by unfold maxLen; omega)
  rw [h, mk_toList] at this
  exact this

set_option maxHeartbeats 2000000 in
theorem walkTokenTrims (a0 : ByteArray) (h0 : a0.size ≤ maxLen) (w : World) :
    Calls Try.prog 6 #[.string a0] w fun e w' => e = .returned (.bool true) ∧ Aft w w' := by
  go_enter Try.func6, Try.ntmps6
  go_wp2_with fail
  refine (short_any a0 _ h0).mono ?_
  rintro e w0 ⟨s, rfl, hs, _, rfl⟩
  obtain ⟨a, ha⟩ : ∃ a : ByteArray, lowerL s.data.toList = a.data.toList := ⟨⟨(lowerL s.data.toList).toArray⟩, rfl⟩
  obtain ⟨b, hb⟩ : ∃ b : ByteArray, trimL s.data.toList = b.data.toList := ⟨⟨(trimL s.data.toList).toArray⟩, rfl⟩
  have haz : a.size = s.size := by rw [← size_len, ← ha, lower_len, size_len]
  have hbz : b.size ≤ s.size := by rw [← size_len, ← hb, ← size_len]; exact trim_len _
  have ha2 : lowerL a.data.toList = a.data.toList := by rw [← ha, lower_lower]
  have hb2 : trimL b.data.toList = b.data.toList := by rw [← hb, trim_trim]
  have hta : tokB a.data.toList = tokB s.data.toList := by rw [← ha, tok_lower]
  have C1 := Lib.hid (fun w => lower_of s a w (by omega) ha)
  have C2 := Lib.hid (fun w => trim_of s b w (by omega) hb)
  have C3 := Lib.hid (fun w => lower_of a a w (by omega) ha2)
  have C4 := Lib.hid (fun w => trim_of b b w (by omega) hb2)
  have T1 := Lib.hid (fun w => token_any s w (by unfold maxLen; omega))
  have T2 := Lib.hid (fun w => token_any a w (by unfold maxLen; omega))
  rw [hta] at T2
  generalize tokB s.data.toList = tk at T1 T2
  have hb0 : ((a.size : Int) != (s.size : Int)) = false := by rw [bne_eq_false_iff_eq]; omega
  have HAZ := Lib.hid haz
  clear ha hb ha2 hb2 hta haz
  go_wp2_with fail
  refine (C1.out _).mono ?_
  rintro e w1 ⟨rfl, b1⟩
  go_wp2_with fail
  refine (C2.out _).mono ?_
  rintro e w2 ⟨rfl, rfl⟩
  go_wp2_with fail
  refine (C3.out _).mono ?_
  rintro e w3 ⟨rfl, b3⟩
  go_wp2_with fail
  refine (C4.out _).mono ?_
  rintro e w4 ⟨rfl, rfl⟩
  go_wp2_with fail
  refine (T1.out _).mono ?_
  rintro e w5 ⟨rfl, rfl⟩
  go_wp2_with fail
  refine (T2.out _).mono ?_
  rintro e w6 ⟨rfl, rfl⟩
  go_wp2_with fail
  cases hsp : splF s.data.toList with
  | none =>
    refine (split_none s _ (by omega) hsp).mono ?_
    rintro e w7 ⟨rfl, b7⟩
    clear hsp
    go_wp2_with fail
    go_loopw [7] (fun vi wr => vi = .int .i64 0 ∧ Hid (wr = w7)) (fun _ _ => 0)
    case atStart => exact ⟨rfl, Lib.hid rfl⟩
    case round =>
      obtain ⟨rfl, HW⟩ := hrel
      go_wp2_with fail
      refine (tokenruns_any _).mono ?_
      rintro e w8 ⟨rfl, b8⟩
      go_wp2_with fail
      go_ret
      rw [HW.out] at b8
      exact ⟨rfl, b1.trans (b3.trans (b7.trans b8))⟩
  | some L =>
    have hok := splF_ok hsp
    have hlen := splF_len hsp
    rw [size_len] at hlen
    refine (split_some s L _ (by omega) hsp).mono ?_
    rintro e w7 ⟨v7, rfl, o7, b7⟩
    obtain ⟨ad, g, cap, rfl, hl1, hl2, hpos, hcell⟩ := o7.form
    have HOK := Lib.hid hok
    have HLN := Lib.hid hlen
    have HCE := Lib.hid hcell
    have HPO := Lib.hid hpos
    clear hsp hok hlen hcell hpos o7
    unfold maxLen at hl2
    go_wp2_with fail
    go_loopw [7] (fun vi wr => ∃ k : Nat, k ≤ L.length ∧ vi = .int .i64 (k : Int) ∧ Hid (Aft w7 wr)) (fun vi _ => L.length - (intOf vi).toNat)
    case atStart => exact ⟨0, by omega, by go_num, Lib.hid (Aft.refl _)⟩
    case round =>
      obtain ⟨k, hk, rfl, HW⟩ := hrel
      by_cases hlt : k < L.length
      · have hne : L ≠ [] := by intro e; rw [e] at hlt; simp at hlt
        obtain ⟨hp1, hp2⟩ := HPO.out hne
        have hx : wr.cell? ⟨g, k, none⟩ = some (strV L[k]) := by
          rw [Below.cell HW.out.to (p := ⟨g, k, none⟩) hp2]
          exact HCE.out k hlt
        have hel := HOK.out L[k] (List.getElem_mem hlt)
        have hsz : L[k].length ≤ 1000000000 := by have := HLN.out L[k] (List.getElem_mem hlt); omega
        generalize L[k] = y at hx hel hsz
        obtain ⟨e1, e2⟩ := hel
        have hye : y.isEmpty = false := by cases y; exact absurd rfl e1; rfl
        have CT : Hid (∀ w, Calls Try.prog 17 #[.string ⟨y.toArray⟩] w fun e w' => e = .returned (.string ⟨y.toArray⟩) ∧ w' = w) :=
          Lib.hid (fun w => trim_of ⟨y.toArray⟩ ⟨y.toArray⟩ w (by simpa [ByteArray.size] using hsz) e2)
        unfold strV at hx
        subst hp1
        have hkl : (k : Int) < (L.length : Int) := by omega
        clear e1 e2 hne
        go_wp2_with fail
        go_quiet ((go_at_call 17; exact Calls.quiet_of_same (CT.out _)))
        go_wp2_with fail
        go_roundw
        case rel => exact ⟨k + 1, by omega, by go_num, Lib.hid (HW.out.drewN _)⟩
        case measure => simp [intOf]; omega
      · have hkk : k = L.length := by omega
        go_wp2_with fail
        refine (tokenruns_any _).mono ?_
        rintro e w8 ⟨rfl, b8⟩
        go_wp2_with fail
        go_ret
        exact ⟨rfl, b1.trans (b3.trans (b7.trans (HW.out.trans b8)))⟩

end Go.Proofs.Ytiblkkbjnlccaaa
