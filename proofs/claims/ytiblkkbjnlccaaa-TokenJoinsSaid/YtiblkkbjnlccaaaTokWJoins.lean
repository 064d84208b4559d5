/-
  The walk of TokenJoins.
-/
import Derived.Test.YtiblkkbjnlccaaaTokLawJ
import Derived.Test.YtiblkkbjnlccaaaArgI
import Derived.Test.YtiblkkbjnlccaaaTokWBack
namespace Go.Proofs.Ytiblkkbjnlccaaa
open Go.RowKit

theorem Toks.snoc {ps : List (Bool × List UInt8)} (h : Toks ps) (b : Bool) {x : List UInt8} (hx : x.all signB = true) : Toks (ps ++ [(b, x)]) := by
  intro p hp
  rcases List.mem_append.1 hp with h1 | h1
  · exact h p h1
  · simp at h1
    subst h1
    exact hx
theorem below_aft2 {B : Nat} {w w' : World} (h : Below B w w') (hB : w.heap.size = B) : Aft w w' := by
  unfold Aft
  rw [hB]
  exact h

set_option maxHeartbeats 4000000 in
theorem walkTokenJoins (w : World) {H : Type} {enc : TypeId × Value → H} {base : Nat} {v : Value} {d : DataW H} {p : List MemPlace} (hval : Value.okWide Try.prog w .any base 22 v) (hd : DataW.Trod enc Try.prog w 0 (fun _ => true) true 22 v d p)
    {base2 : Nat} {v2 : Value} {d2 : DataW H} {p2 : List MemPlace} (hval2 : Value.okWide Try.prog w .any base2 35 v2) (hd2 : DataW.Trod enc Try.prog w 0 (fun _ => true) true 35 v2 d2 p2) :
    Calls Try.prog 5 #[v, v2] w fun e w' => e = .returned (.bool true) ∧ Aft w w' := by
  obtain ⟨l, hr, hmx⟩ := open_strsRb hval hd
  obtain ⟨bl, hr2, hmz⟩ := open_intsRb hval2 hd2
  clear hval hd hval2 hd2
  obtain ⟨a1, c1, b1, o1, rfl, m1, p1, q1, r1⟩ := hr.open
  obtain ⟨a2, c2, b2, o2, rfl, m2, p2, q2, r2⟩ := hr2.open
  unfold maxLen at m1 m2
  have P1 := Lib.hid p1
  have Q1 := Lib.hid q1
  have R1 := Lib.hid r1
  have MX := Lib.hid hmx
  have P2 := Lib.hid p2
  have Q2 := Lib.hid q2
  have R2 := Lib.hid r2
  have MZ := Lib.hid hmz
  clear hr p1 q1 r1 hmx hr2 p2 q2 r2 hmz
  obtain ⟨B, hB⟩ : ∃ B, w.heap.size = B := ⟨_, rfl⟩
  have HB := Lib.hid hB
  have hb0 : Below B w w := Below.refl _ _
  clear hB
  go_enter Try.func5, Try.ntmps5
  go_wp2_with fail
  go_loopw [5, 6, 7, 8, 9] (fun vl vw vi _ _ wr => ∃ (k : Nat) (line : ByteArray) (ps : List (Bool × List UInt8)) (ys : List (List UInt8)), k ≤ l.length ∧ k ≤ 20 ∧ vi = .int .i64 (k : Int) ∧ vl = .string line ∧ Hid (line.data.toList = joinL ps) ∧ Hid (wantL ps = ys) ∧ Hid (Toks ps) ∧ Hid (OwnS wr B vw ys) ∧ line.size ≤ 400 * k ∧ ys.length ≤ k ∧ Hid (Below B w wr)) (fun _ _ vi _ _ _ => l.length - (intOf vi).toNat)
  case atStart => exact ⟨0, _, [], [], by omega, by omega, by go_num, rfl, Lib.hid rfl, Lib.hid rfl, Lib.hid (fun p hp => by cases hp), Lib.hid (OwnS.nil _ _), by decide, by simp, Lib.hid hb0⟩
  case round =>
    clear hb0
    obtain ⟨k, line, ps, ys, hk, hk10, rfl, rfl, HL, HW, HT, HO, hls, hxs, HBE⟩ := hrel
    have hbs : B ≤ wr.heap.size := by rw [← HB.out]; exact HBE.out.size
    by_cases hlt : k < l.length ∧ k < 20
    · obtain ⟨hlt, hlt10⟩ := hlt
      have hne : l ≠ [] := by intro e; rw [e] at hlt; simp at hlt
      have hpa := P1.out hne
      have hbb := Q1.out hne
      have hx : wr.cell? ⟨b1, o1 + k, none⟩ = some (strV l[k]) := by
        rw [Below.cell HBE.out (p := ⟨b1, o1 + k, none⟩) (by rw [← HB.out]; exact hbb)]
        exact R1.out k hlt
      have hym := MX.out l[k] (List.getElem_mem hlt)
      generalize l[k] = y at hx hym
      obtain ⟨t, ht⟩ : ∃ t : ByteArray, t.data.toList = y.take 300 := ⟨⟨(y.take 300).toArray⟩, rfl⟩
      have htz : t.size ≤ 300 := by rw [← size_len, ht, List.length_take]; omega
      have CS := Lib.hid (fun w => short_of ⟨y.toArray⟩ t w (by simpa [ByteArray.size] using hym) ht)
      unfold strV at hx
      subst hpa
      have hkl : (k : Int) < (l.length : Int) := by omega
      clear ht hne hym
      have HBL : Hid (k < bl.length → ∃ z, a2 = some ⟨b2, o2, none⟩ ∧ b2 < B ∧ w.cell? ⟨b2, o2 + k, none⟩ = some (.int .i64 z) ∧ -9223372036854775808 ≤ z ∧ z ≤ 9223372036854775807) := Lib.hid fun h => by
        have hn2 : bl ≠ [] := by intro e; rw [e] at h; simp at h
        exact ⟨bl[k], P2.out hn2, by rw [← HB.out]; exact Q2.out hn2, R2.out k h, (MZ.out _ (List.getElem_mem h)).1, (MZ.out _ (List.getElem_mem h)).2⟩
      by_cases ht0 : t.size = 0
      · obtain ⟨he1, he2⟩ := is_empty ht0
        have HE2 := Lib.hid he2
        have HW2 : ∀ b, Hid (wantL (ps ++ [(b, t.data.toList)]) = ys) := fun b => Lib.hid (by rw [wantL_snoc, HE2.out, HW.out]; simp)
        have hal : t.data.toList.all signB = true := by rw [HE2.out]; rfl
        have HAL := Lib.hid hal
        clear he2 hal
        by_cases hkb : k < bl.length
        · obtain ⟨z, rfl, hbb2, hz, z0, z1⟩ := HBL.out hkb
          have hz' : wr.cell? ⟨b2, o2 + k, none⟩ = some (.int .i64 z) := by rw [Below.cell HBE.out (p := ⟨b2, o2 + k, none⟩) hbb2]; exact hz
          clear hz
          go_wp2_with (go_at_call 14; refine (CS.out _).mono ?_; rintro e w1 ⟨rfl, rfl⟩)
          all_goals
            first
              | (go_roundw
                 case rel =>
                   refine ⟨k + 1, _, ps ++ [(true, t.data.toList)], _, by omega, by omega, by go_num, rfl, Lib.hid ?_, HW2 true, Lib.hid (HT.out.snoc true HAL.out), Lib.hid HO.out, ?_, by omega, Lib.hid HBE.out⟩
                   · rw [joinL_snoc, ← HL.out]
                     simp [padL]
                     done
                   · simp only [ByteArray.size_append]
                     show line.size + 2 + t.size + 2 + 1 ≤ _
                     omega
                 case measure => simp [intOf]; omega)
              | (go_roundw
                 case rel =>
                   refine ⟨k + 1, _, ps ++ [(false, t.data.toList)], _, by omega, by omega, by go_num, rfl, Lib.hid ?_, HW2 false, Lib.hid (HT.out.snoc false HAL.out), Lib.hid HO.out, ?_, by omega, Lib.hid HBE.out⟩
                   · rw [joinL_snoc, ← HL.out]
                     simp [padL]
                   · simp only [ByteArray.size_append]
                     first | (show line.size + 0 + t.size + 0 + 1 ≤ _; omega) | (show line.size + t.size + 1 ≤ _; omega)
                 case measure => simp [intOf]; omega)
        · have hkb' : (bl.length : Int) ≤ (k : Int) := by omega
          go_wp2_with (go_at_call 14; refine (CS.out _).mono ?_; rintro e w1 ⟨rfl, rfl⟩)
          all_goals
            first
              | (go_roundw
                 case rel =>
                   refine ⟨k + 1, _, ps ++ [(true, t.data.toList)], _, by omega, by omega, by go_num, rfl, Lib.hid ?_, HW2 true, Lib.hid (HT.out.snoc true HAL.out), Lib.hid HO.out, ?_, by omega, Lib.hid HBE.out⟩
                   · rw [joinL_snoc, ← HL.out]
                     simp [padL]
                     done
                   · simp only [ByteArray.size_append]
                     show line.size + 2 + t.size + 2 + 1 ≤ _
                     omega
                 case measure => simp [intOf]; omega)
              | (go_roundw
                 case rel =>
                   refine ⟨k + 1, _, ps ++ [(false, t.data.toList)], _, by omega, by omega, by go_num, rfl, Lib.hid ?_, HW2 false, Lib.hid (HT.out.snoc false HAL.out), Lib.hid HO.out, ?_, by omega, Lib.hid HBE.out⟩
                   · rw [joinL_snoc, ← HL.out]
                     simp [padL]
                   · simp only [ByteArray.size_append]
                     first | (show line.size + 0 + t.size + 0 + 1 ≤ _; omega) | (show line.size + t.size + 1 ≤ _; omega)
                 case measure => simp [intOf]; omega)
      · have hne := ne_empty (t := t) (by omega)
        obtain ⟨tb, htb⟩ : ∃ b, tokB t.data.toList = b := ⟨_, rfl⟩
        have CT := Lib.hid (token_of t tb htb (by unfold maxLen; omega))
        have HTB := Lib.hid htb
        clear htb
        cases tb
        · go_wp2_with (first | (go_at_call 14; refine (CS.out _).mono ?_; rintro e w1 ⟨rfl, rfl⟩) | (go_at_call 15; refine (CT.out _).mono ?_; rintro e w1 ⟨rfl, rfl⟩))
          go_roundw
          case rel => exact ⟨k + 1, line, ps, ys, by omega, by omega, by go_num, rfl, HL, HW, HT, HO, by omega, by omega, HBE⟩
          case measure => simp [intOf]; omega
        · have hal : t.data.toList.all signB = true := by
            have := HTB.out
            unfold tokB at this
            simp only [Bool.and_eq_true] at this
            exact this.1
          have hne2 : t.data.toList.isEmpty = false := by rw [Lib.toList_data] at hne; exact hne
          have HW2 : ∀ b, Hid (wantL (ps ++ [(b, t.data.toList)]) = ys ++ [t.data.toList]) := fun b => Lib.hid (by rw [wantL_snoc, HW.out, hne2]; rfl)
          have HAL := Lib.hid hal
          clear hal hne2
          by_cases hkb : k < bl.length
          · obtain ⟨z, rfl, hbb2, hz, z0, z1⟩ := HBL.out hkb
            have HZ := Lib.hid hz
            clear hz
            go_wp2_with (first | (go_at_call 14; refine (CS.out _).mono ?_; rintro e w1 ⟨rfl, rfl⟩) | (go_at_call 15; refine (CT.out _).mono ?_; rintro e w1 ⟨rfl, rfl⟩) | (at_builtin; refine wpList_pushS rfl (.tmp 38) (.tmp 40) rfl B _ ys rfl (HO.out.aft ((Aft.refl _).alloc _)) ⟨wr.heap.size, 0, none⟩ 1 t.data.toList rfl (cell_new1 _ _ _) (by omega) (le_alloc hbs _) ?_; intro v6 w6 o6 g6; have b6 := Lib.hid (pushS_below (HBE.out.alloc hbs _) (HO.out.aft ((Aft.refl _).alloc _)) g6 (Nat.le_refl _) (le_alloc hbs _)); have hz6 : w6.cell? ⟨b2, o2 + k, none⟩ = some (.int .i64 z) := (Below.cell b6.out (p := ⟨b2, o2 + k, none⟩) hbb2).trans HZ.out))
            all_goals
              first
                | (go_roundw
                   case rel =>
                     refine ⟨k + 1, _, ps ++ [(true, t.data.toList)], _, by omega, by omega, by go_num, rfl, Lib.hid ?_, HW2 true, Lib.hid (HT.out.snoc true HAL.out), Lib.hid o6, ?_, by simp; omega, Lib.hid b6.out⟩
                     · rw [joinL_snoc, ← HL.out]
                       simp [padL]
                       done
                     · simp only [ByteArray.size_append]
                       show line.size + 2 + t.size + 2 + 1 ≤ _
                       omega
                   case measure => simp [intOf]; omega)
                | (go_roundw
                   case rel =>
                     refine ⟨k + 1, _, ps ++ [(false, t.data.toList)], _, by omega, by omega, by go_num, rfl, Lib.hid ?_, HW2 false, Lib.hid (HT.out.snoc false HAL.out), Lib.hid o6, ?_, by simp; omega, Lib.hid b6.out⟩
                     · rw [joinL_snoc, ← HL.out]
                       simp [padL]
                     · simp only [ByteArray.size_append]
                       first | (show line.size + 0 + t.size + 0 + 1 ≤ _; omega) | (show line.size + t.size + 1 ≤ _; omega)
                   case measure => simp [intOf]; omega)
          · have hkb' : (bl.length : Int) ≤ (k : Int) := by omega
            go_wp2_with (first | (go_at_call 14; refine (CS.out _).mono ?_; rintro e w1 ⟨rfl, rfl⟩) | (go_at_call 15; refine (CT.out _).mono ?_; rintro e w1 ⟨rfl, rfl⟩) | (at_builtin; refine wpList_pushS rfl (.tmp 38) (.tmp 40) rfl B _ ys rfl (HO.out.aft ((Aft.refl _).alloc _)) ⟨wr.heap.size, 0, none⟩ 1 t.data.toList rfl (cell_new1 _ _ _) (by omega) (le_alloc hbs _) ?_; intro v6 w6 o6 g6; have b6 := Lib.hid (pushS_below (HBE.out.alloc hbs _) (HO.out.aft ((Aft.refl _).alloc _)) g6 (Nat.le_refl _) (le_alloc hbs _))))
            all_goals
              first
                | (go_roundw
                   case rel =>
                     refine ⟨k + 1, _, ps ++ [(true, t.data.toList)], _, by omega, by omega, by go_num, rfl, Lib.hid ?_, HW2 true, Lib.hid (HT.out.snoc true HAL.out), Lib.hid o6, ?_, by simp; omega, Lib.hid b6.out⟩
                     · rw [joinL_snoc, ← HL.out]
                       simp [padL]
                       done
                     · simp only [ByteArray.size_append]
                       show line.size + 2 + t.size + 2 + 1 ≤ _
                       omega
                   case measure => simp [intOf]; omega)
                | (go_roundw
                   case rel =>
                     refine ⟨k + 1, _, ps ++ [(false, t.data.toList)], _, by omega, by omega, by go_num, rfl, Lib.hid ?_, HW2 false, Lib.hid (HT.out.snoc false HAL.out), Lib.hid o6, ?_, by simp; omega, Lib.hid b6.out⟩
                     · rw [joinL_snoc, ← HL.out]
                       simp [padL]
                     · simp only [ByteArray.size_append]
                       first | (show line.size + 0 + t.size + 0 + 1 ≤ _; omega) | (show line.size + t.size + 1 ≤ _; omega)
                   case measure => simp [intOf]; omega)
    · have hsb : splF line.data.toList = some ys := by rw [HL.out, ← HW.out]; exact spl_join HT.out
      have hsb2 : splF (line ++ ⟨#[34]⟩).data.toList = none := by rw [str_append, HL.out]; exact spl_join_bad HT.out
      have hz2 : (line ++ ⟨#[34]⟩).size ≤ 1000000000 := by rw [ByteArray.size_append]; show line.size + 1 ≤ _; omega
      have CS := Lib.hid (fun w => split_some line ys w (by omega) hsb)
      have CS2 := Lib.hid (fun w => split_none (line ++ ⟨#[34]⟩) w hz2 hsb2)
      clear hsb hsb2 hz2
      by_cases h1 : k < l.length
      · have h2 : 20 ≤ (k : Int) := by omega
        clear hlt
        go_wp2_with fail
        refine (CS.out _).mono ?_
        rintro e w1 ⟨v1, rfl, ow1, b1'⟩
        obtain ⟨ad, kk, rfl, _⟩ := ow1.slice
        go_wp2_with fail
        refine (CS2.out _).mono ?_
        rintro e w2 ⟨rfl, b2'⟩
        go_wp2_with fail
        refine (sameS_any _ _ ys ys _ (ow1.rb.aft b2') ((HO.out.rb.aft b1').aft b2')).mono ?_
        rintro e w3 ⟨rfl, b3'⟩
        rw [beq_self_eq_true]
        go_wp2_with fail
        refine (tokenruns_any _).mono ?_
        rintro e w4 ⟨rfl, b4'⟩
        go_wp2_with fail
        go_ret
        exact ⟨rfl, (below_aft2 HBE.out HB.out).trans (b1'.trans (b2'.trans (b3'.trans b4')))⟩
      · have h1' : (l.length : Int) ≤ (k : Int) := by omega
        clear hlt
        go_wp2_with fail
        refine (CS.out _).mono ?_
        rintro e w1 ⟨v1, rfl, ow1, b1'⟩
        obtain ⟨ad, kk, rfl, _⟩ := ow1.slice
        go_wp2_with fail
        refine (CS2.out _).mono ?_
        rintro e w2 ⟨rfl, b2'⟩
        go_wp2_with fail
        refine (sameS_any _ _ ys ys _ (ow1.rb.aft b2') ((HO.out.rb.aft b1').aft b2')).mono ?_
        rintro e w3 ⟨rfl, b3'⟩
        rw [beq_self_eq_true]
        go_wp2_with fail
        refine (tokenruns_any _).mono ?_
        rintro e w4 ⟨rfl, b4'⟩
        go_wp2_with fail
        go_ret
        exact ⟨rfl, (below_aft2 HBE.out HB.out).trans (b1'.trans (b2'.trans (b3'.trans b4')))⟩

end Go.Proofs.Ytiblkkbjnlccaaa
