/-
  The walk of the reference's Split.
-/
import Derived.Test.YtodgnphmjagnkaaRTok4
import Derived.Test.YtodgnphmjagnkaaTokSplit
namespace Go.Proofs.Ytodgnphmjagnkaa
open Go.RowKit

/-- Inside a quoted text. -/
def inT (cur r : List UInt8) : Option (List (List UInt8)) := match qend r with | none => none | some n => splT (cur ++ r.take n) (r.drop n)
theorem splT_in (cur r : List UInt8) : splT cur (34 :: r) = inT (cur ++ [34]) r := by
  rw [splT_quote]
  unfold inT
  cases qend r with
  | none => rfl
  | some n => simp
theorem inT_nil (cur : List UInt8) : inT cur [] = none := rfl
theorem inT_last (cur : List UInt8) : inT cur [92] = none := rfl
theorem inT_esc (cur r : List UInt8) (d : UInt8) : inT cur (92 :: d :: r) = inT (cur ++ [92, d]) r := by
  unfold inT
  conv => lhs; unfold qend
  rw [if_pos rfl]
  simp only
  cases qend r with
  | none => rfl
  | some n => simp
theorem inT_end (cur r : List UInt8) : inT cur (34 :: r) = splT (cur ++ [34]) r := by
  unfold inT
  conv => lhs; unfold qend
  rw [if_neg (by decide), if_pos rfl]
  rfl
theorem inT_other (cur r : List UInt8) (c : UInt8) (h1 : c ≠ 92) (h2 : c ≠ 34) : inT cur (c :: r) = inT (cur ++ [c]) r := by
  unfold inT
  conv => lhs; unfold qend
  rw [if_neg h1, if_neg h2]
  cases qend r with
  | none => rfl
  | some n => simp
/-- Where the walk stands. -/
def SpR (S : List UInt8) (n i a : Nat) (l : List (List UInt8)) (b : Bool) : Prop :=
  if i ≤ n then splF S = ((if b then inT else splT) ((S.drop a).take (i - a)) (S.drop i)).map (l ++ ·) else splF S = (if b then none else some l)
theorem SpR.mk1 {S : List UInt8} {n i a : Nat} {l : List (List UInt8)} {b : Bool} (hi : i ≤ n) (h : splF S = ((if b then inT else splT) ((S.drop a).take (i - a)) (S.drop i)).map (l ++ ·)) : SpR S n i a l b := by
  unfold SpR
  rw [if_pos hi]
  exact h
theorem SpR.mk2 {S : List UInt8} {n i a : Nat} {l : List (List UInt8)} {b : Bool} (hi : ¬ i ≤ n) (h : splF S = (if b then none else some l)) : SpR S n i a l b := by
  unfold SpR
  rw [if_neg hi]
  exact h
theorem SpR.get1 {S : List UInt8} {n i a : Nat} {l : List (List UInt8)} {b : Bool} (h : SpR S n i a l b) (hi : i ≤ n) : splF S = ((if b then inT else splT) ((S.drop a).take (i - a)) (S.drop i)).map (l ++ ·) := by
  unfold SpR at h
  rwa [if_pos hi] at h
theorem SpR.get2 {S : List UInt8} {n i a : Nat} {l : List (List UInt8)} {b : Bool} (h : SpR S n i a l b) (hi : ¬ i ≤ n) : splF S = (if b then none else some l) := by
  unfold SpR at h
  rwa [if_neg hi] at h
theorem map_app (x y : List (List UInt8)) (r : Option (List (List UInt8))) : (r.map (y ++ ·)).map (x ++ ·) = r.map ((x ++ y) ++ ·) := by
  rw [Option.map_map]
  congr 1
  funext z
  simp
theorem ife_tt {α : Type} (x y : α) : (if (true : Bool) then x else y) = x := rfl
theorem ife_ff {α : Type} (x y : α) : (if (false : Bool) then x else y) = y := rfl

theorem rtrim_eq (s : ByteArray) (w : World) (hs : s.size ≤ maxLen) :
    Calls Try.prog 40 #[.string s] w fun e w' => e = .returned (.string ⟨(trimL s.data.toList).toArray⟩) ∧ w = w' :=
  (rtrim_same s w hs).mono fun _ _ ⟨he, hw⟩ => ⟨he, hw.symm⟩
set_option maxHeartbeats 8000000 in
theorem rsplit_any (s : ByteArray) (w : World) (hs : s.size ≤ 1000000000) :
    Calls Try.prog 23 #[.string s] w fun e w' => SplitPost (splF s.data.toList) w.heap.size e w' ∧ Aft w w' := by
  obtain ⟨B, hB⟩ : ∃ B, w.heap.size = B := ⟨_, rfl⟩
  have HB := Lib.hid hB
  have hb0 : Below B w w := Below.refl _ _
  clear hB
  go_enter Try.func23, Try.ntmps23
  go_wp2_with fail
  go_loopw [4, 5, 6, 7, 8] (fun vl va vb vi _ wr => ∃ (i a : Nat) (b : Bool) (l : List (List UInt8)), i ≤ s.size + 1 ∧ vi = .int .i64 (i : Int) ∧ vb = .bool b ∧ (a ≤ i ∧ va = .int .i64 (a : Int)) ∧ Hid (OwnS wr B vl l) ∧ l.length ≤ i ∧ Hid (Below B w wr) ∧ Hid (SpR s.data.toList s.size i a l b)) (fun _ _ _ vi _ _ => s.size + 2 - (intOf vi).toNat)
  case atStart => exact ⟨0, 0, false, [], by omega, by go_num, rfl, ⟨by omega, by go_num⟩, Lib.hid (OwnS.nil _ _), by simp, Lib.hid hb0, Lib.hid (SpR.mk1 (by omega) (by rw [ife_ff, splF_T]; simp))⟩
  case round =>
    clear hb0
    obtain ⟨i, a, b, l, hi, rfl, rfl, ⟨ha, rfl⟩, HO, hll, HBE, HR⟩ := hrel
    have hbs : B ≤ wr.heap.size := by rw [← HB.out]; exact HBE.out.size
    by_cases hlt : i < s.size
    · have hil : i < s.data.toList.length := by rw [size_len]; exact hlt
      have hg := HR.out.get1 (by omega)
      have hdrop := List.drop_eq_getElem_cons hil
      have hpiece := take_piece ha hil
      rw [hdrop] at hg
      have hcc : s.data.toList[i] = s[i] := rfl
      rw [hcc] at hg hpiece
      have hle : (i : Int) ≤ (s.size : Int) := by omega
      have hnl : ((i : Int) == (s.size : Int)) = false := by rw [beq_eq_false_iff_ne]; omega
      clear HR hdrop
      cases b
      · rw [ife_ff] at hg
        by_cases h44 : s[i] = 44
        · have hb1 : ((s[i].toNat : Int) == 44) = true := by rw [h44]; rfl
          have HN : Hid (splF s.data.toList = (splT ((s.data.toList.drop (i + 1)).take (i + 1 - (i + 1))) (s.data.toList.drop (i + 1))).map ((l ++ elemL ((s.data.toList.drop a).take (i - a))) ++ ·)) := Lib.hid (by rw [hg, h44, splT_comma, map_app, Nat.sub_self, List.take_zero])
          clear hg hpiece h44
          obtain ⟨T, hT⟩ : ∃ T, trimL ((s.data.toList.drop a).take (i - a)) = T := ⟨_, rfl⟩
          have hel : elemL ((s.data.toList.drop a).take (i - a)) = if T.isEmpty then [] else [T] := by unfold elemL; rw [hT]
          have CT := Lib.hid (fun w => rtrim_eq (s.extract a (i)) w (by rw [ByteArray.size_extract]; unfold maxLen; omega))
          rw [Lib.extract_data, hT] at CT
          rw [hel] at HN
          clear hT hel
          cases hTe : T.isEmpty
          · rw [hTe, if_neg (by decide)] at HN
            go_wp2_with (first | (go_at_call 40; refine (CT.out _).mono ?_; rintro e w1 ⟨rfl, rfl⟩) | (at_builtin; refine wpList_pushS rfl (.tmp 53) (.tmp 55) rfl B _ l rfl (HO.out.aft ((Aft.refl _).alloc _)) ⟨wr.heap.size, 0, none⟩ 1 T rfl (cell_new1 _ _ _) (by omega) (le_alloc hbs _) ?_; intro v6 w6 o6 g6))
            go_roundw
            case rel => exact ⟨i + 1, i + 1, false, l ++ [T], by omega, by go_num, rfl, ⟨by omega, by go_num⟩, Lib.hid o6, by simp; omega, Lib.hid (pushS_below (HBE.out.alloc hbs _) (HO.out.aft ((Aft.refl _).alloc _)) g6 (Nat.le_refl _) (le_alloc hbs _)), Lib.hid (SpR.mk1 (by omega) (by rw [ife_ff]; exact HN.out))⟩
            case measure => simp [intOf] <;> omega
          · rw [hTe, if_pos rfl, List.append_nil] at HN
            go_wp2_with (go_at_call 40; refine (CT.out _).mono ?_; rintro e w1 ⟨rfl, rfl⟩)
            go_roundw
            case rel => exact ⟨i + 1, i + 1, false, l, by omega, by go_num, rfl, ⟨by omega, by go_num⟩, HO, by omega, HBE, Lib.hid (SpR.mk1 (by omega) (by rw [ife_ff]; exact HN.out))⟩
            case measure => simp [intOf] <;> omega
        · have hb1 : ((s[i].toNat : Int) == 44) = false := by
            rw [beq_eq_false_iff_ne]
            intro e
            exact h44 (byte_eq.2 e)
          by_cases h34 : s[i] = 34
          · have hb2 : ((s[i].toNat : Int) == 34) = true := by rw [h34]; rfl
            have HN : Hid (SpR s.data.toList s.size (i + 1) a l true) := Lib.hid (SpR.mk1 (by omega) (by rw [ife_tt, hg, h34, splT_in, hpiece, h34]))
            clear hg hpiece h44 h34
            go_wp2_with fail
            go_roundw
            case rel => exact ⟨i + 1, a, true, l, by omega, by go_num, rfl, ⟨by omega, rfl⟩, HO, by omega, HBE, HN⟩
            case measure => simp [intOf] <;> omega
          · have hb2 : ((s[i].toNat : Int) == 34) = false := by
              rw [beq_eq_false_iff_ne]
              intro e
              exact h34 (byte_eq.2 e)
            have HN : Hid (SpR s.data.toList s.size (i + 1) a l false) := Lib.hid (SpR.mk1 (by omega) (by rw [ife_ff, hg, splT_other _ _ _ h44 h34, hpiece]))
            clear hg hpiece h44 h34
            go_wp2_with fail
            go_roundw
            case rel => exact ⟨i + 1, a, false, l, by omega, by go_num, rfl, ⟨by omega, rfl⟩, HO, by omega, HBE, HN⟩
            case measure => simp [intOf] <;> omega
      · rw [ife_tt] at hg
        by_cases h92 : s[i] = 92
        · have hb1 : ((s[i].toNat : Int) == 92) = true := by rw [h92]; rfl
          by_cases hlast : i + 1 = s.size
          · have HN : Hid (splF s.data.toList = none) := Lib.hid (by rw [hg, h92, (List.drop_eq_nil_of_le (by rw [size_len]; omega) : s.data.toList.drop (i + 1) = []), inT_last]; rfl)
            have hge : (s.size : Int) ≤ (i : Int) + 1 := by omega
            clear hg hpiece h92
            go_wp2_with fail
            go_ret2
            rw [HN.out, HB.out]
            exact ⟨rfl, by unfold Aft; rw [HB.out]; exact HBE.out⟩
          · have hil2 : i + 1 < s.data.toList.length := by rw [size_len]; omega
            have hd2 := List.drop_eq_getElem_cons hil2
            have hp2 := take_piece (l := s.data.toList) (a := a) (i := i + 1) (by omega) hil2
            have HN : Hid (SpR s.data.toList s.size (i + 2) a l true) := Lib.hid (SpR.mk1 (by omega) (by
              rw [ife_tt, hg, h92, hd2, inT_esc, show i + 2 = i + 1 + 1 by omega, hp2, hpiece, h92]
              simp))
            have hi1 : (i : Int) + 1 < (s.size : Int) := by omega
            clear hg hpiece h92 hd2 hp2
            go_wp2_with fail
            go_roundw
            case rel => exact ⟨i + 2, a, true, l, by omega, by go_num, rfl, ⟨by omega, rfl⟩, HO, by omega, HBE, HN⟩
            case measure => simp [intOf] <;> omega
        · have hb1 : ((s[i].toNat : Int) == 92) = false := by
            rw [beq_eq_false_iff_ne]
            intro e
            exact h92 (byte_eq.2 e)
          by_cases h34 : s[i] = 34
          · have hb2 : ((s[i].toNat : Int) == 34) = true := by rw [h34]; rfl
            have HN : Hid (SpR s.data.toList s.size (i + 1) a l false) := Lib.hid (SpR.mk1 (by omega) (by rw [ife_ff, hg, h34, inT_end, hpiece, h34]))
            clear hg hpiece h92 h34
            go_wp2_with fail
            go_roundw
            case rel => exact ⟨i + 1, a, false, l, by omega, by go_num, rfl, ⟨by omega, rfl⟩, HO, by omega, HBE, HN⟩
            case measure => simp [intOf] <;> omega
          · have hb2 : ((s[i].toNat : Int) == 34) = false := by
              rw [beq_eq_false_iff_ne]
              intro e
              exact h34 (byte_eq.2 e)
            have HN : Hid (SpR s.data.toList s.size (i + 1) a l true) := Lib.hid (SpR.mk1 (by omega) (by rw [ife_tt, hg, inT_other _ _ _ h92 h34, hpiece]))
            clear hg hpiece h92 h34
            go_wp2_with fail
            go_roundw
            case rel => exact ⟨i + 1, a, true, l, by omega, by go_num, rfl, ⟨by omega, rfl⟩, HO, by omega, HBE, HN⟩
            case measure => simp [intOf] <;> omega
    · by_cases hend : i = s.size
      · obtain rfl : s.size = i := hend.symm
        have hg := HR.out.get1 (Nat.le_refl _)
        rw [List.drop_eq_nil_of_le (by rw [size_len]; exact Nat.le_refl _ : s.data.toList.length ≤ s.size)] at hg
        have hnl : ((s.size : Int) == (s.size : Int)) = true := beq_self_eq_true _
        clear HR
        cases b
        · have HN : Hid (splF s.data.toList = some (l ++ elemL ((s.data.toList.drop a).take (s.size - a)))) := Lib.hid (by rw [hg, ife_ff, splT_nil]; rfl)
          clear hg
          obtain ⟨T, hT⟩ : ∃ T, trimL ((s.data.toList.drop a).take (s.size - a)) = T := ⟨_, rfl⟩
          have hel : elemL ((s.data.toList.drop a).take (s.size - a)) = if T.isEmpty then [] else [T] := by unfold elemL; rw [hT]
          have CT := Lib.hid (fun w => rtrim_eq (s.extract a (s.size)) w (by rw [ByteArray.size_extract]; unfold maxLen; omega))
          rw [Lib.extract_data, hT] at CT
          rw [hel] at HN
          clear hT hel
          cases hTe : T.isEmpty
          · rw [hTe, if_neg (by decide)] at HN
            go_wp2_with (first | (go_at_call 40; refine (CT.out _).mono ?_; rintro e w1 ⟨rfl, rfl⟩) | (at_builtin; refine wpList_pushS rfl (.tmp 53) (.tmp 55) rfl B _ l rfl (HO.out.aft ((Aft.refl _).alloc _)) ⟨wr.heap.size, 0, none⟩ 1 T rfl (cell_new1 _ _ _) (by omega) (le_alloc hbs _) ?_; intro v6 w6 o6 g6))
            go_roundw
            case rel => exact ⟨s.size + 1, s.size + 1, false, l ++ [T], by omega, by go_num, rfl, ⟨by omega, by go_num⟩, Lib.hid o6, by simp; omega, Lib.hid (pushS_below (HBE.out.alloc hbs _) (HO.out.aft ((Aft.refl _).alloc _)) g6 (Nat.le_refl _) (le_alloc hbs _)), Lib.hid (SpR.mk2 (by omega) (by rw [ife_ff]; exact HN.out))⟩
            case measure => simp [intOf] <;> omega
          · rw [hTe, if_pos rfl, List.append_nil] at HN
            go_wp2_with (go_at_call 40; refine (CT.out _).mono ?_; rintro e w1 ⟨rfl, rfl⟩)
            go_roundw
            case rel => exact ⟨s.size + 1, s.size + 1, false, l, by omega, by go_num, rfl, ⟨by omega, by go_num⟩, HO, by omega, HBE, Lib.hid (SpR.mk2 (by omega) (by rw [ife_ff]; exact HN.out))⟩
            case measure => simp [intOf] <;> omega
        · have HN2 : Hid (splF s.data.toList = none) := Lib.hid (by rw [hg, ife_tt, inT_nil]; rfl)
          have HN : Hid (l ++ elemL ((s.data.toList.drop a).take (s.size - a)) = l ++ elemL ((s.data.toList.drop a).take (s.size - a))) := Lib.hid rfl
          clear hg
          obtain ⟨T, hT⟩ : ∃ T, trimL ((s.data.toList.drop a).take (s.size - a)) = T := ⟨_, rfl⟩
          have hel : elemL ((s.data.toList.drop a).take (s.size - a)) = if T.isEmpty then [] else [T] := by unfold elemL; rw [hT]
          have CT := Lib.hid (fun w => rtrim_eq (s.extract a (s.size)) w (by rw [ByteArray.size_extract]; unfold maxLen; omega))
          rw [Lib.extract_data, hT] at CT
          rw [hel] at HN
          clear hT hel
          cases hTe : T.isEmpty
          · rw [hTe, if_neg (by decide)] at HN
            go_wp2_with (first | (go_at_call 40; refine (CT.out _).mono ?_; rintro e w1 ⟨rfl, rfl⟩) | (at_builtin; refine wpList_pushS rfl (.tmp 53) (.tmp 55) rfl B _ l rfl (HO.out.aft ((Aft.refl _).alloc _)) ⟨wr.heap.size, 0, none⟩ 1 T rfl (cell_new1 _ _ _) (by omega) (le_alloc hbs _) ?_; intro v6 w6 o6 g6))
            go_roundw
            case rel => exact ⟨s.size + 1, s.size + 1, true, l ++ [T], by omega, by go_num, rfl, ⟨by omega, by go_num⟩, Lib.hid o6, by simp; omega, Lib.hid (pushS_below (HBE.out.alloc hbs _) (HO.out.aft ((Aft.refl _).alloc _)) g6 (Nat.le_refl _) (le_alloc hbs _)), Lib.hid (SpR.mk2 (by omega) (by rw [ife_tt]; exact HN2.out))⟩
            case measure => simp [intOf] <;> omega
          · rw [hTe, if_pos rfl, List.append_nil] at HN
            go_wp2_with (go_at_call 40; refine (CT.out _).mono ?_; rintro e w1 ⟨rfl, rfl⟩)
            go_roundw
            case rel => exact ⟨s.size + 1, s.size + 1, true, l, by omega, by go_num, rfl, ⟨by omega, by go_num⟩, HO, by omega, HBE, Lib.hid (SpR.mk2 (by omega) (by rw [ife_tt]; exact HN2.out))⟩
            case measure => simp [intOf] <;> omega
      · have hgt : (s.size : Int) < (i : Int) := by omega
        have hg := HR.out.get2 (by omega)
        clear HR
        cases b
        · have HN : Hid (splF s.data.toList = some l) := Lib.hid hg
          clear hg
          go_wp2_with fail
          go_ret2
          rw [HN.out, HB.out]
          exact ⟨⟨_, rfl, HO.out⟩, by unfold Aft; rw [HB.out]; exact HBE.out⟩
        · have HN : Hid (splF s.data.toList = none) := Lib.hid hg
          clear hg
          go_wp2_with fail
          go_ret2
          rw [HN.out, HB.out]
          exact ⟨rfl, by unfold Aft; rw [HB.out]; exact HBE.out⟩

end Go.Proofs.Ytodgnphmjagnkaa
