/-
  The walk of the reference's Unquote.
-/
import Derived.Test.YtodgnphmjagnkaaRTok3
namespace Go.Proofs.Ytodgnphmjagnkaa
open Go.RowKit

theorem str_app (a b : ByteArray) : (a ++ b).data.toList = a.data.toList ++ b.data.toList := by rw [ByteArray.data_append, Array.toList_append]
set_option maxHeartbeats 4000000 in
set_option maxRecDepth 100000 in
theorem runquote_any (s : ByteArray) (w : World) (hs : s.size ≤ 1000000000) :
    Calls Try.prog 58 #[.string s] w fun e w' => e = .returned (uqres (unqF s.data.toList)) ∧ Aft w w' := by
  have hm : s.size ≤ maxLen := by unfold maxLen; omega
  have hsl := size_len s
  obtain ⟨tb, htb⟩ : ∃ b, tokB s.data.toList = b := ⟨_, rfl⟩
  have HT := Lib.hid (rtoken_of s tb htb hm)
  have hun : unqF s.data.toList = if tb then some s.data.toList else if s.data.toList.length < 2 then none else if s.data.toList.getD 0 0 ≠ 34 then none else if s.data.toList.getD (s.data.toList.length - 1) 0 ≠ 34 then none else unqGo ((s.data.toList.take (s.data.toList.length - 1)).drop 1) := by
    unfold unqF
    rw [htb]
  rw [hsl] at hun
  have HU := Lib.hid hun
  clear htb hun hm hsl
  cases tb
  · by_cases h2 : s.size < 2
    · have HN : Hid (unqF s.data.toList = none) := Lib.hid (by rw [HU.out, if_neg (by decide), if_pos h2])
      go_enter Try.func58, Try.ntmps58
      go_wp2_with (go_at_call 56; refine (HT.out _).mono ?_; rintro e w1 ⟨rfl, rfl⟩)
      go_ret2
      rw [HN.out]
      exact ⟨rfl, Aft.refl _⟩
    · have hge0 : s.data.toList.getD 0 0 = s[0] := by
        have : 0 < s.data.toList.length := by rw [size_len]; omega
        simp [List.getD, List.getElem?_eq_getElem this]
        rfl
      have hge1 : s.data.toList.getD (s.size - 1) 0 = s[s.size - 1] := by
        have : s.size - 1 < s.data.toList.length := by rw [size_len]; omega
        simp [List.getD, List.getElem?_eq_getElem this]
        rfl
      by_cases hq0 : s[0] = 34
      · have hb0 : ((s[0].toNat : Int) != 34) = false := by rw [hq0]; rfl
        by_cases hq1 : s[s.size - 1] = 34
        · have hb1 : ((s[s.size - 1].toNat : Int) != 34) = false := by rw [hq1]; rfl
          obtain ⟨t, ht⟩ : ∃ t, s.extract 1 (s.size - 1) = t := ⟨_, rfl⟩
          have hts : t.size = s.size - 2 := by rw [← ht, ByteArray.size_extract]; omega
          have htd : t.data.toList = (s.data.toList.take (s.size - 1)).drop 1 := by
            rw [← ht, Lib.extract_data, List.drop_take]
          have HUN : Hid (unqF s.data.toList = unqGo t.data.toList) := Lib.hid (by rw [HU.out, if_neg (by decide), if_neg h2, if_neg (by rw [hge0, hq0]; simp), if_neg (by rw [hge1, hq1]; simp), htd])
          have HTS := Lib.hid hts
          have e1 : (s.size : Int) - 1 = ((s.size - 1 : Nat) : Int) := by omega
          have ht9 : t.size ≤ 1000000000 := by omega
          have hd2 : decide ((s.size : Int) < 2) = false := by simp; omega
          clear hts htd hge0 hge1 hq0 hq1 HU
          go_enter Try.func58, Try.ntmps58
          go_wp2_with (go_at_call 56; refine (HT.out _).mono ?_; rintro e w1 ⟨rfl, rfl⟩)
          obtain ⟨B, hB⟩ : ∃ B, w.heap.size = B := ⟨_, rfl⟩
          have HB := Lib.hid hB
          have hb0 : Below B w w := Below.refl _ _
          clear hB
          go_loopw [4, 6, 7] (fun vo vi _ wr => ∃ (i : Nat) (o : List UInt8) (x : ByteArray), i ≤ t.size ∧ vi = .int .i64 (i : Int) ∧ vo = .string x ∧ Hid (x.data.toList = o) ∧ x.size ≤ i ∧ Hid (unqGo t.data.toList = (unqGo (t.data.toList.drop i)).map (o ++ ·)) ∧ o.length ≤ i ∧ Hid (Below B w wr)) (fun _ vi _ _ => t.size - (intOf vi).toNat)
          case atStart => exact ⟨0, [], _, by omega, by go_num, rfl, Lib.hid rfl, by decide, Lib.hid (by simp), by simp, Lib.hid hb0⟩
          case round =>
            clear hb0
            obtain ⟨i, o, x, hi, rfl, rfl, HO, hxz, HG, hol, HBE⟩ := hrel
            have hbel : Below B w wr := HBE.out
            have hbs : B ≤ wr.heap.size := by rw [← HB.out]; exact hbel.size
            by_cases hlt : i < t.size
            · have hil : i < t.data.toList.length := by rw [size_len]; exact hlt
              by_cases h34 : t[i] = 34
              · have hb : ((t[i].toNat : Int) == 34) = true := by rw [h34]; rfl
                have HN : Hid (unqF s.data.toList = none) := Lib.hid (by rw [HUN.out, HG.out, unq_quote hil h34]; rfl)
                clear h34
                go_wp2_with fail
                go_ret2
                rw [HN.out]
                exact ⟨rfl, by unfold Aft; rw [HB.out]; exact hbel⟩
              · have hb : ((t[i].toNat : Int) == 34) = false := by
                  rw [beq_eq_false_iff_ne]
                  intro e
                  exact h34 (byte_eq.2 e)
                by_cases h92 : t[i] = 92
                · have hb2 : ((t[i].toNat : Int) == 92) = true := by rw [h92]; rfl
                  by_cases hlast : i + 1 = t.size
                  · have HN : Hid (unqF s.data.toList = none) := Lib.hid (by rw [HUN.out, HG.out, unq_esc_end hil h92 (by rw [size_len]; exact hlast)]; rfl)
                    have hb3 : ((i : Int) + 1 == (t.size : Int)) = true := by simp; omega
                    clear h34 h92
                    go_wp2_with fail
                    go_ret2
                    rw [HN.out]
                    exact ⟨rfl, by unfold Aft; rw [HB.out]; exact hbel⟩
                  · have hb3 : ((i : Int) + 1 == (t.size : Int)) = false := by simp; omega
                    have hil2 : i + 1 < t.data.toList.length := by rw [size_len]; omega
                    have hi1 : i + 1 < t.size := by omega
                    have hesc := unq_esc hil2 h92
                    obtain ⟨pb, hpb⟩ : ∃ b, plainB t[i + 1] = b := ⟨_, rfl⟩
                    have hpb2 : plainB (t.data.toList[i + 1]) = pb := hpb
                    rw [hpb2] at hesc
                    have HPI := Lib.hid (plain_cases hpb)
                    have HE := Lib.hid hesc
                    clear hesc hpb hpb2 h34 h92
                    cases pb
                    · have HN : Hid (unqF s.data.toList = none) := Lib.hid (by rw [HUN.out, HG.out, HE.out]; rfl)
                      obtain ⟨y, hy⟩ : ∃ y : Int, (t[i + 1].toNat : Int) = y := ⟨_, rfl⟩
                      have hpi := HPI.out
                      rw [hy] at hpi
                      have hpi2 : (y < 32 ∧ y ≠ 9) ∨ y = 127 := by
                        rcases hpi with ⟨h, _⟩ | ⟨_, h⟩
                        · cases h
                        · exact h
                      clear hpi
                      rcases hpi2 with ⟨g1, g2⟩ | g1
                      · have b9 : (y != 9) = true := by rw [bne_iff_ne]; exact g2
                        clear g2
                        go_wp2_with fail
                        go_ret2
                        rw [HN.out]
                        exact ⟨rfl, by unfold Aft; rw [HB.out]; exact hbel⟩
                      · have b127 : (y == 127) = true := by rw [beq_iff_eq]; exact g1
                        have g32 : 32 ≤ y := by omega
                        clear g1
                        go_wp2_with fail
                        go_ret2
                        rw [HN.out]
                        exact ⟨rfl, by unfold Aft; rw [HB.out]; exact hbel⟩
                    · have hnx : unqGo t.data.toList = (unqGo (t.data.toList.drop (i + 2))).map ((o ++ [t[i + 1]]) ++ ·) := by
                        rw [HG.out, HE.out, if_pos rfl]
                        exact push_map o t[i + 1] _
                      have HN := Lib.hid hnx
                      clear hnx HE HG
                      obtain ⟨y, hy⟩ : ∃ y : Int, (t[i + 1].toNat : Int) = y := ⟨_, rfl⟩
                      have hpi := HPI.out
                      rw [hy] at hpi
                      have hpi2 : (32 ≤ y ∧ y ≠ 127) ∨ y = 9 := by
                        rcases hpi with ⟨_, h⟩ | ⟨h, _⟩
                        · exact h
                        · cases h
                      have y0 : 0 ≤ y := by omega
                      have y1 : y < 256 := by have := (t[i + 1]).toNat_lt; omega
                      have hby : Hid (byteOf y = t[i + 1]) := Lib.hid (by rw [← hy]; exact byteOf_self _)
                      have hcv := conv1 wr y y0 y1
                      clear hpi
                      rcases hpi2 with ⟨g1, g2⟩ | g1
                      · have b127 : (y == 127) = false := by rw [beq_eq_false_iff_ne]; exact g2
                        clear g2
                        go_wp2_with fail
                        go_roundw
                        case rel =>
                          refine ⟨i + 2, o ++ [t[i + 1]], x ++ ⟨#[byteOf y]⟩, by omega, by go_num, rfl, Lib.hid ?_, ?_, HN, by simp; omega, Lib.hid (hbel.alloc hbs _)⟩
                          · rw [str_app, HO.out, hby.out]
                          · rw [ByteArray.size_append]
                            show x.size + 1 ≤ _
                            omega
                        case measure => simp [intOf]; omega
                      · have b9 : (y != 9) = false := by rw [bne_eq_false_iff_eq]; exact g1
                        have b127 : (y == 127) = false := by rw [beq_eq_false_iff_ne]; omega
                        have g32 : y < 32 := by omega
                        clear g1
                        go_wp2_with fail
                        go_roundw
                        case rel =>
                          refine ⟨i + 2, o ++ [t[i + 1]], x ++ ⟨#[byteOf y]⟩, by omega, by go_num, rfl, Lib.hid ?_, ?_, HN, by simp; omega, Lib.hid (hbel.alloc hbs _)⟩
                          · rw [str_app, HO.out, hby.out]
                          · rw [ByteArray.size_append]
                            show x.size + 1 ≤ _
                            omega
                        case measure => simp [intOf]; omega
                · have hb2 : ((t[i].toNat : Int) == 92) = false := by
                    rw [beq_eq_false_iff_ne]
                    intro e
                    exact h92 (byte_eq.2 e)
                  have hoth := unq_other hil h34 h92
                  obtain ⟨pb, hpb⟩ : ∃ b, plainB t[i] = b := ⟨_, rfl⟩
                  have hpb2 : plainB (t.data.toList[i]) = pb := hpb
                  rw [hpb2] at hoth
                  have HPI := Lib.hid (plain_cases hpb)
                  have HE := Lib.hid hoth
                  clear hoth hpb hpb2 h34 h92
                  cases pb
                  · have HN : Hid (unqF s.data.toList = none) := Lib.hid (by rw [HUN.out, HG.out, HE.out]; rfl)
                    obtain ⟨y, hy⟩ : ∃ y : Int, (t[i].toNat : Int) = y := ⟨_, rfl⟩
                    have hpi := HPI.out
                    rw [hy] at hpi
                    have hpi2 : (y < 32 ∧ y ≠ 9) ∨ y = 127 := by
                      rcases hpi with ⟨h, _⟩ | ⟨_, h⟩
                      · cases h
                      · exact h
                    clear hpi
                    rw [hy] at hb hb2
                    rcases hpi2 with ⟨g1, g2⟩ | g1
                    · have b9 : (y != 9) = true := by rw [bne_iff_ne]; exact g2
                      clear g2
                      go_wp2_with fail
                      go_ret2
                      rw [HN.out]
                      exact ⟨rfl, by unfold Aft; rw [HB.out]; exact hbel⟩
                    · have b127 : (y == 127) = true := by rw [beq_iff_eq]; exact g1
                      have g32 : 32 ≤ y := by omega
                      clear g1
                      go_wp2_with fail
                      go_ret2
                      rw [HN.out]
                      exact ⟨rfl, by unfold Aft; rw [HB.out]; exact hbel⟩
                  · have hnx : unqGo t.data.toList = (unqGo (t.data.toList.drop (i + 1))).map ((o ++ [t[i]]) ++ ·) := by
                      rw [HG.out, HE.out, if_pos rfl]
                      exact push_map o t[i] _
                    have HN := Lib.hid hnx
                    clear hnx HE HG
                    obtain ⟨y, hy⟩ : ∃ y : Int, (t[i].toNat : Int) = y := ⟨_, rfl⟩
                    have hpi := HPI.out
                    rw [hy] at hpi
                    have hpi2 : (32 ≤ y ∧ y ≠ 127) ∨ y = 9 := by
                      rcases hpi with ⟨_, h⟩ | ⟨h, _⟩
                      · exact h
                      · cases h
                    have y0 : 0 ≤ y := by omega
                    have y1 : y < 256 := by have := (t[i]).toNat_lt; omega
                    have hby : Hid (byteOf y = t[i]) := Lib.hid (by rw [← hy]; exact byteOf_self _)
                    have hcv := conv1 wr y y0 y1
                    clear hpi
                    rw [hy] at hb hb2
                    rcases hpi2 with ⟨g1, g2⟩ | g1
                    · have b127 : (y == 127) = false := by rw [beq_eq_false_iff_ne]; exact g2
                      clear g2
                      go_wp2_with fail
                      go_roundw
                      case rel =>
                        refine ⟨i + 1, o ++ [t[i]], x ++ ⟨#[byteOf y]⟩, by omega, by go_num, rfl, Lib.hid ?_, ?_, HN, by simp; omega, Lib.hid (hbel.alloc hbs _)⟩
                        · rw [str_app, HO.out, hby.out]
                        · rw [ByteArray.size_append]
                          show x.size + 1 ≤ _
                          omega
                      case measure => simp [intOf]; omega
                    · have b9 : (y != 9) = false := by rw [bne_eq_false_iff_eq]; exact g1
                      have b127 : (y == 127) = false := by rw [beq_eq_false_iff_ne]; omega
                      have g32 : y < 32 := by omega
                      clear g1
                      go_wp2_with fail
                      go_roundw
                      case rel =>
                        refine ⟨i + 1, o ++ [t[i]], x ++ ⟨#[byteOf y]⟩, by omega, by go_num, rfl, Lib.hid ?_, ?_, HN, by simp; omega, Lib.hid (hbel.alloc hbs _)⟩
                        · rw [str_app, HO.out, hby.out]
                        · rw [ByteArray.size_append]
                          show x.size + 1 ≤ _
                          omega
                      case measure => simp [intOf]; omega
            · have hfin : unqF s.data.toList = some o := by
                rw [HUN.out, HG.out, List.drop_eq_nil_of_le (by rw [size_len]; omega)]
                simp [unqGo]
              have hfin2 : uqres (unqF s.data.toList) = .tuple #[.string x, .bool true] := by
                rw [hfin, ← HO.out]
                unfold uqres
                simp only [mk_toList]
              have HN := Lib.hid hfin2
              clear hfin hfin2
              go_wp2_with fail
              go_ret2
              rw [HN.out]
              exact ⟨rfl, by unfold Aft; rw [HB.out]; exact hbel⟩
        · have hb1 : ((s[s.size - 1].toNat : Int) != 34) = true := by
            rw [bne_iff_ne]
            intro e
            exact hq1 (byte_eq.2 e)
          have HN : Hid (unqF s.data.toList = none) := Lib.hid (by rw [HU.out, if_neg (by decide), if_neg h2, if_neg (by rw [hge0, hq0]; simp), if_pos (by rw [hge1]; exact hq1)])
          have e1 : (s.size : Int) - 1 = ((s.size - 1 : Nat) : Int) := by omega
          clear hge0 hge1 hq0 hq1 HU
          go_enter Try.func58, Try.ntmps58
          go_wp2_with (go_at_call 56; refine (HT.out _).mono ?_; rintro e w1 ⟨rfl, rfl⟩)
          go_ret2
          rw [HN.out]
          exact ⟨rfl, Aft.refl _⟩
      · have hb0 : ((s[0].toNat : Int) != 34) = true := by
          rw [bne_iff_ne]
          intro e
          exact hq0 (byte_eq.2 e)
        have HN : Hid (unqF s.data.toList = none) := Lib.hid (by rw [HU.out, if_neg (by decide), if_neg h2, if_pos (by rw [hge0]; exact hq0)])
        clear hge0 hge1 hq0 HU
        go_enter Try.func58, Try.ntmps58
        go_wp2_with (go_at_call 56; refine (HT.out _).mono ?_; rintro e w1 ⟨rfl, rfl⟩)
        go_ret2
        rw [HN.out]
        exact ⟨rfl, Aft.refl _⟩
  · have HN : Hid (unqF s.data.toList = some s.data.toList) := Lib.hid (by rw [HU.out, if_pos rfl])
    clear HU
    go_enter Try.func58, Try.ntmps58
    go_wp2_with (go_at_call 56; refine (HT.out _).mono ?_; rintro e w1 ⟨rfl, rfl⟩)
    go_ret2
    rw [HN.out]
    unfold uqres
    simp only [mk_toList]
    exact ⟨rfl, Aft.refl _⟩


end Go.Proofs.Ytodgnphmjagnkaa
