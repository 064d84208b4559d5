/-
  The walk of token.Unquote.
-/
import Derived.Test.YtimpnknmhbpffaaTokTrim
namespace Go.Proofs.Ytimpnknmhbpffaa
open Go.RowKit

def uqres (o : Option (List UInt8)) : Value := match o with | none => .tuple #[.string ⟨#[]⟩, .bool false] | some x => .tuple #[.string ⟨x.toArray⟩, .bool true]
theorem plain_of (c : UInt8) (b : Bool) (h : plainB c = b) (w : World) :
    Calls Try.prog 97 #[.int .u8 (c.toNat : Int)] w fun e w' => e = .returned (.bool b) ∧ w = w' := by
  rw [← h]
  exact plain_any c w
theorem token_of (s : ByteArray) (b : Bool) (h : tokB s.data.toList = b) (hs : s.size ≤ maxLen) (w : World) :
    Calls Try.prog 86 #[.string s] w fun e w' => e = .returned (.bool b) ∧ w = w' := by
  rw [← h]
  exact token_any s w hs
theorem unq_quote {l : List UInt8} {i : Nat} (hi : i < l.length) (h : l[i] = 34) : unqGo (l.drop i) = none := by
  rw [List.drop_eq_getElem_cons hi, h]
  unfold unqGo
  rw [if_pos rfl]
theorem unq_esc_end {l : List UInt8} {i : Nat} (hi : i < l.length) (h : l[i] = 92) (h2 : i + 1 = l.length) : unqGo (l.drop i) = none := by
  rw [List.drop_eq_getElem_cons hi, h, List.drop_eq_nil_of_le (by omega)]
  rfl
theorem unq_esc {l : List UInt8} {i : Nat} (hi : i + 1 < l.length) (h : l[i] = 92) : unqGo (l.drop i) = if plainB l[i + 1] then (unqGo (l.drop (i + 2))).map (l[i + 1] :: ·) else none := by
  rw [List.drop_eq_getElem_cons (by omega : i < l.length), h, List.drop_eq_getElem_cons hi]
  conv => lhs; unfold unqGo
  rw [if_neg (by decide), if_pos rfl]
theorem unq_other {l : List UInt8} {i : Nat} (hi : i < l.length) (h : l[i] ≠ 34) (h2 : l[i] ≠ 92) : unqGo (l.drop i) = if plainB l[i] then (unqGo (l.drop (i + 1))).map (l[i] :: ·) else none := by
  rw [List.drop_eq_getElem_cons hi]
  conv => lhs; unfold unqGo
  rw [if_neg h, if_neg h2]
theorem push_map (o : List UInt8) (c : UInt8) (r : Option (List UInt8)) : (r.map (c :: ·)).map (o ++ ·) = r.map ((o ++ [c]) ++ ·) := by
  rw [Option.map_map]
  congr 1
  funext x
  simp
theorem unq_inner (l : List UInt8) : (l.take (l.length - 1)).drop 1 = (l.drop 1).take (l.length - 1 - 1) := by rw [List.drop_take]
theorem byteOf_self (x : UInt8) : byteOf ((x.toNat : Nat) : Int) = x := by
  apply UInt8.toNat_inj.1
  have := byteOf_toNat (n := (x.toNat : Int)) (by omega) (by have := x.toNat_lt; omega)
  omega

set_option maxHeartbeats 4000000 in
theorem unquote_any (s : ByteArray) (w : World) (hs : s.size ≤ 1000000000) :
    Calls Try.prog 89 #[.string s] w fun e w' => e = .returned (uqres (unqF s.data.toList)) ∧ Aft w w' := by
  have hm : s.size ≤ maxLen := by unfold maxLen; omega
  have hsl := size_len s
  obtain ⟨tb, htb⟩ : ∃ b, tokB s.data.toList = b := ⟨_, rfl⟩
  have HT := Lib.hid (token_of s tb htb hm)
  have hun : unqF s.data.toList = if tb then some s.data.toList else if s.data.toList.length < 2 then none else if s.data.toList.getD 0 0 ≠ 34 then none else if s.data.toList.getD (s.data.toList.length - 1) 0 ≠ 34 then none else unqGo ((s.data.toList.take (s.data.toList.length - 1)).drop 1) := by
    unfold unqF
    rw [htb]
  rw [hsl] at hun
  have HU := Lib.hid hun
  clear htb hun hm hsl
  cases tb
  · by_cases h2 : s.size < 2
    · have HN : Hid (unqF s.data.toList = none) := Lib.hid (by rw [HU.out, if_neg (by decide), if_pos h2])
      go_enter Try.func89, Try.ntmps89
      go_wp2_with (go_at_call 86; refine (HT.out _).mono ?_; rintro e w1 ⟨rfl, rfl⟩)
      go_ret2
      rw [HN.out]
      exact ⟨rfl, Aft.refl _⟩
    · have hge0 : s.data.toList.getD 0 0 = s[0] := by
        have : 0 < s.data.toList.length := by rw [size_len]; omega
        simp [List.getD, List.getElem?_eq_getElem this]
        rfl
      have hge1 : s.data.toList.getD (s.size - 1) 0 = s[s.size - 1] := by
        have : s.size - 1 < s.data.toList.length := by rw [size_len]; omega
        simp [List.getD, List.getElem?_eq_getElem this]
        rfl
      by_cases hq0 : s[0] = 34
      · have hb0 : ((s[0].toNat : Int) != 34) = false := by rw [hq0]; rfl
        by_cases hq1 : s[s.size - 1] = 34
        · have hb1 : ((s[s.size - 1].toNat : Int) != 34) = false := by rw [hq1]; rfl
          obtain ⟨t, ht⟩ : ∃ t, s.extract 1 (s.size - 1) = t := ⟨_, rfl⟩
          have hts : t.size = s.size - 2 := by rw [← ht, ByteArray.size_extract]; omega
          have htd : t.data.toList = (s.data.toList.take (s.size - 1)).drop 1 := by
            rw [← ht, Lib.extract_data, List.drop_take]
          have HUN : Hid (unqF s.data.toList = unqGo t.data.toList) := Lib.hid (by rw [HU.out, if_neg (by decide), if_neg h2, if_neg (by rw [hge0, hq0]; simp), if_neg (by rw [hge1, hq1]; simp), htd])
          have HTS := Lib.hid hts
          have e1 : (s.size : Int) - 1 = ((s.size - 1 : Nat) : Int) := by omega
          have ht9 : t.size ≤ 1000000000 := by omega
          have hd2 : decide ((s.size : Int) < 2) = false := by simp; omega
          clear hts htd hge0 hge1 hq0 hq1 HU
          go_enter Try.func89, Try.ntmps89
          go_wp2_with (go_at_call 86; refine (HT.out _).mono ?_; rintro e w1 ⟨rfl, rfl⟩)
          obtain ⟨B, hB⟩ : ∃ B, w.heap.size = B := ⟨_, rfl⟩
          have HB := Lib.hid hB
          have hb0 : Below B w w := Below.refl _ _
          clear hB
          go_loopw [5, 6, 7] (fun vo vi _ wr => ∃ (i : Nat) (o : List UInt8), i ≤ t.size ∧ vi = .int .i64 (i : Int) ∧ Hid (Own wr B vo o) ∧ Hid (unqGo t.data.toList = (unqGo (t.data.toList.drop i)).map (o ++ ·)) ∧ o.length ≤ i ∧ Hid (Below B w wr)) (fun _ vi _ _ => t.size - (intOf vi).toNat)
          case atStart => exact ⟨0, [], by omega, by go_num, Lib.hid (Own.nil _ _), Lib.hid (by simp), by simp, Lib.hid hb0⟩
          case round =>
            clear hb0
            obtain ⟨i, o, hi, rfl, HO, HG, hol, HBE⟩ := hrel
            have hown := HO.out
            have hbel : Below B w wr := HBE.out
            have hbs : B ≤ wr.heap.size := by rw [← HB.out]; exact hbel.size
            by_cases hlt : i < t.size
            · have hil : i < t.data.toList.length := by rw [size_len]; exact hlt
              by_cases h34 : t[i] = 34
              · have hb : ((t[i].toNat : Int) == 34) = true := by rw [h34]; rfl
                have HN : Hid (unqF s.data.toList = none) := Lib.hid (by rw [HUN.out, HG.out, unq_quote hil h34]; rfl)
                clear h34
                go_wp2_with fail
                go_ret2
                rw [HN.out]
                exact ⟨rfl, by unfold Aft; rw [HB.out]; exact hbel⟩
              · have hb : ((t[i].toNat : Int) == 34) = false := by
                  rw [beq_eq_false_iff_ne]
                  intro e
                  exact h34 (byte_eq.2 e)
                by_cases h92 : t[i] = 92
                · have hb2 : ((t[i].toNat : Int) == 92) = true := by rw [h92]; rfl
                  by_cases hlast : i + 1 = t.size
                  · have HN : Hid (unqF s.data.toList = none) := Lib.hid (by rw [HUN.out, HG.out, unq_esc_end hil h92 (by rw [size_len]; exact hlast)]; rfl)
                    have hb3 : ((i : Int) + 1 == (t.size : Int)) = true := by simp; omega
                    clear h34 h92
                    go_wp2_with fail
                    go_ret2
                    rw [HN.out]
                    exact ⟨rfl, by unfold Aft; rw [HB.out]; exact hbel⟩
                  · have hb3 : ((i : Int) + 1 == (t.size : Int)) = false := by simp; omega
                    have hil2 : i + 1 < t.data.toList.length := by rw [size_len]; omega
                    have hi1 : i + 1 < t.size := by omega
                    have hesc := unq_esc hil2 h92
                    obtain ⟨pb, hpb⟩ : ∃ b, plainB t[i + 1] = b := ⟨_, rfl⟩
                    have hpb2 : plainB (t.data.toList[i + 1]) = pb := hpb
                    rw [hpb2] at hesc
                    have HP := Lib.hid (plain_of t[i + 1] pb hpb)
                    have HE := Lib.hid hesc
                    clear hesc hpb hpb2 h34 h92
                    cases pb
                    · have HN : Hid (unqF s.data.toList = none) := Lib.hid (by rw [HUN.out, HG.out, HE.out]; rfl)
                      go_wp2_with (go_at_call 97; refine (HP.out _).mono ?_; rintro e w1 ⟨rfl, rfl⟩)
                      go_ret2
                      rw [HN.out]
                      exact ⟨rfl, by unfold Aft; rw [HB.out]; exact hbel⟩
                    · have hnx : unqGo t.data.toList = (unqGo (t.data.toList.drop (i + 2))).map ((o ++ [t[i + 1]]) ++ ·) := by
                        rw [HG.out, HE.out, if_pos rfl]
                        exact push_map o t[i + 1] _
                      have HN := Lib.hid hnx
                      clear hnx HE HG
                      go_wp2_with (first | (go_at_call 97; refine (HP.out _).mono ?_; rintro e w1 ⟨rfl, rfl⟩) | (at_builtin; refine wpList_push rfl (.tmp 57) (.tmp 59) rfl B _ o rfl (hown.aft ((Aft.refl _).alloc _)) ⟨wr.heap.size, 0, none⟩ 1 ((t[i + 1]).toNat : Int) rfl (cell_new1 _ _ _) (by omega) (by have := (t[i + 1]).toNat_lt; omega) (by omega) (le_alloc hbs _) ?_; intro v' w3 hown3 hgrow))
                      rw [byteOf_self] at hown3
                      have hbel3 : Below B w w3 := push_below (hbel.alloc hbs _) (hown.aft ((Aft.refl _).alloc _)) hgrow (Nat.le_refl _) (le_alloc hbs _)
                      go_roundw
                      case rel => exact ⟨i + 2, o ++ [t[i + 1]], by omega, by go_num, Lib.hid hown3, HN, by simp; omega, Lib.hid hbel3⟩
                      case measure => simp [intOf]; omega
                · have hb2 : ((t[i].toNat : Int) == 92) = false := by
                    rw [beq_eq_false_iff_ne]
                    intro e
                    exact h92 (byte_eq.2 e)
                  have hoth := unq_other hil h34 h92
                  obtain ⟨pb, hpb⟩ : ∃ b, plainB t[i] = b := ⟨_, rfl⟩
                  have hpb2 : plainB (t.data.toList[i]) = pb := hpb
                  rw [hpb2] at hoth
                  have HP := Lib.hid (plain_of t[i] pb hpb)
                  have HE := Lib.hid hoth
                  clear hoth hpb hpb2 h34 h92
                  cases pb
                  · have HN : Hid (unqF s.data.toList = none) := Lib.hid (by rw [HUN.out, HG.out, HE.out]; rfl)
                    go_wp2_with (go_at_call 97; refine (HP.out _).mono ?_; rintro e w1 ⟨rfl, rfl⟩)
                    go_ret2
                    rw [HN.out]
                    exact ⟨rfl, by unfold Aft; rw [HB.out]; exact hbel⟩
                  · have hnx : unqGo t.data.toList = (unqGo (t.data.toList.drop (i + 1))).map ((o ++ [t[i]]) ++ ·) := by
                      rw [HG.out, HE.out, if_pos rfl]
                      exact push_map o t[i] _
                    have HN := Lib.hid hnx
                    clear hnx HE HG
                    go_wp2_with (first | (go_at_call 97; refine (HP.out _).mono ?_; rintro e w1 ⟨rfl, rfl⟩) | (at_builtin; refine wpList_push rfl (.tmp 57) (.tmp 59) rfl B _ o rfl (hown.aft ((Aft.refl _).alloc _)) ⟨wr.heap.size, 0, none⟩ 1 ((t[i]).toNat : Int) rfl (cell_new1 _ _ _) (by omega) (by have := (t[i]).toNat_lt; omega) (by omega) (le_alloc hbs _) ?_; intro v' w3 hown3 hgrow))
                    rw [byteOf_self] at hown3
                    have hbel3 : Below B w w3 := push_below (hbel.alloc hbs _) (hown.aft ((Aft.refl _).alloc _)) hgrow (Nat.le_refl _) (le_alloc hbs _)
                    go_roundw
                    case rel => exact ⟨i + 1, o ++ [t[i]], by omega, by go_num, Lib.hid hown3, HN, by simp; omega, Lib.hid hbel3⟩
                    case measure => simp [intOf]; omega
            · have hcv := own_string hown
              have hfin : unqF s.data.toList = some o := by
                rw [HUN.out, HG.out, List.drop_eq_nil_of_le (by rw [size_len]; omega)]
                simp [unqGo]
              have HN := Lib.hid hfin
              clear hfin
              go_wp2_with fail
              go_ret2
              rw [HN.out]
              exact ⟨rfl, by unfold Aft; rw [HB.out]; exact hbel⟩
        · have hb1 : ((s[s.size - 1].toNat : Int) != 34) = true := by
            rw [bne_iff_ne]
            intro e
            exact hq1 (byte_eq.2 e)
          have HN : Hid (unqF s.data.toList = none) := Lib.hid (by rw [HU.out, if_neg (by decide), if_neg h2, if_neg (by rw [hge0, hq0]; simp), if_pos (by rw [hge1]; exact hq1)])
          have e1 : (s.size : Int) - 1 = ((s.size - 1 : Nat) : Int) := by omega
          clear hge0 hge1 hq0 hq1 HU
          go_enter Try.func89, Try.ntmps89
          go_wp2_with (go_at_call 86; refine (HT.out _).mono ?_; rintro e w1 ⟨rfl, rfl⟩)
          go_ret2
          rw [HN.out]
          exact ⟨rfl, Aft.refl _⟩
      · have hb0 : ((s[0].toNat : Int) != 34) = true := by
          rw [bne_iff_ne]
          intro e
          exact hq0 (byte_eq.2 e)
        have HN : Hid (unqF s.data.toList = none) := Lib.hid (by rw [HU.out, if_neg (by decide), if_neg h2, if_pos (by rw [hge0]; exact hq0)])
        clear hge0 hge1 hq0 HU
        go_enter Try.func89, Try.ntmps89
        go_wp2_with (go_at_call 86; refine (HT.out _).mono ?_; rintro e w1 ⟨rfl, rfl⟩)
        go_ret2
        rw [HN.out]
        exact ⟨rfl, Aft.refl _⟩
  · have HN : Hid (unqF s.data.toList = some s.data.toList) := Lib.hid (by rw [HU.out, if_pos rfl])
    clear HU
    go_enter Try.func89, Try.ntmps89
    go_wp2_with (go_at_call 86; refine (HT.out _).mono ?_; rintro e w1 ⟨rfl, rfl⟩)
    go_ret2
    rw [HN.out]
    unfold uqres
    simp only [mk_toList]
    exact ⟨rfl, Aft.refl _⟩

end Go.Proofs.Ytimpnknmhbpffaa
