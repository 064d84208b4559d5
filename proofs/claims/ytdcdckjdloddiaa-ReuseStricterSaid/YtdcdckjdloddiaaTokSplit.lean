/-
  The walk of token.Unquote. The walks of strings.Cut at '=' and of token.Of. The walk of token.Split, its closure by a contract of its own.
-/
import Derived.Test.YtdcdckjdloddiaaTokTrim
import Derived.RegionTactic
import Derived.Laws.Rows
import Derived.Laws.Tables
import Derived.Great.BuildSlice
import Derived.Test.YtdcdckjdloddiaaStrs
import Derived.OneCell
import Derived.Laws.ByValue
namespace Go.Proofs.Ytdcdckjdloddiaa
open Go.RowKit

def uqres (o : Option (List UInt8)) : Value := match o with | none => .tuple #[.string ⟨#[]⟩, .bool false] | some x => .tuple #[.string ⟨x.toArray⟩, .bool true]
theorem plain_of (c : UInt8) (b : Bool) (h : plainB c = b) (w : World) :
    Calls Try.prog 94 #[.int .u8 (c.toNat : Int)] w fun e w' => e = .returned (.bool b) ∧ w = w' := by
  rw [← h]
  exact plain_any c w
theorem token_of (s : ByteArray) (b : Bool) (h : tokB s.data.toList = b) (hs : s.size ≤ maxLen) (w : World) :
    Calls Try.prog 84 #[.string s] w fun e w' => e = .returned (.bool b) ∧ w = w' := by
  rw [← h]
  exact token_any s w hs
theorem unq_quote {l : List UInt8} {i : Nat} (hi : i < l.length) (h : l[i] = 34) : unqGo (l.drop i) = none := by
  rw [List.drop_eq_getElem_cons hi, h]
  unfold unqGo
  rw [if_pos rfl]
theorem unq_esc_end {l : List UInt8} {i : Nat} (hi : i < l.length) (h : l[i] = 92) (h2 : i + 1 = l.length) : unqGo (l.drop i) = none := by
  rw [List.drop_eq_getElem_cons hi, h, List.drop_eq_nil_of_le (by omega)]
  rfl
theorem unq_esc {l : List UInt8} {i : Nat} (hi : i + 1 < l.length) (h : l[i] = 92) : unqGo (l.drop i) = if plainB l[i + 1] then (unqGo (l.drop (i + 2))).map (l[i + 1] :: ·) else none := by
  rw [List.drop_eq_getElem_cons (by omega : i < l.length), h, List.drop_eq_getElem_cons hi]
  conv => lhs; unfold unqGo
  rw [if_neg (by decide), if_pos rfl]
theorem unq_other {l : List UInt8} {i : Nat} (hi : i < l.length) (h : l[i] ≠ 34) (h2 : l[i] ≠ 92) : unqGo (l.drop i) = if plainB l[i] then (unqGo (l.drop (i + 1))).map (l[i] :: ·) else none := by
  rw [List.drop_eq_getElem_cons hi]
  conv => lhs; unfold unqGo
  rw [if_neg h, if_neg h2]
theorem push_map (o : List UInt8) (c : UInt8) (r : Option (List UInt8)) : (r.map (c :: ·)).map (o ++ ·) = r.map ((o ++ [c]) ++ ·) := by
  rw [Option.map_map]
  congr 1
  funext x
  simp
theorem unq_inner (l : List UInt8) : (l.take (l.length - 1)).drop 1 = (l.drop 1).take (l.length - 1 - 1) := by rw [List.drop_take]
theorem byteOf_self (x : UInt8) : byteOf ((x.toNat : Nat) : Int) = x := by
  apply UInt8.toNat_inj.1
  have := byteOf_toNat (n := (x.toNat : Int)) (by omega) (by have := x.toNat_lt; omega)
  omega

set_option maxHeartbeats 4000000 in
theorem unquote_any (s : ByteArray) (w : World) (hs : s.size ≤ 1000000000) :
    Calls Try.prog 87 #[.string s] w fun e w' => e = .returned (uqres (unqF s.data.toList)) ∧ Aft w w' := by
  have hm : s.size ≤ maxLen := by unfold maxLen; omega
  have hsl := size_len s
  obtain ⟨tb, htb⟩ : ∃ b, tokB s.data.toList = b := ⟨_, rfl⟩
  have HT := Lib.hid (token_of s tb htb hm)
  have hun : unqF s.data.toList = if tb then some s.data.toList else if s.data.toList.length < 2 then none else if s.data.toList.getD 0 0 ≠ 34 then none else if s.data.toList.getD (s.data.toList.length - 1) 0 ≠ 34 then none else unqGo ((s.data.toList.take (s.data.toList.length - 1)).drop 1) := by
    unfold unqF
    rw [htb]
  rw [hsl] at hun
  have HU := Lib.hid hun
  clear htb hun hm hsl
  cases tb
  · by_cases h2 : s.size < 2
    · have HN : Hid (unqF s.data.toList = none) := Lib.hid (by rw [HU.out, if_neg (by decide), if_pos h2])
      go_enter Try.func87, Try.ntmps87
      go_wp2_with (go_at_call 84; refine (HT.out _).mono ?_; rintro e w1 ⟨rfl, rfl⟩)
      go_ret2
      rw [HN.out]
      exact ⟨rfl, Aft.refl _⟩
    · have hge0 : s.data.toList.getD 0 0 = s[0] := by
        have : 0 < s.data.toList.length := by rw [size_len]; omega
        simp [List.getD, List.getElem?_eq_getElem this]
        rfl
      have hge1 : s.data.toList.getD (s.size - 1) 0 = s[s.size - 1] := by
        have : s.size - 1 < s.data.toList.length := by rw [size_len]; omega
        simp [List.getD, List.getElem?_eq_getElem this]
        rfl
      by_cases hq0 : s[0] = 34
      · have hb0 : ((s[0].toNat : Int) != 34) = false := by rw [hq0]; rfl
        by_cases hq1 : s[s.size - 1] = 34
        · have hb1 : ((s[s.size - 1].toNat : Int) != 34) = false := by rw [hq1]; rfl
          obtain ⟨t, ht⟩ : ∃ t, s.extract 1 (s.size - 1) = t := ⟨_, rfl⟩
          have hts : t.size = s.size - 2 := by rw [← ht, ByteArray.size_extract]; omega
          have htd : t.data.toList = (s.data.toList.take (s.size - 1)).drop 1 := by
            rw [← ht, Lib.extract_data, List.drop_take]
          have HUN : Hid (unqF s.data.toList = unqGo t.data.toList) := Lib.hid (by rw [HU.out, if_neg (by decide), if_neg h2, if_neg (by rw [hge0, hq0]; simp), if_neg (by rw [hge1, hq1]; simp), htd])
          have HTS := Lib.hid hts
          have e1 : (s.size : Int) - 1 = ((s.size - 1 : Nat) : Int) := by omega
          have ht9 : t.size ≤ 1000000000 := by omega
          have hd2 : decide ((s.size : Int) < 2) = false := by simp; omega
          clear hts htd hge0 hge1 hq0 hq1 HU
          go_enter Try.func87, Try.ntmps87
          go_wp2_with (go_at_call 84; refine (HT.out _).mono ?_; rintro e w1 ⟨rfl, rfl⟩)
          obtain ⟨B, hB⟩ : ∃ B, w.heap.size = B := ⟨_, rfl⟩
          have HB := Lib.hid hB
          have hb0 : Below B w w := Below.refl _ _
          clear hB
          go_loopw [5, 6, 7] (fun vo vi _ wr => ∃ (i : Nat) (o : List UInt8), i ≤ t.size ∧ vi = .int .i64 (i : Int) ∧ Hid (Own wr B vo o) ∧ Hid (unqGo t.data.toList = (unqGo (t.data.toList.drop i)).map (o ++ ·)) ∧ o.length ≤ i ∧ Hid (Below B w wr)) (fun _ vi _ _ => t.size - (intOf vi).toNat)
          case atStart => exact ⟨0, [], by omega, by go_num, Lib.hid (Own.nil _ _), Lib.hid (by simp), by simp, Lib.hid hb0⟩
          case round =>
            clear hb0
            obtain ⟨i, o, hi, rfl, HO, HG, hol, HBE⟩ := hrel
            have hown := HO.out
            have hbel : Below B w wr := HBE.out
            have hbs : B ≤ wr.heap.size := by rw [← HB.out]; exact hbel.size
            by_cases hlt : i < t.size
            · have hil : i < t.data.toList.length := by rw [size_len]; exact hlt
              by_cases h34 : t[i] = 34
              · have hb : ((t[i].toNat : Int) == 34) = true := by rw [h34]; rfl
                have HN : Hid (unqF s.data.toList = none) := Lib.hid (by rw [HUN.out, HG.out, unq_quote hil h34]; rfl)
                clear h34
                go_wp2_with fail
                go_ret2
                rw [HN.out]
                exact ⟨rfl, by unfold Aft; rw [HB.out]; exact hbel⟩
              · have hb : ((t[i].toNat : Int) == 34) = false := by
                  rw [beq_eq_false_iff_ne]
                  intro e
                  exact h34 (byte_eq.2 e)
                by_cases h92 : t[i] = 92
                · have hb2 : ((t[i].toNat : Int) == 92) = true := by rw [h92]; rfl
                  by_cases hlast : i + 1 = t.size
                  · have HN : Hid (unqF s.data.toList = none) := Lib.hid (by rw [HUN.out, HG.out, unq_esc_end hil h92 (by rw [size_len]; exact hlast)]; rfl)
                    have hb3 : ((i : Int) + 1 == (t.size : Int)) = true := by simp; omega
                    clear h34 h92
                    go_wp2_with fail
                    go_ret2
                    rw [HN.out]
                    exact ⟨rfl, by unfold Aft; rw [HB.out]; exact hbel⟩
                  · have hb3 : ((i : Int) + 1 == (t.size : Int)) = false := by simp; omega
                    have hil2 : i + 1 < t.data.toList.length := by rw [size_len]; omega
                    have hi1 : i + 1 < t.size := by omega
                    have hesc := unq_esc hil2 h92
                    obtain ⟨pb, hpb⟩ : ∃ b, plainB t[i + 1] = b := ⟨_, rfl⟩
                    have hpb2 : plainB (t.data.toList[i + 1]) = pb := hpb
                    rw [hpb2] at hesc
                    have HP := Lib.hid (plain_of t[i + 1] pb hpb)
                    have HE := Lib.hid hesc
                    clear hesc hpb hpb2 h34 h92
                    cases pb
                    · have HN : Hid (unqF s.data.toList = none) := Lib.hid (by rw [HUN.out, HG.out, HE.out]; rfl)
                      go_wp2_with (go_at_call 94; refine (HP.out _).mono ?_; rintro e w1 ⟨rfl, rfl⟩)
                      go_ret2
                      rw [HN.out]
                      exact ⟨rfl, by unfold Aft; rw [HB.out]; exact hbel⟩
                    · have hnx : unqGo t.data.toList = (unqGo (t.data.toList.drop (i + 2))).map ((o ++ [t[i + 1]]) ++ ·) := by
                        rw [HG.out, HE.out, if_pos rfl]
                        exact push_map o t[i + 1] _
                      have HN := Lib.hid hnx
                      clear hnx HE HG
                      go_wp2_with (first | (go_at_call 94; refine (HP.out _).mono ?_; rintro e w1 ⟨rfl, rfl⟩) | (at_builtin; refine wpList_push rfl (.tmp 57) (.tmp 59) rfl B _ o rfl (hown.aft ((Aft.refl _).alloc _)) ⟨wr.heap.size, 0, none⟩ 1 ((t[i + 1]).toNat : Int) rfl (cell_new1 _ _ _) (by omega) (by have := (t[i + 1]).toNat_lt; omega) (by omega) (le_alloc hbs _) ?_; intro v' w3 hown3 hgrow))
                      rw [byteOf_self] at hown3
                      have hbel3 : Below B w w3 := push_below (hbel.alloc hbs _) (hown.aft ((Aft.refl _).alloc _)) hgrow (Nat.le_refl _) (le_alloc hbs _)
                      go_roundw
                      case rel => exact ⟨i + 2, o ++ [t[i + 1]], by omega, by go_num, Lib.hid hown3, HN, by simp; omega, Lib.hid hbel3⟩
                      case measure => simp [intOf]; omega
                · have hb2 : ((t[i].toNat : Int) == 92) = false := by
                    rw [beq_eq_false_iff_ne]
                    intro e
                    exact h92 (byte_eq.2 e)
                  have hoth := unq_other hil h34 h92
                  obtain ⟨pb, hpb⟩ : ∃ b, plainB t[i] = b := ⟨_, rfl⟩
                  have hpb2 : plainB (t.data.toList[i]) = pb := hpb
                  rw [hpb2] at hoth
                  have HP := Lib.hid (plain_of t[i] pb hpb)
                  have HE := Lib.hid hoth
                  clear hoth hpb hpb2 h34 h92
                  cases pb
                  · have HN : Hid (unqF s.data.toList = none) := Lib.hid (by rw [HUN.out, HG.out, HE.out]; rfl)
                    go_wp2_with (go_at_call 94; refine (HP.out _).mono ?_; rintro e w1 ⟨rfl, rfl⟩)
                    go_ret2
                    rw [HN.out]
                    exact ⟨rfl, by unfold Aft; rw [HB.out]; exact hbel⟩
                  · have hnx : unqGo t.data.toList = (unqGo (t.data.toList.drop (i + 1))).map ((o ++ [t[i]]) ++ ·) := by
                      rw [HG.out, HE.out, if_pos rfl]
                      exact push_map o t[i] _
                    have HN := Lib.hid hnx
                    clear hnx HE HG
                    go_wp2_with (first | (go_at_call 94; refine (HP.out _).mono ?_; rintro e w1 ⟨rfl, rfl⟩) | (at_builtin; refine wpList_push rfl (.tmp 57) (.tmp 59) rfl B _ o rfl (hown.aft ((Aft.refl _).alloc _)) ⟨wr.heap.size, 0, none⟩ 1 ((t[i]).toNat : Int) rfl (cell_new1 _ _ _) (by omega) (by have := (t[i]).toNat_lt; omega) (by omega) (le_alloc hbs _) ?_; intro v' w3 hown3 hgrow))
                    rw [byteOf_self] at hown3
                    have hbel3 : Below B w w3 := push_below (hbel.alloc hbs _) (hown.aft ((Aft.refl _).alloc _)) hgrow (Nat.le_refl _) (le_alloc hbs _)
                    go_roundw
                    case rel => exact ⟨i + 1, o ++ [t[i]], by omega, by go_num, Lib.hid hown3, HN, by simp; omega, Lib.hid hbel3⟩
                    case measure => simp [intOf]; omega
            · have hcv := own_string hown
              have hfin : unqF s.data.toList = some o := by
                rw [HUN.out, HG.out, List.drop_eq_nil_of_le (by rw [size_len]; omega)]
                simp [unqGo]
              have HN := Lib.hid hfin
              clear hfin
              go_wp2_with fail
              go_ret2
              rw [HN.out]
              exact ⟨rfl, by unfold Aft; rw [HB.out]; exact hbel⟩
        · have hb1 : ((s[s.size - 1].toNat : Int) != 34) = true := by
            rw [bne_iff_ne]
            intro e
            exact hq1 (byte_eq.2 e)
          have HN : Hid (unqF s.data.toList = none) := Lib.hid (by rw [HU.out, if_neg (by decide), if_neg h2, if_neg (by rw [hge0, hq0]; simp), if_pos (by rw [hge1]; exact hq1)])
          have e1 : (s.size : Int) - 1 = ((s.size - 1 : Nat) : Int) := by omega
          clear hge0 hge1 hq0 hq1 HU
          go_enter Try.func87, Try.ntmps87
          go_wp2_with (go_at_call 84; refine (HT.out _).mono ?_; rintro e w1 ⟨rfl, rfl⟩)
          go_ret2
          rw [HN.out]
          exact ⟨rfl, Aft.refl _⟩
      · have hb0 : ((s[0].toNat : Int) != 34) = true := by
          rw [bne_iff_ne]
          intro e
          exact hq0 (byte_eq.2 e)
        have HN : Hid (unqF s.data.toList = none) := Lib.hid (by rw [HU.out, if_neg (by decide), if_neg h2, if_pos (by rw [hge0]; exact hq0)])
        clear hge0 hge1 hq0 HU
        go_enter Try.func87, Try.ntmps87
        go_wp2_with (go_at_call 84; refine (HT.out _).mono ?_; rintro e w1 ⟨rfl, rfl⟩)
        go_ret2
        rw [HN.out]
        exact ⟨rfl, Aft.refl _⟩
  · have HN : Hid (unqF s.data.toList = some s.data.toList) := Lib.hid (by rw [HU.out, if_pos rfl])
    clear HU
    go_enter Try.func87, Try.ntmps87
    go_wp2_with (go_at_call 84; refine (HT.out _).mono ?_; rintro e w1 ⟨rfl, rfl⟩)
    go_ret2
    rw [HN.out]
    unfold uqres
    simp only [mk_toList]
    exact ⟨rfl, Aft.refl _⟩

end Go.Proofs.Ytdcdckjdloddiaa
namespace Go.Proofs.Ytdcdckjdloddiaa
open Go.RowKit

theorem cut_index : ∀ l : List UInt8, (Lib.indexByte l 61 = -1 ∧ cutEq l = none) ∨ ∃ i : Nat, Lib.indexByte l 61 = (i : Int) ∧ i < l.length ∧ cutEq l = some (l.take i, l.drop (i + 1))
  | [] => Or.inl ⟨rfl, rfl⟩
  | c :: r => by
    unfold Lib.indexByte cutEq
    by_cases h : c = 61
    · have hb : (c == 61) = true := by rw [h]; rfl
      refine Or.inr ⟨0, ?_, by simp, ?_⟩
      · rw [if_pos hb]; rfl
      · rw [if_pos h]; rfl
    · have hb : ¬ (c == 61) = true := by rw [beq_iff_eq]; exact h
      rw [if_neg hb, if_neg h]
      rcases cut_index r with ⟨h1, h2⟩ | ⟨i, h1, h2, h3⟩
      · refine Or.inl ⟨?_, ?_⟩
        · rw [h1]; rfl
        · rw [h2]; rfl
      · refine Or.inr ⟨i + 1, ?_, by simp; omega, ?_⟩
        · have : ¬ ((i : Int) == -1) = true := by rw [beq_iff_eq]; omega
          rw [h1, if_neg this]
          omega
        · rw [h3]; rfl
def cutres (s : ByteArray) : Value := match cutEq s.data.toList with
  | none => .tuple #[.string s, .string ⟨#[]⟩, .bool false]
  | some (n, v) => .tuple #[.string ⟨n.toArray⟩, .string ⟨v.toArray⟩, .bool true]
theorem str_eq {a : ByteArray} {l : List UInt8} (h : a.data.toList = l) : (⟨l.toArray⟩ : ByteArray) = a := by
  subst h
  exact mk_toList a

set_option maxHeartbeats 1000000 in
theorem slcut_any (s : ByteArray) (w : World) (hs : s.size ≤ 1000000000000) :
    Calls Try.prog 93 #[.string s, .string ⟨#[61]⟩] w fun e w' => e = .returned (cutres s) ∧ Aft w w' := by
  have hix := Try.stringslite_Index_one s 61
  have HIX := Lib.hid hix
  clear hix
  rcases cut_index s.data.toList with ⟨h1, h2⟩ | ⟨i, h1, h2, h3⟩
  · rw [h1] at HIX
    have HR : Hid (cutres s = .tuple #[.string s, .string ⟨#[]⟩, .bool false]) := Lib.hid (by unfold cutres; rw [h2])
    clear h1 h2
    go_enter Try.func93, Try.ntmps93
    go_wp2_with fail
    refine (HIX.out _).mono ?_
    rintro e w1 ⟨rfl, rfl⟩
    go_wp2_with fail
    go_ret3
    rw [HR.out]
    exact ⟨rfl, Aft.refl _⟩
  · rw [h1] at HIX
    rw [size_len] at h2
    have e1 : (s.extract 0 i).data.toList = s.data.toList.take i := extract_front s i
    have e2 : (s.extract (i + 1) s.size).data.toList = s.data.toList.drop (i + 1) := extract_end s (i + 1)
    have HR : Hid (cutres s = .tuple #[.string (s.extract 0 i), .string (s.extract (i + 1) s.size), .bool true]) := Lib.hid (by
      unfold cutres
      rw [h3]
      simp only
      rw [str_eq e1, str_eq e2])
    have g1 : IntKind.i64.wrap ((i : Int) + 1) = (i : Int) + 1 := IntWalk.i64_in _ (by omega)
    clear h1 h3 e1 e2
    go_enter Try.func93, Try.ntmps93
    go_wp2_with fail
    refine (HIX.out _).mono ?_
    rintro e w1 ⟨rfl, rfl⟩
    go_wp2_with fail
    go_region
    go_wp2_with fail
    go_ret3
    rw [HR.out]
    exact ⟨rfl, (Aft.refl _).drew⟩
theorem cut_any (s : ByteArray) (w : World) (hs : s.size ≤ 1000000000000) :
    Calls Try.prog 86 #[.string s, .string ⟨#[61]⟩] w fun e w' => e = .returned (cutres s) ∧ Aft w w' := by
  obtain ⟨a, b, c, hr⟩ : ∃ a b c, cutres s = .tuple #[a, b, c] := by
    unfold cutres
    split
    · exact ⟨_, _, _, rfl⟩
    · exact ⟨_, _, _, rfl⟩
  have HC := Lib.hid (slcut_any s w hs)
  rw [hr] at HC ⊢
  clear hr
  go_enter Try.func86, Try.ntmps86
  go_wp2_with fail
  refine HC.out.mono ?_
  rintro e w1 ⟨rfl, b1⟩
  go_wp2_with fail
  go_ret3
  exact ⟨rfl, b1⟩

/-! ### Of -/
theorem bcell {W w1 : World} (hb : Below W.heap.size W w1) : (∀ b o, b < W.heap.size → w1.cell? ⟨b, o, none⟩ = W.cell? ⟨b, o, none⟩) ∧ (∀ b o, b < W.heap.size → w1.frozen? ⟨b, o, none⟩ = W.frozen? ⟨b, o, none⟩) :=
  ⟨fun b o h => hb.cell (p := ⟨b, o, none⟩) h, fun b o h => hb.frozen (p := ⟨b, o, none⟩) h⟩
def pairV (p : PairL) : Value := .agg #[.string ⟨p.name.toArray⟩, .string ⟨p.value.toArray⟩, .bool p.has]
def ofres (o : Option PairL) : Value := match o with
  | none => .tuple #[.agg #[.string ⟨#[]⟩, .string ⟨#[]⟩, .bool false], .bool false]
  | some p => .tuple #[pairV p, .bool true]

set_option maxHeartbeats 2000000 in
theorem of_any (s : ByteArray) (w : World) (hs : s.size ≤ 1000000000) :
    Calls Try.prog 67 #[.string s] w fun e w' => e = .returned (ofres (ofF s.data.toList)) ∧ Aft w w' := by
  have hm : s.size ≤ maxLen := by unfold maxLen; omega
  obtain ⟨tb, htb⟩ : ∃ b, tokB s.data.toList = b := ⟨_, rfl⟩
  have HT := Lib.hid (token_of s tb htb hm)
  have hof := htb
  cases tb
  · have HL0 : Hid (ofF s.data.toList = match cutEq s.data.toList with
      | none => none
      | some (n, v) => if tokB n then (unqF v).map fun x => ⟨lowerL n, x, true⟩ else none) := Lib.hid (by
        unfold ofF
        rw [if_neg (by rw [htb]; decide)]
        rfl)
    have HC := Lib.hid (cut_any s)
    have hs12 : s.size ≤ 1000000000000 := by omega
    rcases cut_index s.data.toList with ⟨_, h2⟩ | ⟨i, _, h2, h3⟩
    · have HN : Hid (ofF s.data.toList = none) := Lib.hid (by rw [HL0.out, h2])
      have hcr : cutres s = .tuple #[.string s, .string ⟨#[]⟩, .bool false] := by unfold cutres; rw [h2]
      rw [hcr] at HC
      clear htb hof h2 hcr HL0
      go_enter Try.func67, Try.ntmps67
      go_wp2_with (go_at_call 84; refine (HT.out _).mono ?_; rintro e w1 ⟨rfl, rfl⟩)
      refine (HC.out _ hs12).mono ?_
      rintro e w2 ⟨rfl, b2⟩
      obtain ⟨hc, hf⟩ := bcell b2.to
      go_wp2_with fail
      refine bodyPost_ret (v := .tuple #[.agg #[.string ⟨#[]⟩, .string ⟨#[]⟩, .bool false], .bool false]) (by simp [results, Try.results67, go_sem, hc]) rfl ?_
      rw [HN.out]
      have hb : Below w.heap.size w w2 := ((Below.refl _ _).alloc (Nat.le_refl _) _).trans (Below.mono b2.to (by simp))
      exact ⟨rfl, ((hb.setCell (p := ⟨w.heap.size, 0, none⟩) (Nat.le_refl _) _).setCell (p := ⟨w.heap.size, 1, none⟩) (Nat.le_refl _) _).setCell (p := ⟨w.heap.size, 2, none⟩) (Nat.le_refl _) _⟩
    · rw [size_len] at h2
      obtain ⟨N, hN⟩ : ∃ N : ByteArray, N = ⟨(s.data.toList.take i).toArray⟩ := ⟨_, rfl⟩
      obtain ⟨V, hV⟩ : ∃ V : ByteArray, V = ⟨(s.data.toList.drop (i + 1)).toArray⟩ := ⟨_, rfl⟩
      have hNd : N.data.toList = s.data.toList.take i := by rw [hN]
      have hVd : V.data.toList = s.data.toList.drop (i + 1) := by rw [hV]
      have hNs : N.size ≤ 1000000000 := by rw [← size_len, hNd, List.length_take, size_len]; omega
      have hVs : V.size ≤ 1000000000 := by rw [← size_len, hVd, List.length_drop, size_len]; omega
      have hNm : N.size ≤ maxLen := by unfold maxLen; omega
      have hcr : cutres s = .tuple #[.string N, .string V, .bool true] := by
        unfold cutres
        rw [h3, hN, hV]
      have hfo : ofF s.data.toList = if tokB N.data.toList then (unqF V.data.toList).map fun x => ⟨lowerL N.data.toList, x, true⟩ else none := by
        rw [HL0.out, h3, hNd, hVd]
      rw [hcr] at HC
      obtain ⟨nb, hnb⟩ : ∃ b, tokB N.data.toList = b := ⟨_, rfl⟩
      have HT2 := Lib.hid (token_of N nb hnb hNm)
      have HU := Lib.hid (unquote_any V)
      have HL := Lib.hid (lower_any N)
      rw [hnb] at hfo
      have HF := Lib.hid hfo
      clear htb hof h2 h3 hcr HL0 hN hV hNd hVd hnb hfo
      cases nb
      · have HN : Hid (ofF s.data.toList = none) := Lib.hid (by rw [HF.out]; rfl)
        go_enter Try.func67, Try.ntmps67
        go_wp2_with (go_at_call 84; refine (HT.out _).mono ?_; rintro e w1 ⟨rfl, rfl⟩)
        refine (HC.out _ hs12).mono ?_
        rintro e w2 ⟨rfl, b2⟩
        obtain ⟨hc, hf⟩ := bcell b2.to
        go_wp2_with (go_at_call 84; refine (HT2.out _).mono ?_; rintro e w1 ⟨rfl, rfl⟩)
        refine bodyPost_ret (v := .tuple #[.agg #[.string ⟨#[]⟩, .string ⟨#[]⟩, .bool false], .bool false]) (by simp [results, Try.results67, go_sem, hc]) rfl ?_
        rw [HN.out]
        have hb : Below w.heap.size w w2 := ((Below.refl _ _).alloc (Nat.le_refl _) _).trans (Below.mono b2.to (by simp))
        exact ⟨rfl, ((hb.setCell (p := ⟨w.heap.size, 0, none⟩) (Nat.le_refl _) _).setCell (p := ⟨w.heap.size, 1, none⟩) (Nat.le_refl _) _).setCell (p := ⟨w.heap.size, 2, none⟩) (Nat.le_refl _) _⟩
      · cases hun : unqF V.data.toList with
        | none =>
          rw [hun] at HU
          have HN : Hid (ofF s.data.toList = none) := Lib.hid (by rw [HF.out, hun]; rfl)
          clear hun
          go_enter Try.func67, Try.ntmps67
          go_wp2_with (go_at_call 84; refine (HT.out _).mono ?_; rintro e w1 ⟨rfl, rfl⟩)
          refine (HC.out _ hs12).mono ?_
          rintro e w2 ⟨rfl, b2⟩
          go_wp2_with (go_at_call 84; refine (HT2.out _).mono ?_; rintro e w1 ⟨rfl, rfl⟩)
          refine (HU.out _ hVs).mono ?_
          unfold uqres
          rintro e w3 ⟨rfl, b3⟩
          have hb : Below w.heap.size w w3 := ((Below.refl _ _).alloc (Nat.le_refl _) _).trans (Below.mono (b2.trans b3).to (by simp))
          obtain ⟨hc, hf⟩ := bcell (b2.trans b3).to
          go_wp2_with fail
          refine bodyPost_ret (v := .tuple #[.agg #[.string ⟨#[]⟩, .string ⟨#[]⟩, .bool false], .bool false]) (by simp [results, Try.results67, go_sem, hc]) rfl ?_
          rw [HN.out]
          exact ⟨rfl, ((hb.setCell (p := ⟨w.heap.size, 0, none⟩) (Nat.le_refl _) _).setCell (p := ⟨w.heap.size, 1, none⟩) (Nat.le_refl _) _).setCell (p := ⟨w.heap.size, 2, none⟩) (Nat.le_refl _) _⟩
        | some x =>
          rw [hun] at HU
          have HN : Hid (ofF s.data.toList = some ⟨lowerL N.data.toList, x, true⟩) := Lib.hid (by rw [HF.out, hun]; rfl)
          clear hun
          go_enter Try.func67, Try.ntmps67
          go_wp2_with (go_at_call 84; refine (HT.out _).mono ?_; rintro e w1 ⟨rfl, rfl⟩)
          refine (HC.out _ hs12).mono ?_
          rintro e w2 ⟨rfl, b2⟩
          go_wp2_with (go_at_call 84; refine (HT2.out _).mono ?_; rintro e w1 ⟨rfl, rfl⟩)
          refine (HU.out _ hVs).mono ?_
          unfold uqres
          rintro e w3 ⟨rfl, b3⟩
          go_wp2_with fail
          refine (HL.out _ hNm).mono ?_
          rintro e w4 ⟨rfl, b4⟩
          have hb : Below w.heap.size w w4 := ((Below.refl _ _).alloc (Nat.le_refl _) _).trans (Below.mono (b2.trans (b3.trans b4)).to (by simp))
          obtain ⟨hc, hf⟩ := bcell (b2.trans (b3.trans b4)).to
          go_wp2_with fail
          refine bodyPost_ret (v := .tuple #[.agg #[.string ⟨(lowerL N.data.toList).toArray⟩, .string ⟨x.toArray⟩, .bool true], .bool true]) (by simp [results, Try.results67, go_sem, hc]) rfl ?_
          rw [HN.out]
          exact ⟨rfl, ((hb.setCell (p := ⟨w.heap.size, 0, none⟩) (Nat.le_refl _) _).setCell (p := ⟨w.heap.size, 1, none⟩) (Nat.le_refl _) _).setCell (p := ⟨w.heap.size, 2, none⟩) (Nat.le_refl _) _⟩
  · have HN : Hid (ofF s.data.toList = some ⟨lowerL s.data.toList, [], false⟩) := Lib.hid (by unfold ofF; rw [if_pos htb])
    have HL := Lib.hid (lower_any s)
    clear htb hof
    go_enter Try.func67, Try.ntmps67
    go_wp2_with (go_at_call 84; refine (HT.out _).mono ?_; rintro e w1 ⟨rfl, rfl⟩)
    refine (HL.out _ hm).mono ?_
    rintro e w2 ⟨rfl, b2⟩
    obtain ⟨hc, hf⟩ := bcell b2.to
    go_wp2_with fail
    refine bodyPost_ret (v := .tuple #[.agg #[.string ⟨(lowerL s.data.toList).toArray⟩, .string ⟨#[]⟩, .bool false], .bool true]) (by simp [results, Try.results67, go_sem, hc]) rfl ?_
    rw [HN.out]
    have hb : Below w.heap.size w w2 := ((Below.refl _ _).alloc (Nat.le_refl _) _).trans (Below.mono b2.to (by simp))
    exact ⟨rfl, ((hb.setCell (p := ⟨w.heap.size, 0, none⟩) (Nat.le_refl _) _).setCell (p := ⟨w.heap.size, 1, none⟩) (Nat.le_refl _) _).setCell (p := ⟨w.heap.size, 2, none⟩) (Nat.le_refl _) _⟩

end Go.Proofs.Ytdcdckjdloddiaa
namespace Go.Proofs.Ytdcdckjdloddiaa
open Go.RowKit

/-- Split's three variables: the text, what has been split off, where the next element begins. -/
structure Sp (w : World) (B : Nat) (s : ByteArray) (a : Nat) (v : Value) : Prop where
  c0 : w.cell? ⟨B, 0, none⟩ = some (.string s)
  c1 : w.cell? ⟨B + 1, 0, none⟩ = some v
  c2 : w.cell? ⟨B + 2, 0, none⟩ = some (.int .i64 (a : Int))
  f1 : w.frozen? ⟨B + 1, 0, none⟩ = false
  f2 : w.frozen? ⟨B + 2, 0, none⟩ = false
  hs : B + 3 ≤ w.heap.size
theorem Sp.aft {w w' : World} {B : Nat} {s : ByteArray} {a : Nat} {v : Value} (h : Sp w B s a v) (ha : Aft w w') : Sp w' B s a v := by
  have e : ∀ b, b < w.heap.size → w'.cell? ⟨b, 0, none⟩ = w.cell? ⟨b, 0, none⟩ := fun b hb => Below.cell ha.to (p := ⟨b, 0, none⟩) hb
  have f : ∀ b, b < w.heap.size → w'.frozen? ⟨b, 0, none⟩ = w.frozen? ⟨b, 0, none⟩ := fun b hb => Below.frozen ha.to (p := ⟨b, 0, none⟩) hb
  have := h.hs
  exact ⟨(e _ (by omega)).trans h.c0, (e _ (by omega)).trans h.c1, (e _ (by omega)).trans h.c2, (f _ (by omega)).trans h.f1, (f _ (by omega)).trans h.f2, Nat.le_trans this ha.size⟩
theorem Sp.grown {w w' : World} {B : Nat} {s : ByteArray} {a : Nat} {v : Value} {row : Option Nat} (h : Sp w B s a v) (hg : w.grownBy w' row) (hr : ∀ k, row = some k → B + 3 ≤ k) : Sp w' B s a v := by
  have hb : ∀ b, b < B + 3 → w'.heap[b]? = w.heap[b]? := fun b hb => hg.block b (by have := h.hs; omega) (fun e => by have := hr b e.symm; omega)
  have e : ∀ b, b < B + 3 → w'.cell? ⟨b, 0, none⟩ = w.cell? ⟨b, 0, none⟩ := fun b h1 => World.cell?_of_block (a := ⟨b, 0, none⟩) (hb b h1)
  have f : ∀ b, b < B + 3 → w'.frozen? ⟨b, 0, none⟩ = w.frozen? ⟨b, 0, none⟩ := fun b h1 => World.frozen?_of_block (a := ⟨b, 0, none⟩) (hb b h1)
  exact ⟨(e _ (by omega)).trans h.c0, (e _ (by omega)).trans h.c1, (e _ (by omega)).trans h.c2, (f _ (by omega)).trans h.f1, (f _ (by omega)).trans h.f2, Nat.le_trans h.hs hg.size⟩
theorem Sp.set1 {w : World} {B : Nat} {s : ByteArray} {a : Nat} {v : Value} (h : Sp w B s a v) (u : Value) : Sp (w.setCell ⟨B + 1, 0, none⟩ u) B s a u :=
  ⟨by rw [World.cell?_setCell_other _ _ _ _ (by simp)]; exact h.c0, World.cell?_setCell_same _ _ _ h.c1, by rw [World.cell?_setCell_other _ _ _ _ (by simp)]; exact h.c2, by rw [World.frozen?_setCell]; exact h.f1, by rw [World.frozen?_setCell]; exact h.f2, by simpa [World.setCell] using h.hs⟩
theorem Sp.set2 {w : World} {B : Nat} {s : ByteArray} {a : Nat} {v : Value} (h : Sp w B s a v) (u : Nat) : Sp (w.setCell ⟨B + 2, 0, none⟩ (.int .i64 (u : Int))) B s u v :=
  ⟨by rw [World.cell?_setCell_other _ _ _ _ (by simp)]; exact h.c0, by rw [World.cell?_setCell_other _ _ _ _ (by simp)]; exact h.c1, World.cell?_setCell_same _ _ _ h.c2, by rw [World.frozen?_setCell]; exact h.f1, by rw [World.frozen?_setCell]; exact h.f2, by simpa [World.setCell] using h.hs⟩

set_option maxHeartbeats 1000000 in
theorem put_any (B : Nat) (s : ByteArray) (a b : Nat) (v : Value) (l : List (List UInt8)) (w : World) (h : Sp w B s a v) (ho : OwnS w (B + 3) v l) (hab : a ≤ b) (hb : b ≤ s.size) (hs : s.size ≤ 1000000000000) (hl : l.length ≤ 1000000000000) :
    Calls Try.prog 81 #[.int .i64 (b : Int), .pointer (some ⟨B, 0, none⟩), .pointer (some ⟨B + 2, 0, none⟩), .pointer (some ⟨B + 1, 0, none⟩)] w fun e w' => e = .returned (.tuple #[]) ∧ ∃ v', Sp w' B s a v' ∧ OwnS w' (B + 3) v' (l ++ elemL ((s.data.toList.drop a).take (b - a))) ∧ Below B w w' := by
  have k0 := h.c0
  have k1 := h.c1
  have k2 := h.c2
  have e1 : (s.extract a b).data.toList = (s.data.toList.drop a).take (b - a) := Lib.extract_data s a b
  have hz : (s.extract a b).size ≤ maxLen := by rw [ByteArray.size_extract]; unfold maxLen; omega
  have HT := Lib.hid (trim_any (s.extract a b))
  rw [e1] at HT
  obtain ⟨T, hT⟩ : ∃ T, trimL ((s.data.toList.drop a).take (b - a)) = T := ⟨_, rfl⟩
  have hel : elemL ((s.data.toList.drop a).take (b - a)) = if T.isEmpty then [] else [T] := by unfold elemL; rw [hT]
  rw [hT] at HT
  have HEL := Lib.hid hel
  have HZ := Lib.hid hz
  clear hT hel hz e1
  go_enter Try.func81, Try.ntmps81
  go_wp2_with fail
  refine (HT.out _ HZ.out).mono ?_
  rintro e w1 ⟨rfl, b1⟩
  have h1 := h.aft b1
  have ho1 := ho.aft b1
  have hbel : Below B w w1 := Below.mono b1 (by have := h.hs; omega)
  have j1 := h1.c1
  have j2 := h1.f1
  have hsz := h1.hs
  clear k0 k1 k2 HT
  have hst : (⟨T.toArray⟩ : ByteArray).toList = T := by rw [Lib.toList_data]
  cases hTe : T.isEmpty
  · have hne : (⟨T.toArray⟩ : ByteArray).toList.isEmpty = false := by rw [hst]; exact hTe
    have hfin : l ++ elemL ((s.data.toList.drop a).take (b - a)) = l ++ [T] := by rw [HEL.out, hTe]; rfl
    have HF := Lib.hid hfin
    clear hst hne hfin
    go_wp2_with (at_builtin; refine wpList_pushS rfl (.tmp 13) (.tmp 15) rfl (B + 3) v l rfl (ho1.aft ((Aft.refl _).alloc _)) ⟨w1.heap.size, 0, none⟩ 1 T rfl (cell_new1 _ _ _) (by omega) (le_alloc hsz _) ?_; intro v6 w6 o6 g6; obtain ⟨a6, k6, rfl, _⟩ := o6.slice; have h6 := (h1.aft ((Aft.refl _).alloc _)).grown g6 (fun k hk => (ho1.lt k hk).1); have i1 := h6.c1; have i2 := h6.f1)
    go_end0
    have h7 := h6.set1 (.slice a6 (l ++ [T]).length k6)
    have o7 := o6.far (p := ⟨B + 1, 0, none⟩) (by show B + 1 < B + 3; omega) (.slice a6 (l ++ [T]).length k6)
    have b6 : Below B w w6 := pushS_below (B := B) (base := B + 3) (hbel.alloc (by omega) _) (ho1.aft ((Aft.refl _).alloc _)) g6 (by omega) (le_alloc hsz _)
    rw [show (l ++ [T]).length = l.length + 1 by simp] at h7 o7
    exact ⟨rfl, _, h7, by rw [HF.out]; exact o7, b6.setCell (p := ⟨B + 1, 0, none⟩) (by show B ≤ B + 1; omega) _⟩
  · have hne : (⟨T.toArray⟩ : ByteArray).toList.isEmpty = true := by rw [hst]; exact hTe
    have hfin : l ++ elemL ((s.data.toList.drop a).take (b - a)) = l := by rw [HEL.out, hTe]; simp
    have HF := Lib.hid hfin
    clear hst hne hfin
    go_wp2_with fail
    go_end0
    exact ⟨rfl, v, h1, by rw [HF.out]; exact ho1, hbel⟩

/-! ### Split -/
def splT (cur l : List UInt8) : Option (List (List UInt8)) := splGo (l.length + 1) cur l
theorem splF_T (l : List UInt8) : splF l = splT [] l := rfl
theorem splT_nil (cur : List UInt8) : splT cur [] = some (elemL cur) := rfl
theorem splT_comma (cur r : List UInt8) : splT cur (44 :: r) = (splT [] r).map (elemL cur ++ ·) := by
  unfold splT
  simp only [List.length_cons]
  conv => lhs; unfold splGo
  rw [if_pos rfl]
theorem splT_quote (cur r : List UInt8) : splT cur (34 :: r) = match qend r with | none => none | some n => splT (cur ++ 34 :: r.take n) (r.drop n) := by
  unfold splT
  simp only [List.length_cons]
  conv => lhs; unfold splGo
  rw [if_neg (by decide), if_pos rfl]
  cases hq : qend r with
  | none => rfl
  | some n =>
    have := qend_bd r n hq
    exact splGo_more _ _ _ (by rw [List.length_drop]; omega) _ (by omega)
theorem splT_other (cur r : List UInt8) (c : UInt8) (h1 : c ≠ 44) (h2 : c ≠ 34) : splT cur (c :: r) = splT (cur ++ [c]) r := by
  unfold splT
  simp only [List.length_cons]
  conv => lhs; unfold splGo
  rw [if_neg h1, if_neg h2]
/-- What Split hands back: nothing, or the elements in new memory. -/
def SplitPost (o : Option (List (List UInt8))) (B : Nat) (e : Ending) (w' : World) : Prop :=
  match o with
  | none => e = .returned (.tuple #[.slice none 0 0, .bool false])
  | some L => ∃ v, e = .returned (.tuple #[v, .bool true]) ∧ OwnS w' B v L
theorem take_piece {l : List UInt8} {a i : Nat} (ha : a ≤ i) (hi : i < l.length) : (l.drop a).take (i + 1 - a) = (l.drop a).take (i - a) ++ [l[i]] := by
  have h := List.take_succ_eq_append_getElem (l := l.drop a) (i := i - a) (by rw [List.length_drop]; omega)
  rw [show i + 1 - a = i - a + 1 by omega, h, List.getElem_drop]
  congr 2
  simp only [show a + (i - a) = i by omega]
theorem piece_len {l : List UInt8} {a i : Nat} (_ : a ≤ i) (hi : i ≤ l.length) : ((l.drop a).take (i - a)).length = i - a := by
  rw [List.length_take, List.length_drop]
  omega
theorem take_pieces {l : List UInt8} {a i j : Nat} (ha : a ≤ i) (hj : i ≤ j) (hi : i ≤ l.length) : (l.drop a).take (j - a) = (l.drop a).take (i - a) ++ (l.drop i).take (j - i) := by
  have h : (l.drop a) = (l.drop a).take (i - a) ++ l.drop i := by
    have := (List.take_append_drop (i - a) (l.drop a)).symm
    rw [List.drop_drop, show a + (i - a) = i by omega] at this
    exact this
  conv => lhs; rw [h]
  rw [List.take_append, piece_len ha hi, List.take_of_length_le (by rw [piece_len ha hi]; omega), show j - a - (i - a) = j - i by omega]

set_option maxHeartbeats 4000000 in
theorem split_any (s : ByteArray) (w : World) (hs : s.size ≤ 1000000000) :
    Calls Try.prog 66 #[.string s] w fun e w' => SplitPost (splF s.data.toList) w.heap.size e w' ∧ Aft w w' := by
  obtain ⟨B, hB⟩ : ∃ B, w.heap.size = B := ⟨_, rfl⟩
  go_enter Try.func66, Try.ntmps66
  go_wp2_with fail
  have hS0 : Sp (((w.alloc (.cells #[.string s] 9)).alloc (.cells #[.slice none 0 0] 55)).alloc (.cells #[.int .i64 0] 3)) B s 0 (.slice none 0 0) := by
    subst hB
    exact ⟨by simp [go_sem], by simp [go_sem], by simp [go_sem], by simp [go_sem], by simp [go_sem], by simp⟩
  have hb0 : Below B w (((w.alloc (.cells #[.string s] 9)).alloc (.cells #[.slice none 0 0] 55)).alloc (.cells #[.int .i64 0] 3)) := by
    subst hB
    exact (((Below.refl _ _).alloc (Nat.le_refl _) _).alloc (by simp) _).alloc (by simp; omega) _
  rw [show B + 1 + 1 = B + 2 from rfl]
  have HB := Lib.hid hB
  clear hB
  generalize ((w.alloc (.cells #[.string s] 9)).alloc (.cells #[.slice none 0 0] 55)).alloc (.cells #[.int .i64 0] 3) = W0 at *
  have HSF := Lib.hid (size_len s)
  go_loopw [7, 8, 9] (fun vi _ _ wr => ∃ (i a : Nat) (l : List (List UInt8)) (v : Value), a ≤ i ∧ i ≤ s.size ∧ vi = .int .i64 (i : Int) ∧ Hid (Sp wr B s a v) ∧ Hid (OwnS wr (B + 3) v l) ∧ Hid (splF s.data.toList = (splT ((s.data.toList.drop a).take (i - a)) (s.data.toList.drop i)).map (l ++ ·)) ∧ l.length ≤ i ∧ Below B w wr) (fun vi _ _ _ => s.size - (intOf vi).toNat)
  case atStart => exact ⟨0, 0, [], _, by omega, by omega, by go_num, Lib.hid hS0, Lib.hid (OwnS.nil _ _), Lib.hid (by rw [splF_T]; simp), by simp, hb0⟩
  case round =>
    clear hS0 hb0
    obtain ⟨i, a, l, v, ha, hi, rfl, HS, HO, HF, hll, hbel⟩ := hrel
    have k0 := HS.out.c0
    have k2 := HS.out.c2
    have f2 := HS.out.f2
    by_cases hlt : i < s.size
    · have hil : i < s.data.toList.length := by rw [size_len]; exact hlt
      have hdrop := List.drop_eq_getElem_cons hil
      have hpiece := take_piece ha hil
      by_cases h44 : s[i] = 44
      · have hb1 : ((s[i].toNat : Int) == 44) = true := by rw [h44]; rfl
        have hnx : splF s.data.toList = (splT ((s.data.toList.drop (i + 1)).take (i + 1 - (i + 1))) (s.data.toList.drop (i + 1))).map ((l ++ elemL ((s.data.toList.drop a).take (i - a))) ++ ·) := by
          have e : s.data.toList[i] = 44 := h44
          rw [HF.out, hdrop, e, splT_comma, Option.map_map, Nat.sub_self, List.take_zero]
          congr 1
          funext x
          simp
        have HN := Lib.hid hnx
        have hel : (l ++ elemL ((s.data.toList.drop a).take (i - a))).length ≤ i + 1 := by
          rw [List.length_append]
          have : (elemL ((s.data.toList.drop a).take (i - a))).length ≤ 1 := by unfold elemL; split <;> simp
          omega
        clear hnx hdrop hpiece h44
        go_wp2_with (go_at_call 81; refine (put_any B s a i v l _ HS.out HO.out ha (by omega) (by omega) (by omega)).mono ?_; rintro e w1 ⟨rfl, v1, hS1, hO1, hb1'⟩; have j2 := hS1.c2; have j3 := hS1.f2)
        go_roundw
        case rel => exact ⟨i + 1, i + 1, _, v1, by omega, by omega, by go_num, Lib.hid (hS1.set2 (i + 1)), Lib.hid (hO1.far (p := ⟨B + 2, 0, none⟩) (by show B + 2 < B + 3; omega) _), HN, hel, (hbel.trans hb1').setCell (p := ⟨B + 2, 0, none⟩) (by show B ≤ B + 2; omega) _⟩
        case measure => simp [intOf]; omega
      · have hb1 : ((s[i].toNat : Int) == 44) = false := by
          rw [beq_eq_false_iff_ne]
          intro e
          exact h44 (byte_eq.2 e)
        by_cases h34 : s[i] = 34
        · have hb2 : ((s[i].toNat : Int) == 34) = true := by rw [h34]; rfl
          have e34 : s.data.toList[i] = 34 := h34
          have HQ := Lib.hid (quoted_any s i)
          cases hq : qend (s.data.toList.drop (i + 1)) with
          | none =>
            rw [hq] at HQ
            have hno : splF s.data.toList = none := by
              rw [HF.out, hdrop, e34, splT_quote, hq]
              rfl
            have HNO := Lib.hid hno
            clear hno hq e34 h34 hdrop hpiece h44
            go_wp2_with (go_at_call 83; refine (HQ.out _ (by omega) hlt).mono ?_; unfold qres; rintro e w1 ⟨rfl, rfl⟩)
            go_ret2
            rw [HNO.out, HB.out]
            exact ⟨rfl, by unfold Aft; rw [HB.out]; exact hbel⟩
          | some n =>
            have hqb := qend_bd _ _ hq
            rw [List.length_drop, size_len] at hqb
            rw [hq] at HQ
            have hnx : splF s.data.toList = (splT ((s.data.toList.drop a).take (i + 1 + n - a)) (s.data.toList.drop (i + 1 + n))).map (l ++ ·) := by
              rw [HF.out, hdrop, e34, splT_quote, hq]
              simp only
              rw [List.drop_drop, take_pieces (l := s.data.toList) (a := a) (i := i) (j := i + 1 + n) ha (by omega) (by omega), hdrop, e34, show i + 1 + n - i = n + 1 by omega, List.take_succ_cons]
            have HN := Lib.hid hnx
            clear hnx hq e34 h34 hdrop hpiece h44
            go_wp2_with (go_at_call 83; refine (HQ.out _ (by omega) hlt).mono ?_; unfold qres; rintro e w1 ⟨rfl, rfl⟩)
            go_roundw
            case rel => exact ⟨i + 1 + n, a, l, v, by omega, by omega, rfl, HS, HO, HN, by omega, hbel⟩
            case measure => simp [intOf]; omega
        · have hb2 : ((s[i].toNat : Int) == 34) = false := by
            rw [beq_eq_false_iff_ne]
            intro e
            exact h34 (byte_eq.2 e)
          have hnx : splF s.data.toList = (splT ((s.data.toList.drop a).take (i + 1 - a)) (s.data.toList.drop (i + 1))).map (l ++ ·) := by
            rw [HF.out, hdrop, splT_other _ _ (s.data.toList[i]) h44 h34, hpiece]
          have HN := Lib.hid hnx
          clear hnx hdrop hpiece h44 h34
          go_wp2_with fail
          go_roundw
          case rel => exact ⟨i + 1, a, l, v, by omega, by omega, by go_num, HS, HO, HN, by omega, hbel⟩
          case measure => simp [intOf]; omega
    · have hfin : splF s.data.toList = some (l ++ elemL ((s.data.toList.drop a).take (s.size - a))) := by
        have e : i = s.size := by omega
        rw [HF.out, e, List.drop_eq_nil_of_le (by rw [size_len]; omega : s.data.toList.length ≤ s.size), splT_nil]
        rfl
      have HFIN := Lib.hid hfin
      clear hfin
      go_wp2_with (go_at_call 81; refine (put_any B s a s.size v l _ HS.out HO.out (by omega) (Nat.le_refl _) (by omega) (by omega)).mono ?_; rintro e w1 ⟨rfl, v1, hS1, hO1, hb1'⟩; have j2 := hS1.c1)
      go_ret2
      rw [HFIN.out, HB.out]
      exact ⟨⟨v1, rfl, hO1.base (by omega)⟩, by unfold Aft; rw [HB.out]; exact hbel.trans hb1'⟩

end Go.Proofs.Ytdcdckjdloddiaa
