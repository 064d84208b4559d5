/-
  The walk of day.Read: any text as a date.
-/
import Derived.Test.YtdcdckjdloddiaaDayName
namespace Go.Proofs.Ytdcdckjdloddiaa
open Go.RowKit

theorem year_any (y : Int) (h0 : 0 ≤ y) (h1 : y ≤ 100000) (w : World) :
    Calls Try.prog 72 #[.int .i64 y] w fun e w' => e = .returned (.int .i64 (Dp.yearF y)) ∧ w = w' := by
  unfold Dp.yearF
  by_cases h : y % 4 = 0
  · rw [if_pos h]
    have hb : (y % 4 == 0) = true := by simpa using h
    clear h
    go_enter Try.func72, Try.ntmps72
    go_wp2
    go_ret
    exact ⟨rfl, rfl⟩
  · rw [if_neg h]
    have hb : (y % 4 == 0) = false := by simpa using h
    clear h
    go_enter Try.func72, Try.ntmps72
    go_wp2
    go_ret
    exact ⟨rfl, rfl⟩

theorem length_any (y m : Int) (h0 : 0 ≤ y) (h1 : y ≤ 100000) (h2 : 0 ≤ m) (h3 : m ≤ 11) (w : World) :
    Calls Try.prog 71 #[.int .i64 y, .int .i64 m] w fun e w' => e = .returned (.int .i64 (Dp.lenF y m)) ∧ w = w' := by
  have hm : m = 0 ∨ m = 1 ∨ m = 2 ∨ m = 3 ∨ m = 4 ∨ m = 5 ∨ m = 6 ∨ m = 7 ∨ m = 8 ∨ m = 9 ∨ m = 10 ∨ m = 11 := by omega
  clear h2 h3
  rcases hm with rfl | rfl | rfl | rfl | rfl | rfl | rfl | rfl | rfl | rfl | rfl | rfl
  case inr.inl =>
    unfold Dp.lenF
    by_cases h : y % 4 = 0
    · rw [if_pos rfl, if_pos h]
      have hb : (y % 4 == 0) = true := by simpa using h
      clear h
      go_enter Try.func71, Try.ntmps71
      go_wp2
      go_ret
      exact ⟨rfl, rfl⟩
    · rw [if_pos rfl, if_neg h]
      have hb : (y % 4 == 0) = false := by simpa using h
      clear h
      go_enter Try.func71, Try.ntmps71
      go_wp2
      go_ret
      exact ⟨rfl, rfl⟩
  all_goals
    go_enter Try.func71, Try.ntmps71
    go_wp2
    go_ret
    exact ⟨rfl, rfl⟩

theorem number_rel (b : Nat) (k : Nat) (lo hi : Int) (st : Option (List UInt8)) (w : World) (h : St w b st) (hk : k ≤ 4) (h0 : 0 ≤ lo) (h1 : lo ≤ hi) :
    Calls Try.prog 70 #[.pointer (some ⟨b, 0, none⟩), .int .i64 k, .int .i64 lo, .int .i64 hi] w fun e w' => ∃ d st', Hid (Dp.pNum k lo hi st = (d, st')) ∧ 0 ≤ d ∧ d ≤ hi ∧ e = .returned (.int .i64 d) ∧ St w' b st' ∧ Below b w w' :=
  (d_number_any b k lo hi st w h hk).mono fun _ _ ⟨he, hs, hb⟩ => ⟨_, _, Lib.hid rfl, (Dp.pNum_bd k lo hi st h0 h1).1, (Dp.pNum_bd k lo hi st h0 h1).2, he, hs, hb⟩
theorem sign_rel (b : Nat) (p : ByteArray) (st : Option (List UInt8)) (w : World) (h : St w b st) (hp : p.size ≤ 1000) :
    Calls Try.prog 69 #[.pointer (some ⟨b, 0, none⟩), .string p] w fun e w' => ∃ st', Hid (Dp.pSign p.data.toList st = st') ∧ e = .returned (.tuple #[]) ∧ St w' b st' ∧ Below b w w' :=
  (d_sign_any b p st w h hp).mono fun _ _ ⟨he, hs, hb⟩ => ⟨_, Lib.hid rfl, he, hs, hb⟩
theorem name_rel (b n : Nat) (all : ByteArray) (st : Option (List UInt8)) (w : World) (h : St w b st) (hn : all.size = 3 * n) (hn2 : n ≤ 12) (hn0 : 0 < n) :
    Calls Try.prog 68 #[.pointer (some ⟨b, 0, none⟩), .string all] w fun e w' => ∃ d st', Hid (Dp.pName n all.data.toList st = (d, st')) ∧ 0 ≤ d ∧ d < n ∧ e = .returned (.int .i64 d) ∧ St w' b st' ∧ Below b w w' :=
  (name_any b n all st w h hn hn2).mono fun _ _ ⟨he, hs, hb⟩ => ⟨_, _, Lib.hid rfl, (Dp.pName_bd n _ st hn0).1, (Dp.pName_bd n _ st hn0).2, he, hs, hb⟩

theorem St.new (w : World) (s : ByteArray) (t : TypeId) (hs : s.size ≤ maxLen) : St (w.alloc (.cells #[.string s, .bool true] t)) w.heap.size (some s.data.toList) := by
  unfold maxLen at hs
  exact ⟨s, true, ⟨by simp [go_sem], by simp [go_sem], by simp [go_sem], by simp [go_sem], by simp, hs⟩, rfl⟩

/-- What the last test of the reader sees. -/
theorem parse_of {l : List UInt8} {a d m y h mi sec : Int} {st1 st2 st3 st4 st5 st6 st7 st8 st9 st10 st11 st12 st13 st14 : Option (List UInt8)}
    (q1 : Dp.pName 7 Dp.weekL (some l) = (a, st1)) (q2 : Dp.pSign [44, 32] st1 = st2) (q3 : Dp.pNum 2 1 31 st2 = (d, st3)) (q4 : Dp.pSign [32] st3 = st4)
    (q5 : Dp.pName 12 Dp.monthsL st4 = (m, st5)) (q6 : Dp.pSign [32] st5 = st6) (q7 : Dp.pNum 4 1970 2037 st6 = (y, st7)) (q8 : Dp.pSign [32] st7 = st8)
    (q9 : Dp.pNum 2 0 23 st8 = (h, st9)) (q10 : Dp.pSign [58] st9 = st10) (q11 : Dp.pNum 2 0 59 st10 = (mi, st11)) (q12 : Dp.pSign [58] st11 = st12)
    (q13 : Dp.pNum 2 0 59 st12 = (sec, st13)) (q14 : Dp.pSign [32, 71, 77, 84] st13 = st14) : Dp.parse l = ((a, d, m, y, h, mi, sec), st14) := by
  unfold Dp.parse
  simp only [q1, q2, q3, q4, q5, q6, q7, q8, q9, q10, q11, q12, q13, q14]

set_option maxHeartbeats 4000000 in
theorem read_any (s : ByteArray) (w : World) (hs : s.size ≤ maxLen) :
    Calls Try.prog 58 #[.string s] w fun e w' => e = .returned (.tuple #[.int .i64 (Dp.readF s.data.toList).1, .bool (Dp.readF s.data.toList).2]) ∧ Aft w w' := by
  have hst0 := St.new w s 97 hs
  have hb0 : Below w.heap.size w (w.alloc (.cells #[.string s, .bool true] 97)) := (Below.refl _ _).alloc (Nat.le_refl _) _
  go_enter Try.func58, Try.ntmps58
  go_wp2_with fail
  refine (name_rel _ 7 _ _ _ hst0 rfl (by decide) (by decide)).mono ?_
  rintro e w1 ⟨a, st1, q1, a0, a1, rfl, hst1, hb1⟩
  go_wp2_with fail
  refine (sign_rel _ _ _ _ hst1 (by decide)).mono ?_
  rintro e w2 ⟨st2, q2, rfl, hst2, hb2⟩
  have hc2 := hb1.trans hb2
  clear hb1 hst1
  clear hb2
  have hb2 := hc2
  clear hc2
  go_wp2_with fail
  refine (number_rel _ 2 1 31 _ _ hst2 (by decide) (by decide) (by decide)).mono ?_
  rintro e w3 ⟨d, st3, q3, d0, d1, rfl, hst3, hb3⟩
  have hc3 := hb2.trans hb3
  clear hb2 hst2
  clear hb3
  have hb3 := hc3
  clear hc3
  go_wp2_with fail
  refine (sign_rel _ _ _ _ hst3 (by decide)).mono ?_
  rintro e w4 ⟨st4, q4, rfl, hst4, hb4⟩
  have hc4 := hb3.trans hb4
  clear hb3 hst3
  clear hb4
  have hb4 := hc4
  clear hc4
  go_wp2_with fail
  refine (name_rel _ 12 _ _ _ hst4 rfl (by decide) (by decide)).mono ?_
  rintro e w5 ⟨m, st5, q5, m0, m1, rfl, hst5, hb5⟩
  have hc5 := hb4.trans hb5
  clear hb4 hst4
  clear hb5
  have hb5 := hc5
  clear hc5
  go_wp2_with fail
  refine (sign_rel _ _ _ _ hst5 (by decide)).mono ?_
  rintro e w6 ⟨st6, q6, rfl, hst6, hb6⟩
  have hc6 := hb5.trans hb6
  clear hb5 hst5
  clear hb6
  have hb6 := hc6
  clear hc6
  go_wp2_with fail
  refine (number_rel _ 4 1970 2037 _ _ hst6 (by decide) (by decide) (by decide)).mono ?_
  rintro e w7 ⟨y, st7, q7, y0, y1, rfl, hst7, hb7⟩
  have hc7 := hb6.trans hb7
  clear hb6 hst6
  clear hb7
  have hb7 := hc7
  clear hc7
  go_wp2_with fail
  refine (sign_rel _ _ _ _ hst7 (by decide)).mono ?_
  rintro e w8 ⟨st8, q8, rfl, hst8, hb8⟩
  have hc8 := hb7.trans hb8
  clear hb7 hst7
  clear hb8
  have hb8 := hc8
  clear hc8
  go_wp2_with fail
  refine (number_rel _ 2 0 23 _ _ hst8 (by decide) (by decide) (by decide)).mono ?_
  rintro e w9 ⟨h, st9, q9, h0, h1, rfl, hst9, hb9⟩
  have hc9 := hb8.trans hb9
  clear hb8 hst8
  clear hb9
  have hb9 := hc9
  clear hc9
  go_wp2_with fail
  refine (sign_rel _ _ _ _ hst9 (by decide)).mono ?_
  rintro e w10 ⟨st10, q10, rfl, hst10, hb10⟩
  have hc10 := hb9.trans hb10
  clear hb9 hst9
  clear hb10
  have hb10 := hc10
  clear hc10
  go_wp2_with fail
  refine (number_rel _ 2 0 59 _ _ hst10 (by decide) (by decide) (by decide)).mono ?_
  rintro e w11 ⟨mi, st11, q11, mi0, mi1, rfl, hst11, hb11⟩
  have hc11 := hb10.trans hb11
  clear hb10 hst10
  clear hb11
  have hb11 := hc11
  clear hc11
  go_wp2_with fail
  refine (sign_rel _ _ _ _ hst11 (by decide)).mono ?_
  rintro e w12 ⟨st12, q12, rfl, hst12, hb12⟩
  have hc12 := hb11.trans hb12
  clear hb11 hst11
  clear hb12
  have hb12 := hc12
  clear hc12
  go_wp2_with fail
  refine (number_rel _ 2 0 59 _ _ hst12 (by decide) (by decide) (by decide)).mono ?_
  rintro e w13 ⟨sec, st13, q13, sec0, sec1, rfl, hst13, hb13⟩
  have hc13 := hb12.trans hb13
  clear hb12 hst12
  clear hb13
  have hb13 := hc13
  clear hc13
  go_wp2_with fail
  refine (sign_rel _ _ _ _ hst13 (by decide)).mono ?_
  rintro e w14 ⟨st14, q14, rfl, hst14, hb14⟩
  have hc14 := hb13.trans hb14
  clear hb13 hst13
  clear hb14
  have hb14 := hc14
  clear hc14
  have HQ := Lib.hid (parse_of q1.out q2.out q3.out q4.out q5.out q6.out q7.out q8.out q9.out q10.out q11.out q12.out q13.out q14.out)
  clear q1 q2 q3 q4 q5 q6 q7 q8 q9 q10 q11 q12 q13 q14
  obtain ⟨s', ok, hR, hE⟩ := hst14
  have HE := Lib.hid hE
  clear hE
  have c0 := hR.c0
  have c1 := hR.c1
  have hbw : Aft w w14 := hb0.trans hb14
  clear hb0 hb14 hst0 hR
  have hres : Dp.readF s.data.toList = Dp.fin (a, d, m, y, h, mi, sec) st14 := by
    unfold Dp.readF
    rw [HQ.out]
  have HR := Lib.hid hres
  clear hres HQ
  cases ok
  · go_wp2
    go_ret2
    have : st14 = none := by simpa using HE.out
    rw [HR.out, this]
    exact ⟨rfl, hbw⟩
  · cases he : s'.toList.isEmpty
    · go_wp2
      go_ret2
      have : ∃ x l, st14 = some (x :: l) := by
        have h1 : st14 = some s'.data.toList := by simpa using HE.out
        rw [Lib.toList_data] at he
        cases hs' : s'.data.toList with
        | nil => rw [hs'] at he; simp at he
        | cons x l => exact ⟨x, l, by rw [h1, hs']⟩
      obtain ⟨x, l, hx⟩ := this
      rw [HR.out, hx]
      exact ⟨rfl, hbw⟩
    · have h1 : st14 = some [] := by
        have h1 : st14 = some s'.data.toList := by simpa using HE.out
        rw [Lib.toList_data] at he
        rw [h1, List.isEmpty_iff.1 he]
      have HR2 : Hid (Dp.readF s.data.toList = Dp.tell (a, d, m, y, h, mi, sec)) := by rw [HR.out, h1]; exact rfl
      clear HR HE h1
      have hlb := Dp.lenF_bd y m
      by_cases hd : Dp.lenF y m < d
      · go_wp2_with (go_at_call 71; refine (length_any y m y0 (by omega) m0 (by omega) _).mono ?_; rintro e w' ⟨rfl, rfl⟩)
        go_ret2
        rw [HR2.out]
        unfold Dp.tell
        simp only [if_pos hd]
        exact ⟨rfl, hbw⟩
      · go_wp2_with (go_at_call 71; refine (length_any y m y0 (by omega) m0 (by omega) _).mono ?_; rintro e w' ⟨rfl, rfl⟩)
        clear c0 c1 hlb
        go_loop [12, 13] (fun n i => ∃ k : Nat, k ≤ (y - 1970).toNat ∧ i = .int .i64 (1970 + (k : Int)) ∧ n = .int .i64 (d - 1 + Dp.sumY k)) (fun _ i => (y - intOf i).toNat)
        case atStart => exact ⟨0, by omega, by go_num, by simp [Dp.sumY]⟩
        case round =>
          obtain ⟨k, hk, rfl, rfl⟩ := hrel
          have hbd := Dp.sumY_bd k
          have hk2 : (k : Int) ≤ 67 := by omega
          have hby1 : 0 ≤ Dp.sumY k := by omega
          have hby2 : Dp.sumY k ≤ 25000 := by omega
          clear hbd
          have hyb := Dp.yearF_bd (1970 + (k : Int))
          by_cases hlt : 1970 + (k : Int) < y
          · go_wp2_with (go_at_call 72; refine (year_any (1970 + (k : Int)) (by omega) (by omega) _).mono ?_; rintro e w' ⟨rfl, rfl⟩)
            go_round
            case rel => exact ⟨k + 1, by omega, by go_num, by rw [Dp.sumY]; go_num⟩
            case measure => simp [intOf]; omega
          · have hkk : k = (y - 1970).toNat := by omega
            clear hyb hk
            have HK := Lib.hid hkk
            clear hkk
            go_wp2
            generalize hY : Dp.sumY k = Y at *
            have HY := Lib.hid hY
            clear hY
            obtain ⟨mn, rfl⟩ := Int.eq_ofNat_of_zero_le m0
            go_loop [12, 14, 77] (fun n _ c => ∃ j : Nat, j ≤ mn ∧ c = .int .i64 (j : Int) ∧ n = .int .i64 (d - 1 + Y + Dp.sumM y j)) (fun _ _ c => mn - (intOf c).toNat)
            case atStart => exact ⟨0, by omega, by go_num, by simp [Dp.sumM]⟩
            case round =>
              obtain ⟨j, hj, rfl, rfl⟩ := hrel
              have hbd := Dp.sumM_bd y j
              have hbm1 : 0 ≤ Dp.sumM y j := by omega
              have hbm2 : Dp.sumM y j ≤ 400 := by omega
              clear hbd
              have hlb := Dp.lenF_bd y j
              by_cases hlj : j < mn
              · go_wp2_with (go_at_call 71; refine (length_any y j y0 (by omega) (by omega) (by omega) _).mono ?_; rintro e w' ⟨rfl, rfl⟩)
                go_round
                case rel => exact ⟨j + 1, by omega, by go_num, by rw [Dp.sumM]; go_num⟩
                case measure => simp [intOf]; omega
              · have hjm : j = mn := by omega
                subst hjm
                clear hlb
                have hday : Dp.dayOf d j y = d - 1 + Y + Dp.sumM y j := by
                  have e1 := HK.out
                  have e2 := HY.out
                  unfold Dp.dayOf
                  rw [Int.toNat_natCast, ← e2, e1]
                have HD := Lib.hid hday
                clear hday
                generalize hM : Dp.sumM y j = M at *
                clear hM
                by_cases h7 : (d - 1 + Y + M).tmod 7 = a
                · have hb7 : ((d - 1 + Y + M).tmod 7 != a) = false := by simpa using h7
                  have hfin : Dp.readF s.data.toList = ((d - 1 + Y + M) * 86400 + h * 60 * 60 + mi * 60 + sec, true) := by
                    rw [HR2.out]
                    unfold Dp.tell
                    simp only [if_neg (Int.not_lt.2 hd), HD.out, if_pos h7]
                  have HF := Lib.hid hfin
                  clear hfin h7 HR2
                  go_wp2
                  go_ret2
                  rw [HF.out]
                  exact ⟨rfl, hbw⟩
                · have hb7 : ((d - 1 + Y + M).tmod 7 != a) = true := by simpa using h7
                  have hfin : Dp.readF s.data.toList = (0, false) := by
                    rw [HR2.out]
                    unfold Dp.tell
                    simp only [if_neg (Int.not_lt.2 hd), HD.out, if_neg h7]
                  have HF := Lib.hid hfin
                  clear hfin h7 HR2
                  go_wp2
                  go_ret2
                  rw [HF.out]
                  exact ⟨rfl, hbw⟩

end Go.Proofs.Ytdcdckjdloddiaa
