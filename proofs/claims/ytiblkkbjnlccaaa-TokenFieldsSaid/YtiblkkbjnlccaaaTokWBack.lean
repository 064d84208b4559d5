/-
  The walk of TokenBack.
-/
import Derived.Test.YtiblkkbjnlccaaaTokLawB
import Derived.Test.YtiblkkbjnlccaaaArgS
namespace Go.Proofs.Ytiblkkbjnlccaaa
open Go.RowKit

theorem short_of (s t : ByteArray) (w : World) (hs : s.size ≤ maxLen) (ht : t.data.toList = s.data.toList.take 300) :
    Calls Try.prog 14 #[.string s] w fun e w' => e = .returned (.string t) ∧ w = w' := by
  refine (short_any s w hs).mono ?_
  rintro e w' ⟨u, rfl, _, hu, rfl⟩
  refine ⟨?_, rfl⟩
  rw [show u = t from bytes_ext (hu.out.trans ht.symm)]
theorem escL_len (l : List UInt8) : (escL l).length ≤ 2 * l.length := by
  induction l with
  | nil => simp [escL]
  | cons c l ih =>
    have e : escL (c :: l) = escC c ++ escL l := by simp [escL]
    have := escC_len c
    rw [e, List.length_append, List.length_cons]
    omega
theorem backLine_snoc (l : List (List UInt8)) (x : List UInt8) : backLine (l ++ [x]) = backLine l ++ (32 :: (quoL x ++ [9, 44])) := by simp [backLine]

set_option maxHeartbeats 4000000 in
theorem walkTokenBack (w : World) {H : Type} {enc : TypeId × Value → H} {base : Nat} {v : Value} {d : DataW H} {p : List MemPlace} (hval : Value.okWide Try.prog w .any base 22 v) (hd : DataW.Trod enc Try.prog w 0 (fun _ => true) true 22 v d p) :
    Calls Try.prog 4 #[v] w fun e w' => e = .returned (.bool true) ∧ Aft w w' := by
  obtain ⟨l, hr, hmx⟩ := open_strsRb hval hd
  clear hval hd
  obtain ⟨a1, c1, b1, o1, rfl, m1, p1, q1, r1⟩ := hr.open
  unfold maxLen at m1
  have P1 := Lib.hid p1
  have Q1 := Lib.hid q1
  have R1 := Lib.hid r1
  have MX := Lib.hid hmx
  clear hr p1 q1 r1 hmx
  obtain ⟨B, hB⟩ : ∃ B, w.heap.size = B := ⟨_, rfl⟩
  have HB := Lib.hid hB
  have hb0 : Below B w w := Below.refl _ _
  clear hB
  go_enter Try.func4, Try.ntmps4
  go_wp2_with fail
  go_loopw [3, 4, 5, 6, 7, 8, 9] (fun vl vw vi _ _ _ _ wr => ∃ (k : Nat) (line : ByteArray) (xs : List (List UInt8)), k ≤ l.length ∧ k ≤ 10 ∧ vi = .int .i64 (k : Int) ∧ vl = .string line ∧ Hid (line.data.toList = backLine xs) ∧ Hid (OwnS wr B vw (xs.map quoL)) ∧ line.size ≤ 700 * k ∧ xs.length ≤ k ∧ Hid (Below B w wr)) (fun _ _ vi _ _ _ _ _ => l.length - (intOf vi).toNat)
  case atStart => exact ⟨0, _, [], by omega, by omega, by go_num, rfl, Lib.hid rfl, Lib.hid (OwnS.nil _ _), by decide, by simp, Lib.hid hb0⟩
  case round =>
    clear hb0
    obtain ⟨k, line, xs, hk, hk10, rfl, rfl, HL, HO, hls, hxs, HBE⟩ := hrel
    have hbs : B ≤ wr.heap.size := by rw [← HB.out]; exact HBE.out.size
    by_cases hlt : k < l.length ∧ k < 10
    · obtain ⟨hlt, hlt10⟩ := hlt
      have hne : l ≠ [] := by intro e; rw [e] at hlt; simp at hlt
      have hpa := P1.out hne
      have hbb := Q1.out hne
      have hx : wr.cell? ⟨b1, o1 + k, none⟩ = some (strV l[k]) := by
        rw [Below.cell HBE.out (p := ⟨b1, o1 + k, none⟩) (by rw [← HB.out]; exact hbb)]
        exact R1.out k hlt
      have hym := MX.out l[k] (List.getElem_mem hlt)
      generalize l[k] = y at hx hym
      obtain ⟨t, ht⟩ : ∃ t : ByteArray, t.data.toList = y.take 300 := ⟨⟨(y.take 300).toArray⟩, rfl⟩
      have htz : t.size ≤ 300 := by rw [← size_len, ht, List.length_take]; omega
      have CS := Lib.hid (fun w => short_of ⟨y.toArray⟩ t w (by simpa [ByteArray.size] using hym) ht)
      have CQ := Lib.hid (fun w => quo_any t w (by omega))
      unfold strV at hx
      subst hpa
      have hkl : (k : Int) < (l.length : Int) := by omega
      clear ht hne hym
      by_cases hpl : t.data.toList.all plainB = true
      · have hq : quores t.data.toList = .tuple #[.string ⟨(quoL t.data.toList).toArray⟩, .bool true] := by unfold quores; rw [if_pos hpl]
        rw [hq] at CQ
        obtain ⟨q, hqq⟩ : ∃ q : ByteArray, q = ⟨(quoL t.data.toList).toArray⟩ := ⟨_, rfl⟩
        have hqd : q.data.toList = quoL t.data.toList := by rw [hqq]
        have hqz : q.size ≤ 602 := by
          rw [← size_len, hqd, quoL_len]
          have := escL_len t.data.toList
          rw [size_len] at this
          omega
        rw [← hqq] at CQ
        have hun : uqres (unqF q.data.toList) = .tuple #[.string t, .bool true] := by
          rw [hqd, unq_quoL _ hpl]
          unfold uqres
          simp only [mk_toList]
        have CU := Lib.hid (fun w => unq_of q _ w (by omega) hun)
        have HQD := Lib.hid hqd
        clear hq hqq hqd hun hpl
        go_wp2_with fail
        refine (CS.out _).mono ?_
        rintro e w1 ⟨rfl, rfl⟩
        go_wp2_with fail
        refine (CQ.out _).mono ?_
        rintro e w2 ⟨rfl, b2⟩
        have hx2 : w2.cell? ⟨b1, o1 + k, none⟩ = some (.string ⟨y.toArray⟩) := by
          rw [Below.cell b2.to (p := ⟨b1, o1 + k, none⟩) (by show b1 < _; have := HB.out; omega)]
          exact hx
        go_wp2_with fail
        refine (CU.out _).mono ?_
        rintro e w3 ⟨rfl, b3⟩
        have hx3 : w3.cell? ⟨b1, o1 + k, none⟩ = some (.string ⟨y.toArray⟩) := by
          rw [Below.cell b3.to (p := ⟨b1, o1 + k, none⟩) (by show b1 < _; have := b2.to.size; have := HB.out; omega)]
          exact hx2
        clear hx hx2
        go_wp2_with fail
        refine (CS.out _).mono ?_
        rintro e w4 ⟨rfl, rfl⟩
        have HB3 : Below B w w3 := HBE.out.trans (Below.mono (b2.trans b3).to hbs)
        have hbs3 : B ≤ w3.heap.size := by rw [← HB.out]; exact HB3.size
        have HO3 := Lib.hid ((HO.out.aft b2).aft b3)
        clear HO
        go_wp2_with (at_builtin; refine wpList_pushS rfl (.tmp 54) (.tmp 56) rfl B _ (xs.map quoL) rfl (HO3.out.aft ((Aft.refl _).alloc _)) ⟨w3.heap.size, 0, none⟩ 1 q.data.toList rfl (cell_new1 _ _ _) (by simp; omega) (le_alloc hbs3 _) ?_; intro v6 w6 o6 g6)
        go_roundw
        case rel =>
          refine ⟨k + 1, _, xs ++ [t.data.toList], by omega, by omega, by go_num, rfl, Lib.hid ?_, Lib.hid ?_, ?_, by simp; omega, Lib.hid ?_⟩
          · simp only [str_append]
            rw [backLine_snoc, HL.out, HQD.out]
            simp
          · rw [List.map_append, List.map_singleton, ← HQD.out]
            exact o6
          · simp only [ByteArray.size_append]
            show line.size + 1 + q.size + 2 ≤ _
            omega
          · exact pushS_below (HB3.alloc hbs3 _) (HO3.out.aft ((Aft.refl _).alloc _)) g6 (Nat.le_refl _) (le_alloc hbs3 _)
        case measure => simp [intOf]; omega
      · have hq : quores t.data.toList = .tuple #[.string ⟨#[]⟩, .bool false] := by unfold quores; rw [if_neg hpl]
        rw [hq] at CQ
        clear hq hpl
        go_wp2_with fail
        refine (CS.out _).mono ?_
        rintro e w1 ⟨rfl, rfl⟩
        go_wp2_with fail
        refine (CQ.out _).mono ?_
        rintro e w2 ⟨rfl, b2⟩
        go_wp2_with fail
        go_roundw
        case rel => exact ⟨k + 1, line, xs, by omega, by omega, by go_num, rfl, HL, Lib.hid (HO.out.aft b2), by omega, by omega, Lib.hid (HBE.out.trans (Below.mono b2.to hbs))⟩
        case measure => simp [intOf]; omega
    · have hsb : splF line.data.toList = some (xs.map quoL) := by rw [HL.out]; exact spl_back xs
      obtain ⟨ys, hys⟩ : ∃ ys, xs.map quoL = ys := ⟨_, rfl⟩
      rw [hys] at hsb HO
      have CS := Lib.hid (fun w => split_some line ys w (by omega) hsb)
      clear hsb hys
      have hd : (decide ((k : Int) < (l.length : Int)) && decide ((k : Int) < 10)) = false := by
        simp
        omega
      by_cases h1 : k < l.length
      · have h2 : 10 ≤ (k : Int) := by omega
        clear hlt hd
        go_wp2_with fail
        refine (CS.out _).mono ?_
        rintro e w1 ⟨v1, rfl, ow1, b1⟩
        obtain ⟨ad, kk, rfl, _⟩ := ow1.slice
        go_wp2_with fail
        refine (sameS_any _ _ ys ys _ ow1.rb (HO.out.rb.aft b1)).mono ?_
        rintro e w2 ⟨rfl, b2⟩
        rw [beq_self_eq_true]
        go_wp2_with fail
        refine (tokenruns_any _).mono ?_
        rintro e w3 ⟨rfl, b3⟩
        go_wp2_with fail
        go_ret
        exact ⟨rfl, by unfold Aft; rw [HB.out]; exact HBE.out.trans (Below.mono (b1.trans (b2.trans b3)).to hbs)⟩
      · have h1' : (l.length : Int) ≤ (k : Int) := by omega
        clear hlt hd
        go_wp2_with fail
        refine (CS.out _).mono ?_
        rintro e w1 ⟨v1, rfl, ow1, b1⟩
        obtain ⟨ad, kk, rfl, _⟩ := ow1.slice
        go_wp2_with fail
        refine (sameS_any _ _ ys ys _ ow1.rb (HO.out.rb.aft b1)).mono ?_
        rintro e w2 ⟨rfl, b2⟩
        rw [beq_self_eq_true]
        go_wp2_with fail
        refine (tokenruns_any _).mono ?_
        rintro e w3 ⟨rfl, b3⟩
        go_wp2_with fail
        go_ret
        exact ⟨rfl, by unfold Aft; rw [HB.out]; exact HBE.out.trans (Below.mono (b1.trans (b2.trans b3)).to hbs)⟩

end Go.Proofs.Ytiblkkbjnlccaaa
