/-
  The walk of the reference's Of.
-/
import Derived.Test.YtodgnphmjagnkaaRTok4
import Derived.Test.YtodgnphmjagnkaaTokOf
import Derived.Test.YtodgnphmjagnkaaTokLawP
namespace Go.Proofs.Ytodgnphmjagnkaa
open Go.RowKit

theorem cut_len {l n v : List UInt8} (h : cutEq l = some (n, v)) : n.length + 1 + v.length = l.length := by
  rcases cut_index l with ⟨_, h2⟩ | ⟨i, _, h2, h3⟩
  · rw [h2] at h; cases h
  · rw [h3] at h
    injection h with h
    injection h with e1 e2
    rw [← e1, ← e2, List.length_take, List.length_drop]
    omega
theorem cut_has : ∀ {l : List UInt8} {i : Nat} (hi : i < l.length), l[i] = 61 → (∀ j (h : j < i), l[j] ≠ 61) → cutEq l = some (l.take i, l.drop (i + 1))
  | c :: r, 0, _, h, _ => by
    have : c = 61 := h
    unfold cutEq
    rw [if_pos this]
    rfl
  | c :: r, i + 1, hi, h, hno => by
    have h0 : c ≠ 61 := hno 0 (by omega)
    unfold cutEq
    rw [if_neg h0, cut_has (l := r) (i := i) (by simpa using hi) h (fun j hj => hno (j + 1) (by omega))]
    rfl
theorem cut_no : ∀ {l : List UInt8}, (∀ j (h : j < l.length), l[j] ≠ 61) → cutEq l = none
  | [], _ => rfl
  | c :: r, hno => by
    have h0 : c ≠ 61 := hno 0 (by simp)
    unfold cutEq
    rw [if_neg h0, cut_no (l := r) (fun j hj => hno (j + 1) (by simpa using hj))]
    rfl
theorem of_no {l : List UInt8} (h : cutEq l = none) : ofF l = if tokB l then some ⟨lowerL l, [], false⟩ else none := by
  unfold ofF
  rw [h]
theorem of_has {l n v : List UInt8} (h : cutEq l = some (n, v)) (he : l = n ++ 61 :: v) : ofF l = if tokB n then (unqF v).map fun x => ⟨lowerL n, x, true⟩ else none := by
  have ht : tokB l = false := by rw [he]; exact tok_eq_no n v
  unfold ofF
  rw [ht, h]
  rfl

/-- Block g holds three cells that can be written. -/
structure P3X (w : World) (g : Nat) (a b c : Value) : Prop where
  c0 : w.cell? ⟨g, 0, none⟩ = some a
  c1 : w.cell? ⟨g, 1, none⟩ = some b
  c2 : w.cell? ⟨g, 2, none⟩ = some c
  f0 : w.frozen? ⟨g, 0, none⟩ = false
  f1 : w.frozen? ⟨g, 1, none⟩ = false
  f2 : w.frozen? ⟨g, 2, none⟩ = false
  lt : g < w.heap.size
theorem P3X.new (w : World) (a b c : Value) (t : TypeId) : P3X (w.alloc (.cells #[a, b, c] t)) w.heap.size a b c :=
  ⟨by simp [go_sem], by simp [go_sem], by simp [go_sem], by simp [go_sem], by simp [go_sem], by simp [go_sem], by simp⟩
theorem P3X.aft {w w' : World} {g : Nat} {a b c : Value} (h : P3X w g a b c) (ha : Aft w w') : P3X w' g a b c :=
  ⟨by rw [Below.cell ha.to (p := ⟨g, 0, none⟩) h.lt]; exact h.c0, by rw [Below.cell ha.to (p := ⟨g, 1, none⟩) h.lt]; exact h.c1, by rw [Below.cell ha.to (p := ⟨g, 2, none⟩) h.lt]; exact h.c2, by rw [Below.frozen ha.to (p := ⟨g, 0, none⟩) h.lt]; exact h.f0, by rw [Below.frozen ha.to (p := ⟨g, 1, none⟩) h.lt]; exact h.f1, by rw [Below.frozen ha.to (p := ⟨g, 2, none⟩) h.lt]; exact h.f2, Nat.lt_of_lt_of_le h.lt ha.size⟩

set_option maxHeartbeats 8000000 in
theorem rof_any (s : ByteArray) (w : World) (hs : s.size ≤ 1000000000) :
    Calls Try.prog 46 #[.string s] w fun e w' => e = .returned (ofres (ofF s.data.toList)) ∧ Aft w w' := by
  have hm : s.size ≤ maxLen := by unfold maxLen; omega
  obtain ⟨B, hB⟩ : ∃ B, w.heap.size = B := ⟨_, rfl⟩
  go_enter Try.func46, Try.ntmps46
  go_wp2_with fail
  have hp0 := P3X.new w (.string ⟨#[]⟩) (.string ⟨#[]⟩) (.bool false) 69
  have hb0 : Aft w (w.alloc (.cells #[.string ⟨#[]⟩, .string ⟨#[]⟩, .bool false] 69)) := (Aft.refl _).alloc _
  rw [hB] at hp0
  have HB := Lib.hid hB
  clear hB
  generalize w.alloc (.cells #[.string ⟨#[]⟩, .string ⟨#[]⟩, .bool false] 69) = W0 at *
  have HP0 := Lib.hid hp0
  have HB0 := Lib.hid hb0
  clear hp0 hb0
  go_loop [4] (fun vi => ∃ i : Nat, i ≤ s.size ∧ vi = .int .i64 (i : Int) ∧ Hid (∀ j (h : j < s.data.toList.length), j < i → s.data.toList[j] ≠ 61)) (fun vi => s.size - (intOf vi).toNat)
  case atStart => exact ⟨0, by omega, by go_num, Lib.hid (fun j _ h => by omega)⟩
  case round =>
    obtain ⟨i, hi, rfl, HI⟩ := hrel
    by_cases hlt : i < s.size
    · have hil : i < s.data.toList.length := by rw [size_len]; exact hlt
      by_cases h61 : s[i] = 61
      · have hb : ((s[i].toNat : Int) != 61) = false := by rw [h61]; rfl
        have hcut : cutEq s.data.toList = some (s.data.toList.take i, s.data.toList.drop (i + 1)) := cut_has hil h61 (fun j hj => HI.out j (by omega) hj)
        have heq : s.data.toList = s.data.toList.take i ++ 61 :: s.data.toList.drop (i + 1) := by
          have h1 := (List.take_append_drop i s.data.toList).symm
          rw [List.drop_eq_getElem_cons hil] at h1
          have h2 : s.data.toList[i] = 61 := h61
          rw [h2] at h1
          exact h1
        have hof := of_has hcut heq
        have e1 : (s.extract 0 i).data.toList = s.data.toList.take i := extract_front s i
        have e2 : (s.extract (i + 1) s.size).data.toList = s.data.toList.drop (i + 1) := extract_end s (i + 1)
        rw [← e1, ← e2] at hof
        have hnz : (s.extract 0 i).size ≤ 1000000000 := by rw [ByteArray.size_extract]; omega
        have hvz : (s.extract (i + 1) s.size).size ≤ 1000000000 := by rw [ByteArray.size_extract]; omega
        have hni : ((i : Int) == (s.size : Int)) = false := by rw [beq_eq_false_iff_ne]; omega
        have hi1 : (i : Int) + 1 ≤ (s.size : Int) := by omega
        clear hcut heq e1 e2 h61
        generalize hNN : s.extract 0 i = N at *
        generalize hVV : s.extract (i + 1) s.size = V at *
        obtain ⟨nb, hnb⟩ : ∃ b, tokB N.data.toList = b := ⟨_, rfl⟩
        have CT := Lib.hid (rtoken_of N nb hnb (by unfold maxLen; omega))
        have CU := Lib.hid (fun w => runquote_any V w hvz)
        have CL := Lib.hid (fun w => rlower_any N w (by unfold maxLen; omega))
        rw [hnb] at hof
        have HOF := Lib.hid hof
        clear hnb hof
        cases nb
        · have HN : Hid (ofres (ofF s.data.toList) = .tuple #[.agg #[.string ⟨#[]⟩, .string ⟨#[]⟩, .bool false], .bool false]) := Lib.hid (by rw [HOF.out]; rfl)
          obtain ⟨uv, ub, hu⟩ : ∃ a b, uqres (unqF V.data.toList) = .tuple #[a, .bool b] := by
            unfold uqres
            split
            · exact ⟨_, _, rfl⟩
            · exact ⟨_, _, rfl⟩
          rw [hu] at CU
          clear hu
          go_wp2_with fail
          refine (CU.out _).mono ?_
          rintro e w2 ⟨rfl, b2⟩
          go_wp2_with fail
          refine (CT.out _).mono ?_
          rintro e w3 ⟨rfl, rfl⟩
          have p3 := HP0.out.aft b2
          have x0 := p3.c0
          have x1 := p3.c1
          have x2 := p3.c2
          have x3 := p3.f0
          have x4 := p3.f1
          have x5 := p3.f2
          go_wp2_with fail
          refine bodyPost_ret (v := .tuple #[.agg #[.string ⟨#[]⟩, .string ⟨#[]⟩, .bool false], .bool false]) (by simp [results, Try.results46, go_sem, x0, x1, x2]) rfl ?_
          rw [HN.out]
          refine ⟨rfl, ?_⟩
          have hb : Below B w w2 := by have := HB0.out.trans b2; unfold Aft at this; rw [HB.out] at this; exact this
          unfold Aft
          rw [HB.out]
          exact ((hb.setCell (p := ⟨B, 0, none⟩) (Nat.le_refl _) _).setCell (p := ⟨B, 1, none⟩) (Nat.le_refl _) _).setCell (p := ⟨B, 2, none⟩) (Nat.le_refl _) _
        · cases hun : unqF V.data.toList with
          | none =>
            rw [hun] at CU
            have HN : Hid (ofres (ofF s.data.toList) = .tuple #[.agg #[.string ⟨#[]⟩, .string ⟨#[]⟩, .bool false], .bool false]) := Lib.hid (by rw [HOF.out, hun]; rfl)
            clear hun
            go_wp2_with fail
            refine (CU.out _).mono ?_
            unfold uqres
            rintro e w2 ⟨rfl, b2⟩
            go_wp2_with fail
            refine (CT.out _).mono ?_
            rintro e w3 ⟨rfl, rfl⟩
            have p3 := HP0.out.aft b2
            have x0 := p3.c0
            have x1 := p3.c1
            have x2 := p3.c2
            have x3 := p3.f0
            have x4 := p3.f1
            have x5 := p3.f2
            go_wp2_with fail
            refine bodyPost_ret (v := .tuple #[.agg #[.string ⟨#[]⟩, .string ⟨#[]⟩, .bool false], .bool false]) (by simp [results, Try.results46, go_sem, x0, x1, x2]) rfl ?_
            rw [HN.out]
            refine ⟨rfl, ?_⟩
            have hb : Below B w w2 := by have := HB0.out.trans b2; unfold Aft at this; rw [HB.out] at this; exact this
            unfold Aft
            rw [HB.out]
            exact ((hb.setCell (p := ⟨B, 0, none⟩) (Nat.le_refl _) _).setCell (p := ⟨B, 1, none⟩) (Nat.le_refl _) _).setCell (p := ⟨B, 2, none⟩) (Nat.le_refl _) _
          | some x =>
            rw [hun] at CU
            have HN : Hid (ofres (ofF s.data.toList) = .tuple #[.agg #[.string ⟨(lowerL N.data.toList).toArray⟩, .string ⟨x.toArray⟩, .bool true], .bool true]) := Lib.hid (by rw [HOF.out, hun]; rfl)
            clear hun
            go_wp2_with fail
            refine (CU.out _).mono ?_
            unfold uqres
            rintro e w2 ⟨rfl, b2⟩
            go_wp2_with fail
            refine (CT.out _).mono ?_
            rintro e w3 ⟨rfl, rfl⟩
            go_wp2_with fail
            refine (CL.out _).mono ?_
            rintro e w4 ⟨rfl, b4⟩
            have p3 := HP0.out.aft (b2.trans b4)
            have x0 := p3.c0
            have x1 := p3.c1
            have x2 := p3.c2
            have x3 := p3.f0
            have x4 := p3.f1
            have x5 := p3.f2
            go_wp2_with fail
            refine bodyPost_ret (v := .tuple #[.agg #[.string ⟨(lowerL N.data.toList).toArray⟩, .string ⟨x.toArray⟩, .bool true], .bool true]) (by simp [results, Try.results46, go_sem, x0, x1, x2]) rfl ?_
            rw [HN.out]
            refine ⟨rfl, ?_⟩
            have hb : Below B w w4 := by have := HB0.out.trans (b2.trans b4); unfold Aft at this; rw [HB.out] at this; exact this
            unfold Aft
            rw [HB.out]
            exact ((hb.setCell (p := ⟨B, 0, none⟩) (Nat.le_refl _) _).setCell (p := ⟨B, 1, none⟩) (Nat.le_refl _) _).setCell (p := ⟨B, 2, none⟩) (Nat.le_refl _) _
      · have hb : ((s[i].toNat : Int) != 61) = true := by
          rw [bne_iff_ne]
          intro e
          exact h61 (byte_eq.2 e)
        have HN : Hid (∀ j (h : j < s.data.toList.length), j < i + 1 → s.data.toList[j] ≠ 61) := Lib.hid (fun j h hj => by
          by_cases e : j = i
          · subst e; exact h61
          · exact HI.out j h (by omega))
        clear h61
        go_wp2_with fail
        go_round
        case rel => exact ⟨i + 1, by omega, by go_num, HN⟩
        case measure => simp [intOf] <;> omega
    · have hno : cutEq s.data.toList = none := cut_no (fun j h => HI.out j h (by rw [size_len] at h; omega))
      have hof := of_no hno
      have hni : ((i : Int) == (s.size : Int)) = true := by rw [beq_iff_eq]; omega
      obtain ⟨tb, htb⟩ : ∃ b, tokB s.data.toList = b := ⟨_, rfl⟩
      have CT := Lib.hid (rtoken_of s tb htb hm)
      have CL := Lib.hid (fun w => rlower_any s w hm)
      rw [htb] at hof
      have HOF := Lib.hid hof
      clear hno hof htb
      cases tb
      · have HN : Hid (ofres (ofF s.data.toList) = .tuple #[.agg #[.string ⟨#[]⟩, .string ⟨#[]⟩, .bool false], .bool false]) := Lib.hid (by rw [HOF.out]; rfl)
        go_wp2_with fail
        refine (CT.out _).mono ?_
        rintro e w2 ⟨rfl, rfl⟩
        have p3 := HP0.out.aft (Aft.refl _)
        have x0 := p3.c0
        have x1 := p3.c1
        have x2 := p3.c2
        have x3 := p3.f0
        have x4 := p3.f1
        have x5 := p3.f2
        go_wp2_with fail
        refine bodyPost_ret (v := .tuple #[.agg #[.string ⟨#[]⟩, .string ⟨#[]⟩, .bool false], .bool false]) (by simp [results, Try.results46, go_sem, x0, x1, x2]) rfl ?_
        rw [HN.out]
        refine ⟨rfl, ?_⟩
        have hb : Below B w W0 := by have := HB0.out.trans (Aft.refl _); unfold Aft at this; rw [HB.out] at this; exact this
        unfold Aft
        rw [HB.out]
        exact ((hb.setCell (p := ⟨B, 0, none⟩) (Nat.le_refl _) _).setCell (p := ⟨B, 1, none⟩) (Nat.le_refl _) _).setCell (p := ⟨B, 2, none⟩) (Nat.le_refl _) _
      · have HN : Hid (ofres (ofF s.data.toList) = .tuple #[.agg #[.string ⟨(lowerL s.data.toList).toArray⟩, .string ⟨#[]⟩, .bool false], .bool true]) := Lib.hid (by rw [HOF.out]; rfl)
        go_wp2_with fail
        refine (CT.out _).mono ?_
        rintro e w2 ⟨rfl, rfl⟩
        go_wp2_with fail
        refine (CL.out _).mono ?_
        rintro e w4 ⟨rfl, b4⟩
        have p3 := HP0.out.aft b4
        have x0 := p3.c0
        have x1 := p3.c1
        have x2 := p3.c2
        have x3 := p3.f0
        have x4 := p3.f1
        have x5 := p3.f2
        go_wp2_with fail
        refine bodyPost_ret (v := .tuple #[.agg #[.string ⟨(lowerL s.data.toList).toArray⟩, .string ⟨#[]⟩, .bool false], .bool true]) (by simp [results, Try.results46, go_sem, x0, x1, x2]) rfl ?_
        rw [HN.out]
        refine ⟨rfl, ?_⟩
        have hb : Below B w w4 := by have := HB0.out.trans b4; unfold Aft at this; rw [HB.out] at this; exact this
        unfold Aft
        rw [HB.out]
        exact ((hb.setCell (p := ⟨B, 0, none⟩) (Nat.le_refl _) _).setCell (p := ⟨B, 1, none⟩) (Nat.le_refl _) _).setCell (p := ⟨B, 2, none⟩) (Nat.le_refl _) _

end Go.Proofs.Ytodgnphmjagnkaa
