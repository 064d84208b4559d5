/-
  The walk of the reference's Of. The walk of the reference's Split. The walk of the reference's Pairs.
-/
import Derived.Test.YtdcdckjdloddiaaRTok4
import Derived.Test.YtdcdckjdloddiaaTokSplit
import Derived.Test.YtdcdckjdloddiaaTokLawP
import Derived.Test.YtdcdckjdloddiaaRAll
import Derived.Test.YtdcdckjdloddiaaTokPairs
namespace Go.Proofs.Ytdcdckjdloddiaa
open Go.RowKit

theorem cut_len {l n v : List UInt8} (h : cutEq l = some (n, v)) : n.length + 1 + v.length = l.length := by
  rcases cut_index l with ⟨_, h2⟩ | ⟨i, _, h2, h3⟩
  · rw [h2] at h; cases h
  · rw [h3] at h
    injection h with h
    injection h with e1 e2
    rw [← e1, ← e2, List.length_take, List.length_drop]
    omega
theorem cut_has : ∀ {l : List UInt8} {i : Nat} (hi : i < l.length), l[i] = 61 → (∀ j (h : j < i), l[j] ≠ 61) → cutEq l = some (l.take i, l.drop (i + 1))
  | c :: r, 0, _, h, _ => by
    have : c = 61 := h
    unfold cutEq
    rw [if_pos this]
    rfl
  | c :: r, i + 1, hi, h, hno => by
    have h0 : c ≠ 61 := hno 0 (by omega)
    unfold cutEq
    rw [if_neg h0, cut_has (l := r) (i := i) (by simpa using hi) h (fun j hj => hno (j + 1) (by omega))]
    rfl
theorem cut_no : ∀ {l : List UInt8}, (∀ j (h : j < l.length), l[j] ≠ 61) → cutEq l = none
  | [], _ => rfl
  | c :: r, hno => by
    have h0 : c ≠ 61 := hno 0 (by simp)
    unfold cutEq
    rw [if_neg h0, cut_no (l := r) (fun j hj => hno (j + 1) (by simpa using hj))]
    rfl
theorem of_no {l : List UInt8} (h : cutEq l = none) : ofF l = if tokB l then some ⟨lowerL l, [], false⟩ else none := by
  unfold ofF
  rw [h]
theorem of_has {l n v : List UInt8} (h : cutEq l = some (n, v)) (he : l = n ++ 61 :: v) : ofF l = if tokB n then (unqF v).map fun x => ⟨lowerL n, x, true⟩ else none := by
  have ht : tokB l = false := by rw [he]; exact tok_eq_no n v
  unfold ofF
  rw [ht, h]
  rfl

/-- Block g holds three cells that can be written. -/
structure P3X (w : World) (g : Nat) (a b c : Value) : Prop where
  c0 : w.cell? ⟨g, 0, none⟩ = some a
  c1 : w.cell? ⟨g, 1, none⟩ = some b
  c2 : w.cell? ⟨g, 2, none⟩ = some c
  f0 : w.frozen? ⟨g, 0, none⟩ = false
  f1 : w.frozen? ⟨g, 1, none⟩ = false
  f2 : w.frozen? ⟨g, 2, none⟩ = false
  lt : g < w.heap.size
theorem P3X.new (w : World) (a b c : Value) (t : TypeId) : P3X (w.alloc (.cells #[a, b, c] t)) w.heap.size a b c :=
  ⟨by simp [go_sem], by simp [go_sem], by simp [go_sem], by simp [go_sem], by simp [go_sem], by simp [go_sem], by simp⟩
theorem P3X.aft {w w' : World} {g : Nat} {a b c : Value} (h : P3X w g a b c) (ha : Aft w w') : P3X w' g a b c :=
  ⟨by rw [Below.cell ha.to (p := ⟨g, 0, none⟩) h.lt]; exact h.c0, by rw [Below.cell ha.to (p := ⟨g, 1, none⟩) h.lt]; exact h.c1, by rw [Below.cell ha.to (p := ⟨g, 2, none⟩) h.lt]; exact h.c2, by rw [Below.frozen ha.to (p := ⟨g, 0, none⟩) h.lt]; exact h.f0, by rw [Below.frozen ha.to (p := ⟨g, 1, none⟩) h.lt]; exact h.f1, by rw [Below.frozen ha.to (p := ⟨g, 2, none⟩) h.lt]; exact h.f2, Nat.lt_of_lt_of_le h.lt ha.size⟩

set_option maxHeartbeats 8000000 in
theorem rof_any (s : ByteArray) (w : World) (hs : s.size ≤ 1000000000) :
    Calls Try.prog 62 #[.string s] w fun e w' => e = .returned (ofres (ofF s.data.toList)) ∧ Aft w w' := by
  have hm : s.size ≤ maxLen := by unfold maxLen; omega
  obtain ⟨B, hB⟩ : ∃ B, w.heap.size = B := ⟨_, rfl⟩
  go_enter Try.func62, Try.ntmps62
  go_wp2_with fail
  have hp0 := P3X.new w (.string ⟨#[]⟩) (.string ⟨#[]⟩) (.bool false) 78
  have hb0 : Aft w (w.alloc (.cells #[.string ⟨#[]⟩, .string ⟨#[]⟩, .bool false] 78)) := (Aft.refl _).alloc _
  rw [hB] at hp0
  have HB := Lib.hid hB
  clear hB
  generalize w.alloc (.cells #[.string ⟨#[]⟩, .string ⟨#[]⟩, .bool false] 78) = W0 at *
  have HP0 := Lib.hid hp0
  have HB0 := Lib.hid hb0
  clear hp0 hb0
  go_loop [4] (fun vi => ∃ i : Nat, i ≤ s.size ∧ vi = .int .i64 (i : Int) ∧ Hid (∀ j (h : j < s.data.toList.length), j < i → s.data.toList[j] ≠ 61)) (fun vi => s.size - (intOf vi).toNat)
  case atStart => exact ⟨0, by omega, by go_num, Lib.hid (fun j _ h => by omega)⟩
  case round =>
    obtain ⟨i, hi, rfl, HI⟩ := hrel
    by_cases hlt : i < s.size
    · have hil : i < s.data.toList.length := by rw [size_len]; exact hlt
      by_cases h61 : s[i] = 61
      · have hb : ((s[i].toNat : Int) != 61) = false := by rw [h61]; rfl
        have hcut : cutEq s.data.toList = some (s.data.toList.take i, s.data.toList.drop (i + 1)) := cut_has hil h61 (fun j hj => HI.out j (by omega) hj)
        have heq : s.data.toList = s.data.toList.take i ++ 61 :: s.data.toList.drop (i + 1) := by
          have h1 := (List.take_append_drop i s.data.toList).symm
          rw [List.drop_eq_getElem_cons hil] at h1
          have h2 : s.data.toList[i] = 61 := h61
          rw [h2] at h1
          exact h1
        have hof := of_has hcut heq
        have e1 : (s.extract 0 i).data.toList = s.data.toList.take i := extract_front s i
        have e2 : (s.extract (i + 1) s.size).data.toList = s.data.toList.drop (i + 1) := extract_end s (i + 1)
        rw [← e1, ← e2] at hof
        have hnz : (s.extract 0 i).size ≤ 1000000000 := by rw [ByteArray.size_extract]; omega
        have hvz : (s.extract (i + 1) s.size).size ≤ 1000000000 := by rw [ByteArray.size_extract]; omega
        have hni : ((i : Int) == (s.size : Int)) = false := by rw [beq_eq_false_iff_ne]; omega
        have hi1 : (i : Int) + 1 ≤ (s.size : Int) := by omega
        clear hcut heq e1 e2 h61
        generalize hNN : s.extract 0 i = N at *
        generalize hVV : s.extract (i + 1) s.size = V at *
        obtain ⟨nb, hnb⟩ : ∃ b, tokB N.data.toList = b := ⟨_, rfl⟩
        have CT := Lib.hid (rtoken_of N nb hnb (by unfold maxLen; omega))
        have CU := Lib.hid (fun w => runquote_any V w hvz)
        have CL := Lib.hid (fun w => rlower_any N w (by unfold maxLen; omega))
        rw [hnb] at hof
        have HOF := Lib.hid hof
        clear hnb hof
        cases nb
        · have HN : Hid (ofres (ofF s.data.toList) = .tuple #[.agg #[.string ⟨#[]⟩, .string ⟨#[]⟩, .bool false], .bool false]) := Lib.hid (by rw [HOF.out]; rfl)
          obtain ⟨uv, ub, hu⟩ : ∃ a b, uqres (unqF V.data.toList) = .tuple #[a, .bool b] := by
            unfold uqres
            split
            · exact ⟨_, _, rfl⟩
            · exact ⟨_, _, rfl⟩
          rw [hu] at CU
          clear hu
          go_wp2_with fail
          refine (CU.out _).mono ?_
          rintro e w2 ⟨rfl, b2⟩
          go_wp2_with fail
          refine (CT.out _).mono ?_
          rintro e w3 ⟨rfl, rfl⟩
          have p3 := HP0.out.aft b2
          have x0 := p3.c0
          have x1 := p3.c1
          have x2 := p3.c2
          have x3 := p3.f0
          have x4 := p3.f1
          have x5 := p3.f2
          go_wp2_with fail
          refine bodyPost_ret (v := .tuple #[.agg #[.string ⟨#[]⟩, .string ⟨#[]⟩, .bool false], .bool false]) (by simp [results, Try.results62, go_sem, x0, x1, x2]) rfl ?_
          rw [HN.out]
          refine ⟨rfl, ?_⟩
          have hb : Below B w w2 := by have := HB0.out.trans b2; unfold Aft at this; rw [HB.out] at this; exact this
          unfold Aft
          rw [HB.out]
          exact ((hb.setCell (p := ⟨B, 0, none⟩) (Nat.le_refl _) _).setCell (p := ⟨B, 1, none⟩) (Nat.le_refl _) _).setCell (p := ⟨B, 2, none⟩) (Nat.le_refl _) _
        · cases hun : unqF V.data.toList with
          | none =>
            rw [hun] at CU
            have HN : Hid (ofres (ofF s.data.toList) = .tuple #[.agg #[.string ⟨#[]⟩, .string ⟨#[]⟩, .bool false], .bool false]) := Lib.hid (by rw [HOF.out, hun]; rfl)
            clear hun
            go_wp2_with fail
            refine (CU.out _).mono ?_
            unfold uqres
            rintro e w2 ⟨rfl, b2⟩
            go_wp2_with fail
            refine (CT.out _).mono ?_
            rintro e w3 ⟨rfl, rfl⟩
            have p3 := HP0.out.aft b2
            have x0 := p3.c0
            have x1 := p3.c1
            have x2 := p3.c2
            have x3 := p3.f0
            have x4 := p3.f1
            have x5 := p3.f2
            go_wp2_with fail
            refine bodyPost_ret (v := .tuple #[.agg #[.string ⟨#[]⟩, .string ⟨#[]⟩, .bool false], .bool false]) (by simp [results, Try.results62, go_sem, x0, x1, x2]) rfl ?_
            rw [HN.out]
            refine ⟨rfl, ?_⟩
            have hb : Below B w w2 := by have := HB0.out.trans b2; unfold Aft at this; rw [HB.out] at this; exact this
            unfold Aft
            rw [HB.out]
            exact ((hb.setCell (p := ⟨B, 0, none⟩) (Nat.le_refl _) _).setCell (p := ⟨B, 1, none⟩) (Nat.le_refl _) _).setCell (p := ⟨B, 2, none⟩) (Nat.le_refl _) _
          | some x =>
            rw [hun] at CU
            have HN : Hid (ofres (ofF s.data.toList) = .tuple #[.agg #[.string ⟨(lowerL N.data.toList).toArray⟩, .string ⟨x.toArray⟩, .bool true], .bool true]) := Lib.hid (by rw [HOF.out, hun]; rfl)
            clear hun
            go_wp2_with fail
            refine (CU.out _).mono ?_
            unfold uqres
            rintro e w2 ⟨rfl, b2⟩
            go_wp2_with fail
            refine (CT.out _).mono ?_
            rintro e w3 ⟨rfl, rfl⟩
            go_wp2_with fail
            refine (CL.out _).mono ?_
            rintro e w4 ⟨rfl, b4⟩
            have p3 := HP0.out.aft (b2.trans b4)
            have x0 := p3.c0
            have x1 := p3.c1
            have x2 := p3.c2
            have x3 := p3.f0
            have x4 := p3.f1
            have x5 := p3.f2
            go_wp2_with fail
            refine bodyPost_ret (v := .tuple #[.agg #[.string ⟨(lowerL N.data.toList).toArray⟩, .string ⟨x.toArray⟩, .bool true], .bool true]) (by simp [results, Try.results62, go_sem, x0, x1, x2]) rfl ?_
            rw [HN.out]
            refine ⟨rfl, ?_⟩
            have hb : Below B w w4 := by have := HB0.out.trans (b2.trans b4); unfold Aft at this; rw [HB.out] at this; exact this
            unfold Aft
            rw [HB.out]
            exact ((hb.setCell (p := ⟨B, 0, none⟩) (Nat.le_refl _) _).setCell (p := ⟨B, 1, none⟩) (Nat.le_refl _) _).setCell (p := ⟨B, 2, none⟩) (Nat.le_refl _) _
      · have hb : ((s[i].toNat : Int) != 61) = true := by
          rw [bne_iff_ne]
          intro e
          exact h61 (byte_eq.2 e)
        have HN : Hid (∀ j (h : j < s.data.toList.length), j < i + 1 → s.data.toList[j] ≠ 61) := Lib.hid (fun j h hj => by
          by_cases e : j = i
          · subst e; exact h61
          · exact HI.out j h (by omega))
        clear h61
        go_wp2_with fail
        go_round
        case rel => exact ⟨i + 1, by omega, by go_num, HN⟩
        case measure => simp [intOf] <;> omega
    · have hno : cutEq s.data.toList = none := cut_no (fun j h => HI.out j h (by rw [size_len] at h; omega))
      have hof := of_no hno
      have hni : ((i : Int) == (s.size : Int)) = true := by rw [beq_iff_eq]; omega
      obtain ⟨tb, htb⟩ : ∃ b, tokB s.data.toList = b := ⟨_, rfl⟩
      have CT := Lib.hid (rtoken_of s tb htb hm)
      have CL := Lib.hid (fun w => rlower_any s w hm)
      rw [htb] at hof
      have HOF := Lib.hid hof
      clear hno hof htb
      cases tb
      · have HN : Hid (ofres (ofF s.data.toList) = .tuple #[.agg #[.string ⟨#[]⟩, .string ⟨#[]⟩, .bool false], .bool false]) := Lib.hid (by rw [HOF.out]; rfl)
        go_wp2_with fail
        refine (CT.out _).mono ?_
        rintro e w2 ⟨rfl, rfl⟩
        have p3 := HP0.out.aft (Aft.refl _)
        have x0 := p3.c0
        have x1 := p3.c1
        have x2 := p3.c2
        have x3 := p3.f0
        have x4 := p3.f1
        have x5 := p3.f2
        go_wp2_with fail
        refine bodyPost_ret (v := .tuple #[.agg #[.string ⟨#[]⟩, .string ⟨#[]⟩, .bool false], .bool false]) (by simp [results, Try.results62, go_sem, x0, x1, x2]) rfl ?_
        rw [HN.out]
        refine ⟨rfl, ?_⟩
        have hb : Below B w W0 := by have := HB0.out.trans (Aft.refl _); unfold Aft at this; rw [HB.out] at this; exact this
        unfold Aft
        rw [HB.out]
        exact ((hb.setCell (p := ⟨B, 0, none⟩) (Nat.le_refl _) _).setCell (p := ⟨B, 1, none⟩) (Nat.le_refl _) _).setCell (p := ⟨B, 2, none⟩) (Nat.le_refl _) _
      · have HN : Hid (ofres (ofF s.data.toList) = .tuple #[.agg #[.string ⟨(lowerL s.data.toList).toArray⟩, .string ⟨#[]⟩, .bool false], .bool true]) := Lib.hid (by rw [HOF.out]; rfl)
        go_wp2_with fail
        refine (CT.out _).mono ?_
        rintro e w2 ⟨rfl, rfl⟩
        go_wp2_with fail
        refine (CL.out _).mono ?_
        rintro e w4 ⟨rfl, b4⟩
        have p3 := HP0.out.aft b4
        have x0 := p3.c0
        have x1 := p3.c1
        have x2 := p3.c2
        have x3 := p3.f0
        have x4 := p3.f1
        have x5 := p3.f2
        go_wp2_with fail
        refine bodyPost_ret (v := .tuple #[.agg #[.string ⟨(lowerL s.data.toList).toArray⟩, .string ⟨#[]⟩, .bool false], .bool true]) (by simp [results, Try.results62, go_sem, x0, x1, x2]) rfl ?_
        rw [HN.out]
        refine ⟨rfl, ?_⟩
        have hb : Below B w w4 := by have := HB0.out.trans b4; unfold Aft at this; rw [HB.out] at this; exact this
        unfold Aft
        rw [HB.out]
        exact ((hb.setCell (p := ⟨B, 0, none⟩) (Nat.le_refl _) _).setCell (p := ⟨B, 1, none⟩) (Nat.le_refl _) _).setCell (p := ⟨B, 2, none⟩) (Nat.le_refl _) _

end Go.Proofs.Ytdcdckjdloddiaa
namespace Go.Proofs.Ytdcdckjdloddiaa
open Go.RowKit

/-- Inside a quoted text. -/
def inT (cur r : List UInt8) : Option (List (List UInt8)) := match qend r with | none => none | some n => splT (cur ++ r.take n) (r.drop n)
theorem splT_in (cur r : List UInt8) : splT cur (34 :: r) = inT (cur ++ [34]) r := by
  rw [splT_quote]
  unfold inT
  cases qend r with
  | none => rfl
  | some n => simp
theorem inT_nil (cur : List UInt8) : inT cur [] = none := rfl
theorem inT_last (cur : List UInt8) : inT cur [92] = none := rfl
theorem inT_esc (cur r : List UInt8) (d : UInt8) : inT cur (92 :: d :: r) = inT (cur ++ [92, d]) r := by
  unfold inT
  conv => lhs; unfold qend
  rw [if_pos rfl]
  simp only
  cases qend r with
  | none => rfl
  | some n => simp
theorem inT_end (cur r : List UInt8) : inT cur (34 :: r) = splT (cur ++ [34]) r := by
  unfold inT
  conv => lhs; unfold qend
  rw [if_neg (by decide), if_pos rfl]
  rfl
theorem inT_other (cur r : List UInt8) (c : UInt8) (h1 : c ≠ 92) (h2 : c ≠ 34) : inT cur (c :: r) = inT (cur ++ [c]) r := by
  unfold inT
  conv => lhs; unfold qend
  rw [if_neg h1, if_neg h2]
  cases qend r with
  | none => rfl
  | some n => simp
/-- Where the walk stands. -/
def SpR (S : List UInt8) (n i a : Nat) (l : List (List UInt8)) (b : Bool) : Prop :=
  if i ≤ n then splF S = ((if b then inT else splT) ((S.drop a).take (i - a)) (S.drop i)).map (l ++ ·) else splF S = (if b then none else some l)
theorem SpR.mk1 {S : List UInt8} {n i a : Nat} {l : List (List UInt8)} {b : Bool} (hi : i ≤ n) (h : splF S = ((if b then inT else splT) ((S.drop a).take (i - a)) (S.drop i)).map (l ++ ·)) : SpR S n i a l b := by
  unfold SpR
  rw [if_pos hi]
  exact h
theorem SpR.mk2 {S : List UInt8} {n i a : Nat} {l : List (List UInt8)} {b : Bool} (hi : ¬ i ≤ n) (h : splF S = (if b then none else some l)) : SpR S n i a l b := by
  unfold SpR
  rw [if_neg hi]
  exact h
theorem SpR.get1 {S : List UInt8} {n i a : Nat} {l : List (List UInt8)} {b : Bool} (h : SpR S n i a l b) (hi : i ≤ n) : splF S = ((if b then inT else splT) ((S.drop a).take (i - a)) (S.drop i)).map (l ++ ·) := by
  unfold SpR at h
  rwa [if_pos hi] at h
theorem SpR.get2 {S : List UInt8} {n i a : Nat} {l : List (List UInt8)} {b : Bool} (h : SpR S n i a l b) (hi : ¬ i ≤ n) : splF S = (if b then none else some l) := by
  unfold SpR at h
  rwa [if_neg hi] at h
theorem map_app (x y : List (List UInt8)) (r : Option (List (List UInt8))) : (r.map (y ++ ·)).map (x ++ ·) = r.map ((x ++ y) ++ ·) := by
  rw [Option.map_map]
  congr 1
  funext z
  simp
theorem ife_tt {α : Type} (x y : α) : (if (true : Bool) then x else y) = x := rfl
theorem ife_ff {α : Type} (x y : α) : (if (false : Bool) then x else y) = y := rfl

theorem rtrim_eq (s : ByteArray) (w : World) (hs : s.size ≤ maxLen) :
    Calls Try.prog 52 #[.string s] w fun e w' => e = .returned (.string ⟨(trimL s.data.toList).toArray⟩) ∧ w = w' :=
  (rtrim_same s w hs).mono fun _ _ ⟨he, hw⟩ => ⟨he, hw.symm⟩
set_option maxHeartbeats 8000000 in
theorem rsplit_any (s : ByteArray) (w : World) (hs : s.size ≤ 1000000000) :
    Calls Try.prog 29 #[.string s] w fun e w' => SplitPost (splF s.data.toList) w.heap.size e w' ∧ Aft w w' := by
  obtain ⟨B, hB⟩ : ∃ B, w.heap.size = B := ⟨_, rfl⟩
  have HB := Lib.hid hB
  have hb0 : Below B w w := Below.refl _ _
  clear hB
  go_enter Try.func29, Try.ntmps29
  go_wp2_with fail
  go_loopw [4, 5, 6, 7, 8] (fun vl va vb vi _ wr => ∃ (i a : Nat) (b : Bool) (l : List (List UInt8)), i ≤ s.size + 1 ∧ vi = .int .i64 (i : Int) ∧ vb = .bool b ∧ (a ≤ i ∧ va = .int .i64 (a : Int)) ∧ Hid (OwnS wr B vl l) ∧ l.length ≤ i ∧ Hid (Below B w wr) ∧ Hid (SpR s.data.toList s.size i a l b)) (fun _ _ _ vi _ _ => s.size + 2 - (intOf vi).toNat)
  case atStart => exact ⟨0, 0, false, [], by omega, by go_num, rfl, ⟨by omega, by go_num⟩, Lib.hid (OwnS.nil _ _), by simp, Lib.hid hb0, Lib.hid (SpR.mk1 (by omega) (by rw [ife_ff, splF_T]; simp))⟩
  case round =>
    clear hb0
    obtain ⟨i, a, b, l, hi, rfl, rfl, ⟨ha, rfl⟩, HO, hll, HBE, HR⟩ := hrel
    have hbs : B ≤ wr.heap.size := by rw [← HB.out]; exact HBE.out.size
    by_cases hlt : i < s.size
    · have hil : i < s.data.toList.length := by rw [size_len]; exact hlt
      have hg := HR.out.get1 (by omega)
      have hdrop := List.drop_eq_getElem_cons hil
      have hpiece := take_piece ha hil
      rw [hdrop] at hg
      have hcc : s.data.toList[i] = s[i] := rfl
      rw [hcc] at hg hpiece
      have hle : (i : Int) ≤ (s.size : Int) := by omega
      have hnl : ((i : Int) == (s.size : Int)) = false := by rw [beq_eq_false_iff_ne]; omega
      clear HR hdrop
      cases b
      · rw [ife_ff] at hg
        by_cases h44 : s[i] = 44
        · have hb1 : ((s[i].toNat : Int) == 44) = true := by rw [h44]; rfl
          have HN : Hid (splF s.data.toList = (splT ((s.data.toList.drop (i + 1)).take (i + 1 - (i + 1))) (s.data.toList.drop (i + 1))).map ((l ++ elemL ((s.data.toList.drop a).take (i - a))) ++ ·)) := Lib.hid (by rw [hg, h44, splT_comma, map_app, Nat.sub_self, List.take_zero])
          clear hg hpiece h44
          obtain ⟨T, hT⟩ : ∃ T, trimL ((s.data.toList.drop a).take (i - a)) = T := ⟨_, rfl⟩
          have hel : elemL ((s.data.toList.drop a).take (i - a)) = if T.isEmpty then [] else [T] := by unfold elemL; rw [hT]
          have CT := Lib.hid (fun w => rtrim_eq (s.extract a (i)) w (by rw [ByteArray.size_extract]; unfold maxLen; omega))
          rw [Lib.extract_data, hT] at CT
          rw [hel] at HN
          clear hT hel
          cases hTe : T.isEmpty
          · rw [hTe, if_neg (by decide)] at HN
            go_wp2_with (first | (go_at_call 52; refine (CT.out _).mono ?_; rintro e w1 ⟨rfl, rfl⟩) | (at_builtin; refine wpList_pushS rfl (.tmp 53) (.tmp 55) rfl B _ l rfl (HO.out.aft ((Aft.refl _).alloc _)) ⟨wr.heap.size, 0, none⟩ 1 T rfl (cell_new1 _ _ _) (by omega) (le_alloc hbs _) ?_; intro v6 w6 o6 g6))
            go_roundw
            case rel => exact ⟨i + 1, i + 1, false, l ++ [T], by omega, by go_num, rfl, ⟨by omega, by go_num⟩, Lib.hid o6, by simp; omega, Lib.hid (pushS_below (HBE.out.alloc hbs _) (HO.out.aft ((Aft.refl _).alloc _)) g6 (Nat.le_refl _) (le_alloc hbs _)), Lib.hid (SpR.mk1 (by omega) (by rw [ife_ff]; exact HN.out))⟩
            case measure => simp [intOf] <;> omega
          · rw [hTe, if_pos rfl, List.append_nil] at HN
            go_wp2_with (go_at_call 52; refine (CT.out _).mono ?_; rintro e w1 ⟨rfl, rfl⟩)
            go_roundw
            case rel => exact ⟨i + 1, i + 1, false, l, by omega, by go_num, rfl, ⟨by omega, by go_num⟩, HO, by omega, HBE, Lib.hid (SpR.mk1 (by omega) (by rw [ife_ff]; exact HN.out))⟩
            case measure => simp [intOf] <;> omega
        · have hb1 : ((s[i].toNat : Int) == 44) = false := by
            rw [beq_eq_false_iff_ne]
            intro e
            exact h44 (byte_eq.2 e)
          by_cases h34 : s[i] = 34
          · have hb2 : ((s[i].toNat : Int) == 34) = true := by rw [h34]; rfl
            have HN : Hid (SpR s.data.toList s.size (i + 1) a l true) := Lib.hid (SpR.mk1 (by omega) (by rw [ife_tt, hg, h34, splT_in, hpiece, h34]))
            clear hg hpiece h44 h34
            go_wp2_with fail
            go_roundw
            case rel => exact ⟨i + 1, a, true, l, by omega, by go_num, rfl, ⟨by omega, rfl⟩, HO, by omega, HBE, HN⟩
            case measure => simp [intOf] <;> omega
          · have hb2 : ((s[i].toNat : Int) == 34) = false := by
              rw [beq_eq_false_iff_ne]
              intro e
              exact h34 (byte_eq.2 e)
            have HN : Hid (SpR s.data.toList s.size (i + 1) a l false) := Lib.hid (SpR.mk1 (by omega) (by rw [ife_ff, hg, splT_other _ _ _ h44 h34, hpiece]))
            clear hg hpiece h44 h34
            go_wp2_with fail
            go_roundw
            case rel => exact ⟨i + 1, a, false, l, by omega, by go_num, rfl, ⟨by omega, rfl⟩, HO, by omega, HBE, HN⟩
            case measure => simp [intOf] <;> omega
      · rw [ife_tt] at hg
        by_cases h92 : s[i] = 92
        · have hb1 : ((s[i].toNat : Int) == 92) = true := by rw [h92]; rfl
          by_cases hlast : i + 1 = s.size
          · have HN : Hid (splF s.data.toList = none) := Lib.hid (by rw [hg, h92, (List.drop_eq_nil_of_le (by rw [size_len]; omega) : s.data.toList.drop (i + 1) = []), inT_last]; rfl)
            have hge : (s.size : Int) ≤ (i : Int) + 1 := by omega
            clear hg hpiece h92
            go_wp2_with fail
            go_ret2
            rw [HN.out, HB.out]
            exact ⟨rfl, by unfold Aft; rw [HB.out]; exact HBE.out⟩
          · have hil2 : i + 1 < s.data.toList.length := by rw [size_len]; omega
            have hd2 := List.drop_eq_getElem_cons hil2
            have hp2 := take_piece (l := s.data.toList) (a := a) (i := i + 1) (by omega) hil2
            have HN : Hid (SpR s.data.toList s.size (i + 2) a l true) := Lib.hid (SpR.mk1 (by omega) (by
              rw [ife_tt, hg, h92, hd2, inT_esc, show i + 2 = i + 1 + 1 by omega, hp2, hpiece, h92]
              simp))
            have hi1 : (i : Int) + 1 < (s.size : Int) := by omega
            clear hg hpiece h92 hd2 hp2
            go_wp2_with fail
            go_roundw
            case rel => exact ⟨i + 2, a, true, l, by omega, by go_num, rfl, ⟨by omega, rfl⟩, HO, by omega, HBE, HN⟩
            case measure => simp [intOf] <;> omega
        · have hb1 : ((s[i].toNat : Int) == 92) = false := by
            rw [beq_eq_false_iff_ne]
            intro e
            exact h92 (byte_eq.2 e)
          by_cases h34 : s[i] = 34
          · have hb2 : ((s[i].toNat : Int) == 34) = true := by rw [h34]; rfl
            have HN : Hid (SpR s.data.toList s.size (i + 1) a l false) := Lib.hid (SpR.mk1 (by omega) (by rw [ife_ff, hg, h34, inT_end, hpiece, h34]))
            clear hg hpiece h92 h34
            go_wp2_with fail
            go_roundw
            case rel => exact ⟨i + 1, a, false, l, by omega, by go_num, rfl, ⟨by omega, rfl⟩, HO, by omega, HBE, HN⟩
            case measure => simp [intOf] <;> omega
          · have hb2 : ((s[i].toNat : Int) == 34) = false := by
              rw [beq_eq_false_iff_ne]
              intro e
              exact h34 (byte_eq.2 e)
            have HN : Hid (SpR s.data.toList s.size (i + 1) a l true) := Lib.hid (SpR.mk1 (by omega) (by rw [ife_tt, hg, inT_other _ _ _ h92 h34, hpiece]))
            clear hg hpiece h92 h34
            go_wp2_with fail
            go_roundw
            case rel => exact ⟨i + 1, a, true, l, by omega, by go_num, rfl, ⟨by omega, rfl⟩, HO, by omega, HBE, HN⟩
            case measure => simp [intOf] <;> omega
    · by_cases hend : i = s.size
      · obtain rfl : s.size = i := hend.symm
        have hg := HR.out.get1 (Nat.le_refl _)
        rw [List.drop_eq_nil_of_le (by rw [size_len]; exact Nat.le_refl _ : s.data.toList.length ≤ s.size)] at hg
        have hnl : ((s.size : Int) == (s.size : Int)) = true := beq_self_eq_true _
        clear HR
        cases b
        · have HN : Hid (splF s.data.toList = some (l ++ elemL ((s.data.toList.drop a).take (s.size - a)))) := Lib.hid (by rw [hg, ife_ff, splT_nil]; rfl)
          clear hg
          obtain ⟨T, hT⟩ : ∃ T, trimL ((s.data.toList.drop a).take (s.size - a)) = T := ⟨_, rfl⟩
          have hel : elemL ((s.data.toList.drop a).take (s.size - a)) = if T.isEmpty then [] else [T] := by unfold elemL; rw [hT]
          have CT := Lib.hid (fun w => rtrim_eq (s.extract a (s.size)) w (by rw [ByteArray.size_extract]; unfold maxLen; omega))
          rw [Lib.extract_data, hT] at CT
          rw [hel] at HN
          clear hT hel
          cases hTe : T.isEmpty
          · rw [hTe, if_neg (by decide)] at HN
            go_wp2_with (first | (go_at_call 52; refine (CT.out _).mono ?_; rintro e w1 ⟨rfl, rfl⟩) | (at_builtin; refine wpList_pushS rfl (.tmp 53) (.tmp 55) rfl B _ l rfl (HO.out.aft ((Aft.refl _).alloc _)) ⟨wr.heap.size, 0, none⟩ 1 T rfl (cell_new1 _ _ _) (by omega) (le_alloc hbs _) ?_; intro v6 w6 o6 g6))
            go_roundw
            case rel => exact ⟨s.size + 1, s.size + 1, false, l ++ [T], by omega, by go_num, rfl, ⟨by omega, by go_num⟩, Lib.hid o6, by simp; omega, Lib.hid (pushS_below (HBE.out.alloc hbs _) (HO.out.aft ((Aft.refl _).alloc _)) g6 (Nat.le_refl _) (le_alloc hbs _)), Lib.hid (SpR.mk2 (by omega) (by rw [ife_ff]; exact HN.out))⟩
            case measure => simp [intOf] <;> omega
          · rw [hTe, if_pos rfl, List.append_nil] at HN
            go_wp2_with (go_at_call 52; refine (CT.out _).mono ?_; rintro e w1 ⟨rfl, rfl⟩)
            go_roundw
            case rel => exact ⟨s.size + 1, s.size + 1, false, l, by omega, by go_num, rfl, ⟨by omega, by go_num⟩, HO, by omega, HBE, Lib.hid (SpR.mk2 (by omega) (by rw [ife_ff]; exact HN.out))⟩
            case measure => simp [intOf] <;> omega
        · have HN2 : Hid (splF s.data.toList = none) := Lib.hid (by rw [hg, ife_tt, inT_nil]; rfl)
          have HN : Hid (l ++ elemL ((s.data.toList.drop a).take (s.size - a)) = l ++ elemL ((s.data.toList.drop a).take (s.size - a))) := Lib.hid rfl
          clear hg
          obtain ⟨T, hT⟩ : ∃ T, trimL ((s.data.toList.drop a).take (s.size - a)) = T := ⟨_, rfl⟩
          have hel : elemL ((s.data.toList.drop a).take (s.size - a)) = if T.isEmpty then [] else [T] := by unfold elemL; rw [hT]
          have CT := Lib.hid (fun w => rtrim_eq (s.extract a (s.size)) w (by rw [ByteArray.size_extract]; unfold maxLen; omega))
          rw [Lib.extract_data, hT] at CT
          rw [hel] at HN
          clear hT hel
          cases hTe : T.isEmpty
          · rw [hTe, if_neg (by decide)] at HN
            go_wp2_with (first | (go_at_call 52; refine (CT.out _).mono ?_; rintro e w1 ⟨rfl, rfl⟩) | (at_builtin; refine wpList_pushS rfl (.tmp 53) (.tmp 55) rfl B _ l rfl (HO.out.aft ((Aft.refl _).alloc _)) ⟨wr.heap.size, 0, none⟩ 1 T rfl (cell_new1 _ _ _) (by omega) (le_alloc hbs _) ?_; intro v6 w6 o6 g6))
            go_roundw
            case rel => exact ⟨s.size + 1, s.size + 1, true, l ++ [T], by omega, by go_num, rfl, ⟨by omega, by go_num⟩, Lib.hid o6, by simp; omega, Lib.hid (pushS_below (HBE.out.alloc hbs _) (HO.out.aft ((Aft.refl _).alloc _)) g6 (Nat.le_refl _) (le_alloc hbs _)), Lib.hid (SpR.mk2 (by omega) (by rw [ife_tt]; exact HN2.out))⟩
            case measure => simp [intOf] <;> omega
          · rw [hTe, if_pos rfl, List.append_nil] at HN
            go_wp2_with (go_at_call 52; refine (CT.out _).mono ?_; rintro e w1 ⟨rfl, rfl⟩)
            go_roundw
            case rel => exact ⟨s.size + 1, s.size + 1, true, l, by omega, by go_num, rfl, ⟨by omega, by go_num⟩, HO, by omega, HBE, Lib.hid (SpR.mk2 (by omega) (by rw [ife_tt]; exact HN2.out))⟩
            case measure => simp [intOf] <;> omega
      · have hgt : (s.size : Int) < (i : Int) := by omega
        have hg := HR.out.get2 (by omega)
        clear HR
        cases b
        · have HN : Hid (splF s.data.toList = some l) := Lib.hid hg
          clear hg
          go_wp2_with fail
          go_ret2
          rw [HN.out, HB.out]
          exact ⟨⟨_, rfl, HO.out⟩, by unfold Aft; rw [HB.out]; exact HBE.out⟩
        · have HN : Hid (splF s.data.toList = none) := Lib.hid hg
          clear hg
          go_wp2_with fail
          go_ret2
          rw [HN.out, HB.out]
          exact ⟨rfl, by unfold Aft; rw [HB.out]; exact HBE.out⟩

end Go.Proofs.Ytdcdckjdloddiaa
namespace Go.Proofs.Ytdcdckjdloddiaa
open Go.RowKit

def OwnQ (w : World) (base : Nat) (v : Value) (l : List PairL) : Prop := w.ownsRow base 78 3 v l.length (pv l)
theorem infoQ : (Try.prog.info? 78).map (fun i => (i.zero, i.size, i.bytes)) = some (some (.agg #[.string ⟨#[]⟩, .string ⟨#[]⟩, .bool false]), 3, 40) := by kernel_rfl
theorem OwnQ.nil (w : World) (base : Nat) : OwnQ w base (.slice none 0 0) [] := World.ownsRow_nil _ _ _ _
theorem OwnQ.lt {w : World} {base : Nat} {v : Value} {l : List PairL} (h : OwnQ w base v l) : ∀ k, v.ownBlock = some k → base ≤ k ∧ k < w.heap.size := World.ownsRow.lt h
theorem OwnQ.aft {w w' : World} {base : Nat} {v : Value} {l : List PairL} (h : OwnQ w base v l) (ha : Aft w w') : OwnQ w' base v l := by
  obtain ⟨h1, h2⟩ := h
  refine ⟨h1, ?_⟩
  rcases h2 with ⟨a, b⟩ | ⟨g, cap, cur, a, b, c, d⟩
  · exact Or.inl ⟨a, b⟩
  · refine Or.inr ⟨g, cap, cur, a, b, ?_, d⟩
    rw [Below.block ha g (by rcases Nat.lt_or_ge g w.heap.size with h | h; exact h; rw [Array.getElem?_eq_none h] at c; cases c)]
    exact c
theorem OwnQ.base {w : World} {base base' : Nat} {v : Value} {l : List PairL} (h : OwnQ w base v l) (hb : base' ≤ base) : OwnQ w base' v l := by
  obtain ⟨h1, h2⟩ := h
  refine ⟨h1, ?_⟩
  rcases h2 with h2 | ⟨g, cap, cur, a, b, c⟩
  · exact Or.inl h2
  · exact Or.inr ⟨g, cap, cur, a, by omega, c⟩
theorem OwnQ.slice {w : World} {base : Nat} {v : Value} {l : List PairL} (h : OwnQ w base v l) : ∃ a k, v = .slice a l.length k ∧ l.length ≤ k ∧ k ≤ maxLen := by
  rcases h.2 with ⟨e, h⟩ | ⟨g, cap, cur, e, _, _, h1, h2, _⟩
  · exact ⟨none, 0, by rw [e, h], by omega, Nat.zero_le _⟩
  · exact ⟨_, _, e, h1, h2⟩
theorem OwnQ.form {w : World} {base : Nat} {v : Value} {l : List PairL} (h : OwnQ w base v l) : ∃ (a : Option Addr) (g k : Nat), v = .slice a l.length k ∧ l.length ≤ k ∧ k ≤ maxLen ∧ (l ≠ [] → a = some ⟨g, 0, none⟩ ∧ g < w.heap.size) ∧ ∀ i (h : i < l.length), w.cell? ⟨g, i * 3, none⟩ = some (strV l[i].name) ∧ w.cell? ⟨g, i * 3 + 1, none⟩ = some (strV l[i].value) ∧ w.cell? ⟨g, i * 3 + 2, none⟩ = some (.bool l[i].has) := by
  rcases id h.2 with ⟨e, h0⟩ | ⟨g, cap, cur, e, _, _, h1, h2, _⟩
  · have : l = [] := List.eq_nil_of_length_eq_zero h0
    subst this
    exact ⟨none, 0, 0, by rw [e]; rfl, by simp, Nat.zero_le _, fun h => absurd rfl h, fun i hi => by simp at hi⟩
  · refine ⟨_, g, cap, e, h1, h2, fun _ => ⟨rfl, (h.lt g (by rw [e]; rfl)).2⟩, fun i hi => ?_⟩
    subst e
    have hx := fun j (hj : j < 3) => World.ownsRow.cellAt h (i * 3 + j) (by omega)
    refine ⟨?_, ?_, ?_⟩
    · have := hx 0 (by omega)
      rw [Nat.add_zero] at this
      rw [this]
      exact pv_get (j := 0) hi (by omega)
    · rw [hx 1 (by omega)]
      exact pv_get hi (by omega)
    · rw [hx 2 (by omega)]
      exact pv_get hi (by omega)
theorem wpList_pushQ {w : World} {ops : Array Oper} {rest : List Oper} {o : Oper} {a : Act} {Q : Exit → Act → World → Prop} (hgd : o.guard = none) (s x : Operand)
    (ho : o.op = .call { callee := .builtin .append, args := #[s, x], argTypes := #[75, 75] })
    (base : Nat) (v : Value) (l : List PairL) (hs : a.eval s = v) (hown : OwnQ w base v l) (g : Nat) (c : Nat) (n : PairL) (hx : a.eval x = .slice (some ⟨g, 0, none⟩) 1 c) (h0 : w.cell? ⟨g, 0, none⟩ = some (strV n.name)) (h1 : w.cell? ⟨g, 1, none⟩ = some (strV n.value)) (h2 : w.cell? ⟨g, 2, none⟩ = some (.bool n.has))
    (hl : l.length + 1 ≤ 1000000000000) (hbase : base ≤ w.heap.size)
    (h : ∀ v' w', OwnQ w' base v' (l ++ [n]) → w.grownBy w' v.ownBlock → wpList Try.prog ops Q rest (a.put o.dst v') w') : wpList Try.prog ops Q (o :: rest) a w := by
  obtain ⟨i0, hi, hz0, hz1, hz2⟩ := info_parts infoQ
  refine wpList_append_own w hgd s x 75 ho base 78 i0 _ 3 40 Try.underlying75 hi hz0 hz1 hz2 rfl (by decide) v l.length (pv l) hs hown ⟨g, 0, none⟩ 1 c (pairC n) hx rfl ?_ ?_ ?_ ?_ hbase ?_
  · intro j u hj
    match j, hj with
    | 0, hj => simp [pairC] at hj; subst hj; exact h0
    | 1, hj => simp [pairC] at hj; subst hj; exact h1
    | 2, hj => simp [pairC] at hj; subst hj; exact h2
    | j + 3, hj => simp [pairC] at hj
  · intro u hu
    simp [pairC] at hu
    rcases hu with rfl | rfl | rfl <;> rfl
  · unfold maxLen; omega
  · omega
  · intro v' w' g1 g2 _
    refine h v' w' ?_ g2
    unfold OwnQ
    have e : pv (l ++ [n]) = pv l ++ pairC n := by simp [pv]
    rw [e, List.length_append]
    exact g1
theorem pushQ_below {B base : Nat} {a w w' : World} {v : Value} {l : List PairL} (h : Below B a w) (ho : OwnQ w base v l) (hg : w.grownBy w' v.ownBlock) (hB : B ≤ base) (hb : base ≤ w.heap.size) : Below B a w' :=
  Below.grown h hg (by omega) (fun k hk => by have := (ho.lt k hk).1; omega)

set_option maxHeartbeats 4000000 in
theorem rpairs_any (v : Value) (l : List FieldL) (name : ByteArray) (w : World) (hr : RbF w v l) (hlen : l.length ≤ 2000) (hv : ∀ f ∈ l, f.2.length ≤ 2000) :
    Calls Try.prog 49 #[v, .string name] w fun e w' => ∃ v', e = .returned v' ∧ OwnQ w' w.heap.size v' (pairsF name.data.toList l) ∧ Aft w w' := by
  have hj : (Lib.join (valsF name.data.toList l) [44, 32]).length ≤ 100000000 := by
    obtain ⟨h1, h2⟩ := vals_len name.data.toList l hv
    have := join_len _ h1
    omega
  obtain ⟨J, hJ⟩ : ∃ J : ByteArray, J = ⟨(Lib.join (valsF name.data.toList l) [44, 32]).toArray⟩ := ⟨_, rfl⟩
  have hJd : J.data.toList = Lib.join (valsF name.data.toList l) [44, 32] := by rw [hJ]
  have hJs : J.size ≤ 100000000 := by rw [← size_len, hJd]; exact hj
  have CA := rall_any v l name w hr (by omega) hv
  rw [← hJ] at CA
  obtain ⟨P, hP⟩ : ∃ P, partsF name.data.toList l = P := ⟨_, rfl⟩
  have hPs : (match splF J.data.toList with | none => [] | some P => P) = P := by rw [hJd]; exact hP
  have hPl : ∀ x ∈ P, x.length ≤ 100000000 := by
    cases hs2 : splF J.data.toList with
    | none => rw [hs2] at hPs; subst hPs; simp
    | some L =>
      rw [hs2] at hPs
      subst hPs
      intro x hx
      have := splF_len hs2 x hx
      rw [size_len] at this
      omega
  have hPn : P.length ≤ 100000001 := by
    cases hs2 : splF J.data.toList with
    | none => rw [hs2] at hPs; subst hPs; simp
    | some L =>
      rw [hs2] at hPs
      subst hPs
      have := splGo_num _ _ _ L hs2
      rw [size_len] at this
      show L.length ≤ _
      omega
  have hPP : pairsF name.data.toList l = P.filterMap ofF := by unfold pairsF; rw [hP]
  have HPL := Lib.hid hPl
  have HPP := Lib.hid hPP
  have HSD := Lib.hid hPs
  have CS := Lib.hid (fun w => rsplit_any J w (by omega))
  have HCA := Lib.hid CA
  obtain ⟨n, hn⟩ : ∃ n : Int, ((valsF name.data.toList l).length : Int) = n := ⟨_, rfl⟩
  rw [hn] at HCA
  clear hJ hJd hj CA hP hPs hPl hPP hn
  obtain ⟨a1, c1, b1, o1, rfl, m1, m2, _⟩ := hr.open
  clear hr
  obtain ⟨B, hB⟩ : ∃ B, w.heap.size = B := ⟨_, rfl⟩
  have HB := Lib.hid hB
  clear hB
  go_enter Try.func49, Try.ntmps49
  go_wp2_with fail
  refine HCA.out.mono ?_
  rintro e w1 ⟨rfl, a1'⟩
  go_wp2_with fail
  cases hsp : splF J.data.toList with
  | none =>
    rw [hsp] at CS HSD
    have hP0 : P = [] := HSD.out.symm
    refine (CS.out _).mono ?_
    rintro e w2 ⟨hE, a2'⟩
    have hE2 : e = .returned (.tuple #[.slice none 0 0, .bool false]) := hE
    subst hE2
    have HF : Hid (pairsF name.data.toList l = []) := Lib.hid (by rw [HPP.out, hP0]; rfl)
    clear hsp hE
    go_wp2_with fail
    go_ret
    refine ⟨_, rfl, ?_, a1'.trans a2'⟩
    rw [HF.out]
    exact OwnQ.nil _ _
  | some L =>
   rw [hsp] at CS HSD
   have hPL : P = L := HSD.out.symm
   subst hPL
   refine (CS.out _).mono ?_
   rintro e w2 ⟨hE, a2'⟩
   obtain ⟨vp, hE2, op⟩ : ∃ v, e = .returned (.tuple #[v, .bool true]) ∧ OwnS w2 w1.heap.size v P := hE
   subst hE2
   clear hsp
   obtain ⟨ad, g, k, rfl, hk1, hk2, hpos, hcell⟩ := op.form
   unfold maxLen at hk2
   have HPO := Lib.hid hpos
   have HCE := Lib.hid hcell
   have hb0 : Below B w w2 := by have := a1'.trans a2'; unfold Aft at this; rw [HB.out] at this; exact this
   have hb2 : Below w2.heap.size w2 w2 := Below.refl _ _
   have hBw : B ≤ w2.heap.size := by rw [← HB.out]; exact hb0.size
   clear hpos hcell op
   go_wp2_with fail
   go_loopw [9, 10, 11, 12] (fun vo vi _ _ wr => ∃ (i : Nat) (xs : List PairL), i ≤ P.length ∧ vi = .int .i64 (i : Int) ∧ Hid ((P.take i).filterMap ofF = xs) ∧ Hid (OwnQ wr w2.heap.size vo xs) ∧ xs.length ≤ i ∧ Hid (Below w2.heap.size w2 wr)) (fun _ vi _ _ _ => P.length - (intOf vi).toNat)
   case atStart => exact ⟨0, [], by omega, by go_num, Lib.hid rfl, Lib.hid (OwnQ.nil _ _), by simp, Lib.hid hb2⟩
   case round =>
     clear hb2
     obtain ⟨i, xs, hi, rfl, HX, HO, hxs, HBE⟩ := hrel
     have hbs : w2.heap.size ≤ wr.heap.size := HBE.out.size
     by_cases hlt : i < P.length
     · have hne : P ≠ [] := by intro e; rw [e] at hlt; simp at hlt
       obtain ⟨hp1, hp2⟩ := HPO.out hne
       have hx : wr.cell? ⟨g, i, none⟩ = some (strV P[i]) := by
         rw [Below.cell HBE.out (p := ⟨g, i, none⟩) hp2]
         exact HCE.out i hlt
       have hyl := HPL.out P[i] (List.getElem_mem hlt)
       have hsn : (P.take (i + 1)).filterMap ofF = xs ++ (match ofF P[i] with | none => [] | some p => [p]) := by
         rw [List.take_succ_eq_append_getElem hlt, List.filterMap_append, HX.out]
         congr 1
         cases h : ofF P[i] <;> simp [h]
       have HSN := Lib.hid hsn
       generalize P[i] = y at hx hyl HSN
       have CO := Lib.hid (fun w => rof_any ⟨y.toArray⟩ w (by simp [ByteArray.size]; omega))
       unfold strV at hx
       subst hp1
       have hil : (i : Int) < (P.length : Int) := by omega
       clear hsn hne
       cases hof : ofF y with
       | none =>
         have hofr : ofres (ofF (⟨y.toArray⟩ : ByteArray).data.toList) = .tuple #[.agg #[.string ⟨#[]⟩, .string ⟨#[]⟩, .bool false], .bool false] := by
           show ofres (ofF y) = _
           rw [hof]
           rfl
         rw [hofr] at CO
         rw [hof] at HSN
         simp only [List.append_nil] at HSN
         clear hof hofr
         go_wp2_with fail
         refine (CO.out _).mono ?_
         rintro e w3 ⟨rfl, b3⟩
         go_wp2_with fail
         go_roundw
         case rel => exact ⟨i + 1, xs, by omega, by go_num, HSN, Lib.hid ((HO.out.aft b3).aft ((Aft.refl _).alloc _)), by omega, Lib.hid ((HBE.out.trans (Below.mono b3.to hbs)).alloc (Nat.le_trans hbs b3.to.size) _)⟩
         case measure => simp [intOf]; omega
       | some p =>
         have hofr : ofres (ofF (⟨y.toArray⟩ : ByteArray).data.toList) = .tuple #[pairV p, .bool true] := by
           show ofres (ofF y) = _
           rw [hof]
           rfl
         rw [hofr] at CO
         rw [hof] at HSN
         unfold pairV at CO
         clear hof hofr
         obtain ⟨pn, pvv, ph⟩ := p
         simp only at CO
         go_wp2_with fail
         refine (CO.out _).mono ?_
         rintro e w3 ⟨rfl, b3⟩
         have hnew := two_new w3 (strV pn) (strV pvv) (.bool ph) (.cells #[.string ⟨pn.toArray⟩, .string ⟨pvv.toArray⟩, .bool ph] 78) 78
         have HNEW := Lib.hid hnew
         clear hnew
         have hb3 : w2.heap.size ≤ w3.heap.size := Nat.le_trans hbs b3.to.size
         have HB3 : Below w2.heap.size w2 w3 := HBE.out.trans (Below.mono b3.to hbs)
         have HO3 := Lib.hid (((HO.out.aft b3).aft ((Aft.refl _).alloc (.cells #[.string ⟨pn.toArray⟩, .string ⟨pvv.toArray⟩, .bool ph] 78))).aft ((Aft.refl _).alloc (.cells #[strV pn, strV pvv, .bool ph] 78)))
         have HB4 : Hid (Below w2.heap.size w2 ((w3.alloc (.cells #[.string ⟨pn.toArray⟩, .string ⟨pvv.toArray⟩, .bool ph] 78)).alloc (.cells #[strV pn, strV pvv, .bool ph] 78))) := Lib.hid ((HB3.alloc hb3 _).alloc (le_alloc hb3 _) _)
         go_wp2_with (at_builtin; refine wpList_pushQ rfl (.tmp 41) (.tmp 43) rfl w2.heap.size _ xs rfl HO3.out (w3.heap.size + 1) 1 ⟨pn, pvv, ph⟩ rfl HNEW.out.1 HNEW.out.2.1 HNEW.out.2.2 (by omega) (le_alloc (le_alloc hb3 _) _) ?_; intro v6 w6 o6 g6)
         go_roundw
         case rel => exact ⟨i + 1, xs ++ [⟨pn, pvv, ph⟩], by omega, by go_num, HSN, Lib.hid o6, by simp; omega, Lib.hid (pushQ_below HB4.out HO3.out g6 (Nat.le_refl _) (le_alloc (le_alloc hb3 _) _))⟩
         case measure => simp [intOf]; omega
     · have hkk : P.take i = P := List.take_of_length_le (by omega)
       rw [hkk] at HX
       have hfin : pairsF name.data.toList l = xs := by rw [HPP.out, HX.out]
       have HF := Lib.hid hfin
       clear hkk hfin
       go_wp2_with fail
       go_ret
       refine ⟨_, rfl, ?_, ?_⟩
       · rw [HF.out, HB.out]
         exact HO.out.base hBw
       · unfold Aft
         rw [HB.out]
         exact hb0.trans (Below.mono HBE.out hBw)

end Go.Proofs.Ytdcdckjdloddiaa
