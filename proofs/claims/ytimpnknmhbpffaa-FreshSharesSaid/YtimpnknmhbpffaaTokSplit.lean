/-
  The walk of token.Split, its closure by a contract of its own.
-/
import Derived.Test.YtimpnknmhbpffaaTokTrim
import Derived.Test.YtimpnknmhbpffaaStrs
import Derived.OneCell
import Derived.Laws.ByValue
namespace Go.Proofs.Ytimpnknmhbpffaa
open Go.RowKit

/-- Split's three variables: the text, what has been split off, where the next element begins. -/
structure Sp (w : World) (B : Nat) (s : ByteArray) (a : Nat) (v : Value) : Prop where
  c0 : w.cell? ⟨B, 0, none⟩ = some (.string s)
  c1 : w.cell? ⟨B + 1, 0, none⟩ = some v
  c2 : w.cell? ⟨B + 2, 0, none⟩ = some (.int .i64 (a : Int))
  f1 : w.frozen? ⟨B + 1, 0, none⟩ = false
  f2 : w.frozen? ⟨B + 2, 0, none⟩ = false
  hs : B + 3 ≤ w.heap.size
theorem Sp.aft {w w' : World} {B : Nat} {s : ByteArray} {a : Nat} {v : Value} (h : Sp w B s a v) (ha : Aft w w') : Sp w' B s a v := by
  have e : ∀ b, b < w.heap.size → w'.cell? ⟨b, 0, none⟩ = w.cell? ⟨b, 0, none⟩ := fun b hb => Below.cell ha.to (p := ⟨b, 0, none⟩) hb
  have f : ∀ b, b < w.heap.size → w'.frozen? ⟨b, 0, none⟩ = w.frozen? ⟨b, 0, none⟩ := fun b hb => Below.frozen ha.to (p := ⟨b, 0, none⟩) hb
  have := h.hs
  exact ⟨(e _ (by omega)).trans h.c0, (e _ (by omega)).trans h.c1, (e _ (by omega)).trans h.c2, (f _ (by omega)).trans h.f1, (f _ (by omega)).trans h.f2, Nat.le_trans this ha.size⟩
theorem Sp.grown {w w' : World} {B : Nat} {s : ByteArray} {a : Nat} {v : Value} {row : Option Nat} (h : Sp w B s a v) (hg : w.grownBy w' row) (hr : ∀ k, row = some k → B + 3 ≤ k) : Sp w' B s a v := by
  have hb : ∀ b, b < B + 3 → w'.heap[b]? = w.heap[b]? := fun b hb => hg.block b (by have := h.hs; omega) (fun e => by have := hr b e.symm; omega)
  have e : ∀ b, b < B + 3 → w'.cell? ⟨b, 0, none⟩ = w.cell? ⟨b, 0, none⟩ := fun b h1 => World.cell?_of_block (a := ⟨b, 0, none⟩) (hb b h1)
  have f : ∀ b, b < B + 3 → w'.frozen? ⟨b, 0, none⟩ = w.frozen? ⟨b, 0, none⟩ := fun b h1 => World.frozen?_of_block (a := ⟨b, 0, none⟩) (hb b h1)
  exact ⟨(e _ (by omega)).trans h.c0, (e _ (by omega)).trans h.c1, (e _ (by omega)).trans h.c2, (f _ (by omega)).trans h.f1, (f _ (by omega)).trans h.f2, Nat.le_trans h.hs hg.size⟩
theorem Sp.set1 {w : World} {B : Nat} {s : ByteArray} {a : Nat} {v : Value} (h : Sp w B s a v) (u : Value) : Sp (w.setCell ⟨B + 1, 0, none⟩ u) B s a u :=
  ⟨by rw [World.cell?_setCell_other _ _ _ _ (by simp)]; exact h.c0, World.cell?_setCell_same _ _ _ h.c1, by rw [World.cell?_setCell_other _ _ _ _ (by simp)]; exact h.c2, by rw [World.frozen?_setCell]; exact h.f1, by rw [World.frozen?_setCell]; exact h.f2, by simpa [World.setCell] using h.hs⟩
theorem Sp.set2 {w : World} {B : Nat} {s : ByteArray} {a : Nat} {v : Value} (h : Sp w B s a v) (u : Nat) : Sp (w.setCell ⟨B + 2, 0, none⟩ (.int .i64 (u : Int))) B s u v :=
  ⟨by rw [World.cell?_setCell_other _ _ _ _ (by simp)]; exact h.c0, by rw [World.cell?_setCell_other _ _ _ _ (by simp)]; exact h.c1, World.cell?_setCell_same _ _ _ h.c2, by rw [World.frozen?_setCell]; exact h.f1, by rw [World.frozen?_setCell]; exact h.f2, by simpa [World.setCell] using h.hs⟩

set_option maxHeartbeats 1000000 in
theorem put_any (B : Nat) (s : ByteArray) (a b : Nat) (v : Value) (l : List (List UInt8)) (w : World) (h : Sp w B s a v) (ho : OwnS w (B + 3) v l) (hab : a ≤ b) (hb : b ≤ s.size) (hs : s.size ≤ 1000000000000) (hl : l.length ≤ 1000000000000) :
    Calls Try.prog 83 #[.int .i64 (b : Int), .pointer (some ⟨B, 0, none⟩), .pointer (some ⟨B + 2, 0, none⟩), .pointer (some ⟨B + 1, 0, none⟩)] w fun e w' => e = .returned (.tuple #[]) ∧ ∃ v', Sp w' B s a v' ∧ OwnS w' (B + 3) v' (l ++ elemL ((s.data.toList.drop a).take (b - a))) ∧ Below B w w' := by
  have k0 := h.c0
  have k1 := h.c1
  have k2 := h.c2
  have e1 : (s.extract a b).data.toList = (s.data.toList.drop a).take (b - a) := Lib.extract_data s a b
  have hz : (s.extract a b).size ≤ maxLen := by rw [ByteArray.size_extract]; unfold maxLen; omega
  have HT := Lib.hid (trim_any (s.extract a b))
  rw [e1] at HT
  obtain ⟨T, hT⟩ : ∃ T, trimL ((s.data.toList.drop a).take (b - a)) = T := ⟨_, rfl⟩
  have hel : elemL ((s.data.toList.drop a).take (b - a)) = if T.isEmpty then [] else [T] := by unfold elemL; rw [hT]
  rw [hT] at HT
  have HEL := Lib.hid hel
  have HZ := Lib.hid hz
  clear hT hel hz e1
  go_enter Try.func83, Try.ntmps83
  go_wp2_with fail
  refine (HT.out _ HZ.out).mono ?_
  rintro e w1 ⟨rfl, b1⟩
  have h1 := h.aft b1
  have ho1 := ho.aft b1
  have hbel : Below B w w1 := Below.mono b1 (by have := h.hs; omega)
  have j1 := h1.c1
  have j2 := h1.f1
  have hsz := h1.hs
  clear k0 k1 k2 HT
  have hst : (⟨T.toArray⟩ : ByteArray).toList = T := by rw [Lib.toList_data]
  cases hTe : T.isEmpty
  · have hne : (⟨T.toArray⟩ : ByteArray).toList.isEmpty = false := by rw [hst]; exact hTe
    have hfin : l ++ elemL ((s.data.toList.drop a).take (b - a)) = l ++ [T] := by rw [HEL.out, hTe]; rfl
    have HF := Lib.hid hfin
    clear hst hne hfin
    go_wp2_with (at_builtin; refine wpList_pushS rfl (.tmp 13) (.tmp 15) rfl (B + 3) v l rfl (ho1.aft ((Aft.refl _).alloc _)) ⟨w1.heap.size, 0, none⟩ 1 T rfl (cell_new1 _ _ _) (by omega) (le_alloc hsz _) ?_; intro v6 w6 o6 g6; obtain ⟨a6, k6, rfl, _⟩ := o6.slice; have h6 := (h1.aft ((Aft.refl _).alloc _)).grown g6 (fun k hk => (ho1.lt k hk).1); have i1 := h6.c1; have i2 := h6.f1)
    go_end0
    have h7 := h6.set1 (.slice a6 (l ++ [T]).length k6)
    have o7 := o6.far (p := ⟨B + 1, 0, none⟩) (by show B + 1 < B + 3; omega) (.slice a6 (l ++ [T]).length k6)
    have b6 : Below B w w6 := pushS_below (B := B) (base := B + 3) (hbel.alloc (by omega) _) (ho1.aft ((Aft.refl _).alloc _)) g6 (by omega) (le_alloc hsz _)
    rw [show (l ++ [T]).length = l.length + 1 by simp] at h7 o7
    exact ⟨rfl, _, h7, by rw [HF.out]; exact o7, b6.setCell (p := ⟨B + 1, 0, none⟩) (by show B ≤ B + 1; omega) _⟩
  · have hne : (⟨T.toArray⟩ : ByteArray).toList.isEmpty = true := by rw [hst]; exact hTe
    have hfin : l ++ elemL ((s.data.toList.drop a).take (b - a)) = l := by rw [HEL.out, hTe]; simp
    have HF := Lib.hid hfin
    clear hst hne hfin
    go_wp2_with fail
    go_end0
    exact ⟨rfl, v, h1, by rw [HF.out]; exact ho1, hbel⟩

/-! ### Split -/
def splT (cur l : List UInt8) : Option (List (List UInt8)) := splGo (l.length + 1) cur l
theorem splF_T (l : List UInt8) : splF l = splT [] l := rfl
theorem splT_nil (cur : List UInt8) : splT cur [] = some (elemL cur) := rfl
theorem splT_comma (cur r : List UInt8) : splT cur (44 :: r) = (splT [] r).map (elemL cur ++ ·) := by
  unfold splT
  simp only [List.length_cons]
  conv => lhs; unfold splGo
  rw [if_pos rfl]
theorem splT_quote (cur r : List UInt8) : splT cur (34 :: r) = match qend r with | none => none | some n => splT (cur ++ 34 :: r.take n) (r.drop n) := by
  unfold splT
  simp only [List.length_cons]
  conv => lhs; unfold splGo
  rw [if_neg (by decide), if_pos rfl]
  cases hq : qend r with
  | none => rfl
  | some n =>
    have := qend_bd r n hq
    exact splGo_more _ _ _ (by rw [List.length_drop]; omega) _ (by omega)
theorem splT_other (cur r : List UInt8) (c : UInt8) (h1 : c ≠ 44) (h2 : c ≠ 34) : splT cur (c :: r) = splT (cur ++ [c]) r := by
  unfold splT
  simp only [List.length_cons]
  conv => lhs; unfold splGo
  rw [if_neg h1, if_neg h2]
/-- What Split hands back: nothing, or the elements in new memory. -/
def SplitPost (o : Option (List (List UInt8))) (B : Nat) (e : Ending) (w' : World) : Prop :=
  match o with
  | none => e = .returned (.tuple #[.slice none 0 0, .bool false])
  | some L => ∃ v, e = .returned (.tuple #[v, .bool true]) ∧ OwnS w' B v L
theorem take_piece {l : List UInt8} {a i : Nat} (ha : a ≤ i) (hi : i < l.length) : (l.drop a).take (i + 1 - a) = (l.drop a).take (i - a) ++ [l[i]] := by
  have h := List.take_succ_eq_append_getElem (l := l.drop a) (i := i - a) (by rw [List.length_drop]; omega)
  rw [show i + 1 - a = i - a + 1 by omega, h, List.getElem_drop]
  congr 2
  simp only [show a + (i - a) = i by omega]
theorem piece_len {l : List UInt8} {a i : Nat} (_ : a ≤ i) (hi : i ≤ l.length) : ((l.drop a).take (i - a)).length = i - a := by
  rw [List.length_take, List.length_drop]
  omega
theorem take_pieces {l : List UInt8} {a i j : Nat} (ha : a ≤ i) (hj : i ≤ j) (hi : i ≤ l.length) : (l.drop a).take (j - a) = (l.drop a).take (i - a) ++ (l.drop i).take (j - i) := by
  have h : (l.drop a) = (l.drop a).take (i - a) ++ l.drop i := by
    have := (List.take_append_drop (i - a) (l.drop a)).symm
    rw [List.drop_drop, show a + (i - a) = i by omega] at this
    exact this
  conv => lhs; rw [h]
  rw [List.take_append, piece_len ha hi, List.take_of_length_le (by rw [piece_len ha hi]; omega), show j - a - (i - a) = j - i by omega]

set_option maxHeartbeats 4000000 in
theorem split_any (s : ByteArray) (w : World) (hs : s.size ≤ 1000000000) :
    Calls Try.prog 72 #[.string s] w fun e w' => SplitPost (splF s.data.toList) w.heap.size e w' ∧ Aft w w' := by
  obtain ⟨B, hB⟩ : ∃ B, w.heap.size = B := ⟨_, rfl⟩
  go_enter Try.func72, Try.ntmps72
  go_wp2_with fail
  have hS0 : Sp (((w.alloc (.cells #[.string s] 9)).alloc (.cells #[.slice none 0 0] 59)).alloc (.cells #[.int .i64 0] 3)) B s 0 (.slice none 0 0) := by
    subst hB
    exact ⟨by simp [go_sem], by simp [go_sem], by simp [go_sem], by simp [go_sem], by simp [go_sem], by simp⟩
  have hb0 : Below B w (((w.alloc (.cells #[.string s] 9)).alloc (.cells #[.slice none 0 0] 59)).alloc (.cells #[.int .i64 0] 3)) := by
    subst hB
    exact (((Below.refl _ _).alloc (Nat.le_refl _) _).alloc (by simp) _).alloc (by simp; omega) _
  rw [show B + 1 + 1 = B + 2 from rfl]
  have HB := Lib.hid hB
  clear hB
  generalize ((w.alloc (.cells #[.string s] 9)).alloc (.cells #[.slice none 0 0] 59)).alloc (.cells #[.int .i64 0] 3) = W0 at *
  have HSF := Lib.hid (size_len s)
  go_loopw [7, 8, 9] (fun vi _ _ wr => ∃ (i a : Nat) (l : List (List UInt8)) (v : Value), a ≤ i ∧ i ≤ s.size ∧ vi = .int .i64 (i : Int) ∧ Hid (Sp wr B s a v) ∧ Hid (OwnS wr (B + 3) v l) ∧ Hid (splF s.data.toList = (splT ((s.data.toList.drop a).take (i - a)) (s.data.toList.drop i)).map (l ++ ·)) ∧ l.length ≤ i ∧ Below B w wr) (fun vi _ _ _ => s.size - (intOf vi).toNat)
  case atStart => exact ⟨0, 0, [], _, by omega, by omega, by go_num, Lib.hid hS0, Lib.hid (OwnS.nil _ _), Lib.hid (by rw [splF_T]; simp), by simp, hb0⟩
  case round =>
    clear hS0 hb0
    obtain ⟨i, a, l, v, ha, hi, rfl, HS, HO, HF, hll, hbel⟩ := hrel
    have k0 := HS.out.c0
    have k2 := HS.out.c2
    have f2 := HS.out.f2
    by_cases hlt : i < s.size
    · have hil : i < s.data.toList.length := by rw [size_len]; exact hlt
      have hdrop := List.drop_eq_getElem_cons hil
      have hpiece := take_piece ha hil
      by_cases h44 : s[i] = 44
      · have hb1 : ((s[i].toNat : Int) == 44) = true := by rw [h44]; rfl
        have hnx : splF s.data.toList = (splT ((s.data.toList.drop (i + 1)).take (i + 1 - (i + 1))) (s.data.toList.drop (i + 1))).map ((l ++ elemL ((s.data.toList.drop a).take (i - a))) ++ ·) := by
          have e : s.data.toList[i] = 44 := h44
          rw [HF.out, hdrop, e, splT_comma, Option.map_map, Nat.sub_self, List.take_zero]
          congr 1
          funext x
          simp
        have HN := Lib.hid hnx
        have hel : (l ++ elemL ((s.data.toList.drop a).take (i - a))).length ≤ i + 1 := by
          rw [List.length_append]
          have : (elemL ((s.data.toList.drop a).take (i - a))).length ≤ 1 := by unfold elemL; split <;> simp
          omega
        clear hnx hdrop hpiece h44
        go_wp2_with (go_at_call 83; refine (put_any B s a i v l _ HS.out HO.out ha (by omega) (by omega) (by omega)).mono ?_; rintro e w1 ⟨rfl, v1, hS1, hO1, hb1'⟩; have j2 := hS1.c2; have j3 := hS1.f2)
        go_roundw
        case rel => exact ⟨i + 1, i + 1, _, v1, by omega, by omega, by go_num, Lib.hid (hS1.set2 (i + 1)), Lib.hid (hO1.far (p := ⟨B + 2, 0, none⟩) (by show B + 2 < B + 3; omega) _), HN, hel, (hbel.trans hb1').setCell (p := ⟨B + 2, 0, none⟩) (by show B ≤ B + 2; omega) _⟩
        case measure => simp [intOf]; omega
      · have hb1 : ((s[i].toNat : Int) == 44) = false := by
          rw [beq_eq_false_iff_ne]
          intro e
          exact h44 (byte_eq.2 e)
        by_cases h34 : s[i] = 34
        · have hb2 : ((s[i].toNat : Int) == 34) = true := by rw [h34]; rfl
          have e34 : s.data.toList[i] = 34 := h34
          have HQ := Lib.hid (quoted_any s i)
          cases hq : qend (s.data.toList.drop (i + 1)) with
          | none =>
            rw [hq] at HQ
            have hno : splF s.data.toList = none := by
              rw [HF.out, hdrop, e34, splT_quote, hq]
              rfl
            have HNO := Lib.hid hno
            clear hno hq e34 h34 hdrop hpiece h44
            go_wp2_with (go_at_call 85; refine (HQ.out _ (by omega) hlt).mono ?_; unfold qres; rintro e w1 ⟨rfl, rfl⟩)
            go_ret2
            rw [HNO.out, HB.out]
            exact ⟨rfl, by unfold Aft; rw [HB.out]; exact hbel⟩
          | some n =>
            have hqb := qend_bd _ _ hq
            rw [List.length_drop, size_len] at hqb
            rw [hq] at HQ
            have hnx : splF s.data.toList = (splT ((s.data.toList.drop a).take (i + 1 + n - a)) (s.data.toList.drop (i + 1 + n))).map (l ++ ·) := by
              rw [HF.out, hdrop, e34, splT_quote, hq]
              simp only
              rw [List.drop_drop, take_pieces (l := s.data.toList) (a := a) (i := i) (j := i + 1 + n) ha (by omega) (by omega), hdrop, e34, show i + 1 + n - i = n + 1 by omega, List.take_succ_cons]
            have HN := Lib.hid hnx
            clear hnx hq e34 h34 hdrop hpiece h44
            go_wp2_with (go_at_call 85; refine (HQ.out _ (by omega) hlt).mono ?_; unfold qres; rintro e w1 ⟨rfl, rfl⟩)
            go_roundw
            case rel => exact ⟨i + 1 + n, a, l, v, by omega, by omega, rfl, HS, HO, HN, by omega, hbel⟩
            case measure => simp [intOf]; omega
        · have hb2 : ((s[i].toNat : Int) == 34) = false := by
            rw [beq_eq_false_iff_ne]
            intro e
            exact h34 (byte_eq.2 e)
          have hnx : splF s.data.toList = (splT ((s.data.toList.drop a).take (i + 1 - a)) (s.data.toList.drop (i + 1))).map (l ++ ·) := by
            rw [HF.out, hdrop, splT_other _ _ (s.data.toList[i]) h44 h34, hpiece]
          have HN := Lib.hid hnx
          clear hnx hdrop hpiece h44 h34
          go_wp2_with fail
          go_roundw
          case rel => exact ⟨i + 1, a, l, v, by omega, by omega, by go_num, HS, HO, HN, by omega, hbel⟩
          case measure => simp [intOf]; omega
    · have hfin : splF s.data.toList = some (l ++ elemL ((s.data.toList.drop a).take (s.size - a))) := by
        have e : i = s.size := by omega
        rw [HF.out, e, List.drop_eq_nil_of_le (by rw [size_len]; omega : s.data.toList.length ≤ s.size), splT_nil]
        rfl
      have HFIN := Lib.hid hfin
      clear hfin
      go_wp2_with (go_at_call 83; refine (put_any B s a s.size v l _ HS.out HO.out (by omega) (Nat.le_refl _) (by omega) (by omega)).mono ?_; rintro e w1 ⟨rfl, v1, hS1, hO1, hb1'⟩; have j2 := hS1.c1)
      go_ret2
      rw [HFIN.out, HB.out]
      exact ⟨⟨v1, rfl, hO1.base (by omega)⟩, by unfold Aft; rw [HB.out]; exact hbel.trans hb1'⟩

end Go.Proofs.Ytimpnknmhbpffaa
