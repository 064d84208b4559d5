/-
  The walks of package day's reader: what each of its three methods does with the text that is left.
-/
import Derived.Test.YtimpnknmhbpffaaDayPlain
namespace Go.Proofs.Ytimpnknmhbpffaa
open Go.RowKit

/-- The reader at block b holds the text s and the flag ok. -/
structure Rd (w : World) (b : Nat) (s : ByteArray) (ok : Bool) : Prop where
  c0 : w.cell? ⟨b, 0, none⟩ = some (.string s)
  c1 : w.cell? ⟨b, 1, none⟩ = some (.bool ok)
  f0 : w.frozen? ⟨b, 0, none⟩ = false
  f1 : w.frozen? ⟨b, 1, none⟩ = false
  hb : b < w.heap.size
  hs : s.size ≤ 9223372036854775807
theorem Rd.set0 {w : World} {b : Nat} {s : ByteArray} {ok : Bool} (h : Rd w b s ok) (t : ByteArray) (ht : t.size ≤ 9223372036854775807) : Rd (w.setCell ⟨b, 0, none⟩ (.string t)) b t ok :=
  ⟨World.cell?_setCell_same _ _ _ h.c0, by rw [World.cell?_setCell_other _ _ _ _ (by simp)]; exact h.c1, by rw [World.frozen?_setCell]; exact h.f0, by rw [World.frozen?_setCell]; exact h.f1, by simpa [World.setCell] using h.hb, ht⟩
theorem Rd.set1 {w : World} {b : Nat} {s : ByteArray} {ok : Bool} (h : Rd w b s ok) (t : Bool) : Rd (w.setCell ⟨b, 1, none⟩ (.bool t)) b s t :=
  ⟨by rw [World.cell?_setCell_other _ _ _ _ (by simp)]; exact h.c0, World.cell?_setCell_same _ _ _ h.c1, by rw [World.frozen?_setCell]; exact h.f0, by rw [World.frozen?_setCell]; exact h.f1, by simpa [World.setCell] using h.hb, h.hs⟩
theorem Rd.drewN {w : World} {b : Nat} {s : ByteArray} {ok : Bool} (h : Rd w b s ok) (n : Nat) : Rd (w.drewN n) b s ok := ⟨h.c0, h.c1, h.f0, h.f1, h.hb, h.hs⟩
/-- The reader's state: what is left to read, where nothing was wrong. -/
def St (w : World) (b : Nat) (st : Option (List UInt8)) : Prop := ∃ s ok, Rd w b s ok ∧ st = if ok = true then some s.data.toList else none

set_option maxHeartbeats 400000 in
theorem d_sign_any (b : Nat) (p : ByteArray) (st : Option (List UInt8)) (w : World) (h : St w b st) (hp : p.size ≤ 1000):
    Calls Try.prog 76 #[.pointer (some ⟨b, 0, none⟩), .string p] w fun e w' => e = .returned (.tuple #[]) ∧ St w' b (Dp.pSign p.data.toList st) ∧ Below b w w' := by
  obtain ⟨s, ok, hR, rfl⟩ := h
  have c0 := hR.c0
  have c1 := hR.c1
  have f0 := hR.f0
  have f1 := hR.f1
  have hs := hR.hs
  cases ok
  · go_enter Try.func76, Try.ntmps76
    go_wp2
    go_end0
    exact ⟨rfl, ⟨_, _, hR.set1 _, rfl⟩, bset (Below.refl _ _) _ _ _ (Nat.le_refl _)⟩
  · by_cases hl : p.size ≤ s.size
    · cases he : ((s.extract 0 p.size).toList == p.toList)
      · go_enter Try.func76, Try.ntmps76
        go_wp2
        go_end0
        refine ⟨rfl, ⟨_, _, hR.set1 _, ?_⟩, bset (Below.refl _ _) _ _ _ (Nat.le_refl _)⟩
        have := bytes_ne_of he
        rw [extract_front] at this
        simp [Dp.pSign, this]
      · go_enter Try.func76, Try.ntmps76
        go_wp2
        go_end0
        refine ⟨rfl, ⟨_, _, (hR.set1 _).set0 _ (by simp; omega), ?_⟩, bset (bset (Below.refl _ _) _ _ _ (Nat.le_refl _)) _ _ _ (Nat.le_refl _)⟩
        have := bytes_eq_of he
        rw [extract_front] at this
        rw [extract_end]
        simp [Dp.pSign, this]
    · go_enter Try.func76, Try.ntmps76
      go_wp2
      go_end0
      refine ⟨rfl, ⟨_, _, hR.set1 _, ?_⟩, bset (Below.refl _ _) _ _ _ (Nat.le_refl _)⟩
      simp only [Dp.pSign]
      simp
      intro e
      have := congrArg List.length e
      simp at this
      omega

theorem num_bound (j : Nat) (hj : j ≤ 4) (n : Int) (h : n < 1000 ^ j) : n < 1000000000000 := by
  have : (1000 : Int) ^ j ≤ 1000 ^ 4 := by
    have : j = 0 ∨ j = 1 ∨ j = 2 ∨ j = 3 ∨ j = 4 := by omega
    rcases this with rfl | rfl | rfl | rfl | rfl <;> decide
  omega
theorem num_bound_next (j : Nat) (n c : Int) (h0 : 0 ≤ n) (h : n < 1000 ^ j) (hc : c < 256) : 10 * n + c < 1000 ^ (j + 1) := by
  rw [Int.pow_succ]; omega
/-- How far the reading of a number has come: j digits were looked at. -/
def NumRel (b : Nat) (s : ByteArray) (ok : Bool) (k : Nat) (w : World) (v i : Value) (wr : World) : Prop :=
  ∃ (j : Nat) (ok' : Bool) (n : Int), j ≤ k ∧ i = .int .i64 j ∧ v = .int .i64 n ∧ 0 ≤ n ∧ n < 1000 ^ j ∧ Rd wr b s ok' ∧ Below b w wr ∧ (ok' = true → k ≤ s.size) ∧
    ((ok' = true ∧ ok = true ∧ (s.data.toList.take j).all Dp.isDig = true ∧ n = Dp.val (s.data.toList.take j)) ∨
     (ok' = false ∧ ¬ (ok = true ∧ k ≤ s.size ∧ (s.data.toList.take k).all Dp.isDig = true)))
theorem all_take_of {l : List UInt8} {j k : Nat} (hj : j < k) (hl : k ≤ l.length) (h : (l.take k).all Dp.isDig = true) : Dp.isDig l[j] = true := by
  rw [List.all_eq_true] at h
  apply h
  rw [List.mem_take_iff_getElem]
  exact ⟨j, by omega, rfl⟩
theorem pNum_bad {k : Nat} {lo hi : Int} {s : ByteArray} {ok : Bool} (h : ¬ (ok = true ∧ k ≤ s.size ∧ (s.data.toList.take k).all Dp.isDig = true)) :
    Dp.pNum k lo hi (if ok = true then some s.data.toList else none) = (0, none) := by
  cases ok
  · rfl
  · show (if _ then _ else _) = _
    rw [if_neg]
    intro hx
    rw [Dp.numOk_iff, size_len] at hx
    exact h ⟨rfl, hx.1, hx.2.1⟩
theorem pNum_out {k : Nat} {lo hi : Int} {s : ByteArray} {n : Int} (hn : n = Dp.val (s.data.toList.take k)) (h : n < lo ∨ hi < n) :
    Dp.pNum k lo hi (some s.data.toList) = (0, none) := by
  show (if _ then _ else _) = _
  rw [if_neg]
  intro hx
  rw [Dp.numOk_iff] at hx
  omega
theorem pNum_in {k : Nat} {lo hi : Int} {s : ByteArray} {n : Int} (hn : n = Dp.val (s.data.toList.take k)) (hk : k ≤ s.size) (hd : (s.data.toList.take k).all Dp.isDig = true) (h1 : lo ≤ n) (h2 : n ≤ hi) :
    Dp.pNum k lo hi (some s.data.toList) = (n, some (s.data.toList.drop k)) := by
  show (if _ then _ else _) = _
  rw [if_pos]
  · rw [← hn]
  · rw [Dp.numOk_iff, size_len, ← hn]
    exact ⟨hk, hd, h1, h2⟩

theorem dig_at {s : ByteArray} {j : Nat} (hj : j < s.size) : Dp.isDig (s.data.toList[j]'(by rw [size_len]; exact hj)) = (decide (48 ≤ s[j].toNat) && decide (s[j].toNat ≤ 57)) := rfl
theorem num_next {s : ByteArray} {ok : Bool} {j k : Nat} {n : Int} (hj : j < k) (hk : k ≤ s.size) (h1 : ok = true) (h2 : (s.data.toList.take j).all Dp.isDig = true) (h3 : n = Dp.val (s.data.toList.take j)) (h4 : 48 ≤ ((s[j]'(by omega)).toNat : Int)) :
    (decide (((s[j]'(by omega)).toNat : Int) ≤ 57) = true ∧ ok = true ∧ (s.data.toList.take (j + 1)).all Dp.isDig = true ∧ 10 * n + (((s[j]'(by omega)).toNat : Int) - 48) % 256 = Dp.val (s.data.toList.take (j + 1))) ∨
    (decide (((s[j]'(by omega)).toNat : Int) ≤ 57) = false ∧ ¬ (ok = true ∧ k ≤ s.size ∧ (s.data.toList.take k).all Dp.isDig = true)) := by
  have hjl : j < s.data.toList.length := by rw [size_len]; omega
  have hd := dig_at (s := s) (j := j) (by omega)
  have hlt : ((s[j]'(by omega)).toNat : Int) < 256 := by have := (s[j]'(by omega)).toNat_lt; omega
  by_cases h5 : ((s[j]'(by omega)).toNat : Int) ≤ 57
  · left
    refine ⟨by simpa using h5, h1, ?_, ?_⟩
    · rw [Dp.take_snoc _ _ hjl, Dp.all_snoc, h2, hd]
      simp
      omega
    · rw [Dp.take_snoc _ _ hjl, Dp.val_snoc, ← h3]
      rw [← getElem_data s j (by omega)]
      omega
  · right
    refine ⟨by simpa using h5, fun hx => ?_⟩
    have := all_take_of hj (by rw [size_len]; exact hk) hx.2.2
    rw [hd] at this
    simp at this
    omega
theorem num_stop {s : ByteArray} {ok : Bool} {j k : Nat} {m : Int} {P : Prop} (hj : j < k) (hk : k ≤ s.size) (h4 : ¬ 48 ≤ ((s[j]'(by omega)).toNat : Int)) :
    (false = true ∧ P ∧ (s.data.toList.take (j + 1)).all Dp.isDig = true ∧ m = Dp.val (s.data.toList.take (j + 1))) ∨
    (false = false ∧ ¬ (ok = true ∧ k ≤ s.size ∧ (s.data.toList.take k).all Dp.isDig = true)) := by
  right
  refine ⟨rfl, fun hx => ?_⟩
  have hd := dig_at (s := s) (j := j) (by omega)
  have := all_take_of hj (by rw [size_len]; exact hk) hx.2.2
  rw [hd] at this
  simp at this
  omega

set_option maxHeartbeats 1000000 in
theorem d_number_any (b : Nat) (k : Nat) (lo hi : Int) (st : Option (List UInt8)) (w : World) (h : St w b st) (hk : k ≤ 4) :
    Calls Try.prog 77 #[.pointer (some ⟨b, 0, none⟩), .int .i64 k, .int .i64 lo, .int .i64 hi] w fun e w' => e = .returned (.int .i64 (Dp.pNum k lo hi st).1) ∧ St w' b (Dp.pNum k lo hi st).2 ∧ Below b w w' := by
  obtain ⟨s, ok, hR, rfl⟩ := h
  have c0 := hR.c0
  have c1 := hR.c1
  have f0 := hR.f0
  have f1 := hR.f1
  have hs := hR.hs
  have hb0 : Below b w w := Below.refl _ _
  generalize hst : (if ok = true then some s.data.toList else none) = st
  have HST := Lib.hid hst
  clear hst
  obtain ⟨okv, hokv⟩ : ∃ okv, okv = ok := ⟨_, rfl⟩
  rw [← hokv] at HST
  cases ok
  all_goals
    have HK := Lib.hid hokv
    clear hokv
    go_enter Try.func77, Try.ntmps77
    go_wp2
  all_goals
    go_loopw [9, 10] (fun n i wr => NumRel b s okv k w n i wr) (fun _ i _ => k - (intOf i).toNat)
    case atStart =>
      refine ⟨0, _, 0, by omega, by go_num, rfl, by omega, by decide, hR.set1 _, bset hb0 _ _ _ (Nat.le_refl _), by simp, ?_⟩
      have hokv := HK.out
      clear HST HK
      by_cases hx : k ≤ s.size
      · simp_all [Dp.val]
      · right
        refine ⟨?_, fun h => hx h.2.1⟩
        simp_all
    case round =>
      obtain ⟨j, ok', n, hj, rfl, rfl, hn0, hn1, hRr, hbr, hsz, hcase⟩ := hrel
      have hnb := num_bound j (by omega) n hn1
      have HN := Lib.hid hcase
      have HP := Lib.hid hn1
      clear hcase hn1
      clear c0 c1 f0 f1
      have c0 := hRr.c0
      have c1 := hRr.c1
      have f0 := hRr.f0
      have f1 := hRr.f1
      cases ok'
      · have hbad : ¬ (okv = true ∧ k ≤ s.size ∧ (s.data.toList.take k).all Dp.isDig = true) := by
          rcases HN.out with h | h
          · exact absurd h.1 (by simp)
          · exact h.2
        have HX := Lib.hid (pNum_bad (lo := lo) (hi := hi) hbad)
        clear hbad
        by_cases hlt : j < k
        all_goals
          go_wp2
          go_ret
          rw [← HST.out, HX.out]
          exact ⟨rfl, ⟨_, _, hRr.set1 _, rfl⟩, bset hbr _ _ _ (Nat.le_refl _)⟩
      · have hsz' := hsz rfl
        clear hsz
        have hok : okv = true ∧ (s.data.toList.take j).all Dp.isDig = true ∧ n = Dp.val (s.data.toList.take j) := by
          rcases HN.out with h | h
          · exact h.2
          · exact absurd h.1 (by simp)
        by_cases hlt : j < k
        · have hjs : j < s.size := by omega
          have HO := Lib.hid hok
          clear hok
          go_wp2
          all_goals
            go_roundw
            case rel =>
              have hcb : (s[j].toNat : Int) < 256 := by have := s[j].toNat_lt; omega
              refine ⟨j + 1, _, _, by omega, by go_num, rfl, by omega, num_bound_next j n _ hn0 HP.out (by omega), hRr.set1 _, bset hbr _ _ _ (Nat.le_refl _), fun _ => hsz', ?_⟩
              by_cases h48 : 48 ≤ (s[j].toNat : Int)
              · first
                  | (exfalso; omega)
                  | exact num_next hlt hsz' HO.out.1 HO.out.2.1 HO.out.2.2 h48
              · first
                  | (exfalso; omega)
                  | exact num_stop hlt hsz' h48
            case measure => simp [intOf]; omega
        · have hjk : j = k := by omega
          subst hjk
          have HO := Lib.hid hok
          clear hok
          by_cases hlo : n < lo
          · go_wp2
            go_ret
            rw [← HST.out, HO.out.1]
            simp only [if_true]
            rw [pNum_out HO.out.2.2 (Or.inl hlo)]
            exact ⟨rfl, ⟨_, _, hRr.set1 _, rfl⟩, bset hbr _ _ _ (Nat.le_refl _)⟩
          · by_cases hhi : hi < n
            · go_wp2
              go_ret
              rw [← HST.out, HO.out.1]
              simp only [if_true]
              rw [pNum_out HO.out.2.2 (Or.inr hhi)]
              exact ⟨rfl, ⟨_, _, hRr.set1 _, rfl⟩, bset hbr _ _ _ (Nat.le_refl _)⟩
            · go_wp2
              go_ret
              rw [← HST.out, HO.out.1]
              simp only [if_true]
              rw [pNum_in HO.out.2.2 hsz' HO.out.2.1 (by omega) (by omega)]
              exact ⟨rfl, ⟨_, _, hRr.set0 _ (by simp; omega), by rw [extract_end]; rfl⟩, bset hbr _ _ _ (Nat.le_refl _)⟩

end Go.Proofs.Ytimpnknmhbpffaa
