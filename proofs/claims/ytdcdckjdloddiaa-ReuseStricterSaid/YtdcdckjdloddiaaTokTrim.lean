/-
  The walks of token's small functions: sign, Token, plain, blank, Lower, Trim, quoted. The walks of token's Trim and quoted.
-/
import Derived.Test.YtdcdckjdloddiaaTokPlain
import Derived.Test.YtdcdckjdloddiaaShelf
import Derived.Test.YtdcdckjdloddiaaBuf
import Derived.Lib.ConvBytes
namespace Go.Proofs.Ytdcdckjdloddiaa
open Go.RowKit

theorem toUInt8_self (c : UInt8) : ((c.toNat : Int)).toNat.toUInt8 = c := by
  rw [Int.toNat_natCast]
  exact UInt8.ofNat_toNat
set_option maxHeartbeats 1000000 in
theorem sign_any (c : UInt8) (w : World) :
    Calls Try.prog 92 #[.int .u8 (c.toNat : Int)] w fun e w' => e = .returned (.bool (signB c)) ∧ w = w' := by
  have h0 : 0 ≤ (c.toNat : Int) := by omega
  have h1 : (c.toNat : Int) ≤ 255 := by have := c.toNat_lt; omega
  obtain ⟨b, hb⟩ : ∃ b, signB c = b := ⟨_, rfl⟩
  rw [hb]
  unfold signB at hb
  have hix := Try.strings_IndexByte ⟨othersL.toArray⟩ (c.toNat : Int)
  rw [toUInt8_self] at hix
  have he : (⟨othersL.toArray⟩ : ByteArray).data.toList = othersL := rfl
  rw [he] at hix
  generalize Lib.indexByte othersL c = x at *
  have HIX := Lib.hid hix
  have HB := Lib.hid hb
  clear hix hb he
  generalize (c.toNat : Int) = n at *
  go_enter Try.func92, Try.ntmps92
  go_wp2_with (go_at_call 97; refine (HIX.out _).mono ?_; rintro e w1 ⟨rfl, rfl⟩)
  all_goals
    go_ret
    refine ⟨ret_bool ?_, rfl⟩
    have hb := HB.out
    first
      | (rw [← hb]; done)
      | (rw [← hb, Bool.eq_iff_iff]; simp; done)
      | (rw [← hb, Bool.eq_iff_iff]; simp; omega)

theorem plain_any (c : UInt8) (w : World) :
    Calls Try.prog 94 #[.int .u8 (c.toNat : Int)] w fun e w' => e = .returned (.bool (plainB c)) ∧ w = w' := by
  have h0 : 0 ≤ (c.toNat : Int) := by omega
  have h1 : (c.toNat : Int) ≤ 255 := by have := c.toNat_lt; omega
  obtain ⟨b, hb⟩ : ∃ b, plainB c = b := ⟨_, rfl⟩
  rw [hb]
  unfold plainB at hb
  have HB := Lib.hid hb
  clear hb
  generalize (c.toNat : Int) = n at *
  go_enter Try.func94, Try.ntmps94
  go_wp2_with fail
  all_goals
    go_ret
    refine ⟨ret_bool ?_, rfl⟩
    have hb := HB.out
    first
      | (rw [← hb]; done)
      | (rw [← hb, Bool.eq_iff_iff]; simp; done)
      | (rw [← hb, Bool.eq_iff_iff]; simp; omega)
theorem blank_any (c : UInt8) (w : World) :
    Calls Try.prog 91 #[.int .u8 (c.toNat : Int)] w fun e w' => e = .returned (.bool (blankB c)) ∧ w = w' := by
  have h0 : 0 ≤ (c.toNat : Int) := by omega
  have h1 : (c.toNat : Int) ≤ 255 := by have := c.toNat_lt; omega
  obtain ⟨b, hb⟩ : ∃ b, blankB c = b := ⟨_, rfl⟩
  rw [hb]
  unfold blankB at hb
  have HB := Lib.hid hb
  clear hb
  generalize (c.toNat : Int) = n at *
  go_enter Try.func91, Try.ntmps91
  go_wp2_with fail
  all_goals
    go_ret
    refine ⟨ret_bool ?_, rfl⟩
    have hb := HB.out
    first
      | (rw [← hb]; done)
      | (rw [← hb, Bool.eq_iff_iff]; simp; done)
      | (rw [← hb, Bool.eq_iff_iff]; simp; omega)

/-! ### Token -/
theorem all_take_succ {p : UInt8 → Bool} {l : List UInt8} {k : Nat} (hk : k < l.length) : (l.take (k + 1)).all p = ((l.take k).all p && p l[k]) := by
  rw [List.take_succ_eq_append_getElem hk, List.all_append]
  simp
theorem all_false_of {p : UInt8 → Bool} {l : List UInt8} {k : Nat} (hk : k < l.length) (h : p l[k] = false) : l.all p = false := by
  rw [List.all_eq_false]
  exact ⟨l[k], List.getElem_mem hk, by simp [h]⟩
theorem sign_of (c : UInt8) (b : Bool) (h : signB c = b) (w : World) :
    Calls Try.prog 92 #[.int .u8 (c.toNat : Int)] w fun e w' => e = .returned (.bool b) ∧ w = w' := by
  rw [← h]
  exact sign_any c w
set_option maxHeartbeats 1000000 in
theorem token_any (s : ByteArray) (w : World) (hs : s.size ≤ maxLen) :
    Calls Try.prog 84 #[.string s] w fun e w' => e = .returned (.bool (tokB s.data.toList)) ∧ w = w' := by
  unfold maxLen at hs
  go_enter Try.func84, Try.ntmps84
  go_wp2_with fail
  go_loop [3, 6] (fun _ vk => ∃ k : Nat, k ≤ s.size ∧ vk = .int .i64 (k : Int) ∧ Hid ((s.data.toList.take k).all signB = true)) (fun _ vk => s.size - (intOf vk).toNat)
  case atStart => exact ⟨0, by omega, by go_num, Lib.hid (by simp)⟩
  case round =>
    obtain ⟨k, hk, rfl, HK⟩ := hrel
    by_cases hlt : k < s.size
    · have hkl : k < s.data.toList.length := by rw [size_len]; exact hlt
      have hsn := all_take_succ (p := signB) hkl
      rw [HK.out, Bool.true_and] at hsn
      obtain ⟨b, hb⟩ : ∃ b, signB s.data.toList[k] = b := ⟨_, rfl⟩
      rw [hb] at hsn
      have HSN := Lib.hid hsn
      have HS := Lib.hid (sign_of s.data.toList[k] b hb)
      have HF : Hid (b = false → s.data.toList.all signB = false) := Lib.hid fun e => all_false_of hkl (by rw [hb, e])
      clear hsn hb
      cases b
      · go_wp2_with (go_at_call 92; refine (HS.out _).mono ?_; rintro e w1 ⟨rfl, rfl⟩)
        go_ret
        refine ⟨ret_bool ?_, rfl⟩
        unfold tokB
        rw [HF.out (by first | rfl | trivial)]
        rfl
      · go_wp2_with (go_at_call 92; refine (HS.out _).mono ?_; rintro e w1 ⟨rfl, rfl⟩)
        go_round
        case rel => exact ⟨k + 1, by omega, by go_num, HSN⟩
        case measure => simp [intOf]; omega
    · have hkk : s.data.toList.take k = s.data.toList := List.take_of_length_le (by rw [size_len]; omega)
      rw [hkk] at HK
      go_wp2_with fail
      go_ret
      refine ⟨ret_bool ?_, rfl⟩
      unfold tokB
      rw [HK.out, Lib.toList_data, Bool.true_and]

/-! ### Lower -/
/-- The first cells of block g are the bytes l; they can be written. -/
structure Cb (w : World) (g : Nat) (l : List UInt8) : Prop where
  cell : ∀ i (h : i < l.length), w.cell? ⟨g, i, none⟩ = some (.int .u8 (l[i].toNat : Int))
  free : ∀ i, i < l.length → w.frozen? ⟨g, i, none⟩ = false
  lt : g < w.heap.size
theorem Cb.put {w : World} {g : Nat} {l : List UInt8} (h : Cb w g l) {i : Nat} (hi : i < l.length) (c : UInt8) : Cb (w.setCell ⟨g, i, none⟩ (.int .u8 (c.toNat : Int))) g (l.set i c) where
  cell j hj := by
    have hj' : j < l.length := by rw [List.length_set] at hj; exact hj
    by_cases e : j = i
    · subst e
      rw [World.cell?_setCell_same _ _ _ (h.cell j hj')]
      simp
    · rw [World.cell?_setCell_other _ _ _ _ (fun h => e (congrArg Addr.off h).symm), h.cell j hj', List.getElem_set_ne (Ne.symm e)]
  free j hj := by
    rw [List.length_set] at hj
    rw [World.frozen?_setCell]
    exact h.free j hj
  lt := by simpa [World.setCell] using h.lt
theorem Cb.of_bytes (w : World) (s : ByteArray) : Cb (Lib.bytesWorld w 5 s) w.heap.size s.data.toList where
  cell i hi := by
    rw [Lib.bytesWorld_cell w 5 s i (by rw [size_len] at hi; exact hi)]
    simp [List.getD, List.getElem?_eq_getElem hi]
  free i hi := by
    have hz : i < (Lib.bytesCells w 5 s).size := by
      rw [size_len] at hi
      have : s.data.size = s.size := rfl
      simp [Lib.bytesCells]
      omega
    simp only [World.frozen?, Lib.bytesWorld_at_new]
    simp
    omega
  lt := by rw [Lib.bytesWorld_size]; omega
theorem aft_bytes (w : World) (s : ByteArray) : Aft w (Lib.bytesWorld w 5 s) :=
  ⟨rfl, rfl, rfl, by rw [Lib.bytesWorld_size]; omega, fun k hk => Lib.bytesWorld_at_old w _ s k hk⟩
theorem Cb.string {w : World} {g cap : Nat} {l : List UInt8} (h : Cb w g l) : (convert 81 9 (.slice (some ⟨g, 0, none⟩) l.length cap)).run Try.prog w = .ok (.string ⟨l.toArray⟩) w :=
  run_convert_bytes_back (P := Try.prog) w 81 9 5 ⟨g, 0, none⟩ cap l Try.underlying81 Try.underlying5 Try.underlying9 (fun j hj => by
    rw [show (⟨g, 0, none⟩ : Addr).add j = ⟨g, j, none⟩ by simp [Addr.add]; omega]
    exact h.cell j hj)
def lowTo (l : List UInt8) (k : Nat) : List UInt8 := (l.take k).map lowC ++ l.drop k
theorem lowTo_len (l : List UInt8) (k : Nat) : (lowTo l k).length = l.length := by simp [lowTo]; omega
theorem lowTo_get {l : List UInt8} {k : Nat} (hk : k < l.length) : (lowTo l k)[k]'(by rw [lowTo_len]; exact hk) = l[k] := by
  unfold lowTo
  rw [List.getElem_append_right (by simp; omega)]
  simp
  congr 1
  omega
theorem lowTo_set {l : List UInt8} {k : Nat} (hk : k < l.length) : (lowTo l k).set k (lowC l[k]) = lowTo l (k + 1) := by
  unfold lowTo
  have hl : ((l.take k).map lowC).length = k := by simp; omega
  rw [List.set_append_right _ _ (by omega), hl, Nat.sub_self, List.drop_eq_getElem_cons hk, List.set_cons_zero, List.take_succ_eq_append_getElem hk, List.map_append, List.map_cons, List.map_nil, List.append_assoc]
  rfl
theorem lowTo_same {l : List UInt8} {k : Nat} (hk : k < l.length) (h : lowC l[k] = l[k]) : lowTo l k = lowTo l (k + 1) := by
  have := lowTo_set hk
  rw [h] at this
  rw [← this]
  apply List.ext_getElem?
  intro j
  rw [List.getElem?_set]
  by_cases e : k = j
  · subst e
    rw [if_pos rfl, if_pos (by rw [lowTo_len]; exact hk), List.getElem?_eq_getElem (by rw [lowTo_len]; exact hk), lowTo_get hk]
  · rw [if_neg e]
theorem lowC_up {c : UInt8} (h : 65 ≤ c.toNat ∧ c.toNat ≤ 90) : ((lowC c).toNat : Int) = (c.toNat : Int) + 32 := by
  unfold lowC
  rw [if_pos h, UInt8.toNat_ofNat']
  omega
theorem lowC_no {c : UInt8} (h : ¬ (65 ≤ c.toNat ∧ c.toNat ≤ 90)) : lowC c = c := by
  unfold lowC
  rw [if_neg h]

set_option maxHeartbeats 1000000 in
theorem lower_any (s : ByteArray) (w : World) (hs : s.size ≤ maxLen) :
    Calls Try.prog 85 #[.string s] w fun e w' => e = .returned (.string ⟨(lowerL s.data.toList).toArray⟩) ∧ Aft w w' := by
  unfold maxLen at hs
  have hcv := Lib.run_convert_string_bytes (P := Try.prog) w 9 81 5 s Try.underlying9 Try.underlying81 Try.underlying5
  have hc0 := Cb.of_bytes w s
  have ha0 := aft_bytes w s
  obtain ⟨G, hG⟩ : ∃ G, w.heap.size = G := ⟨_, rfl⟩
  rw [hG] at hcv hc0
  generalize Lib.bytesWorld w 5 s = W0 at *
  generalize grownCap w s.size 0 5 = K at *
  have HG := Lib.hid hG
  have HC0 := Lib.hid hc0
  clear hG hc0
  go_enter Try.func85, Try.ntmps85
  go_wp2_with fail
  have hb0 : Below G w W0 := by have := ha0; unfold Aft at this; rw [HG.out] at this; exact this
  clear hcv ha0
  go_loopw [4, 5, 10] (fun _ _ vk wr => ∃ k : Nat, k ≤ s.size ∧ vk = .int .i64 (k : Int) ∧ Hid (Cb wr G (lowTo s.data.toList k)) ∧ Below G w wr) (fun _ _ vk _ => s.size - (intOf vk).toNat)
  case atStart => exact ⟨0, by omega, by go_num, by simpa [lowTo] using HC0, hb0⟩
  case round =>
    obtain ⟨k, hk, rfl, HC, hbel⟩ := hrel
    by_cases hlt : k < s.size
    · have hkl : k < s.data.toList.length := by rw [size_len]; exact hlt
      have hkl2 : k < (lowTo s.data.toList k).length := by rw [lowTo_len]; exact hkl
      have hcl := HC.out.cell k hkl2
      rw [lowTo_get hkl] at hcl
      have hfr := HC.out.free k hkl2
      have c0 : 0 ≤ (s.data.toList[k].toNat : Int) := by omega
      have c1 : (s.data.toList[k].toNat : Int) ≤ 255 := by have := (s.data.toList[k]).toNat_lt; omega
      by_cases hup : 65 ≤ s.data.toList[k].toNat ∧ s.data.toList[k].toNat ≤ 90
      · have hset := HC.out.put hkl2 (lowC s.data.toList[k])
        rw [lowTo_set hkl, lowC_up hup] at hset
        have u0 : 65 ≤ (s.data.toList[k].toNat : Int) := by omega
        have u1 : (s.data.toList[k].toNat : Int) ≤ 90 := by omega
        have HS := Lib.hid hset
        clear hset hup
        generalize (s.data.toList[k].toNat : Int) = n at *
        go_wp2_with fail
        go_roundw
        case rel => exact ⟨k + 1, by omega, by go_num, HS, hbel.setCell (Nat.le_refl _) _⟩
        case measure => simp [intOf]; omega
      · have hs2 := lowTo_same hkl (lowC_no hup)
        rw [hs2] at HC
        have hn : ¬ (65 ≤ (s.data.toList[k].toNat : Int) ∧ (s.data.toList[k].toNat : Int) ≤ 90) := by omega
        clear hup hs2
        generalize (s.data.toList[k].toNat : Int) = n at *
        by_cases hn1 : n < 65
        · go_wp2_with fail
          go_roundw
          case rel => exact ⟨k + 1, by omega, by go_num, HC, hbel⟩
          case measure => simp [intOf]; omega
        · have hn2 : 90 < n := by omega
          go_wp2_with fail
          go_roundw
          case rel => exact ⟨k + 1, by omega, by go_num, HC, hbel⟩
          case measure => simp [intOf]; omega
    · have hke : k = s.size := by omega
      have hfull : lowTo s.data.toList k = lowerL s.data.toList := by
        unfold lowTo lowerL
        rw [List.take_of_length_le (by rw [size_len]; omega), List.drop_eq_nil_of_le (by rw [size_len]; omega), List.append_nil]
      rw [hfull] at HC
      have hcs := HC.out.string (cap := K)
      rw [show (lowerL s.data.toList).length = s.size by unfold lowerL; rw [List.length_map, size_len]] at hcs
      clear hfull
      go_wp2_with fail
      go_ret
      exact ⟨rfl, by unfold Aft; rw [HG.out]; exact hbel⟩

end Go.Proofs.Ytdcdckjdloddiaa
namespace Go.Proofs.Ytdcdckjdloddiaa
open Go.RowKit

theorem trimR_snoc_no {l : List UInt8} {c : UInt8} (h : blankB c = false) : trimR (l ++ [c]) = l ++ [c] := by
  unfold trimR
  rw [List.reverse_append, List.reverse_singleton, List.singleton_append, List.dropWhile_cons, if_neg (by simp [h])]
  simp
theorem trimR_snoc_yes {l : List UInt8} {c : UInt8} (h : blankB c = true) : trimR (l ++ [c]) = trimR l := by
  unfold trimR
  rw [List.reverse_append, List.reverse_singleton, List.singleton_append, List.dropWhile_cons, if_pos h]
theorem trimR_nil : trimR [] = [] := rfl
theorem snoc_of {l : List UInt8} {n : Nat} (h : l.length = n + 1) : l = l.take n ++ [l[n]'(by omega)] := by
  have := List.take_succ_eq_append_getElem (l := l) (i := n) (by omega)
  rw [← this, List.take_of_length_le (by omega)]
theorem blank_of (c : UInt8) (b : Bool) (h : blankB c = b) (w : World) :
    Calls Try.prog 91 #[.int .u8 (c.toNat : Int)] w fun e w' => e = .returned (.bool b) ∧ w = w' := by
  rw [← h]
  exact blank_any c w
theorem mk_toList (s : ByteArray) : (⟨s.data.toList.toArray⟩ : ByteArray) = s := by cases s; rfl
theorem ne_empty {t : ByteArray} (h : 0 < t.size) : t.toList.isEmpty = false := by
  rw [Lib.toList_data]
  have := size_len t
  cases ht : t.data.toList with
  | nil => rw [ht] at this; simp at this; omega
  | cons a r => rfl
theorem is_empty {t : ByteArray} (h : t.size = 0) : t.toList.isEmpty = true ∧ t.data.toList = [] := by
  have h2 := size_len t
  rw [h] at h2
  have := List.eq_nil_of_length_eq_zero h2
  exact ⟨by rw [Lib.toList_data, this]; rfl, this⟩

set_option maxHeartbeats 2000000 in
theorem trim_same (s : ByteArray) (w : World) (hs : s.size ≤ maxLen) :
    Calls Try.prog 82 #[.string s] w fun e w' => e = .returned (.string ⟨(trimL s.data.toList).toArray⟩) ∧ w' = w := by
  unfold maxLen at hs
  go_enter Try.func82, Try.ntmps82
  go_wp2_with fail
  go_loopw [0] (fun v wr => ∃ t : ByteArray, v = .string t ∧ t.size ≤ s.size ∧ Hid (t.data.toList.dropWhile blankB = s.data.toList.dropWhile blankB) ∧ Hid (wr = w)) (fun v _ => match v with | .string t => t.size | _ => 0)
  case atStart => exact ⟨s, rfl, Nat.le_refl _, Lib.hid rfl, Lib.hid rfl⟩
  case round =>
    obtain ⟨t, rfl, ht, HT, hw⟩ := hrel
    by_cases h0 : 0 < t.size
    · have hne := ne_empty h0
      have hsz := size_len t
      obtain ⟨b, hb⟩ : ∃ b, blankB (t[0]) = b := ⟨_, rfl⟩
      have HBl := Lib.hid (blank_of (t[0]) b hb)
      have hcons : t.data.toList = t[0] :: t.data.toList.drop 1 := by
        have := List.drop_eq_getElem_cons (l := t.data.toList) (i := 0) (by omega)
        rw [List.drop_zero] at this
        exact this
      cases b
      · have hend : t.data.toList = s.data.toList.dropWhile blankB := by
          have := HT.out
          rw [hcons, List.dropWhile_cons, if_neg (by simp [hb]), ← hcons] at this
          exact this
        have HE : Hid (trimR t.data.toList = trimL s.data.toList) := Lib.hid (by rw [hend]; rfl)
        clear hend hb hcons
        go_wp2_with (go_at_call 91; refine (HBl.out _).mono ?_; rintro e w1 ⟨rfl, rfl⟩)
        go_loopw [0] (fun v wr => ∃ u : ByteArray, v = .string u ∧ u.size ≤ s.size ∧ Hid (trimR u.data.toList = trimL s.data.toList) ∧ Hid (wr = w)) (fun v _ => match v with | .string t => t.size | _ => 0)
        case atStart => exact ⟨t, rfl, ht, HE, hw⟩
        case round =>
          obtain ⟨u, rfl, hu, HU, hw2⟩ := hrel
          by_cases h1 : 0 < u.size
          · have hne2 := ne_empty h1
            have hsz2 := size_len u
            have hsnoc := snoc_of (l := u.data.toList) (n := u.size - 1) (by omega)
            have hge : u[u.size - 1] = u.data.toList[u.size - 1]'(by omega) := rfl
            rw [← hge] at hsnoc
            obtain ⟨b, hb⟩ : ∃ b, blankB (u[u.size - 1]) = b := ⟨_, rfl⟩
            have HBl2 := Lib.hid (blank_of (u[u.size - 1]) b hb)
            have e1 : (u.size : Int) - 1 = ((u.size - 1 : Nat) : Int) := by omega
            cases b
            · have hend : u.data.toList = trimL s.data.toList := by
                have h2 := HU.out
                rw [hsnoc, trimR_snoc_no hb, ← hsnoc] at h2
                exact h2
              have HE2 := Lib.hid hend
              clear hend hb hsnoc hge
              go_wp2_with (go_at_call 91; refine (HBl2.out _).mono ?_; rintro e w1 ⟨rfl, rfl⟩)
              go_ret
              rw [← HE2.out, mk_toList]
              exact ⟨rfl, hw2.out⟩
            · have hnext : trimR (u.extract 0 (u.size - 1)).data.toList = trimL s.data.toList := by
                rw [← HU.out, extract_front]
                conv => rhs; rw [hsnoc, trimR_snoc_yes hb]
              have hz2 : (u.extract 0 (u.size - 1)).size = u.size - 1 := by rw [ByteArray.size_extract]; omega
              have HN2 := Lib.hid hnext
              have HZ2 := Lib.hid hz2
              clear hnext hb hsnoc hge hz2
              go_wp2_with (go_at_call 91; refine (HBl2.out _).mono ?_; rintro e w1 ⟨rfl, rfl⟩)
              go_roundw
              case rel => exact ⟨_, rfl, by rw [HZ2.out]; omega, HN2, hw2⟩
              case measure => simp only; rw [HZ2.out]; omega
          · obtain ⟨he1, he2⟩ := is_empty (t := u) (by omega)
            have hend : u.data.toList = trimL s.data.toList := by
              rw [← HU.out, he2]
              rfl
            have HE2 := Lib.hid hend
            clear hend he2
            go_wp2_with fail
            go_ret
            rw [← HE2.out, mk_toList]
            exact ⟨rfl, hw2.out⟩
      · have hnext : (t.extract 1 t.size).data.toList.dropWhile blankB = s.data.toList.dropWhile blankB := by
          rw [← HT.out, extract_end]
          conv => rhs; rw [hcons, List.dropWhile_cons, if_pos hb]
        have HN := Lib.hid hnext
        have hz2 : (t.extract 1 t.size).size = t.size - 1 := by rw [ByteArray.size_extract]; omega
        have HZ := Lib.hid hz2
        clear hnext hb hcons hz2
        go_wp2_with (go_at_call 91; refine (HBl.out _).mono ?_; rintro e w1 ⟨rfl, rfl⟩)
        go_roundw
        case rel => exact ⟨_, rfl, by rw [HZ.out]; omega, HN, hw⟩
        case measure => simp only; rw [HZ.out]; omega
    · obtain ⟨he1, he2⟩ := is_empty (t := t) (by omega)
      have HE : Hid (trimR t.data.toList = trimL s.data.toList) := Lib.hid (by
        unfold trimL
        rw [← HT.out, he2]
        rfl)
      clear he2
      go_wp2_with fail
      go_loopw [0] (fun v wr => ∃ u : ByteArray, v = .string u ∧ u.size ≤ s.size ∧ Hid (trimR u.data.toList = trimL s.data.toList) ∧ Hid (wr = w)) (fun v _ => match v with | .string t => t.size | _ => 0)
      case atStart => exact ⟨t, rfl, ht, HE, hw⟩
      case round =>
        obtain ⟨u, rfl, hu, HU, hw2⟩ := hrel
        by_cases h1 : 0 < u.size
        · have hne2 := ne_empty h1
          have hsz2 := size_len u
          have hsnoc := snoc_of (l := u.data.toList) (n := u.size - 1) (by omega)
          have hge : u[u.size - 1] = u.data.toList[u.size - 1]'(by omega) := rfl
          rw [← hge] at hsnoc
          obtain ⟨b, hb⟩ : ∃ b, blankB (u[u.size - 1]) = b := ⟨_, rfl⟩
          have HBl2 := Lib.hid (blank_of (u[u.size - 1]) b hb)
          have e1 : (u.size : Int) - 1 = ((u.size - 1 : Nat) : Int) := by omega
          cases b
          · have hend : u.data.toList = trimL s.data.toList := by
              have h2 := HU.out
              rw [hsnoc, trimR_snoc_no hb, ← hsnoc] at h2
              exact h2
            have HE2 := Lib.hid hend
            clear hend hb hsnoc hge
            go_wp2_with (go_at_call 91; refine (HBl2.out _).mono ?_; rintro e w1 ⟨rfl, rfl⟩)
            go_ret
            rw [← HE2.out, mk_toList]
            exact ⟨rfl, hw2.out⟩
          · have hnext : trimR (u.extract 0 (u.size - 1)).data.toList = trimL s.data.toList := by
              rw [← HU.out, extract_front]
              conv => rhs; rw [hsnoc, trimR_snoc_yes hb]
            have hz2 : (u.extract 0 (u.size - 1)).size = u.size - 1 := by rw [ByteArray.size_extract]; omega
            have HN2 := Lib.hid hnext
            have HZ2 := Lib.hid hz2
            clear hnext hb hsnoc hge hz2
            go_wp2_with (go_at_call 91; refine (HBl2.out _).mono ?_; rintro e w1 ⟨rfl, rfl⟩)
            go_roundw
            case rel => exact ⟨_, rfl, by rw [HZ2.out]; omega, HN2, hw2⟩
            case measure => simp only; rw [HZ2.out]; omega
        · obtain ⟨he1, he2⟩ := is_empty (t := u) (by omega)
          have hend : u.data.toList = trimL s.data.toList := by
            rw [← HU.out, he2]
            rfl
          have HE2 := Lib.hid hend
          clear hend he2
          go_wp2_with fail
          go_ret
          rw [← HE2.out, mk_toList]
          exact ⟨rfl, hw2.out⟩

theorem trim_any (s : ByteArray) (w : World) (hs : s.size ≤ maxLen) :
    Calls Try.prog 82 #[.string s] w fun e w' => e = .returned (.string ⟨(trimL s.data.toList).toArray⟩) ∧ Aft w w' :=
  (trim_same s w hs).mono fun _ _ ⟨he, hw⟩ => ⟨he, by rw [hw]; exact Aft.refl _⟩

/-! ### quoted -/
def qres (o : Option Nat) (a : Nat) : Value := match o with | none => .tuple #[.int .i64 0, .bool false] | some n => .tuple #[.int .i64 ((a + n : Nat) : Int), .bool true]
theorem q_esc {l : List UInt8} {i : Nat} (hi : i < l.length) (h : l[i] = 92) : qend (l.drop i) = (qend (l.drop (i + 2))).map (· + 2) := by
  rw [List.drop_eq_getElem_cons hi]
  conv => lhs; unfold qend
  rw [if_pos h]
  by_cases h2 : i + 1 < l.length
  · rw [List.drop_eq_getElem_cons h2]
  · rw [List.drop_eq_nil_of_le (by omega : l.length ≤ i + 1), List.drop_eq_nil_of_le (by omega : l.length ≤ i + 2)]
    rfl
theorem q_end {l : List UInt8} {i : Nat} (hi : i < l.length) (h : l[i] = 34) : qend (l.drop i) = some 1 := by
  rw [List.drop_eq_getElem_cons hi]
  unfold qend
  rw [if_neg (by rw [h]; decide), if_pos h]
theorem q_other {l : List UInt8} {i : Nat} (hi : i < l.length) (h : l[i] ≠ 92) (h2 : l[i] ≠ 34) : qend (l.drop i) = (qend (l.drop (i + 1))).map (· + 1) := by
  rw [List.drop_eq_getElem_cons hi]
  conv => lhs; unfold qend
  rw [if_neg h, if_neg h2]
theorem byte_eq {c d : UInt8} : c = d ↔ (c.toNat : Int) = (d.toNat : Int) := by
  rw [← UInt8.toNat_inj]
  omega
set_option maxHeartbeats 1000000 in
theorem quoted_any (s : ByteArray) (a : Nat) (w : World) (hs : s.size ≤ 1000000000000) (ha : a < s.size) :
    Calls Try.prog 83 #[.string s, .int .i64 (a : Int)] w fun e w' => e = .returned (qres (qend (s.data.toList.drop (a + 1))) (a + 1)) ∧ w = w' := by
  go_enter Try.func83, Try.ntmps83
  go_wp2_with fail
  go_loop [6] (fun vi => ∃ i : Nat, a + 1 ≤ i ∧ i ≤ s.size + 1 ∧ vi = .int .i64 (i : Int) ∧ Hid (qend (s.data.toList.drop (a + 1)) = (qend (s.data.toList.drop i)).map (· + (i - (a + 1))))) (fun vi => s.size + 2 - (intOf vi).toNat)
  case atStart => exact ⟨a + 1, by omega, by omega, by go_num, Lib.hid (by simp)⟩
  case round =>
    obtain ⟨i, hi, hi2, rfl, HJ⟩ := hrel
    by_cases hlt : i < s.size
    · have hil : i < s.data.toList.length := by rw [size_len]; exact hlt
      have H92 : Hid (((s[i].toNat : Int) == 92) = true → qend (s.data.toList.drop (a + 1)) = (qend (s.data.toList.drop (i + 2))).map (· + (i + 2 - (a + 1)))) := Lib.hid fun h => by
        have hq := q_esc hil (byte_eq.2 (by have := eq_of_beq h; exact this))
        rw [HJ.out, hq, Option.map_map]
        congr 1
        funext x
        simp
        omega
      have H34 : Hid (((s[i].toNat : Int) == 34) = true → qend (s.data.toList.drop (a + 1)) = some (i + 1 - (a + 1))) := Lib.hid fun h => by
        have hq := q_end hil (byte_eq.2 (by have := eq_of_beq h; exact this))
        rw [HJ.out, hq]
        simp
        omega
      have Hno : Hid (((s[i].toNat : Int) == 92) = false → ((s[i].toNat : Int) == 34) = false → qend (s.data.toList.drop (a + 1)) = (qend (s.data.toList.drop (i + 1))).map (· + (i + 1 - (a + 1)))) := Lib.hid fun h h2 => by
        have hq := q_other hil (fun e => by have := byte_eq.1 e; exact ne_of_beq_false h this) (fun e => by have := byte_eq.1 e; exact ne_of_beq_false h2 this)
        rw [HJ.out, hq, Option.map_map]
        congr 1
        funext x
        simp
        omega
      clear HJ
      go_wp2_with fail
      · have h : ((s[i].toNat : Int) == 92) = true := by assumption
        have HN := Lib.hid (H92.out h)
        clear h H92 H34 Hno
        go_round
        case rel => exact ⟨i + 2, by omega, by omega, by go_num, HN⟩
        case measure => simp [intOf]; omega
      · have h : ((s[i].toNat : Int) == 34) = true := by assumption
        have hr := H34.out h
        go_ret2
        rw [hr]
        refine ⟨?_, rfl⟩
        have e : ((a + 1 + (i + 1 - (a + 1)) : Nat) : Int) = (i : Int) + 1 := by omega
        unfold qres
        simp only [e]
        rfl
      · have h : ((s[i].toNat : Int) == 92) = false := by assumption
        have h2 : ((s[i].toNat : Int) == 34) = false := by assumption
        have HN := Lib.hid (Hno.out h h2)
        clear h h2 H92 H34 Hno
        go_round
        case rel => exact ⟨i + 1, by omega, by omega, by go_num, HN⟩
        case measure => simp [intOf]; omega
    · have hr : qend (s.data.toList.drop (a + 1)) = none := by
        rw [HJ.out, List.drop_eq_nil_of_le (by rw [size_len]; omega)]
        rfl
      have HR := Lib.hid hr
      clear hr
      go_wp2_with fail
      go_ret2
      rw [HR.out]
      exact ⟨rfl, rfl⟩

end Go.Proofs.Ytdcdckjdloddiaa
