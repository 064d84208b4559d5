/-
  The walk of huff.Encode.
-/
import Derived.Test.YtmlnboibclfmcaaDoorHuffSym
import Derived.Test.YtmlnboibclfmcaaDoorBuf
namespace Go.Proofs.YtmlnboibclfmcaaDoor
open Go.RowKit

def emitF : Nat → Int → Nat → List UInt8 → Nat × List UInt8
  | 0, _, n, o => (n, o)
  | f + 1, left, n, o => if 8 ≤ n then emitF f left (n - 8) (o ++ [byteOf (left / 2 ^ (n - 8) % 256)]) else (n, o)
def encStep (st : Int × Nat × List UInt8) (x : UInt8) : Int × Nat × List UInt8 :=
  let sz := (Hp.lenF (x.toNat : Int)).toNat
  let left := st.1 * 2 ^ sz % 18446744073709551616 + codeF x.toNat
  (left, emitF 5 left (st.2.1 + sz) st.2.2)
def encSt (l : List UInt8) : Int × Nat × List UInt8 := l.foldl encStep (0, 0, [])
def encF (l : List UInt8) : List UInt8 :=
  if 0 < (encSt l).2.1 then (encSt l).2.2 ++ [byteOf ((encSt l).1 * 2 ^ (8 - (encSt l).2.1) % 256 + (2 ^ (8 - (encSt l).2.1) - 1))] else (encSt l).2.2
theorem encSt_snoc (l : List UInt8) (x : UInt8) : encSt (l ++ [x]) = encStep (encSt l) x := by
  unfold encSt
  rw [List.foldl_append]
  rfl
theorem byte_code (c : UInt8) : 0 ≤ codeF c.toNat ∧ codeF c.toNat ≤ 4294967296 := code_bd _ (by have := c.toNat_lt; omega)

theorem code_lt : ∀ k, k < 257 → codeF k < 2 ^ Hp.lensL.getD k 0 := by decide +kernel
theorem wraps_u64 (n : Int) (h₀ : 0 ≤ n) (h₁ : n < 2 ^ 64) : IntKind.u64.wrap n = n := by
  rw [IntKind.wrap_u64]
  omega
theorem two_dvd {sz : Nat} (hsz : sz ≤ 30) : ((2 : Int) ^ sz) ∣ 18446744073709551616 := by
  have : (18446744073709551616 : Int) = 2 ^ sz * 2 ^ (64 - sz) := by
    rw [← Int.pow_add, show sz + (64 - sz) = 64 by omega]
    rfl
  exact ⟨_, this⟩
theorem shl_dvd (left : Int) {sz : Nat} (hsz : sz ≤ 30) : ((2 : Int) ^ sz) ∣ left * 2 ^ sz % 18446744073709551616 := by
  obtain ⟨q, hq⟩ := two_dvd hsz
  have h := Int.emod_add_mul_ediv (left * 2 ^ sz) 18446744073709551616
  refine ⟨left - q * (left * 2 ^ sz / 18446744073709551616), ?_⟩
  rw [Int.mul_sub, ← Int.mul_assoc, ← hq, Int.mul_comm (2 ^ sz) left]
  omega
theorem shl_or {left c : Int} {sz : Nat} (_ : 0 ≤ left) (hsz : sz ≤ 30) (c0 : 0 ≤ c) (c1 : c < 2 ^ sz) :
    bits .or .u64 (IntKind.u64.wrap (left * 2 ^ sz)) c = left * 2 ^ sz % 18446744073709551616 + c := by
  rw [IntKind.wrap_u64]
  have hp : (2 : Int) ^ sz ≤ 2 ^ 30 := by
    have h1 : (2 : Nat) ^ sz ≤ 2 ^ 30 := Nat.pow_le_pow_right (by decide) hsz
    exact_mod_cast h1
  exact bits_join .u64 64 (by decide) wraps_u64 sz _ c (by omega) (Int.emod_eq_zero_of_dvd (shl_dvd left hsz)) (by omega) c0 c1 (by omega)
theorem shl_lt (left : Int) {c : Int} {sz : Nat} (hsz : sz ≤ 30) (c1 : c < 2 ^ sz) : left * 2 ^ sz % 18446744073709551616 + c < 18446744073709551616 := by
  have h1 := shl_dvd left hsz
  have h2 := Int.dvd_sub (two_dvd hsz) h1
  have h3 := Int.le_of_dvd (by omega) h2
  omega

theorem last_byte {left : Int} {n : Nat} (_ : 0 ≤ left) (n0 : 0 < n) (n1 : n ≤ 7) : bits .or .u8 (IntKind.u64.wrap (left * 2 ^ (8 - n)) % 256) (255 / 2 ^ n) = left * 2 ^ (8 - n) % 256 + (2 ^ (8 - n) - 1) ∧ 0 ≤ left * 2 ^ (8 - n) % 256 + (2 ^ (8 - n) - 1) ∧ left * 2 ^ (8 - n) % 256 + (2 ^ (8 - n) - 1) < 256 := by
  rw [IntKind.wrap_u64]
  have hc : n = 1 ∨ n = 2 ∨ n = 3 ∨ n = 4 ∨ n = 5 ∨ n = 6 ∨ n = 7 := by omega
  rcases hc with rfl | rfl | rfl | rfl | rfl | rfl | rfl
  · have := bits_join .u8 8 (by decide) wraps_u8 7 (left * 2 ^ 7 % 18446744073709551616 % 256) 127 (by omega) (by omega) (by omega) (by omega) (by omega) (by omega)
    exact ⟨this.trans (by omega), by omega, by omega⟩
  · have := bits_join .u8 8 (by decide) wraps_u8 6 (left * 2 ^ 6 % 18446744073709551616 % 256) 63 (by omega) (by omega) (by omega) (by omega) (by omega) (by omega)
    exact ⟨this.trans (by omega), by omega, by omega⟩
  · have := bits_join .u8 8 (by decide) wraps_u8 5 (left * 2 ^ 5 % 18446744073709551616 % 256) 31 (by omega) (by omega) (by omega) (by omega) (by omega) (by omega)
    exact ⟨this.trans (by omega), by omega, by omega⟩
  · have := bits_join .u8 8 (by decide) wraps_u8 4 (left * 2 ^ 4 % 18446744073709551616 % 256) 15 (by omega) (by omega) (by omega) (by omega) (by omega) (by omega)
    exact ⟨this.trans (by omega), by omega, by omega⟩
  · have := bits_join .u8 8 (by decide) wraps_u8 3 (left * 2 ^ 3 % 18446744073709551616 % 256) 7 (by omega) (by omega) (by omega) (by omega) (by omega) (by omega)
    exact ⟨this.trans (by omega), by omega, by omega⟩
  · have := bits_join .u8 8 (by decide) wraps_u8 2 (left * 2 ^ 2 % 18446744073709551616 % 256) 3 (by omega) (by omega) (by omega) (by omega) (by omega) (by omega)
    exact ⟨this.trans (by omega), by omega, by omega⟩
  · have := bits_join .u8 8 (by decide) wraps_u8 1 (left * 2 ^ 1 % 18446744073709551616 % 256) 1 (by omega) (by omega) (by omega) (by omega) (by omega) (by omega)
    exact ⟨this.trans (by omega), by omega, by omega⟩

set_option maxHeartbeats 2000000 in
theorem encode_any (s : ByteArray) (w : World) (hs : s.size ≤ 100000000000) :
    Calls Tryd.prog 92 #[.string s] w fun e w' => ∃ v, e = .returned v ∧ Own w' w.heap.size v (encF s.data.toList) ∧ Aft w w' := by
  have hsz := sizeSum_bd s.data.toList
  rw [size_len] at hsz
  obtain ⟨S, hS⟩ := Int.eq_ofNat_of_zero_le (show 0 ≤ sizeF s.data.toList by unfold sizeF; omega)
  have hS1 : S ≤ 4000000000000 := by unfold sizeF at hS; omega
  have HSZ := Lib.hid hS
  clear hS hsz
  obtain ⟨i0, hi, hz0, hz1, hz2⟩ := info_parts info8
  go_enter Tryd.func92, Tryd.ntmps92
  go_wp2_with fail
  refine (made_any _).mono ?_
  rintro e w1 ⟨rfl, hA, ha⟩
  go_wp2_with fail
  refine (size_any s (by omega) _).mono ?_
  rintro e w2 ⟨rfl, ha2⟩
  rw [HSZ.out]
  have hA2 := hA.aft ha2
  have hB2 : Below w1.heap.size w1 w2 := ha2
  have hb2 : i0.bytes * S ≤ 281474976710656 := by rw [hz2]; omega
  have hb3 : S ≤ maxLen := by unfold maxLen; omega
  go_wp2_with (at_make; refine wpList_make_own w2 rfl _ _ 54 rfl w1.heap.size 5 i0 (.int .u8 0) 1 Tryd.underlying54 hi hz0 hz1 .i64 .i64 _ S rfl rfl rfl hb2 hb3 ha2.size ?_; intro w3 hown3 hg3)
  have hO3 : Own w3 w1.heap.size (.slice (some ⟨w2.heap.size, 0, none⟩) 0 S) [] := hown3
  have hB3 : Below w1.heap.size w1 w3 := Below.grown hB2 hg3 ha2.size (fun k hk => by cases hk)
  clear hown3 hg3 hA2 hi hz0 hz1 hz2 hb2 hb3
  generalize (Value.slice (some ⟨w2.heap.size, 0, none⟩) 0 S) = v0 at *
  have hzb : w.heap.size < w1.heap.size := hA.hb
  generalize hbb : w.heap.size = b at *
  have HBB := Lib.hid hbb
  clear hbb
  go_loopw [4, 5, 6, 7, 8, 15] (fun vo vl vn _ _ vk wr => ∃ (k n : Nat) (left : Int) (o : List UInt8), k ≤ s.size ∧ vk = .int .i64 (k : Int) ∧ vl = .int .u64 left ∧ vn = .int .i64 (n : Int) ∧ n ≤ 7 ∧ 0 ≤ left ∧ left < 18446744073709551616 ∧ o.length ≤ 5 * k ∧ Hid (encSt (s.data.toList.take k) = (left, n, o)) ∧ Own wr w1.heap.size vo o ∧ Below w1.heap.size w1 wr) (fun _ _ _ _ _ vk _ => s.size - (intOf vk).toNat)
  case atStart => exact ⟨0, 0, 0, [], by omega, by go_num, rfl, by go_num, by omega, by omega, by omega, by simp, Lib.hid rfl, hO3, hB3⟩
  case round =>
    obtain ⟨k, n, left, o, hk, rfl, rfl, rfl, hn7, l0, l1, hol, HE, hown, hbel⟩ := hrel
    by_cases hlt : k < s.size
    · have hkl : k < s.data.toList.length := by rw [size_len]; exact hlt
      have hsn : encSt (s.data.toList.take (k + 1)) = encStep (left, n, o) s[k] := by
        rw [List.take_succ_eq_append_getElem hkl, encSt_snoc, HE.out]
        rfl
      have HSN := Lib.hid hsn
      clear hsn
      go_wp2_with (go_at_call 93; refine (len_byteW _ _).mono ?_; rintro e w4 ⟨sz, HL, sz0, sz1, rfl, ha4⟩)
      have hbel4 : Below w1.heap.size w1 w4 := hbel.trans (Below.mono ha4 hbel.size)
      have hown4 := hown.aft ha4
      have hA4 : Arr w4 b 610 (F3 257) := hA.aft (Below.mono hbel4 (Nat.le_refl _))
      have c1 : w4.cell? ⟨b, 353 + s[k].toNat, none⟩ = some (.int .i64 (codeF s[k].toNat)) := by
        have hc := s[k].toNat_lt
        rw [hA4.cell _ (by omega), F3_code _ (by omega)]
      have hcb := byte_code s[k]
      have hb257 : (s[k].toNat : Int) < 257 := by have := s[k].toNat_lt; omega
      have hks : (k : Int) < (s.size : Int) := by omega
      go_region
      go_wp2_with fail
      have hlen : Hp.lensL.getD s[k].toNat 0 = sz := by
        have h1 := lenF_nat s[k].toNat (by have := s[k].toNat_lt; omega)
        rw [HL.out] at h1
        omega
      have hcl := code_lt s[k].toNat (by have := s[k].toNat_lt; omega)
      rw [hlen] at hcl
      rw [shl_or l0 (by omega) hcb.1 hcl]
      have hstep : encStep (left, n, o) s[k] = (left * 2 ^ sz % 18446744073709551616 + codeF s[k].toNat, emitF 5 (left * 2 ^ sz % 18446744073709551616 + codeF s[k].toNat) (n + sz) o) := by
        unfold encStep
        simp only [HL.out, Int.toNat_natCast]
      have hL0 : 0 ≤ left * 2 ^ sz % 18446744073709551616 + codeF s[k].toNat := by omega
      have hL1 := shl_lt left (c := codeF s[k].toNat) (sz := sz) (by omega) hcl
      generalize left * 2 ^ sz % 18446744073709551616 + codeF s[k].toNat = L at *
      have HST := Lib.hid hstep
      clear hstep hlen hcl hcb c1 hb257 l0 l1 HE hown hbel ha4
      have hown5 := hown4.drewN 1
      have hbel5 : Below w1.heap.size w1 w4.drew := hbel4.drew
      rw [show w4.drewN 1 = w4.drew from rfl] at hown5
      generalize w4.drew = w5 at *
      clear hown4 hbel4 hA4
      go_loopw [4, 6] (fun vo vn wr => ∃ (f m : Nat) (q : List UInt8), vn = .int .i64 (m : Int) ∧ m ≤ 7 + 8 * f ∧ f ≤ 5 ∧ q.length + f ≤ o.length + 5 ∧ Hid (emitF f L m q = emitF 5 L (n + sz) o) ∧ Own wr w1.heap.size vo q ∧ Below w1.heap.size w1 wr) (fun _ vn _ => (intOf vn).toNat)
      case atStart => exact ⟨5, n + sz, o, by go_num, by omega, by omega, by omega, Lib.hid rfl, hown5, hbel5⟩
      case round =>
        obtain ⟨f, m, q, rfl, hm, hf, hq, HQ, hownq, hbelq⟩ := hrel
        by_cases hm8 : 8 ≤ m
        · obtain ⟨f, rfl⟩ : ∃ f', f = f' + 1 := ⟨f - 1, by omega⟩
          obtain ⟨m, rfl⟩ : ∃ m', m = m' + 8 := ⟨m - 8, by omega⟩
          have hql : q.length + 1 ≤ 140737488355328 := by omega
          go_wp2_with (at_builtin; refine wpList_push rfl _ _ rfl w1.heap.size _ q rfl (hownq.aft ((Aft.refl _).alloc _)) ⟨wr.heap.size, 0, none⟩ 1 _ rfl (cell_new1 _ _ _) (Int.emod_nonneg _ (by decide)) (Int.emod_lt_of_pos _ (by decide)) hql (le_alloc hbelq.size _) ?_; intro v' w6 hown6 hgrow)
          go_roundw
          case rel =>
            have hbel6 : Below w1.heap.size w1 w6 := push_below (hbelq.alloc hbelq.size _) (hownq.aft ((Aft.refl _).alloc _)) hgrow (Nat.le_refl _) (le_alloc hbelq.size _)
            refine ⟨f, m, q ++ [byteOf (L / 2 ^ m % 256)], rfl, by omega, by omega, by simp; omega, ?_, hown6, hbel6⟩
            rw [← HQ.out]
            simp only [emitF]
            rw [if_pos (by omega), show m + 8 - 8 = m by omega]
            exact Lib.hid rfl
          case measure => simp [intOf]; omega
        · have hstop : emitF f L m q = (m, q) := by
            cases f with
            | zero => rfl
            | succ f => simp only [emitF]; rw [if_neg hm8]
          rw [hstop] at HQ
          have HS := Lib.hid hstop
          clear hstop
          go_wp2_with fail
          go_roundw
          case rel => exact ⟨k + 1, m, L, q, by omega, by go_num, rfl, by go_num, by omega, hL0, hL1, by omega, by rw [HSN.out, HST.out, ← HQ.out]; exact Lib.hid rfl, hownq, hbelq⟩
          case measure => simp [intOf]; omega
    · have hkk : s.data.toList.take k = s.data.toList := List.take_of_length_le (by rw [size_len]; omega)
      rw [hkk] at HE
      have hfin : encF s.data.toList = if 0 < n then o ++ [byteOf (left * 2 ^ (8 - n) % 256 + (2 ^ (8 - n) - 1))] else o := by
        unfold encF
        rw [HE.out]
      have HF := Lib.hid hfin
      clear hfin hkk
      by_cases hn0 : 0 < n
      · have hf2 := HF.out
        rw [if_pos hn0] at hf2
        have HF2 := Lib.hid hf2
        clear hf2 HF
        have hol2 : o.length + 1 ≤ 140737488355328 := by omega
        obtain ⟨hlb, hlb0, hlb1⟩ := last_byte l0 hn0 hn7
        have hp0 : 0 ≤ bits .or .u8 (IntKind.u64.wrap (left * 2 ^ (8 - n)) % 256) (255 / 2 ^ n) := by rw [hlb]; exact hlb0
        have hp1 : bits .or .u8 (IntKind.u64.wrap (left * 2 ^ (8 - n)) % 256) (255 / 2 ^ n) < 256 := by rw [hlb]; exact hlb1
        have HLB := Lib.hid hlb
        clear hlb hlb0 hlb1
        go_wp2_with (at_builtin; refine wpList_push rfl _ _ rfl w1.heap.size _ o rfl (hown.aft ((Aft.refl _).alloc _)) ⟨wr.heap.size, 0, none⟩ 1 _ rfl (cell_new1 _ _ _) hp0 hp1 hol2 (le_alloc hbel.size _) ?_; intro v' w6 hown6 hgrow)
        go_ret
        have hbel6 : Below w1.heap.size w1 w6 := push_below (hbel.alloc hbel.size _) (hown.aft ((Aft.refl _).alloc _)) hgrow (Nat.le_refl _) (le_alloc hbel.size _)
        rw [HLB.out] at hown6
        refine ⟨_, rfl, ?_, ?_⟩
        · rw [HF2.out, HBB.out]
          exact hown6.base (by omega)
        · exact ha.trans (Below.mono hbel6 (Nat.le_refl _))
      · have hf2 := HF.out
        rw [if_neg hn0] at hf2
        have HF2 := Lib.hid hf2
        clear hf2 HF
        go_wp2_with fail
        go_ret
        refine ⟨_, rfl, ?_, ?_⟩
        · rw [HF2.out, HBB.out]
          exact hown.base (by omega)
        · exact ha.trans (Below.mono hbel (Nat.le_refl _))

end Go.Proofs.YtmlnboibclfmcaaDoor
