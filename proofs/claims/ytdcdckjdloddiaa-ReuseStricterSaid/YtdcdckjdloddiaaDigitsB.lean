/-
  Digits of a number, the seconds that they tell; the walks of the laws' digits.
-/
import Derived.Test.YtdcdckjdloddiaaCtlLen
import Derived.Test.YtdcdckjdloddiaaBuf
namespace Go.Proofs.Ytdcdckjdloddiaa
open Go.RowKit

def decD (u : Nat) : List UInt8 := if h : u < 10 then [UInt8.ofNat (48 + u)] else decD (u / 10) ++ [UInt8.ofNat (48 + u % 10)]
termination_by u
decreasing_by omega
theorem decD_small {u : Nat} (h : u < 10) : decD u = [UInt8.ofNat (48 + u)] := by unfold decD; rw [dif_pos h]
theorem decD_big {u : Nat} (h : ¬ u < 10) : decD u = decD (u / 10) ++ [UInt8.ofNat (48 + u % 10)] := by conv => lhs; unfold decD; rw [dif_neg h]
theorem decD_ne (u : Nat) : decD u ≠ [] := by
  unfold decD
  split <;> simp
/-- Where the loop that makes a number's digits stands. -/
def DgI (n k : Nat) (s : List UInt8) : Prop := (s = [] ∧ k = n) ∨ (s ≠ [] ∧ (if k = 0 then s else decD k ++ s) = decD n)
theorem dg_end {n : Nat} {s : List UInt8} (h : DgI n 0 s) (hs : s ≠ []) : s = decD n := by
  rcases h with ⟨h, _⟩ | ⟨_, h⟩
  · exact absurd h hs
  · rw [if_pos rfl] at h; exact h
theorem dg_step {n k : Nat} {s : List UInt8} (h : DgI n k s) (hk : k = 0 → s = []) : DgI n (k / 10) (UInt8.ofNat (48 + k % 10) :: s) := by
  refine Or.inr ⟨by simp, ?_⟩
  have key : (if k / 10 = 0 then UInt8.ofNat (48 + k % 10) :: s else decD (k / 10) ++ UInt8.ofNat (48 + k % 10) :: s) = decD k ++ s := by
    by_cases h10 : k < 10
    · rw [if_pos (by omega), decD_small h10, show k % 10 = k by omega]
      rfl
    · rw [if_neg (by omega), decD_big h10]
      simp
  rw [key]
  rcases h with ⟨rfl, rfl⟩ | ⟨h1, h2⟩
  · simp
  · by_cases h0 : k = 0
    · exact absurd (hk h0) h1
    · rw [if_neg h0] at h2; exact h2
def digB (c : UInt8) : Bool := decide (48 ≤ c.toNat ∧ c.toNat ≤ 57)
def valL (a : Int) : List UInt8 → Int
  | [] => a
  | c :: r => valL (10 * a + ((c.toNat : Int) - 48)) r
theorem valL_append (a : Int) (l r : List UInt8) : valL a (l ++ r) = valL (valL a l) r := by
  induction l generalizing a with
  | nil => rfl
  | cons c l ih => exact ih _
theorem digB_of (d : Nat) (h : d < 10) : digB (UInt8.ofNat (48 + d)) = true ∧ ((UInt8.ofNat (48 + d)).toNat : Int) - 48 = d := by
  have : (UInt8.ofNat (48 + d)).toNat = 48 + d := by rw [UInt8.toNat_ofNat']; omega
  unfold digB
  rw [this]
  exact ⟨by simp; omega, by omega⟩
theorem decD_val : ∀ (n u : Nat), u ≤ n → (decD u).all digB = true ∧ valL 0 (decD u) = u
  | n, u, hn => by
    by_cases h : u < 10
    · rw [decD_small h]
      obtain ⟨h1, h2⟩ := digB_of u h
      refine ⟨by rw [List.all_cons, h1, List.all_nil]; rfl, ?_⟩
      show 10 * 0 + (((UInt8.ofNat (48 + u)).toNat : Int) - 48) = u
      rw [h2]; omega
    · match n, hn with
      | 0, hn => omega
      | n + 1, hn =>
        obtain ⟨i1, i2⟩ := decD_val n (u / 10) (by omega)
        obtain ⟨h1, h2⟩ := digB_of (u % 10) (by omega)
        rw [decD_big h]
        refine ⟨by rw [List.all_append, i1, List.all_cons, h1, List.all_nil]; rfl, ?_⟩
        rw [valL_append, i2]
        show 10 * ((u / 10 : Nat) : Int) + (((UInt8.ofNat (48 + u % 10)).toNat : Int) - 48) = u
        rw [h2]; omega
theorem valL_ge : ∀ (l : List UInt8) (a : Int), 0 ≤ a → l.all digB = true → a ≤ valL a l
  | [], a, _, _ => Int.le_refl _
  | c :: r, a, h0, h => by
    simp only [List.all_cons, Bool.and_eq_true] at h
    have hc : 48 ≤ c.toNat ∧ c.toNat ≤ 57 := of_decide_eq_true h.1
    have := valL_ge r (10 * a + ((c.toNat : Int) - 48)) (by omega) h.2
    show a ≤ valL (10 * a + ((c.toNat : Int) - 48)) r
    omega
theorem secGo_val : ∀ (l : List UInt8) (a : Int), 0 ≤ a → l.all digB = true → secGo (min a 2147483647) l = min (valL a l) 2147483647
  | [], a, _, _ => rfl
  | c :: r, a, h0, h => by
    simp only [List.all_cons, Bool.and_eq_true] at h
    have hc : 48 ≤ c.toNat ∧ c.toNat ≤ 57 := of_decide_eq_true h.1
    rw [secGo_good _ c r (by omega) (by omega)]
    have e : min (10 * min a 2147483647 + ((c.toNat : Int) - 48)) 2147483647 = min (10 * a + ((c.toNat : Int) - 48)) 2147483647 := by omega
    rw [e]
    exact secGo_val r _ (by omega) h.2
theorem secF_val {l : List UInt8} (hl : l ≠ []) (h : l.all digB = true) : secF l = min (valL 0 l) 2147483647 := by
  unfold secF
  rw [if_neg hl]
  exact secGo_val l 0 (by omega) h
theorem secF_dec (n : Nat) : secF (decD n) = min (n : Int) 2147483647 := by
  obtain ⟨h1, h2⟩ := decD_val n n (Nat.le_refl _)
  rw [secF_val (decD_ne n) h1, h2]
theorem decD_len : ∀ (k n : Nat), n < 10 ^ (k + 1) → (decD n).length ≤ k + 1
  | 0, n, h => by rw [decD_small (by simpa using h)]; simp
  | k + 1, n, h => by
    by_cases hn : n < 10
    · rw [decD_small hn]; simp
    · rw [decD_big hn, List.length_append]
      have := decD_len k (n / 10) (by rw [Nat.pow_succ] at h; omega)
      simp only [List.length_cons, List.length_nil]
      omega

def strSz : Value → Nat
  | .string s => s.size
  | _ => 1
theorem strSz_str (s : ByteArray) : strSz (.string s) = s.size := rfl
set_option maxHeartbeats 2000000 in
theorem digits_21 (n : Nat) (hn : n < 4294967296) (w : World) :
    Calls Try.prog 30 #[.int .i64 (n : Int)] w fun e w' => e = .returned (.string ⟨(decD n).toArray⟩) ∧ Aft w w' := by
  have HN := Lib.hid hn
  clear hn
  go_enter Try.func30, Try.ntmps30
  go_wp2_with fail
  go_loopw [0, 3] (fun vk vs wr => ∃ (k : Nat) (s : ByteArray), vk = .int .i64 (k : Int) ∧ vs = .string s ∧ k < 4294967296 ∧ s.size + k ≤ 4294967396 ∧ Hid (DgI n k s.data.toList) ∧ Hid (Aft w wr)) (fun vk vs _ => (intOf vk).toNat + (1 - strSz vs))
  case atStart => exact ⟨n, _, rfl, rfl, HN.out, by have := HN.out; show 0 + n ≤ _; omega, Lib.hid (Or.inl ⟨rfl, rfl⟩), Lib.hid (Aft.refl _)⟩
  case round =>
    obtain ⟨k, s, rfl, rfl, hk, hs, HI, HW⟩ := hrel
    have HK := Lib.hid hk
    have HSZ := Lib.hid hs
    by_cases hd : k = 0 ∧ s.size ≠ 0
    · obtain ⟨rfl, hsz⟩ := hd
      have hl : s.data.toList ≠ [] := by intro e; have := size_len s; rw [e] at this; simp at this; omega
      have he : (s.toList == []) = false := by rw [Lib.toList_data]; simpa using hl
      have HF : Hid (s.data.toList = decD n) := Lib.hid (dg_end HI.out hl)
      clear hl hk hs hsz
      go_wp2_with fail
      go_ret
      refine ⟨ret_str ?_, HW.out⟩
      apply bytes_ext
      exact HF.out
    · obtain ⟨y, hy⟩ : ∃ y : Int, ((k : Int) % 10) = y := ⟨_, rfl⟩
      have y0 : 0 ≤ y := by omega
      have y1 : y < 10 := by omega
      obtain ⟨z, hz⟩ : ∃ z : Int, 48 + y = z := ⟨_, rfl⟩
      have z0 : 0 ≤ z := by omega
      have z1 : z < 256 := by omega
      have hcv := conv1 wr z z0 z1
      have hr : (k : Int).tmod 10 = y := by rw [Int.tmod_eq_emod_of_nonneg (by omega)]; exact hy
      have hq : (k : Int).tdiv 10 = ((k / 10 : Nat) : Int) := by rw [Int.tdiv_eq_ediv_of_nonneg (by omega)]; rfl
      have g1 : IntKind.i64.wrap (48 + y) = z := by rw [hz]; exact IntWalk.i64_in _ (by omega)
      have g2 : IntKind.u8.wrap z = z := IntWalk.u8_in _ (by omega)
      have g3 : IntKind.i64.wrap y = y := IntWalk.i64_in _ (by omega)
      have g4 : IntKind.i64.wrap ((k / 10 : Nat) : Int) = ((k / 10 : Nat) : Int) := IntWalk.i64_in _ (by omega)
      have HY : Hid (byteOf z = UInt8.ofNat (48 + k % 10)) := Lib.hid (by
        unfold byteOf
        have e : z.toNat = 48 + k % 10 := by omega
        rw [e])
      have hne : k = 0 → s.size = 0 := by intro h; by_cases h2 : s.size = 0; exact h2; exact absurd ⟨h, h2⟩ hd
      have HST := Lib.hid (dg_step HI.out (fun h => List.eq_nil_of_length_eq_zero (by rw [size_len]; exact hne h)))
      have hcat : (1 : Nat) + s.size ≤ 140737488355328 := by omega
      obtain ⟨q, hqq⟩ : ∃ q : Nat, k / 10 = q := ⟨_, rfl⟩
      rw [hqq] at hq g4 HST
      have hqk : k = 0 ∧ q = 0 ∨ q < k := by omega
      have hqs : q < 4294967296 ∧ s.size + 1 + q ≤ 4294967396 := by omega
      have HQS := Lib.hid hqs
      have HQK := Lib.hid hqk
      have HNE := Lib.hid hne
      clear hqq hqs hqk hne
      by_cases hk0 : k = 0
      · have hl : s.data.toList = [] := List.eq_nil_of_length_eq_zero (by rw [size_len]; exact HNE.out hk0)
        have he : (s.toList == []) = true := by rw [Lib.toList_data, hl]; rfl
        obtain rfl : y = 0 := by omega
        obtain rfl : z = 48 := by omega
        obtain rfl : q = 0 := by have := HQK.out; omega
        subst hk0
        clear hl hd hk hs hy hr hq g1 g2 g3 g4 hz
        go_wp2_with fail
        go_roundw
        case rel =>
          refine ⟨0, _, by go_num, rfl, HQS.out.1, ?_, Lib.hid ?_, Lib.hid (HW.out.alloc _)⟩
          · rw [ByteArray.size_append]; have := HQS.out.2; show 1 + s.size + 0 ≤ _; omega
          · have := HST.out; rw [← HY.out] at this; simpa using this
        case measure =>
          have h3 := HNE.out rfl
          rw [strSz_str, strSz_str, ByteArray.size_append, h3]
          have h4 : (⟨#[byteOf 48]⟩ : ByteArray).size = 1 := rfl
          rw [h4]
          simp [intOf]
      · have i0 : (0 : Int) < (k : Int) := by omega
        have HKP : Hid (0 < k) := Lib.hid (by omega)
        clear hd hk hs hy hk0 hz
        generalize hK : (k : Int) = K at *
        have HKK := Lib.hid hK
        clear hK
        go_wp2_with fail
        go_roundw
        case rel =>
          refine ⟨q, _, by go_num, rfl, HQS.out.1, ?_, Lib.hid ?_, Lib.hid (HW.out.alloc _)⟩
          · rw [ByteArray.size_append]; have := HQS.out.2; show 1 + s.size + q ≤ _; omega
          · have := HST.out; rw [← HY.out] at this; simpa using this
        case measure =>
          have h1 := HQK.out
          have h2 := HKP.out
          have h3 := HKK.out
          rw [strSz_str, strSz_str, ByteArray.size_append]
          have h4 : (⟨#[byteOf z]⟩ : ByteArray).size = 1 := rfl
          rw [h4]
          simp [intOf] <;> omega


end Go.Proofs.Ytdcdckjdloddiaa
