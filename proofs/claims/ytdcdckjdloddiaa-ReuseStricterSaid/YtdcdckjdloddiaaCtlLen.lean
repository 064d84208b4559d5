/-
  What Cache-Control says, as a plain function of the pairs; seconds. The walks of control.Seconds, least and number. How long the values of pairs are.
-/
import Derived.Test.YtdcdckjdloddiaaTokPairs
namespace Go.Proofs.Ytdcdckjdloddiaa
open Go.RowKit

def secGo (n : Int) : List UInt8 → Int
  | [] => n
  | c :: r => if c.toNat < 48 ∨ 57 < c.toNat then -1 else secGo (min (10 * n + ((c.toNat : Int) - 48)) 2147483647) r
def secF (l : List UInt8) : Int := if l = [] then -1 else secGo 0 l
theorem secGo_bd : ∀ (l : List UInt8) (n : Int), 0 ≤ n → n ≤ 2147483647 → -1 ≤ secGo n l ∧ secGo n l ≤ 2147483647
  | [], n, h0, h1 => by unfold secGo; omega
  | c :: r, n, h0, h1 => by
    unfold secGo
    split
    · omega
    · exact secGo_bd r _ (by omega) (by omega)
theorem secF_bd (l : List UInt8) : -1 ≤ secF l ∧ secF l ≤ 2147483647 := by
  unfold secF
  split
  · omega
  · exact secGo_bd l 0 (by omega) (by omega)
structure Ctl where
  ns : Bool
  nc : Bool
  pr : Bool
  pu : Bool
  mu : Bool
  on : Bool
  ma : Int
  sh : Int
  st : Int
  fr : Int
def ctl0 : Ctl := ⟨false, false, false, false, false, false, -1, -1, -1, -1⟩
def lsF (old now : Int) : Int := if old < 0 then now else min old now
def numF (p : PairL) (bare : Int) : Int := if p.has then max (secF p.value) 0 else bare

def nNoStore : List UInt8 := [110, 111, 45, 115, 116, 111, 114, 101]
def nNoCache : List UInt8 := [110, 111, 45, 99, 97, 99, 104, 101]
def nPrivate : List UInt8 := [112, 114, 105, 118, 97, 116, 101]
def nPublic : List UInt8 := [112, 117, 98, 108, 105, 99]
def nOnly : List UInt8 := [111, 110, 108, 121, 45, 105, 102, 45, 99, 97, 99, 104, 101, 100]
def nMust : List UInt8 := [109, 117, 115, 116, 45, 114, 101, 118, 97, 108, 105, 100, 97, 116, 101]
def nProxy : List UInt8 := [112, 114, 111, 120, 121, 45, 114, 101, 118, 97, 108, 105, 100, 97, 116, 101]
def nMaxAge : List UInt8 := [109, 97, 120, 45, 97, 103, 101]
def nShared : List UInt8 := [115, 45, 109, 97, 120, 97, 103, 101]
def nFresh : List UInt8 := [109, 105, 110, 45, 102, 114, 101, 115, 104]
def nStale : List UInt8 := [109, 97, 120, 45, 115, 116, 97, 108, 101]
def nCC : List UInt8 := [99, 97, 99, 104, 101, 45, 99, 111, 110, 116, 114, 111, 108]
def ctlStep (c : Ctl) (p : PairL) : Ctl :=
  if p.name = nNoStore then { c with ns := true }
  else if p.name = nNoCache then { c with nc := true }
  else if p.name = nPrivate then { c with pr := true }
  else if p.name = nPublic then { c with pu := true }
  else if p.name = nOnly then { c with on := true }
  else if p.name = nMust then { c with mu := true }
  else if p.name = nProxy then { c with mu := true }
  else if p.name = nMaxAge then { c with ma := lsF c.ma (numF p 0) }
  else if p.name = nShared then { c with sh := lsF c.sh (numF p 0) }
  else if p.name = nFresh then { c with fr := lsF c.fr (numF p 0) }
  else if p.name = nStale then { c with st := lsF c.st (numF p 2147483647) }
  else c
def ctlOf (l : List PairL) : Ctl := l.foldl ctlStep ctl0
def ctlF (l : List FieldL) : Ctl := ctlOf (pairsF nCC l)
structure Ctl.Ok (c : Ctl) : Prop where
  ma : -1 ≤ c.ma ∧ c.ma ≤ 2147483647
  sh : -1 ≤ c.sh ∧ c.sh ≤ 2147483647
  st : -1 ≤ c.st ∧ c.st ≤ 2147483647
  fr : -1 ≤ c.fr ∧ c.fr ≤ 2147483647
theorem lsF_bd {a b : Int} (h0 : -1 ≤ a ∧ a ≤ 2147483647) (h1 : -1 ≤ b ∧ b ≤ 2147483647) : -1 ≤ lsF a b ∧ lsF a b ≤ 2147483647 := by
  unfold lsF; split <;> omega
theorem numF_bd (p : PairL) {b : Int} (h : 0 ≤ b ∧ b ≤ 2147483647) : 0 ≤ numF p b ∧ numF p b ≤ 2147483647 := by
  unfold numF
  have := secF_bd p.value
  split <;> omega
theorem ctlStep_ok {c : Ctl} (p : PairL) (h : c.Ok) : (ctlStep c p).Ok := by
  obtain ⟨h1, h2, h3, h4⟩ := h
  have n0 := numF_bd p (b := 0) (by omega)
  have n1 := numF_bd p (b := 2147483647) (by omega)
  unfold ctlStep
  by_cases qnNoStore : p.name = nNoStore
  · rw [if_pos qnNoStore]; exact ⟨h1, h2, h3, h4⟩
  rw [if_neg qnNoStore]
  by_cases qnNoCache : p.name = nNoCache
  · rw [if_pos qnNoCache]; exact ⟨h1, h2, h3, h4⟩
  rw [if_neg qnNoCache]
  by_cases qnPrivate : p.name = nPrivate
  · rw [if_pos qnPrivate]; exact ⟨h1, h2, h3, h4⟩
  rw [if_neg qnPrivate]
  by_cases qnPublic : p.name = nPublic
  · rw [if_pos qnPublic]; exact ⟨h1, h2, h3, h4⟩
  rw [if_neg qnPublic]
  by_cases qnOnly : p.name = nOnly
  · rw [if_pos qnOnly]; exact ⟨h1, h2, h3, h4⟩
  rw [if_neg qnOnly]
  by_cases qnMust : p.name = nMust
  · rw [if_pos qnMust]; exact ⟨h1, h2, h3, h4⟩
  rw [if_neg qnMust]
  by_cases qnProxy : p.name = nProxy
  · rw [if_pos qnProxy]; exact ⟨h1, h2, h3, h4⟩
  rw [if_neg qnProxy]
  by_cases qnMaxAge : p.name = nMaxAge
  · rw [if_pos qnMaxAge]; exact ⟨lsF_bd h1 (by omega), h2, h3, h4⟩
  rw [if_neg qnMaxAge]
  by_cases qnShared : p.name = nShared
  · rw [if_pos qnShared]; exact ⟨h1, lsF_bd h2 (by omega), h3, h4⟩
  rw [if_neg qnShared]
  by_cases qnFresh : p.name = nFresh
  · rw [if_pos qnFresh]; exact ⟨h1, h2, h3, lsF_bd h4 (by omega)⟩
  rw [if_neg qnFresh]
  by_cases qnStale : p.name = nStale
  · rw [if_pos qnStale]; exact ⟨h1, h2, lsF_bd h3 (by omega), h4⟩
  rw [if_neg qnStale]
  exact ⟨h1, h2, h3, h4⟩
theorem ctl0_ok : ctl0.Ok := ⟨by decide, by decide, by decide, by decide⟩
theorem ctlFold_ok (l : List PairL) : ∀ c : Ctl, c.Ok → (l.foldl ctlStep c).Ok := by
  induction l with
  | nil => exact fun c h => h
  | cons p l ih => exact fun c h => ih _ (ctlStep_ok p h)
theorem ctlF_ok (l : List FieldL) : (ctlF l).Ok := ctlFold_ok _ _ ctl0_ok
/-- The ten cells of a control. -/
def ctlC (c : Ctl) : List Value := [.bool c.ns, .bool c.nc, .bool c.pr, .bool c.pu, .bool c.mu, .bool c.on, .int .i64 c.ma, .int .i64 c.sh, .int .i64 c.st, .int .i64 c.fr]
def ctlV (c : Ctl) : Value := .agg (ctlC c).toArray
def CB (w : World) (g : Nat) (c : Ctl) : Prop := w.heap[g]? = some (.cells (ctlC c).toArray 48 (0, 0))

end Go.Proofs.Ytdcdckjdloddiaa
namespace Go.Proofs.Ytdcdckjdloddiaa
open Go.RowKit

theorem secGo_bad (n : Int) (c : UInt8) (r : List UInt8) (h : (c.toNat : Int) < 48 ∨ 57 < (c.toNat : Int)) : secGo n (c :: r) = -1 := by
  unfold secGo
  rw [if_pos (by omega)]
theorem secGo_good (n : Int) (c : UInt8) (r : List UInt8) (h0 : 48 ≤ (c.toNat : Int)) (h1 : (c.toNat : Int) ≤ 57) : secGo n (c :: r) = secGo (min (10 * n + ((c.toNat : Int) - 48)) 2147483647) r := by
  conv => lhs; unfold secGo
  rw [if_neg (by omega)]

set_option maxHeartbeats 1000000 in
theorem seconds_any (s : ByteArray) (w : World) (hs : s.size ≤ maxLen) :
    Calls Try.prog 54 #[.string s] w fun e w' => e = .returned (.int .i64 (secF s.data.toList)) ∧ w = w' := by
  unfold maxLen at hs
  go_enter Try.func54, Try.ntmps54
  go_wp2_with fail
  go_loop [3, 7] (fun vn vk => ∃ (k : Nat) (n : Int), k ≤ s.size ∧ vk = .int .i64 (k : Int) ∧ vn = .int .i64 n ∧ 0 ≤ n ∧ n ≤ 2147483647 ∧ Hid (secGo 0 s.data.toList = secGo n (s.data.toList.drop k))) (fun _ vk => s.size - (intOf vk).toNat)
  case atStart => exact ⟨0, 0, by omega, by go_num, rfl, by omega, by omega, Lib.hid rfl⟩
  case round =>
    obtain ⟨k, n, hk, rfl, rfl, n0, n1, HK⟩ := hrel
    by_cases hlt : k < s.size
    · have hkl : k < s.data.toList.length := by rw [size_len]; exact hlt
      have hd : s.data.toList.drop k = s.data.toList[k] :: s.data.toList.drop (k + 1) := List.drop_eq_getElem_cons hkl
      have hne : s.data.toList ≠ [] := by intro e; rw [e] at hkl; simp at hkl
      obtain ⟨c, hc⟩ : ∃ c, s[k]'hlt = c := ⟨_, rfl⟩
      have hc2 : s.data.toList[k] = c := hc
      rw [hc2] at hd
      have h255 : (c.toNat : Int) ≤ 255 := by have := c.toNat_lt; omega
      have h00 : 0 ≤ (c.toNat : Int) := by omega
      have HKK : Hid (secGo 0 s.data.toList = secGo n (c :: s.data.toList.drop (k + 1))) := Lib.hid (by rw [HK.out, hd])
      have HB := Lib.hid (secGo_bad n c (s.data.toList.drop (k + 1)))
      have HG := Lib.hid (secGo_good n c (s.data.toList.drop (k + 1)))
      have HSF : Hid (secF s.data.toList = secGo 0 s.data.toList) := Lib.hid (by unfold secF; rw [if_neg hne])
      clear hd hc2 hne hkl
      obtain ⟨m, hm⟩ : ∃ m : Int, (c.toNat : Int) = m := ⟨_, rfl⟩
      rw [hm] at h255 h00 HB HG
      have hki : (k : Int) < (s.size : Int) := by omega
      by_cases h1 : m < 48
      · go_wp2_with fail
        go_ret
        exact ⟨ret_int (by rw [HSF.out, HKK.out, HB.out (Or.inl h1)]), rfl⟩
      · by_cases h2 : m > 57
        · go_wp2_with fail
          go_ret
          exact ⟨ret_int (by rw [HSF.out, HKK.out, HB.out (Or.inr h2)]), rfl⟩
        · have g1 : IntKind.u8.wrap (m - 48) = m - 48 := IntWalk.u8_in _ (by omega)
          have g2 : IntKind.i64.wrap (10 * n) = 10 * n := IntWalk.i64_in _ (by omega)
          have g3 : IntKind.i64.wrap (m - 48) = m - 48 := IntWalk.i64_in _ (by omega)
          have g4 : IntKind.i64.wrap (10 * n + (m - 48)) = 10 * n + (m - 48) := IntWalk.i64_in _ (by omega)
          go_wp2_with fail
          go_round
          case rel => exact ⟨k + 1, min (10 * n + (m - 48)) 2147483647, by omega, by go_num, by first | rfl | (congr 1; omega), by omega, by omega, Lib.hid (by rw [HKK.out, HG.out (by omega) (by omega)])⟩
          case measure => simp [intOf]; omega
    · have hk2 : k = s.size := by omega
      subst hk2
      have hd : s.data.toList.drop s.size = [] := List.drop_of_length_le (by rw [size_len]; omega)
      have HSG : Hid (secGo 0 s.data.toList = n) := Lib.hid (by rw [HK.out, hd]; rfl)
      by_cases he : s.size = 0
      · have hl : s.data.toList = [] := List.eq_nil_of_length_eq_zero (by rw [size_len]; exact he)
        have h0 : s.toList = [] := by rw [Lib.toList_data]; exact hl
        have HF : Hid (secF s.data.toList = -1) := Lib.hid (by unfold secF; rw [if_pos hl])
        go_wp2_with fail
        go_ret
        exact ⟨ret_int (by first | (rw [HF.out]; done) | rfl), rfl⟩
      · have hl : s.data.toList ≠ [] := by intro e; have := size_len s; rw [e] at this; simp at this; omega
        have h0 : s.toList ≠ [] := by rw [Lib.toList_data]; exact hl
        have h1 : (s.toList == []) = false := by simpa using h0
        have HF : Hid (secF s.data.toList = n) := Lib.hid (by unfold secF; rw [if_neg hl]; exact HSG.out)
        clear hl
        go_wp2_with fail
        all_goals
          go_ret
          exact ⟨ret_int (by rw [HF.out]), rfl⟩

theorem least_any (a b : Int) (ha : -1 ≤ a ∧ a ≤ 2147483647) (hb : -1 ≤ b ∧ b ≤ 2147483647) (w : World) :
    Calls Try.prog 56 #[.int .i64 a, .int .i64 b] w fun e w' => e = .returned (.int .i64 (lsF a b)) ∧ w = w' := by
  obtain ⟨a0, a1⟩ := ha
  obtain ⟨b0, b1⟩ := hb
  by_cases h : a < 0
  · have HF : Hid (lsF a b = b) := Lib.hid (by unfold lsF; rw [if_pos h])
    go_enter Try.func56, Try.ntmps56
    go_wp2_with fail
    go_ret
    exact ⟨ret_int HF.out.symm, rfl⟩
  · have HF : Hid (lsF a b = min a b) := Lib.hid (by unfold lsF; rw [if_neg h])
    go_enter Try.func56, Try.ntmps56
    go_wp2_with fail
    all_goals
      go_ret
      exact ⟨ret_int (by first | (rw [HF.out]; done) | (rw [HF.out]; omega)), rfl⟩

def pairA (p : PairL) : Value := .agg #[.string ⟨p.name.toArray⟩, .string ⟨p.value.toArray⟩, .bool p.has]
theorem number_any (p : PairL) (b : Int) (hb : 0 ≤ b ∧ b ≤ 2147483647) (hp : p.value.length ≤ 1000000000) (w : World) :
    Calls Try.prog 57 #[pairA p, .int .i64 b] w fun e w' => e = .returned (.int .i64 (numF p b)) ∧ Aft w w' := by
  obtain ⟨n, v, h⟩ := p
  obtain ⟨b0, b1⟩ := hb
  have hs := fun w => seconds_any ⟨v.toArray⟩ w (by show v.toArray.size ≤ maxLen; simp only at hp; unfold maxLen; simp; omega)
  have hbd := secF_bd v
  have e1 : (⟨v.toArray⟩ : ByteArray).data.toList = v := rfl
  rw [e1] at hs
  have HS := Lib.hid hs
  unfold pairA
  simp only
  cases h
  · have HF : Hid (numF ⟨n, v, false⟩ b = b) := Lib.hid rfl
    clear hs e1
    go_enter Try.func57, Try.ntmps57
    go_wp2_with fail
    go_ret
    exact ⟨ret_int HF.out.symm, (Aft.refl w).alloc _⟩
  · have HF : Hid (numF ⟨n, v, true⟩ b = max (secF v) 0) := Lib.hid rfl
    clear hs e1
    obtain ⟨x, hx⟩ : ∃ x, secF v = x := ⟨_, rfl⟩
    rw [hx] at HF HS hbd
    clear hx
    go_enter Try.func57, Try.ntmps57
    go_wp2_with fail
    refine (HS.out _).mono ?_
    rintro e w1 ⟨rfl, rfl⟩
    go_wp2_with fail
    all_goals
      go_ret
      exact ⟨ret_int (by first | (rw [HF.out]; done) | (rw [HF.out]; omega)), (Aft.refl w).alloc _⟩

end Go.Proofs.Ytdcdckjdloddiaa
namespace Go.Proofs.Ytdcdckjdloddiaa
open Go.RowKit

theorem unqGo_len : ∀ (n : Nat) (l x : List UInt8), l.length ≤ n → unqGo l = some x → x.length ≤ l.length
  | _, [], x, _, h => by simp [unqGo] at h; subst h; simp
  | 0, c :: r, x, hn, _ => by simp at hn
  | n + 1, c :: r, x, hn, h => by
    simp only [List.length_cons] at hn
    unfold unqGo at h
    by_cases h1 : c = 34
    · rw [if_pos h1] at h; cases h
    · rw [if_neg h1] at h
      by_cases h2 : c = 92
      · rw [if_pos h2] at h
        cases r with
        | nil => cases h
        | cons d r' =>
          simp only at h
          split at h
          · simp only [Option.map_eq_some_iff] at h
            obtain ⟨y, hy, rfl⟩ := h
            simp only [List.length_cons] at hn ⊢
            have := unqGo_len n r' y (by omega) hy
            omega
          · cases h
      · rw [if_neg h2] at h
        split at h
        · simp only [Option.map_eq_some_iff] at h
          obtain ⟨y, hy, rfl⟩ := h
          have := unqGo_len n r y (by omega) hy
          simp only [List.length_cons]
          omega
        · cases h
theorem unqF_len {l x : List UInt8} (h : unqF l = some x) : x.length ≤ l.length := by
  unfold unqF at h
  split at h
  · simp only [Option.some.injEq] at h; subst h; omega
  · split at h
    · cases h
    · split at h
      · cases h
      · split at h
        · cases h
        · have := unqGo_len _ _ _ (Nat.le_refl _) h
          simp only [List.length_drop, List.length_take] at this
          omega
theorem cutEq_len : ∀ {l n v : List UInt8}, cutEq l = some (n, v) → n.length + v.length < l.length
  | [], _, _, h => by simp [cutEq] at h
  | c :: r, n, v, h => by
    unfold cutEq at h
    split at h
    · simp only [Option.some.injEq, Prod.mk.injEq] at h
      obtain ⟨rfl, rfl⟩ := h
      simp
    · simp only [Option.map_eq_some_iff, Prod.mk.injEq] at h
      obtain ⟨⟨a, b⟩, hab, rfl, rfl⟩ := h
      have := cutEq_len hab
      simp only [List.length_cons]
      omega
theorem ofF_len {l : List UInt8} {p : PairL} (h : ofF l = some p) : p.value.length ≤ l.length := by
  unfold ofF at h
  split at h
  · simp only [Option.some.injEq] at h; subst h; simp
  · split at h
    · cases h
    · rename_i n v hc
      split at h
      · simp only [Option.map_eq_some_iff] at h
        obtain ⟨x, hx, rfl⟩ := h
        have h1 := cutEq_len hc
        have h2 := unqF_len hx
        simp only
        omega
      · cases h
theorem pairsF_len {name : List UInt8} {l : List FieldL} {n : Nat} (hn : (Lib.join (valsF name l) [44, 32]).length ≤ n) : ∀ p ∈ pairsF name l, p.value.length ≤ n := by
  intro p hp
  unfold pairsF at hp
  obtain ⟨x, hx, hxp⟩ := List.mem_filterMap.1 hp
  have h1 := ofF_len hxp
  have h2 : x.length ≤ (Lib.join (valsF name l) [44, 32]).length := by
    unfold partsF at hx
    cases hs : splF (Lib.join (valsF name l) [44, 32]) with
    | none => rw [hs] at hx; cases hx
    | some P => rw [hs] at hx; exact splF_len hs x hx
  omega

end Go.Proofs.Ytdcdckjdloddiaa
