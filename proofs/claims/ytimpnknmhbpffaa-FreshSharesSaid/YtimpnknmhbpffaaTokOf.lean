/-
  The walks of strings.Cut at '=' and of token.Of.
-/
import Derived.Test.YtimpnknmhbpffaaTokUnq
import Derived.RegionTactic
import Derived.Laws.Rows
import Derived.Laws.Tables
import Derived.Great.BuildSlice
namespace Go.Proofs.Ytimpnknmhbpffaa
open Go.RowKit

theorem cut_index : ∀ l : List UInt8, (Lib.indexByte l 61 = -1 ∧ cutEq l = none) ∨ ∃ i : Nat, Lib.indexByte l 61 = (i : Int) ∧ i < l.length ∧ cutEq l = some (l.take i, l.drop (i + 1))
  | [] => Or.inl ⟨rfl, rfl⟩
  | c :: r => by
    unfold Lib.indexByte cutEq
    by_cases h : c = 61
    · have hb : (c == 61) = true := by rw [h]; rfl
      refine Or.inr ⟨0, ?_, by simp, ?_⟩
      · rw [if_pos hb]; rfl
      · rw [if_pos h]; rfl
    · have hb : ¬ (c == 61) = true := by rw [beq_iff_eq]; exact h
      rw [if_neg hb, if_neg h]
      rcases cut_index r with ⟨h1, h2⟩ | ⟨i, h1, h2, h3⟩
      · refine Or.inl ⟨?_, ?_⟩
        · rw [h1]; rfl
        · rw [h2]; rfl
      · refine Or.inr ⟨i + 1, ?_, by simp; omega, ?_⟩
        · have : ¬ ((i : Int) == -1) = true := by rw [beq_iff_eq]; omega
          rw [h1, if_neg this]
          omega
        · rw [h3]; rfl
def cutres (s : ByteArray) : Value := match cutEq s.data.toList with
  | none => .tuple #[.string s, .string ⟨#[]⟩, .bool false]
  | some (n, v) => .tuple #[.string ⟨n.toArray⟩, .string ⟨v.toArray⟩, .bool true]
theorem str_eq {a : ByteArray} {l : List UInt8} (h : a.data.toList = l) : (⟨l.toArray⟩ : ByteArray) = a := by
  subst h
  exact mk_toList a

set_option maxHeartbeats 1000000 in
theorem slcut_any (s : ByteArray) (w : World) (hs : s.size ≤ 1000000000000) :
    Calls Try.prog 96 #[.string s, .string ⟨#[61]⟩] w fun e w' => e = .returned (cutres s) ∧ Aft w w' := by
  have hix := Try.stringslite_Index_one s 61
  have HIX := Lib.hid hix
  clear hix
  rcases cut_index s.data.toList with ⟨h1, h2⟩ | ⟨i, h1, h2, h3⟩
  · rw [h1] at HIX
    have HR : Hid (cutres s = .tuple #[.string s, .string ⟨#[]⟩, .bool false]) := Lib.hid (by unfold cutres; rw [h2])
    clear h1 h2
    go_enter Try.func96, Try.ntmps96
    go_wp2_with fail
    refine (HIX.out _).mono ?_
    rintro e w1 ⟨rfl, rfl⟩
    go_wp2_with fail
    go_ret3
    rw [HR.out]
    exact ⟨rfl, Aft.refl _⟩
  · rw [h1] at HIX
    rw [size_len] at h2
    have e1 : (s.extract 0 i).data.toList = s.data.toList.take i := extract_front s i
    have e2 : (s.extract (i + 1) s.size).data.toList = s.data.toList.drop (i + 1) := extract_end s (i + 1)
    have HR : Hid (cutres s = .tuple #[.string (s.extract 0 i), .string (s.extract (i + 1) s.size), .bool true]) := Lib.hid (by
      unfold cutres
      rw [h3]
      simp only
      rw [str_eq e1, str_eq e2])
    have g1 : IntKind.i64.wrap ((i : Int) + 1) = (i : Int) + 1 := IntWalk.i64_in _ (by omega)
    clear h1 h3 e1 e2
    go_enter Try.func96, Try.ntmps96
    go_wp2_with fail
    refine (HIX.out _).mono ?_
    rintro e w1 ⟨rfl, rfl⟩
    go_wp2_with fail
    go_region
    go_wp2_with fail
    go_ret3
    rw [HR.out]
    exact ⟨rfl, (Aft.refl _).drew⟩
theorem cut_any (s : ByteArray) (w : World) (hs : s.size ≤ 1000000000000) :
    Calls Try.prog 88 #[.string s, .string ⟨#[61]⟩] w fun e w' => e = .returned (cutres s) ∧ Aft w w' := by
  obtain ⟨a, b, c, hr⟩ : ∃ a b c, cutres s = .tuple #[a, b, c] := by
    unfold cutres
    split
    · exact ⟨_, _, _, rfl⟩
    · exact ⟨_, _, _, rfl⟩
  have HC := Lib.hid (slcut_any s w hs)
  rw [hr] at HC ⊢
  clear hr
  go_enter Try.func88, Try.ntmps88
  go_wp2_with fail
  refine HC.out.mono ?_
  rintro e w1 ⟨rfl, b1⟩
  go_wp2_with fail
  go_ret3
  exact ⟨rfl, b1⟩

/-! ### Of -/
theorem bcell {W w1 : World} (hb : Below W.heap.size W w1) : (∀ b o, b < W.heap.size → w1.cell? ⟨b, o, none⟩ = W.cell? ⟨b, o, none⟩) ∧ (∀ b o, b < W.heap.size → w1.frozen? ⟨b, o, none⟩ = W.frozen? ⟨b, o, none⟩) :=
  ⟨fun b o h => hb.cell (p := ⟨b, o, none⟩) h, fun b o h => hb.frozen (p := ⟨b, o, none⟩) h⟩
def pairV (p : PairL) : Value := .agg #[.string ⟨p.name.toArray⟩, .string ⟨p.value.toArray⟩, .bool p.has]
def ofres (o : Option PairL) : Value := match o with
  | none => .tuple #[.agg #[.string ⟨#[]⟩, .string ⟨#[]⟩, .bool false], .bool false]
  | some p => .tuple #[pairV p, .bool true]

set_option maxHeartbeats 2000000 in
theorem of_any (s : ByteArray) (w : World) (hs : s.size ≤ 1000000000) :
    Calls Try.prog 73 #[.string s] w fun e w' => e = .returned (ofres (ofF s.data.toList)) ∧ Aft w w' := by
  have hm : s.size ≤ maxLen := by unfold maxLen; omega
  obtain ⟨tb, htb⟩ : ∃ b, tokB s.data.toList = b := ⟨_, rfl⟩
  have HT := Lib.hid (token_of s tb htb hm)
  have hof := htb
  cases tb
  · have HL0 : Hid (ofF s.data.toList = match cutEq s.data.toList with
      | none => none
      | some (n, v) => if tokB n then (unqF v).map fun x => ⟨lowerL n, x, true⟩ else none) := Lib.hid (by
        unfold ofF
        rw [if_neg (by rw [htb]; decide)]
        rfl)
    have HC := Lib.hid (cut_any s)
    have hs12 : s.size ≤ 1000000000000 := by omega
    rcases cut_index s.data.toList with ⟨_, h2⟩ | ⟨i, _, h2, h3⟩
    · have HN : Hid (ofF s.data.toList = none) := Lib.hid (by rw [HL0.out, h2])
      have hcr : cutres s = .tuple #[.string s, .string ⟨#[]⟩, .bool false] := by unfold cutres; rw [h2]
      rw [hcr] at HC
      clear htb hof h2 hcr HL0
      go_enter Try.func73, Try.ntmps73
      go_wp2_with (go_at_call 86; refine (HT.out _).mono ?_; rintro e w1 ⟨rfl, rfl⟩)
      refine (HC.out _ hs12).mono ?_
      rintro e w2 ⟨rfl, b2⟩
      obtain ⟨hc, hf⟩ := bcell b2.to
      go_wp2_with fail
      refine bodyPost_ret (v := .tuple #[.agg #[.string ⟨#[]⟩, .string ⟨#[]⟩, .bool false], .bool false]) (by simp [results, Try.results73, go_sem, hc]) rfl ?_
      rw [HN.out]
      have hb : Below w.heap.size w w2 := ((Below.refl _ _).alloc (Nat.le_refl _) _).trans (Below.mono b2.to (by simp))
      exact ⟨rfl, ((hb.setCell (p := ⟨w.heap.size, 0, none⟩) (Nat.le_refl _) _).setCell (p := ⟨w.heap.size, 1, none⟩) (Nat.le_refl _) _).setCell (p := ⟨w.heap.size, 2, none⟩) (Nat.le_refl _) _⟩
    · rw [size_len] at h2
      obtain ⟨N, hN⟩ : ∃ N : ByteArray, N = ⟨(s.data.toList.take i).toArray⟩ := ⟨_, rfl⟩
      obtain ⟨V, hV⟩ : ∃ V : ByteArray, V = ⟨(s.data.toList.drop (i + 1)).toArray⟩ := ⟨_, rfl⟩
      have hNd : N.data.toList = s.data.toList.take i := by rw [hN]
      have hVd : V.data.toList = s.data.toList.drop (i + 1) := by rw [hV]
      have hNs : N.size ≤ 1000000000 := by rw [← size_len, hNd, List.length_take, size_len]; omega
      have hVs : V.size ≤ 1000000000 := by rw [← size_len, hVd, List.length_drop, size_len]; omega
      have hNm : N.size ≤ maxLen := by unfold maxLen; omega
      have hcr : cutres s = .tuple #[.string N, .string V, .bool true] := by
        unfold cutres
        rw [h3, hN, hV]
      have hfo : ofF s.data.toList = if tokB N.data.toList then (unqF V.data.toList).map fun x => ⟨lowerL N.data.toList, x, true⟩ else none := by
        rw [HL0.out, h3, hNd, hVd]
      rw [hcr] at HC
      obtain ⟨nb, hnb⟩ : ∃ b, tokB N.data.toList = b := ⟨_, rfl⟩
      have HT2 := Lib.hid (token_of N nb hnb hNm)
      have HU := Lib.hid (unquote_any V)
      have HL := Lib.hid (lower_any N)
      rw [hnb] at hfo
      have HF := Lib.hid hfo
      clear htb hof h2 h3 hcr HL0 hN hV hNd hVd hnb hfo
      cases nb
      · have HN : Hid (ofF s.data.toList = none) := Lib.hid (by rw [HF.out]; rfl)
        go_enter Try.func73, Try.ntmps73
        go_wp2_with (go_at_call 86; refine (HT.out _).mono ?_; rintro e w1 ⟨rfl, rfl⟩)
        refine (HC.out _ hs12).mono ?_
        rintro e w2 ⟨rfl, b2⟩
        obtain ⟨hc, hf⟩ := bcell b2.to
        go_wp2_with (go_at_call 86; refine (HT2.out _).mono ?_; rintro e w1 ⟨rfl, rfl⟩)
        refine bodyPost_ret (v := .tuple #[.agg #[.string ⟨#[]⟩, .string ⟨#[]⟩, .bool false], .bool false]) (by simp [results, Try.results73, go_sem, hc]) rfl ?_
        rw [HN.out]
        have hb : Below w.heap.size w w2 := ((Below.refl _ _).alloc (Nat.le_refl _) _).trans (Below.mono b2.to (by simp))
        exact ⟨rfl, ((hb.setCell (p := ⟨w.heap.size, 0, none⟩) (Nat.le_refl _) _).setCell (p := ⟨w.heap.size, 1, none⟩) (Nat.le_refl _) _).setCell (p := ⟨w.heap.size, 2, none⟩) (Nat.le_refl _) _⟩
      · cases hun : unqF V.data.toList with
        | none =>
          rw [hun] at HU
          have HN : Hid (ofF s.data.toList = none) := Lib.hid (by rw [HF.out, hun]; rfl)
          clear hun
          go_enter Try.func73, Try.ntmps73
          go_wp2_with (go_at_call 86; refine (HT.out _).mono ?_; rintro e w1 ⟨rfl, rfl⟩)
          refine (HC.out _ hs12).mono ?_
          rintro e w2 ⟨rfl, b2⟩
          go_wp2_with (go_at_call 86; refine (HT2.out _).mono ?_; rintro e w1 ⟨rfl, rfl⟩)
          refine (HU.out _ hVs).mono ?_
          unfold uqres
          rintro e w3 ⟨rfl, b3⟩
          have hb : Below w.heap.size w w3 := ((Below.refl _ _).alloc (Nat.le_refl _) _).trans (Below.mono (b2.trans b3).to (by simp))
          obtain ⟨hc, hf⟩ := bcell (b2.trans b3).to
          go_wp2_with fail
          refine bodyPost_ret (v := .tuple #[.agg #[.string ⟨#[]⟩, .string ⟨#[]⟩, .bool false], .bool false]) (by simp [results, Try.results73, go_sem, hc]) rfl ?_
          rw [HN.out]
          exact ⟨rfl, ((hb.setCell (p := ⟨w.heap.size, 0, none⟩) (Nat.le_refl _) _).setCell (p := ⟨w.heap.size, 1, none⟩) (Nat.le_refl _) _).setCell (p := ⟨w.heap.size, 2, none⟩) (Nat.le_refl _) _⟩
        | some x =>
          rw [hun] at HU
          have HN : Hid (ofF s.data.toList = some ⟨lowerL N.data.toList, x, true⟩) := Lib.hid (by rw [HF.out, hun]; rfl)
          clear hun
          go_enter Try.func73, Try.ntmps73
          go_wp2_with (go_at_call 86; refine (HT.out _).mono ?_; rintro e w1 ⟨rfl, rfl⟩)
          refine (HC.out _ hs12).mono ?_
          rintro e w2 ⟨rfl, b2⟩
          go_wp2_with (go_at_call 86; refine (HT2.out _).mono ?_; rintro e w1 ⟨rfl, rfl⟩)
          refine (HU.out _ hVs).mono ?_
          unfold uqres
          rintro e w3 ⟨rfl, b3⟩
          go_wp2_with fail
          refine (HL.out _ hNm).mono ?_
          rintro e w4 ⟨rfl, b4⟩
          have hb : Below w.heap.size w w4 := ((Below.refl _ _).alloc (Nat.le_refl _) _).trans (Below.mono (b2.trans (b3.trans b4)).to (by simp))
          obtain ⟨hc, hf⟩ := bcell (b2.trans (b3.trans b4)).to
          go_wp2_with fail
          refine bodyPost_ret (v := .tuple #[.agg #[.string ⟨(lowerL N.data.toList).toArray⟩, .string ⟨x.toArray⟩, .bool true], .bool true]) (by simp [results, Try.results73, go_sem, hc]) rfl ?_
          rw [HN.out]
          exact ⟨rfl, ((hb.setCell (p := ⟨w.heap.size, 0, none⟩) (Nat.le_refl _) _).setCell (p := ⟨w.heap.size, 1, none⟩) (Nat.le_refl _) _).setCell (p := ⟨w.heap.size, 2, none⟩) (Nat.le_refl _) _⟩
  · have HN : Hid (ofF s.data.toList = some ⟨lowerL s.data.toList, [], false⟩) := Lib.hid (by unfold ofF; rw [if_pos htb])
    have HL := Lib.hid (lower_any s)
    clear htb hof
    go_enter Try.func73, Try.ntmps73
    go_wp2_with (go_at_call 86; refine (HT.out _).mono ?_; rintro e w1 ⟨rfl, rfl⟩)
    refine (HL.out _ hm).mono ?_
    rintro e w2 ⟨rfl, b2⟩
    obtain ⟨hc, hf⟩ := bcell b2.to
    go_wp2_with fail
    refine bodyPost_ret (v := .tuple #[.agg #[.string ⟨(lowerL s.data.toList).toArray⟩, .string ⟨#[]⟩, .bool false], .bool true]) (by simp [results, Try.results73, go_sem, hc]) rfl ?_
    rw [HN.out]
    have hb : Below w.heap.size w w2 := ((Below.refl _ _).alloc (Nat.le_refl _) _).trans (Below.mono b2.to (by simp))
    exact ⟨rfl, ((hb.setCell (p := ⟨w.heap.size, 0, none⟩) (Nat.le_refl _) _).setCell (p := ⟨w.heap.size, 1, none⟩) (Nat.le_refl _) _).setCell (p := ⟨w.heap.size, 2, none⟩) (Nat.le_refl _) _⟩

end Go.Proofs.Ytimpnknmhbpffaa
