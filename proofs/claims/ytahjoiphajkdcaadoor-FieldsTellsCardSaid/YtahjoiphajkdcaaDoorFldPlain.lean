/-
  The static table as a list of fields; its text: what lies between the bars, cut at the first equals sign.
-/
import Derived.Test.YtahjoiphajkdcaaDoorFl
import Derived.Lib.SplitLaws
import Derived.Lib.CutLaws
namespace Go.Proofs.YtahjoiphajkdcaaDoor
open Go.RowKit

def staticT : List FieldL := [
  ([58, 97, 117, 116, 104, 111, 114, 105, 116, 121], []),
  ([58, 109, 101, 116, 104, 111, 100], [71, 69, 84]),
  ([58, 109, 101, 116, 104, 111, 100], [80, 79, 83, 84]),
  ([58, 112, 97, 116, 104], [47]),
  ([58, 112, 97, 116, 104], [47, 105, 110, 100, 101, 120, 46, 104, 116, 109, 108]),
  ([58, 115, 99, 104, 101, 109, 101], [104, 116, 116, 112]),
  ([58, 115, 99, 104, 101, 109, 101], [104, 116, 116, 112, 115]),
  ([58, 115, 116, 97, 116, 117, 115], [50, 48, 48]),
  ([58, 115, 116, 97, 116, 117, 115], [50, 48, 52]),
  ([58, 115, 116, 97, 116, 117, 115], [50, 48, 54]),
  ([58, 115, 116, 97, 116, 117, 115], [51, 48, 52]),
  ([58, 115, 116, 97, 116, 117, 115], [52, 48, 48]),
  ([58, 115, 116, 97, 116, 117, 115], [52, 48, 52]),
  ([58, 115, 116, 97, 116, 117, 115], [53, 48, 48]),
  ([97, 99, 99, 101, 112, 116, 45, 99, 104, 97, 114, 115, 101, 116], []),
  ([97, 99, 99, 101, 112, 116, 45, 101, 110, 99, 111, 100, 105, 110, 103], [103, 122, 105, 112, 44, 32, 100, 101, 102, 108, 97, 116, 101]),
  ([97, 99, 99, 101, 112, 116, 45, 108, 97, 110, 103, 117, 97, 103, 101], []),
  ([97, 99, 99, 101, 112, 116, 45, 114, 97, 110, 103, 101, 115], []),
  ([97, 99, 99, 101, 112, 116], []),
  ([97, 99, 99, 101, 115, 115, 45, 99, 111, 110, 116, 114, 111, 108, 45, 97, 108, 108, 111, 119, 45, 111, 114, 105, 103, 105, 110], []),
  ([97, 103, 101], []),
  ([97, 108, 108, 111, 119], []),
  ([97, 117, 116, 104, 111, 114, 105, 122, 97, 116, 105, 111, 110], []),
  ([99, 97, 99, 104, 101, 45, 99, 111, 110, 116, 114, 111, 108], []),
  ([99, 111, 110, 116, 101, 110, 116, 45, 100, 105, 115, 112, 111, 115, 105, 116, 105, 111, 110], []),
  ([99, 111, 110, 116, 101, 110, 116, 45, 101, 110, 99, 111, 100, 105, 110, 103], []),
  ([99, 111, 110, 116, 101, 110, 116, 45, 108, 97, 110, 103, 117, 97, 103, 101], []),
  ([99, 111, 110, 116, 101, 110, 116, 45, 108, 101, 110, 103, 116, 104], []),
  ([99, 111, 110, 116, 101, 110, 116, 45, 108, 111, 99, 97, 116, 105, 111, 110], []),
  ([99, 111, 110, 116, 101, 110, 116, 45, 114, 97, 110, 103, 101], []),
  ([99, 111, 110, 116, 101, 110, 116, 45, 116, 121, 112, 101], []),
  ([99, 111, 111, 107, 105, 101], []),
  ([100, 97, 116, 101], []),
  ([101, 116, 97, 103], []),
  ([101, 120, 112, 101, 99, 116], []),
  ([101, 120, 112, 105, 114, 101, 115], []),
  ([102, 114, 111, 109], []),
  ([104, 111, 115, 116], []),
  ([105, 102, 45, 109, 97, 116, 99, 104], []),
  ([105, 102, 45, 109, 111, 100, 105, 102, 105, 101, 100, 45, 115, 105, 110, 99, 101], []),
  ([105, 102, 45, 110, 111, 110, 101, 45, 109, 97, 116, 99, 104], []),
  ([105, 102, 45, 114, 97, 110, 103, 101], []),
  ([105, 102, 45, 117, 110, 109, 111, 100, 105, 102, 105, 101, 100, 45, 115, 105, 110, 99, 101], []),
  ([108, 97, 115, 116, 45, 109, 111, 100, 105, 102, 105, 101, 100], []),
  ([108, 105, 110, 107], []),
  ([108, 111, 99, 97, 116, 105, 111, 110], []),
  ([109, 97, 120, 45, 102, 111, 114, 119, 97, 114, 100, 115], []),
  ([112, 114, 111, 120, 121, 45, 97, 117, 116, 104, 101, 110, 116, 105, 99, 97, 116, 101], []),
  ([112, 114, 111, 120, 121, 45, 97, 117, 116, 104, 111, 114, 105, 122, 97, 116, 105, 111, 110], []),
  ([114, 97, 110, 103, 101], []),
  ([114, 101, 102, 101, 114, 101, 114], []),
  ([114, 101, 102, 114, 101, 115, 104], []),
  ([114, 101, 116, 114, 121, 45, 97, 102, 116, 101, 114], []),
  ([115, 101, 114, 118, 101, 114], []),
  ([115, 101, 116, 45, 99, 111, 111, 107, 105, 101], []),
  ([115, 116, 114, 105, 99, 116, 45, 116, 114, 97, 110, 115, 112, 111, 114, 116, 45, 115, 101, 99, 117, 114, 105, 116, 121], []),
  ([116, 114, 97, 110, 115, 102, 101, 114, 45, 101, 110, 99, 111, 100, 105, 110, 103], []),
  ([117, 115, 101, 114, 45, 97, 103, 101, 110, 116], []),
  ([118, 97, 114, 121], []),
  ([118, 105, 97], []),
  ([119, 119, 119, 45, 97, 117, 116, 104, 101, 110, 116, 105, 99, 97, 116, 101], [])]
theorem staticT_len : staticT.length = 61 := by kernel_rfl
def pieceOf (f : FieldL) : List UInt8 := if f.2.isEmpty then f.1 else f.1 ++ 61 :: f.2
def joinC (c : UInt8) : List (List UInt8) → List UInt8
  | [] => []
  | [p] => p
  | p :: q :: r => p ++ c :: joinC c (q :: r)

theorem pre_one (c b : UInt8) (l : List UInt8) : [c].isPrefixOf (b :: l) = (c == b) := by
  simp [List.isPrefixOf]
theorem index_no (c : UInt8) : ∀ p : List UInt8, c ∉ p → Lib.index p [c] = -1
  | [], _ => rfl
  | b :: l, h => by
    have h1 : c ≠ b := fun e => h (by rw [e]; simp)
    have h2 : (c == b) = false := by simpa using h1
    have ih := index_no c l (fun e => h (by simp [e]))
    unfold Lib.index
    rw [pre_one, h2, ih]
    rfl
theorem index_at (c : UInt8) (r : List UInt8) : ∀ p : List UInt8, c ∉ p → Lib.index (p ++ c :: r) [c] = (p.length : Int)
  | [], _ => by
    show Lib.index (c :: r) [c] = _
    unfold Lib.index
    rw [pre_one, if_pos (by simp)]
    rfl
  | b :: l, h => by
    have h1 : c ≠ b := fun e => h (by rw [e]; simp)
    have h2 : (c == b) = false := by simpa using h1
    have ih := index_at c r l (fun e => h (by simp [e]))
    show Lib.index (b :: (l ++ c :: r)) [c] = _
    unfold Lib.index
    rw [pre_one, h2, if_neg (by simp), ih, if_neg (by simp)]
    simp
theorem split_joinC (c : UInt8) : ∀ P : List (List UInt8), P ≠ [] → (∀ p ∈ P, c ∉ p) → Lib.splitK [c] 0 (P.length - 1) (joinC c P) = P
  | [], h, _ => absurd rfl h
  | [p], _, _ => rfl
  | p :: q :: r, _, h => by
    have hp : c ∉ p := h p (by simp)
    have ih := split_joinC c (q :: r) (by simp) (fun x hx => h x (List.mem_cons_of_mem _ hx))
    have e1 : (p :: q :: r).length - 1 = r.length + 1 := by simp
    have e2 : (q :: r).length - 1 = r.length := by simp
    rw [e2] at ih
    rw [e1]
    show Lib.splitK [c] 0 (r.length + 1) (p ++ c :: joinC c (q :: r)) = _
    unfold Lib.splitK
    rw [index_at c _ p hp, if_neg (by simp)]
    have e3 : ((p.length : Int)).toNat = p.length := by simp
    rw [e3, Nat.add_zero, List.take_left' rfl]
    have e4 : (p ++ c :: joinC c (q :: r)).drop (p.length + [c].length) = joinC c (q :: r) := by
      have : (p ++ c :: joinC c (q :: r)) = (p ++ [c]) ++ joinC c (q :: r) := by simp
      rw [this, List.drop_left' (by simp)]
    rw [e4, ih]

def piecesT : List (List UInt8) := staticT.map pieceOf
def knownL : List UInt8 := joinC 124 piecesT
theorem piecesT_len : piecesT.length = 61 := by kernel_rfl
theorem pieces_no_bar : ∀ p ∈ piecesT, (124 : UInt8) ∉ p := by
  have h : (piecesT.all fun p => !p.contains 124) = true := by kernel_rfl
  intro p hp
  have := List.all_eq_true.1 h p hp
  simpa using this
theorem known_count : Lib.count knownL [124] = 60 := by
  rw [Lib.count_one]
  kernel_rfl
theorem known_split : Lib.splitK [124] 0 60 knownL = piecesT := by
  have h := split_joinC 124 piecesT (by intro e; have := piecesT_len; rw [e] at this; cases this) pieces_no_bar
  rw [piecesT_len] at h
  exact h
theorem known_countB (s : ByteArray) (h : s.data.toList = knownL) : Lib.countB s ⟨#[124]⟩ = 60 := by
  show Lib.count s.data.toList [124] = 60
  rw [h, known_count]
theorem known_splitB (s : ByteArray) (h : s.data.toList = knownL) : (Lib.splitB ⟨#[124]⟩ 0 60 s).map Value.string = piecesT.map strV := by
  have e := Lib.splitB_data ⟨#[124]⟩ 0 60 s
  rw [h] at e
  have e1 : Lib.splitK (⟨#[124]⟩ : ByteArray).data.toList 0 60 knownL = piecesT := known_split
  rw [e1] at e
  rw [← e, List.map_map]
  rfl
/-- What a piece is cut into. -/
theorem piece_cut (k : Nat) (h : k < 61) : ∃ f : FieldL, staticT[k]? = some f ∧ piecesT[k]? = some (pieceOf f) ∧ (Lib.cut (pieceOf f) [61]).1 = f.1 ∧ (Lib.cut (pieceOf f) [61]).2.1 = f.2 ∧ (pieceOf f).length ≤ 1000 := by
  have hl : k < staticT.length := by rw [staticT_len]; exact h
  have hall : (staticT.all fun f => !f.1.contains 61 && decide ((pieceOf f).length ≤ 1000)) = true := by kernel_rfl
  have hx := List.all_eq_true.1 hall staticT[k] (List.getElem_mem hl)
  simp only [Bool.and_eq_true, decide_eq_true_eq, Bool.not_eq_true', List.contains_eq_mem, decide_eq_false_iff_not] at hx
  refine ⟨staticT[k], List.getElem?_eq_getElem hl, ?_, ?_⟩
  · unfold piecesT
    rw [List.getElem?_map, List.getElem?_eq_getElem hl]
    rfl
  · generalize staticT[k] = f at hx ⊢
    obtain ⟨f1, f2⟩ := f
    obtain ⟨h1, h2⟩ := hx
    refine ⟨?_, ?_, h2⟩
    all_goals
      unfold pieceOf
      cases f2 with
      | nil =>
        simp only [List.isEmpty_nil, if_true]
        unfold Lib.cut
        rw [index_no 61 f1 h1, if_neg (by decide)]
      | cons a f2 =>
        simp only [List.isEmpty_cons, Bool.false_eq_true, if_false]
        unfold Lib.cut
        rw [index_at 61 (a :: f2) f1 h1, if_pos (by omega)]
        simp
end Go.Proofs.YtahjoiphajkdcaaDoor
