/-
  A field's bytes, their sum; the walk of fields.Bytes.
-/
import Derived.Test.YtahjoiphajkdcaaDoorFldAll
import Derived.Laws.Rows
import Derived.Laws.Tables
import Derived.RegionTactic
namespace Go.Proofs.YtahjoiphajkdcaaDoor
open Go.RowKit

theorem bcellF {W w1 : World} (hb : Below W.heap.size W w1) : (∀ b o, b < W.heap.size → w1.cell? ⟨b, o, none⟩ = W.cell? ⟨b, o, none⟩) ∧ (∀ b o, b < W.heap.size → w1.frozen? ⟨b, o, none⟩ = W.frozen? ⟨b, o, none⟩) :=
  ⟨fun b o h => hb.cell (p := ⟨b, o, none⟩) h, fun b o h => hb.frozen (p := ⟨b, o, none⟩) h⟩

def fieldV (f : FieldL) : Value := .agg #[.string ⟨f.1.toArray⟩, .string ⟨f.2.toArray⟩]
def fsize (f : FieldL) : Nat := f.1.length + f.2.length + 32
def sumF (l : List FieldL) : Nat := (l.map fsize).sum
theorem sumF_nil : sumF [] = 0 := rfl
theorem sumF_cons (f : FieldL) (l : List FieldL) : sumF (f :: l) = fsize f + sumF l := by simp [sumF]
theorem sumF_append (a b : List FieldL) : sumF (a ++ b) = sumF a + sumF b := by simp [sumF]
theorem sumF_mem {f : FieldL} {l : List FieldL} (h : f ∈ l) : fsize f ≤ sumF l := by
  induction l with
  | nil => simp at h
  | cons g l ih =>
    rw [sumF_cons]
    rcases List.mem_cons.1 h with rfl | h
    · omega
    · have := ih h; omega
theorem sumF_take (l : List FieldL) (k : Nat) : sumF (l.take k) ≤ sumF l := by
  have : sumF (l.take k) + sumF (l.drop k) = sumF l := by rw [← sumF_append, List.take_append_drop]
  omega
theorem sumF_len (l : List FieldL) : 32 * l.length ≤ sumF l := by
  induction l with
  | nil => simp
  | cons f l ih => rw [sumF_cons, List.length_cons]; unfold fsize; omega

theorem bytes_any (f : FieldL) (h : fsize f ≤ 1000000000000) (w : World) :
    Calls Tryd.prog 8 #[fieldV f] w fun e w' => e = .returned (.int .i64 (fsize f : Int)) ∧ Aft w w' := by
  obtain ⟨n, hn⟩ : ∃ n, (⟨f.1.toArray⟩ : ByteArray).size = n := ⟨_, rfl⟩
  obtain ⟨m, hm⟩ : ∃ m, (⟨f.2.toArray⟩ : ByteArray).size = m := ⟨_, rfl⟩
  have hz : fsize f = n + m + 32 := by
    subst hn hm
    show _ = f.1.toArray.size + f.2.toArray.size + 32
    simp [fsize]
  rw [hz] at h ⊢
  unfold fieldV
  generalize (⟨f.1.toArray⟩ : ByteArray) = A at hn ⊢
  generalize (⟨f.2.toArray⟩ : ByteArray) = B at hm ⊢
  have g1 : IntKind.i64.wrap ((n : Int) + (m : Int)) = (n : Int) + (m : Int) := IntWalk.i64_in _ (by omega)
  have g2 : IntKind.i64.wrap ((n : Int) + (m : Int) + 32) = (n : Int) + (m : Int) + 32 := IntWalk.i64_in _ (by omega)
  subst hn hm
  clear hz
  go_enter Tryd.func8, Tryd.ntmps8
  go_wp2_with fail
  go_ret
  exact ⟨ret_int (by push_cast; omega), (Aft.refl w).alloc _⟩

end Go.Proofs.YtahjoiphajkdcaaDoor
