/-
  Fields that are not too large: the reference's All and Split over them.
-/
import Derived.Test.YtdcdckjdloddiaaLight
import Derived.Test.YtdcdckjdloddiaaArgR
import Derived.Test.YtdcdckjdloddiaaRAll
import Derived.Test.YtdcdckjdloddiaaCtlMoreP
import Derived.Test.YtdcdckjdloddiaaRPairs
namespace Go.Proofs.Ytdcdckjdloddiaa
open Go.RowKit

theorem sumL_bulk (l : List FieldL) : sumL l ≤ bulkF l := by
  induction l with
  | nil => simp [sumL]
  | cons f l ih =>
    have e : bulkF (f :: l) = f.1.length + f.2.length + 3 + bulkF l := by simp [bulkF]
    rw [e, sumL_cons]
    omega

theorem rall_j (v : Value) (l : List FieldL) (w : World) (hr : RbF w v l) (hL : sumL l ≤ 2000) (J : ByteArray) (hJ : Lib.join (valsF nCC l) [44, 32] = J.data.toList) :
    Calls Try.prog 28 #[v, .string ⟨#[99, 97, 99, 104, 101, 45, 99, 111, 110, 116, 114, 111, 108]⟩] w fun e w' => ∃ j : Int, e = .returned (.tuple #[.string J, .int .i64 j]) ∧ Aft w w' := by
  have := rall_any v l ⟨nCC.toArray⟩ w hr (by have := sumL_len l; omega) (fun f hf => by have := sumL_mem hf; omega)
  refine this.mono ?_
  rintro e w' ⟨rfl, a⟩
  refine ⟨((valsF (⟨nCC.toArray⟩ : ByteArray).data.toList l).length : Int), ?_, a⟩
  have e1 : (⟨(Lib.join (valsF (⟨nCC.toArray⟩ : ByteArray).data.toList l) [44, 32]).toArray⟩ : ByteArray) = J := bytes_ext (by rw [← hJ])
  rw [e1]
theorem rsplit_b (s : ByteArray) (w : World) (hs : s.size ≤ 1000000000) (b : Bool) (h : (splF s.data.toList).isSome = b) :
    Calls Try.prog 29 #[.string s] w fun e w' => ∃ v, e = .returned (.tuple #[v, .bool b]) ∧ Aft w w' := by
  subst h
  refine (rsplit_any s w hs).mono ?_
  rintro e w' ⟨h, a⟩
  cases hq : splF s.data.toList with
  | none => rw [hq] at h; exact ⟨_, h, a⟩
  | some L => rw [hq] at h; obtain ⟨v, h, _⟩ := h; exact ⟨v, h, a⟩
theorem light_val {l : List FieldL} (h : sumL l ≤ 2000) : ∀ f ∈ l, f.2.length ≤ 2000 := fun f hf => by have := sumL_mem hf; omega
theorem light_len {l : List FieldL} (h : sumL l ≤ 2000) : l.length ≤ 1000000 := by have := sumL_len l; omega
theorem join_sz {l : List FieldL} {J : ByteArray} (h : sumL l ≤ 2000) (hJ : Lib.join (valsF nCC l) [44, 32] = J.data.toList) : J.size ≤ 1000000000 := by
  obtain ⟨h1, h2⟩ := vals_len nCC l (light_val h)
  have h3 := join_len _ h1
  have h4 := sumL_len l
  rw [← size_len, ← hJ]
  omega
theorem join_sz2 {l : List FieldL} (h : sumL l ≤ 2000) : (Lib.join (valsF nCC l) [44, 32]).length ≤ 100000000 := by
  obtain ⟨h1, h2⟩ := vals_len nCC l (light_val h)
  have h3 := join_len _ h1
  have h4 := sumL_len l
  omega
theorem join_app_sz {l m : List FieldL} (h : sumL l ≤ 2000) (k : sumL m ≤ 2000) : (Lib.join (valsF nCC (l ++ m)) [44, 32]).length ≤ 100000000 := by
  obtain ⟨h1, h2⟩ := vals_len nCC (l ++ m) (fun f hf => by
    rcases List.mem_append.1 hf with hf | hf
    · exact light_val h f hf
    · exact light_val k f hf)
  have h3 := join_len _ h1
  have h4 := sumL_len l
  have h5 := sumL_len m
  rw [List.length_append] at h2
  omega

end Go.Proofs.Ytdcdckjdloddiaa
