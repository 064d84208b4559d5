/-
  FreshRuns.
-/
import Derived.Test.YtdcdckjdloddiaaFrLawB
namespace Go.Proofs.Ytdcdckjdloddiaa
open Go.RowKit
set_option linter.unusedVariables false

theorem rbF_one19 (n v : ByteArray) (W : World) : RbF (W.alloc (.cells #[.string n, .string v] 38)) (.slice (some ⟨W.heap.size, 0, none⟩) 1 1) [(n.data.toList, v.data.toList)] := by
  have h : FB (W.alloc (.cells #[.string n, .string v] 38)) W.heap.size [(n.data.toList, v.data.toList)] := heap_alloc_new W _
  exact h.rb (by simp [maxLen]) 1 (by simp)
theorem rbF_two19 (n v m u : ByteArray) (W : World) : RbF (W.alloc (.cells #[.string n, .string v, .string m, .string u] 38)) (.slice (some ⟨W.heap.size, 0, none⟩) 2 2) [(n.data.toList, v.data.toList), (m.data.toList, u.data.toList)] := by
  have h : FB (W.alloc (.cells #[.string n, .string v, .string m, .string u] 38)) W.heap.size [(n.data.toList, v.data.toList), (m.data.toList, u.data.toList)] := heap_alloc_new W _
  exact h.rb (by simp [maxLen]) 2 (by simp)
theorem join_len19 (xs : List (List UInt8)) (h : ∀ x ∈ xs, x.length ≤ 2000) : (Lib.join xs [44, 32]).length ≤ 2002 * xs.length := by
  cases xs with
  | nil => simp [Lib.join_nil]
  | cons x r =>
    rw [Lib.join_cons, List.length_append]
    have h1 := h x List.mem_cons_self
    have h2 : ∀ r : List (List UInt8), (∀ x ∈ r, x.length ≤ 2000) → (Lib.joinTail [44, 32] r).length ≤ 2002 * r.length := by
      intro r
      induction r with
      | nil => intro _; simp [Lib.joinTail]
      | cons y r ih =>
        intro hr
        have e : Lib.joinTail [44, 32] (y :: r) = ([44, 32] ++ y) ++ Lib.joinTail [44, 32] r := by simp [Lib.joinTail]
        have h3 := hr y List.mem_cons_self
        have h4 := ih (fun z hz => hr z (List.mem_cons_of_mem _ hz))
        rw [e, List.length_append, List.length_append, List.length_cons]
        simp only [List.length_cons, List.length_nil]
        omega
    have h3 := h2 r (fun z hz => h z (List.mem_cons_of_mem _ hz))
    rw [List.length_cons]
    omega
theorem fok_small {l : List FieldL} (h1 : l.length ≤ 2000) (h : ∀ f ∈ l, f.2.length ≤ 2000) : FOk l := by
  refine ⟨by omega, fun name => ?_⟩
  have hl : (valsF name l).length ≤ l.length := by
    unfold valsF
    rw [List.length_map]
    exact List.length_filter_le _ _
  have hv : ∀ x ∈ valsF name l, x.length ≤ 2000 := by
    intro x hx
    unfold valsF at hx
    obtain ⟨f, hf, rfl⟩ := List.mem_map.1 hx
    exact h f (List.mem_filter.1 hf).1
  have := join_len19 _ hv
  omega
theorem life_of (vs : Value) (ask ca : Int) (l : List FieldL) (x : Nat) (w : World) (L : Int) (hr : RbF w vs l) (hk : FOk l) (hL : lifeF 200 l ca x = L) :
    Calls Try.prog 14 #[.agg (entR vs ask ca), .float .f64 x] w fun e w' => e = .returned (.int .i64 L) ∧ Aft w w' := by
  subst hL
  exact lifetime_any _ 200 vs ask ca l x w (entR_ok vs ask ca) hr hk
theorem age_of (vs : Value) (ask ca now : Int) (l : List FieldL) (w : World) (G : Int) (hr : RbF w vs l) (hk : FOk l) (hG : ageF l ask ca now = G) :
    Calls Try.prog 13 #[.agg (entR vs ask ca), .int .i64 now] w fun e w' => e = .returned (.int .i64 G) ∧ Aft w w' := by
  subst hG
  exact age_any _ 200 vs ask ca now l w (entR_ok vs ask ca) hr hk
def tD : ByteArray := ⟨#[83, 117, 110, 44, 32, 48, 54, 32, 78, 111, 118, 32, 49, 57, 57, 52, 32, 48, 56, 58, 52, 57, 58, 51, 55, 32, 71, 77, 84]⟩

set_option maxHeartbeats 8000000 in
set_option maxRecDepth 100000 in
theorem freshruns_any (w : World) : Calls Try.prog 11 #[] w fun e w' => e = .returned (.bool true) ∧ Aft w w' := by
  go_enter Try.func11, Try.ntmps11
  go_wp2_with fail
  refine (of19_any _ _ _).mono ?_
  rintro e w1 ⟨rfl, a1⟩
  go_wp2_with fail
  refine (entry19_any _ _ _ _).mono ?_
  rintro e w2 ⟨rfl, a2⟩
  go_wp2_with fail
  refine (life_of _ 0 0 _ 0 _ 9 ((rbF_one19 _ _ w1).aft a2) (fok_small (by decide) (by decide +kernel)) (by decide +kernel)).mono ?_
  rintro e w3 ⟨rfl, a3⟩
  have A3 := Lib.hid (((a1.alloc _).trans a2).trans a3)
  clear a1 a2 a3
  go_wp2_with fail
  refine (of19_any _ _ _).mono ?_
  rintro e w4 ⟨rfl, a4⟩
  go_wp2_with fail
  refine (of19_any _ _ _).mono ?_
  rintro e w5 ⟨rfl, a5⟩
  go_wp2_with fail
  refine (entry19_any _ _ _ _).mono ?_
  rintro e w6 ⟨rfl, a6⟩
  go_wp2_with fail
  refine (life_of _ 0 0 _ 0 _ 60 ((rbF_two19 _ _ _ _ w5).aft a6) (fok_small (by decide) (by decide +kernel)) (by decide +kernel)).mono ?_
  rintro e w7 ⟨rfl, a7⟩
  have A7 := Lib.hid (((((A3.out.trans a4).trans a5).alloc _).trans a6).trans a7)
  clear a4 a5 a6 a7 A3
  go_wp2_with fail
  refine (of19_any _ _ _).mono ?_
  rintro e w8 ⟨rfl, a8⟩
  go_wp2_with fail
  refine (entry19_any _ _ _ _).mono ?_
  rintro e w9 ⟨rfl, a9⟩
  go_wp2_with fail
  refine (life_of _ 0 0 _ 4607182418800017408 _ 0 ((rbF_one19 _ _ w8).aft a9) (fok_small (by decide) (by decide +kernel)) (by decide +kernel)).mono ?_
  rintro e w10 ⟨rfl, a10⟩
  have A10 := Lib.hid ((((A7.out.trans a8).alloc _).trans a9).trans a10)
  clear a8 a9 a10 A7
  go_wp2_with fail
  refine (of19_any _ _ _).mono ?_
  rintro e w11 ⟨rfl, a11⟩
  go_wp2_with fail
  refine (of19_any _ _ _).mono ?_
  rintro e w12 ⟨rfl, a12⟩
  go_wp2_with fail
  refine (entry19_any _ _ _ _).mono ?_
  rintro e w13 ⟨rfl, a13⟩
  go_wp2_with fail
  refine (life_of _ 0 0 _ 4591870180066957722 _ 10 ((rbF_two19 _ _ _ _ w12).aft a13) (fok_small (by decide) (by decide +kernel)) (by decide +kernel)).mono ?_
  rintro e w14 ⟨rfl, a14⟩
  have A14 := Lib.hid (((((A10.out.trans a11).trans a12).alloc _).trans a13).trans a14)
  clear a11 a12 a13 a14 A10
  go_wp2_with fail
  refine (of19_any _ _ _).mono ?_
  rintro e w15 ⟨rfl, a15⟩
  go_wp2_with fail
  refine (entry19_any _ _ _ _).mono ?_
  rintro e w16 ⟨rfl, a16⟩
  have HRB := Lib.hid ((rbF_one19 ⟨#[97, 103, 101]⟩ ⟨#[55]⟩ w15).aft a16)
  have A16 := Lib.hid (((A14.out.trans a15).alloc (.cells #[.string ⟨#[97, 103, 101]⟩, .string ⟨#[55]⟩] 38)).trans a16)
  clear a15 a16 A14
  unfold entR
  go_upto_region 8 with fail
  have HEB : Hid (EB (w16.alloc (.cells (entR (.slice (some ⟨w15.heap.size, 0, none⟩) 1 1) 10 12) 28)) w16.heap.size (entR (.slice (some ⟨w15.heap.size, 0, none⟩) 1 1) 10 12)) := Lib.hid (heap_alloc_new w16 _)
  have HRB2 := Lib.hid (HRB.out.aft ((Aft.refl w16).alloc (.cells (entR (.slice (some ⟨w15.heap.size, 0, none⟩) 1 1) 10 12) 28)))
  have A17 := Lib.hid (A16.out.alloc (.cells (entR (.slice (some ⟨w15.heap.size, 0, none⟩) 1 1) 10 12) 28))
  obtain ⟨W, hW⟩ : ∃ W, w16.alloc (.cells (entR (.slice (some ⟨w15.heap.size, 0, none⟩) 1 1) 10 12) 28) = W := ⟨_, rfl⟩
  rw [hW] at HEB HRB2 A17
  rw [show w16.alloc (.cells #[.string ⟨#[]⟩, .string ⟨#[]⟩, .string ⟨#[]⟩, .string ⟨#[]⟩, .slice none 0 0, .int .i64 0, .int .i64 200, .slice (some ⟨w15.heap.size, 0, none⟩) 1 1, .int .i64 0, .string ⟨#[]⟩, .int .i64 10, .int .i64 12] 28) = W from hW]
  clear hW HRB A16
  have HINF := Lib.hid (entR_ok (.slice (some ⟨w15.heap.size, 0, none⟩) 1 1) 10 12).info
  generalize w15.heap.size = g1 at HEB HRB2 HINF ⊢
  generalize w16.heap.size = g at HEB ⊢
  go_wp2_with (refine wpList_load_row_w rfl 28 (.tmp 6) rfl g rfl _ (entR (.slice (some ⟨g1, 0, none⟩) 1 1) 10 12) (0, 0) _ HEB.out Try.underlying28 rfl HINF.out ?_)
  refine (age_of _ 10 12 20 _ _ 17 HRB2.out (fok_small (by decide) (by decide +kernel)) (by decide +kernel)).mono ?_
  rintro e w17 ⟨rfl, a17⟩
  have HEB3 := Lib.hid (HEB.out.aft a17)
  have HRB3 := Lib.hid (HRB2.out.aft a17)
  have A18 := Lib.hid (A17.out.trans a17)
  clear HEB HRB2 A17 a17
  go_wp2_with (refine wpList_load_row_w rfl 28 (.tmp 6) rfl g rfl _ (entR (.slice (some ⟨g1, 0, none⟩) 1 1) 10 12) (0, 0) _ HEB3.out Try.underlying28 rfl HINF.out ?_)
  refine (age_of _ 10 12 5 _ _ 9 HRB3.out (fok_small (by decide) (by decide +kernel)) (by decide +kernel)).mono ?_
  rintro e w18 ⟨rfl, a18⟩
  have A19 := Lib.hid (A18.out.trans a18)
  clear a18
  go_wp2_with fail
  go_ret
  exact ⟨rfl, A19.out⟩

theorem walkFreshRuns (w : World) : Calls Try.prog 11 #[] w fun e w' => e = .returned (.bool true) ∧ Aft w w' := freshruns_any w

end Go.Proofs.Ytdcdckjdloddiaa
