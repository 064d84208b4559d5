/-
  ReuseRuns.
-/
import Derived.Test.YtdcdckjdloddiaaReOf
namespace Go.Proofs.Ytdcdckjdloddiaa
open Go.RowKit
set_option linter.unusedVariables false

theorem none_one (n v : ByteArray) (w : World) (hv : v.size ≤ 2000) (R : Int) (hR : (if (ctlF [(n.data.toList, v.data.toList)]).on = true then (4 : Int) else 3) = R) :
    Calls Try.prog 27 #[.agg #[.string ⟨#[]⟩, .string ⟨#[]⟩, .string ⟨#[]⟩, .string ⟨#[]⟩, .slice (some ⟨w.heap.size, 0, none⟩) 1 1, .int .i64 0]] (w.alloc (.cells #[.string n, .string v] 38)) fun e w' => e = .returned (.int .i64 R) ∧ Aft w w' :=
  (none_any _ _ [(n.data.toList, v.data.toList)] _ (req_none _) (rbF_one19 n v w) (fok_small (by simp) (fun f hf => by
    obtain rfl : f = (n.data.toList, v.data.toList) := by simpa using hf
    rw [size_len]
    exact hv))).mono fun e w' ⟨h1, h2⟩ => ⟨by rw [h1, hR], ((Aft.refl w).alloc _).trans h2⟩
theorem none_nil (w : World) : Calls Try.prog 27 #[.agg #[.string ⟨#[]⟩, .string ⟨#[]⟩, .string ⟨#[]⟩, .string ⟨#[]⟩, .slice none 0 0, .int .i64 0]] w fun e w' => e = .returned (.int .i64 3) ∧ Aft w w' :=
  (none_any _ _ [] _ (req_none _) (Or.inl ⟨rfl, rfl⟩) (fok_small (by simp) (fun f hf => by cases hf))).mono fun e w' ⟨h1, h2⟩ => ⟨by rw [h1, ctlF_nil]; rfl, h2⟩

set_option maxHeartbeats 8000000 in
set_option maxRecDepth 100000 in
theorem reuseruns_any (w : World) : Calls Try.prog 23 #[] w fun e w' => e = .returned (.bool true) ∧ Aft w w' := by
  go_enter Try.func23, Try.ntmps23
  go_wp2_with fail
  refine (of21_any _ _ _).mono ?_
  rintro e w1 ⟨rfl, a1⟩
  have hb : (w1.alloc (.cells #[.string ⟨#[99, 97, 99, 104, 101, 45, 99, 111, 110, 116, 114, 111, 108]⟩, .string ⟨#[109, 97, 120, 45, 115, 116, 97, 108, 101, 61, 50]⟩] 38)).heap[w1.heap.size]? = some (.cells #[.string ⟨#[99, 97, 99, 104, 101, 45, 99, 111, 110, 116, 114, 111, 108]⟩, .string ⟨#[109, 97, 120, 45, 115, 116, 97, 108, 101, 61, 50]⟩] 38 (0, 0)) := heap_alloc_new w1 _
  have HA := Lib.hid (a1.alloc (.cells #[.string ⟨#[99, 97, 99, 104, 101, 45, 99, 111, 110, 116, 114, 111, 108]⟩, .string ⟨#[109, 97, 120, 45, 115, 116, 97, 108, 101, 61, 50]⟩] 38))
  have HZ := Lib.hid (show (Try.prog.info? 38).map (·.size) = some (#[Value.string ⟨#[99, 97, 99, 104, 101, 45, 99, 111, 110, 116, 114, 111, 108]⟩, .string ⟨#[109, 97, 120, 45, 115, 116, 97, 108, 101, 61, 50]⟩]).size by kernel_rfl)
  have hlt : w1.heap.size < (w1.alloc (.cells #[.string ⟨#[99, 97, 99, 104, 101, 45, 99, 111, 110, 116, 114, 111, 108]⟩, .string ⟨#[109, 97, 120, 45, 115, 116, 97, 108, 101, 61, 50]⟩] 38)).heap.size := by rw [World.size_alloc]; omega
  have HB := Lib.hid (fun w' (a : Aft (w1.alloc (.cells #[.string ⟨#[99, 97, 99, 104, 101, 45, 99, 111, 110, 116, 114, 111, 108]⟩, .string ⟨#[109, 97, 120, 45, 115, 116, 97, 108, 101, 61, 50]⟩] 38)) w') => (a.block w1.heap.size hlt).trans hb)
  clear hb hlt a1
  go_upto_region 2 with fail
  generalize w1.alloc (.cells #[.string ⟨#[99, 97, 99, 104, 101, 45, 99, 111, 110, 116, 114, 111, 108]⟩, .string ⟨#[109, 97, 120, 45, 115, 116, 97, 108, 101, 61, 50]⟩] 38) = W at HA HB ⊢
  generalize w1.heap.size = g at HB ⊢
  have AW := Lib.hid (Aft.refl W)
  have h0 := HB.out W AW.out
  go_wp2_with fail
  refine (way_nil ⟨#[109, 97, 120, 45, 97, 103, 101, 61, 53]⟩ 3 _ (by decide) 1 (by decide +kernel)).mono ?_
  rintro e y1 ⟨rfl, b1⟩
  have A1 := Lib.hid (AW.out.trans b1)
  have h1 := HB.out _ A1.out
  clear b1 h0 AW
  go_wp2_with fail
  refine (way_nil ⟨#[109, 97, 120, 45, 97, 103, 101, 61, 53]⟩ 5 _ (by decide) 2 (by decide +kernel)).mono ?_
  rintro e y2 ⟨rfl, b2⟩
  have A2 := Lib.hid (A1.out.trans b2)
  have h2 := HB.out _ A2.out
  clear b2 h1 A1
  go_wp2_with (refine wpList_load_row_w rfl 38 (.tmp 1) rfl g rfl _ #[.string ⟨#[99, 97, 99, 104, 101, 45, 99, 111, 110, 116, 114, 111, 108]⟩, .string ⟨#[109, 97, 120, 45, 115, 116, 97, 108, 101, 61, 50]⟩] (0, 0) _ h2 Try.underlying38 rfl HZ.out ?_)
  refine (way_one ⟨#[109, 97, 120, 45, 97, 103, 101, 61, 53]⟩ ⟨#[99, 97, 99, 104, 101, 45, 99, 111, 110, 116, 114, 111, 108]⟩ ⟨#[109, 97, 120, 45, 115, 116, 97, 108, 101, 61, 50]⟩ 7 _ (by decide) (by decide) 1 (by decide +kernel)).mono ?_
  rintro e y3 ⟨rfl, b3⟩
  have A3 := Lib.hid (A2.out.trans b3)
  have h3 := HB.out _ A3.out
  clear b3 h2 A2
  go_wp2_with (refine wpList_load_row_w rfl 38 (.tmp 1) rfl g rfl _ #[.string ⟨#[99, 97, 99, 104, 101, 45, 99, 111, 110, 116, 114, 111, 108]⟩, .string ⟨#[109, 97, 120, 45, 115, 116, 97, 108, 101, 61, 50]⟩] (0, 0) _ h3 Try.underlying38 rfl HZ.out ?_)
  refine (way_one ⟨#[109, 97, 120, 45, 97, 103, 101, 61, 53, 44, 32, 109, 117, 115, 116, 45, 114, 101, 118, 97, 108, 105, 100, 97, 116, 101]⟩ ⟨#[99, 97, 99, 104, 101, 45, 99, 111, 110, 116, 114, 111, 108]⟩ ⟨#[109, 97, 120, 45, 115, 116, 97, 108, 101, 61, 50]⟩ 7 _ (by decide) (by decide) 2 (by decide +kernel)).mono ?_
  rintro e y4 ⟨rfl, b4⟩
  have A4 := Lib.hid (A3.out.trans b4)
  have h4 := HB.out _ A4.out
  clear b4 h3 A3
  go_wp2_with fail
  refine (of21_any _ _ _).mono ?_
  rintro e y5 ⟨rfl, b5⟩
  have A5 := Lib.hid (A4.out.trans b5)
  have h5 := HB.out _ A5.out
  clear b5 h4 A4
  go_wp2_with fail
  refine (way_one ⟨#[109, 97, 120, 45, 97, 103, 101, 61, 53]⟩ ⟨#[99, 97, 99, 104, 101, 45, 99, 111, 110, 116, 114, 111, 108]⟩ ⟨#[110, 111, 45, 99, 97, 99, 104, 101]⟩ 3 _ (by decide) (by decide) 2 (by decide +kernel)).mono ?_
  rintro e y6 ⟨rfl, b6⟩
  have A6 := Lib.hid (A5.out.trans b6)
  have h6 := HB.out _ A6.out
  clear b6 h5 A5
  go_wp2_with fail
  refine (of21_any _ _ _).mono ?_
  rintro e y7 ⟨rfl, b7⟩
  have A7 := Lib.hid (A6.out.trans b7)
  have h7 := HB.out _ A7.out
  clear b7 h6 A6
  go_wp2_with fail
  refine (way_one ⟨#[109, 97, 120, 45, 97, 103, 101, 61, 53]⟩ ⟨#[99, 97, 99, 104, 101, 45, 99, 111, 110, 116, 114, 111, 108]⟩ ⟨#[109, 97, 120, 45, 97, 103, 101, 61, 50]⟩ 3 _ (by decide) (by decide) 2 (by decide +kernel)).mono ?_
  rintro e y8 ⟨rfl, b8⟩
  have A8 := Lib.hid (A7.out.trans b8)
  have h8 := HB.out _ A8.out
  clear b8 h7 A7
  go_wp2_with fail
  refine (of21_any _ _ _).mono ?_
  rintro e y9 ⟨rfl, b9⟩
  have A9 := Lib.hid (A8.out.trans b9)
  have h9 := HB.out _ A9.out
  clear b9 h8 A8
  go_wp2_with fail
  refine (way_one ⟨#[109, 97, 120, 45, 97, 103, 101, 61, 53]⟩ ⟨#[99, 97, 99, 104, 101, 45, 99, 111, 110, 116, 114, 111, 108]⟩ ⟨#[109, 105, 110, 45, 102, 114, 101, 115, 104, 61, 51, 44, 32, 111, 110, 108, 121, 45, 105, 102, 45, 99, 97, 99, 104, 101, 100]⟩ 3 _ (by decide) (by decide) 4 (by decide +kernel)).mono ?_
  rintro e y10 ⟨rfl, b10⟩
  have A10 := Lib.hid (A9.out.trans b10)
  have h10 := HB.out _ A10.out
  clear b10 h9 A9
  go_wp2_with fail
  refine (of21_any _ _ _).mono ?_
  rintro e y11 ⟨rfl, b11⟩
  have A11 := Lib.hid (A10.out.trans b11)
  have h11 := HB.out _ A11.out
  clear b11 h10 A10
  go_wp2_with fail
  refine (none_one ⟨#[99, 97, 99, 104, 101, 45, 99, 111, 110, 116, 114, 111, 108]⟩ ⟨#[111, 110, 108, 121, 45, 105, 102, 45, 99, 97, 99, 104, 101, 100]⟩ _ (by decide) 4 (by decide +kernel)).mono ?_
  rintro e y12 ⟨rfl, b12⟩
  have A12 := Lib.hid (A11.out.trans b12)
  have h12 := HB.out _ A12.out
  clear b12 h11 A11
  go_wp2_with fail
  refine (none_nil _).mono ?_
  rintro e y13 ⟨rfl, b13⟩
  have A13 := Lib.hid (A12.out.trans b13)
  have h13 := HB.out _ A13.out
  clear b13 h12 A12
  go_wp2_with fail
  go_ret
  exact ⟨rfl, HA.out.trans A13.out⟩
theorem walkReuseRuns (w : World) : Calls Try.prog 23 #[] w fun e w' => e = .returned (.bool true) ∧ Aft w w' := reuseruns_any w
end Go.Proofs.Ytdcdckjdloddiaa
