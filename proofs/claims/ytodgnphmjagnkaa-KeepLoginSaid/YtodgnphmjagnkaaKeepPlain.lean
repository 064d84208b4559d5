/-
  KeepPlain.
-/
import Derived.Test.YtodgnphmjagnkaaKeepRuns
import Derived.Test.YtodgnphmjagnkaaWithin
namespace Go.Proofs.Ytodgnphmjagnkaa
open Go.RowKit

theorem may_nil (k : Int) : mayF true k [] [] = plS k := by
  have e1 : ctlF [] = ctl0 := by kernel_rfl
  have e2 : starF [] = false := by kernel_rfl
  have e3 : hasF [] nAuth = false := by kernel_rfl
  have e4 : hasF [] nExpires = false := by kernel_rfl
  unfold mayF
  rw [e1, e2, e3, e4]
  obtain ⟨b, hb⟩ : ∃ b, plS k = b := ⟨_, rfl⟩
  rw [hb]
  cases b
  · simp [mayB, ctl0]
  · have h1 : ¬ k < 200 := by
      intro h
      unfold plS at hb
      simp at hb
      omega
    have h2 : (k == 206) = false := by
      rw [beq_eq_false_iff_ne]
      rintro rfl
      revert hb
      decide
    have h3 : (k == 304) = false := by
      rw [beq_eq_false_iff_ne]
      rintro rfl
      revert hb
      decide
    unfold mayB
    rw [h2, h3, decide_eq_false h1]
    rfl
theorem may_pub (k : Int) : mayF true k [] [((⟨nCC.toArray⟩ : ByteArray).data.toList, (⟨nPublic.toArray⟩ : ByteArray).data.toList)] = (!decide (k < 200) && (!(k == 206) && !(k == 304))) := by
  have e0 : ctlF [] = ctl0 := by kernel_rfl
  have e1 : ctlF [((⟨nCC.toArray⟩ : ByteArray).data.toList, (⟨nPublic.toArray⟩ : ByteArray).data.toList)] = { ctl0 with pu := true } := by kernel_rfl
  have e2 : starF [((⟨nCC.toArray⟩ : ByteArray).data.toList, (⟨nPublic.toArray⟩ : ByteArray).data.toList)] = false := by kernel_rfl
  have e3 : hasF [] nAuth = false := by kernel_rfl
  have e4 : hasF [((⟨nCC.toArray⟩ : ByteArray).data.toList, (⟨nPublic.toArray⟩ : ByteArray).data.toList)] nExpires = false := by kernel_rfl
  unfold mayF
  rw [e0, e1, e2, e3, e4]
  unfold mayB ctl0
  simp

theorem may_st (m : ByteArray) (vq vs : Value) (st : Int) (lq ls : List FieldL) (w : World) (hq : RbF w vq lq) (hs : RbF w vs ls) (kq : FOk lq) (ks : FOk ls) (b : Bool) (hm : (m.data.toList == [71, 69, 84]) = true) (hb : mayF true st lq ls = b) :
    Calls Try.prog 29 #[.agg #[.string m, .string ⟨#[]⟩, .string ⟨#[]⟩, .string ⟨#[]⟩, vq, .int .i64 0], .agg #[.int .i64 st, vs, .int .i64 0]] w fun e w' => e = .returned (.bool b) ∧ Aft w w' :=
  may_of m vq vs st lq ls w hq hs kq ks b (by rw [hm]; exact hb)

set_option maxHeartbeats 8000000 in
set_option maxRecDepth 100000 in
theorem walkKeepPlain (a0 : Int) (w0 : (Lit.int .i64 a0).wf = true) (w : World) :
    Calls Try.prog 11 #[.int .i64 a0] w fun e w' => e = .returned (.bool true) ∧ Aft w w' := by
  have hb := bounds_i64 w0
  have HWI := Lib.hid (within_any a0 100 599 hb.1 hb.2 (by decide) (by decide) (by decide))
  clear w0 hb
  go_enter Try.func11, Try.ntmps11
  go_wp2_with fail
  refine (HWI.out _).mono ?_
  rintro e w1 ⟨k, rfl, k0, k1, rfl⟩
  have h1 : C6 (w.alloc (.cells #[.string ⟨#[71, 69, 84]⟩, .string ⟨#[]⟩, .string ⟨#[]⟩, .string ⟨#[]⟩, .slice none 0 0, .int .i64 0] 51)) w.heap.size (.string ⟨#[71, 69, 84]⟩) (.string ⟨#[]⟩) (.string ⟨#[]⟩) (.string ⟨#[]⟩) (.slice none 0 0) (.int .i64 0) := heap_alloc_new w _
  have hA : Aft w (w.alloc (.cells #[.string ⟨#[71, 69, 84]⟩, .string ⟨#[]⟩, .string ⟨#[]⟩, .string ⟨#[]⟩, .slice none 0 0, .int .i64 0] 51)) := (Aft.refl w).alloc _
  have hN := may_nil k
  have hP := may_pub k
  obtain ⟨p, hp⟩ : ∃ p, plS k = p := ⟨_, rfl⟩
  have HPL := Lib.hid (fun w => plain_st k w)
  rw [hp] at hN HPL
  obtain ⟨q, hq⟩ : ∃ q, (!decide (k < 200) && (!(k == 206) && !(k == 304))) = q := ⟨_, rfl⟩
  rw [hq] at hP
  have HN := Lib.hid hN
  have HP := Lib.hid hP
  have HQ := Lib.hid hq
  clear hN hP hp hq HWI
  go_upto_region 3 with fail
  generalize w.alloc (.cells #[.string ⟨#[71, 69, 84]⟩, .string ⟨#[]⟩, .string ⟨#[]⟩, .string ⟨#[]⟩, .slice none 0 0, .int .i64 0] 51) = W at h1 hA ⊢
  generalize w.heap.size = G at h1 ⊢
  have hH : C6 W.drew G (.string ⟨#[71, 69, 84]⟩) (.string ⟨#[]⟩) (.string ⟨#[]⟩) (.string ⟨#[]⟩) (.slice none 0 0) (.int .i64 0) := h1.aft ((Aft.refl _).drew)
  have A5 := hA.drew
  clear h1 hA
  refine wp_region_held_drew (S := fun w' => C6 w' G (.string ⟨#[71, 69, 84]⟩) (.string ⟨#[]⟩) (.string ⟨#[]⟩) (.string ⟨#[]⟩) (.slice none 0 0) (.int .i64 0)) (by kernel_rfl) hH (fun hHeld => ?_)
  refine wpAnyH_take (i := 0) (oi := { dst := some 9, op := Go.Op.load 51 (Go.Operand.tmp 4), type := 51, pos := _, after := _, guard := _ }) (v := ?_) rfl (by kernel_rfl) (by kernel_rfl) (by kernel_rfl) (fun _ _ _ h => h) (Or.inl ⟨by rfl, ?_⟩) (by exact hHeld) ?_
  rotate_left
  · intro w hSw; obtain ⟨la0, la1, la2, la3, la4, la5⟩ := C6.cells hSw; go_simp; try with_reducible rfl
  try simp only [Act.put]
  try simp only [List.setIfInBounds_toArray]
  try simp only [List.set]
  refine wpAnyH_take (i := 1) (oi := { dst := some 10, op := Go.Op.move (Go.Operand.tmp 3), type := 3, pos := _, after := _, guard := _ }) (v := ?_) rfl (by kernel_rfl) (by kernel_rfl) (by kernel_rfl) (fun _ _ _ h => h) (Or.inl ⟨by rfl, ?_⟩) (by exact hHeld) ?_
  rotate_left
  · intro w hSw; go_simp; try with_reducible rfl
  try simp only [Act.put]
  try simp only [List.setIfInBounds_toArray]
  try simp only [List.set]
  refine wpAnyH_ready (rs := [2]) (by kernel_rfl) (by simp) ?_
  refine AllReadyH.cons (o := { dst := some 11, op := Go.Op.call { callee := Go.Callee.value (Go.Operand.func 27), args := #[Go.Operand.const (Go.Value.string { data := #[99, 97, 99, 104, 101, 45, 99, 111, 110, 116, 114, 111, 108] }), Go.Operand.const (Go.Value.string { data := #[112, 117, 98, 108, 105, 99] })], argTypes := #[9, 9] }, type := 32, pos := _, after := _, guard := _ }) rfl (fun K hK => ?_) AllReadyH.nil
  go_simp
  go_at_call 27
  refine (of18_any _ _ _).mono ?_
  rintro e w6 ⟨rfl, a6⟩
  have hS2 := C6.aft hHeld a6
  have A6 := Aft.trans A5 a6
  clear A5
  have A5 := A6
  clear A6 a6
  clear hHeld
  refine hK.out _ _ hS2 (fun hHeld => ?_)
  clear hK K hS2
  try simp only [Act.put]
  try simp only [List.setIfInBounds_toArray]
  try simp only [List.set]
  refine wpAnyH_ready (rs := [3]) (by kernel_rfl) (by simp) ?_
  refine AllReadyH.cons (o := { dst := some 12, op := Go.Op.buildSlice 28 1 #[(0, Go.Operand.tmp 11)], type := 28, pos := _, after := _, guard := _ }) rfl (fun K hK => ?_) AllReadyH.nil
  go_simp
  obtain ⟨Wc, hWc⟩ : ∃ Wc, w6 = Wc := ⟨_, rfl⟩
  have hl : Aft w6 (w6.alloc (.cells #[.string ⟨nCC.toArray⟩, .string ⟨nPublic.toArray⟩] 32)) := (Aft.refl _).alloc _
  have hS2 := C6.aft hHeld hl
  have hRb := rbF_new ⟨nCC.toArray⟩ ⟨nPublic.toArray⟩ w6 _ w6.heap.size (Aft.refl _) rfl
  have A6 := Aft.trans A5 hl
  clear A5
  have A5 := A6
  clear A6 hl hWc
  clear hHeld
  refine hK.out _ _ hS2 (fun hHeld => ?_)
  clear hK K hS2
  try simp only [Act.put]
  try simp only [List.setIfInBounds_toArray]
  try simp only [List.set]
  refine wpAnyH_take (i := 4) (oi := { dst := some 13, op := Go.Op.build 54 #[(0, Go.Operand.tmp 10), (1, Go.Operand.tmp 12)], type := 54, pos := _, after := _, guard := _ }) (v := ?_) rfl (by kernel_rfl) (by kernel_rfl) (by kernel_rfl) (fun _ _ _ h => h) (Or.inl ⟨by rfl, ?_⟩) (by exact hHeld) ?_
  rotate_left
  · intro w hSw; go_simp; try with_reducible rfl
  try simp only [Act.put]
  try simp only [List.setIfInBounds_toArray]
  try simp only [List.set]
  refine wpAnyH_ready (rs := [5]) (by kernel_rfl) (by simp) ?_
  refine AllReadyH.cons (o := { dst := some 14, op := Go.Op.call { callee := Go.Callee.value (Go.Operand.func 29), args := #[Go.Operand.tmp 9, Go.Operand.tmp 13], argTypes := #[51, 54] }, type := 4, pos := _, after := _, guard := _ }) rfl (fun K hK => ?_) AllReadyH.nil
  go_simp
  go_at_call 29
  refine (may_st _ (.slice none 0 0) _ k [] _ _ (rbF_none _) hRb fok_nil (fok_one _ (by decide)) q rfl HP.out).mono ?_
  rintro e w7 ⟨rfl, a6⟩
  have hS2 := C6.aft hHeld a6
  have A6 := Aft.trans A5 a6
  clear A5
  have A5 := A6
  clear A6 a6 hRb
  clear hHeld
  refine hK.out _ _ hS2 (fun hHeld => ?_)
  clear hK K hS2
  try simp only [Act.put]
  try simp only [List.setIfInBounds_toArray]
  try simp only [List.set]
  refine wpAnyH_take (i := 6) (oi := { dst := some 5, op := Go.Op.assign (Go.Operand.tmp 14), type := 4, pos := _, after := _, guard := _ }) (v := ?_) rfl (by kernel_rfl) (by kernel_rfl) (by kernel_rfl) (fun _ _ _ h => h) (Or.inl ⟨by rfl, ?_⟩) (by exact hHeld) ?_
  rotate_left
  · intro w hSw; go_simp; try with_reducible rfl
  try simp only [Act.put]
  try simp only [List.setIfInBounds_toArray]
  try simp only [List.set]
  refine wpAnyH_done (by kernel_rfl) ?_ _
  obtain ⟨la0, la1, la2, la3, la4, la5⟩ := C6.cells hHeld
  have HA5 := Lib.hid A5
  clear hHeld hH A5
  go_wp2_with fail
  refine (may_st _ (.slice none 0 0) (.slice none 0 0) k [] [] _ (rbF_none _) (rbF_none _) fok_nil fok_nil p rfl HN.out).mono ?_
  rintro e w8 ⟨rfl, a8⟩
  have HA8 := Lib.hid (HA5.out.trans a8)
  clear a8 la0 la1 la2 la3 la4 la5
  go_wp2_with fail
  refine (HPL.out _).mono ?_
  rintro e w9 ⟨rfl, rfl⟩
  have hq := HQ.out
  by_cases c1 : k < 200
  · obtain rfl : q = false := by rw [← hq]; simp [c1]
    clear hq HQ HN HP
    go_wp2_with fail
    refine (keepruns_any _).mono ?_
    rintro e w10 ⟨rfl, a10⟩
    go_wp2_with fail
    go_ret
    exact ⟨rfl, HA8.out.trans a10⟩
  · by_cases c2 : k = 206
    · obtain rfl : q = false := by rw [← hq]; simp [c2]
      have b2 : (k == 206) = true := by simpa using c2
      clear hq HQ HN HP
      go_wp2_with fail
      refine (keepruns_any _).mono ?_
      rintro e w10 ⟨rfl, a10⟩
      go_wp2_with fail
      go_ret
      exact ⟨rfl, HA8.out.trans a10⟩
    · by_cases c3 : k = 304
      · obtain rfl : q = false := by rw [← hq]; simp [c3]
        clear hq HQ HN HP
        go_wp2_with fail
        refine (keepruns_any _).mono ?_
        rintro e w10 ⟨rfl, a10⟩
        go_wp2_with fail
        go_ret
        exact ⟨rfl, HA8.out.trans a10⟩
      · have b2 : (k == 206) = false := by simpa using c2
        have b3 : (k == 304) = false := by simpa using c3
        obtain rfl : q = true := by rw [← hq, b2, b3, decide_eq_false c1]; rfl
        have n2 : (k != 206) = true := by simpa using c2
        have n3 : (k != 304) = true := by simpa using c3
        clear hq HQ HN HP
        go_wp2_with fail
        refine (keepruns_any _).mono ?_
        rintro e w10 ⟨rfl, a10⟩
        go_wp2_with fail
        go_ret
        exact ⟨rfl, HA8.out.trans a10⟩

end Go.Proofs.Ytodgnphmjagnkaa
