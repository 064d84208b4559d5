/-
  KeepNever: light, the closure that puts a field ahead, the plain law.
-/
import Derived.Test.YtaaffpndfeidfaaKeepRuns
import Derived.Test.YtaaffpndfeidfaaLightP
import Derived.Test.YtaaffpndfeidfaaLim
namespace Go.Proofs.Ytaaffpndfeidfaa
open Go.RowKit

set_option maxHeartbeats 4000000 in
set_option maxRecDepth 100000 in
theorem light18_any (v : Value) (l : List FieldL) (w : World) (hr : RbF w v l) (hs : FieldsLim l) :
    Calls Try.prog 17 #[v] w fun e w' => e = .returned (.bool (decide (sumL l ≤ 2000))) ∧ Aft w w' := by
  obtain ⟨a1, c1, b1, o1, rfl, m1, m2, p1, q1, r1⟩ := hr.open
  unfold maxLen at m2
  have P1 := Lib.hid p1
  have R1 := Lib.hid r1
  have HS := Lib.hid hs
  have HQ := Lib.hid q1
  clear hr p1 q1 r1 hs
  go_enter Try.func17, Try.ntmps17
  go_wp2_with fail
  go_loopw [3, 4] (fun vs vi wr => ∃ (k : Nat) (s : Nat), k ≤ l.length ∧ vi = .int .i64 (k : Int) ∧ vs = .int .i64 (s : Int) ∧ s ≤ 2000 ∧ Hid (sumL (l.take k) = s) ∧ Hid (Aft w wr)) (fun _ vi _ => l.length - (intOf vi).toNat)
  case atStart => exact ⟨0, 0, by omega, by go_num, by go_num, by omega, Lib.hid rfl, Lib.hid (Aft.refl _)⟩
  case round =>
    obtain ⟨k, s, hk, rfl, rfl, hs2, HX, HA⟩ := hrel
    by_cases hlt : k < l.length
    · have hne : l ≠ [] := by intro e; rw [e] at hlt; simp at hlt
      have hpa := P1.out hne
      have hbb := HQ.out hne
      have hx := R1.out k hlt
      have hx1 : wr.cell? ⟨b1, o1 + k * 2, none⟩ = some (strV l[k].1) := by
        rw [Below.cell HA.out.to (p := ⟨b1, o1 + k * 2, none⟩) hbb]
        exact hx.1
      have hx2 : wr.cell? ⟨b1, o1 + k * 2 + 1, none⟩ = some (strV l[k].2) := by
        rw [Below.cell HA.out.to (p := ⟨b1, o1 + k * 2 + 1, none⟩) hbb]
        exact hx.2
      have hsn : sumL (l.take (k + 1)) = s + (l[k].1.length + l[k].2.length + 1) := by
        rw [List.take_succ_eq_append_getElem hlt, sumL_append, HX.out]
        simp [sumL]
      have hle := sumL_take l (k + 1)
      rw [hsn] at hle
      have hmem : l[k].1.length + l[k].2.length ≤ 281474976710656 := HS.out _ (List.getElem_mem hlt)
      have HSN := Lib.hid hsn
      have HLE := Lib.hid hle
      generalize l[k] = f at hx1 hx2 HSN hmem HLE
      obtain ⟨f1, f2⟩ := f
      unfold strV at hx1 hx2
      simp only at hx1 hx2 hmem HLE HSN
      have z1 : (⟨f1.toArray⟩ : ByteArray).size = f1.length := by show f1.toArray.size = _; simp
      have z2 : (⟨f2.toArray⟩ : ByteArray).size = f2.length := by show f2.toArray.size = _; simp
      obtain ⟨A, hA⟩ : ∃ A : ByteArray, (⟨f1.toArray⟩ : ByteArray) = A := ⟨_, rfl⟩
      obtain ⟨B, hB⟩ : ∃ B : ByteArray, (⟨f2.toArray⟩ : ByteArray) = B := ⟨_, rfl⟩
      rw [hA] at hx1 z1
      rw [hB] at hx2 z2
      rw [← z1, ← z2] at hmem HLE HSN
      subst hpa
      have hkl : (k : Int) < (l.length : Int) := by omega
      have g1 : IntKind.i64.wrap ((s : Int) + (A.size : Int)) = (s : Int) + (A.size : Int) := IntWalk.i64_in _ (by omega)
      have g2 : IntKind.i64.wrap ((s : Int) + (A.size : Int) + (B.size : Int)) = (s : Int) + (A.size : Int) + (B.size : Int) := IntWalk.i64_in _ (by omega)
      have g3 : IntKind.i64.wrap ((s : Int) + (A.size : Int) + (B.size : Int) + 1) = (s : Int) + (A.size : Int) + (B.size : Int) + 1 := IntWalk.i64_in _ (by omega)
      have HBB := Lib.hid hbb
      clear hx hsn hne hle z1 z2 hA hB hbb
      by_cases hbig : s + A.size + B.size + 1 > 2000
      · have i1 : (s : Int) + (A.size : Int) + (B.size : Int) + 1 > 2000 := by omega
        have HF : Hid (decide (sumL l ≤ 2000) = false) := Lib.hid (by have := HLE.out; simp; omega)
        clear hmem hbig hs2
        go_wp2_with fail
        go_quiet (fail)
        go_wp2_with fail
        go_ret
        exact ⟨ret_bool HF.out.symm, HA.out.drewN _⟩
      · have i1 : ¬ ((s : Int) + (A.size : Int) + (B.size : Int) + 1 > 2000) := by omega
        have HS3 : Hid (s + A.size + B.size + 1 ≤ 2000) := Lib.hid (by omega)
        clear hmem hbig hs2
        go_wp2_with fail
        go_quiet (fail)
        go_wp2_with fail
        go_roundw
        case rel => exact ⟨k + 1, s + A.size + B.size + 1, by omega, by go_num, by push_cast; rfl, HS3.out, Lib.hid (by rw [HSN.out]; omega), Lib.hid (HA.out.drewN _)⟩
        case measure => simp [intOf] <;> omega
    · have hk2 : k = l.length := by omega
      subst hk2
      have HF : Hid (decide (sumL l ≤ 2000) = true) := Lib.hid (by rw [← List.take_of_length_le (Nat.le_refl l.length), HX.out]; simpa using hs2)
      go_wp2_with fail
      go_ret
      exact ⟨ret_bool HF.out.symm, HA.out⟩


theorem OwnF.new1 (w : World) (n x : ByteArray) : OwnF (w.alloc (.cells #[.string n, .string x] 27)) w.heap.size (.slice (some ⟨w.heap.size, 0, none⟩) 1 1) [(n.data.toList, x.data.toList)] := by
  refine ⟨rfl, Or.inr ⟨w.heap.size, 1, #[.string n, .string x], rfl, Nat.le_refl _, heap_alloc_new w _, Nat.le_refl _, by simp [maxLen], by simp, ?_⟩⟩
  simp [fv, strV]
theorem OwnF.new2 (w : World) (a b n x : ByteArray) : OwnF (w.alloc (.cells #[.string a, .string b, .string n, .string x] 27)) w.heap.size (.slice (some ⟨w.heap.size, 0, none⟩) 2 2) [(a.data.toList, b.data.toList), (n.data.toList, x.data.toList)] := by
  refine ⟨rfl, Or.inr ⟨w.heap.size, 2, #[.string a, .string b, .string n, .string x], rfl, Nat.le_refl _, heap_alloc_new w _, Nat.le_refl _, by simp [maxLen], by simp, ?_⟩⟩
  simp [fv, strV]
/-- 'append(out, xs...)' at a step of a region that draws. -/
theorem wp_pushesF {w : World} {o : Oper} {a : Act} {K : Act → World → Prop} {Q : Exit → Act → World → Prop} (s x : Operand)
    (ho : o.op = .call { callee := .builtin .append, args := #[s, x], argTypes := #[22, 22] })
    (base : Nat) (v u : Value) (l m : List FieldL) (hs : a.eval s = v) (hown : OwnF w base v l) (hx : a.eval x = u) (hr : RbF w u m)
    (hl : l.length + m.length ≤ 1000000000000) (hbase : base ≤ w.heap.size)
    (h : ∀ v' w', OwnF w' base v' (l ++ m) → w.grownBy w' v.ownBlock → K (a.put o.dst v') w') : o.wp Try.prog a w K Q := by
  obtain ⟨i0, hi, hz0, hz1, hz2⟩ := info_parts infoF
  rcases hr with ⟨rfl, rfl⟩ | ⟨b, off, cap, rfl, h1, h2, h3, h4⟩
  · have hrun := run_append_owned_none (P := Try.prog) (w := w) base 22 o.type 27 i0 2 Try.underlying22 hi v l.length (fv l) hown
    unfold Oper.wp
    simp [execOp, ho, resolve, invoke, builtin, hs, hx, hrun, Result.andThen]
    exact h v w (by rw [List.append_nil]; exact hown) ⟨rfl, rfl, rfl, Nat.le_refl _, fun _ _ _ => rfl⟩
  · refine wp_append_own w s x 22 ho base 27 i0 _ 2 32 Try.underlying22 hi hz0 hz1 hz2 rfl (by decide) v l.length (fv l) hs hown ⟨b, off, none⟩ m.length cap (fv m) hx (fv_len m) ?_ ?_ ?_ ?_ hbase ?_
    · intro j z hj
      obtain ⟨k, hk, ⟨rfl, rfl⟩ | ⟨rfl, rfl⟩⟩ := fv_two m j z hj
      · rw [Addr.add_lit, (h4 k hk).1]
      · rw [Addr.add_lit, ← Nat.add_assoc, (h4 k hk).2]
    · exact fv_one m
    · unfold maxLen; omega
    · omega
    · intro v' w' g1 g2 _
      refine h v' w' ?_ g2
      unfold OwnF
      rw [fv_append, List.length_append]
      exact g1
theorem step_pushesF {w : World} {ops : Array Oper} {o : Oper} {a : Act} {K : Act → World → Prop} {Q : Exit → Act → World → Prop} {E : Prop} (hgd : o.guard = none) (s x : Operand)
    (ho : o.op = .call { callee := .builtin .append, args := #[s, x], argTypes := #[22, 22] })
    (base : Nat) (v u : Value) (l m : List FieldL) (hs : a.eval s = v) (hown : OwnF w base v l) (hx : a.eval x = u) (hr : RbF w u m)
    (hl : l.length + m.length ≤ 1000000000000) (hbase : base ≤ w.heap.size)
    (h : ∀ v' w', OwnF w' base v' (l ++ m) → w.grownBy w' v.ownBlock → K (a.put o.dst v') w') : if Region.wanted o (yielded ops a.tmps) = true then Oper.wp Try.prog o a w K Q else E := by
  have hw : Region.wanted o (yielded ops a.tmps) = true := by simp [Region.wanted, hgd]
  rw [if_pos hw]
  exact wp_pushesF s x ho base v u l m hs hown hx hr hl hbase h
def preF (at_ : Int) (f : FieldL) : List FieldL := if at_.tmod 2 = 0 then [f] else [([120], [121]), f]
theorem push_aft {w w0 w4 : World} {v : Value} {l : List FieldL} (h0 : Aft w w0) (ho : OwnF w0 w.heap.size v l) (g4 : w0.grownBy w4 v.ownBlock) : Aft w w4 :=
  pushF_below h0.to ho g4 (Nat.le_refl _) h0.size

set_option maxHeartbeats 4000000 in
theorem put18_any (v : Value) (l : List FieldL) (n x : ByteArray) (at_ : Int) (B : Nat) (w : World) (hr : RbF w v l) (hlen : l.length ≤ 1000000) (hat : w.cell? ⟨B, 0, none⟩ = some (.int .i64 at_)) (hb : B < w.heap.size) :
    Calls Try.prog 19 #[v, .agg #[.string n, .string x], .pointer (some ⟨B, 0, none⟩)] w fun e w' => ∃ (va : Option Addr) (vn vc : Nat), e = .returned (.slice va vn vc) ∧ RbF w' (.slice va vn vc) (preF at_ (n.data.toList, x.data.toList) ++ l) ∧ Aft w w' := by
  have hl1 : ([(n.data.toList, x.data.toList)] : List FieldL).length + l.length ≤ 1000000000000 := by simp; omega
  have hl2 : ([(([120] : List UInt8), ([121] : List UInt8)), (n.data.toList, x.data.toList)] : List FieldL).length + l.length ≤ 1000000000000 := by simp; omega
  have HL1 := Lib.hid hl1
  have HL2 := Lib.hid hl2
  obtain ⟨va, vc, vb, vo, rfl, -⟩ := hr.open
  have ha1 : (w.alloc (.cells #[.string n, .string x] 27)).cell? ⟨B, 0, none⟩ = some (.int .i64 at_) := by
    rw [Below.cell ((Aft.refl w).alloc (.cells #[.string n, .string x] 27)).to (p := ⟨B, 0, none⟩) hb]; exact hat
  obtain ⟨c0, c1⟩ := new2c w (.string n) (.string x) 27
  have hA1 : Aft w (w.alloc (.cells #[.string n, .string x] 27)) := (Aft.refl w).alloc _
  have HR1 := Lib.hid (hr.aft hA1)
  have hz1 : (w.alloc (.cells #[.string n, .string x] 27)).heap.size = w.heap.size + 1 := World.size_alloc _ _
  have HA1 := Lib.hid hA1
  have HC := Lib.hid (And.intro c0 c1)
  have HZ1 := Lib.hid hz1
  obtain ⟨len, hlen2⟩ : ∃ n, l.length = n := ⟨_, rfl⟩
  rw [hlen2] at HR1 ⊢
  clear hl1 hl2 hr hlen hb hat hA1 hz1 hlen2
  by_cases hm : at_.tmod 2 = 0
  · have hm1 : (at_.tmod 2 == 0) = true := by simpa using hm
    have HP : Hid (preF at_ (n.data.toList, x.data.toList) = [(n.data.toList, x.data.toList)]) := Lib.hid (by unfold preF; rw [if_pos hm])
    have HN := Lib.hid (OwnF.new1 (w.alloc (.cells #[.string n, .string x] 27)) n x)
    rw [HZ1.out] at HN
    have HR2 := Lib.hid (HR1.out.aft ((Aft.refl _).alloc (.cells #[.string n, .string x] 27)))
    have HZ2 := Lib.hid (le_alloc (Nat.le_of_eq HZ1.out.symm) (.cells #[.string n, .string x] 27))
    have HB2 := Lib.hid (HA1.out.alloc (.cells #[.string n, .string x] 27))
    clear hm
    go_enter Try.func19, Try.ntmps19
    go_wp2_with (at_builtin; refine wpList_pushesF rfl (.tmp 10) (.tmp 11) rfl (w.heap.size + 1) _ _ [(n.data.toList, x.data.toList)] l rfl HN.out rfl HR2.out HL1.out HZ2.out ?_; intro v4 w4 o4 g4)
    obtain ⟨a4, k4, rfl, _⟩ := o4.slice
    go_ret
    refine ⟨_, _, _, rfl, by rw [HP.out]; exact o4.rb, ?_⟩
    exact pushF_below HB2.out.to HN.out g4 (Nat.le_succ _) HZ2.out
  · have hm1 : (at_.tmod 2 == 0) = false := by simpa using hm
    have HP : Hid (preF at_ (n.data.toList, x.data.toList) = [([120], [121]), (n.data.toList, x.data.toList)]) := Lib.hid (by unfold preF; rw [if_neg hm])
    clear hm
    obtain ⟨XX, hXX⟩ : ∃ X : ByteArray, X = ⟨#[120]⟩ := ⟨_, rfl⟩
    have HO := Lib.hid (fun w => of18_any ⟨#[120]⟩ ⟨#[121]⟩ w)
    clear hXX XX
    have HY := Lib.hid (fun (w5 : World) (A5 : Aft (w.alloc (.cells #[.string n, .string x] 27)) w5) => (And.intro ((Below.cell A5.to (p := ⟨w.heap.size, 0, none⟩) (by rw [HZ1.out]; exact Nat.lt_succ_self _)).trans HC.out.1) ((Below.cell A5.to (p := ⟨w.heap.size, 1, none⟩) (by rw [HZ1.out]; exact Nat.lt_succ_self _)).trans HC.out.2) : w5.cell? ⟨w.heap.size, 0, none⟩ = some (.string n) ∧ w5.cell? ⟨w.heap.size, 1, none⟩ = some (.string x)))
    go_enter Try.func19, Try.ntmps19
    go_wp2_with fail
    go_region_law (first
      | (go_simp; go_at_call 20; refine (HO.out _).mono ?_; rintro e w5 ⟨rfl, a5⟩; have A5 : Aft (w.alloc (.cells #[.string n, .string x] 27)) w5 := Aft.trans (by first | exact Aft.refl _ | exact (Aft.refl _).drew) a5; obtain ⟨y0, y1⟩ := HY.out w5 A5)
      | (refine step_pushesF rfl (.tmp 15) (.tmp 16) rfl w5.heap.size _ _ [(([120] : List UInt8), ([121] : List UInt8)), (n.data.toList, x.data.toList)] l rfl (OwnF.new2 w5 ⟨#[120]⟩ ⟨#[121]⟩ n x) rfl ((HR1.out.aft A5).aft ((Aft.refl _).alloc _)) HL2.out (le_alloc (Nat.le_refl _) _) ?_; intro v4 w4 o4 g4))
    all_goals
      have hA4 : Aft w w4 := pushF_below ((HA1.out.trans A5).alloc _).to (OwnF.new2 w5 ⟨#[120]⟩ ⟨#[121]⟩ n x) g4 (Below.size (HA1.out.trans A5)) (le_alloc (Nat.le_refl _) _)
      have HA4 := Lib.hid hA4
      obtain ⟨a4, k4, rfl, _⟩ := o4.slice
      clear hA4 g4 A5 a5
      go_wp2_with fail
      go_ret
      exact ⟨_, _, _, rfl, by rw [HP.out]; exact o4.rb, HA4.out⟩

theorem fok_of {l : List FieldL} (hl : l.length ≤ 3000) (hv : ∀ f ∈ l, f.2.length ≤ 2000) : FOk l := by
  refine ⟨by omega, fun name => ?_⟩
  obtain ⟨h1, h2⟩ := vals_len name l hv
  have h3 := join_len _ h1
  omega
theorem fok_light {l : List FieldL} (h : sumL l ≤ 2000) : FOk l := fok_of (by have := sumL_len l; omega) (light_val h)
theorem fok_pre (at_ : Int) {l : List FieldL} (h : sumL l ≤ 2000) (f : FieldL) (hf : f.2.length ≤ 2000) : FOk (preF at_ f ++ l) := by
  refine fok_of ?_ ?_
  · have := sumL_len l
    rw [List.length_append]
    unfold preF
    split <;> simp <;> omega
  · intro g hg
    rcases List.mem_append.1 hg with hg | hg
    · unfold preF at hg
      split at hg
      · simp at hg; subst hg; exact hf
      · simp at hg
        rcases hg with rfl | rfl
        · simp
        · exact hf
    · exact light_val h g hg
theorem join_ns {a b : Ctl} (h : a.ns = true) : (ctlJoin a b).ns = true := by unfold ctlJoin; simp [h]
theorem join_pr {a b : Ctl} (h : a.pr = true) : (ctlJoin a b).pr = true := by unfold ctlJoin; simp [h]
theorem never_q (g : Bool) (st at_ : Int) (lq ls : List FieldL) (h : ∃ P, splF (Lib.join (valsF nCC lq) [44, 32]) = some P) :
    mayF g st (preF at_ ((⟨#[99, 97, 99, 104, 101, 45, 99, 111, 110, 116, 114, 111, 108]⟩ : ByteArray).data.toList, (⟨#[110, 111, 45, 115, 116, 111, 114, 101]⟩ : ByteArray).data.toList) ++ lq) ls = false := by
  obtain ⟨Q, hQ⟩ := h
  have hP : splF (Lib.join (valsF nCC (preF at_ ((⟨#[99, 97, 99, 104, 101, 45, 99, 111, 110, 116, 114, 111, 108]⟩ : ByteArray).data.toList, (⟨#[110, 111, 45, 115, 116, 111, 114, 101]⟩ : ByteArray).data.toList))) [44, 32]) = some [(⟨#[110, 111, 45, 115, 116, 111, 114, 101]⟩ : ByteArray).data.toList] := by
    unfold preF; split <;> kernel_rfl
  have hn : (ctlF (preF at_ ((⟨#[99, 97, 99, 104, 101, 45, 99, 111, 110, 116, 114, 111, 108]⟩ : ByteArray).data.toList, (⟨#[110, 111, 45, 115, 116, 111, 114, 101]⟩ : ByteArray).data.toList))).ns = true := by
    unfold preF; split <;> kernel_rfl
  unfold mayF mayB
  rw [ctl_app hP hQ, join_ns hn]
  simp
theorem never_s (g : Bool) (st at_ : Int) (lq ls : List FieldL) (h : ∃ P, splF (Lib.join (valsF nCC ls) [44, 32]) = some P) :
    mayF g st lq (preF at_ ((⟨#[99, 97, 99, 104, 101, 45, 99, 111, 110, 116, 114, 111, 108]⟩ : ByteArray).data.toList, (⟨#[78, 79, 45, 83, 84, 79, 82, 69]⟩ : ByteArray).data.toList) ++ ls) = false := by
  obtain ⟨Q, hQ⟩ := h
  have hP : splF (Lib.join (valsF nCC (preF at_ ((⟨#[99, 97, 99, 104, 101, 45, 99, 111, 110, 116, 114, 111, 108]⟩ : ByteArray).data.toList, (⟨#[78, 79, 45, 83, 84, 79, 82, 69]⟩ : ByteArray).data.toList))) [44, 32]) = some [(⟨#[78, 79, 45, 83, 84, 79, 82, 69]⟩ : ByteArray).data.toList] := by
    unfold preF; split <;> kernel_rfl
  have hn : (ctlF (preF at_ ((⟨#[99, 97, 99, 104, 101, 45, 99, 111, 110, 116, 114, 111, 108]⟩ : ByteArray).data.toList, (⟨#[78, 79, 45, 83, 84, 79, 82, 69]⟩ : ByteArray).data.toList))).ns = true := by
    unfold preF; split <;> kernel_rfl
  unfold mayF mayB
  rw [ctl_app hP hQ, join_ns hn]
  simp
theorem never_p (g : Bool) (st at_ : Int) (lq ls : List FieldL) (h : ∃ P, splF (Lib.join (valsF nCC ls) [44, 32]) = some P) :
    mayF g st lq (preF at_ ((⟨#[99, 97, 99, 104, 101, 45, 99, 111, 110, 116, 114, 111, 108]⟩ : ByteArray).data.toList, (⟨#[112, 114, 105, 118, 97, 116, 101, 61, 34, 120, 34]⟩ : ByteArray).data.toList) ++ ls) = false := by
  obtain ⟨Q, hQ⟩ := h
  have hP : splF (Lib.join (valsF nCC (preF at_ ((⟨#[99, 97, 99, 104, 101, 45, 99, 111, 110, 116, 114, 111, 108]⟩ : ByteArray).data.toList, (⟨#[112, 114, 105, 118, 97, 116, 101, 61, 34, 120, 34]⟩ : ByteArray).data.toList))) [44, 32]) = some [(⟨#[112, 114, 105, 118, 97, 116, 101, 61, 34, 120, 34]⟩ : ByteArray).data.toList] := by
    unfold preF; split <;> kernel_rfl
  have hn : (ctlF (preF at_ ((⟨#[99, 97, 99, 104, 101, 45, 99, 111, 110, 116, 114, 111, 108]⟩ : ByteArray).data.toList, (⟨#[112, 114, 105, 118, 97, 116, 101, 61, 34, 120, 34]⟩ : ByteArray).data.toList))).pr = true := by
    unfold preF; split <;> kernel_rfl
  unfold mayF mayB
  rw [ctl_app hP hQ, join_pr hn]
  simp
theorem star_pre (at_ : Int) (ls : List FieldL) : starF (preF at_ ((⟨#[118, 97, 114, 121]⟩ : ByteArray).data.toList, (⟨#[42]⟩ : ByteArray).data.toList) ++ ls) = true := by
  have hv : valsF [118, 97, 114, 121] (preF at_ ((⟨#[118, 97, 114, 121]⟩ : ByteArray).data.toList, (⟨#[42]⟩ : ByteArray).data.toList)) = [[42]] := by
    unfold preF; split <;> kernel_rfl
  have h1 : splF (Lib.join [[42]] [44, 32]) = some [[42]] := by kernel_rfl
  unfold starF
  rw [valsF_app, hv]
  obtain ⟨vs, hvs⟩ : ∃ vs, valsF [118, 97, 114, 121] ls = vs := ⟨_, rfl⟩
  rw [hvs]
  by_cases hne : vs = []
  · subst hne
    rw [List.append_nil, h1]
    rfl
  · rw [join_app _ _ (by simp) hne, Lib.join_one, splF_T, splT_app 1 [42] [] _ [[42]] (by decide) (by kernel_rfl)]
    cases splT [] (32 :: Lib.join vs [44, 32]) with
    | none => rfl
    | some P =>
      show starP ([[42]] ++ P) = true
      unfold starP
      rw [List.any_append]
      rfl
theorem never_v (g : Bool) (st at_ : Int) (lq ls : List FieldL) :
    mayF g st lq (preF at_ ((⟨#[118, 97, 114, 121]⟩ : ByteArray).data.toList, (⟨#[42]⟩ : ByteArray).data.toList) ++ ls) = false := by
  unfold mayF mayB
  rw [star_pre]
  simp

end Go.Proofs.Ytaaffpndfeidfaa
