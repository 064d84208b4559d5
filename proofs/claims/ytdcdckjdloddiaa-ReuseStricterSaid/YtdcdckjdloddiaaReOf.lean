/-
  The walks of reuse.Of and None; of the law's field and way; ReuseRuns.
-/
import Derived.Test.YtdcdckjdloddiaaReTold
import Derived.Test.YtdcdckjdloddiaaFrRuns
namespace Go.Proofs.Ytdcdckjdloddiaa
open Go.RowKit
set_option linter.unusedVariables false

theorem only_fld (d0 d1 d2 d3 d4 d5 : Bool) (d6 d7 d8 d9 : Int) (w : World) : (Instr.field 48 (.agg #[.bool d0, .bool d1, .bool d2, .bool d3, .bool d4, .bool d5, .int .i64 d6, .int .i64 d7, .int .i64 d8, .int .i64 d9]) 5).run Try.prog w = .ok (.bool d5) w := by kernel_rfl

set_option maxHeartbeats 4000000 in
set_option maxRecDepth 100000 in
theorem reuse_any (R Q : Array Value) (st : Int) (vs vq : Value) (ask ca now : Int) (x : Nat) (ls lq : List FieldL) (w : World) (hR : EntR R st vs ask ca) (hQ : ReqR Q vq) (hs : RbF w vs ls) (hq : RbF w vq lq) (ks : FOk ls) (kq : FOk lq) :
    Calls Try.prog 25 #[.agg R, .agg Q, .int .i64 now, .float .f64 x] w fun e w' => e = .returned (.int .i64 (reuseB (ctlF ls) (ctlF lq) (unsF lq) (ageF ls ask ca now) (lifeF st ls ca x))) ∧ Aft w w' := by
  have HTO := Lib.hid (fun w h1 h2 => told21_any R Q st vs vq ask ca now x ls lq w hR hQ h1 h2 ks kq)
  have HOF := Lib.hid (fun w h => of_ctl vq lq w h kq.len (kq.join nCC))
  obtain ⟨hA, hB, hC⟩ := box2_aft w R Q
  have HR := Lib.hid hR
  have HQ := Lib.hid hQ
  have HINF := Lib.hid hR.info
  have HINQ := Lib.hid hQ.info
  have RS := Lib.hid (hs.aft hA)
  have RQ := Lib.hid (hq.aft hA)
  have HA := Lib.hid hA
  have HB := Lib.hid hB
  have HC := Lib.hid hC
  obtain ⟨aq, cq, bq, oq, hvq, -⟩ := hq.open
  unfold reuseB
  generalize toldB (ctlF ls) (ctlF lq) (unsF lq) (ageF ls ask ca now) (lifeF st ls ca x) = T at HTO ⊢
  generalize ctlF lq = d at HOF ⊢
  obtain ⟨d0, d1, d2, d3, d4, d5, d6, d7, d8, d9⟩ := d
  have evd : ctlV ⟨d0, d1, d2, d3, d4, d5, d6, d7, d8, d9⟩ = .agg #[.bool d0, .bool d1, .bool d2, .bool d3, .bool d4, .bool d5, .int .i64 d6, .int .i64 d7, .int .i64 d8, .int .i64 d9] := rfl
  rw [evd] at HOF
  simp only
  subst hvq
  clear hA hB hC hs hq hR hQ ks kq evd
  go_enter Try.func25, Try.ntmps25
  go_upto_region 1 with fail
  generalize (w.alloc (.cells R 28)).alloc (.cells Q 24) = W at HA HB HC RS RQ ⊢
  generalize w.heap.size = g at HB HC ⊢
  go_wp2_with (first | (refine wpList_load_row_w rfl 28 (.tmp 4) rfl g rfl _ R (0, 0) _ HB.out Try.underlying28 rfl HINF.out ?_) | (refine wpList_load_row_w rfl 24 (.tmp 5) rfl (g + 1) rfl _ Q (0, 0) _ HC.out Try.underlying24 rfl HINQ.out ?_))
  refine (HTO.out _ RS.out RQ.out).mono ?_
  rintro e w1 ⟨rfl, a1⟩
  have HA1 := Lib.hid (HA.out.trans a1)
  have HC1 := Lib.hid (HC.out.aft a1)
  have RQ1 := Lib.hid (RQ.out.aft a1)
  clear a1 HA HC RQ HB RS HTO
  have y4 := HC1.out.cell HQ.out
  cases T
  · go_wp2_with fail
    refine (HOF.out _ RQ1.out).mono ?_
    rintro e w2 ⟨rfl, a2⟩
    have HA2 := Lib.hid (HA1.out.trans a2)
    clear a2
    have hfl := only_fld d0 d1 d2 d3 d4 d5 d6 d7 d8 d9
    cases d5
    · go_wp2_with fail
      go_ret
      exact ⟨rfl, HA2.out⟩
    · go_wp2_with fail
      go_ret
      exact ⟨rfl, HA2.out⟩
  · go_wp2_with fail
    go_ret
    exact ⟨rfl, HA1.out⟩

set_option maxHeartbeats 4000000 in
set_option maxRecDepth 100000 in
theorem none_any (Q : Array Value) (vq : Value) (lq : List FieldL) (w : World) (hQ : ReqR Q vq) (hq : RbF w vq lq) (kq : FOk lq) :
    Calls Try.prog 27 #[.agg Q] w fun e w' => e = .returned (.int .i64 (if (ctlF lq).on = true then 4 else 3)) ∧ Aft w w' := by
  have HOF := Lib.hid (fun w h => of_ctl vq lq w h kq.len (kq.join nCC))
  have hA : Aft w (w.alloc (.cells Q 24)) := (Aft.refl w).alloc _
  have hC : Q6 (w.alloc (.cells Q 24)) w.heap.size Q := heap_alloc_new w _
  have HQ := Lib.hid hQ
  have RQ := Lib.hid (hq.aft hA)
  have HA := Lib.hid hA
  have HC := Lib.hid hC
  obtain ⟨aq, cq, bq, oq, hvq, -⟩ := hq.open
  generalize ctlF lq = d at HOF ⊢
  obtain ⟨d0, d1, d2, d3, d4, d5, d6, d7, d8, d9⟩ := d
  have evd : ctlV ⟨d0, d1, d2, d3, d4, d5, d6, d7, d8, d9⟩ = .agg #[.bool d0, .bool d1, .bool d2, .bool d3, .bool d4, .bool d5, .int .i64 d6, .int .i64 d7, .int .i64 d8, .int .i64 d9] := rfl
  rw [evd] at HOF
  simp only
  subst hvq
  clear hA hC hq hQ kq evd
  go_enter Try.func27, Try.ntmps27
  go_upto_region 1 with fail
  generalize w.alloc (.cells Q 24) = W at HA HC RQ ⊢
  generalize w.heap.size = g at HC ⊢
  have y4 := HC.out.cell HQ.out
  go_wp2_with fail
  refine (HOF.out _ RQ.out).mono ?_
  rintro e w2 ⟨rfl, a2⟩
  have HA2 := Lib.hid (HA.out.trans a2)
  clear a2
  have hfl := only_fld d0 d1 d2 d3 d4 d5 d6 d7 d8 d9
  cases d5
  · go_wp2_with fail
    go_ret
    exact ⟨rfl, HA2.out⟩
  · go_wp2_with fail
    go_ret
    exact ⟨rfl, HA2.out⟩

theorem of21_any (n v : ByteArray) (w : World) : Calls Try.prog 31 #[.string n, .string v] w fun e w' => e = .returned (.agg #[.string n, .string v]) ∧ Aft w w' := by
  have hset := heap_alloc_new w (.cells #[.string n, .string v] 38)
  have hsz : (Try.prog.info? 38).map (·.size) = some (#[Value.string n, .string v]).size := by kernel_rfl
  have HS := Lib.hid hset
  have HZ := Lib.hid hsz
  clear hset hsz
  go_enter Try.func31, Try.ntmps31
  go_wp2_with fail
  refine bodyPost_ret (results_cell_row rfl _ _ w.heap.size 38 #[.string n, .string v] (0, 0) _ rfl HS.out Try.underlying38 rfl HZ.out) rfl ?_
  exact ⟨rfl, (Aft.refl w).alloc _⟩

theorem req_get (v : Value) : ReqR #[.string ⟨#[71, 69, 84]⟩, .string ⟨#[]⟩, .string ⟨#[]⟩, .string ⟨#[]⟩, v, .int .i64 0] v := ⟨rfl, rfl⟩
theorem req_none (v : Value) : ReqR #[.string ⟨#[]⟩, .string ⟨#[]⟩, .string ⟨#[]⟩, .string ⟨#[]⟩, v, .int .i64 0] v := ⟨rfl, rfl⟩
theorem ent_box (w : World) (s : ByteArray) (vs : Value) (h : RbF w vs [(nCC, s.data.toList)]) : EB (w.alloc (.cells (entR vs 0 0) 28)) w.heap.size (entR vs 0 0) ∧ RbF (w.alloc (.cells (entR vs 0 0) 28)) vs [(nCC, s.data.toList)] :=
  ⟨heap_alloc_new w _, h.aft ((Aft.refl w).alloc _)⟩
set_option maxHeartbeats 4000000 in
set_option maxRecDepth 100000 in
theorem way_any (s : ByteArray) (now : Int) (va : Option Addr) (vl vc : Nat) (l : List FieldL) (w : World) (hl : RbF w (.slice va vl vc) l) (hk : FOk l) (hs : s.size ≤ 2000) (R : Int) (hR : reuseB (ctlF [(nCC, s.data.toList)]) (ctlF l) (unsF l) (ageF [(nCC, s.data.toList)] 0 0 now) (lifeF 200 [(nCC, s.data.toList)] 0 0) = R) :
    Calls Try.prog 48 #[.string s, .int .i64 now, .slice va vl vc] w fun e w' => e = .returned (.int .i64 R) ∧ Aft w w' := by
  have hko : FOk [(nCC, s.data.toList)] := fok_small (by simp) (fun f hf => by
    obtain rfl : f = (nCC, s.data.toList) := by simpa using hf
    rw [size_len]
    exact hs)
  have HRE := Lib.hid (fun vs w h1 h2 => reuse_any (entR vs 0 0) #[.string ⟨#[71, 69, 84]⟩, .string ⟨#[]⟩, .string ⟨#[]⟩, .string ⟨#[]⟩, .slice va vl vc, .int .i64 0] 200 vs (.slice va vl vc) 0 0 now 0 [(nCC, s.data.toList)] l w (entR_ok vs 0 0) (req_get _) h1 h2 hko hk)
  rw [hR] at HRE
  have HL := Lib.hid hl
  clear hl hk hs hR hko
  go_enter Try.func48, Try.ntmps48
  go_wp2_with fail
  refine (of21_any _ _ _).mono ?_
  rintro e w1 ⟨rfl, a1⟩
  have r1 : RbF (w1.alloc (.cells #[.string ⟨nCC.toArray⟩, .string s] 38)) (.slice (some ⟨w1.heap.size, 0, none⟩) 1 1) [(nCC, s.data.toList)] := rbF_one19 ⟨nCC.toArray⟩ s w1
  have s1 := a1.alloc (.cells #[.string ⟨nCC.toArray⟩, .string s] 38)
  obtain ⟨r2, r3⟩ := ent_box _ s _ r1
  have s2 := s1.alloc (.cells (entR (.slice (some ⟨w1.heap.size, 0, none⟩) 1 1) 0 0) 28)
  have HL2 := Lib.hid (HL.out.aft s2)
  have HB := Lib.hid r2
  have HS := Lib.hid r3
  have HA := Lib.hid s2
  have HINF := Lib.hid (entR_ok (.slice (some ⟨w1.heap.size, 0, none⟩) 1 1) 0 0).info
  clear r1 r2 r3 s1 s2 a1 HL
  have HZ1 : Hid ((w1.alloc (.cells #[.string ⟨nCC.toArray⟩, .string s] 38)).heap.size = w1.heap.size + 1) := Lib.hid (by rw [World.size_alloc])
  go_upto_region 2 with fail
  obtain ⟨W, hW⟩ : ∃ W, (w1.alloc (.cells #[.string ⟨nCC.toArray⟩, .string s] 38)).alloc (.cells (entR (.slice (some ⟨w1.heap.size, 0, none⟩) 1 1) 0 0) 28) = W := ⟨_, rfl⟩
  rw [hW] at HB HS HA HL2
  rw [show (w1.alloc (.cells #[.string ⟨#[99, 97, 99, 104, 101, 45, 99, 111, 110, 116, 114, 111, 108]⟩, .string s] 38)).alloc (.cells #[.string ⟨#[]⟩, .string ⟨#[]⟩, .string ⟨#[]⟩, .string ⟨#[]⟩, .slice none 0 0, .int .i64 0, .int .i64 200, .slice (some ⟨w1.heap.size, 0, none⟩) 1 1, .int .i64 0, .string ⟨#[]⟩, .int .i64 0, .int .i64 0] 28) = W from hW]
  rw [HZ1.out] at HB
  clear hW HZ1
  generalize w1.heap.size = g at HB HS HINF ⊢
  go_wp2_with (refine wpList_load_row_w rfl 28 (.tmp 7) rfl (g + 1) rfl _ (entR (.slice (some ⟨g, 0, none⟩) 1 1) 0 0) (0, 0) _ HB.out Try.underlying28 rfl HINF.out ?_)
  refine (HRE.out _ _ HS.out HL2.out).mono ?_
  rintro e w2 ⟨rfl, a2⟩
  have HA2 := Lib.hid (HA.out.trans a2)
  clear a2
  go_wp2_with fail
  go_ret
  exact ⟨rfl, HA2.out⟩

/-- One field that a clause of the law asks with. -/
theorem way_one (s n v : ByteArray) (now : Int) (w : World) (hs : s.size ≤ 2000) (hv : v.size ≤ 2000) (R : Int) (hR : reuseB (ctlF [(nCC, s.data.toList)]) (ctlF [(n.data.toList, v.data.toList)]) (unsF [(n.data.toList, v.data.toList)]) (ageF [(nCC, s.data.toList)] 0 0 now) (lifeF 200 [(nCC, s.data.toList)] 0 0) = R) :
    Calls Try.prog 48 #[.string s, .int .i64 now, .slice (some ⟨w.heap.size, 0, none⟩) 1 1] (w.alloc (.cells #[.string n, .string v] 38)) fun e w' => e = .returned (.int .i64 R) ∧ Aft w w' :=
  (way_any s now _ 1 1 [(n.data.toList, v.data.toList)] _ (rbF_one19 n v w) (fok_small (by simp) (fun f hf => by
    obtain rfl : f = (n.data.toList, v.data.toList) := by simpa using hf
    rw [size_len]
    exact hv)) hs R hR).mono fun e w' ⟨h1, h2⟩ => ⟨h1, ((Aft.refl w).alloc _).trans h2⟩
theorem way_nil (s : ByteArray) (now : Int) (w : World) (hs : s.size ≤ 2000) (R : Int) (hR : reuseB (ctlF [(nCC, s.data.toList)]) (ctlF []) (unsF []) (ageF [(nCC, s.data.toList)] 0 0 now) (lifeF 200 [(nCC, s.data.toList)] 0 0) = R) :
    Calls Try.prog 48 #[.string s, .int .i64 now, .slice none 0 0] w fun e w' => e = .returned (.int .i64 R) ∧ Aft w w' :=
  way_any s now none 0 0 [] w (Or.inl ⟨rfl, rfl⟩) (fok_small (by simp) (fun f hf => by cases hf)) hs R hR
end Go.Proofs.Ytdcdckjdloddiaa
