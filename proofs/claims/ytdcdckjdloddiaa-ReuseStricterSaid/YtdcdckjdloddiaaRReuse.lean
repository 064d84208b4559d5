/-
  The walk of the reference's Reuse.
-/
import Derived.Test.YtdcdckjdloddiaaReTold
import Derived.Test.YtdcdckjdloddiaaFrRAge
namespace Go.Proofs.Ytdcdckjdloddiaa
open Go.RowKit
set_option linter.unusedVariables false

theorem hasNC_next {P : List PairL} {k : Nat} (hk : k < P.length) : hasNC (P.take (k + 1)) = (hasNC (P.take k) || (P[k].name == nNoCache)) := by
  unfold hasNC
  rw [List.take_succ_eq_append_getElem hk, List.any_append]
  simp
theorem nocc_unsure {l : List FieldL} {b : Bool} (h : decide (0 < (valsF nCC l).length) = b) : unsF l = if b = true then false else hasNC (pairsF nPragma l) := by
  unfold unsF
  by_cases hn : 0 < (valsF nCC l).length
  · rw [decide_eq_true hn] at h; subst h; rw [if_pos hn]; rfl
  · rw [decide_eq_false hn] at h; subst h; rw [if_neg hn]; rfl

set_option maxHeartbeats 16000000 in
set_option maxRecDepth 100000 in
theorem rreuse_any (R Q : Array Value) (st : Int) (vs vq : Value) (ask ca now : Int) (x : Nat) (ls lq : List FieldL) (w : World) (hR : EntR R st vs ask ca) (hQ : ReqR Q vq) (hs : RbF w vs ls) (hq : RbF w vq lq) (ks : ROk ls) (kq : ROk lq) :
    Calls Try.prog 26 #[.agg R, .agg Q, .int .i64 now, .float .f64 x] w fun e w' => e = .returned (.int .i64 (reuseB (ctlF ls) (ctlF lq) (unsF lq) (ageF ls ask ca now) (lifeF st ls ca x))) ∧ Aft w w' := by
  have HOS := Lib.hid (fun w h => rctl_any vs ls w h ks.len ks.val)
  have HOQ := Lib.hid (fun w h => rctl_any vq lq w h kq.len kq.val)
  have HHS := Lib.hid (fun w h => rhas_any vq lq ⟨nCC.toArray⟩ w h kq)
  have HPA := Lib.hid (fun w h => rpairs_any vq lq ⟨nPragma.toArray⟩ w h kq.len kq.val)
  have e1 : (⟨nCC.toArray⟩ : ByteArray).data.toList = nCC := rfl
  have e2 : (⟨nPragma.toArray⟩ : ByteArray).data.toList = nPragma := rfl
  rw [e1] at HHS
  rw [e2] at HPA
  have hpl := pairsF_len (kq.fok.join nPragma)
  obtain ⟨hs1, hhs⟩ : ∃ b, decide (0 < (valsF nCC lq).length) = b := ⟨_, rfl⟩
  have hun := nocc_unsure hhs
  rw [hhs] at HHS
  have HAG := Lib.hid (fun w h => rage_any R st vs ask ca now ls w hR h ks)
  have HLF := Lib.hid (fun w h => rlifetime_any R st vs ask ca ls x w hR h ks)
  obtain ⟨hA, hB, hC⟩ := box2_aft w R Q
  have HR := Lib.hid hR
  have HQ := Lib.hid hQ
  have HINF := Lib.hid hR.info
  have HINQ := Lib.hid hQ.info
  have RS := Lib.hid (hs.aft hA)
  have RQ := Lib.hid (hq.aft hA)
  have HA := Lib.hid hA
  have HB := Lib.hid hB
  have HC := Lib.hid hC
  obtain ⟨as_, cs, bs, os, hvs, -⟩ := hs.open
  obtain ⟨aq, cq, bq, oq, hvq, -⟩ := hq.open
  have oks := ctlF_ok ls
  have okq := ctlF_ok lq
  have okl := lifeF_bd st ls ca x
  have oka := ageF_bd ls ask ca now
  generalize ctlF ls = c at HOS oks ⊢
  generalize ctlF lq = d at HOQ okq ⊢
  generalize unsF lq = un at hun ⊢
  generalize pairsF nPragma lq = ps at HPA hpl hun
  have HUNS := Lib.hid hun
  have HPL := Lib.hid hpl
  generalize ageF ls ask ca now = age at HAG oka ⊢
  generalize lifeF st ls ca x = life at HLF okl ⊢
  obtain ⟨o1, o2, o3, o4⟩ := okq
  obtain ⟨c0, c1, c2, c3, c4, c5, c6, c7, c8, c9⟩ := c
  obtain ⟨d0, d1, d2, d3, d4, d5, d6, d7, d8, d9⟩ := d
  simp only at o1 o2 o3 o4
  obtain ⟨T, hT⟩ : ∃ T, toldB ⟨c0, c1, c2, c3, c4, c5, c6, c7, c8, c9⟩ ⟨d0, d1, d2, d3, d4, d5, d6, d7, d8, d9⟩ un age life = T := ⟨_, rfl⟩
  have hRR : ∃ r, reuseB ⟨c0, c1, c2, c3, c4, c5, c6, c7, c8, c9⟩ ⟨d0, d1, d2, d3, d4, d5, d6, d7, d8, d9⟩ un age life = r := ⟨_, rfl⟩
  obtain ⟨RR, hRR⟩ := hRR
  rw [hRR]
  unfold reuseB at hRR
  rw [hT] at hRR
  simp only at hRR
  have HRR := Lib.hid hRR
  unfold toldB at hT
  simp only at hT
  have HT := Lib.hid hT
  have evc : ctlV ⟨c0, c1, c2, c3, c4, c5, c6, c7, c8, c9⟩ = .agg #[.bool c0, .bool c1, .bool c2, .bool c3, .bool c4, .bool c5, .int .i64 c6, .int .i64 c7, .int .i64 c8, .int .i64 c9] := rfl
  have evd : ctlV ⟨d0, d1, d2, d3, d4, d5, d6, d7, d8, d9⟩ = .agg #[.bool d0, .bool d1, .bool d2, .bool d3, .bool d4, .bool d5, .int .i64 d6, .int .i64 d7, .int .i64 d8, .int .i64 d9] := rfl
  rw [evc] at HOS
  rw [evd] at HOQ
  have HOK := Lib.hid (And.intro o1 (And.intro o2 (And.intro o3 (And.intro o4 (And.intro okl oka)))))
  subst hvs hvq
  clear hA hB hC hs hq hR hQ ks kq oks okl oka o1 o2 o3 o4 evc evd hT hRR hun hpl hhs e1 e2
  go_enter Try.func26, Try.ntmps26
  go_upto_region 1 with fail
  generalize (w.alloc (.cells R 28)).alloc (.cells Q 24) = W at HA HB HC RS RQ ⊢
  generalize w.heap.size = g at HB HC ⊢
  go_cut [9, 10] (fun v9 v10 wx => ∃ (B7 B8 : Nat) (U : World), U = wx ∧ v9 = .pointer (some ⟨B7, 0, none⟩) ∧ v10 = .pointer (some ⟨B8, 0, none⟩) ∧ Hid (CB wx B7 ⟨c0, c1, c2, c3, c4, c5, c6, c7, c8, c9⟩ ∧ CB wx B8 ⟨d0, d1, d2, d3, d4, d5, d6, d7, d8, d9⟩ ∧ Aft W wx))
  case first =>
    refine wp_region_held_drew (S := Aft W) (by kernel_rfl) ((Aft.refl W).drew) (fun hHeld => ?_)
    generalize W.drew = Wd at hHeld ⊢
    refine wpAnyH_take (i := 0) (oi := { dst := some 18, op := Go.Op.fieldAddr 28 (Go.Operand.tmp 4) 1, type := 0, pos := _, after := _, guard := _ }) (v := ?_) rfl (by kernel_rfl) (by kernel_rfl) (by kernel_rfl) (fun _ _ _ h => h) (Or.inl ⟨by rfl, ?_⟩) (by exact hHeld) ?_
    rotate_left
    · intro w hSw; go_simp; try with_reducible rfl
    try simp only [Act.put]
    try simp only [List.setIfInBounds_toArray]
    try simp only [List.set]
    refine wpAnyH_take (i := 1) (oi := { dst := some 19, op := Go.Op.fieldAddr 26 (Go.Operand.tmp 18) 1, type := 0, pos := _, after := _, guard := _ }) (v := ?_) rfl (by kernel_rfl) (by kernel_rfl) (by kernel_rfl) (fun _ _ _ h => h) (Or.inl ⟨by rfl, ?_⟩) (by exact hHeld) ?_
    rotate_left
    · intro w hSw; go_simp; try with_reducible rfl
    try simp only [Act.put]
    try simp only [List.setIfInBounds_toArray]
    try simp only [List.set]
    refine wpAnyH_take (i := 2) (oi := { dst := some 20, op := Go.Op.load 22 (Go.Operand.tmp 19), type := 22, pos := _, after := _, guard := _ }) (v := ?_) rfl (by kernel_rfl) (by kernel_rfl) (by kernel_rfl) (fun _ _ _ h => h) (Or.inl ⟨by rfl, ?_⟩) (by exact hHeld) ?_
    rotate_left
    · intro w hSw; have e7 := ((HB.out.aft hSw).cells HR.out).2.1; have y4 := (HC.out.aft hSw).cell HQ.out; go_simp; try with_reducible rfl
    try simp only [Act.put]
    try simp only [List.setIfInBounds_toArray]
    try simp only [List.set]
    refine wpAnyH_take (i := 4) (oi := { dst := some 22, op := Go.Op.fieldAddr 24 (Go.Operand.tmp 5) 4, type := 0, pos := _, after := _, guard := _ }) (v := ?_) rfl (by kernel_rfl) (by kernel_rfl) (by kernel_rfl) (fun _ _ _ h => h) (Or.inl ⟨by rfl, ?_⟩) (by exact hHeld) ?_
    rotate_left
    · intro w hSw; go_simp; try with_reducible rfl
    try simp only [Act.put]
    try simp only [List.setIfInBounds_toArray]
    try simp only [List.set]
    refine wpAnyH_take (i := 5) (oi := { dst := some 23, op := Go.Op.load 22 (Go.Operand.tmp 22), type := 22, pos := _, after := _, guard := _ }) (v := ?_) rfl (by kernel_rfl) (by kernel_rfl) (by kernel_rfl) (fun _ _ _ h => h) (Or.inl ⟨by rfl, ?_⟩) (by exact hHeld) ?_
    rotate_left
    · intro w hSw; have e7 := ((HB.out.aft hSw).cells HR.out).2.1; have y4 := (HC.out.aft hSw).cell HQ.out; go_simp; try with_reducible rfl
    try simp only [Act.put]
    try simp only [List.setIfInBounds_toArray]
    try simp only [List.set]
    refine wpAnyH_ready (rs := [3, 7, 8]) (by kernel_rfl) (by simp) ?_
    refine (AllReadyH.cons (o := { dst := some 21, op := Go.Op.call { callee := Go.Callee.value (Go.Operand.func 24), args := #[Go.Operand.tmp 20], argTypes := #[22] }, type := 48, pos := _, after := _, guard := _ }) rfl (fun K hK => ?_) (AllReadyH.cons (o := { dst := some 9, op := Go.Op.alloc 48, type := 0, pos := _, after := _, guard := _ }) rfl (fun K hK => ?_) (AllReadyH.cons (o := { dst := some 10, op := Go.Op.alloc 48, type := 0, pos := _, after := _, guard := _ }) rfl (fun K hK => ?_) AllReadyH.nil)))
    · go_simp
      go_at_call 24
      refine (HOS.out _ (RS.out.aft hHeld)).mono ?_
      rintro e w3 ⟨rfl, ha⟩
      have hS2 := Aft.trans hHeld ha
      clear ha
      clear hHeld
      refine hK.out _ _ hS2 (fun hHeld => ?_)
      clear hK K hS2
      try simp only [Act.put]
      try simp only [List.setIfInBounds_toArray]
      try simp only [List.set]
      refine wpAnyH_ready (rs := [6, 7, 8]) (by kernel_rfl) (by simp) ?_
      refine (AllReadyH.cons (o := { dst := some 24, op := Go.Op.call { callee := Go.Callee.value (Go.Operand.func 24), args := #[Go.Operand.tmp 23], argTypes := #[22] }, type := 48, pos := _, after := _, guard := _ }) rfl (fun K hK => ?_) (AllReadyH.cons (o := { dst := some 9, op := Go.Op.alloc 48, type := 0, pos := _, after := _, guard := _ }) rfl (fun K hK => ?_) (AllReadyH.cons (o := { dst := some 10, op := Go.Op.alloc 48, type := 0, pos := _, after := _, guard := _ }) rfl (fun K hK => ?_) AllReadyH.nil)))
      · go_simp
        go_at_call 24
        refine (HOQ.out _ (RQ.out.aft hHeld)).mono ?_
        rintro e w6 ⟨rfl, ha⟩
        have hS2 := Aft.trans hHeld ha
        clear ha
        clear hHeld
        refine hK.out _ _ hS2 (fun hHeld => ?_)
        clear hK K hS2
        try simp only [Act.put]
        try simp only [List.setIfInBounds_toArray]
        try simp only [List.set]
        refine wpAnyH_ready (rs := [7, 8]) (by kernel_rfl) (by simp) ?_
        refine (AllReadyH.cons (o := { dst := some 9, op := Go.Op.alloc 48, type := 0, pos := _, after := _, guard := _ }) rfl (fun K hK => ?_) (AllReadyH.cons (o := { dst := some 10, op := Go.Op.alloc 48, type := 0, pos := _, after := _, guard := _ }) rfl (fun K hK => ?_) AllReadyH.nil))
        · go_simp
          have hl : Aft w6 (w6.alloc (.cells (ctlC ctlZ).toArray 48)) := (Aft.refl _).alloc _
          have hn : CB (w6.alloc (.cells (ctlC ctlZ).toArray 48)) w6.heap.size ctlZ := heap_alloc_new w6 _
          have hS2 := Aft.trans hHeld hl
          have hB7 : W.heap.size ≤ w6.heap.size := hHeld.size
          obtain ⟨u7, hu⟩ : ∃ u, w6.alloc (.cells (ctlC ctlZ).toArray 48) = u := ⟨_, rfl⟩
          rw [hu] at hn hS2
          rw [show w6.alloc (.cells #[.bool false, .bool false, .bool false, .bool false, .bool false, .bool false, .int .i64 0, .int .i64 0, .int .i64 0, .int .i64 0] 48) = u7 from hu]
          clear hu hl
          generalize w6.heap.size = B7 at hn hB7 ⊢
          have z7 := hn
          clear hn
          clear hHeld
          refine hK.out _ _ hS2 (fun hHeld => ?_)
          clear hK K hS2
          try simp only [Act.put]
          try simp only [List.setIfInBounds_toArray]
          try simp only [List.set]
          refine wpAnyH_ready (rs := [8]) (by kernel_rfl) (by simp) ?_
          refine (AllReadyH.cons (o := { dst := some 10, op := Go.Op.alloc 48, type := 0, pos := _, after := _, guard := _ }) rfl (fun K hK => ?_) AllReadyH.nil)
          · go_simp
            have hl : Aft u7 (u7.alloc (.cells (ctlC ctlZ).toArray 48)) := (Aft.refl _).alloc _
            have hn : CB (u7.alloc (.cells (ctlC ctlZ).toArray 48)) u7.heap.size ctlZ := heap_alloc_new u7 _
            have hS2 := Aft.trans hHeld hl
            have hB8 : W.heap.size ≤ u7.heap.size := hHeld.size
            have hne : B7 ≠ u7.heap.size := by have := CB.lt z7; omega
            have z := CB.aft z7 hl
            clear z7
            have z7 := z
            clear z
            obtain ⟨u8, hu⟩ : ∃ u, u7.alloc (.cells (ctlC ctlZ).toArray 48) = u := ⟨_, rfl⟩
            rw [hu] at hn hS2 z7
            rw [show u7.alloc (.cells #[.bool false, .bool false, .bool false, .bool false, .bool false, .bool false, .int .i64 0, .int .i64 0, .int .i64 0, .int .i64 0] 48) = u8 from hu]
            clear hu hl
            generalize u7.heap.size = B8 at hn hB8 hne ⊢
            have z8 := hn
            clear hn
            clear hHeld
            refine hK.out _ _ hS2 (fun hHeld => ?_)
            clear hK K hS2
            try simp only [Act.put]
            try simp only [List.setIfInBounds_toArray]
            try simp only [List.set]
            refine wpAnyH_ready (rs := [9]) (by kernel_rfl) (by simp) ?_
            refine (AllReadyH.cons (o := { dst := none, op := Go.Op.store 48 (Go.Operand.tmp 9) (Go.Operand.tmp 21), type := 0, pos := _, after := _, guard := _ }) rfl (fun K hK => ?_) AllReadyH.nil)
            · rw [if_pos (by rfl)]
              refine wp_store_row 48 (.tmp 9) (.tmp 21) rfl B7 (ctlC ⟨c0, c1, c2, c3, c4, c5, c6, c7, c8, c9⟩).toArray rfl rfl 48 (ctlC ctlZ).toArray z7 (sizeC21 _) (sameC21 _ _) (oneC21 _) ?_
              have hn := CB.row21 z7 ⟨c0, c1, c2, c3, c4, c5, c6, c7, c8, c9⟩
              have ho := CB.rowOther21 z8 (b := B7) (by omega) ⟨c0, c1, c2, c3, c4, c5, c6, c7, c8, c9⟩
              have hS2 := below_setRow hHeld hB7 (ctlC ⟨c0, c1, c2, c3, c4, c5, c6, c7, c8, c9⟩).toArray
              clear z7 z8
              have z7 := hn
              have z8 := ho
              clear hn ho
              clear hHeld
              refine hK.out _ _ hS2 (fun hHeld => ?_)
              clear hK K hS2
              try simp only [Act.put]
              try simp only [List.setIfInBounds_toArray]
              try simp only [List.set]
              refine wpAnyH_ready (rs := [10]) (by kernel_rfl) (by simp) ?_
              refine (AllReadyH.cons (o := { dst := none, op := Go.Op.store 48 (Go.Operand.tmp 10) (Go.Operand.tmp 24), type := 0, pos := _, after := _, guard := _ }) rfl (fun K hK => ?_) AllReadyH.nil)
              · rw [if_pos (by rfl)]
                refine wp_store_row 48 (.tmp 10) (.tmp 24) rfl B8 (ctlC ⟨d0, d1, d2, d3, d4, d5, d6, d7, d8, d9⟩).toArray rfl rfl 48 (ctlC ctlZ).toArray z8 (sizeC21 _) (sameC21 _ _) (oneC21 _) ?_
                have hn := CB.row21 z8 ⟨d0, d1, d2, d3, d4, d5, d6, d7, d8, d9⟩
                have ho := CB.rowOther21 z7 (b := B8) (by omega) ⟨d0, d1, d2, d3, d4, d5, d6, d7, d8, d9⟩
                have hS2 := below_setRow hHeld hB8 (ctlC ⟨d0, d1, d2, d3, d4, d5, d6, d7, d8, d9⟩).toArray
                clear z7 z8
                have z8 := hn
                have z7 := ho
                clear hn ho
                clear hHeld
                refine hK.out _ _ hS2 (fun hHeld => ?_)
                clear hK K hS2
                try simp only [Act.put]
                try simp only [List.setIfInBounds_toArray]
                try simp only [List.set]
                refine wpAnyH_done (by kernel_rfl) ?_ _
                go_wp2_with fail
                go_meet
                exact ⟨B7, B8, _, rfl, rfl, rfl, Lib.hid ⟨z7, z8, hHeld⟩⟩
        · go_simp
          have hl : Aft w6 (w6.alloc (.cells (ctlC ctlZ).toArray 48)) := (Aft.refl _).alloc _
          have hn : CB (w6.alloc (.cells (ctlC ctlZ).toArray 48)) w6.heap.size ctlZ := heap_alloc_new w6 _
          have hS2 := Aft.trans hHeld hl
          have hB8 : W.heap.size ≤ w6.heap.size := hHeld.size
          obtain ⟨u8, hu⟩ : ∃ u, w6.alloc (.cells (ctlC ctlZ).toArray 48) = u := ⟨_, rfl⟩
          rw [hu] at hn hS2
          rw [show w6.alloc (.cells #[.bool false, .bool false, .bool false, .bool false, .bool false, .bool false, .int .i64 0, .int .i64 0, .int .i64 0, .int .i64 0] 48) = u8 from hu]
          clear hu hl
          generalize w6.heap.size = B8 at hn hB8 ⊢
          have z8 := hn
          clear hn
          clear hHeld
          refine hK.out _ _ hS2 (fun hHeld => ?_)
          clear hK K hS2
          try simp only [Act.put]
          try simp only [List.setIfInBounds_toArray]
          try simp only [List.set]
          refine wpAnyH_ready (rs := [7]) (by kernel_rfl) (by simp) ?_
          refine (AllReadyH.cons (o := { dst := some 9, op := Go.Op.alloc 48, type := 0, pos := _, after := _, guard := _ }) rfl (fun K hK => ?_) AllReadyH.nil)
          · go_simp
            have hl : Aft u8 (u8.alloc (.cells (ctlC ctlZ).toArray 48)) := (Aft.refl _).alloc _
            have hn : CB (u8.alloc (.cells (ctlC ctlZ).toArray 48)) u8.heap.size ctlZ := heap_alloc_new u8 _
            have hS2 := Aft.trans hHeld hl
            have hB7 : W.heap.size ≤ u8.heap.size := hHeld.size
            have hne : B8 ≠ u8.heap.size := by have := CB.lt z8; omega
            have z := CB.aft z8 hl
            clear z8
            have z8 := z
            clear z
            obtain ⟨u7, hu⟩ : ∃ u, u8.alloc (.cells (ctlC ctlZ).toArray 48) = u := ⟨_, rfl⟩
            rw [hu] at hn hS2 z8
            rw [show u8.alloc (.cells #[.bool false, .bool false, .bool false, .bool false, .bool false, .bool false, .int .i64 0, .int .i64 0, .int .i64 0, .int .i64 0] 48) = u7 from hu]
            clear hu hl
            generalize u8.heap.size = B7 at hn hB7 hne ⊢
            have z7 := hn
            clear hn
            clear hHeld
            refine hK.out _ _ hS2 (fun hHeld => ?_)
            clear hK K hS2
            try simp only [Act.put]
            try simp only [List.setIfInBounds_toArray]
            try simp only [List.set]
            refine wpAnyH_ready (rs := [9]) (by kernel_rfl) (by simp) ?_
            refine (AllReadyH.cons (o := { dst := none, op := Go.Op.store 48 (Go.Operand.tmp 9) (Go.Operand.tmp 21), type := 0, pos := _, after := _, guard := _ }) rfl (fun K hK => ?_) AllReadyH.nil)
            · rw [if_pos (by rfl)]
              refine wp_store_row 48 (.tmp 9) (.tmp 21) rfl B7 (ctlC ⟨c0, c1, c2, c3, c4, c5, c6, c7, c8, c9⟩).toArray rfl rfl 48 (ctlC ctlZ).toArray z7 (sizeC21 _) (sameC21 _ _) (oneC21 _) ?_
              have hn := CB.row21 z7 ⟨c0, c1, c2, c3, c4, c5, c6, c7, c8, c9⟩
              have ho := CB.rowOther21 z8 (b := B7) (by omega) ⟨c0, c1, c2, c3, c4, c5, c6, c7, c8, c9⟩
              have hS2 := below_setRow hHeld hB7 (ctlC ⟨c0, c1, c2, c3, c4, c5, c6, c7, c8, c9⟩).toArray
              clear z7 z8
              have z7 := hn
              have z8 := ho
              clear hn ho
              clear hHeld
              refine hK.out _ _ hS2 (fun hHeld => ?_)
              clear hK K hS2
              try simp only [Act.put]
              try simp only [List.setIfInBounds_toArray]
              try simp only [List.set]
              refine wpAnyH_ready (rs := [10]) (by kernel_rfl) (by simp) ?_
              refine (AllReadyH.cons (o := { dst := none, op := Go.Op.store 48 (Go.Operand.tmp 10) (Go.Operand.tmp 24), type := 0, pos := _, after := _, guard := _ }) rfl (fun K hK => ?_) AllReadyH.nil)
              · rw [if_pos (by rfl)]
                refine wp_store_row 48 (.tmp 10) (.tmp 24) rfl B8 (ctlC ⟨d0, d1, d2, d3, d4, d5, d6, d7, d8, d9⟩).toArray rfl rfl 48 (ctlC ctlZ).toArray z8 (sizeC21 _) (sameC21 _ _) (oneC21 _) ?_
                have hn := CB.row21 z8 ⟨d0, d1, d2, d3, d4, d5, d6, d7, d8, d9⟩
                have ho := CB.rowOther21 z7 (b := B8) (by omega) ⟨d0, d1, d2, d3, d4, d5, d6, d7, d8, d9⟩
                have hS2 := below_setRow hHeld hB8 (ctlC ⟨d0, d1, d2, d3, d4, d5, d6, d7, d8, d9⟩).toArray
                clear z7 z8
                have z8 := hn
                have z7 := ho
                clear hn ho
                clear hHeld
                refine hK.out _ _ hS2 (fun hHeld => ?_)
                clear hK K hS2
                try simp only [Act.put]
                try simp only [List.setIfInBounds_toArray]
                try simp only [List.set]
                refine wpAnyH_done (by kernel_rfl) ?_ _
                go_wp2_with fail
                go_meet
                exact ⟨B7, B8, _, rfl, rfl, rfl, Lib.hid ⟨z7, z8, hHeld⟩⟩
      · go_simp
        have hl : Aft w3 (w3.alloc (.cells (ctlC ctlZ).toArray 48)) := (Aft.refl _).alloc _
        have hn : CB (w3.alloc (.cells (ctlC ctlZ).toArray 48)) w3.heap.size ctlZ := heap_alloc_new w3 _
        have hS2 := Aft.trans hHeld hl
        have hB7 : W.heap.size ≤ w3.heap.size := hHeld.size
        obtain ⟨u7, hu⟩ : ∃ u, w3.alloc (.cells (ctlC ctlZ).toArray 48) = u := ⟨_, rfl⟩
        rw [hu] at hn hS2
        rw [show w3.alloc (.cells #[.bool false, .bool false, .bool false, .bool false, .bool false, .bool false, .int .i64 0, .int .i64 0, .int .i64 0, .int .i64 0] 48) = u7 from hu]
        clear hu hl
        generalize w3.heap.size = B7 at hn hB7 ⊢
        have z7 := hn
        clear hn
        clear hHeld
        refine hK.out _ _ hS2 (fun hHeld => ?_)
        clear hK K hS2
        try simp only [Act.put]
        try simp only [List.setIfInBounds_toArray]
        try simp only [List.set]
        refine wpAnyH_ready (rs := [6, 8]) (by kernel_rfl) (by simp) ?_
        refine (AllReadyH.cons (o := { dst := some 24, op := Go.Op.call { callee := Go.Callee.value (Go.Operand.func 24), args := #[Go.Operand.tmp 23], argTypes := #[22] }, type := 48, pos := _, after := _, guard := _ }) rfl (fun K hK => ?_) (AllReadyH.cons (o := { dst := some 10, op := Go.Op.alloc 48, type := 0, pos := _, after := _, guard := _ }) rfl (fun K hK => ?_) AllReadyH.nil))
        · go_simp
          go_at_call 24
          refine (HOQ.out _ (RQ.out.aft hHeld)).mono ?_
          rintro e w6 ⟨rfl, ha⟩
          have hS2 := Aft.trans hHeld ha
          have z := CB.aft z7 ha
          clear z7
          have z7 := z
          clear z
          clear ha
          clear hHeld
          refine hK.out _ _ hS2 (fun hHeld => ?_)
          clear hK K hS2
          try simp only [Act.put]
          try simp only [List.setIfInBounds_toArray]
          try simp only [List.set]
          refine wpAnyH_ready (rs := [8]) (by kernel_rfl) (by simp) ?_
          refine (AllReadyH.cons (o := { dst := some 10, op := Go.Op.alloc 48, type := 0, pos := _, after := _, guard := _ }) rfl (fun K hK => ?_) AllReadyH.nil)
          · go_simp
            have hl : Aft w6 (w6.alloc (.cells (ctlC ctlZ).toArray 48)) := (Aft.refl _).alloc _
            have hn : CB (w6.alloc (.cells (ctlC ctlZ).toArray 48)) w6.heap.size ctlZ := heap_alloc_new w6 _
            have hS2 := Aft.trans hHeld hl
            have hB8 : W.heap.size ≤ w6.heap.size := hHeld.size
            have hne : B7 ≠ w6.heap.size := by have := CB.lt z7; omega
            have z := CB.aft z7 hl
            clear z7
            have z7 := z
            clear z
            obtain ⟨u8, hu⟩ : ∃ u, w6.alloc (.cells (ctlC ctlZ).toArray 48) = u := ⟨_, rfl⟩
            rw [hu] at hn hS2 z7
            rw [show w6.alloc (.cells #[.bool false, .bool false, .bool false, .bool false, .bool false, .bool false, .int .i64 0, .int .i64 0, .int .i64 0, .int .i64 0] 48) = u8 from hu]
            clear hu hl
            generalize w6.heap.size = B8 at hn hB8 hne ⊢
            have z8 := hn
            clear hn
            clear hHeld
            refine hK.out _ _ hS2 (fun hHeld => ?_)
            clear hK K hS2
            try simp only [Act.put]
            try simp only [List.setIfInBounds_toArray]
            try simp only [List.set]
            refine wpAnyH_ready (rs := [9]) (by kernel_rfl) (by simp) ?_
            refine (AllReadyH.cons (o := { dst := none, op := Go.Op.store 48 (Go.Operand.tmp 9) (Go.Operand.tmp 21), type := 0, pos := _, after := _, guard := _ }) rfl (fun K hK => ?_) AllReadyH.nil)
            · rw [if_pos (by rfl)]
              refine wp_store_row 48 (.tmp 9) (.tmp 21) rfl B7 (ctlC ⟨c0, c1, c2, c3, c4, c5, c6, c7, c8, c9⟩).toArray rfl rfl 48 (ctlC ctlZ).toArray z7 (sizeC21 _) (sameC21 _ _) (oneC21 _) ?_
              have hn := CB.row21 z7 ⟨c0, c1, c2, c3, c4, c5, c6, c7, c8, c9⟩
              have ho := CB.rowOther21 z8 (b := B7) (by omega) ⟨c0, c1, c2, c3, c4, c5, c6, c7, c8, c9⟩
              have hS2 := below_setRow hHeld hB7 (ctlC ⟨c0, c1, c2, c3, c4, c5, c6, c7, c8, c9⟩).toArray
              clear z7 z8
              have z7 := hn
              have z8 := ho
              clear hn ho
              clear hHeld
              refine hK.out _ _ hS2 (fun hHeld => ?_)
              clear hK K hS2
              try simp only [Act.put]
              try simp only [List.setIfInBounds_toArray]
              try simp only [List.set]
              refine wpAnyH_ready (rs := [10]) (by kernel_rfl) (by simp) ?_
              refine (AllReadyH.cons (o := { dst := none, op := Go.Op.store 48 (Go.Operand.tmp 10) (Go.Operand.tmp 24), type := 0, pos := _, after := _, guard := _ }) rfl (fun K hK => ?_) AllReadyH.nil)
              · rw [if_pos (by rfl)]
                refine wp_store_row 48 (.tmp 10) (.tmp 24) rfl B8 (ctlC ⟨d0, d1, d2, d3, d4, d5, d6, d7, d8, d9⟩).toArray rfl rfl 48 (ctlC ctlZ).toArray z8 (sizeC21 _) (sameC21 _ _) (oneC21 _) ?_
                have hn := CB.row21 z8 ⟨d0, d1, d2, d3, d4, d5, d6, d7, d8, d9⟩
                have ho := CB.rowOther21 z7 (b := B8) (by omega) ⟨d0, d1, d2, d3, d4, d5, d6, d7, d8, d9⟩
                have hS2 := below_setRow hHeld hB8 (ctlC ⟨d0, d1, d2, d3, d4, d5, d6, d7, d8, d9⟩).toArray
                clear z7 z8
                have z8 := hn
                have z7 := ho
                clear hn ho
                clear hHeld
                refine hK.out _ _ hS2 (fun hHeld => ?_)
                clear hK K hS2
                try simp only [Act.put]
                try simp only [List.setIfInBounds_toArray]
                try simp only [List.set]
                refine wpAnyH_done (by kernel_rfl) ?_ _
                go_wp2_with fail
                go_meet
                exact ⟨B7, B8, _, rfl, rfl, rfl, Lib.hid ⟨z7, z8, hHeld⟩⟩
        · go_simp
          have hl : Aft u7 (u7.alloc (.cells (ctlC ctlZ).toArray 48)) := (Aft.refl _).alloc _
          have hn : CB (u7.alloc (.cells (ctlC ctlZ).toArray 48)) u7.heap.size ctlZ := heap_alloc_new u7 _
          have hS2 := Aft.trans hHeld hl
          have hB8 : W.heap.size ≤ u7.heap.size := hHeld.size
          have hne : B7 ≠ u7.heap.size := by have := CB.lt z7; omega
          have z := CB.aft z7 hl
          clear z7
          have z7 := z
          clear z
          obtain ⟨u8, hu⟩ : ∃ u, u7.alloc (.cells (ctlC ctlZ).toArray 48) = u := ⟨_, rfl⟩
          rw [hu] at hn hS2 z7
          rw [show u7.alloc (.cells #[.bool false, .bool false, .bool false, .bool false, .bool false, .bool false, .int .i64 0, .int .i64 0, .int .i64 0, .int .i64 0] 48) = u8 from hu]
          clear hu hl
          generalize u7.heap.size = B8 at hn hB8 hne ⊢
          have z8 := hn
          clear hn
          clear hHeld
          refine hK.out _ _ hS2 (fun hHeld => ?_)
          clear hK K hS2
          try simp only [Act.put]
          try simp only [List.setIfInBounds_toArray]
          try simp only [List.set]
          refine wpAnyH_ready (rs := [6]) (by kernel_rfl) (by simp) ?_
          refine (AllReadyH.cons (o := { dst := some 24, op := Go.Op.call { callee := Go.Callee.value (Go.Operand.func 24), args := #[Go.Operand.tmp 23], argTypes := #[22] }, type := 48, pos := _, after := _, guard := _ }) rfl (fun K hK => ?_) AllReadyH.nil)
          · go_simp
            go_at_call 24
            refine (HOQ.out _ (RQ.out.aft hHeld)).mono ?_
            rintro e w6 ⟨rfl, ha⟩
            have hS2 := Aft.trans hHeld ha
            have z := CB.aft z7 ha
            clear z7
            have z7 := z
            clear z
            have z := CB.aft z8 ha
            clear z8
            have z8 := z
            clear z
            clear ha
            clear hHeld
            refine hK.out _ _ hS2 (fun hHeld => ?_)
            clear hK K hS2
            try simp only [Act.put]
            try simp only [List.setIfInBounds_toArray]
            try simp only [List.set]
            refine wpAnyH_ready (rs := [9]) (by kernel_rfl) (by simp) ?_
            refine (AllReadyH.cons (o := { dst := none, op := Go.Op.store 48 (Go.Operand.tmp 9) (Go.Operand.tmp 21), type := 0, pos := _, after := _, guard := _ }) rfl (fun K hK => ?_) AllReadyH.nil)
            · rw [if_pos (by rfl)]
              refine wp_store_row 48 (.tmp 9) (.tmp 21) rfl B7 (ctlC ⟨c0, c1, c2, c3, c4, c5, c6, c7, c8, c9⟩).toArray rfl rfl 48 (ctlC ctlZ).toArray z7 (sizeC21 _) (sameC21 _ _) (oneC21 _) ?_
              have hn := CB.row21 z7 ⟨c0, c1, c2, c3, c4, c5, c6, c7, c8, c9⟩
              have ho := CB.rowOther21 z8 (b := B7) (by omega) ⟨c0, c1, c2, c3, c4, c5, c6, c7, c8, c9⟩
              have hS2 := below_setRow hHeld hB7 (ctlC ⟨c0, c1, c2, c3, c4, c5, c6, c7, c8, c9⟩).toArray
              clear z7 z8
              have z7 := hn
              have z8 := ho
              clear hn ho
              clear hHeld
              refine hK.out _ _ hS2 (fun hHeld => ?_)
              clear hK K hS2
              try simp only [Act.put]
              try simp only [List.setIfInBounds_toArray]
              try simp only [List.set]
              refine wpAnyH_ready (rs := [10]) (by kernel_rfl) (by simp) ?_
              refine (AllReadyH.cons (o := { dst := none, op := Go.Op.store 48 (Go.Operand.tmp 10) (Go.Operand.tmp 24), type := 0, pos := _, after := _, guard := _ }) rfl (fun K hK => ?_) AllReadyH.nil)
              · rw [if_pos (by rfl)]
                refine wp_store_row 48 (.tmp 10) (.tmp 24) rfl B8 (ctlC ⟨d0, d1, d2, d3, d4, d5, d6, d7, d8, d9⟩).toArray rfl rfl 48 (ctlC ctlZ).toArray z8 (sizeC21 _) (sameC21 _ _) (oneC21 _) ?_
                have hn := CB.row21 z8 ⟨d0, d1, d2, d3, d4, d5, d6, d7, d8, d9⟩
                have ho := CB.rowOther21 z7 (b := B8) (by omega) ⟨d0, d1, d2, d3, d4, d5, d6, d7, d8, d9⟩
                have hS2 := below_setRow hHeld hB8 (ctlC ⟨d0, d1, d2, d3, d4, d5, d6, d7, d8, d9⟩).toArray
                clear z7 z8
                have z8 := hn
                have z7 := ho
                clear hn ho
                clear hHeld
                refine hK.out _ _ hS2 (fun hHeld => ?_)
                clear hK K hS2
                try simp only [Act.put]
                try simp only [List.setIfInBounds_toArray]
                try simp only [List.set]
                refine wpAnyH_done (by kernel_rfl) ?_ _
                go_wp2_with fail
                go_meet
                exact ⟨B7, B8, _, rfl, rfl, rfl, Lib.hid ⟨z7, z8, hHeld⟩⟩
      · go_simp
        have hl : Aft w3 (w3.alloc (.cells (ctlC ctlZ).toArray 48)) := (Aft.refl _).alloc _
        have hn : CB (w3.alloc (.cells (ctlC ctlZ).toArray 48)) w3.heap.size ctlZ := heap_alloc_new w3 _
        have hS2 := Aft.trans hHeld hl
        have hB8 : W.heap.size ≤ w3.heap.size := hHeld.size
        obtain ⟨u8, hu⟩ : ∃ u, w3.alloc (.cells (ctlC ctlZ).toArray 48) = u := ⟨_, rfl⟩
        rw [hu] at hn hS2
        rw [show w3.alloc (.cells #[.bool false, .bool false, .bool false, .bool false, .bool false, .bool false, .int .i64 0, .int .i64 0, .int .i64 0, .int .i64 0] 48) = u8 from hu]
        clear hu hl
        generalize w3.heap.size = B8 at hn hB8 ⊢
        have z8 := hn
        clear hn
        clear hHeld
        refine hK.out _ _ hS2 (fun hHeld => ?_)
        clear hK K hS2
        try simp only [Act.put]
        try simp only [List.setIfInBounds_toArray]
        try simp only [List.set]
        refine wpAnyH_ready (rs := [6, 7]) (by kernel_rfl) (by simp) ?_
        refine (AllReadyH.cons (o := { dst := some 24, op := Go.Op.call { callee := Go.Callee.value (Go.Operand.func 24), args := #[Go.Operand.tmp 23], argTypes := #[22] }, type := 48, pos := _, after := _, guard := _ }) rfl (fun K hK => ?_) (AllReadyH.cons (o := { dst := some 9, op := Go.Op.alloc 48, type := 0, pos := _, after := _, guard := _ }) rfl (fun K hK => ?_) AllReadyH.nil))
        · go_simp
          go_at_call 24
          refine (HOQ.out _ (RQ.out.aft hHeld)).mono ?_
          rintro e w6 ⟨rfl, ha⟩
          have hS2 := Aft.trans hHeld ha
          have z := CB.aft z8 ha
          clear z8
          have z8 := z
          clear z
          clear ha
          clear hHeld
          refine hK.out _ _ hS2 (fun hHeld => ?_)
          clear hK K hS2
          try simp only [Act.put]
          try simp only [List.setIfInBounds_toArray]
          try simp only [List.set]
          refine wpAnyH_ready (rs := [7]) (by kernel_rfl) (by simp) ?_
          refine (AllReadyH.cons (o := { dst := some 9, op := Go.Op.alloc 48, type := 0, pos := _, after := _, guard := _ }) rfl (fun K hK => ?_) AllReadyH.nil)
          · go_simp
            have hl : Aft w6 (w6.alloc (.cells (ctlC ctlZ).toArray 48)) := (Aft.refl _).alloc _
            have hn : CB (w6.alloc (.cells (ctlC ctlZ).toArray 48)) w6.heap.size ctlZ := heap_alloc_new w6 _
            have hS2 := Aft.trans hHeld hl
            have hB7 : W.heap.size ≤ w6.heap.size := hHeld.size
            have hne : B8 ≠ w6.heap.size := by have := CB.lt z8; omega
            have z := CB.aft z8 hl
            clear z8
            have z8 := z
            clear z
            obtain ⟨u7, hu⟩ : ∃ u, w6.alloc (.cells (ctlC ctlZ).toArray 48) = u := ⟨_, rfl⟩
            rw [hu] at hn hS2 z8
            rw [show w6.alloc (.cells #[.bool false, .bool false, .bool false, .bool false, .bool false, .bool false, .int .i64 0, .int .i64 0, .int .i64 0, .int .i64 0] 48) = u7 from hu]
            clear hu hl
            generalize w6.heap.size = B7 at hn hB7 hne ⊢
            have z7 := hn
            clear hn
            clear hHeld
            refine hK.out _ _ hS2 (fun hHeld => ?_)
            clear hK K hS2
            try simp only [Act.put]
            try simp only [List.setIfInBounds_toArray]
            try simp only [List.set]
            refine wpAnyH_ready (rs := [9]) (by kernel_rfl) (by simp) ?_
            refine (AllReadyH.cons (o := { dst := none, op := Go.Op.store 48 (Go.Operand.tmp 9) (Go.Operand.tmp 21), type := 0, pos := _, after := _, guard := _ }) rfl (fun K hK => ?_) AllReadyH.nil)
            · rw [if_pos (by rfl)]
              refine wp_store_row 48 (.tmp 9) (.tmp 21) rfl B7 (ctlC ⟨c0, c1, c2, c3, c4, c5, c6, c7, c8, c9⟩).toArray rfl rfl 48 (ctlC ctlZ).toArray z7 (sizeC21 _) (sameC21 _ _) (oneC21 _) ?_
              have hn := CB.row21 z7 ⟨c0, c1, c2, c3, c4, c5, c6, c7, c8, c9⟩
              have ho := CB.rowOther21 z8 (b := B7) (by omega) ⟨c0, c1, c2, c3, c4, c5, c6, c7, c8, c9⟩
              have hS2 := below_setRow hHeld hB7 (ctlC ⟨c0, c1, c2, c3, c4, c5, c6, c7, c8, c9⟩).toArray
              clear z7 z8
              have z7 := hn
              have z8 := ho
              clear hn ho
              clear hHeld
              refine hK.out _ _ hS2 (fun hHeld => ?_)
              clear hK K hS2
              try simp only [Act.put]
              try simp only [List.setIfInBounds_toArray]
              try simp only [List.set]
              refine wpAnyH_ready (rs := [10]) (by kernel_rfl) (by simp) ?_
              refine (AllReadyH.cons (o := { dst := none, op := Go.Op.store 48 (Go.Operand.tmp 10) (Go.Operand.tmp 24), type := 0, pos := _, after := _, guard := _ }) rfl (fun K hK => ?_) AllReadyH.nil)
              · rw [if_pos (by rfl)]
                refine wp_store_row 48 (.tmp 10) (.tmp 24) rfl B8 (ctlC ⟨d0, d1, d2, d3, d4, d5, d6, d7, d8, d9⟩).toArray rfl rfl 48 (ctlC ctlZ).toArray z8 (sizeC21 _) (sameC21 _ _) (oneC21 _) ?_
                have hn := CB.row21 z8 ⟨d0, d1, d2, d3, d4, d5, d6, d7, d8, d9⟩
                have ho := CB.rowOther21 z7 (b := B8) (by omega) ⟨d0, d1, d2, d3, d4, d5, d6, d7, d8, d9⟩
                have hS2 := below_setRow hHeld hB8 (ctlC ⟨d0, d1, d2, d3, d4, d5, d6, d7, d8, d9⟩).toArray
                clear z7 z8
                have z8 := hn
                have z7 := ho
                clear hn ho
                clear hHeld
                refine hK.out _ _ hS2 (fun hHeld => ?_)
                clear hK K hS2
                try simp only [Act.put]
                try simp only [List.setIfInBounds_toArray]
                try simp only [List.set]
                refine wpAnyH_done (by kernel_rfl) ?_ _
                go_wp2_with fail
                go_meet
                exact ⟨B7, B8, _, rfl, rfl, rfl, Lib.hid ⟨z7, z8, hHeld⟩⟩
        · go_simp
          have hl : Aft u8 (u8.alloc (.cells (ctlC ctlZ).toArray 48)) := (Aft.refl _).alloc _
          have hn : CB (u8.alloc (.cells (ctlC ctlZ).toArray 48)) u8.heap.size ctlZ := heap_alloc_new u8 _
          have hS2 := Aft.trans hHeld hl
          have hB7 : W.heap.size ≤ u8.heap.size := hHeld.size
          have hne : B8 ≠ u8.heap.size := by have := CB.lt z8; omega
          have z := CB.aft z8 hl
          clear z8
          have z8 := z
          clear z
          obtain ⟨u7, hu⟩ : ∃ u, u8.alloc (.cells (ctlC ctlZ).toArray 48) = u := ⟨_, rfl⟩
          rw [hu] at hn hS2 z8
          rw [show u8.alloc (.cells #[.bool false, .bool false, .bool false, .bool false, .bool false, .bool false, .int .i64 0, .int .i64 0, .int .i64 0, .int .i64 0] 48) = u7 from hu]
          clear hu hl
          generalize u8.heap.size = B7 at hn hB7 hne ⊢
          have z7 := hn
          clear hn
          clear hHeld
          refine hK.out _ _ hS2 (fun hHeld => ?_)
          clear hK K hS2
          try simp only [Act.put]
          try simp only [List.setIfInBounds_toArray]
          try simp only [List.set]
          refine wpAnyH_ready (rs := [6]) (by kernel_rfl) (by simp) ?_
          refine (AllReadyH.cons (o := { dst := some 24, op := Go.Op.call { callee := Go.Callee.value (Go.Operand.func 24), args := #[Go.Operand.tmp 23], argTypes := #[22] }, type := 48, pos := _, after := _, guard := _ }) rfl (fun K hK => ?_) AllReadyH.nil)
          · go_simp
            go_at_call 24
            refine (HOQ.out _ (RQ.out.aft hHeld)).mono ?_
            rintro e w6 ⟨rfl, ha⟩
            have hS2 := Aft.trans hHeld ha
            have z := CB.aft z7 ha
            clear z7
            have z7 := z
            clear z
            have z := CB.aft z8 ha
            clear z8
            have z8 := z
            clear z
            clear ha
            clear hHeld
            refine hK.out _ _ hS2 (fun hHeld => ?_)
            clear hK K hS2
            try simp only [Act.put]
            try simp only [List.setIfInBounds_toArray]
            try simp only [List.set]
            refine wpAnyH_ready (rs := [9]) (by kernel_rfl) (by simp) ?_
            refine (AllReadyH.cons (o := { dst := none, op := Go.Op.store 48 (Go.Operand.tmp 9) (Go.Operand.tmp 21), type := 0, pos := _, after := _, guard := _ }) rfl (fun K hK => ?_) AllReadyH.nil)
            · rw [if_pos (by rfl)]
              refine wp_store_row 48 (.tmp 9) (.tmp 21) rfl B7 (ctlC ⟨c0, c1, c2, c3, c4, c5, c6, c7, c8, c9⟩).toArray rfl rfl 48 (ctlC ctlZ).toArray z7 (sizeC21 _) (sameC21 _ _) (oneC21 _) ?_
              have hn := CB.row21 z7 ⟨c0, c1, c2, c3, c4, c5, c6, c7, c8, c9⟩
              have ho := CB.rowOther21 z8 (b := B7) (by omega) ⟨c0, c1, c2, c3, c4, c5, c6, c7, c8, c9⟩
              have hS2 := below_setRow hHeld hB7 (ctlC ⟨c0, c1, c2, c3, c4, c5, c6, c7, c8, c9⟩).toArray
              clear z7 z8
              have z7 := hn
              have z8 := ho
              clear hn ho
              clear hHeld
              refine hK.out _ _ hS2 (fun hHeld => ?_)
              clear hK K hS2
              try simp only [Act.put]
              try simp only [List.setIfInBounds_toArray]
              try simp only [List.set]
              refine wpAnyH_ready (rs := [10]) (by kernel_rfl) (by simp) ?_
              refine (AllReadyH.cons (o := { dst := none, op := Go.Op.store 48 (Go.Operand.tmp 10) (Go.Operand.tmp 24), type := 0, pos := _, after := _, guard := _ }) rfl (fun K hK => ?_) AllReadyH.nil)
              · rw [if_pos (by rfl)]
                refine wp_store_row 48 (.tmp 10) (.tmp 24) rfl B8 (ctlC ⟨d0, d1, d2, d3, d4, d5, d6, d7, d8, d9⟩).toArray rfl rfl 48 (ctlC ctlZ).toArray z8 (sizeC21 _) (sameC21 _ _) (oneC21 _) ?_
                have hn := CB.row21 z8 ⟨d0, d1, d2, d3, d4, d5, d6, d7, d8, d9⟩
                have ho := CB.rowOther21 z7 (b := B8) (by omega) ⟨d0, d1, d2, d3, d4, d5, d6, d7, d8, d9⟩
                have hS2 := below_setRow hHeld hB8 (ctlC ⟨d0, d1, d2, d3, d4, d5, d6, d7, d8, d9⟩).toArray
                clear z7 z8
                have z8 := hn
                have z7 := ho
                clear hn ho
                clear hHeld
                refine hK.out _ _ hS2 (fun hHeld => ?_)
                clear hK K hS2
                try simp only [Act.put]
                try simp only [List.setIfInBounds_toArray]
                try simp only [List.set]
                refine wpAnyH_done (by kernel_rfl) ?_ _
                go_wp2_with fail
                go_meet
                exact ⟨B7, B8, _, rfl, rfl, rfl, Lib.hid ⟨z7, z8, hHeld⟩⟩
    · go_simp
      have hl : Aft Wd (Wd.alloc (.cells (ctlC ctlZ).toArray 48)) := (Aft.refl _).alloc _
      have hn : CB (Wd.alloc (.cells (ctlC ctlZ).toArray 48)) Wd.heap.size ctlZ := heap_alloc_new Wd _
      have hS2 := Aft.trans hHeld hl
      have hB7 : W.heap.size ≤ Wd.heap.size := hHeld.size
      obtain ⟨u7, hu⟩ : ∃ u, Wd.alloc (.cells (ctlC ctlZ).toArray 48) = u := ⟨_, rfl⟩
      rw [hu] at hn hS2
      rw [show Wd.alloc (.cells #[.bool false, .bool false, .bool false, .bool false, .bool false, .bool false, .int .i64 0, .int .i64 0, .int .i64 0, .int .i64 0] 48) = u7 from hu]
      clear hu hl
      generalize Wd.heap.size = B7 at hn hB7 ⊢
      have z7 := hn
      clear hn
      clear hHeld
      refine hK.out _ _ hS2 (fun hHeld => ?_)
      clear hK K hS2
      try simp only [Act.put]
      try simp only [List.setIfInBounds_toArray]
      try simp only [List.set]
      refine wpAnyH_ready (rs := [3, 8]) (by kernel_rfl) (by simp) ?_
      refine (AllReadyH.cons (o := { dst := some 21, op := Go.Op.call { callee := Go.Callee.value (Go.Operand.func 24), args := #[Go.Operand.tmp 20], argTypes := #[22] }, type := 48, pos := _, after := _, guard := _ }) rfl (fun K hK => ?_) (AllReadyH.cons (o := { dst := some 10, op := Go.Op.alloc 48, type := 0, pos := _, after := _, guard := _ }) rfl (fun K hK => ?_) AllReadyH.nil))
      · go_simp
        go_at_call 24
        refine (HOS.out _ (RS.out.aft hHeld)).mono ?_
        rintro e w3 ⟨rfl, ha⟩
        have hS2 := Aft.trans hHeld ha
        have z := CB.aft z7 ha
        clear z7
        have z7 := z
        clear z
        clear ha
        clear hHeld
        refine hK.out _ _ hS2 (fun hHeld => ?_)
        clear hK K hS2
        try simp only [Act.put]
        try simp only [List.setIfInBounds_toArray]
        try simp only [List.set]
        refine wpAnyH_ready (rs := [6, 8]) (by kernel_rfl) (by simp) ?_
        refine (AllReadyH.cons (o := { dst := some 24, op := Go.Op.call { callee := Go.Callee.value (Go.Operand.func 24), args := #[Go.Operand.tmp 23], argTypes := #[22] }, type := 48, pos := _, after := _, guard := _ }) rfl (fun K hK => ?_) (AllReadyH.cons (o := { dst := some 10, op := Go.Op.alloc 48, type := 0, pos := _, after := _, guard := _ }) rfl (fun K hK => ?_) AllReadyH.nil))
        · go_simp
          go_at_call 24
          refine (HOQ.out _ (RQ.out.aft hHeld)).mono ?_
          rintro e w6 ⟨rfl, ha⟩
          have hS2 := Aft.trans hHeld ha
          have z := CB.aft z7 ha
          clear z7
          have z7 := z
          clear z
          clear ha
          clear hHeld
          refine hK.out _ _ hS2 (fun hHeld => ?_)
          clear hK K hS2
          try simp only [Act.put]
          try simp only [List.setIfInBounds_toArray]
          try simp only [List.set]
          refine wpAnyH_ready (rs := [8]) (by kernel_rfl) (by simp) ?_
          refine (AllReadyH.cons (o := { dst := some 10, op := Go.Op.alloc 48, type := 0, pos := _, after := _, guard := _ }) rfl (fun K hK => ?_) AllReadyH.nil)
          · go_simp
            have hl : Aft w6 (w6.alloc (.cells (ctlC ctlZ).toArray 48)) := (Aft.refl _).alloc _
            have hn : CB (w6.alloc (.cells (ctlC ctlZ).toArray 48)) w6.heap.size ctlZ := heap_alloc_new w6 _
            have hS2 := Aft.trans hHeld hl
            have hB8 : W.heap.size ≤ w6.heap.size := hHeld.size
            have hne : B7 ≠ w6.heap.size := by have := CB.lt z7; omega
            have z := CB.aft z7 hl
            clear z7
            have z7 := z
            clear z
            obtain ⟨u8, hu⟩ : ∃ u, w6.alloc (.cells (ctlC ctlZ).toArray 48) = u := ⟨_, rfl⟩
            rw [hu] at hn hS2 z7
            rw [show w6.alloc (.cells #[.bool false, .bool false, .bool false, .bool false, .bool false, .bool false, .int .i64 0, .int .i64 0, .int .i64 0, .int .i64 0] 48) = u8 from hu]
            clear hu hl
            generalize w6.heap.size = B8 at hn hB8 hne ⊢
            have z8 := hn
            clear hn
            clear hHeld
            refine hK.out _ _ hS2 (fun hHeld => ?_)
            clear hK K hS2
            try simp only [Act.put]
            try simp only [List.setIfInBounds_toArray]
            try simp only [List.set]
            refine wpAnyH_ready (rs := [9]) (by kernel_rfl) (by simp) ?_
            refine (AllReadyH.cons (o := { dst := none, op := Go.Op.store 48 (Go.Operand.tmp 9) (Go.Operand.tmp 21), type := 0, pos := _, after := _, guard := _ }) rfl (fun K hK => ?_) AllReadyH.nil)
            · rw [if_pos (by rfl)]
              refine wp_store_row 48 (.tmp 9) (.tmp 21) rfl B7 (ctlC ⟨c0, c1, c2, c3, c4, c5, c6, c7, c8, c9⟩).toArray rfl rfl 48 (ctlC ctlZ).toArray z7 (sizeC21 _) (sameC21 _ _) (oneC21 _) ?_
              have hn := CB.row21 z7 ⟨c0, c1, c2, c3, c4, c5, c6, c7, c8, c9⟩
              have ho := CB.rowOther21 z8 (b := B7) (by omega) ⟨c0, c1, c2, c3, c4, c5, c6, c7, c8, c9⟩
              have hS2 := below_setRow hHeld hB7 (ctlC ⟨c0, c1, c2, c3, c4, c5, c6, c7, c8, c9⟩).toArray
              clear z7 z8
              have z7 := hn
              have z8 := ho
              clear hn ho
              clear hHeld
              refine hK.out _ _ hS2 (fun hHeld => ?_)
              clear hK K hS2
              try simp only [Act.put]
              try simp only [List.setIfInBounds_toArray]
              try simp only [List.set]
              refine wpAnyH_ready (rs := [10]) (by kernel_rfl) (by simp) ?_
              refine (AllReadyH.cons (o := { dst := none, op := Go.Op.store 48 (Go.Operand.tmp 10) (Go.Operand.tmp 24), type := 0, pos := _, after := _, guard := _ }) rfl (fun K hK => ?_) AllReadyH.nil)
              · rw [if_pos (by rfl)]
                refine wp_store_row 48 (.tmp 10) (.tmp 24) rfl B8 (ctlC ⟨d0, d1, d2, d3, d4, d5, d6, d7, d8, d9⟩).toArray rfl rfl 48 (ctlC ctlZ).toArray z8 (sizeC21 _) (sameC21 _ _) (oneC21 _) ?_
                have hn := CB.row21 z8 ⟨d0, d1, d2, d3, d4, d5, d6, d7, d8, d9⟩
                have ho := CB.rowOther21 z7 (b := B8) (by omega) ⟨d0, d1, d2, d3, d4, d5, d6, d7, d8, d9⟩
                have hS2 := below_setRow hHeld hB8 (ctlC ⟨d0, d1, d2, d3, d4, d5, d6, d7, d8, d9⟩).toArray
                clear z7 z8
                have z8 := hn
                have z7 := ho
                clear hn ho
                clear hHeld
                refine hK.out _ _ hS2 (fun hHeld => ?_)
                clear hK K hS2
                try simp only [Act.put]
                try simp only [List.setIfInBounds_toArray]
                try simp only [List.set]
                refine wpAnyH_done (by kernel_rfl) ?_ _
                go_wp2_with fail
                go_meet
                exact ⟨B7, B8, _, rfl, rfl, rfl, Lib.hid ⟨z7, z8, hHeld⟩⟩
        · go_simp
          have hl : Aft w3 (w3.alloc (.cells (ctlC ctlZ).toArray 48)) := (Aft.refl _).alloc _
          have hn : CB (w3.alloc (.cells (ctlC ctlZ).toArray 48)) w3.heap.size ctlZ := heap_alloc_new w3 _
          have hS2 := Aft.trans hHeld hl
          have hB8 : W.heap.size ≤ w3.heap.size := hHeld.size
          have hne : B7 ≠ w3.heap.size := by have := CB.lt z7; omega
          have z := CB.aft z7 hl
          clear z7
          have z7 := z
          clear z
          obtain ⟨u8, hu⟩ : ∃ u, w3.alloc (.cells (ctlC ctlZ).toArray 48) = u := ⟨_, rfl⟩
          rw [hu] at hn hS2 z7
          rw [show w3.alloc (.cells #[.bool false, .bool false, .bool false, .bool false, .bool false, .bool false, .int .i64 0, .int .i64 0, .int .i64 0, .int .i64 0] 48) = u8 from hu]
          clear hu hl
          generalize w3.heap.size = B8 at hn hB8 hne ⊢
          have z8 := hn
          clear hn
          clear hHeld
          refine hK.out _ _ hS2 (fun hHeld => ?_)
          clear hK K hS2
          try simp only [Act.put]
          try simp only [List.setIfInBounds_toArray]
          try simp only [List.set]
          refine wpAnyH_ready (rs := [6]) (by kernel_rfl) (by simp) ?_
          refine (AllReadyH.cons (o := { dst := some 24, op := Go.Op.call { callee := Go.Callee.value (Go.Operand.func 24), args := #[Go.Operand.tmp 23], argTypes := #[22] }, type := 48, pos := _, after := _, guard := _ }) rfl (fun K hK => ?_) AllReadyH.nil)
          · go_simp
            go_at_call 24
            refine (HOQ.out _ (RQ.out.aft hHeld)).mono ?_
            rintro e w6 ⟨rfl, ha⟩
            have hS2 := Aft.trans hHeld ha
            have z := CB.aft z7 ha
            clear z7
            have z7 := z
            clear z
            have z := CB.aft z8 ha
            clear z8
            have z8 := z
            clear z
            clear ha
            clear hHeld
            refine hK.out _ _ hS2 (fun hHeld => ?_)
            clear hK K hS2
            try simp only [Act.put]
            try simp only [List.setIfInBounds_toArray]
            try simp only [List.set]
            refine wpAnyH_ready (rs := [9]) (by kernel_rfl) (by simp) ?_
            refine (AllReadyH.cons (o := { dst := none, op := Go.Op.store 48 (Go.Operand.tmp 9) (Go.Operand.tmp 21), type := 0, pos := _, after := _, guard := _ }) rfl (fun K hK => ?_) AllReadyH.nil)
            · rw [if_pos (by rfl)]
              refine wp_store_row 48 (.tmp 9) (.tmp 21) rfl B7 (ctlC ⟨c0, c1, c2, c3, c4, c5, c6, c7, c8, c9⟩).toArray rfl rfl 48 (ctlC ctlZ).toArray z7 (sizeC21 _) (sameC21 _ _) (oneC21 _) ?_
              have hn := CB.row21 z7 ⟨c0, c1, c2, c3, c4, c5, c6, c7, c8, c9⟩
              have ho := CB.rowOther21 z8 (b := B7) (by omega) ⟨c0, c1, c2, c3, c4, c5, c6, c7, c8, c9⟩
              have hS2 := below_setRow hHeld hB7 (ctlC ⟨c0, c1, c2, c3, c4, c5, c6, c7, c8, c9⟩).toArray
              clear z7 z8
              have z7 := hn
              have z8 := ho
              clear hn ho
              clear hHeld
              refine hK.out _ _ hS2 (fun hHeld => ?_)
              clear hK K hS2
              try simp only [Act.put]
              try simp only [List.setIfInBounds_toArray]
              try simp only [List.set]
              refine wpAnyH_ready (rs := [10]) (by kernel_rfl) (by simp) ?_
              refine (AllReadyH.cons (o := { dst := none, op := Go.Op.store 48 (Go.Operand.tmp 10) (Go.Operand.tmp 24), type := 0, pos := _, after := _, guard := _ }) rfl (fun K hK => ?_) AllReadyH.nil)
              · rw [if_pos (by rfl)]
                refine wp_store_row 48 (.tmp 10) (.tmp 24) rfl B8 (ctlC ⟨d0, d1, d2, d3, d4, d5, d6, d7, d8, d9⟩).toArray rfl rfl 48 (ctlC ctlZ).toArray z8 (sizeC21 _) (sameC21 _ _) (oneC21 _) ?_
                have hn := CB.row21 z8 ⟨d0, d1, d2, d3, d4, d5, d6, d7, d8, d9⟩
                have ho := CB.rowOther21 z7 (b := B8) (by omega) ⟨d0, d1, d2, d3, d4, d5, d6, d7, d8, d9⟩
                have hS2 := below_setRow hHeld hB8 (ctlC ⟨d0, d1, d2, d3, d4, d5, d6, d7, d8, d9⟩).toArray
                clear z7 z8
                have z8 := hn
                have z7 := ho
                clear hn ho
                clear hHeld
                refine hK.out _ _ hS2 (fun hHeld => ?_)
                clear hK K hS2
                try simp only [Act.put]
                try simp only [List.setIfInBounds_toArray]
                try simp only [List.set]
                refine wpAnyH_done (by kernel_rfl) ?_ _
                go_wp2_with fail
                go_meet
                exact ⟨B7, B8, _, rfl, rfl, rfl, Lib.hid ⟨z7, z8, hHeld⟩⟩
      · go_simp
        have hl : Aft u7 (u7.alloc (.cells (ctlC ctlZ).toArray 48)) := (Aft.refl _).alloc _
        have hn : CB (u7.alloc (.cells (ctlC ctlZ).toArray 48)) u7.heap.size ctlZ := heap_alloc_new u7 _
        have hS2 := Aft.trans hHeld hl
        have hB8 : W.heap.size ≤ u7.heap.size := hHeld.size
        have hne : B7 ≠ u7.heap.size := by have := CB.lt z7; omega
        have z := CB.aft z7 hl
        clear z7
        have z7 := z
        clear z
        obtain ⟨u8, hu⟩ : ∃ u, u7.alloc (.cells (ctlC ctlZ).toArray 48) = u := ⟨_, rfl⟩
        rw [hu] at hn hS2 z7
        rw [show u7.alloc (.cells #[.bool false, .bool false, .bool false, .bool false, .bool false, .bool false, .int .i64 0, .int .i64 0, .int .i64 0, .int .i64 0] 48) = u8 from hu]
        clear hu hl
        generalize u7.heap.size = B8 at hn hB8 hne ⊢
        have z8 := hn
        clear hn
        clear hHeld
        refine hK.out _ _ hS2 (fun hHeld => ?_)
        clear hK K hS2
        try simp only [Act.put]
        try simp only [List.setIfInBounds_toArray]
        try simp only [List.set]
        refine wpAnyH_ready (rs := [3]) (by kernel_rfl) (by simp) ?_
        refine (AllReadyH.cons (o := { dst := some 21, op := Go.Op.call { callee := Go.Callee.value (Go.Operand.func 24), args := #[Go.Operand.tmp 20], argTypes := #[22] }, type := 48, pos := _, after := _, guard := _ }) rfl (fun K hK => ?_) AllReadyH.nil)
        · go_simp
          go_at_call 24
          refine (HOS.out _ (RS.out.aft hHeld)).mono ?_
          rintro e w3 ⟨rfl, ha⟩
          have hS2 := Aft.trans hHeld ha
          have z := CB.aft z7 ha
          clear z7
          have z7 := z
          clear z
          have z := CB.aft z8 ha
          clear z8
          have z8 := z
          clear z
          clear ha
          clear hHeld
          refine hK.out _ _ hS2 (fun hHeld => ?_)
          clear hK K hS2
          try simp only [Act.put]
          try simp only [List.setIfInBounds_toArray]
          try simp only [List.set]
          refine wpAnyH_ready (rs := [6]) (by kernel_rfl) (by simp) ?_
          refine (AllReadyH.cons (o := { dst := some 24, op := Go.Op.call { callee := Go.Callee.value (Go.Operand.func 24), args := #[Go.Operand.tmp 23], argTypes := #[22] }, type := 48, pos := _, after := _, guard := _ }) rfl (fun K hK => ?_) AllReadyH.nil)
          · go_simp
            go_at_call 24
            refine (HOQ.out _ (RQ.out.aft hHeld)).mono ?_
            rintro e w6 ⟨rfl, ha⟩
            have hS2 := Aft.trans hHeld ha
            have z := CB.aft z7 ha
            clear z7
            have z7 := z
            clear z
            have z := CB.aft z8 ha
            clear z8
            have z8 := z
            clear z
            clear ha
            clear hHeld
            refine hK.out _ _ hS2 (fun hHeld => ?_)
            clear hK K hS2
            try simp only [Act.put]
            try simp only [List.setIfInBounds_toArray]
            try simp only [List.set]
            refine wpAnyH_ready (rs := [9]) (by kernel_rfl) (by simp) ?_
            refine (AllReadyH.cons (o := { dst := none, op := Go.Op.store 48 (Go.Operand.tmp 9) (Go.Operand.tmp 21), type := 0, pos := _, after := _, guard := _ }) rfl (fun K hK => ?_) AllReadyH.nil)
            · rw [if_pos (by rfl)]
              refine wp_store_row 48 (.tmp 9) (.tmp 21) rfl B7 (ctlC ⟨c0, c1, c2, c3, c4, c5, c6, c7, c8, c9⟩).toArray rfl rfl 48 (ctlC ctlZ).toArray z7 (sizeC21 _) (sameC21 _ _) (oneC21 _) ?_
              have hn := CB.row21 z7 ⟨c0, c1, c2, c3, c4, c5, c6, c7, c8, c9⟩
              have ho := CB.rowOther21 z8 (b := B7) (by omega) ⟨c0, c1, c2, c3, c4, c5, c6, c7, c8, c9⟩
              have hS2 := below_setRow hHeld hB7 (ctlC ⟨c0, c1, c2, c3, c4, c5, c6, c7, c8, c9⟩).toArray
              clear z7 z8
              have z7 := hn
              have z8 := ho
              clear hn ho
              clear hHeld
              refine hK.out _ _ hS2 (fun hHeld => ?_)
              clear hK K hS2
              try simp only [Act.put]
              try simp only [List.setIfInBounds_toArray]
              try simp only [List.set]
              refine wpAnyH_ready (rs := [10]) (by kernel_rfl) (by simp) ?_
              refine (AllReadyH.cons (o := { dst := none, op := Go.Op.store 48 (Go.Operand.tmp 10) (Go.Operand.tmp 24), type := 0, pos := _, after := _, guard := _ }) rfl (fun K hK => ?_) AllReadyH.nil)
              · rw [if_pos (by rfl)]
                refine wp_store_row 48 (.tmp 10) (.tmp 24) rfl B8 (ctlC ⟨d0, d1, d2, d3, d4, d5, d6, d7, d8, d9⟩).toArray rfl rfl 48 (ctlC ctlZ).toArray z8 (sizeC21 _) (sameC21 _ _) (oneC21 _) ?_
                have hn := CB.row21 z8 ⟨d0, d1, d2, d3, d4, d5, d6, d7, d8, d9⟩
                have ho := CB.rowOther21 z7 (b := B8) (by omega) ⟨d0, d1, d2, d3, d4, d5, d6, d7, d8, d9⟩
                have hS2 := below_setRow hHeld hB8 (ctlC ⟨d0, d1, d2, d3, d4, d5, d6, d7, d8, d9⟩).toArray
                clear z7 z8
                have z8 := hn
                have z7 := ho
                clear hn ho
                clear hHeld
                refine hK.out _ _ hS2 (fun hHeld => ?_)
                clear hK K hS2
                try simp only [Act.put]
                try simp only [List.setIfInBounds_toArray]
                try simp only [List.set]
                refine wpAnyH_done (by kernel_rfl) ?_ _
                go_wp2_with fail
                go_meet
                exact ⟨B7, B8, _, rfl, rfl, rfl, Lib.hid ⟨z7, z8, hHeld⟩⟩
    · go_simp
      have hl : Aft Wd (Wd.alloc (.cells (ctlC ctlZ).toArray 48)) := (Aft.refl _).alloc _
      have hn : CB (Wd.alloc (.cells (ctlC ctlZ).toArray 48)) Wd.heap.size ctlZ := heap_alloc_new Wd _
      have hS2 := Aft.trans hHeld hl
      have hB8 : W.heap.size ≤ Wd.heap.size := hHeld.size
      obtain ⟨u8, hu⟩ : ∃ u, Wd.alloc (.cells (ctlC ctlZ).toArray 48) = u := ⟨_, rfl⟩
      rw [hu] at hn hS2
      rw [show Wd.alloc (.cells #[.bool false, .bool false, .bool false, .bool false, .bool false, .bool false, .int .i64 0, .int .i64 0, .int .i64 0, .int .i64 0] 48) = u8 from hu]
      clear hu hl
      generalize Wd.heap.size = B8 at hn hB8 ⊢
      have z8 := hn
      clear hn
      clear hHeld
      refine hK.out _ _ hS2 (fun hHeld => ?_)
      clear hK K hS2
      try simp only [Act.put]
      try simp only [List.setIfInBounds_toArray]
      try simp only [List.set]
      refine wpAnyH_ready (rs := [3, 7]) (by kernel_rfl) (by simp) ?_
      refine (AllReadyH.cons (o := { dst := some 21, op := Go.Op.call { callee := Go.Callee.value (Go.Operand.func 24), args := #[Go.Operand.tmp 20], argTypes := #[22] }, type := 48, pos := _, after := _, guard := _ }) rfl (fun K hK => ?_) (AllReadyH.cons (o := { dst := some 9, op := Go.Op.alloc 48, type := 0, pos := _, after := _, guard := _ }) rfl (fun K hK => ?_) AllReadyH.nil))
      · go_simp
        go_at_call 24
        refine (HOS.out _ (RS.out.aft hHeld)).mono ?_
        rintro e w3 ⟨rfl, ha⟩
        have hS2 := Aft.trans hHeld ha
        have z := CB.aft z8 ha
        clear z8
        have z8 := z
        clear z
        clear ha
        clear hHeld
        refine hK.out _ _ hS2 (fun hHeld => ?_)
        clear hK K hS2
        try simp only [Act.put]
        try simp only [List.setIfInBounds_toArray]
        try simp only [List.set]
        refine wpAnyH_ready (rs := [6, 7]) (by kernel_rfl) (by simp) ?_
        refine (AllReadyH.cons (o := { dst := some 24, op := Go.Op.call { callee := Go.Callee.value (Go.Operand.func 24), args := #[Go.Operand.tmp 23], argTypes := #[22] }, type := 48, pos := _, after := _, guard := _ }) rfl (fun K hK => ?_) (AllReadyH.cons (o := { dst := some 9, op := Go.Op.alloc 48, type := 0, pos := _, after := _, guard := _ }) rfl (fun K hK => ?_) AllReadyH.nil))
        · go_simp
          go_at_call 24
          refine (HOQ.out _ (RQ.out.aft hHeld)).mono ?_
          rintro e w6 ⟨rfl, ha⟩
          have hS2 := Aft.trans hHeld ha
          have z := CB.aft z8 ha
          clear z8
          have z8 := z
          clear z
          clear ha
          clear hHeld
          refine hK.out _ _ hS2 (fun hHeld => ?_)
          clear hK K hS2
          try simp only [Act.put]
          try simp only [List.setIfInBounds_toArray]
          try simp only [List.set]
          refine wpAnyH_ready (rs := [7]) (by kernel_rfl) (by simp) ?_
          refine (AllReadyH.cons (o := { dst := some 9, op := Go.Op.alloc 48, type := 0, pos := _, after := _, guard := _ }) rfl (fun K hK => ?_) AllReadyH.nil)
          · go_simp
            have hl : Aft w6 (w6.alloc (.cells (ctlC ctlZ).toArray 48)) := (Aft.refl _).alloc _
            have hn : CB (w6.alloc (.cells (ctlC ctlZ).toArray 48)) w6.heap.size ctlZ := heap_alloc_new w6 _
            have hS2 := Aft.trans hHeld hl
            have hB7 : W.heap.size ≤ w6.heap.size := hHeld.size
            have hne : B8 ≠ w6.heap.size := by have := CB.lt z8; omega
            have z := CB.aft z8 hl
            clear z8
            have z8 := z
            clear z
            obtain ⟨u7, hu⟩ : ∃ u, w6.alloc (.cells (ctlC ctlZ).toArray 48) = u := ⟨_, rfl⟩
            rw [hu] at hn hS2 z8
            rw [show w6.alloc (.cells #[.bool false, .bool false, .bool false, .bool false, .bool false, .bool false, .int .i64 0, .int .i64 0, .int .i64 0, .int .i64 0] 48) = u7 from hu]
            clear hu hl
            generalize w6.heap.size = B7 at hn hB7 hne ⊢
            have z7 := hn
            clear hn
            clear hHeld
            refine hK.out _ _ hS2 (fun hHeld => ?_)
            clear hK K hS2
            try simp only [Act.put]
            try simp only [List.setIfInBounds_toArray]
            try simp only [List.set]
            refine wpAnyH_ready (rs := [9]) (by kernel_rfl) (by simp) ?_
            refine (AllReadyH.cons (o := { dst := none, op := Go.Op.store 48 (Go.Operand.tmp 9) (Go.Operand.tmp 21), type := 0, pos := _, after := _, guard := _ }) rfl (fun K hK => ?_) AllReadyH.nil)
            · rw [if_pos (by rfl)]
              refine wp_store_row 48 (.tmp 9) (.tmp 21) rfl B7 (ctlC ⟨c0, c1, c2, c3, c4, c5, c6, c7, c8, c9⟩).toArray rfl rfl 48 (ctlC ctlZ).toArray z7 (sizeC21 _) (sameC21 _ _) (oneC21 _) ?_
              have hn := CB.row21 z7 ⟨c0, c1, c2, c3, c4, c5, c6, c7, c8, c9⟩
              have ho := CB.rowOther21 z8 (b := B7) (by omega) ⟨c0, c1, c2, c3, c4, c5, c6, c7, c8, c9⟩
              have hS2 := below_setRow hHeld hB7 (ctlC ⟨c0, c1, c2, c3, c4, c5, c6, c7, c8, c9⟩).toArray
              clear z7 z8
              have z7 := hn
              have z8 := ho
              clear hn ho
              clear hHeld
              refine hK.out _ _ hS2 (fun hHeld => ?_)
              clear hK K hS2
              try simp only [Act.put]
              try simp only [List.setIfInBounds_toArray]
              try simp only [List.set]
              refine wpAnyH_ready (rs := [10]) (by kernel_rfl) (by simp) ?_
              refine (AllReadyH.cons (o := { dst := none, op := Go.Op.store 48 (Go.Operand.tmp 10) (Go.Operand.tmp 24), type := 0, pos := _, after := _, guard := _ }) rfl (fun K hK => ?_) AllReadyH.nil)
              · rw [if_pos (by rfl)]
                refine wp_store_row 48 (.tmp 10) (.tmp 24) rfl B8 (ctlC ⟨d0, d1, d2, d3, d4, d5, d6, d7, d8, d9⟩).toArray rfl rfl 48 (ctlC ctlZ).toArray z8 (sizeC21 _) (sameC21 _ _) (oneC21 _) ?_
                have hn := CB.row21 z8 ⟨d0, d1, d2, d3, d4, d5, d6, d7, d8, d9⟩
                have ho := CB.rowOther21 z7 (b := B8) (by omega) ⟨d0, d1, d2, d3, d4, d5, d6, d7, d8, d9⟩
                have hS2 := below_setRow hHeld hB8 (ctlC ⟨d0, d1, d2, d3, d4, d5, d6, d7, d8, d9⟩).toArray
                clear z7 z8
                have z8 := hn
                have z7 := ho
                clear hn ho
                clear hHeld
                refine hK.out _ _ hS2 (fun hHeld => ?_)
                clear hK K hS2
                try simp only [Act.put]
                try simp only [List.setIfInBounds_toArray]
                try simp only [List.set]
                refine wpAnyH_done (by kernel_rfl) ?_ _
                go_wp2_with fail
                go_meet
                exact ⟨B7, B8, _, rfl, rfl, rfl, Lib.hid ⟨z7, z8, hHeld⟩⟩
        · go_simp
          have hl : Aft w3 (w3.alloc (.cells (ctlC ctlZ).toArray 48)) := (Aft.refl _).alloc _
          have hn : CB (w3.alloc (.cells (ctlC ctlZ).toArray 48)) w3.heap.size ctlZ := heap_alloc_new w3 _
          have hS2 := Aft.trans hHeld hl
          have hB7 : W.heap.size ≤ w3.heap.size := hHeld.size
          have hne : B8 ≠ w3.heap.size := by have := CB.lt z8; omega
          have z := CB.aft z8 hl
          clear z8
          have z8 := z
          clear z
          obtain ⟨u7, hu⟩ : ∃ u, w3.alloc (.cells (ctlC ctlZ).toArray 48) = u := ⟨_, rfl⟩
          rw [hu] at hn hS2 z8
          rw [show w3.alloc (.cells #[.bool false, .bool false, .bool false, .bool false, .bool false, .bool false, .int .i64 0, .int .i64 0, .int .i64 0, .int .i64 0] 48) = u7 from hu]
          clear hu hl
          generalize w3.heap.size = B7 at hn hB7 hne ⊢
          have z7 := hn
          clear hn
          clear hHeld
          refine hK.out _ _ hS2 (fun hHeld => ?_)
          clear hK K hS2
          try simp only [Act.put]
          try simp only [List.setIfInBounds_toArray]
          try simp only [List.set]
          refine wpAnyH_ready (rs := [6]) (by kernel_rfl) (by simp) ?_
          refine (AllReadyH.cons (o := { dst := some 24, op := Go.Op.call { callee := Go.Callee.value (Go.Operand.func 24), args := #[Go.Operand.tmp 23], argTypes := #[22] }, type := 48, pos := _, after := _, guard := _ }) rfl (fun K hK => ?_) AllReadyH.nil)
          · go_simp
            go_at_call 24
            refine (HOQ.out _ (RQ.out.aft hHeld)).mono ?_
            rintro e w6 ⟨rfl, ha⟩
            have hS2 := Aft.trans hHeld ha
            have z := CB.aft z7 ha
            clear z7
            have z7 := z
            clear z
            have z := CB.aft z8 ha
            clear z8
            have z8 := z
            clear z
            clear ha
            clear hHeld
            refine hK.out _ _ hS2 (fun hHeld => ?_)
            clear hK K hS2
            try simp only [Act.put]
            try simp only [List.setIfInBounds_toArray]
            try simp only [List.set]
            refine wpAnyH_ready (rs := [9]) (by kernel_rfl) (by simp) ?_
            refine (AllReadyH.cons (o := { dst := none, op := Go.Op.store 48 (Go.Operand.tmp 9) (Go.Operand.tmp 21), type := 0, pos := _, after := _, guard := _ }) rfl (fun K hK => ?_) AllReadyH.nil)
            · rw [if_pos (by rfl)]
              refine wp_store_row 48 (.tmp 9) (.tmp 21) rfl B7 (ctlC ⟨c0, c1, c2, c3, c4, c5, c6, c7, c8, c9⟩).toArray rfl rfl 48 (ctlC ctlZ).toArray z7 (sizeC21 _) (sameC21 _ _) (oneC21 _) ?_
              have hn := CB.row21 z7 ⟨c0, c1, c2, c3, c4, c5, c6, c7, c8, c9⟩
              have ho := CB.rowOther21 z8 (b := B7) (by omega) ⟨c0, c1, c2, c3, c4, c5, c6, c7, c8, c9⟩
              have hS2 := below_setRow hHeld hB7 (ctlC ⟨c0, c1, c2, c3, c4, c5, c6, c7, c8, c9⟩).toArray
              clear z7 z8
              have z7 := hn
              have z8 := ho
              clear hn ho
              clear hHeld
              refine hK.out _ _ hS2 (fun hHeld => ?_)
              clear hK K hS2
              try simp only [Act.put]
              try simp only [List.setIfInBounds_toArray]
              try simp only [List.set]
              refine wpAnyH_ready (rs := [10]) (by kernel_rfl) (by simp) ?_
              refine (AllReadyH.cons (o := { dst := none, op := Go.Op.store 48 (Go.Operand.tmp 10) (Go.Operand.tmp 24), type := 0, pos := _, after := _, guard := _ }) rfl (fun K hK => ?_) AllReadyH.nil)
              · rw [if_pos (by rfl)]
                refine wp_store_row 48 (.tmp 10) (.tmp 24) rfl B8 (ctlC ⟨d0, d1, d2, d3, d4, d5, d6, d7, d8, d9⟩).toArray rfl rfl 48 (ctlC ctlZ).toArray z8 (sizeC21 _) (sameC21 _ _) (oneC21 _) ?_
                have hn := CB.row21 z8 ⟨d0, d1, d2, d3, d4, d5, d6, d7, d8, d9⟩
                have ho := CB.rowOther21 z7 (b := B8) (by omega) ⟨d0, d1, d2, d3, d4, d5, d6, d7, d8, d9⟩
                have hS2 := below_setRow hHeld hB8 (ctlC ⟨d0, d1, d2, d3, d4, d5, d6, d7, d8, d9⟩).toArray
                clear z7 z8
                have z8 := hn
                have z7 := ho
                clear hn ho
                clear hHeld
                refine hK.out _ _ hS2 (fun hHeld => ?_)
                clear hK K hS2
                try simp only [Act.put]
                try simp only [List.setIfInBounds_toArray]
                try simp only [List.set]
                refine wpAnyH_done (by kernel_rfl) ?_ _
                go_wp2_with fail
                go_meet
                exact ⟨B7, B8, _, rfl, rfl, rfl, Lib.hid ⟨z7, z8, hHeld⟩⟩
      · go_simp
        have hl : Aft u8 (u8.alloc (.cells (ctlC ctlZ).toArray 48)) := (Aft.refl _).alloc _
        have hn : CB (u8.alloc (.cells (ctlC ctlZ).toArray 48)) u8.heap.size ctlZ := heap_alloc_new u8 _
        have hS2 := Aft.trans hHeld hl
        have hB7 : W.heap.size ≤ u8.heap.size := hHeld.size
        have hne : B8 ≠ u8.heap.size := by have := CB.lt z8; omega
        have z := CB.aft z8 hl
        clear z8
        have z8 := z
        clear z
        obtain ⟨u7, hu⟩ : ∃ u, u8.alloc (.cells (ctlC ctlZ).toArray 48) = u := ⟨_, rfl⟩
        rw [hu] at hn hS2 z8
        rw [show u8.alloc (.cells #[.bool false, .bool false, .bool false, .bool false, .bool false, .bool false, .int .i64 0, .int .i64 0, .int .i64 0, .int .i64 0] 48) = u7 from hu]
        clear hu hl
        generalize u8.heap.size = B7 at hn hB7 hne ⊢
        have z7 := hn
        clear hn
        clear hHeld
        refine hK.out _ _ hS2 (fun hHeld => ?_)
        clear hK K hS2
        try simp only [Act.put]
        try simp only [List.setIfInBounds_toArray]
        try simp only [List.set]
        refine wpAnyH_ready (rs := [3]) (by kernel_rfl) (by simp) ?_
        refine (AllReadyH.cons (o := { dst := some 21, op := Go.Op.call { callee := Go.Callee.value (Go.Operand.func 24), args := #[Go.Operand.tmp 20], argTypes := #[22] }, type := 48, pos := _, after := _, guard := _ }) rfl (fun K hK => ?_) AllReadyH.nil)
        · go_simp
          go_at_call 24
          refine (HOS.out _ (RS.out.aft hHeld)).mono ?_
          rintro e w3 ⟨rfl, ha⟩
          have hS2 := Aft.trans hHeld ha
          have z := CB.aft z7 ha
          clear z7
          have z7 := z
          clear z
          have z := CB.aft z8 ha
          clear z8
          have z8 := z
          clear z
          clear ha
          clear hHeld
          refine hK.out _ _ hS2 (fun hHeld => ?_)
          clear hK K hS2
          try simp only [Act.put]
          try simp only [List.setIfInBounds_toArray]
          try simp only [List.set]
          refine wpAnyH_ready (rs := [6]) (by kernel_rfl) (by simp) ?_
          refine (AllReadyH.cons (o := { dst := some 24, op := Go.Op.call { callee := Go.Callee.value (Go.Operand.func 24), args := #[Go.Operand.tmp 23], argTypes := #[22] }, type := 48, pos := _, after := _, guard := _ }) rfl (fun K hK => ?_) AllReadyH.nil)
          · go_simp
            go_at_call 24
            refine (HOQ.out _ (RQ.out.aft hHeld)).mono ?_
            rintro e w6 ⟨rfl, ha⟩
            have hS2 := Aft.trans hHeld ha
            have z := CB.aft z7 ha
            clear z7
            have z7 := z
            clear z
            have z := CB.aft z8 ha
            clear z8
            have z8 := z
            clear z
            clear ha
            clear hHeld
            refine hK.out _ _ hS2 (fun hHeld => ?_)
            clear hK K hS2
            try simp only [Act.put]
            try simp only [List.setIfInBounds_toArray]
            try simp only [List.set]
            refine wpAnyH_ready (rs := [9]) (by kernel_rfl) (by simp) ?_
            refine (AllReadyH.cons (o := { dst := none, op := Go.Op.store 48 (Go.Operand.tmp 9) (Go.Operand.tmp 21), type := 0, pos := _, after := _, guard := _ }) rfl (fun K hK => ?_) AllReadyH.nil)
            · rw [if_pos (by rfl)]
              refine wp_store_row 48 (.tmp 9) (.tmp 21) rfl B7 (ctlC ⟨c0, c1, c2, c3, c4, c5, c6, c7, c8, c9⟩).toArray rfl rfl 48 (ctlC ctlZ).toArray z7 (sizeC21 _) (sameC21 _ _) (oneC21 _) ?_
              have hn := CB.row21 z7 ⟨c0, c1, c2, c3, c4, c5, c6, c7, c8, c9⟩
              have ho := CB.rowOther21 z8 (b := B7) (by omega) ⟨c0, c1, c2, c3, c4, c5, c6, c7, c8, c9⟩
              have hS2 := below_setRow hHeld hB7 (ctlC ⟨c0, c1, c2, c3, c4, c5, c6, c7, c8, c9⟩).toArray
              clear z7 z8
              have z7 := hn
              have z8 := ho
              clear hn ho
              clear hHeld
              refine hK.out _ _ hS2 (fun hHeld => ?_)
              clear hK K hS2
              try simp only [Act.put]
              try simp only [List.setIfInBounds_toArray]
              try simp only [List.set]
              refine wpAnyH_ready (rs := [10]) (by kernel_rfl) (by simp) ?_
              refine (AllReadyH.cons (o := { dst := none, op := Go.Op.store 48 (Go.Operand.tmp 10) (Go.Operand.tmp 24), type := 0, pos := _, after := _, guard := _ }) rfl (fun K hK => ?_) AllReadyH.nil)
              · rw [if_pos (by rfl)]
                refine wp_store_row 48 (.tmp 10) (.tmp 24) rfl B8 (ctlC ⟨d0, d1, d2, d3, d4, d5, d6, d7, d8, d9⟩).toArray rfl rfl 48 (ctlC ctlZ).toArray z8 (sizeC21 _) (sameC21 _ _) (oneC21 _) ?_
                have hn := CB.row21 z8 ⟨d0, d1, d2, d3, d4, d5, d6, d7, d8, d9⟩
                have ho := CB.rowOther21 z7 (b := B8) (by omega) ⟨d0, d1, d2, d3, d4, d5, d6, d7, d8, d9⟩
                have hS2 := below_setRow hHeld hB8 (ctlC ⟨d0, d1, d2, d3, d4, d5, d6, d7, d8, d9⟩).toArray
                clear z7 z8
                have z8 := hn
                have z7 := ho
                clear hn ho
                clear hHeld
                refine hK.out _ _ hS2 (fun hHeld => ?_)
                clear hK K hS2
                try simp only [Act.put]
                try simp only [List.setIfInBounds_toArray]
                try simp only [List.set]
                refine wpAnyH_done (by kernel_rfl) ?_ _
                go_wp2_with fail
                go_meet
                exact ⟨B7, B8, _, rfl, rfl, rfl, Lib.hid ⟨z7, z8, hHeld⟩⟩
  case rest =>
    obtain ⟨B7, B8, U, hU, rfl, rfl, HCUT⟩ := hcut
    subst hU
    have HU := Lib.hid HCUT.out.2.2
    have HC7 := Lib.hid HCUT.out.1
    have HC8 := Lib.hid HCUT.out.2.1
    clear HCUT
    have HBU := Lib.hid (HB.out.aft HU.out)
    have RSU := Lib.hid (RS.out.aft HU.out)
    have HAU := Lib.hid (HA.out.trans HU.out)
    have RQU := Lib.hid (RQ.out.aft HU.out)
    have HCU := Lib.hid (HC.out.aft HU.out)
    clear HB RS HA RQ HC
    have y4 := HCU.out.cell HQ.out
    go_wp2_with fail
    refine (HHS.out _ RQU.out).mono ?_
    rintro e w3 ⟨rfl, a3⟩
    have HB3 := Lib.hid (HBU.out.aft a3)
    have RS3 := Lib.hid (RSU.out.aft a3)
    have HA3 := Lib.hid (HAU.out.trans a3)
    have RQ3 := Lib.hid (RQU.out.aft a3)
    have HC3 := Lib.hid (HCU.out.aft a3)
    have HC73 := Lib.hid (HC7.out.aft a3)
    have HC83 := Lib.hid (HC8.out.aft a3)
    clear a3 y4 HBU RSU HAU RQU HCU HC7 HC8 HU HHS
    go_upto_if 28 with fail
    go_cut [11] (fun v11 wx => ∃ W4 : World, W4 = wx ∧ v11 = .bool un ∧ Hid (Aft w3 wx))
    case first =>
      have y4 := HC3.out.cell HQ.out
      cases hs1
      rotate_left
      · have HU2 : Hid (un = false) := Lib.hid HUNS.out
        go_wp2_with fail
        go_meet
        exact ⟨_, rfl, by rw [HU2.out], Lib.hid (Aft.refl _)⟩
      · have HU2 : Hid (un = hasNC ps) := Lib.hid HUNS.out
        go_wp2_with fail
        refine (HPA.out _ RQ3.out).mono ?_
        rintro e w4 ⟨v', rfl, ho, a4⟩
        obtain ⟨a, g2, K, rfl, m1, m2, q1, r1⟩ := ho.form
        have hpc : PCells w4 g2 ps := r1
        have HQP := Lib.hid q1
        have HPC := Lib.hid hpc
        have HA4 := Lib.hid a4
        unfold maxLen at m2
        clear y4 ho q1 r1 hpc a4
        go_wp2_with fail
        go_loop [11, 13] (fun vb vi => ∃ k : Nat, k ≤ ps.length ∧ vi = .int .i64 (k : Int) ∧ vb = .bool (hasNC (ps.take k))) (fun _ vi => ps.length - (intOf vi).toNat)
        case atStart => exact ⟨0, by omega, by go_num, rfl⟩
        case round =>
          obtain ⟨k, hk, rfl, rfl⟩ := hrel
          by_cases hlt : k < ps.length
          · have hne : ps ≠ [] := by intro e; rw [e] at hlt; simp at hlt
            obtain ⟨rfl, hg2⟩ := HQP.out hne
            have hx := HPC.out k hlt
            have HT3 := Lib.hid (hasNC_next hlt)
            generalize ps[k] = p at hx HT3
            obtain ⟨pn, pv, ph⟩ := p
            obtain ⟨x0, x1, x2⟩ := hx
            unfold strV at x0 x1
            simp only at x0 x1 x2 HT3
            have hkl : (k : Int) < (ps.length : Int) := by omega
            generalize hasNC (ps.take k) = b0 at HT3 ⊢
            clear x1 x2 hne hg2
            cases b0
            · cases hq : (pn == nNoCache)
              · rw [hq] at HT3
                have en : ((⟨pn.toArray⟩ : ByteArray).toList == nNoCache) = false := by rw [Lib.toList_data]; exact hq
                unfold nNoCache at en
                clear hq
                generalize (⟨pn.toArray⟩ : ByteArray) = N at x0 en
                go_wp2_with fail
                go_round
                case rel => exact ⟨k + 1, by omega, by go_num, by rw [HT3.out]; rfl⟩
                case measure => simp [intOf]; omega
              · rw [hq] at HT3
                have en : ((⟨pn.toArray⟩ : ByteArray).toList == nNoCache) = true := by rw [Lib.toList_data]; exact hq
                unfold nNoCache at en
                clear hq
                generalize (⟨pn.toArray⟩ : ByteArray) = N at x0 en
                go_wp2_with fail
                go_round
                case rel => exact ⟨k + 1, by omega, by go_num, by rw [HT3.out]; rfl⟩
                case measure => simp [intOf]; omega
            · go_wp2_with fail
              go_round
              case rel => exact ⟨k + 1, by omega, by go_num, by rw [HT3.out]; rfl⟩
              case measure => simp [intOf]; omega
          · have hkk : ps.take k = ps := List.take_of_length_le (by omega)
            have HKK := Lib.hid hkk
            have i1 : ¬ (k : Int) < (ps.length : Int) := by omega
            clear hkk
            go_wp2_with fail
            go_meet
            exact ⟨_, rfl, by rw [HU2.out, HKK.out], HA4⟩
    case rest =>
      obtain ⟨W4, hW4, rfl, HA4⟩ := hcut
      subst hW4
      have HB4 := Lib.hid (HB3.out.aft HA4.out)
      have RS4 := Lib.hid (RS3.out.aft HA4.out)
      have HA44 := Lib.hid (HA3.out.trans HA4.out)
      have HC74 := Lib.hid (HC73.out.aft HA4.out)
      have HC84 := Lib.hid (HC83.out.aft HA4.out)
      clear HB3 RS3 HA3 RQ3 HC3 HC73 HC83 HA4
      go_upto_region 9 with fail
      have A5 := (Aft.refl W4).drew
      have D5 := Lib.hid A5
      refine wp_region_held_drew (S := fun w' => EB w' g R ∧ RbF w' (.slice as_ ls.length cs) ls) (by kernel_rfl) ⟨HB4.out.aft D5.out, RS4.out.aft D5.out⟩ (fun hHeld => ?_)
      refine wpAnyH_take (i := 0) (oi := { dst := some 47, op := Go.Op.load 28 (Go.Operand.tmp 4), type := 28, pos := _, after := _, guard := _ }) (v := ?_) rfl (by kernel_rfl) (by kernel_rfl) (by kernel_rfl) (fun _ _ _ h => h) (Or.inl ⟨by rfl, ?_⟩) (by exact hHeld) ?_
      rotate_left
      · intro w hSw; refine exec_load _ (.tmp 4) ?_ g ?_ R (hSw.1.load HR.out) <;> rfl
      try simp only [Act.put]
      try simp only [List.setIfInBounds_toArray]
      try simp only [List.set]
      refine wpAnyH_take (i := 1) (oi := { dst := some 48, op := Go.Op.move (Go.Operand.tmp 2), type := 3, pos := _, after := _, guard := _ }) (v := ?_) rfl (by kernel_rfl) (by kernel_rfl) (by kernel_rfl) (fun _ _ _ h => h) (Or.inl ⟨by rfl, ?_⟩) (by exact hHeld) ?_
      rotate_left
      · intro w hSw; go_simp; try with_reducible rfl
      try simp only [Act.put]
      try simp only [List.setIfInBounds_toArray]
      try simp only [List.set]
      refine wpAnyH_take (i := 3) (oi := { dst := some 50, op := Go.Op.load 28 (Go.Operand.tmp 4), type := 28, pos := _, after := _, guard := _ }) (v := ?_) rfl (by kernel_rfl) (by kernel_rfl) (by kernel_rfl) (fun _ _ _ h => h) (Or.inl ⟨by rfl, ?_⟩) (by exact hHeld) ?_
      rotate_left
      · intro w hSw; refine exec_load _ (.tmp 4) ?_ g ?_ R (hSw.1.load HR.out) <;> rfl
      try simp only [Act.put]
      try simp only [List.setIfInBounds_toArray]
      try simp only [List.set]
      refine wpAnyH_take (i := 4) (oi := { dst := some 51, op := Go.Op.move (Go.Operand.tmp 3), type := 29, pos := _, after := _, guard := _ }) (v := ?_) rfl (by kernel_rfl) (by kernel_rfl) (by kernel_rfl) (fun _ _ _ h => h) (Or.inl ⟨by rfl, ?_⟩) (by exact hHeld) ?_
      rotate_left
      · intro w hSw; go_simp; try with_reducible rfl
      try simp only [Act.put]
      try simp only [List.setIfInBounds_toArray]
      try simp only [List.set]
      refine wpAnyH_ready (rs := [2]) (by kernel_rfl) (by simp) ?_
      refine AllReadyH.cons (o := { dst := some 49, op := Go.Op.call { callee := Go.Callee.value (Go.Operand.func 18), args := #[Go.Operand.tmp 47, Go.Operand.tmp 48], argTypes := #[28, 3] }, type := 3, pos := _, after := _, guard := _ }) rfl (fun K hK => ?_) AllReadyH.nil
      go_simp
      go_at_call 18
      refine (HAG.out _ hHeld.2).mono ?_
      rintro e w6 ⟨rfl, a6⟩
      have hS2 := And.intro (hHeld.1.aft a6) (hHeld.2.aft a6)
      have A6 := Aft.trans A5 a6
      clear A5
      have A5 := A6
      clear A6 a6
      clear hHeld
      refine hK.out _ _ hS2 (fun hHeld => ?_)
      clear hK K hS2
      try simp only [Act.put]
      try simp only [List.setIfInBounds_toArray]
      try simp only [List.set]
      refine wpAnyH_ready (rs := [5]) (by kernel_rfl) (by simp) ?_
      refine AllReadyH.cons (o := { dst := some 52, op := Go.Op.call { callee := Go.Callee.value (Go.Operand.func 17), args := #[Go.Operand.tmp 50, Go.Operand.tmp 51], argTypes := #[28, 29] }, type := 3, pos := _, after := _, guard := _ }) rfl (fun K hK => ?_) AllReadyH.nil
      go_simp
      go_at_call 17
      refine (HLF.out _ hHeld.2).mono ?_
      rintro e w6 ⟨rfl, a6⟩
      have hS2 := And.intro (hHeld.1.aft a6) (hHeld.2.aft a6)
      have A6 := Aft.trans A5 a6
      clear A5
      have A5 := A6
      clear A6 a6
      clear hHeld
      refine hK.out _ _ hS2 (fun hHeld => ?_)
      clear hK K hS2
      try simp only [Act.put]
      try simp only [List.setIfInBounds_toArray]
      try simp only [List.set]
      refine wpAnyH_take (i := 6) (oi := { dst := some 14, op := Go.Op.assign (Go.Operand.tmp 49), type := 3, pos := _, after := _, guard := _ }) (v := ?_) rfl (by kernel_rfl) (by kernel_rfl) (by kernel_rfl) (fun _ _ _ h => h) (Or.inl ⟨by rfl, ?_⟩) (by exact hHeld) ?_
      rotate_left
      · intro w hSw; go_simp; try with_reducible rfl
      try simp only [Act.put]
      try simp only [List.setIfInBounds_toArray]
      try simp only [List.set]
      refine wpAnyH_take (i := 7) (oi := { dst := some 15, op := Go.Op.assign (Go.Operand.tmp 52), type := 3, pos := _, after := _, guard := _ }) (v := ?_) rfl (by kernel_rfl) (by kernel_rfl) (by kernel_rfl) (fun _ _ _ h => h) (Or.inl ⟨by rfl, ?_⟩) (by exact hHeld) ?_
      rotate_left
      · intro w hSw; go_simp; try with_reducible rfl
      try simp only [Act.put]
      try simp only [List.setIfInBounds_toArray]
      try simp only [List.set]
      refine wpAnyH_done (by kernel_rfl) ?_ _
      have HA7 := Lib.hid (HA44.out.trans A5)
      have HC77 := Lib.hid (HC74.out.aft A5)
      have HC87 := Lib.hid (HC84.out.aft A5)
      clear hHeld A5 D5 HB4 RS4 HA44 HC74 HC84
      obtain ⟨p0, p1, p2, p3, p4, p5, p6, p7, p8, p9⟩ := CB.cells HC77.out
      obtain ⟨q0, q1, q2, q3, q4, q5, q6, q7, q8, q9⟩ := CB.cells HC87.out
      obtain ⟨b1, b2, b3, b4, b5, b6⟩ := HOK.out
      have gw1 : IntKind.i64.wrap (life - age) = life - age := IntWalk.i64_in _ (by omega)
      have gw2 : IntKind.i64.wrap (age - life) = age - life := IntWalk.i64_in _ (by omega)
      clear b1 b2 b3 b4 b5 b6
      cases d5
      all_goals
        cases c1
        rotate_left
        · have HT2 : Hid (false = T) := Lib.hid HT.out
          go_wp2_with fail
          go_ret
          exact ⟨ret_int (by have h := HRR.out; rw [← HT2.out] at h; exact h), HA7.out⟩
        cases d1
        rotate_left
        · have HT2 : Hid (false = T) := Lib.hid HT.out
          go_wp2_with fail
          go_ret
          exact ⟨ret_int (by have h := HRR.out; rw [← HT2.out] at h; exact h), HA7.out⟩
        cases un
        rotate_left
        · have HT2 : Hid (false = T) := Lib.hid HT.out
          go_wp2_with fail
          go_ret
          exact ⟨ret_int (by have h := HRR.out; rw [← HT2.out] at h; exact h), HA7.out⟩
        have HTV : Hid ((if 0 ≤ d6 ∧ d6 < age then false else if age < life then decide (d9 ≤ life - age) else decide (0 ≤ d8 ∧ age - life ≤ d8 ∧ c4 = false ∧ c7 < 0 ∧ d9 < 0)) = T) := Lib.hid HT.out
        by_cases hm : 0 ≤ d6 ∧ d6 < age
        · have HT2 : Hid (false = T) := Lib.hid ((if_pos hm).symm.trans HTV.out)
          obtain ⟨hm1, hm2⟩ := hm
          have hm3 : ¬ d6 < 0 := by omega
          have hm4 : ¬ age ≤ d6 := by omega
          clear hm1 hm2
          go_wp2_with fail
          all_goals
            go_ret
            exact ⟨ret_int (by have h := HRR.out; rw [← HT2.out] at h; exact h), HA7.out⟩
        have HTW := Lib.hid ((if_neg hm).symm.trans HTV.out)
        clear HTV
        have hm2 : (¬ d6 < 0 ∧ age ≤ d6) ∨ d6 < 0 := by omega
        clear hm
        rcases hm2 with ⟨hm3, hm4⟩ | hm3
        all_goals
          by_cases hl : age < life
          · have HTX : Hid (decide (d9 ≤ life - age) = T) := Lib.hid ((if_pos hl).symm.trans HTW.out)
            by_cases hf : d9 ≥ 0
            · by_cases hg : life - age ≥ d9
              · have HT2 : Hid (true = T) := Lib.hid ((decide_eq_true hg).symm.trans HTX.out)
                go_wp2_with fail
                all_goals
                  go_ret
                  exact ⟨ret_int (by have h := HRR.out; rw [← HT2.out] at h; exact h), HA7.out⟩
              · have HT2 : Hid (false = T) := Lib.hid ((decide_eq_false hg).symm.trans HTX.out)
                go_wp2_with fail
                all_goals
                  go_ret
                  exact ⟨ret_int (by have h := HRR.out; rw [← HT2.out] at h; exact h), HA7.out⟩
            · have HT2 : Hid (true = T) := Lib.hid ((decide_eq_true (by omega)).symm.trans HTX.out)
              go_wp2_with fail
              all_goals
                go_ret
                exact ⟨ret_int (by have h := HRR.out; rw [← HT2.out] at h; exact h), HA7.out⟩
          have HTX := Lib.hid ((if_neg hl).symm.trans HTW.out)
          by_cases h8 : d8 ≥ 0
          rotate_left
          · have HT2 : Hid (false = T) := Lib.hid ((decide_eq_false (fun h => h8 h.1)).symm.trans HTX.out)
            go_wp2_with fail
            all_goals
              go_ret
              exact ⟨ret_int (by have h := HRR.out; rw [← HT2.out] at h; exact h), HA7.out⟩
          cases c4
          rotate_left
          · have HT2 : Hid (false = T) := Lib.hid ((decide_eq_false (fun h => by cases h.2.2.1)).symm.trans HTX.out)
            go_wp2_with fail
            all_goals
              go_ret
              exact ⟨ret_int (by have h := HRR.out; rw [← HT2.out] at h; exact h), HA7.out⟩
          by_cases h7 : c7 < 0
          rotate_left
          · have HT2 : Hid (false = T) := Lib.hid ((decide_eq_false (fun h => h7 h.2.2.2.1)).symm.trans HTX.out)
            go_wp2_with fail
            all_goals
              go_ret
              exact ⟨ret_int (by have h := HRR.out; rw [← HT2.out] at h; exact h), HA7.out⟩
          by_cases h9 : age - life ≤ d8
          rotate_left
          · have HT2 : Hid (false = T) := Lib.hid ((decide_eq_false (fun h => h9 h.2.1)).symm.trans HTX.out)
            go_wp2_with fail
            all_goals
              go_ret
              exact ⟨ret_int (by have h := HRR.out; rw [← HT2.out] at h; exact h), HA7.out⟩
          by_cases hf : d9 < 0
          rotate_left
          · have HT2 : Hid (false = T) := Lib.hid ((decide_eq_false (fun h => hf h.2.2.2.2)).symm.trans HTX.out)
            go_wp2_with fail
            all_goals
              go_ret
              exact ⟨ret_int (by have h := HRR.out; rw [← HT2.out] at h; exact h), HA7.out⟩
          have HT2 : Hid (true = T) := Lib.hid ((decide_eq_true ⟨h8, h9, rfl, h7, hf⟩).symm.trans HTX.out)
          go_wp2_with fail
          all_goals
            go_ret
            exact ⟨ret_int (by have h := HRR.out; rw [← HT2.out] at h; exact h), HA7.out⟩
end Go.Proofs.Ytdcdckjdloddiaa
