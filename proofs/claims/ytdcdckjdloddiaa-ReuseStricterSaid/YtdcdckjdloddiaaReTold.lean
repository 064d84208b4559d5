/-
  The walk of reuse.told.
-/
import Derived.Test.YtdcdckjdloddiaaReUns
namespace Go.Proofs.Ytdcdckjdloddiaa
open Go.RowKit
set_option linter.unusedVariables false

theorem CB.row21 {w : World} {g : Nat} {d : Ctl} (h : CB w g d) (c : Ctl) : CB (w.setRow g (ctlC c).toArray) g c := setRow_heap w g _ _ 48 (0, 0) h
theorem CB.rowOther21 {w : World} {g : Nat} {d : Ctl} (h : CB w g d) {b : Nat} (hb : b ≠ g) (c : Ctl) : CB (w.setRow b (ctlC c).toArray) g d := by
  unfold CB
  rw [setRow_other w b g _ (by omega)]
  exact h
theorem sizeC21 (c : Ctl) : (Try.prog.info? 48).map (·.size) = some (ctlC c).toArray.size := by rw [sizeCtl]; rfl
theorem sameC21 (c d : Ctl) : (ctlC c).toArray.size = (ctlC d).toArray.size := rfl
theorem oneC21 (c : Ctl) : (ctlC c).toArray.all (·.oneCell') = true := by simp [ctlC, Value.oneCell']
theorem box2_aft (w : World) (R Q : Array Value) : Aft w ((w.alloc (.cells R 28)).alloc (.cells Q 24)) ∧ EB ((w.alloc (.cells R 28)).alloc (.cells Q 24)) w.heap.size R ∧ Q6 ((w.alloc (.cells R 28)).alloc (.cells Q 24)) (w.heap.size + 1) Q := by
  refine ⟨((Aft.refl w).alloc _).alloc _, EB.aft (heap_alloc_new w _) ((Aft.refl _).alloc _), ?_⟩
  have := heap_alloc_new (w.alloc (.cells R 28)) (.cells Q 24)
  rw [World.size_alloc] at this
  exact this

set_option maxHeartbeats 16000000 in
set_option maxRecDepth 100000 in
theorem told21_any (R Q : Array Value) (st : Int) (vs vq : Value) (ask ca now : Int) (x : Nat) (ls lq : List FieldL) (w : World) (hR : EntR R st vs ask ca) (hQ : ReqR Q vq) (hs : RbF w vs ls) (hq : RbF w vq lq) (ks : FOk ls) (kq : FOk lq) :
    Calls Try.prog 51 #[.agg R, .agg Q, .int .i64 now, .float .f64 x] w fun e w' => e = .returned (.bool (toldB (ctlF ls) (ctlF lq) (unsF lq) (ageF ls ask ca now) (lifeF st ls ca x))) ∧ Aft w w' := by
  have HOS := Lib.hid (fun w h => of_ctl vs ls w h ks.len (ks.join nCC))
  have HOQ := Lib.hid (fun w h => of_ctl vq lq w h kq.len (kq.join nCC))
  have HUN := Lib.hid (fun w h => unsure_any Q vq lq w hQ h kq)
  have HAG := Lib.hid (fun w h => age_any R st vs ask ca now ls w hR h ks)
  have HLF := Lib.hid (fun w h => lifetime_any R st vs ask ca ls x w hR h ks)
  obtain ⟨hA, hB, hC⟩ := box2_aft w R Q
  have HR := Lib.hid hR
  have HQ := Lib.hid hQ
  have HINF := Lib.hid hR.info
  have HINQ := Lib.hid hQ.info
  have RS := Lib.hid (hs.aft hA)
  have RQ := Lib.hid (hq.aft hA)
  have HA := Lib.hid hA
  have HB := Lib.hid hB
  have HC := Lib.hid hC
  obtain ⟨as_, cs, bs, os, hvs, -⟩ := hs.open
  obtain ⟨aq, cq, bq, oq, hvq, -⟩ := hq.open
  have oks := ctlF_ok ls
  have okq := ctlF_ok lq
  have okl := lifeF_bd st ls ca x
  have oka := ageF_bd ls ask ca now
  generalize ctlF ls = c at HOS oks ⊢
  generalize ctlF lq = d at HOQ okq ⊢
  generalize unsF lq = un at HUN ⊢
  generalize ageF ls ask ca now = age at HAG oka ⊢
  generalize lifeF st ls ca x = life at HLF okl ⊢
  obtain ⟨o1, o2, o3, o4⟩ := okq
  obtain ⟨c0, c1, c2, c3, c4, c5, c6, c7, c8, c9⟩ := c
  obtain ⟨d0, d1, d2, d3, d4, d5, d6, d7, d8, d9⟩ := d
  simp only at o1 o2 o3 o4
  obtain ⟨T, hT⟩ : ∃ T, toldB ⟨c0, c1, c2, c3, c4, c5, c6, c7, c8, c9⟩ ⟨d0, d1, d2, d3, d4, d5, d6, d7, d8, d9⟩ un age life = T := ⟨_, rfl⟩
  rw [hT]
  unfold toldB at hT
  simp only at hT
  have HT := Lib.hid hT
  have evc : ctlV ⟨c0, c1, c2, c3, c4, c5, c6, c7, c8, c9⟩ = .agg #[.bool c0, .bool c1, .bool c2, .bool c3, .bool c4, .bool c5, .int .i64 c6, .int .i64 c7, .int .i64 c8, .int .i64 c9] := rfl
  have evd : ctlV ⟨d0, d1, d2, d3, d4, d5, d6, d7, d8, d9⟩ = .agg #[.bool d0, .bool d1, .bool d2, .bool d3, .bool d4, .bool d5, .int .i64 d6, .int .i64 d7, .int .i64 d8, .int .i64 d9] := rfl
  rw [evc] at HOS
  rw [evd] at HOQ
  have HOK := Lib.hid (And.intro o1 (And.intro o2 (And.intro o3 (And.intro o4 (And.intro okl oka)))))
  subst hvs hvq
  clear hA hB hC hs hq hR hQ ks kq oks okl oka o1 o2 o3 o4 evc evd hT
  go_enter Try.func51, Try.ntmps51
  go_upto_region 1 with fail
  generalize (w.alloc (.cells R 28)).alloc (.cells Q 24) = W at HA HB HC RS RQ ⊢
  generalize w.heap.size = g at HB HC ⊢
  go_cut [9, 10] (fun v9 v10 wx => ∃ (B7 B8 : Nat) (U : World), U = wx ∧ v9 = .pointer (some ⟨B7, 0, none⟩) ∧ v10 = .pointer (some ⟨B8, 0, none⟩) ∧ Hid (CB wx B7 ⟨c0, c1, c2, c3, c4, c5, c6, c7, c8, c9⟩ ∧ CB wx B8 ⟨d0, d1, d2, d3, d4, d5, d6, d7, d8, d9⟩ ∧ Aft W wx))
  case first =>
    refine wp_region_held_drew (S := Aft W) (by kernel_rfl) ((Aft.refl W).drew) (fun hHeld => ?_)
    generalize W.drew = Wd at hHeld ⊢
    refine wpAnyH_take (i := 0) (oi := { dst := some 13, op := Go.Op.fieldAddr 28 (Go.Operand.tmp 4) 1, type := 0, pos := _, after := _, guard := _ }) (v := ?_) rfl (by kernel_rfl) (by kernel_rfl) (by kernel_rfl) (fun _ _ _ h => h) (Or.inl ⟨by rfl, ?_⟩) (by exact hHeld) ?_
    rotate_left
    · intro w hSw; go_simp; try with_reducible rfl
    try simp only [Act.put]
    try simp only [List.setIfInBounds_toArray]
    try simp only [List.set]
    refine wpAnyH_take (i := 1) (oi := { dst := some 14, op := Go.Op.fieldAddr 26 (Go.Operand.tmp 13) 1, type := 0, pos := _, after := _, guard := _ }) (v := ?_) rfl (by kernel_rfl) (by kernel_rfl) (by kernel_rfl) (fun _ _ _ h => h) (Or.inl ⟨by rfl, ?_⟩) (by exact hHeld) ?_
    rotate_left
    · intro w hSw; go_simp; try with_reducible rfl
    try simp only [Act.put]
    try simp only [List.setIfInBounds_toArray]
    try simp only [List.set]
    refine wpAnyH_take (i := 2) (oi := { dst := some 15, op := Go.Op.load 22 (Go.Operand.tmp 14), type := 22, pos := _, after := _, guard := _ }) (v := ?_) rfl (by kernel_rfl) (by kernel_rfl) (by kernel_rfl) (fun _ _ _ h => h) (Or.inl ⟨by rfl, ?_⟩) (by exact hHeld) ?_
    rotate_left
    · intro w hSw; have e7 := ((HB.out.aft hSw).cells HR.out).2.1; have y4 := (HC.out.aft hSw).cell HQ.out; go_simp; try with_reducible rfl
    try simp only [Act.put]
    try simp only [List.setIfInBounds_toArray]
    try simp only [List.set]
    refine wpAnyH_take (i := 4) (oi := { dst := some 17, op := Go.Op.fieldAddr 24 (Go.Operand.tmp 5) 4, type := 0, pos := _, after := _, guard := _ }) (v := ?_) rfl (by kernel_rfl) (by kernel_rfl) (by kernel_rfl) (fun _ _ _ h => h) (Or.inl ⟨by rfl, ?_⟩) (by exact hHeld) ?_
    rotate_left
    · intro w hSw; go_simp; try with_reducible rfl
    try simp only [Act.put]
    try simp only [List.setIfInBounds_toArray]
    try simp only [List.set]
    refine wpAnyH_take (i := 5) (oi := { dst := some 18, op := Go.Op.load 22 (Go.Operand.tmp 17), type := 22, pos := _, after := _, guard := _ }) (v := ?_) rfl (by kernel_rfl) (by kernel_rfl) (by kernel_rfl) (fun _ _ _ h => h) (Or.inl ⟨by rfl, ?_⟩) (by exact hHeld) ?_
    rotate_left
    · intro w hSw; have e7 := ((HB.out.aft hSw).cells HR.out).2.1; have y4 := (HC.out.aft hSw).cell HQ.out; go_simp; try with_reducible rfl
    try simp only [Act.put]
    try simp only [List.setIfInBounds_toArray]
    try simp only [List.set]
    refine wpAnyH_ready (rs := [3, 7, 8]) (by kernel_rfl) (by simp) ?_
    refine (AllReadyH.cons (o := { dst := some 16, op := Go.Op.call { callee := Go.Callee.value (Go.Operand.func 35), args := #[Go.Operand.tmp 15], argTypes := #[22] }, type := 48, pos := _, after := _, guard := _ }) rfl (fun K hK => ?_) (AllReadyH.cons (o := { dst := some 9, op := Go.Op.alloc 48, type := 0, pos := _, after := _, guard := _ }) rfl (fun K hK => ?_) (AllReadyH.cons (o := { dst := some 10, op := Go.Op.alloc 48, type := 0, pos := _, after := _, guard := _ }) rfl (fun K hK => ?_) AllReadyH.nil)))
    · go_simp
      go_at_call 35
      refine (HOS.out _ (RS.out.aft hHeld)).mono ?_
      rintro e w3 ⟨rfl, ha⟩
      have hS2 := Aft.trans hHeld ha
      clear ha
      clear hHeld
      refine hK.out _ _ hS2 (fun hHeld => ?_)
      clear hK K hS2
      try simp only [Act.put]
      try simp only [List.setIfInBounds_toArray]
      try simp only [List.set]
      refine wpAnyH_ready (rs := [6, 7, 8]) (by kernel_rfl) (by simp) ?_
      refine (AllReadyH.cons (o := { dst := some 19, op := Go.Op.call { callee := Go.Callee.value (Go.Operand.func 35), args := #[Go.Operand.tmp 18], argTypes := #[22] }, type := 48, pos := _, after := _, guard := _ }) rfl (fun K hK => ?_) (AllReadyH.cons (o := { dst := some 9, op := Go.Op.alloc 48, type := 0, pos := _, after := _, guard := _ }) rfl (fun K hK => ?_) (AllReadyH.cons (o := { dst := some 10, op := Go.Op.alloc 48, type := 0, pos := _, after := _, guard := _ }) rfl (fun K hK => ?_) AllReadyH.nil)))
      · go_simp
        go_at_call 35
        refine (HOQ.out _ (RQ.out.aft hHeld)).mono ?_
        rintro e w6 ⟨rfl, ha⟩
        have hS2 := Aft.trans hHeld ha
        clear ha
        clear hHeld
        refine hK.out _ _ hS2 (fun hHeld => ?_)
        clear hK K hS2
        try simp only [Act.put]
        try simp only [List.setIfInBounds_toArray]
        try simp only [List.set]
        refine wpAnyH_ready (rs := [7, 8]) (by kernel_rfl) (by simp) ?_
        refine (AllReadyH.cons (o := { dst := some 9, op := Go.Op.alloc 48, type := 0, pos := _, after := _, guard := _ }) rfl (fun K hK => ?_) (AllReadyH.cons (o := { dst := some 10, op := Go.Op.alloc 48, type := 0, pos := _, after := _, guard := _ }) rfl (fun K hK => ?_) AllReadyH.nil))
        · go_simp
          have hl : Aft w6 (w6.alloc (.cells (ctlC ctlZ).toArray 48)) := (Aft.refl _).alloc _
          have hn : CB (w6.alloc (.cells (ctlC ctlZ).toArray 48)) w6.heap.size ctlZ := heap_alloc_new w6 _
          have hS2 := Aft.trans hHeld hl
          have hB7 : W.heap.size ≤ w6.heap.size := hHeld.size
          obtain ⟨u7, hu⟩ : ∃ u, w6.alloc (.cells (ctlC ctlZ).toArray 48) = u := ⟨_, rfl⟩
          rw [hu] at hn hS2
          rw [show w6.alloc (.cells #[.bool false, .bool false, .bool false, .bool false, .bool false, .bool false, .int .i64 0, .int .i64 0, .int .i64 0, .int .i64 0] 48) = u7 from hu]
          clear hu hl
          generalize w6.heap.size = B7 at hn hB7 ⊢
          have z7 := hn
          clear hn
          clear hHeld
          refine hK.out _ _ hS2 (fun hHeld => ?_)
          clear hK K hS2
          try simp only [Act.put]
          try simp only [List.setIfInBounds_toArray]
          try simp only [List.set]
          refine wpAnyH_ready (rs := [8]) (by kernel_rfl) (by simp) ?_
          refine (AllReadyH.cons (o := { dst := some 10, op := Go.Op.alloc 48, type := 0, pos := _, after := _, guard := _ }) rfl (fun K hK => ?_) AllReadyH.nil)
          · go_simp
            have hl : Aft u7 (u7.alloc (.cells (ctlC ctlZ).toArray 48)) := (Aft.refl _).alloc _
            have hn : CB (u7.alloc (.cells (ctlC ctlZ).toArray 48)) u7.heap.size ctlZ := heap_alloc_new u7 _
            have hS2 := Aft.trans hHeld hl
            have hB8 : W.heap.size ≤ u7.heap.size := hHeld.size
            have hne : B7 ≠ u7.heap.size := by have := CB.lt z7; omega
            have z := CB.aft z7 hl
            clear z7
            have z7 := z
            clear z
            obtain ⟨u8, hu⟩ : ∃ u, u7.alloc (.cells (ctlC ctlZ).toArray 48) = u := ⟨_, rfl⟩
            rw [hu] at hn hS2 z7
            rw [show u7.alloc (.cells #[.bool false, .bool false, .bool false, .bool false, .bool false, .bool false, .int .i64 0, .int .i64 0, .int .i64 0, .int .i64 0] 48) = u8 from hu]
            clear hu hl
            generalize u7.heap.size = B8 at hn hB8 hne ⊢
            have z8 := hn
            clear hn
            clear hHeld
            refine hK.out _ _ hS2 (fun hHeld => ?_)
            clear hK K hS2
            try simp only [Act.put]
            try simp only [List.setIfInBounds_toArray]
            try simp only [List.set]
            refine wpAnyH_ready (rs := [9]) (by kernel_rfl) (by simp) ?_
            refine (AllReadyH.cons (o := { dst := none, op := Go.Op.store 48 (Go.Operand.tmp 9) (Go.Operand.tmp 16), type := 0, pos := _, after := _, guard := _ }) rfl (fun K hK => ?_) AllReadyH.nil)
            · rw [if_pos (by rfl)]
              refine wp_store_row 48 (.tmp 9) (.tmp 16) rfl B7 (ctlC ⟨c0, c1, c2, c3, c4, c5, c6, c7, c8, c9⟩).toArray rfl rfl 48 (ctlC ctlZ).toArray z7 (sizeC21 _) (sameC21 _ _) (oneC21 _) ?_
              have hn := CB.row21 z7 ⟨c0, c1, c2, c3, c4, c5, c6, c7, c8, c9⟩
              have ho := CB.rowOther21 z8 (b := B7) (by omega) ⟨c0, c1, c2, c3, c4, c5, c6, c7, c8, c9⟩
              have hS2 := below_setRow hHeld hB7 (ctlC ⟨c0, c1, c2, c3, c4, c5, c6, c7, c8, c9⟩).toArray
              clear z7 z8
              have z7 := hn
              have z8 := ho
              clear hn ho
              clear hHeld
              refine hK.out _ _ hS2 (fun hHeld => ?_)
              clear hK K hS2
              try simp only [Act.put]
              try simp only [List.setIfInBounds_toArray]
              try simp only [List.set]
              refine wpAnyH_ready (rs := [10]) (by kernel_rfl) (by simp) ?_
              refine (AllReadyH.cons (o := { dst := none, op := Go.Op.store 48 (Go.Operand.tmp 10) (Go.Operand.tmp 19), type := 0, pos := _, after := _, guard := _ }) rfl (fun K hK => ?_) AllReadyH.nil)
              · rw [if_pos (by rfl)]
                refine wp_store_row 48 (.tmp 10) (.tmp 19) rfl B8 (ctlC ⟨d0, d1, d2, d3, d4, d5, d6, d7, d8, d9⟩).toArray rfl rfl 48 (ctlC ctlZ).toArray z8 (sizeC21 _) (sameC21 _ _) (oneC21 _) ?_
                have hn := CB.row21 z8 ⟨d0, d1, d2, d3, d4, d5, d6, d7, d8, d9⟩
                have ho := CB.rowOther21 z7 (b := B8) (by omega) ⟨d0, d1, d2, d3, d4, d5, d6, d7, d8, d9⟩
                have hS2 := below_setRow hHeld hB8 (ctlC ⟨d0, d1, d2, d3, d4, d5, d6, d7, d8, d9⟩).toArray
                clear z7 z8
                have z8 := hn
                have z7 := ho
                clear hn ho
                clear hHeld
                refine hK.out _ _ hS2 (fun hHeld => ?_)
                clear hK K hS2
                try simp only [Act.put]
                try simp only [List.setIfInBounds_toArray]
                try simp only [List.set]
                refine wpAnyH_done (by kernel_rfl) ?_ _
                go_wp2_with fail
                go_meet
                exact ⟨B7, B8, _, rfl, rfl, rfl, Lib.hid ⟨z7, z8, hHeld⟩⟩
        · go_simp
          have hl : Aft w6 (w6.alloc (.cells (ctlC ctlZ).toArray 48)) := (Aft.refl _).alloc _
          have hn : CB (w6.alloc (.cells (ctlC ctlZ).toArray 48)) w6.heap.size ctlZ := heap_alloc_new w6 _
          have hS2 := Aft.trans hHeld hl
          have hB8 : W.heap.size ≤ w6.heap.size := hHeld.size
          obtain ⟨u8, hu⟩ : ∃ u, w6.alloc (.cells (ctlC ctlZ).toArray 48) = u := ⟨_, rfl⟩
          rw [hu] at hn hS2
          rw [show w6.alloc (.cells #[.bool false, .bool false, .bool false, .bool false, .bool false, .bool false, .int .i64 0, .int .i64 0, .int .i64 0, .int .i64 0] 48) = u8 from hu]
          clear hu hl
          generalize w6.heap.size = B8 at hn hB8 ⊢
          have z8 := hn
          clear hn
          clear hHeld
          refine hK.out _ _ hS2 (fun hHeld => ?_)
          clear hK K hS2
          try simp only [Act.put]
          try simp only [List.setIfInBounds_toArray]
          try simp only [List.set]
          refine wpAnyH_ready (rs := [7]) (by kernel_rfl) (by simp) ?_
          refine (AllReadyH.cons (o := { dst := some 9, op := Go.Op.alloc 48, type := 0, pos := _, after := _, guard := _ }) rfl (fun K hK => ?_) AllReadyH.nil)
          · go_simp
            have hl : Aft u8 (u8.alloc (.cells (ctlC ctlZ).toArray 48)) := (Aft.refl _).alloc _
            have hn : CB (u8.alloc (.cells (ctlC ctlZ).toArray 48)) u8.heap.size ctlZ := heap_alloc_new u8 _
            have hS2 := Aft.trans hHeld hl
            have hB7 : W.heap.size ≤ u8.heap.size := hHeld.size
            have hne : B8 ≠ u8.heap.size := by have := CB.lt z8; omega
            have z := CB.aft z8 hl
            clear z8
            have z8 := z
            clear z
            obtain ⟨u7, hu⟩ : ∃ u, u8.alloc (.cells (ctlC ctlZ).toArray 48) = u := ⟨_, rfl⟩
            rw [hu] at hn hS2 z8
            rw [show u8.alloc (.cells #[.bool false, .bool false, .bool false, .bool false, .bool false, .bool false, .int .i64 0, .int .i64 0, .int .i64 0, .int .i64 0] 48) = u7 from hu]
            clear hu hl
            generalize u8.heap.size = B7 at hn hB7 hne ⊢
            have z7 := hn
            clear hn
            clear hHeld
            refine hK.out _ _ hS2 (fun hHeld => ?_)
            clear hK K hS2
            try simp only [Act.put]
            try simp only [List.setIfInBounds_toArray]
            try simp only [List.set]
            refine wpAnyH_ready (rs := [9]) (by kernel_rfl) (by simp) ?_
            refine (AllReadyH.cons (o := { dst := none, op := Go.Op.store 48 (Go.Operand.tmp 9) (Go.Operand.tmp 16), type := 0, pos := _, after := _, guard := _ }) rfl (fun K hK => ?_) AllReadyH.nil)
            · rw [if_pos (by rfl)]
              refine wp_store_row 48 (.tmp 9) (.tmp 16) rfl B7 (ctlC ⟨c0, c1, c2, c3, c4, c5, c6, c7, c8, c9⟩).toArray rfl rfl 48 (ctlC ctlZ).toArray z7 (sizeC21 _) (sameC21 _ _) (oneC21 _) ?_
              have hn := CB.row21 z7 ⟨c0, c1, c2, c3, c4, c5, c6, c7, c8, c9⟩
              have ho := CB.rowOther21 z8 (b := B7) (by omega) ⟨c0, c1, c2, c3, c4, c5, c6, c7, c8, c9⟩
              have hS2 := below_setRow hHeld hB7 (ctlC ⟨c0, c1, c2, c3, c4, c5, c6, c7, c8, c9⟩).toArray
              clear z7 z8
              have z7 := hn
              have z8 := ho
              clear hn ho
              clear hHeld
              refine hK.out _ _ hS2 (fun hHeld => ?_)
              clear hK K hS2
              try simp only [Act.put]
              try simp only [List.setIfInBounds_toArray]
              try simp only [List.set]
              refine wpAnyH_ready (rs := [10]) (by kernel_rfl) (by simp) ?_
              refine (AllReadyH.cons (o := { dst := none, op := Go.Op.store 48 (Go.Operand.tmp 10) (Go.Operand.tmp 19), type := 0, pos := _, after := _, guard := _ }) rfl (fun K hK => ?_) AllReadyH.nil)
              · rw [if_pos (by rfl)]
                refine wp_store_row 48 (.tmp 10) (.tmp 19) rfl B8 (ctlC ⟨d0, d1, d2, d3, d4, d5, d6, d7, d8, d9⟩).toArray rfl rfl 48 (ctlC ctlZ).toArray z8 (sizeC21 _) (sameC21 _ _) (oneC21 _) ?_
                have hn := CB.row21 z8 ⟨d0, d1, d2, d3, d4, d5, d6, d7, d8, d9⟩
                have ho := CB.rowOther21 z7 (b := B8) (by omega) ⟨d0, d1, d2, d3, d4, d5, d6, d7, d8, d9⟩
                have hS2 := below_setRow hHeld hB8 (ctlC ⟨d0, d1, d2, d3, d4, d5, d6, d7, d8, d9⟩).toArray
                clear z7 z8
                have z8 := hn
                have z7 := ho
                clear hn ho
                clear hHeld
                refine hK.out _ _ hS2 (fun hHeld => ?_)
                clear hK K hS2
                try simp only [Act.put]
                try simp only [List.setIfInBounds_toArray]
                try simp only [List.set]
                refine wpAnyH_done (by kernel_rfl) ?_ _
                go_wp2_with fail
                go_meet
                exact ⟨B7, B8, _, rfl, rfl, rfl, Lib.hid ⟨z7, z8, hHeld⟩⟩
      · go_simp
        have hl : Aft w3 (w3.alloc (.cells (ctlC ctlZ).toArray 48)) := (Aft.refl _).alloc _
        have hn : CB (w3.alloc (.cells (ctlC ctlZ).toArray 48)) w3.heap.size ctlZ := heap_alloc_new w3 _
        have hS2 := Aft.trans hHeld hl
        have hB7 : W.heap.size ≤ w3.heap.size := hHeld.size
        obtain ⟨u7, hu⟩ : ∃ u, w3.alloc (.cells (ctlC ctlZ).toArray 48) = u := ⟨_, rfl⟩
        rw [hu] at hn hS2
        rw [show w3.alloc (.cells #[.bool false, .bool false, .bool false, .bool false, .bool false, .bool false, .int .i64 0, .int .i64 0, .int .i64 0, .int .i64 0] 48) = u7 from hu]
        clear hu hl
        generalize w3.heap.size = B7 at hn hB7 ⊢
        have z7 := hn
        clear hn
        clear hHeld
        refine hK.out _ _ hS2 (fun hHeld => ?_)
        clear hK K hS2
        try simp only [Act.put]
        try simp only [List.setIfInBounds_toArray]
        try simp only [List.set]
        refine wpAnyH_ready (rs := [6, 8]) (by kernel_rfl) (by simp) ?_
        refine (AllReadyH.cons (o := { dst := some 19, op := Go.Op.call { callee := Go.Callee.value (Go.Operand.func 35), args := #[Go.Operand.tmp 18], argTypes := #[22] }, type := 48, pos := _, after := _, guard := _ }) rfl (fun K hK => ?_) (AllReadyH.cons (o := { dst := some 10, op := Go.Op.alloc 48, type := 0, pos := _, after := _, guard := _ }) rfl (fun K hK => ?_) AllReadyH.nil))
        · go_simp
          go_at_call 35
          refine (HOQ.out _ (RQ.out.aft hHeld)).mono ?_
          rintro e w6 ⟨rfl, ha⟩
          have hS2 := Aft.trans hHeld ha
          have z := CB.aft z7 ha
          clear z7
          have z7 := z
          clear z
          clear ha
          clear hHeld
          refine hK.out _ _ hS2 (fun hHeld => ?_)
          clear hK K hS2
          try simp only [Act.put]
          try simp only [List.setIfInBounds_toArray]
          try simp only [List.set]
          refine wpAnyH_ready (rs := [8]) (by kernel_rfl) (by simp) ?_
          refine (AllReadyH.cons (o := { dst := some 10, op := Go.Op.alloc 48, type := 0, pos := _, after := _, guard := _ }) rfl (fun K hK => ?_) AllReadyH.nil)
          · go_simp
            have hl : Aft w6 (w6.alloc (.cells (ctlC ctlZ).toArray 48)) := (Aft.refl _).alloc _
            have hn : CB (w6.alloc (.cells (ctlC ctlZ).toArray 48)) w6.heap.size ctlZ := heap_alloc_new w6 _
            have hS2 := Aft.trans hHeld hl
            have hB8 : W.heap.size ≤ w6.heap.size := hHeld.size
            have hne : B7 ≠ w6.heap.size := by have := CB.lt z7; omega
            have z := CB.aft z7 hl
            clear z7
            have z7 := z
            clear z
            obtain ⟨u8, hu⟩ : ∃ u, w6.alloc (.cells (ctlC ctlZ).toArray 48) = u := ⟨_, rfl⟩
            rw [hu] at hn hS2 z7
            rw [show w6.alloc (.cells #[.bool false, .bool false, .bool false, .bool false, .bool false, .bool false, .int .i64 0, .int .i64 0, .int .i64 0, .int .i64 0] 48) = u8 from hu]
            clear hu hl
            generalize w6.heap.size = B8 at hn hB8 hne ⊢
            have z8 := hn
            clear hn
            clear hHeld
            refine hK.out _ _ hS2 (fun hHeld => ?_)
            clear hK K hS2
            try simp only [Act.put]
            try simp only [List.setIfInBounds_toArray]
            try simp only [List.set]
            refine wpAnyH_ready (rs := [9]) (by kernel_rfl) (by simp) ?_
            refine (AllReadyH.cons (o := { dst := none, op := Go.Op.store 48 (Go.Operand.tmp 9) (Go.Operand.tmp 16), type := 0, pos := _, after := _, guard := _ }) rfl (fun K hK => ?_) AllReadyH.nil)
            · rw [if_pos (by rfl)]
              refine wp_store_row 48 (.tmp 9) (.tmp 16) rfl B7 (ctlC ⟨c0, c1, c2, c3, c4, c5, c6, c7, c8, c9⟩).toArray rfl rfl 48 (ctlC ctlZ).toArray z7 (sizeC21 _) (sameC21 _ _) (oneC21 _) ?_
              have hn := CB.row21 z7 ⟨c0, c1, c2, c3, c4, c5, c6, c7, c8, c9⟩
              have ho := CB.rowOther21 z8 (b := B7) (by omega) ⟨c0, c1, c2, c3, c4, c5, c6, c7, c8, c9⟩
              have hS2 := below_setRow hHeld hB7 (ctlC ⟨c0, c1, c2, c3, c4, c5, c6, c7, c8, c9⟩).toArray
              clear z7 z8
              have z7 := hn
              have z8 := ho
              clear hn ho
              clear hHeld
              refine hK.out _ _ hS2 (fun hHeld => ?_)
              clear hK K hS2
              try simp only [Act.put]
              try simp only [List.setIfInBounds_toArray]
              try simp only [List.set]
              refine wpAnyH_ready (rs := [10]) (by kernel_rfl) (by simp) ?_
              refine (AllReadyH.cons (o := { dst := none, op := Go.Op.store 48 (Go.Operand.tmp 10) (Go.Operand.tmp 19), type := 0, pos := _, after := _, guard := _ }) rfl (fun K hK => ?_) AllReadyH.nil)
              · rw [if_pos (by rfl)]
                refine wp_store_row 48 (.tmp 10) (.tmp 19) rfl B8 (ctlC ⟨d0, d1, d2, d3, d4, d5, d6, d7, d8, d9⟩).toArray rfl rfl 48 (ctlC ctlZ).toArray z8 (sizeC21 _) (sameC21 _ _) (oneC21 _) ?_
                have hn := CB.row21 z8 ⟨d0, d1, d2, d3, d4, d5, d6, d7, d8, d9⟩
                have ho := CB.rowOther21 z7 (b := B8) (by omega) ⟨d0, d1, d2, d3, d4, d5, d6, d7, d8, d9⟩
                have hS2 := below_setRow hHeld hB8 (ctlC ⟨d0, d1, d2, d3, d4, d5, d6, d7, d8, d9⟩).toArray
                clear z7 z8
                have z8 := hn
                have z7 := ho
                clear hn ho
                clear hHeld
                refine hK.out _ _ hS2 (fun hHeld => ?_)
                clear hK K hS2
                try simp only [Act.put]
                try simp only [List.setIfInBounds_toArray]
                try simp only [List.set]
                refine wpAnyH_done (by kernel_rfl) ?_ _
                go_wp2_with fail
                go_meet
                exact ⟨B7, B8, _, rfl, rfl, rfl, Lib.hid ⟨z7, z8, hHeld⟩⟩
        · go_simp
          have hl : Aft u7 (u7.alloc (.cells (ctlC ctlZ).toArray 48)) := (Aft.refl _).alloc _
          have hn : CB (u7.alloc (.cells (ctlC ctlZ).toArray 48)) u7.heap.size ctlZ := heap_alloc_new u7 _
          have hS2 := Aft.trans hHeld hl
          have hB8 : W.heap.size ≤ u7.heap.size := hHeld.size
          have hne : B7 ≠ u7.heap.size := by have := CB.lt z7; omega
          have z := CB.aft z7 hl
          clear z7
          have z7 := z
          clear z
          obtain ⟨u8, hu⟩ : ∃ u, u7.alloc (.cells (ctlC ctlZ).toArray 48) = u := ⟨_, rfl⟩
          rw [hu] at hn hS2 z7
          rw [show u7.alloc (.cells #[.bool false, .bool false, .bool false, .bool false, .bool false, .bool false, .int .i64 0, .int .i64 0, .int .i64 0, .int .i64 0] 48) = u8 from hu]
          clear hu hl
          generalize u7.heap.size = B8 at hn hB8 hne ⊢
          have z8 := hn
          clear hn
          clear hHeld
          refine hK.out _ _ hS2 (fun hHeld => ?_)
          clear hK K hS2
          try simp only [Act.put]
          try simp only [List.setIfInBounds_toArray]
          try simp only [List.set]
          refine wpAnyH_ready (rs := [6]) (by kernel_rfl) (by simp) ?_
          refine (AllReadyH.cons (o := { dst := some 19, op := Go.Op.call { callee := Go.Callee.value (Go.Operand.func 35), args := #[Go.Operand.tmp 18], argTypes := #[22] }, type := 48, pos := _, after := _, guard := _ }) rfl (fun K hK => ?_) AllReadyH.nil)
          · go_simp
            go_at_call 35
            refine (HOQ.out _ (RQ.out.aft hHeld)).mono ?_
            rintro e w6 ⟨rfl, ha⟩
            have hS2 := Aft.trans hHeld ha
            have z := CB.aft z7 ha
            clear z7
            have z7 := z
            clear z
            have z := CB.aft z8 ha
            clear z8
            have z8 := z
            clear z
            clear ha
            clear hHeld
            refine hK.out _ _ hS2 (fun hHeld => ?_)
            clear hK K hS2
            try simp only [Act.put]
            try simp only [List.setIfInBounds_toArray]
            try simp only [List.set]
            refine wpAnyH_ready (rs := [9]) (by kernel_rfl) (by simp) ?_
            refine (AllReadyH.cons (o := { dst := none, op := Go.Op.store 48 (Go.Operand.tmp 9) (Go.Operand.tmp 16), type := 0, pos := _, after := _, guard := _ }) rfl (fun K hK => ?_) AllReadyH.nil)
            · rw [if_pos (by rfl)]
              refine wp_store_row 48 (.tmp 9) (.tmp 16) rfl B7 (ctlC ⟨c0, c1, c2, c3, c4, c5, c6, c7, c8, c9⟩).toArray rfl rfl 48 (ctlC ctlZ).toArray z7 (sizeC21 _) (sameC21 _ _) (oneC21 _) ?_
              have hn := CB.row21 z7 ⟨c0, c1, c2, c3, c4, c5, c6, c7, c8, c9⟩
              have ho := CB.rowOther21 z8 (b := B7) (by omega) ⟨c0, c1, c2, c3, c4, c5, c6, c7, c8, c9⟩
              have hS2 := below_setRow hHeld hB7 (ctlC ⟨c0, c1, c2, c3, c4, c5, c6, c7, c8, c9⟩).toArray
              clear z7 z8
              have z7 := hn
              have z8 := ho
              clear hn ho
              clear hHeld
              refine hK.out _ _ hS2 (fun hHeld => ?_)
              clear hK K hS2
              try simp only [Act.put]
              try simp only [List.setIfInBounds_toArray]
              try simp only [List.set]
              refine wpAnyH_ready (rs := [10]) (by kernel_rfl) (by simp) ?_
              refine (AllReadyH.cons (o := { dst := none, op := Go.Op.store 48 (Go.Operand.tmp 10) (Go.Operand.tmp 19), type := 0, pos := _, after := _, guard := _ }) rfl (fun K hK => ?_) AllReadyH.nil)
              · rw [if_pos (by rfl)]
                refine wp_store_row 48 (.tmp 10) (.tmp 19) rfl B8 (ctlC ⟨d0, d1, d2, d3, d4, d5, d6, d7, d8, d9⟩).toArray rfl rfl 48 (ctlC ctlZ).toArray z8 (sizeC21 _) (sameC21 _ _) (oneC21 _) ?_
                have hn := CB.row21 z8 ⟨d0, d1, d2, d3, d4, d5, d6, d7, d8, d9⟩
                have ho := CB.rowOther21 z7 (b := B8) (by omega) ⟨d0, d1, d2, d3, d4, d5, d6, d7, d8, d9⟩
                have hS2 := below_setRow hHeld hB8 (ctlC ⟨d0, d1, d2, d3, d4, d5, d6, d7, d8, d9⟩).toArray
                clear z7 z8
                have z8 := hn
                have z7 := ho
                clear hn ho
                clear hHeld
                refine hK.out _ _ hS2 (fun hHeld => ?_)
                clear hK K hS2
                try simp only [Act.put]
                try simp only [List.setIfInBounds_toArray]
                try simp only [List.set]
                refine wpAnyH_done (by kernel_rfl) ?_ _
                go_wp2_with fail
                go_meet
                exact ⟨B7, B8, _, rfl, rfl, rfl, Lib.hid ⟨z7, z8, hHeld⟩⟩
      · go_simp
        have hl : Aft w3 (w3.alloc (.cells (ctlC ctlZ).toArray 48)) := (Aft.refl _).alloc _
        have hn : CB (w3.alloc (.cells (ctlC ctlZ).toArray 48)) w3.heap.size ctlZ := heap_alloc_new w3 _
        have hS2 := Aft.trans hHeld hl
        have hB8 : W.heap.size ≤ w3.heap.size := hHeld.size
        obtain ⟨u8, hu⟩ : ∃ u, w3.alloc (.cells (ctlC ctlZ).toArray 48) = u := ⟨_, rfl⟩
        rw [hu] at hn hS2
        rw [show w3.alloc (.cells #[.bool false, .bool false, .bool false, .bool false, .bool false, .bool false, .int .i64 0, .int .i64 0, .int .i64 0, .int .i64 0] 48) = u8 from hu]
        clear hu hl
        generalize w3.heap.size = B8 at hn hB8 ⊢
        have z8 := hn
        clear hn
        clear hHeld
        refine hK.out _ _ hS2 (fun hHeld => ?_)
        clear hK K hS2
        try simp only [Act.put]
        try simp only [List.setIfInBounds_toArray]
        try simp only [List.set]
        refine wpAnyH_ready (rs := [6, 7]) (by kernel_rfl) (by simp) ?_
        refine (AllReadyH.cons (o := { dst := some 19, op := Go.Op.call { callee := Go.Callee.value (Go.Operand.func 35), args := #[Go.Operand.tmp 18], argTypes := #[22] }, type := 48, pos := _, after := _, guard := _ }) rfl (fun K hK => ?_) (AllReadyH.cons (o := { dst := some 9, op := Go.Op.alloc 48, type := 0, pos := _, after := _, guard := _ }) rfl (fun K hK => ?_) AllReadyH.nil))
        · go_simp
          go_at_call 35
          refine (HOQ.out _ (RQ.out.aft hHeld)).mono ?_
          rintro e w6 ⟨rfl, ha⟩
          have hS2 := Aft.trans hHeld ha
          have z := CB.aft z8 ha
          clear z8
          have z8 := z
          clear z
          clear ha
          clear hHeld
          refine hK.out _ _ hS2 (fun hHeld => ?_)
          clear hK K hS2
          try simp only [Act.put]
          try simp only [List.setIfInBounds_toArray]
          try simp only [List.set]
          refine wpAnyH_ready (rs := [7]) (by kernel_rfl) (by simp) ?_
          refine (AllReadyH.cons (o := { dst := some 9, op := Go.Op.alloc 48, type := 0, pos := _, after := _, guard := _ }) rfl (fun K hK => ?_) AllReadyH.nil)
          · go_simp
            have hl : Aft w6 (w6.alloc (.cells (ctlC ctlZ).toArray 48)) := (Aft.refl _).alloc _
            have hn : CB (w6.alloc (.cells (ctlC ctlZ).toArray 48)) w6.heap.size ctlZ := heap_alloc_new w6 _
            have hS2 := Aft.trans hHeld hl
            have hB7 : W.heap.size ≤ w6.heap.size := hHeld.size
            have hne : B8 ≠ w6.heap.size := by have := CB.lt z8; omega
            have z := CB.aft z8 hl
            clear z8
            have z8 := z
            clear z
            obtain ⟨u7, hu⟩ : ∃ u, w6.alloc (.cells (ctlC ctlZ).toArray 48) = u := ⟨_, rfl⟩
            rw [hu] at hn hS2 z8
            rw [show w6.alloc (.cells #[.bool false, .bool false, .bool false, .bool false, .bool false, .bool false, .int .i64 0, .int .i64 0, .int .i64 0, .int .i64 0] 48) = u7 from hu]
            clear hu hl
            generalize w6.heap.size = B7 at hn hB7 hne ⊢
            have z7 := hn
            clear hn
            clear hHeld
            refine hK.out _ _ hS2 (fun hHeld => ?_)
            clear hK K hS2
            try simp only [Act.put]
            try simp only [List.setIfInBounds_toArray]
            try simp only [List.set]
            refine wpAnyH_ready (rs := [9]) (by kernel_rfl) (by simp) ?_
            refine (AllReadyH.cons (o := { dst := none, op := Go.Op.store 48 (Go.Operand.tmp 9) (Go.Operand.tmp 16), type := 0, pos := _, after := _, guard := _ }) rfl (fun K hK => ?_) AllReadyH.nil)
            · rw [if_pos (by rfl)]
              refine wp_store_row 48 (.tmp 9) (.tmp 16) rfl B7 (ctlC ⟨c0, c1, c2, c3, c4, c5, c6, c7, c8, c9⟩).toArray rfl rfl 48 (ctlC ctlZ).toArray z7 (sizeC21 _) (sameC21 _ _) (oneC21 _) ?_
              have hn := CB.row21 z7 ⟨c0, c1, c2, c3, c4, c5, c6, c7, c8, c9⟩
              have ho := CB.rowOther21 z8 (b := B7) (by omega) ⟨c0, c1, c2, c3, c4, c5, c6, c7, c8, c9⟩
              have hS2 := below_setRow hHeld hB7 (ctlC ⟨c0, c1, c2, c3, c4, c5, c6, c7, c8, c9⟩).toArray
              clear z7 z8
              have z7 := hn
              have z8 := ho
              clear hn ho
              clear hHeld
              refine hK.out _ _ hS2 (fun hHeld => ?_)
              clear hK K hS2
              try simp only [Act.put]
              try simp only [List.setIfInBounds_toArray]
              try simp only [List.set]
              refine wpAnyH_ready (rs := [10]) (by kernel_rfl) (by simp) ?_
              refine (AllReadyH.cons (o := { dst := none, op := Go.Op.store 48 (Go.Operand.tmp 10) (Go.Operand.tmp 19), type := 0, pos := _, after := _, guard := _ }) rfl (fun K hK => ?_) AllReadyH.nil)
              · rw [if_pos (by rfl)]
                refine wp_store_row 48 (.tmp 10) (.tmp 19) rfl B8 (ctlC ⟨d0, d1, d2, d3, d4, d5, d6, d7, d8, d9⟩).toArray rfl rfl 48 (ctlC ctlZ).toArray z8 (sizeC21 _) (sameC21 _ _) (oneC21 _) ?_
                have hn := CB.row21 z8 ⟨d0, d1, d2, d3, d4, d5, d6, d7, d8, d9⟩
                have ho := CB.rowOther21 z7 (b := B8) (by omega) ⟨d0, d1, d2, d3, d4, d5, d6, d7, d8, d9⟩
                have hS2 := below_setRow hHeld hB8 (ctlC ⟨d0, d1, d2, d3, d4, d5, d6, d7, d8, d9⟩).toArray
                clear z7 z8
                have z8 := hn
                have z7 := ho
                clear hn ho
                clear hHeld
                refine hK.out _ _ hS2 (fun hHeld => ?_)
                clear hK K hS2
                try simp only [Act.put]
                try simp only [List.setIfInBounds_toArray]
                try simp only [List.set]
                refine wpAnyH_done (by kernel_rfl) ?_ _
                go_wp2_with fail
                go_meet
                exact ⟨B7, B8, _, rfl, rfl, rfl, Lib.hid ⟨z7, z8, hHeld⟩⟩
        · go_simp
          have hl : Aft u8 (u8.alloc (.cells (ctlC ctlZ).toArray 48)) := (Aft.refl _).alloc _
          have hn : CB (u8.alloc (.cells (ctlC ctlZ).toArray 48)) u8.heap.size ctlZ := heap_alloc_new u8 _
          have hS2 := Aft.trans hHeld hl
          have hB7 : W.heap.size ≤ u8.heap.size := hHeld.size
          have hne : B8 ≠ u8.heap.size := by have := CB.lt z8; omega
          have z := CB.aft z8 hl
          clear z8
          have z8 := z
          clear z
          obtain ⟨u7, hu⟩ : ∃ u, u8.alloc (.cells (ctlC ctlZ).toArray 48) = u := ⟨_, rfl⟩
          rw [hu] at hn hS2 z8
          rw [show u8.alloc (.cells #[.bool false, .bool false, .bool false, .bool false, .bool false, .bool false, .int .i64 0, .int .i64 0, .int .i64 0, .int .i64 0] 48) = u7 from hu]
          clear hu hl
          generalize u8.heap.size = B7 at hn hB7 hne ⊢
          have z7 := hn
          clear hn
          clear hHeld
          refine hK.out _ _ hS2 (fun hHeld => ?_)
          clear hK K hS2
          try simp only [Act.put]
          try simp only [List.setIfInBounds_toArray]
          try simp only [List.set]
          refine wpAnyH_ready (rs := [6]) (by kernel_rfl) (by simp) ?_
          refine (AllReadyH.cons (o := { dst := some 19, op := Go.Op.call { callee := Go.Callee.value (Go.Operand.func 35), args := #[Go.Operand.tmp 18], argTypes := #[22] }, type := 48, pos := _, after := _, guard := _ }) rfl (fun K hK => ?_) AllReadyH.nil)
          · go_simp
            go_at_call 35
            refine (HOQ.out _ (RQ.out.aft hHeld)).mono ?_
            rintro e w6 ⟨rfl, ha⟩
            have hS2 := Aft.trans hHeld ha
            have z := CB.aft z7 ha
            clear z7
            have z7 := z
            clear z
            have z := CB.aft z8 ha
            clear z8
            have z8 := z
            clear z
            clear ha
            clear hHeld
            refine hK.out _ _ hS2 (fun hHeld => ?_)
            clear hK K hS2
            try simp only [Act.put]
            try simp only [List.setIfInBounds_toArray]
            try simp only [List.set]
            refine wpAnyH_ready (rs := [9]) (by kernel_rfl) (by simp) ?_
            refine (AllReadyH.cons (o := { dst := none, op := Go.Op.store 48 (Go.Operand.tmp 9) (Go.Operand.tmp 16), type := 0, pos := _, after := _, guard := _ }) rfl (fun K hK => ?_) AllReadyH.nil)
            · rw [if_pos (by rfl)]
              refine wp_store_row 48 (.tmp 9) (.tmp 16) rfl B7 (ctlC ⟨c0, c1, c2, c3, c4, c5, c6, c7, c8, c9⟩).toArray rfl rfl 48 (ctlC ctlZ).toArray z7 (sizeC21 _) (sameC21 _ _) (oneC21 _) ?_
              have hn := CB.row21 z7 ⟨c0, c1, c2, c3, c4, c5, c6, c7, c8, c9⟩
              have ho := CB.rowOther21 z8 (b := B7) (by omega) ⟨c0, c1, c2, c3, c4, c5, c6, c7, c8, c9⟩
              have hS2 := below_setRow hHeld hB7 (ctlC ⟨c0, c1, c2, c3, c4, c5, c6, c7, c8, c9⟩).toArray
              clear z7 z8
              have z7 := hn
              have z8 := ho
              clear hn ho
              clear hHeld
              refine hK.out _ _ hS2 (fun hHeld => ?_)
              clear hK K hS2
              try simp only [Act.put]
              try simp only [List.setIfInBounds_toArray]
              try simp only [List.set]
              refine wpAnyH_ready (rs := [10]) (by kernel_rfl) (by simp) ?_
              refine (AllReadyH.cons (o := { dst := none, op := Go.Op.store 48 (Go.Operand.tmp 10) (Go.Operand.tmp 19), type := 0, pos := _, after := _, guard := _ }) rfl (fun K hK => ?_) AllReadyH.nil)
              · rw [if_pos (by rfl)]
                refine wp_store_row 48 (.tmp 10) (.tmp 19) rfl B8 (ctlC ⟨d0, d1, d2, d3, d4, d5, d6, d7, d8, d9⟩).toArray rfl rfl 48 (ctlC ctlZ).toArray z8 (sizeC21 _) (sameC21 _ _) (oneC21 _) ?_
                have hn := CB.row21 z8 ⟨d0, d1, d2, d3, d4, d5, d6, d7, d8, d9⟩
                have ho := CB.rowOther21 z7 (b := B8) (by omega) ⟨d0, d1, d2, d3, d4, d5, d6, d7, d8, d9⟩
                have hS2 := below_setRow hHeld hB8 (ctlC ⟨d0, d1, d2, d3, d4, d5, d6, d7, d8, d9⟩).toArray
                clear z7 z8
                have z8 := hn
                have z7 := ho
                clear hn ho
                clear hHeld
                refine hK.out _ _ hS2 (fun hHeld => ?_)
                clear hK K hS2
                try simp only [Act.put]
                try simp only [List.setIfInBounds_toArray]
                try simp only [List.set]
                refine wpAnyH_done (by kernel_rfl) ?_ _
                go_wp2_with fail
                go_meet
                exact ⟨B7, B8, _, rfl, rfl, rfl, Lib.hid ⟨z7, z8, hHeld⟩⟩
    · go_simp
      have hl : Aft Wd (Wd.alloc (.cells (ctlC ctlZ).toArray 48)) := (Aft.refl _).alloc _
      have hn : CB (Wd.alloc (.cells (ctlC ctlZ).toArray 48)) Wd.heap.size ctlZ := heap_alloc_new Wd _
      have hS2 := Aft.trans hHeld hl
      have hB7 : W.heap.size ≤ Wd.heap.size := hHeld.size
      obtain ⟨u7, hu⟩ : ∃ u, Wd.alloc (.cells (ctlC ctlZ).toArray 48) = u := ⟨_, rfl⟩
      rw [hu] at hn hS2
      rw [show Wd.alloc (.cells #[.bool false, .bool false, .bool false, .bool false, .bool false, .bool false, .int .i64 0, .int .i64 0, .int .i64 0, .int .i64 0] 48) = u7 from hu]
      clear hu hl
      generalize Wd.heap.size = B7 at hn hB7 ⊢
      have z7 := hn
      clear hn
      clear hHeld
      refine hK.out _ _ hS2 (fun hHeld => ?_)
      clear hK K hS2
      try simp only [Act.put]
      try simp only [List.setIfInBounds_toArray]
      try simp only [List.set]
      refine wpAnyH_ready (rs := [3, 8]) (by kernel_rfl) (by simp) ?_
      refine (AllReadyH.cons (o := { dst := some 16, op := Go.Op.call { callee := Go.Callee.value (Go.Operand.func 35), args := #[Go.Operand.tmp 15], argTypes := #[22] }, type := 48, pos := _, after := _, guard := _ }) rfl (fun K hK => ?_) (AllReadyH.cons (o := { dst := some 10, op := Go.Op.alloc 48, type := 0, pos := _, after := _, guard := _ }) rfl (fun K hK => ?_) AllReadyH.nil))
      · go_simp
        go_at_call 35
        refine (HOS.out _ (RS.out.aft hHeld)).mono ?_
        rintro e w3 ⟨rfl, ha⟩
        have hS2 := Aft.trans hHeld ha
        have z := CB.aft z7 ha
        clear z7
        have z7 := z
        clear z
        clear ha
        clear hHeld
        refine hK.out _ _ hS2 (fun hHeld => ?_)
        clear hK K hS2
        try simp only [Act.put]
        try simp only [List.setIfInBounds_toArray]
        try simp only [List.set]
        refine wpAnyH_ready (rs := [6, 8]) (by kernel_rfl) (by simp) ?_
        refine (AllReadyH.cons (o := { dst := some 19, op := Go.Op.call { callee := Go.Callee.value (Go.Operand.func 35), args := #[Go.Operand.tmp 18], argTypes := #[22] }, type := 48, pos := _, after := _, guard := _ }) rfl (fun K hK => ?_) (AllReadyH.cons (o := { dst := some 10, op := Go.Op.alloc 48, type := 0, pos := _, after := _, guard := _ }) rfl (fun K hK => ?_) AllReadyH.nil))
        · go_simp
          go_at_call 35
          refine (HOQ.out _ (RQ.out.aft hHeld)).mono ?_
          rintro e w6 ⟨rfl, ha⟩
          have hS2 := Aft.trans hHeld ha
          have z := CB.aft z7 ha
          clear z7
          have z7 := z
          clear z
          clear ha
          clear hHeld
          refine hK.out _ _ hS2 (fun hHeld => ?_)
          clear hK K hS2
          try simp only [Act.put]
          try simp only [List.setIfInBounds_toArray]
          try simp only [List.set]
          refine wpAnyH_ready (rs := [8]) (by kernel_rfl) (by simp) ?_
          refine (AllReadyH.cons (o := { dst := some 10, op := Go.Op.alloc 48, type := 0, pos := _, after := _, guard := _ }) rfl (fun K hK => ?_) AllReadyH.nil)
          · go_simp
            have hl : Aft w6 (w6.alloc (.cells (ctlC ctlZ).toArray 48)) := (Aft.refl _).alloc _
            have hn : CB (w6.alloc (.cells (ctlC ctlZ).toArray 48)) w6.heap.size ctlZ := heap_alloc_new w6 _
            have hS2 := Aft.trans hHeld hl
            have hB8 : W.heap.size ≤ w6.heap.size := hHeld.size
            have hne : B7 ≠ w6.heap.size := by have := CB.lt z7; omega
            have z := CB.aft z7 hl
            clear z7
            have z7 := z
            clear z
            obtain ⟨u8, hu⟩ : ∃ u, w6.alloc (.cells (ctlC ctlZ).toArray 48) = u := ⟨_, rfl⟩
            rw [hu] at hn hS2 z7
            rw [show w6.alloc (.cells #[.bool false, .bool false, .bool false, .bool false, .bool false, .bool false, .int .i64 0, .int .i64 0, .int .i64 0, .int .i64 0] 48) = u8 from hu]
            clear hu hl
            generalize w6.heap.size = B8 at hn hB8 hne ⊢
            have z8 := hn
            clear hn
            clear hHeld
            refine hK.out _ _ hS2 (fun hHeld => ?_)
            clear hK K hS2
            try simp only [Act.put]
            try simp only [List.setIfInBounds_toArray]
            try simp only [List.set]
            refine wpAnyH_ready (rs := [9]) (by kernel_rfl) (by simp) ?_
            refine (AllReadyH.cons (o := { dst := none, op := Go.Op.store 48 (Go.Operand.tmp 9) (Go.Operand.tmp 16), type := 0, pos := _, after := _, guard := _ }) rfl (fun K hK => ?_) AllReadyH.nil)
            · rw [if_pos (by rfl)]
              refine wp_store_row 48 (.tmp 9) (.tmp 16) rfl B7 (ctlC ⟨c0, c1, c2, c3, c4, c5, c6, c7, c8, c9⟩).toArray rfl rfl 48 (ctlC ctlZ).toArray z7 (sizeC21 _) (sameC21 _ _) (oneC21 _) ?_
              have hn := CB.row21 z7 ⟨c0, c1, c2, c3, c4, c5, c6, c7, c8, c9⟩
              have ho := CB.rowOther21 z8 (b := B7) (by omega) ⟨c0, c1, c2, c3, c4, c5, c6, c7, c8, c9⟩
              have hS2 := below_setRow hHeld hB7 (ctlC ⟨c0, c1, c2, c3, c4, c5, c6, c7, c8, c9⟩).toArray
              clear z7 z8
              have z7 := hn
              have z8 := ho
              clear hn ho
              clear hHeld
              refine hK.out _ _ hS2 (fun hHeld => ?_)
              clear hK K hS2
              try simp only [Act.put]
              try simp only [List.setIfInBounds_toArray]
              try simp only [List.set]
              refine wpAnyH_ready (rs := [10]) (by kernel_rfl) (by simp) ?_
              refine (AllReadyH.cons (o := { dst := none, op := Go.Op.store 48 (Go.Operand.tmp 10) (Go.Operand.tmp 19), type := 0, pos := _, after := _, guard := _ }) rfl (fun K hK => ?_) AllReadyH.nil)
              · rw [if_pos (by rfl)]
                refine wp_store_row 48 (.tmp 10) (.tmp 19) rfl B8 (ctlC ⟨d0, d1, d2, d3, d4, d5, d6, d7, d8, d9⟩).toArray rfl rfl 48 (ctlC ctlZ).toArray z8 (sizeC21 _) (sameC21 _ _) (oneC21 _) ?_
                have hn := CB.row21 z8 ⟨d0, d1, d2, d3, d4, d5, d6, d7, d8, d9⟩
                have ho := CB.rowOther21 z7 (b := B8) (by omega) ⟨d0, d1, d2, d3, d4, d5, d6, d7, d8, d9⟩
                have hS2 := below_setRow hHeld hB8 (ctlC ⟨d0, d1, d2, d3, d4, d5, d6, d7, d8, d9⟩).toArray
                clear z7 z8
                have z8 := hn
                have z7 := ho
                clear hn ho
                clear hHeld
                refine hK.out _ _ hS2 (fun hHeld => ?_)
                clear hK K hS2
                try simp only [Act.put]
                try simp only [List.setIfInBounds_toArray]
                try simp only [List.set]
                refine wpAnyH_done (by kernel_rfl) ?_ _
                go_wp2_with fail
                go_meet
                exact ⟨B7, B8, _, rfl, rfl, rfl, Lib.hid ⟨z7, z8, hHeld⟩⟩
        · go_simp
          have hl : Aft w3 (w3.alloc (.cells (ctlC ctlZ).toArray 48)) := (Aft.refl _).alloc _
          have hn : CB (w3.alloc (.cells (ctlC ctlZ).toArray 48)) w3.heap.size ctlZ := heap_alloc_new w3 _
          have hS2 := Aft.trans hHeld hl
          have hB8 : W.heap.size ≤ w3.heap.size := hHeld.size
          have hne : B7 ≠ w3.heap.size := by have := CB.lt z7; omega
          have z := CB.aft z7 hl
          clear z7
          have z7 := z
          clear z
          obtain ⟨u8, hu⟩ : ∃ u, w3.alloc (.cells (ctlC ctlZ).toArray 48) = u := ⟨_, rfl⟩
          rw [hu] at hn hS2 z7
          rw [show w3.alloc (.cells #[.bool false, .bool false, .bool false, .bool false, .bool false, .bool false, .int .i64 0, .int .i64 0, .int .i64 0, .int .i64 0] 48) = u8 from hu]
          clear hu hl
          generalize w3.heap.size = B8 at hn hB8 hne ⊢
          have z8 := hn
          clear hn
          clear hHeld
          refine hK.out _ _ hS2 (fun hHeld => ?_)
          clear hK K hS2
          try simp only [Act.put]
          try simp only [List.setIfInBounds_toArray]
          try simp only [List.set]
          refine wpAnyH_ready (rs := [6]) (by kernel_rfl) (by simp) ?_
          refine (AllReadyH.cons (o := { dst := some 19, op := Go.Op.call { callee := Go.Callee.value (Go.Operand.func 35), args := #[Go.Operand.tmp 18], argTypes := #[22] }, type := 48, pos := _, after := _, guard := _ }) rfl (fun K hK => ?_) AllReadyH.nil)
          · go_simp
            go_at_call 35
            refine (HOQ.out _ (RQ.out.aft hHeld)).mono ?_
            rintro e w6 ⟨rfl, ha⟩
            have hS2 := Aft.trans hHeld ha
            have z := CB.aft z7 ha
            clear z7
            have z7 := z
            clear z
            have z := CB.aft z8 ha
            clear z8
            have z8 := z
            clear z
            clear ha
            clear hHeld
            refine hK.out _ _ hS2 (fun hHeld => ?_)
            clear hK K hS2
            try simp only [Act.put]
            try simp only [List.setIfInBounds_toArray]
            try simp only [List.set]
            refine wpAnyH_ready (rs := [9]) (by kernel_rfl) (by simp) ?_
            refine (AllReadyH.cons (o := { dst := none, op := Go.Op.store 48 (Go.Operand.tmp 9) (Go.Operand.tmp 16), type := 0, pos := _, after := _, guard := _ }) rfl (fun K hK => ?_) AllReadyH.nil)
            · rw [if_pos (by rfl)]
              refine wp_store_row 48 (.tmp 9) (.tmp 16) rfl B7 (ctlC ⟨c0, c1, c2, c3, c4, c5, c6, c7, c8, c9⟩).toArray rfl rfl 48 (ctlC ctlZ).toArray z7 (sizeC21 _) (sameC21 _ _) (oneC21 _) ?_
              have hn := CB.row21 z7 ⟨c0, c1, c2, c3, c4, c5, c6, c7, c8, c9⟩
              have ho := CB.rowOther21 z8 (b := B7) (by omega) ⟨c0, c1, c2, c3, c4, c5, c6, c7, c8, c9⟩
              have hS2 := below_setRow hHeld hB7 (ctlC ⟨c0, c1, c2, c3, c4, c5, c6, c7, c8, c9⟩).toArray
              clear z7 z8
              have z7 := hn
              have z8 := ho
              clear hn ho
              clear hHeld
              refine hK.out _ _ hS2 (fun hHeld => ?_)
              clear hK K hS2
              try simp only [Act.put]
              try simp only [List.setIfInBounds_toArray]
              try simp only [List.set]
              refine wpAnyH_ready (rs := [10]) (by kernel_rfl) (by simp) ?_
              refine (AllReadyH.cons (o := { dst := none, op := Go.Op.store 48 (Go.Operand.tmp 10) (Go.Operand.tmp 19), type := 0, pos := _, after := _, guard := _ }) rfl (fun K hK => ?_) AllReadyH.nil)
              · rw [if_pos (by rfl)]
                refine wp_store_row 48 (.tmp 10) (.tmp 19) rfl B8 (ctlC ⟨d0, d1, d2, d3, d4, d5, d6, d7, d8, d9⟩).toArray rfl rfl 48 (ctlC ctlZ).toArray z8 (sizeC21 _) (sameC21 _ _) (oneC21 _) ?_
                have hn := CB.row21 z8 ⟨d0, d1, d2, d3, d4, d5, d6, d7, d8, d9⟩
                have ho := CB.rowOther21 z7 (b := B8) (by omega) ⟨d0, d1, d2, d3, d4, d5, d6, d7, d8, d9⟩
                have hS2 := below_setRow hHeld hB8 (ctlC ⟨d0, d1, d2, d3, d4, d5, d6, d7, d8, d9⟩).toArray
                clear z7 z8
                have z8 := hn
                have z7 := ho
                clear hn ho
                clear hHeld
                refine hK.out _ _ hS2 (fun hHeld => ?_)
                clear hK K hS2
                try simp only [Act.put]
                try simp only [List.setIfInBounds_toArray]
                try simp only [List.set]
                refine wpAnyH_done (by kernel_rfl) ?_ _
                go_wp2_with fail
                go_meet
                exact ⟨B7, B8, _, rfl, rfl, rfl, Lib.hid ⟨z7, z8, hHeld⟩⟩
      · go_simp
        have hl : Aft u7 (u7.alloc (.cells (ctlC ctlZ).toArray 48)) := (Aft.refl _).alloc _
        have hn : CB (u7.alloc (.cells (ctlC ctlZ).toArray 48)) u7.heap.size ctlZ := heap_alloc_new u7 _
        have hS2 := Aft.trans hHeld hl
        have hB8 : W.heap.size ≤ u7.heap.size := hHeld.size
        have hne : B7 ≠ u7.heap.size := by have := CB.lt z7; omega
        have z := CB.aft z7 hl
        clear z7
        have z7 := z
        clear z
        obtain ⟨u8, hu⟩ : ∃ u, u7.alloc (.cells (ctlC ctlZ).toArray 48) = u := ⟨_, rfl⟩
        rw [hu] at hn hS2 z7
        rw [show u7.alloc (.cells #[.bool false, .bool false, .bool false, .bool false, .bool false, .bool false, .int .i64 0, .int .i64 0, .int .i64 0, .int .i64 0] 48) = u8 from hu]
        clear hu hl
        generalize u7.heap.size = B8 at hn hB8 hne ⊢
        have z8 := hn
        clear hn
        clear hHeld
        refine hK.out _ _ hS2 (fun hHeld => ?_)
        clear hK K hS2
        try simp only [Act.put]
        try simp only [List.setIfInBounds_toArray]
        try simp only [List.set]
        refine wpAnyH_ready (rs := [3]) (by kernel_rfl) (by simp) ?_
        refine (AllReadyH.cons (o := { dst := some 16, op := Go.Op.call { callee := Go.Callee.value (Go.Operand.func 35), args := #[Go.Operand.tmp 15], argTypes := #[22] }, type := 48, pos := _, after := _, guard := _ }) rfl (fun K hK => ?_) AllReadyH.nil)
        · go_simp
          go_at_call 35
          refine (HOS.out _ (RS.out.aft hHeld)).mono ?_
          rintro e w3 ⟨rfl, ha⟩
          have hS2 := Aft.trans hHeld ha
          have z := CB.aft z7 ha
          clear z7
          have z7 := z
          clear z
          have z := CB.aft z8 ha
          clear z8
          have z8 := z
          clear z
          clear ha
          clear hHeld
          refine hK.out _ _ hS2 (fun hHeld => ?_)
          clear hK K hS2
          try simp only [Act.put]
          try simp only [List.setIfInBounds_toArray]
          try simp only [List.set]
          refine wpAnyH_ready (rs := [6]) (by kernel_rfl) (by simp) ?_
          refine (AllReadyH.cons (o := { dst := some 19, op := Go.Op.call { callee := Go.Callee.value (Go.Operand.func 35), args := #[Go.Operand.tmp 18], argTypes := #[22] }, type := 48, pos := _, after := _, guard := _ }) rfl (fun K hK => ?_) AllReadyH.nil)
          · go_simp
            go_at_call 35
            refine (HOQ.out _ (RQ.out.aft hHeld)).mono ?_
            rintro e w6 ⟨rfl, ha⟩
            have hS2 := Aft.trans hHeld ha
            have z := CB.aft z7 ha
            clear z7
            have z7 := z
            clear z
            have z := CB.aft z8 ha
            clear z8
            have z8 := z
            clear z
            clear ha
            clear hHeld
            refine hK.out _ _ hS2 (fun hHeld => ?_)
            clear hK K hS2
            try simp only [Act.put]
            try simp only [List.setIfInBounds_toArray]
            try simp only [List.set]
            refine wpAnyH_ready (rs := [9]) (by kernel_rfl) (by simp) ?_
            refine (AllReadyH.cons (o := { dst := none, op := Go.Op.store 48 (Go.Operand.tmp 9) (Go.Operand.tmp 16), type := 0, pos := _, after := _, guard := _ }) rfl (fun K hK => ?_) AllReadyH.nil)
            · rw [if_pos (by rfl)]
              refine wp_store_row 48 (.tmp 9) (.tmp 16) rfl B7 (ctlC ⟨c0, c1, c2, c3, c4, c5, c6, c7, c8, c9⟩).toArray rfl rfl 48 (ctlC ctlZ).toArray z7 (sizeC21 _) (sameC21 _ _) (oneC21 _) ?_
              have hn := CB.row21 z7 ⟨c0, c1, c2, c3, c4, c5, c6, c7, c8, c9⟩
              have ho := CB.rowOther21 z8 (b := B7) (by omega) ⟨c0, c1, c2, c3, c4, c5, c6, c7, c8, c9⟩
              have hS2 := below_setRow hHeld hB7 (ctlC ⟨c0, c1, c2, c3, c4, c5, c6, c7, c8, c9⟩).toArray
              clear z7 z8
              have z7 := hn
              have z8 := ho
              clear hn ho
              clear hHeld
              refine hK.out _ _ hS2 (fun hHeld => ?_)
              clear hK K hS2
              try simp only [Act.put]
              try simp only [List.setIfInBounds_toArray]
              try simp only [List.set]
              refine wpAnyH_ready (rs := [10]) (by kernel_rfl) (by simp) ?_
              refine (AllReadyH.cons (o := { dst := none, op := Go.Op.store 48 (Go.Operand.tmp 10) (Go.Operand.tmp 19), type := 0, pos := _, after := _, guard := _ }) rfl (fun K hK => ?_) AllReadyH.nil)
              · rw [if_pos (by rfl)]
                refine wp_store_row 48 (.tmp 10) (.tmp 19) rfl B8 (ctlC ⟨d0, d1, d2, d3, d4, d5, d6, d7, d8, d9⟩).toArray rfl rfl 48 (ctlC ctlZ).toArray z8 (sizeC21 _) (sameC21 _ _) (oneC21 _) ?_
                have hn := CB.row21 z8 ⟨d0, d1, d2, d3, d4, d5, d6, d7, d8, d9⟩
                have ho := CB.rowOther21 z7 (b := B8) (by omega) ⟨d0, d1, d2, d3, d4, d5, d6, d7, d8, d9⟩
                have hS2 := below_setRow hHeld hB8 (ctlC ⟨d0, d1, d2, d3, d4, d5, d6, d7, d8, d9⟩).toArray
                clear z7 z8
                have z8 := hn
                have z7 := ho
                clear hn ho
                clear hHeld
                refine hK.out _ _ hS2 (fun hHeld => ?_)
                clear hK K hS2
                try simp only [Act.put]
                try simp only [List.setIfInBounds_toArray]
                try simp only [List.set]
                refine wpAnyH_done (by kernel_rfl) ?_ _
                go_wp2_with fail
                go_meet
                exact ⟨B7, B8, _, rfl, rfl, rfl, Lib.hid ⟨z7, z8, hHeld⟩⟩
    · go_simp
      have hl : Aft Wd (Wd.alloc (.cells (ctlC ctlZ).toArray 48)) := (Aft.refl _).alloc _
      have hn : CB (Wd.alloc (.cells (ctlC ctlZ).toArray 48)) Wd.heap.size ctlZ := heap_alloc_new Wd _
      have hS2 := Aft.trans hHeld hl
      have hB8 : W.heap.size ≤ Wd.heap.size := hHeld.size
      obtain ⟨u8, hu⟩ : ∃ u, Wd.alloc (.cells (ctlC ctlZ).toArray 48) = u := ⟨_, rfl⟩
      rw [hu] at hn hS2
      rw [show Wd.alloc (.cells #[.bool false, .bool false, .bool false, .bool false, .bool false, .bool false, .int .i64 0, .int .i64 0, .int .i64 0, .int .i64 0] 48) = u8 from hu]
      clear hu hl
      generalize Wd.heap.size = B8 at hn hB8 ⊢
      have z8 := hn
      clear hn
      clear hHeld
      refine hK.out _ _ hS2 (fun hHeld => ?_)
      clear hK K hS2
      try simp only [Act.put]
      try simp only [List.setIfInBounds_toArray]
      try simp only [List.set]
      refine wpAnyH_ready (rs := [3, 7]) (by kernel_rfl) (by simp) ?_
      refine (AllReadyH.cons (o := { dst := some 16, op := Go.Op.call { callee := Go.Callee.value (Go.Operand.func 35), args := #[Go.Operand.tmp 15], argTypes := #[22] }, type := 48, pos := _, after := _, guard := _ }) rfl (fun K hK => ?_) (AllReadyH.cons (o := { dst := some 9, op := Go.Op.alloc 48, type := 0, pos := _, after := _, guard := _ }) rfl (fun K hK => ?_) AllReadyH.nil))
      · go_simp
        go_at_call 35
        refine (HOS.out _ (RS.out.aft hHeld)).mono ?_
        rintro e w3 ⟨rfl, ha⟩
        have hS2 := Aft.trans hHeld ha
        have z := CB.aft z8 ha
        clear z8
        have z8 := z
        clear z
        clear ha
        clear hHeld
        refine hK.out _ _ hS2 (fun hHeld => ?_)
        clear hK K hS2
        try simp only [Act.put]
        try simp only [List.setIfInBounds_toArray]
        try simp only [List.set]
        refine wpAnyH_ready (rs := [6, 7]) (by kernel_rfl) (by simp) ?_
        refine (AllReadyH.cons (o := { dst := some 19, op := Go.Op.call { callee := Go.Callee.value (Go.Operand.func 35), args := #[Go.Operand.tmp 18], argTypes := #[22] }, type := 48, pos := _, after := _, guard := _ }) rfl (fun K hK => ?_) (AllReadyH.cons (o := { dst := some 9, op := Go.Op.alloc 48, type := 0, pos := _, after := _, guard := _ }) rfl (fun K hK => ?_) AllReadyH.nil))
        · go_simp
          go_at_call 35
          refine (HOQ.out _ (RQ.out.aft hHeld)).mono ?_
          rintro e w6 ⟨rfl, ha⟩
          have hS2 := Aft.trans hHeld ha
          have z := CB.aft z8 ha
          clear z8
          have z8 := z
          clear z
          clear ha
          clear hHeld
          refine hK.out _ _ hS2 (fun hHeld => ?_)
          clear hK K hS2
          try simp only [Act.put]
          try simp only [List.setIfInBounds_toArray]
          try simp only [List.set]
          refine wpAnyH_ready (rs := [7]) (by kernel_rfl) (by simp) ?_
          refine (AllReadyH.cons (o := { dst := some 9, op := Go.Op.alloc 48, type := 0, pos := _, after := _, guard := _ }) rfl (fun K hK => ?_) AllReadyH.nil)
          · go_simp
            have hl : Aft w6 (w6.alloc (.cells (ctlC ctlZ).toArray 48)) := (Aft.refl _).alloc _
            have hn : CB (w6.alloc (.cells (ctlC ctlZ).toArray 48)) w6.heap.size ctlZ := heap_alloc_new w6 _
            have hS2 := Aft.trans hHeld hl
            have hB7 : W.heap.size ≤ w6.heap.size := hHeld.size
            have hne : B8 ≠ w6.heap.size := by have := CB.lt z8; omega
            have z := CB.aft z8 hl
            clear z8
            have z8 := z
            clear z
            obtain ⟨u7, hu⟩ : ∃ u, w6.alloc (.cells (ctlC ctlZ).toArray 48) = u := ⟨_, rfl⟩
            rw [hu] at hn hS2 z8
            rw [show w6.alloc (.cells #[.bool false, .bool false, .bool false, .bool false, .bool false, .bool false, .int .i64 0, .int .i64 0, .int .i64 0, .int .i64 0] 48) = u7 from hu]
            clear hu hl
            generalize w6.heap.size = B7 at hn hB7 hne ⊢
            have z7 := hn
            clear hn
            clear hHeld
            refine hK.out _ _ hS2 (fun hHeld => ?_)
            clear hK K hS2
            try simp only [Act.put]
            try simp only [List.setIfInBounds_toArray]
            try simp only [List.set]
            refine wpAnyH_ready (rs := [9]) (by kernel_rfl) (by simp) ?_
            refine (AllReadyH.cons (o := { dst := none, op := Go.Op.store 48 (Go.Operand.tmp 9) (Go.Operand.tmp 16), type := 0, pos := _, after := _, guard := _ }) rfl (fun K hK => ?_) AllReadyH.nil)
            · rw [if_pos (by rfl)]
              refine wp_store_row 48 (.tmp 9) (.tmp 16) rfl B7 (ctlC ⟨c0, c1, c2, c3, c4, c5, c6, c7, c8, c9⟩).toArray rfl rfl 48 (ctlC ctlZ).toArray z7 (sizeC21 _) (sameC21 _ _) (oneC21 _) ?_
              have hn := CB.row21 z7 ⟨c0, c1, c2, c3, c4, c5, c6, c7, c8, c9⟩
              have ho := CB.rowOther21 z8 (b := B7) (by omega) ⟨c0, c1, c2, c3, c4, c5, c6, c7, c8, c9⟩
              have hS2 := below_setRow hHeld hB7 (ctlC ⟨c0, c1, c2, c3, c4, c5, c6, c7, c8, c9⟩).toArray
              clear z7 z8
              have z7 := hn
              have z8 := ho
              clear hn ho
              clear hHeld
              refine hK.out _ _ hS2 (fun hHeld => ?_)
              clear hK K hS2
              try simp only [Act.put]
              try simp only [List.setIfInBounds_toArray]
              try simp only [List.set]
              refine wpAnyH_ready (rs := [10]) (by kernel_rfl) (by simp) ?_
              refine (AllReadyH.cons (o := { dst := none, op := Go.Op.store 48 (Go.Operand.tmp 10) (Go.Operand.tmp 19), type := 0, pos := _, after := _, guard := _ }) rfl (fun K hK => ?_) AllReadyH.nil)
              · rw [if_pos (by rfl)]
                refine wp_store_row 48 (.tmp 10) (.tmp 19) rfl B8 (ctlC ⟨d0, d1, d2, d3, d4, d5, d6, d7, d8, d9⟩).toArray rfl rfl 48 (ctlC ctlZ).toArray z8 (sizeC21 _) (sameC21 _ _) (oneC21 _) ?_
                have hn := CB.row21 z8 ⟨d0, d1, d2, d3, d4, d5, d6, d7, d8, d9⟩
                have ho := CB.rowOther21 z7 (b := B8) (by omega) ⟨d0, d1, d2, d3, d4, d5, d6, d7, d8, d9⟩
                have hS2 := below_setRow hHeld hB8 (ctlC ⟨d0, d1, d2, d3, d4, d5, d6, d7, d8, d9⟩).toArray
                clear z7 z8
                have z8 := hn
                have z7 := ho
                clear hn ho
                clear hHeld
                refine hK.out _ _ hS2 (fun hHeld => ?_)
                clear hK K hS2
                try simp only [Act.put]
                try simp only [List.setIfInBounds_toArray]
                try simp only [List.set]
                refine wpAnyH_done (by kernel_rfl) ?_ _
                go_wp2_with fail
                go_meet
                exact ⟨B7, B8, _, rfl, rfl, rfl, Lib.hid ⟨z7, z8, hHeld⟩⟩
        · go_simp
          have hl : Aft w3 (w3.alloc (.cells (ctlC ctlZ).toArray 48)) := (Aft.refl _).alloc _
          have hn : CB (w3.alloc (.cells (ctlC ctlZ).toArray 48)) w3.heap.size ctlZ := heap_alloc_new w3 _
          have hS2 := Aft.trans hHeld hl
          have hB7 : W.heap.size ≤ w3.heap.size := hHeld.size
          have hne : B8 ≠ w3.heap.size := by have := CB.lt z8; omega
          have z := CB.aft z8 hl
          clear z8
          have z8 := z
          clear z
          obtain ⟨u7, hu⟩ : ∃ u, w3.alloc (.cells (ctlC ctlZ).toArray 48) = u := ⟨_, rfl⟩
          rw [hu] at hn hS2 z8
          rw [show w3.alloc (.cells #[.bool false, .bool false, .bool false, .bool false, .bool false, .bool false, .int .i64 0, .int .i64 0, .int .i64 0, .int .i64 0] 48) = u7 from hu]
          clear hu hl
          generalize w3.heap.size = B7 at hn hB7 hne ⊢
          have z7 := hn
          clear hn
          clear hHeld
          refine hK.out _ _ hS2 (fun hHeld => ?_)
          clear hK K hS2
          try simp only [Act.put]
          try simp only [List.setIfInBounds_toArray]
          try simp only [List.set]
          refine wpAnyH_ready (rs := [6]) (by kernel_rfl) (by simp) ?_
          refine (AllReadyH.cons (o := { dst := some 19, op := Go.Op.call { callee := Go.Callee.value (Go.Operand.func 35), args := #[Go.Operand.tmp 18], argTypes := #[22] }, type := 48, pos := _, after := _, guard := _ }) rfl (fun K hK => ?_) AllReadyH.nil)
          · go_simp
            go_at_call 35
            refine (HOQ.out _ (RQ.out.aft hHeld)).mono ?_
            rintro e w6 ⟨rfl, ha⟩
            have hS2 := Aft.trans hHeld ha
            have z := CB.aft z7 ha
            clear z7
            have z7 := z
            clear z
            have z := CB.aft z8 ha
            clear z8
            have z8 := z
            clear z
            clear ha
            clear hHeld
            refine hK.out _ _ hS2 (fun hHeld => ?_)
            clear hK K hS2
            try simp only [Act.put]
            try simp only [List.setIfInBounds_toArray]
            try simp only [List.set]
            refine wpAnyH_ready (rs := [9]) (by kernel_rfl) (by simp) ?_
            refine (AllReadyH.cons (o := { dst := none, op := Go.Op.store 48 (Go.Operand.tmp 9) (Go.Operand.tmp 16), type := 0, pos := _, after := _, guard := _ }) rfl (fun K hK => ?_) AllReadyH.nil)
            · rw [if_pos (by rfl)]
              refine wp_store_row 48 (.tmp 9) (.tmp 16) rfl B7 (ctlC ⟨c0, c1, c2, c3, c4, c5, c6, c7, c8, c9⟩).toArray rfl rfl 48 (ctlC ctlZ).toArray z7 (sizeC21 _) (sameC21 _ _) (oneC21 _) ?_
              have hn := CB.row21 z7 ⟨c0, c1, c2, c3, c4, c5, c6, c7, c8, c9⟩
              have ho := CB.rowOther21 z8 (b := B7) (by omega) ⟨c0, c1, c2, c3, c4, c5, c6, c7, c8, c9⟩
              have hS2 := below_setRow hHeld hB7 (ctlC ⟨c0, c1, c2, c3, c4, c5, c6, c7, c8, c9⟩).toArray
              clear z7 z8
              have z7 := hn
              have z8 := ho
              clear hn ho
              clear hHeld
              refine hK.out _ _ hS2 (fun hHeld => ?_)
              clear hK K hS2
              try simp only [Act.put]
              try simp only [List.setIfInBounds_toArray]
              try simp only [List.set]
              refine wpAnyH_ready (rs := [10]) (by kernel_rfl) (by simp) ?_
              refine (AllReadyH.cons (o := { dst := none, op := Go.Op.store 48 (Go.Operand.tmp 10) (Go.Operand.tmp 19), type := 0, pos := _, after := _, guard := _ }) rfl (fun K hK => ?_) AllReadyH.nil)
              · rw [if_pos (by rfl)]
                refine wp_store_row 48 (.tmp 10) (.tmp 19) rfl B8 (ctlC ⟨d0, d1, d2, d3, d4, d5, d6, d7, d8, d9⟩).toArray rfl rfl 48 (ctlC ctlZ).toArray z8 (sizeC21 _) (sameC21 _ _) (oneC21 _) ?_
                have hn := CB.row21 z8 ⟨d0, d1, d2, d3, d4, d5, d6, d7, d8, d9⟩
                have ho := CB.rowOther21 z7 (b := B8) (by omega) ⟨d0, d1, d2, d3, d4, d5, d6, d7, d8, d9⟩
                have hS2 := below_setRow hHeld hB8 (ctlC ⟨d0, d1, d2, d3, d4, d5, d6, d7, d8, d9⟩).toArray
                clear z7 z8
                have z8 := hn
                have z7 := ho
                clear hn ho
                clear hHeld
                refine hK.out _ _ hS2 (fun hHeld => ?_)
                clear hK K hS2
                try simp only [Act.put]
                try simp only [List.setIfInBounds_toArray]
                try simp only [List.set]
                refine wpAnyH_done (by kernel_rfl) ?_ _
                go_wp2_with fail
                go_meet
                exact ⟨B7, B8, _, rfl, rfl, rfl, Lib.hid ⟨z7, z8, hHeld⟩⟩
      · go_simp
        have hl : Aft u8 (u8.alloc (.cells (ctlC ctlZ).toArray 48)) := (Aft.refl _).alloc _
        have hn : CB (u8.alloc (.cells (ctlC ctlZ).toArray 48)) u8.heap.size ctlZ := heap_alloc_new u8 _
        have hS2 := Aft.trans hHeld hl
        have hB7 : W.heap.size ≤ u8.heap.size := hHeld.size
        have hne : B8 ≠ u8.heap.size := by have := CB.lt z8; omega
        have z := CB.aft z8 hl
        clear z8
        have z8 := z
        clear z
        obtain ⟨u7, hu⟩ : ∃ u, u8.alloc (.cells (ctlC ctlZ).toArray 48) = u := ⟨_, rfl⟩
        rw [hu] at hn hS2 z8
        rw [show u8.alloc (.cells #[.bool false, .bool false, .bool false, .bool false, .bool false, .bool false, .int .i64 0, .int .i64 0, .int .i64 0, .int .i64 0] 48) = u7 from hu]
        clear hu hl
        generalize u8.heap.size = B7 at hn hB7 hne ⊢
        have z7 := hn
        clear hn
        clear hHeld
        refine hK.out _ _ hS2 (fun hHeld => ?_)
        clear hK K hS2
        try simp only [Act.put]
        try simp only [List.setIfInBounds_toArray]
        try simp only [List.set]
        refine wpAnyH_ready (rs := [3]) (by kernel_rfl) (by simp) ?_
        refine (AllReadyH.cons (o := { dst := some 16, op := Go.Op.call { callee := Go.Callee.value (Go.Operand.func 35), args := #[Go.Operand.tmp 15], argTypes := #[22] }, type := 48, pos := _, after := _, guard := _ }) rfl (fun K hK => ?_) AllReadyH.nil)
        · go_simp
          go_at_call 35
          refine (HOS.out _ (RS.out.aft hHeld)).mono ?_
          rintro e w3 ⟨rfl, ha⟩
          have hS2 := Aft.trans hHeld ha
          have z := CB.aft z7 ha
          clear z7
          have z7 := z
          clear z
          have z := CB.aft z8 ha
          clear z8
          have z8 := z
          clear z
          clear ha
          clear hHeld
          refine hK.out _ _ hS2 (fun hHeld => ?_)
          clear hK K hS2
          try simp only [Act.put]
          try simp only [List.setIfInBounds_toArray]
          try simp only [List.set]
          refine wpAnyH_ready (rs := [6]) (by kernel_rfl) (by simp) ?_
          refine (AllReadyH.cons (o := { dst := some 19, op := Go.Op.call { callee := Go.Callee.value (Go.Operand.func 35), args := #[Go.Operand.tmp 18], argTypes := #[22] }, type := 48, pos := _, after := _, guard := _ }) rfl (fun K hK => ?_) AllReadyH.nil)
          · go_simp
            go_at_call 35
            refine (HOQ.out _ (RQ.out.aft hHeld)).mono ?_
            rintro e w6 ⟨rfl, ha⟩
            have hS2 := Aft.trans hHeld ha
            have z := CB.aft z7 ha
            clear z7
            have z7 := z
            clear z
            have z := CB.aft z8 ha
            clear z8
            have z8 := z
            clear z
            clear ha
            clear hHeld
            refine hK.out _ _ hS2 (fun hHeld => ?_)
            clear hK K hS2
            try simp only [Act.put]
            try simp only [List.setIfInBounds_toArray]
            try simp only [List.set]
            refine wpAnyH_ready (rs := [9]) (by kernel_rfl) (by simp) ?_
            refine (AllReadyH.cons (o := { dst := none, op := Go.Op.store 48 (Go.Operand.tmp 9) (Go.Operand.tmp 16), type := 0, pos := _, after := _, guard := _ }) rfl (fun K hK => ?_) AllReadyH.nil)
            · rw [if_pos (by rfl)]
              refine wp_store_row 48 (.tmp 9) (.tmp 16) rfl B7 (ctlC ⟨c0, c1, c2, c3, c4, c5, c6, c7, c8, c9⟩).toArray rfl rfl 48 (ctlC ctlZ).toArray z7 (sizeC21 _) (sameC21 _ _) (oneC21 _) ?_
              have hn := CB.row21 z7 ⟨c0, c1, c2, c3, c4, c5, c6, c7, c8, c9⟩
              have ho := CB.rowOther21 z8 (b := B7) (by omega) ⟨c0, c1, c2, c3, c4, c5, c6, c7, c8, c9⟩
              have hS2 := below_setRow hHeld hB7 (ctlC ⟨c0, c1, c2, c3, c4, c5, c6, c7, c8, c9⟩).toArray
              clear z7 z8
              have z7 := hn
              have z8 := ho
              clear hn ho
              clear hHeld
              refine hK.out _ _ hS2 (fun hHeld => ?_)
              clear hK K hS2
              try simp only [Act.put]
              try simp only [List.setIfInBounds_toArray]
              try simp only [List.set]
              refine wpAnyH_ready (rs := [10]) (by kernel_rfl) (by simp) ?_
              refine (AllReadyH.cons (o := { dst := none, op := Go.Op.store 48 (Go.Operand.tmp 10) (Go.Operand.tmp 19), type := 0, pos := _, after := _, guard := _ }) rfl (fun K hK => ?_) AllReadyH.nil)
              · rw [if_pos (by rfl)]
                refine wp_store_row 48 (.tmp 10) (.tmp 19) rfl B8 (ctlC ⟨d0, d1, d2, d3, d4, d5, d6, d7, d8, d9⟩).toArray rfl rfl 48 (ctlC ctlZ).toArray z8 (sizeC21 _) (sameC21 _ _) (oneC21 _) ?_
                have hn := CB.row21 z8 ⟨d0, d1, d2, d3, d4, d5, d6, d7, d8, d9⟩
                have ho := CB.rowOther21 z7 (b := B8) (by omega) ⟨d0, d1, d2, d3, d4, d5, d6, d7, d8, d9⟩
                have hS2 := below_setRow hHeld hB8 (ctlC ⟨d0, d1, d2, d3, d4, d5, d6, d7, d8, d9⟩).toArray
                clear z7 z8
                have z8 := hn
                have z7 := ho
                clear hn ho
                clear hHeld
                refine hK.out _ _ hS2 (fun hHeld => ?_)
                clear hK K hS2
                try simp only [Act.put]
                try simp only [List.setIfInBounds_toArray]
                try simp only [List.set]
                refine wpAnyH_done (by kernel_rfl) ?_ _
                go_wp2_with fail
                go_meet
                exact ⟨B7, B8, _, rfl, rfl, rfl, Lib.hid ⟨z7, z8, hHeld⟩⟩
  case rest =>
    obtain ⟨B7, B8, U, hU, rfl, rfl, HCUT⟩ := hcut
    subst hU
    have HU := Lib.hid HCUT.out.2.2
    have HC7 := Lib.hid HCUT.out.1
    have HC8 := Lib.hid HCUT.out.2.1
    clear HCUT
    go_upto_region 2 with fail
    have A5 := (Aft.refl U).drew
    have D5 := Lib.hid A5
    have HBU := Lib.hid (HB.out.aft HU.out)
    have RSU := Lib.hid (RS.out.aft HU.out)
    have HAU := Lib.hid (HA.out.trans HU.out)
    have RQU := Lib.hid (RQ.out.aft HU.out)
    have HCU := Lib.hid (HC.out.aft HU.out)
    clear HB RS HA RQ HC
    refine wp_region_held_drew (S := fun w' => EB w' g R ∧ RbF w' (.slice as_ ls.length cs) ls) (by kernel_rfl) ⟨HBU.out.aft D5.out, RSU.out.aft D5.out⟩ (fun hHeld => ?_)
    refine wpAnyH_take (i := 0) (oi := { dst := some 20, op := Go.Op.load 28 (Go.Operand.tmp 4), type := 28, pos := _, after := _, guard := _ }) (v := ?_) rfl (by kernel_rfl) (by kernel_rfl) (by kernel_rfl) (fun _ _ _ h => h) (Or.inl ⟨by rfl, ?_⟩) (by exact hHeld) ?_
    rotate_left
    · intro w hSw; refine exec_load _ (.tmp 4) ?_ g ?_ R (hSw.1.load HR.out) <;> rfl
    try simp only [Act.put]
    try simp only [List.setIfInBounds_toArray]
    try simp only [List.set]
    refine wpAnyH_take (i := 1) (oi := { dst := some 21, op := Go.Op.move (Go.Operand.tmp 2), type := 3, pos := _, after := _, guard := _ }) (v := ?_) rfl (by kernel_rfl) (by kernel_rfl) (by kernel_rfl) (fun _ _ _ h => h) (Or.inl ⟨by rfl, ?_⟩) (by exact hHeld) ?_
    rotate_left
    · intro w hSw; go_simp; try with_reducible rfl
    try simp only [Act.put]
    try simp only [List.setIfInBounds_toArray]
    try simp only [List.set]
    refine wpAnyH_take (i := 3) (oi := { dst := some 23, op := Go.Op.load 28 (Go.Operand.tmp 4), type := 28, pos := _, after := _, guard := _ }) (v := ?_) rfl (by kernel_rfl) (by kernel_rfl) (by kernel_rfl) (fun _ _ _ h => h) (Or.inl ⟨by rfl, ?_⟩) (by exact hHeld) ?_
    rotate_left
    · intro w hSw; refine exec_load _ (.tmp 4) ?_ g ?_ R (hSw.1.load HR.out) <;> rfl
    try simp only [Act.put]
    try simp only [List.setIfInBounds_toArray]
    try simp only [List.set]
    refine wpAnyH_take (i := 4) (oi := { dst := some 24, op := Go.Op.move (Go.Operand.tmp 3), type := 29, pos := _, after := _, guard := _ }) (v := ?_) rfl (by kernel_rfl) (by kernel_rfl) (by kernel_rfl) (fun _ _ _ h => h) (Or.inl ⟨by rfl, ?_⟩) (by exact hHeld) ?_
    rotate_left
    · intro w hSw; go_simp; try with_reducible rfl
    try simp only [Act.put]
    try simp only [List.setIfInBounds_toArray]
    try simp only [List.set]
    refine wpAnyH_ready (rs := [2]) (by kernel_rfl) (by simp) ?_
    refine AllReadyH.cons (o := { dst := some 22, op := Go.Op.call { callee := Go.Callee.value (Go.Operand.func 13), args := #[Go.Operand.tmp 20, Go.Operand.tmp 21], argTypes := #[28, 3] }, type := 3, pos := _, after := _, guard := _ }) rfl (fun K hK => ?_) AllReadyH.nil
    go_simp
    go_at_call 13
    refine (HAG.out _ hHeld.2).mono ?_
    rintro e w6 ⟨rfl, a6⟩
    have hS2 := And.intro (hHeld.1.aft a6) (hHeld.2.aft a6)
    have A6 := Aft.trans A5 a6
    clear A5
    have A5 := A6
    clear A6 a6
    clear hHeld
    refine hK.out _ _ hS2 (fun hHeld => ?_)
    clear hK K hS2
    try simp only [Act.put]
    try simp only [List.setIfInBounds_toArray]
    try simp only [List.set]
    refine wpAnyH_ready (rs := [5]) (by kernel_rfl) (by simp) ?_
    refine AllReadyH.cons (o := { dst := some 25, op := Go.Op.call { callee := Go.Callee.value (Go.Operand.func 14), args := #[Go.Operand.tmp 23, Go.Operand.tmp 24], argTypes := #[28, 29] }, type := 3, pos := _, after := _, guard := _ }) rfl (fun K hK => ?_) AllReadyH.nil
    go_simp
    go_at_call 14
    refine (HLF.out _ hHeld.2).mono ?_
    rintro e w6 ⟨rfl, a6⟩
    have hS2 := And.intro (hHeld.1.aft a6) (hHeld.2.aft a6)
    have A6 := Aft.trans A5 a6
    clear A5
    have A5 := A6
    clear A6 a6
    clear hHeld
    refine hK.out _ _ hS2 (fun hHeld => ?_)
    clear hK K hS2
    try simp only [Act.put]
    try simp only [List.setIfInBounds_toArray]
    try simp only [List.set]
    refine wpAnyH_take (i := 6) (oi := { dst := some 11, op := Go.Op.assign (Go.Operand.tmp 22), type := 3, pos := _, after := _, guard := _ }) (v := ?_) rfl (by kernel_rfl) (by kernel_rfl) (by kernel_rfl) (fun _ _ _ h => h) (Or.inl ⟨by rfl, ?_⟩) (by exact hHeld) ?_
    rotate_left
    · intro w hSw; go_simp; try with_reducible rfl
    try simp only [Act.put]
    try simp only [List.setIfInBounds_toArray]
    try simp only [List.set]
    refine wpAnyH_take (i := 7) (oi := { dst := some 12, op := Go.Op.assign (Go.Operand.tmp 25), type := 3, pos := _, after := _, guard := _ }) (v := ?_) rfl (by kernel_rfl) (by kernel_rfl) (by kernel_rfl) (fun _ _ _ h => h) (Or.inl ⟨by rfl, ?_⟩) (by exact hHeld) ?_
    rotate_left
    · intro w hSw; go_simp; try with_reducible rfl
    try simp only [Act.put]
    try simp only [List.setIfInBounds_toArray]
    try simp only [List.set]
    refine wpAnyH_done (by kernel_rfl) ?_ _
    have HA6 := Lib.hid (HAU.out.trans A5)
    have HC76 := Lib.hid (HC7.out.aft A5)
    have HC86 := Lib.hid (HC8.out.aft A5)
    have HQ6 := Lib.hid (HCU.out.aft A5)
    have RQ6 := Lib.hid (RQU.out.aft A5)
    clear hHeld A5 D5 HBU RSU HAU RQU HCU HC7 HC8 HU
    obtain ⟨p0, p1, p2, p3, p4, p5, p6, p7, p8, p9⟩ := CB.cells HC76.out
    obtain ⟨q0, q1, q2, q3, q4, q5, q6, q7, q8, q9⟩ := CB.cells HC86.out
    cases c1
    rotate_left
    · have HT2 : Hid (false = T) := Lib.hid HT.out
      go_wp2_with fail
      go_ret
      exact ⟨ret_bool HT2.out, HA6.out⟩
    cases d1
    rotate_left
    · have HT2 : Hid (false = T) := Lib.hid HT.out
      go_wp2_with fail
      go_ret
      exact ⟨ret_bool HT2.out, HA6.out⟩
    have HTU : Hid ((if un = true then false else if 0 ≤ d6 ∧ d6 < age then false else if age < life then decide (d9 ≤ life - age) else decide (0 ≤ d8 ∧ age - life ≤ d8 ∧ c4 = false ∧ c7 < 0 ∧ d9 < 0)) = T) := Lib.hid HT.out
    clear HT
    go_wp2_with (refine wpList_load_row_w rfl 24 (.tmp 5) rfl (g + 1) rfl _ Q (0, 0) _ HQ6.out Try.underlying24 rfl HINQ.out ?_)
    refine (HUN.out _ RQ6.out).mono ?_
    rintro e w7 ⟨rfl, a7⟩
    have HA7 := Lib.hid (HA6.out.trans a7)
    have HC77 := Lib.hid (HC76.out.aft a7)
    have HC87 := Lib.hid (HC86.out.aft a7)
    clear a7 p0 p1 p2 p3 p4 p5 p6 p7 p8 p9 q0 q1 q2 q3 q4 q5 q6 q7 q8 q9 HC76 HC86 HQ6 RQ6
    obtain ⟨p0, p1, p2, p3, p4, p5, p6, p7, p8, p9⟩ := CB.cells HC77.out
    obtain ⟨q0, q1, q2, q3, q4, q5, q6, q7, q8, q9⟩ := CB.cells HC87.out
    cases un
    rotate_left
    · have HT2 : Hid (false = T) := Lib.hid HTU.out
      go_wp2_with fail
      go_ret
      exact ⟨ret_bool HT2.out, HA7.out⟩
    have HTV : Hid ((if 0 ≤ d6 ∧ d6 < age then false else if age < life then decide (d9 ≤ life - age) else decide (0 ≤ d8 ∧ age - life ≤ d8 ∧ c4 = false ∧ c7 < 0 ∧ d9 < 0)) = T) := Lib.hid HTU.out
    clear HTU
    obtain ⟨b1, b2, b3, b4, b5, b6⟩ := HOK.out
    have gw1 : IntKind.i64.wrap (life - age) = life - age := IntWalk.i64_in _ (by omega)
    have gw2 : IntKind.i64.wrap (age - life) = age - life := IntWalk.i64_in _ (by omega)
    clear b1 b2 b3 b4 b5 b6
    by_cases hm : 0 ≤ d6 ∧ d6 < age
    · have HT2 : Hid (false = T) := Lib.hid ((if_pos hm).symm.trans HTV.out)
      obtain ⟨hm1, hm2⟩ := hm
      have hm3 : d6 ≥ 0 := hm1
      clear hm1
      go_wp2_with fail
      all_goals
        go_ret
        exact ⟨ret_bool HT2.out, HA7.out⟩
    have HTW := Lib.hid ((if_neg hm).symm.trans HTV.out)
    clear HTV
    have hm2 : (d6 ≥ 0 ∧ ¬ d6 < age) ∨ ¬ d6 ≥ 0 := by omega
    clear hm
    rcases hm2 with ⟨hm3, hm4⟩ | hm3
    all_goals
      by_cases hl : age < life
      · have HT2 : Hid (decide (d9 ≤ life - age) = T) := Lib.hid ((if_pos hl).symm.trans HTW.out)
        go_wp2_with fail
        go_ret
        exact ⟨ret_bool HT2.out, HA7.out⟩
      have HTX := Lib.hid ((if_neg hl).symm.trans HTW.out)
      by_cases h8 : d8 ≥ 0
      rotate_left
      · have HT2 : Hid (false = T) := Lib.hid ((decide_eq_false (fun h => h8 h.1)).symm.trans HTX.out)
        go_wp2_with fail
        all_goals
          go_ret
          exact ⟨ret_bool HT2.out, HA7.out⟩
      by_cases h9 : d8 ≥ age - life
      rotate_left
      · have HT2 : Hid (false = T) := Lib.hid ((decide_eq_false (fun h => h9 h.2.1)).symm.trans HTX.out)
        go_wp2_with fail
        all_goals
          go_ret
          exact ⟨ret_bool HT2.out, HA7.out⟩
      cases c4
      rotate_left
      · have HT2 : Hid (false = T) := Lib.hid ((decide_eq_false (fun h => by cases h.2.2.1)).symm.trans HTX.out)
        go_wp2_with fail
        all_goals
          go_ret
          exact ⟨ret_bool HT2.out, HA7.out⟩
      by_cases h7 : c7 < 0
      rotate_left
      · have HT2 : Hid (false = T) := Lib.hid ((decide_eq_false (fun h => h7 h.2.2.2.1)).symm.trans HTX.out)
        go_wp2_with fail
        all_goals
          go_ret
          exact ⟨ret_bool HT2.out, HA7.out⟩
      by_cases hf : d9 < 0
      rotate_left
      · have HT2 : Hid (false = T) := Lib.hid ((decide_eq_false (fun h => hf h.2.2.2.2)).symm.trans HTX.out)
        go_wp2_with fail
        all_goals
          go_ret
          exact ⟨ret_bool (by first | exact HT2.out | (rw [decide_eq_false (by omega)]; exact HT2.out)), HA7.out⟩
      have HT2 : Hid (true = T) := Lib.hid ((decide_eq_true ⟨h8, h9, rfl, h7, hf⟩).symm.trans HTX.out)
      go_wp2_with fail
      all_goals
        go_ret
        exact ⟨ret_bool (by first | exact HT2.out | (rw [decide_eq_true (by omega)]; exact HT2.out)), HA7.out⟩
end Go.Proofs.Ytdcdckjdloddiaa
