/-
  The walk of keep.May.
-/
import Derived.Test.YtaaffpndfeidfaaKeepStars
import Derived.Test.YtaaffpndfeidfaaCtlRunsB
import Derived.Deep.RegionHeld
namespace Go.Proofs.Ytaaffpndfeidfaa
open Go.RowKit

structure FOk (l : List FieldL) : Prop where
  len : l.length ≤ 1000000
  join : ∀ name, (Lib.join (valsF name l) [44, 32]).length ≤ 100000000
def nAuth : List UInt8 := [97, 117, 116, 104, 111, 114, 105, 122, 97, 116, 105, 111, 110]
def nExpires : List UInt8 := [101, 120, 112, 105, 114, 101, 115]
def mayB (g : Bool) (st : Int) (a c : Ctl) (star auth exp pl : Bool) : Bool :=
  g && (!decide (st < 200) && (!(st == 206) && (!(st == 304) && (!(a.ns || (c.ns || c.pr)) && (!star && (!(auth && (!c.mu && (!c.pu && !decide (0 ≤ c.sh)))) && (c.pu || (decide (0 ≤ c.sh) || (decide (0 ≤ c.ma) || (exp || pl))))))))))
def mayF (g : Bool) (st : Int) (lq ls : List FieldL) : Bool := mayB g st (ctlF lq) (ctlF ls) (starF ls) (hasF lq nAuth) (hasF ls nExpires) (plS st)

def reqV (m x1 x2 x3 : ByteArray) (v : Value) (n : Int) : Value := .agg #[.string m, .string x1, .string x2, .string x3, v, .int .i64 n]
def resV (st : Int) (v : Value) (n : Int) : Value := .agg #[.int .i64 st, v, .int .i64 n]
def C6 (w : World) (g : Nat) (a b c d e f : Value) : Prop := w.heap[g]? = some (.cells #[a, b, c, d, e, f] 42 (0, 0))
def C3 (w : World) (g : Nat) (a b c : Value) : Prop := w.heap[g]? = some (.cells #[a, b, c] 44 (0, 0))
theorem blk_lt {w : World} {g : Nat} {o : Obj} (h : w.heap[g]? = some o) : g < w.heap.size := by
  rcases Nat.lt_or_ge g w.heap.size with h1 | h1
  · exact h1
  · rw [Array.getElem?_eq_none h1] at h; cases h
theorem C6.aft {w w' : World} {g : Nat} {a b c d e f : Value} (h : C6 w g a b c d e f) (ha : Aft w w') : C6 w' g a b c d e f := by
  unfold C6
  rw [Below.block ha g (blk_lt h)]
  exact h
theorem C3.aft {w w' : World} {g : Nat} {a b c : Value} (h : C3 w g a b c) (ha : Aft w w') : C3 w' g a b c := by
  unfold C3
  rw [Below.block ha g (blk_lt h)]
  exact h
theorem C6.cells {w : World} {g : Nat} {a b c d e f : Value} (h : C6 w g a b c d e f) : w.cell? ⟨g, 0, none⟩ = some a ∧ w.cell? ⟨g, 1, none⟩ = some b ∧ w.cell? ⟨g, 2, none⟩ = some c ∧ w.cell? ⟨g, 3, none⟩ = some d ∧ w.cell? ⟨g, 4, none⟩ = some e ∧ w.cell? ⟨g, 5, none⟩ = some f := by
  unfold C6 at h
  refine ⟨?_, ?_, ?_, ?_, ?_, ?_⟩ <;> (rw [cell_of_row w g _ _ _ (0, 0) h]; rfl)
theorem C3.cells {w : World} {g : Nat} {a b c : Value} (h : C3 w g a b c) : w.cell? ⟨g, 0, none⟩ = some a ∧ w.cell? ⟨g, 1, none⟩ = some b ∧ w.cell? ⟨g, 2, none⟩ = some c := by
  unfold C3 at h
  refine ⟨?_, ?_, ?_⟩ <;> (rw [cell_of_row w g _ _ _ (0, 0) h]; rfl)

theorem CB.row {w : World} {g : Nat} {d : Ctl} (h : CB w g d) (c : Ctl) : CB (w.setRow g (ctlC c).toArray) g c := setRow_heap w g _ _ 30 (0, 0) h
theorem CB.rowOther {w : World} {g : Nat} {d : Ctl} (h : CB w g d) {b : Nat} (hb : b ≠ g) (c : Ctl) : CB (w.setRow b (ctlC c).toArray) g d := by
  unfold CB
  rw [setRow_other w b g _ (by omega)]
  exact h
theorem sizeC (c : Ctl) : (Try.prog.info? 30).map (·.size) = some (ctlC c).toArray.size := by rw [sizeCtl]; rfl
theorem sameC (c d : Ctl) : (ctlC c).toArray.size = (ctlC d).toArray.size := rfl
theorem oneC (c : Ctl) : (ctlC c).toArray.all (·.oneCell') = true := by simp [ctlC, Value.oneCell']

set_option maxHeartbeats 16000000 in
set_option maxRecDepth 100000 in
theorem may_any (m x1 x2 x3 : ByteArray) (vq vs : Value) (n1 n2 st : Int) (lq ls : List FieldL) (w : World) (hq : RbF w vq lq) (hs : RbF w vs ls) (kq : FOk lq) (ks : FOk ls) :
    Calls Try.prog 22 #[reqV m x1 x2 x3 vq n1, resV st vs n2] w fun e w' => e = .returned (.bool (mayF (m.data.toList == [71, 69, 84]) st lq ls)) ∧ Aft w w' := by
  have HOQ := Lib.hid (fun w h => of_ctl vq lq w h kq.len (kq.join nCC))
  have HOS := Lib.hid (fun w h => of_ctl vs ls w h ks.len (ks.join nCC))
  have HST := Lib.hid (fun w h => stars_any vs ls w h ks.len (ks.join [118, 97, 114, 121]))
  have HHA := Lib.hid (fun w h => has_any vq lq ⟨nAuth.toArray⟩ w h kq.len (kq.join nAuth))
  have HHE := Lib.hid (fun w h => has_any vs ls ⟨nExpires.toArray⟩ w h ks.len (ks.join nExpires))
  have HPL := Lib.hid (fun w => plain_st st w)
  have ea : (⟨nAuth.toArray⟩ : ByteArray).data.toList = nAuth := rfl
  have ee : (⟨nExpires.toArray⟩ : ByteArray).data.toList = nExpires := rfl
  rw [ea] at HHA
  rw [ee] at HHE
  unfold mayF
  obtain ⟨a, ha⟩ : ∃ a, ctlF lq = a := ⟨_, rfl⟩
  obtain ⟨c, hc⟩ : ∃ c, ctlF ls = c := ⟨_, rfl⟩
  obtain ⟨star, hstar⟩ : ∃ b, starF ls = b := ⟨_, rfl⟩
  obtain ⟨auth, hauth⟩ : ∃ b, hasF lq nAuth = b := ⟨_, rfl⟩
  obtain ⟨exp, hexp⟩ : ∃ b, hasF ls nExpires = b := ⟨_, rfl⟩
  obtain ⟨pl, hpl⟩ : ∃ b, plS st = b := ⟨_, rfl⟩
  rw [ha] at HOQ
  rw [hc] at HOS
  rw [hstar] at HST
  rw [hauth] at HHA
  rw [hexp] at HHE
  rw [hpl] at HPL
  rw [ha, hc, hstar, hauth, hexp, hpl]
  obtain ⟨a0, a1, a2, a3, a4, a5, a6, a7, a8, a9⟩ := a
  obtain ⟨c0, c1, c2, c3, c4, c5, c6, c7, c8, c9⟩ := c
  obtain ⟨g, hg⟩ : ∃ g, (m.data.toList == [71, 69, 84]) = g := ⟨_, rfl⟩
  have hg2 : (m.toList == [71, 69, 84]) = g := by rw [Lib.toList_data]; exact hg
  rw [hg]
  obtain ⟨R, hR⟩ : ∃ R, mayB g st ⟨a0, a1, a2, a3, a4, a5, a6, a7, a8, a9⟩ ⟨c0, c1, c2, c3, c4, c5, c6, c7, c8, c9⟩ star auth exp pl = R := ⟨_, rfl⟩
  rw [hR]
  unfold mayB at hR
  simp only at hR
  have HRR := Lib.hid hR
  have eva : ctlV ⟨a0, a1, a2, a3, a4, a5, a6, a7, a8, a9⟩ = .agg #[.bool a0, .bool a1, .bool a2, .bool a3, .bool a4, .bool a5, .int .i64 a6, .int .i64 a7, .int .i64 a8, .int .i64 a9] := rfl
  have evc : ctlV ⟨c0, c1, c2, c3, c4, c5, c6, c7, c8, c9⟩ = .agg #[.bool c0, .bool c1, .bool c2, .bool c3, .bool c4, .bool c5, .int .i64 c6, .int .i64 c7, .int .i64 c8, .int .i64 c9] := rfl
  rw [eva] at HOQ
  rw [evc] at HOS
  have hA0 : Aft w ((w.alloc (.cells #[.string m, .string x1, .string x2, .string x3, vq, .int .i64 n1] 42)).alloc (.cells #[.int .i64 st, vs, .int .i64 n2] 44)) := ((Aft.refl w).alloc _).alloc _
  have hB6 : C6 ((w.alloc (.cells #[.string m, .string x1, .string x2, .string x3, vq, .int .i64 n1] 42)).alloc (.cells #[.int .i64 st, vs, .int .i64 n2] 44)) w.heap.size (.string m) (.string x1) (.string x2) (.string x3) vq (.int .i64 n1) := C6.aft (heap_alloc_new w _) ((Aft.refl _).alloc _)
  have hB3 : C3 ((w.alloc (.cells #[.string m, .string x1, .string x2, .string x3, vq, .int .i64 n1] 42)).alloc (.cells #[.int .i64 st, vs, .int .i64 n2] 44)) (w.heap.size + 1) (.int .i64 st) vs (.int .i64 n2) := by
    have := heap_alloc_new (w.alloc (.cells #[.string m, .string x1, .string x2, .string x3, vq, .int .i64 n1] 42)) (.cells #[.int .i64 st, vs, .int .i64 n2] 44)
    rw [World.size_alloc] at this
    exact this
  have HQ := Lib.hid hq
  have HSV := Lib.hid hs
  clear hq hs kq ks ha hc hstar hauth hexp hpl hg hR ea ee eva evc
  unfold reqV resV
  go_enter Try.func22, Try.ntmps22
  go_upto_region 1 with fail
  generalize (w.alloc (.cells #[.string m, .string x1, .string x2, .string x3, vq, .int .i64 n1] 42)).alloc (.cells #[.int .i64 st, vs, .int .i64 n2] 44) = W at hA0 hB6 hB3 ⊢
  generalize w.heap.size = G6 at hB6 hB3 ⊢
  obtain ⟨f0, f1, f2, f3, f4, f5⟩ := hB6.cells
  obtain ⟨t0, t1, t2⟩ := hB3.cells
  have HA0 := Lib.hid hA0
  have HB6 := Lib.hid hB6
  have HB3 := Lib.hid hB3
  clear hA0 hB6 hB3
  have RQ : Hid (RbF W vq lq) := Lib.hid (HQ.out.aft HA0.out)
  have RS : Hid (RbF W vs ls) := Lib.hid (HSV.out.aft HA0.out)
  cases g
  · have HR2 : Hid (R = false) := Lib.hid (by rw [← HRR.out]; rfl)
    go_wp2_with fail
    all_goals
      go_ret
      exact ⟨ret_bool HR2.out.symm, HA0.out⟩
  · by_cases s1 : st < 200
    · have HR2 : Hid (R = false) := Lib.hid (by rw [← HRR.out]; simp [s1])
      go_wp2_with fail
      all_goals
        go_ret
        exact ⟨ret_bool HR2.out.symm, HA0.out⟩
    · by_cases s2 : st = 206
      · have HR2 : Hid (R = false) := Lib.hid (by rw [← HRR.out]; simp [s2])
        go_wp2_with fail
        all_goals
          go_ret
          exact ⟨ret_bool HR2.out.symm, HA0.out⟩
      · by_cases s3 : st = 304
        · have HR2 : Hid (R = false) := Lib.hid (by rw [← HRR.out]; simp [s3])
          go_wp2_with fail
          all_goals
            go_ret
            exact ⟨ret_bool HR2.out.symm, HA0.out⟩
        · have b2 : (st == 206) = false := by simpa using s2
          have b3 : (st == 304) = false := by simpa using s3
          have HR2 : Hid ((!(a0 || (c0 || c2)) && (!star && (!(auth && (!c4 && (!c3 && !decide (0 ≤ c7)))) && (c3 || (decide (0 ≤ c7) || (decide (0 ≤ c6) || (exp || pl))))))) = R) := Lib.hid (by rw [← HRR.out, b2, b3, decide_eq_false s1]; rfl)
          clear HRR
          go_upto_region 3 with fail
          go_cut [5, 6] (fun v5 v6 wx => ∃ (B6 B7 : Nat) (U : World), U = wx ∧ v5 = .pointer (some ⟨B6, 0, none⟩) ∧ v6 = .pointer (some ⟨B7, 0, none⟩) ∧ Hid (CB wx B6 ⟨a0, a1, a2, a3, a4, a5, a6, a7, a8, a9⟩ ∧ CB wx B7 ⟨c0, c1, c2, c3, c4, c5, c6, c7, c8, c9⟩ ∧ Aft W wx))
          case first =>
            refine wp_region_held_drew (S := Aft W) (by kernel_rfl) ((Aft.refl W).drew) (fun hHeld => ?_)
            generalize W.drew = Wd at hHeld ⊢
            refine wpAnyH_take (i := 0) (oi := { dst := some 28, op := Go.Op.fieldAddr 42 (Go.Operand.tmp 2) 4, type := 0, pos := _, after := _, guard := _ }) (v := ?_) rfl (by kernel_rfl) (by kernel_rfl) (by kernel_rfl) (fun _ _ _ h => h) (Or.inl ⟨by rfl, ?_⟩) (by exact hHeld) ?_
            rotate_left
            · intro w hSw; go_simp; try with_reducible rfl
            try simp only [Act.put]
            try simp only [List.setIfInBounds_toArray]
            try simp only [List.set]
            refine wpAnyH_take (i := 1) (oi := { dst := some 29, op := Go.Op.load 22 (Go.Operand.tmp 28), type := 22, pos := _, after := _, guard := _ }) (v := ?_) rfl (by kernel_rfl) (by kernel_rfl) (by kernel_rfl) (fun _ _ _ h => h) (Or.inl ⟨by rfl, ?_⟩) (by exact hHeld) ?_
            rotate_left
            · intro w hSw; obtain ⟨f0, f1, f2, f3, f4, f5⟩ := (HB6.out.aft hSw).cells; obtain ⟨t0, t1, t2⟩ := (HB3.out.aft hSw).cells; go_simp; try with_reducible rfl
            try simp only [Act.put]
            try simp only [List.setIfInBounds_toArray]
            try simp only [List.set]
            refine wpAnyH_take (i := 3) (oi := { dst := some 31, op := Go.Op.fieldAddr 44 (Go.Operand.tmp 3) 1, type := 0, pos := _, after := _, guard := _ }) (v := ?_) rfl (by kernel_rfl) (by kernel_rfl) (by kernel_rfl) (fun _ _ _ h => h) (Or.inl ⟨by rfl, ?_⟩) (by exact hHeld) ?_
            rotate_left
            · intro w hSw; go_simp; try with_reducible rfl
            try simp only [Act.put]
            try simp only [List.setIfInBounds_toArray]
            try simp only [List.set]
            refine wpAnyH_take (i := 4) (oi := { dst := some 32, op := Go.Op.load 22 (Go.Operand.tmp 31), type := 22, pos := _, after := _, guard := _ }) (v := ?_) rfl (by kernel_rfl) (by kernel_rfl) (by kernel_rfl) (fun _ _ _ h => h) (Or.inl ⟨by rfl, ?_⟩) (by exact hHeld) ?_
            rotate_left
            · intro w hSw; obtain ⟨f0, f1, f2, f3, f4, f5⟩ := (HB6.out.aft hSw).cells; obtain ⟨t0, t1, t2⟩ := (HB3.out.aft hSw).cells; go_simp; try with_reducible rfl
            try simp only [Act.put]
            try simp only [List.setIfInBounds_toArray]
            try simp only [List.set]
            refine wpAnyH_ready (rs := [2, 6, 7]) (by kernel_rfl) (by simp) ?_
            refine (AllReadyH.cons (o := { dst := some 30, op := Go.Op.call { callee := Go.Callee.value (Go.Operand.func 11), args := #[Go.Operand.tmp 29], argTypes := #[22] }, type := 30, pos := _, after := _, guard := _ }) rfl (fun K hK => ?_) (AllReadyH.cons (o := { dst := some 5, op := Go.Op.alloc 30, type := 0, pos := _, after := _, guard := _ }) rfl (fun K hK => ?_) (AllReadyH.cons (o := { dst := some 6, op := Go.Op.alloc 30, type := 0, pos := _, after := _, guard := _ }) rfl (fun K hK => ?_) AllReadyH.nil)))
            · go_simp
              go_at_call 11
              refine (HOQ.out _ (RQ.out.aft hHeld)).mono ?_
              rintro e w2 ⟨rfl, ha⟩
              have hS2 := Aft.trans hHeld ha
              clear ha
              clear hHeld
              refine hK.out _ _ hS2 (fun hHeld => ?_)
              clear hK K hS2
              try simp only [Act.put]
              try simp only [List.setIfInBounds_toArray]
              try simp only [List.set]
              refine wpAnyH_ready (rs := [5, 6, 7]) (by kernel_rfl) (by simp) ?_
              refine (AllReadyH.cons (o := { dst := some 33, op := Go.Op.call { callee := Go.Callee.value (Go.Operand.func 11), args := #[Go.Operand.tmp 32], argTypes := #[22] }, type := 30, pos := _, after := _, guard := _ }) rfl (fun K hK => ?_) (AllReadyH.cons (o := { dst := some 5, op := Go.Op.alloc 30, type := 0, pos := _, after := _, guard := _ }) rfl (fun K hK => ?_) (AllReadyH.cons (o := { dst := some 6, op := Go.Op.alloc 30, type := 0, pos := _, after := _, guard := _ }) rfl (fun K hK => ?_) AllReadyH.nil)))
              · go_simp
                go_at_call 11
                refine (HOS.out _ (RS.out.aft hHeld)).mono ?_
                rintro e w5 ⟨rfl, ha⟩
                have hS2 := Aft.trans hHeld ha
                clear ha
                clear hHeld
                refine hK.out _ _ hS2 (fun hHeld => ?_)
                clear hK K hS2
                try simp only [Act.put]
                try simp only [List.setIfInBounds_toArray]
                try simp only [List.set]
                refine wpAnyH_ready (rs := [6, 7]) (by kernel_rfl) (by simp) ?_
                refine (AllReadyH.cons (o := { dst := some 5, op := Go.Op.alloc 30, type := 0, pos := _, after := _, guard := _ }) rfl (fun K hK => ?_) (AllReadyH.cons (o := { dst := some 6, op := Go.Op.alloc 30, type := 0, pos := _, after := _, guard := _ }) rfl (fun K hK => ?_) AllReadyH.nil))
                · go_simp
                  have hl : Aft w5 (w5.alloc (.cells (ctlC ctlZ).toArray 30)) := (Aft.refl _).alloc _
                  have hn : CB (w5.alloc (.cells (ctlC ctlZ).toArray 30)) w5.heap.size ctlZ := heap_alloc_new w5 _
                  have hS2 := Aft.trans hHeld hl
                  have hB6 : W.heap.size ≤ w5.heap.size := hHeld.size
                  obtain ⟨u6, hu⟩ : ∃ u, w5.alloc (.cells (ctlC ctlZ).toArray 30) = u := ⟨_, rfl⟩
                  rw [hu] at hn hS2
                  rw [show w5.alloc (.cells #[.bool false, .bool false, .bool false, .bool false, .bool false, .bool false, .int .i64 0, .int .i64 0, .int .i64 0, .int .i64 0] 30) = u6 from hu]
                  clear hu hl
                  generalize w5.heap.size = B6 at hn hB6 ⊢
                  have z6 := hn
                  clear hn
                  clear hHeld
                  refine hK.out _ _ hS2 (fun hHeld => ?_)
                  clear hK K hS2
                  try simp only [Act.put]
                  try simp only [List.setIfInBounds_toArray]
                  try simp only [List.set]
                  refine wpAnyH_ready (rs := [7]) (by kernel_rfl) (by simp) ?_
                  refine (AllReadyH.cons (o := { dst := some 6, op := Go.Op.alloc 30, type := 0, pos := _, after := _, guard := _ }) rfl (fun K hK => ?_) AllReadyH.nil)
                  · go_simp
                    have hl : Aft u6 (u6.alloc (.cells (ctlC ctlZ).toArray 30)) := (Aft.refl _).alloc _
                    have hn : CB (u6.alloc (.cells (ctlC ctlZ).toArray 30)) u6.heap.size ctlZ := heap_alloc_new u6 _
                    have hS2 := Aft.trans hHeld hl
                    have hB7 : W.heap.size ≤ u6.heap.size := hHeld.size
                    have hne : B6 ≠ u6.heap.size := by have := CB.lt z6; omega
                    have z := CB.aft z6 hl
                    clear z6
                    have z6 := z
                    clear z
                    obtain ⟨u7, hu⟩ : ∃ u, u6.alloc (.cells (ctlC ctlZ).toArray 30) = u := ⟨_, rfl⟩
                    rw [hu] at hn hS2 z6
                    rw [show u6.alloc (.cells #[.bool false, .bool false, .bool false, .bool false, .bool false, .bool false, .int .i64 0, .int .i64 0, .int .i64 0, .int .i64 0] 30) = u7 from hu]
                    clear hu hl
                    generalize u6.heap.size = B7 at hn hB7 hne ⊢
                    have z7 := hn
                    clear hn
                    clear hHeld
                    refine hK.out _ _ hS2 (fun hHeld => ?_)
                    clear hK K hS2
                    try simp only [Act.put]
                    try simp only [List.setIfInBounds_toArray]
                    try simp only [List.set]
                    refine wpAnyH_ready (rs := [8]) (by kernel_rfl) (by simp) ?_
                    refine (AllReadyH.cons (o := { dst := none, op := Go.Op.store 30 (Go.Operand.tmp 5) (Go.Operand.tmp 30), type := 0, pos := _, after := _, guard := _ }) rfl (fun K hK => ?_) AllReadyH.nil)
                    · rw [if_pos (by rfl)]
                      refine wp_store_row 30 (.tmp 5) (.tmp 30) rfl B6 (ctlC ⟨a0, a1, a2, a3, a4, a5, a6, a7, a8, a9⟩).toArray rfl rfl 30 (ctlC ctlZ).toArray z6 (sizeC _) (sameC _ _) (oneC _) ?_
                      have hn := CB.row z6 ⟨a0, a1, a2, a3, a4, a5, a6, a7, a8, a9⟩
                      have ho := CB.rowOther z7 (b := B6) (by omega) ⟨a0, a1, a2, a3, a4, a5, a6, a7, a8, a9⟩
                      have hS2 := below_setRow hHeld hB6 (ctlC ⟨a0, a1, a2, a3, a4, a5, a6, a7, a8, a9⟩).toArray
                      clear z6 z7
                      have z6 := hn
                      have z7 := ho
                      clear hn ho
                      clear hHeld
                      refine hK.out _ _ hS2 (fun hHeld => ?_)
                      clear hK K hS2
                      try simp only [Act.put]
                      try simp only [List.setIfInBounds_toArray]
                      try simp only [List.set]
                      refine wpAnyH_ready (rs := [9]) (by kernel_rfl) (by simp) ?_
                      refine (AllReadyH.cons (o := { dst := none, op := Go.Op.store 30 (Go.Operand.tmp 6) (Go.Operand.tmp 33), type := 0, pos := _, after := _, guard := _ }) rfl (fun K hK => ?_) AllReadyH.nil)
                      · rw [if_pos (by rfl)]
                        refine wp_store_row 30 (.tmp 6) (.tmp 33) rfl B7 (ctlC ⟨c0, c1, c2, c3, c4, c5, c6, c7, c8, c9⟩).toArray rfl rfl 30 (ctlC ctlZ).toArray z7 (sizeC _) (sameC _ _) (oneC _) ?_
                        have hn := CB.row z7 ⟨c0, c1, c2, c3, c4, c5, c6, c7, c8, c9⟩
                        have ho := CB.rowOther z6 (b := B7) (by omega) ⟨c0, c1, c2, c3, c4, c5, c6, c7, c8, c9⟩
                        have hS2 := below_setRow hHeld hB7 (ctlC ⟨c0, c1, c2, c3, c4, c5, c6, c7, c8, c9⟩).toArray
                        clear z6 z7
                        have z7 := hn
                        have z6 := ho
                        clear hn ho
                        clear hHeld
                        refine hK.out _ _ hS2 (fun hHeld => ?_)
                        clear hK K hS2
                        try simp only [Act.put]
                        try simp only [List.setIfInBounds_toArray]
                        try simp only [List.set]
                        refine wpAnyH_done (by kernel_rfl) ?_ _
                        go_wp2_with fail
                        go_meet
                        exact ⟨B6, B7, _, rfl, rfl, rfl, Lib.hid ⟨z6, z7, hHeld⟩⟩
                · go_simp
                  have hl : Aft w5 (w5.alloc (.cells (ctlC ctlZ).toArray 30)) := (Aft.refl _).alloc _
                  have hn : CB (w5.alloc (.cells (ctlC ctlZ).toArray 30)) w5.heap.size ctlZ := heap_alloc_new w5 _
                  have hS2 := Aft.trans hHeld hl
                  have hB7 : W.heap.size ≤ w5.heap.size := hHeld.size
                  obtain ⟨u7, hu⟩ : ∃ u, w5.alloc (.cells (ctlC ctlZ).toArray 30) = u := ⟨_, rfl⟩
                  rw [hu] at hn hS2
                  rw [show w5.alloc (.cells #[.bool false, .bool false, .bool false, .bool false, .bool false, .bool false, .int .i64 0, .int .i64 0, .int .i64 0, .int .i64 0] 30) = u7 from hu]
                  clear hu hl
                  generalize w5.heap.size = B7 at hn hB7 ⊢
                  have z7 := hn
                  clear hn
                  clear hHeld
                  refine hK.out _ _ hS2 (fun hHeld => ?_)
                  clear hK K hS2
                  try simp only [Act.put]
                  try simp only [List.setIfInBounds_toArray]
                  try simp only [List.set]
                  refine wpAnyH_ready (rs := [6]) (by kernel_rfl) (by simp) ?_
                  refine (AllReadyH.cons (o := { dst := some 5, op := Go.Op.alloc 30, type := 0, pos := _, after := _, guard := _ }) rfl (fun K hK => ?_) AllReadyH.nil)
                  · go_simp
                    have hl : Aft u7 (u7.alloc (.cells (ctlC ctlZ).toArray 30)) := (Aft.refl _).alloc _
                    have hn : CB (u7.alloc (.cells (ctlC ctlZ).toArray 30)) u7.heap.size ctlZ := heap_alloc_new u7 _
                    have hS2 := Aft.trans hHeld hl
                    have hB6 : W.heap.size ≤ u7.heap.size := hHeld.size
                    have hne : B7 ≠ u7.heap.size := by have := CB.lt z7; omega
                    have z := CB.aft z7 hl
                    clear z7
                    have z7 := z
                    clear z
                    obtain ⟨u6, hu⟩ : ∃ u, u7.alloc (.cells (ctlC ctlZ).toArray 30) = u := ⟨_, rfl⟩
                    rw [hu] at hn hS2 z7
                    rw [show u7.alloc (.cells #[.bool false, .bool false, .bool false, .bool false, .bool false, .bool false, .int .i64 0, .int .i64 0, .int .i64 0, .int .i64 0] 30) = u6 from hu]
                    clear hu hl
                    generalize u7.heap.size = B6 at hn hB6 hne ⊢
                    have z6 := hn
                    clear hn
                    clear hHeld
                    refine hK.out _ _ hS2 (fun hHeld => ?_)
                    clear hK K hS2
                    try simp only [Act.put]
                    try simp only [List.setIfInBounds_toArray]
                    try simp only [List.set]
                    refine wpAnyH_ready (rs := [8]) (by kernel_rfl) (by simp) ?_
                    refine (AllReadyH.cons (o := { dst := none, op := Go.Op.store 30 (Go.Operand.tmp 5) (Go.Operand.tmp 30), type := 0, pos := _, after := _, guard := _ }) rfl (fun K hK => ?_) AllReadyH.nil)
                    · rw [if_pos (by rfl)]
                      refine wp_store_row 30 (.tmp 5) (.tmp 30) rfl B6 (ctlC ⟨a0, a1, a2, a3, a4, a5, a6, a7, a8, a9⟩).toArray rfl rfl 30 (ctlC ctlZ).toArray z6 (sizeC _) (sameC _ _) (oneC _) ?_
                      have hn := CB.row z6 ⟨a0, a1, a2, a3, a4, a5, a6, a7, a8, a9⟩
                      have ho := CB.rowOther z7 (b := B6) (by omega) ⟨a0, a1, a2, a3, a4, a5, a6, a7, a8, a9⟩
                      have hS2 := below_setRow hHeld hB6 (ctlC ⟨a0, a1, a2, a3, a4, a5, a6, a7, a8, a9⟩).toArray
                      clear z6 z7
                      have z6 := hn
                      have z7 := ho
                      clear hn ho
                      clear hHeld
                      refine hK.out _ _ hS2 (fun hHeld => ?_)
                      clear hK K hS2
                      try simp only [Act.put]
                      try simp only [List.setIfInBounds_toArray]
                      try simp only [List.set]
                      refine wpAnyH_ready (rs := [9]) (by kernel_rfl) (by simp) ?_
                      refine (AllReadyH.cons (o := { dst := none, op := Go.Op.store 30 (Go.Operand.tmp 6) (Go.Operand.tmp 33), type := 0, pos := _, after := _, guard := _ }) rfl (fun K hK => ?_) AllReadyH.nil)
                      · rw [if_pos (by rfl)]
                        refine wp_store_row 30 (.tmp 6) (.tmp 33) rfl B7 (ctlC ⟨c0, c1, c2, c3, c4, c5, c6, c7, c8, c9⟩).toArray rfl rfl 30 (ctlC ctlZ).toArray z7 (sizeC _) (sameC _ _) (oneC _) ?_
                        have hn := CB.row z7 ⟨c0, c1, c2, c3, c4, c5, c6, c7, c8, c9⟩
                        have ho := CB.rowOther z6 (b := B7) (by omega) ⟨c0, c1, c2, c3, c4, c5, c6, c7, c8, c9⟩
                        have hS2 := below_setRow hHeld hB7 (ctlC ⟨c0, c1, c2, c3, c4, c5, c6, c7, c8, c9⟩).toArray
                        clear z6 z7
                        have z7 := hn
                        have z6 := ho
                        clear hn ho
                        clear hHeld
                        refine hK.out _ _ hS2 (fun hHeld => ?_)
                        clear hK K hS2
                        try simp only [Act.put]
                        try simp only [List.setIfInBounds_toArray]
                        try simp only [List.set]
                        refine wpAnyH_done (by kernel_rfl) ?_ _
                        go_wp2_with fail
                        go_meet
                        exact ⟨B6, B7, _, rfl, rfl, rfl, Lib.hid ⟨z6, z7, hHeld⟩⟩
              · go_simp
                have hl : Aft w2 (w2.alloc (.cells (ctlC ctlZ).toArray 30)) := (Aft.refl _).alloc _
                have hn : CB (w2.alloc (.cells (ctlC ctlZ).toArray 30)) w2.heap.size ctlZ := heap_alloc_new w2 _
                have hS2 := Aft.trans hHeld hl
                have hB6 : W.heap.size ≤ w2.heap.size := hHeld.size
                obtain ⟨u6, hu⟩ : ∃ u, w2.alloc (.cells (ctlC ctlZ).toArray 30) = u := ⟨_, rfl⟩
                rw [hu] at hn hS2
                rw [show w2.alloc (.cells #[.bool false, .bool false, .bool false, .bool false, .bool false, .bool false, .int .i64 0, .int .i64 0, .int .i64 0, .int .i64 0] 30) = u6 from hu]
                clear hu hl
                generalize w2.heap.size = B6 at hn hB6 ⊢
                have z6 := hn
                clear hn
                clear hHeld
                refine hK.out _ _ hS2 (fun hHeld => ?_)
                clear hK K hS2
                try simp only [Act.put]
                try simp only [List.setIfInBounds_toArray]
                try simp only [List.set]
                refine wpAnyH_ready (rs := [5, 7]) (by kernel_rfl) (by simp) ?_
                refine (AllReadyH.cons (o := { dst := some 33, op := Go.Op.call { callee := Go.Callee.value (Go.Operand.func 11), args := #[Go.Operand.tmp 32], argTypes := #[22] }, type := 30, pos := _, after := _, guard := _ }) rfl (fun K hK => ?_) (AllReadyH.cons (o := { dst := some 6, op := Go.Op.alloc 30, type := 0, pos := _, after := _, guard := _ }) rfl (fun K hK => ?_) AllReadyH.nil))
                · go_simp
                  go_at_call 11
                  refine (HOS.out _ (RS.out.aft hHeld)).mono ?_
                  rintro e w5 ⟨rfl, ha⟩
                  have hS2 := Aft.trans hHeld ha
                  have z := CB.aft z6 ha
                  clear z6
                  have z6 := z
                  clear z
                  clear ha
                  clear hHeld
                  refine hK.out _ _ hS2 (fun hHeld => ?_)
                  clear hK K hS2
                  try simp only [Act.put]
                  try simp only [List.setIfInBounds_toArray]
                  try simp only [List.set]
                  refine wpAnyH_ready (rs := [7]) (by kernel_rfl) (by simp) ?_
                  refine (AllReadyH.cons (o := { dst := some 6, op := Go.Op.alloc 30, type := 0, pos := _, after := _, guard := _ }) rfl (fun K hK => ?_) AllReadyH.nil)
                  · go_simp
                    have hl : Aft w5 (w5.alloc (.cells (ctlC ctlZ).toArray 30)) := (Aft.refl _).alloc _
                    have hn : CB (w5.alloc (.cells (ctlC ctlZ).toArray 30)) w5.heap.size ctlZ := heap_alloc_new w5 _
                    have hS2 := Aft.trans hHeld hl
                    have hB7 : W.heap.size ≤ w5.heap.size := hHeld.size
                    have hne : B6 ≠ w5.heap.size := by have := CB.lt z6; omega
                    have z := CB.aft z6 hl
                    clear z6
                    have z6 := z
                    clear z
                    obtain ⟨u7, hu⟩ : ∃ u, w5.alloc (.cells (ctlC ctlZ).toArray 30) = u := ⟨_, rfl⟩
                    rw [hu] at hn hS2 z6
                    rw [show w5.alloc (.cells #[.bool false, .bool false, .bool false, .bool false, .bool false, .bool false, .int .i64 0, .int .i64 0, .int .i64 0, .int .i64 0] 30) = u7 from hu]
                    clear hu hl
                    generalize w5.heap.size = B7 at hn hB7 hne ⊢
                    have z7 := hn
                    clear hn
                    clear hHeld
                    refine hK.out _ _ hS2 (fun hHeld => ?_)
                    clear hK K hS2
                    try simp only [Act.put]
                    try simp only [List.setIfInBounds_toArray]
                    try simp only [List.set]
                    refine wpAnyH_ready (rs := [8]) (by kernel_rfl) (by simp) ?_
                    refine (AllReadyH.cons (o := { dst := none, op := Go.Op.store 30 (Go.Operand.tmp 5) (Go.Operand.tmp 30), type := 0, pos := _, after := _, guard := _ }) rfl (fun K hK => ?_) AllReadyH.nil)
                    · rw [if_pos (by rfl)]
                      refine wp_store_row 30 (.tmp 5) (.tmp 30) rfl B6 (ctlC ⟨a0, a1, a2, a3, a4, a5, a6, a7, a8, a9⟩).toArray rfl rfl 30 (ctlC ctlZ).toArray z6 (sizeC _) (sameC _ _) (oneC _) ?_
                      have hn := CB.row z6 ⟨a0, a1, a2, a3, a4, a5, a6, a7, a8, a9⟩
                      have ho := CB.rowOther z7 (b := B6) (by omega) ⟨a0, a1, a2, a3, a4, a5, a6, a7, a8, a9⟩
                      have hS2 := below_setRow hHeld hB6 (ctlC ⟨a0, a1, a2, a3, a4, a5, a6, a7, a8, a9⟩).toArray
                      clear z6 z7
                      have z6 := hn
                      have z7 := ho
                      clear hn ho
                      clear hHeld
                      refine hK.out _ _ hS2 (fun hHeld => ?_)
                      clear hK K hS2
                      try simp only [Act.put]
                      try simp only [List.setIfInBounds_toArray]
                      try simp only [List.set]
                      refine wpAnyH_ready (rs := [9]) (by kernel_rfl) (by simp) ?_
                      refine (AllReadyH.cons (o := { dst := none, op := Go.Op.store 30 (Go.Operand.tmp 6) (Go.Operand.tmp 33), type := 0, pos := _, after := _, guard := _ }) rfl (fun K hK => ?_) AllReadyH.nil)
                      · rw [if_pos (by rfl)]
                        refine wp_store_row 30 (.tmp 6) (.tmp 33) rfl B7 (ctlC ⟨c0, c1, c2, c3, c4, c5, c6, c7, c8, c9⟩).toArray rfl rfl 30 (ctlC ctlZ).toArray z7 (sizeC _) (sameC _ _) (oneC _) ?_
                        have hn := CB.row z7 ⟨c0, c1, c2, c3, c4, c5, c6, c7, c8, c9⟩
                        have ho := CB.rowOther z6 (b := B7) (by omega) ⟨c0, c1, c2, c3, c4, c5, c6, c7, c8, c9⟩
                        have hS2 := below_setRow hHeld hB7 (ctlC ⟨c0, c1, c2, c3, c4, c5, c6, c7, c8, c9⟩).toArray
                        clear z6 z7
                        have z7 := hn
                        have z6 := ho
                        clear hn ho
                        clear hHeld
                        refine hK.out _ _ hS2 (fun hHeld => ?_)
                        clear hK K hS2
                        try simp only [Act.put]
                        try simp only [List.setIfInBounds_toArray]
                        try simp only [List.set]
                        refine wpAnyH_done (by kernel_rfl) ?_ _
                        go_wp2_with fail
                        go_meet
                        exact ⟨B6, B7, _, rfl, rfl, rfl, Lib.hid ⟨z6, z7, hHeld⟩⟩
                · go_simp
                  have hl : Aft u6 (u6.alloc (.cells (ctlC ctlZ).toArray 30)) := (Aft.refl _).alloc _
                  have hn : CB (u6.alloc (.cells (ctlC ctlZ).toArray 30)) u6.heap.size ctlZ := heap_alloc_new u6 _
                  have hS2 := Aft.trans hHeld hl
                  have hB7 : W.heap.size ≤ u6.heap.size := hHeld.size
                  have hne : B6 ≠ u6.heap.size := by have := CB.lt z6; omega
                  have z := CB.aft z6 hl
                  clear z6
                  have z6 := z
                  clear z
                  obtain ⟨u7, hu⟩ : ∃ u, u6.alloc (.cells (ctlC ctlZ).toArray 30) = u := ⟨_, rfl⟩
                  rw [hu] at hn hS2 z6
                  rw [show u6.alloc (.cells #[.bool false, .bool false, .bool false, .bool false, .bool false, .bool false, .int .i64 0, .int .i64 0, .int .i64 0, .int .i64 0] 30) = u7 from hu]
                  clear hu hl
                  generalize u6.heap.size = B7 at hn hB7 hne ⊢
                  have z7 := hn
                  clear hn
                  clear hHeld
                  refine hK.out _ _ hS2 (fun hHeld => ?_)
                  clear hK K hS2
                  try simp only [Act.put]
                  try simp only [List.setIfInBounds_toArray]
                  try simp only [List.set]
                  refine wpAnyH_ready (rs := [5]) (by kernel_rfl) (by simp) ?_
                  refine (AllReadyH.cons (o := { dst := some 33, op := Go.Op.call { callee := Go.Callee.value (Go.Operand.func 11), args := #[Go.Operand.tmp 32], argTypes := #[22] }, type := 30, pos := _, after := _, guard := _ }) rfl (fun K hK => ?_) AllReadyH.nil)
                  · go_simp
                    go_at_call 11
                    refine (HOS.out _ (RS.out.aft hHeld)).mono ?_
                    rintro e w5 ⟨rfl, ha⟩
                    have hS2 := Aft.trans hHeld ha
                    have z := CB.aft z6 ha
                    clear z6
                    have z6 := z
                    clear z
                    have z := CB.aft z7 ha
                    clear z7
                    have z7 := z
                    clear z
                    clear ha
                    clear hHeld
                    refine hK.out _ _ hS2 (fun hHeld => ?_)
                    clear hK K hS2
                    try simp only [Act.put]
                    try simp only [List.setIfInBounds_toArray]
                    try simp only [List.set]
                    refine wpAnyH_ready (rs := [8]) (by kernel_rfl) (by simp) ?_
                    refine (AllReadyH.cons (o := { dst := none, op := Go.Op.store 30 (Go.Operand.tmp 5) (Go.Operand.tmp 30), type := 0, pos := _, after := _, guard := _ }) rfl (fun K hK => ?_) AllReadyH.nil)
                    · rw [if_pos (by rfl)]
                      refine wp_store_row 30 (.tmp 5) (.tmp 30) rfl B6 (ctlC ⟨a0, a1, a2, a3, a4, a5, a6, a7, a8, a9⟩).toArray rfl rfl 30 (ctlC ctlZ).toArray z6 (sizeC _) (sameC _ _) (oneC _) ?_
                      have hn := CB.row z6 ⟨a0, a1, a2, a3, a4, a5, a6, a7, a8, a9⟩
                      have ho := CB.rowOther z7 (b := B6) (by omega) ⟨a0, a1, a2, a3, a4, a5, a6, a7, a8, a9⟩
                      have hS2 := below_setRow hHeld hB6 (ctlC ⟨a0, a1, a2, a3, a4, a5, a6, a7, a8, a9⟩).toArray
                      clear z6 z7
                      have z6 := hn
                      have z7 := ho
                      clear hn ho
                      clear hHeld
                      refine hK.out _ _ hS2 (fun hHeld => ?_)
                      clear hK K hS2
                      try simp only [Act.put]
                      try simp only [List.setIfInBounds_toArray]
                      try simp only [List.set]
                      refine wpAnyH_ready (rs := [9]) (by kernel_rfl) (by simp) ?_
                      refine (AllReadyH.cons (o := { dst := none, op := Go.Op.store 30 (Go.Operand.tmp 6) (Go.Operand.tmp 33), type := 0, pos := _, after := _, guard := _ }) rfl (fun K hK => ?_) AllReadyH.nil)
                      · rw [if_pos (by rfl)]
                        refine wp_store_row 30 (.tmp 6) (.tmp 33) rfl B7 (ctlC ⟨c0, c1, c2, c3, c4, c5, c6, c7, c8, c9⟩).toArray rfl rfl 30 (ctlC ctlZ).toArray z7 (sizeC _) (sameC _ _) (oneC _) ?_
                        have hn := CB.row z7 ⟨c0, c1, c2, c3, c4, c5, c6, c7, c8, c9⟩
                        have ho := CB.rowOther z6 (b := B7) (by omega) ⟨c0, c1, c2, c3, c4, c5, c6, c7, c8, c9⟩
                        have hS2 := below_setRow hHeld hB7 (ctlC ⟨c0, c1, c2, c3, c4, c5, c6, c7, c8, c9⟩).toArray
                        clear z6 z7
                        have z7 := hn
                        have z6 := ho
                        clear hn ho
                        clear hHeld
                        refine hK.out _ _ hS2 (fun hHeld => ?_)
                        clear hK K hS2
                        try simp only [Act.put]
                        try simp only [List.setIfInBounds_toArray]
                        try simp only [List.set]
                        refine wpAnyH_done (by kernel_rfl) ?_ _
                        go_wp2_with fail
                        go_meet
                        exact ⟨B6, B7, _, rfl, rfl, rfl, Lib.hid ⟨z6, z7, hHeld⟩⟩
              · go_simp
                have hl : Aft w2 (w2.alloc (.cells (ctlC ctlZ).toArray 30)) := (Aft.refl _).alloc _
                have hn : CB (w2.alloc (.cells (ctlC ctlZ).toArray 30)) w2.heap.size ctlZ := heap_alloc_new w2 _
                have hS2 := Aft.trans hHeld hl
                have hB7 : W.heap.size ≤ w2.heap.size := hHeld.size
                obtain ⟨u7, hu⟩ : ∃ u, w2.alloc (.cells (ctlC ctlZ).toArray 30) = u := ⟨_, rfl⟩
                rw [hu] at hn hS2
                rw [show w2.alloc (.cells #[.bool false, .bool false, .bool false, .bool false, .bool false, .bool false, .int .i64 0, .int .i64 0, .int .i64 0, .int .i64 0] 30) = u7 from hu]
                clear hu hl
                generalize w2.heap.size = B7 at hn hB7 ⊢
                have z7 := hn
                clear hn
                clear hHeld
                refine hK.out _ _ hS2 (fun hHeld => ?_)
                clear hK K hS2
                try simp only [Act.put]
                try simp only [List.setIfInBounds_toArray]
                try simp only [List.set]
                refine wpAnyH_ready (rs := [5, 6]) (by kernel_rfl) (by simp) ?_
                refine (AllReadyH.cons (o := { dst := some 33, op := Go.Op.call { callee := Go.Callee.value (Go.Operand.func 11), args := #[Go.Operand.tmp 32], argTypes := #[22] }, type := 30, pos := _, after := _, guard := _ }) rfl (fun K hK => ?_) (AllReadyH.cons (o := { dst := some 5, op := Go.Op.alloc 30, type := 0, pos := _, after := _, guard := _ }) rfl (fun K hK => ?_) AllReadyH.nil))
                · go_simp
                  go_at_call 11
                  refine (HOS.out _ (RS.out.aft hHeld)).mono ?_
                  rintro e w5 ⟨rfl, ha⟩
                  have hS2 := Aft.trans hHeld ha
                  have z := CB.aft z7 ha
                  clear z7
                  have z7 := z
                  clear z
                  clear ha
                  clear hHeld
                  refine hK.out _ _ hS2 (fun hHeld => ?_)
                  clear hK K hS2
                  try simp only [Act.put]
                  try simp only [List.setIfInBounds_toArray]
                  try simp only [List.set]
                  refine wpAnyH_ready (rs := [6]) (by kernel_rfl) (by simp) ?_
                  refine (AllReadyH.cons (o := { dst := some 5, op := Go.Op.alloc 30, type := 0, pos := _, after := _, guard := _ }) rfl (fun K hK => ?_) AllReadyH.nil)
                  · go_simp
                    have hl : Aft w5 (w5.alloc (.cells (ctlC ctlZ).toArray 30)) := (Aft.refl _).alloc _
                    have hn : CB (w5.alloc (.cells (ctlC ctlZ).toArray 30)) w5.heap.size ctlZ := heap_alloc_new w5 _
                    have hS2 := Aft.trans hHeld hl
                    have hB6 : W.heap.size ≤ w5.heap.size := hHeld.size
                    have hne : B7 ≠ w5.heap.size := by have := CB.lt z7; omega
                    have z := CB.aft z7 hl
                    clear z7
                    have z7 := z
                    clear z
                    obtain ⟨u6, hu⟩ : ∃ u, w5.alloc (.cells (ctlC ctlZ).toArray 30) = u := ⟨_, rfl⟩
                    rw [hu] at hn hS2 z7
                    rw [show w5.alloc (.cells #[.bool false, .bool false, .bool false, .bool false, .bool false, .bool false, .int .i64 0, .int .i64 0, .int .i64 0, .int .i64 0] 30) = u6 from hu]
                    clear hu hl
                    generalize w5.heap.size = B6 at hn hB6 hne ⊢
                    have z6 := hn
                    clear hn
                    clear hHeld
                    refine hK.out _ _ hS2 (fun hHeld => ?_)
                    clear hK K hS2
                    try simp only [Act.put]
                    try simp only [List.setIfInBounds_toArray]
                    try simp only [List.set]
                    refine wpAnyH_ready (rs := [8]) (by kernel_rfl) (by simp) ?_
                    refine (AllReadyH.cons (o := { dst := none, op := Go.Op.store 30 (Go.Operand.tmp 5) (Go.Operand.tmp 30), type := 0, pos := _, after := _, guard := _ }) rfl (fun K hK => ?_) AllReadyH.nil)
                    · rw [if_pos (by rfl)]
                      refine wp_store_row 30 (.tmp 5) (.tmp 30) rfl B6 (ctlC ⟨a0, a1, a2, a3, a4, a5, a6, a7, a8, a9⟩).toArray rfl rfl 30 (ctlC ctlZ).toArray z6 (sizeC _) (sameC _ _) (oneC _) ?_
                      have hn := CB.row z6 ⟨a0, a1, a2, a3, a4, a5, a6, a7, a8, a9⟩
                      have ho := CB.rowOther z7 (b := B6) (by omega) ⟨a0, a1, a2, a3, a4, a5, a6, a7, a8, a9⟩
                      have hS2 := below_setRow hHeld hB6 (ctlC ⟨a0, a1, a2, a3, a4, a5, a6, a7, a8, a9⟩).toArray
                      clear z6 z7
                      have z6 := hn
                      have z7 := ho
                      clear hn ho
                      clear hHeld
                      refine hK.out _ _ hS2 (fun hHeld => ?_)
                      clear hK K hS2
                      try simp only [Act.put]
                      try simp only [List.setIfInBounds_toArray]
                      try simp only [List.set]
                      refine wpAnyH_ready (rs := [9]) (by kernel_rfl) (by simp) ?_
                      refine (AllReadyH.cons (o := { dst := none, op := Go.Op.store 30 (Go.Operand.tmp 6) (Go.Operand.tmp 33), type := 0, pos := _, after := _, guard := _ }) rfl (fun K hK => ?_) AllReadyH.nil)
                      · rw [if_pos (by rfl)]
                        refine wp_store_row 30 (.tmp 6) (.tmp 33) rfl B7 (ctlC ⟨c0, c1, c2, c3, c4, c5, c6, c7, c8, c9⟩).toArray rfl rfl 30 (ctlC ctlZ).toArray z7 (sizeC _) (sameC _ _) (oneC _) ?_
                        have hn := CB.row z7 ⟨c0, c1, c2, c3, c4, c5, c6, c7, c8, c9⟩
                        have ho := CB.rowOther z6 (b := B7) (by omega) ⟨c0, c1, c2, c3, c4, c5, c6, c7, c8, c9⟩
                        have hS2 := below_setRow hHeld hB7 (ctlC ⟨c0, c1, c2, c3, c4, c5, c6, c7, c8, c9⟩).toArray
                        clear z6 z7
                        have z7 := hn
                        have z6 := ho
                        clear hn ho
                        clear hHeld
                        refine hK.out _ _ hS2 (fun hHeld => ?_)
                        clear hK K hS2
                        try simp only [Act.put]
                        try simp only [List.setIfInBounds_toArray]
                        try simp only [List.set]
                        refine wpAnyH_done (by kernel_rfl) ?_ _
                        go_wp2_with fail
                        go_meet
                        exact ⟨B6, B7, _, rfl, rfl, rfl, Lib.hid ⟨z6, z7, hHeld⟩⟩
                · go_simp
                  have hl : Aft u7 (u7.alloc (.cells (ctlC ctlZ).toArray 30)) := (Aft.refl _).alloc _
                  have hn : CB (u7.alloc (.cells (ctlC ctlZ).toArray 30)) u7.heap.size ctlZ := heap_alloc_new u7 _
                  have hS2 := Aft.trans hHeld hl
                  have hB6 : W.heap.size ≤ u7.heap.size := hHeld.size
                  have hne : B7 ≠ u7.heap.size := by have := CB.lt z7; omega
                  have z := CB.aft z7 hl
                  clear z7
                  have z7 := z
                  clear z
                  obtain ⟨u6, hu⟩ : ∃ u, u7.alloc (.cells (ctlC ctlZ).toArray 30) = u := ⟨_, rfl⟩
                  rw [hu] at hn hS2 z7
                  rw [show u7.alloc (.cells #[.bool false, .bool false, .bool false, .bool false, .bool false, .bool false, .int .i64 0, .int .i64 0, .int .i64 0, .int .i64 0] 30) = u6 from hu]
                  clear hu hl
                  generalize u7.heap.size = B6 at hn hB6 hne ⊢
                  have z6 := hn
                  clear hn
                  clear hHeld
                  refine hK.out _ _ hS2 (fun hHeld => ?_)
                  clear hK K hS2
                  try simp only [Act.put]
                  try simp only [List.setIfInBounds_toArray]
                  try simp only [List.set]
                  refine wpAnyH_ready (rs := [5]) (by kernel_rfl) (by simp) ?_
                  refine (AllReadyH.cons (o := { dst := some 33, op := Go.Op.call { callee := Go.Callee.value (Go.Operand.func 11), args := #[Go.Operand.tmp 32], argTypes := #[22] }, type := 30, pos := _, after := _, guard := _ }) rfl (fun K hK => ?_) AllReadyH.nil)
                  · go_simp
                    go_at_call 11
                    refine (HOS.out _ (RS.out.aft hHeld)).mono ?_
                    rintro e w5 ⟨rfl, ha⟩
                    have hS2 := Aft.trans hHeld ha
                    have z := CB.aft z6 ha
                    clear z6
                    have z6 := z
                    clear z
                    have z := CB.aft z7 ha
                    clear z7
                    have z7 := z
                    clear z
                    clear ha
                    clear hHeld
                    refine hK.out _ _ hS2 (fun hHeld => ?_)
                    clear hK K hS2
                    try simp only [Act.put]
                    try simp only [List.setIfInBounds_toArray]
                    try simp only [List.set]
                    refine wpAnyH_ready (rs := [8]) (by kernel_rfl) (by simp) ?_
                    refine (AllReadyH.cons (o := { dst := none, op := Go.Op.store 30 (Go.Operand.tmp 5) (Go.Operand.tmp 30), type := 0, pos := _, after := _, guard := _ }) rfl (fun K hK => ?_) AllReadyH.nil)
                    · rw [if_pos (by rfl)]
                      refine wp_store_row 30 (.tmp 5) (.tmp 30) rfl B6 (ctlC ⟨a0, a1, a2, a3, a4, a5, a6, a7, a8, a9⟩).toArray rfl rfl 30 (ctlC ctlZ).toArray z6 (sizeC _) (sameC _ _) (oneC _) ?_
                      have hn := CB.row z6 ⟨a0, a1, a2, a3, a4, a5, a6, a7, a8, a9⟩
                      have ho := CB.rowOther z7 (b := B6) (by omega) ⟨a0, a1, a2, a3, a4, a5, a6, a7, a8, a9⟩
                      have hS2 := below_setRow hHeld hB6 (ctlC ⟨a0, a1, a2, a3, a4, a5, a6, a7, a8, a9⟩).toArray
                      clear z6 z7
                      have z6 := hn
                      have z7 := ho
                      clear hn ho
                      clear hHeld
                      refine hK.out _ _ hS2 (fun hHeld => ?_)
                      clear hK K hS2
                      try simp only [Act.put]
                      try simp only [List.setIfInBounds_toArray]
                      try simp only [List.set]
                      refine wpAnyH_ready (rs := [9]) (by kernel_rfl) (by simp) ?_
                      refine (AllReadyH.cons (o := { dst := none, op := Go.Op.store 30 (Go.Operand.tmp 6) (Go.Operand.tmp 33), type := 0, pos := _, after := _, guard := _ }) rfl (fun K hK => ?_) AllReadyH.nil)
                      · rw [if_pos (by rfl)]
                        refine wp_store_row 30 (.tmp 6) (.tmp 33) rfl B7 (ctlC ⟨c0, c1, c2, c3, c4, c5, c6, c7, c8, c9⟩).toArray rfl rfl 30 (ctlC ctlZ).toArray z7 (sizeC _) (sameC _ _) (oneC _) ?_
                        have hn := CB.row z7 ⟨c0, c1, c2, c3, c4, c5, c6, c7, c8, c9⟩
                        have ho := CB.rowOther z6 (b := B7) (by omega) ⟨c0, c1, c2, c3, c4, c5, c6, c7, c8, c9⟩
                        have hS2 := below_setRow hHeld hB7 (ctlC ⟨c0, c1, c2, c3, c4, c5, c6, c7, c8, c9⟩).toArray
                        clear z6 z7
                        have z7 := hn
                        have z6 := ho
                        clear hn ho
                        clear hHeld
                        refine hK.out _ _ hS2 (fun hHeld => ?_)
                        clear hK K hS2
                        try simp only [Act.put]
                        try simp only [List.setIfInBounds_toArray]
                        try simp only [List.set]
                        refine wpAnyH_done (by kernel_rfl) ?_ _
                        go_wp2_with fail
                        go_meet
                        exact ⟨B6, B7, _, rfl, rfl, rfl, Lib.hid ⟨z6, z7, hHeld⟩⟩
            · go_simp
              have hl : Aft Wd (Wd.alloc (.cells (ctlC ctlZ).toArray 30)) := (Aft.refl _).alloc _
              have hn : CB (Wd.alloc (.cells (ctlC ctlZ).toArray 30)) Wd.heap.size ctlZ := heap_alloc_new Wd _
              have hS2 := Aft.trans hHeld hl
              have hB6 : W.heap.size ≤ Wd.heap.size := hHeld.size
              obtain ⟨u6, hu⟩ : ∃ u, Wd.alloc (.cells (ctlC ctlZ).toArray 30) = u := ⟨_, rfl⟩
              rw [hu] at hn hS2
              rw [show Wd.alloc (.cells #[.bool false, .bool false, .bool false, .bool false, .bool false, .bool false, .int .i64 0, .int .i64 0, .int .i64 0, .int .i64 0] 30) = u6 from hu]
              clear hu hl
              generalize Wd.heap.size = B6 at hn hB6 ⊢
              have z6 := hn
              clear hn
              clear hHeld
              refine hK.out _ _ hS2 (fun hHeld => ?_)
              clear hK K hS2
              try simp only [Act.put]
              try simp only [List.setIfInBounds_toArray]
              try simp only [List.set]
              refine wpAnyH_ready (rs := [2, 7]) (by kernel_rfl) (by simp) ?_
              refine (AllReadyH.cons (o := { dst := some 30, op := Go.Op.call { callee := Go.Callee.value (Go.Operand.func 11), args := #[Go.Operand.tmp 29], argTypes := #[22] }, type := 30, pos := _, after := _, guard := _ }) rfl (fun K hK => ?_) (AllReadyH.cons (o := { dst := some 6, op := Go.Op.alloc 30, type := 0, pos := _, after := _, guard := _ }) rfl (fun K hK => ?_) AllReadyH.nil))
              · go_simp
                go_at_call 11
                refine (HOQ.out _ (RQ.out.aft hHeld)).mono ?_
                rintro e w2 ⟨rfl, ha⟩
                have hS2 := Aft.trans hHeld ha
                have z := CB.aft z6 ha
                clear z6
                have z6 := z
                clear z
                clear ha
                clear hHeld
                refine hK.out _ _ hS2 (fun hHeld => ?_)
                clear hK K hS2
                try simp only [Act.put]
                try simp only [List.setIfInBounds_toArray]
                try simp only [List.set]
                refine wpAnyH_ready (rs := [5, 7]) (by kernel_rfl) (by simp) ?_
                refine (AllReadyH.cons (o := { dst := some 33, op := Go.Op.call { callee := Go.Callee.value (Go.Operand.func 11), args := #[Go.Operand.tmp 32], argTypes := #[22] }, type := 30, pos := _, after := _, guard := _ }) rfl (fun K hK => ?_) (AllReadyH.cons (o := { dst := some 6, op := Go.Op.alloc 30, type := 0, pos := _, after := _, guard := _ }) rfl (fun K hK => ?_) AllReadyH.nil))
                · go_simp
                  go_at_call 11
                  refine (HOS.out _ (RS.out.aft hHeld)).mono ?_
                  rintro e w5 ⟨rfl, ha⟩
                  have hS2 := Aft.trans hHeld ha
                  have z := CB.aft z6 ha
                  clear z6
                  have z6 := z
                  clear z
                  clear ha
                  clear hHeld
                  refine hK.out _ _ hS2 (fun hHeld => ?_)
                  clear hK K hS2
                  try simp only [Act.put]
                  try simp only [List.setIfInBounds_toArray]
                  try simp only [List.set]
                  refine wpAnyH_ready (rs := [7]) (by kernel_rfl) (by simp) ?_
                  refine (AllReadyH.cons (o := { dst := some 6, op := Go.Op.alloc 30, type := 0, pos := _, after := _, guard := _ }) rfl (fun K hK => ?_) AllReadyH.nil)
                  · go_simp
                    have hl : Aft w5 (w5.alloc (.cells (ctlC ctlZ).toArray 30)) := (Aft.refl _).alloc _
                    have hn : CB (w5.alloc (.cells (ctlC ctlZ).toArray 30)) w5.heap.size ctlZ := heap_alloc_new w5 _
                    have hS2 := Aft.trans hHeld hl
                    have hB7 : W.heap.size ≤ w5.heap.size := hHeld.size
                    have hne : B6 ≠ w5.heap.size := by have := CB.lt z6; omega
                    have z := CB.aft z6 hl
                    clear z6
                    have z6 := z
                    clear z
                    obtain ⟨u7, hu⟩ : ∃ u, w5.alloc (.cells (ctlC ctlZ).toArray 30) = u := ⟨_, rfl⟩
                    rw [hu] at hn hS2 z6
                    rw [show w5.alloc (.cells #[.bool false, .bool false, .bool false, .bool false, .bool false, .bool false, .int .i64 0, .int .i64 0, .int .i64 0, .int .i64 0] 30) = u7 from hu]
                    clear hu hl
                    generalize w5.heap.size = B7 at hn hB7 hne ⊢
                    have z7 := hn
                    clear hn
                    clear hHeld
                    refine hK.out _ _ hS2 (fun hHeld => ?_)
                    clear hK K hS2
                    try simp only [Act.put]
                    try simp only [List.setIfInBounds_toArray]
                    try simp only [List.set]
                    refine wpAnyH_ready (rs := [8]) (by kernel_rfl) (by simp) ?_
                    refine (AllReadyH.cons (o := { dst := none, op := Go.Op.store 30 (Go.Operand.tmp 5) (Go.Operand.tmp 30), type := 0, pos := _, after := _, guard := _ }) rfl (fun K hK => ?_) AllReadyH.nil)
                    · rw [if_pos (by rfl)]
                      refine wp_store_row 30 (.tmp 5) (.tmp 30) rfl B6 (ctlC ⟨a0, a1, a2, a3, a4, a5, a6, a7, a8, a9⟩).toArray rfl rfl 30 (ctlC ctlZ).toArray z6 (sizeC _) (sameC _ _) (oneC _) ?_
                      have hn := CB.row z6 ⟨a0, a1, a2, a3, a4, a5, a6, a7, a8, a9⟩
                      have ho := CB.rowOther z7 (b := B6) (by omega) ⟨a0, a1, a2, a3, a4, a5, a6, a7, a8, a9⟩
                      have hS2 := below_setRow hHeld hB6 (ctlC ⟨a0, a1, a2, a3, a4, a5, a6, a7, a8, a9⟩).toArray
                      clear z6 z7
                      have z6 := hn
                      have z7 := ho
                      clear hn ho
                      clear hHeld
                      refine hK.out _ _ hS2 (fun hHeld => ?_)
                      clear hK K hS2
                      try simp only [Act.put]
                      try simp only [List.setIfInBounds_toArray]
                      try simp only [List.set]
                      refine wpAnyH_ready (rs := [9]) (by kernel_rfl) (by simp) ?_
                      refine (AllReadyH.cons (o := { dst := none, op := Go.Op.store 30 (Go.Operand.tmp 6) (Go.Operand.tmp 33), type := 0, pos := _, after := _, guard := _ }) rfl (fun K hK => ?_) AllReadyH.nil)
                      · rw [if_pos (by rfl)]
                        refine wp_store_row 30 (.tmp 6) (.tmp 33) rfl B7 (ctlC ⟨c0, c1, c2, c3, c4, c5, c6, c7, c8, c9⟩).toArray rfl rfl 30 (ctlC ctlZ).toArray z7 (sizeC _) (sameC _ _) (oneC _) ?_
                        have hn := CB.row z7 ⟨c0, c1, c2, c3, c4, c5, c6, c7, c8, c9⟩
                        have ho := CB.rowOther z6 (b := B7) (by omega) ⟨c0, c1, c2, c3, c4, c5, c6, c7, c8, c9⟩
                        have hS2 := below_setRow hHeld hB7 (ctlC ⟨c0, c1, c2, c3, c4, c5, c6, c7, c8, c9⟩).toArray
                        clear z6 z7
                        have z7 := hn
                        have z6 := ho
                        clear hn ho
                        clear hHeld
                        refine hK.out _ _ hS2 (fun hHeld => ?_)
                        clear hK K hS2
                        try simp only [Act.put]
                        try simp only [List.setIfInBounds_toArray]
                        try simp only [List.set]
                        refine wpAnyH_done (by kernel_rfl) ?_ _
                        go_wp2_with fail
                        go_meet
                        exact ⟨B6, B7, _, rfl, rfl, rfl, Lib.hid ⟨z6, z7, hHeld⟩⟩
                · go_simp
                  have hl : Aft w2 (w2.alloc (.cells (ctlC ctlZ).toArray 30)) := (Aft.refl _).alloc _
                  have hn : CB (w2.alloc (.cells (ctlC ctlZ).toArray 30)) w2.heap.size ctlZ := heap_alloc_new w2 _
                  have hS2 := Aft.trans hHeld hl
                  have hB7 : W.heap.size ≤ w2.heap.size := hHeld.size
                  have hne : B6 ≠ w2.heap.size := by have := CB.lt z6; omega
                  have z := CB.aft z6 hl
                  clear z6
                  have z6 := z
                  clear z
                  obtain ⟨u7, hu⟩ : ∃ u, w2.alloc (.cells (ctlC ctlZ).toArray 30) = u := ⟨_, rfl⟩
                  rw [hu] at hn hS2 z6
                  rw [show w2.alloc (.cells #[.bool false, .bool false, .bool false, .bool false, .bool false, .bool false, .int .i64 0, .int .i64 0, .int .i64 0, .int .i64 0] 30) = u7 from hu]
                  clear hu hl
                  generalize w2.heap.size = B7 at hn hB7 hne ⊢
                  have z7 := hn
                  clear hn
                  clear hHeld
                  refine hK.out _ _ hS2 (fun hHeld => ?_)
                  clear hK K hS2
                  try simp only [Act.put]
                  try simp only [List.setIfInBounds_toArray]
                  try simp only [List.set]
                  refine wpAnyH_ready (rs := [5]) (by kernel_rfl) (by simp) ?_
                  refine (AllReadyH.cons (o := { dst := some 33, op := Go.Op.call { callee := Go.Callee.value (Go.Operand.func 11), args := #[Go.Operand.tmp 32], argTypes := #[22] }, type := 30, pos := _, after := _, guard := _ }) rfl (fun K hK => ?_) AllReadyH.nil)
                  · go_simp
                    go_at_call 11
                    refine (HOS.out _ (RS.out.aft hHeld)).mono ?_
                    rintro e w5 ⟨rfl, ha⟩
                    have hS2 := Aft.trans hHeld ha
                    have z := CB.aft z6 ha
                    clear z6
                    have z6 := z
                    clear z
                    have z := CB.aft z7 ha
                    clear z7
                    have z7 := z
                    clear z
                    clear ha
                    clear hHeld
                    refine hK.out _ _ hS2 (fun hHeld => ?_)
                    clear hK K hS2
                    try simp only [Act.put]
                    try simp only [List.setIfInBounds_toArray]
                    try simp only [List.set]
                    refine wpAnyH_ready (rs := [8]) (by kernel_rfl) (by simp) ?_
                    refine (AllReadyH.cons (o := { dst := none, op := Go.Op.store 30 (Go.Operand.tmp 5) (Go.Operand.tmp 30), type := 0, pos := _, after := _, guard := _ }) rfl (fun K hK => ?_) AllReadyH.nil)
                    · rw [if_pos (by rfl)]
                      refine wp_store_row 30 (.tmp 5) (.tmp 30) rfl B6 (ctlC ⟨a0, a1, a2, a3, a4, a5, a6, a7, a8, a9⟩).toArray rfl rfl 30 (ctlC ctlZ).toArray z6 (sizeC _) (sameC _ _) (oneC _) ?_
                      have hn := CB.row z6 ⟨a0, a1, a2, a3, a4, a5, a6, a7, a8, a9⟩
                      have ho := CB.rowOther z7 (b := B6) (by omega) ⟨a0, a1, a2, a3, a4, a5, a6, a7, a8, a9⟩
                      have hS2 := below_setRow hHeld hB6 (ctlC ⟨a0, a1, a2, a3, a4, a5, a6, a7, a8, a9⟩).toArray
                      clear z6 z7
                      have z6 := hn
                      have z7 := ho
                      clear hn ho
                      clear hHeld
                      refine hK.out _ _ hS2 (fun hHeld => ?_)
                      clear hK K hS2
                      try simp only [Act.put]
                      try simp only [List.setIfInBounds_toArray]
                      try simp only [List.set]
                      refine wpAnyH_ready (rs := [9]) (by kernel_rfl) (by simp) ?_
                      refine (AllReadyH.cons (o := { dst := none, op := Go.Op.store 30 (Go.Operand.tmp 6) (Go.Operand.tmp 33), type := 0, pos := _, after := _, guard := _ }) rfl (fun K hK => ?_) AllReadyH.nil)
                      · rw [if_pos (by rfl)]
                        refine wp_store_row 30 (.tmp 6) (.tmp 33) rfl B7 (ctlC ⟨c0, c1, c2, c3, c4, c5, c6, c7, c8, c9⟩).toArray rfl rfl 30 (ctlC ctlZ).toArray z7 (sizeC _) (sameC _ _) (oneC _) ?_
                        have hn := CB.row z7 ⟨c0, c1, c2, c3, c4, c5, c6, c7, c8, c9⟩
                        have ho := CB.rowOther z6 (b := B7) (by omega) ⟨c0, c1, c2, c3, c4, c5, c6, c7, c8, c9⟩
                        have hS2 := below_setRow hHeld hB7 (ctlC ⟨c0, c1, c2, c3, c4, c5, c6, c7, c8, c9⟩).toArray
                        clear z6 z7
                        have z7 := hn
                        have z6 := ho
                        clear hn ho
                        clear hHeld
                        refine hK.out _ _ hS2 (fun hHeld => ?_)
                        clear hK K hS2
                        try simp only [Act.put]
                        try simp only [List.setIfInBounds_toArray]
                        try simp only [List.set]
                        refine wpAnyH_done (by kernel_rfl) ?_ _
                        go_wp2_with fail
                        go_meet
                        exact ⟨B6, B7, _, rfl, rfl, rfl, Lib.hid ⟨z6, z7, hHeld⟩⟩
              · go_simp
                have hl : Aft u6 (u6.alloc (.cells (ctlC ctlZ).toArray 30)) := (Aft.refl _).alloc _
                have hn : CB (u6.alloc (.cells (ctlC ctlZ).toArray 30)) u6.heap.size ctlZ := heap_alloc_new u6 _
                have hS2 := Aft.trans hHeld hl
                have hB7 : W.heap.size ≤ u6.heap.size := hHeld.size
                have hne : B6 ≠ u6.heap.size := by have := CB.lt z6; omega
                have z := CB.aft z6 hl
                clear z6
                have z6 := z
                clear z
                obtain ⟨u7, hu⟩ : ∃ u, u6.alloc (.cells (ctlC ctlZ).toArray 30) = u := ⟨_, rfl⟩
                rw [hu] at hn hS2 z6
                rw [show u6.alloc (.cells #[.bool false, .bool false, .bool false, .bool false, .bool false, .bool false, .int .i64 0, .int .i64 0, .int .i64 0, .int .i64 0] 30) = u7 from hu]
                clear hu hl
                generalize u6.heap.size = B7 at hn hB7 hne ⊢
                have z7 := hn
                clear hn
                clear hHeld
                refine hK.out _ _ hS2 (fun hHeld => ?_)
                clear hK K hS2
                try simp only [Act.put]
                try simp only [List.setIfInBounds_toArray]
                try simp only [List.set]
                refine wpAnyH_ready (rs := [2]) (by kernel_rfl) (by simp) ?_
                refine (AllReadyH.cons (o := { dst := some 30, op := Go.Op.call { callee := Go.Callee.value (Go.Operand.func 11), args := #[Go.Operand.tmp 29], argTypes := #[22] }, type := 30, pos := _, after := _, guard := _ }) rfl (fun K hK => ?_) AllReadyH.nil)
                · go_simp
                  go_at_call 11
                  refine (HOQ.out _ (RQ.out.aft hHeld)).mono ?_
                  rintro e w2 ⟨rfl, ha⟩
                  have hS2 := Aft.trans hHeld ha
                  have z := CB.aft z6 ha
                  clear z6
                  have z6 := z
                  clear z
                  have z := CB.aft z7 ha
                  clear z7
                  have z7 := z
                  clear z
                  clear ha
                  clear hHeld
                  refine hK.out _ _ hS2 (fun hHeld => ?_)
                  clear hK K hS2
                  try simp only [Act.put]
                  try simp only [List.setIfInBounds_toArray]
                  try simp only [List.set]
                  refine wpAnyH_ready (rs := [5]) (by kernel_rfl) (by simp) ?_
                  refine (AllReadyH.cons (o := { dst := some 33, op := Go.Op.call { callee := Go.Callee.value (Go.Operand.func 11), args := #[Go.Operand.tmp 32], argTypes := #[22] }, type := 30, pos := _, after := _, guard := _ }) rfl (fun K hK => ?_) AllReadyH.nil)
                  · go_simp
                    go_at_call 11
                    refine (HOS.out _ (RS.out.aft hHeld)).mono ?_
                    rintro e w5 ⟨rfl, ha⟩
                    have hS2 := Aft.trans hHeld ha
                    have z := CB.aft z6 ha
                    clear z6
                    have z6 := z
                    clear z
                    have z := CB.aft z7 ha
                    clear z7
                    have z7 := z
                    clear z
                    clear ha
                    clear hHeld
                    refine hK.out _ _ hS2 (fun hHeld => ?_)
                    clear hK K hS2
                    try simp only [Act.put]
                    try simp only [List.setIfInBounds_toArray]
                    try simp only [List.set]
                    refine wpAnyH_ready (rs := [8]) (by kernel_rfl) (by simp) ?_
                    refine (AllReadyH.cons (o := { dst := none, op := Go.Op.store 30 (Go.Operand.tmp 5) (Go.Operand.tmp 30), type := 0, pos := _, after := _, guard := _ }) rfl (fun K hK => ?_) AllReadyH.nil)
                    · rw [if_pos (by rfl)]
                      refine wp_store_row 30 (.tmp 5) (.tmp 30) rfl B6 (ctlC ⟨a0, a1, a2, a3, a4, a5, a6, a7, a8, a9⟩).toArray rfl rfl 30 (ctlC ctlZ).toArray z6 (sizeC _) (sameC _ _) (oneC _) ?_
                      have hn := CB.row z6 ⟨a0, a1, a2, a3, a4, a5, a6, a7, a8, a9⟩
                      have ho := CB.rowOther z7 (b := B6) (by omega) ⟨a0, a1, a2, a3, a4, a5, a6, a7, a8, a9⟩
                      have hS2 := below_setRow hHeld hB6 (ctlC ⟨a0, a1, a2, a3, a4, a5, a6, a7, a8, a9⟩).toArray
                      clear z6 z7
                      have z6 := hn
                      have z7 := ho
                      clear hn ho
                      clear hHeld
                      refine hK.out _ _ hS2 (fun hHeld => ?_)
                      clear hK K hS2
                      try simp only [Act.put]
                      try simp only [List.setIfInBounds_toArray]
                      try simp only [List.set]
                      refine wpAnyH_ready (rs := [9]) (by kernel_rfl) (by simp) ?_
                      refine (AllReadyH.cons (o := { dst := none, op := Go.Op.store 30 (Go.Operand.tmp 6) (Go.Operand.tmp 33), type := 0, pos := _, after := _, guard := _ }) rfl (fun K hK => ?_) AllReadyH.nil)
                      · rw [if_pos (by rfl)]
                        refine wp_store_row 30 (.tmp 6) (.tmp 33) rfl B7 (ctlC ⟨c0, c1, c2, c3, c4, c5, c6, c7, c8, c9⟩).toArray rfl rfl 30 (ctlC ctlZ).toArray z7 (sizeC _) (sameC _ _) (oneC _) ?_
                        have hn := CB.row z7 ⟨c0, c1, c2, c3, c4, c5, c6, c7, c8, c9⟩
                        have ho := CB.rowOther z6 (b := B7) (by omega) ⟨c0, c1, c2, c3, c4, c5, c6, c7, c8, c9⟩
                        have hS2 := below_setRow hHeld hB7 (ctlC ⟨c0, c1, c2, c3, c4, c5, c6, c7, c8, c9⟩).toArray
                        clear z6 z7
                        have z7 := hn
                        have z6 := ho
                        clear hn ho
                        clear hHeld
                        refine hK.out _ _ hS2 (fun hHeld => ?_)
                        clear hK K hS2
                        try simp only [Act.put]
                        try simp only [List.setIfInBounds_toArray]
                        try simp only [List.set]
                        refine wpAnyH_done (by kernel_rfl) ?_ _
                        go_wp2_with fail
                        go_meet
                        exact ⟨B6, B7, _, rfl, rfl, rfl, Lib.hid ⟨z6, z7, hHeld⟩⟩
            · go_simp
              have hl : Aft Wd (Wd.alloc (.cells (ctlC ctlZ).toArray 30)) := (Aft.refl _).alloc _
              have hn : CB (Wd.alloc (.cells (ctlC ctlZ).toArray 30)) Wd.heap.size ctlZ := heap_alloc_new Wd _
              have hS2 := Aft.trans hHeld hl
              have hB7 : W.heap.size ≤ Wd.heap.size := hHeld.size
              obtain ⟨u7, hu⟩ : ∃ u, Wd.alloc (.cells (ctlC ctlZ).toArray 30) = u := ⟨_, rfl⟩
              rw [hu] at hn hS2
              rw [show Wd.alloc (.cells #[.bool false, .bool false, .bool false, .bool false, .bool false, .bool false, .int .i64 0, .int .i64 0, .int .i64 0, .int .i64 0] 30) = u7 from hu]
              clear hu hl
              generalize Wd.heap.size = B7 at hn hB7 ⊢
              have z7 := hn
              clear hn
              clear hHeld
              refine hK.out _ _ hS2 (fun hHeld => ?_)
              clear hK K hS2
              try simp only [Act.put]
              try simp only [List.setIfInBounds_toArray]
              try simp only [List.set]
              refine wpAnyH_ready (rs := [2, 6]) (by kernel_rfl) (by simp) ?_
              refine (AllReadyH.cons (o := { dst := some 30, op := Go.Op.call { callee := Go.Callee.value (Go.Operand.func 11), args := #[Go.Operand.tmp 29], argTypes := #[22] }, type := 30, pos := _, after := _, guard := _ }) rfl (fun K hK => ?_) (AllReadyH.cons (o := { dst := some 5, op := Go.Op.alloc 30, type := 0, pos := _, after := _, guard := _ }) rfl (fun K hK => ?_) AllReadyH.nil))
              · go_simp
                go_at_call 11
                refine (HOQ.out _ (RQ.out.aft hHeld)).mono ?_
                rintro e w2 ⟨rfl, ha⟩
                have hS2 := Aft.trans hHeld ha
                have z := CB.aft z7 ha
                clear z7
                have z7 := z
                clear z
                clear ha
                clear hHeld
                refine hK.out _ _ hS2 (fun hHeld => ?_)
                clear hK K hS2
                try simp only [Act.put]
                try simp only [List.setIfInBounds_toArray]
                try simp only [List.set]
                refine wpAnyH_ready (rs := [5, 6]) (by kernel_rfl) (by simp) ?_
                refine (AllReadyH.cons (o := { dst := some 33, op := Go.Op.call { callee := Go.Callee.value (Go.Operand.func 11), args := #[Go.Operand.tmp 32], argTypes := #[22] }, type := 30, pos := _, after := _, guard := _ }) rfl (fun K hK => ?_) (AllReadyH.cons (o := { dst := some 5, op := Go.Op.alloc 30, type := 0, pos := _, after := _, guard := _ }) rfl (fun K hK => ?_) AllReadyH.nil))
                · go_simp
                  go_at_call 11
                  refine (HOS.out _ (RS.out.aft hHeld)).mono ?_
                  rintro e w5 ⟨rfl, ha⟩
                  have hS2 := Aft.trans hHeld ha
                  have z := CB.aft z7 ha
                  clear z7
                  have z7 := z
                  clear z
                  clear ha
                  clear hHeld
                  refine hK.out _ _ hS2 (fun hHeld => ?_)
                  clear hK K hS2
                  try simp only [Act.put]
                  try simp only [List.setIfInBounds_toArray]
                  try simp only [List.set]
                  refine wpAnyH_ready (rs := [6]) (by kernel_rfl) (by simp) ?_
                  refine (AllReadyH.cons (o := { dst := some 5, op := Go.Op.alloc 30, type := 0, pos := _, after := _, guard := _ }) rfl (fun K hK => ?_) AllReadyH.nil)
                  · go_simp
                    have hl : Aft w5 (w5.alloc (.cells (ctlC ctlZ).toArray 30)) := (Aft.refl _).alloc _
                    have hn : CB (w5.alloc (.cells (ctlC ctlZ).toArray 30)) w5.heap.size ctlZ := heap_alloc_new w5 _
                    have hS2 := Aft.trans hHeld hl
                    have hB6 : W.heap.size ≤ w5.heap.size := hHeld.size
                    have hne : B7 ≠ w5.heap.size := by have := CB.lt z7; omega
                    have z := CB.aft z7 hl
                    clear z7
                    have z7 := z
                    clear z
                    obtain ⟨u6, hu⟩ : ∃ u, w5.alloc (.cells (ctlC ctlZ).toArray 30) = u := ⟨_, rfl⟩
                    rw [hu] at hn hS2 z7
                    rw [show w5.alloc (.cells #[.bool false, .bool false, .bool false, .bool false, .bool false, .bool false, .int .i64 0, .int .i64 0, .int .i64 0, .int .i64 0] 30) = u6 from hu]
                    clear hu hl
                    generalize w5.heap.size = B6 at hn hB6 hne ⊢
                    have z6 := hn
                    clear hn
                    clear hHeld
                    refine hK.out _ _ hS2 (fun hHeld => ?_)
                    clear hK K hS2
                    try simp only [Act.put]
                    try simp only [List.setIfInBounds_toArray]
                    try simp only [List.set]
                    refine wpAnyH_ready (rs := [8]) (by kernel_rfl) (by simp) ?_
                    refine (AllReadyH.cons (o := { dst := none, op := Go.Op.store 30 (Go.Operand.tmp 5) (Go.Operand.tmp 30), type := 0, pos := _, after := _, guard := _ }) rfl (fun K hK => ?_) AllReadyH.nil)
                    · rw [if_pos (by rfl)]
                      refine wp_store_row 30 (.tmp 5) (.tmp 30) rfl B6 (ctlC ⟨a0, a1, a2, a3, a4, a5, a6, a7, a8, a9⟩).toArray rfl rfl 30 (ctlC ctlZ).toArray z6 (sizeC _) (sameC _ _) (oneC _) ?_
                      have hn := CB.row z6 ⟨a0, a1, a2, a3, a4, a5, a6, a7, a8, a9⟩
                      have ho := CB.rowOther z7 (b := B6) (by omega) ⟨a0, a1, a2, a3, a4, a5, a6, a7, a8, a9⟩
                      have hS2 := below_setRow hHeld hB6 (ctlC ⟨a0, a1, a2, a3, a4, a5, a6, a7, a8, a9⟩).toArray
                      clear z6 z7
                      have z6 := hn
                      have z7 := ho
                      clear hn ho
                      clear hHeld
                      refine hK.out _ _ hS2 (fun hHeld => ?_)
                      clear hK K hS2
                      try simp only [Act.put]
                      try simp only [List.setIfInBounds_toArray]
                      try simp only [List.set]
                      refine wpAnyH_ready (rs := [9]) (by kernel_rfl) (by simp) ?_
                      refine (AllReadyH.cons (o := { dst := none, op := Go.Op.store 30 (Go.Operand.tmp 6) (Go.Operand.tmp 33), type := 0, pos := _, after := _, guard := _ }) rfl (fun K hK => ?_) AllReadyH.nil)
                      · rw [if_pos (by rfl)]
                        refine wp_store_row 30 (.tmp 6) (.tmp 33) rfl B7 (ctlC ⟨c0, c1, c2, c3, c4, c5, c6, c7, c8, c9⟩).toArray rfl rfl 30 (ctlC ctlZ).toArray z7 (sizeC _) (sameC _ _) (oneC _) ?_
                        have hn := CB.row z7 ⟨c0, c1, c2, c3, c4, c5, c6, c7, c8, c9⟩
                        have ho := CB.rowOther z6 (b := B7) (by omega) ⟨c0, c1, c2, c3, c4, c5, c6, c7, c8, c9⟩
                        have hS2 := below_setRow hHeld hB7 (ctlC ⟨c0, c1, c2, c3, c4, c5, c6, c7, c8, c9⟩).toArray
                        clear z6 z7
                        have z7 := hn
                        have z6 := ho
                        clear hn ho
                        clear hHeld
                        refine hK.out _ _ hS2 (fun hHeld => ?_)
                        clear hK K hS2
                        try simp only [Act.put]
                        try simp only [List.setIfInBounds_toArray]
                        try simp only [List.set]
                        refine wpAnyH_done (by kernel_rfl) ?_ _
                        go_wp2_with fail
                        go_meet
                        exact ⟨B6, B7, _, rfl, rfl, rfl, Lib.hid ⟨z6, z7, hHeld⟩⟩
                · go_simp
                  have hl : Aft w2 (w2.alloc (.cells (ctlC ctlZ).toArray 30)) := (Aft.refl _).alloc _
                  have hn : CB (w2.alloc (.cells (ctlC ctlZ).toArray 30)) w2.heap.size ctlZ := heap_alloc_new w2 _
                  have hS2 := Aft.trans hHeld hl
                  have hB6 : W.heap.size ≤ w2.heap.size := hHeld.size
                  have hne : B7 ≠ w2.heap.size := by have := CB.lt z7; omega
                  have z := CB.aft z7 hl
                  clear z7
                  have z7 := z
                  clear z
                  obtain ⟨u6, hu⟩ : ∃ u, w2.alloc (.cells (ctlC ctlZ).toArray 30) = u := ⟨_, rfl⟩
                  rw [hu] at hn hS2 z7
                  rw [show w2.alloc (.cells #[.bool false, .bool false, .bool false, .bool false, .bool false, .bool false, .int .i64 0, .int .i64 0, .int .i64 0, .int .i64 0] 30) = u6 from hu]
                  clear hu hl
                  generalize w2.heap.size = B6 at hn hB6 hne ⊢
                  have z6 := hn
                  clear hn
                  clear hHeld
                  refine hK.out _ _ hS2 (fun hHeld => ?_)
                  clear hK K hS2
                  try simp only [Act.put]
                  try simp only [List.setIfInBounds_toArray]
                  try simp only [List.set]
                  refine wpAnyH_ready (rs := [5]) (by kernel_rfl) (by simp) ?_
                  refine (AllReadyH.cons (o := { dst := some 33, op := Go.Op.call { callee := Go.Callee.value (Go.Operand.func 11), args := #[Go.Operand.tmp 32], argTypes := #[22] }, type := 30, pos := _, after := _, guard := _ }) rfl (fun K hK => ?_) AllReadyH.nil)
                  · go_simp
                    go_at_call 11
                    refine (HOS.out _ (RS.out.aft hHeld)).mono ?_
                    rintro e w5 ⟨rfl, ha⟩
                    have hS2 := Aft.trans hHeld ha
                    have z := CB.aft z6 ha
                    clear z6
                    have z6 := z
                    clear z
                    have z := CB.aft z7 ha
                    clear z7
                    have z7 := z
                    clear z
                    clear ha
                    clear hHeld
                    refine hK.out _ _ hS2 (fun hHeld => ?_)
                    clear hK K hS2
                    try simp only [Act.put]
                    try simp only [List.setIfInBounds_toArray]
                    try simp only [List.set]
                    refine wpAnyH_ready (rs := [8]) (by kernel_rfl) (by simp) ?_
                    refine (AllReadyH.cons (o := { dst := none, op := Go.Op.store 30 (Go.Operand.tmp 5) (Go.Operand.tmp 30), type := 0, pos := _, after := _, guard := _ }) rfl (fun K hK => ?_) AllReadyH.nil)
                    · rw [if_pos (by rfl)]
                      refine wp_store_row 30 (.tmp 5) (.tmp 30) rfl B6 (ctlC ⟨a0, a1, a2, a3, a4, a5, a6, a7, a8, a9⟩).toArray rfl rfl 30 (ctlC ctlZ).toArray z6 (sizeC _) (sameC _ _) (oneC _) ?_
                      have hn := CB.row z6 ⟨a0, a1, a2, a3, a4, a5, a6, a7, a8, a9⟩
                      have ho := CB.rowOther z7 (b := B6) (by omega) ⟨a0, a1, a2, a3, a4, a5, a6, a7, a8, a9⟩
                      have hS2 := below_setRow hHeld hB6 (ctlC ⟨a0, a1, a2, a3, a4, a5, a6, a7, a8, a9⟩).toArray
                      clear z6 z7
                      have z6 := hn
                      have z7 := ho
                      clear hn ho
                      clear hHeld
                      refine hK.out _ _ hS2 (fun hHeld => ?_)
                      clear hK K hS2
                      try simp only [Act.put]
                      try simp only [List.setIfInBounds_toArray]
                      try simp only [List.set]
                      refine wpAnyH_ready (rs := [9]) (by kernel_rfl) (by simp) ?_
                      refine (AllReadyH.cons (o := { dst := none, op := Go.Op.store 30 (Go.Operand.tmp 6) (Go.Operand.tmp 33), type := 0, pos := _, after := _, guard := _ }) rfl (fun K hK => ?_) AllReadyH.nil)
                      · rw [if_pos (by rfl)]
                        refine wp_store_row 30 (.tmp 6) (.tmp 33) rfl B7 (ctlC ⟨c0, c1, c2, c3, c4, c5, c6, c7, c8, c9⟩).toArray rfl rfl 30 (ctlC ctlZ).toArray z7 (sizeC _) (sameC _ _) (oneC _) ?_
                        have hn := CB.row z7 ⟨c0, c1, c2, c3, c4, c5, c6, c7, c8, c9⟩
                        have ho := CB.rowOther z6 (b := B7) (by omega) ⟨c0, c1, c2, c3, c4, c5, c6, c7, c8, c9⟩
                        have hS2 := below_setRow hHeld hB7 (ctlC ⟨c0, c1, c2, c3, c4, c5, c6, c7, c8, c9⟩).toArray
                        clear z6 z7
                        have z7 := hn
                        have z6 := ho
                        clear hn ho
                        clear hHeld
                        refine hK.out _ _ hS2 (fun hHeld => ?_)
                        clear hK K hS2
                        try simp only [Act.put]
                        try simp only [List.setIfInBounds_toArray]
                        try simp only [List.set]
                        refine wpAnyH_done (by kernel_rfl) ?_ _
                        go_wp2_with fail
                        go_meet
                        exact ⟨B6, B7, _, rfl, rfl, rfl, Lib.hid ⟨z6, z7, hHeld⟩⟩
              · go_simp
                have hl : Aft u7 (u7.alloc (.cells (ctlC ctlZ).toArray 30)) := (Aft.refl _).alloc _
                have hn : CB (u7.alloc (.cells (ctlC ctlZ).toArray 30)) u7.heap.size ctlZ := heap_alloc_new u7 _
                have hS2 := Aft.trans hHeld hl
                have hB6 : W.heap.size ≤ u7.heap.size := hHeld.size
                have hne : B7 ≠ u7.heap.size := by have := CB.lt z7; omega
                have z := CB.aft z7 hl
                clear z7
                have z7 := z
                clear z
                obtain ⟨u6, hu⟩ : ∃ u, u7.alloc (.cells (ctlC ctlZ).toArray 30) = u := ⟨_, rfl⟩
                rw [hu] at hn hS2 z7
                rw [show u7.alloc (.cells #[.bool false, .bool false, .bool false, .bool false, .bool false, .bool false, .int .i64 0, .int .i64 0, .int .i64 0, .int .i64 0] 30) = u6 from hu]
                clear hu hl
                generalize u7.heap.size = B6 at hn hB6 hne ⊢
                have z6 := hn
                clear hn
                clear hHeld
                refine hK.out _ _ hS2 (fun hHeld => ?_)
                clear hK K hS2
                try simp only [Act.put]
                try simp only [List.setIfInBounds_toArray]
                try simp only [List.set]
                refine wpAnyH_ready (rs := [2]) (by kernel_rfl) (by simp) ?_
                refine (AllReadyH.cons (o := { dst := some 30, op := Go.Op.call { callee := Go.Callee.value (Go.Operand.func 11), args := #[Go.Operand.tmp 29], argTypes := #[22] }, type := 30, pos := _, after := _, guard := _ }) rfl (fun K hK => ?_) AllReadyH.nil)
                · go_simp
                  go_at_call 11
                  refine (HOQ.out _ (RQ.out.aft hHeld)).mono ?_
                  rintro e w2 ⟨rfl, ha⟩
                  have hS2 := Aft.trans hHeld ha
                  have z := CB.aft z6 ha
                  clear z6
                  have z6 := z
                  clear z
                  have z := CB.aft z7 ha
                  clear z7
                  have z7 := z
                  clear z
                  clear ha
                  clear hHeld
                  refine hK.out _ _ hS2 (fun hHeld => ?_)
                  clear hK K hS2
                  try simp only [Act.put]
                  try simp only [List.setIfInBounds_toArray]
                  try simp only [List.set]
                  refine wpAnyH_ready (rs := [5]) (by kernel_rfl) (by simp) ?_
                  refine (AllReadyH.cons (o := { dst := some 33, op := Go.Op.call { callee := Go.Callee.value (Go.Operand.func 11), args := #[Go.Operand.tmp 32], argTypes := #[22] }, type := 30, pos := _, after := _, guard := _ }) rfl (fun K hK => ?_) AllReadyH.nil)
                  · go_simp
                    go_at_call 11
                    refine (HOS.out _ (RS.out.aft hHeld)).mono ?_
                    rintro e w5 ⟨rfl, ha⟩
                    have hS2 := Aft.trans hHeld ha
                    have z := CB.aft z6 ha
                    clear z6
                    have z6 := z
                    clear z
                    have z := CB.aft z7 ha
                    clear z7
                    have z7 := z
                    clear z
                    clear ha
                    clear hHeld
                    refine hK.out _ _ hS2 (fun hHeld => ?_)
                    clear hK K hS2
                    try simp only [Act.put]
                    try simp only [List.setIfInBounds_toArray]
                    try simp only [List.set]
                    refine wpAnyH_ready (rs := [8]) (by kernel_rfl) (by simp) ?_
                    refine (AllReadyH.cons (o := { dst := none, op := Go.Op.store 30 (Go.Operand.tmp 5) (Go.Operand.tmp 30), type := 0, pos := _, after := _, guard := _ }) rfl (fun K hK => ?_) AllReadyH.nil)
                    · rw [if_pos (by rfl)]
                      refine wp_store_row 30 (.tmp 5) (.tmp 30) rfl B6 (ctlC ⟨a0, a1, a2, a3, a4, a5, a6, a7, a8, a9⟩).toArray rfl rfl 30 (ctlC ctlZ).toArray z6 (sizeC _) (sameC _ _) (oneC _) ?_
                      have hn := CB.row z6 ⟨a0, a1, a2, a3, a4, a5, a6, a7, a8, a9⟩
                      have ho := CB.rowOther z7 (b := B6) (by omega) ⟨a0, a1, a2, a3, a4, a5, a6, a7, a8, a9⟩
                      have hS2 := below_setRow hHeld hB6 (ctlC ⟨a0, a1, a2, a3, a4, a5, a6, a7, a8, a9⟩).toArray
                      clear z6 z7
                      have z6 := hn
                      have z7 := ho
                      clear hn ho
                      clear hHeld
                      refine hK.out _ _ hS2 (fun hHeld => ?_)
                      clear hK K hS2
                      try simp only [Act.put]
                      try simp only [List.setIfInBounds_toArray]
                      try simp only [List.set]
                      refine wpAnyH_ready (rs := [9]) (by kernel_rfl) (by simp) ?_
                      refine (AllReadyH.cons (o := { dst := none, op := Go.Op.store 30 (Go.Operand.tmp 6) (Go.Operand.tmp 33), type := 0, pos := _, after := _, guard := _ }) rfl (fun K hK => ?_) AllReadyH.nil)
                      · rw [if_pos (by rfl)]
                        refine wp_store_row 30 (.tmp 6) (.tmp 33) rfl B7 (ctlC ⟨c0, c1, c2, c3, c4, c5, c6, c7, c8, c9⟩).toArray rfl rfl 30 (ctlC ctlZ).toArray z7 (sizeC _) (sameC _ _) (oneC _) ?_
                        have hn := CB.row z7 ⟨c0, c1, c2, c3, c4, c5, c6, c7, c8, c9⟩
                        have ho := CB.rowOther z6 (b := B7) (by omega) ⟨c0, c1, c2, c3, c4, c5, c6, c7, c8, c9⟩
                        have hS2 := below_setRow hHeld hB7 (ctlC ⟨c0, c1, c2, c3, c4, c5, c6, c7, c8, c9⟩).toArray
                        clear z6 z7
                        have z7 := hn
                        have z6 := ho
                        clear hn ho
                        clear hHeld
                        refine hK.out _ _ hS2 (fun hHeld => ?_)
                        clear hK K hS2
                        try simp only [Act.put]
                        try simp only [List.setIfInBounds_toArray]
                        try simp only [List.set]
                        refine wpAnyH_done (by kernel_rfl) ?_ _
                        go_wp2_with fail
                        go_meet
                        exact ⟨B6, B7, _, rfl, rfl, rfl, Lib.hid ⟨z6, z7, hHeld⟩⟩
          case rest =>
            obtain ⟨B6, B7, U, hU, rfl, rfl, HCUT⟩ := hcut
            subst hU
            have HU := Lib.hid HCUT.out.2.2
            have HC7 := Lib.hid HCUT.out.2.1
            obtain ⟨p0, p1, p2, p3, p4, p5, p6, p7, p8, p9⟩ := CB.cells HCUT.out.1
            obtain ⟨q0, q1, q2, q3, q4, q5, q6, q7, q8, q9⟩ := CB.cells HC7.out
            obtain ⟨f0, f1, f2, f3, f4, f5⟩ := (HB6.out.aft HU.out).cells
            obtain ⟨t0, t1, t2⟩ := (HB3.out.aft HU.out).cells
            clear HCUT
            cases a0
            · cases c0
              · cases c2
                · go_wp2_with fail
                  refine (HST.out _ (RS.out.aft HU.out)).mono ?_
                  rintro e w8 ⟨u8, rfl, b8⟩
                  have HV := Lib.hid (HU.out.trans b8)
                  have HC8 := Lib.hid (HC7.out.aft b8)
                  obtain ⟨q0, q1, q2, q3, q4, q5, q6, q7, q8, q9⟩ := CB.cells HC8.out
                  obtain ⟨f0, f1, f2, f3, f4, f5⟩ := (HB6.out.aft HV.out).cells
                  obtain ⟨t0, t1, t2⟩ := (HB3.out.aft HV.out).cells
                  clear b8
                  cases star
                  · by_cases h7 : 0 ≤ c7
                    all_goals
                      first | have b7 : decide (0 ≤ c7) = true := decide_eq_true h7 | have b7 : decide (0 ≤ c7) = false := decide_eq_false h7
                      go_wp2_with fail
                      refine (HHA.out _ (RQ.out.aft HV.out)).mono ?_
                      rintro e w9 ⟨rfl, b9⟩
                      have HX := Lib.hid (HV.out.trans b9)
                      have HC9 := Lib.hid (HC8.out.aft b9)
                      obtain ⟨q0, q1, q2, q3, q4, q5, q6, q7, q8, q9⟩ := CB.cells HC9.out
                      obtain ⟨f0, f1, f2, f3, f4, f5⟩ := (HB6.out.aft HX.out).cells
                      obtain ⟨t0, t1, t2⟩ := (HB3.out.aft HX.out).cells
                      clear b9
                      cases auth
                      all_goals
                        cases c4
                        all_goals
                          cases c3
                          all_goals first
                            | (go_wp2_with fail
                               go_ret
                               exact ⟨ret_bool (by rw [← HR2.out, b7]; rfl), HA0.out.trans HX.out⟩)
                            | (by_cases h6 : 0 ≤ c6
                               · have b6 : decide (0 ≤ c6) = true := decide_eq_true h6
                                 go_wp2_with fail
                                 go_ret
                                 exact ⟨ret_bool (by rw [← HR2.out, b6, b7]; rfl), HA0.out.trans HX.out⟩
                               · have b6 : decide (0 ≤ c6) = false := decide_eq_false h6
                                 go_wp2_with fail
                                 refine (HHE.out _ (RS.out.aft HX.out)).mono ?_
                                 rintro e w10 ⟨rfl, b10⟩
                                 have HY := Lib.hid (HX.out.trans b10)
                                 obtain ⟨t0, t1, t2⟩ := (HB3.out.aft HY.out).cells
                                 clear b10
                                 cases exp
                                 · go_wp2_with fail
                                   refine (HPL.out _).mono ?_
                                   rintro e w11 ⟨rfl, rfl⟩
                                   go_wp2_with fail
                                   go_ret
                                   exact ⟨ret_bool (by rw [← HR2.out, b6, b7]; rfl), HA0.out.trans HY.out⟩
                                 · go_wp2_with fail
                                   go_ret
                                   exact ⟨ret_bool (by rw [← HR2.out, b6, b7]; rfl), HA0.out.trans HY.out⟩)
                  · have HR3 : Hid (R = false) := Lib.hid (by rw [← HR2.out]; simp)
                    go_wp2_with fail
                    go_ret
                    exact ⟨ret_bool HR3.out.symm, HA0.out.trans HV.out⟩
                · have HR3 : Hid (R = false) := Lib.hid (by rw [← HR2.out]; simp)
                  go_wp2_with fail
                  go_ret
                  exact ⟨ret_bool HR3.out.symm, HA0.out.trans HU.out⟩
              · have HR3 : Hid (R = false) := Lib.hid (by rw [← HR2.out]; simp)
                go_wp2_with fail
                go_ret
                exact ⟨ret_bool HR3.out.symm, HA0.out.trans HU.out⟩
            · have HR3 : Hid (R = false) := Lib.hid (by rw [← HR2.out]; simp)
              go_wp2_with fail
              go_ret
              exact ⟨ret_bool HR3.out.symm, HA0.out.trans HU.out⟩

end Go.Proofs.Ytaaffpndfeidfaa
