/-
  The walks of reservoirbook.Roomy, Same and Intact at fields.
-/
import Derived.Test.YtimpnknmhbpffaaFl
import Derived.Laws.CopyOwn
import Derived.Laws.CopyRow
import Derived.OwnWalk
namespace Go.Proofs.Ytimpnknmhbpffaa
open Go.RowKit

theorem run_copy_wide {P : Program} (w : World) (dT sT ty elem : TypeId) (size g dLen dCap : Nat) (a : Addr) (sLen sCap : Nat) (cur : Array Value) (t : TypeId) (cs : List Value)
    (hu : P.underlying dT = some (.slice elem)) (hs : (P.info? elem).map (·.size) = some size)
    (hg : w.heap[g]? = some (.cells cur t (0, 0))) (hn : cs.length = Nat.min sLen dLen * size)
    (hsrc : ∀ j v, cs[j]? = some v → w.cell? (a.add j) = some v) (hfit : cs.length ≤ cur.size) (h1 : ∀ v ∈ cs, v.oneCell' = true) :
    (Builtin.copy_ #[dT, sT] ty #[.slice (some ⟨g, 0, none⟩) dLen dCap, .slice (some a) sLen sCap]).run P w =
      .ok (goInt (Nat.min sLen dLen)) (w.setRow g (cs ++ cur.toList.drop cs.length).toArray) := by
  have hl := run_loadCells_list (P := P) w a cs hsrc
  have hst := run_storeCells_at P g 0 t cs 0 cur w hg (by simpa using hfit) h1
  cases hq : P.info? elem with
  | none => simp [hq] at hs
  | some i =>
    have hi : i.size = size := by simpa [hq] using hs
    have hst2 : (storeCells ⟨g, 0, none⟩ cs).run P w = .ok () (w.setRow g (cs ++ cur.toList.drop cs.length).toArray) := by simpa using hst
    simp [Builtin.copy_, run_underlying hu, Builtin.lenOf, Builtin.firstCells, sizeOf, typeInfo, hq, hi, ← hn, hl, hst2]
def markF : FieldL := ([109], [])
def markedF (l : List FieldL) (j : Nat) : List FieldL := l ++ (List.replicate j markF ++ List.replicate (80 - j) ([], []))
theorem markedF_len (l : List FieldL) {j : Nat} (hj : j ≤ 80) : (markedF l j).length = l.length + 80 := by simp [markedF]; omega
theorem markedF_set (l : List FieldL) {j : Nat} (hj : j < 80) : (markedF l j).set (l.length + j) markF = markedF l (j + 1) := by
  unfold markedF
  rw [List.set_append_right _ _ (by omega), show l.length + j - l.length = j by omega, List.set_append_right _ _ (by simp), List.length_replicate, Nat.sub_self, show 80 - j = (80 - (j + 1)) + 1 by omega, List.replicate_succ, List.set_cons_zero, List.replicate_succ']
  simp

theorem made_fv (n : Nat) : (madeCells (Value.agg #[.string ⟨#[]⟩, .string ⟨#[]⟩]).cells (n * 2)).toList = fv (List.replicate n ([], [])) := by
  rw [fv_rep]
  apply List.ext_getElem?
  intro j
  by_cases hj : j < n * 2
  · have h2 : j % 2 = 0 ∨ j % 2 = 1 := by omega
    rcases h2 with h | h <;> simp [madeCells, hj, Value.cells, h, strV]
  · simp [madeCells, hj]
theorem own_blockF {w : World} {base e size g n : Nat} {xs : List Value} (h : w.ownsRow base e size (.slice (some ⟨g, 0, none⟩) n n) n xs) : w.heap[g]? = some (.cells xs.toArray e (0, 0)) := by
  obtain ⟨h1, ⟨h2, _⟩ | ⟨g', cap, cur, h2, h3, h4, h5, h6, h7, h8⟩⟩ := h
  · cases h2
  · injection h2 with e1 _ e2
    injection e1 with e1
    injection e1 with e1
    subst e1 e2
    rw [List.take_of_length_le (by simp [h7])] at h8
    rw [h4, ← h8]

/-- 'copy(full, l)', full a new block. -/
theorem wpList_copyF {w : World} {ops : Array Oper} {rest : List Oper} {o : Oper} {a : Act} {Q : Exit → Act → World → Prop} (hgd : o.guard = none) (d s : Operand)
    (ho : o.op = .call { callee := .builtin .copy, args := #[d, s], argTypes := #[23, 23] })
    (g : Nat) (v : Value) (l : List FieldL) (hd : a.eval d = .slice (some ⟨g, 0, none⟩) (l.length + 80) (l.length + 80)) (hs : a.eval s = v) (hr : RbF w v l) (hb : FB w g (List.replicate (l.length + 80) ([], [])))
    (B : Nat) (w0 : World) (hbel : Below B w0 w) (hB : B ≤ g)
    (h : ∀ w', FB w' g (markedF l 0) → Below B w0 w' → wpList Try.prog ops Q rest (a.put o.dst (goInt l.length)) w') : wpList Try.prog ops Q (o :: rest) a w := by
  obtain ⟨i0, hi, hz0, hz1, hz2⟩ := info_parts infoF
  have hsz : (Try.prog.info? 32).map (·.size) = some 2 := by kernel_rfl
  have hmin : Nat.min l.length (l.length + 80) = l.length := Nat.min_eq_left (by omega)
  have hfin : fv l ++ (fv (List.replicate (l.length + 80) ([], []))).toArray.toList.drop (fv l).length = fv (markedF l 0) := by
    have e : List.replicate (l.length + 80) (([], []) : FieldL) = List.replicate l.length ([], []) ++ List.replicate 80 ([], []) := List.replicate_append_replicate.symm
    unfold markedF
    rw [fv_append]
    refine congrArg (fun z => fv l ++ z) ?_
    rw [e, fv_append]
    rw [List.drop_append_of_le_length (by rw [fv_len, fv_len, List.length_replicate]; exact Nat.le_refl _), List.drop_eq_nil_of_le (by rw [fv_len, fv_len, List.length_replicate]; exact Nat.le_refl _)]
    rfl
  rcases hr with ⟨rfl, rfl⟩ | ⟨b, off, cap, rfl, h1, h2, h3, h4⟩
  · refine wpList_plain hgd fun K hK => ?_
    have hrun : (Builtin.copy_ #[23, 23] o.type #[.slice (some ⟨g, 0, none⟩) (([] : List FieldL).length + 80) (([] : List FieldL).length + 80), .slice none 0 0]).run Try.prog w = .ok (goInt 0) w := by
      exact run_copy_nil Try.prog w _ _ o.type 32 ⟨g, 0, none⟩ _ _ Try.underlying23 (by rw [hsz]; rfl)
    unfold Oper.wp
    simp [execOp, ho, resolve, invoke, builtin, hd, hs, Result.andThen] at hrun ⊢
    rw [hrun]
    exact hK _ _ (h w (by unfold FB; exact hb) hbel)
  · refine wpList_plain hgd fun K hK => ?_
    have hrun := run_copy_wide (P := Try.prog) w 23 23 o.type 32 2 g (l.length + 80) (l.length + 80) ⟨b, off, none⟩ l.length cap (fv (List.replicate (l.length + 80) ([], []))).toArray 32 (fv l) Try.underlying23 hsz hb (by rw [fv_len, hmin]) (fun j u hj => by
      rw [Addr.add_lit]
      have hjl := (List.getElem?_eq_some_iff.1 hj).1
      rw [fv_len] at hjl
      obtain ⟨e1, e2⟩ := fv_get l (j / 2) (by omega)
      obtain ⟨c1, c2⟩ := h4 (j / 2) (by omega)
      rcases (show j = j / 2 * 2 ∨ j = j / 2 * 2 + 1 by omega) with e | e
      · rw [e, e1] at hj
        rw [e, c1, hj]
      · rw [e, e2] at hj
        rw [e, show off + (j / 2 * 2 + 1) = off + j / 2 * 2 + 1 by omega, c2, hj]) (by simp [fv_len]; omega) (fv_one l)
    rw [hfin, hmin] at hrun
    unfold Oper.wp
    simp [execOp, ho, resolve, invoke, builtin, hd, hs, hrun, Result.andThen]
    exact hK _ _ (h _ (setRow_heap w g _ _ 32 (0, 0) hb) (below_setRow hbel hB _))

theorem below_aftF {B : Nat} {w w' : World} (h : Below B w w') (hB : w.heap.size = B) : Aft w w' := by
  subst hB
  exact h

set_option maxHeartbeats 2000000 in
theorem roomyF_any (v : Value) (l : List FieldL) (w : World) (hr : RbF w v l) (hlen : l.length ≤ 1000000) :
    Calls Try.prog 20 #[v, .agg #[.string ⟨#[109]⟩, .string ⟨#[]⟩]] w fun e w' => ∃ g, e = .returned (.slice (some ⟨g, 0, none⟩) (l.length + 80) (l.length + 80)) ∧ Hid (FB w' g (l ++ List.replicate 80 markF)) ∧ Aft w w' := by
  obtain ⟨i0, hi, hz0, hz1, hz2⟩ := info_parts infoF
  have hb2 : i0.bytes * (l.length + 80) ≤ 281474976710656 := by rw [hz2]; omega
  have hb3 : l.length + 80 ≤ maxLen := by unfold maxLen; omega
  obtain ⟨B, hB⟩ : ∃ B, w.heap.size = B := ⟨_, rfl⟩
  have HB := Lib.hid hB
  have hbz : (w.alloc (.cells #[.string ⟨#[109]⟩, .string ⟨#[]⟩] 32)).heap.size = B + 1 := by rw [World.size_alloc, hB]
  have m0 : (w.alloc (.cells #[.string ⟨#[109]⟩, .string ⟨#[]⟩] 32)).cell? ⟨B, 0, none⟩ = some (.string ⟨#[109]⟩) := by subst hB; simp [go_sem]
  have m1 : (w.alloc (.cells #[.string ⟨#[109]⟩, .string ⟨#[]⟩] 32)).cell? ⟨B, 1, none⟩ = some (.string ⟨#[]⟩) := by subst hB; simp [go_sem]
  have HR := Lib.hid (hr.aft ((Aft.refl w).alloc (.cells #[.string ⟨#[109]⟩, .string ⟨#[]⟩] 32)))
  have HA := Lib.hid ((Aft.refl w).alloc (.cells #[.string ⟨#[109]⟩, .string ⟨#[]⟩] 32))
  obtain ⟨a1, c1, b1, o1, rfl, _, _, _⟩ := hr.open
  have HM := Lib.hid (And.intro m0 m1)
  have HBZ := Lib.hid hbz
  clear hr m0 m1 hbz hB
  go_enter Try.func20, Try.ntmps20
  go_wp2_with (first | (at_make; refine wpList_make_full _ rfl _ _ 23 rfl (B + 1) 32 i0 (.agg #[.string ⟨#[]⟩, .string ⟨#[]⟩]) 2 Try.underlying23 hi hz0 hz1 .i64 .i64 _ _ (l.length + 80) rfl rfl (by push_cast; rfl) (by push_cast; rfl) hb2 hb3 (Nat.le_of_eq HBZ.out.symm) ?_; intro w3 hown3 hg3; rw [HBZ.out] at hown3; rw [made_fv] at hown3; have HBK : Hid (FB w3 (B + 1) (List.replicate (l.length + 80) ([], []))) := Lib.hid (own_blockF hown3); have HR3 := Lib.hid (HR.out.aft (Below.grown (Below.refl _ _) hg3 (Nat.le_refl _) (fun k hk => by cases hk))); have HBE := Lib.hid (Below.grown (Below.refl (B + 1) _) hg3 (Nat.le_of_eq HBZ.out.symm) (fun k hk => by cases hk)); rw [HBZ.out, HB.out]; clear hown3 hg3) | (with_reducible refine wpList_copyF rfl (.tmp 11) (.tmp 12) rfl (B + 1) _ l ?r4 ?r5 HR3.out HBK.out (B + 1) _ HBE.out (Nat.le_refl _) ?r6))
  case r4 => rfl
  case r5 => rfl
  case r6 =>
    intro w4 hb4 hbel4
    have hm0 := HM.out.1
    have hm1 := HM.out.2
    have hA := HA.out
    have hZ := HBZ.out
    clear HM HA HBZ HBK HR3 HBE HR hi hz0 hz1 hz2 hb2
    generalize w.alloc (.cells #[.string ⟨#[109]⟩, .string ⟨#[]⟩] 32) = W1 at hm0 hm1 hA hZ hbel4
    have H4 := Lib.hid hb4
    have HM0 := Lib.hid hm0
    have HM1 := Lib.hid hm1
    have HA := Lib.hid hA
    have HZ := Lib.hid hZ
    clear hb4 hm0 hm1 hA hZ
    have hl63 : l.length + 80 ≤ 2000000000 := by omega
    clear hb3
    go_wp2_with fail
    go_loopw [6] (fun vi wr => ∃ j : Nat, j ≤ 80 ∧ vi = .int .i64 ((l.length + j : Nat) : Int) ∧ Hid (FB wr (B + 1) (markedF l j)) ∧ Hid (Below (B + 1) W1 wr)) (fun vi _ => l.length + 80 - (intOf vi).toNat)
    case atStart => exact ⟨0, by omega, by go_num, H4, Lib.hid hbel4⟩
    case round =>
      obtain ⟨j, hj, rfl, HB4, hbel⟩ := hrel
      by_cases hlt : j < 80
      · have hjl : l.length + j < (markedF l j).length := by rw [markedF_len l hj]; omega
        obtain ⟨hc0, hc1⟩ := HB4.out.cell hjl
        have hf0 : wr.frozen? ⟨B + 1, (l.length + j) * 2, none⟩ = false := HB4.out.free _
        have hf1 : wr.frozen? ⟨B + 1, (l.length + j) * 2 + 1, none⟩ = false := HB4.out.free _
        have hx0 : wr.cell? ⟨B, 0, none⟩ = some (.string ⟨#[109]⟩) := by rw [Below.cell hbel.out (p := ⟨B, 0, none⟩) (Nat.lt_succ_self _)]; exact HM0.out
        have hx1 : wr.cell? ⟨B, 1, none⟩ = some (.string ⟨#[]⟩) := by rw [Below.cell hbel.out (p := ⟨B, 1, none⟩) (Nat.lt_succ_self _)]; exact HM1.out
        have hset := HB4.out.put hjl markF
        rw [markedF_set l hlt] at hset
        generalize strV ((markedF l j)[l.length + j]).1 = o0 at hc0
        generalize strV ((markedF l j)[l.length + j]).2 = o1' at hc1
        have HS := Lib.hid hset
        clear hset
        have q1 : ((l.length + j : Nat) : Int) < ((l.length + 80 : Nat) : Int) := by omega
        go_wp2_with fail
        go_roundw
        case rel => exact ⟨j + 1, by omega, by go_num, HS, Lib.hid ((hbel.out.setCell (Nat.le_refl _) _).setCell (Nat.le_refl _) _)⟩
        case measure => simp [intOf] <;> omega
      · have hj8 : j = 80 := by omega
        subst hj8
        go_wp2_with fail
        go_ret
        refine ⟨B + 1, rfl, ?_, HA.out.trans (below_aftF hbel.out HZ.out)⟩
        have := HB4
        unfold markedF at this
        simpa using this

end Go.Proofs.Ytimpnknmhbpffaa
