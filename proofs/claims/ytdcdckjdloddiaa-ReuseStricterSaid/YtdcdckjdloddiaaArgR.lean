/-
  The walks of reservoirbook.Roomy, Same and Intact at fields. The walks of reservoirbook.Same and Intact at fields. A slice of fields that came in, as a list; its bulk. Slices of fields that came in, requests and responses by value: opened.
-/
import Derived.Test.YtdcdckjdloddiaaFl
import Derived.Laws.CopyOwn
import Derived.Laws.CopyRow
import Derived.OwnWalk
import Derived.BigQuiet
import Derived.Deep.SlicePairs
import Derived.OpenShut
import Derived.ChangeSlices
import Derived.WideShapes
import Derived.ProofKit
import Derived.ShutString
import Derived.ChangeOld
namespace Go.Proofs.Ytdcdckjdloddiaa
open Go.RowKit

theorem run_copy_wide {P : Program} (w : World) (dT sT ty elem : TypeId) (size g dLen dCap : Nat) (a : Addr) (sLen sCap : Nat) (cur : Array Value) (t : TypeId) (cs : List Value)
    (hu : P.underlying dT = some (.slice elem)) (hs : (P.info? elem).map (·.size) = some size)
    (hg : w.heap[g]? = some (.cells cur t (0, 0))) (hn : cs.length = Nat.min sLen dLen * size)
    (hsrc : ∀ j v, cs[j]? = some v → w.cell? (a.add j) = some v) (hfit : cs.length ≤ cur.size) (h1 : ∀ v ∈ cs, v.oneCell' = true) :
    (Builtin.copy_ #[dT, sT] ty #[.slice (some ⟨g, 0, none⟩) dLen dCap, .slice (some a) sLen sCap]).run P w =
      .ok (goInt (Nat.min sLen dLen)) (w.setRow g (cs ++ cur.toList.drop cs.length).toArray) := by
  have hl := run_loadCells_list (P := P) w a cs hsrc
  have hst := run_storeCells_at P g 0 t cs 0 cur w hg (by simpa using hfit) h1
  cases hq : P.info? elem with
  | none => simp [hq] at hs
  | some i =>
    have hi : i.size = size := by simpa [hq] using hs
    have hst2 : (storeCells ⟨g, 0, none⟩ cs).run P w = .ok () (w.setRow g (cs ++ cur.toList.drop cs.length).toArray) := by simpa using hst
    simp [Builtin.copy_, run_underlying hu, Builtin.lenOf, Builtin.firstCells, sizeOf, typeInfo, hq, hi, ← hn, hl, hst2]
def markF : FieldL := ([109], [])
def markedF (l : List FieldL) (j : Nat) : List FieldL := l ++ (List.replicate j markF ++ List.replicate (80 - j) ([], []))
theorem markedF_len (l : List FieldL) {j : Nat} (hj : j ≤ 80) : (markedF l j).length = l.length + 80 := by simp [markedF]; omega
theorem markedF_set (l : List FieldL) {j : Nat} (hj : j < 80) : (markedF l j).set (l.length + j) markF = markedF l (j + 1) := by
  unfold markedF
  rw [List.set_append_right _ _ (by omega), show l.length + j - l.length = j by omega, List.set_append_right _ _ (by simp), List.length_replicate, Nat.sub_self, show 80 - j = (80 - (j + 1)) + 1 by omega, List.replicate_succ, List.set_cons_zero, List.replicate_succ']
  simp

theorem made_fv (n : Nat) : (madeCells (Value.agg #[.string ⟨#[]⟩, .string ⟨#[]⟩]).cells (n * 2)).toList = fv (List.replicate n ([], [])) := by
  rw [fv_rep]
  apply List.ext_getElem?
  intro j
  by_cases hj : j < n * 2
  · have h2 : j % 2 = 0 ∨ j % 2 = 1 := by omega
    rcases h2 with h | h <;> simp [madeCells, hj, Value.cells, h, strV]
  · simp [madeCells, hj]
theorem own_blockF {w : World} {base e size g n : Nat} {xs : List Value} (h : w.ownsRow base e size (.slice (some ⟨g, 0, none⟩) n n) n xs) : w.heap[g]? = some (.cells xs.toArray e (0, 0)) := by
  obtain ⟨h1, ⟨h2, _⟩ | ⟨g', cap, cur, h2, h3, h4, h5, h6, h7, h8⟩⟩ := h
  · cases h2
  · injection h2 with e1 _ e2
    injection e1 with e1
    injection e1 with e1
    subst e1 e2
    rw [List.take_of_length_le (by simp [h7])] at h8
    rw [h4, ← h8]

/-- 'copy(full, l)', full a new block. -/
theorem wpList_copyF {w : World} {ops : Array Oper} {rest : List Oper} {o : Oper} {a : Act} {Q : Exit → Act → World → Prop} (hgd : o.guard = none) (d s : Operand)
    (ho : o.op = .call { callee := .builtin .copy, args := #[d, s], argTypes := #[22, 22] })
    (g : Nat) (v : Value) (l : List FieldL) (hd : a.eval d = .slice (some ⟨g, 0, none⟩) (l.length + 80) (l.length + 80)) (hs : a.eval s = v) (hr : RbF w v l) (hb : FB w g (List.replicate (l.length + 80) ([], [])))
    (B : Nat) (w0 : World) (hbel : Below B w0 w) (hB : B ≤ g)
    (h : ∀ w', FB w' g (markedF l 0) → Below B w0 w' → wpList Try.prog ops Q rest (a.put o.dst (goInt l.length)) w') : wpList Try.prog ops Q (o :: rest) a w := by
  obtain ⟨i0, hi, hz0, hz1, hz2⟩ := info_parts infoF
  have hsz : (Try.prog.info? 38).map (·.size) = some 2 := by kernel_rfl
  have hmin : Nat.min l.length (l.length + 80) = l.length := Nat.min_eq_left (by omega)
  have hfin : fv l ++ (fv (List.replicate (l.length + 80) ([], []))).toArray.toList.drop (fv l).length = fv (markedF l 0) := by
    have e : List.replicate (l.length + 80) (([], []) : FieldL) = List.replicate l.length ([], []) ++ List.replicate 80 ([], []) := List.replicate_append_replicate.symm
    unfold markedF
    rw [fv_append]
    refine congrArg (fun z => fv l ++ z) ?_
    rw [e, fv_append]
    rw [List.drop_append_of_le_length (by rw [fv_len, fv_len, List.length_replicate]; exact Nat.le_refl _), List.drop_eq_nil_of_le (by rw [fv_len, fv_len, List.length_replicate]; exact Nat.le_refl _)]
    rfl
  rcases hr with ⟨rfl, rfl⟩ | ⟨b, off, cap, rfl, h1, h2, h3, h4⟩
  · refine wpList_plain hgd fun K hK => ?_
    have hrun : (Builtin.copy_ #[22, 22] o.type #[.slice (some ⟨g, 0, none⟩) (([] : List FieldL).length + 80) (([] : List FieldL).length + 80), .slice none 0 0]).run Try.prog w = .ok (goInt 0) w := by
      exact run_copy_nil Try.prog w _ _ o.type 38 ⟨g, 0, none⟩ _ _ Try.underlying22 (by rw [hsz]; rfl)
    unfold Oper.wp
    simp [execOp, ho, resolve, invoke, builtin, hd, hs, Result.andThen] at hrun ⊢
    rw [hrun]
    exact hK _ _ (h w (by unfold FB; exact hb) hbel)
  · refine wpList_plain hgd fun K hK => ?_
    have hrun := run_copy_wide (P := Try.prog) w 22 22 o.type 38 2 g (l.length + 80) (l.length + 80) ⟨b, off, none⟩ l.length cap (fv (List.replicate (l.length + 80) ([], []))).toArray 38 (fv l) Try.underlying22 hsz hb (by rw [fv_len, hmin]) (fun j u hj => by
      rw [Addr.add_lit]
      have hjl := (List.getElem?_eq_some_iff.1 hj).1
      rw [fv_len] at hjl
      obtain ⟨e1, e2⟩ := fv_get l (j / 2) (by omega)
      obtain ⟨c1, c2⟩ := h4 (j / 2) (by omega)
      rcases (show j = j / 2 * 2 ∨ j = j / 2 * 2 + 1 by omega) with e | e
      · rw [e, e1] at hj
        rw [e, c1, hj]
      · rw [e, e2] at hj
        rw [e, show off + (j / 2 * 2 + 1) = off + j / 2 * 2 + 1 by omega, c2, hj]) (by simp [fv_len]; omega) (fv_one l)
    rw [hfin, hmin] at hrun
    unfold Oper.wp
    simp [execOp, ho, resolve, invoke, builtin, hd, hs, hrun, Result.andThen]
    exact hK _ _ (h _ (setRow_heap w g _ _ 38 (0, 0) hb) (below_setRow hbel hB _))

theorem below_aftF {B : Nat} {w w' : World} (h : Below B w w') (hB : w.heap.size = B) : Aft w w' := by
  subst hB
  exact h

set_option maxHeartbeats 2000000 in
theorem roomyF_any (v : Value) (l : List FieldL) (w : World) (hr : RbF w v l) (hlen : l.length ≤ 1000000) :
    Calls Try.prog 15 #[v, .agg #[.string ⟨#[109]⟩, .string ⟨#[]⟩]] w fun e w' => ∃ g, e = .returned (.slice (some ⟨g, 0, none⟩) (l.length + 80) (l.length + 80)) ∧ Hid (FB w' g (l ++ List.replicate 80 markF)) ∧ Aft w w' := by
  obtain ⟨i0, hi, hz0, hz1, hz2⟩ := info_parts infoF
  have hb2 : i0.bytes * (l.length + 80) ≤ 281474976710656 := by rw [hz2]; omega
  have hb3 : l.length + 80 ≤ maxLen := by unfold maxLen; omega
  obtain ⟨B, hB⟩ : ∃ B, w.heap.size = B := ⟨_, rfl⟩
  have HB := Lib.hid hB
  have hbz : (w.alloc (.cells #[.string ⟨#[109]⟩, .string ⟨#[]⟩] 38)).heap.size = B + 1 := by rw [World.size_alloc, hB]
  have m0 : (w.alloc (.cells #[.string ⟨#[109]⟩, .string ⟨#[]⟩] 38)).cell? ⟨B, 0, none⟩ = some (.string ⟨#[109]⟩) := by subst hB; simp [go_sem]
  have m1 : (w.alloc (.cells #[.string ⟨#[109]⟩, .string ⟨#[]⟩] 38)).cell? ⟨B, 1, none⟩ = some (.string ⟨#[]⟩) := by subst hB; simp [go_sem]
  have HR := Lib.hid (hr.aft ((Aft.refl w).alloc (.cells #[.string ⟨#[109]⟩, .string ⟨#[]⟩] 38)))
  have HA := Lib.hid ((Aft.refl w).alloc (.cells #[.string ⟨#[109]⟩, .string ⟨#[]⟩] 38))
  obtain ⟨a1, c1, b1, o1, rfl, _, _, _⟩ := hr.open
  have HM := Lib.hid (And.intro m0 m1)
  have HBZ := Lib.hid hbz
  clear hr m0 m1 hbz hB
  go_enter Try.func15, Try.ntmps15
  go_wp2_with (first | (at_make; refine wpList_make_full _ rfl _ _ 22 rfl (B + 1) 38 i0 (.agg #[.string ⟨#[]⟩, .string ⟨#[]⟩]) 2 Try.underlying22 hi hz0 hz1 .i64 .i64 _ _ (l.length + 80) rfl rfl (by push_cast; rfl) (by push_cast; rfl) hb2 hb3 (Nat.le_of_eq HBZ.out.symm) ?_; intro w3 hown3 hg3; rw [HBZ.out] at hown3; rw [made_fv] at hown3; have HBK : Hid (FB w3 (B + 1) (List.replicate (l.length + 80) ([], []))) := Lib.hid (own_blockF hown3); have HR3 := Lib.hid (HR.out.aft (Below.grown (Below.refl _ _) hg3 (Nat.le_refl _) (fun k hk => by cases hk))); have HBE := Lib.hid (Below.grown (Below.refl (B + 1) _) hg3 (Nat.le_of_eq HBZ.out.symm) (fun k hk => by cases hk)); rw [HBZ.out, HB.out]; clear hown3 hg3) | (with_reducible refine wpList_copyF rfl (.tmp 11) (.tmp 12) rfl (B + 1) _ l ?r4 ?r5 HR3.out HBK.out (B + 1) _ HBE.out (Nat.le_refl _) ?r6))
  case r4 => rfl
  case r5 => rfl
  case r6 =>
    intro w4 hb4 hbel4
    have hm0 := HM.out.1
    have hm1 := HM.out.2
    have hA := HA.out
    have hZ := HBZ.out
    clear HM HA HBZ HBK HR3 HBE HR hi hz0 hz1 hz2 hb2
    generalize w.alloc (.cells #[.string ⟨#[109]⟩, .string ⟨#[]⟩] 38) = W1 at hm0 hm1 hA hZ hbel4
    have H4 := Lib.hid hb4
    have HM0 := Lib.hid hm0
    have HM1 := Lib.hid hm1
    have HA := Lib.hid hA
    have HZ := Lib.hid hZ
    clear hb4 hm0 hm1 hA hZ
    have hl63 : l.length + 80 ≤ 2000000000 := by omega
    clear hb3
    go_wp2_with fail
    go_loopw [6] (fun vi wr => ∃ j : Nat, j ≤ 80 ∧ vi = .int .i64 ((l.length + j : Nat) : Int) ∧ Hid (FB wr (B + 1) (markedF l j)) ∧ Hid (Below (B + 1) W1 wr)) (fun vi _ => l.length + 80 - (intOf vi).toNat)
    case atStart => exact ⟨0, by omega, by go_num, H4, Lib.hid hbel4⟩
    case round =>
      obtain ⟨j, hj, rfl, HB4, hbel⟩ := hrel
      by_cases hlt : j < 80
      · have hjl : l.length + j < (markedF l j).length := by rw [markedF_len l hj]; omega
        obtain ⟨hc0, hc1⟩ := HB4.out.cell hjl
        have hf0 : wr.frozen? ⟨B + 1, (l.length + j) * 2, none⟩ = false := HB4.out.free _
        have hf1 : wr.frozen? ⟨B + 1, (l.length + j) * 2 + 1, none⟩ = false := HB4.out.free _
        have hx0 : wr.cell? ⟨B, 0, none⟩ = some (.string ⟨#[109]⟩) := by rw [Below.cell hbel.out (p := ⟨B, 0, none⟩) (Nat.lt_succ_self _)]; exact HM0.out
        have hx1 : wr.cell? ⟨B, 1, none⟩ = some (.string ⟨#[]⟩) := by rw [Below.cell hbel.out (p := ⟨B, 1, none⟩) (Nat.lt_succ_self _)]; exact HM1.out
        have hset := HB4.out.put hjl markF
        rw [markedF_set l hlt] at hset
        generalize strV ((markedF l j)[l.length + j]).1 = o0 at hc0
        generalize strV ((markedF l j)[l.length + j]).2 = o1' at hc1
        have HS := Lib.hid hset
        clear hset
        have q1 : ((l.length + j : Nat) : Int) < ((l.length + 80 : Nat) : Int) := by omega
        go_wp2_with fail
        go_roundw
        case rel => exact ⟨j + 1, by omega, by go_num, HS, Lib.hid ((hbel.out.setCell (Nat.le_refl _) _).setCell (Nat.le_refl _) _)⟩
        case measure => simp [intOf] <;> omega
      · have hj8 : j = 80 := by omega
        subst hj8
        go_wp2_with fail
        go_ret
        refine ⟨B + 1, rfl, ?_, HA.out.trans (below_aftF hbel.out HZ.out)⟩
        have := HB4
        unfold markedF at this
        simpa using this

end Go.Proofs.Ytdcdckjdloddiaa
namespace Go.Proofs.Ytdcdckjdloddiaa
open Go.RowKit

set_option maxHeartbeats 1000000 in
theorem sameF_any (v1 v2 : Value) (l : List FieldL) (w : World) (h1 : RbF w v1 l) (h2 : RbF w v2 l) :
    Calls Try.prog 47 #[v1, v2] w fun e w' => e = .returned (.bool true) ∧ Aft w w' := by
  obtain ⟨a1, c1, b1, o1, rfl, m1, n1, p1, q1, r1⟩ := h1.open
  obtain ⟨a2, c2, b2, o2, rfl, m2, n2, p2, q2, r2⟩ := h2.open
  unfold maxLen at n1 n2
  clear h1 h2
  have hb : ((l.length : Int) != (l.length : Int)) = false := by simp
  have hl63 : l.length ≤ 9223372036854775807 := by omega
  clear m1 m2 n1 n2
  go_enter Try.func47, Try.ntmps47
  go_wp2_with fail
  go_loopw [5] (fun v wr => ∃ k : Nat, k ≤ l.length ∧ v = .int .i64 (k : Int) ∧ Aft w wr) (fun v _ => l.length - (intOf v).toNat)
  case atStart => exact ⟨0, by omega, by go_num, Aft.refl _⟩
  case round =>
    obtain ⟨k, hk, rfl, hwr⟩ := hrel
    by_cases hlt : k < l.length
    · have ne1 : l ≠ [] := by intro e; rw [e] at hlt; simp at hlt
      have x1 : wr.cell? ⟨b1, o1 + k * 2, none⟩ = some (strV l[k].1) := by
        rw [Below.cell hwr.to (p := ⟨b1, o1 + k * 2, none⟩) (q1 ne1)]; exact (r1 k hlt).1
      have x2 : wr.cell? ⟨b1, o1 + k * 2 + 1, none⟩ = some (strV l[k].2) := by
        rw [Below.cell hwr.to (p := ⟨b1, o1 + k * 2 + 1, none⟩) (q1 ne1)]; exact (r1 k hlt).2
      have y1 : wr.cell? ⟨b2, o2 + k * 2, none⟩ = some (strV l[k].1) := by
        rw [Below.cell hwr.to (p := ⟨b2, o2 + k * 2, none⟩) (q2 ne1)]; exact (r2 k hlt).1
      have y2 : wr.cell? ⟨b2, o2 + k * 2 + 1, none⟩ = some (strV l[k].2) := by
        rw [Below.cell hwr.to (p := ⟨b2, o2 + k * 2 + 1, none⟩) (q2 ne1)]; exact (r2 k hlt).2
      obtain ⟨s1, hs1⟩ : ∃ s, strV l[k].1 = .string s := ⟨_, rfl⟩
      obtain ⟨s2, hs2⟩ : ∃ s, strV l[k].2 = .string s := ⟨_, rfl⟩
      rw [hs1] at x1 y1
      rw [hs2] at x2 y2
      obtain rfl := p1 ne1
      obtain rfl := p2 ne1
      clear p1 p2 q1 q2 r1 r2 ne1 hs1 hs2
      have i1 : (k : Int) < (l.length : Int) := by omega
      go_wp2_with fail
      go_quiet (fail)
      go_wp2_with fail
      go_roundw
      case rel => exact ⟨k + 1, by omega, by go_num, hwr.drewN _⟩
      case measure => simp [intOf]; omega
    · go_wp2_with fail
      go_ret
      exact ⟨rfl, hwr⟩

set_option maxHeartbeats 2000000 in
theorem intactF_any (v1 v2 : Value) (l : List FieldL) (w : World) (h1 : RbF w v1 (l ++ List.replicate 80 markF)) (h2 : RbF w v2 l) (hlen : l.length ≤ 1000000) :
    Calls Try.prog 20 #[v1, v2, .agg #[.string ⟨#[109]⟩, .string ⟨#[]⟩]] w fun e w' => e = .returned (.bool true) ∧ Aft w w' := by
  rcases h1 with ⟨_, h⟩ | ⟨b, off, cap, rfl, g1, g2, g3, g4⟩
  · have := congrArg List.length h
    simp at this
  · have hll : (l ++ List.replicate 80 markF).length = l.length + 80 := by simp
    have hcut : RbF w (.slice (some ⟨b, off, none⟩) l.length cap) l := by
      refine Or.inr ⟨b, off, cap, rfl, by omega, g2, g3, fun i hi => ?_⟩
      have := g4 i (by omega)
      rw [List.getElem_append_left hi] at this
      exact this
    have hmk0 : ∀ j, j < 80 → w.cell? ⟨b, off + (l.length + j) * 2, none⟩ = some (.string ⟨#[109]⟩) := by
      intro j hj
      have := (g4 (l.length + j) (by omega)).1
      rw [this, List.getElem_append_right (by omega), List.getElem_replicate]
      rfl
    have hmk1 : ∀ j, j < 80 → w.cell? ⟨b, off + (l.length + j) * 2 + 1, none⟩ = some (.string ⟨#[]⟩) := by
      intro j hj
      have := (g4 (l.length + j) (by omega)).2
      rw [this, List.getElem_append_right (by omega), List.getElem_replicate]
      rfl
    rw [hll] at g1 ⊢
    obtain ⟨a2, cap2, b2, off2, rfl, m2, _, _, _⟩ := h2.open
    unfold maxLen at g2
    have hb0 : (((l.length + 80 : Nat) : Int) != (l.length : Int) + 80) = false := by rw [bne_eq_false_iff_eq]; omega
    obtain ⟨B, hB⟩ : ∃ B, w.heap.size = B := ⟨_, rfl⟩
    have HB := Lib.hid hB
    have hA := (Aft.refl w).alloc (.cells #[.string ⟨#[109]⟩, .string ⟨#[]⟩] 38)
    have m0 : (w.alloc (.cells #[.string ⟨#[109]⟩, .string ⟨#[]⟩] 38)).cell? ⟨B, 0, none⟩ = some (.string ⟨#[109]⟩) := by subst hB; simp [go_sem]
    have m1 : (w.alloc (.cells #[.string ⟨#[109]⟩, .string ⟨#[]⟩] 38)).cell? ⟨B, 1, none⟩ = some (.string ⟨#[]⟩) := by subst hB; simp [go_sem]
    have HBZ : Hid (B < (w.alloc (.cells #[.string ⟨#[109]⟩, .string ⟨#[]⟩] 38)).heap.size) := Lib.hid (by rw [World.size_alloc, hB]; omega)
    have HC := Lib.hid (hcut.aft hA)
    have H2 := Lib.hid (h2.aft hA)
    have HM0 := Lib.hid hmk0
    have HM1 := Lib.hid hmk1
    have HA := Lib.hid hA
    have HX := Lib.hid (And.intro m0 m1)
    clear hcut hmk0 hmk1 h2 g4 hll m2 m0 m1 hA hB
    go_enter Try.func20, Try.ntmps20
    go_wp2_with fail
    rw [HB.out]
    refine (sameF_any _ _ l _ HC.out H2.out).mono ?_
    rintro e w1 ⟨rfl, b1⟩
    have hx := HX.out
    have hA := HA.out
    have hZ := HBZ.out
    clear HX HA HBZ HC H2
    generalize w.alloc (.cells #[.string ⟨#[109]⟩, .string ⟨#[]⟩] 38) = W1 at hx hA hZ b1
    have hx0 : w1.cell? ⟨B, 0, none⟩ = some (.string ⟨#[109]⟩) := by rw [Below.cell b1.to (p := ⟨B, 0, none⟩) hZ]; exact hx.1
    have hx1 : w1.cell? ⟨B, 1, none⟩ = some (.string ⟨#[]⟩) := by rw [Below.cell b1.to (p := ⟨B, 1, none⟩) hZ]; exact hx.2
    have HX0 := Lib.hid hx0
    have HX1 := Lib.hid hx1
    have HA := Lib.hid (hA.trans b1)
    have HZ := Lib.hid (Nat.lt_of_lt_of_le hZ b1.size)
    clear hx hx0 hx1 hA hZ b1
    go_wp2_with fail
    go_loopw [7] (fun vi wr => ∃ j : Nat, j ≤ 80 ∧ vi = .int .i64 ((l.length + j : Nat) : Int) ∧ Hid (Aft w1 wr)) (fun vi _ => l.length + 80 - (intOf vi).toNat)
    case atStart => exact ⟨0, by omega, by go_num, Lib.hid (Aft.refl _)⟩
    case round =>
      obtain ⟨j, hj, rfl, HW⟩ := hrel
      by_cases hlt : j < 80
      · have c0 : wr.cell? ⟨b, off + (l.length + j) * 2, none⟩ = some (.string ⟨#[109]⟩) := by
          rw [Below.cell (HA.out.trans HW.out).to (p := ⟨b, off + (l.length + j) * 2, none⟩) g3]
          exact HM0.out j hlt
        have c1 : wr.cell? ⟨b, off + (l.length + j) * 2 + 1, none⟩ = some (.string ⟨#[]⟩) := by
          rw [Below.cell (HA.out.trans HW.out).to (p := ⟨b, off + (l.length + j) * 2 + 1, none⟩) g3]
          exact HM1.out j hlt
        have d0 : wr.cell? ⟨B, 0, none⟩ = some (.string ⟨#[109]⟩) := by rw [Below.cell HW.out.to (p := ⟨B, 0, none⟩) HZ.out]; exact HX0.out
        have d1 : wr.cell? ⟨B, 1, none⟩ = some (.string ⟨#[]⟩) := by rw [Below.cell HW.out.to (p := ⟨B, 1, none⟩) HZ.out]; exact HX1.out
        have q1 : ((l.length + j : Nat) : Int) < ((l.length + 80 : Nat) : Int) := by omega
        go_wp2_with fail
        go_quiet (fail)
        go_wp2_with fail
        go_roundw
        case rel => exact ⟨j + 1, by omega, by go_num, Lib.hid (HW.out.drewN _)⟩
        case measure => simp [intOf] <;> omega
      · have hj8 : j = 80 := by omega
        subst hj8
        go_wp2_with fail
        go_ret
        exact ⟨rfl, HA.out.trans HW.out⟩

end Go.Proofs.Ytdcdckjdloddiaa
namespace Go.Proofs.Ytdcdckjdloddiaa
open Go.ChangeShapes Go.WideShapes Go.ChangeAt Go.RowKit

theorem cellsFs : Try.prog.cellsOf 9 = 1 := by kernel_rfl
theorem cellsFF : Try.prog.cellsOf 38 = 2 := by kernel_rfl
theorem has_ltF {P : Program} {w : World} {r : Reach} {base : Nat} {t e : TypeId} {a : Addr} {len cap : Nat} (ht : P.underlying t = some (.slice e)) (h : Value.okWide P w r base t (.slice (some a) len cap)) : a.spot = none ∧ a.block < w.heap.size := by
  simp only [Value.okWide, ht, Cell.okWide, Cell.ok] at h
  obtain ⟨_, _, _, hs, row, cells, hsh, _⟩ := h
  refine ⟨hs, ?_⟩
  rcases Nat.lt_or_ge a.block w.heap.size with h | h
  · exact h
  · unfold World.shape? at hsh
    rw [Array.getElem?_eq_none h] at hsh
    simp at hsh
def bulkF (l : List FieldL) : Nat := (l.map fun f => f.1.length + f.2.length + 3).sum
theorem bulkF_len (l : List FieldL) : l.length ≤ bulkF l := by
  induction l with
  | nil => simp
  | cons f l ih =>
    have e : bulkF (f :: l) = f.1.length + f.2.length + 3 + bulkF l := by simp [bulkF]
    rw [e, List.length_cons]
    omega
theorem bulk_range {H : Type} (D : Nat → DataW H) : ∀ (m : Nat) (l : List FieldL), l.length = m → (∀ i (h : i < l.length), Rows.uptoBulk (D i) = l[i].1.length + l[i].2.length + 3) → Rows.uptoBulkAll ((List.range m).map D) = bulkF l
  | 0, l, hl, _ => by
    have : l = [] := List.eq_nil_of_length_eq_zero hl
    subst this
    rfl
  | m + 1, l, hl, h => by
    have hs : ∀ a b : List (DataW H), Rows.uptoBulkAll (a ++ b) = Rows.uptoBulkAll a + Rows.uptoBulkAll b := by
      intro a b
      induction a with
      | nil => simp [Rows.uptoBulkAll]
      | cons x a ih => simp only [List.cons_append, Rows.uptoBulkAll, ih]; omega
    have hlt : m < l.length := by omega
    have hd : l = l.take m ++ [l[m]] := by
      rw [← List.take_succ_eq_append_getElem hlt, List.take_of_length_le (by omega)]
    rw [List.range_succ, List.map_append, hs]
    have ih := bulk_range D m (l.take m) (by rw [List.length_take]; omega) (fun i hi => by
      rw [List.length_take] at hi
      rw [List.getElem_take]
      exact h i (by omega))
    rw [ih]
    have e := congrArg bulkF hd
    have e2 : bulkF (l.take m ++ [l[m]]) = bulkF (l.take m) + (l[m].1.length + l[m].2.length + 3) := by
      generalize l.take m = a
      generalize l[m] = f
      simp [bulkF]
    rw [e2] at e
    rw [e, List.map_cons, List.map_nil]
    simp only [Rows.uptoBulkAll]
    have := h m hlt
    omega
set_option maxRecDepth 100000 in
theorem open_fieldsB {H : Type} {enc : TypeId × Value → H} {W : World} {base : Nat} {v : Value} {d : DataW H} {p : List MemPlace} (hval : Value.okWide Try.prog W .any base 22 v) (h : DataW.Trod enc Try.prog W 0 (fun _ => true) true 22 v d p) :
    ∃ l : List FieldL, RbF W v l ∧ bulkF l ≤ Rows.uptoBulk d := by
  obtain ⟨a1, len, cap, rfl⟩ := okWide_slice Try.underlying22 hval
  obtain ⟨fuel, hf⟩ := h
  rcases Go.Deep.open_slice_pairs Try.underlying22 Try.underlying38 cellsFF rfl rfl cellsFs cellsFs hf with ⟨hcs, hx⟩ | ⟨a, len', cap', m, n, V0, V1, D0, D1, P0, P1, hcs, _, hl, hm, hmm, hx, hcell⟩
  · simp [Value.cells] at hcs
    obtain ⟨rfl, rfl, rfl⟩ := hcs
    exact ⟨[], Or.inl ⟨rfl, rfl⟩, Nat.zero_le _⟩
  · simp [Value.cells] at hcs
    obtain ⟨rfl, rfl, rfl⟩ := hcs
    obtain ⟨hs, hlt⟩ := has_ltF Try.underlying22 hval
    obtain ⟨ab, ao, spot⟩ := a
    subst hs
    have hlm : len ≤ m := by rw [hmm]; split <;> omega
    have hget : ∀ i, i < len → ∃ f : FieldL, (W.cell? ⟨ab, ao + i * 2, none⟩ = some (strV f.1) ∧ W.cell? ⟨ab, ao + i * 2 + 1, none⟩ = some (strV f.2)) ∧ Rows.uptoBulk (DataW.agg [D0 i, D1 i]) = f.1.length + f.2.length + 3 := by
      intro i hi
      obtain ⟨e0, e1, t0, t1⟩ := hcell i (by omega)
      obtain ⟨s0, hs0, hd0, _⟩ := DataW.trod_string Try.underlying9 t0
      obtain ⟨s1, hs1, hd1, _⟩ := DataW.trod_string Try.underlying9 t1
      rw [Addr.add_lit] at e0 e1
      injection hs0 with hs0 _
      injection hs1 with hs1 _
      injection hd0 with hd0 _
      injection hd1 with hd1 _
      refine ⟨(s0.data.toList, s1.data.toList), ⟨?_, ?_⟩, ?_⟩
      · rw [e0, hs0]; rfl
      · rw [show ao + i * 2 + 1 = ao + (i * 2 + 1) by omega, e1, hs1]; rfl
      · rw [hd0, hd1]
        simp only [Rows.uptoBulk, Rows.uptoBulkAll]
        omega
    have key : ∀ k, k ≤ len → ∃ l : List FieldL, l.length = k ∧ ∀ i (h : i < l.length), (W.cell? ⟨ab, ao + i * 2, none⟩ = some (strV l[i].1) ∧ W.cell? ⟨ab, ao + i * 2 + 1, none⟩ = some (strV l[i].2)) ∧ Rows.uptoBulk (DataW.agg [D0 i, D1 i]) = l[i].1.length + l[i].2.length + 3 := by
      intro k
      induction k with
      | zero => exact fun _ => ⟨[], rfl, fun i hi => by simp at hi⟩
      | succ k ih =>
        intro hk
        obtain ⟨l, hl1, hl2⟩ := ih (by omega)
        obtain ⟨f, f1, f2⟩ := hget k (by omega)
        refine ⟨l ++ [f], by simp [hl1], fun i hi => ?_⟩
        by_cases hik : i < l.length
        · rw [List.getElem_append_left hik]; exact hl2 i hik
        · have : i = k := by simp at hi; omega
          subst this
          rw [List.getElem_append_right (by omega)]
          simpa [hl1] using ⟨f1, f2⟩
    obtain ⟨l, hl1, hl2⟩ := key len (Nat.le_refl _)
    refine ⟨l, Or.inr ⟨ab, ao, cap, by rw [hl1], by omega, hm, hlt, fun i hi => (hl2 i hi).1⟩, ?_⟩
    injection hx with hx _
    rw [hx]
    simp only [Rows.uptoBulk]
    rw [bulk_range (fun i => DataW.agg [D0 i, D1 i]) len l hl1 (fun i hi => (hl2 i hi).2)]
    omega

end Go.Proofs.Ytdcdckjdloddiaa
namespace Go.Proofs.Ytdcdckjdloddiaa
open Go.ChangeShapes Go.WideShapes Go.ChangeAt Go.RowKit

theorem row_cell {P : Program} {w : World} {r : Reach} {base : Nat} {t : TypeId} {cs : Array Value} (ts : List TypeId) (hts : P.cellTypes P.depth t = some ts) (h : Row.okWide P w r base t cs) {i : Nat} {u : TypeId} {v : Value} (hu : ts[i % ts.length]? = some u) (hv : cs[i]? = some v) : Cell.okWide P w r base u v := by
  obtain ⟨ts', h1, _, h3⟩ := h
  rw [hts] at h1
  obtain rfl := Option.some.inj h1
  obtain ⟨u', h4, h5⟩ := h3 i v hv
  rw [hu] at h4
  obtain rfl := Option.some.inj h4
  exact h5
theorem slice_cell {P : Program} {w : World} {r : Reach} {base : Nat} {t e : TypeId} {v : Value} (ht : P.underlying t = some (.slice e)) (h : Cell.okWide P w r base t v) : Value.okWide P w r base t v := by
  unfold Value.okWide
  rw [ht]
  exact h
set_option maxRecDepth 100000 in
theorem open_req {H : Type} {enc : TypeId × Value → H} {W : World} {base : Nat} {v : Value} {d : DataW H} {p : List MemPlace} (hval : Value.okWide Try.prog W .any base 24 v) (h : DataW.Trod enc Try.prog W 0 (fun _ => true) true 24 v d p) :
    ∃ (m x1 x2 x3 : ByteArray) (vq : Value) (n : Int) (l : List FieldL), v = .agg #[.string m, .string x1, .string x2, .string x3, vq, .int .i64 n] ∧ (m.size ≤ maxLen ∧ x1.size ≤ maxLen ∧ x2.size ≤ maxLen ∧ x3.size ≤ maxLen) ∧ RbF W vq l ∧ bulkF l ≤ Rows.uptoBulk d ∧ -9223372036854775808 ≤ n ∧ n ≤ 9223372036854775807 := by
  obtain ⟨fs, hs⟩ : ∃ fs, Try.prog.underlying 24 = some (.struct fs) := ⟨_, Try.underlying24⟩
  obtain ⟨cs, rfl, hsz⟩ := okWide_struct hs hval
  have hC : Try.prog.cellsOf 24 = 6 := by kernel_rfl
  have hrow : Row.okWide Try.prog W .any base 24 cs := by
    simp only [Value.okWide, hs] at hval
    obtain ⟨cs', h1, _, h3⟩ := hval
    injection h1 with h1
    rw [h1]; exact h3
  obtain ⟨fuel, hf⟩ := h
  obtain ⟨c0, c1, c2, c3, c4, c5, rfl⟩ : ∃ c0 c1 c2 c3 c4 c5, cs = #[c0, c1, c2, c3, c4, c5] := by
    rw [hC] at hsz
    obtain ⟨l⟩ := cs
    match l, hsz with
    | [c0, c1, c2, c3, c4, c5], _ => exact ⟨c0, c1, c2, c3, c4, c5, rfl⟩
  have h4 := slice_cell Try.underlying22 (row_cell [9, 9, 9, 9, 22, 3] (by kernel_rfl) hrow (i := 4) rfl rfl)
  obtain ⟨xs, n, _, hx, hl, hlen, hfl⟩ := DataW.trod_struct Try.underlying24 hf
  clear hs hval hrow hsz
  have e0 := hfl 0 _ rfl
  have e1 := hfl 1 _ rfl
  have e2 := hfl 2 _ rfl
  have e3 := hfl 3 _ rfl
  have e4 := hfl 4 _ rfl
  have e5 := hfl 5 _ rfl
  clear hfl hl
  injection hx with hx _
  match xs, hlen with
  | [y0, y1, y2, y3, y4, y5], _ =>
    simp only [Value.cells, List.getElem?_cons_succ, List.getElem?_cons_zero] at e0 e1 e2 e3 e4 e5
    obtain ⟨s0, a0, -, z0⟩ := DataW.trod_string Try.underlying9 e0
    obtain ⟨s1, a1, -, z1⟩ := DataW.trod_string Try.underlying9 e1
    obtain ⟨s2, a2, -, z2⟩ := DataW.trod_string Try.underlying9 e2
    obtain ⟨s3, a3, -, z3⟩ := DataW.trod_string Try.underlying9 e3
    obtain ⟨n5, a5, -, z5⟩ := DataW.trod_int Try.underlying3 e5
    obtain ⟨l, hr, hb⟩ := open_fieldsB h4 ⟨n, by
      obtain ⟨a, b, c, rfl⟩ := okWide_slice Try.underlying22 h4
      exact e4⟩
    injection a0 with a0 _
    injection a1 with a1 _
    injection a2 with a2 _
    injection a3 with a3 _
    injection a5 with a5 _
    subst a0 a1 a2 a3 a5
    have hb5 := bounds_i64 z5
    refine ⟨s0, s1, s2, s3, c4, n5, l, rfl, ⟨z0, z1, z2, z3⟩, hr, ?_, hb5.1, hb5.2⟩
    rw [hx]
    simp only [List.map_cons, List.map_nil, Rows.uptoBulk, Rows.uptoBulkAll]
    omega
set_option maxRecDepth 100000 in
theorem open_res {H : Type} {enc : TypeId × Value → H} {W : World} {base : Nat} {v : Value} {d : DataW H} {p : List MemPlace} (hval : Value.okWide Try.prog W .any base 26 v) (h : DataW.Trod enc Try.prog W 0 (fun _ => true) true 26 v d p) :
    ∃ (st : Int) (vs : Value) (n : Int) (l : List FieldL), v = .agg #[.int .i64 st, vs, .int .i64 n] ∧ RbF W vs l ∧ bulkF l ≤ Rows.uptoBulk d ∧ (-9223372036854775808 ≤ st ∧ st ≤ 9223372036854775807) ∧ -9223372036854775808 ≤ n ∧ n ≤ 9223372036854775807 := by
  obtain ⟨fs, hs⟩ : ∃ fs, Try.prog.underlying 26 = some (.struct fs) := ⟨_, Try.underlying26⟩
  obtain ⟨cs, rfl, hsz⟩ := okWide_struct hs hval
  have hC : Try.prog.cellsOf 26 = 3 := by kernel_rfl
  have hrow : Row.okWide Try.prog W .any base 26 cs := by
    simp only [Value.okWide, hs] at hval
    obtain ⟨cs', h1, _, h3⟩ := hval
    injection h1 with h1
    rw [h1]; exact h3
  obtain ⟨fuel, hf⟩ := h
  obtain ⟨c0, c1, c2, rfl⟩ : ∃ c0 c1 c2, cs = #[c0, c1, c2] := by
    rw [hC] at hsz
    obtain ⟨l⟩ := cs
    match l, hsz with
    | [c0, c1, c2], _ => exact ⟨c0, c1, c2, rfl⟩
  have h4 := slice_cell Try.underlying22 (row_cell [3, 22, 3] (by kernel_rfl) hrow (i := 1) rfl rfl)
  obtain ⟨xs, n, _, hx, hl, hlen, hfl⟩ := DataW.trod_struct Try.underlying26 hf
  clear hs hval hrow hsz
  have e0 := hfl 0 _ rfl
  have e1 := hfl 1 _ rfl
  have e2 := hfl 2 _ rfl
  clear hfl hl
  injection hx with hx _
  match xs, hlen with
  | [y0, y1, y2], _ =>
    simp only [Value.cells, List.getElem?_cons_succ, List.getElem?_cons_zero] at e0 e1 e2
    obtain ⟨n0, a0, -, z0⟩ := DataW.trod_int Try.underlying3 e0
    obtain ⟨n2, a2, -, z2⟩ := DataW.trod_int Try.underlying3 e2
    obtain ⟨l, hr, hb⟩ := open_fieldsB h4 ⟨n, by
      obtain ⟨a, b, c, rfl⟩ := okWide_slice Try.underlying22 h4
      exact e1⟩
    injection a0 with a0 _
    injection a2 with a2 _
    subst a0 a2
    refine ⟨n0, c1, n2, l, rfl, hr, ?_, bounds_i64 z0, bounds_i64 z2⟩
    rw [hx]
    simp only [List.map_cons, List.map_nil, Rows.uptoBulk, Rows.uptoBulkAll]
    omega

end Go.Proofs.Ytdcdckjdloddiaa
