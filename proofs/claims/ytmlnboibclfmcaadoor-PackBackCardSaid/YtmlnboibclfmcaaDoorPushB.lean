/-
  'append(out, xs...)' and 'append(out, s...)' at bytes, in a region that draws: what comes lies where it lay, or in a new block.
-/
import Derived.Test.YtmlnboibclfmcaaDoorPackBlk
import Derived.Test.YtmlnboibclfmcaaDoorPackRuns
import Derived.Test.YtmlnboibclfmcaaDoorUnStep
import Derived.Test.YtmlnboibclfmcaaDoorUnBlk
namespace Go.Proofs.YtmlnboibclfmcaaDoor
open Go.RowKit
set_option linter.unusedVariables false

set_option maxRecDepth 100000 in
theorem append_freshB {w : World} {base : Nat} {ty : TypeId} {v : Value} {l : List UInt8} (hown : Own w base v l) (ad : Addr) (m c : Nat) (news : List Value) (hl : news.length = m * 1) (hnews : ∀ j u, news[j]? = some u → w.cell? (ad.add j) = some u) (h1 : ∀ u ∈ news, u.oneCell' = true)
    (hbytes : l.length + m ≤ 140737488355328) {v' : Value} {w' : World} (hr : (Builtin.append_ #[54, 54] ty #[v, .slice (some ad) m c]).run Tryd.prog w = .ok v' w') : ∀ k, v'.ownBlock = some k → v.ownBlock = some k ∨ w.heap.size ≤ k := by
  obtain ⟨i0, hi, hz0, hz1, hz2⟩ := info_parts info8
  intro k hk
  have hown' := hown
  rcases hown.2 with ⟨rfl, hn⟩ | ⟨g, cap, cur, rfl, hbg, hg, hnc, hcm, hcs, htake⟩
  · obtain ⟨v2, w2, hr2, h2, -, -⟩ := run_append_own (P := Tryd.prog) w w.heap.size 54 ty 5 i0 (.int .u8 0) 1 1 Tryd.underlying54 hi hz0 hz1 hz2 rfl (by decide) (.slice none 0 0) 0 [] (World.ownsRow_nil _ _ _ _) ad m c news hl hnews h1 (by unfold maxLen; omega) (by omega) (Nat.le_refl _)
    rw [hr] at hr2
    injection hr2 with e1 e2
    subst e1
    rw [← e2] at h2
    exact Or.inr (h2.lt k hk).1
  · by_cases hroom : l.length + m ≤ cap
    · have hr2 := run_append_room (P := Tryd.prog) w 54 ty 5 i0 Tryd.underlying54 hi g l.length cap cur hg ad m c news (by rw [hz1]; exact hl) hnews h1 hroom (by rw [hz1, hcs, hl]; omega)
      rw [hr] at hr2
      injection hr2 with e1 e2
      subst e1
      exact Or.inl hk
    · have hr2 := run_append_grow (P := Tryd.prog) w 54 ty 5 i0 (.int .u8 0) Tryd.underlying54 hi hz0 ⟨g, 0, none⟩ l.length cap (bv l) (by rw [hz1, bv_len, Nat.mul_one]) (World.ownsRow.cells hown' (g := g) rfl) ad m c news (by rw [hz1]; exact hl) hnews (by omega) (by omega) (growslice_fits (by omega) (by rw [hz2]; omega))
      rw [hr] at hr2
      injection hr2 with e1 e2
      subst e1
      injection hk with hk
      exact Or.inr (Nat.le_of_eq hk)
set_option maxRecDepth 100000 in
theorem append_freshS {w : World} {base : Nat} {ty : TypeId} {v : Value} {l : List UInt8} (hown : Own w base v l) (s : ByteArray)
    (hbytes : l.length + s.size ≤ 140737488355328) {v' : Value} {w' : World} (hr : (Builtin.append_ #[54, 9] ty #[v, .string s]).run Tryd.prog w = .ok v' w') : ∀ k, v'.ownBlock = some k → v.ownBlock = some k ∨ w.heap.size ≤ k := by
  obtain ⟨i0, hi, hz0, hz1, hz2⟩ := info_parts info8
  intro k hk
  have hown' := hown
  rcases hown.2 with ⟨rfl, hn⟩ | ⟨g, cap, cur, rfl, hbg, hg, hnc, hcm, hcs, htake⟩
  · obtain ⟨v2, w2, hr2, h2, -, -⟩ := Go.Lib.run_append_own_string (P := Tryd.prog) w w.heap.size 54 9 ty 5 i0 Tryd.underlying54 Tryd.underlying9 hi hz0 hz1 hz2 (.slice none 0 0) 0 [] (World.ownsRow_nil _ _ _ _) s (by unfold maxLen; omega) (by omega) (Nat.le_refl _)
    rw [hr] at hr2
    injection hr2 with e1 e2
    subst e1
    rw [← e2] at h2
    exact Or.inr (h2.lt k hk).1
  · by_cases hroom : l.length + s.size ≤ cap
    · have hr2 := Go.Lib.run_append_room_string (P := Tryd.prog) w 54 9 ty 5 i0 Tryd.underlying54 Tryd.underlying9 hi hz1 g l.length cap cur hg s hroom (by rw [hcs]; omega)
      rw [hr] at hr2
      injection hr2 with e1 e2
      subst e1
      exact Or.inl hk
    · have hr2 := Go.Lib.run_append_grow_string (P := Tryd.prog) w 54 9 ty 5 i0 (.int .u8 0) Tryd.underlying54 Tryd.underlying9 hi hz0 ⟨g, 0, none⟩ l.length cap (bv l) (by rw [hz1, bv_len, Nat.mul_one]) (World.ownsRow.cells hown' (g := g) rfl) s (by omega) (by omega) (growslice_fits (by omega) (by rw [hz2]; omega))
      rw [hr] at hr2
      injection hr2 with e1 e2
      subst e1
      injection hk with hk
      exact Or.inr (Nat.le_of_eq hk)
set_option maxRecDepth 100000 in
theorem wp_pushB {w : World} {o : Oper} {a : Act} {K : Act → World → Prop} {Q : Exit → Act → World → Prop} (s x : Operand)
    (ho : o.op = .call { callee := .builtin .append, args := #[s, x], argTypes := #[54, 54] })
    (base : Nat) (v : Value) (ad : Addr) (c : Nat) (l m : List UInt8) (hs : a.eval s = v) (hown : Own w base v l) (hx : a.eval x = .slice (some ad) m.length c) (hr : Rb w (.slice (some ad) m.length c) m)
    (hl : l.length + m.length ≤ 140737488355328) (hbase : base ≤ w.heap.size)
    (h : ∀ v' w', Own w' base v' (l ++ m) → w.grownBy w' v.ownBlock → (∀ k, v'.ownBlock = some k → v.ownBlock = some k ∨ w.heap.size ≤ k) → K (a.put o.dst v') w') : o.wp Tryd.prog a w K Q := by
  obtain ⟨i0, hi, hz0, hz1, hz2⟩ := info_parts info8
  have hnews : ∀ j u, (bv m)[j]? = some u → w.cell? (ad.add j) = some u := by
    intro j z hj
    unfold bv at hj
    rw [List.getElem?_map] at hj
    cases hm : m[j]? with
    | none => rw [hm] at hj; cases hj
    | some c0 =>
      rw [hm] at hj
      simp only [Option.map_some, Option.some.injEq] at hj
      subst hj
      obtain ⟨hlt, he⟩ := List.getElem?_eq_some_iff.1 hm
      rcases hr with ⟨-, h2⟩ | ⟨b, off, cap, e, h1, h2, h3, h4⟩
      · rw [h2] at hlt; simp at hlt
      · injection e with e1 e2 e3
        injection e1 with e1
        subst e1
        rw [show (⟨b, off, none⟩ : Addr).add j = ⟨b, off + j, none⟩ from Addr.add_lit _ _ _, h4 j hlt, he]
  have hone : ∀ u ∈ bv m, u.oneCell' = true := by
    intro z hz
    unfold bv at hz
    obtain ⟨c, _, rfl⟩ := List.mem_map.1 hz
    rfl
  obtain ⟨v', w', hrun, h2, h3, h4⟩ := run_append_own (P := Tryd.prog) w base 54 o.type 5 i0 (.int .u8 0) 1 1 Tryd.underlying54 hi hz0 hz1 hz2 rfl (by decide) v l.length (bv l) hown ad m.length c (bv m) (by rw [bv_len, Nat.mul_one]) hnews hone (by unfold maxLen; omega) (by omega) hbase
  have hf := append_freshB hown ad m.length c (bv m) (by rw [bv_len, Nat.mul_one]) hnews hone hl hrun
  unfold Oper.wp execOp
  simp only [ho, resolve, invoke, builtin, Sem.run_bind, Sem.run_pure, Result.andThen_ok, List.map_toArray, List.map_cons, List.map_nil, hs, hx, hrun]
  refine h v' w' ?_ h3 hf
  unfold Own
  rw [bv_append, List.length_append]
  exact h2
set_option maxRecDepth 100000 in
theorem step_pushB {w : World} {ops : Array Oper} {o : Oper} {a : Act} {K : Act → World → Prop} {Q : Exit → Act → World → Prop} {E : Prop} (hgd : o.guard = none) (s x : Operand)
    (ho : o.op = .call { callee := .builtin .append, args := #[s, x], argTypes := #[54, 54] })
    (base : Nat) (v : Value) (ad : Addr) (c : Nat) (l m : List UInt8) (hs : a.eval s = v) (hown : Own w base v l) (hx : a.eval x = .slice (some ad) m.length c) (hr : Rb w (.slice (some ad) m.length c) m)
    (hl : l.length + m.length ≤ 140737488355328) (hbase : base ≤ w.heap.size)
    (h : ∀ v' w', Own w' base v' (l ++ m) → w.grownBy w' v.ownBlock → (∀ k, v'.ownBlock = some k → v.ownBlock = some k ∨ w.heap.size ≤ k) → K (a.put o.dst v') w') : if Region.wanted o (yielded ops a.tmps) = true then Oper.wp Tryd.prog o a w K Q else E := by
  have hw : Region.wanted o (yielded ops a.tmps) = true := by simp [Region.wanted, hgd]
  rw [if_pos hw]
  exact wp_pushB s x ho base v ad c l m hs hown hx hr hl hbase h
set_option maxRecDepth 100000 in
theorem wp_pushTx {w : World} {o : Oper} {a : Act} {K : Act → World → Prop} {Q : Exit → Act → World → Prop} (sl x : Operand)
    (ho : o.op = .call { callee := .builtin .append, args := #[sl, x], argTypes := #[54, 9] })
    (base : Nat) (v : Value) (l : List UInt8) (s : ByteArray) (hs : a.eval sl = v) (hown : Own w base v l) (hx : a.eval x = .string s)
    (hl : l.length + s.size ≤ 140737488355328) (hbase : base ≤ w.heap.size)
    (h : ∀ v' w', Own w' base v' (l ++ s.data.toList) → w.grownBy w' v.ownBlock → (∀ k, v'.ownBlock = some k → v.ownBlock = some k ∨ w.heap.size ≤ k) → K (a.put o.dst v') w') : o.wp Tryd.prog a w K Q := by
  obtain ⟨i0, hi, hz0, hz1, hz2⟩ := info_parts info8
  obtain ⟨v', w', hr, h2, h3, h4⟩ := Go.Lib.run_append_own_string (P := Tryd.prog) w base 54 9 o.type 5 i0 Tryd.underlying54 Tryd.underlying9 hi hz0 hz1 hz2 v l.length (bv l) hown s (by unfold maxLen; omega) hl hbase
  have hf := append_freshS hown s hl hr
  unfold Oper.wp execOp
  simp only [ho, resolve, invoke, builtin, Sem.run_bind, Sem.run_pure, Result.andThen_ok, List.map_toArray, List.map_cons, List.map_nil, hs, hx, hr]
  refine h v' w' ?_ h3 hf
  unfold Own
  rw [bv_append, List.length_append, size_len, ← bv_cells]
  exact h2
set_option maxRecDepth 100000 in
theorem step_pushTx {w : World} {ops : Array Oper} {o : Oper} {a : Act} {K : Act → World → Prop} {Q : Exit → Act → World → Prop} {E : Prop} (hgd : o.guard = none) (sl x : Operand)
    (ho : o.op = .call { callee := .builtin .append, args := #[sl, x], argTypes := #[54, 9] })
    (base : Nat) (v : Value) (l : List UInt8) (s : ByteArray) (hs : a.eval sl = v) (hown : Own w base v l) (hx : a.eval x = .string s)
    (hl : l.length + s.size ≤ 140737488355328) (hbase : base ≤ w.heap.size)
    (h : ∀ v' w', Own w' base v' (l ++ s.data.toList) → w.grownBy w' v.ownBlock → (∀ k, v'.ownBlock = some k → v.ownBlock = some k ∨ w.heap.size ≤ k) → K (a.put o.dst v') w') : if Region.wanted o (yielded ops a.tmps) = true then Oper.wp Tryd.prog o a w K Q else E := by
  have hw : Region.wanted o (yielded ops a.tmps) = true := by simp [Region.wanted, hgd]
  rw [if_pos hw]
  exact wp_pushTx sl x ho base v l s hs hown hx hl hbase h
/-- Bytes and rows of the call's own, side by side. -/
structure PS (w wc : World) (v : Value) (b : List UInt8) (vw : Value) (rows : List RowL) : Prop where
  own : Own wc w.heap.size v b
  wo : OwnW wc w.heap.size vw rows
  aft : Aft w wc
theorem PS.alloc {w wc : World} {v : Value} {b : List UInt8} {vw : Value} {rows : List RowL} (h : PS w wc v b vw rows) (o : Obj) : PS w (wc.alloc o) v b vw rows := ⟨h.own.aft ((Aft.refl _).alloc o), h.wo.aft ((Aft.refl _).alloc o), h.aft.alloc o⟩
theorem PS.drew {w wc : World} {v : Value} {b : List UInt8} {vw : Value} {rows : List RowL} (h : PS w wc v b vw rows) : PS w wc.drew v b vw rows := ⟨h.own.aft ((Aft.refl _).drew), h.wo.aft ((Aft.refl _).drew), h.aft.drew⟩
theorem Own.blk8 {w : World} {base : Nat} {v : Value} {l : List UInt8} (h : Own w base v l) {k : Nat} (hk : v.ownBlock = some k) : ∃ cur, w.heap[k]? = some (.cells cur 5 (0, 0)) := by
  rcases h.2 with ⟨rfl, _⟩ | ⟨g', cap, cur, rfl, _, h1, _⟩
  · cases hk
  · injection hk with hk
    rw [← hk]
    exact ⟨cur, h1⟩
theorem PS.apart {w wc : World} {v : Value} {b : List UInt8} {vw : Value} {rows : List RowL} (h : PS w wc v b vw rows) {k : Nat} (h1 : v.ownBlock = some k) : vw.ownBlock ≠ some k := by
  intro h2
  obtain ⟨c1, e1⟩ := h.own.blk8 h1
  obtain ⟨c2, e2⟩ := h.wo.blk h2
  rw [e1] at e2
  injection e2 with e2
  injection e2 with _ e2
  exact absurd e2 (by decide)
theorem PS.push {w wc w' : World} {v v' : Value} {b b' : List UInt8} {vw : Value} {rows : List RowL} (h : PS w wc v b vw rows) (o : Own w' w.heap.size v' b') (g : wc.grownBy w' v.ownBlock) : PS w w' v' b' vw rows :=
  ⟨o, h.wo.chg (Chg.grown (p := fun k => v.ownBlock = some k) g (fun k h => h)) (fun k hk e => h.apart e hk), push_below h.aft.to h.own g (Nat.le_refl _) h.aft.size⟩
theorem PS.pushW {w wc w' : World} {v : Value} {b : List UInt8} {vw vw' : Value} {rows rows' : List RowL} (h : PS w wc v b vw rows) (o : OwnW w' w.heap.size vw' rows') (g : wc.grownBy w' vw.ownBlock) : PS w w' v b vw' rows' :=
  ⟨h.own.chg (Chg.grown (p := fun k => vw.ownBlock = some k) g (fun k h => h)) (fun k hk e => h.apart hk e), o, OwnW.push_aft h.aft h.wo g (Nat.le_refl _) h.aft.size⟩
/-- A literal slice of bytes that is not what is appended to. -/
structure PL (wc : World) (v : Value) (g : Nat) (l : List UInt8) : Prop where
  blk : wc.heap[g]? = some (.cells (bv l).toArray 5 (0, 0))
  ne : v.ownBlock ≠ some g
theorem PL.alloc {wc : World} {v : Value} {g : Nat} {l : List UInt8} (h : PL wc v g l) (o : Obj) : PL (wc.alloc o) v g l := ⟨by rw [heap_alloc_old _ _ (lt_of_heap h.blk)]; exact h.blk, h.ne⟩
theorem PS.lit1 {w wc : World} {v : Value} {b : List UInt8} {vw : Value} {rows : List RowL} (h : PS w wc v b vw rows) (x : UInt8) (i : Int) (e : i = (x.toNat : Int)) : PL (wc.alloc (.cells #[.int .u8 i] 5)) v wc.heap.size [x] := by
  subst e
  exact ⟨heap_alloc_new wc _, fun e => by have := (h.own.lt _ e).2; omega⟩
theorem PS.lit2 {w wc : World} {v : Value} {b : List UInt8} {vw : Value} {rows : List RowL} (h : PS w wc v b vw rows) (x y : UInt8) (i j : Int) (e : i = (x.toNat : Int)) (e2 : j = (y.toNat : Int)) : PL (wc.alloc (.cells #[.int .u8 i, .int .u8 j] 5)) v wc.heap.size [x, y] := by
  subst e e2
  exact ⟨heap_alloc_new wc _, fun e => by have := (h.own.lt _ e).2; omega⟩
theorem PL.push {wc w' : World} {v v' : Value} {g : Nat} {l : List UInt8} (h : PL wc v g l) (gw : wc.grownBy w' v.ownBlock) (f : ∀ k, v'.ownBlock = some k → v.ownBlock = some k ∨ wc.heap.size ≤ k) : PL w' v' g l :=
  ⟨((Chg.grown (p := fun k => v.ownBlock = some k) gw (fun k h => h)).block g (lt_of_heap h.blk) (fun e => h.ne e)).trans h.blk, fun e => by
    rcases f g e with e | e
    · exact h.ne e
    · have := lt_of_heap h.blk; omega⟩
theorem PL.rb {wc : World} {v : Value} {g : Nat} {l : List UInt8} (h : PL wc v g l) (hl : l.length ≤ 1000) : Rb wc (.slice (some ⟨g, 0, none⟩) l.length l.length) l := (Own.of_block (base := 0) h.blk (Nat.zero_le _) (by unfold maxLen; omega)).rb
end Go.Proofs.YtmlnboibclfmcaaDoor
