/-
  The walk of TokenPairs.
-/
import Derived.Test.YtiblkkbjnlccaaaTokLawP
import Derived.Test.YtiblkkbjnlccaaaTokWBack
import Derived.Deep.Grids
namespace Go.Proofs.Ytiblkkbjnlccaaa
open Go.ChangeShapes Go.WideShapes Go.ChangeAt Go.RowKit

theorem cellsB : Try.prog.cellsOf 4 = 1 := by kernel_rfl
/-- A slice of bools that came in. -/
theorem open_boolsRb {H : Type} {enc : TypeId × Value → H} {W : World} {base : Nat} {v : Value} {d : DataW H} {p : List MemPlace} (hval : Value.okWide Try.prog W .any base 51 v) (h : DataW.Trod enc Try.prog W 0 (fun _ => true) true 51 v d p) :
    ∃ (a : Option Addr) (n cap b off : Nat), v = .slice a n cap ∧ n ≤ maxLen ∧ ∀ i, i < n → ∃ q : Bool, a = some ⟨b, off, none⟩ ∧ b < W.heap.size ∧ W.cell? ⟨b, off + i, none⟩ = some (.bool q) := by
  obtain ⟨a1, len, cap, rfl⟩ := okWide_slice Try.underlying51 hval
  obtain ⟨fuel, hf⟩ := h
  rcases Go.Deep.open_bools Try.underlying51 Try.underlying4 cellsB hf with ⟨hcs, hx⟩ | ⟨a, len', cap', F, hcs, _, hl, hm, hx, hcell⟩
  · simp [Value.cells] at hcs
    obtain ⟨rfl, rfl, rfl⟩ := hcs
    exact ⟨none, 0, 0, 0, 0, rfl, Nat.zero_le _, fun i hi => by omega⟩
  · simp [Value.cells] at hcs
    obtain ⟨rfl, rfl, rfl⟩ := hcs
    obtain ⟨hs, hlt⟩ := has_lt Try.underlying51 hval
    obtain ⟨ab, ao, spot⟩ := a
    subst hs
    refine ⟨_, len, cap, ab, ao, rfl, Nat.le_trans hl hm, fun i hi => ⟨F i, rfl, hlt, ?_⟩⟩
    have := hcell i (by omega)
    rw [Addr.add_lit] at this
    exact this
/-- Block g is a pair of the call's own. -/
structure P3W (w : World) (g : Nat) (a b c : Value) : Prop where
  c0 : w.cell? ⟨g, 0, none⟩ = some a
  c1 : w.cell? ⟨g, 1, none⟩ = some b
  c2 : w.cell? ⟨g, 2, none⟩ = some c
  f1 : w.frozen? ⟨g, 1, none⟩ = false
  f2 : w.frozen? ⟨g, 2, none⟩ = false
  lt : g < w.heap.size
theorem P3W.new (w : World) (a b c : Value) (t : TypeId) : P3W (w.alloc (.cells #[a, b, c] t)) w.heap.size a b c :=
  ⟨by simp [go_sem], by simp [go_sem], by simp [go_sem], by simp [go_sem], by simp [go_sem], by simp⟩
theorem P3W.aft {w w' : World} {g : Nat} {a b c : Value} (h : P3W w g a b c) (ha : Aft w w') : P3W w' g a b c :=
  ⟨by rw [Below.cell ha.to (p := ⟨g, 0, none⟩) h.lt]; exact h.c0, by rw [Below.cell ha.to (p := ⟨g, 1, none⟩) h.lt]; exact h.c1, by rw [Below.cell ha.to (p := ⟨g, 2, none⟩) h.lt]; exact h.c2, by rw [Below.frozen ha.to (p := ⟨g, 1, none⟩) h.lt]; exact h.f1, by rw [Below.frozen ha.to (p := ⟨g, 2, none⟩) h.lt]; exact h.f2, Nat.lt_of_lt_of_le h.lt ha.size⟩
theorem OwnP.other {w : World} {base : Nat} {v : Value} {l : List PairL} (h : OwnP w base v l) {p : Addr} (hp : ∀ k, v.ownBlock = some k → k ≠ p.block) (u : Value) : OwnP (w.setCell p u) base v l := by
  obtain ⟨h1, h2⟩ := h
  refine ⟨h1, ?_⟩
  rcases h2 with h2 | ⟨k, cap, cur, a, b, c, d⟩
  · exact Or.inl h2
  · refine Or.inr ⟨k, cap, cur, a, b, ?_, d⟩
    rw [heap_setCell_other w p k u (hp k (by rw [a]; rfl))]
    exact c
theorem set_size (w : World) (p : Addr) (u : Value) : (w.setCell p u).heap.size = w.heap.size := by simp [World.setCell]

theorem below_aft3 {B : Nat} {w w' : World} (h : Below B w w') (hB : w.heap.size = B) : Aft w w' := by
  unfold Aft
  rw [hB]
  exact h
theorem RbF.one (w : World) (x y : ByteArray) : RbF (w.alloc (.cells #[.string x, .string y] 40)) (.slice (some ⟨w.heap.size, 0, none⟩) 1 1) [(x.data.toList, y.data.toList)] := by
  refine Or.inr ⟨w.heap.size, 0, 1, rfl, by simp, by decide, by simp, fun i hi => ?_⟩
  have : i = 0 := by simpa using hi
  subst this
  exact ⟨by simp [go_sem, strV], by simp [go_sem, strV]⟩
theorem pairs_of (line : ByteArray) (ps : List PairL) (w : World) (v : Value) (hr : RbF w v [([120], line.data.toList)]) (hz : line.size ≤ 100000) (hp : pairsF [120] [([120], line.data.toList)] = ps) :
    Calls Try.prog 21 #[v, .string ⟨#[120]⟩] w fun e w' => ∃ v', e = .returned v' ∧ OwnP w' w.heap.size v' ps ∧ Aft w w' := by
  have h := pairs_any v [([120], line.data.toList)] ⟨#[120]⟩ w hr (by simp) (by
    have hv : valsF (⟨#[120]⟩ : ByteArray).data.toList [([120], line.data.toList)] = [line.data.toList] := rfl
    rw [hv, Lib.join_one, size_len]
    omega)
  have e : pairsF (⟨#[120]⟩ : ByteArray).data.toList [([120], line.data.toList)] = ps := hp
  rw [e] at h
  exact h

set_option maxRecDepth 100000 in
set_option maxHeartbeats 8000000 in
theorem walkTokenPairs (w : World) {H : Type} {enc : TypeId × Value → H} {base : Nat} {v : Value} {d : DataW H} {p : List MemPlace} (hval : Value.okWide Try.prog w .any base 22 v) (hd : DataW.Trod enc Try.prog w 0 (fun _ => true) true 22 v d p)
    {base2 : Nat} {v2 : Value} {d2 : DataW H} {p2 : List MemPlace} (hval2 : Value.okWide Try.prog w .any base2 22 v2) (hd2 : DataW.Trod enc Try.prog w 0 (fun _ => true) true 22 v2 d2 p2)
    {base3 : Nat} {v3 : Value} {d3 : DataW H} {p3 : List MemPlace} (hval3 : Value.okWide Try.prog w .any base3 51 v3) (hd3 : DataW.Trod enc Try.prog w 0 (fun _ => true) true 51 v3 d3 p3) :
    Calls Try.prog 8 #[v, v2, v3] w fun e w' => e = .returned (.bool true) ∧ Aft w w' := by
  obtain ⟨l, hr, hmx⟩ := open_strsRb hval hd
  obtain ⟨vl, hr2, hmx2⟩ := open_strsRb hval2 hd2
  obtain ⟨a3, n3, c3, b3, o3, rfl, m3, r3⟩ := open_boolsRb hval3 hd3
  clear hval hd hval2 hd2 hval3 hd3
  obtain ⟨a1, c1, b1, o1, rfl, m1, p1, q1, r1⟩ := hr.open
  obtain ⟨a2, c2, b2, o2, rfl, m2, p2, q2, r2⟩ := hr2.open
  unfold maxLen at m1 m2 m3
  have P1 := Lib.hid p1
  have Q1 := Lib.hid q1
  have R1 := Lib.hid r1
  have MX := Lib.hid hmx
  have P2 := Lib.hid p2
  have Q2 := Lib.hid q2
  have R2 := Lib.hid r2
  have MX2 := Lib.hid hmx2
  have R3 := Lib.hid r3
  clear hr p1 q1 r1 hmx hr2 p2 q2 r2 hmx2 r3
  obtain ⟨B, hB⟩ : ∃ B, w.heap.size = B := ⟨_, rfl⟩
  have HB := Lib.hid hB
  have hb0 : Below B w w := Below.refl _ _
  clear hB
  go_enter Try.func8, Try.ntmps8
  go_wp2_with fail
  go_loopw [7, 8, 9, 10, 11, 12, 13, 14] (fun vl vw vi _ _ _ _ _ wr => ∃ (k : Nat) (line : ByteArray) (es : List EntL) (ps : List PairL), k ≤ l.length ∧ k ≤ 12 ∧ vi = .int .i64 (k : Int) ∧ vl = .string line ∧ Hid (line.data.toList = lineL es) ∧ Hid (es.map (·.2) = ps) ∧ Hid (OkEs es) ∧ Hid (OwnP wr B vw ps) ∧ line.size ≤ 1000 * k ∧ ps.length ≤ k ∧ Hid (Below B w wr)) (fun _ _ vi _ _ _ _ _ _ => l.length - (intOf vi).toNat)
  case atStart => exact ⟨0, _, [], [], by omega, by omega, by go_num, rfl, Lib.hid rfl, Lib.hid rfl, Lib.hid (fun p hp => by cases hp), Lib.hid (OwnP.nil _ _), by decide, by simp, Lib.hid hb0⟩
  case round =>
    clear hb0
    obtain ⟨k, line, es, ps, hk, hk10, rfl, rfl, HL, HE, HOK, HO, hls, hps, HBE⟩ := hrel
    have hbs : B ≤ wr.heap.size := by rw [← HB.out]; exact HBE.out.size
    by_cases hlt : k < l.length ∧ k < 12
    · obtain ⟨hlt, hlt10⟩ := hlt
      have hne : l ≠ [] := by intro e; rw [e] at hlt; simp at hlt
      have hpa := P1.out hne
      have hbb := Q1.out hne
      have hx : wr.cell? ⟨b1, o1 + k, none⟩ = some (strV l[k]) := by
        rw [Below.cell HBE.out (p := ⟨b1, o1 + k, none⟩) (by rw [← HB.out]; exact hbb)]
        exact R1.out k hlt
      have hym := MX.out l[k] (List.getElem_mem hlt)
      generalize l[k] = y at hx hym
      obtain ⟨t, ht⟩ : ∃ t : ByteArray, t.data.toList = y.take 300 := ⟨⟨(y.take 300).toArray⟩, rfl⟩
      have htz : t.size ≤ 300 := by rw [← size_len, ht, List.length_take]; omega
      have CS := Lib.hid (fun w => short_of ⟨y.toArray⟩ t w (by simpa [ByteArray.size] using hym) ht)
      obtain ⟨tb, htb⟩ : ∃ b, tokB t.data.toList = b := ⟨_, rfl⟩
      have CT := Lib.hid (token_of t tb htb (by unfold maxLen; omega))
      have HTB := Lib.hid htb
      have CL := Lib.hid (fun w => lower_any t w (by unfold maxLen; omega))
      obtain ⟨lw, hlw⟩ : ∃ lw, lowerL t.data.toList = lw := ⟨_, rfl⟩
      rw [hlw] at CL
      have HLW := Lib.hid hlw
      unfold strV at hx
      subst hpa
      have hkl : (k : Int) < (l.length : Int) := by omega
      clear ht hne hym htb hlw
      cases tb
      · go_wp2_with (first | (go_at_call 14; refine (CS.out _).mono ?_; rintro e w1 ⟨rfl, rfl⟩) | (go_at_call 15; refine (CT.out _).mono ?_; rintro e w1 ⟨rfl, rfl⟩))
        go_roundw
        case rel => exact ⟨k + 1, line, es, ps, by omega, by omega, by go_num, rfl, HL, HE, HOK, HO, by omega, by omega, HBE⟩
        case measure => simp [intOf]; omega
      · go_wp2_with (first | (go_at_call 14; refine (CS.out _).mono ?_; rintro e w1 ⟨rfl, rfl⟩) | (go_at_call 15; refine (CT.out _).mono ?_; rintro e w1 ⟨rfl, rfl⟩))
        refine (CL.out _).mono ?_
        rintro e w2 ⟨rfl, bl2⟩
        have hb2 : B ≤ w2.heap.size := Nat.le_trans hbs bl2.to.size
        have HB2 := Lib.hid (HBE.out.trans (Below.mono bl2.to hbs))
        have HO2 := Lib.hid (HO.out.aft bl2)
        have HLT := Lib.hid (OwnP.lt HO2.out)
        clear HO HBE hx hbs
        by_cases hv : k < vl.length
        · have hne2 : vl ≠ [] := by intro e; rw [e] at hv; simp at hv
          have hpa2 := P2.out hne2
          have hbb2 := Q2.out hne2
          have hbb3 : b2 < w2.heap.size := by have := HB.out; omega
          have hx2 : (w2.alloc (.cells #[.string ⟨lw.toArray⟩, .string ⟨#[]⟩, .bool false] 28)).cell? ⟨b2, o2 + k, none⟩ = some (strV vl[k]) := by
            rw [World.cell?_alloc_lt w2 _ ⟨b2, o2 + k, none⟩ hbb3, Below.cell HB2.out (p := ⟨b2, o2 + k, none⟩) (by rw [← HB.out]; exact hbb2)]
            exact R2.out k hv
          have hym2 := MX2.out vl[k] (List.getElem_mem hv)
          generalize vl[k] = y2 at hx2 hym2
          obtain ⟨u, hu⟩ : ∃ u : ByteArray, u.data.toList = y2.take 300 := ⟨⟨(y2.take 300).toArray⟩, rfl⟩
          have huz : u.size ≤ 300 := by rw [← size_len, hu, List.length_take]; omega
          have CSu := Lib.hid (fun w => short_of ⟨y2.toArray⟩ u w (by simpa [ByteArray.size] using hym2) hu)
          have CQ := Lib.hid (fun w => quo_any u w (by omega))
          obtain ⟨ub, hub⟩ : ∃ b, tokB u.data.toList = b := ⟨_, rfl⟩
          have CTu := Lib.hid (token_of u ub hub (by unfold maxLen; omega))
          have HUB := Lib.hid hub
          unfold strV at hx2
          subst hpa2
          have hvl : (k : Int) < (vl.length : Int) := by omega
          have p2w := P3W.new w2 (.string ⟨lw.toArray⟩) (.string ⟨#[]⟩) (.bool false) 28
          clear hu hne2 hym2 hub
          by_cases hpl : u.data.toList.all plainB = true
          · have hq : quores u.data.toList = .tuple #[.string ⟨(quoL u.data.toList).toArray⟩, .bool true] := by unfold quores; rw [if_pos hpl]
            rw [hq] at CQ
            obtain ⟨q, hqq⟩ : ∃ q : ByteArray, q = ⟨(quoL u.data.toList).toArray⟩ := ⟨_, rfl⟩
            have hqd : q.data.toList = quoL u.data.toList := by rw [hqq]
            have hqz : q.size ≤ 602 := by
              rw [← size_len, hqd, quoL_len]
              have := escL_len u.data.toList
              rw [size_len] at this
              omega
            rw [← hqq] at CQ
            have HQD := Lib.hid hqd
            have HPL := Lib.hid hpl
            clear hq hqq hqd hpl
            go_wp2_with (go_at_call 14; refine (CSu.out _).mono ?_; rintro e w1 ⟨rfl, rfl⟩)
            refine (CQ.out _).mono ?_
            rintro e w3 ⟨rfl, bq⟩
            have hb3 : B ≤ w3.heap.size := Nat.le_trans (le_alloc hb2 _) bq.to.size
            have HW3 := Lib.hid ((HB2.out.alloc hb2 (.cells #[.string ⟨lw.toArray⟩, .string ⟨#[]⟩, .bool false] 28)).trans (Below.mono bq.to (le_alloc hb2 _)))
            have HO3 := Lib.hid ((HO2.out.aft (new_aft w2 (.cells #[.string ⟨lw.toArray⟩, .string ⟨#[]⟩, .bool false] 28))).aft bq)
            have p3w := p2w.aft bq
            obtain ⟨gp, hgp⟩ : ∃ gp, w2.heap.size = gp := ⟨_, rfl⟩
            have hgB : B ≤ gp := by rw [← hgp]; exact hb2
            rw [hgp] at p3w HLT ⊢
            have x0 := p3w.c0
            have x1 := p3w.c1
            have x2 := p3w.c2
            have x3 := p3w.f1
            have x4 := p3w.f2
            clear hgp hx2 p2w hbb3 bq HO2 HB2
            by_cases hq3 : k < n3
            · obtain ⟨qb, rfl, hq1, hq2⟩ := R3.out k hq3
              have hq2' : w3.cell? ⟨b3, o3 + k, none⟩ = some (.bool qb) := by
                rw [Below.cell HW3.out (p := ⟨b3, o3 + k, none⟩) (by rw [← HB.out]; exact hq1)]
                exact hq2
              have hq3' : (k : Int) < (n3 : Int) := by omega
              clear hq2
              cases qb
              · skip
                cases ub
                · skip
                  have HOD := Lib.hid (HO3.out.aft (new_aft w3 (.cells #[.string ⟨lw.toArray⟩, .string ⟨#[]⟩, .bool false] 28)))
                  have HND := Lib.hid (P3.new w3 (.string ⟨lw.toArray⟩) (.string ⟨#[]⟩) (.bool false) 28)
                  go_wp2_with (first | (go_at_call 15; refine (CTu.out _).mono ?_; rintro e w5 ⟨rfl, rfl⟩) | (at_builtin; refine wpList_pushP rfl (.tmp 85) (.tmp 87) rfl B _ ps rfl HOD.out w3.heap.size 1 ⟨lw, [], false⟩ rfl HND.out.c0 HND.out.c1 HND.out.c2 (by omega) (le_alloc hb3 _) ?_; intro v6 w6 o6 g6))
                  go_roundw
                  case rel =>
                    refine ⟨k + 1, _, es ++ [(t.data.toList, ⟨lw, [], false⟩)], ps ++ [⟨lw, [], false⟩], by omega, by omega, by go_num, rfl, Lib.hid ?_, Lib.hid ?_, Lib.hid (HOK.out.snoc (by rw [← HLW.out]; exact ok_bare HTB.out)), Lib.hid o6, ?_, by simp; omega, Lib.hid (pushP_below (HW3.out.alloc hb3 _) HOD.out g6 (Nat.le_refl _) (le_alloc hb3 _))⟩
                    · rw [lineL_snoc, ← HL.out]
                      simp
                    · rw [List.map_append, HE.out]
                      rfl
                    · simp only [ByteArray.size_append]
                      show line.size + t.size + 2 ≤ _
                      omega
                  case measure => simp [intOf]; omega
                · skip
                  have HWB := Lib.hid ((HW3.out.setCell (p := ⟨gp, 1, none⟩) hgB (.string u)).setCell (p := ⟨gp, 2, none⟩) hgB (.bool true))
                  have hno : ∀ kk, _ = some kk → kk ≠ gp := fun kk hkk => Nat.ne_of_lt (HLT.out kk hkk).2
                  have HOB := Lib.hid (((HO3.out.other (p := ⟨gp, 1, none⟩) hno (.string u)).other (p := ⟨gp, 2, none⟩) hno (.bool true)).aft (new_aft _ (.cells #[.string ⟨lw.toArray⟩, .string u, .bool true] 28)))
                  have hnb := P3.new ((w3.setCell ⟨gp, 1, none⟩ (.string u)).setCell ⟨gp, 2, none⟩ (.bool true)) (.string ⟨lw.toArray⟩) (.string u) (.bool true) 28
                  rw [set_size, set_size] at hnb
                  have HNB := Lib.hid hnb
                  have hzb : B ≤ ((w3.setCell ⟨gp, 1, none⟩ (.string u)).setCell ⟨gp, 2, none⟩ (.bool true)).heap.size := by rw [set_size, set_size]; exact hb3
                  have HZB := Lib.hid hzb
                  clear hnb hzb hno
                  go_wp2_with (first | (go_at_call 15; refine (CTu.out _).mono ?_; rintro e w5 ⟨rfl, rfl⟩) | (at_builtin; refine wpList_pushP rfl (.tmp 85) (.tmp 87) rfl B _ ps rfl HOB.out w3.heap.size 1 ⟨lw, u.data.toList, true⟩ rfl HNB.out.c0 HNB.out.c1 HNB.out.c2 (by omega) (le_alloc HZB.out _) ?_; intro v6 w6 o6 g6))
                  go_roundw
                  case rel =>
                    refine ⟨k + 1, _, es ++ [(t.data.toList ++ 61 :: u.data.toList, ⟨lw, u.data.toList, true⟩)], ps ++ [⟨lw, u.data.toList, true⟩], by omega, by omega, by go_num, rfl, Lib.hid ?_, Lib.hid ?_, Lib.hid (HOK.out.snoc (by rw [← HLW.out]; exact ok_tok HTB.out HUB.out)), Lib.hid o6, ?_, by simp; omega, Lib.hid (pushP_below (HWB.out.alloc HZB.out _) HOB.out g6 (Nat.le_refl _) (le_alloc HZB.out _))⟩
                    · rw [lineL_snoc, ← HL.out]
                      simp
                    · rw [List.map_append, HE.out]
                      rfl
                    · simp only [ByteArray.size_append]
                      show line.size + (t.size + 1 + u.size) + 2 ≤ _
                      omega
                  case measure => simp [intOf]; omega
              · skip
                have HWB := Lib.hid ((HW3.out.setCell (p := ⟨gp, 1, none⟩) hgB (.string u)).setCell (p := ⟨gp, 2, none⟩) hgB (.bool true))
                have hno : ∀ kk, _ = some kk → kk ≠ gp := fun kk hkk => Nat.ne_of_lt (HLT.out kk hkk).2
                have HOB := Lib.hid (((HO3.out.other (p := ⟨gp, 1, none⟩) hno (.string u)).other (p := ⟨gp, 2, none⟩) hno (.bool true)).aft (new_aft _ (.cells #[.string ⟨lw.toArray⟩, .string u, .bool true] 28)))
                have hnb := P3.new ((w3.setCell ⟨gp, 1, none⟩ (.string u)).setCell ⟨gp, 2, none⟩ (.bool true)) (.string ⟨lw.toArray⟩) (.string u) (.bool true) 28
                rw [set_size, set_size] at hnb
                have HNB := Lib.hid hnb
                have hzb : B ≤ ((w3.setCell ⟨gp, 1, none⟩ (.string u)).setCell ⟨gp, 2, none⟩ (.bool true)).heap.size := by rw [set_size, set_size]; exact hb3
                have HZB := Lib.hid hzb
                clear hnb hzb hno
                go_wp2_with (first | (at_builtin; refine wpList_pushP rfl (.tmp 85) (.tmp 87) rfl B _ ps rfl HOB.out w3.heap.size 1 ⟨lw, u.data.toList, true⟩ rfl HNB.out.c0 HNB.out.c1 HNB.out.c2 (by omega) (le_alloc HZB.out _) ?_; intro v6 w6 o6 g6))
                go_roundw
                case rel =>
                  refine ⟨k + 1, _, es ++ [(t.data.toList ++ 61 :: quoL u.data.toList, ⟨lw, u.data.toList, true⟩)], ps ++ [⟨lw, u.data.toList, true⟩], by omega, by omega, by go_num, rfl, Lib.hid ?_, Lib.hid ?_, Lib.hid (HOK.out.snoc (by rw [← HLW.out]; exact ok_quo HTB.out HPL.out)), Lib.hid o6, ?_, by simp; omega, Lib.hid (pushP_below (HWB.out.alloc HZB.out _) HOB.out g6 (Nat.le_refl _) (le_alloc HZB.out _))⟩
                  · rw [lineL_snoc, ← HL.out, ← HQD.out]
                    simp
                  · rw [List.map_append, HE.out]
                    rfl
                  · simp only [ByteArray.size_append]
                    show line.size + (t.size + 1 + q.size) + 2 ≤ _
                    omega
                case measure => simp [intOf]; omega
            · have hq3' : (n3 : Int) ≤ (k : Int) := by omega
              cases ub
              · skip
                have HOD := Lib.hid (HO3.out.aft (new_aft w3 (.cells #[.string ⟨lw.toArray⟩, .string ⟨#[]⟩, .bool false] 28)))
                have HND := Lib.hid (P3.new w3 (.string ⟨lw.toArray⟩) (.string ⟨#[]⟩) (.bool false) 28)
                go_wp2_with (first | (go_at_call 15; refine (CTu.out _).mono ?_; rintro e w5 ⟨rfl, rfl⟩) | (at_builtin; refine wpList_pushP rfl (.tmp 85) (.tmp 87) rfl B _ ps rfl HOD.out w3.heap.size 1 ⟨lw, [], false⟩ rfl HND.out.c0 HND.out.c1 HND.out.c2 (by omega) (le_alloc hb3 _) ?_; intro v6 w6 o6 g6))
                go_roundw
                case rel =>
                  refine ⟨k + 1, _, es ++ [(t.data.toList, ⟨lw, [], false⟩)], ps ++ [⟨lw, [], false⟩], by omega, by omega, by go_num, rfl, Lib.hid ?_, Lib.hid ?_, Lib.hid (HOK.out.snoc (by rw [← HLW.out]; exact ok_bare HTB.out)), Lib.hid o6, ?_, by simp; omega, Lib.hid (pushP_below (HW3.out.alloc hb3 _) HOD.out g6 (Nat.le_refl _) (le_alloc hb3 _))⟩
                  · rw [lineL_snoc, ← HL.out]
                    simp
                  · rw [List.map_append, HE.out]
                    rfl
                  · simp only [ByteArray.size_append]
                    show line.size + t.size + 2 ≤ _
                    omega
                case measure => simp [intOf]; omega
              · skip
                have HWB := Lib.hid ((HW3.out.setCell (p := ⟨gp, 1, none⟩) hgB (.string u)).setCell (p := ⟨gp, 2, none⟩) hgB (.bool true))
                have hno : ∀ kk, _ = some kk → kk ≠ gp := fun kk hkk => Nat.ne_of_lt (HLT.out kk hkk).2
                have HOB := Lib.hid (((HO3.out.other (p := ⟨gp, 1, none⟩) hno (.string u)).other (p := ⟨gp, 2, none⟩) hno (.bool true)).aft (new_aft _ (.cells #[.string ⟨lw.toArray⟩, .string u, .bool true] 28)))
                have hnb := P3.new ((w3.setCell ⟨gp, 1, none⟩ (.string u)).setCell ⟨gp, 2, none⟩ (.bool true)) (.string ⟨lw.toArray⟩) (.string u) (.bool true) 28
                rw [set_size, set_size] at hnb
                have HNB := Lib.hid hnb
                have hzb : B ≤ ((w3.setCell ⟨gp, 1, none⟩ (.string u)).setCell ⟨gp, 2, none⟩ (.bool true)).heap.size := by rw [set_size, set_size]; exact hb3
                have HZB := Lib.hid hzb
                clear hnb hzb hno
                go_wp2_with (first | (go_at_call 15; refine (CTu.out _).mono ?_; rintro e w5 ⟨rfl, rfl⟩) | (at_builtin; refine wpList_pushP rfl (.tmp 85) (.tmp 87) rfl B _ ps rfl HOB.out w3.heap.size 1 ⟨lw, u.data.toList, true⟩ rfl HNB.out.c0 HNB.out.c1 HNB.out.c2 (by omega) (le_alloc HZB.out _) ?_; intro v6 w6 o6 g6))
                go_roundw
                case rel =>
                  refine ⟨k + 1, _, es ++ [(t.data.toList ++ 61 :: u.data.toList, ⟨lw, u.data.toList, true⟩)], ps ++ [⟨lw, u.data.toList, true⟩], by omega, by omega, by go_num, rfl, Lib.hid ?_, Lib.hid ?_, Lib.hid (HOK.out.snoc (by rw [← HLW.out]; exact ok_tok HTB.out HUB.out)), Lib.hid o6, ?_, by simp; omega, Lib.hid (pushP_below (HWB.out.alloc HZB.out _) HOB.out g6 (Nat.le_refl _) (le_alloc HZB.out _))⟩
                  · rw [lineL_snoc, ← HL.out]
                    simp
                  · rw [List.map_append, HE.out]
                    rfl
                  · simp only [ByteArray.size_append]
                    show line.size + (t.size + 1 + u.size) + 2 ≤ _
                    omega
                case measure => simp [intOf]; omega
          · have hq : quores u.data.toList = .tuple #[.string ⟨#[]⟩, .bool false] := by unfold quores; rw [if_neg hpl]
            rw [hq] at CQ
            clear hq hpl
            go_wp2_with (go_at_call 14; refine (CSu.out _).mono ?_; rintro e w1 ⟨rfl, rfl⟩)
            refine (CQ.out _).mono ?_
            rintro e w3 ⟨rfl, bq⟩
            have hb3 : B ≤ w3.heap.size := Nat.le_trans (le_alloc hb2 _) bq.to.size
            have HW3 := Lib.hid ((HB2.out.alloc hb2 (.cells #[.string ⟨lw.toArray⟩, .string ⟨#[]⟩, .bool false] 28)).trans (Below.mono bq.to (le_alloc hb2 _)))
            have HO3 := Lib.hid ((HO2.out.aft (new_aft w2 (.cells #[.string ⟨lw.toArray⟩, .string ⟨#[]⟩, .bool false] 28))).aft bq)
            have p3w := p2w.aft bq
            obtain ⟨gp, hgp⟩ : ∃ gp, w2.heap.size = gp := ⟨_, rfl⟩
            have hgB : B ≤ gp := by rw [← hgp]; exact hb2
            rw [hgp] at p3w HLT ⊢
            have x0 := p3w.c0
            have x1 := p3w.c1
            have x2 := p3w.c2
            have x3 := p3w.f1
            have x4 := p3w.f2
            clear hgp hx2 p2w hbb3 bq HO2 HB2
            by_cases hq3 : k < n3
            · obtain ⟨qb, rfl, hq1, hq2⟩ := R3.out k hq3
              have hq2' : w3.cell? ⟨b3, o3 + k, none⟩ = some (.bool qb) := by
                rw [Below.cell HW3.out (p := ⟨b3, o3 + k, none⟩) (by rw [← HB.out]; exact hq1)]
                exact hq2
              have hq3' : (k : Int) < (n3 : Int) := by omega
              clear hq2
              cases qb
              · skip
                cases ub
                · skip
                  have HOD := Lib.hid (HO3.out.aft (new_aft w3 (.cells #[.string ⟨lw.toArray⟩, .string ⟨#[]⟩, .bool false] 28)))
                  have HND := Lib.hid (P3.new w3 (.string ⟨lw.toArray⟩) (.string ⟨#[]⟩) (.bool false) 28)
                  go_wp2_with (first | (go_at_call 15; refine (CTu.out _).mono ?_; rintro e w5 ⟨rfl, rfl⟩) | (at_builtin; refine wpList_pushP rfl (.tmp 85) (.tmp 87) rfl B _ ps rfl HOD.out w3.heap.size 1 ⟨lw, [], false⟩ rfl HND.out.c0 HND.out.c1 HND.out.c2 (by omega) (le_alloc hb3 _) ?_; intro v6 w6 o6 g6))
                  go_roundw
                  case rel =>
                    refine ⟨k + 1, _, es ++ [(t.data.toList, ⟨lw, [], false⟩)], ps ++ [⟨lw, [], false⟩], by omega, by omega, by go_num, rfl, Lib.hid ?_, Lib.hid ?_, Lib.hid (HOK.out.snoc (by rw [← HLW.out]; exact ok_bare HTB.out)), Lib.hid o6, ?_, by simp; omega, Lib.hid (pushP_below (HW3.out.alloc hb3 _) HOD.out g6 (Nat.le_refl _) (le_alloc hb3 _))⟩
                    · rw [lineL_snoc, ← HL.out]
                      simp
                    · rw [List.map_append, HE.out]
                      rfl
                    · simp only [ByteArray.size_append]
                      show line.size + t.size + 2 ≤ _
                      omega
                  case measure => simp [intOf]; omega
                · skip
                  have HWB := Lib.hid ((HW3.out.setCell (p := ⟨gp, 1, none⟩) hgB (.string u)).setCell (p := ⟨gp, 2, none⟩) hgB (.bool true))
                  have hno : ∀ kk, _ = some kk → kk ≠ gp := fun kk hkk => Nat.ne_of_lt (HLT.out kk hkk).2
                  have HOB := Lib.hid (((HO3.out.other (p := ⟨gp, 1, none⟩) hno (.string u)).other (p := ⟨gp, 2, none⟩) hno (.bool true)).aft (new_aft _ (.cells #[.string ⟨lw.toArray⟩, .string u, .bool true] 28)))
                  have hnb := P3.new ((w3.setCell ⟨gp, 1, none⟩ (.string u)).setCell ⟨gp, 2, none⟩ (.bool true)) (.string ⟨lw.toArray⟩) (.string u) (.bool true) 28
                  rw [set_size, set_size] at hnb
                  have HNB := Lib.hid hnb
                  have hzb : B ≤ ((w3.setCell ⟨gp, 1, none⟩ (.string u)).setCell ⟨gp, 2, none⟩ (.bool true)).heap.size := by rw [set_size, set_size]; exact hb3
                  have HZB := Lib.hid hzb
                  clear hnb hzb hno
                  go_wp2_with (first | (go_at_call 15; refine (CTu.out _).mono ?_; rintro e w5 ⟨rfl, rfl⟩) | (at_builtin; refine wpList_pushP rfl (.tmp 85) (.tmp 87) rfl B _ ps rfl HOB.out w3.heap.size 1 ⟨lw, u.data.toList, true⟩ rfl HNB.out.c0 HNB.out.c1 HNB.out.c2 (by omega) (le_alloc HZB.out _) ?_; intro v6 w6 o6 g6))
                  go_roundw
                  case rel =>
                    refine ⟨k + 1, _, es ++ [(t.data.toList ++ 61 :: u.data.toList, ⟨lw, u.data.toList, true⟩)], ps ++ [⟨lw, u.data.toList, true⟩], by omega, by omega, by go_num, rfl, Lib.hid ?_, Lib.hid ?_, Lib.hid (HOK.out.snoc (by rw [← HLW.out]; exact ok_tok HTB.out HUB.out)), Lib.hid o6, ?_, by simp; omega, Lib.hid (pushP_below (HWB.out.alloc HZB.out _) HOB.out g6 (Nat.le_refl _) (le_alloc HZB.out _))⟩
                    · rw [lineL_snoc, ← HL.out]
                      simp
                    · rw [List.map_append, HE.out]
                      rfl
                    · simp only [ByteArray.size_append]
                      show line.size + (t.size + 1 + u.size) + 2 ≤ _
                      omega
                  case measure => simp [intOf]; omega
              · skip
                cases ub
                · skip
                  have HOD := Lib.hid (HO3.out.aft (new_aft w3 (.cells #[.string ⟨lw.toArray⟩, .string ⟨#[]⟩, .bool false] 28)))
                  have HND := Lib.hid (P3.new w3 (.string ⟨lw.toArray⟩) (.string ⟨#[]⟩) (.bool false) 28)
                  go_wp2_with (first | (go_at_call 15; refine (CTu.out _).mono ?_; rintro e w5 ⟨rfl, rfl⟩) | (at_builtin; refine wpList_pushP rfl (.tmp 85) (.tmp 87) rfl B _ ps rfl HOD.out w3.heap.size 1 ⟨lw, [], false⟩ rfl HND.out.c0 HND.out.c1 HND.out.c2 (by omega) (le_alloc hb3 _) ?_; intro v6 w6 o6 g6))
                  go_roundw
                  case rel =>
                    refine ⟨k + 1, _, es ++ [(t.data.toList, ⟨lw, [], false⟩)], ps ++ [⟨lw, [], false⟩], by omega, by omega, by go_num, rfl, Lib.hid ?_, Lib.hid ?_, Lib.hid (HOK.out.snoc (by rw [← HLW.out]; exact ok_bare HTB.out)), Lib.hid o6, ?_, by simp; omega, Lib.hid (pushP_below (HW3.out.alloc hb3 _) HOD.out g6 (Nat.le_refl _) (le_alloc hb3 _))⟩
                    · rw [lineL_snoc, ← HL.out]
                      simp
                    · rw [List.map_append, HE.out]
                      rfl
                    · simp only [ByteArray.size_append]
                      show line.size + t.size + 2 ≤ _
                      omega
                  case measure => simp [intOf]; omega
                · skip
                  have HWB := Lib.hid ((HW3.out.setCell (p := ⟨gp, 1, none⟩) hgB (.string u)).setCell (p := ⟨gp, 2, none⟩) hgB (.bool true))
                  have hno : ∀ kk, _ = some kk → kk ≠ gp := fun kk hkk => Nat.ne_of_lt (HLT.out kk hkk).2
                  have HOB := Lib.hid (((HO3.out.other (p := ⟨gp, 1, none⟩) hno (.string u)).other (p := ⟨gp, 2, none⟩) hno (.bool true)).aft (new_aft _ (.cells #[.string ⟨lw.toArray⟩, .string u, .bool true] 28)))
                  have hnb := P3.new ((w3.setCell ⟨gp, 1, none⟩ (.string u)).setCell ⟨gp, 2, none⟩ (.bool true)) (.string ⟨lw.toArray⟩) (.string u) (.bool true) 28
                  rw [set_size, set_size] at hnb
                  have HNB := Lib.hid hnb
                  have hzb : B ≤ ((w3.setCell ⟨gp, 1, none⟩ (.string u)).setCell ⟨gp, 2, none⟩ (.bool true)).heap.size := by rw [set_size, set_size]; exact hb3
                  have HZB := Lib.hid hzb
                  clear hnb hzb hno
                  go_wp2_with (first | (go_at_call 15; refine (CTu.out _).mono ?_; rintro e w5 ⟨rfl, rfl⟩) | (at_builtin; refine wpList_pushP rfl (.tmp 85) (.tmp 87) rfl B _ ps rfl HOB.out w3.heap.size 1 ⟨lw, u.data.toList, true⟩ rfl HNB.out.c0 HNB.out.c1 HNB.out.c2 (by omega) (le_alloc HZB.out _) ?_; intro v6 w6 o6 g6))
                  go_roundw
                  case rel =>
                    refine ⟨k + 1, _, es ++ [(t.data.toList ++ 61 :: u.data.toList, ⟨lw, u.data.toList, true⟩)], ps ++ [⟨lw, u.data.toList, true⟩], by omega, by omega, by go_num, rfl, Lib.hid ?_, Lib.hid ?_, Lib.hid (HOK.out.snoc (by rw [← HLW.out]; exact ok_tok HTB.out HUB.out)), Lib.hid o6, ?_, by simp; omega, Lib.hid (pushP_below (HWB.out.alloc HZB.out _) HOB.out g6 (Nat.le_refl _) (le_alloc HZB.out _))⟩
                    · rw [lineL_snoc, ← HL.out]
                      simp
                    · rw [List.map_append, HE.out]
                      rfl
                    · simp only [ByteArray.size_append]
                      show line.size + (t.size + 1 + u.size) + 2 ≤ _
                      omega
                  case measure => simp [intOf]; omega
            · have hq3' : (n3 : Int) ≤ (k : Int) := by omega
              cases ub
              · skip
                have HOD := Lib.hid (HO3.out.aft (new_aft w3 (.cells #[.string ⟨lw.toArray⟩, .string ⟨#[]⟩, .bool false] 28)))
                have HND := Lib.hid (P3.new w3 (.string ⟨lw.toArray⟩) (.string ⟨#[]⟩) (.bool false) 28)
                go_wp2_with (first | (go_at_call 15; refine (CTu.out _).mono ?_; rintro e w5 ⟨rfl, rfl⟩) | (at_builtin; refine wpList_pushP rfl (.tmp 85) (.tmp 87) rfl B _ ps rfl HOD.out w3.heap.size 1 ⟨lw, [], false⟩ rfl HND.out.c0 HND.out.c1 HND.out.c2 (by omega) (le_alloc hb3 _) ?_; intro v6 w6 o6 g6))
                go_roundw
                case rel =>
                  refine ⟨k + 1, _, es ++ [(t.data.toList, ⟨lw, [], false⟩)], ps ++ [⟨lw, [], false⟩], by omega, by omega, by go_num, rfl, Lib.hid ?_, Lib.hid ?_, Lib.hid (HOK.out.snoc (by rw [← HLW.out]; exact ok_bare HTB.out)), Lib.hid o6, ?_, by simp; omega, Lib.hid (pushP_below (HW3.out.alloc hb3 _) HOD.out g6 (Nat.le_refl _) (le_alloc hb3 _))⟩
                  · rw [lineL_snoc, ← HL.out]
                    simp
                  · rw [List.map_append, HE.out]
                    rfl
                  · simp only [ByteArray.size_append]
                    show line.size + t.size + 2 ≤ _
                    omega
                case measure => simp [intOf]; omega
              · skip
                have HWB := Lib.hid ((HW3.out.setCell (p := ⟨gp, 1, none⟩) hgB (.string u)).setCell (p := ⟨gp, 2, none⟩) hgB (.bool true))
                have hno : ∀ kk, _ = some kk → kk ≠ gp := fun kk hkk => Nat.ne_of_lt (HLT.out kk hkk).2
                have HOB := Lib.hid (((HO3.out.other (p := ⟨gp, 1, none⟩) hno (.string u)).other (p := ⟨gp, 2, none⟩) hno (.bool true)).aft (new_aft _ (.cells #[.string ⟨lw.toArray⟩, .string u, .bool true] 28)))
                have hnb := P3.new ((w3.setCell ⟨gp, 1, none⟩ (.string u)).setCell ⟨gp, 2, none⟩ (.bool true)) (.string ⟨lw.toArray⟩) (.string u) (.bool true) 28
                rw [set_size, set_size] at hnb
                have HNB := Lib.hid hnb
                have hzb : B ≤ ((w3.setCell ⟨gp, 1, none⟩ (.string u)).setCell ⟨gp, 2, none⟩ (.bool true)).heap.size := by rw [set_size, set_size]; exact hb3
                have HZB := Lib.hid hzb
                clear hnb hzb hno
                go_wp2_with (first | (go_at_call 15; refine (CTu.out _).mono ?_; rintro e w5 ⟨rfl, rfl⟩) | (at_builtin; refine wpList_pushP rfl (.tmp 85) (.tmp 87) rfl B _ ps rfl HOB.out w3.heap.size 1 ⟨lw, u.data.toList, true⟩ rfl HNB.out.c0 HNB.out.c1 HNB.out.c2 (by omega) (le_alloc HZB.out _) ?_; intro v6 w6 o6 g6))
                go_roundw
                case rel =>
                  refine ⟨k + 1, _, es ++ [(t.data.toList ++ 61 :: u.data.toList, ⟨lw, u.data.toList, true⟩)], ps ++ [⟨lw, u.data.toList, true⟩], by omega, by omega, by go_num, rfl, Lib.hid ?_, Lib.hid ?_, Lib.hid (HOK.out.snoc (by rw [← HLW.out]; exact ok_tok HTB.out HUB.out)), Lib.hid o6, ?_, by simp; omega, Lib.hid (pushP_below (HWB.out.alloc HZB.out _) HOB.out g6 (Nat.le_refl _) (le_alloc HZB.out _))⟩
                  · rw [lineL_snoc, ← HL.out]
                    simp
                  · rw [List.map_append, HE.out]
                    rfl
                  · simp only [ByteArray.size_append]
                    show line.size + (t.size + 1 + u.size) + 2 ≤ _
                    omega
                case measure => simp [intOf]; omega
        · have hv' : (vl.length : Int) ≤ (k : Int) := by omega
          have hnew := two_new w2 (strV lw) (strV []) (.bool false) (.cells #[strV lw, strV [], .bool false] 28) 28
          have HNEW := Lib.hid hnew
          have HO4 := Lib.hid ((HO2.out.aft (new_aft w2 (.cells #[strV lw, strV [], .bool false] 28))).aft (new_aft _ (.cells #[strV lw, strV [], .bool false] 28)))
          have HB4 := Lib.hid ((HB2.out.alloc hb2 (.cells #[strV lw, strV [], .bool false] 28)).alloc (le_alloc hb2 _) (.cells #[strV lw, strV [], .bool false] 28))
          clear hnew
          go_wp2_with (at_builtin; refine wpList_pushP rfl (.tmp 85) (.tmp 87) rfl B _ ps rfl HO4.out (w2.heap.size + 1) 1 ⟨lw, [], false⟩ rfl HNEW.out.1 HNEW.out.2.1 HNEW.out.2.2 (by omega) (le_alloc (le_alloc hb2 _) _) ?_; intro v6 w6 o6 g6)
          go_roundw
          case rel =>
            refine ⟨k + 1, _, es ++ [(t.data.toList, ⟨lw, [], false⟩)], ps ++ [⟨lw, [], false⟩], by omega, by omega, by go_num, rfl, Lib.hid ?_, Lib.hid ?_, Lib.hid (HOK.out.snoc (by rw [← HLW.out]; exact ok_bare HTB.out)), Lib.hid o6, ?_, by simp; omega, Lib.hid (pushP_below HB4.out HO4.out g6 (Nat.le_refl _) (le_alloc (le_alloc hb2 _) _))⟩
            · rw [lineL_snoc, ← HL.out]
              simp
            · rw [List.map_append, HE.out]
              rfl
            · simp only [ByteArray.size_append]
              show line.size + t.size + 2 ≤ _
              omega
          case measure => simp [intOf]; omega
    · have HPF : Hid (pairsF [120] [([120], line.data.toList)] = ps) := Lib.hid (by rw [HL.out, pairs_line HOK.out]; exact HE.out)
      by_cases h1 : k < l.length
      · have h2 : 12 ≤ (k : Int) := by omega
        clear hlt
        go_wp2_with fail
        refine (pairs_of line ps _ _ (RbF.one wr ⟨#[120]⟩ line) (by omega) HPF.out).mono ?_
        rintro e w1 ⟨v1, rfl, op1, ba1⟩
        have HOW := Lib.hid ((HO.out.aft (new_aft wr (.cells #[.string ⟨#[120]⟩, .string line] 40))).aft ba1)
        have HAW := Lib.hid ((HBE.out.alloc hbs (.cells #[.string ⟨#[120]⟩, .string line] 40)).trans (Below.mono ba1.to (le_alloc hbs _)))
        obtain ⟨aa, ga, ka, rfl, hka1, hka2, hpa, hca⟩ := op1.form
        obtain ⟨ab, gb, kb, hvb, hkb1, hkb2, hpb, hcb⟩ := HOW.out.form
        subst hvb
        unfold maxLen at hka2 hkb2
        have HPA := Lib.hid hpa
        have HCA := Lib.hid hca
        have HPB := Lib.hid hpb
        have HCB := Lib.hid hcb
        clear hpa hca hpb hcb op1 HO HOW
        go_wp2_with fail
        go_loopw [16] (fun vi wi => ∃ j : Nat, j ≤ ps.length ∧ vi = .int .i64 (j : Int) ∧ Hid (Aft w1 wi)) (fun vi _ => ps.length - (intOf vi).toNat)
        case atStart => exact ⟨0, by omega, by go_num, Lib.hid (Aft.refl _)⟩
        case round =>
          obtain ⟨j, hj, rfl, HWI⟩ := hrel
          by_cases hjl : j < ps.length
          · have hnp : ps ≠ [] := by intro e; rw [e] at hjl; simp at hjl
            obtain ⟨hpa1, hpa2⟩ := HPA.out hnp
            obtain ⟨hpb1, hpb2⟩ := HPB.out hnp
            obtain ⟨u0, u1, u2⟩ := HCA.out j hjl
            obtain ⟨z0, z1, z2⟩ := HCB.out j hjl
            rw [← Below.cell HWI.out.to (p := ⟨ga, j * 3, none⟩) hpa2] at u0
            rw [← Below.cell HWI.out.to (p := ⟨ga, j * 3 + 1, none⟩) hpa2] at u1
            rw [← Below.cell HWI.out.to (p := ⟨ga, j * 3 + 2, none⟩) hpa2] at u2
            rw [← Below.cell HWI.out.to (p := ⟨gb, j * 3, none⟩) hpb2] at z0
            rw [← Below.cell HWI.out.to (p := ⟨gb, j * 3 + 1, none⟩) hpb2] at z1
            rw [← Below.cell HWI.out.to (p := ⟨gb, j * 3 + 2, none⟩) hpb2] at z2
            generalize ps[j] = pp at u0 u1 u2 z0 z1 z2
            obtain ⟨q1, q2, q3⟩ := pp
            unfold strV at u0 u1 z0 z1
            simp only at u0 u1 u2 z0 z1 z2
            subst hpa1 hpb1
            have hjl' : (j : Int) < (ps.length : Int) := by omega
            clear hnp
            go_wp2_with fail
            go_quiet (fail)
            go_wp2_with fail
            go_roundw
            case rel => exact ⟨j + 1, by omega, by go_num, Lib.hid (HWI.out.drewN _)⟩
            case measure => simp [intOf]; omega
          · have hjk : j = ps.length := by omega
            go_wp2_with fail
            refine (tokenruns_any _).mono ?_
            rintro e w4 ⟨rfl, b4⟩
            go_wp2_with fail
            go_ret
            exact ⟨rfl, (below_aft3 HAW.out HB.out).trans (HWI.out.trans b4)⟩
      · have h1' : (l.length : Int) ≤ (k : Int) := by omega
        clear hlt
        go_wp2_with fail
        refine (pairs_of line ps _ _ (RbF.one wr ⟨#[120]⟩ line) (by omega) HPF.out).mono ?_
        rintro e w1 ⟨v1, rfl, op1, ba1⟩
        have HOW := Lib.hid ((HO.out.aft (new_aft wr (.cells #[.string ⟨#[120]⟩, .string line] 40))).aft ba1)
        have HAW := Lib.hid ((HBE.out.alloc hbs (.cells #[.string ⟨#[120]⟩, .string line] 40)).trans (Below.mono ba1.to (le_alloc hbs _)))
        obtain ⟨aa, ga, ka, rfl, hka1, hka2, hpa, hca⟩ := op1.form
        obtain ⟨ab, gb, kb, hvb, hkb1, hkb2, hpb, hcb⟩ := HOW.out.form
        subst hvb
        unfold maxLen at hka2 hkb2
        have HPA := Lib.hid hpa
        have HCA := Lib.hid hca
        have HPB := Lib.hid hpb
        have HCB := Lib.hid hcb
        clear hpa hca hpb hcb op1 HO HOW
        go_wp2_with fail
        go_loopw [16] (fun vi wi => ∃ j : Nat, j ≤ ps.length ∧ vi = .int .i64 (j : Int) ∧ Hid (Aft w1 wi)) (fun vi _ => ps.length - (intOf vi).toNat)
        case atStart => exact ⟨0, by omega, by go_num, Lib.hid (Aft.refl _)⟩
        case round =>
          obtain ⟨j, hj, rfl, HWI⟩ := hrel
          by_cases hjl : j < ps.length
          · have hnp : ps ≠ [] := by intro e; rw [e] at hjl; simp at hjl
            obtain ⟨hpa1, hpa2⟩ := HPA.out hnp
            obtain ⟨hpb1, hpb2⟩ := HPB.out hnp
            obtain ⟨u0, u1, u2⟩ := HCA.out j hjl
            obtain ⟨z0, z1, z2⟩ := HCB.out j hjl
            rw [← Below.cell HWI.out.to (p := ⟨ga, j * 3, none⟩) hpa2] at u0
            rw [← Below.cell HWI.out.to (p := ⟨ga, j * 3 + 1, none⟩) hpa2] at u1
            rw [← Below.cell HWI.out.to (p := ⟨ga, j * 3 + 2, none⟩) hpa2] at u2
            rw [← Below.cell HWI.out.to (p := ⟨gb, j * 3, none⟩) hpb2] at z0
            rw [← Below.cell HWI.out.to (p := ⟨gb, j * 3 + 1, none⟩) hpb2] at z1
            rw [← Below.cell HWI.out.to (p := ⟨gb, j * 3 + 2, none⟩) hpb2] at z2
            generalize ps[j] = pp at u0 u1 u2 z0 z1 z2
            obtain ⟨q1, q2, q3⟩ := pp
            unfold strV at u0 u1 z0 z1
            simp only at u0 u1 u2 z0 z1 z2
            subst hpa1 hpb1
            have hjl' : (j : Int) < (ps.length : Int) := by omega
            clear hnp
            go_wp2_with fail
            go_quiet (fail)
            go_wp2_with fail
            go_roundw
            case rel => exact ⟨j + 1, by omega, by go_num, Lib.hid (HWI.out.drewN _)⟩
            case measure => simp [intOf]; omega
          · have hjk : j = ps.length := by omega
            go_wp2_with fail
            refine (tokenruns_any _).mono ?_
            rintro e w4 ⟨rfl, b4⟩
            go_wp2_with fail
            go_ret
            exact ⟨rfl, (below_aft3 HAW.out HB.out).trans (HWI.out.trans b4)⟩

end Go.Proofs.Ytiblkkbjnlccaaa
