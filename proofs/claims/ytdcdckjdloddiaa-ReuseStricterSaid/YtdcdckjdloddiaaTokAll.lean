/-
  The walk of token.All.
-/
import Derived.Test.YtdcdckjdloddiaaShelf
import Derived.Test.YtdcdckjdloddiaaTokSplit
import Derived.Test.YtdcdckjdloddiaaFl
namespace Go.Proofs.Ytdcdckjdloddiaa
open Go.RowKit

def valsF (name : List UInt8) (l : List FieldL) : List (List UInt8) := (l.filter fun f => f.1 == name).map (·.2)
theorem valsF_snoc (name : List UInt8) (l : List FieldL) (f : FieldL) : valsF name (l ++ [f]) = valsF name l ++ (if f.1 == name then [f.2] else []) := by
  unfold valsF
  rw [List.filter_append, List.map_append, List.filter_cons]
  congr 1
  by_cases h : (f.1 == name) = true
  · rw [if_pos h, if_pos h]; rfl
  · rw [if_neg h, if_neg h]; rfl

theorem join_own {w : World} {base : Nat} {v : Value} {xs : List (List UInt8)} (h : OwnS w base v xs) (hl : xs.length ≤ 1000000) (hj : (Lib.join xs [44, 32]).length ≤ 100000000) :
    Calls Try.prog 65 #[v, .string ⟨#[44, 32]⟩] w fun e w' => e = .returned (.string ⟨(Lib.join xs [44, 32]).toArray⟩) ∧ Aft w w' := by
  obtain ⟨a, g, k, rfl, h1, _, hp, hc⟩ := h.form
  by_cases hx : xs = []
  · subst hx
    refine (Try.strings_Join_none a k ⟨#[44, 32]⟩ w).mono ?_
    rintro e w' ⟨rfl, rfl⟩
    exact ⟨rfl, Aft.refl _⟩
  · obtain ⟨rfl, hg⟩ := hp hx
    have hm : (xs.map fun x => (⟨x.toArray⟩ : ByteArray)).map (·.data.toList) = xs := by
      rw [List.map_map]
      exact List.map_id xs
    have hs : (⟨#[44, 32]⟩ : ByteArray).data.toList = [44, 32] := rfl
    have := Try.strings_Join g 0 k (xs.map fun x => ⟨x.toArray⟩) ⟨#[44, 32]⟩ w (fun j x hj => by
      rw [List.getElem?_map] at hj
      cases hxj : xs[j]? with
      | none => rw [hxj] at hj; cases hj
      | some y =>
        rw [hxj] at hj
        simp only [Option.map_some, Option.some.injEq] at hj
        subst hj
        obtain ⟨hlt, he⟩ := List.getElem?_eq_some_iff.1 hxj
        rw [Nat.zero_add, hc j hlt, he]
        rfl) hg (by rw [List.length_map]; omega) (by rw [List.length_map]; omega) (by rw [hm, hs]; omega)
    rw [hm, hs, List.length_map] at this
    exact this

set_option maxHeartbeats 4000000 in
theorem all_any (v : Value) (l : List FieldL) (name : ByteArray) (w : World) (hr : RbF w v l) (hlen : l.length ≤ 1000000) (hj : (Lib.join (valsF name.data.toList l) [44, 32]).length ≤ 100000000) :
    Calls Try.prog 53 #[v, .string name] w fun e w' => e = .returned (.tuple #[.string ⟨(Lib.join (valsF name.data.toList l) [44, 32]).toArray⟩, .int .i64 ((valsF name.data.toList l).length : Int)]) ∧ Aft w w' := by
  obtain ⟨a1, c1, b1, o1, rfl, m1, m2, p1, q1, r1⟩ := hr.open
  unfold maxLen at m2
  have P1 := Lib.hid p1
  have Q1 := Lib.hid q1
  have R1 := Lib.hid r1
  clear hr p1 q1 r1
  obtain ⟨B, hB⟩ : ∃ B, w.heap.size = B := ⟨_, rfl⟩
  have HB := Lib.hid hB
  have hb0 : Below B w w := Below.refl _ _
  have HJ := Lib.hid hj
  clear hB hj
  go_enter Try.func53, Try.ntmps53
  go_wp2_with fail
  go_loopw [6, 8, 11] (fun vv _ vi wr => ∃ (k : Nat) (xs : List (List UInt8)), k ≤ l.length ∧ vi = .int .i64 (k : Int) ∧ Hid (valsF name.data.toList (l.take k) = xs) ∧ Hid (OwnS wr B vv xs) ∧ xs.length ≤ k ∧ Hid (Below B w wr)) (fun _ _ vi _ => l.length - (intOf vi).toNat)
  case atStart => exact ⟨0, [], by omega, by go_num, Lib.hid rfl, Lib.hid (OwnS.nil _ _), by simp, Lib.hid hb0⟩
  case round =>
    clear hb0
    obtain ⟨k, xs, hk, rfl, HX, HO, hxs, HBE⟩ := hrel
    have hbs : B ≤ wr.heap.size := by rw [← HB.out]; exact HBE.out.size
    by_cases hlt : k < l.length
    · have hne : l ≠ [] := by intro e; rw [e] at hlt; simp at hlt
      have hpa := P1.out hne
      have hbb := Q1.out hne
      have hx := R1.out k hlt
      have hx1 : wr.cell? ⟨b1, o1 + k * 2, none⟩ = some (strV l[k].1) := by
        rw [Below.cell HBE.out (p := ⟨b1, o1 + k * 2, none⟩) (by rw [← HB.out]; exact hbb)]
        exact hx.1
      have hx2 : wr.cell? ⟨b1, o1 + k * 2 + 1, none⟩ = some (strV l[k].2) := by
        rw [Below.cell HBE.out (p := ⟨b1, o1 + k * 2 + 1, none⟩) (by rw [← HB.out]; exact hbb)]
        exact hx.2
      have hsn := valsF_snoc name.data.toList (l.take k) l[k]
      rw [← List.take_succ_eq_append_getElem hlt, HX.out] at hsn
      have HSN := Lib.hid hsn
      generalize l[k] = f at hx1 hx2 HSN
      obtain ⟨f1, f2⟩ := f
      unfold strV at hx1 hx2
      simp only at hx1 hx2
      subst hpa
      have hkl : (k : Int) < (l.length : Int) := by omega
      clear hx hsn hne
      have hnew : ((wr.alloc (.cells #[.string ⟨f1.toArray⟩, .string ⟨f2.toArray⟩] 38)).alloc (.cells #[.string ⟨f2.toArray⟩] 9)).cell? ⟨wr.heap.size + 1, 0, none⟩ = some (strV f2) := by
        have := cell_new1 (wr.alloc (.cells #[.string ⟨f1.toArray⟩, .string ⟨f2.toArray⟩] 38)) (strV f2) 9
        rw [World.size_alloc] at this
        exact this
      have HNEW := Lib.hid hnew
      clear hnew
      have hbF : Below B w (wr.alloc (.cells #[.string ⟨f1.toArray⟩, .string ⟨f2.toArray⟩] 38)) := HBE.out.alloc hbs _
      have HOF := Lib.hid (HO.out.aft ((Aft.refl wr).alloc (.cells #[.string ⟨f1.toArray⟩, .string ⟨f2.toArray⟩] 38)))
      have HBF := Lib.hid hbF
      clear hbF
      cases hb : (f1 == name.data.toList)
      · have hb' : (f1 == name.toList) = false := by rw [Lib.toList_data]; exact hb
        have HS2 : Hid (valsF name.data.toList (l.take (k + 1)) = xs) := Lib.hid (by rw [HSN.out]; simp [hb])
        clear hb
        go_wp2_with fail
        go_roundw
        case rel => exact ⟨k + 1, xs, by omega, by go_num, HS2, HOF, by omega, HBF⟩
        case measure => simp [intOf]; omega
      · have hb' : (f1 == name.toList) = true := by rw [Lib.toList_data]; exact hb
        have HS2 : Hid (valsF name.data.toList (l.take (k + 1)) = xs ++ [f2]) := Lib.hid (by rw [HSN.out]; simp [hb])
        have hz2 : B ≤ ((wr.alloc (.cells #[.string ⟨f1.toArray⟩, .string ⟨f2.toArray⟩] 38)).alloc (.cells #[.string ⟨f2.toArray⟩] 9)).heap.size := le_alloc (le_alloc hbs _) _
        have HZ2 := Lib.hid hz2
        have HOG := Lib.hid (HOF.out.aft ((Aft.refl _).alloc (.cells #[.string ⟨f2.toArray⟩] 9)))
        have HBG : Hid (Below B w ((wr.alloc (.cells #[.string ⟨f1.toArray⟩, .string ⟨f2.toArray⟩] 38)).alloc (.cells #[.string ⟨f2.toArray⟩] 9))) := Lib.hid (HBF.out.alloc (le_alloc hbs _) _)
        clear hb hz2
        go_wp2_with (at_builtin; refine wpList_pushS rfl (.tmp 19) (.tmp 22) rfl B _ xs rfl HOG.out ⟨wr.heap.size + 1, 0, none⟩ 1 f2 rfl HNEW.out (by omega) HZ2.out ?_; intro v6 w6 o6 g6)
        go_roundw
        case rel => exact ⟨k + 1, xs ++ [f2], by omega, by go_num, HS2, Lib.hid o6, by simp; omega, Lib.hid (pushS_below HBG.out HOG.out g6 (Nat.le_refl _) HZ2.out)⟩
        case measure => simp [intOf]; omega
    · have hkk : l.take k = l := List.take_of_length_le (by omega)
      rw [hkk] at HX
      have hj := HJ.out
      rw [HX.out] at hj
      have HJO := Lib.hid (join_own HO.out (by omega) hj)
      obtain ⟨ad, kk, rfl, _⟩ := HO.out.slice
      clear hkk hj
      go_wp2_with fail
      refine HJO.out.mono ?_
      rintro e w1 ⟨rfl, b1'⟩
      go_wp2_with fail
      go_ret2
      rw [HX.out]
      refine ⟨rfl, ?_⟩
      unfold Aft
      rw [HB.out]
      exact HBE.out.trans (Below.mono b1'.to hbs)

end Go.Proofs.Ytdcdckjdloddiaa
