/-
  The walks of refused and of HuffRuns.
-/
import Derived.Test.YtdilaommhflcoaaHuffEnc
import Derived.Test.YtdilaommhflcoaaHuffDec
import Derived.Test.YtdilaommhflcoaaSame
namespace Go.Proofs.Ytdilaommhflcoaa
open Go.RowKit

set_option maxHeartbeats 1000000 in
theorem refused_any (v : Value) (l : List UInt8) (w : World) (hr : Rb w v l) (hlen : l.length ≤ 100000000000) (hd : decF l = ([], 4)) :
    Calls Try.prog 15 #[v] w fun e w' => e = .returned (.bool true) ∧ Aft w w' := by
  have HD := Lib.hid hd
  clear hd
  go_enter Try.func15, Try.ntmps15
  go_wp2_with fail
  refine (decode_any v l _ hr hlen).mono ?_
  rintro e w1 ⟨rfl, ha⟩
  rw [HD.out]
  go_wp2_with fail
  go_ret
  exact ⟨rfl, ha⟩

theorem Rb.new (w : World) (l : List UInt8) (hl : l.length ≤ 1000 := by decide) : Rb (w.alloc (.cells (bv l).toArray 5)) (.slice (some ⟨w.heap.size, 0, none⟩) l.length l.length) l := by
  refine Or.inr ⟨w.heap.size, 0, l.length, rfl, Nat.le_refl _, by unfold maxLen; omega, by simp, fun i hi => ?_⟩
  simp only [World.cell?, heap_new]
  simp [bv, hi]
theorem code_of (s c n : Int) (h1 : symCode s = c) (h2 : Hp.lenF s = n) (h0 : -9223372036854775808 ≤ s) (h3 : s ≤ 9223372036854775807) (w : World) :
    Calls Try.prog 11 #[.int .i64 s] w fun e w' => e = .returned (.tuple #[.int .i64 c, .int .i64 n]) ∧ Aft w w' := by
  have := code_any s h0 h3 w
  rw [h1, h2] at this
  exact this
theorem decode_of (v : Value) (l o : List UInt8) (c : Int) (w : World) (hr : Rb w v l) (hlen : l.length ≤ 100000000000) (hd : decF l = (o, c)) :
    Calls Try.prog 12 #[v] w fun e w' => e = .returned (.tuple #[.string ⟨o.toArray⟩, .int .i64 c]) ∧ Aft w w' := by
  have := decode_any v l w hr hlen
  rw [hd] at this
  exact this
theorem encode_of (s : ByteArray) (l : List UInt8) (w : World) (hs : s.size ≤ 100000000000) (he : encF s.data.toList = l) :
    Calls Try.prog 14 #[.string s] w fun e w' => ∃ v, e = .returned v ∧ Own w' w.heap.size v l ∧ Aft w w' := by
  have := encode_any s w hs
  rw [he] at this
  exact this

set_option maxHeartbeats 2000000 in
theorem huffruns_any (w : World) :
    Calls Try.prog 3 #[] w fun e w' => e = .returned (.bool true) ∧ Aft w w' := by
  go_enter Try.func3, Try.ntmps3
  go_wp2_with fail
  refine (code_of 48 0 5 (by decide +kernel) (by decide +kernel) (by decide) (by decide) _).mono ?_
  rintro e w48 ⟨rfl, a48⟩
  go_wp2_with fail
  refine (code_of 38 248 8 (by decide +kernel) (by decide +kernel) (by decide) (by decide) _).mono ?_
  rintro e w38 ⟨rfl, a38⟩
  go_wp2_with fail
  refine (code_of 256 1073741823 30 (by decide +kernel) (by decide +kernel) (by decide) (by decide) _).mono ?_
  rintro e w256 ⟨rfl, a256⟩
  go_wp2_with fail
  refine (code_of 257 0 0 (by decide +kernel) (by decide +kernel) (by decide) (by decide) _).mono ?_
  rintro e w257 ⟨rfl, a257⟩
  go_wp2_with fail
  refine (decode_of _ [100, 2] [51, 48, 50] 0 _ (Rb.new _ [100, 2]) (by decide) (by decide +kernel)).mono ?_
  rintro e d1 ⟨rfl, b1⟩
  go_wp2_with fail
  refine (encode_of _ [0xf1, 0xe3, 0xc2, 0xe5, 0xf2, 0x3a, 0x6b, 0xa0, 0xab, 0x90, 0xf4, 0xff] _ (by decide) (by decide +kernel)).mono ?_
  rintro e d2 ⟨v2, rfl, o2, b2⟩
  go_wp2_with fail
  refine (same_any _ _ _ [0xf1, 0xe3, 0xc2, 0xe5, 0xf2, 0x3a, 0x6b, 0xa0, 0xab, 0x90, 0xf4, 0xff] _ (o2.rb.aft ((Aft.refl _).alloc _)) (Rb.new _ [0xf1, 0xe3, 0xc2, 0xe5, 0xf2, 0x3a, 0x6b, 0xa0, 0xab, 0x90, 0xf4, 0xff])).mono ?_
  rintro e d3 ⟨rfl, b3⟩
  go_wp2_with fail
  refine (encode_of _ [0xa8, 0xeb, 0x10, 0x64, 0x9c, 0xbf] _ (by decide) (by decide +kernel)).mono ?_
  rintro e d4 ⟨v4, rfl, o4, b4⟩
  go_wp2_with fail
  refine (same_any _ _ _ [0xa8, 0xeb, 0x10, 0x64, 0x9c, 0xbf] _ (o4.rb.aft ((Aft.refl _).alloc _)) (Rb.new _ [0xa8, 0xeb, 0x10, 0x64, 0x9c, 0xbf])).mono ?_
  rintro e d5 ⟨rfl, b5⟩
  go_wp2_with fail
  refine (refused_any _ [255, 255, 255, 255] _ (Rb.new _ [255, 255, 255, 255]) (by decide) (by decide +kernel)).mono ?_
  rintro e r1 ⟨rfl, q1⟩
  go_wp2_with fail
  refine (refused_any _ [0, 0] _ (Rb.new _ [0, 0]) (by decide) (by decide +kernel)).mono ?_
  rintro e r2 ⟨rfl, q2⟩
  go_wp2_with fail
  refine (refused_any _ [7, 255] _ (Rb.new _ [7, 255]) (by decide) (by decide +kernel)).mono ?_
  rintro e r3 ⟨rfl, q3⟩
  go_wp2_with fail
  go_ret
  refine ⟨rfl, ?_⟩
  repeat (first | exact Aft.refl _ | assumption | refine Aft.trans ?_ (by assumption) | apply Aft.drew | apply Aft.drewN | apply Aft.alloc)

end Go.Proofs.Ytdilaommhflcoaa
