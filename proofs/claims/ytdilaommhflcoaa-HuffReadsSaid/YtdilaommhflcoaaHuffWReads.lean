/-
  The walk of HuffReads.
-/
import Derived.Test.YtdilaommhflcoaaHuffRDec
import Derived.Test.YtdilaommhflcoaaRoomy
import Derived.Test.YtdilaommhflcoaaHuffWBack
namespace Go.Proofs.Ytdilaommhflcoaa
open Go.RowKit

theorem block_rb {w : World} {g : Nat} {l : List UInt8} (h : w.heap[g]? = some (.cells (bv l).toArray 5 (0, 0))) (hl : l.length ≤ maxLen) : Rb w (.slice (some ⟨g, 0, none⟩) l.length l.length) l :=
  (Own.of_block (base := 0) h (Nat.zero_le _) hl).rb
theorem roomy_full (v : Value) (l : List UInt8) (K : Nat) (w : World) (hr : Rb w v l) (hlen : l.length ≤ 1000000000) (hK : l.length = K) :
    Calls Try.prog 19 #[v, .int .u8 77] w fun e w' => ∃ g, e = .returned (.slice (some ⟨g, 0, none⟩) (K + 80) (K + 80)) ∧ Hid (Rb w' (.slice (some ⟨g, 0, none⟩) (K + 80) (K + 80)) (l ++ List.replicate 80 77)) ∧ Hid (Rb w' (.slice (some ⟨g, 0, none⟩) K (K + 80)) l) ∧ Aft w w' := by
  subst hK
  refine (roomy_any v l 77 w hr hlen).mono ?_
  rintro e w' ⟨g, rfl, _, hb, ha⟩
  have h1 := block_rb hb.out (by simp [maxLen]; omega)
  have hll : (l ++ List.replicate 80 (77 : UInt8)).length = l.length + 80 := by simp
  rw [hll] at h1
  refine ⟨g, rfl, Lib.hid h1, Lib.hid ?_, ha⟩
  have h2 := h1.cut (k := l.length) (by omega)
  rw [show (l ++ List.replicate 80 (77 : UInt8)).take l.length = l by simp] at h2
  exact h2

set_option maxHeartbeats 2000000 in
theorem walkHuffReads (w : World) {H : Type} {enc : TypeId × Value → H} {base : Nat} {v : Value} {d : DataW H} {p : List MemPlace} (hval : Value.okWide Try.prog w .any base 27 v) (hd : DataW.Trod enc Try.prog w 0 (fun _ => true) true 27 v d p) :
    Calls Try.prog 5 #[v] w fun e w' => e = .returned (.bool true) ∧ Aft w w' := by
  obtain ⟨l, hr⟩ := open_bytes hval hd
  clear hval hd
  obtain ⟨a1, c1, rfl, m1, m2, hcut⟩ := hr.first
  unfold maxLen at m2
  have HR := Lib.hid hr
  have HC := Lib.hid hcut
  clear hr hcut
  go_enter Try.func5, Try.ntmps5
  go_wp2_with fail
  · have hq := Lib.hid (HC.out 200 (by omega))
    have hL : (l.take 200).length = 200 := by rw [List.length_take]; omega
    generalize l.take 200 = L at hq hL
    refine (roomy_full _ L _ _ hq.out (by omega) hL).mono ?_
    rintro e w1 ⟨g, rfl, hf, hc, b1⟩
    go_wp2_with fail
    refine (decode_any _ L _ hc.out (by omega)).mono ?_
    rintro e w2 ⟨rfl, b2⟩
    go_wp2_with fail
    refine (rdecode_any _ L _ ((hq.out.aft b1).aft b2) (by omega)).mono ?_
    rintro e w3 ⟨rfl, b3⟩
    generalize (decF L).1.toArray = T
    generalize (decF L).2 = E
    go_wp2_with fail
    refine (intact_any _ _ L 77 _ ((hf.out.aft b2).aft b3) (((hq.out.aft b1).aft b2).aft b3) (by omega)).mono ?_
    rintro e w4 ⟨rfl, b4⟩
    go_wp2_with fail
    refine (huffruns_any _).mono ?_
    rintro e w5 ⟨rfl, b5⟩
    go_wp2_with fail
    go_ret
    exact ⟨rfl, b1.trans (b2.trans (b3.trans (b4.trans b5)))⟩
  · have hq := HR
    have hl2 : l.length ≤ 200 := by omega
    obtain ⟨L, rfl⟩ : ∃ L, L = l := ⟨_, rfl⟩
    have hL : L.length = L.length := rfl
    refine (roomy_full _ L _ _ hq.out (by omega) hL).mono ?_
    rintro e w1 ⟨g, rfl, hf, hc, b1⟩
    go_wp2_with fail
    refine (decode_any _ L _ hc.out (by omega)).mono ?_
    rintro e w2 ⟨rfl, b2⟩
    go_wp2_with fail
    refine (rdecode_any _ L _ ((hq.out.aft b1).aft b2) (by omega)).mono ?_
    rintro e w3 ⟨rfl, b3⟩
    generalize (decF L).1.toArray = T
    generalize (decF L).2 = E
    go_wp2_with fail
    refine (intact_any _ _ L 77 _ ((hf.out.aft b2).aft b3) (((hq.out.aft b1).aft b2).aft b3) (by omega)).mono ?_
    rintro e w4 ⟨rfl, b4⟩
    go_wp2_with fail
    refine (huffruns_any _).mono ?_
    rintro e w5 ⟨rfl, b5⟩
    go_wp2_with fail
    go_ret
    exact ⟨rfl, b1.trans (b2.trans (b3.trans (b4.trans b5)))⟩

end Go.Proofs.Ytdilaommhflcoaa
