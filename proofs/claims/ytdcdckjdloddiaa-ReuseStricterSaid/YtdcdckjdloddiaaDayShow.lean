/-
  The walks of day.put and of the reference's two: numbers written as digits.
-/
import Derived.Test.YtdcdckjdloddiaaBuf
import Derived.Test.YtdcdckjdloddiaaDayRead
import Derived.Deep.RegionHeld3
import Derived.Deep.DeepCutAuto
import Derived.IntWalk
namespace Go.Proofs.Ytdcdckjdloddiaa
open Go.RowKit

def dgt (n : Int) : UInt8 := byteOf (48 + n % 10)
def putF : Nat → Int → List UInt8 → List UInt8
  | 0, _, acc => acc
  | k + 1, n, acc => putF k (n / 10) (dgt n :: acc)

theorem cat1 (b : UInt8) (l : List UInt8) : (⟨#[b]⟩ : ByteArray) ++ (⟨l.toArray⟩ : ByteArray) = ⟨(b :: l).toArray⟩ := by
  apply bytes_ext
  rw [ByteArray.data_append]
  simp

def PutRel (w : World) (k : Nat) (n : Int) (v s c : Value) (wr : World) : Prop :=
  ∃ (j : Nat) (m : Int) (acc : List UInt8), j ≤ k ∧ c = .int .i64 (j : Int) ∧ v = .int .i64 m ∧ s = .string ⟨acc.toArray⟩ ∧ 0 ≤ m ∧ m ≤ 10000000 ∧ acc.length ≤ 10 + j ∧ putF (k - j) m acc = putF k n [] ∧ Aft w wr

theorem put2 (n : Int) : putF 2 n [] = [dgt (n / 10), dgt n] := rfl
theorem slice_in (s : ByteArray) (a b : Int) (h0 : 0 ≤ a) (h1 : a ≤ b) (h2 : b ≤ s.size) (w : World) :
    (Instr.slice 9 (.string s) (some (.int .i64 a)) (some (.int .i64 b)) none).run Try.prog w = .ok (.string (s.extract a.toNat b.toNat)) w :=
  run_slice_string w _ s .i64 .i64 a b Try.underlying9 h0 h1 h2
def weekB : ByteArray := ⟨#[84, 104, 117, 70, 114, 105, 83, 97, 116, 83, 117, 110, 77, 111, 110, 84, 117, 101, 87, 101, 100]⟩
def monthsB : ByteArray := ⟨#[74, 97, 110, 70, 101, 98, 77, 97, 114, 65, 112, 114, 77, 97, 121, 74, 117, 110, 74, 117, 108, 65, 117, 103, 83, 101, 112, 79, 99, 116, 78, 111, 118, 68, 101, 99]⟩
theorem size_mk (a : Array UInt8) : (⟨a⟩ : ByteArray).size = a.size := rfl
theorem putF_len : ∀ (k : Nat) (n : Int) (acc : List UInt8), (putF k n acc).length = k + acc.length
  | 0, _, acc => by simp [putF]
  | k + 1, n, acc => by rw [putF, putF_len k]; simp; omega
/-- The text of a date: the place in the week, the day of the month from 0 on, the month, the year, the second of the day. -/
def dateL (w d m y s : Int) : List UInt8 :=
  (Dp.weekL.drop (3 * w).toNat).take 3 ++ [44, 32] ++ putF 2 (d + 1) [] ++ [32] ++ (Dp.monthsL.drop (3 * m).toNat).take 3 ++ [32] ++ putF 4 y [] ++ [32] ++ putF 2 (s / 3600) [] ++ [58] ++ putF 2 (s / 60 % 60) [] ++ [58] ++ putF 2 (s % 60) [] ++ [32, 71, 77, 84]
def showF (n : Int) : List UInt8 :=
  let D := Dp.clamp n / 86400
  let a := Dp.goY 100 0 D
  let b := Dp.goM (1970 + (a.1 : Int)) 20 0 a.2
  dateL (D % 7) b.2 b.1 (1970 + (a.1 : Int)) (Dp.clamp n % 86400)

theorem week_cut (W : Int) (h0 : 0 ≤ W) : (ByteArray.extract ⟨#[84, 104, 117, 70, 114, 105, 83, 97, 116, 83, 117, 110, 77, 111, 110, 84, 117, 101, 87, 101, 100]⟩ (3 * W).toNat (3 * W + 3).toNat).data.toList = (Dp.weekL.drop (3 * W).toNat).take 3 := by
  rw [Lib.extract_data, show (3 * W + 3).toNat - (3 * W).toNat = 3 by omega]
  rfl
theorem months_cut (W : Int) (h0 : 0 ≤ W) : (ByteArray.extract ⟨#[74, 97, 110, 70, 101, 98, 77, 97, 114, 65, 112, 114, 77, 97, 121, 74, 117, 110, 74, 117, 108, 65, 117, 103, 83, 101, 112, 79, 99, 116, 78, 111, 118, 68, 101, 99]⟩ (3 * W).toNat (3 * W + 3).toNat).data.toList = (Dp.monthsL.drop (3 * W).toNat).take 3 := by
  rw [Lib.extract_data, show (3 * W + 3).toNat - (3 * W).toNat = 3 by omega]
  rfl
theorem mk_list (l : List UInt8) : (⟨l.toArray⟩ : ByteArray).data.toList = l := rfl
theorem data_cat (a b : ByteArray) : (a ++ b).data.toList = a.data.toList ++ b.data.toList := by
  rw [ByteArray.data_append, Array.toList_append]
theorem showF_eq {n c W S d q y : Int} {k j : Nat} (hc : Dp.clamp n = c) (hW : c / 86400 % 7 = W) (hS : c % 86400 = S) (hY : Dp.goY 100 0 (c / 86400) = (k, d)) (hy : 1970 + (k : Int) = y) (hM : Dp.goM y 20 0 d = (j, q)) : showF n = dateL W q j y S := by
  unfold showF
  rw [hc]
  simp only [hY, hy, hM, hW, hS]

end Go.Proofs.Ytdcdckjdloddiaa
