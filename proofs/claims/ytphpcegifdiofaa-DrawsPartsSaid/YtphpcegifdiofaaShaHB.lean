/- A sum in the making, as it lies in memory: whether it was made, eight words, 64 bytes, how many bytes. And what taking in a block does to the words. No program. -/
import Derived.Test.YtphpcegifdiofaaShaSched
namespace Go.Proofs.Ytphpcegifdiofaa
set_option linter.unusedVariables false
set_option linter.unusedSimpArgs false
open Go.RowKit

def HBl (made : Bool) (s : List UInt32) (rest : List UInt8) (n : Nat) : List Value := Value.bool made :: ((s.map fun x => Value.int .u32 (x.toNat : Int)) ++ ((rest.map fun x => Value.int .u8 (x.toNat : Int)) ++ [Value.int .u64 (n : Int)]))
def HB (made : Bool) (s : List UInt32) (rest : List UInt8) (n : Nat) : Array Value := (HBl made s rest n).toArray
theorem HB_size (made : Bool) (s : List UInt32) (rest : List UInt8) (n : Nat) (hs : s.length = 8) (hr : rest.length = 64) : (HB made s rest n).size = 74 := by simp [HB, HBl, hs, hr]
theorem HB_made (made : Bool) (s : List UInt32) (rest : List UInt8) (n : Nat) : (HB made s rest n)[0]? = some (.bool made) := by simp [HB, HBl]
theorem HB_s (made : Bool) (s : List UInt32) (rest : List UInt8) (n : Nat) (i : Nat) (hi : i < s.length) : (HB made s rest n)[1 + i]? = some (.int .u32 ((s.getD i 0).toNat : Int)) := by
  simp only [HB, HBl, List.getElem?_toArray, Nat.add_comm 1, List.getElem?_cons_succ]
  rw [List.getElem?_append_left (by simpa using hi)]
  simp [hi]
theorem HB_rest (made : Bool) (s : List UInt32) (rest : List UInt8) (n : Nat) (hs : s.length = 8) (i : Nat) (hi : i < rest.length) : (HB made s rest n)[9 + i]? = some (.int .u8 ((rest.getD i 0).toNat : Int)) := by
  simp only [HB, HBl, List.getElem?_toArray, show 9 + i = (8 + i) + 1 by omega, List.getElem?_cons_succ]
  rw [List.getElem?_append_right (by simp [hs]), List.length_map, hs, show 8 + i - 8 = i by omega, List.getElem?_append_left (by simpa using hi)]
  simp [hi]
theorem HB_n (made : Bool) (s : List UInt32) (rest : List UInt8) (n : Nat) (hs : s.length = 8) (hr : rest.length = 64) : (HB made s rest n)[73]? = some (.int .u64 (n : Int)) := by
  simp only [HB, HBl, List.getElem?_toArray, List.getElem?_cons_succ]
  rw [List.getElem?_append_right (by simp [hs]), List.getElem?_append_right (by simp [hs, hr])]
  simp [hs, hr]
theorem HB_set_made (made m2 : Bool) (s : List UInt32) (rest : List UInt8) (n : Nat) : (HB made s rest n).setIfInBounds 0 (.bool m2) = HB m2 s rest n := by simp [HB, HBl]
theorem HB_set_s (made : Bool) (s : List UInt32) (rest : List UInt8) (n : Nat) (i : Nat) (hi : i < s.length) (x : UInt32) : (HB made s rest n).setIfInBounds (1 + i) (.int .u32 (x.toNat : Int)) = HB made (s.set i x) rest n := by
  simp only [HB, HBl, List.setIfInBounds_toArray, Nat.add_comm 1, List.set_cons_succ]
  rw [List.set_append_left _ _ (by simpa using hi), List.map_set]
theorem HB_set_rest (made : Bool) (s : List UInt32) (rest : List UInt8) (n : Nat) (hs : s.length = 8) (i : Nat) (hi : i < rest.length) (x : UInt8) : (HB made s rest n).setIfInBounds (9 + i) (.int .u8 (x.toNat : Int)) = HB made s (rest.set i x) n := by
  simp only [HB, HBl, List.setIfInBounds_toArray, show 9 + i = (8 + i) + 1 by omega, List.set_cons_succ]
  rw [List.set_append_right _ _ (by simp [hs]), List.length_map, hs, show 8 + i - 8 = i by omega, List.set_append_left _ _ (by simpa using hi), List.map_set]
theorem HB_set_n (made : Bool) (s : List UInt32) (rest : List UInt8) (n m : Nat) (hs : s.length = 8) (hr : rest.length = 64) : (HB made s rest n).setIfInBounds 73 (.int .u64 (m : Int)) = HB made s rest m := by
  simp only [HB, HBl, List.setIfInBounds_toArray, List.set_cons_succ]
  rw [List.set_append_right _ _ (by simp [hs]), List.set_append_right _ _ (by simp [hs, hr])]
  simp [hs, hr]

/-- A round. -/
def chL (v : List UInt32) : UInt32 := v.getD 6 0 ^^^ (v.getD 4 0 &&& (v.getD 5 0 ^^^ v.getD 6 0))
def mjL (v : List UInt32) : UInt32 := (v.getD 0 0 &&& v.getD 1 0) ||| (v.getD 2 0 &&& (v.getD 0 0 ||| v.getD 1 0))
def xL (k w : UInt32) (v : List UInt32) : UInt32 := v.getD 7 0 + (rotr (v.getD 4 0) 6 ^^^ rotr (v.getD 4 0) 11 ^^^ rotr (v.getD 4 0) 25) + chL v + k + w
def yL (v : List UInt32) : UInt32 := (rotr (v.getD 0 0) 2 ^^^ rotr (v.getD 0 0) 13 ^^^ rotr (v.getD 0 0) 22) + mjL v
def roundL (k w : UInt32) (v : List UInt32) : List UInt32 := [xL k w v + yL v, v.getD 0 0, v.getD 1 0, v.getD 2 0, v.getD 3 0 + xL k w v, v.getD 4 0, v.getD 5 0, v.getD 6 0]
def roundsL (ks ws : List UInt32) (v : List UInt32) : Nat → List UInt32
  | 0 => v
  | t + 1 => roundL (ks.getD t 0) (ws.getD t 0) (roundsL ks ws v t)
theorem roundsL_length (ks ws : List UInt32) (v : List UInt32) (hv : v.length = 8) (t : Nat) : (roundsL ks ws v t).length = 8 := by
  cases t with
  | zero => exact hv
  | succ t => rfl
def sumK (s v : List UInt32) : Nat → List UInt32
  | 0 => s
  | i + 1 => (sumK s v i).set i ((sumK s v i).getD i 0 + v.getD i 0)
theorem sumK_length (s v : List UInt32) (i : Nat) : (sumK s v i).length = s.length := by
  induction i with
  | zero => rfl
  | succ i ih => simp [sumK, ih]
/-- The words behind a block. -/
def takeL (s : List UInt32) (b : List UInt8) : List UInt32 := sumK s (roundsL constL (schedK b 64) s 64) 8
theorem takeL_length (s : List UInt32) (b : List UInt8) : (takeL s b).length = s.length := sumK_length _ _ _
end Go.Proofs.Ytphpcegifdiofaa
