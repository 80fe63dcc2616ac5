/- The document's numbers: digits to the base 256, the lowest first. -/
import Derived.Test.YtdheopihcohciaaGen
import Derived.Test.YtdheopihcohciaaPolyT
import Derived.Test.YtdheopihcohciaaLast
namespace Go.Proofs.Ytdheopihcohciaa
set_option linter.unusedVariables false
set_option linter.unusedSimpArgs false
open Go.RowKit
attribute [local go_sem ↓] Go.wp_at_zero Go.wp_at_succ

def valB : List Nat → Nat
  | [] => 0
  | d :: l => d + 256 * valB l
theorem valB_append (a b : List Nat) : valB (a ++ b) = valB a + 256 ^ a.length * valB b := by
  induction a with
  | nil => simp [valB]
  | cons d a ih =>
    rw [List.cons_append, valB, valB, ih, List.length_cons, Nat.pow_succ]
    grind
theorem valB_drop (l : List Nat) (i : Nat) : valB (l.drop i) = l.getD i 0 + 256 * valB (l.drop (i + 1)) := by
  by_cases hi : i < l.length
  · rw [List.drop_eq_getElem_cons hi, valB]
    simp [List.getD_eq_getElem?_getD, hi]
  · rw [List.drop_of_length_le (by omega), List.drop_of_length_le (by omega)]
    simp [valB, List.getD_eq_getElem?_getD, List.getElem?_eq_none (show l.length ≤ i by omega)]
theorem valB_bytes (l : List UInt8) : valB (l.map (·.toNat)) = leNat l := by
  induction l with
  | nil => rfl
  | cons c l ih => rw [List.map_cons, valB, leNat, ih]
def NumV (l : List Nat) : List Value := l.map fun n : Nat => Value.int .i64 (n : Int)
theorem NumV_length (l : List Nat) : (NumV l).length = l.length := by simp [NumV]
theorem NumV_get (l : List Nat) (i : Nat) (h : i < l.length) : (NumV l)[i]? = some (.int .i64 ((l.getD i 0 : Nat) : Int)) := by simp [NumV, h]
theorem NumV_append (a b : List Nat) : NumV (a ++ b) = NumV a ++ NumV b := by simp [NumV]
set_option maxRecDepth 100000 in
set_option maxHeartbeats 1000000 in
theorem digit_any (l : List Nat) (A : Option Addr) (n c : Nat) (hn : l.length = n) (i : Nat) (w : World) (hR : RdV w A (NumV l)) :
    Calls Try.prog 41 #[.slice A n c, .int .i64 (i : Int)] w fun e w' => e = .returned (.int .i64 ((l.getD i 0 : Nat) : Int)) ∧ w' = w := by
  have HN := Lib.hid hn
  have HR := Lib.hid hR
  clear hn hR
  go_enter Try.func41, Try.ntmps41
  by_cases h : i < n
  · have hD : decide ((i : Int) < (n : Int)) = true := by simp; omega
    obtain ⟨b, o, rfl, hc⟩ := HR.out i _ (NumV_get l i (by rw [HN.out]; exact h))
    go_wp2_with fail
    go_ret
    exact ⟨rfl, rfl⟩
  · have hD : decide ((i : Int) < (n : Int)) = false := by simp; omega
    have e : Hid (l.getD i 0 = 0) := by show _ = _; rw [List.getD_eq_getElem?_getD, List.getElem?_eq_none (by rw [HN.out]; omega)]; rfl
    go_wp2_with fail
    go_ret
    rw [e.out]
    exact ⟨rfl, rfl⟩
end Go.Proofs.Ytdheopihcohciaa
