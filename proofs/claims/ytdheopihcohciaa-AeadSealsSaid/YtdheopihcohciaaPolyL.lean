/- Bytes as a number, the lowest first; and in limbs. No condition but those each theorem states. -/
import Derived.Test.YtdheopihcohciaaPolyX
namespace Go.Proofs.Ytdheopihcohciaa
set_option linter.unusedVariables false
set_option linter.unusedSimpArgs false
open Go.RowKit

def leNat : List UInt8 → Nat
  | [] => 0
  | c :: r => c.toNat + 256 * leNat r
theorem leNat_append (a b : List UInt8) : leNat (a ++ b) = leNat a + 256 ^ a.length * leNat b := by
  induction a with
  | nil => simp [leNat]
  | cons c r ih =>
    simp only [List.cons_append, leNat, ih, List.length_cons, Nat.pow_succ]
    rw [Nat.mul_add, Nat.mul_comm (256 ^ r.length) 256, Nat.mul_assoc, Nat.add_assoc]
theorem leNat_lt (a : List UInt8) : leNat a < 256 ^ a.length := by
  induction a with
  | nil => simp [leNat]
  | cons c r ih =>
    have := c.toNat_lt
    simp only [leNat, List.length_cons, Nat.pow_succ]
    omega
theorem leNat_snoc (l : List UInt8) (i : Nat) (hi : i < l.length) : leNat (l.take (i + 1)) = leNat (l.take i) + (l.getD i 0).toNat * 256 ^ i := by
  rw [List.take_add_one, List.getElem?_eq_getElem hi, leNat_append]
  simp [leNat, List.getD_eq_getElem?_getD, hi]
  rw [Nat.min_eq_left (by omega), Nat.mul_comm]
theorem or_add (s a b q : Nat) (ha : a < 2 ^ s) (hb : b = 2 ^ s * q) : a ||| b = a + b := by
  subst hb
  rw [Nat.or_comm, ← Nat.two_pow_add_eq_or_of_lt ha, Nat.add_comm]
theorem load_0 (x c : Nat) (hx : x < 1) (hc : c < 256) : limbsN (x + c * 1) = [x % 67108864 ||| c * 1 % 67108864, x / 67108864 % 67108864 ||| c * 1 / 67108864, x / 4503599627370496 % 67108864, x / 302231454903657293676544 % 67108864, x / 20282409603651670423947251286016 % 67108864] := by
  have o1 : x % 67108864 ||| c * 1 % 67108864 = x % 67108864 + c * 1 % 67108864 := or_add 0 _ _ (c % 67108864) (by omega) (by omega)
  have z : x / 67108864 % 67108864 = 0 := by omega
  have o2 : x / 67108864 % 67108864 ||| c * 1 / 67108864 = c * 1 / 67108864 := by rw [z, Nat.zero_or]
  rw [o1, o2]
  simp only [limbsN, List.cons.injEq]
  refine ⟨?_, ?_, ?_, ?_, ?_, trivial⟩ <;> omega
theorem load_1 (x c : Nat) (hx : x < 256) (hc : c < 256) : limbsN (x + c * 256) = [x % 67108864 ||| c * 256 % 67108864, x / 67108864 % 67108864 ||| c * 256 / 67108864, x / 4503599627370496 % 67108864, x / 302231454903657293676544 % 67108864, x / 20282409603651670423947251286016 % 67108864] := by
  have o1 : x % 67108864 ||| c * 256 % 67108864 = x % 67108864 + c * 256 % 67108864 := or_add 8 _ _ (c % 262144) (by omega) (by omega)
  have z : x / 67108864 % 67108864 = 0 := by omega
  have o2 : x / 67108864 % 67108864 ||| c * 256 / 67108864 = c * 256 / 67108864 := by rw [z, Nat.zero_or]
  rw [o1, o2]
  simp only [limbsN, List.cons.injEq]
  refine ⟨?_, ?_, ?_, ?_, ?_, trivial⟩ <;> omega
theorem load_2 (x c : Nat) (hx : x < 65536) (hc : c < 256) : limbsN (x + c * 65536) = [x % 67108864 ||| c * 65536 % 67108864, x / 67108864 % 67108864 ||| c * 65536 / 67108864, x / 4503599627370496 % 67108864, x / 302231454903657293676544 % 67108864, x / 20282409603651670423947251286016 % 67108864] := by
  have o1 : x % 67108864 ||| c * 65536 % 67108864 = x % 67108864 + c * 65536 % 67108864 := or_add 16 _ _ (c % 1024) (by omega) (by omega)
  have z : x / 67108864 % 67108864 = 0 := by omega
  have o2 : x / 67108864 % 67108864 ||| c * 65536 / 67108864 = c * 65536 / 67108864 := by rw [z, Nat.zero_or]
  rw [o1, o2]
  simp only [limbsN, List.cons.injEq]
  refine ⟨?_, ?_, ?_, ?_, ?_, trivial⟩ <;> omega
theorem load_3 (x c : Nat) (hx : x < 16777216) (hc : c < 256) : limbsN (x + c * 16777216) = [x % 67108864 ||| c * 16777216 % 67108864, x / 67108864 % 67108864 ||| c * 16777216 / 67108864, x / 4503599627370496 % 67108864, x / 302231454903657293676544 % 67108864, x / 20282409603651670423947251286016 % 67108864] := by
  have o1 : x % 67108864 ||| c * 16777216 % 67108864 = x % 67108864 + c * 16777216 % 67108864 := or_add 24 _ _ (c % 4) (by omega) (by omega)
  have z : x / 67108864 % 67108864 = 0 := by omega
  have o2 : x / 67108864 % 67108864 ||| c * 16777216 / 67108864 = c * 16777216 / 67108864 := by rw [z, Nat.zero_or]
  rw [o1, o2]
  simp only [limbsN, List.cons.injEq]
  refine ⟨?_, ?_, ?_, ?_, ?_, trivial⟩ <;> omega
theorem load_4 (x c : Nat) (hx : x < 4294967296) (hc : c < 256) : limbsN (x + c * 4294967296) = [x % 67108864, x / 67108864 % 67108864 ||| c * 64 % 67108864, x / 4503599627370496 % 67108864 ||| c * 64 / 67108864, x / 302231454903657293676544 % 67108864, x / 20282409603651670423947251286016 % 67108864] := by
  have o1 : x / 67108864 % 67108864 ||| c * 64 % 67108864 = x / 67108864 % 67108864 + c * 64 % 67108864 := or_add 6 _ _ (c % 1048576) (by omega) (by omega)
  have z : x / 4503599627370496 % 67108864 = 0 := by omega
  have o2 : x / 4503599627370496 % 67108864 ||| c * 64 / 67108864 = c * 64 / 67108864 := by rw [z, Nat.zero_or]
  rw [o1, o2]
  simp only [limbsN, List.cons.injEq]
  refine ⟨?_, ?_, ?_, ?_, ?_, trivial⟩ <;> omega
theorem load_5 (x c : Nat) (hx : x < 1099511627776) (hc : c < 256) : limbsN (x + c * 1099511627776) = [x % 67108864, x / 67108864 % 67108864 ||| c * 16384 % 67108864, x / 4503599627370496 % 67108864 ||| c * 16384 / 67108864, x / 302231454903657293676544 % 67108864, x / 20282409603651670423947251286016 % 67108864] := by
  have o1 : x / 67108864 % 67108864 ||| c * 16384 % 67108864 = x / 67108864 % 67108864 + c * 16384 % 67108864 := or_add 14 _ _ (c % 4096) (by omega) (by omega)
  have z : x / 4503599627370496 % 67108864 = 0 := by omega
  have o2 : x / 4503599627370496 % 67108864 ||| c * 16384 / 67108864 = c * 16384 / 67108864 := by rw [z, Nat.zero_or]
  rw [o1, o2]
  simp only [limbsN, List.cons.injEq]
  refine ⟨?_, ?_, ?_, ?_, ?_, trivial⟩ <;> omega
theorem load_6 (x c : Nat) (hx : x < 281474976710656) (hc : c < 256) : limbsN (x + c * 281474976710656) = [x % 67108864, x / 67108864 % 67108864 ||| c * 4194304 % 67108864, x / 4503599627370496 % 67108864 ||| c * 4194304 / 67108864, x / 302231454903657293676544 % 67108864, x / 20282409603651670423947251286016 % 67108864] := by
  have o1 : x / 67108864 % 67108864 ||| c * 4194304 % 67108864 = x / 67108864 % 67108864 + c * 4194304 % 67108864 := or_add 22 _ _ (c % 16) (by omega) (by omega)
  have z : x / 4503599627370496 % 67108864 = 0 := by omega
  have o2 : x / 4503599627370496 % 67108864 ||| c * 4194304 / 67108864 = c * 4194304 / 67108864 := by rw [z, Nat.zero_or]
  rw [o1, o2]
  simp only [limbsN, List.cons.injEq]
  refine ⟨?_, ?_, ?_, ?_, ?_, trivial⟩ <;> omega
theorem load_7 (x c : Nat) (hx : x < 72057594037927936) (hc : c < 256) : limbsN (x + c * 72057594037927936) = [x % 67108864, x / 67108864 % 67108864, x / 4503599627370496 % 67108864 ||| c * 16 % 67108864, x / 302231454903657293676544 % 67108864 ||| c * 16 / 67108864, x / 20282409603651670423947251286016 % 67108864] := by
  have o1 : x / 4503599627370496 % 67108864 ||| c * 16 % 67108864 = x / 4503599627370496 % 67108864 + c * 16 % 67108864 := or_add 4 _ _ (c % 4194304) (by omega) (by omega)
  have z : x / 302231454903657293676544 % 67108864 = 0 := by omega
  have o2 : x / 302231454903657293676544 % 67108864 ||| c * 16 / 67108864 = c * 16 / 67108864 := by rw [z, Nat.zero_or]
  rw [o1, o2]
  simp only [limbsN, List.cons.injEq]
  refine ⟨?_, ?_, ?_, ?_, ?_, trivial⟩ <;> omega
theorem load_8 (x c : Nat) (hx : x < 18446744073709551616) (hc : c < 256) : limbsN (x + c * 18446744073709551616) = [x % 67108864, x / 67108864 % 67108864, x / 4503599627370496 % 67108864 ||| c * 4096 % 67108864, x / 302231454903657293676544 % 67108864 ||| c * 4096 / 67108864, x / 20282409603651670423947251286016 % 67108864] := by
  have o1 : x / 4503599627370496 % 67108864 ||| c * 4096 % 67108864 = x / 4503599627370496 % 67108864 + c * 4096 % 67108864 := or_add 12 _ _ (c % 16384) (by omega) (by omega)
  have z : x / 302231454903657293676544 % 67108864 = 0 := by omega
  have o2 : x / 302231454903657293676544 % 67108864 ||| c * 4096 / 67108864 = c * 4096 / 67108864 := by rw [z, Nat.zero_or]
  rw [o1, o2]
  simp only [limbsN, List.cons.injEq]
  refine ⟨?_, ?_, ?_, ?_, ?_, trivial⟩ <;> omega
theorem load_9 (x c : Nat) (hx : x < 4722366482869645213696) (hc : c < 256) : limbsN (x + c * 4722366482869645213696) = [x % 67108864, x / 67108864 % 67108864, x / 4503599627370496 % 67108864 ||| c * 1048576 % 67108864, x / 302231454903657293676544 % 67108864 ||| c * 1048576 / 67108864, x / 20282409603651670423947251286016 % 67108864] := by
  have o1 : x / 4503599627370496 % 67108864 ||| c * 1048576 % 67108864 = x / 4503599627370496 % 67108864 + c * 1048576 % 67108864 := or_add 20 _ _ (c % 64) (by omega) (by omega)
  have z : x / 302231454903657293676544 % 67108864 = 0 := by omega
  have o2 : x / 302231454903657293676544 % 67108864 ||| c * 1048576 / 67108864 = c * 1048576 / 67108864 := by rw [z, Nat.zero_or]
  rw [o1, o2]
  simp only [limbsN, List.cons.injEq]
  refine ⟨?_, ?_, ?_, ?_, ?_, trivial⟩ <;> omega
theorem load_10 (x c : Nat) (hx : x < 1208925819614629174706176) (hc : c < 256) : limbsN (x + c * 1208925819614629174706176) = [x % 67108864, x / 67108864 % 67108864, x / 4503599627370496 % 67108864, x / 302231454903657293676544 % 67108864 ||| c * 4 % 67108864, x / 20282409603651670423947251286016 % 67108864 ||| c * 4 / 67108864] := by
  have o1 : x / 302231454903657293676544 % 67108864 ||| c * 4 % 67108864 = x / 302231454903657293676544 % 67108864 + c * 4 % 67108864 := or_add 2 _ _ (c % 16777216) (by omega) (by omega)
  have z : x / 20282409603651670423947251286016 % 67108864 = 0 := by omega
  have o2 : x / 20282409603651670423947251286016 % 67108864 ||| c * 4 / 67108864 = c * 4 / 67108864 := by rw [z, Nat.zero_or]
  rw [o1, o2]
  simp only [limbsN, List.cons.injEq]
  refine ⟨?_, ?_, ?_, ?_, ?_, trivial⟩ <;> omega
theorem load_11 (x c : Nat) (hx : x < 309485009821345068724781056) (hc : c < 256) : limbsN (x + c * 309485009821345068724781056) = [x % 67108864, x / 67108864 % 67108864, x / 4503599627370496 % 67108864, x / 302231454903657293676544 % 67108864 ||| c * 1024 % 67108864, x / 20282409603651670423947251286016 % 67108864 ||| c * 1024 / 67108864] := by
  have o1 : x / 302231454903657293676544 % 67108864 ||| c * 1024 % 67108864 = x / 302231454903657293676544 % 67108864 + c * 1024 % 67108864 := or_add 10 _ _ (c % 65536) (by omega) (by omega)
  have z : x / 20282409603651670423947251286016 % 67108864 = 0 := by omega
  have o2 : x / 20282409603651670423947251286016 % 67108864 ||| c * 1024 / 67108864 = c * 1024 / 67108864 := by rw [z, Nat.zero_or]
  rw [o1, o2]
  simp only [limbsN, List.cons.injEq]
  refine ⟨?_, ?_, ?_, ?_, ?_, trivial⟩ <;> omega
theorem load_12 (x c : Nat) (hx : x < 79228162514264337593543950336) (hc : c < 256) : limbsN (x + c * 79228162514264337593543950336) = [x % 67108864, x / 67108864 % 67108864, x / 4503599627370496 % 67108864, x / 302231454903657293676544 % 67108864 ||| c * 262144 % 67108864, x / 20282409603651670423947251286016 % 67108864 ||| c * 262144 / 67108864] := by
  have o1 : x / 302231454903657293676544 % 67108864 ||| c * 262144 % 67108864 = x / 302231454903657293676544 % 67108864 + c * 262144 % 67108864 := or_add 18 _ _ (c % 256) (by omega) (by omega)
  have z : x / 20282409603651670423947251286016 % 67108864 = 0 := by omega
  have o2 : x / 20282409603651670423947251286016 % 67108864 ||| c * 262144 / 67108864 = c * 262144 / 67108864 := by rw [z, Nat.zero_or]
  rw [o1, o2]
  simp only [limbsN, List.cons.injEq]
  refine ⟨?_, ?_, ?_, ?_, ?_, trivial⟩ <;> omega
theorem load_13 (x c : Nat) (hx : x < 20282409603651670423947251286016) (hc : c < 256) : limbsN (x + c * 20282409603651670423947251286016) = [x % 67108864, x / 67108864 % 67108864, x / 4503599627370496 % 67108864, x / 302231454903657293676544 % 67108864, x / 20282409603651670423947251286016 % 67108864 ||| c * 1 % 67108864] := by
  have o1 : x / 20282409603651670423947251286016 % 67108864 ||| c * 1 % 67108864 = x / 20282409603651670423947251286016 % 67108864 + c * 1 % 67108864 := or_add 0 _ _ (c % 67108864) (by omega) (by omega)
  rw [o1]
  simp only [limbsN, List.cons.injEq]
  refine ⟨?_, ?_, ?_, ?_, ?_, trivial⟩ <;> omega
theorem load_14 (x c : Nat) (hx : x < 5192296858534827628530496329220096) (hc : c < 256) : limbsN (x + c * 5192296858534827628530496329220096) = [x % 67108864, x / 67108864 % 67108864, x / 4503599627370496 % 67108864, x / 302231454903657293676544 % 67108864, x / 20282409603651670423947251286016 % 67108864 ||| c * 256 % 67108864] := by
  have o1 : x / 20282409603651670423947251286016 % 67108864 ||| c * 256 % 67108864 = x / 20282409603651670423947251286016 % 67108864 + c * 256 % 67108864 := or_add 8 _ _ (c % 262144) (by omega) (by omega)
  rw [o1]
  simp only [limbsN, List.cons.injEq]
  refine ⟨?_, ?_, ?_, ?_, ?_, trivial⟩ <;> omega
theorem load_15 (x c : Nat) (hx : x < 1329227995784915872903807060280344576) (hc : c < 256) : limbsN (x + c * 1329227995784915872903807060280344576) = [x % 67108864, x / 67108864 % 67108864, x / 4503599627370496 % 67108864, x / 302231454903657293676544 % 67108864, x / 20282409603651670423947251286016 % 67108864 ||| c * 65536 % 67108864] := by
  have o1 : x / 20282409603651670423947251286016 % 67108864 ||| c * 65536 % 67108864 = x / 20282409603651670423947251286016 % 67108864 + c * 65536 % 67108864 := or_add 16 _ _ (c % 1024) (by omega) (by omega)
  rw [o1]
  simp only [limbsN, List.cons.injEq]
  refine ⟨?_, ?_, ?_, ?_, ?_, trivial⟩ <;> omega
theorem load_16 (x c : Nat) (hx : x < 340282366920938463463374607431768211456) (hc : c < 4) : limbsN (x + c * 340282366920938463463374607431768211456) = [x % 67108864, x / 67108864 % 67108864, x / 4503599627370496 % 67108864, x / 302231454903657293676544 % 67108864, x / 20282409603651670423947251286016 % 67108864 ||| c * 16777216 % 67108864] := by
  have o1 : x / 20282409603651670423947251286016 % 67108864 ||| c * 16777216 % 67108864 = x / 20282409603651670423947251286016 % 67108864 + c * 16777216 % 67108864 := or_add 24 _ _ (c % 4) (by omega) (by omega)
  rw [o1]
  simp only [limbsN, List.cons.injEq]
  refine ⟨?_, ?_, ?_, ?_, ?_, trivial⟩ <;> omega

/-- What a round of 'load' lays into limb k, and into the one behind it. -/
def loadStep (q : List Nat) (i c : Nat) : List Nat :=
  let p := q.set (8 * i / 26) (q.getD (8 * i / 26) 0 ||| c * 2 ^ (8 * i % 26) % 67108864)
  if 8 * i / 26 + 1 < 5 then p.set (8 * i / 26 + 1) (p.getD (8 * i / 26 + 1) 0 ||| c * 2 ^ (8 * i % 26) / 67108864) else p
theorem load_step (x c i : Nat) (hi : i < 17) (hx : x < 256 ^ i) (hc : c < 256) (h4 : i = 16 → c < 4) : loadStep (limbsN x) i c = limbsN (x + c * 256 ^ i) := by
  rcases i with _ | _ | _ | _ | _ | _ | _ | _ | _ | _ | _ | _ | _ | _ | _ | _ | _ | i
  · exact (load_0 x c hx hc).symm
  · exact (load_1 x c hx hc).symm
  · exact (load_2 x c hx hc).symm
  · exact (load_3 x c hx hc).symm
  · exact (load_4 x c hx hc).symm
  · exact (load_5 x c hx hc).symm
  · exact (load_6 x c hx hc).symm
  · exact (load_7 x c hx hc).symm
  · exact (load_8 x c hx hc).symm
  · exact (load_9 x c hx hc).symm
  · exact (load_10 x c hx hc).symm
  · exact (load_11 x c hx hc).symm
  · exact (load_12 x c hx hc).symm
  · exact (load_13 x c hx hc).symm
  · exact (load_14 x c hx hc).symm
  · exact (load_15 x c hx hc).symm
  · exact (load_16 x c hx (h4 rfl)).symm
  · omega
theorem limbsN_bd (x : Nat) : Bd 67108863 (limbsN x) := by
  intro j
  rcases j with _ | _ | _ | _ | _ | j <;> simp [limbsN] <;> omega
theorem limbsN_length (x : Nat) : (limbsN x).length = 5 := rfl
theorem limbsN_val (x : Nat) (h : x < 1361129467683753853853498429727072845824) : valN (limbsN x) = x := by
  simp only [limbsN, valN, List.getD_cons_zero, List.getD_cons_succ]
  omega
end Go.Proofs.Ytdheopihcohciaa
