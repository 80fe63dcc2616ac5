/- Numbers in limbs of 26 bits, plain. No condition but those each theorem states. -/
import Derived.Test.YtdheopihcohciaaOps
namespace Go.Proofs.Ytdheopihcohciaa
set_option linter.unusedVariables false
set_option linter.unusedSimpArgs false
open Go.RowKit

def WN (l : List Nat) : Array Value := (l.map fun x : Nat => Value.int .u64 (x : Int)).toArray
theorem WN_size (l : List Nat) : (WN l).size = l.length := by simp [WN]
theorem WN_get (l : List Nat) (i : Nat) (h : i < l.length) : (WN l)[i]? = some (.int .u64 ((l.getD i 0 : Nat) : Int)) := by simp [WN, h]
theorem WN_set (l : List Nat) (i : Nat) (x : Nat) : (WN l).setIfInBounds i (.int .u64 (x : Int)) = WN (l.set i x) := by simp [WN, List.map_set]
theorem WN_one (l : List Nat) : (WN l).all (·.oneCell') = true := all_oneCell_toArray (by intro v hv; simp only [List.mem_map] at hv; obtain ⟨q, _, rfl⟩ := hv; rfl)

/-- What a number in limbs is. -/
def valN (l : List Nat) : Nat := l.getD 0 0 + 67108864 * (l.getD 1 0 + 67108864 * (l.getD 2 0 + 67108864 * (l.getD 3 0 + 67108864 * l.getD 4 0)))
def PN : Nat := 1361129467683753853853498429727072845819
theorem list5 : ∀ (v : List Nat), v.length = 5 → ∃ a b c d e, v = [a, b, c, d, e]
  | [a, b, c, d, e], _ => ⟨a, b, c, d, e, rfl⟩
/-- All limbs at most so great. -/
def Bd (B : Nat) (l : List Nat) : Prop := ∀ j, l.getD j 0 ≤ B
theorem Bd.mono {B B' : Nat} {l : List Nat} (h : Bd B l) (hb : B ≤ B') : Bd B' l := fun j => Nat.le_trans (h j) hb
theorem getD_set (l : List Nat) (i j x : Nat) : (l.set i x).getD j 0 = if i = j ∧ j < l.length then x else l.getD j 0 := by
  rw [List.getD_eq_getElem?_getD, List.getElem?_set, List.getD_eq_getElem?_getD]
  by_cases h : i = j
  · subst h
    by_cases hl : i < l.length
    · simp [hl]
    · simp [hl]
  · simp [h]
theorem Bd.set {B : Nat} {l : List Nat} (h : Bd B l) {i x : Nat} (hx : x ≤ B) : Bd B (l.set i x) := by
  intro j
  rw [getD_set]
  split
  · exact hx
  · exact h j

/-! ### a sum -/
def addK (n m : List Nat) : Nat → List Nat
  | 0 => n
  | i + 1 => (addK n m i).set i ((addK n m i).getD i 0 + m.getD i 0)
theorem addK_length (n m : List Nat) (i : Nat) : (addK n m i).length = n.length := by
  induction i with
  | zero => rfl
  | succ i ih => simp [addK, ih]
theorem addK_later (n m : List Nat) : ∀ (i j : Nat), i ≤ j → (addK n m i).getD j 0 = n.getD j 0
  | 0, j, _ => rfl
  | i + 1, j, h => by rw [addK, getD_set, if_neg (by omega), addK_later n m i j (by omega)]
theorem addK_all (n m : List Nat) (hn : n.length = 5) (hm : m.length = 5) : valN (addK n m 5) = valN n + valN m ∧ ∀ B C, Bd B n → Bd C m → Bd (B + C) (addK n m 5) := by
  obtain ⟨a, b, c, d, e, rfl⟩ := list5 n hn
  obtain ⟨a', b', c', d', e', rfl⟩ := list5 m hm
  have h : addK [a, b, c, d, e] [a', b', c', d', e'] 5 = [a + a', b + b', c + c', d + d', e + e'] := rfl
  rw [h]
  refine ⟨by simp [valN]; omega, fun B C hB hC j => ?_⟩
  have h0 := hB 0
  have h1 := hB 1
  have h2 := hB 2
  have h3 := hB 3
  have h4 := hB 4
  have k0 := hC 0
  have k1 := hC 1
  have k2 := hC 2
  have k3 := hC 3
  have k4 := hC 4
  simp at h0 h1 h2 h3 h4 k0 k1 k2 k3 k4
  rcases j with _ | _ | _ | _ | _ | j <;> simp <;> omega
/-! ### a carry -/
def carryK (n : List Nat) : Nat → List Nat
  | 0 => n
  | i + 1 =>
    let m := carryK n i
    let m1 := m.set i (m.getD i 0 % 67108864)
    if i + 1 < 5 then m1.set (i + 1) (m1.getD (i + 1) 0 + m.getD i 0 / 67108864) else m1.set 0 (m1.getD 0 0 + 5 * (m.getD i 0 / 67108864))
theorem carryK_length (n : List Nat) (i : Nat) : (carryK n i).length = n.length := by
  induction i with
  | zero => rfl
  | succ i ih => unfold carryK; dsimp only; split <;> simp [ih]
def carryL (n : List Nat) : List Nat := carryK n 5
theorem carryL_length (n : List Nat) : (carryL n).length = n.length := carryK_length n 5
theorem carryK_bd (n : List Nat) (hn : n.length = 5) (h : Bd 4611686018427387904 n) : ∀ i, i ≤ 5 → Bd 9223372036854775808 (carryK n i) := by
  obtain ⟨a, b, c, d, e, rfl⟩ := list5 n hn
  have h0 := h 0
  have h1 := h 1
  have h2 := h 2
  have h3 := h 3
  have h4 := h 4
  simp at h0 h1 h2 h3 h4
  intro i hi j
  rcases i with _ | _ | _ | _ | _ | _ | i
  · exact Nat.le_trans (h j) (by omega)
  · show ([a % 67108864, b + a / 67108864, c, d, e] : List Nat).getD j 0 ≤ _
    rcases j with _ | _ | _ | _ | _ | j <;> simp <;> omega
  · show ([a % 67108864, (b + a / 67108864) % 67108864, c + (b + a / 67108864) / 67108864, d, e] : List Nat).getD j 0 ≤ _
    rcases j with _ | _ | _ | _ | _ | j <;> simp <;> omega
  · show ([a % 67108864, (b + a / 67108864) % 67108864, (c + (b + a / 67108864) / 67108864) % 67108864, d + (c + (b + a / 67108864) / 67108864) / 67108864, e] : List Nat).getD j 0 ≤ _
    rcases j with _ | _ | _ | _ | _ | j <;> simp <;> omega
  · show ([a % 67108864, (b + a / 67108864) % 67108864, (c + (b + a / 67108864) / 67108864) % 67108864, (d + (c + (b + a / 67108864) / 67108864) / 67108864) % 67108864, e + (d + (c + (b + a / 67108864) / 67108864) / 67108864) / 67108864] : List Nat).getD j 0 ≤ _
    rcases j with _ | _ | _ | _ | _ | j <;> simp <;> omega
  · show ([a % 67108864 + 5 * ((e + (d + (c + (b + a / 67108864) / 67108864) / 67108864) / 67108864) / 67108864), (b + a / 67108864) % 67108864, (c + (b + a / 67108864) / 67108864) % 67108864, (d + (c + (b + a / 67108864) / 67108864) / 67108864) % 67108864, (e + (d + (c + (b + a / 67108864) / 67108864) / 67108864) / 67108864) % 67108864] : List Nat).getD j 0 ≤ _
    rcases j with _ | _ | _ | _ | _ | j <;> simp <;> omega
  · omega
/-- What a carry comes to, limb by limb. -/
theorem carryL_form (n : List Nat) (hn : n.length = 5) : ∃ a0 a1 a2 a3 a4 c0 c1 c2 c3 c4 b0 b1 b2 b3 b4, n = [a0, a1, a2, a3, a4] ∧ carryL n = [b0 + 5 * c4, b1, b2, b3, b4] ∧ a0 = b0 + 67108864 * c0 ∧ a1 + c0 = b1 + 67108864 * c1 ∧ a2 + c1 = b2 + 67108864 * c2 ∧ a3 + c2 = b3 + 67108864 * c3 ∧ a4 + c3 = b4 + 67108864 * c4 ∧
    b0 < 67108864 ∧ b1 < 67108864 ∧ b2 < 67108864 ∧ b3 < 67108864 ∧ b4 < 67108864 := by
  obtain ⟨a, b, c, d, e, rfl⟩ := list5 n hn
  refine ⟨a, b, c, d, e, a / 67108864, (b + a / 67108864) / 67108864, (c + (b + a / 67108864) / 67108864) / 67108864, (d + (c + (b + a / 67108864) / 67108864) / 67108864) / 67108864, (e + (d + (c + (b + a / 67108864) / 67108864) / 67108864) / 67108864) / 67108864, a % 67108864, (b + a / 67108864) % 67108864, (c + (b + a / 67108864) / 67108864) % 67108864, (d + (c + (b + a / 67108864) / 67108864) / 67108864) % 67108864, (e + (d + (c + (b + a / 67108864) / 67108864) / 67108864) / 67108864) % 67108864, rfl, rfl, ?_⟩
  refine ⟨?_, ?_, ?_, ?_, ?_, ?_, ?_, ?_, ?_, ?_⟩ <;> omega
theorem carryL_val (n : List Nat) (hn : n.length = 5) : ∃ c, valN n = valN (carryL n) + c * PN := by
  obtain ⟨a0, a1, a2, a3, a4, c0, c1, c2, c3, c4, b0, b1, b2, b3, b4, rfl, e, h0, h1, h2, h3, h4, _⟩ := carryL_form n hn
  refine ⟨c4, ?_⟩
  rw [e]
  simp only [valN, PN, List.getD_cons_zero, List.getD_cons_succ]
  omega
theorem carryL_mod (n : List Nat) (hn : n.length = 5) : valN (carryL n) % PN = valN n % PN := by
  obtain ⟨c, h⟩ := carryL_val n hn
  rw [h, Nat.add_mul_mod_self_right]
/-- Once: the limbs but the first are small, and the first is not great. -/
theorem carryL_once (n : List Nat) (hn : n.length = 5) (h : Bd 4611686018427387904 n) : ∃ b0 b1 b2 b3 b4 c4, carryL n = [b0 + 5 * c4, b1, b2, b3, b4] ∧ b0 < 67108864 ∧ b1 < 67108864 ∧ b2 < 67108864 ∧ b3 < 67108864 ∧ b4 < 67108864 ∧ c4 ≤ 68719480000 := by
  obtain ⟨a0, a1, a2, a3, a4, c0, c1, c2, c3, c4, b0, b1, b2, b3, b4, rfl, e, h0, h1, h2, h3, h4, g0, g1, g2, g3, g4⟩ := carryL_form n hn
  have k0 := h 0
  have k1 := h 1
  have k2 := h 2
  have k3 := h 3
  have k4 := h 4
  simp at k0 k1 k2 k3 k4
  have d0 : c0 ≤ 68719476736 := by clear e h1 h2 h3 h4; omega
  have d1 : c1 ≤ 68719480000 := by clear e h0 h2 h3 h4; omega
  have d2 : c2 ≤ 68719480000 := by clear e h0 h1 h3 h4; omega
  have d3 : c3 ≤ 68719480000 := by clear e h0 h1 h2 h4; omega
  exact ⟨b0, b1, b2, b3, b4, c4, e, g0, g1, g2, g3, g4, by clear e h0 h1 h2 h3; omega⟩
/-- Twice. -/
theorem carryL_twice (n : List Nat) (hn : n.length = 5) (h : Bd 4611686018427387904 n) : ∃ b0 b1 b2 b3 b4, carryL (carryL n) = [b0, b1, b2, b3, b4] ∧ b0 ≤ 67108868 ∧ b1 < 67108864 ∧ b2 < 67108864 ∧ b3 < 67108864 ∧ b4 < 67108864 := by
  obtain ⟨x0, x1, x2, x3, x4, c, e, h0, h1, h2, h3, h4, hc⟩ := carryL_once n hn h
  obtain ⟨a0, a1, a2, a3, a4, c0, c1, c2, c3, c4, b0, b1, b2, b3, b4, e1, e2, k0, k1, k2, k3, k4, g0, g1, g2, g3, g4⟩ := carryL_form (carryL n) (by rw [carryL_length]; exact hn)
  rw [e] at e1
  injection e1 with q0 e1
  injection e1 with q1 e1
  injection e1 with q2 e1
  injection e1 with q3 e1
  injection e1 with q4 e1
  have d0 : c0 ≤ 5130 := by clear e e2 k1 k2 k3 k4; omega
  have d1 : c1 ≤ 1 := by clear e e2 k0 k2 k3 k4; omega
  have d2 : c2 ≤ 1 := by clear e e2 k0 k1 k3 k4; omega
  have d3 : c3 ≤ 1 := by clear e e2 k0 k1 k2 k4; omega
  have d4 : c4 ≤ 1 := by clear e e2 k0 k1 k2 k3; omega
  refine ⟨_, _, _, _, _, e2, ?_, g1, g2, g3, g4⟩
  clear e e2 k0 k1 k2 k3 k4
  omega
/-- Of limbs that are small but for the first, twice: all are small. -/
theorem carryL_small (n : List Nat) (hn : n.length = 5) (h : Bd 67108868 n) : ∃ b0 b1 b2 b3 b4, carryL (carryL n) = [b0, b1, b2, b3, b4] ∧ b0 < 67108864 ∧ b1 < 67108864 ∧ b2 < 67108864 ∧ b3 < 67108864 ∧ b4 < 67108864 := by
  obtain ⟨y0, y1, y2, y3, y4, d0, d1, d2, d3, d4, x0, x1, x2, x3, x4, e0, e, j0, j1, j2, j3, j4, h0, h1, h2, h3, h4⟩ := carryL_form n hn
  obtain ⟨a0, a1, a2, a3, a4, c0, c1, c2, c3, c4, b0, b1, b2, b3, b4, e1, e2, k0, k1, k2, k3, k4, g0, g1, g2, g3, g4⟩ := carryL_form (carryL n) (by rw [carryL_length]; exact hn)
  rw [e] at e1
  injection e1 with q0 e1
  injection e1 with q1 e1
  injection e1 with q2 e1
  injection e1 with q3 e1
  injection e1 with q4 e1
  have m0 := h 0
  have m1 := h 1
  have m2 := h 2
  have m3 := h 3
  have m4 := h 4
  rw [e0] at m0 m1 m2 m3 m4
  simp at m0 m1 m2 m3 m4
  have p0 : d0 ≤ 1 := by clear e e2 e0 j1 j2 j3 j4 k0 k1 k2 k3 k4; omega
  have p1 : d1 ≤ 1 := by clear e e2 e0 j0 j2 j3 j4 k0 k1 k2 k3 k4; omega
  have p2 : d2 ≤ 1 := by clear e e2 e0 j0 j1 j3 j4 k0 k1 k2 k3 k4; omega
  have p3 : d3 ≤ 1 := by clear e e2 e0 j0 j1 j2 j4 k0 k1 k2 k3 k4; omega
  have p4 : d4 ≤ 1 := by clear e e2 e0 j0 j1 j2 j3 k0 k1 k2 k3 k4; omega
  clear e e0 j0 j1 j2 j3 j4
  have r0 : c0 ≤ 1 := by clear e2 k1 k2 k3 k4; omega
  have r1 : c1 ≤ c0 := by clear e2 k0 k2 k3 k4; omega
  have r2 : c2 ≤ c1 := by clear e2 k0 k1 k3 k4; omega
  have r3 : c3 ≤ c2 := by clear e2 k0 k1 k2 k4; omega
  have r4 : c4 ≤ c3 := by clear e2 k0 k1 k2 k3; omega
  refine ⟨_, _, _, _, _, e2, ?_, g1, g2, g3, g4⟩
  clear e2 k1 k2 k3 k4
  omega
/-! ### a product -/
def stepT (n r acc : List Nat) (i k : Nat) : List Nat :=
  if i + k < 5 then acc.set (i + k) (acc.getD (i + k) 0 + n.getD i 0 * r.getD k 0) else acc.set (i + k - 5) (acc.getD (i + k - 5) 0 + 5 * n.getD i 0 * r.getD k 0)
def rowT (n r acc : List Nat) (i : Nat) : Nat → List Nat
  | 0 => acc
  | k + 1 => stepT n r (rowT n r acc i k) i k
def timesT (n r : List Nat) : Nat → List Nat
  | 0 => [0, 0, 0, 0, 0]
  | i + 1 => rowT n r (timesT n r i) i 5
theorem stepT_length (n r acc : List Nat) (i k : Nat) : (stepT n r acc i k).length = acc.length := by unfold stepT; split <;> simp
theorem rowT_length (n r acc : List Nat) (i k : Nat) : (rowT n r acc i k).length = acc.length := by
  induction k with
  | zero => rfl
  | succ k ih => rw [rowT, stepT_length, ih]
theorem timesT_length (n r : List Nat) (i : Nat) : (timesT n r i).length = 5 := by
  induction i with
  | zero => rfl
  | succ i ih => rw [timesT, rowT_length, ih]
theorem prod_bd {n r : List Nat} (hn : Bd 268435456 n) (hr : Bd 67108864 r) (i k : Nat) : 5 * n.getD i 0 * r.getD k 0 ≤ 90071992547409920 ∧ n.getD i 0 * r.getD k 0 ≤ 90071992547409920 := by
  have h1 := Nat.mul_le_mul (hn i) (hr k)
  rw [Nat.mul_assoc]
  constructor <;> omega
theorem stepT_bd {n r acc : List Nat} (hn : Bd 268435456 n) (hr : Bd 67108864 r) {B : Nat} (h : Bd B acc) (i k : Nat) : Bd (B + 90071992547409920) (stepT n r acc i k) := by
  have hp := prod_bd hn hr i k
  unfold stepT
  split
  · exact Bd.set (h.mono (by omega)) (Nat.add_le_add (h _) hp.2)
  · exact Bd.set (h.mono (by omega)) (Nat.add_le_add (h _) hp.1)
theorem rowT_bd {n r acc : List Nat} (hn : Bd 268435456 n) (hr : Bd 67108864 r) {B : Nat} (h : Bd B acc) (i k : Nat) : Bd (B + k * 90071992547409920) (rowT n r acc i k) := by
  induction k with
  | zero => simpa [rowT] using h
  | succ k ih => rw [rowT]; exact (stepT_bd hn hr ih i k).mono (by omega)
theorem timesT_bd {n r : List Nat} (hn : Bd 268435456 n) (hr : Bd 67108864 r) (i : Nat) : Bd (i * 450359962737049600) (timesT n r i) := by
  induction i with
  | zero => intro j; rcases j with _ | _ | _ | _ | _ | j <;> simp [timesT]
  | succ i ih => rw [timesT]; exact (rowT_bd hn hr ih i 5).mono (by omega)
def timesL (n r : List Nat) : List Nat := carryL (carryL (timesT n r 5))
theorem idT (n0 n1 n2 n3 n4 r0 r1 r2 r3 r4 : Nat) :
  (n0 + 67108864 * (n1 + 67108864 * (n2 + 67108864 * (n3 + 67108864 * n4)))) * (r0 + 67108864 * (r1 + 67108864 * (r2 + 67108864 * (r3 + 67108864 * r4)))) =
  ((0 + n0 * r0 + 5 * n1 * r4 + 5 * n2 * r3 + 5 * n3 * r2 + 5 * n4 * r1) + 67108864 * ((0 + n0 * r1 + n1 * r0 + 5 * n2 * r4 + 5 * n3 * r3 + 5 * n4 * r2) + 67108864 * ((0 + n0 * r2 + n1 * r1 + n2 * r0 + 5 * n3 * r4 + 5 * n4 * r3) + 67108864 * ((0 + n0 * r3 + n1 * r2 + n2 * r1 + n3 * r0 + 5 * n4 * r4) + 67108864 * (0 + n0 * r4 + n1 * r3 + n2 * r2 + n3 * r1 + n4 * r0)))))
  + ((n1 * r4 + n2 * r3 + n3 * r2 + n4 * r1) + 67108864 * ((n2 * r4 + n3 * r3 + n4 * r2) + 67108864 * ((n3 * r4 + n4 * r3) + 67108864 * (n4 * r4)))) * 1361129467683753853853498429727072845819 := by
  grind
theorem timesT_mod (n r : List Nat) (hn : n.length = 5) (hr : r.length = 5) : valN (timesT n r 5) % PN = valN n * valN r % PN := by
  obtain ⟨n0, n1, n2, n3, n4, rfl⟩ := list5 n hn
  obtain ⟨r0, r1, r2, r3, r4, rfl⟩ := list5 r hr
  have h : timesT [n0, n1, n2, n3, n4] [r0, r1, r2, r3, r4] 5 = [0 + n0 * r0 + 5 * n1 * r4 + 5 * n2 * r3 + 5 * n3 * r2 + 5 * n4 * r1, 0 + n0 * r1 + n1 * r0 + 5 * n2 * r4 + 5 * n3 * r3 + 5 * n4 * r2, 0 + n0 * r2 + n1 * r1 + n2 * r0 + 5 * n3 * r4 + 5 * n4 * r3, 0 + n0 * r3 + n1 * r2 + n2 * r1 + n3 * r0 + 5 * n4 * r4, 0 + n0 * r4 + n1 * r3 + n2 * r2 + n3 * r1 + n4 * r0] := by kernel_rfl
  rw [h]
  simp only [valN, List.getD_cons_zero, List.getD_cons_succ]
  rw [idT, show PN = 1361129467683753853853498429727072845819 from rfl, Nat.add_mul_mod_self_right]
theorem timesL_length (n r : List Nat) : (timesL n r).length = 5 := by rw [timesL, carryL_length, carryL_length, timesT_length]
theorem timesL_all (n r : List Nat) (hn : n.length = 5) (hr : r.length = 5) (bn : Bd 268435456 n) (br : Bd 67108864 r) : valN (timesL n r) % PN = valN n * valN r % PN ∧ Bd 67108868 (timesL n r) := by
  refine ⟨by rw [timesL, carryL_mod _ (by rw [carryL_length, timesT_length]), carryL_mod _ (timesT_length _ _ _), timesT_mod n r hn hr], ?_⟩
  have hb : Bd 4611686018427387904 (timesT n r 5) := (timesT_bd bn br 5).mono (by omega)
  obtain ⟨b0, b1, b2, b3, b4, e, h0, h1, h2, h3, h4⟩ := carryL_twice _ (timesT_length n r 5) hb
  rw [timesL, e]
  intro j
  rcases j with _ | _ | _ | _ | _ | j <;> simp <;> omega
end Go.Proofs.Ytdheopihcohciaa
