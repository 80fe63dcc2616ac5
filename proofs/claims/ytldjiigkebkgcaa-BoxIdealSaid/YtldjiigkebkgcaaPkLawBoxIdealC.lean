/- Part 3 of what the law LawBoxIdeal needs. No condition but those each theorem states. -/
import Derived.ArgAppend
import Derived.Deep.OwnRows
import Derived.Defers
import Derived.Laws.CopyOwn
import Derived.Laws.Pointers
import Derived.Recover
import Derived.Test.YtldjiigkebkgcaaProg
import Derived.Test.YtldjiigkebkgcaaPkLawBoxIdealB
/- Numbers in limbs of 26 bits, plain. No condition but those each theorem states. -/
namespace Go.Proofs.Ytldjiigkebkgcaa
set_option linter.unusedVariables false
set_option linter.unusedSimpArgs false
open Go.RowKit

def WN (l : List Nat) : Array Value := (l.map fun x : Nat => Value.int .u64 (x : Int)).toArray
theorem WN_size (l : List Nat) : (WN l).size = l.length := by simp [WN]
theorem WN_get (l : List Nat) (i : Nat) (h : i < l.length) : (WN l)[i]? = some (.int .u64 ((l.getD i 0 : Nat) : Int)) := by simp [WN, h]
theorem WN_set (l : List Nat) (i : Nat) (x : Nat) : (WN l).setIfInBounds i (.int .u64 (x : Int)) = WN (l.set i x) := by simp [WN, List.map_set]
theorem WN_one (l : List Nat) : (WN l).all (·.oneCell') = true := all_oneCell_toArray (by intro v hv; simp only [List.mem_map] at hv; obtain ⟨q, _, rfl⟩ := hv; rfl)

/-- What a number in limbs is. -/
def valN (l : List Nat) : Nat := l.getD 0 0 + 67108864 * (l.getD 1 0 + 67108864 * (l.getD 2 0 + 67108864 * (l.getD 3 0 + 67108864 * l.getD 4 0)))
def PN : Nat := 1361129467683753853853498429727072845819
theorem list5 : ∀ (v : List Nat), v.length = 5 → ∃ a b c d e, v = [a, b, c, d, e]
  | [a, b, c, d, e], _ => ⟨a, b, c, d, e, rfl⟩
/-- All limbs at most so great. -/
def Bd (B : Nat) (l : List Nat) : Prop := ∀ j, l.getD j 0 ≤ B
theorem Bd.mono {B B' : Nat} {l : List Nat} (h : Bd B l) (hb : B ≤ B') : Bd B' l := fun j => Nat.le_trans (h j) hb
theorem getD_set (l : List Nat) (i j x : Nat) : (l.set i x).getD j 0 = if i = j ∧ j < l.length then x else l.getD j 0 := by
  rw [List.getD_eq_getElem?_getD, List.getElem?_set, List.getD_eq_getElem?_getD]
  by_cases h : i = j
  · subst h
    by_cases hl : i < l.length
    · simp [hl]
    · simp [hl]
  · simp [h]
theorem Bd.set {B : Nat} {l : List Nat} (h : Bd B l) {i x : Nat} (hx : x ≤ B) : Bd B (l.set i x) := by
  intro j
  rw [getD_set]
  split
  · exact hx
  · exact h j

/-! ### a sum -/
def addK (n m : List Nat) : Nat → List Nat
  | 0 => n
  | i + 1 => (addK n m i).set i ((addK n m i).getD i 0 + m.getD i 0)
theorem addK_length (n m : List Nat) (i : Nat) : (addK n m i).length = n.length := by
  induction i with
  | zero => rfl
  | succ i ih => simp [addK, ih]
theorem addK_later (n m : List Nat) : ∀ (i j : Nat), i ≤ j → (addK n m i).getD j 0 = n.getD j 0
  | 0, j, _ => rfl
  | i + 1, j, h => by rw [addK, getD_set, if_neg (by omega), addK_later n m i j (by omega)]
theorem addK_all (n m : List Nat) (hn : n.length = 5) (hm : m.length = 5) : valN (addK n m 5) = valN n + valN m ∧ ∀ B C, Bd B n → Bd C m → Bd (B + C) (addK n m 5) := by
  obtain ⟨a, b, c, d, e, rfl⟩ := list5 n hn
  obtain ⟨a', b', c', d', e', rfl⟩ := list5 m hm
  have h : addK [a, b, c, d, e] [a', b', c', d', e'] 5 = [a + a', b + b', c + c', d + d', e + e'] := rfl
  rw [h]
  refine ⟨by simp [valN]; omega, fun B C hB hC j => ?_⟩
  have h0 := hB 0
  have h1 := hB 1
  have h2 := hB 2
  have h3 := hB 3
  have h4 := hB 4
  have k0 := hC 0
  have k1 := hC 1
  have k2 := hC 2
  have k3 := hC 3
  have k4 := hC 4
  simp at h0 h1 h2 h3 h4 k0 k1 k2 k3 k4
  rcases j with _ | _ | _ | _ | _ | j <;> simp <;> omega
/-! ### a carry -/
def carryK (n : List Nat) : Nat → List Nat
  | 0 => n
  | i + 1 =>
    let m := carryK n i
    let m1 := m.set i (m.getD i 0 % 67108864)
    if i + 1 < 5 then m1.set (i + 1) (m1.getD (i + 1) 0 + m.getD i 0 / 67108864) else m1.set 0 (m1.getD 0 0 + 5 * (m.getD i 0 / 67108864))
theorem carryK_length (n : List Nat) (i : Nat) : (carryK n i).length = n.length := by
  induction i with
  | zero => rfl
  | succ i ih => unfold carryK; dsimp only; split <;> simp [ih]
def carryL (n : List Nat) : List Nat := carryK n 5
theorem carryL_length (n : List Nat) : (carryL n).length = n.length := carryK_length n 5
theorem carryK_bd (n : List Nat) (hn : n.length = 5) (h : Bd 4611686018427387904 n) : ∀ i, i ≤ 5 → Bd 9223372036854775808 (carryK n i) := by
  obtain ⟨a, b, c, d, e, rfl⟩ := list5 n hn
  have h0 := h 0
  have h1 := h 1
  have h2 := h 2
  have h3 := h 3
  have h4 := h 4
  simp at h0 h1 h2 h3 h4
  intro i hi j
  rcases i with _ | _ | _ | _ | _ | _ | i
  · exact Nat.le_trans (h j) (by omega)
  · show ([a % 67108864, b + a / 67108864, c, d, e] : List Nat).getD j 0 ≤ _
    rcases j with _ | _ | _ | _ | _ | j <;> simp <;> omega
  · show ([a % 67108864, (b + a / 67108864) % 67108864, c + (b + a / 67108864) / 67108864, d, e] : List Nat).getD j 0 ≤ _
    rcases j with _ | _ | _ | _ | _ | j <;> simp <;> omega
  · show ([a % 67108864, (b + a / 67108864) % 67108864, (c + (b + a / 67108864) / 67108864) % 67108864, d + (c + (b + a / 67108864) / 67108864) / 67108864, e] : List Nat).getD j 0 ≤ _
    rcases j with _ | _ | _ | _ | _ | j <;> simp <;> omega
  · show ([a % 67108864, (b + a / 67108864) % 67108864, (c + (b + a / 67108864) / 67108864) % 67108864, (d + (c + (b + a / 67108864) / 67108864) / 67108864) % 67108864, e + (d + (c + (b + a / 67108864) / 67108864) / 67108864) / 67108864] : List Nat).getD j 0 ≤ _
    rcases j with _ | _ | _ | _ | _ | j <;> simp <;> omega
  · show ([a % 67108864 + 5 * ((e + (d + (c + (b + a / 67108864) / 67108864) / 67108864) / 67108864) / 67108864), (b + a / 67108864) % 67108864, (c + (b + a / 67108864) / 67108864) % 67108864, (d + (c + (b + a / 67108864) / 67108864) / 67108864) % 67108864, (e + (d + (c + (b + a / 67108864) / 67108864) / 67108864) / 67108864) % 67108864] : List Nat).getD j 0 ≤ _
    rcases j with _ | _ | _ | _ | _ | j <;> simp <;> omega
  · omega
/-- What a carry comes to, limb by limb. -/
theorem carryL_form (n : List Nat) (hn : n.length = 5) : ∃ a0 a1 a2 a3 a4 c0 c1 c2 c3 c4 b0 b1 b2 b3 b4, n = [a0, a1, a2, a3, a4] ∧ carryL n = [b0 + 5 * c4, b1, b2, b3, b4] ∧ a0 = b0 + 67108864 * c0 ∧ a1 + c0 = b1 + 67108864 * c1 ∧ a2 + c1 = b2 + 67108864 * c2 ∧ a3 + c2 = b3 + 67108864 * c3 ∧ a4 + c3 = b4 + 67108864 * c4 ∧
    b0 < 67108864 ∧ b1 < 67108864 ∧ b2 < 67108864 ∧ b3 < 67108864 ∧ b4 < 67108864 := by
  obtain ⟨a, b, c, d, e, rfl⟩ := list5 n hn
  refine ⟨a, b, c, d, e, a / 67108864, (b + a / 67108864) / 67108864, (c + (b + a / 67108864) / 67108864) / 67108864, (d + (c + (b + a / 67108864) / 67108864) / 67108864) / 67108864, (e + (d + (c + (b + a / 67108864) / 67108864) / 67108864) / 67108864) / 67108864, a % 67108864, (b + a / 67108864) % 67108864, (c + (b + a / 67108864) / 67108864) % 67108864, (d + (c + (b + a / 67108864) / 67108864) / 67108864) % 67108864, (e + (d + (c + (b + a / 67108864) / 67108864) / 67108864) / 67108864) % 67108864, rfl, rfl, ?_⟩
  refine ⟨?_, ?_, ?_, ?_, ?_, ?_, ?_, ?_, ?_, ?_⟩ <;> omega
theorem carryL_val (n : List Nat) (hn : n.length = 5) : ∃ c, valN n = valN (carryL n) + c * PN := by
  obtain ⟨a0, a1, a2, a3, a4, c0, c1, c2, c3, c4, b0, b1, b2, b3, b4, rfl, e, h0, h1, h2, h3, h4, _⟩ := carryL_form n hn
  refine ⟨c4, ?_⟩
  rw [e]
  simp only [valN, PN, List.getD_cons_zero, List.getD_cons_succ]
  omega
theorem carryL_mod (n : List Nat) (hn : n.length = 5) : valN (carryL n) % PN = valN n % PN := by
  obtain ⟨c, h⟩ := carryL_val n hn
  rw [h, Nat.add_mul_mod_self_right]
/-- Once: the limbs but the first are small, and the first is not great. -/
theorem carryL_once (n : List Nat) (hn : n.length = 5) (h : Bd 4611686018427387904 n) : ∃ b0 b1 b2 b3 b4 c4, carryL n = [b0 + 5 * c4, b1, b2, b3, b4] ∧ b0 < 67108864 ∧ b1 < 67108864 ∧ b2 < 67108864 ∧ b3 < 67108864 ∧ b4 < 67108864 ∧ c4 ≤ 68719480000 := by
  obtain ⟨a0, a1, a2, a3, a4, c0, c1, c2, c3, c4, b0, b1, b2, b3, b4, rfl, e, h0, h1, h2, h3, h4, g0, g1, g2, g3, g4⟩ := carryL_form n hn
  have k0 := h 0
  have k1 := h 1
  have k2 := h 2
  have k3 := h 3
  have k4 := h 4
  simp at k0 k1 k2 k3 k4
  have d0 : c0 ≤ 68719476736 := by clear e h1 h2 h3 h4; omega
  have d1 : c1 ≤ 68719480000 := by clear e h0 h2 h3 h4; omega
  have d2 : c2 ≤ 68719480000 := by clear e h0 h1 h3 h4; omega
  have d3 : c3 ≤ 68719480000 := by clear e h0 h1 h2 h4; omega
  exact ⟨b0, b1, b2, b3, b4, c4, e, g0, g1, g2, g3, g4, by clear e h0 h1 h2 h3; omega⟩
/-- Twice. -/
theorem carryL_twice (n : List Nat) (hn : n.length = 5) (h : Bd 4611686018427387904 n) : ∃ b0 b1 b2 b3 b4, carryL (carryL n) = [b0, b1, b2, b3, b4] ∧ b0 ≤ 67108868 ∧ b1 < 67108864 ∧ b2 < 67108864 ∧ b3 < 67108864 ∧ b4 < 67108864 := by
  obtain ⟨x0, x1, x2, x3, x4, c, e, h0, h1, h2, h3, h4, hc⟩ := carryL_once n hn h
  obtain ⟨a0, a1, a2, a3, a4, c0, c1, c2, c3, c4, b0, b1, b2, b3, b4, e1, e2, k0, k1, k2, k3, k4, g0, g1, g2, g3, g4⟩ := carryL_form (carryL n) (by rw [carryL_length]; exact hn)
  rw [e] at e1
  injection e1 with q0 e1
  injection e1 with q1 e1
  injection e1 with q2 e1
  injection e1 with q3 e1
  injection e1 with q4 e1
  have d0 : c0 ≤ 5130 := by clear e e2 k1 k2 k3 k4; omega
  have d1 : c1 ≤ 1 := by clear e e2 k0 k2 k3 k4; omega
  have d2 : c2 ≤ 1 := by clear e e2 k0 k1 k3 k4; omega
  have d3 : c3 ≤ 1 := by clear e e2 k0 k1 k2 k4; omega
  have d4 : c4 ≤ 1 := by clear e e2 k0 k1 k2 k3; omega
  refine ⟨_, _, _, _, _, e2, ?_, g1, g2, g3, g4⟩
  clear e e2 k0 k1 k2 k3 k4
  omega
/-- Of limbs that are small but for the first, twice: all are small. -/
theorem carryL_small (n : List Nat) (hn : n.length = 5) (h : Bd 67108868 n) : ∃ b0 b1 b2 b3 b4, carryL (carryL n) = [b0, b1, b2, b3, b4] ∧ b0 < 67108864 ∧ b1 < 67108864 ∧ b2 < 67108864 ∧ b3 < 67108864 ∧ b4 < 67108864 := by
  obtain ⟨y0, y1, y2, y3, y4, d0, d1, d2, d3, d4, x0, x1, x2, x3, x4, e0, e, j0, j1, j2, j3, j4, h0, h1, h2, h3, h4⟩ := carryL_form n hn
  obtain ⟨a0, a1, a2, a3, a4, c0, c1, c2, c3, c4, b0, b1, b2, b3, b4, e1, e2, k0, k1, k2, k3, k4, g0, g1, g2, g3, g4⟩ := carryL_form (carryL n) (by rw [carryL_length]; exact hn)
  rw [e] at e1
  injection e1 with q0 e1
  injection e1 with q1 e1
  injection e1 with q2 e1
  injection e1 with q3 e1
  injection e1 with q4 e1
  have m0 := h 0
  have m1 := h 1
  have m2 := h 2
  have m3 := h 3
  have m4 := h 4
  rw [e0] at m0 m1 m2 m3 m4
  simp at m0 m1 m2 m3 m4
  have p0 : d0 ≤ 1 := by clear e e2 e0 j1 j2 j3 j4 k0 k1 k2 k3 k4; omega
  have p1 : d1 ≤ 1 := by clear e e2 e0 j0 j2 j3 j4 k0 k1 k2 k3 k4; omega
  have p2 : d2 ≤ 1 := by clear e e2 e0 j0 j1 j3 j4 k0 k1 k2 k3 k4; omega
  have p3 : d3 ≤ 1 := by clear e e2 e0 j0 j1 j2 j4 k0 k1 k2 k3 k4; omega
  have p4 : d4 ≤ 1 := by clear e e2 e0 j0 j1 j2 j3 k0 k1 k2 k3 k4; omega
  clear e e0 j0 j1 j2 j3 j4
  have r0 : c0 ≤ 1 := by clear e2 k1 k2 k3 k4; omega
  have r1 : c1 ≤ c0 := by clear e2 k0 k2 k3 k4; omega
  have r2 : c2 ≤ c1 := by clear e2 k0 k1 k3 k4; omega
  have r3 : c3 ≤ c2 := by clear e2 k0 k1 k2 k4; omega
  have r4 : c4 ≤ c3 := by clear e2 k0 k1 k2 k3; omega
  refine ⟨_, _, _, _, _, e2, ?_, g1, g2, g3, g4⟩
  clear e2 k1 k2 k3 k4
  omega
/-! ### a product -/
def stepT (n r acc : List Nat) (i k : Nat) : List Nat :=
  if i + k < 5 then acc.set (i + k) (acc.getD (i + k) 0 + n.getD i 0 * r.getD k 0) else acc.set (i + k - 5) (acc.getD (i + k - 5) 0 + 5 * n.getD i 0 * r.getD k 0)
def rowT (n r acc : List Nat) (i : Nat) : Nat → List Nat
  | 0 => acc
  | k + 1 => stepT n r (rowT n r acc i k) i k
def timesT (n r : List Nat) : Nat → List Nat
  | 0 => [0, 0, 0, 0, 0]
  | i + 1 => rowT n r (timesT n r i) i 5
theorem stepT_length (n r acc : List Nat) (i k : Nat) : (stepT n r acc i k).length = acc.length := by unfold stepT; split <;> simp
theorem rowT_length (n r acc : List Nat) (i k : Nat) : (rowT n r acc i k).length = acc.length := by
  induction k with
  | zero => rfl
  | succ k ih => rw [rowT, stepT_length, ih]
theorem timesT_length (n r : List Nat) (i : Nat) : (timesT n r i).length = 5 := by
  induction i with
  | zero => rfl
  | succ i ih => rw [timesT, rowT_length, ih]
theorem prod_bd {n r : List Nat} (hn : Bd 268435456 n) (hr : Bd 67108864 r) (i k : Nat) : 5 * n.getD i 0 * r.getD k 0 ≤ 90071992547409920 ∧ n.getD i 0 * r.getD k 0 ≤ 90071992547409920 := by
  have h1 := Nat.mul_le_mul (hn i) (hr k)
  rw [Nat.mul_assoc]
  constructor <;> omega
theorem stepT_bd {n r acc : List Nat} (hn : Bd 268435456 n) (hr : Bd 67108864 r) {B : Nat} (h : Bd B acc) (i k : Nat) : Bd (B + 90071992547409920) (stepT n r acc i k) := by
  have hp := prod_bd hn hr i k
  unfold stepT
  split
  · exact Bd.set (h.mono (by omega)) (Nat.add_le_add (h _) hp.2)
  · exact Bd.set (h.mono (by omega)) (Nat.add_le_add (h _) hp.1)
theorem rowT_bd {n r acc : List Nat} (hn : Bd 268435456 n) (hr : Bd 67108864 r) {B : Nat} (h : Bd B acc) (i k : Nat) : Bd (B + k * 90071992547409920) (rowT n r acc i k) := by
  induction k with
  | zero => simpa [rowT] using h
  | succ k ih => rw [rowT]; exact (stepT_bd hn hr ih i k).mono (by omega)
theorem timesT_bd {n r : List Nat} (hn : Bd 268435456 n) (hr : Bd 67108864 r) (i : Nat) : Bd (i * 450359962737049600) (timesT n r i) := by
  induction i with
  | zero => intro j; rcases j with _ | _ | _ | _ | _ | j <;> simp [timesT]
  | succ i ih => rw [timesT]; exact (rowT_bd hn hr ih i 5).mono (by omega)
def timesL (n r : List Nat) : List Nat := carryL (carryL (timesT n r 5))
theorem idT (n0 n1 n2 n3 n4 r0 r1 r2 r3 r4 : Nat) :
  (n0 + 67108864 * (n1 + 67108864 * (n2 + 67108864 * (n3 + 67108864 * n4)))) * (r0 + 67108864 * (r1 + 67108864 * (r2 + 67108864 * (r3 + 67108864 * r4)))) =
  ((0 + n0 * r0 + 5 * n1 * r4 + 5 * n2 * r3 + 5 * n3 * r2 + 5 * n4 * r1) + 67108864 * ((0 + n0 * r1 + n1 * r0 + 5 * n2 * r4 + 5 * n3 * r3 + 5 * n4 * r2) + 67108864 * ((0 + n0 * r2 + n1 * r1 + n2 * r0 + 5 * n3 * r4 + 5 * n4 * r3) + 67108864 * ((0 + n0 * r3 + n1 * r2 + n2 * r1 + n3 * r0 + 5 * n4 * r4) + 67108864 * (0 + n0 * r4 + n1 * r3 + n2 * r2 + n3 * r1 + n4 * r0)))))
  + ((n1 * r4 + n2 * r3 + n3 * r2 + n4 * r1) + 67108864 * ((n2 * r4 + n3 * r3 + n4 * r2) + 67108864 * ((n3 * r4 + n4 * r3) + 67108864 * (n4 * r4)))) * 1361129467683753853853498429727072845819 := by
  grind
theorem timesT_mod (n r : List Nat) (hn : n.length = 5) (hr : r.length = 5) : valN (timesT n r 5) % PN = valN n * valN r % PN := by
  obtain ⟨n0, n1, n2, n3, n4, rfl⟩ := list5 n hn
  obtain ⟨r0, r1, r2, r3, r4, rfl⟩ := list5 r hr
  have h : timesT [n0, n1, n2, n3, n4] [r0, r1, r2, r3, r4] 5 = [0 + n0 * r0 + 5 * n1 * r4 + 5 * n2 * r3 + 5 * n3 * r2 + 5 * n4 * r1, 0 + n0 * r1 + n1 * r0 + 5 * n2 * r4 + 5 * n3 * r3 + 5 * n4 * r2, 0 + n0 * r2 + n1 * r1 + n2 * r0 + 5 * n3 * r4 + 5 * n4 * r3, 0 + n0 * r3 + n1 * r2 + n2 * r1 + n3 * r0 + 5 * n4 * r4, 0 + n0 * r4 + n1 * r3 + n2 * r2 + n3 * r1 + n4 * r0] := by kernel_rfl
  rw [h]
  simp only [valN, List.getD_cons_zero, List.getD_cons_succ]
  rw [idT, show PN = 1361129467683753853853498429727072845819 from rfl, Nat.add_mul_mod_self_right]
theorem timesL_length (n r : List Nat) : (timesL n r).length = 5 := by rw [timesL, carryL_length, carryL_length, timesT_length]
theorem timesL_all (n r : List Nat) (hn : n.length = 5) (hr : r.length = 5) (bn : Bd 268435456 n) (br : Bd 67108864 r) : valN (timesL n r) % PN = valN n * valN r % PN ∧ Bd 67108868 (timesL n r) := by
  refine ⟨by rw [timesL, carryL_mod _ (by rw [carryL_length, timesT_length]), carryL_mod _ (timesT_length _ _ _), timesT_mod n r hn hr], ?_⟩
  have hb : Bd 4611686018427387904 (timesT n r 5) := (timesT_bd bn br 5).mono (by omega)
  obtain ⟨b0, b1, b2, b3, b4, e, h0, h1, h2, h3, h4⟩ := carryL_twice _ (timesT_length n r 5) hb
  rw [timesL, e]
  intro j
  rcases j with _ | _ | _ | _ | _ | j <;> simp <;> omega
end Go.Proofs.Ytldjiigkebkgcaa

/- Numbers in limbs: what the program does with them. No condition but those each theorem states. -/
namespace Go.Proofs.Ytldjiigkebkgcaa
set_option linter.unusedVariables false
set_option linter.unusedSimpArgs false
open Go.RowKit
attribute [local go_sem ↓] Go.wp_at_zero Go.wp_at_succ

theorem wrap_u64 (x : Nat) (h : x < 18446744073709551616) : IntKind.u64.wrap (x : Int) = (x : Int) := by rw [IntKind.wrap_u64]; omega
theorem wrap_u64_add (x y : Nat) (h : x + y < 18446744073709551616) : IntKind.u64.wrap ((x : Int) + (y : Int)) = ((x + y : Nat) : Int) := by rw [IntKind.wrap_u64]; omega
theorem wrap_u64_mul (x y : Nat) (h : x * y < 18446744073709551616) : IntKind.u64.wrap ((x : Int) * (y : Int)) = ((x * y : Nat) : Int) := by
  rw [← Int.natCast_mul]; exact wrap_u64 _ h
theorem wrap_i64' (x : Int) (h : -9223372036854775808 ≤ x ∧ x ≤ 9223372036854775807) : IntKind.i64.wrap x = x := by rw [IntKind.wrap_i64]; omega
theorem mask26 (x : Nat) (h : x < 18446744073709551616) : bits .and .u64 (x : Int) 67108863 = (x : Int) % 67108864 := by
  have := u64_and_nat x 67108863 h (by omega)
  rw [show ((67108863 : Nat) : Int) = 67108863 from rfl] at this
  rw [this, show (67108863 : Nat) = 2 ^ 26 - 1 from rfl, Nat.and_two_pow_sub_one_eq_mod]
  omega
theorem div26 (x : Nat) : (x : Int) / 67108864 = ((x / 67108864 : Nat) : Int) := by omega
def Z5 : List Nat := [0, 0, 0, 0, 0]
theorem zero5 : WN Z5 = #[.int .u64 0, .int .u64 0, .int .u64 0, .int .u64 0, .int .u64 0] := rfl

/-- Two rows of the call's own, behind one another, and the result's. -/
structure NW (w : World) (g : Nat) (l : List Nat) (W : World) : Prop where
  b : W.heap[g]? = some (.cells (WN l) 110 (0, 0))
  hg : w.heap.size ≤ g
  bel : Below w.heap.size w W
theorem NW.set {w W : World} {g : Nat} {l : List Nat} (h : NW w g l W) (i x : Nat) : NW w g (l.set i x) (W.setCell ⟨g, i, none⟩ (.int .u64 (x : Int))) where
  b := by rw [heap_setCell_same _ _ _ _ _ _ h.b, WN_set]
  hg := h.hg
  bel := h.bel.trans (grown_below (grown_set (World.grownBy.refl W (some g)) _ _) h.bel.size (by rintro k ⟨⟩; exact h.hg))
theorem NW.other {w W : World} {g k : Nat} {m : List Nat} (h : NW w k m W) (hne : k ≠ g) (hg : w.heap.size ≤ g) (i : Nat) (v : Value) : NW w k m (W.setCell ⟨g, i, none⟩ v) where
  b := grown_block (grown_set (World.grownBy.refl _ _) _ _) (by simp; exact hne) h.b
  hg := h.hg
  bel := h.bel.trans (grown_below (grown_set (World.grownBy.refl W (some g)) _ _) h.bel.size (by rintro k ⟨⟩; exact hg))
theorem NW.drew {w W : World} {g : Nat} {l : List Nat} (h : NW w g l W) : NW w g l W.drew := ⟨h.b, h.hg, h.bel.drew⟩
theorem NW.keep {w W W' : World} {g : Nat} {l : List Nat} (h : NW w g l W) (hb : Below W.heap.size W W') : NW w g l W' := ⟨below_block hb (row_lt h.b) h.b, h.hg, h.bel.trans (hb.mono h.bel.size)⟩
/-- A number is handed back. -/
theorem ret_number {w W W' : World} {g : Nat} {m : List Nat} (h : NW w g m W) (hg : W.grownBy W' (some g)) : Below w.heap.size w W' :=
  h.bel.trans (grown_below hg h.bel.size (by rintro k ⟨⟩; exact h.hg))
set_option maxRecDepth 100000 in
set_option maxHeartbeats 1000000 in
theorem nadd_any (n m : List Nat) (hn : n.length = 5) (hm : m.length = 5) (bn : Bd 4611686018427387904 n) (bm : Bd 4611686018427387904 m) (w : World) :
    Calls Try.prog 59 #[.agg (WN n), .agg (WN m)] w fun e w' => e = .returned (.agg (WN (addK n m 5))) ∧ Below w.heap.size w w' := by
  have HN := Lib.hid hn
  have HM := Lib.hid hm
  have BN := Lib.hid bn
  have BM := Lib.hid bm
  have Z5' := Lib.hid zero5
  clear hn hm bn bm
  go_enter Try.func59, Try.ntmps59
  go_wp2_with fail
  rw [← Z5'.out]
  obtain ⟨w1, hw1⟩ : ∃ w1, w1 = ((w.alloc (.cells (WN n) 110)).alloc (.cells (WN m) 110)).alloc (.cells (WN Z5) 110) := ⟨_, rfl⟩
  have S1 := Lib.hid (show NW w w.heap.size n w1 ∧ NW w (w.heap.size + 1) m w1 ∧ NW w (w.heap.size + 1 + 1) Z5 w1 by
    have hb : Below w.heap.size w w1 := by rw [hw1]; exact (((Below.refl _ _).alloc (Nat.le_refl _) _).alloc (by simp) _).alloc (by simp; omega) _
    rw [hw1] at hb ⊢
    exact ⟨⟨ha_old _ _ _ (by simp; omega) (ha_old _ _ _ (by simp) (ha_new _ _ _ rfl)), by omega, hb⟩, ⟨ha_old _ _ _ (by simp) (ha_new _ _ _ (by simp)), by omega, hb⟩, ⟨ha_new _ _ _ (by simp), by omega, hb⟩⟩)
  rw [← hw1]
  clear hw1
  go_loopw [6] (fun i wr => ∃ j : Nat, j ≤ 5 ∧ i = .int .i64 (j : Int) ∧ NW w w.heap.size (addK n m j) wr ∧ NW w (w.heap.size + 1) m wr ∧ NW w (w.heap.size + 1 + 1) Z5 wr) (fun i _ => 5 - (intOf i).toNat)
  case atStart => exact ⟨0, by omega, rfl, S1.out⟩
  case round =>
    obtain ⟨j, hj, rfl, hs⟩ := hrel
    have J := Lib.hid hj
    have S2 := Lib.hid hs
    have AL := Lib.hid (show (addK n m j).length = 5 by rw [addK_length, HN.out])
    clear hj hs S1
    by_cases hlt : j < 5
    · have hD : decide ((j : Int) < 5) = true := by simp; omega
      obtain ⟨x, hx⟩ : ∃ x, x = (addK n m j).getD j 0 := ⟨_, rfl⟩
      obtain ⟨y, hy⟩ : ∃ y, y = m.getD j 0 := ⟨_, rfl⟩
      have e1 := wrap_u64_add x y (by rw [hx, hy, addK_later _ _ _ _ (Nat.le_refl _)]; have := BN.out j; have := BM.out j; omega)
      have a1 := row_cell S2.out.1.b j (WN_get _ j (by rw [AL.out]; exact hlt))
      have f1 := row_free S2.out.1.b j
      have a2 := row_cell S2.out.2.1.b j (WN_get _ j (by rw [HM.out]; exact hlt))
      rw [← hx] at a1
      rw [← hy] at a2
      have X := Lib.hid hx
      have Y := Lib.hid hy
      have b1 : (j : Int) < 5 := by omega
      clear hx hy
      go_upto_region 4 with fail
      have A2 := Lib.hid a2
      refine wp_region_plan (fun W => W.cell? ⟨w.heap.size + 1, j, none⟩ = some (.int .u64 (y : Int))) [0, 1, 3, 4, 5] [2, 6, 7, 8] (by kernel_rfl) (by kernel_rfl) (fun _ _ d _ _ h => by cases d <;> exact h) (a2) ?_
      simp only [List.filterMap_cons, List.filterMap_nil, List.getElem?_toArray, List.getElem?_cons_zero, List.getElem?_cons_succ]
      refine planQ_cons (v := ?_) (by rfl) ?_ ?_
      rotate_left
      · intro W hW
        go_simp
        with_reducible rfl
      simp only [Act.put, List.setIfInBounds_toArray, List.set_cons_zero, List.set_cons_succ]
      refine planQ_cons (v := ?_) (by rfl) ?_ ?_
      rotate_left
      · intro W hW
        go_simp
        with_reducible rfl
      simp only [Act.put, List.setIfInBounds_toArray, List.set_cons_zero, List.set_cons_succ]
      refine planQ_cons (v := ?_) (by rfl) ?_ ?_
      rotate_left
      · intro W hW
        go_simp
        with_reducible rfl
      simp only [Act.put, List.setIfInBounds_toArray, List.set_cons_zero, List.set_cons_succ]
      refine planQ_cons (v := ?_) (by rfl) ?_ ?_
      rotate_left
      · intro W hW
        go_simp
        with_reducible rfl
      simp only [Act.put, List.setIfInBounds_toArray, List.set_cons_zero, List.set_cons_succ]
      refine planQ_cons (by rfl) (fun W hW => run_cell 104 (.tmp 13) rfl _ Try.underlying104 rfl rfl hW) ?_
      simp only [Act.put, List.setIfInBounds_toArray, List.set_cons_zero, List.set_cons_succ]
      refine planQ_nil ?_
      refine planT_val (by rfl) (A2.out) (run_cell 104 (.tmp 10) rfl _ Try.underlying104 rfl rfl a1) ?_
      simp only [Act.put, List.setIfInBounds_toArray, List.set_cons_zero, List.set_cons_succ]
      refine planT_val (v := ?_) (by rfl) (A2.out) ?_ ?_
      rotate_left
      · go_simp
        with_reducible rfl
      simp only [Act.put, List.setIfInBounds_toArray, List.set_cons_zero, List.set_cons_succ]
      refine planT_val (v := ?_) (by rfl) (A2.out) ?_ ?_
      rotate_left
      · go_simp
        with_reducible rfl
      simp only [Act.put, List.setIfInBounds_toArray, List.set_cons_zero, List.set_cons_succ]
      refine planT_cons (by rfl) (fun K hK => ?_)
      go_simp
      rw [show (x : Int) + (y : Int) = ((x + y : Nat) : Int) by omega]
      have S3 := Lib.hid (show NW w w.heap.size (addK n m (j + 1)) (wr.setCell ⟨w.heap.size, j, none⟩ (.int .u64 ((x + y : Nat) : Int))).drew ∧ NW w (w.heap.size + 1) m (wr.setCell ⟨w.heap.size, j, none⟩ (.int .u64 ((x + y : Nat) : Int))).drew ∧ NW w (w.heap.size + 1 + 1) Z5 (wr.setCell ⟨w.heap.size, j, none⟩ (.int .u64 ((x + y : Nat) : Int))).drew by
        rw [addK, ← X.out, ← Y.out]
        exact ⟨(S2.out.1.set j (x + y)).drew, (S2.out.2.1.other (by omega) (by omega) _ _).drew, (S2.out.2.2.other (by omega) (by omega) _ _).drew⟩)
      refine hK.out _ _ (by have := row_cell S3.out.2.1.b j (WN_get m j (by rw [HM.out]; exact hlt)); rw [← Y.out] at this; exact this) ?_
      clear hK K
      refine planT_nil ?_
      clear a1 f1 a2 e1
      go_wp2_with fail
      go_roundw
      case rel => exact ⟨j + 1, by omega, by go_num, S3.out.1, S3.out.2.1, S3.out.2.2⟩
      case measure => simp [intOf]; omega
    · have hj : Hid (j = 5) := show j = 5 by have := J.out; omega
      have hD : decide ((j : Int) < 5) = false := by simp; omega
      have S3 := Lib.hid (show NW w w.heap.size (addK n m 5) wr by have := S2.out.1; rw [hj.out] at this; exact this)
      have L3 := Lib.hid (show (addK n m 5).length = 5 by rw [addK_length, HN.out])
      obtain ⟨L, hL⟩ : ∃ L, L = addK n m 5 := ⟨_, rfl⟩
      rw [← hL] at S3 L3
      have HLL := Lib.hid hL
      have Z := Lib.hid (show (Try.prog.info? 110).map (·.size) = some (WN L).size by rw [WN_size, L3.out]; kernel_rfl)
      clear hL
      go_wp2_with (first
        | (refine wpList_load_row rfl 110 (.tmp 2) rfl w.heap.size rfl 110 (WN L) (0, 0) _ S3.out.b Try.underlying110 rfl Z.out ?_)
        | (refine wpList_store_whole rfl rfl 110 (.tmp 4) (.tmp 18) rfl (w.heap.size + 1 + 1) (WN L) rfl rfl 110 _ S2.out.2.2.b Z.out (by rw [WN_size, WN_size, L3.out]; rfl) (WN_one _) ?_; intro w8 hz8 hg8 _))
      exact bodyPost_ret (results_cell_row rfl _ _ (w.heap.size + 1 + 1) 110 (WN L) (0, 0) _ rfl hz8 Try.underlying110 rfl Z.out) rfl ⟨by rw [HLL.out], ret_number S2.out.2.2 hg8⟩
set_option maxRecDepth 100000 in
set_option maxHeartbeats 1000000 in
theorem ncarry_any (n : List Nat) (hn : n.length = 5) (bn : Bd 4611686018427387904 n) (w : World) :
    Calls Try.prog 73 #[.agg (WN n)] w fun e w' => e = .returned (.agg (WN (carryL n))) ∧ Below w.heap.size w w' := by
  have HN := Lib.hid hn
  have BN := Lib.hid bn
  have Z5' := Lib.hid zero5
  clear hn bn
  go_enter Try.func73, Try.ntmps73
  go_wp2_with fail
  rw [← Z5'.out]
  obtain ⟨w1, hw1⟩ : ∃ w1, w1 = (w.alloc (.cells (WN n) 110)).alloc (.cells (WN Z5) 110) := ⟨_, rfl⟩
  have S1 := Lib.hid (show NW w w.heap.size n w1 ∧ NW w (w.heap.size + 1) Z5 w1 by
    have hb : Below w.heap.size w w1 := by rw [hw1]; exact ((Below.refl _ _).alloc (Nat.le_refl _) _).alloc (by simp) _
    rw [hw1] at hb ⊢
    exact ⟨⟨ha_old _ _ _ (by simp) (ha_new _ _ _ rfl), by omega, hb⟩, ⟨ha_new _ _ _ (by simp), by omega, hb⟩⟩)
  rw [← hw1]
  clear hw1
  go_loopw [5] (fun i wr => ∃ j : Nat, j ≤ 5 ∧ i = .int .i64 (j : Int) ∧ NW w w.heap.size (carryK n j) wr ∧ NW w (w.heap.size + 1) Z5 wr) (fun i _ => 5 - (intOf i).toNat)
  case atStart => exact ⟨0, by omega, rfl, S1.out⟩
  case round =>
    obtain ⟨j, hj, rfl, hs⟩ := hrel
    have J := Lib.hid hj
    have S2 := Lib.hid hs
    clear hj hs S1
    by_cases hlt : j < 5
    · have hD : decide ((j : Int) < 5) = true := by simp; omega
      obtain ⟨q, hq⟩ : ∃ q, q = carryK n j := ⟨_, rfl⟩
      rw [← hq] at S2
      have QL := Lib.hid (show q.length = 5 by rw [hq, carryK_length, HN.out])
      have QB := Lib.hid (show Bd 9223372036854775808 q by rw [hq]; exact carryK_bd n HN.out BN.out j J.out)
      have QQ := Lib.hid hq
      obtain ⟨x, hx⟩ : ∃ x, x = q.getD j 0 := ⟨_, rfl⟩
      have hxb : x ≤ 9223372036854775808 := by rw [hx]; exact QB.out j
      have e1 := mask26 x (by omega)
      have a1 := row_cell S2.out.1.b j (WN_get _ j (by rw [QL.out]; exact hlt))
      have f1 := row_free S2.out.1.b j
      rw [← hx] at a1
      have X := Lib.hid hx
      have b1 : (j : Int) < 5 := by omega
      clear hx hq
      go_upto_region 6 with fail
      clear a1 f1 e1
      obtain ⟨c, hc⟩ : ∃ c, c = x / 67108864 := ⟨_, rfl⟩
      rw [show (x : Int) % 67108864 = ((x % 67108864 : Nat) : Int) by omega, show (x : Int) / 67108864 = (c : Int) by omega]
      obtain ⟨w2, hw2⟩ : ∃ w2, w2 = wr.setCell ⟨w.heap.size, j, none⟩ (.int .u64 ((x % 67108864 : Nat) : Int)) := ⟨_, rfl⟩
      obtain ⟨p, hp⟩ : ∃ p, p = q.set j (x % 67108864) := ⟨_, rfl⟩
      have S3 := Lib.hid (show NW w w.heap.size p w2 ∧ NW w (w.heap.size + 1) Z5 w2 by rw [hw2, hp]; exact ⟨S2.out.1.set j _, S2.out.2.other (by omega) (by omega) _ _⟩)
      rw [← hw2]
      have C := Lib.hid hc
      have cb : c ≤ 137438953472 := by omega
      have PL := Lib.hid (show p.length = 5 by rw [hp, List.length_set, QL.out])
      have PB := Lib.hid (show Bd 9223372036854775808 p by rw [hp]; exact Bd.set QB.out (by omega))
      have PP := Lib.hid hp
      clear hw2 hp hc S2 hxb
      by_cases h4 : j + 1 < 5
      · have hE : decide ((j : Int) + 1 < 5) = true := by simp; omega
        obtain ⟨y, hy⟩ : ∃ y, y = p.getD (j + 1) 0 := ⟨_, rfl⟩
        have hyb : y ≤ 9223372036854775808 := by rw [hy]; exact PB.out _
        have a2 := row_cell S3.out.1.b (j + 1) (WN_get _ (j + 1) (by rw [PL.out]; exact h4))
        have f2 := row_free S3.out.1.b (j + 1)
        rw [← hy] at a2
        have Y := Lib.hid hy
        have b2 : (j : Int) + 1 < 5 := by omega
        have b3 : (y : Int) + (c : Int) ≤ 18446744073709551615 := by omega
        have e2 : ((j : Int) + 1).toNat = j + 1 := by omega
        clear hy
        go_wp2_with fail
        go_roundw
        case rel =>
          refine ⟨j + 1, by omega, by go_num, ?_⟩
          rw [show (y : Int) + (c : Int) = ((y + c : Nat) : Int) by omega]
          have e : carryK n (j + 1) = p.set (j + 1) (y + c) := by
            rw [carryK]
            rw [if_pos h4, ← QQ.out, ← X.out, ← PP.out, ← Y.out, ← C.out]
          rw [e]
          exact ⟨S3.out.1.set _ _, S3.out.2.other (by omega) (by omega) _ _⟩
        case measure => simp [intOf]; omega
      · have hE : decide ((j : Int) + 1 < 5) = false := by simp; omega
        obtain ⟨y, hy⟩ : ∃ y, y = p.getD 0 0 := ⟨_, rfl⟩
        have hyb : y ≤ 9223372036854775808 := by rw [hy]; exact PB.out _
        have a2 := row_cell S3.out.1.b 0 (WN_get _ 0 (by rw [PL.out]; omega))
        have f2 := row_free S3.out.1.b 0
        rw [← hy] at a2
        have Y := Lib.hid hy
        have b3 : (y : Int) + 5 * (c : Int) ≤ 18446744073709551615 := by omega
        have b4 : 5 * (c : Int) ≤ 18446744073709551615 := by omega
        clear hy
        go_wp2_with fail
        go_roundw
        case rel =>
          refine ⟨j + 1, by omega, by go_num, ?_⟩
          rw [show (y : Int) + 5 * (c : Int) = ((y + 5 * c : Nat) : Int) by omega]
          have e : carryK n (j + 1) = p.set 0 (y + 5 * c) := by
            rw [carryK]
            rw [if_neg h4, ← QQ.out, ← X.out, ← PP.out, ← Y.out, ← C.out]
          rw [e]
          exact ⟨S3.out.1.set _ _, S3.out.2.other (by omega) (by omega) _ _⟩
        case measure => simp [intOf]; omega
    · have hj : Hid (j = 5) := show j = 5 by have := J.out; omega
      have hD : decide ((j : Int) < 5) = false := by simp; omega
      have S3 := Lib.hid (show NW w w.heap.size (carryL n) wr by have := S2.out.1; rw [hj.out] at this; exact this)
      have L3 := Lib.hid (show (carryL n).length = 5 by rw [carryL_length, HN.out])
      obtain ⟨L, hL⟩ : ∃ L, L = carryL n := ⟨_, rfl⟩
      rw [← hL] at S3 L3
      have HLL := Lib.hid hL
      have Z := Lib.hid (show (Try.prog.info? 110).map (·.size) = some (WN L).size by rw [WN_size, L3.out]; kernel_rfl)
      clear hL
      go_wp2_with (first
        | (refine wpList_load_row rfl 110 (.tmp 1) rfl w.heap.size rfl 110 (WN L) (0, 0) _ S3.out.b Try.underlying110 rfl Z.out ?_)
        | (refine wpList_store_whole rfl rfl 110 (.tmp 2) (.tmp 34) rfl (w.heap.size + 1) (WN L) rfl rfl 110 _ S2.out.2.b Z.out (by rw [WN_size, WN_size, L3.out]; rfl) (WN_one _) ?_; intro w8 hz8 hg8 _))
      exact bodyPost_ret (results_cell_row rfl _ _ (w.heap.size + 1) 110 (WN L) (0, 0) _ rfl hz8 Try.underlying110 rfl Z.out) rfl ⟨by rw [HLL.out], ret_number S2.out.2 hg8⟩
end Go.Proofs.Ytldjiigkebkgcaa

/- Numbers in limbs: a product, and the least one. No condition but those each theorem states. -/
namespace Go.Proofs.Ytldjiigkebkgcaa
set_option linter.unusedVariables false
set_option linter.unusedSimpArgs false
open Go.RowKit
attribute [local go_sem ↓] Go.wp_at_zero Go.wp_at_succ

theorem carryL_bd (n : List Nat) (hn : n.length = 5) (h : Bd 4611686018427387904 n) : Bd 4611686018427387904 (carryL n) := by
  obtain ⟨b0, b1, b2, b3, b4, c4, e, h0, h1, h2, h3, h4, hc⟩ := carryL_once n hn h
  rw [e]
  intro j
  rcases j with _ | _ | _ | _ | _ | j <;> simp <;> omega
/-- What stands while a product is made. -/
structure TmW (w : World) (n r acc : List Nat) (W : World) : Prop where
  bn : NW w w.heap.size n W
  br : NW w (w.heap.size + 1) r W
  bz : NW w (w.heap.size + 1 + 1) Z5 W
  ba : NW w (w.heap.size + 1 + 1 + 1) acc W
theorem TmW.set {w W : World} {n r acc : List Nat} (h : TmW w n r acc W) (i x : Nat) : TmW w n r (acc.set i x) (W.setCell ⟨w.heap.size + 1 + 1 + 1, i, none⟩ (.int .u64 (x : Int))).drew where
  bn := (h.bn.other (by omega) (by omega) _ _).drew
  br := (h.br.other (by omega) (by omega) _ _).drew
  bz := (h.bz.other (by omega) (by omega) _ _).drew
  ba := (h.ba.set i x).drew
set_option maxRecDepth 100000 in
set_option maxHeartbeats 2000000 in
theorem ntimes_any (n r : List Nat) (hn : n.length = 5) (hr : r.length = 5) (bn : Bd 268435456 n) (br : Bd 67108864 r) (w : World) :
    Calls Try.prog 60 #[.agg (WN n), .agg (WN r)] w fun e w' => e = .returned (.agg (WN (timesL n r))) ∧ Below w.heap.size w w' := by
  have HN := Lib.hid hn
  have HR := Lib.hid hr
  have BN := Lib.hid bn
  have BR := Lib.hid br
  have Z5' := Lib.hid zero5
  clear hn hr bn br
  go_enter Try.func60, Try.ntmps60
  go_wp2_with fail
  rw [← Z5'.out]
  obtain ⟨w1, hw1⟩ : ∃ w1, w1 = (((w.alloc (.cells (WN n) 110)).alloc (.cells (WN r) 110)).alloc (.cells (WN Z5) 110)).alloc (.cells (WN Z5) 110) := ⟨_, rfl⟩
  have S1 := Lib.hid (show TmW w n r (timesT n r 0) w1 by
    have hb : Below w.heap.size w w1 := by rw [hw1]; exact ((((Below.refl _ _).alloc (Nat.le_refl _) _).alloc (by simp) _).alloc (by simp <;> omega) _).alloc (by simp <;> omega) _
    rw [hw1] at hb ⊢
    exact ⟨⟨ha_old _ _ _ (by simp <;> omega) (ha_old _ _ _ (by simp <;> omega) (ha_old _ _ _ (by simp) (ha_new _ _ _ rfl))), by omega, hb⟩, ⟨ha_old _ _ _ (by simp <;> omega) (ha_old _ _ _ (by simp) (ha_new _ _ _ (by simp))), by omega, hb⟩, ⟨ha_old _ _ _ (by simp) (ha_new _ _ _ (by simp)), by omega, hb⟩, ⟨ha_new _ _ _ (by simp), by omega, hb⟩⟩)
  rw [← hw1]
  clear hw1
  go_loopw [8] (fun u wr => ∃ i : Nat, i ≤ 5 ∧ u = .int .i64 (i : Int) ∧ TmW w n r (timesT n r i) wr) (fun u _ => 5 - (intOf u).toNat)
  case atStart => exact ⟨0, by omega, rfl, S1.out⟩
  case round =>
    obtain ⟨i, hi, rfl, hs⟩ := hrel
    have I := Lib.hid hi
    have S2 := Lib.hid hs
    clear hi hs S1
    by_cases hlt : i < 5
    · have hD : decide ((i : Int) < 5) = true := by simp; omega
      obtain ⟨wo, rfl⟩ : ∃ wo : World, wo = wr := ⟨_, rfl⟩
      go_wp2_with fail
      go_loopw [11] (fun u wr => ∃ k : Nat, k ≤ 5 ∧ u = .int .i64 (k : Int) ∧ TmW w n r (rowT n r (timesT n r i) i k) wr) (fun u _ => 5 - (intOf u).toNat)
      case atStart => exact ⟨0, by omega, rfl, S2.out⟩
      case round =>
        obtain ⟨k, hk, rfl, hs⟩ := hrel
        have KK := Lib.hid hk
        have S3 := Lib.hid hs
        clear hk hs S2
        by_cases hlk : k < 5
        · have hE : decide ((k : Int) < 5) = true := by simp; omega
          obtain ⟨acc, hacc⟩ : ∃ acc, acc = rowT n r (timesT n r i) i k := ⟨_, rfl⟩
          rw [← hacc] at S3
          have AA := Lib.hid hacc
          have AL := Lib.hid (show acc.length = 5 by rw [hacc, rowT_length, timesT_length])
          have AB := Lib.hid (show Bd 4611686018427387904 acc by rw [hacc]; exact (rowT_bd BN.out BR.out (timesT_bd BN.out BR.out i) i k).mono (by omega))
          obtain ⟨x, hx⟩ : ∃ x, x = n.getD i 0 := ⟨_, rfl⟩
          obtain ⟨y, hy⟩ : ∃ y, y = r.getD k 0 := ⟨_, rfl⟩
          have hp := prod_bd BN.out BR.out i k
          rw [← hx, ← hy] at hp
          have a1 := row_cell S3.out.bn.b i (WN_get _ i (by rw [HN.out]; exact hlt))
          have a2 := row_cell S3.out.br.b k (WN_get _ k (by rw [HR.out]; exact hlk))
          rw [← hx] at a1
          rw [← hy] at a2
          have hxb : x ≤ 268435456 := by rw [hx]; exact BN.out i
          have X := Lib.hid hx
          have Y := Lib.hid hy
          have A12 := Lib.hid (And.intro a1 a2)
          have b1 : (i : Int) < 5 := by omega
          have b2 : (k : Int) < 5 := by omega
          have e0 := wrap_i64' ((i : Int) + (k : Int)) (by omega)
          have b0 : (0 : Int) ≤ (i : Int) + (k : Int) := by omega
          have e1 := wrap_u64_mul x y (by omega)
          rw [Int.natCast_mul] at e1
          clear hacc hx hy
          by_cases h5 : i + k < 5
          · have hF : decide ((i : Int) + (k : Int) < 5) = true := by simp; omega
            have b3 : (i : Int) + (k : Int) < 5 := by omega
            have e3 : ((i : Int) + (k : Int)).toNat = i + k := by omega
            obtain ⟨o, ho⟩ : ∃ o, o = acc.getD (i + k) 0 := ⟨_, rfl⟩
            have a3 := row_cell S3.out.ba.b (i + k) (WN_get _ (i + k) (by rw [AL.out]; exact h5))
            have f3 := row_free S3.out.ba.b (i + k)
            rw [← ho] at a3
            have e2 := wrap_u64 (o + x * y) (by have := AB.out (i + k); omega)
            rw [Int.natCast_add, Int.natCast_mul] at e2
            have O := Lib.hid ho
            clear ho a1 a2
            go_upto_region 9 with fail
            refine wp_region_plan (fun W => W.cell? ⟨w.heap.size, i, none⟩ = some (.int .u64 (x : Int)) ∧ W.cell? ⟨w.heap.size + 1, k, none⟩ = some (.int .u64 (y : Int))) [0, 1, 2, 3, 5, 6, 7, 8, 9, 10, 11] [4, 12, 13, 14] (by kernel_rfl) (by kernel_rfl) (fun _ _ d _ _ h => by cases d <;> exact h) (A12.out) ?_
            simp only [List.filterMap_cons, List.filterMap_nil, List.getElem?_toArray, List.getElem?_cons_zero, List.getElem?_cons_succ]
            refine planQ_cons (v := ?_) (by rfl) ?_ ?_
            rotate_left
            · intro W hW
              go_simp
              with_reducible rfl
            simp only [Act.put, List.setIfInBounds_toArray, List.set_cons_zero, List.set_cons_succ]
            refine planQ_cons (v := ?_) (by rfl) ?_ ?_
            rotate_left
            · intro W hW
              go_simp
              with_reducible rfl
            simp only [Act.put, List.setIfInBounds_toArray, List.set_cons_zero, List.set_cons_succ]
            refine planQ_cons (v := ?_) (by rfl) ?_ ?_
            rotate_left
            · intro W hW
              go_simp
              with_reducible rfl
            simp only [Act.put, List.setIfInBounds_toArray, List.set_cons_zero, List.set_cons_succ]
            refine planQ_cons (v := ?_) (by rfl) ?_ ?_
            rotate_left
            · intro W hW
              go_simp
              with_reducible rfl
            simp only [Act.put, List.setIfInBounds_toArray, List.set_cons_zero, List.set_cons_succ]
            refine planQ_cons (v := ?_) (by rfl) ?_ ?_
            rotate_left
            · intro W hW
              go_simp
              with_reducible rfl
            simp only [Act.put, List.setIfInBounds_toArray, List.set_cons_zero, List.set_cons_succ]
            refine planQ_cons (v := ?_) (by rfl) ?_ ?_
            rotate_left
            · intro W hW
              go_simp
              with_reducible rfl
            simp only [Act.put, List.setIfInBounds_toArray, List.set_cons_zero, List.set_cons_succ]
            refine planQ_cons (by rfl) (fun W hW => run_cell 104 (.tmp 24) rfl _ Try.underlying104 rfl rfl hW.1) ?_
            simp only [Act.put, List.setIfInBounds_toArray, List.set_cons_zero, List.set_cons_succ]
            refine planQ_cons (v := ?_) (by rfl) ?_ ?_
            rotate_left
            · intro W hW
              go_simp
              with_reducible rfl
            simp only [Act.put, List.setIfInBounds_toArray, List.set_cons_zero, List.set_cons_succ]
            refine planQ_cons (v := ?_) (by rfl) ?_ ?_
            rotate_left
            · intro W hW
              go_simp
              with_reducible rfl
            simp only [Act.put, List.setIfInBounds_toArray, List.set_cons_zero, List.set_cons_succ]
            refine planQ_cons (by rfl) (fun W hW => run_cell 104 (.tmp 27) rfl _ Try.underlying104 rfl rfl hW.2) ?_
            simp only [Act.put, List.setIfInBounds_toArray, List.set_cons_zero, List.set_cons_succ]
            refine planQ_cons (v := ?_) (by rfl) ?_ ?_
            rotate_left
            · intro W hW
              go_simp
              with_reducible rfl
            simp only [Act.put, List.setIfInBounds_toArray, List.set_cons_zero, List.set_cons_succ]
            refine planQ_nil ?_
            refine planT_val (by rfl) (A12.out) (run_cell 104 (.tmp 21) rfl _ Try.underlying104 rfl rfl a3) ?_
            simp only [Act.put, List.setIfInBounds_toArray, List.set_cons_zero, List.set_cons_succ]
            refine planT_val (v := ?_) (by rfl) (A12.out) ?_ ?_
            rotate_left
            · go_simp
              with_reducible rfl
            simp only [Act.put, List.setIfInBounds_toArray, List.set_cons_zero, List.set_cons_succ]
            refine planT_val (v := ?_) (by rfl) (A12.out) ?_ ?_
            rotate_left
            · go_simp
              with_reducible rfl
            simp only [Act.put, List.setIfInBounds_toArray, List.set_cons_zero, List.set_cons_succ]
            refine planT_cons (by rfl) (fun K hK => ?_)
            go_simp
            rw [show (o : Int) + (x : Int) * (y : Int) = ((o + x * y : Nat) : Int) by rw [Int.natCast_add, Int.natCast_mul]]
            have S4 := Lib.hid (S3.out.set (i + k) (o + x * y))
            refine hK.out _ _ (⟨(row_cell S4.out.bn.b i (WN_get _ i (by rw [HN.out]; exact hlt))).trans (by rw [X.out]), (row_cell S4.out.br.b k (WN_get _ k (by rw [HR.out]; exact hlk))).trans (by rw [Y.out])⟩) ?_
            clear hK K
            refine planT_nil ?_
            clear a3 f3 e0 e1 e2 e3
            go_wp2_with fail
            go_roundw
            case rel =>
              refine ⟨k + 1, by omega, by go_num, ?_⟩
              rw [rowT, stepT, if_pos h5, ← AA.out, ← O.out, ← X.out, ← Y.out]
              exact S4.out
            case measure => simp [intOf]; omega
          · have hF : decide ((i : Int) + (k : Int) < 5) = false := by simp; omega
            have b3 : (i : Int) + (k : Int) - 5 < 5 := by omega
            have b4 : (0 : Int) ≤ (i : Int) + (k : Int) - 5 := by omega
            have b5 : (5 : Int) ≤ (i : Int) + (k : Int) := by omega
            have e3 : ((i : Int) + (k : Int) - 5).toNat = i + k - 5 := by omega
            have e4 := wrap_i64' ((i : Int) + (k : Int) - 5) (by omega)
            obtain ⟨o, ho⟩ : ∃ o, o = acc.getD (i + k - 5) 0 := ⟨_, rfl⟩
            have a3 := row_cell S3.out.ba.b (i + k - 5) (WN_get _ (i + k - 5) (by rw [AL.out]; omega))
            have f3 := row_free S3.out.ba.b (i + k - 5)
            rw [← ho] at a3
            have e2 := wrap_u64 (o + 5 * x * y) (by have := AB.out (i + k - 5); omega)
            rw [Int.natCast_add, Int.natCast_mul, Int.natCast_mul] at e2
            have e5 := wrap_u64 (5 * x * y) (by omega)
            rw [Int.natCast_mul, Int.natCast_mul] at e5
            have e6 := wrap_u64 (5 * x) (by omega)
            rw [Int.natCast_mul] at e6
            have c5 : ((5 : Nat) : Int) = 5 := rfl
            rw [c5] at e2 e5 e6
            have O := Lib.hid ho
            clear ho a1 a2 c5
            go_upto_region 10 with fail
            refine wp_region_plan (fun W => W.cell? ⟨w.heap.size, i, none⟩ = some (.int .u64 (x : Int)) ∧ W.cell? ⟨w.heap.size + 1, k, none⟩ = some (.int .u64 (y : Int))) [0, 1, 2, 3, 4, 6, 7, 8, 9, 10, 11, 12, 13] [5, 14, 15, 16] (by kernel_rfl) (by kernel_rfl) (fun _ _ d _ _ h => by cases d <;> exact h) (A12.out) ?_
            simp only [List.filterMap_cons, List.filterMap_nil, List.getElem?_toArray, List.getElem?_cons_zero, List.getElem?_cons_succ]
            refine planQ_cons (v := ?_) (by rfl) ?_ ?_
            rotate_left
            · intro W hW
              go_simp
              with_reducible rfl
            simp only [Act.put, List.setIfInBounds_toArray, List.set_cons_zero, List.set_cons_succ]
            refine planQ_cons (v := ?_) (by rfl) ?_ ?_
            rotate_left
            · intro W hW
              go_simp
              with_reducible rfl
            simp only [Act.put, List.setIfInBounds_toArray, List.set_cons_zero, List.set_cons_succ]
            refine planQ_cons (v := ?_) (by rfl) ?_ ?_
            rotate_left
            · intro W hW
              go_simp
              with_reducible rfl
            simp only [Act.put, List.setIfInBounds_toArray, List.set_cons_zero, List.set_cons_succ]
            refine planQ_cons (v := ?_) (by rfl) ?_ ?_
            rotate_left
            · intro W hW
              go_simp
              with_reducible rfl
            simp only [Act.put, List.setIfInBounds_toArray, List.set_cons_zero, List.set_cons_succ]
            refine planQ_cons (v := ?_) (by rfl) ?_ ?_
            rotate_left
            · intro W hW
              go_simp
              with_reducible rfl
            simp only [Act.put, List.setIfInBounds_toArray, List.set_cons_zero, List.set_cons_succ]
            refine planQ_cons (v := ?_) (by rfl) ?_ ?_
            rotate_left
            · intro W hW
              go_simp
              with_reducible rfl
            simp only [Act.put, List.setIfInBounds_toArray, List.set_cons_zero, List.set_cons_succ]
            refine planQ_cons (v := ?_) (by rfl) ?_ ?_
            rotate_left
            · intro W hW
              go_simp
              with_reducible rfl
            simp only [Act.put, List.setIfInBounds_toArray, List.set_cons_zero, List.set_cons_succ]
            refine planQ_cons (by rfl) (fun W hW => run_cell 104 (.tmp 39) rfl _ Try.underlying104 rfl rfl hW.1) ?_
            simp only [Act.put, List.setIfInBounds_toArray, List.set_cons_zero, List.set_cons_succ]
            refine planQ_cons (v := ?_) (by rfl) ?_ ?_
            rotate_left
            · intro W hW
              go_simp
              with_reducible rfl
            simp only [Act.put, List.setIfInBounds_toArray, List.set_cons_zero, List.set_cons_succ]
            refine planQ_cons (v := ?_) (by rfl) ?_ ?_
            rotate_left
            · intro W hW
              go_simp
              with_reducible rfl
            simp only [Act.put, List.setIfInBounds_toArray, List.set_cons_zero, List.set_cons_succ]
            refine planQ_cons (v := ?_) (by rfl) ?_ ?_
            rotate_left
            · intro W hW
              go_simp
              with_reducible rfl
            simp only [Act.put, List.setIfInBounds_toArray, List.set_cons_zero, List.set_cons_succ]
            refine planQ_cons (by rfl) (fun W hW => run_cell 104 (.tmp 43) rfl _ Try.underlying104 rfl rfl hW.2) ?_
            simp only [Act.put, List.setIfInBounds_toArray, List.set_cons_zero, List.set_cons_succ]
            refine planQ_cons (v := ?_) (by rfl) ?_ ?_
            rotate_left
            · intro W hW
              go_simp
              with_reducible rfl
            simp only [Act.put, List.setIfInBounds_toArray, List.set_cons_zero, List.set_cons_succ]
            refine planQ_nil ?_
            refine planT_val (by rfl) (A12.out) (run_cell 104 (.tmp 36) rfl _ Try.underlying104 rfl rfl a3) ?_
            simp only [Act.put, List.setIfInBounds_toArray, List.set_cons_zero, List.set_cons_succ]
            refine planT_val (v := ?_) (by rfl) (A12.out) ?_ ?_
            rotate_left
            · go_simp
              with_reducible rfl
            simp only [Act.put, List.setIfInBounds_toArray, List.set_cons_zero, List.set_cons_succ]
            refine planT_val (v := ?_) (by rfl) (A12.out) ?_ ?_
            rotate_left
            · go_simp
              with_reducible rfl
            simp only [Act.put, List.setIfInBounds_toArray, List.set_cons_zero, List.set_cons_succ]
            refine planT_cons (by rfl) (fun K hK => ?_)
            go_simp
            rw [show (o : Int) + 5 * (x : Int) * (y : Int) = ((o + 5 * x * y : Nat) : Int) by rw [Int.natCast_add, Int.natCast_mul, Int.natCast_mul]; rfl]
            have S4 := Lib.hid (S3.out.set (i + k - 5) (o + 5 * x * y))
            refine hK.out _ _ (⟨(row_cell S4.out.bn.b i (WN_get _ i (by rw [HN.out]; exact hlt))).trans (by rw [X.out]), (row_cell S4.out.br.b k (WN_get _ k (by rw [HR.out]; exact hlk))).trans (by rw [Y.out])⟩) ?_
            clear hK K
            refine planT_nil ?_
            clear a3 f3 e0 e1 e2 e3 e4 e5 e6
            go_wp2_with fail
            go_roundw
            case rel =>
              refine ⟨k + 1, by omega, by go_num, ?_⟩
              rw [rowT, stepT, if_neg h5, ← AA.out, ← O.out, ← X.out, ← Y.out]
              exact S4.out
            case measure => simp [intOf]; omega
        · have hk5 : Hid (k = 5) := show k = 5 by have := KK.out; omega
          have hE : decide ((k : Int) < 5) = false := by simp; omega
          go_wp2_with fail
          go_roundw
          case rel =>
            refine ⟨i + 1, by omega, by go_num, ?_⟩
            rw [timesT, ← hk5.out]
            exact S3.out
          case measure => simp [intOf]; omega
    · have hi : Hid (i = 5) := show i = 5 by have := I.out; omega
      have hD : decide ((i : Int) < 5) = false := by simp; omega
      have L1 := Lib.hid (timesT_bd BN.out BR.out 5)
      obtain ⟨t, ht⟩ : ∃ t, t = timesT n r i := ⟨_, rfl⟩
      rw [← ht] at S2
      have TT := Lib.hid (show t = timesT n r 5 by rw [ht, hi.out])
      have TL := Lib.hid (show t.length = 5 by rw [ht, timesT_length])
      have TB := Lib.hid (show Bd 4611686018427387904 t by rw [TT.out]; exact L1.out.mono (by omega))
      have Z := Lib.hid (show (Try.prog.info? 110).map (·.size) = some (WN t).size by rw [WN_size, TL.out]; kernel_rfl)
      clear ht
      go_wp2_with (refine wpList_load_row rfl 110 (.tmp 5) rfl (w.heap.size + 1 + 1 + 1) rfl 110 (WN t) (0, 0) _ S2.out.ba.b Try.underlying110 rfl Z.out ?_)
      refine (ncarry_any t TL.out TB.out _).mono ?_
      rintro e w2 ⟨rfl, hb2⟩
      have B2 := Lib.hid hb2
      clear hb2
      obtain ⟨t2, ht2⟩ : ∃ t2, t2 = carryL t := ⟨_, rfl⟩
      rw [← ht2]
      have TL2 := Lib.hid (show t2.length = 5 by rw [ht2, carryL_length, TL.out])
      have TB2 := Lib.hid (show Bd 4611686018427387904 t2 by rw [ht2]; exact carryL_bd t TL.out TB.out)
      have TT2 := Lib.hid ht2
      clear ht2
      go_wp2_with fail
      refine (ncarry_any t2 TL2.out TB2.out _).mono ?_
      rintro e w3 ⟨rfl, hb3⟩
      have B3 := Lib.hid (B2.out.trans (hb3.mono B2.out.size))
      clear hb3
      obtain ⟨L, hL⟩ : ∃ L, L = carryL t2 := ⟨_, rfl⟩
      rw [← hL]
      have L3 := Lib.hid (show L.length = 5 by rw [hL, carryL_length, TL2.out])
      have HLL := Lib.hid (show L = timesL n r by rw [hL, TT2.out, TT.out, timesL])
      have Z2 := Lib.hid (show (Try.prog.info? 110).map (·.size) = some (WN L).size by rw [WN_size, L3.out]; kernel_rfl)
      have S3 := Lib.hid (S2.out.bz.keep B3.out)
      clear hL
      go_wp2_with (refine wpList_store_whole rfl rfl 110 (.tmp 4) (.tmp 52) rfl (w.heap.size + 1 + 1) (WN L) rfl rfl 110 _ S3.out.b Z2.out (by rw [WN_size, WN_size, L3.out]; rfl) (WN_one _) ?_; intro w8 hz8 hg8 _)
      exact bodyPost_ret (results_cell_row rfl _ _ (w.heap.size + 1 + 1) 110 (WN L) (0, 0) _ rfl hz8 Try.underlying110 rfl Z2.out) rfl ⟨by rw [HLL.out], ret_number S3.out hg8⟩
/-! ### the least one -/
def leastK (m : List Nat) : Nat → List Nat
  | 0 => m
  | i + 1 => ((leastK m i).set (i + 1) ((leastK m i).getD (i + 1) 0 + (leastK m i).getD i 0 / 67108864)).set i ((leastK m i).getD i 0 % 67108864)
theorem leastK_length (n : List Nat) (i : Nat) : (leastK n i).length = n.length := by
  induction i with
  | zero => rfl
  | succ i ih => simp [leastK, ih]
def limbsN (x : Nat) : List Nat := [x % 67108864, x / 67108864 % 67108864, x / 4503599627370496 % 67108864, x / 302231454903657293676544 % 67108864, x / 20282409603651670423947251286016 % 67108864]
theorem limbs_val (b0 b1 b2 b3 b4 : Nat) (h0 : b0 < 67108864) (h1 : b1 < 67108864) (h2 : b2 < 67108864) (h3 : b3 < 67108864) (h4 : b4 < 67108864) : [b0, b1, b2, b3, b4] = limbsN (valN [b0, b1, b2, b3, b4]) := by
  simp only [limbsN, valN, List.getD_cons_zero, List.getD_cons_succ]
  congr 1
  · omega
  congr 1
  · omega
  congr 1
  · omega
  congr 1
  · omega
  congr 1
  omega
theorem limbs_lt (b0 b1 b2 b3 b4 : Nat) (h0 : b0 < 67108864) (h1 : b1 < 67108864) (h2 : b2 < 67108864) (h3 : b3 < 67108864) (h4 : b4 < 67108864) : valN [b0, b1, b2, b3, b4] < 1361129467683753853853498429727072845824 := by
  simp only [valN, List.getD_cons_zero, List.getD_cons_succ]
  omega
/-- What 'least' has after the loop, of small limbs. -/
theorem leastK_form (b0 b1 b2 b3 b4 : Nat) (h0 : b0 < 67108864) (h1 : b1 < 67108864) (h2 : b2 < 67108864) (h3 : b3 < 67108864) (h4 : b4 < 67108864) :
    ∃ c0 c1 c2 c3 c4, leastK [b0 + 5, b1, b2, b3, b4] 4 = [c0, c1, c2, c3, c4] ∧ c0 < 67108864 ∧ c1 < 67108864 ∧ c2 < 67108864 ∧ c3 < 67108864 ∧ c4 ≤ 67108864 ∧ valN [c0, c1, c2, c3, c4] = valN [b0, b1, b2, b3, b4] + 5 := by
  refine ⟨(b0 + 5) % 67108864, (b1 + (b0 + 5) / 67108864) % 67108864, (b2 + (b1 + (b0 + 5) / 67108864) / 67108864) % 67108864, (b3 + (b2 + (b1 + (b0 + 5) / 67108864) / 67108864) / 67108864) % 67108864, b4 + (b3 + (b2 + (b1 + (b0 + 5) / 67108864) / 67108864) / 67108864) / 67108864, rfl, ?_⟩
  obtain ⟨d0, hd0⟩ : ∃ d, d = (b0 + 5) / 67108864 := ⟨_, rfl⟩
  rw [← hd0]
  obtain ⟨d1, hd1⟩ : ∃ d, d = (b1 + d0) / 67108864 := ⟨_, rfl⟩
  rw [← hd1]
  obtain ⟨d2, hd2⟩ : ∃ d, d = (b2 + d1) / 67108864 := ⟨_, rfl⟩
  rw [← hd2]
  obtain ⟨d3, hd3⟩ : ∃ d, d = (b3 + d2) / 67108864 := ⟨_, rfl⟩
  rw [← hd3]
  refine ⟨by omega, by omega, by omega, by omega, by omega, ?_⟩
  simp only [valN, List.getD_cons_zero, List.getD_cons_succ]
  omega
def leastL (n : List Nat) : List Nat :=
  let a := carryL (carryL n)
  let m := leastK (a.set 0 (a.getD 0 0 + 5)) 4
  if m.getD 4 0 / 67108864 = 0 then a else m.set 4 (m.getD 4 0 % 67108864)
theorem leastL_all (n : List Nat) (hn : n.length = 5) (h : Bd 67108868 n) : leastL n = limbsN (valN n % PN) := by
  have hv : valN (carryL (carryL n)) % PN = valN n % PN := by rw [carryL_mod _ (by rw [carryL_length]; exact hn), carryL_mod _ hn]
  obtain ⟨b0, b1, b2, b3, b4, e, h0, h1, h2, h3, h4⟩ := carryL_small n hn h
  obtain ⟨c0, c1, c2, c3, c4, e2, g0, g1, g2, g3, g4, gv⟩ := leastK_form b0 b1 b2 b3 b4 h0 h1 h2 h3 h4
  have hlt := limbs_lt b0 b1 b2 b3 b4 h0 h1 h2 h3 h4
  rw [e] at hv
  unfold leastL
  rw [e]
  have e3 : leastK ([b0, b1, b2, b3, b4].set 0 ([b0, b1, b2, b3, b4].getD 0 0 + 5)) 4 = [c0, c1, c2, c3, c4] := e2
  dsimp only
  rw [e3]
  simp only [List.getD_cons_zero, List.getD_cons_succ]
  obtain ⟨X, hX⟩ : ∃ X, X = valN [b0, b1, b2, b3, b4] := ⟨_, rfl⟩
  rw [← hX] at hlt gv hv
  rw [← hv]
  by_cases hc : c4 / 67108864 = 0
  · rw [if_pos hc]
    have : X < PN := by
      have := limbs_lt c0 c1 c2 c3 c4 g0 g1 g2 g3 (by omega)
      unfold PN
      omega
    rw [Nat.mod_eq_of_lt this, hX]
    exact limbs_val b0 b1 b2 b3 b4 h0 h1 h2 h3 h4
  · rw [if_neg hc]
    have hc4 : c4 = 67108864 := by omega
    subst hc4
    have hX2 : valN [c0, c1, c2, c3, 0] = X - PN ∧ PN ≤ X := by
      simp only [valN, List.getD_cons_zero, List.getD_cons_succ] at gv ⊢
      unfold PN
      omega
    have : X % PN = X - PN := by
      rw [Nat.mod_eq_sub_mod hX2.2, Nat.mod_eq_of_lt (by unfold PN; omega)]
    rw [this, ← hX2.1]
    exact limbs_val c0 c1 c2 c3 0 g0 g1 g2 g3 (by omega)
end Go.Proofs.Ytldjiigkebkgcaa

/- Bytes as a number, the lowest first; and in limbs. No condition but those each theorem states. -/
namespace Go.Proofs.Ytldjiigkebkgcaa
set_option linter.unusedVariables false
set_option linter.unusedSimpArgs false
open Go.RowKit

def leNat : List UInt8 → Nat
  | [] => 0
  | c :: r => c.toNat + 256 * leNat r
theorem leNat_append (a b : List UInt8) : leNat (a ++ b) = leNat a + 256 ^ a.length * leNat b := by
  induction a with
  | nil => simp [leNat]
  | cons c r ih =>
    simp only [List.cons_append, leNat, ih, List.length_cons, Nat.pow_succ]
    rw [Nat.mul_add, Nat.mul_comm (256 ^ r.length) 256, Nat.mul_assoc, Nat.add_assoc]
theorem leNat_lt (a : List UInt8) : leNat a < 256 ^ a.length := by
  induction a with
  | nil => simp [leNat]
  | cons c r ih =>
    have := c.toNat_lt
    simp only [leNat, List.length_cons, Nat.pow_succ]
    omega
theorem leNat_snoc (l : List UInt8) (i : Nat) (hi : i < l.length) : leNat (l.take (i + 1)) = leNat (l.take i) + (l.getD i 0).toNat * 256 ^ i := by
  rw [List.take_add_one, List.getElem?_eq_getElem hi, leNat_append]
  simp [leNat, List.getD_eq_getElem?_getD, hi]
  rw [Nat.min_eq_left (by omega), Nat.mul_comm]
theorem or_add (s a b q : Nat) (ha : a < 2 ^ s) (hb : b = 2 ^ s * q) : a ||| b = a + b := by
  subst hb
  rw [Nat.or_comm, ← Nat.two_pow_add_eq_or_of_lt ha, Nat.add_comm]
theorem load_0 (x c : Nat) (hx : x < 1) (hc : c < 256) : limbsN (x + c * 1) = [x % 67108864 ||| c * 1 % 67108864, x / 67108864 % 67108864 ||| c * 1 / 67108864, x / 4503599627370496 % 67108864, x / 302231454903657293676544 % 67108864, x / 20282409603651670423947251286016 % 67108864] := by
  have o1 : x % 67108864 ||| c * 1 % 67108864 = x % 67108864 + c * 1 % 67108864 := or_add 0 _ _ (c % 67108864) (by omega) (by omega)
  have z : x / 67108864 % 67108864 = 0 := by omega
  have o2 : x / 67108864 % 67108864 ||| c * 1 / 67108864 = c * 1 / 67108864 := by rw [z, Nat.zero_or]
  rw [o1, o2]
  simp only [limbsN, List.cons.injEq]
  refine ⟨?_, ?_, ?_, ?_, ?_, trivial⟩ <;> omega
theorem load_1 (x c : Nat) (hx : x < 256) (hc : c < 256) : limbsN (x + c * 256) = [x % 67108864 ||| c * 256 % 67108864, x / 67108864 % 67108864 ||| c * 256 / 67108864, x / 4503599627370496 % 67108864, x / 302231454903657293676544 % 67108864, x / 20282409603651670423947251286016 % 67108864] := by
  have o1 : x % 67108864 ||| c * 256 % 67108864 = x % 67108864 + c * 256 % 67108864 := or_add 8 _ _ (c % 262144) (by omega) (by omega)
  have z : x / 67108864 % 67108864 = 0 := by omega
  have o2 : x / 67108864 % 67108864 ||| c * 256 / 67108864 = c * 256 / 67108864 := by rw [z, Nat.zero_or]
  rw [o1, o2]
  simp only [limbsN, List.cons.injEq]
  refine ⟨?_, ?_, ?_, ?_, ?_, trivial⟩ <;> omega
theorem load_2 (x c : Nat) (hx : x < 65536) (hc : c < 256) : limbsN (x + c * 65536) = [x % 67108864 ||| c * 65536 % 67108864, x / 67108864 % 67108864 ||| c * 65536 / 67108864, x / 4503599627370496 % 67108864, x / 302231454903657293676544 % 67108864, x / 20282409603651670423947251286016 % 67108864] := by
  have o1 : x % 67108864 ||| c * 65536 % 67108864 = x % 67108864 + c * 65536 % 67108864 := or_add 16 _ _ (c % 1024) (by omega) (by omega)
  have z : x / 67108864 % 67108864 = 0 := by omega
  have o2 : x / 67108864 % 67108864 ||| c * 65536 / 67108864 = c * 65536 / 67108864 := by rw [z, Nat.zero_or]
  rw [o1, o2]
  simp only [limbsN, List.cons.injEq]
  refine ⟨?_, ?_, ?_, ?_, ?_, trivial⟩ <;> omega
theorem load_3 (x c : Nat) (hx : x < 16777216) (hc : c < 256) : limbsN (x + c * 16777216) = [x % 67108864 ||| c * 16777216 % 67108864, x / 67108864 % 67108864 ||| c * 16777216 / 67108864, x / 4503599627370496 % 67108864, x / 302231454903657293676544 % 67108864, x / 20282409603651670423947251286016 % 67108864] := by
  have o1 : x % 67108864 ||| c * 16777216 % 67108864 = x % 67108864 + c * 16777216 % 67108864 := or_add 24 _ _ (c % 4) (by omega) (by omega)
  have z : x / 67108864 % 67108864 = 0 := by omega
  have o2 : x / 67108864 % 67108864 ||| c * 16777216 / 67108864 = c * 16777216 / 67108864 := by rw [z, Nat.zero_or]
  rw [o1, o2]
  simp only [limbsN, List.cons.injEq]
  refine ⟨?_, ?_, ?_, ?_, ?_, trivial⟩ <;> omega
theorem load_4 (x c : Nat) (hx : x < 4294967296) (hc : c < 256) : limbsN (x + c * 4294967296) = [x % 67108864, x / 67108864 % 67108864 ||| c * 64 % 67108864, x / 4503599627370496 % 67108864 ||| c * 64 / 67108864, x / 302231454903657293676544 % 67108864, x / 20282409603651670423947251286016 % 67108864] := by
  have o1 : x / 67108864 % 67108864 ||| c * 64 % 67108864 = x / 67108864 % 67108864 + c * 64 % 67108864 := or_add 6 _ _ (c % 1048576) (by omega) (by omega)
  have z : x / 4503599627370496 % 67108864 = 0 := by omega
  have o2 : x / 4503599627370496 % 67108864 ||| c * 64 / 67108864 = c * 64 / 67108864 := by rw [z, Nat.zero_or]
  rw [o1, o2]
  simp only [limbsN, List.cons.injEq]
  refine ⟨?_, ?_, ?_, ?_, ?_, trivial⟩ <;> omega
theorem load_5 (x c : Nat) (hx : x < 1099511627776) (hc : c < 256) : limbsN (x + c * 1099511627776) = [x % 67108864, x / 67108864 % 67108864 ||| c * 16384 % 67108864, x / 4503599627370496 % 67108864 ||| c * 16384 / 67108864, x / 302231454903657293676544 % 67108864, x / 20282409603651670423947251286016 % 67108864] := by
  have o1 : x / 67108864 % 67108864 ||| c * 16384 % 67108864 = x / 67108864 % 67108864 + c * 16384 % 67108864 := or_add 14 _ _ (c % 4096) (by omega) (by omega)
  have z : x / 4503599627370496 % 67108864 = 0 := by omega
  have o2 : x / 4503599627370496 % 67108864 ||| c * 16384 / 67108864 = c * 16384 / 67108864 := by rw [z, Nat.zero_or]
  rw [o1, o2]
  simp only [limbsN, List.cons.injEq]
  refine ⟨?_, ?_, ?_, ?_, ?_, trivial⟩ <;> omega
theorem load_6 (x c : Nat) (hx : x < 281474976710656) (hc : c < 256) : limbsN (x + c * 281474976710656) = [x % 67108864, x / 67108864 % 67108864 ||| c * 4194304 % 67108864, x / 4503599627370496 % 67108864 ||| c * 4194304 / 67108864, x / 302231454903657293676544 % 67108864, x / 20282409603651670423947251286016 % 67108864] := by
  have o1 : x / 67108864 % 67108864 ||| c * 4194304 % 67108864 = x / 67108864 % 67108864 + c * 4194304 % 67108864 := or_add 22 _ _ (c % 16) (by omega) (by omega)
  have z : x / 4503599627370496 % 67108864 = 0 := by omega
  have o2 : x / 4503599627370496 % 67108864 ||| c * 4194304 / 67108864 = c * 4194304 / 67108864 := by rw [z, Nat.zero_or]
  rw [o1, o2]
  simp only [limbsN, List.cons.injEq]
  refine ⟨?_, ?_, ?_, ?_, ?_, trivial⟩ <;> omega
theorem load_7 (x c : Nat) (hx : x < 72057594037927936) (hc : c < 256) : limbsN (x + c * 72057594037927936) = [x % 67108864, x / 67108864 % 67108864, x / 4503599627370496 % 67108864 ||| c * 16 % 67108864, x / 302231454903657293676544 % 67108864 ||| c * 16 / 67108864, x / 20282409603651670423947251286016 % 67108864] := by
  have o1 : x / 4503599627370496 % 67108864 ||| c * 16 % 67108864 = x / 4503599627370496 % 67108864 + c * 16 % 67108864 := or_add 4 _ _ (c % 4194304) (by omega) (by omega)
  have z : x / 302231454903657293676544 % 67108864 = 0 := by omega
  have o2 : x / 302231454903657293676544 % 67108864 ||| c * 16 / 67108864 = c * 16 / 67108864 := by rw [z, Nat.zero_or]
  rw [o1, o2]
  simp only [limbsN, List.cons.injEq]
  refine ⟨?_, ?_, ?_, ?_, ?_, trivial⟩ <;> omega
theorem load_8 (x c : Nat) (hx : x < 18446744073709551616) (hc : c < 256) : limbsN (x + c * 18446744073709551616) = [x % 67108864, x / 67108864 % 67108864, x / 4503599627370496 % 67108864 ||| c * 4096 % 67108864, x / 302231454903657293676544 % 67108864 ||| c * 4096 / 67108864, x / 20282409603651670423947251286016 % 67108864] := by
  have o1 : x / 4503599627370496 % 67108864 ||| c * 4096 % 67108864 = x / 4503599627370496 % 67108864 + c * 4096 % 67108864 := or_add 12 _ _ (c % 16384) (by omega) (by omega)
  have z : x / 302231454903657293676544 % 67108864 = 0 := by omega
  have o2 : x / 302231454903657293676544 % 67108864 ||| c * 4096 / 67108864 = c * 4096 / 67108864 := by rw [z, Nat.zero_or]
  rw [o1, o2]
  simp only [limbsN, List.cons.injEq]
  refine ⟨?_, ?_, ?_, ?_, ?_, trivial⟩ <;> omega
theorem load_9 (x c : Nat) (hx : x < 4722366482869645213696) (hc : c < 256) : limbsN (x + c * 4722366482869645213696) = [x % 67108864, x / 67108864 % 67108864, x / 4503599627370496 % 67108864 ||| c * 1048576 % 67108864, x / 302231454903657293676544 % 67108864 ||| c * 1048576 / 67108864, x / 20282409603651670423947251286016 % 67108864] := by
  have o1 : x / 4503599627370496 % 67108864 ||| c * 1048576 % 67108864 = x / 4503599627370496 % 67108864 + c * 1048576 % 67108864 := or_add 20 _ _ (c % 64) (by omega) (by omega)
  have z : x / 302231454903657293676544 % 67108864 = 0 := by omega
  have o2 : x / 302231454903657293676544 % 67108864 ||| c * 1048576 / 67108864 = c * 1048576 / 67108864 := by rw [z, Nat.zero_or]
  rw [o1, o2]
  simp only [limbsN, List.cons.injEq]
  refine ⟨?_, ?_, ?_, ?_, ?_, trivial⟩ <;> omega
theorem load_10 (x c : Nat) (hx : x < 1208925819614629174706176) (hc : c < 256) : limbsN (x + c * 1208925819614629174706176) = [x % 67108864, x / 67108864 % 67108864, x / 4503599627370496 % 67108864, x / 302231454903657293676544 % 67108864 ||| c * 4 % 67108864, x / 20282409603651670423947251286016 % 67108864 ||| c * 4 / 67108864] := by
  have o1 : x / 302231454903657293676544 % 67108864 ||| c * 4 % 67108864 = x / 302231454903657293676544 % 67108864 + c * 4 % 67108864 := or_add 2 _ _ (c % 16777216) (by omega) (by omega)
  have z : x / 20282409603651670423947251286016 % 67108864 = 0 := by omega
  have o2 : x / 20282409603651670423947251286016 % 67108864 ||| c * 4 / 67108864 = c * 4 / 67108864 := by rw [z, Nat.zero_or]
  rw [o1, o2]
  simp only [limbsN, List.cons.injEq]
  refine ⟨?_, ?_, ?_, ?_, ?_, trivial⟩ <;> omega
theorem load_11 (x c : Nat) (hx : x < 309485009821345068724781056) (hc : c < 256) : limbsN (x + c * 309485009821345068724781056) = [x % 67108864, x / 67108864 % 67108864, x / 4503599627370496 % 67108864, x / 302231454903657293676544 % 67108864 ||| c * 1024 % 67108864, x / 20282409603651670423947251286016 % 67108864 ||| c * 1024 / 67108864] := by
  have o1 : x / 302231454903657293676544 % 67108864 ||| c * 1024 % 67108864 = x / 302231454903657293676544 % 67108864 + c * 1024 % 67108864 := or_add 10 _ _ (c % 65536) (by omega) (by omega)
  have z : x / 20282409603651670423947251286016 % 67108864 = 0 := by omega
  have o2 : x / 20282409603651670423947251286016 % 67108864 ||| c * 1024 / 67108864 = c * 1024 / 67108864 := by rw [z, Nat.zero_or]
  rw [o1, o2]
  simp only [limbsN, List.cons.injEq]
  refine ⟨?_, ?_, ?_, ?_, ?_, trivial⟩ <;> omega
theorem load_12 (x c : Nat) (hx : x < 79228162514264337593543950336) (hc : c < 256) : limbsN (x + c * 79228162514264337593543950336) = [x % 67108864, x / 67108864 % 67108864, x / 4503599627370496 % 67108864, x / 302231454903657293676544 % 67108864 ||| c * 262144 % 67108864, x / 20282409603651670423947251286016 % 67108864 ||| c * 262144 / 67108864] := by
  have o1 : x / 302231454903657293676544 % 67108864 ||| c * 262144 % 67108864 = x / 302231454903657293676544 % 67108864 + c * 262144 % 67108864 := or_add 18 _ _ (c % 256) (by omega) (by omega)
  have z : x / 20282409603651670423947251286016 % 67108864 = 0 := by omega
  have o2 : x / 20282409603651670423947251286016 % 67108864 ||| c * 262144 / 67108864 = c * 262144 / 67108864 := by rw [z, Nat.zero_or]
  rw [o1, o2]
  simp only [limbsN, List.cons.injEq]
  refine ⟨?_, ?_, ?_, ?_, ?_, trivial⟩ <;> omega
theorem load_13 (x c : Nat) (hx : x < 20282409603651670423947251286016) (hc : c < 256) : limbsN (x + c * 20282409603651670423947251286016) = [x % 67108864, x / 67108864 % 67108864, x / 4503599627370496 % 67108864, x / 302231454903657293676544 % 67108864, x / 20282409603651670423947251286016 % 67108864 ||| c * 1 % 67108864] := by
  have o1 : x / 20282409603651670423947251286016 % 67108864 ||| c * 1 % 67108864 = x / 20282409603651670423947251286016 % 67108864 + c * 1 % 67108864 := or_add 0 _ _ (c % 67108864) (by omega) (by omega)
  rw [o1]
  simp only [limbsN, List.cons.injEq]
  refine ⟨?_, ?_, ?_, ?_, ?_, trivial⟩ <;> omega
theorem load_14 (x c : Nat) (hx : x < 5192296858534827628530496329220096) (hc : c < 256) : limbsN (x + c * 5192296858534827628530496329220096) = [x % 67108864, x / 67108864 % 67108864, x / 4503599627370496 % 67108864, x / 302231454903657293676544 % 67108864, x / 20282409603651670423947251286016 % 67108864 ||| c * 256 % 67108864] := by
  have o1 : x / 20282409603651670423947251286016 % 67108864 ||| c * 256 % 67108864 = x / 20282409603651670423947251286016 % 67108864 + c * 256 % 67108864 := or_add 8 _ _ (c % 262144) (by omega) (by omega)
  rw [o1]
  simp only [limbsN, List.cons.injEq]
  refine ⟨?_, ?_, ?_, ?_, ?_, trivial⟩ <;> omega
theorem load_15 (x c : Nat) (hx : x < 1329227995784915872903807060280344576) (hc : c < 256) : limbsN (x + c * 1329227995784915872903807060280344576) = [x % 67108864, x / 67108864 % 67108864, x / 4503599627370496 % 67108864, x / 302231454903657293676544 % 67108864, x / 20282409603651670423947251286016 % 67108864 ||| c * 65536 % 67108864] := by
  have o1 : x / 20282409603651670423947251286016 % 67108864 ||| c * 65536 % 67108864 = x / 20282409603651670423947251286016 % 67108864 + c * 65536 % 67108864 := or_add 16 _ _ (c % 1024) (by omega) (by omega)
  rw [o1]
  simp only [limbsN, List.cons.injEq]
  refine ⟨?_, ?_, ?_, ?_, ?_, trivial⟩ <;> omega
theorem load_16 (x c : Nat) (hx : x < 340282366920938463463374607431768211456) (hc : c < 4) : limbsN (x + c * 340282366920938463463374607431768211456) = [x % 67108864, x / 67108864 % 67108864, x / 4503599627370496 % 67108864, x / 302231454903657293676544 % 67108864, x / 20282409603651670423947251286016 % 67108864 ||| c * 16777216 % 67108864] := by
  have o1 : x / 20282409603651670423947251286016 % 67108864 ||| c * 16777216 % 67108864 = x / 20282409603651670423947251286016 % 67108864 + c * 16777216 % 67108864 := or_add 24 _ _ (c % 4) (by omega) (by omega)
  rw [o1]
  simp only [limbsN, List.cons.injEq]
  refine ⟨?_, ?_, ?_, ?_, ?_, trivial⟩ <;> omega

/-- What a round of 'load' lays into limb k, and into the one behind it. -/
def loadStep (q : List Nat) (i c : Nat) : List Nat :=
  let p := q.set (8 * i / 26) (q.getD (8 * i / 26) 0 ||| c * 2 ^ (8 * i % 26) % 67108864)
  if 8 * i / 26 + 1 < 5 then p.set (8 * i / 26 + 1) (p.getD (8 * i / 26 + 1) 0 ||| c * 2 ^ (8 * i % 26) / 67108864) else p
theorem load_step (x c i : Nat) (hi : i < 17) (hx : x < 256 ^ i) (hc : c < 256) (h4 : i = 16 → c < 4) : loadStep (limbsN x) i c = limbsN (x + c * 256 ^ i) := by
  rcases i with _ | _ | _ | _ | _ | _ | _ | _ | _ | _ | _ | _ | _ | _ | _ | _ | _ | i
  · exact (load_0 x c hx hc).symm
  · exact (load_1 x c hx hc).symm
  · exact (load_2 x c hx hc).symm
  · exact (load_3 x c hx hc).symm
  · exact (load_4 x c hx hc).symm
  · exact (load_5 x c hx hc).symm
  · exact (load_6 x c hx hc).symm
  · exact (load_7 x c hx hc).symm
  · exact (load_8 x c hx hc).symm
  · exact (load_9 x c hx hc).symm
  · exact (load_10 x c hx hc).symm
  · exact (load_11 x c hx hc).symm
  · exact (load_12 x c hx hc).symm
  · exact (load_13 x c hx hc).symm
  · exact (load_14 x c hx hc).symm
  · exact (load_15 x c hx hc).symm
  · exact (load_16 x c hx (h4 rfl)).symm
  · omega
theorem limbsN_bd (x : Nat) : Bd 67108863 (limbsN x) := by
  intro j
  rcases j with _ | _ | _ | _ | _ | j <;> simp [limbsN] <;> omega
theorem limbsN_length (x : Nat) : (limbsN x).length = 5 := rfl
theorem limbsN_val (x : Nat) (h : x < 1361129467683753853853498429727072845824) : valN (limbsN x) = x := by
  simp only [limbsN, valN, List.getD_cons_zero, List.getD_cons_succ]
  omega
end Go.Proofs.Ytldjiigkebkgcaa

/- The least number, bytes in limbs, a clamped key: walked. No condition but those each theorem states. -/
namespace Go.Proofs.Ytldjiigkebkgcaa
set_option linter.unusedVariables false
set_option linter.unusedSimpArgs false
open Go.RowKit
attribute [local go_sem ↓] Go.wp_at_zero Go.wp_at_succ

theorem info_num {l : List Nat} (h : l.length = 5) : (Try.prog.info? 110).map (·.size) = some (WN l).size := by rw [WN_size, h]; kernel_rfl
theorem NW.whole {w W W' : World} {g : Nat} {l l' : List Nat} (h : NW w g l W) (hb : W'.heap[g]? = some (.cells (WN l') 110 (0, 0))) (hg : W.grownBy W' (some g)) : NW w g l' W' := ⟨hb, h.hg, ret_number h hg⟩
theorem NW.away {w W W' : World} {g k : Nat} {m : List Nat} (h : NW w k m W) (hne : k ≠ g) (hg : w.heap.size ≤ g) (hgr : W.grownBy W' (some g)) : NW w k m W' where
  b := grown_block hgr (by simp; exact hne) h.b
  hg := h.hg
  bel := h.bel.trans (grown_below hgr h.bel.size (by rintro k ⟨⟩; exact hg))
set_option maxRecDepth 100000 in
set_option maxHeartbeats 2000000 in
theorem nleast_any (n : List Nat) (hn : n.length = 5) (bn : Bd 67108868 n) (w : World) :
    Calls Try.prog 61 #[.agg (WN n)] w fun e w' => e = .returned (.agg (WN (leastL n))) ∧ Below w.heap.size w w' := by
  have HN := Lib.hid hn
  have BN := Lib.hid bn
  have Z5' := Lib.hid zero5
  obtain ⟨t1, ht1⟩ : ∃ t, t = carryL n := ⟨_, rfl⟩
  obtain ⟨t2, ht2⟩ : ∃ t, t = carryL t1 := ⟨_, rfl⟩
  have L1 := Lib.hid (show t1.length = 5 by rw [ht1, carryL_length, hn])
  have L2 := Lib.hid (show t2.length = 5 by rw [ht2, carryL_length, L1.out])
  have D1 := Lib.hid (show Bd 4611686018427387904 t1 by rw [ht1]; exact carryL_bd n hn (bn.mono (by omega)))
  have D2 := Lib.hid (show Bd 67108863 t2 by
    obtain ⟨b0, b1, b2, b3, b4, e, h0, h1, h2, h3, h4⟩ := carryL_small n hn bn
    rw [ht2, ht1, e]
    intro j
    rcases j with _ | _ | _ | _ | _ | j <;> simp <;> omega)
  have T1 := Lib.hid ht1
  have T2 := Lib.hid ht2
  have LE := Lib.hid (show leastL n = if (leastK (t2.set 0 (t2.getD 0 0 + 5)) 4).getD 4 0 / 67108864 = 0 then t2 else (leastK (t2.set 0 (t2.getD 0 0 + 5)) 4).set 4 ((leastK (t2.set 0 (t2.getD 0 0 + 5)) 4).getD 4 0 % 67108864) by rw [ht2, ht1]; rfl)
  clear hn bn ht1 ht2
  go_enter Try.func61, Try.ntmps61
  go_upto_region 1 with fail
  rw [← Z5'.out]
  obtain ⟨w1, hw1⟩ : ∃ w1, w1 = (w.alloc (.cells (WN n) 110)).alloc (.cells (WN Z5) 110) := ⟨_, rfl⟩
  have S1 := Lib.hid (show NW w w.heap.size n w1 ∧ NW w (w.heap.size + 1) Z5 w1 by
    have hb : Below w.heap.size w w1 := by rw [hw1]; exact ((Below.refl _ _).alloc (Nat.le_refl _) _).alloc (by simp) _
    rw [hw1] at hb ⊢
    exact ⟨⟨ha_old _ _ _ (by simp) (ha_new _ _ _ rfl), by omega, hb⟩, ⟨ha_new _ _ _ (by simp), by omega, hb⟩⟩)
  rw [← hw1]
  clear hw1
  go_wp2_with (refine wpList_load_row rfl 110 (.tmp 1) rfl w.heap.size rfl 110 (WN n) (0, 0) _ S1.out.1.b Try.underlying110 rfl (info_num HN.out) ?_)
  refine (ncarry_any n HN.out (BN.out.mono (by omega)) _).mono ?_
  rw [← T1.out]
  rintro e w2 ⟨rfl, hb2⟩
  have S2 := Lib.hid (And.intro (S1.out.1.keep hb2) (S1.out.2.keep hb2))
  clear hb2 S1
  go_wp2_with fail
  refine (ncarry_any t1 L1.out D1.out _).mono ?_
  rw [← T2.out]
  rintro e w3 ⟨rfl, hb3⟩
  have S3 := Lib.hid (And.intro (S2.out.1.keep hb3) (S2.out.2.keep hb3))
  clear hb3 S2
  go_upto_region 2 with (refine wpList_store_whole rfl rfl 110 (.tmp 1) (.tmp 7) rfl w.heap.size (WN t2) rfl rfl 110 _ S3.out.1.b (info_num L2.out) (by rw [WN_size, WN_size, L2.out, HN.out]) (WN_one _) ?_; intro w4 hz4 hg4 hs4)
  have S4 := Lib.hid (show NW w w.heap.size t2 w4 ∧ NW w (w.heap.size + 1) Z5 w4 from ⟨S3.out.1.whole hz4 hg4, S3.out.2.away (by omega) (Nat.le_refl _) hg4⟩)
  clear hz4 hg4 hs4 S3
  go_upto_region 3 with (first
    | (refine wpList_load_row rfl 110 (.tmp 1) rfl w.heap.size rfl 110 (WN t2) (0, 0) _ S4.out.1.b Try.underlying110 rfl (info_num L2.out) ?_)
    | (refine wpList_store_new rfl rfl 110 (.tmp 3) (.tmp 8) rfl (WN t2) rfl rfl (info_num L2.out) ?c1 (WN_one _) ?_))
  case c1 => rw [WN_size, L2.out]; rfl
  obtain ⟨M, hM⟩ : ∃ M, M = w4.heap.size := ⟨_, rfl⟩
  rw [← hM]
  obtain ⟨w5, hw5⟩ : ∃ w5, w5 = w4.alloc (.cells (WN t2) 110) := ⟨_, rfl⟩
  have hbel : Below w4.heap.size w4 w5 := by rw [hw5]; exact (Below.refl _ _).alloc (Nat.le_refl _) _
  have S5 := Lib.hid (show NW w w.heap.size t2 w5 ∧ NW w (w.heap.size + 1) Z5 w5 ∧ NW w M t2 w5 from ⟨S4.out.1.keep hbel, S4.out.2.keep hbel, by rw [hw5]; exact ha_new _ _ _ hM, by rw [hM]; exact S4.out.1.bel.size, (S4.out.1.keep hbel).bel⟩)
  have HM := Lib.hid (show w.heap.size + 1 < M by rw [hM]; exact row_lt S4.out.2.b)
  rw [← hw5]
  clear hbel hw5 hM S4
  obtain ⟨x, hx⟩ : ∃ x, x = t2.getD 0 0 := ⟨_, rfl⟩
  have a1 := row_cell S5.out.2.2.b 0 (WN_get _ 0 (by rw [L2.out]; omega))
  have f1 := row_free S5.out.2.2.b 0
  rw [← hx] at a1
  have b1 : (x : Int) ≤ 67108863 := by have := D2.out 0; omega
  have X := Lib.hid hx
  clear hx
  go_upto_region 4 with fail
  clear a1 f1
  obtain ⟨z, hz⟩ : ∃ z : Nat, z = x + 5 := ⟨_, rfl⟩
  rw [show (x : Int) + 5 = (z : Int) by omega]
  obtain ⟨m, hm0⟩ : ∃ m, m = t2.set 0 z := ⟨_, rfl⟩
  obtain ⟨w6, hw6⟩ : ∃ w6, w6 = w5.setCell ⟨M, 0, none⟩ (.int .u64 (z : Int)) := ⟨_, rfl⟩
  have hm : m = t2.set 0 (x + 5) := by rw [hm0, hz]
  have S6 := Lib.hid (show NW w w.heap.size t2 w6 ∧ NW w (w.heap.size + 1) Z5 w6 ∧ NW w M (leastK m 0) w6 by
    rw [hw6, leastK, hm0]
    have := HM.out
    exact ⟨S5.out.1.other (by omega) (by omega) _ _, S5.out.2.1.other (by omega) (by omega) _ _, S5.out.2.2.set _ _⟩)
  have ML := Lib.hid (show m.length = 5 by rw [hm, List.length_set, L2.out])
  have MB := Lib.hid (show ∀ i, i ≤ 4 → Bd 134217800 (leastK m i) by
    obtain ⟨c0, c1, c2, c3, c4, hc⟩ := list5 t2 L2.out
    rw [hm, X.out, hc]
    have d := D2.out
    rw [hc] at d
    have d0 := d 0
    have d1 := d 1
    have d2 := d 2
    have d3 := d 3
    have d4 := d 4
    simp at d0 d1 d2 d3 d4
    intro i hi j
    rcases i with _ | _ | _ | _ | _ | i
    · rcases j with _ | _ | _ | _ | _ | j <;> simp [leastK] <;> omega
    · rcases j with _ | _ | _ | _ | _ | j <;> simp [leastK] <;> omega
    · rcases j with _ | _ | _ | _ | _ | j <;> simp [leastK] <;> omega
    · rcases j with _ | _ | _ | _ | _ | j <;> simp [leastK] <;> omega
    · rcases j with _ | _ | _ | _ | _ | j <;> simp [leastK] <;> omega
    · omega)
  have MM := Lib.hid (show m = t2.set 0 (t2.getD 0 0 + 5) by rw [hm, X.out])
  rw [← hw6]
  clear hw6 hm hm0 hz S5 b1
  go_wp2_with fail
  go_loopw [13] (fun u wr => ∃ i : Nat, i ≤ 4 ∧ u = .int .i64 (i : Int) ∧ NW w w.heap.size t2 wr ∧ NW w (w.heap.size + 1) Z5 wr ∧ NW w M (leastK m i) wr) (fun u _ => 4 - (intOf u).toNat)
  case atStart => exact ⟨0, by omega, rfl, S6.out⟩
  case round =>
    obtain ⟨i, hi, rfl, hs⟩ := hrel
    have I := Lib.hid hi
    have S7 := Lib.hid hs
    clear hi hs S6
    by_cases hlt : i < 4
    · have hD : decide ((i : Int) < 4) = true := by simp; omega
      obtain ⟨q, hq⟩ : ∃ q, q = leastK m i := ⟨_, rfl⟩
      rw [← hq] at S7
      have QL := Lib.hid (show q.length = 5 by rw [hq, leastK_length, ML.out])
      have QB := Lib.hid (show Bd 134217800 q by rw [hq]; exact MB.out i I.out)
      have QQ := Lib.hid hq
      obtain ⟨x, hx⟩ : ∃ x, x = q.getD i 0 := ⟨_, rfl⟩
      obtain ⟨y, hy⟩ : ∃ y, y = q.getD (i + 1) 0 := ⟨_, rfl⟩
      have hxb : x ≤ 134217800 := by rw [hx]; exact QB.out i
      have hyb : y ≤ 134217800 := by rw [hy]; exact QB.out (i + 1)
      have a1 := row_cell S7.out.2.2.b i (WN_get _ i (by rw [QL.out]; omega))
      have a2 := row_cell S7.out.2.2.b (i + 1) (WN_get _ (i + 1) (by rw [QL.out]; omega))
      have f2 := row_free S7.out.2.2.b (i + 1)
      rw [← hx] at a1
      rw [← hy] at a2
      have X' := Lib.hid hx
      have Y := Lib.hid hy
      have A1 := Lib.hid a1
      have b1 : (i : Int) < 5 := by omega
      have b2 : (i : Int) + 1 < 5 := by omega
      have b0 : (0 : Int) ≤ (i : Int) + 1 := by omega
      have e0 := wrap_i64' ((i : Int) + 1) (by omega)
      have e3 : ((i : Int) + 1).toNat = i + 1 := by omega
      have e2 := wrap_u64 (y + x / 67108864) (by omega)
      rw [Int.natCast_add, Int.natCast_ediv] at e2
      have c26 : ((67108864 : Nat) : Int) = 67108864 := rfl
      rw [c26] at e2
      clear hq hx hy c26
      go_upto_region 7 with fail
      clear a1
      refine wp_region_plan (fun W => W.cell? ⟨M, i, none⟩ = some (.int .u64 (x : Int))) [0, 1, 2, 4, 5, 6, 7] [3, 8, 9, 10] (by kernel_rfl) (by kernel_rfl) (fun _ _ d _ _ h => by cases d <;> exact h) (A1.out) ?_
      simp only [List.filterMap_cons, List.filterMap_nil, List.getElem?_toArray, List.getElem?_cons_zero, List.getElem?_cons_succ]
      refine planQ_cons (v := ?_) (by rfl) ?_ ?_
      rotate_left
      · intro W hW
        go_simp
        with_reducible rfl
      simp only [Act.put, List.setIfInBounds_toArray, List.set_cons_zero, List.set_cons_succ]
      refine planQ_cons (v := ?_) (by rfl) ?_ ?_
      rotate_left
      · intro W hW
        go_simp
        with_reducible rfl
      simp only [Act.put, List.setIfInBounds_toArray, List.set_cons_zero, List.set_cons_succ]
      refine planQ_cons (v := ?_) (by rfl) ?_ ?_
      rotate_left
      · intro W hW
        go_simp
        with_reducible rfl
      simp only [Act.put, List.setIfInBounds_toArray, List.set_cons_zero, List.set_cons_succ]
      refine planQ_cons (v := ?_) (by rfl) ?_ ?_
      rotate_left
      · intro W hW
        go_simp
        with_reducible rfl
      simp only [Act.put, List.setIfInBounds_toArray, List.set_cons_zero, List.set_cons_succ]
      refine planQ_cons (v := ?_) (by rfl) ?_ ?_
      rotate_left
      · intro W hW
        go_simp
        with_reducible rfl
      simp only [Act.put, List.setIfInBounds_toArray, List.set_cons_zero, List.set_cons_succ]
      refine planQ_cons (by rfl) (fun W hW => run_cell 104 (.tmp 21) rfl _ Try.underlying104 rfl rfl hW) ?_
      simp only [Act.put, List.setIfInBounds_toArray, List.set_cons_zero, List.set_cons_succ]
      refine planQ_cons (v := ?_) (by rfl) ?_ ?_
      rotate_left
      · intro W hW
        go_simp
        with_reducible rfl
      simp only [Act.put, List.setIfInBounds_toArray, List.set_cons_zero, List.set_cons_succ]
      refine planQ_nil ?_
      refine planT_val (by rfl) (A1.out) (run_cell 104 (.tmp 18) rfl _ Try.underlying104 rfl rfl a2) ?_
      simp only [Act.put, List.setIfInBounds_toArray, List.set_cons_zero, List.set_cons_succ]
      refine planT_val (v := ?_) (by rfl) (A1.out) ?_ ?_
      rotate_left
      · go_simp
        with_reducible rfl
      simp only [Act.put, List.setIfInBounds_toArray, List.set_cons_zero, List.set_cons_succ]
      refine planT_val (v := ?_) (by rfl) (A1.out) ?_ ?_
      rotate_left
      · go_simp
        with_reducible rfl
      simp only [Act.put, List.setIfInBounds_toArray, List.set_cons_zero, List.set_cons_succ]
      refine planT_cons (by rfl) (fun K hK => ?_)
      go_simp
      obtain ⟨p, hp⟩ : ∃ p, p = q.set (i + 1) (y + x / 67108864) := ⟨_, rfl⟩
      rw [show (y : Int) + (x : Int) / 67108864 = ((y + x / 67108864 : Nat) : Int) by omega]
      have S8 := Lib.hid (show NW w w.heap.size t2 (wr.setCell ⟨M, i + 1, none⟩ (.int .u64 ((y + x / 67108864 : Nat) : Int))).drew ∧ NW w (w.heap.size + 1) Z5 (wr.setCell ⟨M, i + 1, none⟩ (.int .u64 ((y + x / 67108864 : Nat) : Int))).drew ∧ NW w M p (wr.setCell ⟨M, i + 1, none⟩ (.int .u64 ((y + x / 67108864 : Nat) : Int))).drew by
        have := HM.out
        rw [hp]
        exact ⟨(S7.out.1.other (by omega) (by omega) _ _).drew, (S7.out.2.1.other (by omega) (by omega) _ _).drew, (S7.out.2.2.set _ _).drew⟩)
      have PL := Lib.hid (show p.length = 5 by rw [hp, List.length_set, QL.out])
      have PX := Lib.hid (show p.getD i 0 = x by rw [hp, getD_set, if_neg (by omega), X'.out])
      have PP := Lib.hid hp
      clear hp
      have A2 := row_cell S8.out.2.2.b i (WN_get _ i (by rw [PL.out]; omega))
      rw [PX.out] at A2
      refine hK.out _ _ (A2) ?_
      clear hK K
      refine planT_nil ?_
      obtain ⟨w8, hw8⟩ : ∃ w8, w8 = (wr.setCell ⟨M, i + 1, none⟩ (.int .u64 ((y + x / 67108864 : Nat) : Int))).drew := ⟨_, rfl⟩
      rw [← hw8] at S8 A2 ⊢
      clear hw8 a2 f2 e0 e2 e3
      have f1 := row_free S8.out.2.2.b i
      have e1 := mask26 x (by omega)
      go_wp2_with fail
      go_roundw
      case rel =>
        refine ⟨i + 1, by omega, by go_num, ?_⟩
        have := HM.out
        rw [show (x : Int) % 67108864 = ((x % 67108864 : Nat) : Int) by omega]
        rw [leastK, ← QQ.out, ← X'.out, ← Y.out, ← PP.out]
        exact ⟨S8.out.1.other (by omega) (by omega) _ _, S8.out.2.1.other (by omega) (by omega) _ _, S8.out.2.2.set _ _⟩
      case measure => simp [intOf]; omega
    · have hi : Hid (i = 4) := show i = 4 by have := I.out; omega
      have hD : decide ((i : Int) < 4) = false := by simp; omega
      obtain ⟨q, hq⟩ : ∃ q, q = leastK m 4 := ⟨_, rfl⟩
      have S8 := Lib.hid (show NW w w.heap.size t2 wr ∧ NW w (w.heap.size + 1) Z5 wr ∧ NW w M q wr by have := S7.out; rw [hi.out, ← hq] at this; exact this)
      have QL := Lib.hid (show q.length = 5 by rw [hq, leastK_length, ML.out])
      have QB := Lib.hid (show Bd 134217800 q by rw [hq]; exact MB.out 4 (by omega))
      obtain ⟨y, hy⟩ : ∃ y, y = q.getD 4 0 := ⟨_, rfl⟩
      have hyb : y ≤ 134217800 := by rw [hy]; exact QB.out 4
      have LF := Lib.hid (show leastL n = if y / 67108864 = 0 then t2 else q.set 4 (y % 67108864) by rw [LE.out, ← MM.out, ← hq, ← hy])
      have a1 := row_cell S8.out.2.2.b 4 (WN_get _ 4 (by rw [QL.out]; omega))
      have f1 := row_free S8.out.2.2.b 4
      rw [← hy] at a1
      have e1 := mask26 y (by omega)
      clear hq hy S7
      by_cases hc : y / 67108864 = 0
      · have hE : ((y : Int) / 67108864 == 0) = true := by simp; omega
        go_wp2_with (first
          | (refine wpList_load_row rfl 110 (.tmp 1) rfl w.heap.size rfl 110 (WN t2) (0, 0) _ S8.out.1.b Try.underlying110 rfl (info_num L2.out) ?_)
          | (refine wpList_store_whole rfl rfl 110 (.tmp 2) (.tmp 36) rfl (w.heap.size + 1) (WN t2) rfl rfl 110 _ S8.out.2.1.b (info_num L2.out) (by rw [WN_size, WN_size, L2.out]; rfl) (WN_one _) ?_; intro w8 hz8 hg8 _))
        exact bodyPost_ret (results_cell_row rfl _ _ (w.heap.size + 1) 110 (WN t2) (0, 0) _ rfl hz8 Try.underlying110 rfl (info_num L2.out)) rfl ⟨by rw [LF.out, if_pos hc], ret_number S8.out.2.1 hg8⟩
      · have hE : ((y : Int) / 67108864 == 0) = false := by simp; omega
        go_upto_region 13 with fail
        clear a1 f1 e1 hE
        rw [show (y : Int) % 67108864 = ((y % 67108864 : Nat) : Int) by omega]
        obtain ⟨p, hp⟩ : ∃ p, p = q.set 4 (y % 67108864) := ⟨_, rfl⟩
        obtain ⟨w9, hw9⟩ : ∃ w9, w9 = wr.setCell ⟨M, 4, none⟩ (.int .u64 ((y % 67108864 : Nat) : Int)) := ⟨_, rfl⟩
        have S9 := Lib.hid (show NW w (w.heap.size + 1) Z5 w9 ∧ NW w M p w9 by
          have := HM.out
          rw [hw9, hp]
          exact ⟨S8.out.2.1.other (by omega) (by omega) _ _, S8.out.2.2.set _ _⟩)
        rw [← hw9]
        have PL := Lib.hid (show p.length = 5 by rw [hp, List.length_set, QL.out])
        have PP := Lib.hid hp
        clear hw9 hp S8
        go_wp2_with (first
          | (refine wpList_load_row rfl 110 (.tmp 3) rfl M rfl 110 (WN p) (0, 0) _ S9.out.2.b Try.underlying110 rfl (info_num PL.out) ?_)
          | (refine wpList_store_whole rfl rfl 110 (.tmp 2) (.tmp 41) rfl (w.heap.size + 1) (WN p) rfl rfl 110 _ S9.out.1.b (info_num PL.out) (by rw [WN_size, WN_size, PL.out]; rfl) (WN_one _) ?_; intro w8 hz8 hg8 _))
        exact bodyPost_ret (results_cell_row rfl _ _ (w.heap.size + 1) 110 (WN p) (0, 0) _ rfl hz8 Try.underlying110 rfl (info_num PL.out)) rfl ⟨by rw [LF.out, if_neg hc, PP.out], ret_number S9.out.1 hg8⟩
end Go.Proofs.Ytldjiigkebkgcaa

/- Bytes in limbs, a clamped key: walked. No condition but those each theorem states. -/
namespace Go.Proofs.Ytldjiigkebkgcaa
set_option linter.unusedVariables false
set_option linter.unusedSimpArgs false
open Go.RowKit
attribute [local go_sem ↓] Go.wp_at_zero Go.wp_at_succ

theorem or64 (x y : Nat) (hx : x < 18446744073709551616) (hy : y < 18446744073709551616) : bits .or .u64 (x : Int) (y : Int) = ((x ||| y : Nat) : Int) := u64_or_nat x y hx hy
set_option maxRecDepth 100000 in
set_option maxHeartbeats 2000000 in
theorem nload_any (A : Option Addr) (n c : Nat) (l : List UInt8) (hn : l.length = n) (h17 : n ≤ 17) (h4 : n = 17 → (l.getD 16 0).toNat < 4) (w : World) (hR : RdB w A l) :
    Calls Try.prog 58 #[.slice A n c] w fun e w' => e = .returned (.agg (WN (limbsN (leNat l)))) ∧ Below w.heap.size w w' := by
  have HN := Lib.hid hn
  have H4 := Lib.hid h4
  have HR := Lib.hid hR
  have Z5' := Lib.hid zero5
  clear hn h4 hR
  go_enter Try.func58, Try.ntmps58
  go_wp2_with fail
  rw [← Z5'.out]
  obtain ⟨w1, hw1⟩ : ∃ w1, w1 = (w.alloc (.cells (WN Z5) 110)).alloc (.cells (WN Z5) 110) := ⟨_, rfl⟩
  have S1 := Lib.hid (show NW w w.heap.size Z5 w1 ∧ NW w (w.heap.size + 1) (limbsN (leNat (l.take 0))) w1 by
    have hb : Below w.heap.size w w1 := by rw [hw1]; exact ((Below.refl _ _).alloc (Nat.le_refl _) _).alloc (by simp) _
    rw [hw1] at hb ⊢
    rw [show limbsN (leNat (l.take 0)) = Z5 by rw [List.take_zero]; rfl]
    exact ⟨⟨ha_old _ _ _ (by simp) (ha_new _ _ _ rfl), by omega, hb⟩, ⟨ha_new _ _ _ (by simp), by omega, hb⟩⟩)
  rw [← hw1]
  clear hw1
  go_loopw [12] (fun u wr => ∃ i : Nat, i ≤ n ∧ u = .int .i64 (i : Int) ∧ NW w w.heap.size Z5 wr ∧ NW w (w.heap.size + 1) (limbsN (leNat (l.take i))) wr) (fun u _ => n - (intOf u).toNat)
  case atStart => exact ⟨0, by omega, rfl, S1.out⟩
  case round =>
    obtain ⟨i, hi, rfl, hs⟩ := hrel
    have I := Lib.hid hi
    have S2 := Lib.hid hs
    clear hi hs S1
    by_cases hlt : i < n
    · have hD : decide ((i : Int) < (n : Int)) = true := by simp; omega
      obtain ⟨X, hX⟩ : ∃ X, X = leNat (l.take i) := ⟨_, rfl⟩
      rw [← hX] at S2
      have XX := Lib.hid hX
      have XB := Lib.hid (show X < 256 ^ i by rw [hX]; have := leNat_lt (l.take i); rw [List.length_take, HN.out, Nat.min_eq_left (by omega)] at this; exact this)
      obtain ⟨b, o, rfl, y, hy, hcell⟩ := (HR.out.keep S2.out.1.bel).get i (by rw [HN.out]; exact hlt)
      obtain ⟨k, hk⟩ : ∃ k, k = 8 * i / 26 := ⟨_, rfl⟩
      obtain ⟨s, hs⟩ : ∃ s, s = 8 * i % 26 := ⟨_, rfl⟩
      have i17 : i < 17 := by omega
      have b1 : (i : Int) ≤ 16 := by omega
      have e1 : 8 * (i : Int) / 26 = (k : Int) := by omega
      have e2 : 8 * (i : Int) % 26 = (s : Int) := by omega
      have k4 : k < 5 := by omega
      have s26 : s < 26 := by omega
      have K := Lib.hid hk
      have S := Lib.hid hs
      obtain ⟨V, hV⟩ : ∃ V, V = y.toNat * 2 ^ s := ⟨_, rfl⟩
      have yb := y.toNat_lt
      have sp : 2 ^ s ≤ 2 ^ 25 := Nat.pow_le_pow_right (by omega) (by omega)
      have vb : V ≤ 8589934592 := by rw [hV]; have := Nat.mul_le_mul (show y.toNat ≤ 256 by omega) sp; omega
      have e3 : IntKind.u64.wrap (y.toNat : Int) = (y.toNat : Int) := wrap_u64 _ (by omega)
      have e4 : IntKind.u64.wrap ((y.toNat : Int) * 2 ^ s) = (V : Int) := by
        have : ((y.toNat : Int) * 2 ^ s) = (V : Int) := by rw [hV, Int.natCast_mul, Int.natCast_pow]; rfl
        rw [this]; exact wrap_u64 _ (by omega)
      have VV := Lib.hid hV
      have E1 := Lib.hid e1
      have E2 := Lib.hid e2
      clear hX hk hs hV sp yb
      go_upto_region 8 with fail
      rw [E1.out, E2.out]
      clear hcell e1 e2 e3 e4
      obtain ⟨q, hq⟩ : ∃ q, q = limbsN X := ⟨_, rfl⟩
      rw [← hq] at S2
      have QL := Lib.hid (show q.length = 5 by rw [hq]; rfl)
      have QB := Lib.hid (show Bd 67108863 q by rw [hq]; exact limbsN_bd X)
      obtain ⟨x, hx⟩ : ∃ x, x = q.getD k 0 := ⟨_, rfl⟩
      have xb : x ≤ 67108863 := by rw [hx]; exact QB.out k
      have a1 := row_cell S2.out.2.b k (WN_get _ k (by rw [QL.out]; omega))
      have f1 := row_free S2.out.2.b k
      rw [← hx] at a1
      obtain ⟨P, hP⟩ : ∃ P, P = x ||| V % 67108864 := ⟨_, rfl⟩
      have e5 : bits .or .u64 (x : Int) ((V : Int) % 67108864) = (P : Int) := by
        have h := or64 x (V % 67108864) (by omega) (by omega)
        rw [← hP] at h
        rw [← h]
        rfl
      have e6 := mask26 V (by omega)
      have b2 : (k : Int) < 5 := by omega
      have Q := Lib.hid hq
      have XQ := Lib.hid hx
      have PP := Lib.hid hP
      clear hq hx hP
      go_upto_region 9 with fail
      clear a1 f1 e5 e6
      obtain ⟨p, hp⟩ : ∃ p, p = q.set k P := ⟨_, rfl⟩
      obtain ⟨w2, hw2⟩ : ∃ w2, w2 = wr.setCell ⟨w.heap.size + 1, k, none⟩ (.int .u64 (P : Int)) := ⟨_, rfl⟩
      have S3 := Lib.hid (show NW w w.heap.size Z5 w2 ∧ NW w (w.heap.size + 1) p w2 by rw [hw2, hp]; exact ⟨S2.out.1.other (by omega) (by omega) _ _, S2.out.2.set _ _⟩)
      rw [← hw2]
      have PL := Lib.hid (show p.length = 5 by rw [hp, List.length_set, QL.out])
      have PS := Lib.hid hp
      have LS := Lib.hid (show limbsN (leNat (l.take (i + 1))) = if k + 1 < 5 then p.set (k + 1) (p.getD (k + 1) 0 ||| V / 67108864) else p by
        have h := load_step X y.toNat i i17 XB.out y.toNat_lt (fun e => by have := H4.out (by omega); rw [e] at hy; rw [hy.out]; exact this)
        rw [leNat_snoc l i (by rw [HN.out]; exact hlt), ← XX.out, ← hy.out, ← h, loadStep, ← K.out, ← S.out, ← Q.out, ← VV.out, ← XQ.out, ← PP.out, ← PS.out])
      clear hw2 hp
      by_cases h5 : k + 1 < 5
      · have hE : decide ((k : Int) + 1 < 5) = true := by simp; omega
        obtain ⟨z, hz⟩ : ∃ z, z = p.getD (k + 1) 0 := ⟨_, rfl⟩
        have zb : z ≤ 67108863 := by rw [hz, PS.out, getD_set, if_neg (by omega)]; exact QB.out _
        have a2 := row_cell S3.out.2.b (k + 1) (WN_get _ (k + 1) (by rw [PL.out]; exact h5))
        have f2 := row_free S3.out.2.b (k + 1)
        rw [← hz] at a2
        obtain ⟨R, hRr⟩ : ∃ R, R = z ||| V / 67108864 := ⟨_, rfl⟩
        have e5 : bits .or .u64 (z : Int) ((V : Int) / 67108864) = (R : Int) := by
          have h := or64 z (V / 67108864) (by omega) (by omega)
          rw [← hRr] at h
          rw [← h]
          rfl
        have b3 : (k : Int) + 1 < 5 := by omega
        have e7 : ((k : Int) + 1).toNat = k + 1 := by omega
        have ZZ := Lib.hid hz
        have RR := Lib.hid hRr
        clear hz hRr
        go_wp2_with fail
        go_roundw
        case rel =>
          refine ⟨i + 1, by omega, by go_num, ?_⟩
          rw [LS.out, if_pos h5, ← ZZ.out, ← RR.out]
          exact ⟨S3.out.1.other (by omega) (by omega) _ _, S3.out.2.set _ _⟩
        case measure => simp [intOf]; omega
      · have hE : decide ((k : Int) + 1 < 5) = false := by simp; omega
        go_wp2_with fail
        go_roundw
        case rel =>
          refine ⟨i + 1, by omega, by go_num, ?_⟩
          rw [LS.out, if_neg h5]
          exact S3.out
        case measure => simp [intOf]; omega
    · have hi : Hid (i = n) := show i = n by have := I.out; omega
      have hD : decide ((i : Int) < (n : Int)) = false := by simp; omega
      obtain ⟨L, hL⟩ : ∃ L, L = limbsN (leNat (l.take i)) := ⟨_, rfl⟩
      rw [← hL] at S2
      have LL := Lib.hid (show L.length = 5 by rw [hL]; rfl)
      have HLL := Lib.hid (show L = limbsN (leNat l) by rw [hL, hi.out, ← HN.out, List.take_length])
      clear hL
      go_wp2_with (first
        | (refine wpList_load_row rfl 110 (.tmp 3) rfl (w.heap.size + 1) rfl 110 (WN L) (0, 0) _ S2.out.2.b Try.underlying110 rfl (info_num LL.out) ?_)
        | (refine wpList_store_whole rfl rfl 110 (.tmp 2) (.tmp 46) rfl w.heap.size (WN L) rfl rfl 110 _ S2.out.1.b (info_num LL.out) (by rw [WN_size, WN_size, LL.out]; rfl) (WN_one _) ?_; intro w8 hz8 hg8 _))
      exact bodyPost_ret (results_cell_row rfl _ _ w.heap.size 110 (WN L) (0, 0) _ rfl hz8 Try.underlying110 rfl (info_num LL.out)) rfl ⟨by rw [HLL.out], ret_number S2.out.1 hg8⟩
end Go.Proofs.Ytldjiigkebkgcaa

/- The tag of a text, plain. No condition but those each theorem states. -/
namespace Go.Proofs.Ytldjiigkebkgcaa
set_option linter.unusedVariables false
set_option linter.unusedSimpArgs false
open Go.RowKit

/-! ### a clamped key -/
def clampK (b : List UInt8) : Nat → List UInt8
  | 0 => b
  | t + 1 =>
    let q := (clampK b t).set (3 + 4 * t) ((clampK b t).getD (3 + 4 * t) 0 &&& 15)
    if 3 + 4 * t + 1 < 16 then q.set (3 + 4 * t + 1) (q.getD (3 + 4 * t + 1) 0 &&& 252) else q
theorem clampK_length (b : List UInt8) (t : Nat) : (clampK b t).length = b.length := by
  induction t with
  | zero => rfl
  | succ t ih => rw [clampK]; split <;> simp [ih]
def clampL (b : List UInt8) : List UInt8 := clampK b 4
theorem clampL_length (b : List UInt8) : (clampL b).length = b.length := clampK_length b 4
theorem list16 : ∀ (v : List UInt8), v.length = 16 → ∃ a b c d e f g h i j k l m n o p, v = [a, b, c, d, e, f, g, h, i, j, k, l, m, n, o, p]
  | [a, b, c, d, e, f, g, h, i, j, k, l, m, n, o, p], _ => ⟨a, b, c, d, e, f, g, h, i, j, k, l, m, n, o, p, rfl⟩
theorem clampL_form (a b c d e f g h i j k l m n o p : UInt8) : clampL [a, b, c, d, e, f, g, h, i, j, k, l, m, n, o, p] = [a, b, c, d &&& 15, e &&& 252, f, g, h &&& 15, i &&& 252, j, k, l &&& 15, m &&& 252, n, o, p &&& 15] := rfl
theorem clampL_twice (b : List UInt8) (h : b.length = 16) : clampL (clampL b) = clampL b := by
  obtain ⟨a, b, c, d, e, f, g, h, i, j, k, l, m, n, o, p, rfl⟩ := list16 b h
  rw [clampL_form, clampL_form]
  simp only [UInt8.and_assoc, show (15 : UInt8) &&& 15 = 15 from rfl, show (252 : UInt8) &&& 252 = 252 from rfl]
theorem leNat_lt16 (b : List UInt8) (h : b.length = 16) : leNat b < 340282366920938463463374607431768211456 := by
  have := leNat_lt b
  rw [h] at this
  exact this
/-! ### the text -/
/-- All parts of 16 bytes, each with a byte 1. -/
def polyF (r : Nat) : Nat → Nat → List UInt8 → Nat
  | 0, a, _ => a
  | f + 1, a, l => if l = [] then a else polyF r f ((a + leNat (l.take 16 ++ [1])) * r % PN) (l.drop 16)
theorem polyF_more (r : Nat) : ∀ (f g a : Nat) (l : List UInt8), l.length ≤ f → l.length ≤ g → polyF r f a l = polyF r g a l
  | 0, 0, a, l, _, _ => rfl
  | 0, g + 1, a, l, h, _ => by
    obtain rfl : l = [] := List.eq_nil_of_length_eq_zero (by omega)
    rw [polyF, polyF, if_pos rfl]
  | f + 1, 0, a, l, _, h => by
    obtain rfl : l = [] := List.eq_nil_of_length_eq_zero (by omega)
    rw [polyF, polyF, if_pos rfl]
  | f + 1, g + 1, a, l, h, h' => by
    rw [polyF, polyF]
    split
    · rfl
    · rename_i h0
      have := List.length_pos_iff.2 h0
      exact polyF_more r f g _ _ (by rw [List.length_drop]; omega) (by rw [List.length_drop]; omega)
def polyA (r a : Nat) (l : List UInt8) : Nat := polyF r l.length a l
theorem polyA_nil (r a : Nat) : polyA r a [] = a := rfl
theorem polyA_cons (r a : Nat) (l : List UInt8) (h : l ≠ []) : polyA r a l = polyA r ((a + leNat (l.take 16 ++ [1])) * r % PN) (l.drop 16) := by
  have := List.length_pos_iff.2 h
  unfold polyA
  obtain ⟨n, hn⟩ : ∃ n, l.length = n + 1 := ⟨l.length - 1, by omega⟩
  rw [hn, polyF, if_neg h]
  exact polyF_more r n _ _ _ (by rw [List.length_drop]; omega) (Nat.le_refl _)
theorem polyA_zero (a : Nat) : ∀ (n : Nat) (l : List UInt8), l.length ≤ n → polyA 0 0 l = 0
  | 0, l, h => by
    obtain rfl : l = [] := List.eq_nil_of_length_eq_zero (by omega)
    rfl
  | n + 1, l, h => by
    by_cases h0 : l = []
    · subst h0; rfl
    · have := List.length_pos_iff.2 h0
      rw [polyA_cons 0 0 l h0, Nat.mul_zero, Nat.zero_mod]
      exact polyA_zero a n _ (by rw [List.length_drop]; omega)
/-! ### the tag -/
/-- Sixteen bytes of a number, the lowest first. -/
def bytesN (x : Nat) : List UInt8 := (List.range 16).map fun j => UInt8.ofNat (x / 256 ^ j)
theorem bytesN_length (x : Nat) : (bytesN x).length = 16 := by simp [bytesN]
theorem bytesN_get (x j : Nat) (h : j < 16) : (bytesN x).getD j 0 = UInt8.ofNat (x / 256 ^ j) := by
  rw [bytesN, List.getD_eq_getElem?_getD, List.getElem?_map, List.getElem?_range h]
  rfl
/-- What the tag is, as a number (of which sixteen bytes are told). -/
def tagN (x : Nat) (s : List UInt8) : Nat := x % 340282366920938463463374607431768211456 + leNat s
/-- .. of the first i bytes. -/
def tagK (x : Nat) (s : List UInt8) (i : Nat) : Nat := x % 256 ^ i + leNat (s.take i)
theorem tagK_all (x : Nat) (s : List UInt8) (h : s.length = 16) : tagK x s 16 = tagN x s := by
  unfold tagK tagN
  rw [List.take_of_length_le (by omega)]
theorem tagK_step (x : Nat) (s : List UInt8) (i : Nat) (hi : i < s.length) : tagK x s (i + 1) = tagK x s i + (x / 256 ^ i % 256 + (s.getD i 0).toNat) * 256 ^ i := by
  unfold tagK
  rw [leNat_snoc s i hi, Nat.pow_succ, Nat.mod_mul, Nat.add_mul, Nat.mul_comm (256 ^ i) (x / 256 ^ i % 256)]
  omega
theorem tagK_div (x : Nat) (s : List UInt8) (i : Nat) (hi : i < s.length) : tagK x s (i + 1) / 256 ^ i = tagK x s i / 256 ^ i + (x / 256 ^ i % 256 + (s.getD i 0).toNat) := by
  rw [tagK_step x s i hi, Nat.add_mul_div_right _ _ (Nat.pow_pos (by omega))]
theorem tagK_next (x : Nat) (s : List UInt8) (i : Nat) (hi : i < s.length) : tagK x s (i + 1) / 256 ^ (i + 1) = (tagK x s i / 256 ^ i + (x / 256 ^ i % 256 + (s.getD i 0).toNat)) / 256 := by
  rw [← tagK_div x s i hi, Nat.div_div_eq_div_mul, Nat.pow_succ]
/-- A byte of the tag hangs on the bytes up to it. -/
theorem tagK_byte (x : Nat) (s : List UInt8) (i : Nat) : ∀ (j : Nat), i < j → j ≤ s.length → tagK x s j / 256 ^ i % 256 = tagK x s (i + 1) / 256 ^ i % 256
  | 0, h, _ => by omega
  | j + 1, h, hl => by
    by_cases e : j = i
    · rw [e]
    · rw [← tagK_byte x s i j (by omega) (by omega), tagK_step x s j (by omega)]
      obtain ⟨k, hk⟩ : ∃ k, j = i + (k + 1) := ⟨j - i - 1, by omega⟩
      obtain ⟨q, hq⟩ : ∃ q, q = x / 256 ^ j % 256 + (s.getD j 0).toNat := ⟨_, rfl⟩
      rw [← hq, hk, Nat.pow_add, Nat.pow_succ, show q * (256 ^ i * (256 ^ k * 256)) = 256 ^ i * (q * 256 ^ k * 256) by rw [Nat.mul_left_comm, Nat.mul_assoc], Nat.add_mul_div_left _ _ (Nat.pow_pos (by omega)), Nat.add_mul_mod_self_right]
theorem tag_byte (x : Nat) (s : List UInt8) (h : s.length = 16) (i : Nat) (hi : i < 16) : (bytesN (tagN x s)).getD i 0 = UInt8.ofNat (tagK x s i / 256 ^ i + (x / 256 ^ i % 256 + (s.getD i 0).toNat)) := by
  rw [bytesN_get _ _ hi, ← tagK_all x s h, ← tagK_div x s i (by omega)]
  apply UInt8.toNat_inj.1
  simp only [UInt8.toNat_ofNat', Nat.reducePow]
  exact tagK_byte x s i 16 (by omega) (by omega)
theorem tagK_small (x : Nat) (s : List UInt8) (i : Nat) (hi : i ≤ s.length) : tagK x s i / 256 ^ i ≤ 1 := by
  have h1 : x % 256 ^ i < 256 ^ i := Nat.mod_lt _ (Nat.pow_pos (by omega))
  have h2 := leNat_lt (s.take i)
  rw [List.length_take, Nat.min_eq_left hi] at h2
  have h3 : tagK x s i < 256 ^ i * 2 := by unfold tagK; omega
  have := Nat.div_lt_of_lt_mul h3
  omega
/-- The tag of a text. -/
def polyL (key b : List UInt8) : List UInt8 := bytesN (tagN (polyA (leNat (clampL (key.take 16))) 0 b) (key.drop 16))
theorem polyL_length (key b : List UInt8) : (polyL key b).length = 16 := bytesN_length _
/-! ### the bytes out of the limbs -/
theorem out_0 (x : Nat) : ((x % 67108864) / 1 ||| (x / 67108864 % 67108864) * 67108864) % 256 = x / 1 % 256 := by
  rw [or_add 26 _ _ (x / 67108864 % 67108864) (by omega) (by omega)]
  omega
theorem out_1 (x : Nat) : ((x % 67108864) / 256 ||| (x / 67108864 % 67108864) * 262144) % 256 = x / 256 % 256 := by
  rw [or_add 18 _ _ (x / 67108864 % 67108864) (by omega) (by omega)]
  omega
theorem out_2 (x : Nat) : ((x % 67108864) / 65536 ||| (x / 67108864 % 67108864) * 1024) % 256 = x / 65536 % 256 := by
  rw [or_add 10 _ _ (x / 67108864 % 67108864) (by omega) (by omega)]
  omega
theorem out_3 (x : Nat) : ((x % 67108864) / 16777216 ||| (x / 67108864 % 67108864) * 4) % 256 = x / 16777216 % 256 := by
  rw [or_add 2 _ _ (x / 67108864 % 67108864) (by omega) (by omega)]
  omega
theorem out_4 (x : Nat) : ((x / 67108864 % 67108864) / 64 ||| (x / 4503599627370496 % 67108864) * 1048576) % 256 = x / 4294967296 % 256 := by
  rw [or_add 20 _ _ (x / 4503599627370496 % 67108864) (by omega) (by omega)]
  omega
theorem out_5 (x : Nat) : ((x / 67108864 % 67108864) / 16384 ||| (x / 4503599627370496 % 67108864) * 4096) % 256 = x / 1099511627776 % 256 := by
  rw [or_add 12 _ _ (x / 4503599627370496 % 67108864) (by omega) (by omega)]
  omega
theorem out_6 (x : Nat) : ((x / 67108864 % 67108864) / 4194304 ||| (x / 4503599627370496 % 67108864) * 16) % 256 = x / 281474976710656 % 256 := by
  rw [or_add 4 _ _ (x / 4503599627370496 % 67108864) (by omega) (by omega)]
  omega
theorem out_7 (x : Nat) : ((x / 4503599627370496 % 67108864) / 16 ||| (x / 302231454903657293676544 % 67108864) * 4194304) % 256 = x / 72057594037927936 % 256 := by
  rw [or_add 22 _ _ (x / 302231454903657293676544 % 67108864) (by omega) (by omega)]
  omega
theorem out_8 (x : Nat) : ((x / 4503599627370496 % 67108864) / 4096 ||| (x / 302231454903657293676544 % 67108864) * 16384) % 256 = x / 18446744073709551616 % 256 := by
  rw [or_add 14 _ _ (x / 302231454903657293676544 % 67108864) (by omega) (by omega)]
  omega
theorem out_9 (x : Nat) : ((x / 4503599627370496 % 67108864) / 1048576 ||| (x / 302231454903657293676544 % 67108864) * 64) % 256 = x / 4722366482869645213696 % 256 := by
  rw [or_add 6 _ _ (x / 302231454903657293676544 % 67108864) (by omega) (by omega)]
  omega
theorem out_10 (x : Nat) : ((x / 302231454903657293676544 % 67108864) / 4 ||| (x / 20282409603651670423947251286016 % 67108864) * 16777216) % 256 = x / 1208925819614629174706176 % 256 := by
  rw [or_add 24 _ _ (x / 20282409603651670423947251286016 % 67108864) (by omega) (by omega)]
  omega
theorem out_11 (x : Nat) : ((x / 302231454903657293676544 % 67108864) / 1024 ||| (x / 20282409603651670423947251286016 % 67108864) * 65536) % 256 = x / 309485009821345068724781056 % 256 := by
  rw [or_add 16 _ _ (x / 20282409603651670423947251286016 % 67108864) (by omega) (by omega)]
  omega
theorem out_12 (x : Nat) : ((x / 302231454903657293676544 % 67108864) / 262144 ||| (x / 20282409603651670423947251286016 % 67108864) * 256) % 256 = x / 79228162514264337593543950336 % 256 := by
  rw [or_add 8 _ _ (x / 20282409603651670423947251286016 % 67108864) (by omega) (by omega)]
  omega
theorem out_13 (x : Nat) : ((x / 20282409603651670423947251286016 % 67108864) / 1) % 256 = x / 20282409603651670423947251286016 % 256 := by
  omega
theorem out_14 (x : Nat) : ((x / 20282409603651670423947251286016 % 67108864) / 256) % 256 = x / 5192296858534827628530496329220096 % 256 := by
  omega
theorem out_15 (x : Nat) : ((x / 20282409603651670423947251286016 % 67108864) / 65536) % 256 = x / 1329227995784915872903807060280344576 % 256 := by
  omega
/-- What a round tells of the limbs, before the mask. -/
def outV (q : List Nat) (i : Nat) : Nat :=
  if 8 * i / 26 + 1 < 5 then q.getD (8 * i / 26) 0 / 2 ^ (8 * i % 26) ||| q.getD (8 * i / 26 + 1) 0 * 2 ^ (26 - 8 * i % 26) else q.getD (8 * i / 26) 0 / 2 ^ (8 * i % 26)
theorem outV_byte (x i : Nat) (hi : i < 16) : outV (limbsN x) i % 256 = x / 256 ^ i % 256 := by
  rcases i with _ | _ | _ | _ | _ | _ | _ | _ | _ | _ | _ | _ | _ | _ | _ | _ | i
  · exact out_0 x
  · exact out_1 x
  · exact out_2 x
  · exact out_3 x
  · exact out_4 x
  · exact out_5 x
  · exact out_6 x
  · exact out_7 x
  · exact out_8 x
  · exact out_9 x
  · exact out_10 x
  · exact out_11 x
  · exact out_12 x
  · exact out_13 x
  · exact out_14 x
  · exact out_15 x
  · omega
end Go.Proofs.Ytldjiigkebkgcaa

/- Rows of bytes that are made, and copied. No condition but those each theorem states. -/
namespace Go.Proofs.Ytldjiigkebkgcaa
set_option linter.unusedVariables false
set_option linter.unusedSimpArgs false
open Go.RowKit

theorem make_run (n : Nat) (hn : n ≤ 140737488355328) (W : World) : (Instr.makeSlice 23 (.int .i64 (n : Int)) (.int .i64 (n : Int))).run Try.prog W = .ok (.slice (some ⟨W.heap.size, 0, none⟩) n n) (W.alloc (.cells (W8 (List.replicate n 0)) 5)) := by
  have h := Go.run_make_row' (P := Try.prog) 23 5 (.int .u8 0) 1 Try.underlying23 (by kernel_rfl) rfl .i64 .i64 n (by omega) (by omega) W
  rw [made_W8] at h
  exact h
theorem OwnB.ofRow {w : World} {g base n : Nat} {l : List UInt8} (h : w.heap[g]? = some (.cells (W8 l) 5 (0, 0))) (hb : base ≤ g) (hn : l.length = n) (hm : n ≤ 140737488355328) : OwnB w base (.slice (some ⟨g, 0, none⟩) n n) l := by
  subst hn
  refine ⟨by simp [B8], .inr ⟨g, _, W8 l, rfl, hb, h, Nat.le_refl _, by unfold maxLen; omega, by simp [W8], ?_⟩⟩
  simp only [W8, B8, Nat.mul_one]
  rw [List.take_of_length_le (by simp)]
theorem splice_B8 (cur cs : List UInt8) (off : Nat) : (splice (B8 cur) off (B8 cs)).toArray = W8 (cur.take off ++ (cs ++ cur.drop (off + cs.length))) := by
  simp [splice, B8, W8, List.map_append, List.map_take, List.map_drop]
theorem W8_B8 (l : List UInt8) : W8 l = (B8 l).toArray := rfl
/-- copy(dst, src), dst a row of the call's own that is known whole, from a place on. -/
theorem copy_list {P : Program} {w : World} {ops : Array Oper} {rest : List Oper} {o : Oper} {a : Act} {Q : Exit → Act → World → Prop} (hgd : o.guard = none) (T : ByteT P) (d s : Operand)
    (ho : o.op = .call { callee := .builtin .copy, args := #[d, s], argTypes := #[23, 23] }) (A : Option Addr) (dLen dCap sLen sCap g off : Nat) (cur src : List UInt8) (t : TypeId) (dp : Option Addr)
    (hd : a.eval d = .slice dp dLen dCap) (hs : a.eval s = .slice A sLen sCap) (hp : 0 < src.length → dp = some ⟨g, off, none⟩) (hg : w.heap[g]? = some (.cells (W8 cur) t (0, 0))) (hR : RdB w A src) (hn : src.length = sLen) (hl : sLen ≤ dLen) (hfit : off + sLen ≤ cur.length)
    (h : ∀ w', w'.heap[g]? = some (.cells (W8 (cur.take off ++ (src ++ cur.drop (off + src.length)))) t (0, 0)) → w.grownBy w' (some g) → w'.heap.size = w.heap.size → wpList P ops Q rest (a.put o.dst (.int .i64 (sLen : Int))) w') : wpList P ops Q (o :: rest) a w := by
  subst hn
  by_cases h0 : src.length = 0
  · obtain rfl : src = [] := List.eq_nil_of_length_eq_zero h0
    refine wpList_copy_nothing hgd d s _ _ ho 5 T.ht (by have := T.hinfo; revert this; cases P.info? 5 <;> simp <;> intros <;> assumption) dp A dLen dCap 0 sCap hd hs (by simp) ?_
    exact h w (by simpa using hg) (World.grownBy.refl _ _) rfl
  · obtain ⟨b, o', rfl, _⟩ := hR 0 (by omega)
    obtain rfl := hp (by omega)
    have hcs : (B8 src).length = src.length := by simp [B8]
    refine wpList_copy_own hgd d s _ _ ho 5 T.ht (by have := T.hinfo; revert this; cases P.info? 5 <;> simp <;> intros <;> assumption) g off dLen dCap ⟨b, o', none⟩ src.length sCap hd hs (W8 cur) t hg (B8 src) (by rw [hcs]; simp [Nat.min_def]; omega) ?_ (by rw [hcs, W8_size]; exact hfit) (B8_one _) ?_
    · intro j u hu
      have hj : j < src.length := by
        have := (List.getElem?_eq_some_iff.1 hu).1
        rwa [hcs] at this
      obtain ⟨b', o'', e', hc'⟩ := hR j hj
      injection e' with e'
      injection e' with e1 e2
      subst e1 e2
      rw [add_at, hc', ← B8_get _ j hj, hu]
    · rw [hcs]
      have e : ((W8 cur).toList.take off ++ (B8 src ++ (W8 cur).toList.drop (off + src.length))).toArray = W8 (cur.take off ++ (src ++ cur.drop (off + src.length))) := by
        simp [B8, W8, List.map_append, List.map_take, List.map_drop]
      rw [e]
      exact h _ (setRow_heap w g _ _ t _ hg) ⟨rfl, rfl, rfl, by simp, fun k hk hne => setRow_other w g k _ (fun e => hne (by rw [e]))⟩ (by simp)
end Go.Proofs.Ytldjiigkebkgcaa

/- A clamped key, and the tag: walked. No condition but those each theorem states. -/
namespace Go.Proofs.Ytldjiigkebkgcaa
set_option linter.unusedVariables false
set_option linter.unusedSimpArgs false
open Go.RowKit
attribute [local go_sem ↓] Go.wp_at_zero Go.wp_at_succ

def Z16 : List UInt8 := [0, 0, 0, 0, 0, 0, 0, 0, 0, 0, 0, 0, 0, 0, 0, 0]
theorem zero16 : W8 Z16 = #[.int .u8 0, .int .u8 0, .int .u8 0, .int .u8 0, .int .u8 0, .int .u8 0, .int .u8 0, .int .u8 0, .int .u8 0, .int .u8 0, .int .u8 0, .int .u8 0, .int .u8 0, .int .u8 0, .int .u8 0, .int .u8 0] := rfl
theorem u8_and' (a b : UInt8) : bits .and .u8 (a.toNat : Int) (b.toNat : Int) = ((a &&& b).toNat : Int) := by
  rw [u8_and_nat _ _ a.toNat_lt b.toNat_lt, UInt8.toNat_and]
theorem and_ex (a b : UInt8) : ∃ y : UInt8, Hid (y = a &&& b) ∧ bits .and .u8 (a.toNat : Int) (b.toNat : Int) = (y.toNat : Int) := ⟨_, rfl, u8_and' a b⟩
/-- A row of bytes of the call's own. -/
structure BW (w : World) (t : TypeId) (g : Nat) (l : List UInt8) (W : World) : Prop where
  b : W.heap[g]? = some (.cells (W8 l) t (0, 0))
  hg : w.heap.size ≤ g
  bel : Below w.heap.size w W
theorem BW.set {w W : World} {t : TypeId} {g : Nat} {l : List UInt8} (h : BW w t g l W) (i : Nat) (x : UInt8) : BW w t g (l.set i x) (W.setCell ⟨g, i, none⟩ (.int .u8 (x.toNat : Int))) where
  b := by rw [heap_setCell_same _ _ _ _ _ _ h.b, W8_set]
  hg := h.hg
  bel := h.bel.trans (grown_below (grown_set (World.grownBy.refl W (some g)) _ _) h.bel.size (by rintro k ⟨⟩; exact h.hg))
theorem BW.away {w W W' : World} {t : TypeId} {g k : Nat} {m : List UInt8} (h : BW w t k m W) (hne : k ≠ g) (hg : w.heap.size ≤ g) (hgr : W.grownBy W' (some g)) : BW w t k m W' where
  b := grown_block hgr (by simp; exact hne) h.b
  hg := h.hg
  bel := h.bel.trans (grown_below hgr h.bel.size (by rintro k ⟨⟩; exact hg))
theorem BW.keep {w W W' : World} {t : TypeId} {g : Nat} {l : List UInt8} (h : BW w t g l W) (hb : Below W.heap.size W W') : BW w t g l W' := ⟨below_block hb (row_lt h.b) h.b, h.hg, h.bel.trans (hb.mono h.bel.size)⟩
theorem BW.ret {w W W' : World} {t : TypeId} {g : Nat} {m : List UInt8} (h : BW w t g m W) (hg : W.grownBy W' (some g)) : Below w.heap.size w W' :=
  h.bel.trans (grown_below hg h.bel.size (by rintro k ⟨⟩; exact h.hg))
theorem grown1 (W : World) (g i : Nat) (v : Value) : W.grownBy (W.setCell ⟨g, i, none⟩ v) (some g) := grown_set (World.grownBy.refl _ _) _ _
theorem info_16 {l : List UInt8} (h : l.length = 16) : (Try.prog.info? 82).map (·.size) = some (W8 l).size := by rw [W8_size, h]; kernel_rfl
set_option maxRecDepth 100000 in
set_option maxHeartbeats 2000000 in
theorem clamp_any (b : List UInt8) (hb : b.length = 16) (w : World) :
    Calls Try.prog 57 #[.agg (W8 b)] w fun e w' => e = .returned (.agg (W8 (clampL b))) ∧ Below w.heap.size w w' := by
  have HB := Lib.hid hb
  have Z := Lib.hid zero16
  clear hb
  go_enter Try.func57, Try.ntmps57
  go_wp2_with fail
  rw [← Z.out]
  obtain ⟨w1, hw1⟩ : ∃ w1, w1 = (w.alloc (.cells (W8 b) 82)).alloc (.cells (W8 Z16) 82) := ⟨_, rfl⟩
  have S1 := Lib.hid (show BW w 82 w.heap.size (clampK b 0) w1 ∧ BW w 82 (w.heap.size + 1) Z16 w1 by
    have hb : Below w.heap.size w w1 := by rw [hw1]; exact ((Below.refl _ _).alloc (Nat.le_refl _) _).alloc (by simp) _
    rw [hw1] at hb ⊢
    rw [show clampK b 0 = b from rfl]
    exact ⟨⟨ha_old _ _ _ (by simp) (ha_new _ _ _ rfl), by omega, hb⟩, ⟨ha_new _ _ _ (by simp), by omega, hb⟩⟩)
  rw [← hw1]
  clear hw1
  go_loopw [3] (fun u wr => ∃ t : Nat, t ≤ 4 ∧ u = .int .i64 (3 + 4 * (t : Int)) ∧ BW w 82 w.heap.size (clampK b t) wr ∧ BW w 82 (w.heap.size + 1) Z16 wr) (fun u _ => 20 - (intOf u).toNat)
  case atStart => exact ⟨0, by omega, rfl, S1.out⟩
  case round =>
    obtain ⟨t, ht, rfl, hs⟩ := hrel
    have T := Lib.hid ht
    have S2 := Lib.hid hs
    clear ht hs S1
    obtain ⟨q, hq⟩ : ∃ q, q = clampK b t := ⟨_, rfl⟩
    rw [← hq] at S2
    have QL := Lib.hid (show q.length = 16 by rw [hq, clampK_length, HB.out])
    have Q := Lib.hid hq
    clear hq
    have t4 : (t : Int) ≤ 4 := by have := T.out; omega
    have b0 : (0 : Int) ≤ 3 + 4 * (t : Int) := by omega
    by_cases hlt : t < 4
    · have hD : decide (3 + 4 * (t : Int) < 16) = true := by simp; omega
      obtain ⟨x, hx⟩ : ∃ x, x = q.getD (3 + 4 * t) 0 := ⟨_, rfl⟩
      have a1 := row_cell S2.out.1.b (3 + 4 * t) (W8_get _ (3 + 4 * t) (by rw [QL.out]; omega))
      have f1 := row_free S2.out.1.b (3 + 4 * t)
      rw [← hx] at a1
      have X := Lib.hid hx
      obtain ⟨y, hy, e1⟩ := and_ex x 15
      rw [show (((15 : UInt8).toNat : Nat) : Int) = 15 from rfl] at e1
      have e2 : (3 + 4 * (t : Int)).toNat = 3 + 4 * t := by omega
      have b1 : 3 + 4 * (t : Int) < 16 := by omega
      clear hx
      go_upto_region 5 with fail
      clear a1 f1 e1
      obtain ⟨p, hp⟩ : ∃ p, p = q.set (3 + 4 * t) y := ⟨_, rfl⟩
      obtain ⟨w2, hw2⟩ : ∃ w2, w2 = wr.setCell ⟨w.heap.size, 3 + 4 * t, none⟩ (.int .u8 (y.toNat : Int)) := ⟨_, rfl⟩
      have S3 := Lib.hid (show BW w 82 w.heap.size p w2 ∧ BW w 82 (w.heap.size + 1) Z16 w2 by rw [hw2, hp]; exact ⟨S2.out.1.set _ _, S2.out.2.away (by omega) (Nat.le_refl _) (grown1 _ _ _ _)⟩)
      rw [← hw2]
      have PL := Lib.hid (show p.length = 16 by rw [hp, List.length_set, QL.out])
      have PP := Lib.hid hp
      clear hw2 hp
      by_cases h5 : 3 + 4 * t + 1 < 16
      · have hE : decide (3 + 4 * (t : Int) + 1 < 16) = true := by simp; omega
        obtain ⟨z, hz⟩ : ∃ z, z = p.getD (3 + 4 * t + 1) 0 := ⟨_, rfl⟩
        have a2 := row_cell S3.out.1.b (3 + 4 * t + 1) (W8_get _ (3 + 4 * t + 1) (by rw [PL.out]; exact h5))
        have f2 := row_free S3.out.1.b (3 + 4 * t + 1)
        rw [← hz] at a2
        have ZZ := Lib.hid hz
        obtain ⟨v, hv, e3⟩ := and_ex z 252
        rw [show (((252 : UInt8).toNat : Nat) : Int) = 252 from rfl] at e3
        have e4 : (3 + 4 * (t : Int) + 1).toNat = 3 + 4 * t + 1 := by omega
        have b2 : 3 + 4 * (t : Int) + 1 < 16 := by omega
        have b3 : (0 : Int) ≤ 3 + 4 * (t : Int) + 1 := by omega
        clear hz
        go_wp2_with fail
        go_roundw
        case rel =>
          refine ⟨t + 1, by omega, by go_num, ?_⟩
          rw [clampK, ← Q.out, ← X.out, ← hy.out, ← PP.out]
          rw [if_pos h5, ← ZZ.out, ← hv.out]
          exact ⟨S3.out.1.set _ _, S3.out.2.away (by omega) (Nat.le_refl _) (grown1 _ _ _ _)⟩
        case measure => simp [intOf]; omega
      · have hE : decide (3 + 4 * (t : Int) + 1 < 16) = false := by simp; omega
        go_wp2_with fail
        go_roundw
        case rel =>
          refine ⟨t + 1, by omega, by go_num, ?_⟩
          rw [clampK, ← Q.out, ← X.out, ← hy.out, ← PP.out]
          rw [if_neg h5]
          exact S3.out
        case measure => simp [intOf]; omega
    · have ht : Hid (t = 4) := show t = 4 by have := T.out; omega
      have hD : decide (3 + 4 * (t : Int) < 16) = false := by simp; omega
      have QE := Lib.hid (show q = clampL b by rw [Q.out, ht.out]; rfl)
      go_wp2_with (first
        | (refine wpList_load_row rfl 82 (.tmp 1) rfl w.heap.size rfl 82 (W8 q) (0, 0) _ S2.out.1.b Try.underlying82 rfl (info_16 QL.out) ?_)
        | (refine wpList_store_whole rfl rfl 82 (.tmp 2) (.tmp 22) rfl (w.heap.size + 1) (W8 q) rfl rfl 82 _ S2.out.2.b (info_16 QL.out) (by rw [W8_size, W8_size, QL.out]; rfl) (W8_one _) ?_; intro w8 hz8 hg8 _))
      exact bodyPost_ret (results_cell_row rfl _ _ (w.heap.size + 1) 82 (W8 q) (0, 0) _ rfl hz8 Try.underlying82 rfl (info_16 QL.out)) rfl ⟨by rw [QE.out], S2.out.2.ret hg8⟩
end Go.Proofs.Ytldjiigkebkgcaa

/- The tag of a text: walked. No condition but those each theorem states. -/
namespace Go.Proofs.Ytldjiigkebkgcaa
set_option linter.unusedVariables false
set_option linter.unusedSimpArgs false
open Go.RowKit
attribute [local go_sem ↓] Go.wp_at_zero Go.wp_at_succ

theorem min16_ex (r : Nat) (h0 : 0 < r) : ∃ m : Nat, (if (16 : Int) < (r : Int) then (16 : Int) else (r : Int)) = (m : Int) ∧ m ≤ r ∧ m ≤ 16 ∧ 0 < m ∧ Hid (m = min r 16) := by
  by_cases h : 16 < r
  · exact ⟨16, by rw [if_pos (by omega)]; rfl, by omega, by omega, by omega, show 16 = min r 16 by omega⟩
  · exact ⟨r, by rw [if_neg (by omega)], by omega, by omega, by omega, show r = min r 16 by omega⟩
theorem mod_add_mul (A B R P : Nat) : (A + B) * R % P = (A % P + B) * R % P := by
  rw [Nat.mul_mod (A + B) R P, Nat.mul_mod (A % P + B) R P, Nat.add_mod A B P, Nat.add_mod (A % P) B P, Nat.mod_mod]
/-- What stands while the text is taken in. -/
structure PsW (w : World) (key : List UInt8) (r : List Nat) (M3 M4 : Nat) (a : List Nat) (W : World) : Prop where
  bk : BW w 36 w.heap.size key W
  bo : BW w 82 (w.heap.size + 1) Z16 W
  br : NW w M3 r W
  ba : NW w M4 a W
  h3 : w.heap.size + 1 < M3
  h4 : M3 < M4
theorem PsW.keep {w W W' : World} {key : List UInt8} {r a : List Nat} {M3 M4 : Nat} (h : PsW w key r M3 M4 a W) (hb : Below W.heap.size W W') : PsW w key r M3 M4 a W' :=
  ⟨h.bk.keep hb, h.bo.keep hb, h.br.keep hb, h.ba.keep hb, h.h3, h.h4⟩
theorem PsW.whole {w W W' : World} {key : List UInt8} {r a a' : List Nat} {M3 M4 : Nat} (h : PsW w key r M3 M4 a W) (hz : W'.heap[M4]? = some (.cells (WN a') 110 (0, 0))) (hg : W.grownBy W' (some M4)) : PsW w key r M3 M4 a' W' := by
  have h3 := h.h3
  have h4 := h.h4
  exact ⟨h.bk.away (by omega) (by omega) hg, h.bo.away (by omega) (by omega) hg, h.br.away (by omega) (by omega) hg, h.ba.whole hz hg, h3, h4⟩
set_option maxRecDepth 100000 in
set_option maxHeartbeats 4000000 in
theorem polySum_any (key : List UInt8) (hk : key.length = 32) (w : World) (A : Option Addr) (n c : Nat) (l : List UInt8) (hn : l.length = n) (hc : n ≤ c) (hR : RdB w A l) (hb : n ≤ 140737488355000) :
    Calls Try.prog 48 #[.agg (W8 key), .slice A n c] w fun e w' => e = .returned (.agg (W8 (polyL key l))) ∧ Below w.heap.size w w' := by
  have HK := Lib.hid hk
  have HN := Lib.hid hn
  have HC := Lib.hid hc
  have HR := Lib.hid hR
  have HB := Lib.hid hb
  have Z := Lib.hid zero16
  have Z5' := Lib.hid zero5
  obtain ⟨i0, hi, hz0, hz1, hz2⟩ := info_parts (show (Try.prog.info? 5).map (fun i => (i.zero, i.size, i.bytes)) = some (some (.int .u8 0), 1, 1) by kernel_rfl)
  have I0 := Lib.hid hi
  have I2 := Lib.hid hz1
  have K16 := Lib.hid (show (key.take 16).length = 16 by simp [hk])
  have KD := Lib.hid (show (key.drop 16).length = 16 by simp [hk])
  have Z24 := Lib.hid (show (Try.prog.info? 82).map (·.size) = some (B8 (key.take 16)).length by rw [B8_length, K16.out]; kernel_rfl)
  clear hn hc hR hb hk hi hz0 hz1 hz2
  go_enter Try.func48, Try.ntmps48
  go_upto_region 1 with fail
  rw [← Z.out]
  obtain ⟨w1, hw1⟩ : ∃ w1, w1 = (w.alloc (.cells (W8 key) 36)).alloc (.cells (W8 Z16) 82) := ⟨_, rfl⟩
  have S1 := Lib.hid (show BW w 36 w.heap.size key w1 ∧ BW w 82 (w.heap.size + 1) Z16 w1 by
    have hb : Below w.heap.size w w1 := by rw [hw1]; exact ((Below.refl _ _).alloc (Nat.le_refl _) _).alloc (by simp) _
    rw [hw1] at hb ⊢
    exact ⟨⟨ha_old _ _ _ (by simp) (ha_new _ _ _ rfl), by omega, hb⟩, ⟨ha_new _ _ _ (by simp), by omega, hb⟩⟩)
  rw [← hw1]
  clear hw1
  have HRG := Lib.hid (show w1.rangeAt w.heap.size 0 (B8 (key.take 16)) by
    intro j v hj
    have hj2 : j < 16 := by have := (List.getElem?_eq_some_iff.1 hj).1; rw [B8_length, K16.out] at this; exact this
    rw [B8_get _ _ (by rw [K16.out]; exact hj2)] at hj
    cases hj
    rw [Nat.zero_add]
    refine (row_cell S1.out.1.b j (W8_get key j (by rw [HK.out]; omega))).trans ?_
    rw [List.getD_eq_getElem?_getD, List.getD_eq_getElem?_getD, List.getElem?_take, if_pos hj2])
  obtain ⟨half, hhalf⟩ : ∃ half, half = clampL (key.take 16) := ⟨_, rfl⟩
  have HH := Lib.hid hhalf
  have HL := Lib.hid (show half.length = 16 by rw [hhalf, clampL_length, K16.out])
  clear hhalf
  go_upto_region 2 with (first
    | (refine wpList_val rfl (run_arr_to 36 (.tmp 2) (.const (.int .i64 16)) rfl 32 5 Try.underlying36 I0.out w.heap.size 16 (by omega) rfl rfl _) ?_)
    | (refine wpList_val rfl (run_sl2arr 82 (.tmp 17) rfl 16 5 Try.underlying82 (some ⟨w.heap.size, 0, none⟩) 16 32 rfl (by omega) _) ?_)
    | (refine wpList_load_mid rfl 82 (.tmp 18) rfl w.heap.size 0 rfl (B8 (key.take 16)) _ HRG.out Try.underlying82 rfl Z24.out ?_))
  change Calls _ _ #[.agg (W8 (key.take 16))] _ _
  refine (clamp_any (key.take 16) K16.out _).mono ?_
  rw [← HH.out]
  rintro e w2 ⟨rfl, hb2⟩
  have S2 := Lib.hid (And.intro (S1.out.1.keep hb2) (S1.out.2.keep hb2))
  clear hb2 S1 HRG
  go_upto_region 2 with (refine wpList_store_new rfl rfl 82 (.tmp 5) (.tmp 20) rfl (W8 half) rfl rfl (info_16 HL.out) ?c1 (W8_one _) ?_)
  case c1 => rw [W8_size, HL.out]; rfl
  obtain ⟨M2, hM2⟩ : ∃ M, M = w2.heap.size := ⟨_, rfl⟩
  rw [← hM2]
  obtain ⟨w3, hw3⟩ : ∃ w3, w3 = w2.alloc (.cells (W8 half) 82) := ⟨_, rfl⟩
  have S3 := Lib.hid (show BW w 36 w.heap.size key w3 ∧ BW w 82 (w.heap.size + 1) Z16 w3 ∧ w3.heap[M2]? = some (.cells (W8 half) 82 (0, 0)) by
    have hb : Below w2.heap.size w2 w3 := by rw [hw3]; exact (Below.refl _ _).alloc (Nat.le_refl _) _
    exact ⟨S2.out.1.keep hb, S2.out.2.keep hb, by rw [hw3]; exact ha_new _ _ _ hM2⟩)
  rw [← hw3]
  clear hw3 hM2 S2
  go_wp2_with (refine wpList_val rfl (run_arr_all 82 (.tmp 5) rfl 16 5 Try.underlying82 I0.out M2 rfl _) ?_)
  refine (nload_any (some ⟨M2, 0, none⟩) 16 16 half HL.out (by omega) (by omega) _ (RdB.row S3.out.2.2)).mono ?_
  obtain ⟨r, hr⟩ : ∃ r, r = limbsN (leNat half) := ⟨_, rfl⟩
  rw [← hr]
  have RL := Lib.hid (show r.length = 5 by rw [hr]; rfl)
  have RB := Lib.hid (show Bd 67108864 r by rw [hr]; exact (limbsN_bd _).mono (by omega))
  have RV := Lib.hid (show valN r = leNat half by rw [hr, limbsN_val _ (by have := leNat_lt16 half HL.out; omega)])
  clear hr
  rintro e w4 ⟨rfl, hb4⟩
  have S4 := Lib.hid (And.intro (S3.out.1.keep hb4) (S3.out.2.1.keep hb4))
  clear hb4 S3
  go_upto_region 3 with (refine wpList_store_new rfl rfl 110 (.tmp 6) (.tmp 22) rfl (WN r) rfl rfl (info_num RL.out) ?c2 (WN_one _) ?_)
  case c2 => rw [WN_size, RL.out]; rfl
  obtain ⟨M3, hM3⟩ : ∃ M, M = w4.heap.size := ⟨_, rfl⟩
  rw [← hM3]
  go_wp2_with fail
  rw [← Z5'.out, ← hM3]
  obtain ⟨w5, hw5⟩ : ∃ w5, w5 = (w4.alloc (.cells (WN r) 110)).alloc (.cells (WN Z5) 110) := ⟨_, rfl⟩
  have S5 := Lib.hid (show PsW w key r M3 (M3 + 1) Z5 w5 by
    have hb : Below w4.heap.size w4 w5 := by rw [hw5]; exact ((Below.refl _ _).alloc (Nat.le_refl _) _).alloc (by simp) _
    have hbk := S4.out.1.keep hb
    have h1 := row_lt S4.out.2.b
    exact ⟨hbk, S4.out.2.keep hb, ⟨by rw [hw5]; exact ha_old _ _ _ (by simp; omega) (ha_new _ _ _ hM3), by omega, hbk.bel⟩, ⟨by rw [hw5]; exact ha_new _ _ _ (by simp; omega), by omega, hbk.bel⟩, by omega, by omega⟩)
  rw [← hw5]
  clear hw5 S4 hM3
  have TB := Lib.hid (show ByteT Try.prog from ⟨Try.underlying23, by kernel_rfl⟩)
  go_loopw [1] (fun b wr => ∃ (l' : List UInt8) (A' : Option Addr) (c' : Nat) (a : List Nat), b = .slice A' l'.length c' ∧ l'.length ≤ c' ∧ RdB w A' l' ∧ l'.length ≤ n ∧ a.length = 5 ∧ Bd 67108868 a ∧ polyA (leNat half) (valN a % PN) l' = polyA (leNat half) 0 l ∧ PsW w key r M3 (M3 + 1) a wr) (fun b _ => lenOf b)
  case atStart => exact ⟨l, A, c, Z5, by rw [HN.out], by rw [HN.out]; exact HC.out, HR.out, by rw [HN.out]; exact Nat.le_refl _, rfl, by intro j; rcases j with _ | _ | _ | _ | _ | j <;> simp [Z5], rfl, S5.out⟩
  case round =>
    obtain ⟨l', A', c', a, rfl, hlc, hr', hln, hal, hab, hpa, hs⟩ := hrel
    obtain ⟨q, hq⟩ : ∃ q, q = l'.length := ⟨_, rfl⟩
    rw [← hq] at hlc hln ⊢
    have QL := Lib.hid hq.symm
    have LC := Lib.hid hlc
    have R' := Lib.hid hr'
    have LN := Lib.hid hln
    have AL := Lib.hid hal
    have AB := Lib.hid hab
    have PA := Lib.hid hpa
    have S6 := Lib.hid hs
    clear hq hlc hr' hln hal hab hpa hs S5 HR
    by_cases h0 : 0 < q
    · have hD : decide ((0 : Int) < (q : Int)) = true := by simp; omega
      obtain ⟨m, hm, hmq, hm16, hm0, hme⟩ := min16_ex q h0
      have hcm := cut_max (P := Try.prog) 23 5 Try.underlying23 I0.out I2.out A' q c' m (by have := LC.out; omega)
      have LM := Lib.hid (show (l'.take m).length = m by have := QL.out; simp; omega)
      have TM := Lib.hid (show l'.take m = l'.take 16 by
        rw [hme.out]
        by_cases h : q ≤ 16
        · rw [Nat.min_eq_left h, List.take_of_length_le (by rw [QL.out]; omega), List.take_of_length_le (by rw [QL.out]; omega)]
        · rw [Nat.min_eq_right (by omega)])
      have RM := Lib.hid ((R'.out.take m).keep S6.out.bk.bel)
      have NA := Lib.hid (show A' = none → m = 0 ∧ m = 0 by
        intro e
        obtain ⟨b, o, e2, _⟩ := R'.out 0 (by rw [QL.out]; exact h0)
        rw [e] at e2
        cases e2)
      go_upto_region 7 with (refine appg_list rfl TB.out (.tmp 32) (.tmp 33) rfl A' m m (l'.take m) [1] ⟨wr.heap.size, 0, none⟩ 1 1 rfl rfl LM.out rfl NA.out (RM.out.keep ((Below.refl _ _).alloc (Nat.le_refl _) _)) (RdB.one (y := 1) (row_cell (fr := (0, 0)) (ha_new wr _ _ rfl) 0 rfl)) (by omega) (by omega) ?_; intro v1 w6 ho hg)
      clear hm hcm
      have S7 := Lib.hid ((S6.out.keep ((Below.refl _ _).alloc (Nat.le_refl _) _)).keep (show Below _ _ _ from grown_below hg (Nat.le_refl _) (by intro g e; cases e)))
      obtain ⟨A7, c7, rfl, hr7, hl7, _, _⟩ := ho.read
      obtain ⟨k, hk⟩ : ∃ k, k = (l'.take m ++ [1]).length := ⟨_, rfl⟩
      rw [← hk] at hl7 ⊢
      have KE := Lib.hid hk.symm
      have KB := Lib.hid (show k = m + 1 by rw [hk, List.length_append, LM.out]; rfl)
      have R7 := Lib.hid hr7
      clear ho hg hr7 hl7 hk RM
      have S8 := Lib.hid (S7.out.keep (Below.refl _ _).drew)
      refine wp_region_till (PsW w key r M3 (M3 + 1) a) 6 [(true, 0), (true, 1), (true, 4), (false, 2), (false, 3), (false, 5)] _ (by kernel_rfl) (by kernel_rfl) rfl (fun _ _ d _ _ h => by cases d <;> exact h) ?_
      simp only [List.filterMap_cons, List.filterMap_nil, List.getElem?_toArray, List.getElem?_cons_zero, List.getElem?_cons_succ, Option.map_some]
      refine till_q (by rfl) (S8.out) (fun W hW => run_load_row 110 (.tmp 7) rfl (M3 + 1) rfl 110 (WN a) (0, 0) _ hW.ba.b Try.underlying110 rfl (info_num AL.out)) ?_
      simp only [Act.put, List.setIfInBounds_toArray, List.set_cons_zero, List.set_cons_succ]
      refine till_q (v := ?_) (by rfl) (S8.out) ?_ ?_
      rotate_left
      · intro W hW
        go_simp
        with_reducible rfl
      simp only [Act.put, List.setIfInBounds_toArray, List.set_cons_zero, List.set_cons_succ]
      refine till_q (by rfl) (S8.out) (fun W hW => run_load_row 110 (.tmp 6) rfl M3 rfl 110 (WN r) (0, 0) _ hW.br.b Try.underlying110 rfl (info_num RL.out)) ?_
      simp only [Act.put, List.setIfInBounds_toArray, List.set_cons_zero, List.set_cons_succ]
      refine till_t (by rfl) (fun K hK => ?_)
      go_simp
      refine (nload_any A7 k c7 (l'.take m ++ [1]) KE.out (by have := KB.out; omega) ?k1 w6.drew R7.out).mono ?_
      case k1 =>
        intro e
        have h1 := KB.out
        have h2 := LM.out
        rw [List.getD_eq_getElem?_getD, List.getElem?_append_right (by omega), show 16 - (l'.take m).length = 0 by omega]
        decide
      obtain ⟨B, hB⟩ : ∃ B, B = limbsN (leNat (l'.take m ++ [1])) := ⟨_, rfl⟩
      rw [← hB]
      have BL := Lib.hid (show B.length = 5 by rw [hB]; rfl)
      have BB := Lib.hid (show Bd 67108863 B by rw [hB]; exact limbsN_bd _)
      have BV := Lib.hid (show valN B = leNat (l'.take 16 ++ [1]) by
        rw [hB, TM.out]
        refine limbsN_val _ ?_
        have h1 := leNat_append (l'.take 16) [1]
        have h2 := leNat_lt (l'.take 16)
        have h3 : 256 ^ (l'.take 16).length ≤ 256 ^ 16 := Nat.pow_le_pow_right (by omega) (by simp; omega)
        have h4 : leNat [1] = 1 := rfl
        rw [h4] at h1
        omega)
      clear hB
      rintro e w8 ⟨rfl, hb8⟩
      have S9 := Lib.hid (S8.out.keep hb8)
      clear hb8
      refine hK.out _ _ (S9.out) ?_
      clear hK K
      refine till_t (by rfl) (fun K hK => ?_)
      go_simp
      refine (nadd_any a B AL.out BL.out (AB.out.mono (by omega)) (BB.out.mono (by omega)) _).mono ?_
      obtain ⟨t, ht⟩ : ∃ t, t = addK a B 5 := ⟨_, rfl⟩
      rw [← ht]
      have TL := Lib.hid (show t.length = 5 by rw [ht, addK_length, AL.out])
      have TBd := Lib.hid (show Bd 268435456 t by rw [ht]; exact ((addK_all a B AL.out BL.out).2 _ _ AB.out BB.out).mono (by omega))
      have TV := Lib.hid (show valN t = valN a + valN B by rw [ht]; exact (addK_all a B AL.out BL.out).1)
      clear ht
      rintro e w9 ⟨rfl, hb9⟩
      have S10 := Lib.hid (S9.out.keep hb9)
      clear hb9
      refine hK.out _ _ (S10.out) ?_
      clear hK K
      refine till_t (by rfl) (fun K hK => ?_)
      go_simp
      refine (ntimes_any t r TL.out RL.out TBd.out RB.out _).mono ?_
      obtain ⟨u, hu⟩ : ∃ u, u = timesL t r := ⟨_, rfl⟩
      rw [← hu]
      have UL := Lib.hid (show u.length = 5 by rw [hu, timesL_length])
      have UA := Lib.hid (timesL_all t r TL.out RL.out TBd.out RB.out)
      rw [← hu] at UA
      clear hu
      rintro e w10 ⟨rfl, hb10⟩
      have S11 := Lib.hid (S10.out.keep hb10)
      clear hb10
      refine hK.out _ _ (S11.out) ?_
      clear hK K
      refine till_last (fun K hK => ?_)
      refine storeW_wp 110 (.tmp 7) (.tmp 40) rfl (M3 + 1) (WN u) rfl rfl _ _ S11.out.ba.b (info_num UL.out) (by rw [WN_size, WN_size, UL.out, AL.out]) (WN_one _) ?_
      intro w11 hz11 hg11 hs11
      have S12 := Lib.hid (S11.out.whole hz11 hg11)
      clear hz11 hg11 hs11
      refine hK.out _ _ ?_
      clear hK K
      simp only [Act.put]
      obtain ⟨A'', hcut, hcutR, _⟩ := cut_from (P := Try.prog) 23 5 Try.underlying23 I0.out I2.out A' q c' m hmq
      have RD := Lib.hid (hcutR w l' QL.out LC.out R'.out)
      clear hcutR
      go_wp2_with fail
      go_roundw
      case rel =>
        have h1 := QL.out
        have h2 := LC.out
        refine ⟨l'.drop m, A'', c' - m, u, by rw [List.length_drop, h1], by rw [List.length_drop, h1]; omega, RD.out, by rw [List.length_drop, h1]; have := LN.out; omega, UL.out, UA.out.2, ?_, S12.out⟩
        rw [← PA.out, polyA_cons _ _ l' (by intro e; rw [e] at h1; simp at h1; omega), UA.out.1, TV.out, BV.out, RV.out]
        have hd : l'.drop m = l'.drop 16 := by
          rw [hme.out]
          by_cases h : q ≤ 16
          · rw [Nat.min_eq_left h, List.drop_of_length_le (by rw [h1]; omega), List.drop_of_length_le (by rw [h1]; omega)]
          · rw [Nat.min_eq_right (by omega)]
        rw [hd]
        congr 1
        exact mod_add_mul _ _ _ _
      case measure => simp [lenOf]; omega
    · have hl0 : Hid (l' = []) := List.eq_nil_of_length_eq_zero (by rw [QL.out]; omega)
      have hD : decide ((0 : Int) < (q : Int)) = false := by simp; omega
      have XV := Lib.hid (show valN a % PN = polyA (leNat half) 0 l by have := PA.out; rw [hl0.out, polyA_nil] at this; exact this)
      clear PA
      go_wp2_with (refine wpList_load_row rfl 110 (.tmp 7) rfl (M3 + 1) rfl 110 (WN a) (0, 0) _ S6.out.ba.b Try.underlying110 rfl (info_num AL.out) ?_)
      refine (nleast_any a AL.out AB.out _).mono ?_
      obtain ⟨X, hX⟩ : ∃ X, X = valN a % PN := ⟨_, rfl⟩
      obtain ⟨L, hL⟩ : ∃ L, L = leastL a := ⟨_, rfl⟩
      rw [← hL]
      have LL := Lib.hid (show L = limbsN X by rw [hL, hX]; exact leastL_all a AL.out AB.out)
      have LLen := Lib.hid (show L.length = 5 by rw [LL.out]; rfl)
      have LB := Lib.hid (show Bd 67108863 L by rw [LL.out]; exact limbsN_bd _)
      have XE := Lib.hid (show X = polyA (leNat half) 0 l by rw [hX]; exact XV.out)
      clear hX hL
      rintro e w6 ⟨rfl, hb6⟩
      have S7 := Lib.hid (S6.out.keep hb6)
      clear hb6
      go_upto_region 10 with (refine wpList_store_whole rfl rfl 110 (.tmp 7) (.tmp 45) rfl (M3 + 1) (WN L) rfl rfl 110 _ S7.out.ba.b (info_num LLen.out) (by rw [WN_size, WN_size, LLen.out, AL.out]) (WN_one _) ?_; intro w7 hz7 hg7 hs7)
      have S8 := Lib.hid (S7.out.whole hz7 hg7)
      clear hz7 hg7 hs7 S6 S7
      go_wp2_with fail
      rw [← Z.out]
      obtain ⟨M5, hM5⟩ : ∃ M, M = w7.heap.size := ⟨_, rfl⟩
      rw [← hM5]
      obtain ⟨T, hT⟩ : ∃ T, T = bytesN (tagN X (key.drop 16)) := ⟨_, rfl⟩
      have TL := Lib.hid (show T.length = 16 by rw [hT, bytesN_length])
      have TT := Lib.hid hT
      obtain ⟨w8, hw8⟩ : ∃ w8, w8 = w7.alloc (.cells (W8 Z16) 82) := ⟨_, rfl⟩
      have S9 := Lib.hid (show PsW w key r M3 (M3 + 1) L w8 ∧ BW w 82 M5 (partB T 0) w8 ∧ M3 + 1 < M5 by
        have hb : Below w7.heap.size w7 w8 := by rw [hw8]; exact (Below.refl _ _).alloc (Nat.le_refl _) _
        have h9 := S8.out.keep hb
        have h1 := row_lt S8.out.ba.b
        refine ⟨h9, ⟨?_, ?_, h9.bk.bel⟩, by omega⟩
        · rw [hw8, partB_zero, TL.out]
          exact ha_new _ _ _ hM5
        · have := S8.out.ba.bel.size
          omega)
      have M5L := Lib.hid S9.out.2.2
      rw [← hw8]
      clear hw8 hM5 hT S8
      go_loopw [11, 46] (fun cy u wr => ∃ i : Nat, i ≤ 16 ∧ u = .int .i64 (i : Int) ∧ cy = .int .u64 ((tagK X (key.drop 16) i / 256 ^ i : Nat) : Int) ∧ PsW w key r M3 (M3 + 1) L wr ∧ BW w 82 M5 (partB T i) wr) (fun _ u _ => 16 - (intOf u).toNat)
      case atStart => exact ⟨0, by omega, rfl, by simp [tagK, leNat, Nat.mod_one], S9.out.1, S9.out.2.1⟩
      case round =>
        obtain ⟨i, hi, rfl, rfl, hs, hm⟩ := hrel
        have I := Lib.hid hi
        have SA := Lib.hid hs
        have SB := Lib.hid hm
        clear hi hs hm S9
        obtain ⟨cy, hcy⟩ : ∃ cy, cy = tagK X (key.drop 16) i / 256 ^ i := ⟨_, rfl⟩
        rw [← hcy]
        have CY := Lib.hid hcy
        have CB := Lib.hid (show cy ≤ 1 by rw [hcy]; exact tagK_small _ _ _ (by rw [KD.out]; exact I.out))
        clear hcy
        by_cases hlt : i < 16
        · have hD2 : decide ((i : Int) < 16) = true := by simp; omega
          obtain ⟨k, hk⟩ : ∃ k, k = 8 * i / 26 := ⟨_, rfl⟩
          obtain ⟨s, hs⟩ : ∃ s, s = 8 * i % 26 := ⟨_, rfl⟩
          have b1 : (i : Int) ≤ 15 := by omega
          have e1 : 8 * (i : Int) / 26 = (k : Int) := by omega
          have e2 : 8 * (i : Int) % 26 = (s : Int) := by omega
          have k4 : k < 5 := by omega
          have s26 : s < 26 := by omega
          obtain ⟨x, hx⟩ : ∃ x, x = L.getD k 0 := ⟨_, rfl⟩
          have xb : x ≤ 67108863 := by rw [hx]; exact LB.out k
          have a1 := row_cell SA.out.ba.b k (WN_get _ k (by rw [LLen.out]; exact k4))
          rw [← hx] at a1
          obtain ⟨v0, hv0⟩ : ∃ v, v = x / 2 ^ s := ⟨_, rfl⟩
          have v0b : v0 ≤ 67108863 := by rw [hv0]; exact Nat.le_trans (Nat.div_le_self _ _) xb
          have e5 : (x : Int) / 2 ^ s = (v0 : Int) := by rw [hv0, Int.natCast_ediv, Int.natCast_pow]; rfl
          have K := Lib.hid hk
          have S := Lib.hid hs
          have E1 := Lib.hid e1
          have E2 := Lib.hid e2
          have E5 := Lib.hid e5
          have X0 := Lib.hid hx
          have V0 := Lib.hid hv0
          clear hk hs hx hv0
          go_upto_if 62 with fail
          clear a1 e1 e2 e5
          rw [E1.out, E2.out]
          obtain ⟨V, hV⟩ : ∃ V, V = outV L i := ⟨_, rfl⟩
          have HV := Lib.hid hV
          clear hV
          go_cut [16] (fun v wx => v = .int .u64 (V : Int) ∧ V < 18446744073709551616 ∧ wx = wr)
          case first =>
            by_cases h5 : k + 1 < 5
            · have hE : decide ((k : Int) + 1 < 5) = true := by simp; omega
              obtain ⟨y, hy⟩ : ∃ y, y = L.getD (k + 1) 0 := ⟨_, rfl⟩
              have yb : y ≤ 67108863 := by rw [hy]; exact LB.out _
              have a2 := row_cell SA.out.ba.b (k + 1) (WN_get _ (k + 1) (by rw [LLen.out]; exact h5))
              rw [← hy] at a2
              obtain ⟨Y, hYY⟩ : ∃ Y, Y = y * 2 ^ (26 - s) := ⟨_, rfl⟩
              have sp : 2 ^ (26 - s) ≤ 2 ^ 26 := Nat.pow_le_pow_right (by omega) (by omega)
              have Yb : Y ≤ 67108863 * 67108864 := by rw [hYY]; exact Nat.mul_le_mul yb sp
              have e6 : IntKind.u64.wrap ((y : Int) * 2 ^ (26 - s)) = (Y : Int) := by
                have : ((y : Int) * 2 ^ (26 - s)) = (Y : Int) := by rw [hYY, Int.natCast_mul, Int.natCast_pow]; rfl
                rw [this]; exact wrap_u64 _ (by omega)
              have e7 : (26 - (s : Int)).toNat = 26 - s := by omega
              have b2 : (0 : Int) ≤ 26 - (s : Int) := by omega
              have b6 : (s : Int) ≤ 26 := by omega
              have b3 : (k : Int) + 1 < 5 := by omega
              have e8 : ((k : Int) + 1).toNat = k + 1 := by omega
              have VE : Hid (V = v0 ||| Y) := by
                show V = _
                rw [HV.out, outV, ← K.out, ← S.out, if_pos h5, ← X0.out, ← V0.out, ← hy, ← hYY]
              have e9 : bits .or .u64 (v0 : Int) (Y : Int) = (V : Int) := by rw [VE.out]; exact or64 v0 Y (by omega) (by omega)
              have Vb : V < 18446744073709551616 := by rw [VE.out]; exact Nat.or_lt_two_pow (n := 64) (by omega) (by omega)
              clear hy hYY sp
              go_wp2_with fail
              go_meet
              exact ⟨rfl, Vb, rfl⟩
            · have hE : decide ((k : Int) + 1 < 5) = false := by simp; omega
              have VE : V = v0 := by rw [HV.out, outV, ← K.out, ← S.out, if_neg h5, ← X0.out, ← V0.out]
              have VE2 := Lib.hid VE
              clear VE
              go_wp2_with fail
              go_meet
              exact ⟨by rw [VE2.out], by rw [VE2.out]; omega, rfl⟩
          case rest =>
          obtain ⟨rfl, hVb, rfl⟩ := hcut
          obtain ⟨B, hB⟩ : ∃ B, B = X / 256 ^ i % 256 := ⟨_, rfl⟩
          have VB : Hid (V % 256 = B) := by
            show V % 256 = B
            rw [HV.out, LL.out, hB]
            exact outV_byte X i hlt
          have Bb : B ≤ 255 := by rw [hB]; omega
          obtain ⟨kb, hkb⟩ : ∃ y, y = key.getD (16 + i) 0 := ⟨_, rfl⟩
          have a3 := row_cell SA.out.bk.b (16 + i) (W8_get key (16 + i) (by rw [HK.out]; omega))
          rw [← hkb] at a3
          have kb8 := kb.toNat_lt
          have e3 : IntKind.u64.wrap (kb.toNat : Int) = (kb.toNat : Int) := wrap_u64 _ (by omega)
          have e4 : bits .and .u64 (V : Int) 255 = (B : Int) := by
            have h := u64_and_nat V 255 hVb (by omega)
            rw [show ((255 : Nat) : Int) = 255 from rfl] at h
            rw [h, show (255 : Nat) = 2 ^ 8 - 1 from rfl, Nat.and_two_pow_sub_one_eq_mod]
            have := VB.out
            omega
          have b3 : 16 + (i : Int) < 32 := by omega
          have b4 : (0 : Int) ≤ 16 + (i : Int) := by omega
          have e6 : (16 + (i : Int)).toNat = 16 + i := by omega
          have cb := CB.out
          have b5 : (B : Int) + (kb.toNat : Int) ≤ 600 := by omega
          have b6 : (cy : Int) + ((B : Int) + (kb.toNat : Int)) ≤ 600 := by omega
          obtain ⟨z, hz⟩ : ∃ z : UInt8, z = UInt8.ofNat (cy + (B + kb.toNat)) := ⟨_, rfl⟩
          have e7 : ((cy : Int) + ((B : Int) + (kb.toNat : Int))) % 256 = (z.toNat : Int) := by
            rw [hz, UInt8.toNat_ofNat']
            omega
          obtain ⟨cy', hcy'⟩ : ∃ c : Nat, c = (cy + (B + kb.toNat)) / 256 := ⟨_, rfl⟩
          have e8 : ((cy : Int) + ((B : Int) + (kb.toNat : Int))) / 256 = (cy' : Int) := by omega
          have a5 := row_cell SB.out.b i (W8_get _ i (by rw [partB_length, TL.out]; exact hlt))
          have f5 := row_free SB.out.b i
          have b7 : (i : Int) < 16 := by omega
          have KBE := Lib.hid (show kb = (key.drop 16).getD i 0 by rw [hkb, List.getD_eq_getElem?_getD, List.getD_eq_getElem?_getD, List.getElem?_drop])
          have BE := Lib.hid hB
          have ZE := Lib.hid hz
          have CE := Lib.hid hcy'
          clear hB hkb hz hcy' hVb
          go_wp2_with fail
          go_roundw
          case rel =>
            refine ⟨i + 1, by omega, by go_num, ?_, ?_, ?_⟩
            · rw [CE.out, tagK_next _ _ _ (by rw [KD.out]; exact hlt), ← CY.out, ← BE.out, ← KBE.out]
            · have hgr := grown1 wc M5 i (.int .u8 (z.toNat : Int))
              have h1 := M5L.out
              have h3 := SA.out.h3
              have h4 := SA.out.h4
              have h5 := SB.out.hg
              exact ⟨SA.out.bk.away (by omega) h5 hgr, SA.out.bo.away (by omega) h5 hgr, SA.out.br.away (by omega) h5 hgr, SA.out.ba.away (by omega) h5 hgr, h3, h4⟩
            · have := SB.out.set i z
              rw [show z = T.getD i 0 by rw [ZE.out, TT.out, tag_byte X _ KD.out i hlt, ← CY.out, ← BE.out, ← KBE.out], partB_set _ _ (by rw [TL.out]; exact hlt)] at this
              rw [show z = T.getD i 0 by rw [ZE.out, TT.out, tag_byte X _ KD.out i hlt, ← CY.out, ← BE.out, ← KBE.out]]
              exact this
          case measure => simp [intOf]; omega
        · have hi : Hid (i = 16) := show i = 16 by have := I.out; omega
          have hD2 : decide ((i : Int) < 16) = false := by simp; omega
          have SC := Lib.hid (show BW w 82 M5 T wr by have := SB.out; rw [hi.out, ← TL.out, partB_full] at this; exact this)
          go_wp2_with (first
            | (refine wpList_load_row rfl 82 (.tmp 10) rfl M5 rfl 82 (W8 T) (0, 0) _ SC.out.b Try.underlying82 rfl (info_16 TL.out) ?_)
            | (refine wpList_store_whole rfl rfl 82 (.tmp 4) (.tmp 89) rfl (w.heap.size + 1) (W8 T) rfl rfl 82 _ SA.out.bo.b (info_16 TL.out) (by rw [W8_size, W8_size, TL.out]; rfl) (W8_one _) ?_; intro w8 hz8 hg8 _))
          exact bodyPost_ret (results_cell_row rfl _ _ (w.heap.size + 1) 82 (W8 T) (0, 0) _ rfl hz8 Try.underlying82 rfl (info_16 TL.out)) rfl ⟨by rw [TT.out, XE.out, HH.out]; rfl, SA.out.bo.ret hg8⟩
end Go.Proofs.Ytldjiigkebkgcaa

/- Blocks of bytes of the call's own, the newest first. No condition but those each theorem states. -/
namespace Go.Proofs.Ytldjiigkebkgcaa
set_option linter.unusedVariables false
set_option linter.unusedSimpArgs false
open Go.RowKit

structure Bls (w : World) (bs : List (TypeId × Nat × List UInt8)) (W : World) : Prop where
  has : ∀ x ∈ bs, W.heap[x.2.1]? = some (.cells (W8 x.2.2) x.1 (0, 0))
  hg : ∀ x ∈ bs, w.heap.size ≤ x.2.1
  srt : bs.Pairwise (fun a b => b.2.1 < a.2.1)
  bel : Below w.heap.size w W
theorem Bls.start (w : World) : Bls w [] w := ⟨by simp, by simp, .nil, Below.refl _ _⟩
theorem Bls.blk {w W : World} {bs : List (TypeId × Nat × List UInt8)} (h : Bls w bs W) {t : TypeId} {g : Nat} {l : List UInt8} (hm : (t, g, l) ∈ bs) : W.heap[g]? = some (.cells (W8 l) t (0, 0)) := h.has _ hm
theorem Bls.cell {w W : World} {bs : List (TypeId × Nat × List UInt8)} (h : Bls w bs W) {t : TypeId} {g : Nat} {l : List UInt8} (hm : (t, g, l) ∈ bs) (i : Nat) (hi : i < l.length) : W.cell? ⟨g, i, none⟩ = some (.int .u8 ((l.getD i 0).toNat : Int)) := row_cell (h.blk hm) i (W8_get l i hi)
theorem Bls.free {w W : World} {bs : List (TypeId × Nat × List UInt8)} (h : Bls w bs W) {t : TypeId} {g : Nat} {l : List UInt8} (hm : (t, g, l) ∈ bs) (i : Nat) : W.frozen? ⟨g, i, none⟩ = false := row_free (h.blk hm) i
theorem Bls.rd {w W : World} {bs : List (TypeId × Nat × List UInt8)} (h : Bls w bs W) {t : TypeId} {g : Nat} {l : List UInt8} (hm : (t, g, l) ∈ bs) : RdB W (some ⟨g, 0, none⟩) l := RdB.row (h.blk hm)
theorem Bls.new {w W : World} {bs : List (TypeId × Nat × List UInt8)} (h : Bls w bs W) (t : TypeId) (l : List UInt8) {g : Nat} (hG : g = W.heap.size) : Bls w ((t, g, l) :: bs) (W.alloc (.cells (W8 l) t)) := by
  subst hG
  refine ⟨fun x hx => ?_, fun x hx => ?_, ?_, h.bel.alloc h.bel.size _⟩
  · rcases List.mem_cons.1 hx with rfl | hx
    · exact ha_new _ _ _ rfl
    · exact ha_old _ _ _ (row_lt (h.has x hx)) (h.has x hx)
  · rcases List.mem_cons.1 hx with rfl | hx
    · exact h.bel.size
    · exact h.hg x hx
  · exact List.pairwise_cons.2 ⟨fun x hx => row_lt (h.has x hx), h.srt⟩
theorem Bls.keep {w W W' : World} {bs : List (TypeId × Nat × List UInt8)} (h : Bls w bs W) (hb : Below W.heap.size W W') : Bls w bs W' :=
  ⟨fun x hx => below_block hb (row_lt (h.has x hx)) (h.has x hx), h.hg, h.srt, h.bel.trans (hb.mono h.bel.size)⟩
theorem Bls.drew {w W : World} {bs : List (TypeId × Nat × List UInt8)} (h : Bls w bs W) : Bls w bs W.drew := h.keep (Below.refl _ _).drew
/-- The newest one is written whole. -/
theorem Bls.whole {w W W' : World} {bs : List (TypeId × Nat × List UInt8)} {t : TypeId} {g : Nat} {l l' : List UInt8} (h : Bls w ((t, g, l) :: bs) W) (hb : W'.heap[g]? = some (.cells (W8 l') t (0, 0))) (hgr : W.grownBy W' (some g)) : Bls w ((t, g, l') :: bs) W' := by
  have hg0 := h.hg _ (List.mem_cons_self ..)
  refine ⟨fun x hx => ?_, fun x hx => ?_, ?_, h.bel.trans (grown_below hgr h.bel.size (by rintro k ⟨⟩; exact hg0))⟩
  · rcases List.mem_cons.1 hx with rfl | hx
    · exact hb
    · refine grown_block hgr (fun e => ?_) (h.has x (List.mem_cons_of_mem _ hx))
      have := (List.pairwise_cons.1 h.srt).1 x hx
      injection e with e
      simp at this
      omega
  · rcases List.mem_cons.1 hx with rfl | hx
    · exact hg0
    · exact h.hg x (List.mem_cons_of_mem _ hx)
  · exact List.pairwise_cons.2 ⟨fun x hx => (List.pairwise_cons.1 h.srt).1 x hx, (List.pairwise_cons.1 h.srt).2⟩
/-- A byte of the newest one is written. -/
theorem Bls.set {w W : World} {bs : List (TypeId × Nat × List UInt8)} {t : TypeId} {g : Nat} {l : List UInt8} (h : Bls w ((t, g, l) :: bs) W) (i : Nat) (x : UInt8) : Bls w ((t, g, l.set i x) :: bs) (W.setCell ⟨g, i, none⟩ (.int .u8 (x.toNat : Int))) :=
  h.whole (by rw [heap_setCell_same _ _ _ _ _ _ (h.blk (List.mem_cons_self ..)), W8_set]) (grown_set (World.grownBy.refl _ _) _ _)
theorem Bls.lt {w W : World} {bs : List (TypeId × Nat × List UInt8)} (h : Bls w bs W) {t : TypeId} {g : Nat} {l : List UInt8} (hm : (t, g, l) ∈ bs) : g < W.heap.size := row_lt (h.blk hm)
/-- The first cells of a row. -/
theorem range_row {W : World} {g : Nat} {t : TypeId} {l : List UInt8} (h : W.heap[g]? = some (.cells (W8 l) t (0, 0))) (off n : Nat) (hn : off + n ≤ l.length) : W.rangeAt g off (B8 ((l.drop off).take n)) := by
  intro j v hj
  have hjl : j < n := by
    have := (List.getElem?_eq_some_iff.1 hj).1
    rw [B8_length, List.length_take] at this
    omega
  rw [B8_get _ _ (by simp; omega)] at hj
  cases hj
  refine (row_cell h (off + j) (W8_get l (off + j) (by omega))).trans ?_
  rw [List.getD_eq_getElem?_getD, List.getD_eq_getElem?_getD, List.getElem?_take, if_pos hjl, List.getElem?_drop]
end Go.Proofs.Ytldjiigkebkgcaa

/- aead: Tag, Seal. No condition but those each theorem states. -/
namespace Go.Proofs.Ytldjiigkebkgcaa
set_option linter.unusedVariables false
set_option linter.unusedSimpArgs false
open Go.RowKit
attribute [local go_sem ↓] Go.wp_at_zero Go.wp_at_succ

/-- What the tag is over. -/
def overL (beside sealed : List UInt8) : List UInt8 := padB beside ++ padB sealed ++ leL 8 beside.length ++ leL 8 sealed.length
def tagL (k n beside sealed : List UInt8) : List UInt8 := polyL ((blockL k n 0).take 32) (overL beside sealed)
def sealL (k n beside text : List UInt8) : List UInt8 := streamL k n 1 text ++ tagL k n beside (streamL k n 1 text)
theorem tagL_length (k n beside sealed : List UInt8) : (tagL k n beside sealed).length = 16 := polyL_length _ _
theorem sealL_length (k n beside text : List UInt8) : (sealL k n beside text).length = text.length + 16 := by rw [sealL, List.length_append, streamL_length, tagL_length]
theorem overL_length (b s : List UInt8) : (overL b s).length ≤ b.length + s.length + 46 := by simp [overL, padB_length, leL_length]; omega
theorem run_load_bytes {P : Program} {o : Oper} {a : Act} (ty : TypeId) (x : Operand) (ho : o.op = .load ty x) (b off : Nat) (hx : a.eval x = .pointer (some ⟨b, off, none⟩)) (l : List UInt8) {W : World} (h : W.rangeAt b off (B8 l)) {d : TypeDesc} (hu : P.underlying ty = some d)
    (hd : d.isRow = true) (hi : (P.info? ty).map (·.size) = some (B8 l).length) : (execOp a.eval o).run P W = .ok (.value (.agg (W8 l))) W := by
  unfold execOp
  simp only [ho, hx, Instr.loadAt, Instr.sureAddr, Sem.run_bind, Sem.run_pure, Result.andThen_ok, run_loadVar_mid W b off _ _ _ h hu hd hi]
  rfl
/-- What stands while a tag is made. -/
structure TgW (w : World) (k n : List UInt8) (z : List UInt8) (W : World) : Prop where
  bk : W.heap[w.heap.size]? = some (.cells (W8 k) 37 (0, 0))
  bn : W.heap[w.heap.size + 1]? = some (.cells (W8 n) 47 (0, 0))
  bo : W.heap[w.heap.size + 1 + 1]? = some (.cells (W8 z) 82 (0, 0))
  bel : Below w.heap.size w W
theorem TgW.keep {w W W' : World} {k n z : List UInt8} (h : TgW w k n z W) {B : Nat} (hb : Below B W W') (hB : w.heap.size + 1 + 1 < B) : TgW w k n z W' :=
  ⟨below_block hb (by omega) h.bk, below_block hb (by omega) h.bn, below_block hb hB h.bo, h.bel.trans (hb.mono (by omega))⟩
theorem TgW.lt {w W : World} {k n z : List UInt8} (h : TgW w k n z W) : w.heap.size + 1 + 1 < W.heap.size := row_lt h.bo
theorem TgW.seto {w W W' : World} {k n z z' : List UInt8} (h : TgW w k n z W) (hz : W'.heap[w.heap.size + 1 + 1]? = some (.cells (W8 z') 82 (0, 0))) (hg : W.grownBy W' (some (w.heap.size + 1 + 1))) : TgW w k n z' W' :=
  ⟨grown_block hg (by simp; omega) h.bk, grown_block hg (by simp) h.bn, hz, h.bel.trans (grown_below hg h.bel.size (by rintro g ⟨⟩; omega))⟩
set_option maxRecDepth 100000 in
set_option maxHeartbeats 4000000 in
theorem tag_any (k n : List UInt8) (hk : k.length = 32) (hn : n.length = 12) (w : World) (A : Option Addr) (q c : Nat) (l : List UInt8) (hq : l.length = q) (hR : RdB w A l) (A2 : Option Addr) (q2 c2 : Nat) (l2 : List UInt8) (hq2 : l2.length = q2) (hR2 : RdB w A2 l2) (hl : q ≤ 70000) (hl2 : q2 ≤ 100000) :
    Calls Try.prog 33 #[.agg (W8 k), .agg (W8 n), .slice A q c, .slice A2 q2 c2] w fun e w' => e = .returned (.agg (W8 (tagL k n l l2))) ∧ Below w.heap.size w w' := by
  have HK := Lib.hid hk
  have HN := Lib.hid hn
  have HQ := Lib.hid hq
  have HQ2 := Lib.hid hq2
  have HR := Lib.hid hR
  have HR2 := Lib.hid hR2
  have ZK := Lib.hid (show (Try.prog.info? 37).map (·.size) = some (W8 k).size by rw [W8_size, hk]; kernel_rfl)
  have ZN := Lib.hid (show (Try.prog.info? 47).map (·.size) = some (W8 n).size by rw [W8_size, hn]; kernel_rfl)
  have ZZ := Lib.hid zero16
  obtain ⟨T, hT⟩ : ∃ T, T = tagL k n l l2 := ⟨_, rfl⟩
  rw [← hT]
  have TE := Lib.hid hT
  have QB := Lib.hid (And.intro hl hl2)
  have qb : (q : Int) ≤ 70000 := by omega
  have qb2 : (q2 : Int) ≤ 100000 := by omega
  clear hk hn hq hq2 hR hR2 hT hl hl2
  go_enter Try.func33, Try.ntmps33
  go_upto_region 1 with fail
  rw [← ZZ.out]
  generalize hw1 : World.alloc w _ = w0
  generalize hw2 : World.alloc w0 _ = w1
  generalize hw3 : World.alloc w1 _ = w2
  have S := Lib.hid (show TgW w k n Z16 w2 by
    have s0 : w0.heap.size = w.heap.size + 1 := by rw [← hw1, ha_size]
    have s1 : w1.heap.size = w.heap.size + 1 + 1 := by rw [← hw2, ha_size, s0]
    have b0 : w0.heap[w.heap.size]? = some (.cells (W8 k) 37 (0, 0)) := by rw [← hw1]; exact ha_new _ _ _ rfl
    have b1 : w1.heap[w.heap.size + 1]? = some (.cells (W8 n) 47 (0, 0)) := by rw [← hw2]; exact ha_new _ _ _ s0.symm
    have b2 : w2.heap[w.heap.size + 1 + 1]? = some (.cells (W8 Z16) 82 (0, 0)) := by rw [← hw3]; exact ha_new _ _ _ s1.symm
    have h0 : Below w.heap.size w w0 := by rw [← hw1]; exact below_new _ _
    have h1 : Below w0.heap.size w0 w1 := by rw [← hw2]; exact below_new _ _
    have h2 : Below w1.heap.size w1 w2 := by rw [← hw3]; exact below_new _ _
    exact ⟨below_block h2 (by omega) (below_block h1 (by omega) b0), below_block h2 (by omega) b1, b2, h0.trans ((h1.mono (by omega)).trans (h2.mono (by omega)))⟩)
  clear hw1 hw2 hw3
  go_wp2_with (first
    | (refine wpList_val rfl (run_load_row 37 (.tmp 4) rfl w.heap.size rfl 37 (W8 k) (0, 0) _ S.out.bk Try.underlying37 rfl ZK.out) ?_)
    | (refine wpList_val rfl (run_load_row 47 (.tmp 5) rfl (w.heap.size + 1) rfl 47 (W8 n) (0, 0) _ S.out.bn Try.underlying47 rfl ZN.out) ?_))
  refine (block_any k n HK.out HN.out 0 w2).mono ?_
  obtain ⟨B, hB⟩ : ∃ B, B = blockL k n 0 := ⟨_, rfl⟩
  rw [← hB]
  have BE := Lib.hid hB
  have BL := Lib.hid (show B.length = 64 by rw [hB, blockL_length])
  have ZB := Lib.hid (show (Try.prog.info? 94).map (·.size) = some (W8 B).size by rw [W8_size, BL.out]; kernel_rfl)
  rintro e w3 ⟨rfl, hb⟩
  have S := Lib.hid (S.out.keep hb S.out.lt)
  clear hb hB
  go_upto_region 2 with (refine wpList_store_new rfl rfl 94 (.tmp 9) (.tmp 13) rfl (W8 B) rfl rfl ZB.out ?c1 (W8_one _) ?_)
  case c1 => rw [W8_size, BL.out]; rfl
  have MW0 := Lib.hid S.out.lt
  generalize hM : Array.size (World.heap w3) = M at *
  generalize hw : World.alloc w3 _ = w4
  have GB := Lib.hid (show w4.heap[M]? = some (.cells (W8 B) 94 (0, 0)) by rw [← hw]; exact ha_new _ _ _ hM.symm)
  have S := Lib.hid (show TgW w k n Z16 w4 by rw [← hw]; exact S.out.keep (below_new _ _) S.out.lt)
  clear hM hw
  obtain ⟨base, hbase⟩ : ∃ b, b = w4.heap.size := ⟨_, rfl⟩
  have BZ := Lib.hid hbase
  have MB := Lib.hid (show M < base by rw [hbase]; exact row_lt GB.out)
  have MW := Lib.hid (show w.heap.size + 1 + 1 < M from MW0.out)
  have LB := Lib.hid (show w.heap.size + 1 + 1 < base by rw [hbase]; exact S.out.lt)
  clear hbase
  go_wp2_with fail
  refine (padded_any w4 base (.slice none 0 0) [] A q c l HQ.out (OwnB.nil _ _) (by rw [BZ.out]; exact Nat.le_refl _) (HR.out.keep S.out.bel) (by have := QB.out; simp; omega)).mono ?_
  rw [List.nil_append]
  rintro e w5 ⟨v, rfl, ho, hb⟩
  have O := Lib.hid ho
  have GB := Lib.hid (below_block hb MB.out GB.out)
  have S := Lib.hid (S.out.keep hb LB.out)
  have SZ := Lib.hid (show base ≤ w5.heap.size by rw [BZ.out]; exact hb.size)
  clear ho hb BZ
  go_wp2_with fail
  refine (padded_any w5 base v (padB l) A2 q2 c2 l2 HQ2.out O.out SZ.out (HR2.out.keep S.out.bel) (by have := QB.out; rw [padB_length]; have := HQ.out; omega)).mono ?_
  rw [padB_app]
  rintro e w6 ⟨v2, rfl, ho, hb⟩
  have O := Lib.hid ho
  have GB := Lib.hid (below_block hb MB.out GB.out)
  have S := Lib.hid (S.out.keep hb LB.out)
  have SZ := Lib.hid (Nat.le_trans SZ.out hb.size)
  clear ho hb
  go_upto_region 3 with fail
  obtain ⟨i0, hi0, hz0, hz1, hz2⟩ := info_parts (show (Try.prog.info? 5).map (fun i => (i.zero, i.size, i.bytes)) = some (some (.int .u8 0), 1, 1) by kernel_rfl)
  have I0 := Lib.hid hi0
  have ZX := Lib.hid (show (Try.prog.info? 36).map (·.size) = some (B8 (B.take 32)).length by rw [B8_length, List.length_take, BL.out]; kernel_rfl)
  have KL := Lib.hid (show (B.take 32).length = 32 by rw [List.length_take, BL.out]; rfl)
  clear hi0 hz0 hz1 hz2
  have C := Lib.hid (show TgW w k n Z16 w6.drew ∧ w6.drew.heap[M]? = some (.cells (W8 B) 94 (0, 0)) from ⟨S.out.keep (Below.refl _ _).drew S.out.lt, GB.out⟩)
  refine wp_region_road (fun W => (∃ z, TgW w k n z W) ∧ W.heap[M]? = some (.cells (W8 B) 94 (0, 0))) [(true, 0), (true, 1), (true, 2), (true, 3), (true, 4), (true, 5), (true, 7), (true, 8), (false, 6), (false, 9), (false, 10), (false, 11)] (by kernel_rfl) (by kernel_rfl) (fun _ _ d _ _ h => by cases d <;> exact h) ?_
  simp only [List.filterMap_cons, List.filterMap_nil, List.getElem?_toArray, List.getElem?_cons_zero, List.getElem?_cons_succ, Option.map_some]
  refine planG_q (by rfl) (⟨⟨_, C.out.1⟩, C.out.2⟩) (fun W hW => run_arr_to 94 (.tmp 9) (.const (.int .i64 32)) rfl 64 5 Try.underlying94 I0.out M 32 (by omega) rfl rfl W) ?_
  simp only [Act.put, List.setIfInBounds_toArray, List.set_cons_zero, List.set_cons_succ]
  refine planG_q (by rfl) (⟨⟨_, C.out.1⟩, C.out.2⟩) (fun W hW => run_sl2arr 36 (.tmp 18) rfl 32 5 Try.underlying36 (some ⟨M, 0, none⟩) 32 64 rfl (Nat.le_refl _) W) ?_
  simp only [Act.put, List.setIfInBounds_toArray, List.set_cons_zero, List.set_cons_succ]
  refine planG_q (by rfl) (⟨⟨_, C.out.1⟩, C.out.2⟩) (fun W hW => run_load_bytes 36 (.tmp 19) rfl M 0 rfl (B.take 32) (range_row hW.2 0 32 (by rw [BL.out]; omega)) Try.underlying36 rfl ZX.out) ?_
  simp only [Act.put, List.setIfInBounds_toArray, List.set_cons_zero, List.set_cons_succ]
  refine planG_q (v := ?_) (by rfl) (⟨⟨_, C.out.1⟩, C.out.2⟩) ?_ ?_
  rotate_left
  · intro W hW
    go_simp
    with_reducible rfl
  simp only [Act.put, List.setIfInBounds_toArray, List.set_cons_zero, List.set_cons_succ]
  refine planG_q (v := ?_) (by rfl) (⟨⟨_, C.out.1⟩, C.out.2⟩) ?_ ?_
  rotate_left
  · intro W hW
    go_simp
    with_reducible rfl
  simp only [Act.put, List.setIfInBounds_toArray, List.set_cons_zero, List.set_cons_succ]
  refine planG_q (v := ?_) (by rfl) (⟨⟨_, C.out.1⟩, C.out.2⟩) ?_ ?_
  rotate_left
  · intro W hW
    go_simp
    with_reducible rfl
  simp only [Act.put, List.setIfInBounds_toArray, List.set_cons_zero, List.set_cons_succ]
  refine planG_q (v := ?_) (by rfl) (⟨⟨_, C.out.1⟩, C.out.2⟩) ?_ ?_
  rotate_left
  · intro W hW
    go_simp
    with_reducible rfl
  simp only [Act.put, List.setIfInBounds_toArray, List.set_cons_zero, List.set_cons_succ]
  refine planG_q (v := ?_) (by rfl) (⟨⟨_, C.out.1⟩, C.out.2⟩) ?_ ?_
  rotate_left
  · intro W hW
    go_simp
    with_reducible rfl
  simp only [Act.put, List.setIfInBounds_toArray, List.set_cons_zero, List.set_cons_succ]
  refine planG_t (by rfl) (fun K hK => ?_)
  go_simp
  refine (count_any w6.drew base v2 (padB l ++ padB l2) O.out.drew SZ.out q (by omega) (by have := QB.out; simp [padB_length]; have := HQ.out; have := HQ2.out; omega)).mono ?_
  rintro e w7 ⟨v3, rfl, ho, hb⟩
  have O := Lib.hid ho
  have C := Lib.hid (show TgW w k n Z16 w7 ∧ w7.heap[M]? = some (.cells (W8 B) 94 (0, 0)) from ⟨C.out.1.keep hb LB.out, below_block hb MB.out C.out.2⟩)
  have SZ := Lib.hid (Nat.le_trans SZ.out hb.size)
  clear ho hb
  refine hK.out _ _ (⟨⟨_, C.out.1⟩, C.out.2⟩) ?_
  clear hK K
  refine planG_t (by rfl) (fun K hK => ?_)
  go_simp
  refine (count_any w7 base v3 _ O.out SZ.out q2 (by omega) (by have := QB.out; simp [padB_length, leL_length]; have := HQ.out; have := HQ2.out; omega)).mono ?_
  obtain ⟨V, hV⟩ : ∃ V, V = padB l ++ padB l2 ++ leL 8 q ++ leL 8 q2 := ⟨_, rfl⟩
  rw [← hV]
  have VE := Lib.hid (show V = overL l l2 by rw [hV, overL, HQ.out, HQ2.out])
  rintro e w8 ⟨v4, rfl, ho, hb⟩
  obtain ⟨A5, c5, rfl, hr5, hl5, _, _⟩ := ho.read
  obtain ⟨m, hm⟩ : ∃ m, m = V.length := ⟨_, rfl⟩
  rw [← hm] at hl5 ⊢
  have R5 := Lib.hid hr5
  have L5 := Lib.hid hl5
  have M5 := Lib.hid hm.symm
  have MV := Lib.hid (show m ≤ 200000 by have := overL_length l l2; rw [← VE.out] at this; have := QB.out; have := HQ.out; have := HQ2.out; omega)
  have C := Lib.hid (show TgW w k n Z16 w8 ∧ w8.heap[M]? = some (.cells (W8 B) 94 (0, 0)) from ⟨C.out.1.keep hb LB.out, below_block hb MB.out C.out.2⟩)
  have SZ := Lib.hid (Nat.le_trans SZ.out hb.size)
  clear ho hb hr5 hl5 hm hV O
  refine hK.out _ _ (⟨⟨_, C.out.1⟩, C.out.2⟩) ?_
  clear hK K
  refine planG_t (by rfl) (fun K hK => ?_)
  go_simp
  refine (polySum_any (B.take 32) KL.out w8 A5 m c5 V M5.out L5.out R5.out (by have := MV.out; omega)).mono ?_
  rw [show polyL (B.take 32) V = T by rw [TE.out, tagL, VE.out, BE.out]]
  rintro e w9 ⟨rfl, hb⟩
  have C := Lib.hid (show TgW w k n Z16 w9 ∧ w9.heap[M]? = some (.cells (W8 B) 94 (0, 0)) from ⟨C.out.1.keep hb C.out.1.lt, below_block hb (row_lt C.out.2) C.out.2⟩)
  have ZT := Lib.hid (show (Try.prog.info? 82).map (·.size) = some (W8 T).size by rw [W8_size, TE.out, tagL_length]; kernel_rfl)
  clear hb
  refine hK.out _ _ (⟨⟨_, C.out.1⟩, C.out.2⟩) ?_
  clear hK K
  refine planG_t (by rfl) (fun K hK => ?_)
  refine storeW_wp 82 (.tmp 8) (.tmp 28) rfl (w.heap.size + 1 + 1) (W8 T) rfl rfl _ _ C.out.1.bo ZT.out (by rw [W8_size, W8_size, TE.out, tagL_length]; rfl) (W8_one _) ?_
  intro w10 hz10 hg10 _
  have C10 := Lib.hid (C.out.1.seto hz10 hg10)
  have G10 := Lib.hid (grown_block hg10 (by have := MW.out; simp; omega) C.out.2)
  clear hz10 hg10
  refine hK.out _ _ (⟨⟨_, C10.out⟩, G10.out⟩) ?_
  clear hK K
  refine planG_nil ?_
  go_wp2_with fail
  refine bodyPost_ret (results_cell_row rfl _ _ (w.heap.size + 1 + 1) 82 (W8 T) (0, 0) _ rfl C10.out.bo Try.underlying82 rfl ZT.out) rfl ⟨rfl, C10.out.bel⟩
set_option maxRecDepth 100000 in
set_option maxHeartbeats 4000000 in
theorem seal_go (k n : List UInt8) (hk : k.length = 32) (hn : n.length = 12) (w : World) (A : Option Addr) (q c : Nat) (l : List UInt8) (hq : l.length = q) (hR : RdB w A l) (A2 : Option Addr) (q2 c2 : Nat) (l2 : List UInt8) (hq2 : l2.length = q2) (hc2 : q2 ≤ c2) (hR2 : RdB w A2 l2) (hl : q ≤ 70000) (hl2 : q2 ≤ 70000) :
    Calls Try.prog 16 #[.agg (W8 k), .agg (W8 n), .slice A q c, .slice A2 q2 c2] w fun e w' => ∃ v, e = .returned v ∧ OwnB w' w.heap.size v (sealL k n l l2) ∧ Below w.heap.size w w' := by
  have TB := Lib.hid (show ByteT Try.prog from ⟨Try.underlying23, by kernel_rfl⟩)
  have HK := Lib.hid hk
  have HN := Lib.hid hn
  have HQ := Lib.hid hq
  have HQ2 := Lib.hid hq2
  have HR := Lib.hid hR
  have HR2 := Lib.hid hR2
  have HC2 := Lib.hid hc2
  have ZK := Lib.hid (show (Try.prog.info? 37).map (·.size) = some (W8 k).size by rw [W8_size, hk]; kernel_rfl)
  have ZN := Lib.hid (show (Try.prog.info? 47).map (·.size) = some (W8 n).size by rw [W8_size, hn]; kernel_rfl)
  have QB := Lib.hid (And.intro hl hl2)
  obtain ⟨i0, hi0, hz0, hz1, hz2⟩ := info_parts (show (Try.prog.info? 5).map (fun i => (i.zero, i.size, i.bytes)) = some (some (.int .u8 0), 1, 1) by kernel_rfl)
  have I0 := Lib.hid hi0
  clear hk hn hq hq2 hR hR2 hl hl2 hc2 hi0 hz0 hz1 hz2
  go_enter Try.func16, Try.ntmps16
  go_upto_region 1 with fail
  generalize hw1 : World.alloc w _ = w0
  generalize hw2 : World.alloc w0 _ = w1
  have S := Lib.hid (show StrW w k n w1 by rw [← hw2, ← hw1]; exact str_start w k n)
  clear hw1 hw2
  go_wp2_with (first
    | (refine wpList_val rfl (run_load_row 37 (.tmp 4) rfl w.heap.size rfl 37 (W8 k) (0, 0) _ S.out.bk Try.underlying37 rfl ZK.out) ?_)
    | (refine wpList_val rfl (run_load_row 47 (.tmp 5) rfl (w.heap.size + 1) rfl 47 (W8 n) (0, 0) _ S.out.bn Try.underlying47 rfl ZN.out) ?_))
  have SA := Lib.hid (stream_go k n HK.out HN.out 1 w1 A2 c2 l2 (HR2.out.keep S.out.bel) (by rw [HQ2.out]; exact HC2.out) (by have := QB.out; have := HQ2.out; omega))
  rw [HQ2.out] at SA
  refine SA.out.mono ?_
  obtain ⟨X, hX⟩ : ∃ X, X = streamL k n 1 l2 := ⟨_, rfl⟩
  rw [← hX]
  have XE := Lib.hid hX
  have XL := Lib.hid (show X.length = q2 by rw [hX, streamL_length, HQ2.out])
  rintro e w2 ⟨v, rfl, ho, hb⟩
  obtain ⟨Ax, cx, rfl, hrx, _, _, hbx⟩ := ho.read
  rw [XL.out] at ho ⊢
  have O := Lib.hid ho
  have RX := Lib.hid hrx
  have BX := Lib.hid (show ∀ g, (Value.slice Ax q2 cx).ownBlock = some g → w.heap.size + 1 < g from fun g e => by have := (ho.lt g e).1; have := S.out.size; omega)
  have N1 := Lib.hid S.out.bel.size
  have N2 := Lib.hid hb.size
  have S := Lib.hid (S.out.below hb)
  clear ho hb hrx hX hbx SA
  go_wp2_with (first
    | (refine wpList_val rfl (run_load_row 37 (.tmp 4) rfl w.heap.size rfl 37 (W8 k) (0, 0) _ S.out.bk Try.underlying37 rfl ZK.out) ?_)
    | (refine wpList_val rfl (run_load_row 47 (.tmp 5) rfl (w.heap.size + 1) rfl 47 (W8 n) (0, 0) _ S.out.bn Try.underlying47 rfl ZN.out) ?_))
  refine (tag_any k n HK.out HN.out w2 A q c l HQ.out (HR.out.keep S.out.bel) Ax q2 cx X XL.out RX.out (by have := QB.out; omega) (by have := QB.out; omega)).mono ?_
  obtain ⟨T, hT⟩ : ∃ T, T = tagL k n l X := ⟨_, rfl⟩
  rw [← hT]
  have TE := Lib.hid (show X ++ T = sealL k n l l2 by rw [hT, XE.out]; rfl)
  have TL := Lib.hid (show T.length = 16 by rw [hT, tagL_length])
  have ZT := Lib.hid (show (Try.prog.info? 82).map (·.size) = some (W8 T).size by rw [W8_size, TL.out]; kernel_rfl)
  rintro e w3 ⟨rfl, hb⟩
  have O := Lib.hid (O.out.below hb)
  have S := Lib.hid (S.out.below hb)
  have N3 := Lib.hid (Nat.le_trans N2.out hb.size)
  clear hb hT RX
  go_upto_region 3 with (refine wpList_store_new rfl rfl 82 (.tmp 10) (.tmp 19) rfl (W8 T) rfl rfl ZT.out ?c1 (W8_one _) ?_)
  case c1 => rw [W8_size, TL.out]; rfl
  generalize hM : Array.size (World.heap w3) = M
  generalize hw : World.alloc w3 _ = w4
  have RT := Lib.hid (show RdB w4 (some ⟨M, 0, none⟩) T from RdB.row (t := 82) (fr := (0, 0)) (by rw [← hw]; exact ha_new _ _ _ hM.symm))
  have O := Lib.hid (show OwnB w4 w1.heap.size (.slice Ax q2 cx) X by rw [← hw]; exact O.out.alloc _)
  have S := Lib.hid (show StrW w k n w4 by rw [← hw]; exact S.out.below (below_new _ _))
  have SL := Lib.hid (show w1.heap.size ≤ w4.heap.size ∧ w.heap.size ≤ w1.heap.size from ⟨by rw [← hw, ha_size]; exact Nat.le_succ_of_le N3.out, N1.out⟩)
  clear hM hw
  go_wp2_with (first
    | (refine wpList_val rfl (run_arr_all 82 (.tmp 10) rfl 16 5 Try.underlying82 I0.out M rfl _) ?_)
    | (refine app_list rfl TB.out (.tmp 20) (.tmp 21) rfl w1.heap.size _ X T (some ⟨M, 0, none⟩) 16 16 rfl rfl TL.out O.out RT.out SL.out.1 (by have := XL.out; have := QB.out; omega) ?_; intro v5 w5 ho5 hg5 _))
  go_ret
  refine ⟨_, rfl, by rw [← TE.out]; exact ho5.mono SL.out.2, S.out.bel.trans (grown_below hg5 S.out.bel.size (fun g e => by have := BX.out g e; omega))⟩
theorem seal_any (k n : List UInt8) (hk : k.length = 32) (hn : n.length = 12) (w : World) (A : Option Addr) (q c : Nat) (l : List UInt8) (hq : l.length = q) (hR : RdB w A l) (A2 : Option Addr) (q2 c2 : Nat) (l2 : List UInt8) (hq2 : l2.length = q2) (hc2 : q2 ≤ c2) (hR2 : RdB w A2 l2) (hlt : ∀ a, A2 = some a → a.block < w.heap.size) (hl : q ≤ 70000) (hl2 : q2 ≤ 70000) :
    Calls Try.prog 16 #[.agg (W8 k), .agg (W8 n), .slice A q c, .slice A2 q2 c2] w fun e w' => ∃ v, e = .returned v ∧ OwnB w' w.heap.size v (sealL k n l l2) ∧ Below w.heap.size w w' := seal_go k n hk hn w A q c l hq hR A2 q2 c2 l2 hq2 hc2 hR2 hl hl2
end Go.Proofs.Ytldjiigkebkgcaa

/- box.Box: real. No condition but those each theorem states. -/
namespace Go.Proofs.Ytldjiigkebkgcaa
set_option linter.unusedVariables false
set_option linter.unusedSimpArgs false
open Go.RowKit
attribute [local go_sem ↓] Go.wp_at_zero Go.wp_at_succ

/-- append(s, ys...) where s has no room: a new row, at an operation. -/
theorem appg_wp {P : Program} {o : Oper} {a : Act} {Q : Exit → Act → World → Prop} {K : Act → World → Prop} (T : ByteT P) (s x : Operand) (ho : o.op = .call { callee := .builtin .append, args := #[s, x], argTypes := #[23, 23] }) {W : World}
    (A : Addr) (n c : Nat) (l ys : List UInt8) (Ax : Addr) (m cx : Nat) (hs : a.eval s = .slice (some A) n c) (hx : a.eval x = .slice (some Ax) m cx) (hn : l.length = n) (hm : ys.length = m) (HS : RdB W (some A) l) (HR : RdB W (some Ax) ys) (hfull : c < n + m) (hl : n + m ≤ 140737488355328)
    (h : ∀ v1 w1, OwnB w1 W.heap.size v1 (l ++ ys) → W.grownBy w1 none → K (a.put o.dst v1) w1) : o.wp P a W K Q := by
  obtain ⟨i0, hi, hzz⟩ := Option.map_eq_some_iff.1 T.hinfo
  simp only [Prod.mk.injEq] at hzz
  obtain ⟨hz0, hz1, hz2⟩ := hzz
  have rd : ∀ (ad : Addr) (l : List UInt8), RdB W (some ad) l → ∀ j u, (B8 l)[j]? = some u → W.cell? (ad.add j) = some u := by
    intro ad l hl j u hu
    have hj : j < l.length := by
      have := (List.getElem?_eq_some_iff.1 hu).1
      rwa [B8_length] at this
    obtain ⟨b', o', e', hc'⟩ := hl j hj
    injection e' with e'
    subst e'
    rw [add_at, hc', ← B8_get _ j hj, hu]
  obtain ⟨v', w', hrun, r1, r2⟩ := run_append_arg_grows (P := P) W 23 o.type 5 i0 (.int .u8 0) 1 1 T.ht hi hz0 hz1 hz2 rfl (by omega) A n c (B8 l) (by rw [B8_length, hn, Nat.mul_one]) (rd A l HS) Ax m cx (B8 ys) (by rw [B8_length, hm, Nat.mul_one]) (rd Ax ys HR) hfull (by unfold maxLen; omega) (by omega)
  have hrun' : (Builtin.append_ #[23, 23] o.type #[.slice (some A) n c, .slice (some Ax) m cx]).run P W = .ok v' w' := hrun
  unfold Oper.wp execOp
  simp only [ho, resolve, invoke, builtin, Sem.run_bind, Sem.run_pure, Result.andThen_ok, List.map_toArray, List.map_cons, List.map_nil, hs, hx, hrun']
  refine h v' w' ?_ r2
  rw [OwnB, List.length_append, hn, hm, B8_append]
  exact r1
theorem who_key {W : World} {M : Nat} {k bs : List UInt8} {T : TypeId} {fr : Nat × Nat} (h : W.heap[M]? = some (.cells (WhoL k bs).toArray T fr)) : W.rangeAt M 0 (B8 k) := by
  intro j v hj
  refine row_cell h (0 + j) ?_
  have hl : j < (B8 k).length := (List.getElem?_eq_some_iff.1 hj).1
  rw [Nat.zero_add, List.getElem?_toArray, WhoL, List.getElem?_append_left hl, hj]
theorem who_bes {k bs : List UInt8} (hk : k.length = 32) : (WhoL k bs).toArray[32]? = some (.string (strB bs)) := by
  rw [List.getElem?_toArray, WhoL, List.getElem?_append_right (by rw [B8_length, hk]; exact Nat.le_refl _), B8_length, hk]
  rfl
theorem run_zero_ent {o : Oper} {a : Act} (ho : o.op = .build 77 #[]) (W : World) : (execOp a.eval o).run Try.prog W = .ok (.value EntZ) W := by
  have h2 : ∀ W : World, (Instr.build 77 #[]).run Try.prog W = .ok EntZ W := by
    intro W
    kernel_rfl
  unfold execOp
  simp only [ho, List.map_toArray, List.map_nil, Sem.run_bind, h2, Result.andThen_ok, Sem.run_pure]
/-- What the cipher makes of the next bytes of the source. -/
def realL (s : BSt) (k bs t : List UInt8) : List UInt8 := tellS s.F s.u 12 ++ sealL k (tellS s.F s.u 12) bs t
theorem realL_length (s : BSt) (k bs t : List UInt8) : (realL s k bs t).length = t.length + 28 := by rw [realL, List.length_append, tellS_length, sealL_length]; omega
/-- Sealed by the cipher. -/
def RealP (w0 : World) (g S D b lo : Nat) (w : World) (s : BSt) (x : List UInt8) (w' : World) (A : Option Addr) (m c : Nat) : Prop :=
  RdB w' A x ∧ x.length = m ∧ m ≤ c ∧ (∀ a, A = some a → w.heap.size ≤ a.block ∧ a.block < w'.heap.size) ∧
    (∃ m', BoxB w0 g S D b lo { s with u := s.u + 12, m := m', n := s.n + 1 } w' ∧ (∀ y, knownM m' y = (knownM s.m y || decide (y = x))) ∧ m'.length ≤ s.m.length + 1) ∧ BoxF g S b w w'
theorem knownM_append (m : List (List UInt8 × Ent)) (x : List UInt8) (e : Ent) (y : List UInt8) : knownM (m ++ [(x, e)]) y = (knownM m y || decide (y = x)) := by
  simp only [knownM, List.any_append, List.any_cons, List.any_nil, Bool.or_false]
  congr 1
  exact decide_eq_decide.2 eq_comm
theorem knownM_set (m : List (List UInt8 × Ent)) (j : Nat) (x : List UInt8) (e e0 : Ent) (hj : m[j]? = some (x, e0)) (y : List UInt8) : knownM (m.set j (x, e)) y = (knownM m y || decide (y = x)) := by
  have hlt : j < m.length := (List.getElem?_eq_some_iff.1 hj).1
  have hkx : knownM m x = true := by
    simp only [knownM, List.any_eq_true, decide_eq_true_eq]
    exact ⟨_, List.mem_of_getElem? hj, rfl⟩
  have e1 : knownM (m.set j (x, e)) y = knownM m y := by
    have h1 : ∀ l : List (List UInt8 × Ent), knownM l y = (l.map (·.1)).any fun p => decide (p = y) := by
      intro l
      simp [knownM, List.any_map, Function.comp_def]
    rw [h1, h1, List.map_set]
    congr 1
    apply List.ext_getElem?
    intro i
    rw [List.getElem?_set]
    split
    · rename_i hi
      subst hi
      have h2 : m[j] = (x, e0) := by rw [List.getElem?_eq_getElem hlt] at hj; exact Option.some.inj hj
      simp [hlt, h2]
    · rfl
  rw [e1]
  by_cases hy : y = x
  · rw [hy, hkx]; rfl
  · simp [hy]
set_option maxRecDepth 100000 in
set_option maxHeartbeats 4000000 in
theorem real_any (w0 : World) (g S D b lo : Nat) (s : BSt) (w : World) (h : BoxB w0 g S D b lo s w) (k bs : List UInt8) (hk : k.length = 32) (hbs : bs.length ≤ 60000) (A : Option Addr) (q c : Nat) (l : List UInt8) (hq : l.length = q) (hc : q ≤ c) (hR : RdB w A l) (hO : l ≠ [] → ∀ a, A = some a → a.block ≠ g ∧ a.block ≠ S ∧ a.block ≠ b)
    (hq2 : q ≤ 60000) (hu : s.u + 12 ≤ 900000) (hF : s.F.length ≤ 100000) (hm : s.m.length ≤ 10000) (hn : s.n ≤ 100000) (hlo : lo ≤ w.heap.size) :
    Calls Try.prog 28 #[.pointer (some ⟨g, 0, none⟩), .agg (WhoL k bs).toArray, .slice A q c] w fun e w' => ∃ A2 m2 c2, e = .returned (.slice A2 m2 c2) ∧ RealP w0 g S D b lo w s (realL s k bs l) w' A2 m2 c2 := by
  have TB := Lib.hid (show ByteT Try.prog from ⟨Try.underlying23, by kernel_rfl⟩)
  have H := Lib.hid h
  have HK := Lib.hid hk
  have HB := Lib.hid hbs
  have HQ := Lib.hid hq
  have HC := Lib.hid hc
  have HR := Lib.hid hR
  have HO := Lib.hid hO
  have Q2 := Lib.hid hq2
  have HU := Lib.hid hu
  have HF := Lib.hid hF
  have HM := Lib.hid hm
  have HN := Lib.hid hn
  have HL := Lib.hid hlo
  obtain ⟨cs, hcs⟩ : ∃ cs, cs = (WhoL k bs).toArray := ⟨_, rfl⟩
  have CE := Lib.hid hcs
  rw [← hcs]
  obtain ⟨N, hN⟩ : ∃ N, N = tellS s.F s.u 12 := ⟨_, rfl⟩
  have NE := Lib.hid hN
  have NL := Lib.hid (show N.length = 12 by rw [hN, tellS_length])
  obtain ⟨T, hT⟩ : ∃ T, T = sealL k N bs l := ⟨_, rfl⟩
  have TE := Lib.hid hT
  have TL := Lib.hid (show T.length = q + 16 by rw [hT, sealL_length, hq])
  have RE := Lib.hid (show realL s k bs l = N ++ T by rw [realL, hT, hN])
  have XL := Lib.hid (show (N ++ T).length = q + 28 by rw [List.length_append, NL.out, TL.out]; omega)
  have ZN := Lib.hid (show (Try.prog.info? 47).map (·.size) = some (B8 N).length by rw [B8_length, NL.out]; kernel_rfl)
  have ZN2 := Lib.hid (show (Try.prog.info? 47).map (·.size) = some (W8 N).size by rw [W8_size, NL.out]; kernel_rfl)
  have ZK := Lib.hid (show (Try.prog.info? 37).map (·.size) = some (B8 k).length by rw [B8_length, hk]; kernel_rfl)
  have LT := Lib.hid (show g < w.heap.size ∧ S < w.heap.size ∧ b < w.heap.size from ⟨row_lt h.row, h.src.lt, h.map.lt⟩)
  have SB := Lib.hid h.Sb
  rw [RE.out]
  obtain ⟨i0, hi0, hz0, hz1, hz2⟩ := info_parts (show (Try.prog.info? 5).map (fun i => (i.zero, i.size, i.bytes)) = some (some (.int .u8 0), 1, 1) by kernel_rfl)
  have I0 := Lib.hid hi0
  have I1 := Lib.hid hz1
  have qb : (q : Int) ≤ 60000 := by omega
  clear h hk hbs hq hc hR hO hq2 hu hF hm hn hlo hcs hN hT hi0 hz0 hz1 hz2
  go_enter Try.func28, Try.ntmps28
  go_upto_region 1 with fail
  generalize hw1 : World.alloc w _ = w1
  have M1 := Lib.hid (show w1.heap[w.heap.size]? = some (.cells cs 72 (0, 0)) by rw [← hw1]; exact ha_new _ _ _ rfl)
  have B1 := Lib.hid (show Below w.heap.size w w1 by rw [← hw1]; exact below_new _ _)
  have S1 := Lib.hid (show w1.heap.size = w.heap.size + 1 by rw [← hw1, ha_size])
  clear hw1
  have H1 := Lib.hid (H.out.keep B1.out)
  have c1 := row_cell H1.out.row 1 rfl
  go_wp2_with fail
  refine (tell_any S D s.F s.u true w1 H1.out.src H1.out.ltD HF.out (12 : Int) (by show s.u + 12 ≤ 900000; exact HU.out)).mono ?_
  rw [show takeN (12 : Int) = 12 from rfl, ← NE.out]
  rintro e w2 ⟨v, rfl, ho, hs, hg⟩
  obtain ⟨A6, c6, rfl, hr, _, _, hav⟩ := ho.read
  obtain ⟨q6, o6, rfl, _⟩ := hr 0 (by rw [NL.out]; omega)
  have RG := Lib.hid (rangeB_of hr)
  rw [NL.out]
  have H2 := Lib.hid (H1.out.step hs hg)
  have F2 := Lib.hid ((BoxF.refl g S b w).below B1.out |>.grown hg (by rintro k ⟨⟩; exact .inr (.inl rfl)))
  have M2 := Lib.hid (show w2.heap[w.heap.size]? = some (.cells cs 72 (0, 0)) from grown_block hg (by intro ee; injection ee with ee; have := LT.out.2.1; omega) M1.out)
  have S2 := Lib.hid (show w.heap.size + 1 ≤ w2.heap.size by have := hg.size; have := S1.out; omega)
  clear ho hs hg hr hav c1
  go_upto_region 2 with (first
    | (refine wpList_val rfl (run_sl2arr 47 (.tmp 13) rfl 12 5 Try.underlying47 (some ⟨q6, o6, none⟩) 12 c6 rfl (Nat.le_refl _) _) ?_)
    | (refine wpList_load_mid rfl 47 (.tmp 14) rfl q6 o6 rfl (B8 N) _ RG.out Try.underlying47 rfl ZN.out ?_)
    | (refine wpList_store_new rfl rfl 47 (.tmp 7) (.tmp 15) rfl (W8 N) rfl rfl ZN2.out ?c1 (W8_one _) ?_))
  case c1 => rw [W8_size, NL.out]; rfl
  generalize hM : Array.size (World.heap w2) = M
  generalize hw3 : World.alloc w2 _ = w3
  have M3 := Lib.hid (show w3.heap[w.heap.size]? = some (.cells cs 72 (0, 0)) by rw [← hw3]; exact ha_old _ _ _ (row_lt M2.out) M2.out)
  have N3 := Lib.hid (show w3.heap[M]? = some (.cells (W8 N) 47 (0, 0)) by rw [← hw3]; exact ha_new _ _ _ hM.symm)
  have B3 := Lib.hid (show Below w2.heap.size w2 w3 by rw [← hw3]; exact below_new _ _)
  have H3 := Lib.hid (H2.out.keep B3.out)
  have F3 := Lib.hid (F2.out.below B3.out)
  have R3 := Lib.hid (show RdB w3 A l from HR.out.boxF F3.out HO.out)
  clear hM hw3
  have B := Lib.hid (show Below w3.heap.size w3 w3.drew from (Below.refl _ _).drew)
  refine wp_region_road (fun W => Below w3.heap.size w3 W) [(true, 0), (true, 1), (true, 2), (true, 3), (true, 4), (true, 5), (true, 7), (false, 6), (false, 8), (false, 9), (true, 10)] (by kernel_rfl) (by kernel_rfl) (fun _ _ d _ _ h => by cases d <;> exact h) ?_
  simp only [List.filterMap_cons, List.filterMap_nil, List.getElem?_toArray, List.getElem?_cons_zero, List.getElem?_cons_succ, Option.map_some]
  refine planG_q (by rfl) (B.out) (fun W hW => run_arr_all 47 (.tmp 7) rfl 12 5 Try.underlying47 I0.out M rfl W) ?_
  simp only [Act.put, List.setIfInBounds_toArray, List.set_cons_zero, List.set_cons_succ]
  refine planG_q (v := ?_) (by rfl) (B.out) ?_ ?_
  rotate_left
  · intro W hW
    go_simp
    with_reducible rfl
  simp only [Act.put, List.setIfInBounds_toArray, List.set_cons_zero, List.set_cons_succ]
  refine planG_q (by rfl) (B.out) (fun W hW => run_load_bytes 37 (.tmp 17) rfl w.heap.size 0 rfl k (who_key (by rw [← CE.out]; exact below_block hW (row_lt M3.out) M3.out)) Try.underlying37 rfl ZK.out) ?_
  simp only [Act.put, List.setIfInBounds_toArray, List.set_cons_zero, List.set_cons_succ]
  refine planG_q (by rfl) (B.out) (fun W hW => run_load_row 47 (.tmp 7) rfl M rfl 47 (W8 N) (0, 0) _ (below_block hW (row_lt N3.out) N3.out) Try.underlying47 rfl ZN2.out) ?_
  simp only [Act.put, List.setIfInBounds_toArray, List.set_cons_zero, List.set_cons_succ]
  refine planG_q (v := ?_) (by rfl) (B.out) ?_ ?_
  rotate_left
  · intro W hW
    go_simp
    with_reducible rfl
  simp only [Act.put, List.setIfInBounds_toArray, List.set_cons_zero, List.set_cons_succ]
  refine planG_q (by rfl) (B.out) (fun W hW => run_cell 9 (.tmp 20) rfl _ Try.underlying9 rfl rfl (row_cell (below_block hW (row_lt M3.out) M3.out) 32 (by rw [CE.out]; exact who_bes HK.out))) ?_
  simp only [Act.put, List.setIfInBounds_toArray, List.set_cons_zero, List.set_cons_succ]
  refine planG_q (v := ?_) (by rfl) (B.out) ?_ ?_
  rotate_left
  · intro W hW
    go_simp
    with_reducible rfl
  simp only [Act.put, List.setIfInBounds_toArray, List.set_cons_zero, List.set_cons_succ]
  refine planG_t (by rfl) (fun K hK => ?_)
  refine bytes_wp 9 23 5 (.tmp 21) rfl Try.underlying9 Try.underlying23 Try.underlying5 bs rfl ?_
  intro w4 cb hrb hcb hb4 _
  generalize World.drew w3 = w3d at *
  have B4 := Lib.hid (B.out.trans (hb4.mono B.out.size))
  have RB4 := Lib.hid hrb
  clear hrb hb4
  refine hK.out _ _ (B4.out) ?_
  clear hK K
  refine planG_t (by rfl) (fun K hK => ?_)
  go_simp
  refine (seal_go k N HK.out NL.out w4 (some ⟨w3d.heap.size, 0, none⟩) bs.length cb bs rfl RB4.out A q c l HQ.out HC.out (R3.out.keep B4.out) (by have := HB.out; omega) (by have := Q2.out; omega)).mono ?_
  rw [← TE.out]
  rintro e w5 ⟨v, rfl, ho, hb5⟩
  obtain ⟨A5, c5, rfl, hr, _, _, _⟩ := ho.read
  obtain ⟨q5, o5, rfl, _⟩ := hr 0 (by rw [TL.out]; omega)
  rw [TL.out]
  have RT := Lib.hid hr
  have B5 := Lib.hid (B4.out.trans (hb5.mono B4.out.size))
  clear ho hr hb5
  refine hK.out _ _ (B5.out) ?_
  clear hK K
  refine planG_t (by rfl) (fun K hK => ?_)
  refine appg_wp TB.out (.tmp 16) (.tmp 24) rfl ⟨M, 0, none⟩ 12 12 N T ⟨q5, o5, none⟩ (q + 16) c5 rfl rfl NL.out TL.out (RdB.row (below_block B5.out (row_lt N3.out) N3.out)) RT.out (by omega) (by have := Q2.out; omega) ?_
  intro v6 w6 ho hg
  obtain ⟨A6, c6b, rfl, hr6, hc6, _, ha6⟩ := ho.read
  rw [XL.out]
  have X6 := Lib.hid hr6
  have C6 := Lib.hid (show q + 28 ≤ c6b by rw [← XL.out]; exact hc6)
  have A6B := Lib.hid (show ∀ a, A6 = some a → w3.heap.size ≤ a.block ∧ a.block < w6.heap.size from fun a ea => ⟨Nat.le_trans B5.out.size (ha6 a ea).1, (ha6 a ea).2⟩)
  have B6 := Lib.hid (B5.out.trans (grown_below hg B5.out.size (by rintro k ⟨⟩)))
  clear ho hr6 hc6 ha6 hg
  refine hK.out _ _ (B6.out) ?_
  clear hK K
  refine planG_q (v := ?_) (by rfl) (B6.out) ?_ ?_
  rotate_left
  · intro W hW
    go_simp
    with_reducible rfl
  simp only [Act.put, List.setIfInBounds_toArray, List.set_cons_zero, List.set_cons_succ]
  refine planG_nil ?_
  have H6 := Lib.hid (H3.out.keep B6.out)
  have F6 := Lib.hid (F3.out.below B6.out)
  go_wp2_with (refine wpList_val rfl (run_zero_ent rfl _) ?_)
  refine (keep_any w0 g S D b lo { s with u := s.u + 12 } w6 H6.out A6 (q + 28) c6b (N ++ T) XL.out X6.out (by have := Q2.out; omega) ⟨List.replicate 32 0, [], []⟩ none 0 0 rfl (RdB.nil _ _) (by simp) (Nat.le_refl _) (fun a ea => (by cases ea)) (Nat.le_trans HM.out (by omega)) (Nat.lt_of_le_of_lt HN.out (by omega))).mono ?_
  rintro e w7 ⟨rfl, m', hm', hbx, wa, wb, hba, hgb, hg7⟩
  have F7 := Lib.hid (((F6.out.below hba).grown hgb (by rintro k ⟨⟩; exact .inr (.inr (.inl rfl)))).grown hg7 (by rintro k ⟨⟩; exact .inl rfl))
  have WZ := Lib.hid (show w.heap.size ≤ w3.heap.size from F3.out.1)
  have Z7 := Lib.hid (show w6.heap.size ≤ w7.heap.size from Nat.le_trans hba.size (Nat.le_trans hgb.size hg7.size))
  have X7 := Lib.hid (show RdB w7 A6 (N ++ T) from ((X6.out.keep hba).grown hgb (fun k ek a ea => by cases ek; have := (A6B.out a ea).1; have := LT.out.2.2; have := WZ.out; omega)).grown hg7 (fun k ek a ea => by cases ek; have := (A6B.out a ea).1; have := LT.out.1; have := WZ.out; omega))
  have H7 := Lib.hid hbx
  have M7 := Lib.hid (show (∀ y, knownM m' y = (knownM s.m y || decide (y = N ++ T))) ∧ m'.length ≤ s.m.length + 1 by
    rcases hm' with ⟨_, rfl⟩ | ⟨j, e0, hj, rfl⟩
    · exact ⟨fun y => knownM_append _ _ _ _, by simp⟩
    · exact ⟨fun y => knownM_set _ _ _ _ _ hj _, by simp⟩)
  clear hm' hbx hba hgb hg7
  go_wp2_with fail
  go_ret
  exact ⟨A6, q + 28, c6b, rfl, X7.out, XL.out, C6.out, fun a ea => ⟨Nat.le_trans WZ.out (A6B.out a ea).1, Nat.lt_of_lt_of_le (A6B.out a ea).2 Z7.out⟩, ⟨m', H7.out, M7.out⟩, F7.out⟩
end Go.Proofs.Ytldjiigkebkgcaa

/- box.Box: Seal, in the mode Real; something too great beside. No condition but those each theorem states. -/
namespace Go.Proofs.Ytldjiigkebkgcaa
set_option linter.unusedVariables false
set_option linter.unusedSimpArgs false
open Go.RowKit
attribute [local go_sem ↓] Go.wp_at_zero Go.wp_at_succ

set_option maxRecDepth 100000 in
set_option maxHeartbeats 4000000 in
theorem bseal_real (w0 : World) (g S D b lo : Nat) (s : BSt) (w : World) (h : BoxB w0 g S D b lo s w) (hmo : s.mode = 0) (e : Ent) (hk : e.key.length = 32) (Ab : Option Addr) (qb cb : Nat) (hqb : e.beside.length = qb) (hRb : RdB w Ab e.beside) (hb2 : qb ≤ 60000)
    (A : Option Addr) (q c : Nat) (hq : e.text.length = q) (hc : q ≤ c) (hR : RdB w A e.text) (hO : e.text ≠ [] → ∀ a, A = some a → a.block ≠ g ∧ a.block ≠ S ∧ a.block ≠ b)
    (hq2 : q ≤ 60000) (hu : s.u + 12 ≤ 900000) (hF : s.F.length ≤ 100000) (hm : s.m.length ≤ 10000) (hn : s.n ≤ 100000) (hlo : lo ≤ w.heap.size) :
    Calls Try.prog 11 #[.pointer (some ⟨g, 0, none⟩), .agg (W8 e.key), .slice Ab qb cb, .slice A q c] w fun en w' => ∃ A2 m2 c2, en = .returned (.tuple #[.slice A2 m2 c2, .int .i64 0]) ∧ RealP w0 g S D b lo w s (realL s e.key e.beside e.text) w' A2 m2 c2 := by
  have H := Lib.hid h
  have HK := Lib.hid hk
  have HB := Lib.hid hqb
  have RB := Lib.hid hRb
  have HB2 := Lib.hid hb2
  have HQ := Lib.hid hq
  have HC := Lib.hid hc
  have HR := Lib.hid hR
  have HO := Lib.hid hO
  have Q2 := Lib.hid hq2
  have HU := Lib.hid hu
  have HF := Lib.hid hF
  have HM := Lib.hid hm
  have HN := Lib.hid hn
  have HL := Lib.hid hlo
  have MO := Lib.hid (show (s.mode : Int) = 0 by omega)
  have d1 : decide ((65536 : Int) < (q : Int)) = false := by simp; omega
  have d2 : decide ((65536 : Int) < (qb : Int)) = false := by simp; omega
  have d3 : decide (65536 < q) = false := by simp; omega
  have d4 : decide (65536 < qb) = false := by simp; omega
  obtain ⟨cs, hcs⟩ : ∃ cs, cs = (WhoL e.key e.beside).toArray := ⟨_, rfl⟩
  have CE := Lib.hid hcs
  have CO := Lib.hid (show cs.all (·.oneCell') = true by rw [hcs]; exact WhoL_one _ _)
  have CS := Lib.hid (show cs.size = 33 by rw [hcs, WhoL_size _ _ hk])
  have Z := Lib.hid (show (Try.prog.info? 72).map (·.size) = some cs.size by rw [CS.out]; exact info_who)
  have ZK := Lib.hid (show (Try.prog.info? 37).map (·.size) = some (W8 e.key).size by rw [W8_size, hk]; kernel_rfl)
  obtain ⟨r, hr⟩ : ∃ r, r = realL s e.key e.beside e.text := ⟨_, rfl⟩
  have RH := Lib.hid hr
  rw [← hr]
  clear h hmo hk hqb hRb hb2 hq hc hR hO hq2 hu hF hm hn hlo hcs hr
  go_enter Try.func11, Try.ntmps11
  go_upto_region 1 with fail
  generalize hw1 : World.alloc w _ = w1
  have M1 := Lib.hid (show w1.heap[w.heap.size]? = some (.cells (W8 e.key) 37 (0, 0)) by rw [← hw1]; exact ha_new _ _ _ rfl)
  have B1 := Lib.hid (show Below w.heap.size w w1 by rw [← hw1]; exact below_new _ _)
  clear hw1
  go_wp2_with fail
  refine (bnone_any w0 g S D b lo s w1 (H.out.keep B1.out)).mono ?_
  rintro e2 wd ⟨rfl, hw⟩
  rw [hw]
  clear hw wd
  go_upto_region 6 with (first
    | (refine wpList_val rfl (run_load_row 37 (.tmp 5) rfl w.heap.size rfl 37 (W8 e.key) (0, 0) _ M1.out Try.underlying37 rfl ZK.out) ?_)
    | (refine wpList_val rfl (run_str 23 9 (.tmp 24) rfl Try.underlying23 Try.underlying5 Try.underlying9 (RB.out.keep B1.out) qb cb HB.out rfl) ?_)
    | (refine wpList_val rfl (show (execOp _ _).run _ _ = .ok (.value (.agg cs)) _ by rw [CE.out]; exact run_newwho (.tmp 23) (.tmp 25) rfl e.key e.beside HK.out rfl rfl _) ?_)
    | (refine wpList_store_new rfl rfl 72 (.tmp 10) (.tmp 26) rfl cs rfl rfl Z.out ?c1 CO.out ?_))
  case c1 => rw [CS.out]; rfl
  generalize hM : Array.size (World.heap w1) = M
  generalize hw2 : World.alloc w1 _ = w2
  have M2 := Lib.hid (show w2.heap[M]? = some (.cells cs 72 (0, 0)) by rw [← hw2]; exact ha_new _ _ _ hM.symm)
  have B2 := Lib.hid (show Below w.heap.size w w2 by rw [← hw2]; exact B1.out.alloc B1.out.size _)
  clear hM hw2
  have H2 := Lib.hid (H.out.keep B2.out)
  have c0 := row_cell H2.out.row 0 rfl
  rw [MO.out] at c0
  go_wp2_with (refine wpList_val rfl (run_load_row 72 (.tmp 10) rfl M rfl 72 cs (0, 0) _ M2.out Try.underlying72 rfl Z.out) ?_)
  rw [CE.out]
  refine (real_any w0 g S D b lo s w2 H2.out e.key e.beside HK.out (by rw [HB.out]; exact HB2.out) A q c e.text HQ.out HC.out (HR.out.keep B2.out) HO.out Q2.out HU.out HF.out HM.out HN.out (Nat.le_trans HL.out B2.out.size)).mono ?_
  rw [← RH.out]
  rintro e2 w3 ⟨A3, m3, c3, rfl, hr3, hl3, hc3, hb3, hx3, hf3⟩
  have R3 := Lib.hid hr3
  have L3 := Lib.hid hl3
  have C3 := Lib.hid hc3
  have BB3 := Lib.hid hb3
  have X3 := Lib.hid hx3
  have F3 := Lib.hid hf3
  clear hr3 hl3 hc3 hb3 hx3 hf3 c0
  go_wp2_with fail
  go_ret2
  exact ⟨A3, m3, c3, rfl, R3.out, L3.out, C3.out, fun a ea => ⟨Nat.le_trans B2.out.size (BB3.out a ea).1, (BB3.out a ea).2⟩, X3.out, ⟨Nat.le_trans B2.out.size F3.out.1, fun k h1 h2 h3 h4 => (F3.out.2 k (Nat.lt_of_lt_of_le h1 B2.out.size) h2 h3 h4).trans (B2.out.block k h1)⟩⟩
set_option maxRecDepth 100000 in
set_option maxHeartbeats 1000000 in
/-- Something too great beside the text. -/
theorem bseal_big (w0 : World) (g S D b lo : Nat) (s : BSt) (w : World) (h : BoxB w0 g S D b lo s w) (k : List UInt8) (Ab : Option Addr) (qb cb : Nat) (hb2 : 65536 < qb) :
    Calls Try.prog 11 #[.pointer (some ⟨g, 0, none⟩), .agg (W8 k), .slice Ab qb cb, .slice none 0 0] w fun en w' => en = .returned (.tuple #[.slice none 0 0, .int .i64 3]) ∧ Below w.heap.size w w' := by
  have H := Lib.hid h
  have d2 : decide ((65536 : Int) < (qb : Int)) = true := by simp; omega
  have d4 : decide (65536 < qb) = true := by simp; omega
  clear h hb2
  go_enter Try.func11, Try.ntmps11
  go_upto_region 1 with fail
  generalize hw1 : World.alloc w _ = w1
  have B1 := Lib.hid (show Below w.heap.size w w1 by rw [← hw1]; exact below_new _ _)
  clear hw1
  go_wp2_with fail
  refine (bnone_any w0 g S D b lo s w1 (H.out.keep B1.out)).mono ?_
  rintro e2 wd ⟨rfl, hw⟩
  rw [hw]
  clear hw wd
  go_wp2_with fail
  go_ret2
  exact ⟨rfl, B1.out⟩
end Go.Proofs.Ytldjiigkebkgcaa

/- aead: must, and what Open defers. No condition but those each theorem states. -/
namespace Go.Proofs.Ytldjiigkebkgcaa
set_option linter.unusedVariables false
set_option linter.unusedSimpArgs false
open Go.RowKit

theorem catch_panicking (p q : Addr) (x y : Value) (hpq : p.block ≠ q.block) (u : TypeId) (pv : Value) (older : List PanicEntry) (w : World) (hx : w.cell? p = some x) (hz : w.frozen? p = false) (hy : w.cell? q = some y) (hz2 : w.frozen? q = false) :
    CallsD Try.prog 42 #[.pointer (some p), .pointer (some q)] (.panicking ({ v := .iface u pv, recovered := false } :: older)) w fun e u' w' =>
      e = .returned (.tuple #[]) ∧ u' = .panicking ({ v := .iface u pv, recovered := true } :: older) ∧ w' = (w.setCell p (.slice none 0 0)).setCell q (.bool false) := by
  have hy1 : (w.setCell p (.slice none 0 0)).cell? q = some y := by rw [World.cell?_setCell_other _ _ _ _ (fun e => hpq (by rw [e]))]; exact hy
  have hz1 : (w.setCell p (.slice none 0 0)).frozen? q = false := by simp [hz2]
  refine callsD_of_wpS Try.func42 rfl fun c₀ cs hu => ?_
  apply wpS_seq
  apply wpS_region
  simp [wpOpsS, go_sem, recoverD, hu, Try.ntmps42, Exit.thenS]
  refine wpS_cond (t := true) (by simp [Act.eval, Array.replicate]) ?_
  simp only [if_true]
  apply wpS_region
  simp [wpOpsS, go_sem, hx, hz, hy1, hz1, bodyPostS, results, Try.results42]
theorem catch_idle (p q : Addr) (w : World) :
    CallsD Try.prog 42 #[.pointer (some p), .pointer (some q)] .returning w fun e u' w' => e = .returned (.tuple #[]) ∧ u' = .returning ∧ w' = w := by
  refine callsD_of_wpS Try.func42 rfl fun c₀ cs hu => ?_
  apply wpS_seq
  apply wpS_region
  simp [wpOpsS, go_sem, recoverD, hu, Try.ntmps42, Exit.thenS]
  refine wpS_cond (t := false) (by simp [Act.eval, Array.replicate]) ?_
  simp only [Bool.false_eq_true, if_false]
  refine wpS_of_wp (wp_skip ?_)
  cases c₀
  simp_all [bodyPostS, results, Try.results42]
theorem must_true (w : World) : Calls Try.prog 43 #[.bool true] w fun e w' => e = .returned (.tuple #[]) ∧ w' = w := by
  go_enter Try.func43, Try.ntmps43
  go_wp2_with fail
  go_end0
  exact ⟨rfl, rfl⟩
/-- What must throws. -/
def Thrown (e : Ending) : Prop := ∃ u v, e = .panicked [{ v := .iface u v, recovered := false }]
theorem must_false (w : World) : Calls Try.prog 43 #[.bool false] w fun e w' => Thrown e ∧ w' = w := by
  go_enter Try.func43, Try.ntmps43
  go_wp2_with fail
  exact ⟨rfl, ⟨_, _, rfl⟩, rfl⟩
theorem run_cut_max {P : Program} {o : Oper} {a : Act} (t e : TypeId) (x h m' : Operand) (ho : o.op = .slice t x none (some h) (some m')) {i : TypeInfo} (ht : P.underlying t = some (.slice e)) (hi : P.info? e = some i) (hsz : i.size = 1) (A : Option Addr) (n c m : Nat) (hm : m ≤ c)
    (hx : a.eval x = .slice A n c) (hh : a.eval h = .int .i64 (m : Int)) (hmm : a.eval m' = .int .i64 (m : Int)) (W : World) : (execOp a.eval o).run P W = .ok (.value (.slice A m m)) W := by
  unfold execOp
  simp only [ho, hx, Option.map_some, Option.map_none, hh, hmm, Instr.sliceAt, Sem.run_bind, Sem.run_pure, run_underlying ht, Result.andThen_ok, cut_max t e ht hi hsz A n c m hm W, Result.andThen_ok]
end Go.Proofs.Ytldjiigkebkgcaa
