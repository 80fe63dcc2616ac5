/- Part 3 of what the law LawRingOpens needs. No condition but those each theorem states. -/
import Derived.ArgAppend
import Derived.ChangeKeysEq
import Derived.Deep.OwnRows
import Derived.DeepKeys
import Derived.Defers
import Derived.Laws.CopyOwn
import Derived.Laws.Pointers
import Derived.Lib.SlBytesConst
import Derived.Recover
import Derived.Test.YtlocplkjokoknaaGreatProg
import Derived.Test.YtlocplkjokoknaaGreatPkLawRingOpensB
/- The tag of a text, plain. No condition but those each theorem states. -/
namespace Go.Proofs.YtlocplkjokoknaaGreat
set_option linter.unusedVariables false
set_option linter.unusedSimpArgs false
open Go.RowKit

/-! ### a clamped key -/
def clampK (b : List UInt8) : Nat → List UInt8
  | 0 => b
  | t + 1 =>
    let q := (clampK b t).set (3 + 4 * t) ((clampK b t).getD (3 + 4 * t) 0 &&& 15)
    if 3 + 4 * t + 1 < 16 then q.set (3 + 4 * t + 1) (q.getD (3 + 4 * t + 1) 0 &&& 252) else q
theorem clampK_length (b : List UInt8) (t : Nat) : (clampK b t).length = b.length := by
  induction t with
  | zero => rfl
  | succ t ih => rw [clampK]; split <;> simp [ih]
def clampL (b : List UInt8) : List UInt8 := clampK b 4
theorem clampL_length (b : List UInt8) : (clampL b).length = b.length := clampK_length b 4
theorem list16 : ∀ (v : List UInt8), v.length = 16 → ∃ a b c d e f g h i j k l m n o p, v = [a, b, c, d, e, f, g, h, i, j, k, l, m, n, o, p]
  | [a, b, c, d, e, f, g, h, i, j, k, l, m, n, o, p], _ => ⟨a, b, c, d, e, f, g, h, i, j, k, l, m, n, o, p, rfl⟩
theorem clampL_form (a b c d e f g h i j k l m n o p : UInt8) : clampL [a, b, c, d, e, f, g, h, i, j, k, l, m, n, o, p] = [a, b, c, d &&& 15, e &&& 252, f, g, h &&& 15, i &&& 252, j, k, l &&& 15, m &&& 252, n, o, p &&& 15] := rfl
theorem clampL_twice (b : List UInt8) (h : b.length = 16) : clampL (clampL b) = clampL b := by
  obtain ⟨a, b, c, d, e, f, g, h, i, j, k, l, m, n, o, p, rfl⟩ := list16 b h
  rw [clampL_form, clampL_form]
  simp only [UInt8.and_assoc, show (15 : UInt8) &&& 15 = 15 from rfl, show (252 : UInt8) &&& 252 = 252 from rfl]
theorem leNat_lt16 (b : List UInt8) (h : b.length = 16) : leNat b < 340282366920938463463374607431768211456 := by
  have := leNat_lt b
  rw [h] at this
  exact this
/-! ### the text -/
/-- All parts of 16 bytes, each with a byte 1. -/
def polyF (r : Nat) : Nat → Nat → List UInt8 → Nat
  | 0, a, _ => a
  | f + 1, a, l => if l = [] then a else polyF r f ((a + leNat (l.take 16 ++ [1])) * r % PN) (l.drop 16)
theorem polyF_more (r : Nat) : ∀ (f g a : Nat) (l : List UInt8), l.length ≤ f → l.length ≤ g → polyF r f a l = polyF r g a l
  | 0, 0, a, l, _, _ => rfl
  | 0, g + 1, a, l, h, _ => by
    obtain rfl : l = [] := List.eq_nil_of_length_eq_zero (by omega)
    rw [polyF, polyF, if_pos rfl]
  | f + 1, 0, a, l, _, h => by
    obtain rfl : l = [] := List.eq_nil_of_length_eq_zero (by omega)
    rw [polyF, polyF, if_pos rfl]
  | f + 1, g + 1, a, l, h, h' => by
    rw [polyF, polyF]
    split
    · rfl
    · rename_i h0
      have := List.length_pos_iff.2 h0
      exact polyF_more r f g _ _ (by rw [List.length_drop]; omega) (by rw [List.length_drop]; omega)
def polyA (r a : Nat) (l : List UInt8) : Nat := polyF r l.length a l
theorem polyA_nil (r a : Nat) : polyA r a [] = a := rfl
theorem polyA_cons (r a : Nat) (l : List UInt8) (h : l ≠ []) : polyA r a l = polyA r ((a + leNat (l.take 16 ++ [1])) * r % PN) (l.drop 16) := by
  have := List.length_pos_iff.2 h
  unfold polyA
  obtain ⟨n, hn⟩ : ∃ n, l.length = n + 1 := ⟨l.length - 1, by omega⟩
  rw [hn, polyF, if_neg h]
  exact polyF_more r n _ _ _ (by rw [List.length_drop]; omega) (Nat.le_refl _)
theorem polyA_zero (a : Nat) : ∀ (n : Nat) (l : List UInt8), l.length ≤ n → polyA 0 0 l = 0
  | 0, l, h => by
    obtain rfl : l = [] := List.eq_nil_of_length_eq_zero (by omega)
    rfl
  | n + 1, l, h => by
    by_cases h0 : l = []
    · subst h0; rfl
    · have := List.length_pos_iff.2 h0
      rw [polyA_cons 0 0 l h0, Nat.mul_zero, Nat.zero_mod]
      exact polyA_zero a n _ (by rw [List.length_drop]; omega)
/-! ### the tag -/
/-- Sixteen bytes of a number, the lowest first. -/
def bytesN (x : Nat) : List UInt8 := (List.range 16).map fun j => UInt8.ofNat (x / 256 ^ j)
theorem bytesN_length (x : Nat) : (bytesN x).length = 16 := by simp [bytesN]
theorem bytesN_get (x j : Nat) (h : j < 16) : (bytesN x).getD j 0 = UInt8.ofNat (x / 256 ^ j) := by
  rw [bytesN, List.getD_eq_getElem?_getD, List.getElem?_map, List.getElem?_range h]
  rfl
/-- What the tag is, as a number (of which sixteen bytes are told). -/
def tagN (x : Nat) (s : List UInt8) : Nat := x % 340282366920938463463374607431768211456 + leNat s
/-- .. of the first i bytes. -/
def tagK (x : Nat) (s : List UInt8) (i : Nat) : Nat := x % 256 ^ i + leNat (s.take i)
theorem tagK_all (x : Nat) (s : List UInt8) (h : s.length = 16) : tagK x s 16 = tagN x s := by
  unfold tagK tagN
  rw [List.take_of_length_le (by omega)]
theorem tagK_step (x : Nat) (s : List UInt8) (i : Nat) (hi : i < s.length) : tagK x s (i + 1) = tagK x s i + (x / 256 ^ i % 256 + (s.getD i 0).toNat) * 256 ^ i := by
  unfold tagK
  rw [leNat_snoc s i hi, Nat.pow_succ, Nat.mod_mul, Nat.add_mul, Nat.mul_comm (256 ^ i) (x / 256 ^ i % 256)]
  omega
theorem tagK_div (x : Nat) (s : List UInt8) (i : Nat) (hi : i < s.length) : tagK x s (i + 1) / 256 ^ i = tagK x s i / 256 ^ i + (x / 256 ^ i % 256 + (s.getD i 0).toNat) := by
  rw [tagK_step x s i hi, Nat.add_mul_div_right _ _ (Nat.pow_pos (by omega))]
theorem tagK_next (x : Nat) (s : List UInt8) (i : Nat) (hi : i < s.length) : tagK x s (i + 1) / 256 ^ (i + 1) = (tagK x s i / 256 ^ i + (x / 256 ^ i % 256 + (s.getD i 0).toNat)) / 256 := by
  rw [← tagK_div x s i hi, Nat.div_div_eq_div_mul, Nat.pow_succ]
/-- A byte of the tag hangs on the bytes up to it. -/
theorem tagK_byte (x : Nat) (s : List UInt8) (i : Nat) : ∀ (j : Nat), i < j → j ≤ s.length → tagK x s j / 256 ^ i % 256 = tagK x s (i + 1) / 256 ^ i % 256
  | 0, h, _ => by omega
  | j + 1, h, hl => by
    by_cases e : j = i
    · rw [e]
    · rw [← tagK_byte x s i j (by omega) (by omega), tagK_step x s j (by omega)]
      obtain ⟨k, hk⟩ : ∃ k, j = i + (k + 1) := ⟨j - i - 1, by omega⟩
      obtain ⟨q, hq⟩ : ∃ q, q = x / 256 ^ j % 256 + (s.getD j 0).toNat := ⟨_, rfl⟩
      rw [← hq, hk, Nat.pow_add, Nat.pow_succ, show q * (256 ^ i * (256 ^ k * 256)) = 256 ^ i * (q * 256 ^ k * 256) by rw [Nat.mul_left_comm, Nat.mul_assoc], Nat.add_mul_div_left _ _ (Nat.pow_pos (by omega)), Nat.add_mul_mod_self_right]
theorem tag_byte (x : Nat) (s : List UInt8) (h : s.length = 16) (i : Nat) (hi : i < 16) : (bytesN (tagN x s)).getD i 0 = UInt8.ofNat (tagK x s i / 256 ^ i + (x / 256 ^ i % 256 + (s.getD i 0).toNat)) := by
  rw [bytesN_get _ _ hi, ← tagK_all x s h, ← tagK_div x s i (by omega)]
  apply UInt8.toNat_inj.1
  simp only [UInt8.toNat_ofNat', Nat.reducePow]
  exact tagK_byte x s i 16 (by omega) (by omega)
theorem tagK_small (x : Nat) (s : List UInt8) (i : Nat) (hi : i ≤ s.length) : tagK x s i / 256 ^ i ≤ 1 := by
  have h1 : x % 256 ^ i < 256 ^ i := Nat.mod_lt _ (Nat.pow_pos (by omega))
  have h2 := leNat_lt (s.take i)
  rw [List.length_take, Nat.min_eq_left hi] at h2
  have h3 : tagK x s i < 256 ^ i * 2 := by unfold tagK; omega
  have := Nat.div_lt_of_lt_mul h3
  omega
/-- The tag of a text. -/
def polyL (key b : List UInt8) : List UInt8 := bytesN (tagN (polyA (leNat (clampL (key.take 16))) 0 b) (key.drop 16))
theorem polyL_length (key b : List UInt8) : (polyL key b).length = 16 := bytesN_length _
/-! ### the bytes out of the limbs -/
theorem out_0 (x : Nat) : ((x % 67108864) / 1 ||| (x / 67108864 % 67108864) * 67108864) % 256 = x / 1 % 256 := by
  rw [or_add 26 _ _ (x / 67108864 % 67108864) (by omega) (by omega)]
  omega
theorem out_1 (x : Nat) : ((x % 67108864) / 256 ||| (x / 67108864 % 67108864) * 262144) % 256 = x / 256 % 256 := by
  rw [or_add 18 _ _ (x / 67108864 % 67108864) (by omega) (by omega)]
  omega
theorem out_2 (x : Nat) : ((x % 67108864) / 65536 ||| (x / 67108864 % 67108864) * 1024) % 256 = x / 65536 % 256 := by
  rw [or_add 10 _ _ (x / 67108864 % 67108864) (by omega) (by omega)]
  omega
theorem out_3 (x : Nat) : ((x % 67108864) / 16777216 ||| (x / 67108864 % 67108864) * 4) % 256 = x / 16777216 % 256 := by
  rw [or_add 2 _ _ (x / 67108864 % 67108864) (by omega) (by omega)]
  omega
theorem out_4 (x : Nat) : ((x / 67108864 % 67108864) / 64 ||| (x / 4503599627370496 % 67108864) * 1048576) % 256 = x / 4294967296 % 256 := by
  rw [or_add 20 _ _ (x / 4503599627370496 % 67108864) (by omega) (by omega)]
  omega
theorem out_5 (x : Nat) : ((x / 67108864 % 67108864) / 16384 ||| (x / 4503599627370496 % 67108864) * 4096) % 256 = x / 1099511627776 % 256 := by
  rw [or_add 12 _ _ (x / 4503599627370496 % 67108864) (by omega) (by omega)]
  omega
theorem out_6 (x : Nat) : ((x / 67108864 % 67108864) / 4194304 ||| (x / 4503599627370496 % 67108864) * 16) % 256 = x / 281474976710656 % 256 := by
  rw [or_add 4 _ _ (x / 4503599627370496 % 67108864) (by omega) (by omega)]
  omega
theorem out_7 (x : Nat) : ((x / 4503599627370496 % 67108864) / 16 ||| (x / 302231454903657293676544 % 67108864) * 4194304) % 256 = x / 72057594037927936 % 256 := by
  rw [or_add 22 _ _ (x / 302231454903657293676544 % 67108864) (by omega) (by omega)]
  omega
theorem out_8 (x : Nat) : ((x / 4503599627370496 % 67108864) / 4096 ||| (x / 302231454903657293676544 % 67108864) * 16384) % 256 = x / 18446744073709551616 % 256 := by
  rw [or_add 14 _ _ (x / 302231454903657293676544 % 67108864) (by omega) (by omega)]
  omega
theorem out_9 (x : Nat) : ((x / 4503599627370496 % 67108864) / 1048576 ||| (x / 302231454903657293676544 % 67108864) * 64) % 256 = x / 4722366482869645213696 % 256 := by
  rw [or_add 6 _ _ (x / 302231454903657293676544 % 67108864) (by omega) (by omega)]
  omega
theorem out_10 (x : Nat) : ((x / 302231454903657293676544 % 67108864) / 4 ||| (x / 20282409603651670423947251286016 % 67108864) * 16777216) % 256 = x / 1208925819614629174706176 % 256 := by
  rw [or_add 24 _ _ (x / 20282409603651670423947251286016 % 67108864) (by omega) (by omega)]
  omega
theorem out_11 (x : Nat) : ((x / 302231454903657293676544 % 67108864) / 1024 ||| (x / 20282409603651670423947251286016 % 67108864) * 65536) % 256 = x / 309485009821345068724781056 % 256 := by
  rw [or_add 16 _ _ (x / 20282409603651670423947251286016 % 67108864) (by omega) (by omega)]
  omega
theorem out_12 (x : Nat) : ((x / 302231454903657293676544 % 67108864) / 262144 ||| (x / 20282409603651670423947251286016 % 67108864) * 256) % 256 = x / 79228162514264337593543950336 % 256 := by
  rw [or_add 8 _ _ (x / 20282409603651670423947251286016 % 67108864) (by omega) (by omega)]
  omega
theorem out_13 (x : Nat) : ((x / 20282409603651670423947251286016 % 67108864) / 1) % 256 = x / 20282409603651670423947251286016 % 256 := by
  omega
theorem out_14 (x : Nat) : ((x / 20282409603651670423947251286016 % 67108864) / 256) % 256 = x / 5192296858534827628530496329220096 % 256 := by
  omega
theorem out_15 (x : Nat) : ((x / 20282409603651670423947251286016 % 67108864) / 65536) % 256 = x / 1329227995784915872903807060280344576 % 256 := by
  omega
/-- What a round tells of the limbs, before the mask. -/
def outV (q : List Nat) (i : Nat) : Nat :=
  if 8 * i / 26 + 1 < 5 then q.getD (8 * i / 26) 0 / 2 ^ (8 * i % 26) ||| q.getD (8 * i / 26 + 1) 0 * 2 ^ (26 - 8 * i % 26) else q.getD (8 * i / 26) 0 / 2 ^ (8 * i % 26)
theorem outV_byte (x i : Nat) (hi : i < 16) : outV (limbsN x) i % 256 = x / 256 ^ i % 256 := by
  rcases i with _ | _ | _ | _ | _ | _ | _ | _ | _ | _ | _ | _ | _ | _ | _ | _ | i
  · exact out_0 x
  · exact out_1 x
  · exact out_2 x
  · exact out_3 x
  · exact out_4 x
  · exact out_5 x
  · exact out_6 x
  · exact out_7 x
  · exact out_8 x
  · exact out_9 x
  · exact out_10 x
  · exact out_11 x
  · exact out_12 x
  · exact out_13 x
  · exact out_14 x
  · exact out_15 x
  · omega
end Go.Proofs.YtlocplkjokoknaaGreat

/- Rows of bytes that are made, and copied. No condition but those each theorem states. -/
namespace Go.Proofs.YtlocplkjokoknaaGreat
set_option linter.unusedVariables false
set_option linter.unusedSimpArgs false
open Go.RowKit

theorem make_run (n : Nat) (hn : n ≤ 140737488355328) (W : World) : (Instr.makeSlice 22 (.int .i64 (n : Int)) (.int .i64 (n : Int))).run Tryz.prog W = .ok (.slice (some ⟨W.heap.size, 0, none⟩) n n) (W.alloc (.cells (W8 (List.replicate n 0)) 5)) := by
  have h := Go.run_make_row' (P := Tryz.prog) 22 5 (.int .u8 0) 1 Tryz.underlying22 (by kernel_rfl) rfl .i64 .i64 n (by omega) (by omega) W
  rw [made_W8] at h
  exact h
theorem OwnB.ofRow {w : World} {g base n : Nat} {l : List UInt8} (h : w.heap[g]? = some (.cells (W8 l) 5 (0, 0))) (hb : base ≤ g) (hn : l.length = n) (hm : n ≤ 140737488355328) : OwnB w base (.slice (some ⟨g, 0, none⟩) n n) l := by
  subst hn
  refine ⟨by simp [B8], .inr ⟨g, _, W8 l, rfl, hb, h, Nat.le_refl _, by unfold maxLen; omega, by simp [W8], ?_⟩⟩
  simp only [W8, B8, Nat.mul_one]
  rw [List.take_of_length_le (by simp)]
theorem splice_B8 (cur cs : List UInt8) (off : Nat) : (splice (B8 cur) off (B8 cs)).toArray = W8 (cur.take off ++ (cs ++ cur.drop (off + cs.length))) := by
  simp [splice, B8, W8, List.map_append, List.map_take, List.map_drop]
theorem W8_B8 (l : List UInt8) : W8 l = (B8 l).toArray := rfl
/-- copy(dst, src), dst a row of the call's own that is known whole, from a place on. -/
theorem copy_list {P : Program} {w : World} {ops : Array Oper} {rest : List Oper} {o : Oper} {a : Act} {Q : Exit → Act → World → Prop} (hgd : o.guard = none) (T : ByteT P) (d s : Operand)
    (ho : o.op = .call { callee := .builtin .copy, args := #[d, s], argTypes := #[22, 22] }) (A : Option Addr) (dLen dCap sLen sCap g off : Nat) (cur src : List UInt8) (t : TypeId) (dp : Option Addr)
    (hd : a.eval d = .slice dp dLen dCap) (hs : a.eval s = .slice A sLen sCap) (hp : 0 < src.length → dp = some ⟨g, off, none⟩) (hg : w.heap[g]? = some (.cells (W8 cur) t (0, 0))) (hR : RdB w A src) (hn : src.length = sLen) (hl : sLen ≤ dLen) (hfit : off + sLen ≤ cur.length)
    (h : ∀ w', w'.heap[g]? = some (.cells (W8 (cur.take off ++ (src ++ cur.drop (off + src.length)))) t (0, 0)) → w.grownBy w' (some g) → w'.heap.size = w.heap.size → wpList P ops Q rest (a.put o.dst (.int .i64 (sLen : Int))) w') : wpList P ops Q (o :: rest) a w := by
  subst hn
  by_cases h0 : src.length = 0
  · obtain rfl : src = [] := List.eq_nil_of_length_eq_zero h0
    refine wpList_copy_nothing hgd d s _ _ ho 5 T.ht (by have := T.hinfo; revert this; cases P.info? 5 <;> simp <;> intros <;> assumption) dp A dLen dCap 0 sCap hd hs (by simp) ?_
    exact h w (by simpa using hg) (World.grownBy.refl _ _) rfl
  · obtain ⟨b, o', rfl, _⟩ := hR 0 (by omega)
    obtain rfl := hp (by omega)
    have hcs : (B8 src).length = src.length := by simp [B8]
    refine wpList_copy_own hgd d s _ _ ho 5 T.ht (by have := T.hinfo; revert this; cases P.info? 5 <;> simp <;> intros <;> assumption) g off dLen dCap ⟨b, o', none⟩ src.length sCap hd hs (W8 cur) t hg (B8 src) (by rw [hcs]; simp [Nat.min_def]; omega) ?_ (by rw [hcs, W8_size]; exact hfit) (B8_one _) ?_
    · intro j u hu
      have hj : j < src.length := by
        have := (List.getElem?_eq_some_iff.1 hu).1
        rwa [hcs] at this
      obtain ⟨b', o'', e', hc'⟩ := hR j hj
      injection e' with e'
      injection e' with e1 e2
      subst e1 e2
      rw [add_at, hc', ← B8_get _ j hj, hu]
    · rw [hcs]
      have e : ((W8 cur).toList.take off ++ (B8 src ++ (W8 cur).toList.drop (off + src.length))).toArray = W8 (cur.take off ++ (src ++ cur.drop (off + src.length))) := by
        simp [B8, W8, List.map_append, List.map_take, List.map_drop]
      rw [e]
      exact h _ (setRow_heap w g _ _ t _ hg) ⟨rfl, rfl, rfl, by simp, fun k hk hne => setRow_other w g k _ (fun e => hne (by rw [e]))⟩ (by simp)
end Go.Proofs.YtlocplkjokoknaaGreat

/- A clamped key, and the tag: walked. No condition but those each theorem states. -/
namespace Go.Proofs.YtlocplkjokoknaaGreat
set_option linter.unusedVariables false
set_option linter.unusedSimpArgs false
open Go.RowKit
attribute [local go_sem ↓] Go.wp_at_zero Go.wp_at_succ

def Z16 : List UInt8 := [0, 0, 0, 0, 0, 0, 0, 0, 0, 0, 0, 0, 0, 0, 0, 0]
theorem zero16 : W8 Z16 = #[.int .u8 0, .int .u8 0, .int .u8 0, .int .u8 0, .int .u8 0, .int .u8 0, .int .u8 0, .int .u8 0, .int .u8 0, .int .u8 0, .int .u8 0, .int .u8 0, .int .u8 0, .int .u8 0, .int .u8 0, .int .u8 0] := rfl
theorem u8_and' (a b : UInt8) : bits .and .u8 (a.toNat : Int) (b.toNat : Int) = ((a &&& b).toNat : Int) := by
  rw [u8_and_nat _ _ a.toNat_lt b.toNat_lt, UInt8.toNat_and]
theorem and_ex (a b : UInt8) : ∃ y : UInt8, Hid (y = a &&& b) ∧ bits .and .u8 (a.toNat : Int) (b.toNat : Int) = (y.toNat : Int) := ⟨_, rfl, u8_and' a b⟩
/-- A row of bytes of the call's own. -/
structure BW (w : World) (t : TypeId) (g : Nat) (l : List UInt8) (W : World) : Prop where
  b : W.heap[g]? = some (.cells (W8 l) t (0, 0))
  hg : w.heap.size ≤ g
  bel : Below w.heap.size w W
theorem BW.set {w W : World} {t : TypeId} {g : Nat} {l : List UInt8} (h : BW w t g l W) (i : Nat) (x : UInt8) : BW w t g (l.set i x) (W.setCell ⟨g, i, none⟩ (.int .u8 (x.toNat : Int))) where
  b := by rw [heap_setCell_same _ _ _ _ _ _ h.b, W8_set]
  hg := h.hg
  bel := h.bel.trans (grown_below (grown_set (World.grownBy.refl W (some g)) _ _) h.bel.size (by rintro k ⟨⟩; exact h.hg))
theorem BW.away {w W W' : World} {t : TypeId} {g k : Nat} {m : List UInt8} (h : BW w t k m W) (hne : k ≠ g) (hg : w.heap.size ≤ g) (hgr : W.grownBy W' (some g)) : BW w t k m W' where
  b := grown_block hgr (by simp; exact hne) h.b
  hg := h.hg
  bel := h.bel.trans (grown_below hgr h.bel.size (by rintro k ⟨⟩; exact hg))
theorem BW.keep {w W W' : World} {t : TypeId} {g : Nat} {l : List UInt8} (h : BW w t g l W) (hb : Below W.heap.size W W') : BW w t g l W' := ⟨below_block hb (row_lt h.b) h.b, h.hg, h.bel.trans (hb.mono h.bel.size)⟩
theorem BW.ret {w W W' : World} {t : TypeId} {g : Nat} {m : List UInt8} (h : BW w t g m W) (hg : W.grownBy W' (some g)) : Below w.heap.size w W' :=
  h.bel.trans (grown_below hg h.bel.size (by rintro k ⟨⟩; exact h.hg))
theorem grown1 (W : World) (g i : Nat) (v : Value) : W.grownBy (W.setCell ⟨g, i, none⟩ v) (some g) := grown_set (World.grownBy.refl _ _) _ _
theorem info_16 {l : List UInt8} (h : l.length = 16) : (Tryz.prog.info? 155).map (·.size) = some (W8 l).size := by rw [W8_size, h]; kernel_rfl
set_option maxRecDepth 100000 in
set_option maxHeartbeats 2000000 in
theorem clamp_any (b : List UInt8) (hb : b.length = 16) (w : World) :
    Calls Tryz.prog 121 #[.agg (W8 b)] w fun e w' => e = .returned (.agg (W8 (clampL b))) ∧ Below w.heap.size w w' := by
  have HB := Lib.hid hb
  have Z := Lib.hid zero16
  clear hb
  go_enter Tryz.func121, Tryz.ntmps121
  go_wp2_with fail
  rw [← Z.out]
  obtain ⟨w1, hw1⟩ : ∃ w1, w1 = (w.alloc (.cells (W8 b) 155)).alloc (.cells (W8 Z16) 155) := ⟨_, rfl⟩
  have S1 := Lib.hid (show BW w 155 w.heap.size (clampK b 0) w1 ∧ BW w 155 (w.heap.size + 1) Z16 w1 by
    have hb : Below w.heap.size w w1 := by rw [hw1]; exact ((Below.refl _ _).alloc (Nat.le_refl _) _).alloc (by simp) _
    rw [hw1] at hb ⊢
    rw [show clampK b 0 = b from rfl]
    exact ⟨⟨ha_old _ _ _ (by simp) (ha_new _ _ _ rfl), by omega, hb⟩, ⟨ha_new _ _ _ (by simp), by omega, hb⟩⟩)
  rw [← hw1]
  clear hw1
  go_loopw [3] (fun u wr => ∃ t : Nat, t ≤ 4 ∧ u = .int .i64 (3 + 4 * (t : Int)) ∧ BW w 155 w.heap.size (clampK b t) wr ∧ BW w 155 (w.heap.size + 1) Z16 wr) (fun u _ => 20 - (intOf u).toNat)
  case atStart => exact ⟨0, by omega, rfl, S1.out⟩
  case round =>
    obtain ⟨t, ht, rfl, hs⟩ := hrel
    have T := Lib.hid ht
    have S2 := Lib.hid hs
    clear ht hs S1
    obtain ⟨q, hq⟩ : ∃ q, q = clampK b t := ⟨_, rfl⟩
    rw [← hq] at S2
    have QL := Lib.hid (show q.length = 16 by rw [hq, clampK_length, HB.out])
    have Q := Lib.hid hq
    clear hq
    have t4 : (t : Int) ≤ 4 := by have := T.out; omega
    have b0 : (0 : Int) ≤ 3 + 4 * (t : Int) := by omega
    by_cases hlt : t < 4
    · have hD : decide (3 + 4 * (t : Int) < 16) = true := by simp; omega
      obtain ⟨x, hx⟩ : ∃ x, x = q.getD (3 + 4 * t) 0 := ⟨_, rfl⟩
      have a1 := row_cell S2.out.1.b (3 + 4 * t) (W8_get _ (3 + 4 * t) (by rw [QL.out]; omega))
      have f1 := row_free S2.out.1.b (3 + 4 * t)
      rw [← hx] at a1
      have X := Lib.hid hx
      obtain ⟨y, hy, e1⟩ := and_ex x 15
      rw [show (((15 : UInt8).toNat : Nat) : Int) = 15 from rfl] at e1
      have e2 : (3 + 4 * (t : Int)).toNat = 3 + 4 * t := by omega
      have b1 : 3 + 4 * (t : Int) < 16 := by omega
      clear hx
      go_upto_region 5 with fail
      clear a1 f1 e1
      obtain ⟨p, hp⟩ : ∃ p, p = q.set (3 + 4 * t) y := ⟨_, rfl⟩
      obtain ⟨w2, hw2⟩ : ∃ w2, w2 = wr.setCell ⟨w.heap.size, 3 + 4 * t, none⟩ (.int .u8 (y.toNat : Int)) := ⟨_, rfl⟩
      have S3 := Lib.hid (show BW w 155 w.heap.size p w2 ∧ BW w 155 (w.heap.size + 1) Z16 w2 by rw [hw2, hp]; exact ⟨S2.out.1.set _ _, S2.out.2.away (by omega) (Nat.le_refl _) (grown1 _ _ _ _)⟩)
      rw [← hw2]
      have PL := Lib.hid (show p.length = 16 by rw [hp, List.length_set, QL.out])
      have PP := Lib.hid hp
      clear hw2 hp
      by_cases h5 : 3 + 4 * t + 1 < 16
      · have hE : decide (3 + 4 * (t : Int) + 1 < 16) = true := by simp; omega
        obtain ⟨z, hz⟩ : ∃ z, z = p.getD (3 + 4 * t + 1) 0 := ⟨_, rfl⟩
        have a2 := row_cell S3.out.1.b (3 + 4 * t + 1) (W8_get _ (3 + 4 * t + 1) (by rw [PL.out]; exact h5))
        have f2 := row_free S3.out.1.b (3 + 4 * t + 1)
        rw [← hz] at a2
        have ZZ := Lib.hid hz
        obtain ⟨v, hv, e3⟩ := and_ex z 252
        rw [show (((252 : UInt8).toNat : Nat) : Int) = 252 from rfl] at e3
        have e4 : (3 + 4 * (t : Int) + 1).toNat = 3 + 4 * t + 1 := by omega
        have b2 : 3 + 4 * (t : Int) + 1 < 16 := by omega
        have b3 : (0 : Int) ≤ 3 + 4 * (t : Int) + 1 := by omega
        clear hz
        go_wp2_with fail
        go_roundw
        case rel =>
          refine ⟨t + 1, by omega, by go_num, ?_⟩
          rw [clampK, ← Q.out, ← X.out, ← hy.out, ← PP.out]
          rw [if_pos h5, ← ZZ.out, ← hv.out]
          exact ⟨S3.out.1.set _ _, S3.out.2.away (by omega) (Nat.le_refl _) (grown1 _ _ _ _)⟩
        case measure => simp [intOf]; omega
      · have hE : decide (3 + 4 * (t : Int) + 1 < 16) = false := by simp; omega
        go_wp2_with fail
        go_roundw
        case rel =>
          refine ⟨t + 1, by omega, by go_num, ?_⟩
          rw [clampK, ← Q.out, ← X.out, ← hy.out, ← PP.out]
          rw [if_neg h5]
          exact S3.out
        case measure => simp [intOf]; omega
    · have ht : Hid (t = 4) := show t = 4 by have := T.out; omega
      have hD : decide (3 + 4 * (t : Int) < 16) = false := by simp; omega
      have QE := Lib.hid (show q = clampL b by rw [Q.out, ht.out]; rfl)
      go_wp2_with (first
        | (refine wpList_load_row rfl 155 (.tmp 1) rfl w.heap.size rfl 155 (W8 q) (0, 0) _ S2.out.1.b Tryz.underlying155 rfl (info_16 QL.out) ?_)
        | (refine wpList_store_whole rfl rfl 155 (.tmp 2) (.tmp 22) rfl (w.heap.size + 1) (W8 q) rfl rfl 155 _ S2.out.2.b (info_16 QL.out) (by rw [W8_size, W8_size, QL.out]; rfl) (W8_one _) ?_; intro w8 hz8 hg8 _))
      exact bodyPost_ret (results_cell_row rfl _ _ (w.heap.size + 1) 155 (W8 q) (0, 0) _ rfl hz8 Tryz.underlying155 rfl (info_16 QL.out)) rfl ⟨by rw [QE.out], S2.out.2.ret hg8⟩
end Go.Proofs.YtlocplkjokoknaaGreat

/- The tag of a text: walked. No condition but those each theorem states. -/
namespace Go.Proofs.YtlocplkjokoknaaGreat
set_option linter.unusedVariables false
set_option linter.unusedSimpArgs false
open Go.RowKit
attribute [local go_sem ↓] Go.wp_at_zero Go.wp_at_succ

theorem min16_ex (r : Nat) (h0 : 0 < r) : ∃ m : Nat, (if (16 : Int) < (r : Int) then (16 : Int) else (r : Int)) = (m : Int) ∧ m ≤ r ∧ m ≤ 16 ∧ 0 < m ∧ Hid (m = min r 16) := by
  by_cases h : 16 < r
  · exact ⟨16, by rw [if_pos (by omega)]; rfl, by omega, by omega, by omega, show 16 = min r 16 by omega⟩
  · exact ⟨r, by rw [if_neg (by omega)], by omega, by omega, by omega, show r = min r 16 by omega⟩
theorem mod_add_mul (A B R P : Nat) : (A + B) * R % P = (A % P + B) * R % P := by
  rw [Nat.mul_mod (A + B) R P, Nat.mul_mod (A % P + B) R P, Nat.add_mod A B P, Nat.add_mod (A % P) B P, Nat.mod_mod]
/-- What stands while the text is taken in. -/
structure PsW (w : World) (key : List UInt8) (r : List Nat) (M3 M4 : Nat) (a : List Nat) (W : World) : Prop where
  bk : BW w 37 w.heap.size key W
  bo : BW w 155 (w.heap.size + 1) Z16 W
  br : NW w M3 r W
  ba : NW w M4 a W
  h3 : w.heap.size + 1 < M3
  h4 : M3 < M4
theorem PsW.keep {w W W' : World} {key : List UInt8} {r a : List Nat} {M3 M4 : Nat} (h : PsW w key r M3 M4 a W) (hb : Below W.heap.size W W') : PsW w key r M3 M4 a W' :=
  ⟨h.bk.keep hb, h.bo.keep hb, h.br.keep hb, h.ba.keep hb, h.h3, h.h4⟩
theorem PsW.whole {w W W' : World} {key : List UInt8} {r a a' : List Nat} {M3 M4 : Nat} (h : PsW w key r M3 M4 a W) (hz : W'.heap[M4]? = some (.cells (WN a') 222 (0, 0))) (hg : W.grownBy W' (some M4)) : PsW w key r M3 M4 a' W' := by
  have h3 := h.h3
  have h4 := h.h4
  exact ⟨h.bk.away (by omega) (by omega) hg, h.bo.away (by omega) (by omega) hg, h.br.away (by omega) (by omega) hg, h.ba.whole hz hg, h3, h4⟩
set_option maxRecDepth 100000 in
set_option maxHeartbeats 4000000 in
theorem polySum_any (key : List UInt8) (hk : key.length = 32) (w : World) (A : Option Addr) (n c : Nat) (l : List UInt8) (hn : l.length = n) (hc : n ≤ c) (hR : RdB w A l) (hb : n ≤ 140737488355000) :
    Calls Tryz.prog 104 #[.agg (W8 key), .slice A n c] w fun e w' => e = .returned (.agg (W8 (polyL key l))) ∧ Below w.heap.size w w' := by
  have HK := Lib.hid hk
  have HN := Lib.hid hn
  have HC := Lib.hid hc
  have HR := Lib.hid hR
  have HB := Lib.hid hb
  have Z := Lib.hid zero16
  have Z5' := Lib.hid zero5
  obtain ⟨i0, hi, hz0, hz1, hz2⟩ := info_parts (show (Tryz.prog.info? 5).map (fun i => (i.zero, i.size, i.bytes)) = some (some (.int .u8 0), 1, 1) by kernel_rfl)
  have I0 := Lib.hid hi
  have I2 := Lib.hid hz1
  have K16 := Lib.hid (show (key.take 16).length = 16 by simp [hk])
  have KD := Lib.hid (show (key.drop 16).length = 16 by simp [hk])
  have Z24 := Lib.hid (show (Tryz.prog.info? 155).map (·.size) = some (B8 (key.take 16)).length by rw [B8_length, K16.out]; kernel_rfl)
  clear hn hc hR hb hk hi hz0 hz1 hz2
  go_enter Tryz.func104, Tryz.ntmps104
  go_upto_region 1 with fail
  rw [← Z.out]
  obtain ⟨w1, hw1⟩ : ∃ w1, w1 = (w.alloc (.cells (W8 key) 37)).alloc (.cells (W8 Z16) 155) := ⟨_, rfl⟩
  have S1 := Lib.hid (show BW w 37 w.heap.size key w1 ∧ BW w 155 (w.heap.size + 1) Z16 w1 by
    have hb : Below w.heap.size w w1 := by rw [hw1]; exact ((Below.refl _ _).alloc (Nat.le_refl _) _).alloc (by simp) _
    rw [hw1] at hb ⊢
    exact ⟨⟨ha_old _ _ _ (by simp) (ha_new _ _ _ rfl), by omega, hb⟩, ⟨ha_new _ _ _ (by simp), by omega, hb⟩⟩)
  rw [← hw1]
  clear hw1
  have HRG := Lib.hid (show w1.rangeAt w.heap.size 0 (B8 (key.take 16)) by
    intro j v hj
    have hj2 : j < 16 := by have := (List.getElem?_eq_some_iff.1 hj).1; rw [B8_length, K16.out] at this; exact this
    rw [B8_get _ _ (by rw [K16.out]; exact hj2)] at hj
    cases hj
    rw [Nat.zero_add]
    refine (row_cell S1.out.1.b j (W8_get key j (by rw [HK.out]; omega))).trans ?_
    rw [List.getD_eq_getElem?_getD, List.getD_eq_getElem?_getD, List.getElem?_take, if_pos hj2])
  obtain ⟨half, hhalf⟩ : ∃ half, half = clampL (key.take 16) := ⟨_, rfl⟩
  have HH := Lib.hid hhalf
  have HL := Lib.hid (show half.length = 16 by rw [hhalf, clampL_length, K16.out])
  clear hhalf
  go_upto_region 2 with (first
    | (refine wpList_val rfl (run_arr_to 37 (.tmp 2) (.const (.int .i64 16)) rfl 32 5 Tryz.underlying37 I0.out w.heap.size 16 (by omega) rfl rfl _) ?_)
    | (refine wpList_val rfl (run_sl2arr 155 (.tmp 17) rfl 16 5 Tryz.underlying155 (some ⟨w.heap.size, 0, none⟩) 16 32 rfl (by omega) _) ?_)
    | (refine wpList_load_mid rfl 155 (.tmp 18) rfl w.heap.size 0 rfl (B8 (key.take 16)) _ HRG.out Tryz.underlying155 rfl Z24.out ?_))
  change Calls _ _ #[.agg (W8 (key.take 16))] _ _
  refine (clamp_any (key.take 16) K16.out _).mono ?_
  rw [← HH.out]
  rintro e w2 ⟨rfl, hb2⟩
  have S2 := Lib.hid (And.intro (S1.out.1.keep hb2) (S1.out.2.keep hb2))
  clear hb2 S1 HRG
  go_upto_region 2 with (refine wpList_store_new rfl rfl 155 (.tmp 5) (.tmp 20) rfl (W8 half) rfl rfl (info_16 HL.out) ?c1 (W8_one _) ?_)
  case c1 => rw [W8_size, HL.out]; rfl
  obtain ⟨M2, hM2⟩ : ∃ M, M = w2.heap.size := ⟨_, rfl⟩
  rw [← hM2]
  obtain ⟨w3, hw3⟩ : ∃ w3, w3 = w2.alloc (.cells (W8 half) 155) := ⟨_, rfl⟩
  have S3 := Lib.hid (show BW w 37 w.heap.size key w3 ∧ BW w 155 (w.heap.size + 1) Z16 w3 ∧ w3.heap[M2]? = some (.cells (W8 half) 155 (0, 0)) by
    have hb : Below w2.heap.size w2 w3 := by rw [hw3]; exact (Below.refl _ _).alloc (Nat.le_refl _) _
    exact ⟨S2.out.1.keep hb, S2.out.2.keep hb, by rw [hw3]; exact ha_new _ _ _ hM2⟩)
  rw [← hw3]
  clear hw3 hM2 S2
  go_wp2_with (refine wpList_val rfl (run_arr_all 155 (.tmp 5) rfl 16 5 Tryz.underlying155 I0.out M2 rfl _) ?_)
  refine (nload_any (some ⟨M2, 0, none⟩) 16 16 half HL.out (by omega) (by omega) _ (RdB.row S3.out.2.2)).mono ?_
  obtain ⟨r, hr⟩ : ∃ r, r = limbsN (leNat half) := ⟨_, rfl⟩
  rw [← hr]
  have RL := Lib.hid (show r.length = 5 by rw [hr]; rfl)
  have RB := Lib.hid (show Bd 67108864 r by rw [hr]; exact (limbsN_bd _).mono (by omega))
  have RV := Lib.hid (show valN r = leNat half by rw [hr, limbsN_val _ (by have := leNat_lt16 half HL.out; omega)])
  clear hr
  rintro e w4 ⟨rfl, hb4⟩
  have S4 := Lib.hid (And.intro (S3.out.1.keep hb4) (S3.out.2.1.keep hb4))
  clear hb4 S3
  go_upto_region 3 with (refine wpList_store_new rfl rfl 222 (.tmp 6) (.tmp 22) rfl (WN r) rfl rfl (info_num RL.out) ?c2 (WN_one _) ?_)
  case c2 => rw [WN_size, RL.out]; rfl
  obtain ⟨M3, hM3⟩ : ∃ M, M = w4.heap.size := ⟨_, rfl⟩
  rw [← hM3]
  go_wp2_with fail
  rw [← Z5'.out, ← hM3]
  obtain ⟨w5, hw5⟩ : ∃ w5, w5 = (w4.alloc (.cells (WN r) 222)).alloc (.cells (WN Z5) 222) := ⟨_, rfl⟩
  have S5 := Lib.hid (show PsW w key r M3 (M3 + 1) Z5 w5 by
    have hb : Below w4.heap.size w4 w5 := by rw [hw5]; exact ((Below.refl _ _).alloc (Nat.le_refl _) _).alloc (by simp) _
    have hbk := S4.out.1.keep hb
    have h1 := row_lt S4.out.2.b
    exact ⟨hbk, S4.out.2.keep hb, ⟨by rw [hw5]; exact ha_old _ _ _ (by simp; omega) (ha_new _ _ _ hM3), by omega, hbk.bel⟩, ⟨by rw [hw5]; exact ha_new _ _ _ (by simp; omega), by omega, hbk.bel⟩, by omega, by omega⟩)
  rw [← hw5]
  clear hw5 S4 hM3
  have TB := Lib.hid (show ByteT Tryz.prog from ⟨Tryz.underlying22, by kernel_rfl⟩)
  go_loopw [1] (fun b wr => ∃ (l' : List UInt8) (A' : Option Addr) (c' : Nat) (a : List Nat), b = .slice A' l'.length c' ∧ l'.length ≤ c' ∧ RdB w A' l' ∧ l'.length ≤ n ∧ a.length = 5 ∧ Bd 67108868 a ∧ polyA (leNat half) (valN a % PN) l' = polyA (leNat half) 0 l ∧ PsW w key r M3 (M3 + 1) a wr) (fun b _ => lenOf b)
  case atStart => exact ⟨l, A, c, Z5, by rw [HN.out], by rw [HN.out]; exact HC.out, HR.out, by rw [HN.out]; exact Nat.le_refl _, rfl, by intro j; rcases j with _ | _ | _ | _ | _ | j <;> simp [Z5], rfl, S5.out⟩
  case round =>
    obtain ⟨l', A', c', a, rfl, hlc, hr', hln, hal, hab, hpa, hs⟩ := hrel
    obtain ⟨q, hq⟩ : ∃ q, q = l'.length := ⟨_, rfl⟩
    rw [← hq] at hlc hln ⊢
    have QL := Lib.hid hq.symm
    have LC := Lib.hid hlc
    have R' := Lib.hid hr'
    have LN := Lib.hid hln
    have AL := Lib.hid hal
    have AB := Lib.hid hab
    have PA := Lib.hid hpa
    have S6 := Lib.hid hs
    clear hq hlc hr' hln hal hab hpa hs S5 HR
    by_cases h0 : 0 < q
    · have hD : decide ((0 : Int) < (q : Int)) = true := by simp; omega
      obtain ⟨m, hm, hmq, hm16, hm0, hme⟩ := min16_ex q h0
      have hcm := cut_max (P := Tryz.prog) 22 5 Tryz.underlying22 I0.out I2.out A' q c' m (by have := LC.out; omega)
      have LM := Lib.hid (show (l'.take m).length = m by have := QL.out; simp; omega)
      have TM := Lib.hid (show l'.take m = l'.take 16 by
        rw [hme.out]
        by_cases h : q ≤ 16
        · rw [Nat.min_eq_left h, List.take_of_length_le (by rw [QL.out]; omega), List.take_of_length_le (by rw [QL.out]; omega)]
        · rw [Nat.min_eq_right (by omega)])
      have RM := Lib.hid ((R'.out.take m).keep S6.out.bk.bel)
      have NA := Lib.hid (show A' = none → m = 0 ∧ m = 0 by
        intro e
        obtain ⟨b, o, e2, _⟩ := R'.out 0 (by rw [QL.out]; exact h0)
        rw [e] at e2
        cases e2)
      go_upto_region 7 with (refine appg_list rfl TB.out (.tmp 32) (.tmp 33) rfl A' m m (l'.take m) [1] ⟨wr.heap.size, 0, none⟩ 1 1 rfl rfl LM.out rfl NA.out (RM.out.keep ((Below.refl _ _).alloc (Nat.le_refl _) _)) (RdB.one (y := 1) (row_cell (fr := (0, 0)) (ha_new wr _ _ rfl) 0 rfl)) (by omega) (by omega) ?_; intro v1 w6 ho hg)
      clear hm hcm
      have S7 := Lib.hid ((S6.out.keep ((Below.refl _ _).alloc (Nat.le_refl _) _)).keep (show Below _ _ _ from grown_below hg (Nat.le_refl _) (by intro g e; cases e)))
      obtain ⟨A7, c7, rfl, hr7, hl7, _, _⟩ := ho.read
      obtain ⟨k, hk⟩ : ∃ k, k = (l'.take m ++ [1]).length := ⟨_, rfl⟩
      rw [← hk] at hl7 ⊢
      have KE := Lib.hid hk.symm
      have KB := Lib.hid (show k = m + 1 by rw [hk, List.length_append, LM.out]; rfl)
      have R7 := Lib.hid hr7
      clear ho hg hr7 hl7 hk RM
      have S8 := Lib.hid (S7.out.keep (Below.refl _ _).drew)
      refine wp_region_till (PsW w key r M3 (M3 + 1) a) 6 [(true, 0), (true, 1), (true, 4), (false, 2), (false, 3), (false, 5)] _ (by kernel_rfl) (by kernel_rfl) rfl (fun _ _ d _ _ h => by cases d <;> exact h) ?_
      simp only [List.filterMap_cons, List.filterMap_nil, List.getElem?_toArray, List.getElem?_cons_zero, List.getElem?_cons_succ, Option.map_some]
      refine till_q (by rfl) (S8.out) (fun W hW => run_load_row 222 (.tmp 7) rfl (M3 + 1) rfl 222 (WN a) (0, 0) _ hW.ba.b Tryz.underlying222 rfl (info_num AL.out)) ?_
      simp only [Act.put, List.setIfInBounds_toArray, List.set_cons_zero, List.set_cons_succ]
      refine till_q (v := ?_) (by rfl) (S8.out) ?_ ?_
      rotate_left
      · intro W hW
        go_simp
        with_reducible rfl
      simp only [Act.put, List.setIfInBounds_toArray, List.set_cons_zero, List.set_cons_succ]
      refine till_q (by rfl) (S8.out) (fun W hW => run_load_row 222 (.tmp 6) rfl M3 rfl 222 (WN r) (0, 0) _ hW.br.b Tryz.underlying222 rfl (info_num RL.out)) ?_
      simp only [Act.put, List.setIfInBounds_toArray, List.set_cons_zero, List.set_cons_succ]
      refine till_t (by rfl) (fun K hK => ?_)
      go_simp
      refine (nload_any A7 k c7 (l'.take m ++ [1]) KE.out (by have := KB.out; omega) ?k1 w6.drew R7.out).mono ?_
      case k1 =>
        intro e
        have h1 := KB.out
        have h2 := LM.out
        rw [List.getD_eq_getElem?_getD, List.getElem?_append_right (by omega), show 16 - (l'.take m).length = 0 by omega]
        decide
      obtain ⟨B, hB⟩ : ∃ B, B = limbsN (leNat (l'.take m ++ [1])) := ⟨_, rfl⟩
      rw [← hB]
      have BL := Lib.hid (show B.length = 5 by rw [hB]; rfl)
      have BB := Lib.hid (show Bd 67108863 B by rw [hB]; exact limbsN_bd _)
      have BV := Lib.hid (show valN B = leNat (l'.take 16 ++ [1]) by
        rw [hB, TM.out]
        refine limbsN_val _ ?_
        have h1 := leNat_append (l'.take 16) [1]
        have h2 := leNat_lt (l'.take 16)
        have h3 : 256 ^ (l'.take 16).length ≤ 256 ^ 16 := Nat.pow_le_pow_right (by omega) (by simp; omega)
        have h4 : leNat [1] = 1 := rfl
        rw [h4] at h1
        omega)
      clear hB
      rintro e w8 ⟨rfl, hb8⟩
      have S9 := Lib.hid (S8.out.keep hb8)
      clear hb8
      refine hK.out _ _ (S9.out) ?_
      clear hK K
      refine till_t (by rfl) (fun K hK => ?_)
      go_simp
      refine (nadd_any a B AL.out BL.out (AB.out.mono (by omega)) (BB.out.mono (by omega)) _).mono ?_
      obtain ⟨t, ht⟩ : ∃ t, t = addK a B 5 := ⟨_, rfl⟩
      rw [← ht]
      have TL := Lib.hid (show t.length = 5 by rw [ht, addK_length, AL.out])
      have TBd := Lib.hid (show Bd 268435456 t by rw [ht]; exact ((addK_all a B AL.out BL.out).2 _ _ AB.out BB.out).mono (by omega))
      have TV := Lib.hid (show valN t = valN a + valN B by rw [ht]; exact (addK_all a B AL.out BL.out).1)
      clear ht
      rintro e w9 ⟨rfl, hb9⟩
      have S10 := Lib.hid (S9.out.keep hb9)
      clear hb9
      refine hK.out _ _ (S10.out) ?_
      clear hK K
      refine till_t (by rfl) (fun K hK => ?_)
      go_simp
      refine (ntimes_any t r TL.out RL.out TBd.out RB.out _).mono ?_
      obtain ⟨u, hu⟩ : ∃ u, u = timesL t r := ⟨_, rfl⟩
      rw [← hu]
      have UL := Lib.hid (show u.length = 5 by rw [hu, timesL_length])
      have UA := Lib.hid (timesL_all t r TL.out RL.out TBd.out RB.out)
      rw [← hu] at UA
      clear hu
      rintro e w10 ⟨rfl, hb10⟩
      have S11 := Lib.hid (S10.out.keep hb10)
      clear hb10
      refine hK.out _ _ (S11.out) ?_
      clear hK K
      refine till_last (fun K hK => ?_)
      refine storeW_wp 222 (.tmp 7) (.tmp 40) rfl (M3 + 1) (WN u) rfl rfl _ _ S11.out.ba.b (info_num UL.out) (by rw [WN_size, WN_size, UL.out, AL.out]) (WN_one _) ?_
      intro w11 hz11 hg11 hs11
      have S12 := Lib.hid (S11.out.whole hz11 hg11)
      clear hz11 hg11 hs11
      refine hK.out _ _ ?_
      clear hK K
      simp only [Act.put]
      obtain ⟨A'', hcut, hcutR, _⟩ := cut_from (P := Tryz.prog) 22 5 Tryz.underlying22 I0.out I2.out A' q c' m hmq
      have RD := Lib.hid (hcutR w l' QL.out LC.out R'.out)
      clear hcutR
      go_wp2_with fail
      go_roundw
      case rel =>
        have h1 := QL.out
        have h2 := LC.out
        refine ⟨l'.drop m, A'', c' - m, u, by rw [List.length_drop, h1], by rw [List.length_drop, h1]; omega, RD.out, by rw [List.length_drop, h1]; have := LN.out; omega, UL.out, UA.out.2, ?_, S12.out⟩
        rw [← PA.out, polyA_cons _ _ l' (by intro e; rw [e] at h1; simp at h1; omega), UA.out.1, TV.out, BV.out, RV.out]
        have hd : l'.drop m = l'.drop 16 := by
          rw [hme.out]
          by_cases h : q ≤ 16
          · rw [Nat.min_eq_left h, List.drop_of_length_le (by rw [h1]; omega), List.drop_of_length_le (by rw [h1]; omega)]
          · rw [Nat.min_eq_right (by omega)]
        rw [hd]
        congr 1
        exact mod_add_mul _ _ _ _
      case measure => simp [lenOf]; omega
    · have hl0 : Hid (l' = []) := List.eq_nil_of_length_eq_zero (by rw [QL.out]; omega)
      have hD : decide ((0 : Int) < (q : Int)) = false := by simp; omega
      have XV := Lib.hid (show valN a % PN = polyA (leNat half) 0 l by have := PA.out; rw [hl0.out, polyA_nil] at this; exact this)
      clear PA
      go_wp2_with (refine wpList_load_row rfl 222 (.tmp 7) rfl (M3 + 1) rfl 222 (WN a) (0, 0) _ S6.out.ba.b Tryz.underlying222 rfl (info_num AL.out) ?_)
      refine (nleast_any a AL.out AB.out _).mono ?_
      obtain ⟨X, hX⟩ : ∃ X, X = valN a % PN := ⟨_, rfl⟩
      obtain ⟨L, hL⟩ : ∃ L, L = leastL a := ⟨_, rfl⟩
      rw [← hL]
      have LL := Lib.hid (show L = limbsN X by rw [hL, hX]; exact leastL_all a AL.out AB.out)
      have LLen := Lib.hid (show L.length = 5 by rw [LL.out]; rfl)
      have LB := Lib.hid (show Bd 67108863 L by rw [LL.out]; exact limbsN_bd _)
      have XE := Lib.hid (show X = polyA (leNat half) 0 l by rw [hX]; exact XV.out)
      clear hX hL
      rintro e w6 ⟨rfl, hb6⟩
      have S7 := Lib.hid (S6.out.keep hb6)
      clear hb6
      go_upto_region 10 with (refine wpList_store_whole rfl rfl 222 (.tmp 7) (.tmp 45) rfl (M3 + 1) (WN L) rfl rfl 222 _ S7.out.ba.b (info_num LLen.out) (by rw [WN_size, WN_size, LLen.out, AL.out]) (WN_one _) ?_; intro w7 hz7 hg7 hs7)
      have S8 := Lib.hid (S7.out.whole hz7 hg7)
      clear hz7 hg7 hs7 S6 S7
      go_wp2_with fail
      rw [← Z.out]
      obtain ⟨M5, hM5⟩ : ∃ M, M = w7.heap.size := ⟨_, rfl⟩
      rw [← hM5]
      obtain ⟨T, hT⟩ : ∃ T, T = bytesN (tagN X (key.drop 16)) := ⟨_, rfl⟩
      have TL := Lib.hid (show T.length = 16 by rw [hT, bytesN_length])
      have TT := Lib.hid hT
      obtain ⟨w8, hw8⟩ : ∃ w8, w8 = w7.alloc (.cells (W8 Z16) 155) := ⟨_, rfl⟩
      have S9 := Lib.hid (show PsW w key r M3 (M3 + 1) L w8 ∧ BW w 155 M5 (partB T 0) w8 ∧ M3 + 1 < M5 by
        have hb : Below w7.heap.size w7 w8 := by rw [hw8]; exact (Below.refl _ _).alloc (Nat.le_refl _) _
        have h9 := S8.out.keep hb
        have h1 := row_lt S8.out.ba.b
        refine ⟨h9, ⟨?_, ?_, h9.bk.bel⟩, by omega⟩
        · rw [hw8, partB_zero, TL.out]
          exact ha_new _ _ _ hM5
        · have := S8.out.ba.bel.size
          omega)
      have M5L := Lib.hid S9.out.2.2
      rw [← hw8]
      clear hw8 hM5 hT S8
      go_loopw [11, 46] (fun cy u wr => ∃ i : Nat, i ≤ 16 ∧ u = .int .i64 (i : Int) ∧ cy = .int .u64 ((tagK X (key.drop 16) i / 256 ^ i : Nat) : Int) ∧ PsW w key r M3 (M3 + 1) L wr ∧ BW w 155 M5 (partB T i) wr) (fun _ u _ => 16 - (intOf u).toNat)
      case atStart => exact ⟨0, by omega, rfl, by simp [tagK, leNat, Nat.mod_one], S9.out.1, S9.out.2.1⟩
      case round =>
        obtain ⟨i, hi, rfl, rfl, hs, hm⟩ := hrel
        have I := Lib.hid hi
        have SA := Lib.hid hs
        have SB := Lib.hid hm
        clear hi hs hm S9
        obtain ⟨cy, hcy⟩ : ∃ cy, cy = tagK X (key.drop 16) i / 256 ^ i := ⟨_, rfl⟩
        rw [← hcy]
        have CY := Lib.hid hcy
        have CB := Lib.hid (show cy ≤ 1 by rw [hcy]; exact tagK_small _ _ _ (by rw [KD.out]; exact I.out))
        clear hcy
        by_cases hlt : i < 16
        · have hD2 : decide ((i : Int) < 16) = true := by simp; omega
          obtain ⟨k, hk⟩ : ∃ k, k = 8 * i / 26 := ⟨_, rfl⟩
          obtain ⟨s, hs⟩ : ∃ s, s = 8 * i % 26 := ⟨_, rfl⟩
          have b1 : (i : Int) ≤ 15 := by omega
          have e1 : 8 * (i : Int) / 26 = (k : Int) := by omega
          have e2 : 8 * (i : Int) % 26 = (s : Int) := by omega
          have k4 : k < 5 := by omega
          have s26 : s < 26 := by omega
          obtain ⟨x, hx⟩ : ∃ x, x = L.getD k 0 := ⟨_, rfl⟩
          have xb : x ≤ 67108863 := by rw [hx]; exact LB.out k
          have a1 := row_cell SA.out.ba.b k (WN_get _ k (by rw [LLen.out]; exact k4))
          rw [← hx] at a1
          obtain ⟨v0, hv0⟩ : ∃ v, v = x / 2 ^ s := ⟨_, rfl⟩
          have v0b : v0 ≤ 67108863 := by rw [hv0]; exact Nat.le_trans (Nat.div_le_self _ _) xb
          have e5 : (x : Int) / 2 ^ s = (v0 : Int) := by rw [hv0, Int.natCast_ediv, Int.natCast_pow]; rfl
          have K := Lib.hid hk
          have S := Lib.hid hs
          have E1 := Lib.hid e1
          have E2 := Lib.hid e2
          have E5 := Lib.hid e5
          have X0 := Lib.hid hx
          have V0 := Lib.hid hv0
          clear hk hs hx hv0
          go_upto_if 62 with fail
          clear a1 e1 e2 e5
          rw [E1.out, E2.out]
          obtain ⟨V, hV⟩ : ∃ V, V = outV L i := ⟨_, rfl⟩
          have HV := Lib.hid hV
          clear hV
          go_cut [16] (fun v wx => v = .int .u64 (V : Int) ∧ V < 18446744073709551616 ∧ wx = wr)
          case first =>
            by_cases h5 : k + 1 < 5
            · have hE : decide ((k : Int) + 1 < 5) = true := by simp; omega
              obtain ⟨y, hy⟩ : ∃ y, y = L.getD (k + 1) 0 := ⟨_, rfl⟩
              have yb : y ≤ 67108863 := by rw [hy]; exact LB.out _
              have a2 := row_cell SA.out.ba.b (k + 1) (WN_get _ (k + 1) (by rw [LLen.out]; exact h5))
              rw [← hy] at a2
              obtain ⟨Y, hYY⟩ : ∃ Y, Y = y * 2 ^ (26 - s) := ⟨_, rfl⟩
              have sp : 2 ^ (26 - s) ≤ 2 ^ 26 := Nat.pow_le_pow_right (by omega) (by omega)
              have Yb : Y ≤ 67108863 * 67108864 := by rw [hYY]; exact Nat.mul_le_mul yb sp
              have e6 : IntKind.u64.wrap ((y : Int) * 2 ^ (26 - s)) = (Y : Int) := by
                have : ((y : Int) * 2 ^ (26 - s)) = (Y : Int) := by rw [hYY, Int.natCast_mul, Int.natCast_pow]; rfl
                rw [this]; exact wrap_u64 _ (by omega)
              have e7 : (26 - (s : Int)).toNat = 26 - s := by omega
              have b2 : (0 : Int) ≤ 26 - (s : Int) := by omega
              have b6 : (s : Int) ≤ 26 := by omega
              have b3 : (k : Int) + 1 < 5 := by omega
              have e8 : ((k : Int) + 1).toNat = k + 1 := by omega
              have VE : Hid (V = v0 ||| Y) := by
                show V = _
                rw [HV.out, outV, ← K.out, ← S.out, if_pos h5, ← X0.out, ← V0.out, ← hy, ← hYY]
              have e9 : bits .or .u64 (v0 : Int) (Y : Int) = (V : Int) := by rw [VE.out]; exact or64 v0 Y (by omega) (by omega)
              have Vb : V < 18446744073709551616 := by rw [VE.out]; exact Nat.or_lt_two_pow (n := 64) (by omega) (by omega)
              clear hy hYY sp
              go_wp2_with fail
              go_meet
              exact ⟨rfl, Vb, rfl⟩
            · have hE : decide ((k : Int) + 1 < 5) = false := by simp; omega
              have VE : V = v0 := by rw [HV.out, outV, ← K.out, ← S.out, if_neg h5, ← X0.out, ← V0.out]
              have VE2 := Lib.hid VE
              clear VE
              go_wp2_with fail
              go_meet
              exact ⟨by rw [VE2.out], by rw [VE2.out]; omega, rfl⟩
          case rest =>
          obtain ⟨rfl, hVb, rfl⟩ := hcut
          obtain ⟨B, hB⟩ : ∃ B, B = X / 256 ^ i % 256 := ⟨_, rfl⟩
          have VB : Hid (V % 256 = B) := by
            show V % 256 = B
            rw [HV.out, LL.out, hB]
            exact outV_byte X i hlt
          have Bb : B ≤ 255 := by rw [hB]; omega
          obtain ⟨kb, hkb⟩ : ∃ y, y = key.getD (16 + i) 0 := ⟨_, rfl⟩
          have a3 := row_cell SA.out.bk.b (16 + i) (W8_get key (16 + i) (by rw [HK.out]; omega))
          rw [← hkb] at a3
          have kb8 := kb.toNat_lt
          have e3 : IntKind.u64.wrap (kb.toNat : Int) = (kb.toNat : Int) := wrap_u64 _ (by omega)
          have e4 : bits .and .u64 (V : Int) 255 = (B : Int) := by
            have h := u64_and_nat V 255 hVb (by omega)
            rw [show ((255 : Nat) : Int) = 255 from rfl] at h
            rw [h, show (255 : Nat) = 2 ^ 8 - 1 from rfl, Nat.and_two_pow_sub_one_eq_mod]
            have := VB.out
            omega
          have b3 : 16 + (i : Int) < 32 := by omega
          have b4 : (0 : Int) ≤ 16 + (i : Int) := by omega
          have e6 : (16 + (i : Int)).toNat = 16 + i := by omega
          have cb := CB.out
          have b5 : (B : Int) + (kb.toNat : Int) ≤ 600 := by omega
          have b6 : (cy : Int) + ((B : Int) + (kb.toNat : Int)) ≤ 600 := by omega
          obtain ⟨z, hz⟩ : ∃ z : UInt8, z = UInt8.ofNat (cy + (B + kb.toNat)) := ⟨_, rfl⟩
          have e7 : ((cy : Int) + ((B : Int) + (kb.toNat : Int))) % 256 = (z.toNat : Int) := by
            rw [hz, UInt8.toNat_ofNat']
            omega
          obtain ⟨cy', hcy'⟩ : ∃ c : Nat, c = (cy + (B + kb.toNat)) / 256 := ⟨_, rfl⟩
          have e8 : ((cy : Int) + ((B : Int) + (kb.toNat : Int))) / 256 = (cy' : Int) := by omega
          have a5 := row_cell SB.out.b i (W8_get _ i (by rw [partB_length, TL.out]; exact hlt))
          have f5 := row_free SB.out.b i
          have b7 : (i : Int) < 16 := by omega
          have KBE := Lib.hid (show kb = (key.drop 16).getD i 0 by rw [hkb, List.getD_eq_getElem?_getD, List.getD_eq_getElem?_getD, List.getElem?_drop])
          have BE := Lib.hid hB
          have ZE := Lib.hid hz
          have CE := Lib.hid hcy'
          clear hB hkb hz hcy' hVb
          go_wp2_with fail
          go_roundw
          case rel =>
            refine ⟨i + 1, by omega, by go_num, ?_, ?_, ?_⟩
            · rw [CE.out, tagK_next _ _ _ (by rw [KD.out]; exact hlt), ← CY.out, ← BE.out, ← KBE.out]
            · have hgr := grown1 wc M5 i (.int .u8 (z.toNat : Int))
              have h1 := M5L.out
              have h3 := SA.out.h3
              have h4 := SA.out.h4
              have h5 := SB.out.hg
              exact ⟨SA.out.bk.away (by omega) h5 hgr, SA.out.bo.away (by omega) h5 hgr, SA.out.br.away (by omega) h5 hgr, SA.out.ba.away (by omega) h5 hgr, h3, h4⟩
            · have := SB.out.set i z
              rw [show z = T.getD i 0 by rw [ZE.out, TT.out, tag_byte X _ KD.out i hlt, ← CY.out, ← BE.out, ← KBE.out], partB_set _ _ (by rw [TL.out]; exact hlt)] at this
              rw [show z = T.getD i 0 by rw [ZE.out, TT.out, tag_byte X _ KD.out i hlt, ← CY.out, ← BE.out, ← KBE.out]]
              exact this
          case measure => simp [intOf]; omega
        · have hi : Hid (i = 16) := show i = 16 by have := I.out; omega
          have hD2 : decide ((i : Int) < 16) = false := by simp; omega
          have SC := Lib.hid (show BW w 155 M5 T wr by have := SB.out; rw [hi.out, ← TL.out, partB_full] at this; exact this)
          go_wp2_with (first
            | (refine wpList_load_row rfl 155 (.tmp 10) rfl M5 rfl 155 (W8 T) (0, 0) _ SC.out.b Tryz.underlying155 rfl (info_16 TL.out) ?_)
            | (refine wpList_store_whole rfl rfl 155 (.tmp 4) (.tmp 89) rfl (w.heap.size + 1) (W8 T) rfl rfl 155 _ SA.out.bo.b (info_16 TL.out) (by rw [W8_size, W8_size, TL.out]; rfl) (W8_one _) ?_; intro w8 hz8 hg8 _))
          exact bodyPost_ret (results_cell_row rfl _ _ (w.heap.size + 1) 155 (W8 T) (0, 0) _ rfl hz8 Tryz.underlying155 rfl (info_16 TL.out)) rfl ⟨by rw [TT.out, XE.out, HH.out]; rfl, SA.out.bo.ret hg8⟩
end Go.Proofs.YtlocplkjokoknaaGreat

/- Blocks of bytes of the call's own, the newest first. No condition but those each theorem states. -/
namespace Go.Proofs.YtlocplkjokoknaaGreat
set_option linter.unusedVariables false
set_option linter.unusedSimpArgs false
open Go.RowKit

structure Bls (w : World) (bs : List (TypeId × Nat × List UInt8)) (W : World) : Prop where
  has : ∀ x ∈ bs, W.heap[x.2.1]? = some (.cells (W8 x.2.2) x.1 (0, 0))
  hg : ∀ x ∈ bs, w.heap.size ≤ x.2.1
  srt : bs.Pairwise (fun a b => b.2.1 < a.2.1)
  bel : Below w.heap.size w W
theorem Bls.start (w : World) : Bls w [] w := ⟨by simp, by simp, .nil, Below.refl _ _⟩
theorem Bls.blk {w W : World} {bs : List (TypeId × Nat × List UInt8)} (h : Bls w bs W) {t : TypeId} {g : Nat} {l : List UInt8} (hm : (t, g, l) ∈ bs) : W.heap[g]? = some (.cells (W8 l) t (0, 0)) := h.has _ hm
theorem Bls.cell {w W : World} {bs : List (TypeId × Nat × List UInt8)} (h : Bls w bs W) {t : TypeId} {g : Nat} {l : List UInt8} (hm : (t, g, l) ∈ bs) (i : Nat) (hi : i < l.length) : W.cell? ⟨g, i, none⟩ = some (.int .u8 ((l.getD i 0).toNat : Int)) := row_cell (h.blk hm) i (W8_get l i hi)
theorem Bls.free {w W : World} {bs : List (TypeId × Nat × List UInt8)} (h : Bls w bs W) {t : TypeId} {g : Nat} {l : List UInt8} (hm : (t, g, l) ∈ bs) (i : Nat) : W.frozen? ⟨g, i, none⟩ = false := row_free (h.blk hm) i
theorem Bls.rd {w W : World} {bs : List (TypeId × Nat × List UInt8)} (h : Bls w bs W) {t : TypeId} {g : Nat} {l : List UInt8} (hm : (t, g, l) ∈ bs) : RdB W (some ⟨g, 0, none⟩) l := RdB.row (h.blk hm)
theorem Bls.new {w W : World} {bs : List (TypeId × Nat × List UInt8)} (h : Bls w bs W) (t : TypeId) (l : List UInt8) {g : Nat} (hG : g = W.heap.size) : Bls w ((t, g, l) :: bs) (W.alloc (.cells (W8 l) t)) := by
  subst hG
  refine ⟨fun x hx => ?_, fun x hx => ?_, ?_, h.bel.alloc h.bel.size _⟩
  · rcases List.mem_cons.1 hx with rfl | hx
    · exact ha_new _ _ _ rfl
    · exact ha_old _ _ _ (row_lt (h.has x hx)) (h.has x hx)
  · rcases List.mem_cons.1 hx with rfl | hx
    · exact h.bel.size
    · exact h.hg x hx
  · exact List.pairwise_cons.2 ⟨fun x hx => row_lt (h.has x hx), h.srt⟩
theorem Bls.keep {w W W' : World} {bs : List (TypeId × Nat × List UInt8)} (h : Bls w bs W) (hb : Below W.heap.size W W') : Bls w bs W' :=
  ⟨fun x hx => below_block hb (row_lt (h.has x hx)) (h.has x hx), h.hg, h.srt, h.bel.trans (hb.mono h.bel.size)⟩
theorem Bls.drew {w W : World} {bs : List (TypeId × Nat × List UInt8)} (h : Bls w bs W) : Bls w bs W.drew := h.keep (Below.refl _ _).drew
/-- The newest one is written whole. -/
theorem Bls.whole {w W W' : World} {bs : List (TypeId × Nat × List UInt8)} {t : TypeId} {g : Nat} {l l' : List UInt8} (h : Bls w ((t, g, l) :: bs) W) (hb : W'.heap[g]? = some (.cells (W8 l') t (0, 0))) (hgr : W.grownBy W' (some g)) : Bls w ((t, g, l') :: bs) W' := by
  have hg0 := h.hg _ (List.mem_cons_self ..)
  refine ⟨fun x hx => ?_, fun x hx => ?_, ?_, h.bel.trans (grown_below hgr h.bel.size (by rintro k ⟨⟩; exact hg0))⟩
  · rcases List.mem_cons.1 hx with rfl | hx
    · exact hb
    · refine grown_block hgr (fun e => ?_) (h.has x (List.mem_cons_of_mem _ hx))
      have := (List.pairwise_cons.1 h.srt).1 x hx
      injection e with e
      simp at this
      omega
  · rcases List.mem_cons.1 hx with rfl | hx
    · exact hg0
    · exact h.hg x (List.mem_cons_of_mem _ hx)
  · exact List.pairwise_cons.2 ⟨fun x hx => (List.pairwise_cons.1 h.srt).1 x hx, (List.pairwise_cons.1 h.srt).2⟩
/-- A byte of the newest one is written. -/
theorem Bls.set {w W : World} {bs : List (TypeId × Nat × List UInt8)} {t : TypeId} {g : Nat} {l : List UInt8} (h : Bls w ((t, g, l) :: bs) W) (i : Nat) (x : UInt8) : Bls w ((t, g, l.set i x) :: bs) (W.setCell ⟨g, i, none⟩ (.int .u8 (x.toNat : Int))) :=
  h.whole (by rw [heap_setCell_same _ _ _ _ _ _ (h.blk (List.mem_cons_self ..)), W8_set]) (grown_set (World.grownBy.refl _ _) _ _)
theorem Bls.lt {w W : World} {bs : List (TypeId × Nat × List UInt8)} (h : Bls w bs W) {t : TypeId} {g : Nat} {l : List UInt8} (hm : (t, g, l) ∈ bs) : g < W.heap.size := row_lt (h.blk hm)
/-- The first cells of a row. -/
theorem range_row {W : World} {g : Nat} {t : TypeId} {l : List UInt8} (h : W.heap[g]? = some (.cells (W8 l) t (0, 0))) (off n : Nat) (hn : off + n ≤ l.length) : W.rangeAt g off (B8 ((l.drop off).take n)) := by
  intro j v hj
  have hjl : j < n := by
    have := (List.getElem?_eq_some_iff.1 hj).1
    rw [B8_length, List.length_take] at this
    omega
  rw [B8_get _ _ (by simp; omega)] at hj
  cases hj
  refine (row_cell h (off + j) (W8_get l (off + j) (by omega))).trans ?_
  rw [List.getD_eq_getElem?_getD, List.getD_eq_getElem?_getD, List.getElem?_take, if_pos hjl, List.getElem?_drop]
end Go.Proofs.YtlocplkjokoknaaGreat

/- aead: Tag, Seal. No condition but those each theorem states. -/
namespace Go.Proofs.YtlocplkjokoknaaGreat
set_option linter.unusedVariables false
set_option linter.unusedSimpArgs false
open Go.RowKit
attribute [local go_sem ↓] Go.wp_at_zero Go.wp_at_succ

/-- What the tag is over. -/
def overL (beside sealed : List UInt8) : List UInt8 := padB beside ++ padB sealed ++ leL 8 beside.length ++ leL 8 sealed.length
def tagL (k n beside sealed : List UInt8) : List UInt8 := polyL ((blockL k n 0).take 32) (overL beside sealed)
def sealL (k n beside text : List UInt8) : List UInt8 := streamL k n 1 text ++ tagL k n beside (streamL k n 1 text)
theorem tagL_length (k n beside sealed : List UInt8) : (tagL k n beside sealed).length = 16 := polyL_length _ _
theorem sealL_length (k n beside text : List UInt8) : (sealL k n beside text).length = text.length + 16 := by rw [sealL, List.length_append, streamL_length, tagL_length]
theorem overL_length (b s : List UInt8) : (overL b s).length ≤ b.length + s.length + 46 := by simp [overL, padB_length, leL_length]; omega
theorem run_load_bytes {P : Program} {o : Oper} {a : Act} (ty : TypeId) (x : Operand) (ho : o.op = .load ty x) (b off : Nat) (hx : a.eval x = .pointer (some ⟨b, off, none⟩)) (l : List UInt8) {W : World} (h : W.rangeAt b off (B8 l)) {d : TypeDesc} (hu : P.underlying ty = some d)
    (hd : d.isRow = true) (hi : (P.info? ty).map (·.size) = some (B8 l).length) : (execOp a.eval o).run P W = .ok (.value (.agg (W8 l))) W := by
  unfold execOp
  simp only [ho, hx, Instr.loadAt, Instr.sureAddr, Sem.run_bind, Sem.run_pure, Result.andThen_ok, run_loadVar_mid W b off _ _ _ h hu hd hi]
  rfl
/-- What stands while a tag is made. -/
structure TgW (w : World) (k n : List UInt8) (z : List UInt8) (W : World) : Prop where
  bk : W.heap[w.heap.size]? = some (.cells (W8 k) 38 (0, 0))
  bn : W.heap[w.heap.size + 1]? = some (.cells (W8 n) 128 (0, 0))
  bo : W.heap[w.heap.size + 1 + 1]? = some (.cells (W8 z) 155 (0, 0))
  bel : Below w.heap.size w W
theorem TgW.keep {w W W' : World} {k n z : List UInt8} (h : TgW w k n z W) {B : Nat} (hb : Below B W W') (hB : w.heap.size + 1 + 1 < B) : TgW w k n z W' :=
  ⟨below_block hb (by omega) h.bk, below_block hb (by omega) h.bn, below_block hb hB h.bo, h.bel.trans (hb.mono (by omega))⟩
theorem TgW.lt {w W : World} {k n z : List UInt8} (h : TgW w k n z W) : w.heap.size + 1 + 1 < W.heap.size := row_lt h.bo
theorem TgW.seto {w W W' : World} {k n z z' : List UInt8} (h : TgW w k n z W) (hz : W'.heap[w.heap.size + 1 + 1]? = some (.cells (W8 z') 155 (0, 0))) (hg : W.grownBy W' (some (w.heap.size + 1 + 1))) : TgW w k n z' W' :=
  ⟨grown_block hg (by simp; omega) h.bk, grown_block hg (by simp) h.bn, hz, h.bel.trans (grown_below hg h.bel.size (by rintro g ⟨⟩; omega))⟩
set_option maxRecDepth 100000 in
set_option maxHeartbeats 4000000 in
theorem tag_any (k n : List UInt8) (hk : k.length = 32) (hn : n.length = 12) (w : World) (A : Option Addr) (q c : Nat) (l : List UInt8) (hq : l.length = q) (hR : RdB w A l) (A2 : Option Addr) (q2 c2 : Nat) (l2 : List UInt8) (hq2 : l2.length = q2) (hR2 : RdB w A2 l2) (hl : q ≤ 70000) (hl2 : q2 ≤ 100000) :
    Calls Tryz.prog 79 #[.agg (W8 k), .agg (W8 n), .slice A q c, .slice A2 q2 c2] w fun e w' => e = .returned (.agg (W8 (tagL k n l l2))) ∧ Below w.heap.size w w' := by
  have HK := Lib.hid hk
  have HN := Lib.hid hn
  have HQ := Lib.hid hq
  have HQ2 := Lib.hid hq2
  have HR := Lib.hid hR
  have HR2 := Lib.hid hR2
  have ZK := Lib.hid (show (Tryz.prog.info? 38).map (·.size) = some (W8 k).size by rw [W8_size, hk]; kernel_rfl)
  have ZN := Lib.hid (show (Tryz.prog.info? 128).map (·.size) = some (W8 n).size by rw [W8_size, hn]; kernel_rfl)
  have ZZ := Lib.hid zero16
  obtain ⟨T, hT⟩ : ∃ T, T = tagL k n l l2 := ⟨_, rfl⟩
  rw [← hT]
  have TE := Lib.hid hT
  have QB := Lib.hid (And.intro hl hl2)
  have qb : (q : Int) ≤ 70000 := by omega
  have qb2 : (q2 : Int) ≤ 100000 := by omega
  clear hk hn hq hq2 hR hR2 hT hl hl2
  go_enter Tryz.func79, Tryz.ntmps79
  go_upto_region 1 with fail
  rw [← ZZ.out]
  generalize hw1 : World.alloc w _ = w0
  generalize hw2 : World.alloc w0 _ = w1
  generalize hw3 : World.alloc w1 _ = w2
  have S := Lib.hid (show TgW w k n Z16 w2 by
    have s0 : w0.heap.size = w.heap.size + 1 := by rw [← hw1, ha_size]
    have s1 : w1.heap.size = w.heap.size + 1 + 1 := by rw [← hw2, ha_size, s0]
    have b0 : w0.heap[w.heap.size]? = some (.cells (W8 k) 38 (0, 0)) := by rw [← hw1]; exact ha_new _ _ _ rfl
    have b1 : w1.heap[w.heap.size + 1]? = some (.cells (W8 n) 128 (0, 0)) := by rw [← hw2]; exact ha_new _ _ _ s0.symm
    have b2 : w2.heap[w.heap.size + 1 + 1]? = some (.cells (W8 Z16) 155 (0, 0)) := by rw [← hw3]; exact ha_new _ _ _ s1.symm
    have h0 : Below w.heap.size w w0 := by rw [← hw1]; exact below_new _ _
    have h1 : Below w0.heap.size w0 w1 := by rw [← hw2]; exact below_new _ _
    have h2 : Below w1.heap.size w1 w2 := by rw [← hw3]; exact below_new _ _
    exact ⟨below_block h2 (by omega) (below_block h1 (by omega) b0), below_block h2 (by omega) b1, b2, h0.trans ((h1.mono (by omega)).trans (h2.mono (by omega)))⟩)
  clear hw1 hw2 hw3
  go_wp2_with (first
    | (refine wpList_val rfl (run_load_row 38 (.tmp 4) rfl w.heap.size rfl 38 (W8 k) (0, 0) _ S.out.bk Tryz.underlying38 rfl ZK.out) ?_)
    | (refine wpList_val rfl (run_load_row 128 (.tmp 5) rfl (w.heap.size + 1) rfl 128 (W8 n) (0, 0) _ S.out.bn Tryz.underlying128 rfl ZN.out) ?_))
  refine (block_any k n HK.out HN.out 0 w2).mono ?_
  obtain ⟨B, hB⟩ : ∃ B, B = blockL k n 0 := ⟨_, rfl⟩
  rw [← hB]
  have BE := Lib.hid hB
  have BL := Lib.hid (show B.length = 64 by rw [hB, blockL_length])
  have ZB := Lib.hid (show (Tryz.prog.info? 179).map (·.size) = some (W8 B).size by rw [W8_size, BL.out]; kernel_rfl)
  rintro e w3 ⟨rfl, hb⟩
  have S := Lib.hid (S.out.keep hb S.out.lt)
  clear hb hB
  go_upto_region 2 with (refine wpList_store_new rfl rfl 179 (.tmp 9) (.tmp 13) rfl (W8 B) rfl rfl ZB.out ?c1 (W8_one _) ?_)
  case c1 => rw [W8_size, BL.out]; rfl
  have MW0 := Lib.hid S.out.lt
  generalize hM : Array.size (World.heap w3) = M at *
  generalize hw : World.alloc w3 _ = w4
  have GB := Lib.hid (show w4.heap[M]? = some (.cells (W8 B) 179 (0, 0)) by rw [← hw]; exact ha_new _ _ _ hM.symm)
  have S := Lib.hid (show TgW w k n Z16 w4 by rw [← hw]; exact S.out.keep (below_new _ _) S.out.lt)
  clear hM hw
  obtain ⟨base, hbase⟩ : ∃ b, b = w4.heap.size := ⟨_, rfl⟩
  have BZ := Lib.hid hbase
  have MB := Lib.hid (show M < base by rw [hbase]; exact row_lt GB.out)
  have MW := Lib.hid (show w.heap.size + 1 + 1 < M from MW0.out)
  have LB := Lib.hid (show w.heap.size + 1 + 1 < base by rw [hbase]; exact S.out.lt)
  clear hbase
  go_wp2_with fail
  refine (padded_any w4 base (.slice none 0 0) [] A q c l HQ.out (OwnB.nil _ _) (by rw [BZ.out]; exact Nat.le_refl _) (HR.out.keep S.out.bel) (by have := QB.out; simp; omega)).mono ?_
  rw [List.nil_append]
  rintro e w5 ⟨v, rfl, ho, hb⟩
  have O := Lib.hid ho
  have GB := Lib.hid (below_block hb MB.out GB.out)
  have S := Lib.hid (S.out.keep hb LB.out)
  have SZ := Lib.hid (show base ≤ w5.heap.size by rw [BZ.out]; exact hb.size)
  clear ho hb BZ
  go_wp2_with fail
  refine (padded_any w5 base v (padB l) A2 q2 c2 l2 HQ2.out O.out SZ.out (HR2.out.keep S.out.bel) (by have := QB.out; rw [padB_length]; have := HQ.out; omega)).mono ?_
  rw [padB_app]
  rintro e w6 ⟨v2, rfl, ho, hb⟩
  have O := Lib.hid ho
  have GB := Lib.hid (below_block hb MB.out GB.out)
  have S := Lib.hid (S.out.keep hb LB.out)
  have SZ := Lib.hid (Nat.le_trans SZ.out hb.size)
  clear ho hb
  go_upto_region 3 with fail
  obtain ⟨i0, hi0, hz0, hz1, hz2⟩ := info_parts (show (Tryz.prog.info? 5).map (fun i => (i.zero, i.size, i.bytes)) = some (some (.int .u8 0), 1, 1) by kernel_rfl)
  have I0 := Lib.hid hi0
  have ZX := Lib.hid (show (Tryz.prog.info? 37).map (·.size) = some (B8 (B.take 32)).length by rw [B8_length, List.length_take, BL.out]; kernel_rfl)
  have KL := Lib.hid (show (B.take 32).length = 32 by rw [List.length_take, BL.out]; rfl)
  clear hi0 hz0 hz1 hz2
  have C := Lib.hid (show TgW w k n Z16 w6.drew ∧ w6.drew.heap[M]? = some (.cells (W8 B) 179 (0, 0)) from ⟨S.out.keep (Below.refl _ _).drew S.out.lt, GB.out⟩)
  refine wp_region_road (fun W => (∃ z, TgW w k n z W) ∧ W.heap[M]? = some (.cells (W8 B) 179 (0, 0))) [(true, 0), (true, 1), (true, 2), (true, 3), (true, 4), (true, 5), (true, 7), (true, 8), (false, 6), (false, 9), (false, 10), (false, 11)] (by kernel_rfl) (by kernel_rfl) (fun _ _ d _ _ h => by cases d <;> exact h) ?_
  simp only [List.filterMap_cons, List.filterMap_nil, List.getElem?_toArray, List.getElem?_cons_zero, List.getElem?_cons_succ, Option.map_some]
  refine planG_q (by rfl) (⟨⟨_, C.out.1⟩, C.out.2⟩) (fun W hW => run_arr_to 179 (.tmp 9) (.const (.int .i64 32)) rfl 64 5 Tryz.underlying179 I0.out M 32 (by omega) rfl rfl W) ?_
  simp only [Act.put, List.setIfInBounds_toArray, List.set_cons_zero, List.set_cons_succ]
  refine planG_q (by rfl) (⟨⟨_, C.out.1⟩, C.out.2⟩) (fun W hW => run_sl2arr 37 (.tmp 18) rfl 32 5 Tryz.underlying37 (some ⟨M, 0, none⟩) 32 64 rfl (Nat.le_refl _) W) ?_
  simp only [Act.put, List.setIfInBounds_toArray, List.set_cons_zero, List.set_cons_succ]
  refine planG_q (by rfl) (⟨⟨_, C.out.1⟩, C.out.2⟩) (fun W hW => run_load_bytes 37 (.tmp 19) rfl M 0 rfl (B.take 32) (range_row hW.2 0 32 (by rw [BL.out]; omega)) Tryz.underlying37 rfl ZX.out) ?_
  simp only [Act.put, List.setIfInBounds_toArray, List.set_cons_zero, List.set_cons_succ]
  refine planG_q (v := ?_) (by rfl) (⟨⟨_, C.out.1⟩, C.out.2⟩) ?_ ?_
  rotate_left
  · intro W hW
    go_simp
    with_reducible rfl
  simp only [Act.put, List.setIfInBounds_toArray, List.set_cons_zero, List.set_cons_succ]
  refine planG_q (v := ?_) (by rfl) (⟨⟨_, C.out.1⟩, C.out.2⟩) ?_ ?_
  rotate_left
  · intro W hW
    go_simp
    with_reducible rfl
  simp only [Act.put, List.setIfInBounds_toArray, List.set_cons_zero, List.set_cons_succ]
  refine planG_q (v := ?_) (by rfl) (⟨⟨_, C.out.1⟩, C.out.2⟩) ?_ ?_
  rotate_left
  · intro W hW
    go_simp
    with_reducible rfl
  simp only [Act.put, List.setIfInBounds_toArray, List.set_cons_zero, List.set_cons_succ]
  refine planG_q (v := ?_) (by rfl) (⟨⟨_, C.out.1⟩, C.out.2⟩) ?_ ?_
  rotate_left
  · intro W hW
    go_simp
    with_reducible rfl
  simp only [Act.put, List.setIfInBounds_toArray, List.set_cons_zero, List.set_cons_succ]
  refine planG_q (v := ?_) (by rfl) (⟨⟨_, C.out.1⟩, C.out.2⟩) ?_ ?_
  rotate_left
  · intro W hW
    go_simp
    with_reducible rfl
  simp only [Act.put, List.setIfInBounds_toArray, List.set_cons_zero, List.set_cons_succ]
  refine planG_t (by rfl) (fun K hK => ?_)
  go_simp
  refine (count_any w6.drew base v2 (padB l ++ padB l2) O.out.drew SZ.out q (by omega) (by have := QB.out; simp [padB_length]; have := HQ.out; have := HQ2.out; omega)).mono ?_
  rintro e w7 ⟨v3, rfl, ho, hb⟩
  have O := Lib.hid ho
  have C := Lib.hid (show TgW w k n Z16 w7 ∧ w7.heap[M]? = some (.cells (W8 B) 179 (0, 0)) from ⟨C.out.1.keep hb LB.out, below_block hb MB.out C.out.2⟩)
  have SZ := Lib.hid (Nat.le_trans SZ.out hb.size)
  clear ho hb
  refine hK.out _ _ (⟨⟨_, C.out.1⟩, C.out.2⟩) ?_
  clear hK K
  refine planG_t (by rfl) (fun K hK => ?_)
  go_simp
  refine (count_any w7 base v3 _ O.out SZ.out q2 (by omega) (by have := QB.out; simp [padB_length, leL_length]; have := HQ.out; have := HQ2.out; omega)).mono ?_
  obtain ⟨V, hV⟩ : ∃ V, V = padB l ++ padB l2 ++ leL 8 q ++ leL 8 q2 := ⟨_, rfl⟩
  rw [← hV]
  have VE := Lib.hid (show V = overL l l2 by rw [hV, overL, HQ.out, HQ2.out])
  rintro e w8 ⟨v4, rfl, ho, hb⟩
  obtain ⟨A5, c5, rfl, hr5, hl5, _, _⟩ := ho.read
  obtain ⟨m, hm⟩ : ∃ m, m = V.length := ⟨_, rfl⟩
  rw [← hm] at hl5 ⊢
  have R5 := Lib.hid hr5
  have L5 := Lib.hid hl5
  have M5 := Lib.hid hm.symm
  have MV := Lib.hid (show m ≤ 200000 by have := overL_length l l2; rw [← VE.out] at this; have := QB.out; have := HQ.out; have := HQ2.out; omega)
  have C := Lib.hid (show TgW w k n Z16 w8 ∧ w8.heap[M]? = some (.cells (W8 B) 179 (0, 0)) from ⟨C.out.1.keep hb LB.out, below_block hb MB.out C.out.2⟩)
  have SZ := Lib.hid (Nat.le_trans SZ.out hb.size)
  clear ho hb hr5 hl5 hm hV O
  refine hK.out _ _ (⟨⟨_, C.out.1⟩, C.out.2⟩) ?_
  clear hK K
  refine planG_t (by rfl) (fun K hK => ?_)
  go_simp
  refine (polySum_any (B.take 32) KL.out w8 A5 m c5 V M5.out L5.out R5.out (by have := MV.out; omega)).mono ?_
  rw [show polyL (B.take 32) V = T by rw [TE.out, tagL, VE.out, BE.out]]
  rintro e w9 ⟨rfl, hb⟩
  have C := Lib.hid (show TgW w k n Z16 w9 ∧ w9.heap[M]? = some (.cells (W8 B) 179 (0, 0)) from ⟨C.out.1.keep hb C.out.1.lt, below_block hb (row_lt C.out.2) C.out.2⟩)
  have ZT := Lib.hid (show (Tryz.prog.info? 155).map (·.size) = some (W8 T).size by rw [W8_size, TE.out, tagL_length]; kernel_rfl)
  clear hb
  refine hK.out _ _ (⟨⟨_, C.out.1⟩, C.out.2⟩) ?_
  clear hK K
  refine planG_t (by rfl) (fun K hK => ?_)
  refine storeW_wp 155 (.tmp 8) (.tmp 28) rfl (w.heap.size + 1 + 1) (W8 T) rfl rfl _ _ C.out.1.bo ZT.out (by rw [W8_size, W8_size, TE.out, tagL_length]; rfl) (W8_one _) ?_
  intro w10 hz10 hg10 _
  have C10 := Lib.hid (C.out.1.seto hz10 hg10)
  have G10 := Lib.hid (grown_block hg10 (by have := MW.out; simp; omega) C.out.2)
  clear hz10 hg10
  refine hK.out _ _ (⟨⟨_, C10.out⟩, G10.out⟩) ?_
  clear hK K
  refine planG_nil ?_
  go_wp2_with fail
  refine bodyPost_ret (results_cell_row rfl _ _ (w.heap.size + 1 + 1) 155 (W8 T) (0, 0) _ rfl C10.out.bo Tryz.underlying155 rfl ZT.out) rfl ⟨rfl, C10.out.bel⟩
set_option maxRecDepth 100000 in
set_option maxHeartbeats 4000000 in
theorem seal_go (k n : List UInt8) (hk : k.length = 32) (hn : n.length = 12) (w : World) (A : Option Addr) (q c : Nat) (l : List UInt8) (hq : l.length = q) (hR : RdB w A l) (A2 : Option Addr) (q2 c2 : Nat) (l2 : List UInt8) (hq2 : l2.length = q2) (hc2 : q2 ≤ c2) (hR2 : RdB w A2 l2) (hl : q ≤ 70000) (hl2 : q2 ≤ 70000) :
    Calls Tryz.prog 92 #[.agg (W8 k), .agg (W8 n), .slice A q c, .slice A2 q2 c2] w fun e w' => ∃ v, e = .returned v ∧ OwnB w' w.heap.size v (sealL k n l l2) ∧ Below w.heap.size w w' := by
  have TB := Lib.hid (show ByteT Tryz.prog from ⟨Tryz.underlying22, by kernel_rfl⟩)
  have HK := Lib.hid hk
  have HN := Lib.hid hn
  have HQ := Lib.hid hq
  have HQ2 := Lib.hid hq2
  have HR := Lib.hid hR
  have HR2 := Lib.hid hR2
  have HC2 := Lib.hid hc2
  have ZK := Lib.hid (show (Tryz.prog.info? 38).map (·.size) = some (W8 k).size by rw [W8_size, hk]; kernel_rfl)
  have ZN := Lib.hid (show (Tryz.prog.info? 128).map (·.size) = some (W8 n).size by rw [W8_size, hn]; kernel_rfl)
  have QB := Lib.hid (And.intro hl hl2)
  obtain ⟨i0, hi0, hz0, hz1, hz2⟩ := info_parts (show (Tryz.prog.info? 5).map (fun i => (i.zero, i.size, i.bytes)) = some (some (.int .u8 0), 1, 1) by kernel_rfl)
  have I0 := Lib.hid hi0
  clear hk hn hq hq2 hR hR2 hl hl2 hc2 hi0 hz0 hz1 hz2
  go_enter Tryz.func92, Tryz.ntmps92
  go_upto_region 1 with fail
  generalize hw1 : World.alloc w _ = w0
  generalize hw2 : World.alloc w0 _ = w1
  have S := Lib.hid (show StrW w k n w1 by rw [← hw2, ← hw1]; exact str_start w k n)
  clear hw1 hw2
  go_wp2_with (first
    | (refine wpList_val rfl (run_load_row 38 (.tmp 4) rfl w.heap.size rfl 38 (W8 k) (0, 0) _ S.out.bk Tryz.underlying38 rfl ZK.out) ?_)
    | (refine wpList_val rfl (run_load_row 128 (.tmp 5) rfl (w.heap.size + 1) rfl 128 (W8 n) (0, 0) _ S.out.bn Tryz.underlying128 rfl ZN.out) ?_))
  have SA := Lib.hid (stream_go k n HK.out HN.out 1 w1 A2 c2 l2 (HR2.out.keep S.out.bel) (by rw [HQ2.out]; exact HC2.out) (by have := QB.out; have := HQ2.out; omega))
  rw [HQ2.out] at SA
  refine SA.out.mono ?_
  obtain ⟨X, hX⟩ : ∃ X, X = streamL k n 1 l2 := ⟨_, rfl⟩
  rw [← hX]
  have XE := Lib.hid hX
  have XL := Lib.hid (show X.length = q2 by rw [hX, streamL_length, HQ2.out])
  rintro e w2 ⟨v, rfl, ho, hb⟩
  obtain ⟨Ax, cx, rfl, hrx, _, _, hbx⟩ := ho.read
  rw [XL.out] at ho ⊢
  have O := Lib.hid ho
  have RX := Lib.hid hrx
  have BX := Lib.hid (show ∀ g, (Value.slice Ax q2 cx).ownBlock = some g → w.heap.size + 1 < g from fun g e => by have := (ho.lt g e).1; have := S.out.size; omega)
  have N1 := Lib.hid S.out.bel.size
  have N2 := Lib.hid hb.size
  have S := Lib.hid (S.out.below hb)
  clear ho hb hrx hX hbx SA
  go_wp2_with (first
    | (refine wpList_val rfl (run_load_row 38 (.tmp 4) rfl w.heap.size rfl 38 (W8 k) (0, 0) _ S.out.bk Tryz.underlying38 rfl ZK.out) ?_)
    | (refine wpList_val rfl (run_load_row 128 (.tmp 5) rfl (w.heap.size + 1) rfl 128 (W8 n) (0, 0) _ S.out.bn Tryz.underlying128 rfl ZN.out) ?_))
  refine (tag_any k n HK.out HN.out w2 A q c l HQ.out (HR.out.keep S.out.bel) Ax q2 cx X XL.out RX.out (by have := QB.out; omega) (by have := QB.out; omega)).mono ?_
  obtain ⟨T, hT⟩ : ∃ T, T = tagL k n l X := ⟨_, rfl⟩
  rw [← hT]
  have TE := Lib.hid (show X ++ T = sealL k n l l2 by rw [hT, XE.out]; rfl)
  have TL := Lib.hid (show T.length = 16 by rw [hT, tagL_length])
  have ZT := Lib.hid (show (Tryz.prog.info? 155).map (·.size) = some (W8 T).size by rw [W8_size, TL.out]; kernel_rfl)
  rintro e w3 ⟨rfl, hb⟩
  have O := Lib.hid (O.out.below hb)
  have S := Lib.hid (S.out.below hb)
  have N3 := Lib.hid (Nat.le_trans N2.out hb.size)
  clear hb hT RX
  go_upto_region 3 with (refine wpList_store_new rfl rfl 155 (.tmp 10) (.tmp 19) rfl (W8 T) rfl rfl ZT.out ?c1 (W8_one _) ?_)
  case c1 => rw [W8_size, TL.out]; rfl
  generalize hM : Array.size (World.heap w3) = M
  generalize hw : World.alloc w3 _ = w4
  have RT := Lib.hid (show RdB w4 (some ⟨M, 0, none⟩) T from RdB.row (t := 155) (fr := (0, 0)) (by rw [← hw]; exact ha_new _ _ _ hM.symm))
  have O := Lib.hid (show OwnB w4 w1.heap.size (.slice Ax q2 cx) X by rw [← hw]; exact O.out.alloc _)
  have S := Lib.hid (show StrW w k n w4 by rw [← hw]; exact S.out.below (below_new _ _))
  have SL := Lib.hid (show w1.heap.size ≤ w4.heap.size ∧ w.heap.size ≤ w1.heap.size from ⟨by rw [← hw, ha_size]; exact Nat.le_succ_of_le N3.out, N1.out⟩)
  clear hM hw
  go_wp2_with (first
    | (refine wpList_val rfl (run_arr_all 155 (.tmp 10) rfl 16 5 Tryz.underlying155 I0.out M rfl _) ?_)
    | (refine app_list rfl TB.out (.tmp 20) (.tmp 21) rfl w1.heap.size _ X T (some ⟨M, 0, none⟩) 16 16 rfl rfl TL.out O.out RT.out SL.out.1 (by have := XL.out; have := QB.out; omega) ?_; intro v5 w5 ho5 hg5 _))
  go_ret
  refine ⟨_, rfl, by rw [← TE.out]; exact ho5.mono SL.out.2, S.out.bel.trans (grown_below hg5 S.out.bel.size (fun g e => by have := BX.out g e; omega))⟩
theorem seal_any (k n : List UInt8) (hk : k.length = 32) (hn : n.length = 12) (w : World) (A : Option Addr) (q c : Nat) (l : List UInt8) (hq : l.length = q) (hR : RdB w A l) (A2 : Option Addr) (q2 c2 : Nat) (l2 : List UInt8) (hq2 : l2.length = q2) (hc2 : q2 ≤ c2) (hR2 : RdB w A2 l2) (hlt : ∀ a, A2 = some a → a.block < w.heap.size) (hl : q ≤ 70000) (hl2 : q2 ≤ 70000) :
    Calls Tryz.prog 92 #[.agg (W8 k), .agg (W8 n), .slice A q c, .slice A2 q2 c2] w fun e w' => ∃ v, e = .returned v ∧ OwnB w' w.heap.size v (sealL k n l l2) ∧ Below w.heap.size w w' := seal_go k n hk hn w A q c l hq hR A2 q2 c2 l2 hq2 hc2 hR2 hl hl2
end Go.Proofs.YtlocplkjokoknaaGreat

/- box.Box: real. No condition but those each theorem states. -/
namespace Go.Proofs.YtlocplkjokoknaaGreat
set_option linter.unusedVariables false
set_option linter.unusedSimpArgs false
open Go.RowKit
attribute [local go_sem ↓] Go.wp_at_zero Go.wp_at_succ

/-- append(s, ys...) where s has no room: a new row, at an operation. -/
theorem appg_wp {P : Program} {o : Oper} {a : Act} {Q : Exit → Act → World → Prop} {K : Act → World → Prop} (T : ByteT P) (s x : Operand) (ho : o.op = .call { callee := .builtin .append, args := #[s, x], argTypes := #[22, 22] }) {W : World}
    (A : Addr) (n c : Nat) (l ys : List UInt8) (Ax : Addr) (m cx : Nat) (hs : a.eval s = .slice (some A) n c) (hx : a.eval x = .slice (some Ax) m cx) (hn : l.length = n) (hm : ys.length = m) (HS : RdB W (some A) l) (HR : RdB W (some Ax) ys) (hfull : c < n + m) (hl : n + m ≤ 140737488355328)
    (h : ∀ v1 w1, OwnB w1 W.heap.size v1 (l ++ ys) → W.grownBy w1 none → K (a.put o.dst v1) w1) : o.wp P a W K Q := by
  obtain ⟨i0, hi, hzz⟩ := Option.map_eq_some_iff.1 T.hinfo
  simp only [Prod.mk.injEq] at hzz
  obtain ⟨hz0, hz1, hz2⟩ := hzz
  have rd : ∀ (ad : Addr) (l : List UInt8), RdB W (some ad) l → ∀ j u, (B8 l)[j]? = some u → W.cell? (ad.add j) = some u := by
    intro ad l hl j u hu
    have hj : j < l.length := by
      have := (List.getElem?_eq_some_iff.1 hu).1
      rwa [B8_length] at this
    obtain ⟨b', o', e', hc'⟩ := hl j hj
    injection e' with e'
    subst e'
    rw [add_at, hc', ← B8_get _ j hj, hu]
  obtain ⟨v', w', hrun, r1, r2⟩ := run_append_arg_grows (P := P) W 22 o.type 5 i0 (.int .u8 0) 1 1 T.ht hi hz0 hz1 hz2 rfl (by omega) A n c (B8 l) (by rw [B8_length, hn, Nat.mul_one]) (rd A l HS) Ax m cx (B8 ys) (by rw [B8_length, hm, Nat.mul_one]) (rd Ax ys HR) hfull (by unfold maxLen; omega) (by omega)
  have hrun' : (Builtin.append_ #[22, 22] o.type #[.slice (some A) n c, .slice (some Ax) m cx]).run P W = .ok v' w' := hrun
  unfold Oper.wp execOp
  simp only [ho, resolve, invoke, builtin, Sem.run_bind, Sem.run_pure, Result.andThen_ok, List.map_toArray, List.map_cons, List.map_nil, hs, hx, hrun']
  refine h v' w' ?_ r2
  rw [OwnB, List.length_append, hn, hm, B8_append]
  exact r1
theorem who_key {W : World} {M : Nat} {k bs : List UInt8} {T : TypeId} {fr : Nat × Nat} (h : W.heap[M]? = some (.cells (WhoL k bs).toArray T fr)) : W.rangeAt M 0 (B8 k) := by
  intro j v hj
  refine row_cell h (0 + j) ?_
  have hl : j < (B8 k).length := (List.getElem?_eq_some_iff.1 hj).1
  rw [Nat.zero_add, List.getElem?_toArray, WhoL, List.getElem?_append_left hl, hj]
theorem who_bes {k bs : List UInt8} (hk : k.length = 32) : (WhoL k bs).toArray[32]? = some (.string (strB bs)) := by
  rw [List.getElem?_toArray, WhoL, List.getElem?_append_right (by rw [B8_length, hk]; exact Nat.le_refl _), B8_length, hk]
  rfl
theorem run_zero_ent {o : Oper} {a : Act} (ho : o.op = .build 132 #[]) (W : World) : (execOp a.eval o).run Tryz.prog W = .ok (.value EntZ) W := by
  have h2 : ∀ W : World, (Instr.build 132 #[]).run Tryz.prog W = .ok EntZ W := by
    intro W
    kernel_rfl
  unfold execOp
  simp only [ho, List.map_toArray, List.map_nil, Sem.run_bind, h2, Result.andThen_ok, Sem.run_pure]
/-- What the cipher makes of the next bytes of the source. -/
def realL (s : BSt) (k bs t : List UInt8) : List UInt8 := tellS s.F s.u 12 ++ sealL k (tellS s.F s.u 12) bs t
theorem realL_length (s : BSt) (k bs t : List UInt8) : (realL s k bs t).length = t.length + 28 := by rw [realL, List.length_append, tellS_length, sealL_length]; omega
/-- Sealed by the cipher. -/
def RealP (w0 : World) (g S D b lo : Nat) (w : World) (s : BSt) (x : List UInt8) (w' : World) (A : Option Addr) (m c : Nat) : Prop :=
  RdB w' A x ∧ x.length = m ∧ m ≤ c ∧ (∀ a, A = some a → w.heap.size ≤ a.block ∧ a.block < w'.heap.size) ∧
    (∃ m', BoxB w0 g S D b lo { s with u := s.u + 12, m := m', n := s.n + 1 } w' ∧ (∀ y, knownM m' y = (knownM s.m y || decide (y = x))) ∧ m'.length ≤ s.m.length + 1) ∧ BoxF g S b w w'
theorem knownM_append (m : List (List UInt8 × Ent)) (x : List UInt8) (e : Ent) (y : List UInt8) : knownM (m ++ [(x, e)]) y = (knownM m y || decide (y = x)) := by
  simp only [knownM, List.any_append, List.any_cons, List.any_nil, Bool.or_false]
  congr 1
  exact decide_eq_decide.2 eq_comm
theorem knownM_set (m : List (List UInt8 × Ent)) (j : Nat) (x : List UInt8) (e e0 : Ent) (hj : m[j]? = some (x, e0)) (y : List UInt8) : knownM (m.set j (x, e)) y = (knownM m y || decide (y = x)) := by
  have hlt : j < m.length := (List.getElem?_eq_some_iff.1 hj).1
  have hkx : knownM m x = true := by
    simp only [knownM, List.any_eq_true, decide_eq_true_eq]
    exact ⟨_, List.mem_of_getElem? hj, rfl⟩
  have e1 : knownM (m.set j (x, e)) y = knownM m y := by
    have h1 : ∀ l : List (List UInt8 × Ent), knownM l y = (l.map (·.1)).any fun p => decide (p = y) := by
      intro l
      simp [knownM, List.any_map, Function.comp_def]
    rw [h1, h1, List.map_set]
    congr 1
    apply List.ext_getElem?
    intro i
    rw [List.getElem?_set]
    split
    · rename_i hi
      subst hi
      have h2 : m[j] = (x, e0) := by rw [List.getElem?_eq_getElem hlt] at hj; exact Option.some.inj hj
      simp [hlt, h2]
    · rfl
  rw [e1]
  by_cases hy : y = x
  · rw [hy, hkx]; rfl
  · simp [hy]
set_option maxRecDepth 100000 in
set_option maxHeartbeats 4000000 in
theorem real_any (w0 : World) (g S D b lo : Nat) (s : BSt) (w : World) (h : BoxB w0 g S D b lo s w) (k bs : List UInt8) (hk : k.length = 32) (hbs : bs.length ≤ 60000) (A : Option Addr) (q c : Nat) (l : List UInt8) (hq : l.length = q) (hc : q ≤ c) (hR : RdB w A l) (hO : l ≠ [] → ∀ a, A = some a → a.block ≠ g ∧ a.block ≠ S ∧ a.block ≠ b)
    (hq2 : q ≤ 60000) (hu : s.u + 12 ≤ 900000) (hF : s.F.length ≤ 100000) (hm : s.m.length ≤ 10000) (hn : s.n ≤ 100000) (hlo : lo ≤ w.heap.size) :
    Calls Tryz.prog 69 #[.pointer (some ⟨g, 0, none⟩), .agg (WhoL k bs).toArray, .slice A q c] w fun e w' => ∃ A2 m2 c2, e = .returned (.slice A2 m2 c2) ∧ RealP w0 g S D b lo w s (realL s k bs l) w' A2 m2 c2 := by
  have TB := Lib.hid (show ByteT Tryz.prog from ⟨Tryz.underlying22, by kernel_rfl⟩)
  have H := Lib.hid h
  have HK := Lib.hid hk
  have HB := Lib.hid hbs
  have HQ := Lib.hid hq
  have HC := Lib.hid hc
  have HR := Lib.hid hR
  have HO := Lib.hid hO
  have Q2 := Lib.hid hq2
  have HU := Lib.hid hu
  have HF := Lib.hid hF
  have HM := Lib.hid hm
  have HN := Lib.hid hn
  have HL := Lib.hid hlo
  obtain ⟨cs, hcs⟩ : ∃ cs, cs = (WhoL k bs).toArray := ⟨_, rfl⟩
  have CE := Lib.hid hcs
  rw [← hcs]
  obtain ⟨N, hN⟩ : ∃ N, N = tellS s.F s.u 12 := ⟨_, rfl⟩
  have NE := Lib.hid hN
  have NL := Lib.hid (show N.length = 12 by rw [hN, tellS_length])
  obtain ⟨T, hT⟩ : ∃ T, T = sealL k N bs l := ⟨_, rfl⟩
  have TE := Lib.hid hT
  have TL := Lib.hid (show T.length = q + 16 by rw [hT, sealL_length, hq])
  have RE := Lib.hid (show realL s k bs l = N ++ T by rw [realL, hT, hN])
  have XL := Lib.hid (show (N ++ T).length = q + 28 by rw [List.length_append, NL.out, TL.out]; omega)
  have ZN := Lib.hid (show (Tryz.prog.info? 128).map (·.size) = some (B8 N).length by rw [B8_length, NL.out]; kernel_rfl)
  have ZN2 := Lib.hid (show (Tryz.prog.info? 128).map (·.size) = some (W8 N).size by rw [W8_size, NL.out]; kernel_rfl)
  have ZK := Lib.hid (show (Tryz.prog.info? 38).map (·.size) = some (B8 k).length by rw [B8_length, hk]; kernel_rfl)
  have LT := Lib.hid (show g < w.heap.size ∧ S < w.heap.size ∧ b < w.heap.size from ⟨row_lt h.row, h.src.lt, h.map.lt⟩)
  have SB := Lib.hid h.Sb
  rw [RE.out]
  obtain ⟨i0, hi0, hz0, hz1, hz2⟩ := info_parts (show (Tryz.prog.info? 5).map (fun i => (i.zero, i.size, i.bytes)) = some (some (.int .u8 0), 1, 1) by kernel_rfl)
  have I0 := Lib.hid hi0
  have I1 := Lib.hid hz1
  have qb : (q : Int) ≤ 60000 := by omega
  clear h hk hbs hq hc hR hO hq2 hu hF hm hn hlo hcs hN hT hi0 hz0 hz1 hz2
  go_enter Tryz.func69, Tryz.ntmps69
  go_upto_region 1 with fail
  generalize hw1 : World.alloc w _ = w1
  have M1 := Lib.hid (show w1.heap[w.heap.size]? = some (.cells cs 130 (0, 0)) by rw [← hw1]; exact ha_new _ _ _ rfl)
  have B1 := Lib.hid (show Below w.heap.size w w1 by rw [← hw1]; exact below_new _ _)
  have S1 := Lib.hid (show w1.heap.size = w.heap.size + 1 by rw [← hw1, ha_size])
  clear hw1
  have H1 := Lib.hid (H.out.keep B1.out)
  have c1 := row_cell H1.out.row 1 rfl
  go_wp2_with fail
  refine (tell_any S D s.F s.u true w1 H1.out.src H1.out.ltD HF.out (12 : Int) (by show s.u + 12 ≤ 900000; exact HU.out)).mono ?_
  rw [show takeN (12 : Int) = 12 from rfl, ← NE.out]
  rintro e w2 ⟨v, rfl, ho, hs, hg⟩
  obtain ⟨A6, c6, rfl, hr, _, _, hav⟩ := ho.read
  obtain ⟨q6, o6, rfl, _⟩ := hr 0 (by rw [NL.out]; omega)
  have RG := Lib.hid (rangeB_of hr)
  rw [NL.out]
  have H2 := Lib.hid (H1.out.step hs hg)
  have F2 := Lib.hid ((BoxF.refl g S b w).below B1.out |>.grown hg (by rintro k ⟨⟩; exact .inr (.inl rfl)))
  have M2 := Lib.hid (show w2.heap[w.heap.size]? = some (.cells cs 130 (0, 0)) from grown_block hg (by intro ee; injection ee with ee; have := LT.out.2.1; omega) M1.out)
  have S2 := Lib.hid (show w.heap.size + 1 ≤ w2.heap.size by have := hg.size; have := S1.out; omega)
  clear ho hs hg hr hav c1
  go_upto_region 2 with (first
    | (refine wpList_val rfl (run_sl2arr 128 (.tmp 13) rfl 12 5 Tryz.underlying128 (some ⟨q6, o6, none⟩) 12 c6 rfl (Nat.le_refl _) _) ?_)
    | (refine wpList_load_mid rfl 128 (.tmp 14) rfl q6 o6 rfl (B8 N) _ RG.out Tryz.underlying128 rfl ZN.out ?_)
    | (refine wpList_store_new rfl rfl 128 (.tmp 7) (.tmp 15) rfl (W8 N) rfl rfl ZN2.out ?c1 (W8_one _) ?_))
  case c1 => rw [W8_size, NL.out]; rfl
  generalize hM : Array.size (World.heap w2) = M
  generalize hw3 : World.alloc w2 _ = w3
  have M3 := Lib.hid (show w3.heap[w.heap.size]? = some (.cells cs 130 (0, 0)) by rw [← hw3]; exact ha_old _ _ _ (row_lt M2.out) M2.out)
  have N3 := Lib.hid (show w3.heap[M]? = some (.cells (W8 N) 128 (0, 0)) by rw [← hw3]; exact ha_new _ _ _ hM.symm)
  have B3 := Lib.hid (show Below w2.heap.size w2 w3 by rw [← hw3]; exact below_new _ _)
  have H3 := Lib.hid (H2.out.keep B3.out)
  have F3 := Lib.hid (F2.out.below B3.out)
  have R3 := Lib.hid (show RdB w3 A l from HR.out.boxF F3.out HO.out)
  clear hM hw3
  have B := Lib.hid (show Below w3.heap.size w3 w3.drew from (Below.refl _ _).drew)
  refine wp_region_road (fun W => Below w3.heap.size w3 W) [(true, 0), (true, 1), (true, 2), (true, 3), (true, 4), (true, 5), (true, 7), (false, 6), (false, 8), (false, 9), (true, 10)] (by kernel_rfl) (by kernel_rfl) (fun _ _ d _ _ h => by cases d <;> exact h) ?_
  simp only [List.filterMap_cons, List.filterMap_nil, List.getElem?_toArray, List.getElem?_cons_zero, List.getElem?_cons_succ, Option.map_some]
  refine planG_q (by rfl) (B.out) (fun W hW => run_arr_all 128 (.tmp 7) rfl 12 5 Tryz.underlying128 I0.out M rfl W) ?_
  simp only [Act.put, List.setIfInBounds_toArray, List.set_cons_zero, List.set_cons_succ]
  refine planG_q (v := ?_) (by rfl) (B.out) ?_ ?_
  rotate_left
  · intro W hW
    go_simp
    with_reducible rfl
  simp only [Act.put, List.setIfInBounds_toArray, List.set_cons_zero, List.set_cons_succ]
  refine planG_q (by rfl) (B.out) (fun W hW => run_load_bytes 38 (.tmp 17) rfl w.heap.size 0 rfl k (who_key (by rw [← CE.out]; exact below_block hW (row_lt M3.out) M3.out)) Tryz.underlying38 rfl ZK.out) ?_
  simp only [Act.put, List.setIfInBounds_toArray, List.set_cons_zero, List.set_cons_succ]
  refine planG_q (by rfl) (B.out) (fun W hW => run_load_row 128 (.tmp 7) rfl M rfl 128 (W8 N) (0, 0) _ (below_block hW (row_lt N3.out) N3.out) Tryz.underlying128 rfl ZN2.out) ?_
  simp only [Act.put, List.setIfInBounds_toArray, List.set_cons_zero, List.set_cons_succ]
  refine planG_q (v := ?_) (by rfl) (B.out) ?_ ?_
  rotate_left
  · intro W hW
    go_simp
    with_reducible rfl
  simp only [Act.put, List.setIfInBounds_toArray, List.set_cons_zero, List.set_cons_succ]
  refine planG_q (by rfl) (B.out) (fun W hW => run_cell 9 (.tmp 20) rfl _ Tryz.underlying9 rfl rfl (row_cell (below_block hW (row_lt M3.out) M3.out) 32 (by rw [CE.out]; exact who_bes HK.out))) ?_
  simp only [Act.put, List.setIfInBounds_toArray, List.set_cons_zero, List.set_cons_succ]
  refine planG_q (v := ?_) (by rfl) (B.out) ?_ ?_
  rotate_left
  · intro W hW
    go_simp
    with_reducible rfl
  simp only [Act.put, List.setIfInBounds_toArray, List.set_cons_zero, List.set_cons_succ]
  refine planG_t (by rfl) (fun K hK => ?_)
  refine bytes_wp 9 22 5 (.tmp 21) rfl Tryz.underlying9 Tryz.underlying22 Tryz.underlying5 bs rfl ?_
  intro w4 cb hrb hcb hb4 _
  generalize World.drew w3 = w3d at *
  have B4 := Lib.hid (B.out.trans (hb4.mono B.out.size))
  have RB4 := Lib.hid hrb
  clear hrb hb4
  refine hK.out _ _ (B4.out) ?_
  clear hK K
  refine planG_t (by rfl) (fun K hK => ?_)
  go_simp
  refine (seal_go k N HK.out NL.out w4 (some ⟨w3d.heap.size, 0, none⟩) bs.length cb bs rfl RB4.out A q c l HQ.out HC.out (R3.out.keep B4.out) (by have := HB.out; omega) (by have := Q2.out; omega)).mono ?_
  rw [← TE.out]
  rintro e w5 ⟨v, rfl, ho, hb5⟩
  obtain ⟨A5, c5, rfl, hr, _, _, _⟩ := ho.read
  obtain ⟨q5, o5, rfl, _⟩ := hr 0 (by rw [TL.out]; omega)
  rw [TL.out]
  have RT := Lib.hid hr
  have B5 := Lib.hid (B4.out.trans (hb5.mono B4.out.size))
  clear ho hr hb5
  refine hK.out _ _ (B5.out) ?_
  clear hK K
  refine planG_t (by rfl) (fun K hK => ?_)
  refine appg_wp TB.out (.tmp 16) (.tmp 24) rfl ⟨M, 0, none⟩ 12 12 N T ⟨q5, o5, none⟩ (q + 16) c5 rfl rfl NL.out TL.out (RdB.row (below_block B5.out (row_lt N3.out) N3.out)) RT.out (by omega) (by have := Q2.out; omega) ?_
  intro v6 w6 ho hg
  obtain ⟨A6, c6b, rfl, hr6, hc6, _, ha6⟩ := ho.read
  rw [XL.out]
  have X6 := Lib.hid hr6
  have C6 := Lib.hid (show q + 28 ≤ c6b by rw [← XL.out]; exact hc6)
  have A6B := Lib.hid (show ∀ a, A6 = some a → w3.heap.size ≤ a.block ∧ a.block < w6.heap.size from fun a ea => ⟨Nat.le_trans B5.out.size (ha6 a ea).1, (ha6 a ea).2⟩)
  have B6 := Lib.hid (B5.out.trans (grown_below hg B5.out.size (by rintro k ⟨⟩)))
  clear ho hr6 hc6 ha6 hg
  refine hK.out _ _ (B6.out) ?_
  clear hK K
  refine planG_q (v := ?_) (by rfl) (B6.out) ?_ ?_
  rotate_left
  · intro W hW
    go_simp
    with_reducible rfl
  simp only [Act.put, List.setIfInBounds_toArray, List.set_cons_zero, List.set_cons_succ]
  refine planG_nil ?_
  have H6 := Lib.hid (H3.out.keep B6.out)
  have F6 := Lib.hid (F3.out.below B6.out)
  go_wp2_with (refine wpList_val rfl (run_zero_ent rfl _) ?_)
  refine (keep_any w0 g S D b lo { s with u := s.u + 12 } w6 H6.out A6 (q + 28) c6b (N ++ T) XL.out X6.out (by have := Q2.out; omega) ⟨List.replicate 32 0, [], []⟩ none 0 0 rfl (RdB.nil _ _) (by simp) (Nat.le_refl _) (fun a ea => (by cases ea)) (Nat.le_trans HM.out (by omega)) (Nat.lt_of_le_of_lt HN.out (by omega))).mono ?_
  rintro e w7 ⟨rfl, m', hm', hbx, wa, wb, hba, hgb, hg7⟩
  have F7 := Lib.hid (((F6.out.below hba).grown hgb (by rintro k ⟨⟩; exact .inr (.inr (.inl rfl)))).grown hg7 (by rintro k ⟨⟩; exact .inl rfl))
  have WZ := Lib.hid (show w.heap.size ≤ w3.heap.size from F3.out.1)
  have Z7 := Lib.hid (show w6.heap.size ≤ w7.heap.size from Nat.le_trans hba.size (Nat.le_trans hgb.size hg7.size))
  have X7 := Lib.hid (show RdB w7 A6 (N ++ T) from ((X6.out.keep hba).grown hgb (fun k ek a ea => by cases ek; have := (A6B.out a ea).1; have := LT.out.2.2; have := WZ.out; omega)).grown hg7 (fun k ek a ea => by cases ek; have := (A6B.out a ea).1; have := LT.out.1; have := WZ.out; omega))
  have H7 := Lib.hid hbx
  have M7 := Lib.hid (show (∀ y, knownM m' y = (knownM s.m y || decide (y = N ++ T))) ∧ m'.length ≤ s.m.length + 1 by
    rcases hm' with ⟨_, rfl⟩ | ⟨j, e0, hj, rfl⟩
    · exact ⟨fun y => knownM_append _ _ _ _, by simp⟩
    · exact ⟨fun y => knownM_set _ _ _ _ _ hj _, by simp⟩)
  clear hm' hbx hba hgb hg7
  go_wp2_with fail
  go_ret
  exact ⟨A6, q + 28, c6b, rfl, X7.out, XL.out, C6.out, fun a ea => ⟨Nat.le_trans WZ.out (A6B.out a ea).1, Nat.lt_of_lt_of_le (A6B.out a ea).2 Z7.out⟩, ⟨m', H7.out, M7.out⟩, F7.out⟩
end Go.Proofs.YtlocplkjokoknaaGreat

/- box.Box: Seal, in the mode Real; something too great beside. No condition but those each theorem states. -/
namespace Go.Proofs.YtlocplkjokoknaaGreat
set_option linter.unusedVariables false
set_option linter.unusedSimpArgs false
open Go.RowKit
attribute [local go_sem ↓] Go.wp_at_zero Go.wp_at_succ

set_option maxRecDepth 100000 in
set_option maxHeartbeats 4000000 in
theorem bseal_real (w0 : World) (g S D b lo : Nat) (s : BSt) (w : World) (h : BoxB w0 g S D b lo s w) (hmo : s.mode = 0) (e : Ent) (hk : e.key.length = 32) (Ab : Option Addr) (qb cb : Nat) (hqb : e.beside.length = qb) (hRb : RdB w Ab e.beside) (hb2 : qb ≤ 60000)
    (A : Option Addr) (q c : Nat) (hq : e.text.length = q) (hc : q ≤ c) (hR : RdB w A e.text) (hO : e.text ≠ [] → ∀ a, A = some a → a.block ≠ g ∧ a.block ≠ S ∧ a.block ≠ b)
    (hq2 : q ≤ 60000) (hu : s.u + 12 ≤ 900000) (hF : s.F.length ≤ 100000) (hm : s.m.length ≤ 10000) (hn : s.n ≤ 100000) (hlo : lo ≤ w.heap.size) :
    Calls Tryz.prog 48 #[.pointer (some ⟨g, 0, none⟩), .agg (W8 e.key), .slice Ab qb cb, .slice A q c] w fun en w' => ∃ A2 m2 c2, en = .returned (.tuple #[.slice A2 m2 c2, .int .i64 0]) ∧ RealP w0 g S D b lo w s (realL s e.key e.beside e.text) w' A2 m2 c2 := by
  have H := Lib.hid h
  have HK := Lib.hid hk
  have HB := Lib.hid hqb
  have RB := Lib.hid hRb
  have HB2 := Lib.hid hb2
  have HQ := Lib.hid hq
  have HC := Lib.hid hc
  have HR := Lib.hid hR
  have HO := Lib.hid hO
  have Q2 := Lib.hid hq2
  have HU := Lib.hid hu
  have HF := Lib.hid hF
  have HM := Lib.hid hm
  have HN := Lib.hid hn
  have HL := Lib.hid hlo
  have MO := Lib.hid (show (s.mode : Int) = 0 by omega)
  have d1 : decide ((65536 : Int) < (q : Int)) = false := by simp; omega
  have d2 : decide ((65536 : Int) < (qb : Int)) = false := by simp; omega
  have d3 : decide (65536 < q) = false := by simp; omega
  have d4 : decide (65536 < qb) = false := by simp; omega
  obtain ⟨cs, hcs⟩ : ∃ cs, cs = (WhoL e.key e.beside).toArray := ⟨_, rfl⟩
  have CE := Lib.hid hcs
  have CO := Lib.hid (show cs.all (·.oneCell') = true by rw [hcs]; exact WhoL_one _ _)
  have CS := Lib.hid (show cs.size = 33 by rw [hcs, WhoL_size _ _ hk])
  have Z := Lib.hid (show (Tryz.prog.info? 130).map (·.size) = some cs.size by rw [CS.out]; exact info_who)
  have ZK := Lib.hid (show (Tryz.prog.info? 38).map (·.size) = some (W8 e.key).size by rw [W8_size, hk]; kernel_rfl)
  obtain ⟨r, hr⟩ : ∃ r, r = realL s e.key e.beside e.text := ⟨_, rfl⟩
  have RH := Lib.hid hr
  rw [← hr]
  clear h hmo hk hqb hRb hb2 hq hc hR hO hq2 hu hF hm hn hlo hcs hr
  go_enter Tryz.func48, Tryz.ntmps48
  go_upto_region 1 with fail
  generalize hw1 : World.alloc w _ = w1
  have M1 := Lib.hid (show w1.heap[w.heap.size]? = some (.cells (W8 e.key) 38 (0, 0)) by rw [← hw1]; exact ha_new _ _ _ rfl)
  have B1 := Lib.hid (show Below w.heap.size w w1 by rw [← hw1]; exact below_new _ _)
  clear hw1
  go_wp2_with fail
  refine (bnone_any w0 g S D b lo s w1 (H.out.keep B1.out)).mono ?_
  rintro e2 wd ⟨rfl, hw⟩
  rw [hw]
  clear hw wd
  go_upto_region 6 with (first
    | (refine wpList_val rfl (run_load_row 38 (.tmp 5) rfl w.heap.size rfl 38 (W8 e.key) (0, 0) _ M1.out Tryz.underlying38 rfl ZK.out) ?_)
    | (refine wpList_val rfl (run_str 22 9 (.tmp 24) rfl Tryz.underlying22 Tryz.underlying5 Tryz.underlying9 (RB.out.keep B1.out) qb cb HB.out rfl) ?_)
    | (refine wpList_val rfl (show (execOp _ _).run _ _ = .ok (.value (.agg cs)) _ by rw [CE.out]; exact run_newwho (.tmp 23) (.tmp 25) rfl e.key e.beside HK.out rfl rfl _) ?_)
    | (refine wpList_store_new rfl rfl 130 (.tmp 10) (.tmp 26) rfl cs rfl rfl Z.out ?c1 CO.out ?_))
  case c1 => rw [CS.out]; rfl
  generalize hM : Array.size (World.heap w1) = M
  generalize hw2 : World.alloc w1 _ = w2
  have M2 := Lib.hid (show w2.heap[M]? = some (.cells cs 130 (0, 0)) by rw [← hw2]; exact ha_new _ _ _ hM.symm)
  have B2 := Lib.hid (show Below w.heap.size w w2 by rw [← hw2]; exact B1.out.alloc B1.out.size _)
  clear hM hw2
  have H2 := Lib.hid (H.out.keep B2.out)
  have c0 := row_cell H2.out.row 0 rfl
  rw [MO.out] at c0
  go_wp2_with (refine wpList_val rfl (run_load_row 130 (.tmp 10) rfl M rfl 130 cs (0, 0) _ M2.out Tryz.underlying130 rfl Z.out) ?_)
  rw [CE.out]
  refine (real_any w0 g S D b lo s w2 H2.out e.key e.beside HK.out (by rw [HB.out]; exact HB2.out) A q c e.text HQ.out HC.out (HR.out.keep B2.out) HO.out Q2.out HU.out HF.out HM.out HN.out (Nat.le_trans HL.out B2.out.size)).mono ?_
  rw [← RH.out]
  rintro e2 w3 ⟨A3, m3, c3, rfl, hr3, hl3, hc3, hb3, hx3, hf3⟩
  have R3 := Lib.hid hr3
  have L3 := Lib.hid hl3
  have C3 := Lib.hid hc3
  have BB3 := Lib.hid hb3
  have X3 := Lib.hid hx3
  have F3 := Lib.hid hf3
  clear hr3 hl3 hc3 hb3 hx3 hf3 c0
  go_wp2_with fail
  go_ret2
  exact ⟨A3, m3, c3, rfl, R3.out, L3.out, C3.out, fun a ea => ⟨Nat.le_trans B2.out.size (BB3.out a ea).1, (BB3.out a ea).2⟩, X3.out, ⟨Nat.le_trans B2.out.size F3.out.1, fun k h1 h2 h3 h4 => (F3.out.2 k (Nat.lt_of_lt_of_le h1 B2.out.size) h2 h3 h4).trans (B2.out.block k h1)⟩⟩
set_option maxRecDepth 100000 in
set_option maxHeartbeats 1000000 in
/-- Something too great beside the text. -/
theorem bseal_big (w0 : World) (g S D b lo : Nat) (s : BSt) (w : World) (h : BoxB w0 g S D b lo s w) (k : List UInt8) (Ab : Option Addr) (qb cb : Nat) (hb2 : 65536 < qb) :
    Calls Tryz.prog 48 #[.pointer (some ⟨g, 0, none⟩), .agg (W8 k), .slice Ab qb cb, .slice none 0 0] w fun en w' => en = .returned (.tuple #[.slice none 0 0, .int .i64 3]) ∧ Below w.heap.size w w' := by
  have H := Lib.hid h
  have d2 : decide ((65536 : Int) < (qb : Int)) = true := by simp; omega
  have d4 : decide (65536 < qb) = true := by simp; omega
  clear h hb2
  go_enter Tryz.func48, Tryz.ntmps48
  go_upto_region 1 with fail
  generalize hw1 : World.alloc w _ = w1
  have B1 := Lib.hid (show Below w.heap.size w w1 by rw [← hw1]; exact below_new _ _)
  clear hw1
  go_wp2_with fail
  refine (bnone_any w0 g S D b lo s w1 (H.out.keep B1.out)).mono ?_
  rintro e2 wd ⟨rfl, hw⟩
  rw [hw]
  clear hw wd
  go_wp2_with fail
  go_ret2
  exact ⟨rfl, B1.out⟩
end Go.Proofs.YtlocplkjokoknaaGreat

/- aead: must, and what Open defers. No condition but those each theorem states. -/
namespace Go.Proofs.YtlocplkjokoknaaGreat
set_option linter.unusedVariables false
set_option linter.unusedSimpArgs false
open Go.RowKit

theorem catch_panicking (p q : Addr) (x y : Value) (hpq : p.block ≠ q.block) (u : TypeId) (pv : Value) (older : List PanicEntry) (w : World) (hx : w.cell? p = some x) (hz : w.frozen? p = false) (hy : w.cell? q = some y) (hz2 : w.frozen? q = false) :
    CallsD Tryz.prog 77 #[.pointer (some p), .pointer (some q)] (.panicking ({ v := .iface u pv, recovered := false } :: older)) w fun e u' w' =>
      e = .returned (.tuple #[]) ∧ u' = .panicking ({ v := .iface u pv, recovered := true } :: older) ∧ w' = (w.setCell p (.slice none 0 0)).setCell q (.bool false) := by
  have hy1 : (w.setCell p (.slice none 0 0)).cell? q = some y := by rw [World.cell?_setCell_other _ _ _ _ (fun e => hpq (by rw [e]))]; exact hy
  have hz1 : (w.setCell p (.slice none 0 0)).frozen? q = false := by simp [hz2]
  refine callsD_of_wpS Tryz.func77 rfl fun c₀ cs hu => ?_
  apply wpS_seq
  apply wpS_region
  simp [wpOpsS, go_sem, recoverD, hu, Tryz.ntmps77, Exit.thenS]
  refine wpS_cond (t := true) (by simp [Act.eval, Array.replicate]) ?_
  simp only [if_true]
  apply wpS_region
  simp [wpOpsS, go_sem, hx, hz, hy1, hz1, bodyPostS, results, Tryz.results77]
theorem catch_idle (p q : Addr) (w : World) :
    CallsD Tryz.prog 77 #[.pointer (some p), .pointer (some q)] .returning w fun e u' w' => e = .returned (.tuple #[]) ∧ u' = .returning ∧ w' = w := by
  refine callsD_of_wpS Tryz.func77 rfl fun c₀ cs hu => ?_
  apply wpS_seq
  apply wpS_region
  simp [wpOpsS, go_sem, recoverD, hu, Tryz.ntmps77, Exit.thenS]
  refine wpS_cond (t := false) (by simp [Act.eval, Array.replicate]) ?_
  simp only [Bool.false_eq_true, if_false]
  refine wpS_of_wp (wp_skip ?_)
  cases c₀
  simp_all [bodyPostS, results, Tryz.results77]
theorem must_true (w : World) : Calls Tryz.prog 78 #[.bool true] w fun e w' => e = .returned (.tuple #[]) ∧ w' = w := by
  go_enter Tryz.func78, Tryz.ntmps78
  go_wp2_with fail
  go_end0
  exact ⟨rfl, rfl⟩
/-- What must throws. -/
def Thrown (e : Ending) : Prop := ∃ u v, e = .panicked [{ v := .iface u v, recovered := false }]
theorem must_false (w : World) : Calls Tryz.prog 78 #[.bool false] w fun e w' => Thrown e ∧ w' = w := by
  go_enter Tryz.func78, Tryz.ntmps78
  go_wp2_with fail
  exact ⟨rfl, ⟨_, _, rfl⟩, rfl⟩
theorem run_cut_max {P : Program} {o : Oper} {a : Act} (t e : TypeId) (x h m' : Operand) (ho : o.op = .slice t x none (some h) (some m')) {i : TypeInfo} (ht : P.underlying t = some (.slice e)) (hi : P.info? e = some i) (hsz : i.size = 1) (A : Option Addr) (n c m : Nat) (hm : m ≤ c)
    (hx : a.eval x = .slice A n c) (hh : a.eval h = .int .i64 (m : Int)) (hmm : a.eval m' = .int .i64 (m : Int)) (W : World) : (execOp a.eval o).run P W = .ok (.value (.slice A m m)) W := by
  unfold execOp
  simp only [ho, hx, Option.map_some, Option.map_none, hh, hmm, Instr.sliceAt, Sem.run_bind, Sem.run_pure, run_underlying ht, Result.andThen_ok, cut_max t e ht hi hsz A n c m hm W, Result.andThen_ok]
end Go.Proofs.YtlocplkjokoknaaGreat

/- kdf.Equal: two texts are told to be the same just if they are. No condition but those each theorem states. -/
namespace Go.Proofs.YtlocplkjokoknaaGreat
set_option linter.unusedVariables false
set_option linter.unusedSimpArgs false
open Go.RowKit
attribute [local go_sem ↓] Go.wp_at_zero Go.wp_at_succ

theorem orxor_ex (u a b : UInt8) : ∃ z y : UInt8, Hid (z = u ||| (a ^^^ b)) ∧ bits .xor .u8 (a.toNat : Int) (b.toNat : Int) = (y.toNat : Int) ∧ bits .or .u8 (u.toNat : Int) (y.toNat : Int) = (z.toNat : Int) := by
  refine ⟨_, a ^^^ b, rfl, u8_xor' a b, ?_⟩
  rw [u8_or_nat _ _ u.toNat_lt (a ^^^ b).toNat_lt, UInt8.toNat_or]
theorem orxor_zero (u a b : UInt8) : u ||| (a ^^^ b) = 0 ↔ u = 0 ∧ a = b := by
  constructor
  · intro h
    have h1 : u = 0 := by
      apply UInt8.toNat_inj.1
      have := congrArg UInt8.toNat h
      rw [UInt8.toNat_or] at this
      exact (Nat.or_eq_zero_iff.1 this).1
    have h2 : a ^^^ b = 0 := by
      apply UInt8.toNat_inj.1
      have := congrArg UInt8.toNat h
      rw [UInt8.toNat_or] at this
      exact (Nat.or_eq_zero_iff.1 this).2
    exact ⟨h1, UInt8.xor_eq_zero_iff.1 h2⟩
  · rintro ⟨rfl, rfl⟩
    simp
theorem take_succ_eq (a b : List UInt8) (j : Nat) (ha : j < a.length) (hb : j < b.length) : (a.take (j + 1) = b.take (j + 1)) ↔ (a.take j = b.take j ∧ a.getD j 0 = b.getD j 0) := by
  rw [List.take_add_one, List.take_add_one, List.getElem?_eq_getElem ha, List.getElem?_eq_getElem hb]
  simp only [List.getD_eq_getElem?_getD, List.getElem?_eq_getElem ha, List.getElem?_eq_getElem hb, Option.toList, Option.getD_some]
  constructor
  · intro h
    have := List.append_inj h (by simp; omega)
    exact ⟨this.1, by simpa using this.2⟩
  · rintro ⟨h1, h2⟩
    rw [h1, h2]
set_option maxRecDepth 100000 in
set_option maxHeartbeats 2000000 in
theorem equal_any (w : World) (A : Option Addr) (n c : Nat) (a : List UInt8) (hn : a.length = n) (hR : RdB w A a) (A2 : Option Addr) (n2 c2 : Nat) (b : List UInt8) (hn2 : b.length = n2) (hR2 : RdB w A2 b) (hb : n ≤ 140737488355328) (hb2 : n2 ≤ 140737488355328) :
    Calls Tryz.prog 80 #[.slice A n c, .slice A2 n2 c2] w fun e w' => e = .returned (.bool (decide (a = b))) ∧ Below w.heap.size w w' := by
  have HN := Lib.hid hn
  have HR := Lib.hid hR
  have HN2 := Lib.hid hn2
  have HR2 := Lib.hid hR2
  clear hn hR hn2 hR2
  go_enter Tryz.func80, Tryz.ntmps80
  by_cases he : n = n2
  · have hE : decide ((n : Int) = (n2 : Int)) = true := by simp; omega
    have hE2 : ((n : Int) != (n2 : Int)) = false := by simp; omega
    have NE := Lib.hid he
    clear he
    go_wp2_with fail
    clear hE hE2
    go_loopw [5, 6, 14] (fun u _ i wr => ∃ (j : Nat) (x : UInt8), j ≤ n ∧ i = .int .i64 (j : Int) ∧ u = .int .u8 (x.toNat : Int) ∧ (x = 0 ↔ a.take j = b.take j) ∧ Below w.heap.size w wr) (fun _ _ i _ => n - (intOf i).toNat)
    case atStart => exact ⟨0, 0, by omega, rfl, rfl, by simp, Below.refl _ _⟩
    case round =>
      obtain ⟨j, x, hj, rfl, rfl, hx, hbel⟩ := hrel
      have J := Lib.hid hj
      have X := Lib.hid hx
      have BL := Lib.hid hbel
      clear hj hx hbel
      by_cases hlt : j < n
      · have hD : decide ((j : Int) < (n : Int)) = true := by simp; omega
        obtain ⟨b1, o1, rfl, h1⟩ := (HR.out.keep BL.out) j (by rw [HN.out]; exact hlt)
        obtain ⟨b2, o2, rfl, h2⟩ := (HR2.out.keep BL.out) j (by rw [HN2.out]; have := NE.out; omega)
        obtain ⟨y, hy⟩ : ∃ y, y = a.getD j 0 := ⟨_, rfl⟩
        obtain ⟨v, hv⟩ : ∃ y, y = b.getD j 0 := ⟨_, rfl⟩
        rw [← hy] at h1
        rw [← hv] at h2
        have Y := Lib.hid hy
        have V := Lib.hid hv
        obtain ⟨z, t, hz, e1, e2⟩ := orxor_ex x y v
        have c1 := Lib.hid h1
        have c2 := Lib.hid h2
        have l1 : (j : Int) < (n : Int) := by omega
        have l2 : (j : Int) < (n2 : Int) := by have := NE.out; omega
        clear hy hv h1 h2
        go_upto_region 7 with fail
        have S1 := Lib.hid (show (wr.drew).cell? ⟨b1, o1 + j, none⟩ = some (.int .u8 (y.toNat : Int)) ∧ (wr.drew).cell? ⟨b2, o2 + j, none⟩ = some (.int .u8 (v.toNat : Int)) from ⟨c1.out, c2.out⟩)
        refine wp_region_road (fun W => W.cell? ⟨b1, o1 + j, none⟩ = some (.int .u8 (y.toNat : Int)) ∧ W.cell? ⟨b2, o2 + j, none⟩ = some (.int .u8 (v.toNat : Int))) [(true, 0), (true, 1), (true, 2), (true, 3), (true, 4), (true, 5), (true, 6), (true, 7), (true, 8), (true, 9), (true, 10), (true, 11)] (by kernel_rfl) (by kernel_rfl) (fun _ _ d _ _ h => by cases d <;> exact h) ?_
        simp only [List.filterMap_cons, List.filterMap_nil, List.getElem?_toArray, List.getElem?_cons_zero, List.getElem?_cons_succ, Option.map_some]
        refine planG_q (v := ?_) (by rfl) (S1.out) ?_ ?_
        rotate_left
        · intro W hW
          go_simp
          with_reducible rfl
        simp only [Act.put, List.setIfInBounds_toArray, List.set_cons_zero, List.set_cons_succ]
        refine planG_q (v := ?_) (by rfl) (S1.out) ?_ ?_
        rotate_left
        · intro W hW
          go_simp
          with_reducible rfl
        simp only [Act.put, List.setIfInBounds_toArray, List.set_cons_zero, List.set_cons_succ]
        refine planG_q (v := ?_) (by rfl) (S1.out) ?_ ?_
        rotate_left
        · intro W hW
          go_simp
          with_reducible rfl
        simp only [Act.put, List.setIfInBounds_toArray, List.set_cons_zero, List.set_cons_succ]
        refine planG_q (v := ?_) (by rfl) (S1.out) ?_ ?_
        rotate_left
        · intro W hW
          go_simp
          with_reducible rfl
        simp only [Act.put, List.setIfInBounds_toArray, List.set_cons_zero, List.set_cons_succ]
        refine planG_q (by rfl) (S1.out) (fun W hW => run_cell 5 (.tmp 20) rfl _ Tryz.underlying5 rfl rfl hW.1) ?_
        simp only [Act.put, List.setIfInBounds_toArray, List.set_cons_zero, List.set_cons_succ]
        refine planG_q (v := ?_) (by rfl) (S1.out) ?_ ?_
        rotate_left
        · intro W hW
          go_simp
          with_reducible rfl
        simp only [Act.put, List.setIfInBounds_toArray, List.set_cons_zero, List.set_cons_succ]
        refine planG_q (v := ?_) (by rfl) (S1.out) ?_ ?_
        rotate_left
        · intro W hW
          go_simp
          with_reducible rfl
        simp only [Act.put, List.setIfInBounds_toArray, List.set_cons_zero, List.set_cons_succ]
        refine planG_q (v := ?_) (by rfl) (S1.out) ?_ ?_
        rotate_left
        · intro W hW
          go_simp
          with_reducible rfl
        simp only [Act.put, List.setIfInBounds_toArray, List.set_cons_zero, List.set_cons_succ]
        refine planG_q (by rfl) (S1.out) (fun W hW => run_cell 5 (.tmp 24) rfl _ Tryz.underlying5 rfl rfl hW.2) ?_
        simp only [Act.put, List.setIfInBounds_toArray, List.set_cons_zero, List.set_cons_succ]
        refine planG_q (v := ?_) (by rfl) (S1.out) ?_ ?_
        rotate_left
        · intro W hW
          go_simp
          with_reducible rfl
        simp only [Act.put, List.setIfInBounds_toArray, List.set_cons_zero, List.set_cons_succ]
        refine planG_q (v := ?_) (by rfl) (S1.out) ?_ ?_
        rotate_left
        · intro W hW
          go_simp
          with_reducible rfl
        simp only [Act.put, List.setIfInBounds_toArray, List.set_cons_zero, List.set_cons_succ]
        refine planG_q (v := ?_) (by rfl) (S1.out) ?_ ?_
        rotate_left
        · intro W hW
          go_simp
          with_reducible rfl
        simp only [Act.put, List.setIfInBounds_toArray, List.set_cons_zero, List.set_cons_succ]
        refine planG_nil ?_
        go_wp2_with fail
        go_roundw
        case rel => exact ⟨j + 1, z, by omega, by go_num, rfl, by rw [hz.out, orxor_zero, X.out, Y.out, V.out, take_succ_eq a b j (by rw [HN.out]; exact hlt) (by rw [HN2.out]; have := NE.out; omega)], BL.out.drew⟩
        case measure => simp [intOf]; omega
      · have hjn : Hid (j = n) := show j = n by have := J.out; omega
        have hD : decide ((j : Int) < (n : Int)) = false := by simp; omega
        have FX := Lib.hid (show x = 0 ↔ a = b by
          have := X.out
          rwa [hjn.out, List.take_of_length_le (by rw [HN.out]; omega), List.take_of_length_le (by rw [HN2.out]; have := NE.out; omega)] at this)
        by_cases hx0 : x = 0
        · have hF : ((x.toNat : Int) == 0) = true := by simp [hx0]
          have hG := Lib.hid (show decide (a = b) = true by simp; exact FX.out.1 hx0)
          go_wp2_with fail
          go_ret
          exact ⟨by rw [hG.out]; rfl, BL.out⟩
        · have hF : ((x.toNat : Int) == 0) = false := by
            simp only [beq_eq_false_iff_ne, ne_eq]
            intro h
            exact hx0 (UInt8.toNat_inj.1 (by show x.toNat = 0; omega))
          have hG := Lib.hid (show decide (a = b) = false by simp; exact fun h => hx0 (FX.out.2 h))
          go_wp2_with fail
          go_ret
          exact ⟨by rw [hG.out]; rfl, BL.out⟩
  · have hE : decide ((n : Int) = (n2 : Int)) = false := by simp; omega
    have hE2 : ((n : Int) != (n2 : Int)) = true := by simp; omega
    have hG : decide (a = b) = false := by simp; intro h; apply he; rw [← HN.out, ← HN2.out, h]
    rw [hG]
    go_wp2_with fail
    go_ret
    exact ⟨rfl, Below.refl _ _⟩
end Go.Proofs.YtlocplkjokoknaaGreat

/- A region that draws its order in a function that defers: what is handed back at the door must not hang on the slots that the region writes. No condition but those each theorem states. -/
namespace Go.Proofs.YtlocplkjokoknaaGreat
set_option linter.unusedVariables false
set_option linter.unusedSimpArgs false
open Go.RowKit

section
variable {P : Program} {ops : Array Oper} {Q : Exit → Act → World → Prop} {S : World → Prop} {D : Option Tmp → Bool}
theorem planG_soundD (hQ : ∀ c a d v w, D d = true → Q (.panic c) (Act.put a d v) w → Q (.panic c) a w) (hD : ∀ (i : Nat) (o : Oper), ops[i]? = some o → D o.dst = true) (hs : Region.noSelect ops = true) : ∀ (T : List (Bool × Nat)) (S : World → Prop) (fuel : Nat) (L : Array Bool) (a : Act) (w : World), T.length ≤ fuel → planGB ops T L = true →
    planG P ops Q S (T.filterMap fun i => (ops[i.2]?).map fun o => (i.1, o)) a w → wpAnyH P .any ops Q S fuel L a w
  | [], S, fuel, L, a, w, _, hB, h => by
    simp only [planGB, List.isEmpty_iff] at hB
    exact wpAnyH_done hB h fuel
  | (true, i) :: T, S, fuel, L, a, w, hf, hB, h => by
    simp only [planGB, Bool.and_eq_true] at hB
    obtain ⟨⟨⟨hi, hfr⟩, hr⟩, hB'⟩ := hB
    obtain ⟨o, ho⟩ := Option.isSome_iff_exists.1 hi
    obtain ⟨fuel, rfl⟩ : ∃ m, fuel = m + 1 := ⟨fuel - 1, by simp at hf; omega⟩
    have e : ((true, i) :: T).filterMap (fun i => (ops[i.2]?).map fun o => (i.1, o)) = (true, o) :: T.filterMap fun i => (ops[i.2]?).map fun o => (i.1, o) := by simp [ho]
    rw [e] at h
    obtain ⟨S', hSS, hS, v, hy, h'⟩ := h
    exact wpAnyH_narrow hSS _ _ _ _ (wpAnyH_take ho hs hfr hr (fun c a w hh => hQ c a _ _ w (hD i o ho) hh) hy hS (planG_soundD hQ hD hs T S' fuel _ _ w (by simp at hf ⊢; omega) hB' h'))
  | (false, i) :: T, S, fuel, L, a, w, hf, hB, h => by
    simp only [planGB, Bool.and_eq_true] at hB
    obtain ⟨⟨hi, hr0⟩, hB'⟩ := hB
    have hr : Region.ready .any ops L = [i] := by
      split at hr0
      · rename_i j hj
        rw [hj, Nat.eq_of_beq_eq_true hr0]
      · cases hr0
    obtain ⟨o, ho⟩ := Option.isSome_iff_exists.1 hi
    obtain ⟨fuel, rfl⟩ : ∃ m, fuel = m + 1 := ⟨fuel - 1, by simp at hf; omega⟩
    have e : ((false, i) :: T).filterMap (fun i => (ops[i.2]?).map fun o => (i.1, o)) = (false, o) :: T.filterMap fun i => (ops[i.2]?).map fun o => (i.1, o) := by simp [ho]
    rw [e] at h
    obtain ⟨S', hSS, h⟩ := h
    refine wpAnyH_narrow hSS _ _ _ _ (wpAnyH_all hr (by simp) ?_)
    intro j hj
    obtain rfl : j = i := by simpa using hj
    unfold wpOp
    simp only [ho]
    split
    · rename_i hw
      rw [if_pos hw] at h
      refine .inl ?_
      exact Oper.wp_mono (fun a' w' hh => ⟨hh.1, planG_soundD hQ hD hs T S' fuel _ a' w' (by simp at hf; omega) hB' hh.2⟩) h
    · rename_i hw
      rw [if_neg hw] at h
      exact ⟨h.1, planG_soundD hQ hD hs T S' fuel _ _ w (by simp at hf; omega) hB' h.2⟩
theorem all_dst {l : List Oper} (h : l.all (fun o => D o.dst) = true) : ∀ (i : Nat) (o : Oper), l.toArray[i]? = some o → D o.dst = true := by
  intro i o ho
  rw [List.getElem?_toArray] at ho
  exact List.all_eq_true.1 h o (List.mem_of_getElem? ho)
/-- THE LAW. -/
theorem wp_region_roadD {id : Nat} {l : List Oper} {a : Act} {w : World} (D : Option Tmp → Bool) (hD : l.all (fun o => D o.dst) = true) (S : World → Prop) (T : List (Bool × Nat)) (hm : P.follows .mixedOrders = true)
    (hB : (planGB l.toArray T (Array.replicate l.toArray.size false) && Region.noSelect l.toArray && Nat.ble T.length l.toArray.size) = true)
    (hQ : ∀ c a d v w, D d = true → Q (.panic c) (Act.put a d v) w → Q (.panic c) a w)
    (h : planG P l.toArray Q S (T.filterMap fun i => (l.toArray[i.2]?).map fun o => (i.1, o)) a w.drew) : (Code.region id l.toArray true).wp P Q a w := by
  simp only [Bool.and_eq_true] at hB
  exact wp_region_held hm (planG_soundD hQ (all_dst hD) hB.1.2 T S _ _ a w.drew (Nat.le_of_ble_eq_true hB.2) hB.1.1 h)
theorem road_soundD (hQ : ∀ c a d v w, D d = true → Q (.panic c) (Act.put a d v) w → Q (.panic c) a w) (hD : ∀ (i : Nat) (o : Oper), ops[i]? = some o → D o.dst = true) (hs : Region.noSelect ops = true) : ∀ (T : Road) (S : World → Prop) (fuel : Nat) (L : Array Bool) (a : Act) (w : World), roadN T ≤ fuel → roadB ops T L = true →
    road P ops Q S T a w → wpAnyH P .any ops Q S fuel L a w := by
  intro T
  induction T with
  | done =>
    intro S fuel L a w _ hB h
    simp only [roadB, List.isEmpty_iff] at hB
    exact wpAnyH_done hB h fuel
  | q i T ih =>
    intro S fuel L a w hf hB h
    simp only [roadB, Bool.and_eq_true] at hB
    obtain ⟨⟨⟨hi, hfr⟩, hr⟩, hB'⟩ := hB
    simp only [roadN] at hf
    obtain ⟨fuel, rfl⟩ : ∃ m, fuel = m + 1 := ⟨fuel - 1, by omega⟩
    obtain ⟨S', hSS, hS, o, ho, v, hy, h'⟩ := h
    exact wpAnyH_narrow hSS _ _ _ _ (wpAnyH_take ho hs hfr hr (fun c a w hh => hQ c a _ _ w (hD _ _ ho) hh) hy hS (ih S' fuel _ _ w (by omega) hB' h'))
  | t i T ih =>
    intro S fuel L a w hf hB h
    simp only [roadB, Bool.and_eq_true] at hB
    obtain ⟨⟨hi, hr0⟩, hB'⟩ := hB
    have hr : Region.ready .any ops L = [i] := by
      split at hr0
      · rename_i j hj
        rw [hj, Nat.eq_of_beq_eq_true hr0]
      · cases hr0
    simp only [roadN] at hf
    obtain ⟨fuel, rfl⟩ : ∃ m, fuel = m + 1 := ⟨fuel - 1, by omega⟩
    obtain ⟨S', hSS, h⟩ := h
    refine wpAnyH_narrow hSS _ _ _ _ (wpAnyH_all hr (by simp) ?_)
    intro j hj
    obtain rfl : j = i := by simpa using hj
    exact stepR_sound h (fun a w h => ih S' fuel _ a w (by omega) hB' h)
  | two i T j U ihT ihU =>
    intro S fuel L a w hf hB h
    simp only [roadB, Bool.and_eq_true] at hB
    obtain ⟨⟨⟨_, hr0⟩, hT⟩, hU⟩ := hB
    have hr : Region.ready .any ops L = [i, j] := by
      split at hr0
      · rename_i a b hj
        simp only [Bool.and_eq_true] at hr0
        rw [hj, Nat.eq_of_beq_eq_true hr0.1, Nat.eq_of_beq_eq_true hr0.2]
      · cases hr0
    simp only [roadN] at hf
    obtain ⟨fuel, rfl⟩ : ∃ m, fuel = m + 1 := ⟨fuel - 1, by omega⟩
    obtain ⟨S', hSS, h1, h2⟩ := h
    refine wpAnyH_narrow hSS _ _ _ _ (wpAnyH_all hr (by simp) ?_)
    intro k hk
    simp only [List.mem_cons, List.not_mem_nil, or_false] at hk
    rcases hk with rfl | rfl
    · exact stepR_sound h1 (fun a w h => ihT S' fuel _ a w (by omega) hT h)
    · exact stepR_sound h2 (fun a w h => ihU S' fuel _ a w (by omega) hU h)
  | three i T j U k V ihT ihU ihV =>
    intro S fuel L a w hf hB h
    simp only [roadB, Bool.and_eq_true] at hB
    obtain ⟨⟨⟨⟨_, hr0⟩, hT⟩, hU⟩, hV⟩ := hB
    have hr : Region.ready .any ops L = [i, j, k] := by
      split at hr0
      · rename_i a b c hj
        simp only [Bool.and_eq_true] at hr0
        rw [hj, Nat.eq_of_beq_eq_true hr0.1.1, Nat.eq_of_beq_eq_true hr0.1.2, Nat.eq_of_beq_eq_true hr0.2]
      · cases hr0
    simp only [roadN] at hf
    obtain ⟨fuel, rfl⟩ : ∃ m, fuel = m + 1 := ⟨fuel - 1, by omega⟩
    obtain ⟨S', hSS, h1, h2, h3⟩ := h
    refine wpAnyH_narrow hSS _ _ _ _ (wpAnyH_all hr (by simp) ?_)
    intro m hm
    simp only [List.mem_cons, List.not_mem_nil, or_false] at hm
    rcases hm with rfl | rfl | rfl
    · exact stepR_sound h1 (fun a w h => ihT S' fuel _ a w (by omega) hT h)
    · exact stepR_sound h2 (fun a w h => ihU S' fuel _ a w (by omega) hU h)
    · exact stepR_sound h3 (fun a w h => ihV S' fuel _ a w (by omega) hV h)
/-- THE LAW, a tree. -/
theorem wp_region_treeD {id : Nat} {l : List Oper} {a : Act} {w : World} (D : Option Tmp → Bool) (hD : l.all (fun o => D o.dst) = true) (S : World → Prop) (T : Road) (hm : P.follows .mixedOrders = true)
    (hB : (roadB l.toArray T (Array.replicate l.toArray.size false) && Region.noSelect l.toArray && Nat.ble (roadN T) l.toArray.size) = true)
    (hQ : ∀ c a d v w, D d = true → Q (.panic c) (Act.put a d v) w → Q (.panic c) a w)
    (h : road P l.toArray Q S T a w.drew) : (Code.region id l.toArray true).wp P Q a w := by
  simp only [Bool.and_eq_true] at hB
  exact wp_region_held hm (road_soundD hQ (all_dst hD) hB.1.2 T S _ _ a w.drew (Nat.le_of_ble_eq_true hB.2) hB.1.1 h)
end
theorem leaves_tmps {P : Program} {fn : Func} {t1 t2 : Array Value} {R : Ending → World → Prop} (hr : results fn t1 = results fn t2) : ∀ (ds : List Deferred) (u : FrameMode) (w : World), Leaves P fn t1 R ds u w → Leaves P fn t2 R ds u w
  | [], .returning, w, h => by
    unfold Leaves at h ⊢
    rw [← hr]
    exact h
  | [], .panicking _, w, h => by
    unfold Leaves at h ⊢
    exact h
  | [], .run, w, h => by
    unfold Leaves at h
    exact h.elim
  | d :: ds, u, w, h => by
    unfold Leaves at h ⊢
    obtain ⟨h1, fv, cap, f, args, h2, h3, h4⟩ := h
    refine ⟨h1, fv, cap, f, args, h2, h3, h4.mono ?_⟩
    intro e u' w' hh
    cases e with
    | returned v => exact leaves_tmps hr ds _ _ hh
    | panicked c => exact leaves_tmps hr ds _ _ hh
    | outgrown => exact hh
theorem door_put {P : Program} {fn : Func} {R : Ending → World → Prop} {c : List PanicEntry} {a : Act} {d : Option Tmp} {v : Value} {w : World} (hr : results fn (a.put d v).tmps = results fn a.tmps) (h : bodyPostD P fn R (.panic c) (a.put d v) w) : bodyPostD P fn R (.panic c) a w := by
  have hd : (a.put d v).defers = a.defers := by cases d <;> rfl
  have h' : Leaves P fn (a.put d v).tmps R (a.put d v).defers (.panicking c) w := h
  rw [hd] at h'
  exact leaves_tmps hr _ _ _ h'
end Go.Proofs.YtlocplkjokoknaaGreat

/- aead: Open. No condition but those each theorem states. -/
namespace Go.Proofs.YtlocplkjokoknaaGreat
set_option linter.unusedVariables false
set_option linter.unusedSimpArgs false
open Go.RowKit
attribute [local go_sem ↓] Go.wp_at_zero Go.wp_at_succ

/-- What opens to what. -/
def openL (k n beside sealed : List UInt8) : Option (List UInt8) :=
  if sealed.length < 16 then none else if tagL k n beside (sealed.take (sealed.length - 16)) = sealed.drop (sealed.length - 16) then some (streamL k n 1 (sealed.take (sealed.length - 16))) else none
/-- What the opener hands back. -/
def OpenP (w : World) (r : Option (List UInt8)) (e : Ending) (w' : World) : Prop :=
  (match r with | some t => ∃ v, e = .returned (.tuple #[v, .bool true]) ∧ OwnB w' w.heap.size v t | none => e = .returned (.tuple #[.slice none 0 0, .bool false])) ∧ Below w.heap.size w w'
/-- The call's own four variables. -/
structure OpW (w : World) (k n : List UInt8) (W : World) : Prop where
  bk : W.heap[w.heap.size]? = some (.cells (W8 k) 38 (0, 0))
  bn : W.heap[w.heap.size + 1]? = some (.cells (W8 n) 128 (0, 0))
  bt : W.heap[w.heap.size + 1 + 1]? = some (.cells #[.slice none 0 0] 22 (0, 0))
  bo : W.heap[w.heap.size + 1 + 1 + 1]? = some (.cells #[.bool false] 4 (0, 0))
  bel : Below w.heap.size w W
theorem OpW.lt {w W : World} {k n : List UInt8} (h : OpW w k n W) : w.heap.size + 1 + 1 + 1 < W.heap.size := row_lt h.bo
theorem OpW.keep {w W W' : World} {k n : List UInt8} (h : OpW w k n W) (hb : Below W.heap.size W W') : OpW w k n W' :=
  have := h.lt
  ⟨below_block hb (by omega) h.bk, below_block hb (by omega) h.bn, below_block hb (by omega) h.bt, below_block hb (by omega) h.bo, h.bel.trans (hb.mono (by omega))⟩
theorem OpW.grow {w W W' : World} {k n : List UInt8} {M : Nat} (h : OpW w k n W) (hg : W.grownBy W' (some M)) (hM : w.heap.size + 1 + 1 + 1 < M) : OpW w k n W' :=
  ⟨grown_block hg (by simp; omega) h.bk, grown_block hg (by simp; omega) h.bn, grown_block hg (by simp; omega) h.bt, grown_block hg (by simp; omega) h.bo, h.bel.trans (grown_below hg h.bel.size (by rintro g ⟨⟩; omega))⟩
theorem op_start (w : World) (k n : List UInt8) : OpW w k n ((((w.alloc (.cells (W8 k) 38)).alloc (.cells (W8 n) 128)).alloc (.cells #[.slice none 0 0] 22)).alloc (.cells #[.bool false] 4)) where
  bk := ha_old _ _ _ (by simp <;> omega) (ha_old _ _ _ (by simp <;> omega) (ha_old _ _ _ (by simp) (ha_new _ _ _ rfl)))
  bn := ha_old _ _ _ (by simp <;> omega) (ha_old _ _ _ (by simp) (ha_new _ _ _ (by simp)))
  bt := ha_old _ _ _ (by simp) (ha_new _ _ _ (by simp))
  bo := ha_new _ _ _ (by simp)
  bel := (((((Below.refl _ _).alloc (Nat.le_refl _) _).alloc (by simp) _).alloc (by simp <;> omega) _)).alloc (by simp <;> omega) _
def D89 : Option Tmp → Bool
  | none => true
  | some x => !(x == 8) && !(x == 9)
theorem put_89 {a : Act} {d : Option Tmp} {v : Value} (hd : D89 d = true) : results Tryz.f59 (a.put d v).tmps = results Tryz.f59 a.tmps := by
  cases d with
  | none => rfl
  | some x =>
    simp [D89] at hd
    have h8 : ∀ (t : Array Value), (t.setIfInBounds x v).getD 8 undef = t.getD 8 undef := fun t => by simp [Array.getElem?_setIfInBounds, hd.1]
    have h9 : ∀ (t : Array Value), (t.setIfInBounds x v).getD 9 undef = t.getD 9 undef := fun t => by simp [Array.getElem?_setIfInBounds, hd.2]
    unfold results
    simp only [Tryz.results59, Act.put]
    simp [Array.getElem?_setIfInBounds, hd.1, hd.2]
/-- What was thrown is caught: no text. -/
theorem open_falls {w W : World} {k n : List UInt8} (S : OpW w k n W) (u : TypeId) (pv : Value) (tmps : Array Value) (h8 : tmps[8]?.getD undef = .pointer (some ⟨w.heap.size + 1 + 1, 0, none⟩)) (h9 : tmps[9]?.getD undef = .pointer (some ⟨w.heap.size + 1 + 1 + 1, 0, none⟩)) :
    bodyPostD Tryz.prog Tryz.f59 (OpenP w none) (Exit.panic [{ v := .iface u pv, recovered := false }]) { tmps := tmps, defers := [{ target := Target.fn (Fn.func 77) #[.pointer (some ⟨w.heap.size + 1 + 1, 0, none⟩), .pointer (some ⟨w.heap.size + 1 + 1 + 1, 0, none⟩)], args := #[] }] } W := by
  refine leaves_cons (f := 77) (args := #[.pointer (some ⟨w.heap.size + 1 + 1, 0, none⟩), .pointer (some ⟨w.heap.size + 1 + 1 + 1, 0, none⟩)]) (by simp) (by simp [go_sem]) ?_
  refine (catch_panicking ⟨w.heap.size + 1 + 1, 0, none⟩ ⟨w.heap.size + 1 + 1 + 1, 0, none⟩ _ _ (by simp) u pv [] W (row_cell S.bt 0 rfl) (row_free S.bt 0) (row_cell S.bo 0 rfl) (row_free S.bo 0)).mono ?_
  rintro e u' w'' ⟨rfl, rfl, rfl⟩
  obtain ⟨W1, hW1⟩ : ∃ W1, W1 = W.setCell ⟨w.heap.size + 1 + 1, 0, none⟩ (.slice none 0 0) := ⟨_, rfl⟩
  rw [← hW1]
  have t1 : W1.heap[w.heap.size + 1 + 1]? = some (.cells #[.slice none 0 0] 22 (0, 0)) := by rw [hW1, heap_setCell_same _ _ _ _ _ _ S.bt]; rfl
  have g1 : W.grownBy W1 (some (w.heap.size + 1 + 1)) := by rw [hW1]; exact grown_set (World.grownBy.refl _ _) _ _
  have o1 : W1.heap[w.heap.size + 1 + 1 + 1]? = some (.cells #[.bool false] 4 (0, 0)) := grown_block g1 (by simp) S.bo
  obtain ⟨W2, hW2⟩ : ∃ W2, W2 = W1.setCell ⟨w.heap.size + 1 + 1 + 1, 0, none⟩ (.bool false) := ⟨_, rfl⟩
  rw [← hW2]
  have g2 : W1.grownBy W2 (some (w.heap.size + 1 + 1 + 1)) := by rw [hW2]; exact grown_set (World.grownBy.refl _ _) _ _
  have cA : W2.cell? ⟨w.heap.size + 1 + 1, 0, none⟩ = some (.slice none 0 0) := row_cell (grown_block g2 (by simp) t1) 0 rfl
  have cB : W2.cell? ⟨w.heap.size + 1 + 1 + 1, 0, none⟩ = some (.bool false) := row_cell (t := 4) (fr := (0, 0)) (cs := #[.bool false]) (by rw [hW2, heap_setCell_same _ _ _ _ _ _ o1]; rfl) 0 rfl
  have hB : Below w.heap.size w W2 := S.bel.trans ((grown_below g1 S.bel.size (by rintro k ⟨⟩; omega)).trans (grown_below g2 (Nat.le_trans S.bel.size g1.size) (by rintro k ⟨⟩; omega)))
  clear hW1 hW2 t1 g1 o1 g2
  refine ⟨.tuple #[.slice none 0 0, .bool false], ?_, rfl, hB⟩
  simp [settle, results, Tryz.results59, h8, h9, go_sem, cA, cB]
/-- .. nothing was thrown. -/
theorem open_stands {w W : World} {t : List UInt8} {v : Value} (cA : W.cell? ⟨w.heap.size + 1 + 1, 0, none⟩ = some v) (cB : W.cell? ⟨w.heap.size + 1 + 1 + 1, 0, none⟩ = some (.bool true)) (hO : OwnB W w.heap.size v t) (hB : Below w.heap.size w W)
    (tmps : Array Value) (h8 : tmps[8]?.getD undef = .pointer (some ⟨w.heap.size + 1 + 1, 0, none⟩)) (h9 : tmps[9]?.getD undef = .pointer (some ⟨w.heap.size + 1 + 1 + 1, 0, none⟩)) :
    bodyPostD Tryz.prog Tryz.f59 (OpenP w (some t)) Exit.ret { tmps := tmps, defers := [{ target := Target.fn (Fn.func 77) #[.pointer (some ⟨w.heap.size + 1 + 1, 0, none⟩), .pointer (some ⟨w.heap.size + 1 + 1 + 1, 0, none⟩)], args := #[] }] } W := by
  refine leaves_cons (f := 77) (args := #[.pointer (some ⟨w.heap.size + 1 + 1, 0, none⟩), .pointer (some ⟨w.heap.size + 1 + 1 + 1, 0, none⟩)]) (by simp) (by simp [go_sem]) ?_
  refine (catch_idle ⟨w.heap.size + 1 + 1, 0, none⟩ ⟨w.heap.size + 1 + 1 + 1, 0, none⟩ W).mono ?_
  rintro e u' w'' ⟨rfl, rfl, rfl⟩
  refine ⟨.tuple #[v, .bool true], ?_, ⟨v, rfl, hO⟩, hB⟩
  simp [settle, results, Tryz.results59, h8, h9, go_sem, cA, cB]
set_option maxRecDepth 100000 in
set_option maxHeartbeats 4000000 in
theorem open_go (k n : List UInt8) (hk : k.length = 32) (hn : n.length = 12) (w : World) (A : Option Addr) (q c : Nat) (l : List UInt8) (hq : l.length = q) (hR : RdB w A l) (A2 : Option Addr) (q2 c2 : Nat) (l2 : List UInt8) (hq2 : l2.length = q2) (hc2 : q2 ≤ c2) (hR2 : RdB w A2 l2) (hl : q ≤ 70000) (hl2 : q2 ≤ 70000) :
    Calls Tryz.prog 59 #[.agg (W8 k), .agg (W8 n), .slice A q c, .slice A2 q2 c2] w (OpenP w (openL k n l l2)) := by
  have TB := Lib.hid (show ByteT Tryz.prog from ⟨Tryz.underlying22, by kernel_rfl⟩)
  have HK := Lib.hid hk
  have HN := Lib.hid hn
  have HQ := Lib.hid hq
  have HQ2 := Lib.hid hq2
  have HR := Lib.hid hR
  have HR2 := Lib.hid hR2
  have HC2 := Lib.hid hc2
  have ZK := Lib.hid (show (Tryz.prog.info? 38).map (·.size) = some (W8 k).size by rw [W8_size, hk]; kernel_rfl)
  have ZN := Lib.hid (show (Tryz.prog.info? 128).map (·.size) = some (W8 n).size by rw [W8_size, hn]; kernel_rfl)
  have QB := Lib.hid (And.intro hl hl2)
  obtain ⟨i0, hi0, hz0, hz1, hz2⟩ := info_parts (show (Tryz.prog.info? 5).map (fun i => (i.zero, i.size, i.bytes)) = some (some (.int .u8 0), 1, 1) by kernel_rfl)
  have I0 := Lib.hid hi0
  have I1 := Lib.hid hz1
  have hmf : ∀ (fn : Fn) (first cap : Array Value) (w : World), (Instr.makeFunc fn first cap).run Tryz.prog w = .ok (.func fn first cap) w := fun _ _ _ _ => rfl
  have q2b : (q2 : Int) ≤ 70000 := by omega
  clear hk hn hq hq2 hR hR2 hl hl2 hc2 hi0 hz0 hz1 hz2
  by_cases h16 : q2 < 16
  · have OE := Lib.hid (show openL k n l l2 = none by rw [openL, if_pos (by rw [HQ2.out]; exact h16)])
    have hD : decide ((16 : Int) ≤ (q2 : Int)) = false := by simp; omega
    rw [OE.out]
    go_enter_defers Tryz.func59, Tryz.ntmps59
    go_wp2_with fail
    clear hD
    generalize hw : World.alloc _ _ = w1
    have S := Lib.hid (show OpW w k n w1 by rw [← hw]; exact op_start w k n)
    clear hw
    refine (must_false _).mono ?_
    rintro e w2 ⟨ht, hw⟩
    rw [hw]
    obtain ⟨u, pv, rfl⟩ := ht
    exact open_falls S.out u pv _ rfl rfl
  · have hD : decide ((16 : Int) ≤ (q2 : Int)) = true := by simp; omega
    obtain ⟨at_, hat⟩ : ∃ a, q2 = a + 16 := ⟨q2 - 16, by omega⟩
    have e1 : (q2 : Int) - 16 = (at_ : Int) := by omega
    have AE := Lib.hid hat
    obtain ⟨r, hr⟩ : ∃ r, r = openL k n l l2 := ⟨_, rfl⟩
    rw [← hr]
    have RE := Lib.hid hr
    clear hr hat h16
    go_enter_defers Tryz.func59, Tryz.ntmps59
    go_wp2_with fail
    generalize hw : World.alloc _ _ = w1
    have S := Lib.hid (show OpW w k n w1 by rw [← hw]; exact op_start w k n)
    clear hw hD e1
    refine (must_true _).mono ?_
    rintro e w2 ⟨rfl, hw⟩
    rw [hw]
    clear hw w2
    obtain ⟨X, hX⟩ : ∃ X, X = l2.take at_ := ⟨_, rfl⟩
    obtain ⟨T, hT⟩ : ∃ T, T = tagL k n l X := ⟨_, rfl⟩
    obtain ⟨Y, hY⟩ : ∃ Y, Y = l2.drop at_ := ⟨_, rfl⟩
    have XL := Lib.hid (show X.length = at_ by rw [hX, List.length_take, HQ2.out, AE.out]; omega)
    have YL := Lib.hid (show Y.length = 16 by rw [hY, List.length_drop, HQ2.out, AE.out]; omega)
    have TL := Lib.hid (show T.length = 16 by rw [hT, tagL_length])
    have ZT := Lib.hid (show (Tryz.prog.info? 155).map (·.size) = some (W8 T).size by rw [W8_size, TL.out]; kernel_rfl)
    have RE := Lib.hid (show r = if T = Y then some (streamL k n 1 X) else none by
      rw [RE.out, openL, if_neg (by rw [HQ2.out, AE.out]; omega), hT, hY, hX, show l2.length - 16 = at_ by rw [HQ2.out, AE.out]; omega])
    have RX := Lib.hid (show RdB w A2 X by rw [hX]; exact HR2.out.take _)
    have TE := Lib.hid hT
    have YE := Lib.hid hY
    have ZZ := Lib.hid zero16
    have AB := Lib.hid (show at_ ≤ 70000 by have := QB.out; have := AE.out; omega)
    have AC := Lib.hid (show at_ ≤ c2 by have := HC2.out; have := AE.out; omega)
    clear hX hT hY
    go_upto_region 4 with fail
    go_cut [11] from 19 to 26 (fun v wx => ∃ M, v = .pointer (some ⟨M, 0, none⟩) ∧ wx.heap[M]? = some (.cells (W8 T) 155 (0, 0)) ∧ OpW w k n wx)
    case first =>
      refine wp_region_treeD D89 (by kernel_rfl) (fun W => OpW w k n W) (.q 0 (.q 1 (.q 2 (.q 3 (.q 4 (.q 5 (.q 6 (.two 7 (.t 8 (.t 9 .done)) 8 (.t 7 (.t 9 .done)))))))))) (by kernel_rfl) (by kernel_rfl) (fun _ _ d _ _ hd h => door_put (put_89 hd) h) ?_
      have S := Lib.hid (S.out.keep (Below.refl _ _).drew)
      generalize World.drew w1 = w3 at *
      refine road_q rfl rfl (S.out) (fun W hW => run_load_row 38 (.tmp 4) rfl w.heap.size rfl 38 (W8 k) (0, 0) _ hW.bk Tryz.underlying38 rfl ZK.out) ?_
      simp only [Act.put, List.setIfInBounds_toArray, List.set_cons_zero, List.set_cons_succ]
      refine road_q rfl rfl (S.out) (fun W hW => run_load_row 128 (.tmp 5) rfl (w.heap.size + 1) rfl 128 (W8 n) (0, 0) _ hW.bn Tryz.underlying128 rfl ZN.out) ?_
      simp only [Act.put, List.setIfInBounds_toArray, List.set_cons_zero, List.set_cons_succ]
      refine road_q (v := ?_) rfl rfl (S.out) ?_ ?_
      rotate_left
      · intro W hW
        go_simp
        with_reducible rfl
      simp only [Act.put, List.setIfInBounds_toArray, List.set_cons_zero, List.set_cons_succ]
      refine road_q (v := ?_) rfl rfl (S.out) ?_ ?_
      rotate_left
      · intro W hW
        go_simp
        with_reducible rfl
      simp only [Act.put, List.setIfInBounds_toArray, List.set_cons_zero, List.set_cons_succ]
      refine road_q (v := ?_) rfl rfl (S.out) ?_ ?_
      rotate_left
      · intro W hW
        go_simp
        with_reducible rfl
      simp only [Act.put, List.setIfInBounds_toArray, List.set_cons_zero, List.set_cons_succ]
      refine road_q (v := ?_) rfl rfl (S.out) ?_ ?_
      rotate_left
      · intro W hW
        go_simp
        with_reducible rfl
      simp only [Act.put, List.setIfInBounds_toArray, List.set_cons_zero, List.set_cons_succ]
      refine road_q rfl rfl (S.out) (fun W hW => run_cut_max 22 5 (.tmp 22) (.tmp 23) (.tmp 24) rfl Tryz.underlying22 I0.out I1.out A2 q2 c2 at_ AC.out rfl rfl rfl W) ?_
      simp only [Act.put, List.setIfInBounds_toArray, List.set_cons_zero, List.set_cons_succ]
      refine road_two ?_ ?_
      ·
        refine road_t rfl rfl (fun K hK => ?_)
        go_simp
        refine (tag_any k n HK.out HN.out _ A q c l HQ.out (HR.out.keep S.out.bel) A2 at_ at_ X XL.out (RX.out.keep S.out.bel) (by have := QB.out; omega) (by have := AB.out; omega)).mono ?_
        rw [← TE.out]
        rintro e w3 ⟨rfl, hb⟩
        have S := Lib.hid (S.out.keep hb)
        try have R := Lib.hid (below_block hb (row_lt R.out) R.out)
        clear hb
        refine hK.out _ _ (S.out) ?_
        clear hK K
        refine road_t rfl rfl (fun K hK => ?_)
        go_simp
        rw [← ZZ.out]
        generalize hM : Array.size (World.heap w3) = M
        generalize hw : World.alloc w3 _ = w8
        have MS := Lib.hid (show w.heap.size + 1 + 1 + 1 < M by rw [← hM]; exact S.out.lt)
        have R := Lib.hid (show w8.heap[M]? = some (.cells (W8 Z16) 155 (0, 0)) by rw [← hw]; exact ha_new _ _ _ hM.symm)
        have S := Lib.hid (show OpW w k n w8 by rw [← hw]; exact S.out.keep (below_new _ _))
        clear hM hw
        refine hK.out _ _ (S.out) ?_
        clear hK K
        refine road_t rfl rfl (fun K hK => ?_)
        refine storeW_wp 155 (.tmp 11) (.tmp 26) rfl M (W8 T) rfl rfl _ _ R.out ZT.out (by rw [W8_size, W8_size, TL.out]; rfl) (W8_one _) ?_
        intro w9 hz9 hg9 _
        have R := Lib.hid hz9
        have S := Lib.hid (S.out.grow hg9 MS.out)
        clear hz9 hg9
        refine hK.out _ _ (S.out) ?_
        clear hK K
        refine road_done ?_
        simp only [Act.put]
        go_wp2_with fail
        go_meet
        exact ⟨M, rfl, R.out, S.out⟩
      ·
        refine road_t rfl rfl (fun K hK => ?_)
        go_simp
        rw [← ZZ.out]
        generalize hM : Array.size (World.heap w3) = M
        generalize hw : World.alloc w3 _ = w8
        have MS := Lib.hid (show w.heap.size + 1 + 1 + 1 < M by rw [← hM]; exact S.out.lt)
        have R := Lib.hid (show w8.heap[M]? = some (.cells (W8 Z16) 155 (0, 0)) by rw [← hw]; exact ha_new _ _ _ hM.symm)
        have S := Lib.hid (show OpW w k n w8 by rw [← hw]; exact S.out.keep (below_new _ _))
        clear hM hw
        refine hK.out _ _ (S.out) ?_
        clear hK K
        refine road_t rfl rfl (fun K hK => ?_)
        go_simp
        refine (tag_any k n HK.out HN.out _ A q c l HQ.out (HR.out.keep S.out.bel) A2 at_ at_ X XL.out (RX.out.keep S.out.bel) (by have := QB.out; omega) (by have := AB.out; omega)).mono ?_
        rw [← TE.out]
        rintro e w3 ⟨rfl, hb⟩
        have S := Lib.hid (S.out.keep hb)
        try have R := Lib.hid (below_block hb (row_lt R.out) R.out)
        clear hb
        refine hK.out _ _ (S.out) ?_
        clear hK K
        refine road_t rfl rfl (fun K hK => ?_)
        refine storeW_wp 155 (.tmp 11) (.tmp 26) rfl M (W8 T) rfl rfl _ _ R.out ZT.out (by rw [W8_size, W8_size, TL.out]; rfl) (W8_one _) ?_
        intro w9 hz9 hg9 _
        have R := Lib.hid hz9
        have S := Lib.hid (S.out.grow hg9 MS.out)
        clear hz9 hg9
        refine hK.out _ _ (S.out) ?_
        clear hK K
        refine road_done ?_
        simp only [Act.put]
        go_wp2_with fail
        go_meet
        exact ⟨M, rfl, R.out, S.out⟩
    case rest =>
    obtain ⟨M, rfl, hr, hs⟩ := hcut
    have R := Lib.hid hr
    have S := Lib.hid hs
    clear hr hs
    obtain ⟨A', hX0, hcut, _⟩ := cut_from (P := Tryz.prog) 22 5 Tryz.underlying22 I0.out I1.out A2 q2 c2 at_ (by have := AE.out; omega)
    rw [show q2 - at_ = 16 by have := AE.out; omega] at hX0
    have HX := Lib.hid hX0
    have RY := Lib.hid (show RdB w A' Y by rw [YE.out]; exact hcut w l2 HQ2.out HC2.out HR2.out)
    clear hX0 hcut
    go_upto_region 5 with fail
    by_cases hTY : T = Y
    · have hE := Lib.hid (show decide (T = Y) = true from decide_eq_true hTY)
      have RE := Lib.hid (show r = some (streamL k n 1 X) by rw [RE.out, if_pos hTY])
      clear hTY
      refine wp_region_roadD D89 (by kernel_rfl) (fun W => OpW w k n W ∧ W.heap[M]? = some (.cells (W8 T) 155 (0, 0))) [(true, 0), (true, 1), (true, 2), (true, 3), (false, 4), (false, 5)] (by kernel_rfl) (by kernel_rfl) (fun _ _ d _ _ hd h => door_put (put_89 hd) h) ?_
      simp only [List.filterMap_cons, List.filterMap_nil, List.getElem?_toArray, List.getElem?_cons_zero, List.getElem?_cons_succ, Option.map_some]
      have S := Lib.hid (show OpW w k n wc.drew ∧ wc.drew.heap[M]? = some (.cells (W8 T) 155 (0, 0)) from ⟨S.out.keep (Below.refl _ _).drew, R.out⟩)
      refine planG_q (by rfl) (S.out) (fun W hW => run_arr_all 155 (.tmp 11) rfl 16 5 Tryz.underlying155 I0.out M rfl W) ?_
      simp only [Act.put, List.setIfInBounds_toArray, List.set_cons_zero, List.set_cons_succ]
      refine planG_q (v := ?_) (by rfl) (S.out) ?_ ?_
      rotate_left
      · intro W hW
        go_simp
        with_reducible rfl
      simp only [Act.put, List.setIfInBounds_toArray, List.set_cons_zero, List.set_cons_succ]
      refine planG_q (v := ?_) (by rfl) (S.out) ?_ ?_
      rotate_left
      · intro W hW
        go_simp
        with_reducible rfl
      simp only [Act.put, List.setIfInBounds_toArray, List.set_cons_zero, List.set_cons_succ]
      refine planG_q (by rfl) (S.out) (fun W hW => run_cut_from 22 (.tmp 28) (.tmp 29) rfl Tryz.underlying22 HX.out rfl rfl W) ?_
      simp only [Act.put, List.setIfInBounds_toArray, List.set_cons_zero, List.set_cons_succ]
      refine planG_t (by rfl) (fun K hK => ?_)
      go_simp
      refine (equal_any _ (some ⟨M, 0, none⟩) 16 16 T TL.out (RdB.row S.out.2) A' 16 (c2 - at_) Y YL.out (RY.out.keep S.out.1.bel) (by omega) (by omega)).mono ?_
      rw [hE.out]
      rintro e w4 ⟨rfl, hb⟩
      have S := Lib.hid (show OpW w k n w4 ∧ w4.heap[M]? = some (.cells (W8 T) 155 (0, 0)) from ⟨S.out.1.keep hb, below_block hb (row_lt S.out.2) S.out.2⟩)
      clear hb
      refine hK.out _ _ (S.out) ?_
      clear hK K
      refine planG_t (by rfl) (fun K hK => ?_)
      go_simp
      refine (must_true _).mono ?_
      rintro e w5 ⟨rfl, hw⟩
      rw [hw]
      clear hw w5
      refine hK.out _ _ (S.out) ?_
      clear hK K
      refine planG_nil ?_
      go_upto_region 6 with fail
      refine wp_region_roadD D89 (by kernel_rfl) (fun W => W.heap[w.heap.size]? = some (.cells (W8 k) 38 (0, 0)) ∧ W.heap[w.heap.size + 1]? = some (.cells (W8 n) 128 (0, 0))) [(true, 0), (true, 1), (true, 2), (true, 3), (true, 4), (true, 5), (false, 6), (false, 7), (false, 8)] (by kernel_rfl) (by kernel_rfl) (fun _ _ d _ _ hd h => door_put (put_89 hd) h) ?_
      simp only [List.filterMap_cons, List.filterMap_nil, List.getElem?_toArray, List.getElem?_cons_zero, List.getElem?_cons_succ, Option.map_some]
      have S := Lib.hid (show OpW w k n w4.drew from S.out.1.keep (Below.refl _ _).drew)
      have C := Lib.hid (And.intro S.out.bk S.out.bn)
      refine planG_q (by rfl) (C.out) (fun W hW => run_load_row 38 (.tmp 4) rfl w.heap.size rfl 38 (W8 k) (0, 0) _ hW.1 Tryz.underlying38 rfl ZK.out) ?_
      simp only [Act.put, List.setIfInBounds_toArray, List.set_cons_zero, List.set_cons_succ]
      refine planG_q (by rfl) (C.out) (fun W hW => run_load_row 128 (.tmp 5) rfl (w.heap.size + 1) rfl 128 (W8 n) (0, 0) _ hW.2 Tryz.underlying128 rfl ZN.out) ?_
      simp only [Act.put, List.setIfInBounds_toArray, List.set_cons_zero, List.set_cons_succ]
      refine planG_q (v := ?_) (by rfl) (C.out) ?_ ?_
      rotate_left
      · intro W hW
        go_simp
        with_reducible rfl
      simp only [Act.put, List.setIfInBounds_toArray, List.set_cons_zero, List.set_cons_succ]
      refine planG_q (v := ?_) (by rfl) (C.out) ?_ ?_
      rotate_left
      · intro W hW
        go_simp
        with_reducible rfl
      simp only [Act.put, List.setIfInBounds_toArray, List.set_cons_zero, List.set_cons_succ]
      refine planG_q (v := ?_) (by rfl) (C.out) ?_ ?_
      rotate_left
      · intro W hW
        go_simp
        with_reducible rfl
      simp only [Act.put, List.setIfInBounds_toArray, List.set_cons_zero, List.set_cons_succ]
      refine planG_q (by rfl) (C.out) (fun W hW => run_cut_max 22 5 (.tmp 35) (.tmp 36) (.tmp 37) rfl Tryz.underlying22 I0.out I1.out A2 q2 c2 at_ AC.out rfl rfl rfl W) ?_
      simp only [Act.put, List.setIfInBounds_toArray, List.set_cons_zero, List.set_cons_succ]
      refine planG_t (by rfl) (fun K hK => ?_)
      go_simp
      have SA := Lib.hid (stream_go k n HK.out HN.out 1 w4.drew A2 at_ X (RX.out.keep S.out.bel) (by rw [XL.out]; exact Nat.le_refl _) (by have := AB.out; have := XL.out; omega))
      rw [XL.out] at SA
      refine SA.out.mono ?_
      obtain ⟨Z, hZ⟩ : ∃ Z, Z = streamL k n 1 X := ⟨_, rfl⟩
      rw [← hZ]
      rw [← hZ] at RE
      rintro e w5 ⟨v, rfl, ho, hb⟩
      obtain ⟨Av, cv, rfl, _⟩ := ho.read
      obtain ⟨zn, hzn⟩ : ∃ z, z = Z.length := ⟨_, rfl⟩
      rw [← hzn] at ho ⊢
      have O := Lib.hid (ho.mono S.out.bel.size)
      have OL := Lib.hid (fun g e => Nat.lt_of_lt_of_le S.out.lt (ho.lt g e).1)
      have S := Lib.hid (S.out.keep hb)
      have C := Lib.hid (And.intro S.out.bk S.out.bn)
      clear hb ho hZ hzn SA
      refine hK.out _ _ (C.out) ?_
      clear hK K
      have ct : w5.cell? ⟨w.heap.size + 1 + 1, 0, none⟩ = some (.slice none 0 0) := row_cell S.out.bt 0 rfl
      have ft := row_free S.out.bt 0
      refine planG_t (by rfl) (fun K hK => ?_)
      go_simp
      obtain ⟨w6, hw6⟩ : ∃ w6, w6 = w5.setCell ⟨w.heap.size + 1 + 1, 0, none⟩ (.slice Av zn cv) := ⟨_, rfl⟩
      rw [← hw6]
      have G6 := Lib.hid (show w5.grownBy w6 (some (w.heap.size + 1 + 1)) by rw [hw6]; exact grown_set (World.grownBy.refl _ _) _ _)
      have T6 := Lib.hid (show w6.heap[w.heap.size + 1 + 1]? = some (.cells #[.slice Av zn cv] 22 (0, 0)) by rw [hw6, heap_setCell_same _ _ _ _ _ _ S.out.bt]; rfl)
      have O6 := Lib.hid (grown_block G6.out (by simp) S.out.bo)
      have C := Lib.hid (And.intro (grown_block G6.out (by simp <;> omega) S.out.bk) (grown_block G6.out (by simp <;> omega) S.out.bn))
      clear hw6 ct ft
      refine hK.out _ _ (C.out) ?_
      clear hK K
      have co : w6.cell? ⟨w.heap.size + 1 + 1 + 1, 0, none⟩ = some (.bool false) := row_cell O6.out 0 rfl
      have fo := row_free O6.out 0
      refine planG_t (by rfl) (fun K hK => ?_)
      go_simp
      obtain ⟨w7, hw7⟩ : ∃ w7, w7 = w6.setCell ⟨w.heap.size + 1 + 1 + 1, 0, none⟩ (.bool true) := ⟨_, rfl⟩
      rw [← hw7]
      have G7 := Lib.hid (show w6.grownBy w7 (some (w.heap.size + 1 + 1 + 1)) by rw [hw7]; exact grown_set (World.grownBy.refl _ _) _ _)
      have T7 := Lib.hid (grown_block G7.out (by simp) T6.out)
      have O7 := Lib.hid (show w7.heap[w.heap.size + 1 + 1 + 1]? = some (.cells #[.bool true] 4 (0, 0)) by rw [hw7, heap_setCell_same _ _ _ _ _ _ O6.out]; rfl)
      have C := Lib.hid (And.intro (grown_block G7.out (by simp <;> omega) C.out.1) (grown_block G7.out (by simp <;> omega) C.out.2))
      clear hw7 co fo
      refine hK.out _ _ (C.out) ?_
      clear hK K
      refine planG_nil ?_
      go_wp2_with fail
      rw [RE.out]
      refine open_stands (row_cell T7.out 0 rfl) (row_cell O7.out 0 rfl) ?_ ?_ _ rfl rfl
      · refine (O.out.grown G6.out ?_).grown G7.out ?_
        · rcases hq : (Value.slice Av zn cv).ownBlock with _ | g
          · exact .inl rfl
          · exact .inr (fun e => by injection e with e; have := OL.out g hq; omega)
        · rcases hq : (Value.slice Av zn cv).ownBlock with _ | g
          · exact .inl rfl
          · exact .inr (fun e => by injection e with e; have := OL.out g hq; omega)
      · exact S.out.bel.trans ((grown_below G6.out S.out.bel.size (by rintro k ⟨⟩; omega)).trans (grown_below G7.out (Nat.le_trans S.out.bel.size G6.out.size) (by rintro k ⟨⟩; omega)))
    · have hE := Lib.hid (show decide (T = Y) = false from decide_eq_false hTY)
      have RE := Lib.hid (show r = none by rw [RE.out, if_neg hTY])
      clear hTY
      refine wp_region_roadD D89 (by kernel_rfl) (fun W => OpW w k n W ∧ W.heap[M]? = some (.cells (W8 T) 155 (0, 0))) [(true, 0), (true, 1), (true, 2), (true, 3), (false, 4), (false, 5)] (by kernel_rfl) (by kernel_rfl) (fun _ _ d _ _ hd h => door_put (put_89 hd) h) ?_
      simp only [List.filterMap_cons, List.filterMap_nil, List.getElem?_toArray, List.getElem?_cons_zero, List.getElem?_cons_succ, Option.map_some]
      have S := Lib.hid (show OpW w k n wc.drew ∧ wc.drew.heap[M]? = some (.cells (W8 T) 155 (0, 0)) from ⟨S.out.keep (Below.refl _ _).drew, R.out⟩)
      refine planG_q (by rfl) (S.out) (fun W hW => run_arr_all 155 (.tmp 11) rfl 16 5 Tryz.underlying155 I0.out M rfl W) ?_
      simp only [Act.put, List.setIfInBounds_toArray, List.set_cons_zero, List.set_cons_succ]
      refine planG_q (v := ?_) (by rfl) (S.out) ?_ ?_
      rotate_left
      · intro W hW
        go_simp
        with_reducible rfl
      simp only [Act.put, List.setIfInBounds_toArray, List.set_cons_zero, List.set_cons_succ]
      refine planG_q (v := ?_) (by rfl) (S.out) ?_ ?_
      rotate_left
      · intro W hW
        go_simp
        with_reducible rfl
      simp only [Act.put, List.setIfInBounds_toArray, List.set_cons_zero, List.set_cons_succ]
      refine planG_q (by rfl) (S.out) (fun W hW => run_cut_from 22 (.tmp 28) (.tmp 29) rfl Tryz.underlying22 HX.out rfl rfl W) ?_
      simp only [Act.put, List.setIfInBounds_toArray, List.set_cons_zero, List.set_cons_succ]
      refine planG_t (by rfl) (fun K hK => ?_)
      go_simp
      refine (equal_any _ (some ⟨M, 0, none⟩) 16 16 T TL.out (RdB.row S.out.2) A' 16 (c2 - at_) Y YL.out (RY.out.keep S.out.1.bel) (by omega) (by omega)).mono ?_
      rw [hE.out]
      rintro e w4 ⟨rfl, hb⟩
      have S := Lib.hid (show OpW w k n w4 ∧ w4.heap[M]? = some (.cells (W8 T) 155 (0, 0)) from ⟨S.out.1.keep hb, below_block hb (row_lt S.out.2) S.out.2⟩)
      clear hb
      refine hK.out _ _ (S.out) ?_
      clear hK K
      refine planG_t (by rfl) (fun K hK => ?_)
      go_simp
      refine (must_false _).mono ?_
      rintro e w5 ⟨ht, hw⟩
      rw [hw]
      obtain ⟨u, pv, rfl⟩ := ht
      rw [RE.out]
      exact open_falls S.out.1 u pv _ rfl rfl
theorem open_any (k n : List UInt8) (hk : k.length = 32) (hn : n.length = 12) (w : World) (A : Option Addr) (q c : Nat) (l : List UInt8) (hq : l.length = q) (hR : RdB w A l) (A2 : Option Addr) (q2 c2 : Nat) (l2 : List UInt8) (hq2 : l2.length = q2) (hc2 : q2 ≤ c2) (hR2 : RdB w A2 l2) (hlt : ∀ a, A2 = some a → a.block < w.heap.size) (hl : q ≤ 70000) (hl2 : q2 ≤ 70000) :
    Calls Tryz.prog 59 #[.agg (W8 k), .agg (W8 n), .slice A q c, .slice A2 q2 c2] w (OpenP w (openL k n l l2)) := open_go k n hk hn w A q c l hq hR A2 q2 c2 l2 hq2 hc2 hR2 hl hl2
end Go.Proofs.YtlocplkjokoknaaGreat

/- Two arrays of bytes are told to be the same just if they are. No condition. -/
namespace Go.Proofs.YtlocplkjokoknaaGreat
set_option linter.unusedVariables false
set_option linter.unusedSimpArgs false
open Go.RowKit

theorem eqItems8 {P : Program} (w : World) (e : TypeId) (he : P.underlying e = some (.int .u8)) (dd : Nat) (xs ys : List UInt8) : ∀ (is : List Nat), (∀ i ∈ is, i < xs.length ∧ i < ys.length) →
    (Op.eqItems (dd + 1) e 1 (W8 xs) (W8 ys) is).run P w = .ok (is.all fun i => xs.getD i 0 == ys.getD i 0) w
  | [], _ => by simp [Op.eqItems]
  | i :: is, h => by
    have hk : P.plainKey e = true := by simp [Program.plainKey, he]
    obtain ⟨h1, h2⟩ := h i (by simp)
    have ih := eqItems8 w e he dd xs ys is (fun j hj => h j (by simp [hj]))
    have p1 := run_part_plain (P := P) (w := w) hk (xs := W8 xs) (off := i * 1) (v := .int .u8 ((xs.getD i 0).toNat : Int)) (by rw [Nat.mul_one]; exact W8_get xs i h1)
    have p2 := run_part_plain (P := P) (w := w) hk (xs := W8 ys) (off := i * 1) (v := .int .u8 ((ys.getD i 0).toNat : Int)) (by rw [Nat.mul_one]; exact W8_get ys i h2)
    simp only [Op.eqItems, Sem.run_bind, p1, p2, Result.andThen_ok, run_equalIn_int w dd e .u8 .u8 _ _ he, List.all_cons]
    have e1 : (((xs.getD i 0).toNat : Int) == ((ys.getD i 0).toNat : Int)) = (xs.getD i 0 == ys.getD i 0) := by
      by_cases hq : xs.getD i 0 = ys.getD i 0
      · rw [hq]; simp
      · have : (xs.getD i 0).toNat ≠ (ys.getD i 0).toNat := fun h => hq (UInt8.toNat_inj.1 h)
        rw [beq_eq_false_iff_ne.2 hq, beq_eq_false_iff_ne.2 (by omega)]
    rw [e1]
    cases hb : (xs.getD i 0 == ys.getD i 0)
    · simp
    · simp [ih]
theorem eq_arr {P : Program} (w : World) (t e : TypeId) (n : Nat) (ht : P.underlying t = some (.array n e)) (he : P.underlying e = some (.int .u8)) (hc : (P.info? e).map (·.size) = some 1) (xs ys : List UInt8) (hx : xs.length = n) (hy : ys.length = n) :
    (Op.equalIn 10000 t (.agg (W8 xs)) (.agg (W8 ys))).run P w = .ok (decide (xs = ys)) w := by
  cases hi : P.info? e with
  | none => simp [hi] at hc
  | some i =>
    have hcs : P.cellsOf e = 1 := by
      simp only [hi, Option.map_some, Option.some.injEq] at hc
      simp [Program.cellsOf, hi, hc]
    have h := run_equalIn_array w 9999 (W8 xs) (W8 ys) ht hi
    rw [show (10000 : Nat) = 9999 + 1 from rfl, h]
    rw [hcs, eqItems8 w e he 9998 xs ys (List.range n) (fun j hj => by simp at hj; omega)]
    congr 1
    by_cases hq : xs = ys
    · subst hq; simp
    · rw [decide_eq_false hq]
      apply Bool.eq_false_iff.2
      intro hall
      apply hq
      rw [List.all_eq_true] at hall
      apply List.ext_getElem (by omega)
      intro j h1 h2
      have := hall j (by simp; omega)
      simpa [List.getD_eq_getElem?_getD, h1, h2] using this
theorem run_eq_arr {P : Program} {o : Oper} {a : Act} (t t2 : TypeId) (x y : Operand) (ho : o.op = .binOp .eql t x y t2) (e : TypeId) (n : Nat) (ht : P.underlying t = some (.array n e)) (he : P.underlying e = some (.int .u8)) (hc : (P.info? e).map (·.size) = some 1) (hm : P.eqGuardType P.depth t = false) (xs ys : List UInt8)
    (hxs : xs.length = n) (hys : ys.length = n) (hx : a.eval x = .agg (W8 xs)) (hy : a.eval y = .agg (W8 ys)) (W : World) : (execOp a.eval o).run P W = .ok (.value (.bool (decide (xs = ys)))) W := by
  unfold execOp
  simp only [ho, hx, hy, Sem.run_bind, Sem.run_pure, run_eql_struct, run_eqGuard_agg (w := W) _ t x y _ _ hm, eq_arr W t e n ht he hc xs ys hxs hys, Result.andThen_ok]
theorem run_eq_arr_true {P : Program} {o : Oper} {a : Act} (t t2 : TypeId) (x y : Operand) (ho : o.op = .binOp .eql t x y t2) (e : TypeId) (n : Nat) (ht : P.underlying t = some (.array n e)) (he : P.underlying e = some (.int .u8)) (hc : (P.info? e).map (·.size) = some 1) (hm : P.eqGuardType P.depth t = false) (xs ys : List UInt8)
    (hxs : xs.length = n) (hxy : xs = ys) (hx : a.eval x = .agg (W8 xs)) (hy : a.eval y = .agg (W8 ys)) (W : World) : (execOp a.eval o).run P W = .ok (.value (.bool true)) W := by
  have h := run_eq_arr t t2 x y ho e n ht he hc hm xs ys hxs (hxy ▸ hxs) hx hy W
  rw [decide_eq_true hxy] at h
  exact h
theorem run_neq_arr_false {P : Program} {o : Oper} {a : Act} (t t2 : TypeId) (x y : Operand) (ho : o.op = .binOp .neq t x y t2) (e : TypeId) (n : Nat) (ht : P.underlying t = some (.array n e)) (he : P.underlying e = some (.int .u8)) (hc : (P.info? e).map (·.size) = some 1) (hm : P.eqGuardType P.depth t = false) (xs ys : List UInt8)
    (hxs : xs.length = n) (hxy : xs = ys) (hx : a.eval x = .agg (W8 xs)) (hy : a.eval y = .agg (W8 ys)) (W : World) : (execOp a.eval o).run P W = .ok (.value (.bool false)) W := by
  unfold execOp
  simp only [ho, hx, hy, Sem.run_bind, Sem.run_pure, run_neq_struct, run_eqGuard_agg (w := W) _ t x y _ _ hm, eq_arr W t e n ht he hc xs ys hxs (hxy ▸ hxs), Result.andThen_ok, decide_eq_true hxy]
  rfl
end Go.Proofs.YtlocplkjokoknaaGreat

/- box.Box: Open. No condition but those each theorem states. -/
namespace Go.Proofs.YtlocplkjokoknaaGreat
set_option linter.unusedVariables false
set_option linter.unusedSimpArgs false
open Go.RowKit Go.MapKept
attribute [local go_sem ↓] Go.wp_at_zero Go.wp_at_succ

/-- By whom it was sealed, as it is looked up. -/
def lookM (m : List (List UInt8 × Ent)) (x : List UInt8) : Option Ent := (m.find? fun p => decide (p.1 = x)).map (·.2)
/-- What opens to what. -/
def openS (s : BSt) (k bs x : List UInt8) : Option (List UInt8) :=
  if s.mode = 0 then (if x.length < 28 then none else openL k (x.take 12) bs (x.drop 12))
  else match lookM s.m x with
    | none => none
    | some e => if e.key = k ∧ e.beside = bs then some e.text else none
theorem lookM_none {m : List (List UInt8 × Ent)} {x : List UInt8} (h : ∀ p ∈ m, p.1 ≠ x) : lookM m x = none := by
  simp only [lookM, Option.map_eq_none_iff, List.find?_eq_none, decide_eq_true_eq]
  exact h
/-- No two entries of the map have one key. -/
theorem MapB.one {lo b : Nat} {m : List (List UInt8 × Ent)} {W : World} (h : MapB lo b m W) {i j : Nat} {x : List UInt8} {e e' : Ent} (hi : m[i]? = some (x, e)) (hj : m[j]? = some (x, e')) : i = j := by
  obtain ⟨es, clock, hb, hst, hall⟩ := h.has
  obtain ⟨a, ha, hra⟩ := hall.get i _ hi
  obtain ⟨c, hc, hrc⟩ := hall.get j _ hj
  have hn := hst.2.2
  obtain ⟨hi1, hi2⟩ := List.getElem?_eq_some_iff.mp ha
  obtain ⟨hj1, hj2⟩ := List.getElem?_eq_some_iff.mp hc
  have hk : a.key = c.key := by rw [hra.1, hrc.1]
  have hp := List.pairwise_iff_getElem.mp hn
  have hx : (es.toList.map (·.key))[i]'(by rw [List.length_map]; exact hi1) = (es.toList.map (·.key))[j]'(by rw [List.length_map]; exact hj1) := by rw [List.getElem_map, List.getElem_map, hi2, hj2, hk]
  rcases Nat.lt_trichotomy i j with h1 | h1 | h1
  · exact absurd hx (hp i j _ _ h1)
  · exact h1
  · exact absurd hx.symm (hp j i _ _ h1)
theorem MapB.look {lo b : Nat} {m : List (List UInt8 × Ent)} {W : World} (h : MapB lo b m W) {j : Nat} {x : List UInt8} {e : Ent} (hj : m[j]? = some (x, e)) : lookM m x = some e := by
  cases hf : m.find? fun p => decide (p.1 = x) with
  | none =>
    rw [List.find?_eq_none] at hf
    exact absurd (show (x, e).1 = x from rfl) (by have := hf _ (List.mem_of_getElem? hj); simp at this)
  | some p =>
    obtain ⟨i, hi⟩ := List.getElem?_of_mem (List.mem_of_find?_eq_some hf)
    have hx : p.1 = x := by simpa using List.find?_some hf
    obtain ⟨p1, p2⟩ := p
    simp only at hx
    subst hx
    obtain rfl := h.one hi hj
    rw [hi] at hj
    injection hj with hj
    injection hj with _ hj
    simp [lookM, hf, hj]
theorem eq_arr2 {P : Program} (w : World) (t e : TypeId) (n : Nat) (ht : P.underlying t = some (.array n e)) (he : P.underlying e = some (.int .u8)) (hc : (P.info? e).map (·.size) = some 1) (xs ys : List UInt8) (hx : xs.length = n) (hy : ys.length = n) (dd : Nat) :
    (Op.equalIn (dd + 2) t (.agg (W8 xs)) (.agg (W8 ys))).run P w = .ok (decide (xs = ys)) w := by
  cases hi : P.info? e with
  | none => simp [hi] at hc
  | some i =>
    have hcs : P.cellsOf e = 1 := by
      simp only [hi, Option.map_some, Option.some.injEq] at hc
      simp [Program.cellsOf, hi, hc]
    have h := run_equalIn_array w (dd + 1) (W8 xs) (W8 ys) ht hi
    rw [h]
    rw [hcs, eqItems8 w e he dd xs ys (List.range n) (fun j hj => by simp at hj; omega)]
    congr 1
    by_cases hq : xs = ys
    · subst hq; simp
    · rw [decide_eq_false hq]
      apply Bool.eq_false_iff.2
      intro hall
      apply hq
      rw [List.all_eq_true] at hall
      apply List.ext_getElem (by omega)
      intro j h1 h2
      have := hall j (by simp; omega)
      simpa [List.getD_eq_getElem?_getD, h1, h2] using this
/-- Two of them compared. -/
theorem eq_whoD (k bs k' bs' : List UInt8) (hk : k.length = 32) (hk' : k'.length = 32) (W : World) (dd : Nat) :
    (Op.equalIn (dd + 3) 130 (.agg (WhoL k bs).toArray) (.agg (WhoL k' bs').toArray)).run Tryz.prog W = .ok (decide (k = k' ∧ bs = bs')) W := by
  have hfs : (Tryz.prog.fieldsOf 130).toList.map (fun f => (f.name == "_", f.type, f.offset)) = [(false, 38, 0), (false, 9, 32)] := by kernel_rfl
  have ht : Tryz.prog.underlying 130 = some (.struct (Tryz.prog.fieldsOf 130)) := by kernel_rfl
  have hp : Tryz.prog.stoodInHeld 130 = false := by kernel_rfl
  rw [run_equalIn_struct W (dd + 2) _ _ _ ht hp]
  clear ht hp
  generalize (Tryz.prog.fieldsOf 130).toList = fs at hfs
  obtain ⟨f1, f2, rfl⟩ : ∃ f1 f2, fs = [f1, f2] := by
    rcases fs with _ | ⟨f1, _ | ⟨f2, _ | ⟨f3, fs⟩⟩⟩ <;> simp at hfs
    exact ⟨f1, f2, rfl⟩
  simp only [List.map_cons, List.map_nil, List.cons.injEq, Prod.mk.injEq, and_true] at hfs
  obtain ⟨⟨n1, t1, o1⟩, n2, t2, o2⟩ := hfs
  have n1 : f1.name ≠ "_" := by simpa using n1
  have n2 : f2.name ≠ "_" := by simpa using n2
  have hsz : (Tryz.prog.info? 38).map (·.size) = some 32 := by kernel_rfl
  obtain ⟨i, hi, hsz⟩ := Option.map_eq_some_iff.1 hsz
  have p1 : ∀ (k bs : List UInt8), k.length = 32 → (part 38 (WhoL k bs).toArray 0).run Tryz.prog W = .ok (.agg (W8 k)) W := by
    intro k bs hk
    simp [part, isAgg, run_underlying Tryz.underlying38, sizeOf, typeInfo, hi, hsz]
    rw [WhoL, List.take_append_of_le_length (by rw [B8_length, hk]; exact Nat.le_refl _), List.take_of_length_le (by rw [B8_length, hk]; exact Nat.le_refl _)]
    rfl
  have p2 : ∀ (k bs : List UInt8), k.length = 32 → (part 9 (WhoL k bs).toArray 32).run Tryz.prog W = .ok (.string (strB bs)) W := by
    intro k bs hk
    have hc := who_bes (bs := bs) hk
    simp only [part, isAgg, Sem.run_bind, run_underlying Tryz.underlying9, Result.andThen_ok, Sem.run_pure, hc]
    simp
  have q1 := eq_arr2 W 38 5 32 Tryz.underlying38 Tryz.underlying5 (by kernel_rfl) k k' hk hk' dd
  have q2 := run_equalIn_string (P := Tryz.prog) W (dd + 1) 9 (strB bs) (strB bs') Tryz.underlying9
  have a1 := p1 k bs hk
  have a2 := p1 k' bs' hk'
  have b1 := p2 k bs hk
  have b2 := p2 k' bs' hk'
  clear p1 p2 hsz hi
  unfold Op.eqFields
  rw [if_pos n1, t1, o1, Sem.run_bind, a1, Result.andThen_ok, Sem.run_bind, a2, Result.andThen_ok, Sem.run_bind, q1, Result.andThen_ok]
  by_cases h1 : k = k'
  · rw [decide_eq_true h1]
    unfold Op.eqFields
    simp only [Bool.not_true, Bool.false_eq_true, if_false]
    rw [if_pos n2, t2, o2, Sem.run_bind, b1, Result.andThen_ok, Sem.run_bind, b2, Result.andThen_ok, Sem.run_bind, q2, Result.andThen_ok, strB_beq]
    unfold Op.eqFields
    by_cases h2 : bs = bs' <;> simp [h1, h2]
  · rw [decide_eq_false h1]
    simp [h1]
theorem eq_who (k bs k' bs' : List UInt8) (hk : k.length = 32) (hk' : k'.length = 32) (W : World) :
    (Op.equalIn 10000 130 (.agg (WhoL k bs).toArray) (.agg (WhoL k' bs').toArray)).run Tryz.prog W = .ok (decide (k = k' ∧ bs = bs')) W := eq_whoD k bs k' bs' hk hk' W 9997
theorem run_neq_who {o : Oper} {a : Act} (t2 : TypeId) (x y : Operand) (ho : o.op = .binOp .neq 130 x y t2) (k bs k' bs' : List UInt8) (hk : k.length = 32) (hk' : k'.length = 32) (hx : a.eval x = .agg (WhoL k bs).toArray) (hy : a.eval y = .agg (WhoL k' bs').toArray) (W : World) :
    (execOp a.eval o).run Tryz.prog W = .ok (.value (.bool (!decide (k = k' ∧ bs = bs')))) W := by
  have hm : Tryz.prog.eqGuardType Tryz.prog.depth 130 = false := by kernel_rfl
  unfold execOp
  simp only [ho, hx, hy, Sem.run_bind, Sem.run_pure, run_neq_struct, run_eqGuard_agg (w := W) _ _ x y _ _ hm, eq_who k bs k' bs' hk hk' W, Result.andThen_ok]
theorem run_load_range {P : Program} {o : Oper} {a : Act} (ty : TypeId) (x : Operand) (ho : o.op = .load ty x) (b off : Nat) (hx : a.eval x = .pointer (some ⟨b, off, none⟩)) (l : List Value) {W : World} (h : W.rangeAt b off l) {d : TypeDesc} (hu : P.underlying ty = some d)
    (hd : d.isRow = true) (hi : (P.info? ty).map (·.size) = some l.length) : (execOp a.eval o).run P W = .ok (.value (.agg l.toArray)) W := by
  unfold execOp
  simp only [ho, hx, Instr.loadAt, Instr.sureAddr, Sem.run_bind, Sem.run_pure, Result.andThen_ok, run_loadVar_mid W b off _ _ _ h hu hd hi]
theorem ent_who {W : World} {M : Nat} {k bs : List UInt8} {A : Option Addr} {n c : Nat} {T : TypeId} {fr : Nat × Nat} (h : W.heap[M]? = some (.cells (EntL k bs A n c).toArray T fr)) : W.rangeAt M 0 (WhoL k bs) := by
  intro j v hj
  refine row_cell h (0 + j) ?_
  have hl : j < (WhoL k bs).length := (List.getElem?_eq_some_iff.1 hj).1
  rw [Nat.zero_add, List.getElem?_toArray, EntL, show B8 k ++ [Value.string (strB bs), .slice A n c] = WhoL k bs ++ [.slice A n c] by simp [WhoL], List.getElem?_append_left hl, hj]
theorem ent_text {k bs : List UInt8} {A : Option Addr} {n c : Nat} (hk : k.length = 32) : (EntL k bs A n c).toArray[33]? = some (.slice A n c) := by
  rw [List.getElem?_toArray, EntL, List.getElem?_append_right (by rw [B8_length, hk]; omega), B8_length, hk]
  rfl
set_option maxRecDepth 100000 in
set_option maxHeartbeats 4000000 in
theorem bopen_real (w0 : World) (g S D b lo : Nat) (s : BSt) (w : World) (h : BoxB w0 g S D b lo s w) (hmo : s.mode = 0) (k bs x : List UInt8) (hk : k.length = 32) (Ab : Option Addr) (qb cb : Nat) (hqb : bs.length = qb) (hRb : RdB w Ab bs) (hb2 : qb ≤ 60000)
    (A : Option Addr) (q c : Nat) (hq : x.length = q) (hc : q ≤ c) (hR : RdB w A x) (hq2 : q ≤ 70000) :
    Calls Tryz.prog 36 #[.pointer (some ⟨g, 0, none⟩), .agg (W8 k), .slice Ab qb cb, .slice A q c] w (OpenP w (openS s k bs x)) := by
  have H := Lib.hid h
  have HK := Lib.hid hk
  have HB := Lib.hid hqb
  have RB := Lib.hid hRb
  have HB2 := Lib.hid hb2
  have HQ := Lib.hid hq
  have HC := Lib.hid hc
  have HR := Lib.hid hR
  have Q2 := Lib.hid hq2
  have MO := Lib.hid (show (s.mode : Int) = 0 by omega)
  have qbd : (q : Int) ≤ 70000 := by omega
  have ZK := Lib.hid (show (Tryz.prog.info? 38).map (·.size) = some (W8 k).size by rw [W8_size, hk]; kernel_rfl)
  obtain ⟨i0, hi0, hz0, hz1, hz2⟩ := info_parts (show (Tryz.prog.info? 5).map (fun i => (i.zero, i.size, i.bytes)) = some (some (.int .u8 0), 1, 1) by kernel_rfl)
  have I0 := Lib.hid hi0
  have I1 := Lib.hid hz1
  obtain ⟨r, hr⟩ : ∃ r, r = openS s k bs x := ⟨_, rfl⟩
  have RH := Lib.hid (show r = if x.length < 28 then none else openL k (x.take 12) bs (x.drop 12) by rw [hr, openS, if_pos hmo])
  rw [← hr]
  clear h hmo hk hqb hRb hb2 hq hc hR hq2 hi0 hz0 hz1 hz2 hr
  go_enter Tryz.func36, Tryz.ntmps36
  go_upto_region 1 with fail
  generalize hw1 : World.alloc w _ = w1
  have M1 := Lib.hid (show w1.heap[w.heap.size]? = some (.cells (W8 k) 38 (0, 0)) by rw [← hw1]; exact ha_new _ _ _ rfl)
  have B1 := Lib.hid (show Below w.heap.size w w1 by rw [← hw1]; exact below_new _ _)
  clear hw1
  go_wp2_with fail
  refine (bnone_any w0 g S D b lo s w1 (H.out.keep B1.out)).mono ?_
  rintro e2 wd ⟨rfl, hw⟩
  rw [hw]
  clear hw wd
  have c0 := row_cell (H.out.keep B1.out).row 0 rfl
  rw [MO.out] at c0
  by_cases hlt : q < 28
  · have d1 : decide ((q : Int) < 28) = true := by simp; omega
    have d2 : decide (q < 28) = true := by simp; omega
    have RN := Lib.hid (show r = none by rw [RH.out, if_pos (by rw [HQ.out]; exact hlt)])
    go_wp2_with fail
    go_ret2
    rw [RN.out]
    exact ⟨rfl, B1.out⟩
  · have d1 : decide ((q : Int) < 28) = false := by simp; omega
    have d2 : decide (q < 28) = false := by simp; omega
    have RN := Lib.hid (show r = openL k (x.take 12) bs (x.drop 12) by rw [RH.out, if_neg (by rw [HQ.out]; exact hlt)])
    have Q28 := Lib.hid (show 28 ≤ q by omega)
    obtain ⟨AX, hAX, hRX, hBX⟩ := cut_from (P := Tryz.prog) 22 5 Tryz.underlying22 I0.out I1.out A q c 12 (by omega)
    have HX := Lib.hid hAX
    have RX := Lib.hid hRX
    have BX := Lib.hid hBX
    obtain ⟨qA, oA, hA, _⟩ := (HR.out.keep B1.out) 0 (by rw [HQ.out]; omega)
    have N12 := Lib.hid (show (x.take 12).length = 12 by rw [List.length_take, HQ.out]; omega)
    have RG := Lib.hid (show RdB w1 (some ⟨qA, oA, none⟩) (x.take 12) by rw [← hA]; exact (HR.out.keep B1.out).take 12)
    have ZN := Lib.hid (show (Tryz.prog.info? 128).map (·.size) = some (B8 (x.take 12)).length by rw [B8_length, N12.out]; kernel_rfl)
    have AE := Lib.hid hA
    clear hlt hAX hRX hBX hA
    go_upto_region 6 with fail
    clear c0 d1 d2
    have B := Lib.hid (show Below w1.heap.size w1 w1.drew from (Below.refl _ _).drew)
    refine wp_region_road (fun W => Below w1.heap.size w1 W) [(true, 0), (true, 1), (true, 2), (true, 3), (true, 4), (true, 5), (true, 6), (true, 7), (false, 8), (true, 9), (true, 10), (true, 11), (true, 12)] (by kernel_rfl) (by kernel_rfl) (fun _ _ d _ _ h => by cases d <;> exact h) ?_
    simp only [List.filterMap_cons, List.filterMap_nil, List.getElem?_toArray, List.getElem?_cons_zero, List.getElem?_cons_succ, Option.map_some]
    refine planG_q (by rfl) (B.out) (fun W hW => run_load_row 38 (.tmp 5) rfl w.heap.size rfl 38 (W8 k) (0, 0) _ (below_block hW (row_lt M1.out) M1.out) Tryz.underlying38 rfl ZK.out) ?_
    simp only [Act.put, List.setIfInBounds_toArray, List.set_cons_zero, List.set_cons_succ]
    refine planG_q (v := ?_) (by rfl) (B.out) ?_ ?_
    rotate_left
    · intro W hW
      go_simp
      with_reducible rfl
    simp only [Act.put, List.setIfInBounds_toArray, List.set_cons_zero, List.set_cons_succ]
    refine planG_q (by rfl) (B.out) (fun W hW => run_cut_to 22 (.tmp 23) (.const (.int .i64 12)) rfl 5 Tryz.underlying22 I0.out I1.out A q c 12 rfl rfl (by have := Q28.out; have := HC.out; omega) W) ?_
    simp only [Act.put, List.setIfInBounds_toArray, List.set_cons_zero, List.set_cons_succ]
    refine planG_q (by rfl) (B.out) (fun W hW => run_sl2arr 128 (.tmp 24) rfl 12 5 Tryz.underlying128 A 12 c rfl (Nat.le_refl _) W) ?_
    simp only [Act.put, List.setIfInBounds_toArray, List.set_cons_zero, List.set_cons_succ]
    refine planG_q (by rfl) (B.out) (fun W hW => run_load_bytes 128 (.tmp 25) rfl qA oA (by rw [← AE.out]; rfl) (x.take 12) (rangeB_of (RG.out.keep hW)) Tryz.underlying128 rfl ZN.out) ?_
    simp only [Act.put, List.setIfInBounds_toArray, List.set_cons_zero, List.set_cons_succ]
    refine planG_q (v := ?_) (by rfl) (B.out) ?_ ?_
    rotate_left
    · intro W hW
      go_simp
      with_reducible rfl
    simp only [Act.put, List.setIfInBounds_toArray, List.set_cons_zero, List.set_cons_succ]
    refine planG_q (v := ?_) (by rfl) (B.out) ?_ ?_
    rotate_left
    · intro W hW
      go_simp
      with_reducible rfl
    simp only [Act.put, List.setIfInBounds_toArray, List.set_cons_zero, List.set_cons_succ]
    refine planG_q (by rfl) (B.out) (fun W hW => run_cut_from 22 (.tmp 28) (.const (.int .i64 12)) rfl Tryz.underlying22 HX.out rfl rfl W) ?_
    simp only [Act.put, List.setIfInBounds_toArray, List.set_cons_zero, List.set_cons_succ]
    refine planG_t (by rfl) (fun K hK => ?_)
    go_simp
    refine (open_go k (x.take 12) HK.out N12.out w1.drew Ab qb cb bs HB.out ((RB.out.keep B1.out).keep B.out) AX (q - 12) (c - 12) (x.drop 12) (by rw [List.length_drop, HQ.out]) (by have := HC.out; omega) (RX.out _ x HQ.out HC.out ((HR.out.keep B1.out).keep B.out)) (by have := HB2.out; omega) (by have := Q2.out; omega)).mono ?_
    rw [← RN.out]
    rintro e2 w2 ⟨hm2, hb2⟩
    have B2 := Lib.hid (B.out.trans (hb2.mono B.out.size))
    have BW := Lib.hid (show Below w.heap.size w w2 from B1.out.trans (B2.out.mono B1.out.size))
    have MZ := Lib.hid (Nat.le_trans B1.out.size B.out.size)
    clear hb2
    cases r with
    | none =>
      obtain rfl := hm2
      refine hK.out _ _ (B2.out) ?_
      clear hK K
      refine planG_q (v := ?_) (by rfl) (B2.out) ?_ ?_
      rotate_left
      · intro W hW
        go_simp
        with_reducible rfl
      simp only [Act.put, List.setIfInBounds_toArray, List.set_cons_zero, List.set_cons_succ]
      refine planG_q (v := ?_) (by rfl) (B2.out) ?_ ?_
      rotate_left
      · intro W hW
        go_simp
        with_reducible rfl
      simp only [Act.put, List.setIfInBounds_toArray, List.set_cons_zero, List.set_cons_succ]
      refine planG_q (v := ?_) (by rfl) (B2.out) ?_ ?_
      rotate_left
      · intro W hW
        go_simp
        with_reducible rfl
      simp only [Act.put, List.setIfInBounds_toArray, List.set_cons_zero, List.set_cons_succ]
      refine planG_q (v := ?_) (by rfl) (B2.out) ?_ ?_
      rotate_left
      · intro W hW
        go_simp
        with_reducible rfl
      simp only [Act.put, List.setIfInBounds_toArray, List.set_cons_zero, List.set_cons_succ]
      refine planG_nil ?_
      go_wp2_with fail
      go_ret2
      exact ⟨rfl, BW.out⟩
    | some t =>
      obtain ⟨v, rfl, ho⟩ := hm2
      have O := Lib.hid (ho.mono MZ.out)
      clear ho
      refine hK.out _ _ (B2.out) ?_
      clear hK K
      refine planG_q (v := ?_) (by rfl) (B2.out) ?_ ?_
      rotate_left
      · intro W hW
        go_simp
        with_reducible rfl
      simp only [Act.put, List.setIfInBounds_toArray, List.set_cons_zero, List.set_cons_succ]
      refine planG_q (v := ?_) (by rfl) (B2.out) ?_ ?_
      rotate_left
      · intro W hW
        go_simp
        with_reducible rfl
      simp only [Act.put, List.setIfInBounds_toArray, List.set_cons_zero, List.set_cons_succ]
      refine planG_q (v := ?_) (by rfl) (B2.out) ?_ ?_
      rotate_left
      · intro W hW
        go_simp
        with_reducible rfl
      simp only [Act.put, List.setIfInBounds_toArray, List.set_cons_zero, List.set_cons_succ]
      refine planG_q (v := ?_) (by rfl) (B2.out) ?_ ?_
      rotate_left
      · intro W hW
        go_simp
        with_reducible rfl
      simp only [Act.put, List.setIfInBounds_toArray, List.set_cons_zero, List.set_cons_succ]
      refine planG_nil ?_
      go_wp2_with fail
      go_ret2
      exact ⟨⟨v, rfl, O.out⟩, BW.out⟩
set_option maxRecDepth 100000 in
set_option maxHeartbeats 4000000 in
theorem bopen_ideal (w0 : World) (g S D b lo : Nat) (s : BSt) (w : World) (h : BoxB w0 g S D b lo s w) (hmo : s.mode = 1) (k bs x : List UInt8) (hk : k.length = 32) (Ab : Option Addr) (qb cb : Nat) (hqb : bs.length = qb) (hRb : RdB w Ab bs)
    (A : Option Addr) (q c : Nat) (hq : x.length = q) (hR : RdB w A x) (hq2 : q ≤ 100000) (ht : ∀ p ∈ s.m, p.2.text.length ≤ 100000) :
    Calls Tryz.prog 36 #[.pointer (some ⟨g, 0, none⟩), .agg (W8 k), .slice Ab qb cb, .slice A q c] w (OpenP w (openS s k bs x)) := by
  have H := Lib.hid h
  have HK := Lib.hid hk
  have HB := Lib.hid hqb
  have RB := Lib.hid hRb
  have HQ := Lib.hid hq
  have HR := Lib.hid hR
  have Q2 := Lib.hid hq2
  have MO := Lib.hid (show (s.mode : Int) = 1 by omega)
  have ZK := Lib.hid (show (Tryz.prog.info? 38).map (·.size) = some (W8 k).size by rw [W8_size, hk]; kernel_rfl)
  obtain ⟨r, hr⟩ : ∃ r, r = openS s k bs x := ⟨_, rfl⟩
  have RH := Lib.hid (show r = match lookM s.m x with | none => none | some e => if e.key = k ∧ e.beside = bs then some e.text else none by rw [hr, openS, if_neg (by omega)])
  rw [← hr]
  have LK : ∃ (e : Ent) (A' : Option Addr) (c' : Nat) (β : Bool), e.key.length = 32 ∧ e.text.length ≤ c' ∧ e.text.length ≤ 100000 ∧ RdB w A' e.text ∧ (β = false → r = none) ∧ (β = true → r = if e.key = k ∧ e.beside = bs then some e.text else none) ∧ ∀ W' : World, W'.heap[b]? = w.heap[b]? → (Instr.lookup 78 (.map (some b)) (.string (strB x)) true).run Tryz.prog W' = .ok (.tuple #[EntV e.key e.beside A' e.text.length c', .bool β]) W' := by
    rcases mapB_lookup h.map x (by omega) with ⟨h1, h2⟩ | ⟨j, e, A', c', hj, h2, hRe, h32, hlc, _⟩
    · exact ⟨⟨List.replicate 32 0, [], []⟩, none, 0, false, by simp, Nat.le_refl _, by simp, RdB.nil _ _, fun _ => by rw [RH.out, lookM_none h1], fun e => (by cases e), h2⟩
    · exact ⟨e, A', c', true, h32, hlc, ht _ (List.mem_of_getElem? hj), hRe, fun e => (by cases e), fun _ => by rw [RH.out, h.map.look hj], h2⟩
  obtain ⟨e, A', c', β, h32, hlc, hte, hRe, hb0, hb1, hlk⟩ := LK
  have K32 := Lib.hid h32
  have LC := Lib.hid hlc
  have TE := Lib.hid hte
  have RE := Lib.hid hRe
  have R0 := Lib.hid hb0
  have R1 := Lib.hid hb1
  have LKH := Lib.hid hlk
  have ML := Lib.hid h.map.lt
  obtain ⟨nt, hnt⟩ : ∃ nt, nt = e.text.length := ⟨_, rfl⟩
  have NT := Lib.hid hnt.symm
  rw [← hnt] at LC TE LKH
  obtain ⟨cs, hcs⟩ : ∃ cs, cs = (EntL e.key e.beside A' nt c').toArray := ⟨_, rfl⟩
  have CE := Lib.hid hcs
  have CS := Lib.hid (show cs.size = 34 by rw [hcs, EntL_size _ _ _ _ _ h32])
  have CO := Lib.hid (show cs.all (·.oneCell') = true by rw [hcs]; exact EntL_one _ _ _ _ _)
  have LKH := Lib.hid (show ∀ W' : World, W'.heap[b]? = w.heap[b]? → (Instr.lookup 78 (.map (some b)) (.string (strB x)) true).run Tryz.prog W' = .ok (.tuple #[.agg cs, .bool β]) W' by rw [hcs]; exact LKH.out)
  have ZW := Lib.hid (show ∀ k bs : List UInt8, k.length = 32 → (Tryz.prog.info? 130).map (·.size) = some (WhoL k bs).length by intro k bs hk; have := WhoL_size k bs hk; rw [List.size_toArray] at this; rw [this]; exact info_who)
  clear h hmo hk hqb hRb hq hR hq2 hr ht h32 hlc hte hRe hb0 hb1 hlk hnt hcs
  go_enter Tryz.func36, Tryz.ntmps36
  go_upto_region 1 with fail
  generalize hw1 : World.alloc w _ = w1
  have M1 := Lib.hid (show w1.heap[w.heap.size]? = some (.cells (W8 k) 38 (0, 0)) by rw [← hw1]; exact ha_new _ _ _ rfl)
  have B1 := Lib.hid (show Below w.heap.size w w1 by rw [← hw1]; exact below_new _ _)
  clear hw1
  go_wp2_with fail
  refine (bnone_any w0 g S D b lo s w1 (H.out.keep B1.out)).mono ?_
  rintro e2 wd ⟨rfl, hw⟩
  rw [hw]
  clear hw wd
  have H1 := Lib.hid (H.out.keep B1.out)
  have c0 := row_cell H1.out.row 0 rfl
  rw [MO.out] at c0
  go_upto_region 7 with fail
  clear c0
  have B := Lib.hid (show Below w1.heap.size w1 w1.drew from (Below.refl _ _).drew)
  refine wp_region_road (fun W => Below w1.heap.size w1 W) [(true, 0), (true, 1), (true, 2), (true, 3), (true, 4), (true, 5), (true, 6), (true, 7), (true, 8), (true, 9), (false, 10), (false, 11), (true, 12)] (by kernel_rfl) (by kernel_rfl) (fun _ _ d _ _ h => by cases d <;> exact h) ?_
  simp only [List.filterMap_cons, List.filterMap_nil, List.getElem?_toArray, List.getElem?_cons_zero, List.getElem?_cons_succ, Option.map_some]
  refine planG_q (v := ?_) (by rfl) (B.out) ?_ ?_
  rotate_left
  · intro W hW
    go_simp
    with_reducible rfl
  simp only [Act.put, List.setIfInBounds_toArray, List.set_cons_zero, List.set_cons_succ]
  refine planG_q (v := ?_) (by rfl) (B.out) ?_ ?_
  rotate_left
  · intro W hW
    go_simp
    with_reducible rfl
  simp only [Act.put, List.setIfInBounds_toArray, List.set_cons_zero, List.set_cons_succ]
  refine planG_q (v := ?_) (by rfl) (B.out) ?_ ?_
  rotate_left
  · intro W hW
    go_simp
    with_reducible rfl
  simp only [Act.put, List.setIfInBounds_toArray, List.set_cons_zero, List.set_cons_succ]
  refine planG_q (by rfl) (B.out) (fun W hW => run_cell 78 (.tmp 36) rfl _ Tryz.underlying78 rfl rfl (row_cell (below_block hW (row_lt H1.out.row) H1.out.row) 2 rfl)) ?_
  simp only [Act.put, List.setIfInBounds_toArray, List.set_cons_zero, List.set_cons_succ]
  refine planG_q (v := ?_) (by rfl) (B.out) ?_ ?_
  rotate_left
  · intro W hW
    go_simp
    with_reducible rfl
  simp only [Act.put, List.setIfInBounds_toArray, List.set_cons_zero, List.set_cons_succ]
  refine planG_q (by rfl) (B.out) (fun W hW => run_str 22 9 (.tmp 38) rfl Tryz.underlying22 Tryz.underlying5 Tryz.underlying9 ((HR.out.keep B1.out).keep hW) q c HQ.out rfl) ?_
  simp only [Act.put, List.setIfInBounds_toArray, List.set_cons_zero, List.set_cons_succ]
  refine planG_q (by rfl) (B.out) (fun W hW => run_lookup2 78 (.tmp 37) (.tmp 39) rfl rfl rfl (LKH.out W ((hW.block b (Nat.lt_of_lt_of_le ML.out B1.out.size)).trans (B1.out.block b ML.out)))) ?_
  simp only [Act.put, List.setIfInBounds_toArray, List.set_cons_zero, List.set_cons_succ]
  refine planG_q (v := ?_) (by rfl) (B.out) ?_ ?_
  rotate_left
  · intro W hW
    go_simp
    with_reducible rfl
  simp only [Act.put, List.setIfInBounds_toArray, List.set_cons_zero, List.set_cons_succ]
  refine planG_q (v := ?_) (by rfl) (B.out) ?_ ?_
  rotate_left
  · intro W hW
    go_simp
    with_reducible rfl
  simp only [Act.put, List.setIfInBounds_toArray, List.set_cons_zero, List.set_cons_succ]
  refine planG_q (v := ?_) (by rfl) (B.out) ?_ ?_
  rotate_left
  · intro W hW
    go_simp
    with_reducible rfl
  simp only [Act.put, List.setIfInBounds_toArray, List.set_cons_zero, List.set_cons_succ]
  refine planG_t (by rfl) (fun K hK => ?_)
  go_simp
  generalize hM : Array.size (World.heap w1) = M
  generalize hw2 : World.drew (World.alloc w1 _) = w2
  have M2 := Lib.hid (show w2.heap[M]? = some (.cells (EntL (List.replicate 32 0) [] none 0 0).toArray 132 (0, 0)) by rw [← hw2]; exact ha_new w1 _ _ hM.symm)
  have B2 := Lib.hid (show Below w1.heap.size w1 w2 by rw [← hw2]; exact (below_new w1 _).trans (Below.refl _ _).drew)
  have ME := Lib.hid hM.symm
  clear hw2 hM
  refine hK.out _ _ (B2.out) ?_
  clear hK K
  refine planG_t (by rfl) (fun K hK => ?_)
  refine storeW_wp 132 (.tmp 10) (.tmp 41) rfl M cs rfl rfl _ _ M2.out (by rw [CS.out]; exact info_ent) (by rw [CS.out]; rfl) CO.out ?_
  intro w3 hr3 hg3 _
  have R3 := Lib.hid hr3
  have B3 := Lib.hid (B2.out.trans (grown_below hg3 B2.out.size (by rintro k ⟨⟩; rw [ME.out]; exact Nat.le_refl _)))
  have BW := Lib.hid (show Below w.heap.size w w3 from B1.out.trans (B3.out.mono B1.out.size))
  have M3 := Lib.hid (below_block B3.out (row_lt M1.out) M1.out)
  clear hr3 hg3
  refine hK.out _ _ (B3.out) ?_
  clear hK K
  refine planG_q (v := ?_) (by rfl) (B3.out) ?_ ?_
  rotate_left
  · intro W hW
    go_simp
    with_reducible rfl
  simp only [Act.put, List.setIfInBounds_toArray, List.set_cons_zero, List.set_cons_succ]
  refine planG_nil ?_
  cases β with
  | false =>
    have RN := Lib.hid (R0.out rfl)
    go_wp2_with fail
    go_ret2
    rw [RN.out]
    exact ⟨rfl, BW.out⟩
  | true =>
    have RN := Lib.hid (R1.out rfl)
    obtain ⟨δ, hδ⟩ : ∃ δ, δ = decide (e.key = k ∧ e.beside = bs) := ⟨_, rfl⟩
    have DE := Lib.hid hδ
    clear hδ
    cases δ with
    | false =>
      have RN := Lib.hid (show r = none by rw [RN.out, if_neg (of_decide_eq_false DE.out.symm)])
      go_upto_region 9 with (first
        | (refine wpList_valg (by rfl) (run_load_range 130 (.tmp 46) rfl M 0 rfl (WhoL e.key e.beside) (ent_who (by rw [← CE.out]; exact R3.out)) Tryz.underlying130 rfl (ZW.out _ _ K32.out)) ?_)
        | (refine wpList_valg (by rfl) (run_load_row 38 (.tmp 5) rfl w.heap.size rfl 38 (W8 k) (0, 0) _ M3.out Tryz.underlying38 rfl ZK.out) ?_)
        | (refine wpList_valg (by rfl) (run_str 22 9 (.tmp 49) rfl Tryz.underlying22 Tryz.underlying5 Tryz.underlying9 (RB.out.keep BW.out) qb cb HB.out rfl) ?_)
        | (refine wpList_valg (by rfl) (run_newwho (.tmp 48) (.tmp 50) rfl k bs HK.out rfl rfl _) ?_)
        | (refine wpList_valg (by rfl) (show (execOp _ _).run _ _ = .ok (.value (.bool (!false))) _ by rw [DE.out]; exact run_neq_who _ (.tmp 47) (.tmp 51) rfl e.key e.beside k bs K32.out HK.out rfl rfl _) ?_))
      go_wp2_with fail
      go_ret2
      rw [RN.out]
      exact ⟨rfl, BW.out⟩
    | true =>
      have RN := Lib.hid (show r = some e.text by rw [RN.out, if_pos (of_decide_eq_true DE.out.symm)])
      go_upto_region 10 with (first
        | (refine wpList_valg (by rfl) (run_load_range 130 (.tmp 46) rfl M 0 rfl (WhoL e.key e.beside) (ent_who (by rw [← CE.out]; exact R3.out)) Tryz.underlying130 rfl (ZW.out _ _ K32.out)) ?_)
        | (refine wpList_valg (by rfl) (run_load_row 38 (.tmp 5) rfl w.heap.size rfl 38 (W8 k) (0, 0) _ M3.out Tryz.underlying38 rfl ZK.out) ?_)
        | (refine wpList_valg (by rfl) (run_str 22 9 (.tmp 49) rfl Tryz.underlying22 Tryz.underlying5 Tryz.underlying9 (RB.out.keep BW.out) qb cb HB.out rfl) ?_)
        | (refine wpList_valg (by rfl) (run_newwho (.tmp 48) (.tmp 50) rfl k bs HK.out rfl rfl _) ?_)
        | (refine wpList_valg (by rfl) (show (execOp _ _).run _ _ = .ok (.value (.bool (!true))) _ by rw [DE.out]; exact run_neq_who _ (.tmp 47) (.tmp 51) rfl e.key e.beside k bs K32.out HK.out rfl rfl _) ?_))
      have c33 := row_cell R3.out 33 (show cs[33]? = some (.slice A' nt c') by rw [CE.out]; exact ent_text K32.out)
      go_wp2_with fail
      refine (clone_any w3 A' nt c' e.text NT.out (RE.out.keep BW.out) (by have := TE.out; omega)).mono ?_
      rintro e2 w4 ⟨v, rfl, ho, hb⟩
      have O := Lib.hid (ho.mono BW.out.size)
      have BB := Lib.hid (BW.out.trans (hb.mono BW.out.size))
      clear ho hb c33
      go_wp2_with fail
      go_ret2
      rw [RN.out]
      exact ⟨⟨v, rfl, O.out⟩, BB.out⟩
/-- Open, in both modes. -/
theorem bopen_any (w0 : World) (g S D b lo : Nat) (s : BSt) (w : World) (h : BoxB w0 g S D b lo s w) (hmo : s.mode = 0 ∨ s.mode = 1) (k bs x : List UInt8) (hk : k.length = 32) (Ab : Option Addr) (qb cb : Nat) (hqb : bs.length = qb) (hRb : RdB w Ab bs) (hb2 : qb ≤ 60000)
    (A : Option Addr) (q c : Nat) (hq : x.length = q) (hc : q ≤ c) (hR : RdB w A x) (hq2 : q ≤ 70000) (ht : ∀ p ∈ s.m, p.2.text.length ≤ 100000) :
    Calls Tryz.prog 36 #[.pointer (some ⟨g, 0, none⟩), .agg (W8 k), .slice Ab qb cb, .slice A q c] w (OpenP w (openS s k bs x)) := by
  rcases hmo with h0 | h1
  · exact bopen_real w0 g S D b lo s w h h0 k bs x hk Ab qb cb hqb hRb hb2 A q c hq hc hR hq2
  · exact bopen_ideal w0 g S D b lo s w h h1 k bs x hk Ab qb cb hqb hRb A q c hq hR (by omega) ht
end Go.Proofs.YtlocplkjokoknaaGreat

/- Plain laws on a text laid over the key's bytes: twice, the first bytes, from a later block on. No program. -/
namespace Go.Proofs.YtlocplkjokoknaaGreat
set_option linter.unusedVariables false
set_option linter.unusedSimpArgs false
open Go.RowKit

theorem streamL_getD (k n : List UInt8) (count : UInt32) (bs : List UInt8) (i : Nat) (hi : i < bs.length) : (streamL k n count bs).getD i 0 = bs.getD i 0 ^^^ keyByte k n count i := by
  rw [List.getD_eq_getElem?_getD, streamL_get _ _ _ _ _ hi]; rfl
theorem streamL_twice (k n : List UInt8) (count : UInt32) (bs : List UInt8) : streamL k n count (streamL k n count bs) = bs := by
  apply List.ext_getElem?
  intro i
  by_cases hi : i < bs.length
  · rw [streamL_get _ _ _ _ _ (by rw [streamL_length]; exact hi), streamL_getD _ _ _ _ _ hi, UInt8.xor_assoc, UInt8.xor_self, UInt8.xor_zero, List.getElem?_eq_getElem hi, List.getD_eq_getElem?_getD, List.getElem?_eq_getElem hi]
    rfl
  · rw [List.getElem?_eq_none (by rw [streamL_length, streamL_length]; omega), List.getElem?_eq_none (by omega)]
theorem streamL_take (k n : List UInt8) (count : UInt32) (bs : List UInt8) (m : Nat) : streamL k n count (bs.take m) = (streamL k n count bs).take m := by
  apply List.ext_getElem?
  intro i
  by_cases hi : i < (bs.take m).length
  · have hi' : i < bs.length ∧ i < m := by rw [List.length_take] at hi; omega
    rw [streamL_get _ _ _ _ _ hi, List.getElem?_take, if_pos hi'.2, streamL_get _ _ _ _ _ hi'.1]
    simp [List.getD_eq_getElem?_getD, List.getElem?_take, hi'.2]
  · rw [List.getElem?_eq_none (by rw [streamL_length]; omega), List.getElem?_eq_none (by rw [List.length_take, streamL_length]; rw [List.length_take] at hi; omega)]
theorem streamL_drop (k n : List UInt8) (count : UInt32) (bs : List UInt8) (q : Nat) : streamL k n (count + UInt32.ofNat q) (bs.drop (64 * q)) = (streamL k n count bs).drop (64 * q) := by
  apply List.ext_getElem?
  intro i
  by_cases hi : i < (bs.drop (64 * q)).length
  · have hi' : 64 * q + i < bs.length := by rw [List.length_drop] at hi; omega
    rw [streamL_get _ _ _ _ _ hi, List.getElem?_drop, streamL_get _ _ _ _ _ hi']
    congr 1
    have e1 : (bs.drop (64 * q)).getD i 0 = bs.getD (64 * q + i) 0 := by simp [List.getD_eq_getElem?_getD, List.getElem?_drop]
    have e2 : keyByte k n (count + UInt32.ofNat q) i = keyByte k n count (64 * q + i) := by
      unfold keyByte
      rw [show (64 * q + i) % 64 = i % 64 by omega, show (64 * q + i) / 64 = q + i / 64 by omega, UInt32.add_assoc]
      congr 3
      simp
    rw [e1, e2]
  · rw [List.getElem?_eq_none (by rw [streamL_length]; omega), List.getElem?_eq_none (by rw [List.length_drop, streamL_length]; rw [List.length_drop] at hi; omega)]
/-- .. its call, the answer told as a slice that is read. -/
theorem stream_read (k n : List UInt8) (hk : k.length = 32) (hn : n.length = 12) (count : UInt32) (w : World) (A : Option Addr) (m c : Nat) (bs : List UInt8) (hm : bs.length = m) (hR : RdB w A bs) (hlc : m ≤ c) (hb : m ≤ 70368744177664)
    (hlt : ∀ a, A = some a → a.block < w.heap.size) :
    Go.Calls Tryz.prog 81 #[.agg (W8 k), .agg (W8 n), .int .u32 (count.toNat : Int), .slice A m c] w fun e w' =>
      ∃ A' c', e = .returned (.slice A' m c') ∧ RdB w' A' (streamL k n count bs) ∧ m ≤ c' ∧ (∀ a, A' = some a → w.heap.size ≤ a.block ∧ a.block < w'.heap.size) ∧ Below w.heap.size w w' := by
  refine (stream_len k n hk hn count w A m c bs hm hR hlc hb hlt).mono ?_
  rintro e w' ⟨v, rfl, ho, hb⟩
  obtain ⟨A', c', rfl, hr, hl, _, hb2⟩ := ho.read
  rw [streamL_length, hm] at *
  exact ⟨A', c', rfl, hr, hl, hb2, hb⟩
end Go.Proofs.YtlocplkjokoknaaGreat

/- box.Box: Seal in both modes; plain facts of what is sealed. No condition but those each theorem states. -/
namespace Go.Proofs.YtlocplkjokoknaaGreat
set_option linter.unusedVariables false
set_option linter.unusedSimpArgs false
open Go.RowKit

/-- What is sealed, in both modes. -/
def SealR (s : BSt) (e : Ent) (s' : BSt) (r : Option (List UInt8)) : Prop :=
  (s.mode = 1 ∧ (s', r) = idealL 8 s e) ∨
  (s.mode = 0 ∧ r = some (realL s e.key e.beside e.text) ∧ s'.mode = 0 ∧ s'.F = s.F ∧ s'.u = s.u + 12 ∧ s'.n = s.n + 1 ∧ (∀ y, knownM s'.m y = (knownM s.m y || decide (y = realL s e.key e.beside e.text))) ∧ s'.m.length ≤ s.m.length + 1)
def SealP (w0 : World) (g S D b lo : Nat) (w : World) (s : BSt) (e : Ent) (en : Ending) (w' : World) : Prop :=
  ∃ A m c s' r, en = .returned (.tuple #[.slice A m c, .int .i64 (if r.isSome then 0 else 15)]) ∧ SealR s e s' r ∧ RdB w' A (r.getD []) ∧ (r.getD []).length = m ∧ m ≤ c ∧ (∀ a, A = some a → w.heap.size ≤ a.block ∧ a.block < w'.heap.size) ∧ BoxB w0 g S D b lo s' w' ∧ BoxF g S b w w'
theorem bseal_any (w0 : World) (g S D b lo : Nat) (s : BSt) (w : World) (h : BoxB w0 g S D b lo s w) (hmo : s.mode = 0 ∨ s.mode = 1) (e : Ent) (hk : e.key.length = 32) (Ab : Option Addr) (qb cb : Nat) (hqb : e.beside.length = qb) (hRb : RdB w Ab e.beside) (hb2 : qb ≤ 60000)
    (A : Option Addr) (q c : Nat) (hq : e.text.length = q) (hc : q ≤ c) (hR : RdB w A e.text) (hO : e.text ≠ [] → ∀ a, A = some a → a.block ≠ g ∧ a.block ≠ S ∧ a.block ≠ b)
    (hq2 : q ≤ 60000) (hu : s.u + 8 * (q + 28) ≤ 900000) (hF : s.F.length ≤ 100000) (hm : s.m.length ≤ 10000) (hn : s.n ≤ 100000) (hlo : lo ≤ w.heap.size) :
    Calls Tryz.prog 48 #[.pointer (some ⟨g, 0, none⟩), .agg (W8 e.key), .slice Ab qb cb, .slice A q c] w (SealP w0 g S D b lo w s e) := by
  rcases hmo with h0 | h1
  · refine (bseal_real w0 g S D b lo s w h h0 e hk Ab qb cb hqb hRb hb2 A q c hq hc hR hO hq2 (by omega) hF hm hn hlo).mono ?_
    rintro en w' ⟨A2, m2, c2, rfl, h1, h2, h3, h4, ⟨m', h5, h6, h7⟩, h8⟩
    exact ⟨A2, m2, c2, { s with u := s.u + 12, m := m', n := s.n + 1 }, some (realL s e.key e.beside e.text), rfl, .inr ⟨h0, rfl, h0, rfl, rfl, rfl, h6, h7⟩, h1, h2, h3, h4, h5, h8⟩
  · refine (bseal_ideal w0 g S D b lo s w h h1 e hk Ab qb cb hqb hRb hb2 A q c hq hc hR hO hq2 hu hF hm hn hlo).mono ?_
    rintro en w' ⟨A2, m2, c2, rfl, h2, h3, h4, h5, h6, h7⟩
    exact ⟨A2, m2, c2, (idealL 8 s e).1, (idealL 8 s e).2, rfl, .inl ⟨h1, rfl⟩, h2, h3, h4, h5, h6, h7⟩
/-- Open, in both modes. -/
theorem bopen_both (w0 : World) (g S D b lo : Nat) (s : BSt) (w : World) (h : BoxB w0 g S D b lo s w) (hmo : s.mode = 0 ∨ s.mode = 1) (k bs x : List UInt8) (hk : k.length = 32) (Ab : Option Addr) (qb cb : Nat) (hqb : bs.length = qb) (hRb : RdB w Ab bs) (hb2 : qb ≤ 60000)
    (A : Option Addr) (q c : Nat) (hq : x.length = q) (hc : q ≤ c) (hR : RdB w A x) (hq2 : q ≤ 70000) (ht : ∀ p ∈ s.m, s.mode = 1 → p.2.text.length ≤ 100000) :
    Calls Tryz.prog 36 #[.pointer (some ⟨g, 0, none⟩), .agg (W8 k), .slice Ab qb cb, .slice A q c] w (OpenP w (openS s k bs x)) := by
  rcases hmo with h0 | h1
  · exact bopen_real w0 g S D b lo s w h h0 k bs x hk Ab qb cb hqb hRb hb2 A q c hq hc hR hq2
  · exact bopen_ideal w0 g S D b lo s w h h1 k bs x hk Ab qb cb hqb hRb A q c hq hR (by omega) (fun p hp => ht p hp h1)
theorem openL_seal (k n b t : List UInt8) : openL k n b (sealL k n b t) = some t := by
  have hl : (sealL k n b t).length - 16 = (streamL k n 1 t).length := by rw [sealL_length, streamL_length]; omega
  have h1 : (sealL k n b t).take (streamL k n 1 t).length = streamL k n 1 t := by rw [sealL]; simp
  have h2 : (sealL k n b t).drop (streamL k n 1 t).length = tagL k n b (streamL k n 1 t) := by rw [sealL]; simp
  rw [openL, if_neg (by rw [sealL_length]; omega), hl, h1, h2, if_pos rfl, streamL_twice]
/-- Opened by the cipher. -/
theorem open_real (s : BSt) (hs : s.mode = 0) (s0 : BSt) (k bs t : List UInt8) (k2 bs2 : List UInt8) : openS s k2 bs2 (realL s0 k bs t) = openL k2 (tellS s0.F s0.u 12) bs2 (sealL k (tellS s0.F s0.u 12) bs t) := by
  have h1 : (realL s0 k bs t).take 12 = tellS s0.F s0.u 12 := by rw [realL, List.take_append_of_le_length (by rw [tellS_length]; exact Nat.le_refl _), List.take_of_length_le (by rw [tellS_length]; exact Nat.le_refl _)]
  have h2 : (realL s0 k bs t).drop 12 = sealL k (tellS s0.F s0.u 12) bs t := by rw [realL, List.drop_append_of_le_length (by rw [tellS_length]; exact Nat.le_refl _), List.drop_of_length_le (by rw [tellS_length]; exact Nat.le_refl _), List.nil_append]
  rw [openS, if_pos hs, if_neg (by rw [realL_length]; omega), h1, h2]
/-- What does not change, in both modes. -/
theorem idealL_mode (t : Nat) (s : BSt) (e : Ent) : (idealL t s e).1.mode = s.mode ∧ (idealL t s e).1.F = s.F ∧ (idealL t s e).1.u ≤ s.u + t * (e.text.length + 28) ∧ (idealL t s e).1.n ≤ s.n + 1 ∧ (idealL t s e).1.m.length ≤ s.m.length + 1 := by
  induction t generalizing s with
  | zero => simp [idealL]
  | succ t ih =>
    rw [idealL]
    have e1 : (t + 1) * (e.text.length + 28) = t * (e.text.length + 28) + (e.text.length + 28) := Nat.succ_mul _ _
    split
    · obtain ⟨h1, h2, h3, h4, h5⟩ := ih { s with u := s.u + (e.text.length + 28) }
      simp only at h1 h2 h3 h4 h5
      exact ⟨h1, h2, by omega, h4, h5⟩
    · simp only [List.length_append, List.length_cons, List.length_nil]
      exact ⟨trivial, trivial, by omega, by omega, by omega⟩
theorem SealR.mode {s s' : BSt} {e : Ent} {r : Option (List UInt8)} (h : SealR s e s' r) : s'.mode = s.mode ∧ s'.F = s.F ∧ s'.u ≤ s.u + 8 * (e.text.length + 28) ∧ s'.n ≤ s.n + 1 ∧ s'.m.length ≤ s.m.length + 1 := by
  rcases h with ⟨_, h⟩ | ⟨h0, h1, h2, h3, h4, h5, _, h6⟩
  · have h1 : s' = (idealL 8 s e).1 := by rw [← h]
    rw [h1]
    exact idealL_mode 8 s e
  · exact ⟨by omega, h3, by omega, by omega, h6⟩
/-- An ideal box: each try. -/
theorem idealL_some (t : Nat) (s : BSt) (e : Ent) (x : List UInt8) (h : (idealL t s e).2 = some x) : knownM s.m x = false ∧ x.length = e.text.length + 28 ∧ (idealL t s e).1.m = s.m ++ [(x, e)] ∧ (idealL t s e).1.n = s.n + 1 := by
  induction t generalizing s with
  | zero => simp [idealL] at h
  | succ t ih =>
    rw [idealL] at h ⊢
    split at h
    · rename_i hk
      rw [if_pos hk]
      exact ih { s with u := s.u + (e.text.length + 28) } h
    · rename_i hk
      rw [if_neg hk]
      simp only [Option.some.injEq] at h
      subst h
      exact ⟨by simpa using hk, tellS_length _ _ _, rfl, rfl⟩
theorem lookM_append {m : List (List UInt8 × Ent)} {x : List UInt8} {e : Ent} (h : knownM m x = false) : lookM (m ++ [(x, e)]) x = some e := by
  have h1 : m.find? (fun p => decide (p.1 = x)) = none := by
    rw [List.find?_eq_none]
    intro p hp
    simpa using not_known h p hp
  simp [lookM, List.find?_append, h1]
end Go.Proofs.YtlocplkjokoknaaGreat

/- box.Box: two of them side by side. No condition but those each theorem states. -/
namespace Go.Proofs.YtlocplkjokoknaaGreat
set_option linter.unusedVariables false
set_option linter.unusedSimpArgs false
open Go.RowKit

theorem Src.same {g D : Nat} {F : List UInt8} {u : Nat} {b : Bool} {W W' : World} (h : Src g D F u b W) (hsz : W.heap.size ≤ W'.heap.size) (hg : W'.heap[g]? = W.heap[g]?) (hD : W'.heap[D]? = W.heap[D]?) : Src g D F u b W' := by
  obtain ⟨A, c, seed, begun, bk, held, blk, h1, h2, h3, h4, h5⟩ := h.has
  refine ⟨A, c, seed, begun, bk, held, blk, hg.trans h1, h2, fun j hj => ?_, fun a e => ⟨(h4 a e).1, Nat.lt_of_lt_of_le (h4 a e).2.1 hsz, (h4 a e).2.2⟩, h5⟩
  obtain ⟨k, o, e, hc⟩ := h3 j hj
  have hk : k = D := (h4 _ e).2.2
  refine ⟨k, o, e, ?_⟩
  rw [← hc]
  simp only [World.cell?, hk, hD]
theorem EntR.boxF {lo g S b : Nat} {W W' : World} {x : MapEntry} {p : List UInt8 × Ent} (h : EntR lo W x p) (hf : BoxF g S b W W') (hl : g < lo ∧ S < lo ∧ b < lo) : EntR lo W' x p := by
  obtain ⟨h1, A, c, h2, h3, h4, h5, h6⟩ := h
  exact ⟨h1, A, c, h2, h3.boxF hf (fun _ a e => ⟨by have := (h6 a e).2.1; omega, by have := (h6 a e).2.1; omega, by have := (h6 a e).2.1; omega⟩), h4, h5, fun a e => ⟨Nat.lt_of_lt_of_le (h6 a e).1 hf.1, (h6 a e).2.1, (h6 a e).2.2.same (hf.2 _ (h6 a e).1 (by have := (h6 a e).2.1; omega) (by have := (h6 a e).2.1; omega) (by have := (h6 a e).2.1; omega))⟩⟩
/-- Another box than the one that was worked with is as it was. -/
theorem BoxB.other {w0 : World} {g S D b lo g1 S1 b1 : Nat} {s : BSt} {W W' : World} (h : BoxB w0 g S D b lo s W) (hf : BoxF g1 S1 b1 W W') (hb : Below w0.heap.size w0 W')
    (ng : g ≠ g1 ∧ g ≠ S1 ∧ g ≠ b1) (nS : S ≠ g1 ∧ S ≠ S1 ∧ S ≠ b1) (nD : D ≠ g1 ∧ D ≠ S1 ∧ D ≠ b1) (nb : b ≠ g1 ∧ b ≠ S1 ∧ b ≠ b1) (hl : g1 < lo ∧ S1 < lo ∧ b1 < lo) : BoxB w0 g S D b lo s W' := by
  have e1 : ∀ k, k < W.heap.size → k ≠ g1 → k ≠ S1 → k ≠ b1 → W'.heap[k]? = W.heap[k]? := hf.2
  obtain ⟨es, clock, m1, m2, m3⟩ := h.map.has
  exact ⟨hb, h.hg, h.hS, h.hD, h.hb, (e1 g (row_lt h.row) ng.1 ng.2.1 ng.2.2).trans h.row, h.src.same hf.1 (e1 S h.src.lt nS.1 nS.2.1 nS.2.2) (e1 D h.ltD nD.1 nD.2.1 nD.2.2), Nat.lt_of_lt_of_le h.ltD hf.1,
    ⟨⟨es, clock, (e1 b h.map.lt nb.1 nb.2.1 nb.2.2).trans m1, m2, m3.mono fun x p hx => hx.boxF hf hl⟩, h.map.small, h.map.low⟩, h.gS, h.gD, h.gb, h.Sb, h.Db, h.lg, h.lS, h.few⟩
/-- What an empty box will hold may lie later. -/
theorem BoxB.raise {w0 : World} {g S D b lo lo' : Nat} {s : BSt} {W : World} (h : BoxB w0 g S D b lo s W) (hm : s.m = []) (hl : lo ≤ lo') : BoxB w0 g S D b lo' s W := by
  obtain ⟨es, clock, m1, m2, m3⟩ := h.map.has
  have hes : es.toList = [] := by
    rw [hm] at m3
    cases hq : es.toList with
    | nil => rfl
    | cons x xs => rw [hq] at m3; cases m3
  refine ⟨h.bel, h.hg, h.hS, h.hD, h.hb, h.row, h.src, h.ltD, ⟨⟨es, clock, m1, m2, ?_⟩, h.map.small, Nat.lt_of_lt_of_le h.map.low hl⟩, h.gS, h.gD, h.gb, h.Sb, h.Db, Nat.lt_of_lt_of_le h.lg hl, Nat.lt_of_lt_of_le h.lS hl, h.few⟩
  rw [hes, hm]
  exact .nil
/-- The blocks of a box lie below. -/
theorem BoxB.lt {w0 : World} {g S D b lo : Nat} {s : BSt} {W : World} (h : BoxB w0 g S D b lo s W) : g < W.heap.size ∧ S < W.heap.size ∧ D < W.heap.size ∧ b < W.heap.size := ⟨row_lt h.row, h.src.lt, h.ltD, h.map.lt⟩
/-- Seen from an older world. -/
theorem BoxB.rebase {w0 w1 : World} {g S D b lo : Nat} {s : BSt} {W : World} (h : BoxB w1 g S D b lo s W) (hb : Below w0.heap.size w0 w1) : BoxB w0 g S D b lo s W :=
  have z := hb.size
  ⟨hb.trans (h.bel.mono z), Nat.le_trans z h.hg, Nat.le_trans z h.hS, Nat.le_trans z h.hD, Nat.le_trans z h.hb, h.row, h.src, h.ltD, h.map, h.gS, h.gD, h.gb, h.Sb, h.Db, h.lg, h.lS, h.few⟩
theorem SrcW.new {W W' : World} {g D : Nat} {F : List UInt8} (h1 : W.heap.size ≤ g) (h2 : D < W'.heap.size) (h3 : W.heap.size ≤ D) (h4 : Src g D F 0 true W') (h5 : Below W.heap.size W W') : SrcW W g D F 0 W' := ⟨h5, h1, h3, h2, h4⟩
end Go.Proofs.YtlocplkjokoknaaGreat

/- No window of some bytes stands twice in a text: told by a tree that is built of all of them. No condition but those each theorem states. -/
namespace Go.Proofs.YtlocplkjokoknaaGreat
set_option linter.unusedVariables false
set_option linter.unusedSimpArgs false

/-! ### A tree of numbers -/
inductive Tr where
  | nil : Tr
  | nd : Tr → Nat → Tr → Tr
def Tr.ins (x : Nat) : Tr → Option Tr
  | .nil => some (.nd .nil x .nil)
  | .nd l y r => if Nat.blt x y then (l.ins x).map (fun l' => .nd l' y r) else if Nat.blt y x then (r.ins x).map (fun r' => .nd l y r') else none
def Tr.mem (z : Nat) : Tr → Prop
  | .nil => False
  | .nd l y r => z = y ∨ l.mem z ∨ r.mem z
def Tr.ok : Tr → Prop
  | .nil => True
  | .nd l y r => l.ok ∧ r.ok ∧ (∀ z, l.mem z → z < y) ∧ (∀ z, r.mem z → y < z)
theorem Tr.ins_spec (x : Nat) : ∀ (t t' : Tr), t.ok → t.ins x = some t' → t'.ok ∧ (∀ z, t'.mem z ↔ z = x ∨ t.mem z) ∧ ¬ t.mem x
  | .nil, t', _, h => by
    simp only [Tr.ins, Option.some.injEq] at h
    subst h
    simp [Tr.ok, Tr.mem]
  | .nd l y r, t', hok, h => by
    obtain ⟨h1, h2, h3, h4⟩ := hok
    simp only [Tr.ins, Nat.blt_eq] at h
    split at h
    · rename_i hlt
      obtain ⟨l', hl, rfl⟩ := Option.map_eq_some_iff.1 h
      obtain ⟨a, b, c⟩ := Tr.ins_spec x l l' h1 hl
      refine ⟨⟨a, h2, fun z hz => ?_, h4⟩, fun z => ?_, ?_⟩
      · rcases (b z).1 hz with rfl | hz
        · exact hlt
        · exact h3 z hz
      · simp only [Tr.mem, b z]
        constructor
        · rintro (h | (h | h) | h)
          · exact .inr (.inl h)
          · exact .inl h
          · exact .inr (.inr (.inl h))
          · exact .inr (.inr (.inr h))
        · rintro (h | h | h | h)
          · exact .inr (.inl (.inl h))
          · exact .inl h
          · exact .inr (.inl (.inr h))
          · exact .inr (.inr h)
      · rintro (h | h | h)
        · omega
        · exact c h
        · have := h4 x h; omega
    · rename_i hge
      split at h
      · rename_i hlt
        obtain ⟨r', hl, rfl⟩ := Option.map_eq_some_iff.1 h
        obtain ⟨a, b, c⟩ := Tr.ins_spec x r r' h2 hl
        refine ⟨⟨h1, a, h3, fun z hz => ?_⟩, fun z => ?_, ?_⟩
        · rcases (b z).1 hz with rfl | hz
          · exact hlt
          · exact h4 z hz
        · simp only [Tr.mem, b z]
          constructor
          · rintro (h | h | h | h)
            · exact .inr (.inl h)
            · exact .inr (.inr (.inl h))
            · exact .inl h
            · exact .inr (.inr (.inr h))
          · rintro (h | h | h | h)
            · exact .inr (.inr (.inl h))
            · exact .inl h
            · exact .inr (.inl h)
            · exact .inr (.inr (.inr h))
        · rintro (h | h | h)
          · omega
          · have := h3 x h; omega
          · exact c h
      · cases h
def insAll : List Nat → Tr → Option Tr
  | [], t => some t
  | x :: l, t => (t.ins x).bind (insAll l)
theorem insAll_spec : ∀ (l : List Nat) (t t' : Tr), t.ok → insAll l t = some t' → l.Nodup ∧ ∀ x ∈ l, ¬ t.mem x
  | [], _, _, _, _ => by simp
  | x :: l, t, t', hok, h => by
    simp only [insAll, Option.bind_eq_some_iff] at h
    obtain ⟨u, hu, h⟩ := h
    obtain ⟨a, b, c⟩ := Tr.ins_spec x t u hok hu
    obtain ⟨d, e⟩ := insAll_spec l u t' a h
    refine ⟨List.nodup_cons.2 ⟨fun hx => e x hx ((b x).2 (.inl rfl)), d⟩, fun z hz => ?_⟩
    rcases List.mem_cons.1 hz with rfl | hz
    · exact c
    · exact fun hm => e z hz ((b z).2 (.inr hm))
/-! ### The windows -/
def valO : Nat → List Nat → Nat
  | a, [] => a
  | a, c :: l => valO (a * 256 + c) l
/-- Each place's last bytes, as a number. -/
def wins (B : Nat) : Nat → List Nat → List Nat
  | _, [] => []
  | w, c :: l => (w * 256 + c) % B :: wins B ((w * 256 + c) % B) l
theorem valO_mod (B : Nat) (l : List Nat) : ∀ a, valO (a % B) l % B = valO a l % B := by
  induction l with
  | nil => intro a; simp [valO]
  | cons c l ih =>
    intro a
    simp only [valO]
    rw [← ih (a % B * 256 + c), ← ih (a * 256 + c)]
    have e : (a % B * 256 + c) % B = (a * 256 + c) % B := by
      rw [Nat.add_mod (a % B * 256), Nat.add_mod (a * 256), Nat.mul_mod (a % B), Nat.mod_mod, ← Nat.mul_mod]
    rw [e]
theorem wins_length (B : Nat) (l : List Nat) : ∀ w, (wins B w l).length = l.length := by
  induction l with
  | nil => intro w; rfl
  | cons c l ih => intro w; simp [wins, ih]
theorem wins_get (B : Nat) (l : List Nat) : ∀ (w u : Nat), u < l.length → (wins B w l)[u]? = some (valO w (l.take (u + 1)) % B) := by
  induction l with
  | nil => intro w u h; simp at h
  | cons c l ih =>
    intro w u h
    cases u with
    | zero => simp [wins, valO]
    | succ u =>
      simp only [wins, List.getElem?_cons_succ, List.take_succ_cons, valO]
      rw [ih _ u (by simpa using h), valO_mod]
theorem valO_app (l l' : List Nat) : ∀ a, valO a (l ++ l') = valO (valO a l) l' := by
  induction l with
  | nil => intro a; rfl
  | cons c l ih => intro a; simp [valO, ih]
theorem valO_low (l : List Nat) : ∀ a, valO a l % 256 ^ l.length = valO 0 l % 256 ^ l.length := by
  have key : ∀ (l : List Nat) a, valO a l = a * 256 ^ l.length + valO 0 l := by
    intro l
    induction l with
    | nil => intro a; simp [valO]
    | cons c l ih =>
      intro a
      simp only [valO, List.length_cons]
      rw [ih (a * 256 + c), ih (0 * 256 + c), Nat.add_mul, Nat.pow_succ, Nat.mul_assoc a 256, Nat.mul_comm 256 (256 ^ l.length)]
      simp only [Nat.zero_mul, Nat.zero_add]
      omega
  intro a
  rw [key l a, Nat.add_comm, Nat.add_mul_mod_self_right]
/-- A text of bytes as numbers. -/
def natT (T : List UInt8) : List Nat := T.map (·.toNat)
theorem valO_inj : ∀ (l l' : List UInt8), l.length = l'.length → valO 0 (natT l) = valO 0 (natT l') → l = l' := by
  have lt : ∀ (l : List UInt8), valO 0 (natT l) < 256 ^ l.length := by
    intro l
    have h : ∀ (l : List UInt8) (a b : Nat), a < b → valO a (natT l) < b * 256 ^ l.length := by
      intro l
      induction l with
      | nil => intro a b h; simpa [natT, valO] using h
      | cons c l ih =>
        intro a b h
        have hc := c.toNat_lt
        have h1 : a * 256 + c.toNat < b * 256 := by omega
        have := ih _ _ h1
        simp only [natT, List.map_cons, valO, List.length_cons, Nat.pow_succ] at this ⊢
        rw [Nat.mul_comm (256 ^ l.length) 256, ← Nat.mul_assoc]
        exact this
    simpa using h l 0 1 (by omega)
  have key : ∀ (l : List Nat) a, valO a l = a * 256 ^ l.length + valO 0 l := by
    intro l
    induction l with
    | nil => intro a; simp [valO]
    | cons c l ih =>
      intro a
      simp only [valO, List.length_cons]
      rw [ih (a * 256 + c), ih (0 * 256 + c), Nat.add_mul, Nat.pow_succ, Nat.mul_assoc a 256, Nat.mul_comm 256 (256 ^ l.length)]
      simp only [Nat.zero_mul, Nat.zero_add]
      rw [Nat.add_assoc]
  intro l
  induction l with
  | nil =>
    intro l' h _
    exact (List.eq_nil_of_length_eq_zero (by simpa using h.symm)).symm
  | cons c l ih =>
    intro l' h hv
    cases l' with
    | nil => simp at h
    | cons c' l' =>
      have hl : l.length = l'.length := by simpa using h
      have e1 : valO 0 (natT (c :: l)) = c.toNat * 256 ^ l.length + valO 0 (natT l) := by
        show valO (0 * 256 + c.toNat) (natT l) = _
        rw [key]
        simp [natT]
      have e2 : valO 0 (natT (c' :: l')) = c'.toNat * 256 ^ l.length + valO 0 (natT l') := by
        show valO (0 * 256 + c'.toNat) (natT l') = _
        rw [key, hl]
        simp [natT]
      rw [e1, e2] at hv
      have b1 := lt l
      have b2 := lt l'
      rw [← hl] at b2
      have hp : 0 < 256 ^ l.length := Nat.pos_of_ne_zero (by intro h0; rw [h0] at b1; omega)
      have hc : c.toNat = c'.toNat := by
        have h1 : (c.toNat * 256 ^ l.length + valO 0 (natT l)) / 256 ^ l.length = c.toNat := by
          rw [Nat.mul_comm, Nat.mul_add_div hp, Nat.div_eq_of_lt b1, Nat.add_zero]
        have h2 : (c'.toNat * 256 ^ l.length + valO 0 (natT l')) / 256 ^ l.length = c'.toNat := by
          rw [Nat.mul_comm, Nat.mul_add_div hp, Nat.div_eq_of_lt b2, Nat.add_zero]
        rw [← h1, ← h2, hv]
      have hcc : c = c' := UInt8.toNat_inj.1 hc
      rw [hc] at hv
      have hv2 : valO 0 (natT l) = valO 0 (natT l') := Nat.add_left_cancel hv
      rw [hcc, ih l' hl hv2]
/-- Built of all windows of k bytes: no two of them are alike. -/
theorem once {T : List UInt8} {k : Nat} {t : Tr} (h : insAll (wins (256 ^ (k + 1)) (valO 0 (natT (T.take k))) (natT (T.drop k))) .nil = some t) (u v : Nat) (hu : u + (k + 1) ≤ T.length) (hv : v + (k + 1) ≤ T.length) (he : (T.drop u).take (k + 1) = (T.drop v).take (k + 1)) : u = v := by
  have hn := (insAll_spec _ _ _ (by trivial) h).1
  have val : ∀ u, u + (k + 1) ≤ T.length → (wins (256 ^ (k + 1)) (valO 0 (natT (T.take k))) (natT (T.drop k)))[u]? = some (valO 0 (natT ((T.drop u).take (k + 1))) % 256 ^ (k + 1)) := by
    intro u hu
    have hl : u < (natT (T.drop k)).length := by simp [natT]; omega
    rw [wins_get _ _ _ u hl]
    have e1 : valO (valO 0 (natT (T.take k))) ((natT (T.drop k)).take (u + 1)) = valO 0 (natT (T.take (k + (u + 1)))) := by
      rw [← valO_app]
      congr 1
      simp only [natT]
      rw [← List.map_take, ← List.map_append, ← List.take_add]
    have e2 : T.take (k + (u + 1)) = T.take u ++ (T.drop u).take (k + 1) := by
      rw [show k + (u + 1) = u + (k + 1) by omega, List.take_add]
    rw [e1, e2]
    have e3 : natT (T.take u ++ (T.drop u).take (k + 1)) = natT (T.take u) ++ natT ((T.drop u).take (k + 1)) := by simp [natT]
    have e4 : (natT ((T.drop u).take (k + 1))).length = k + 1 := by simp [natT]; omega
    rw [e3, valO_app]
    have := valO_low (natT ((T.drop u).take (k + 1))) (valO 0 (natT (T.take u)))
    rw [e4] at this
    rw [this]
  have h1 := val u hu
  have h2 := val v hv
  rw [← he] at h2
  have l1 := (List.getElem?_eq_some_iff.1 h1).1
  rw [← h2] at h1
  exact (List.getElem?_inj l1 hn).1 h1
/-- .. told by a source whose bytes they are. -/
theorem told_once {F T : List UInt8} (hT : ∀ i, i < T.length → byteS F i = T.getD i 0) {k : Nat} {t : Tr} (h : insAll (wins (256 ^ (k + 1)) (valO 0 (natT (T.take k))) (natT (T.drop k))) .nil = some t)
    (u v n : Nat) (hn : k + 1 ≤ n) (hu : u + n ≤ T.length) (hv : v + n ≤ T.length) (he : tellS F u n = tellS F v n) : u = v := by
  have cut : ∀ u, u + n ≤ T.length → (tellS F u n).take (k + 1) = (T.drop u).take (k + 1) := by
    intro u hu
    apply List.ext_getElem
    · rw [List.length_take, tellS_length, List.length_take, List.length_drop]; omega
    · intro i h1 h2
      rw [List.length_take, tellS_length] at h1
      simp only [List.getElem_take, List.getElem_drop, tellS, List.getElem_map, List.getElem_range]
      rw [hT (u + i) (by omega)]
      simp [List.getD_eq_getElem?_getD, show u + i < T.length by omega]
  exact once h u v (by omega) (by omega) (by rw [← cut u hu, ← cut v hv, he])
theorem flat_get : ∀ (B : List (List UInt8)), (∀ b ∈ B, b.length = 32) → ∀ i, i / 32 < B.length → (B.flatten)[i]?.getD 0 = (B.getD (i / 32) []).getD (i % 32) 0
  | [], _, i, h => by simp at h
  | b :: B, hb, i, h => by
    have hb32 : b.length = 32 := hb b (by simp)
    rw [List.flatten_cons]
    by_cases hi : i < 32
    · rw [List.getElem?_append_left (by omega), Nat.div_eq_of_lt hi, Nat.mod_eq_of_lt hi]
      simp [List.getD_eq_getElem?_getD]
    · rw [List.getElem?_append_right (by omega), hb32]
      have h1 : i / 32 = (i - 32) / 32 + 1 := by omega
      have h2 : i % 32 = (i - 32) % 32 := by omega
      rw [h1, h2, flat_get B (fun x hx => hb x (by simp [hx])) (i - 32) (by rw [h1] at h; simpa using h)]
      simp [List.getD_eq_getElem?_getD]
end Go.Proofs.YtlocplkjokoknaaGreat

/- The address of an element of a slice of structs. No condition. -/
namespace Go.Proofs.YtlocplkjokoknaaGreat
set_option linter.unusedVariables false
set_option linter.unusedSimpArgs false
open Go.RowKit

/-- The address of an element of a slice, the elements of sz cells each. -/
theorem run_iaddr_slk {P : Program} {o : Oper} {a : Act} (t : TypeId) (x i : Operand) (ho : o.op = .indexAddr t x i) (e : Nat) (ht : P.underlying t = some (.slice e)) (sz : Nat) (hi : (P.info? e).map (·.size) = some sz)
    (b off n c j : Nat) (hj : j < n) (k : IntKind) (z : Int) (hz : z = (j : Int)) (hx : a.eval x = .slice (some ⟨b, off, none⟩) n c) (hii : a.eval i = .int k z) (W : World) : (execOp a.eval o).run P W = .ok (.value (.pointer (some ⟨b, off + j * sz, none⟩))) W := by
  subst hz
  obtain ⟨ti, hti, hsz⟩ := Option.map_eq_some_iff.1 hi
  have hel : P.elem t = e := by simp [Program.elem, ht]
  have h := run_indexAt_slice W t ⟨b, off, none⟩ n c k (j : Int) (P := P) (by rw [hel]; exact ht)
  unfold execOp
  simp only [ho, hx, hii, Sem.run_bind, Sem.run_pure, h, hel]
  rw [if_pos ⟨by omega, by omega⟩]
  simp [sizeOf, typeInfo, hti, hsz, Result.andThen, add_at]
end Go.Proofs.YtlocplkjokoknaaGreat

/- box.Box: what Ring asks of it beside its contracts: keys of one byte, two ideal boxes in lockstep, sealed texts that are not told twice, slices of sealed texts. No condition but those each theorem states. -/
namespace Go.Proofs.YtlocplkjokoknaaGreat
set_option linter.unusedVariables false
set_option linter.unusedSimpArgs false
open Go.RowKit
attribute [local go_sem ↓] Go.wp_at_zero Go.wp_at_succ

theorem OpenP.yes {w : World} {t : List UInt8} {e : Ending} {w' : World} (h : OpenP w (some t) e w') : (∃ v, e = .returned (.tuple #[v, .bool true]) ∧ OwnB w' w.heap.size v t) ∧ Below w.heap.size w w' := h
theorem OpenP.no {w : World} {e : Ending} {w' : World} (h : OpenP w none e w') : e = .returned (.tuple #[.slice none 0 0, .bool false]) ∧ Below w.heap.size w w' := h
/-- A key of which only the first byte is not zero. -/
def keyK (x : UInt8) : List UInt8 := [x, 0, 0, 0, 0, 0, 0, 0, 0, 0, 0, 0, 0, 0, 0, 0, 0, 0, 0, 0, 0, 0, 0, 0, 0, 0, 0, 0, 0, 0, 0, 0]
theorem run_keyK {o : Oper} {a : Act} (y : Operand) (ho : o.op = .build 38 #[(0, y)]) (x : UInt8) (hy : a.eval y = .int .u8 (x.toNat : Int)) (W : World) : (execOp a.eval o).run Tryz.prog W = .ok (.value (.agg (W8 (keyK x)))) W := by
  have h2 : ∀ (z : Int) (W : World), (Instr.build 38 #[(0, .int .u8 z)]).run Tryz.prog W = .ok (.agg #[.int .u8 z, .int .u8 0, .int .u8 0, .int .u8 0, .int .u8 0, .int .u8 0, .int .u8 0, .int .u8 0, .int .u8 0, .int .u8 0, .int .u8 0, .int .u8 0, .int .u8 0, .int .u8 0, .int .u8 0, .int .u8 0, .int .u8 0, .int .u8 0, .int .u8 0, .int .u8 0, .int .u8 0, .int .u8 0, .int .u8 0, .int .u8 0, .int .u8 0, .int .u8 0, .int .u8 0, .int .u8 0, .int .u8 0, .int .u8 0, .int .u8 0, .int .u8 0]) W := by
    intro z W
    kernel_rfl
  unfold execOp
  simp only [ho, List.map_toArray, List.map_cons, List.map_nil, hy, Sem.run_bind, h2, Result.andThen_ok, Sem.run_pure]
  rfl
theorem cv_at {w : World} {C : Array Value} (g n c : Nat) (hg : g = w.heap.size) :
    (convert 22 22 (.slice (some ⟨g, 0, none⟩) n c)).run Tryz.prog (w.alloc (.cells C 5)) = .ok (.slice (some ⟨g, 0, none⟩) n c) (w.alloc (.cells C 5 (C.size, C.size + 1))) := by
  subst hg
  exact Lib.run_convert_bytes_const w 22 5 C n c Tryz.underlying22 Tryz.underlying5
/-- Alike but for what was sealed by whom. -/
def AlikeB (s s' : BSt) : Prop := s.mode = s'.mode ∧ s.F = s'.F ∧ s.u = s'.u ∧ s.n = s'.n ∧ s.m.map (·.1) = s'.m.map (·.1)
theorem knownM_keys (l : List (List UInt8 × Ent)) (y : List UInt8) : knownM l y = (l.map (·.1)).any fun p => decide (p = y) := by simp [knownM, List.any_map, Function.comp_def]
theorem idealL_alike (t : Nat) (s s' : BSt) (e e' : Ent) (h : AlikeB s s') (he : e.text.length = e'.text.length) : (idealL t s e).2 = (idealL t s' e').2 ∧ AlikeB (idealL t s e).1 (idealL t s' e').1 := by
  induction t generalizing s s' with
  | zero => exact ⟨rfl, h⟩
  | succ t ih =>
    obtain ⟨h1, h2, h3, h4, h5⟩ := h
    rw [idealL, idealL, ← he, ← h2, ← h3, knownM_keys s.m, knownM_keys s'.m, ← h5]
    split
    · exact ih _ _ ⟨h1, rfl, rfl, h4, h5⟩
    · refine ⟨rfl, h1, rfl, rfl, ?_, ?_⟩
      · simp only [h4]
      · simp [h5]
theorem SealR.ideal {s s' : BSt} {e : Ent} {r : Option (List UInt8)} (h : SealR s e s' r) (hm : s.mode = 1) : s' = (idealL 8 s e).1 ∧ r = (idealL 8 s e).2 := by
  rcases h with ⟨_, h⟩ | ⟨h0, _⟩
  · exact ⟨by rw [← h], by rw [← h]⟩
  · omega
theorem sealR_alike {s1 s2 s1' s2' : BSt} {e1 e2 : Ent} {r1 r2 : Option (List UInt8)} (h1 : SealR s1 e1 s1' r1) (h2 : SealR s2 e2 s2' r2) (hm : s1.mode = 1) (h : AlikeB s1 s2) (he : e1.text.length = e2.text.length) : r1 = r2 ∧ AlikeB s1' s2' := by
  obtain ⟨a1, b1⟩ := h1.ideal hm
  obtain ⟨a2, b2⟩ := h2.ideal (h.1 ▸ hm)
  rw [a1, b1, a2, b2]
  exact idealL_alike 8 s1 s2 e1 e2 h he
theorem own_block {w : World} {base : Nat} {v : Value} {l : List UInt8} (h : OwnB w base v l) (hl : l ≠ []) :
    ∃ g cap cur, v = .slice (some ⟨g, 0, none⟩) l.length cap ∧ base ≤ g ∧ w.heap[g]? = some (.cells cur 5 (0, 0)) ∧ l.length ≤ cap ∧ RdB w (some ⟨g, 0, none⟩) l := by
  have h' := h
  rcases h'.2 with ⟨hv, hn⟩ | ⟨g, cap, cur, hv, hb, hh, hnc, hcm, hcs, _⟩
  · exact absurd (List.eq_nil_of_length_eq_zero hn) hl
  · refine ⟨g, cap, cur, hv, hb, hh, hnc, fun j hj => ⟨g, 0, rfl, ?_⟩⟩
    have := h.cells (g := g) (by rw [hv]; rfl) j _ (B8_get l j hj)
    rwa [add_at] at this
theorem RdB.set {w : World} {g : Nat} {l : List UInt8} (h : RdB w (some ⟨g, 0, none⟩) l) (i : Nat) (hi : i < l.length) (y : UInt8) : RdB (w.setCell ⟨g, i, none⟩ (.int .u8 (y.toNat : Int))) (some ⟨g, 0, none⟩) (l.set i y) := by
  intro j hj
  rw [List.length_set] at hj
  refine ⟨g, 0, rfl, ?_⟩
  obtain ⟨b, o, e, hc⟩ := h j hj
  cases e
  obtain ⟨b', o', e', hci⟩ := h i hi
  cases e'
  rw [Nat.zero_add] at hc hci ⊢
  by_cases hij : i = j
  · subst hij
    rw [World.cell?_setCell_same _ _ _ (by rw [hci])]
    simp [List.getD_eq_getElem?_getD, hi]
  · rw [World.cell?_setCell_other _ _ _ _ (by simp <;> omega), hc]
    simp [List.getD_eq_getElem?_getD, List.getElem?_set, hij]
theorem cell_same {W W' : World} {b o : Nat} {v : Value} (h : W.cell? ⟨b, o, none⟩ = some v) (hw : W'.heap[b]? = W.heap[b]?) : W'.cell? ⟨b, o, none⟩ = some v := by
  rw [← h]
  simp only [World.cell?, hw]
theorem cell_lt {W : World} {b o : Nat} {v : Value} (h : W.cell? ⟨b, o, none⟩ = some v) : b < W.heap.size := by
  rcases Nat.lt_or_ge b W.heap.size with hb | hb
  · exact hb
  · unfold World.cell? at h
    rw [Array.getElem?_eq_none hb] at h
    simp at h
/-- What was sealed are windows of what was told. -/
def WinB (s : BSt) : Prop := ∀ p ∈ s.m, ∃ v, p.1 = tellS s.F v p.1.length ∧ v + p.1.length ≤ s.u ∧ 28 ≤ p.1.length
/-- No window of at least 28 bytes is told twice. -/
def OnceS (F : List UInt8) (N : Nat) : Prop := ∀ u v n, 28 ≤ n → u + n ≤ N → v + n ≤ N → tellS F u n = tellS F v n → u = v
theorem fresh_ideal {N : Nat} (s : BSt) (e : Ent) (ho : OnceS s.F N) (hw : WinB s) (hN : s.u + (e.text.length + 28) ≤ N) :
    idealL 8 s e = ({ s with u := s.u + (e.text.length + 28), m := s.m ++ [(tellS s.F s.u (e.text.length + 28), e)], n := s.n + 1 }, some (tellS s.F s.u (e.text.length + 28))) ∧ WinB { s with u := s.u + (e.text.length + 28), m := s.m ++ [(tellS s.F s.u (e.text.length + 28), e)], n := s.n + 1 } ∧ knownM s.m (tellS s.F s.u (e.text.length + 28)) = false := by
  have hk : knownM s.m (tellS s.F s.u (e.text.length + 28)) = false := by
    simp only [knownM, List.any_eq_false, decide_eq_true_eq]
    intro p hp heq
    obtain ⟨v, h1, h2, h3⟩ := hw p hp
    have hl : p.1.length = e.text.length + 28 := by rw [heq, tellS_length]
    rw [hl] at h1 h2
    rw [heq] at h1
    have := ho _ _ _ (by omega) hN (by omega) h1
    omega
  refine ⟨?_, ?_, hk⟩
  · rw [show (8 : Nat) = 7 + 1 from rfl, idealL, hk]
    rfl
  · intro p hp
    rcases List.mem_append.mp hp with hp | hp
    · obtain ⟨v, h1, h2, h3⟩ := hw p hp
      exact ⟨v, h1, by show _ ≤ s.u + (e.text.length + 28); omega, h3⟩
    · simp only [List.mem_cons, List.mem_nil_iff, or_false] at hp
      rw [hp]
      refine ⟨s.u, ?_, ?_, ?_⟩ <;> simp only [tellS_length]
      · exact Nat.le_refl _
      · omega
/-- What was sealed so, in both modes. -/
def GoodX (s : BSt) (e : Ent) (x : List UInt8) : Prop := (s.mode = 0 ∧ ∃ s0, x = realL s0 e.key e.beside e.text) ∨ (s.mode = 1 ∧ lookM s.m x = some e)
theorem lookM_old {m l : List (List UInt8 × Ent)} {x : List UInt8} {e : Ent} (h : lookM m x = some e) : lookM (m ++ l) x = some e := by
  simp only [lookM, Option.map_eq_some_iff] at h ⊢
  obtain ⟨p, hp, h2⟩ := h
  exact ⟨p, by rw [List.find?_append, hp]; rfl, h2⟩
theorem GoodX.opens {s : BSt} {e : Ent} {x : List UInt8} (h : GoodX s e x) : openS s e.key e.beside x = some e.text := by
  rcases h with ⟨h0, s0, rfl⟩ | ⟨h1, h2⟩
  · rw [open_real s h0]
    exact openL_seal _ _ _ _
  · rw [openS, if_neg (by omega), h2]
    simp
theorem GoodX.not {s : BSt} {e : Ent} {x : List UInt8} (h : GoodX s e x) (hm : s.mode = 1) (k bs : List UInt8) (hne : ¬ (e.key = k ∧ e.beside = bs)) : openS s k bs x = none := by
  rcases h with ⟨h0, _⟩ | ⟨h1, h2⟩
  · omega
  · rw [openS, if_neg (by omega), h2]
    simp only
    rw [if_neg hne]
theorem openS_known {s : BSt} (hm : s.mode = 1) (k bs x t : List UInt8) (h : openS s k bs x = some t) : knownM s.m x = true := by
  rw [openS, if_neg (by omega)] at h
  cases hl : lookM s.m x with
  | none => rw [hl] at h; cases h
  | some e =>
    simp only [lookM, Option.map_eq_some_iff] at hl
    obtain ⟨p, hp, _⟩ := hl
    simp only [knownM, List.any_eq_true]
    have h3 := List.find?_some hp
    exact ⟨p, List.mem_of_find?_eq_some hp, by simpa using h3⟩
/-- One more sealed: it opens, and so does what was. -/
theorem seal_good {N : Nat} {s s' : BSt} {e : Ent} {r : Option (List UInt8)} (hs : SealR s e s' r) (ho : OnceS s.F N) (hw : s.mode = 1 → WinB s) (hN : s.u + (e.text.length + 28) ≤ N) :
    ∃ x, r = some x ∧ x.length = e.text.length + 28 ∧ GoodX s' e x ∧ (∀ e' x', GoodX s e' x' → GoodX s' e' x') ∧ (s'.mode = 1 → WinB s') ∧ s'.u ≤ s.u + (e.text.length + 28) := by
  have hmode := hs.mode.1
  rcases hs with ⟨h1, h2⟩ | ⟨h0, h1, h2, h3, h4, h5, h6, h7⟩
  · obtain ⟨e1, e2, e3⟩ := fresh_ideal s e ho (hw h1) hN
    rw [e1] at h2
    injection h2 with h2 h3
    refine ⟨_, h3, tellS_length _ _ _, .inr ⟨by rw [h2]; exact h1, by rw [h2]; exact lookM_append e3⟩, fun e' x' hg => ?_, fun _ => by rw [h2]; exact e2, by rw [h2]; exact Nat.le_refl _⟩
    rcases hg with ⟨h0, _⟩ | ⟨_, hl⟩
    · omega
    · exact .inr ⟨by rw [h2]; exact h1, by rw [h2]; exact lookM_old hl⟩
  · refine ⟨_, h1, realL_length _ _ _ _, .inl ⟨h2, s, rfl⟩, fun e' x' hg => ?_, fun hh => by omega, by omega⟩
    rcases hg with ⟨_, hl⟩ | ⟨h8, _⟩
    · exact .inl ⟨h2, hl⟩
    · omega
def SlA (base : Nat) (r : Option Nat) (W : World) (v : Value) (l : List UInt8) : Prop := ∃ A c, v = .slice A l.length c ∧ l.length ≤ c ∧ RdB W A l ∧ ∀ a, A = some a → base ≤ a.block ∧ a.block < W.heap.size ∧ some a.block ≠ r
theorem SlA.keep {base : Nat} {r : Option Nat} {W W' : World} {v : Value} {l : List UInt8} (h : SlA base r W v l) (hb : Below W.heap.size W W') : SlA base r W' v l := by
  obtain ⟨A, c, h1, h2, h3, h4⟩ := h
  exact ⟨A, c, h1, h2, h3.keep hb, fun a e => ⟨(h4 a e).1, Nat.lt_of_lt_of_le (h4 a e).2.1 hb.size, (h4 a e).2.2⟩⟩
theorem SlA.boxF {base : Nat} {r : Option Nat} {W W' : World} {v : Value} {l : List UInt8} {g S b : Nat} (h : SlA base r W v l) (hf : BoxF g S b W W') (hl : g < base ∧ S < base ∧ b < base) : SlA base r W' v l := by
  obtain ⟨A, c, h1, h2, h3, h4⟩ := h
  exact ⟨A, c, h1, h2, h3.boxF hf (fun _ a e => by have := (h4 a e).1; omega), fun a e => ⟨(h4 a e).1, Nat.lt_of_lt_of_le (h4 a e).2.1 hf.1, (h4 a e).2.2⟩⟩
theorem SlA.app {base : Nat} {r r' : Option Nat} {W W' : World} {v : Value} {l : List UInt8} (h : SlA base r W v l) (hg : W.grownBy W' r) (hr : r' = r ∨ r' = some W.heap.size) : SlA base r' W' v l := by
  obtain ⟨A, c, h1, h2, h3, h4⟩ := h
  refine ⟨A, c, h1, h2, h3.grown hg (fun g e a ea => fun hh => (h4 a ea).2.2 (by rw [hh, e])), fun a e => ⟨(h4 a e).1, Nat.lt_of_lt_of_le (h4 a e).2.1 hg.size, ?_⟩⟩
  rcases hr with rfl | rfl
  · exact (h4 a e).2.2
  · intro hh
    have := (h4 a e).2.1
    have := Option.some.inj hh
    omega
theorem OwnV.boxF {base : Nat} {e : TypeId} {W W' : World} {v : Value} {l : List Value} {g S b : Nat} (h : OwnV W base e v l) (hf : BoxF g S b W W') (hl : g < base ∧ S < base ∧ b < base) : OwnV W' base e v l := by
  refine ⟨h.1, ?_⟩
  rcases h.2 with h2 | ⟨q, cap, cur, hv, hg, hh, hr⟩
  · exact .inl h2
  · exact .inr ⟨q, cap, cur, hv, hg, (hf.2 q (row_lt hh) (by omega) (by omega) (by omega)).trans hh, hr⟩
theorem idealL_mm (t : Nat) (s : BSt) (e : Ent) : (idealL t s e).1.m = s.m ∨ ∃ x, (idealL t s e).1.m = s.m ++ [(x, e)] := by
  induction t generalizing s with
  | zero => exact .inl rfl
  | succ t ih =>
    rw [idealL]
    split
    · exact ih { s with u := s.u + (e.text.length + 28) }
    · exact .inr ⟨_, rfl⟩
theorem sealR_texts {s s' : BSt} {e : Ent} {r : Option (List UInt8)} (hs : SealR s e s' r) (n : Nat) (h : ∀ p ∈ s.m, s.mode = 1 → p.2.text.length ≤ n) (he : e.text.length ≤ n) : ∀ p ∈ s'.m, s'.mode = 1 → p.2.text.length ≤ n := by
  rcases hs with ⟨h1, h2⟩ | ⟨h0, _, h2, _⟩
  · have e1 : s' = (idealL 8 s e).1 := by rw [← h2]
    intro p hp _
    rw [e1] at hp
    rcases idealL_mm 8 s e with h3 | ⟨x, h3⟩ <;> rw [h3] at hp
    · exact h p hp h1
    · rcases List.mem_append.mp hp with hp | hp
      · exact h p hp h1
      · simp only [List.mem_cons, List.mem_nil_iff, or_false] at hp
        rw [hp]
        exact he
  · intro p _ hh
    omega
/-- A slice of slices of bytes grows: a box is as it was. -/
theorem BoxB.grownV {w0 W W' : World} {g S D b lo : Nat} {s : BSt} {r : Option Nat} (h : BoxB w0 g S D b lo s W) (hg : W.grownBy W' r) (hl : D < lo) (hw : w0.heap.size ≤ lo)
    (hr : ∀ q, r = some q → lo ≤ q ∧ ∃ cur fr, W.heap[q]? = some (.cells cur 22 fr)) : BoxB w0 g S D b lo s W' := by
  have hne : ∀ k, k < lo → some k ≠ r := fun k hk e => by have := (hr k e.symm).1; omega
  have hlS := h.lS
  obtain ⟨es, clock, m1, m2, m3⟩ := h.map.has
  refine ⟨h.bel.trans (grown_below hg h.bel.size (fun q e => Nat.le_trans hw (hr q e).1)), h.hg, h.hS, h.hD, h.hb, grown_block hg (hne g h.lg) h.row, h.src.far hg (fun q e => ⟨by have := (hr q e).1; omega, by have := (hr q e).1; omega⟩), Nat.lt_of_lt_of_le h.ltD hg.size, ⟨⟨es, clock, grown_block hg (hne b h.map.low) m1, m2, m3.mono fun x p hx => ?_⟩, h.map.small, h.map.low⟩, h.gS, h.gD, h.gb, h.Sb, h.Db, h.lg, h.lS, h.few⟩
  obtain ⟨h1, A, c, h2, h3, h4, h5, h6⟩ := hx
  have hq : ∀ a, A = some a → some a.block ≠ r := by
    intro a ea e
    obtain ⟨cur, fr, hc⟩ := (h6 a ea).2.2
    obtain ⟨_, cur', fr', hc'⟩ := hr _ e.symm
    rw [hc] at hc'
    injection hc' with hc'
    injection hc' with _ ht _
    exact absurd ht (by decide)
  exact ⟨h1, A, c, h2, h3.grown hg (fun q e a ea e2 => hq a ea (by rw [e2, e])), h4, h5, fun a ea => ⟨Nat.lt_of_lt_of_le (h6 a ea).1 hg.size, (h6 a ea).2.1, (h6 a ea).2.2.grown hg (hq a ea)⟩⟩
theorem OwnV.typed {W : World} {base : Nat} {e : TypeId} {v : Value} {l : List Value} (h : OwnV W base e v l) : ∀ q, v.ownBlock = some q → base ≤ q ∧ ∃ cur fr, W.heap[q]? = some (.cells cur e fr) := by
  intro q hq
  rcases h.2 with ⟨hv, _⟩ | ⟨g, cap, cur, hv, hb, hh, _⟩
  · rw [hv] at hq; cases hq
  · rw [hv] at hq
    cases hq
    exact ⟨hb, cur, _, hh⟩
end Go.Proofs.YtlocplkjokoknaaGreat

/- Members of a ring: flag, owns, and whether one of some is so. No condition but those each theorem states. -/
namespace Go.Proofs.YtlocplkjokoknaaGreat
set_option linter.unusedVariables false
set_option linter.unusedSimpArgs false
open Go.RowKit
attribute [local go_sem ↓] Go.wp_at_zero Go.wp_at_succ

/-- One member. -/
structure Mem where
  n : Int
  k : List UInt8
  o : Bool
def RowM (z : Mem) : List Value := .int .i64 z.n :: (B8 z.k ++ [.bool z.o])
def OkM (z : Mem) : Prop := z.k.length = 32 ∧ -9223372036854775808 ≤ z.n ∧ z.n ≤ 9223372036854775807
/-- A row of them. -/
def RdM (W : World) (A : Option Addr) (zs : List Mem) : Prop := ∀ j z, zs[j]? = some z → OkM z ∧ ∃ b o, A = some ⟨b, o, none⟩ ∧ W.rangeAt b (o + j * 34) (RowM z)
theorem RowM_length {z : Mem} (h : OkM z) : (RowM z).length = 34 := by simp [RowM, B8_length, h.1]
theorem rangeAt_keep {W W' : World} {b o : Nat} {l : List Value} (h : W.rangeAt b o l) (hb : Below W.heap.size W W') : W'.rangeAt b o l := fun i v hi => (grown_of_below hb).cell (h i v hi) (fun er => by cases er)
theorem RdM.keep {W W' : World} {A : Option Addr} {zs : List Mem} (h : RdM W A zs) (hb : Below W.heap.size W W') : RdM W' A zs := by
  intro j z hj
  obtain ⟨h1, b, o, e, hr⟩ := h j z hj
  exact ⟨h1, b, o, e, rangeAt_keep hr hb⟩
theorem RdM.take {W : World} {A : Option Addr} {zs : List Mem} (h : RdM W A zs) (n : Nat) : RdM W A (zs.take n) := by
  intro j z hj
  rw [List.getElem?_take] at hj
  split at hj
  · exact h j z hj
  · cases hj
theorem RdM.ok {W : World} {A : Option Addr} {zs : List Mem} (h : RdM W A zs) : ∀ z ∈ zs, OkM z := by
  intro z hz
  obtain ⟨j, hj⟩ := List.getElem?_of_mem hz
  exact (h j z hj).1
theorem RdM.nil (W : World) (A : Option Addr) : RdM W A [] := fun j z hj => by simp at hj
theorem RdM.at {W : World} {A : Option Addr} {zs : List Mem} (h : RdM W A zs) {j : Nat} (hj : j < zs.length) : ∃ z b o, zs[j]? = some z ∧ OkM z ∧ A = some ⟨b, o, none⟩ ∧ W.rangeAt b (o + j * 34) (RowM z) := by
  obtain ⟨h1, b, o, e, hr⟩ := h j _ (List.getElem?_eq_getElem hj)
  exact ⟨_, b, o, List.getElem?_eq_getElem hj, h1, e, hr⟩
theorem rowM_n (z : Mem) : (RowM z).toArray[0]? = some (.int .i64 z.n) := rfl
theorem rowM_o {z : Mem} (h : z.k.length = 32) : (RowM z).toArray[33]? = some (.bool z.o) := by
  rw [List.getElem?_toArray, RowM, List.getElem?_cons_succ, List.getElem?_append_right (by rw [B8_length, h]; omega), B8_length, h]
  rfl
theorem rowM_one (z : Mem) : (RowM z).toArray.all (·.oneCell') = true := all_oneCell_toArray (by
  intro v hv
  simp only [RowM, B8, List.mem_cons, List.mem_append, List.mem_map, List.mem_nil_iff, or_false] at hv
  rcases hv with rfl | ⟨x, _, rfl⟩ | rfl <;> rfl)
theorem range_rowL {W : World} {M : Nat} {l : List Value} {T : TypeId} {fr : Nat × Nat} (h : W.heap[M]? = some (.cells l.toArray T fr)) : W.rangeAt M 0 l := fun j v hj => row_cell h (0 + j) (by rw [Nat.zero_add, List.getElem?_toArray, hj])
theorem range_sub {W : World} {b o : Nat} {l x y : List Value} (h : W.rangeAt b o l) (n : Nat) (e : l = x ++ y) (hx : n = x.length) : W.rangeAt b (o + n) y := by
  intro j v hj
  have h1 := h (n + j) v (by rw [e, hx, List.getElem?_append_right (by omega), Nat.add_sub_cancel_left, hj])
  rwa [← Nat.add_assoc] at h1
theorem range_init {W : World} {b o : Nat} {l x y : List Value} (h : W.rangeAt b o l) (e : l = x ++ y) : W.rangeAt b o x := by
  intro j v hj
  exact h j v (by rw [e, List.getElem?_append_left (List.getElem?_eq_some_iff.1 hj).1, hj])
theorem range_key {W : World} {b o : Nat} {z : Mem} (h : W.rangeAt b o (RowM z)) : W.rangeAt b (o + 1) (B8 z.k) :=
  range_init (range_sub h 1 (x := [.int .i64 z.n]) (y := B8 z.k ++ [.bool z.o]) rfl rfl) rfl
theorem info_mem : (Tryz.prog.info? 63).map (·.size) = some 34 := by kernel_rfl
theorem info_key {k : List UInt8} (h : k.length = 32) : (Tryz.prog.info? 38).map (·.size) = some (B8 k).length := by rw [B8_length, h]; kernel_rfl

/-- flag: a byte for what is so. -/
theorem flag_any (w : World) (o : Bool) : Calls Tryz.prog 66 #[.bool o] w fun e w' => e = .returned (.int .u8 ((if o then (1 : UInt8) else 0).toNat : Int)) ∧ w' = w := by
  go_enter Tryz.func66, Tryz.ntmps66
  cases o
  · go_wp2_with fail
    go_ret
    exact ⟨rfl, rfl⟩
  · go_wp2_with fail
    go_ret
    exact ⟨rfl, rfl⟩
set_option maxRecDepth 100000 in
set_option maxHeartbeats 1000000 in
/-- owns. -/
theorem owns_any (w : World) (z : Mem) (hz : OkM z) : Calls Tryz.prog 30 #[.agg (RowM z).toArray] w fun e w' => e = .returned (.bool z.o) ∧ Below w.heap.size w w' := by
  obtain ⟨cs, hcs⟩ : ∃ cs, cs = RowM z := ⟨_, rfl⟩
  rw [← hcs]
  have CE := Lib.hid hcs
  have C1 := Lib.hid (show cs.toArray.all (·.oneCell') = true by rw [hcs]; exact rowM_one z)
  have CL := Lib.hid (show (Tryz.prog.info? 63).map (·.size) = some cs.toArray.size by rw [hcs]; simp only [List.size_toArray, RowM_length hz]; exact info_mem)
  have CO := Lib.hid (show cs.toArray[33]? = some (.bool z.o) by rw [hcs]; exact rowM_o hz.1)
  clear hcs
  go_enter Tryz.func30, Tryz.ntmps30
  go_upto_region 1 with fail
  generalize hM : Array.size (World.heap w) = M
  generalize hw1 : World.alloc w _ = w1
  have B1 := Lib.hid (show Below w.heap.size w w1 by rw [← hw1]; exact below_new _ _)
  have R1 := Lib.hid (show w1.heap[M]? = some (.cells cs.toArray 63 (0, 0)) by rw [← hw1]; exact ha_new _ _ _ hM.symm)
  clear hw1 hM
  refine wp_region_list ?_
  simp only [List.toList_toArray]
  refine wpList_val (v := ?_) (by rfl) ?_ ?_
  rotate_left
  · go_simp
    with_reducible rfl
  simp only [Act.put, List.setIfInBounds_toArray, List.set_cons_zero, List.set_cons_succ]
  refine wpList_val (by rfl) (run_cell 4 (.tmp 3) rfl _ Tryz.underlying4 rfl rfl (row_cell R1.out 33 CO.out)) ?_
  simp only [Act.put, List.setIfInBounds_toArray, List.set_cons_zero, List.set_cons_succ]
  go_wp2_with fail
  go_ret
  exact ⟨rfl, B1.out⟩
set_option maxRecDepth 100000 in
set_option maxHeartbeats 1000000 in
/-- The test of Check: another one's number, or its key. -/
theorem checkc_any (w : World) (z y : Mem) (hz : OkM z) (hy : OkM y) (G : Nat) (T : TypeId) (fr : Nat × Nat) (hG : w.heap[G]? = some (.cells (RowM y).toArray T fr)) :
    Calls Tryz.prog 31 #[.agg (RowM z).toArray, .pointer (some ⟨G, 0, none⟩)] w fun e w' => e = .returned (.bool (decide (z.n = y.n) || decide (z.k = y.k))) ∧ Below w.heap.size w w' := by
  obtain ⟨cs, hcs⟩ : ∃ cs, cs = RowM z := ⟨_, rfl⟩
  obtain ⟨cy, hcy⟩ : ∃ cy, cy = RowM y := ⟨_, rfl⟩
  rw [← hcs]
  rw [← hcy] at hG
  have CE := Lib.hid hcs
  have YE := Lib.hid hcy
  have HG := Lib.hid hG
  have CL := Lib.hid (show (Tryz.prog.info? 63).map (·.size) = some cs.toArray.size by rw [hcs]; simp only [List.size_toArray, RowM_length hz]; exact info_mem)
  have KZ := Lib.hid (info_key hz.1)
  have KY := Lib.hid (info_key hy.1)
  have LZ := Lib.hid hz.1
  have LY := Lib.hid hy.1
  clear hcs hcy hG hz hy
  by_cases hn : z.n = y.n
  · have hD : decide (z.n = y.n) = true := by simpa using hn
    go_enter Tryz.func31, Tryz.ntmps31
    go_upto_region 1 with fail
    generalize hM : Array.size (World.heap w) = M
    generalize hw1 : World.alloc w _ = w1
    have B1 := Lib.hid (show Below w.heap.size w w1 by rw [← hw1]; exact below_new _ _)
    have R1 := Lib.hid (show w1.heap[M]? = some (.cells cs.toArray 63 (0, 0)) by rw [← hw1]; exact ha_new _ _ _ hM.symm)
    have G1 := Lib.hid (show w1.heap[G]? = some (.cells cy.toArray T fr) from below_block B1.out (row_lt HG.out) HG.out)
    clear hw1 hM HG
    refine wp_region_list ?_
    simp only [List.toList_toArray]
    refine wpList_val (v := ?_) (by rfl) ?_ ?_
    rotate_left
    · go_simp
      with_reducible rfl
    simp only [Act.put, List.setIfInBounds_toArray, List.set_cons_zero, List.set_cons_succ]
    refine wpList_val (by rfl) (run_cell 3 (.tmp 4) rfl _ Tryz.underlying3 rfl rfl (row_cell R1.out 0 (show cs.toArray[0]? = some (.int .i64 z.n) by rw [CE.out]; rfl))) ?_
    simp only [Act.put, List.setIfInBounds_toArray, List.set_cons_zero, List.set_cons_succ]
    refine wpList_val (v := ?_) (by rfl) ?_ ?_
    rotate_left
    · go_simp
      with_reducible rfl
    simp only [Act.put, List.setIfInBounds_toArray, List.set_cons_zero, List.set_cons_succ]
    refine wpList_val (by rfl) (run_cell 3 (.tmp 6) rfl _ Tryz.underlying3 rfl rfl (row_cell G1.out 0 (show cy.toArray[0]? = some (.int .i64 y.n) by rw [YE.out]; rfl))) ?_
    simp only [Act.put, List.setIfInBounds_toArray, List.set_cons_zero, List.set_cons_succ]
    refine wpList_val (v := ?_) (by rfl) ?_ ?_
    rotate_left
    · go_simp
      with_reducible rfl
    simp only [Act.put, List.setIfInBounds_toArray, List.set_cons_zero, List.set_cons_succ]
    refine wpList_val (v := ?_) (by rfl) ?_ ?_
    rotate_left
    · go_simp
      with_reducible rfl
    simp only [Act.put, List.setIfInBounds_toArray, List.set_cons_zero, List.set_cons_succ]
    go_wp2_with fail
    go_ret
    exact ⟨by rw [hD]; rfl, B1.out⟩
  · have hD : decide (z.n = y.n) = false := by simpa using hn
    go_enter Tryz.func31, Tryz.ntmps31
    go_upto_region 1 with fail
    generalize hM : Array.size (World.heap w) = M
    generalize hw1 : World.alloc w _ = w1
    have B1 := Lib.hid (show Below w.heap.size w w1 by rw [← hw1]; exact below_new _ _)
    have R1 := Lib.hid (show w1.heap[M]? = some (.cells cs.toArray 63 (0, 0)) by rw [← hw1]; exact ha_new _ _ _ hM.symm)
    have G1 := Lib.hid (show w1.heap[G]? = some (.cells cy.toArray T fr) from below_block B1.out (row_lt HG.out) HG.out)
    clear hw1 hM HG
    refine wp_region_list ?_
    simp only [List.toList_toArray]
    refine wpList_val (v := ?_) (by rfl) ?_ ?_
    rotate_left
    · go_simp
      with_reducible rfl
    simp only [Act.put, List.setIfInBounds_toArray, List.set_cons_zero, List.set_cons_succ]
    refine wpList_val (by rfl) (run_cell 3 (.tmp 4) rfl _ Tryz.underlying3 rfl rfl (row_cell R1.out 0 (show cs.toArray[0]? = some (.int .i64 z.n) by rw [CE.out]; rfl))) ?_
    simp only [Act.put, List.setIfInBounds_toArray, List.set_cons_zero, List.set_cons_succ]
    refine wpList_val (v := ?_) (by rfl) ?_ ?_
    rotate_left
    · go_simp
      with_reducible rfl
    simp only [Act.put, List.setIfInBounds_toArray, List.set_cons_zero, List.set_cons_succ]
    refine wpList_val (by rfl) (run_cell 3 (.tmp 6) rfl _ Tryz.underlying3 rfl rfl (row_cell G1.out 0 (show cy.toArray[0]? = some (.int .i64 y.n) by rw [YE.out]; rfl))) ?_
    simp only [Act.put, List.setIfInBounds_toArray, List.set_cons_zero, List.set_cons_succ]
    refine wpList_val (v := ?_) (by rfl) ?_ ?_
    rotate_left
    · go_simp
      with_reducible rfl
    simp only [Act.put, List.setIfInBounds_toArray, List.set_cons_zero, List.set_cons_succ]
    refine wpList_val (v := ?_) (by rfl) ?_ ?_
    rotate_left
    · go_simp
      with_reducible rfl
    simp only [Act.put, List.setIfInBounds_toArray, List.set_cons_zero, List.set_cons_succ]
    rw [show (z.n == y.n) = false by simpa using hn]
    refine wpList_valg (v := ?_) (by rfl) ?_ ?_
    rotate_left
    · go_simp
      with_reducible rfl
    simp only [Act.put, List.setIfInBounds_toArray, List.set_cons_zero, List.set_cons_succ]
    refine wpList_valg (by rfl) (run_load_range 38 (.tmp 10) rfl M 1 rfl (B8 z.k) (by have := range_key (z := z) (range_rowL (by rw [← CE.out]; exact R1.out)); rwa [Nat.zero_add] at this) Tryz.underlying38 rfl KZ.out) ?_
    simp only [Act.put, List.setIfInBounds_toArray, List.set_cons_zero, List.set_cons_succ]
    refine wpList_valg (v := ?_) (by rfl) ?_ ?_
    rotate_left
    · go_simp
      with_reducible rfl
    simp only [Act.put, List.setIfInBounds_toArray, List.set_cons_zero, List.set_cons_succ]
    refine wpList_valg (by rfl) (run_load_range 38 (.tmp 12) rfl G 1 rfl (B8 y.k) (by have := range_key (z := y) (range_rowL (by rw [← YE.out]; exact G1.out)); rwa [Nat.zero_add] at this) Tryz.underlying38 rfl KY.out) ?_
    simp only [Act.put, List.setIfInBounds_toArray, List.set_cons_zero, List.set_cons_succ]
    refine wpList_valg (by rfl) (run_eq_arr 38 _ (.tmp 11) (.tmp 13) rfl 5 32 Tryz.underlying38 Tryz.underlying5 rfl (by kernel_rfl) z.k y.k LZ.out LY.out rfl rfl _) ?_
    simp only [Act.put, List.setIfInBounds_toArray, List.set_cons_zero, List.set_cons_succ]
    go_wp2_with fail
    go_ret
    exact ⟨by rw [hD]; rfl, B1.out⟩
set_option maxRecDepth 100000 in
set_option maxHeartbeats 1000000 in
/-- Is one an owner? -/
theorem some_owns (w : World) (A : Option Addr) (c : Nat) (zs : List Mem) (R : RdM w A zs) (hz : zs.length ≤ 1000000) :
    Calls Tryz.prog 29 #[.slice A zs.length c, .func (.func 30) #[] #[]] w fun e w' => e = .returned (.bool (zs.any (·.o))) ∧ Below w.heap.size w w' := by
  obtain ⟨p, hp⟩ : ∃ p : Mem → Bool, p = fun z => z.o := ⟨_, rfl⟩
  rw [show (fun z : Mem => z.o) = p from hp.symm]
  have CM : Hid (∀ (z : Mem) (W : World), OkM z → Below w.heap.size w W → Calls Tryz.prog 30 #[.agg (RowM z).toArray] W (fun e W' => e = .returned (.bool (p z)) ∧ Below W.heap.size W W')) := Lib.hid fun z W hz _ => by rw [hp]; exact owns_any W z hz
  clear hp
  have HR := Lib.hid R
  obtain ⟨q, hq⟩ : ∃ q, q = zs.length := ⟨_, rfl⟩
  rw [← hq]
  have Q1 := Lib.hid hq.symm
  have b0 : (q : Int) ≤ 1000000 := by omega
  clear R hq hz
  go_enter Tryz.func29, Tryz.ntmps29
  go_wp2_with fail
  go_loopw [9] (fun i wr => ∃ j : Nat, j ≤ q ∧ i = .int .i64 (j : Int) ∧ (zs.take j).any p = false ∧ Below w.heap.size w wr) (fun i _ => q - (intOf i).toNat)
  case atStart => exact ⟨0, Nat.zero_le _, rfl, by simp, Below.refl _ _⟩
  case round =>
    obtain ⟨j, hj, rfl, hno, hb⟩ := hrel
    have J := Lib.hid hj
    have NO := Lib.hid hno
    have BW := Lib.hid hb
    clear hj hno hb
    obtain ⟨wp, rfl⟩ : ∃ wp : World, wp = wr := ⟨_, rfl⟩
    by_cases hlt : j < q
    · have hD : decide ((j : Int) < (q : Int)) = true := by simp; omega
      obtain ⟨z, bz, oz, hz, hok, hA, hrz⟩ := HR.out.at (show j < zs.length by rw [Q1.out]; exact hlt)
      obtain ⟨cs, hcs⟩ : ∃ cs, cs = RowM z := ⟨_, rfl⟩
      have ZE := Lib.hid hz
      have OK := Lib.hid hok
      have AE := Lib.hid hA
      have JQ := Lib.hid hlt
      have CE := Lib.hid hcs
      have RZ := Lib.hid (show wp.rangeAt bz (oz + j * 34) cs by rw [hcs]; exact rangeAt_keep hrz BW.out)
      have CL := Lib.hid (show (Tryz.prog.info? 63).map (·.size) = some cs.length by rw [hcs, RowM_length hok]; exact info_mem)
      have SZ := Lib.hid (show (34 : Nat) = cs.toArray.size by rw [List.size_toArray, hcs, RowM_length hok])
      have CL2 := Lib.hid (show (Tryz.prog.info? 63).map (·.size) = some cs.toArray.size by rw [List.size_toArray]; exact CL.out)
      have CO := Lib.hid (show cs.toArray.all (·.oneCell') = true by rw [hcs]; exact rowM_one z)
      have TK := Lib.hid (show (zs.take (j + 1)).any p = p z by rw [List.take_add_one, hz]; simp only [List.any_append, NO.out, Option.toList_some, List.any_cons, List.any_nil, Bool.or_false, Bool.false_or])
      clear hz hok hA hrz hlt hcs
      go_upto_region 3 with fail
      refine wp_region_list ?_
      simp only [List.toList_toArray]
      refine wpList_val (by rfl) (run_iaddr_slk 23 (.tmp 7) (.tmp 9) rfl 63 Tryz.underlying23 34 info_mem bz oz q c j JQ.out .i64 _ rfl (by rw [← AE.out]; rfl) rfl _) ?_
      simp only [Act.put, List.setIfInBounds_toArray, List.set_cons_zero, List.set_cons_succ]
      refine wpList_val (by rfl) (run_load_range 63 (.tmp 11) rfl bz (oz + j * 34) rfl cs RZ.out Tryz.underlying63 rfl CL.out) ?_
      simp only [Act.put, List.setIfInBounds_toArray, List.set_cons_zero, List.set_cons_succ]
      go_upto_region 4 with (refine wpList_store_new rfl rfl 63 (.tmp 6) (.tmp 12) rfl cs.toArray rfl rfl CL2.out SZ.out CO.out ?_)
      generalize hM : Array.size (World.heap wp) = M
      generalize hw7 : World.alloc wp _ = w7
      have B7 := Lib.hid (show Below wp.heap.size wp w7 by rw [← hw7]; exact below_new _ _)
      have R7 := Lib.hid (show w7.heap[M]? = some (.cells cs.toArray 63 (0, 0)) by rw [← hw7]; exact ha_new _ _ _ hM.symm)
      have BW7 := Lib.hid (BW.out.trans (B7.out.mono BW.out.size))
      clear hM hw7
      refine wp_region_list ?_
      simp only [List.toList_toArray]
      refine wpList_val (v := ?_) (by rfl) ?_ ?_
      rotate_left
      · go_simp
        with_reducible rfl
      simp only [Act.put, List.setIfInBounds_toArray, List.set_cons_zero, List.set_cons_succ]
      refine wpList_val (by rfl) (run_load_range 63 (.tmp 6) rfl M 0 rfl cs (range_rowL R7.out) Tryz.underlying63 rfl CL.out) ?_
      simp only [Act.put, List.setIfInBounds_toArray, List.set_cons_zero, List.set_cons_succ]
      refine wpList_op (by rfl) (fun K hK => ?_)
      go_simp
      have CMZ := CM.out z w7 OK.out BW7.out
      rw [← CE.out] at CMZ
      refine CMZ.mono ?_
      clear CMZ
      rintro e w8 ⟨rfl, hb⟩
      have B8 := Lib.hid (BW7.out.trans (hb.mono BW7.out.size))
      clear hb
      obtain ⟨pz, hpz⟩ : ∃ pz : Bool, pz = p z := ⟨_, rfl⟩
      rw [← hpz]
      have PZ := Lib.hid hpz
      clear hpz
      refine hK.out _ _ ?_
      clear hK K
      rcases pz with _ | _
      · skip
        go_wp2_with fail
        go_roundw
        case rel => exact ⟨j + 1, by have := JQ.out; omega, by go_num, by rw [TK.out, ← PZ.out], B8.out⟩
        case measure => have := JQ.out; simp [intOf]; omega
      · have ALL := Lib.hid (show zs.any p = true from List.any_eq_true.2 ⟨z, List.mem_of_getElem? ZE.out, PZ.out.symm⟩)
        go_wp2_with fail
        go_ret
        exact ⟨by rw [ALL.out]; rfl, B8.out⟩
    · have hD : decide ((j : Int) < (q : Int)) = false := by simp; omega
      have ALL := Lib.hid (show zs.any p = false by have h1 := NO.out; rwa [List.take_of_length_le (by rw [Q1.out]; omega)] at h1)
      go_wp2_with fail
      go_ret
      exact ⟨by rw [ALL.out]; rfl, BW.out⟩
/-- Two members that may not stand in one ring. -/
def sameM (y x : Mem) : Bool := decide (x.n = y.n) || decide (x.k = y.k)
set_option maxRecDepth 100000 in
set_option maxHeartbeats 1000000 in
/-- Is one like this one? -/
theorem some_same (w : World) (A : Option Addr) (c : Nat) (zs : List Mem) (R : RdM w A zs) (hz : zs.length ≤ 1000000) (y : Mem) (hy : OkM y) (G : Nat) (T : TypeId) (fr : Nat × Nat) (hG : w.heap[G]? = some (.cells (RowM y).toArray T fr)) :
    Calls Tryz.prog 29 #[.slice A zs.length c, .func (.func 31) #[] #[.pointer (some ⟨G, 0, none⟩)]] w fun e w' => e = .returned (.bool (zs.any (sameM y))) ∧ Below w.heap.size w w' := by
  obtain ⟨p, hp⟩ : ∃ p : Mem → Bool, p = sameM y := ⟨_, rfl⟩
  rw [show sameM y = p from hp.symm]
  have CM : Hid (∀ (z : Mem) (W : World), OkM z → Below w.heap.size w W → Calls Tryz.prog 31 #[.agg (RowM z).toArray, .pointer (some ⟨G, 0, none⟩)] W (fun e W' => e = .returned (.bool (p z)) ∧ Below W.heap.size W W')) := Lib.hid fun z W hz hb => by
    rw [hp]
    exact checkc_any W z y hz hy G T fr (below_block hb (row_lt hG) hG)
  clear hp hG hy
  have HR := Lib.hid R
  obtain ⟨q, hq⟩ : ∃ q, q = zs.length := ⟨_, rfl⟩
  rw [← hq]
  have Q1 := Lib.hid hq.symm
  have b0 : (q : Int) ≤ 1000000 := by omega
  clear R hq hz
  go_enter Tryz.func29, Tryz.ntmps29
  go_wp2_with fail
  go_loopw [9] (fun i wr => ∃ j : Nat, j ≤ q ∧ i = .int .i64 (j : Int) ∧ (zs.take j).any p = false ∧ Below w.heap.size w wr) (fun i _ => q - (intOf i).toNat)
  case atStart => exact ⟨0, Nat.zero_le _, rfl, by simp, Below.refl _ _⟩
  case round =>
    obtain ⟨j, hj, rfl, hno, hb⟩ := hrel
    have J := Lib.hid hj
    have NO := Lib.hid hno
    have BW := Lib.hid hb
    clear hj hno hb
    obtain ⟨wp, rfl⟩ : ∃ wp : World, wp = wr := ⟨_, rfl⟩
    by_cases hlt : j < q
    · have hD : decide ((j : Int) < (q : Int)) = true := by simp; omega
      obtain ⟨z, bz, oz, hz, hok, hA, hrz⟩ := HR.out.at (show j < zs.length by rw [Q1.out]; exact hlt)
      obtain ⟨cs, hcs⟩ : ∃ cs, cs = RowM z := ⟨_, rfl⟩
      have ZE := Lib.hid hz
      have OK := Lib.hid hok
      have AE := Lib.hid hA
      have JQ := Lib.hid hlt
      have CE := Lib.hid hcs
      have RZ := Lib.hid (show wp.rangeAt bz (oz + j * 34) cs by rw [hcs]; exact rangeAt_keep hrz BW.out)
      have CL := Lib.hid (show (Tryz.prog.info? 63).map (·.size) = some cs.length by rw [hcs, RowM_length hok]; exact info_mem)
      have SZ := Lib.hid (show (34 : Nat) = cs.toArray.size by rw [List.size_toArray, hcs, RowM_length hok])
      have CL2 := Lib.hid (show (Tryz.prog.info? 63).map (·.size) = some cs.toArray.size by rw [List.size_toArray]; exact CL.out)
      have CO := Lib.hid (show cs.toArray.all (·.oneCell') = true by rw [hcs]; exact rowM_one z)
      have TK := Lib.hid (show (zs.take (j + 1)).any p = p z by rw [List.take_add_one, hz]; simp only [List.any_append, NO.out, Option.toList_some, List.any_cons, List.any_nil, Bool.or_false, Bool.false_or])
      clear hz hok hA hrz hlt hcs
      go_upto_region 3 with fail
      refine wp_region_list ?_
      simp only [List.toList_toArray]
      refine wpList_val (by rfl) (run_iaddr_slk 23 (.tmp 7) (.tmp 9) rfl 63 Tryz.underlying23 34 info_mem bz oz q c j JQ.out .i64 _ rfl (by rw [← AE.out]; rfl) rfl _) ?_
      simp only [Act.put, List.setIfInBounds_toArray, List.set_cons_zero, List.set_cons_succ]
      refine wpList_val (by rfl) (run_load_range 63 (.tmp 11) rfl bz (oz + j * 34) rfl cs RZ.out Tryz.underlying63 rfl CL.out) ?_
      simp only [Act.put, List.setIfInBounds_toArray, List.set_cons_zero, List.set_cons_succ]
      go_upto_region 4 with (refine wpList_store_new rfl rfl 63 (.tmp 6) (.tmp 12) rfl cs.toArray rfl rfl CL2.out SZ.out CO.out ?_)
      generalize hM : Array.size (World.heap wp) = M
      generalize hw7 : World.alloc wp _ = w7
      have B7 := Lib.hid (show Below wp.heap.size wp w7 by rw [← hw7]; exact below_new _ _)
      have R7 := Lib.hid (show w7.heap[M]? = some (.cells cs.toArray 63 (0, 0)) by rw [← hw7]; exact ha_new _ _ _ hM.symm)
      have BW7 := Lib.hid (BW.out.trans (B7.out.mono BW.out.size))
      clear hM hw7
      refine wp_region_list ?_
      simp only [List.toList_toArray]
      refine wpList_val (v := ?_) (by rfl) ?_ ?_
      rotate_left
      · go_simp
        with_reducible rfl
      simp only [Act.put, List.setIfInBounds_toArray, List.set_cons_zero, List.set_cons_succ]
      refine wpList_val (by rfl) (run_load_range 63 (.tmp 6) rfl M 0 rfl cs (range_rowL R7.out) Tryz.underlying63 rfl CL.out) ?_
      simp only [Act.put, List.setIfInBounds_toArray, List.set_cons_zero, List.set_cons_succ]
      refine wpList_op (by rfl) (fun K hK => ?_)
      go_simp
      have CMZ := CM.out z w7 OK.out BW7.out
      rw [← CE.out] at CMZ
      refine CMZ.mono ?_
      clear CMZ
      rintro e w8 ⟨rfl, hb⟩
      have B8 := Lib.hid (BW7.out.trans (hb.mono BW7.out.size))
      clear hb
      obtain ⟨pz, hpz⟩ : ∃ pz : Bool, pz = p z := ⟨_, rfl⟩
      rw [← hpz]
      have PZ := Lib.hid hpz
      clear hpz
      refine hK.out _ _ ?_
      clear hK K
      rcases pz with _ | _
      · skip
        go_wp2_with fail
        go_roundw
        case rel => exact ⟨j + 1, by have := JQ.out; omega, by go_num, by rw [TK.out, ← PZ.out], B8.out⟩
        case measure => have := JQ.out; simp [intOf]; omega
      · have ALL := Lib.hid (show zs.any p = true from List.any_eq_true.2 ⟨z, List.mem_of_getElem? ZE.out, PZ.out.symm⟩)
        go_wp2_with fail
        go_ret
        exact ⟨by rw [ALL.out]; rfl, B8.out⟩
    · have hD : decide ((j : Int) < (q : Int)) = false := by simp; omega
      have ALL := Lib.hid (show zs.any p = false by have h1 := NO.out; rwa [List.take_of_length_le (by rw [Q1.out]; omega)] at h1)
      go_wp2_with fail
      go_ret
      exact ⟨by rw [ALL.out]; rfl, BW.out⟩
end Go.Proofs.YtlocplkjokoknaaGreat
