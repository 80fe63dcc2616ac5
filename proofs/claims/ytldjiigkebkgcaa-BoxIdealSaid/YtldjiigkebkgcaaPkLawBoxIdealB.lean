/- Part 2 of what the law LawBoxIdeal needs. No condition but those each theorem states. -/
import Derived.Carry
import Derived.Deep.Cut
import Derived.Deep.DrawnRows
import Derived.Deep.RegionHeld3
import Derived.Lib.SliceRun
import Derived.Test.YtldjiigkebkgcaaProg
import Derived.WalkSpells
import Derived.Test.YtldjiigkebkgcaaPkLawBoxIdealA
/- The sum of texts, one behind the other. No condition but those each theorem states. -/
namespace Go.Proofs.Ytldjiigkebkgcaa
set_option linter.unusedVariables false
set_option linter.unusedSimpArgs false
open Go.RowKit
attribute [local go_sem ↓] Go.wp_at_zero Go.wp_at_succ

theorem write_nil (w : World) (v : Value) : Calls Try.prog 69 #[.pointer none, v] w fun e w' => e = .returned (.tuple #[]) ∧ w' = w := by
  go_enter Try.func69, Try.ntmps69
  go_wp2_with fail
  exact bodyPost_ret (results_none rfl _ _ _) rfl ⟨rfl, rfl⟩

set_option maxRecDepth 100000 in
set_option maxHeartbeats 2000000 in
theorem of_any (w : World) (A : Option Addr) (n c : Nat) (vs : List Value) (ls : List (List UInt8)) (hn : vs.length = n) (hR : RdV w A vs) (hall : All2 (SlB w) vs ls) (hb : ls.flatten.length ≤ 140737488355000) (hnb : n ≤ 140737488355000) :
    Calls Try.prog 53 #[.slice A n c] w fun e w' => e = .returned (.agg (W8 (hashL ls.flatten))) ∧ Below w.heap.size w w' := by
  have HN := Lib.hid hn
  have HR := Lib.hid hR
  have HA := Lib.hid hall
  have HB := Lib.hid hb
  have NL := Lib.hid (show ls.length = n by rw [← hall.length, hn])
  have Z32 := Lib.hid zero32
  have b0 : (n : Int) ≤ 140737488355000 := by omega
  clear hn hR hall hb hnb
  go_enter Try.func53, Try.ntmps53
  go_wp2_with fail
  rw [← Z32.out]
  refine (shaNew_any _).mono ?_
  rintro e w1 ⟨E, rfl, hE, hgE, hb1⟩
  have S1 := Lib.hid (show SmW w (List.replicate 32 0) E startH w1 from ⟨below_block hb1 (by simp) (ha_new _ _ _ rfl), hgE, by simp at hE; omega, ((Below.refl _ _).alloc (Nat.le_refl _) _).trans (hb1.mono (by simp))⟩)
  clear hE hgE hb1
  go_wp2_with fail
  go_loopw [9] (fun i wr => ∃ j : Nat, j ≤ n ∧ i = .int .i64 (j : Int) ∧ SmW w (List.replicate 32 0) E (putsB startH (ls.take j).flatten) wr) (fun i _ => n - (intOf i).toNat)
  case atStart => exact ⟨0, Nat.zero_le _, rfl, S1.out⟩
  case round =>
    obtain ⟨j, hj, rfl, hs⟩ := hrel
    have J := Lib.hid hj
    have S2 := Lib.hid hs
    obtain ⟨q, hq⟩ : ∃ q, q = putsB startH (ls.take j).flatten := ⟨_, rfl⟩
    rw [← hq] at S2
    have QQ := Lib.hid hq
    have KQ := Lib.hid (show q.ok by rw [hq]; exact putsB_ok startH_ok _)
    have NQ := Lib.hid (show q.n = (ls.take j).flatten.length by rw [hq, putsB_n]; simp [startH])
    clear hj hs hq S1
    by_cases hlt : j < n
    · have hD : decide ((j : Int) < (n : Int)) = true := by simp; omega
      obtain ⟨l, hl⟩ : ∃ l, ls[j]? = some l := ⟨_, List.getElem?_eq_getElem (by rw [NL.out]; exact hlt)⟩
      obtain ⟨v, hv, A', c', rfl, hc', hR'⟩ := HA.out.get j l hl
      obtain ⟨b, o, rfl, hcell⟩ := (HR.out.keep S2.out.bel) j _ hv
      have L1 := Lib.hid hl
      have R1 := Lib.hid (hR'.keep S2.out.bel)
      have L2 := Lib.hid (fun h0 => hR'.lt h0)
      have C1 := Lib.hid hc'
      have FL := Lib.hid (show (ls.take (j + 1)).flatten = (ls.take j).flatten ++ l by rw [List.take_add_one, hl]; simp)
      have BL := Lib.hid (show (ls.take j).flatten.length + l.length ≤ 140737488355000 by
        have h1 := congrArg List.length FL.out
        rw [List.length_append] at h1
        have h2 : (ls.take (j + 1)).flatten.length ≤ ls.flatten.length := by
          rw [show ls.flatten = (ls.take (j + 1)).flatten ++ (ls.drop (j + 1)).flatten by rw [← List.flatten_append, List.take_append_drop], List.length_append]
          omega
        have := HB.out
        omega)
      obtain ⟨m, hm⟩ : ∃ m, m = l.length := ⟨_, rfl⟩
      rw [← hm] at hcell
      have M := Lib.hid hm
      clear hl hv hc' hR' hm
      go_wp2_with fail
      refine (write_any true E q KQ.out _ A' m c' l M.out.symm (by rw [M.out]; exact C1.out) R1.out (fun h0 a ea => by have := L2.out h0 a ea; have := S2.out.hE; omega) (by rw [NQ.out, M.out]; have := BL.out; omega) S2.out.be).mono ?_
      rintro e w2 ⟨rfl, hg2, hgr2⟩
      have S3 := Lib.hid (S2.out.step hg2 hgr2)
      clear hg2 hgr2 hcell
      go_wp2_with fail
      go_roundw
      case rel =>
        refine ⟨j + 1, by omega, by go_num, ?_⟩
        rw [FL.out, putsB_append, ← QQ.out]
        exact S3.out
      case measure => simp [intOf]; omega
    · have hjn : Hid (j = n) := show j = n by have := J.out; omega
      have hD : decide ((j : Int) < (n : Int)) = false := by simp; omega
      go_wp2_with fail
      refine (hsum_any true E q KQ.out _ (by rw [NQ.out, hjn.out, ← NL.out, List.take_length]; exact HB.out) S2.out.be).mono ?_
      rintro e w2 ⟨rfl, hb2⟩
      have S3 := Lib.hid (S2.out.keep hb2)
      clear hb2
      obtain ⟨L, hL⟩ : ∃ L, L = sumH (if true = true then q else startH) := ⟨_, rfl⟩
      rw [← hL]
      have LL := Lib.hid (show L.length = 32 by rw [hL, sumH_length])
      have LE := Lib.hid (show L = hashL ls.flatten by rw [hL, if_pos rfl, QQ.out, hjn.out, ← NL.out, List.take_length]; rfl)
      clear hL
      have Z := Lib.hid (show (Try.prog.info? 36).map (·.size) = some (W8 L).size by rw [W8_size, LL.out]; kernel_rfl)
      go_wp2_with (refine wpList_store_whole rfl rfl 36 (.tmp 2) (.tmp 18) rfl w.heap.size (W8 L) rfl rfl 36 _ S3.out.bo Z.out (by rw [W8_size, W8_size, LL.out]; simp) (W8_one _) ?_; intro w8 hz8 hg8 _)
      refine bodyPost_ret (results_cell_row rfl _ _ w.heap.size 36 (W8 L) (0, 0) _ rfl hz8 Try.underlying36 rfl Z.out) rfl ⟨?_, ?_⟩
      · rw [LE.out]
      · exact S3.out.bel.trans (grown_below hg8 (Nat.le_of_lt (row_lt S3.out.bo)) (by rintro g ⟨⟩; omega))
set_option maxRecDepth 100000 in
set_option maxHeartbeats 1000000 in
theorem shaSum_any (w : World) (A : Option Addr) (n c : Nat) (l : List UInt8) (hn : l.length = n) (hc : n ≤ c) (hR : RdB w A l) (hb : n ≤ 140737488355000) :
    Calls Try.prog 39 #[.slice A n c] w fun e w' => e = .returned (.agg (W8 (hashL l))) ∧ Below w.heap.size w w' := by
  have HN := Lib.hid hn
  have HC := Lib.hid hc
  have HR := Lib.hid hR
  have HB := Lib.hid hb
  have Z32 := Lib.hid zero32
  clear hn hc hR hb
  go_enter Try.func39, Try.ntmps39
  go_wp2_with fail
  rw [← Z32.out]
  obtain ⟨w1, hw1⟩ : ∃ w1, w1 = (w.alloc (.cells (W8 (List.replicate 32 0)) 36)) := ⟨_, rfl⟩
  have S1 := Lib.hid (show w1.heap[w.heap.size]? = some (.cells (W8 (List.replicate 32 0)) 36 (0, 0)) ∧ Below w.heap.size w w1 ∧ w1.heap.size = w.heap.size + 1 by rw [hw1]; exact ⟨ha_new _ _ _ rfl, (Below.refl _ _).alloc (Nat.le_refl _) _, ha_size _ _⟩)
  rw [← hw1]
  have B2 := Lib.hid (show Below w1.heap.size w1 (w1.alloc (.cells #[.slice A n c] 23)) from (Below.refl _ _).alloc (Nat.le_refl _) _)
  refine (of_any _ (some ⟨w.heap.size + 1, 0, none⟩) 1 1 [.slice A n c] [l] rfl (RdV.one (row_cell (fr := (0, 0)) (ha_new w1 _ _ S1.out.2.2.symm) 0 rfl)) (.cons ⟨A, c, by rw [HN.out], by rw [HN.out]; exact HC.out, (HR.out.keep S1.out.2.1).keep B2.out⟩ .nil) (by simp [HN.out]; exact HB.out) (by omega)).mono ?_
  rintro e w2 ⟨rfl, hb2⟩
  have B3 := Lib.hid (B2.out.trans (hb2.mono (by simp)))
  have G3 := Lib.hid (below_block B3.out (row_lt S1.out.1) S1.out.1)
  obtain ⟨L, hL⟩ : ∃ L, L = hashL ([l].flatten) := ⟨_, rfl⟩
  rw [← hL]
  have LL := Lib.hid (show L.length = 32 by rw [hL, hashL_length])
  have LE := Lib.hid (show L = hashL l by rw [hL]; simp)
  have Z := Lib.hid (show (Try.prog.info? 36).map (·.size) = some (W8 L).size by rw [W8_size, LL.out]; kernel_rfl)
  clear hL hb2 hw1
  go_wp2_with (refine wpList_store_whole rfl rfl 36 (.tmp 2) (.tmp 5) rfl w.heap.size (W8 L) rfl rfl 36 _ G3.out Z.out (by rw [W8_size, W8_size, LL.out]; simp) (W8_one _) ?_; intro w8 hz8 hg8 _)
  refine bodyPost_ret (results_cell_row rfl _ _ w.heap.size 36 (W8 L) (0, 0) _ rfl hz8 Try.underlying36 rfl Z.out) rfl ⟨?_, ?_⟩
  · rw [LE.out]
  · exact (S1.out.2.1.trans (B3.out.mono S1.out.2.1.size)).trans (grown_below hg8 (Nat.le_of_lt (row_lt G3.out)) (by rintro g ⟨⟩; omega))
end Go.Proofs.Ytldjiigkebkgcaa

/- slices.Clone at bytes: a row of the call's own with the same bytes. No condition but those each theorem states. -/
namespace Go.Proofs.Ytldjiigkebkgcaa
set_option linter.unusedVariables false
set_option linter.unusedSimpArgs false
open Go.RowKit

set_option maxRecDepth 100000 in
set_option maxHeartbeats 1000000 in
theorem clone_any (w : World) (A : Option Addr) (n c : Nat) (l : List UInt8) (hn : l.length = n) (hR : RdB w A l) (hb : n ≤ 140737488355328) :
    Calls Try.prog 30 #[.slice A n c] w fun e w' => ∃ v, e = .returned v ∧ OwnB w' w.heap.size v l ∧ Below w.heap.size w w' := by
  have TB := Lib.hid (show ByteT Try.prog from ⟨Try.underlying23, by kernel_rfl⟩)
  have q22 : ∀ (w : World) (a : Option Addr) (n c n' c' : Nat), (binOp .eql 23 (.slice a n c) (.slice none n' c')).run Try.prog w = .ok (.bool a.isNone) w := fun w a n c n' c' => Lib.run_eql_slice_nil w _ _ a n c n' c' Try.underlying23
  have HR := Lib.hid hR
  have HN := Lib.hid hn
  clear hR hn
  rcases A with _ | ad
  · have hl : l = [] := by
      rcases l with _ | ⟨x, r⟩
      · rfl
      · obtain ⟨b, o, e, _⟩ := HR.out 0 (by simp)
        cases e
    have HL := Lib.hid hl
    clear hl
    go_enter Try.func30, Try.ntmps30
    go_wp2_with fail
    go_ret
    exact ⟨_, rfl, by rw [HL.out]; exact OwnB.nil _ _, Below.refl _ _⟩
  · go_enter Try.func30, Try.ntmps30
    go_wp2_with (refine app_list rfl TB.out (.tmp 5) (.tmp 6) rfl w.heap.size _ [] l (some ad) n c rfl rfl HN.out (World.ownsRow_made w #[] 0 (Nat.le_refl _) (Nat.zero_le _) rfl) ?c1 ?c2 ?c3 ?_)
    case c1 => exact HR.out.grown (World.grownBy_alloc w _ _) (fun g e a ea => by cases e) (r := none)
    case c2 => simp
    case c3 => simp; omega
    intro v1 w1 ho hg hv
    go_wp2_with fail
    go_ret
    exact ⟨_, rfl, by simpa using ho, ((Below.refl _ _).alloc (Nat.le_refl _) _).trans (grown_below hg (by simp) (fun g e => by simp [Value.ownBlock] at e; omega))⟩
end Go.Proofs.Ytldjiigkebkgcaa

/- wire.Put: the lowest bytes of a number behind bytes, the highest first. -/
namespace Go.Proofs.Ytldjiigkebkgcaa
set_option linter.unusedVariables false
set_option linter.unusedSimpArgs false
open Go.RowKit
attribute [local go_sem ↓] Go.wp_at_zero Go.wp_at_succ

/-- So many bytes of a number, the highest first. -/
def beL : Nat → Nat → List UInt8
  | 0, _ => []
  | k + 1, x => UInt8.ofNat (x / 2 ^ (8 * k)) :: beL k x
theorem beL_length (k x : Nat) : (beL k x).length = k := by
  induction k with
  | zero => rfl
  | succ k ih => simp [beL, ih]
/-- How many bytes are laid. -/
def putN (n : Int) : Nat := (min n 8).toNat
theorem putN_ex (k : Int) (h : -100 ≤ k ∧ k ≤ 100) : ∃ m : Int, (if (8 : Int) < k then (8 : Int) else k) = m ∧ IntKind.i64.wrap (m - 1) = m - 1 ∧ Hid (m = (putN k : Int) ∨ (putN k = 0 ∧ m ≤ 0)) ∧ -100 ≤ m ∧ m ≤ 8 := by
  refine ⟨min k 8, ?_, ?_, ?_, by omega, by omega⟩
  · split <;> omega
  · rw [IntKind.wrap_i64]; omega
  · show _ ∨ _
    unfold putN
    omega
theorem put_byte_ex (x : UInt64) (r : Nat) : ∃ z : UInt8, Hid (z = UInt8.ofNat (x.toNat / 2 ^ (8 * r))) ∧ IntKind.u8.wrap ((x.toNat : Int) / 2 ^ (8 * r)) = (z.toNat : Int) := by
  refine ⟨_, rfl, ?_⟩
  rw [IntKind.wrap_u8]
  have : ((x.toNat : Int) / 2 ^ (8 * r)) = ((x.toNat / 2 ^ (8 * r) : Nat) : Int) := by
    rw [Int.natCast_ediv, Int.natCast_pow]; rfl
  rw [this]
  simp

set_option maxRecDepth 100000 in
set_option maxHeartbeats 1000000 in
theorem put_any (w : World) (A : Option Addr) (n c : Nat) (l : List UInt8) (x : UInt64) (k : Int) (hk : -100 ≤ k ∧ k ≤ 100) (hn : l.length = n) (hR : RdB w A l) (hb : n ≤ 140737488355320) :
    Calls Try.prog 54 #[.slice A n c, .int .u64 (x.toNat : Int), .int .i64 k] w fun e w' => ∃ v, e = .returned v ∧ OwnB w' w.heap.size v (l ++ beL (putN k) x.toNat) ∧ Below w.heap.size w w' := by
  have TB := Lib.hid (show ByteT Try.prog from ⟨Try.underlying23, by kernel_rfl⟩)
  have HR := Lib.hid hR
  have HN := Lib.hid hn
  have HB := Lib.hid hb
  clear hR hn hb
  go_enter Try.func54, Try.ntmps54
  go_wp2_with fail
  refine (clone_any w A n c l HN.out HR.out (by have := HB.out; omega)).mono ?_
  rintro e w1 ⟨v, rfl, ho, hb1⟩
  have O1 := Lib.hid ho
  have B1 := Lib.hid hb1
  clear ho hb1 HR
  obtain ⟨m, hm, hm1, hm2, hm3, hm4⟩ := putN_ex k hk
  have e1 : wrap64 (m - 1) = m - 1 := by unfold wrap64; omega
  go_wp2_with fail
  clear hm hm1 e1
  go_loopw [7, 8] (fun v i wr => ∃ (r : Nat) (pre : List UInt8), r ≤ 8 ∧ pre.length + r ≤ n + 8 ∧ (i = .int .i64 ((r : Int) - 1) ∨ (r = 0 ∧ ∃ i' : Int, i = .int .i64 i' ∧ i' < 0)) ∧ pre ++ beL r x.toNat = l ++ beL (putN k) x.toNat ∧ OwnB wr w.heap.size v pre ∧ Below w.heap.size w wr) (fun _ i _ => (intOf i + 1).toNat)
  case atStart =>
    refine ⟨putN k, l, by unfold putN; omega, by have := HN.out; unfold putN; omega, ?_, rfl, O1.out, B1.out⟩
    rcases hm2.out with h | ⟨h0, h1⟩
    · exact .inl (by rw [h])
    · exact .inr ⟨h0, _, rfl, by omega⟩
  case round =>
    obtain ⟨r, pre, hr8, hrl, hi, hpre, ho, hb⟩ := hrel
    have R8 := Lib.hid hr8
    have RL := Lib.hid hrl
    have PRE := Lib.hid hpre
    have O2 := Lib.hid ho
    have B2 := Lib.hid hb
    clear hr8 hrl hpre ho hb O1 B1 w1
    rcases r with _ | r
    · obtain ⟨i, rfl, hi0⟩ : ∃ i : Int, u8 = .int .i64 i ∧ i < 0 := by
        rcases hi with h | ⟨_, i', h, h1⟩
        · exact ⟨_, h, by simp⟩
        · exact ⟨i', h, h1⟩
      have hD : decide ((0 : Int) ≤ i) = false := by simp; omega
      clear hi
      go_wp2_with fail
      go_ret
      refine ⟨_, rfl, ?_, B2.out⟩
      have := PRE.out
      rw [beL, List.append_nil] at this
      rw [← this]
      exact O2.out
    · obtain rfl : u8 = .int .i64 (r : Int) := by
        rcases hi with h | ⟨h, _⟩
        · rw [h]; congr 1; omega
        · omega
      clear hi
      have hD : decide ((0 : Int) ≤ (r : Int)) = true := by simp
      have e2 : 8 * (r : Int) ≤ 64 := by have := R8.out; omega
      have e4 : (8 * (r : Int)).toNat = 8 * r := by omega
      obtain ⟨z, hz, e3⟩ := put_byte_ex x r
      go_wp2_with (refine app_list rfl TB.out (.tmp 18) (.tmp 24) rfl w.heap.size u7 pre [z] (some ⟨wr.heap.size, 0, none⟩) 1 1 rfl rfl rfl (O2.out.alloc _) (RdB.one (row_cell (fr := (0, 0)) (ha_new wr _ _ rfl) 0 rfl)) ?c1 ?c2 ?_)
      case c1 => have := B2.out.size; rw [ha_size]; omega
      case c2 => have := RL.out; have := HB.out; omega
      intro v1 w1 ho hg hv
      have O3 := Lib.hid ho
      have B3 := Lib.hid (show Below w.heap.size w w1 from (B2.out.alloc B2.out.size _).trans (grown_below hg (by rw [ha_size]; have := B2.out.size; omega) (fun g e => (O2.out.lt g e).1)))
      clear ho hg hv O2 B2
      go_wp2_with fail
      go_roundw
      case rel =>
        refine ⟨r, pre ++ [z], by have := R8.out; omega, by have := RL.out; simp; omega, .inl (by go_num), ?_, O3.out, B3.out⟩
        rw [← PRE.out, beL, ← hz.out, List.append_assoc]
        rfl
      case measure => simp [intOf] <;> omega
end Go.Proofs.Ytldjiigkebkgcaa

/- draws.Source: its form in memory. No condition but those each theorem states. -/
namespace Go.Proofs.Ytldjiigkebkgcaa
set_option linter.unusedVariables false
set_option linter.unusedSimpArgs false
open Go.RowKit
attribute [local go_sem ↓] Go.wp_at_zero Go.wp_at_succ

/-- Its cells: the first bytes, their sum, whether that is known, how many were told, whose block is at hand, whether one is, the block. -/
def SrcL (fv : Value) (seed : List UInt8) (begun : Bool) (u bk : Nat) (held : Bool) (blk : List UInt8) : List Value :=
  fv :: (B8 seed ++ (.bool begun :: .int .i64 (u : Int) :: .int .i64 (bk : Int) :: .bool held :: B8 blk))
def SrcC (fv : Value) (seed : List UInt8) (begun : Bool) (u bk : Nat) (held : Bool) (blk : List UInt8) : Array Value := (SrcL fv seed begun u bk held blk).toArray
section
variable {fv : Value} {seed blk : List UInt8} {begun held : Bool} {u bk : Nat}
theorem SrcC_size (hs : seed.length = 32) (hb : blk.length = 32) : (SrcC fv seed begun u bk held blk).size = 69 := by simp [SrcC, SrcL, B8_length, hs, hb]
theorem SrcC_f : (SrcC fv seed begun u bk held blk)[0]? = some fv := by simp [SrcC, SrcL]
theorem SrcL_tail (hs : seed.length = 32) (i : Nat) : (SrcL fv seed begun u bk held blk)[33 + i]? = (Value.bool begun :: .int .i64 (u : Int) :: .int .i64 (bk : Int) :: .bool held :: B8 blk)[i]? := by
  rw [SrcL, show 33 + i = (32 + i) + 1 by omega, List.getElem?_cons_succ, List.getElem?_append_right (by rw [B8_length, hs]; omega), B8_length, hs, show 32 + i - 32 = i by omega]
theorem SrcC_begun (hs : seed.length = 32) : (SrcC fv seed begun u bk held blk)[33]? = some (.bool begun) := by
  rw [SrcC, List.getElem?_toArray, SrcL_tail hs 0]; rfl
theorem SrcC_u (hs : seed.length = 32) : (SrcC fv seed begun u bk held blk)[34]? = some (.int .i64 (u : Int)) := by
  rw [SrcC, List.getElem?_toArray, SrcL_tail hs 1]; rfl
theorem SrcC_bk (hs : seed.length = 32) : (SrcC fv seed begun u bk held blk)[35]? = some (.int .i64 (bk : Int)) := by
  rw [SrcC, List.getElem?_toArray, SrcL_tail hs 2]; rfl
theorem SrcC_held (hs : seed.length = 32) : (SrcC fv seed begun u bk held blk)[36]? = some (.bool held) := by
  rw [SrcC, List.getElem?_toArray, SrcL_tail hs 3]; rfl
theorem SrcC_blk (hs : seed.length = 32) (i : Nat) (hi : i < blk.length) : (SrcC fv seed begun u bk held blk)[37 + i]? = some (.int .u8 ((blk.getD i 0).toNat : Int)) := by
  rw [SrcC, List.getElem?_toArray, show 37 + i = 33 + (i + 4) by omega, SrcL_tail hs]
  simp [B8, hi]
theorem SrcC_seed (i : Nat) (hi : i < seed.length) : (SrcC fv seed begun u bk held blk)[1 + i]? = some (.int .u8 ((seed.getD i 0).toNat : Int)) := by
  rw [SrcC, List.getElem?_toArray, SrcL, show 1 + i = i + 1 by omega, List.getElem?_cons_succ, List.getElem?_append_left (by rw [B8_length]; exact hi)]
  simp [B8, hi]
theorem SrcC_one (h : fv.oneCell' = true) : (SrcC fv seed begun u bk held blk).all (·.oneCell') = true := all_oneCell_toArray (by
  intro v hv
  simp only [SrcL, List.mem_cons, List.mem_append, B8, List.mem_map] at hv
  rcases hv with rfl | ⟨x, _, rfl⟩ | rfl | rfl | rfl | rfl | ⟨x, _, rfl⟩ <;> first | exact h | rfl)
theorem SrcC_set_begun (hs : seed.length = 32) (b2 : Bool) : (SrcC fv seed begun u bk held blk).setIfInBounds 33 (.bool b2) = SrcC fv seed b2 u bk held blk := by
  rw [SrcC, SrcC, List.setIfInBounds_toArray, SrcL, SrcL, List.set_cons_succ, List.set_append_right _ _ (by rw [B8_length, hs]; omega), B8_length, hs]
  rfl
theorem SrcC_set_u (hs : seed.length = 32) (u2 : Nat) : (SrcC fv seed begun u bk held blk).setIfInBounds 34 (.int .i64 (u2 : Int)) = SrcC fv seed begun u2 bk held blk := by
  rw [SrcC, SrcC, List.setIfInBounds_toArray, SrcL, SrcL, List.set_cons_succ, List.set_append_right _ _ (by rw [B8_length, hs]; omega), B8_length, hs]
  rfl
theorem SrcC_set_f (f2 : Value) : (SrcC fv seed begun u bk held blk).setIfInBounds 0 f2 = SrcC f2 seed begun u bk held blk := by simp [SrcC, SrcL]
theorem SrcC_put_seed (hs : seed.length = 32) (v : List UInt8) (hv : v.length = 32) :
    ((SrcC fv seed begun u bk held blk).toList.take 1 ++ ((W8 v).toList ++ (SrcC fv seed begun u bk held blk).toList.drop (1 + (W8 v).size))).toArray = SrcC fv v begun u bk held blk := by
  rw [W8_size, hv]
  simp only [SrcC, SrcL, List.take_succ_cons, List.take_zero, Nat.add_comm 1 32, List.drop_succ_cons]
  rw [List.drop_append_of_le_length (by rw [B8_length, hs]; omega), List.drop_of_length_le (by rw [B8_length, hs]; omega)]
  simp [W8, B8]
theorem SrcC_put_at (hs : seed.length = 32) (u2 bk2 : Nat) (h2 : Bool) :
    ((SrcC fv seed begun u bk held blk).toList.take 34 ++ (([.int .i64 (u2 : Int), .int .i64 (bk2 : Int), .bool h2] : List Value) ++ (SrcC fv seed begun u bk held blk).toList.drop (34 + 3))).toArray = SrcC fv seed begun u2 bk2 h2 blk := by
  have e1 : (SrcL fv seed begun u bk held blk).take 34 = fv :: (B8 seed ++ [.bool begun]) := by
    rw [SrcL, List.take_succ_cons, List.take_append, List.take_of_length_le (by rw [B8_length, hs]; omega), B8_length, hs]
    rfl
  have e2 : (SrcL fv seed begun u bk held blk).drop 37 = B8 blk := by
    rw [SrcL, List.drop_succ_cons, List.drop_append, List.drop_of_length_le (by rw [B8_length, hs]; omega), B8_length, hs]
    rfl
  rw [SrcC, SrcC]
  simp only [Nat.reduceAdd]
  rw [e1, e2]
  simp [SrcL]
theorem SrcC_put_blk (hs : seed.length = 32) (hb : blk.length = 32) (v : List UInt8) (hv : v.length = 32) :
    ((SrcC fv seed begun u bk held blk).toList.take 37 ++ ((W8 v).toList ++ (SrcC fv seed begun u bk held blk).toList.drop (37 + (W8 v).size))).toArray = SrcC fv seed begun u bk held v := by
  have e1 : (SrcL fv seed begun u bk held blk).take 37 = fv :: (B8 seed ++ [.bool begun, .int .i64 (u : Int), .int .i64 (bk : Int), .bool held]) := by
    rw [SrcL, List.take_succ_cons, List.take_append, List.take_of_length_le (by rw [B8_length, hs]; omega), B8_length, hs]
    rfl
  have e2 : (SrcL fv seed begun u bk held blk).drop 69 = [] := List.drop_of_length_le (by have := @SrcC_size fv seed blk begun held u bk hs hb; simp only [SrcC, List.size_toArray] at this; omega)
  rw [SrcC, SrcC, W8_size, hv]
  simp only [Nat.reduceAdd]
  rw [e1, e2]
  simp [SrcL, W8, B8]
end
/-- A byte of the source. -/
def byteS (F : List UInt8) (i : Nat) : UInt8 := if i < F.length then F.getD i 0 else (hashL (hashL F ++ beL 8 ((i - F.length) / 32))).getD ((i - F.length) % 32) 0
/-- A source at block g, its first bytes in block D, so many told. -/
structure Src (g D : Nat) (F : List UInt8) (u : Nat) (b : Bool) (W : World) : Prop where
  has : ∃ A c seed begun bk held blk, W.heap[g]? = some (.cells (SrcC (.slice A F.length c) seed begun u bk held blk) 70 (0, 0)) ∧ F.length ≤ c ∧ RdB W A F ∧ (∀ a, A = some a → a.block ≠ g ∧ a.block < W.heap.size ∧ a.block = D) ∧ seed.length = 32 ∧ blk.length = 32 ∧ (begun = true → seed = hashL F) ∧ (held = true → begun = true ∧ blk = hashL (hashL F ++ beL 8 bk)) ∧ (b = true → begun = true)
theorem Src.lt {g D : Nat} {F : List UInt8} {u : Nat} {b : Bool} {W : World} (h : Src g D F u b W) : g < W.heap.size := by
  obtain ⟨A, c, seed, begun, bk, held, blk, h1, _⟩ := h.has
  exact row_lt h1
theorem Src.keep {g D : Nat} {F : List UInt8} {u : Nat} {b : Bool} {W W' : World} (h : Src g D F u b W) (hb : Below W.heap.size W W') : Src g D F u b W' := by
  obtain ⟨A, c, seed, begun, bk, held, blk, h1, h2, h3, h4, h5⟩ := h.has
  exact ⟨A, c, seed, begun, bk, held, blk, below_block hb (row_lt h1) h1, h2, h3.keep hb, fun a e => ⟨(h4 a e).1, Nat.lt_of_lt_of_le (h4 a e).2.1 hb.size, (h4 a e).2.2⟩, h5⟩
theorem Src.far {g D : Nat} {F : List UInt8} {u : Nat} {b : Bool} {W W' : World} {r : Option Nat} (h : Src g D F u b W) (hg : W.grownBy W' r) (hr : ∀ k, r = some k → k ≠ g ∧ k ≠ D) : Src g D F u b W' := by
  obtain ⟨A, c, seed, begun, bk, held, blk, h1, h2, h3, h4, h5⟩ := h.has
  exact ⟨A, c, seed, begun, bk, held, blk, grown_block hg (fun e => (hr g e.symm).1 rfl) h1, h2, h3.grown hg (fun k e a ea => by have := (h4 a ea).2.2; have := (hr k e).2; omega), fun a e => ⟨(h4 a e).1, Nat.lt_of_lt_of_le (h4 a e).2.1 hg.size, (h4 a e).2.2⟩, h5⟩
end Go.Proofs.Ytldjiigkebkgcaa

/- draws.Source: begin. No condition but those each theorem states. -/
namespace Go.Proofs.Ytldjiigkebkgcaa
set_option linter.unusedVariables false
set_option linter.unusedSimpArgs false
open Go.RowKit
attribute [local go_sem ↓] Go.wp_at_zero Go.wp_at_succ

set_option maxRecDepth 100000 in
set_option maxHeartbeats 2000000 in
theorem sbegin_any (g D : Nat) (F : List UInt8) (u : Nat) (b : Bool) (w : World) (h : Src g D F u b w) (hb : F.length ≤ 100000) :
    Calls Try.prog 25 #[.pointer (some ⟨g, 0, none⟩)] w fun e w' => e = .returned (.tuple #[]) ∧ Src g D F u true w' ∧ w.grownBy w' (some g) := by
  obtain ⟨A, c, seed, begun, bk, held, blk, h1, h2, h3, h4, hs, hk, h5, h6, h7⟩ := h.has
  obtain ⟨n, hn⟩ : ∃ n, n = F.length := ⟨_, rfl⟩
  rw [← hn] at h1 h2 hb
  have NE := Lib.hid hn.symm
  have GA := Lib.hid h1
  have HC := Lib.hid h2
  have RA := Lib.hid h3
  have HA := Lib.hid h4
  have HS := Lib.hid hs
  have HK := Lib.hid hk
  have H5 := Lib.hid h5
  have H6 := Lib.hid h6
  have NB := Lib.hid hb
  have c33 := row_cell h1 33 (SrcC_begun hs)
  have c0 := row_cell h1 0 SrcC_f
  clear h h1 h2 h3 h4 hs hk h5 h6 h7 hn hb
  go_enter Try.func25, Try.ntmps25
  rcases begun with _ | _
  · go_wp2_with fail
    refine (shaSum_any w A n c F NE.out HC.out RA.out (by have := NB.out; omega)).mono ?_
    obtain ⟨L, hL⟩ : ∃ L, L = hashL F := ⟨_, rfl⟩
    rw [← hL]
    have LE := Lib.hid hL
    have LL := Lib.hid (show L.length = 32 by rw [hL, hashL_length])
    have Z := Lib.hid (show (Try.prog.info? 36).map (·.size) = some (W8 L).size by rw [W8_size, LL.out]; kernel_rfl)
    rintro e w1 ⟨rfl, hb1⟩
    have GA := Lib.hid (below_block hb1 (row_lt GA.out) GA.out)
    have B1 := Lib.hid hb1
    clear hL hb1 c33 c0
    go_wp2_with (refine storeM_list rfl 36 (.tmp 15) (.tmp 13) rfl g 1 (W8 L) rfl rfl _ _ GA.out Z.out (by rw [SrcC_size HS.out HK.out, W8_size, LL.out]; decide) (W8_one _) ?_; intro w2 hg2 hgr2 hs2; rw [SrcC_put_seed HS.out _ LL.out] at hg2; have c33 := row_cell hg2 33 (SrcC_begun LL.out); have f33 := row_free hg2 33; have G2 := Lib.hid hg2; have R2 := Lib.hid hgr2; clear hg2 hgr2 hs2)
    go_end0
    have hw : w.grownBy (w2.setCell ⟨g, 33, none⟩ (.bool true)) (some g) := World.grownBy.trans (grown_of_below B1.out |>.mono_none) (World.grownBy.trans R2.out (grown_set (World.grownBy.refl _ _) _ _))
    refine ⟨rfl, ⟨A, c, L, true, bk, held, blk, ?_, by rw [NE.out]; exact HC.out, RA.out.grown hw (fun k e a ea => by cases e; exact (HA.out a ea).1), fun a ea => ⟨(HA.out a ea).1, Nat.lt_of_lt_of_le (HA.out a ea).2.1 hw.size, (HA.out a ea).2.2⟩, LL.out, HK.out, fun _ => LE.out, fun e => ?_, fun _ => rfl⟩, hw⟩
    · rw [heap_setCell_same _ _ _ _ _ _ G2.out, SrcC_set_begun LL.out, NE.out]
    · have := (H6.out e).1
      cases this
  · go_wp2_with fail
    go_end0
    exact ⟨rfl, ⟨A, c, seed, true, bk, held, blk, by rw [NE.out]; exact GA.out, by rw [NE.out]; exact HC.out, RA.out, HA.out, HS.out, HK.out, fun _ => H5.out trivial, fun e => ⟨rfl, (H6.out e).2⟩, fun _ => rfl⟩, World.grownBy.refl _ _⟩
end Go.Proofs.Ytldjiigkebkgcaa

/- draws.Source: behind. No condition but those each theorem states. -/
namespace Go.Proofs.Ytldjiigkebkgcaa
set_option linter.unusedVariables false
set_option linter.unusedSimpArgs false
open Go.RowKit
attribute [local go_sem ↓] Go.wp_at_zero Go.wp_at_succ

def plV (u bk : Nat) (held : Bool) : Value := .agg #[.int .i64 (u : Int), .int .i64 (bk : Int), .bool held]
theorem run_neq_place {o : Oper} {a : Act} (x y : Operand) (ho : o.op = .binOp .neq 68 x y 68) (u bk n : Nat) (held : Bool) (hx : a.eval x = plV u bk held) (hy : a.eval y = plV u n true) (W : World) :
    (execOp a.eval o).run Try.prog W = .ok (.value (.bool (!(decide (bk = n) && held)))) W := by
  unfold execOp plV at *
  simp only [ho, hx, hy, Sem.run_bind, Sem.run_pure]
  have h1 : ((bk : Int) == (n : Int)) = decide (bk = n) := by rw [Bool.eq_iff_iff]; simp; omega
  cases held <;> by_cases e : bk = n
  all_goals go_simp
theorem run_load_place {o : Oper} {a : Act} (x : Operand) (ho : o.op = .load 68 x) (b off : Nat) (hx : a.eval x = .pointer (some ⟨b, off, none⟩)) (u bk : Nat) (held : Bool) {W : World}
    (h0 : W.cell? ⟨b, off, none⟩ = some (.int .i64 (u : Int))) (h1 : W.cell? ⟨b, off + 1, none⟩ = some (.int .i64 (bk : Int))) (h2 : W.cell? ⟨b, off + 2, none⟩ = some (.bool held)) :
    (execOp a.eval o).run Try.prog W = .ok (.value (plV u bk held)) W := by
  have hr : W.rangeAt b off [.int .i64 (u : Int), .int .i64 (bk : Int), .bool held] := by
    intro j v hj
    match j, hj with
    | 0, hj => simp at hj; subst hj; exact h0
    | 1, hj => simp at hj; subst hj; exact h1
    | 2, hj => simp at hj; subst hj; exact h2
  unfold execOp
  simp only [ho, hx, Instr.loadAt, Instr.sureAddr, Sem.run_bind, Sem.run_pure, Result.andThen_ok, run_loadVar_mid W b off _ _ _ hr Try.underlying68 rfl (show (Try.prog.info? 68).map (·.size) = some 3 by kernel_rfl)]
  rfl
theorem same_false (bk n : Nat) (held : Bool) (h : ¬ (bk = n ∧ held = true)) : (!(decide (bk = n) && held)) = true := by
  cases held
  · simp
  · have : ¬ bk = n := fun e => h ⟨e, rfl⟩
    simp [this]
theorem same_true (bk n : Nat) (held : Bool) (h1 : bk = n) (h2 : held = true) : (!(decide (bk = n) && held)) = false := by rw [h1, h2]; simp
/-- The block behind. -/
def blockS (F : List UInt8) (n : Nat) : List UInt8 := hashL (hashL F ++ beL 8 n)
set_option maxRecDepth 100000 in
set_option maxHeartbeats 4000000 in
theorem behind_any (g D : Nat) (F : List UInt8) (u : Nat) (w : World) (h : Src g D F u true w) (hb : F.length ≤ 100000) (hu : u ≤ 1000000) (i : Nat) (hi : i ≤ 1000000) :
    Calls Try.prog 45 #[.pointer (some ⟨g, 0, none⟩), .int .i64 (i : Int)] w fun e w' => e = .returned (.int .u8 (((blockS F (i / 32)).getD (i % 32) 0).toNat : Int)) ∧ Src g D F u true w' ∧ w.grownBy w' (some g) := by
  obtain ⟨A, c, seed, begun, bk, held, blk, h1, h2, h3, h4, hs, hk, h5, h6, h7⟩ := h.has
  obtain rfl : begun = true := h7 rfl
  have HF := Lib.hid (show F.length ≤ c from h2)
  have RA := Lib.hid h3
  have HA := Lib.hid h4
  have HS := Lib.hid hs
  have HK := Lib.hid hk
  have H5 := Lib.hid (h5 rfl)
  have H6 := Lib.hid (fun e => (h6 e).2)
  have GA := Lib.hid h1
  have ub : (u : Int) ≤ 1000000 := by omega
  obtain ⟨x, hx⟩ : ∃ x : UInt64, x.toNat = i / 32 := ⟨UInt64.ofNat (i / 32), by simp; omega⟩
  obtain ⟨n, hn⟩ : ∃ n, n = i / 32 := ⟨_, rfl⟩
  obtain ⟨r, hr⟩ : ∃ r, r = i % 32 := ⟨_, rfl⟩
  rw [← hn, ← hr]
  rw [← hn] at hx
  have XN := Lib.hid hx
  clear hx
  have e1 : (i : Int).tdiv 32 = (n : Int) := by rw [Int.tdiv_eq_ediv_of_nonneg (by omega)]; omega
  have e2 : (i : Int).tmod 32 = (r : Int) := by rw [Int.tmod_eq_emod_of_nonneg (by omega)]; omega
  have nb : (n : Int) ≤ 1000000 := by omega
  have rb : (r : Int) < 32 := by omega
  have ib : (i : Int) ≤ 1000000 := by omega
  obtain ⟨y, hy⟩ : ∃ y, y = (blockS F n).getD r 0 := ⟨_, rfl⟩
  rw [← hy]
  have Y := Lib.hid hy
  clear hy
  have R32 := Lib.hid (show r < 32 by omega)
  have c34 := row_cell h1 34 (SrcC_u hs)
  obtain ⟨fv, hfv⟩ : ∃ fv, fv = Value.slice A F.length c := ⟨_, rfl⟩
  rw [← hfv] at GA
  have FV := Lib.hid hfv
  clear hfv h h1 h2 h3 h4 hs hk h5 h6 h7 hn hr hi hu hb
  go_enter Try.func45, Try.ntmps45
  go_upto_region 3 with fail
  obtain ⟨E, hE⟩ : ∃ E, E = w.heap.size := ⟨_, rfl⟩
  generalize hw : World.alloc w _ = w1
  have hb1 : Below w.heap.size w w1 := by rw [← hw]; exact below_new _ _
  have GE := Lib.hid (show g < E by rw [hE]; exact row_lt GA.out)
  have S := Lib.hid (show w1.heap[g]? = some (.cells (SrcC fv seed true u bk held blk) 70 (0, 0)) ∧ w1.heap[E]? = some (.cells #[.int .i64 (u : Int), .int .i64 (n : Int), .bool true] 68 (0, 0)) from
    ⟨below_block hb1 (row_lt GA.out) GA.out, by rw [← hw]; exact ha_new _ _ _ hE⟩)
  have B1 := Lib.hid hb1
  rw [← hE]
  clear hw hb1 hE c34
  have SD := Lib.hid (show w1.drew.heap[g]? = some (.cells (SrcC fv seed true u bk held blk) 70 (0, 0)) ∧ w1.drew.heap[E]? = some (.cells #[.int .i64 (u : Int), .int .i64 (n : Int), .bool true] 68 (0, 0)) from S.out)
  refine wp_region_road (fun W => W.heap[g]? = some (.cells (SrcC fv seed true u bk held blk) 70 (0, 0)) ∧ W.heap[E]? = some (.cells #[.int .i64 (u : Int), .int .i64 (n : Int), .bool true] 68 (0, 0))) [(true, 0), (true, 1), (true, 2), (true, 3), (true, 4), (true, 5)] (by kernel_rfl) (by kernel_rfl) (fun _ _ d _ _ h => by cases d <;> exact h) ?_
  simp only [List.filterMap_cons, List.filterMap_nil, List.getElem?_toArray, List.getElem?_cons_zero, List.getElem?_cons_succ, Option.map_some]
  refine planG_q (v := ?_) (by rfl) (SD.out) ?_ ?_
  rotate_left
  · intro W hW
    go_simp
    with_reducible rfl
  simp only [Act.put, List.setIfInBounds_toArray, List.set_cons_zero, List.set_cons_succ]
  refine planG_q (v := ?_) (by rfl) (SD.out) ?_ ?_
  rotate_left
  · intro W hW
    go_simp
    with_reducible rfl
  simp only [Act.put, List.setIfInBounds_toArray, List.set_cons_zero, List.set_cons_succ]
  refine planG_q (v := ?_) (by rfl) (SD.out) ?_ ?_
  rotate_left
  · intro W hW
    go_simp
    with_reducible rfl
  simp only [Act.put, List.setIfInBounds_toArray, List.set_cons_zero, List.set_cons_succ]
  refine planG_q (by rfl) (SD.out) (fun W hW => run_load_place (.tmp 18) rfl g 34 rfl u bk held (row_cell hW.1 34 (SrcC_u HS.out)) (row_cell hW.1 35 (SrcC_bk HS.out)) (row_cell hW.1 36 (SrcC_held HS.out))) ?_
  simp only [Act.put, List.setIfInBounds_toArray, List.set_cons_zero, List.set_cons_succ]
  refine planG_q (by rfl) (SD.out) (fun W hW => run_load_place (.tmp 6) rfl E 0 rfl u n true (row_cell hW.2 0 rfl) (row_cell hW.2 1 rfl) (row_cell hW.2 2 rfl)) ?_
  simp only [Act.put, List.setIfInBounds_toArray, List.set_cons_zero, List.set_cons_succ]
  refine planG_q (by rfl) (SD.out) (fun W hW => run_neq_place (.tmp 19) (.tmp 20) rfl u bk n held rfl rfl W) ?_
  simp only [Act.put, List.setIfInBounds_toArray, List.set_cons_zero, List.set_cons_succ]
  refine planG_nil ?_
  have B1 := Lib.hid (B1.out.trans (Below.refl _ _).drew)
  generalize World.drew w1 = w2 at *
  have BN := Lib.hid (show (blockS F n).length = 32 from hashL_length _)
  have GR := Lib.hid (show w.grownBy w2 (some g) from (grown_of_below B1.out).mono_none)
  clear S
  go_upto_if 21 with fail
  go_cut [0] (fun v wx => v = .pointer (some ⟨g, 0, none⟩) ∧ wx.heap[g]? = some (.cells (SrcC fv seed true u n true (blockS F n)) 70 (0, 0)) ∧ w.grownBy wx (some g))
  case first =>
    by_cases hsame : bk = n ∧ held = true
    · obtain ⟨h1, h2⟩ := hsame
      have SE := Lib.hid (show w2.heap[g]? = some (.cells (SrcC fv seed true u n true (blockS F n)) 70 (0, 0)) by
        have h3 := H6.out h2
        rw [h1] at h3
        have h4 := SD.out.1
        rw [h1, h2, h3] at h4
        exact h4)
      have hB := same_true bk n held h1 h2
      clear h1 h2
      generalize (!(decide (bk = n) && held)) = B at hB ⊢
      subst hB
      go_wp2_with fail
      go_meet
      exact ⟨rfl, SE.out, GR.out⟩
    · have hB := same_false bk n held hsame
      generalize (!(decide (bk = n) && held)) = B at hB ⊢
      subst hB
      clear hsame
      go_upto_region 4 with fail
      have SD := Lib.hid (show w2.drew.heap[g]? = some (.cells (SrcC fv seed true u bk held blk) 70 (0, 0)) ∧ w2.drew.heap[E]? = some (.cells #[.int .i64 (u : Int), .int .i64 (n : Int), .bool true] 68 (0, 0)) from SD.out)
      have GR := Lib.hid (show w.grownBy w2.drew (some g) from World.grownBy.trans GR.out (grown_drew (World.grownBy.refl _ _)))
      generalize hw3 : World.drew w2 = w3 at SD GR
      refine wp_region_road (fun _ => True) [(true, 0), (true, 1), (true, 2), (true, 3), (true, 4), (true, 5), (true, 6), (false, 7), (false, 8), (false, 9), (true, 10), (true, 11), (false, 12)] (by kernel_rfl) (by kernel_rfl) (fun _ _ d _ _ h => by cases d <;> exact h) ?_
      simp only [List.filterMap_cons, List.filterMap_nil, List.getElem?_toArray, List.getElem?_cons_zero, List.getElem?_cons_succ, Option.map_some]
      rw [hw3]
      clear hw3
      have e5 : IntKind.u64.wrap (n : Int) = (n : Int) := by rw [IntKind.wrap_u64]; omega
      refine planG_q (v := ?_) (by rfl) (trivial) ?_ ?_
      rotate_left
      · intro W hW
        go_simp
        with_reducible rfl
      simp only [Act.put, List.setIfInBounds_toArray, List.set_cons_zero, List.set_cons_succ]
      refine planG_q (v := ?_) (by rfl) (trivial) ?_ ?_
      rotate_left
      · intro W hW
        go_simp
        with_reducible rfl
      simp only [Act.put, List.setIfInBounds_toArray, List.set_cons_zero, List.set_cons_succ]
      refine planG_q (v := ?_) (by rfl) (trivial) ?_ ?_
      rotate_left
      · intro W hW
        go_simp
        with_reducible rfl
      simp only [Act.put, List.setIfInBounds_toArray, List.set_cons_zero, List.set_cons_succ]
      refine planG_q (v := ?_) (by rfl) (trivial) ?_ ?_
      rotate_left
      · intro W hW
        go_simp
        with_reducible rfl
      simp only [Act.put, List.setIfInBounds_toArray, List.set_cons_zero, List.set_cons_succ]
      refine planG_q (v := ?_) (by rfl) (trivial) ?_ ?_
      rotate_left
      · intro W hW
        go_simp
        with_reducible rfl
      simp only [Act.put, List.setIfInBounds_toArray, List.set_cons_zero, List.set_cons_succ]
      refine planG_q (v := ?_) (by rfl) (trivial) ?_ ?_
      rotate_left
      · intro W hW
        go_simp
        with_reducible rfl
      simp only [Act.put, List.setIfInBounds_toArray, List.set_cons_zero, List.set_cons_succ]
      refine planG_q (v := ?_) (by rfl) (trivial) ?_ ?_
      rotate_left
      · intro W hW
        go_simp
        with_reducible rfl
      simp only [Act.put, List.setIfInBounds_toArray, List.set_cons_zero, List.set_cons_succ]
      clear e5
      refine planG_t (by rfl) (fun K hK => ?_)
      go_simp
      refine (show Calls _ _ _ _ _ by have P := put_any w3 none 0 0 [] x 8 (by omega) rfl (RdB.nil _ _) (by omega); rw [XN.out] at P; exact P).mono ?_
      rw [show [] ++ beL (putN 8) n = beL 8 n from rfl]
      rintro e w4 ⟨v, rfl, ho, hb⟩
      obtain ⟨Av, cv, rfl, hrv, hlv, _, _⟩ := ho.read
      rw [beL_length] at hlv ⊢
      have SD := Lib.hid (show w4.heap[g]? = some (.cells (SrcC fv seed true u bk held blk) 70 (0, 0)) ∧ w4.heap[E]? = some (.cells #[.int .i64 (u : Int), .int .i64 (n : Int), .bool true] 68 (0, 0)) from ⟨below_block hb (row_lt SD.out.1) SD.out.1, below_block hb (row_lt SD.out.2) SD.out.2⟩)
      have GR := Lib.hid (World.grownBy.trans GR.out (grown_of_below hb).mono_none)
      have RV := Lib.hid hrv
      have CV := Lib.hid hlv
      clear ho hb hrv hlv
      refine hK.out _ _ (trivial) ?_
      clear hK K
      refine planG_t (by rfl) (fun K hK => ?_)
      go_simp
      generalize hB : Array.size (World.heap w4) = NB
      generalize hw : World.alloc w4 _ = w5
      obtain ⟨hrow5, hb5⟩ := built_rows hw hB
      have SD := Lib.hid (show w5.heap[g]? = some (.cells (SrcC fv seed true u bk held blk) 70 (0, 0)) ∧ w5.heap[E]? = some (.cells #[.int .i64 (u : Int), .int .i64 (n : Int), .bool true] 68 (0, 0)) from ⟨below_block hb5 (row_lt SD.out.1) SD.out.1, below_block hb5 (row_lt SD.out.2) SD.out.2⟩)
      have GR := Lib.hid (World.grownBy.trans GR.out (grown_of_below hb5).mono_none)
      have RV := Lib.hid (RV.out.keep hb5)
      have RO := Lib.hid hrow5
      clear hw hB hrow5 hb5
      refine hK.out _ _ (trivial) ?_
      clear hK K
      refine planG_t (by rfl) (fun K hK => ?_)
      go_simp
      refine (of_any w5 (some ⟨NB, 0, none⟩) 2 2 [.slice (some ⟨g, 1, none⟩) 32 32, .slice Av 8 cv] [seed, beL 8 n] rfl RO.out (.cons ⟨some ⟨g, 1, none⟩, 32, by rw [HS.out], by rw [HS.out]; exact Nat.le_refl _, fun j hj => ⟨g, 1, rfl, row_cell SD.out.1 (1 + j) (SrcC_seed j hj)⟩⟩ (.cons ⟨Av, cv, by rw [beL_length], by rw [beL_length]; exact CV.out, RV.out⟩ .nil)) (by simp [HS.out, beL_length]) (by omega)).mono ?_
      obtain ⟨L, hL⟩ : ∃ L, L = hashL [seed, beL 8 n].flatten := ⟨_, rfl⟩
      rw [← hL]
      have LE := Lib.hid (show L = blockS F n by rw [hL, blockS, H5.out]; simp)
      have LL := Lib.hid (show L.length = 32 by rw [hL, hashL_length])
      have Z := Lib.hid (show (Try.prog.info? 36).map (·.size) = some (W8 L).size by rw [W8_size, LL.out]; kernel_rfl)
      rintro e w6 ⟨rfl, hb⟩
      have SD := Lib.hid (show w6.heap[g]? = some (.cells (SrcC fv seed true u bk held blk) 70 (0, 0)) ∧ w6.heap[E]? = some (.cells #[.int .i64 (u : Int), .int .i64 (n : Int), .bool true] 68 (0, 0)) from ⟨below_block hb (row_lt SD.out.1) SD.out.1, below_block hb (row_lt SD.out.2) SD.out.2⟩)
      have GR := Lib.hid (World.grownBy.trans GR.out (grown_of_below hb).mono_none)
      clear hL hb
      refine hK.out _ _ (trivial) ?_
      clear hK K
      refine planG_q (v := ?_) (by rfl) (trivial) ?_ ?_
      rotate_left
      · intro W hW
        go_simp
        with_reducible rfl
      simp only [Act.put, List.setIfInBounds_toArray, List.set_cons_zero, List.set_cons_succ]
      refine planG_q (v := ?_) (by rfl) (trivial) ?_ ?_
      rotate_left
      · intro W hW
        go_simp
        with_reducible rfl
      simp only [Act.put, List.setIfInBounds_toArray, List.set_cons_zero, List.set_cons_succ]
      refine planG_t (by rfl) (fun K hK => ?_)
      refine storeM_wp 36 (.tmp 33) (.tmp 31) rfl g 37 (W8 L) rfl rfl _ _ SD.out.1 Z.out (by rw [SrcC_size HS.out HK.out, W8_size, LL.out]; decide) (W8_one _) (fun w7 hr7 hg7 _ => ?_)
      rw [SrcC_put_blk HS.out HK.out _ LL.out] at hr7
      have R7 := Lib.hid hr7
      have E7 := Lib.hid (grown_block hg7 (by have := GE.out; simp; omega) SD.out.2)
      have GR := Lib.hid (World.grownBy.trans GR.out hg7)
      clear hr7 hg7
      refine hK.out _ _ (trivial) ?_
      clear hK K
      refine planG_nil ?_
      have Z3 := Lib.hid (show (Try.prog.info? 68).map (·.size) = some 3 by kernel_rfl)
      have S3 := Lib.hid (show 34 + (#[.int .i64 (u : Int), .int .i64 (n : Int), .bool true] : Array Value).size ≤ (SrcC fv seed true u bk held L).size by rw [SrcC_size HS.out LL.out]; simp)
      have O3 := Lib.hid (show (#[.int .i64 (u : Int), .int .i64 (n : Int), .bool true] : Array Value).all (·.oneCell') = true by simp [Value.oneCell'])
      go_wp2_with (first
        | (refine wpList_val rfl (show (execOp _ _).run _ _ = .ok (.value (.agg #[.int .i64 (u : Int), .int .i64 (n : Int), .bool true])) _ from run_load_place (.tmp 6) rfl E 0 rfl u n true (row_cell E7.out 0 rfl) (row_cell E7.out 1 rfl) (row_cell E7.out 2 rfl)) ?_)
        | (refine storeM_list rfl 68 (.tmp 37) (.tmp 35) rfl g 34 #[.int .i64 (u : Int), .int .i64 (n : Int), .bool true] rfl rfl _ _ R7.out Z3.out S3.out O3.out ?_; intro w8 hr8 hg8 _))
      go_meet
      refine ⟨rfl, ?_, World.grownBy.trans GR.out hg8⟩
      rw [hr8, ← LE.out]
      exact congrArg (fun z => some (Obj.cells z 70 (0, 0))) (SrcC_put_at HS.out u n true)
  case rest =>
  obtain ⟨rfl, hrow, hgr⟩ := hcut
  have c := row_cell hrow (37 + r) (SrcC_blk HS.out r (by rw [BN.out]; exact R32.out))
  have ROW := Lib.hid hrow
  have HG := Lib.hid hgr
  clear hrow hgr
  rw [← Y.out] at c
  go_wp2_with fail
  go_ret
  refine ⟨rfl, ⟨A, _, seed, true, n, true, blockS F n, by rw [ROW.out, FV.out], HF.out, RA.out.grown HG.out (fun k e a ea => by cases e; exact (HA.out a ea).1), fun a ea => ⟨(HA.out a ea).1, Nat.lt_of_lt_of_le (HA.out a ea).2.1 HG.out.size, (HA.out a ea).2.2⟩, HS.out, BN.out, fun _ => H5.out, fun _ => ⟨rfl, rfl⟩, fun _ => rfl⟩, HG.out⟩
end Go.Proofs.Ytldjiigkebkgcaa

/- draws.Source: next, Used. No condition but those each theorem states. -/
namespace Go.Proofs.Ytldjiigkebkgcaa
set_option linter.unusedVariables false
set_option linter.unusedSimpArgs false
open Go.RowKit
attribute [local go_sem ↓] Go.wp_at_zero Go.wp_at_succ

theorem Src.u {g D : Nat} {F : List UInt8} {u : Nat} {b : Bool} {W : World} (h : Src g D F u b W) : W.cell? ⟨g, 34, none⟩ = some (.int .i64 (u : Int)) := by
  obtain ⟨A, c, seed, begun, bk, held, blk, h1, h2, h3, h4, hs, _⟩ := h.has
  exact row_cell h1 34 (SrcC_u hs)
theorem Src.free {g D : Nat} {F : List UInt8} {u : Nat} {b : Bool} {W : World} (h : Src g D F u b W) (i : Nat) : W.frozen? ⟨g, i, none⟩ = false := by
  obtain ⟨A, c, seed, begun, bk, held, blk, h1, _⟩ := h.has
  exact row_free h1 i
theorem Src.told {g D : Nat} {F : List UInt8} {u : Nat} {b : Bool} {W : World} (h : Src g D F u b W) (u2 : Nat) : Src g D F u2 b (W.setCell ⟨g, 34, none⟩ (.int .i64 (u2 : Int))) := by
  obtain ⟨A, c, seed, begun, bk, held, blk, h1, h2, h3, h4, hs, h5⟩ := h.has
  have hw : W.grownBy (W.setCell ⟨g, 34, none⟩ (.int .i64 (u2 : Int))) (some g) := grown_set (World.grownBy.refl _ _) _ _
  exact ⟨A, c, seed, begun, bk, held, blk, by rw [heap_setCell_same _ _ _ _ _ _ h1, SrcC_set_u hs], h2, h3.grown hw (fun k e a ea => by cases e; exact (h4 a ea).1), fun a e => ⟨(h4 a e).1, Nat.lt_of_lt_of_le (h4 a e).2.1 hw.size, (h4 a e).2.2⟩, hs, h5⟩
set_option maxRecDepth 100000 in
set_option maxHeartbeats 4000000 in
theorem next_any (g D : Nat) (F : List UInt8) (u : Nat) (w : World) (h : Src g D F u true w) (hb : F.length ≤ 100000) (hu : u ≤ 900000) :
    Calls Try.prog 31 #[.pointer (some ⟨g, 0, none⟩)] w fun e w' => e = .returned (.int .u8 ((byteS F u).toNat : Int)) ∧ Src g D F (u + 1) true w' ∧ w.grownBy w' (some g) := by
  have H := Lib.hid h
  obtain ⟨A, c, seed, begun, bk, held, blk, h1, h2, h3, _⟩ := h.has
  obtain ⟨n, hn⟩ : ∃ n, n = F.length := ⟨_, rfl⟩
  rw [← hn] at h1 h2 hb
  have NE := Lib.hid hn.symm
  have RA := Lib.hid h3
  have HB := Lib.hid hb
  have HU := Lib.hid hu
  have ub : (u : Int) ≤ 900000 := by omega
  have nb : (n : Int) ≤ 100000 := by omega
  have c0 := row_cell h1 0 SrcC_f
  have c34 := h.u
  obtain ⟨y, hy⟩ : ∃ y, y = byteS F u := ⟨_, rfl⟩
  rw [← hy]
  have Y := Lib.hid hy
  clear h h1 h2 h3 hn hb hu hy
  go_enter Try.func31, Try.ntmps31
  go_upto_if 16 with fail
  go_cut [4] (fun v wx => v = .int .u8 (y.toNat : Int) ∧ Src g D F u true wx ∧ w.grownBy wx (some g))
  case first =>
    by_cases hlt : u < n
    · have hD : decide ((u : Int) < (n : Int)) = true := by simp; omega
      have jb : (u : Int) < (n : Int) := by omega
      obtain ⟨b, o, rfl, hc⟩ := RA.out u (by rw [NE.out]; exact hlt)
      rw [show F.getD u 0 = y by rw [Y.out, byteS, if_pos (by rw [NE.out]; exact hlt)]] at hc
      go_wp2_with fail
      go_meet
      exact ⟨rfl, H.out, World.grownBy.refl _ _⟩
    · have hD : decide ((u : Int) < (n : Int)) = false := by simp; omega
      obtain ⟨i, hi⟩ : ∃ i, u = n + i := ⟨u - n, by omega⟩
      have e1 : (u : Int) - (n : Int) = (i : Int) := by omega
      have IE := Lib.hid hi
      clear hi
      go_wp2_with fail
      refine (behind_any g D F u w H.out (by rw [NE.out]; exact HB.out) (by have := HU.out; omega) i (by have := HU.out; have := IE.out; omega)).mono ?_
      rw [show (blockS F (i / 32)).getD (i % 32) 0 = y by rw [Y.out, byteS, if_neg (by rw [NE.out]; omega), blockS, NE.out, show u - n = i by have := IE.out; omega]]
      rintro e w1 ⟨rfl, hs, hg⟩
      have H1 := Lib.hid hs
      have G1 := Lib.hid hg
      clear hs hg
      go_wp2_with fail
      go_meet
      exact ⟨rfl, H1.out, G1.out⟩
  case rest =>
  obtain ⟨rfl, hs, hg⟩ := hcut
  have c34 := hs.u
  have f34 := hs.free 34
  have H1 := Lib.hid hs
  have G1 := Lib.hid hg
  clear hs hg
  go_wp2_with fail
  go_ret
  refine ⟨rfl, ?_, World.grownBy.trans G1.out (grown_set (World.grownBy.refl _ _) _ _)⟩
  exact H1.out.told (u + 1)
end Go.Proofs.Ytldjiigkebkgcaa

/- draws.Source: Take. No condition but those each theorem states. -/
namespace Go.Proofs.Ytldjiigkebkgcaa
set_option linter.unusedVariables false
set_option linter.unusedSimpArgs false
open Go.RowKit
attribute [local go_sem ↓] Go.wp_at_zero Go.wp_at_succ

/-- So many bytes of the source, from one on. -/
def tellS (F : List UInt8) (u : Nat) (k : Nat) : List UInt8 := (List.range k).map fun i => byteS F (u + i)
theorem tellS_length (F : List UInt8) (u k : Nat) : (tellS F u k).length = k := by simp [tellS]
theorem tellS_succ (F : List UInt8) (u k : Nat) : tellS F u (k + 1) = tellS F u k ++ [byteS F (u + k)] := by simp [tellS, List.range_succ]
theorem grown_more {w w3 w4 : World} {g : Nat} {r : Option Nat} (h : w.grownBy w3 (some g)) (h' : w3.grownBy w4 r) (hr : ∀ k, r = some k → w.heap.size ≤ k) : w.grownBy w4 (some g) :=
  ⟨h'.os.trans h.os, h'.tape.trans h.tape, h'.output.trans h.output, Nat.le_trans h.size h'.size, fun k hk hne => (h'.block k (Nat.lt_of_lt_of_le hk h.size) (fun e => by have := hr k e.symm; omega)).trans (h.block k hk hne)⟩
def takeN (m : Int) : Nat := (min (max m 0) 65536).toNat
set_option maxRecDepth 100000 in
set_option maxHeartbeats 4000000 in
theorem tell_any (g D : Nat) (F : List UInt8) (u : Nat) (b : Bool) (w : World) (h : Src g D F u b w) (hD : D < w.heap.size) (hb : F.length ≤ 100000) (m : Int) (hu : u + takeN m ≤ 900000) :
    Calls Try.prog 15 #[.pointer (some ⟨g, 0, none⟩), .int .i64 m] w fun e w' => ∃ v, e = .returned v ∧ OwnB w' w.heap.size v (tellS F u (takeN m)) ∧ Src g D F (u + takeN m) true w' ∧ w.grownBy w' (some g) := by
  have TB := Lib.hid (show ByteT Try.prog from ⟨Try.underlying23, by kernel_rfl⟩)
  obtain ⟨N, hN⟩ : ∃ N, N = takeN m := ⟨_, rfl⟩
  rw [← hN] at hu ⊢
  have N6 := Lib.hid (show N ≤ 65536 by rw [hN]; unfold takeN; omega)
  obtain ⟨p, hp⟩ : ∃ p : Int, p = max m 0 := ⟨_, rfl⟩
  have e1 : (if m < (0 : Int) then (0 : Int) else m) = p := by rw [hp]; split <;> omega
  have e2 : (if (65536 : Int) < p then (65536 : Int) else p) = (N : Int) := by rw [hN, hp]; unfold takeN; split <;> omega
  clear hp
  have H := Lib.hid h
  have GL := Lib.hid (And.intro h.lt hD)
  have HB := Lib.hid hb
  have HU := Lib.hid hu
  have nb : (N : Int) ≤ 65536 := by have := N6.out; omega
  clear h hD hb hu hN
  go_enter Try.func15, Try.ntmps15
  go_wp2_with fail
  refine (sbegin_any g D F u b w H.out HB.out).mono ?_
  rintro e w1 ⟨rfl, hs, hg⟩
  have H := Lib.hid hs
  have G := Lib.hid hg
  clear hs hg
  go_wp2_with fail
  clear e1 e2
  go_loopw [5, 13] (fun v i wr => ∃ j : Nat, j ≤ N ∧ i = .int .i64 (j : Int) ∧ OwnB wr w.heap.size v (tellS F u j) ∧ Src g D F (u + j) true wr ∧ w.grownBy wr (some g)) (fun _ i _ => N - (intOf i).toNat)
  case atStart => exact ⟨0, by omega, rfl, OwnB.nil _ _, H.out, G.out⟩
  case round =>
    obtain ⟨j, hj, rfl, ho, hs, hg⟩ := hrel
    have J := Lib.hid hj
    have O := Lib.hid ho
    have H := Lib.hid hs
    have G := Lib.hid hg
    clear ho hs hg
    by_cases hlt : j < N
    · have hDj : decide ((j : Int) < (N : Int)) = true := by simp; omega
      go_wp2_with fail
      refine (next_any g D F (u + j) wr H.out HB.out (by have := HU.out; omega)).mono ?_
      obtain ⟨y, hy⟩ : ∃ y, y = byteS F (u + j) := ⟨_, rfl⟩
      rw [← hy]
      have TE := Lib.hid (show tellS F u (j + 1) = tellS F u j ++ [y] by rw [tellS_succ, hy])
      clear hy
      rintro e w2 ⟨rfl, hs, hg⟩
      have OL := Lib.hid (fun k (e : u5.ownBlock = some k) => O.out.lt k e)
      have O := Lib.hid (O.out.grown hg (by
        rcases hq : u5.ownBlock with _ | k
        · exact .inl rfl
        · exact .inr (fun e => by injection e with e; have := (OL.out k hq).1; have := GL.out.1; omega)))
      have G := Lib.hid (World.grownBy.trans G.out hg)
      have H := Lib.hid hs
      clear hs hg
      have LJ := Lib.hid (show (tellS F u j).length = j from tellS_length _ _ _)
      go_wp2_with (refine app_list rfl TB.out (.tmp 15) (.tmp 18) rfl w.heap.size u5 (tellS F u j) [y] (some ⟨w2.heap.size, 0, none⟩) 1 1 rfl rfl rfl (O.out.alloc _) (RdB.one (y := y) (row_cell (fr := (0, 0)) (ha_new _ _ _ rfl) 0 rfl)) ?s1 ?s2 ?_)
      case s1 => have := G.out.size; simp; omega
      case s2 => have := LJ.out; have := N6.out; omega
      intro v1 w3 ho hg _
      have OL := Lib.hid (fun k (e : u5.ownBlock = some k) => O.out.lt k e)
      have H := Lib.hid ((H.out.keep (below_new w2 _)).far hg (fun k e => by have := (OL.out k e).1; have := GL.out; omega))
      have G := Lib.hid (grown_more (World.grownBy.trans G.out (grown_of_below (below_new w2 _)).mono_none) hg (fun k e => (OL.out k e).1))
      have O := Lib.hid (show OwnB w3 w.heap.size v1 (tellS F u (j + 1)) by rw [TE.out]; exact ho)
      clear ho hg
      go_wp2_with fail
      go_roundw
      case rel => exact ⟨j + 1, by omega, by go_num, O.out, H.out, G.out⟩
      case measure => simp [intOf]; omega
    · have hDj : decide ((j : Int) < (N : Int)) = false := by simp; omega
      obtain rfl : j = N := by have := J.out; omega
      go_wp2_with fail
      go_ret
      exact ⟨_, rfl, O.out, H.out, G.out⟩
end Go.Proofs.Ytldjiigkebkgcaa

/- draws.New. No condition but those each theorem states. -/
namespace Go.Proofs.Ytldjiigkebkgcaa
set_option linter.unusedVariables false
set_option linter.unusedSimpArgs false
open Go.RowKit
attribute [local go_sem ↓] Go.wp_at_zero Go.wp_at_succ

theorem run_newsrc {o : Oper} {a : Act} (x : Operand) (ho : o.op = .build 70 #[(0, x)]) (A : Option Addr) (n c : Nat) (h : a.eval x = .slice A n c) (W : World) :
    (execOp a.eval o).run Try.prog W = .ok (.value (.agg (SrcC (.slice A n c) (List.replicate 32 0) false 0 0 false (List.replicate 32 0)))) W := by
  have h2 : ∀ (A : Option Addr) (n c : Nat) (W : World), (Instr.build 70 #[(0, Value.slice A n c)]).run Try.prog W = .ok (.agg (SrcC (.slice A n c) (List.replicate 32 0) false 0 0 false (List.replicate 32 0))) W := by
    intro A n c W
    kernel_rfl
  unfold execOp
  simp only [ho, List.map_toArray, List.map_cons, List.map_nil, h, Sem.run_bind, h2, Result.andThen_ok, Sem.run_pure]
/-- A source that was just built, not begun. -/
theorem new_src {W : World} {A : Option Addr} {F : List UInt8} {c : Nat} (hc : F.length ≤ c) (hR : RdB W A F) (hA : ∀ a, A = some a → a.block < W.heap.size) :
    ∃ D, Src W.heap.size D F 0 false (W.alloc (.cells (SrcC (.slice A F.length c) (List.replicate 32 0) false 0 0 false (List.replicate 32 0)) 70)) ∧ D < W.heap.size + 1 ∧ (∀ a, A = some a → D = a.block) ∧ (A = none → D = W.heap.size) := by
  have hb := below_new W (.cells (SrcC (.slice A F.length c) (List.replicate 32 0) false 0 0 false (List.replicate 32 0)) 70)
  rcases A with _ | a
  · exact ⟨W.heap.size, ⟨none, c, List.replicate 32 0, false, 0, false, List.replicate 32 0, ha_new _ _ _ rfl, hc, hR.keep hb, fun a e => (by cases e), by simp, by simp, fun e => (by cases e), fun e => (by cases e), fun e => (by cases e)⟩, by omega, fun a e => (by cases e), fun _ => rfl⟩
  · have ha := hA a rfl
    exact ⟨a.block, ⟨some a, c, List.replicate 32 0, false, 0, false, List.replicate 32 0, ha_new _ _ _ rfl, hc, hR.keep hb, fun a' e => (by cases e; exact ⟨by omega, by rw [ha_size]; omega, rfl⟩), by simp, by simp, fun e => (by cases e), fun e => (by cases e), fun e => (by cases e)⟩, by omega, fun a' e => (by cases e; rfl), fun e => (by cases e)⟩
set_option maxRecDepth 100000 in
set_option maxHeartbeats 2000000 in
theorem dnew_any (w : World) (A : Option Addr) (n c : Nat) (vs : List Value) (ls : List (List UInt8)) (hn : vs.length = n) (hR : RdV w A vs) (hall : All2 (SlB w) vs ls) (hfl : ls.flatten.length ≤ 100000) (hnb : n ≤ 1000000) :
    Calls Try.prog 9 #[.slice A n c] w fun e w' => ∃ g D, e = .returned (.pointer (some ⟨g, 0, none⟩)) ∧ w.heap.size ≤ g ∧ D < w'.heap.size ∧ w.heap.size ≤ D ∧ Src g D ls.flatten 0 true w' ∧ Below w.heap.size w w' := by
  obtain ⟨F, hF⟩ : ∃ F, F = ls.flatten := ⟨_, rfl⟩
  have HF := Lib.hid (show F.length ≤ 100000 by rw [hF]; exact hfl)
  have P := Lib.hid (by have P := concat_any w A n c vs ls hn hR hall (by omega) hnb; rw [← hF] at P; exact P)
  rw [← hF]
  clear hF hn hR hall hfl hnb
  go_enter Try.func9, Try.ntmps9
  go_wp2_with fail
  refine P.out.mono ?_
  rintro e w1 ⟨v, rfl, ho, hb⟩
  obtain ⟨Av, cv, rfl, hrv, hlv, _, hav⟩ := ho.read
  have NS := Lib.hid (new_src hlv hrv (fun a e => (hav a e).2))
  have AV := Lib.hid hav
  have B := Lib.hid hb
  obtain ⟨m, hm⟩ : ∃ m, m = F.length := ⟨_, rfl⟩
  rw [← hm] at NS ⊢
  clear ho hb hrv hlv hav hm P
  obtain ⟨C, hC⟩ : ∃ C, C = SrcC (.slice Av m cv) (List.replicate 32 0) false 0 0 false (List.replicate 32 0) := ⟨_, rfl⟩
  rw [← hC] at NS
  have CE := Lib.hid hC
  clear hC
  go_wp2_with (refine wpList_val rfl (show (execOp _ _).run _ _ = .ok (.value (.agg C)) _ by rw [CE.out]; exact run_newsrc (.tmp 5) rfl Av m cv rfl _) ?_)
  obtain ⟨D, hs, hd1, hd2, hd3⟩ := NS.out
  refine (sbegin_any w1.heap.size D F 0 false _ hs HF.out).mono ?_
  rintro e w2 ⟨rfl, hs2, hg⟩
  have S2 := Lib.hid hs2
  have G2 := Lib.hid hg
  have D1 := Lib.hid hd1
  have D2 := Lib.hid hd2
  have D3 := Lib.hid hd3
  clear hs hs2 hg hd1 hd2 hd3
  go_wp2_with fail
  go_ret
  have hz := B.out.size
  refine ⟨_, D, rfl, hz, ?_, ?_, S2.out, ?_⟩
  · have := G2.out.size; rw [ha_size] at this; have := D1.out; omega
  · rcases Av with _ | a
    · have := D3.out rfl; omega
    · have := D2.out a rfl; have := (AV.out a rfl).1; omega
  · exact (B.out.alloc hz _).trans (grown_below G2.out (by rw [ha_size]; omega) (by rintro k ⟨⟩; exact hz))
theorem rangeB_of {w : World} {b o : Nat} {l : List UInt8} (h : RdB w (some ⟨b, o, none⟩) l) : w.rangeAt b o (B8 l) := by
  intro j v hj
  obtain ⟨b', o', e, hc⟩ := h.toV j v hj
  cases e
  exact hc
set_option maxRecDepth 100000 in
set_option maxHeartbeats 2000000 in
theorem dkey_any (g D : Nat) (F : List UInt8) (u : Nat) (b : Bool) (w : World) (h : Src g D F u b w) (hD : D < w.heap.size) (hb : F.length ≤ 100000) (hu : u + 32 ≤ 900000) :
    Calls Try.prog 37 #[.pointer (some ⟨g, 0, none⟩)] w fun e w' => e = .returned (.agg (W8 (tellS F u 32))) ∧ Src g D F (u + 32) true w' ∧ w.grownBy w' (some g) := by
  have H := Lib.hid h
  have HD := Lib.hid hD
  have HB := Lib.hid hb
  have HU := Lib.hid hu
  have Z32 := Lib.hid zero32
  have HL := Lib.hid h.lt
  obtain ⟨X, hX⟩ : ∃ X, X = tellS F u 32 := ⟨_, rfl⟩
  have XL := Lib.hid (show X.length = 32 by rw [hX, tellS_length])
  rw [← hX]
  have XE := Lib.hid hX
  clear h hD hb hu hX
  go_enter Try.func37, Try.ntmps37
  go_upto_region 1 with fail
  rw [← Z32.out]
  generalize hw1 : World.alloc w _ = w1
  have S := Lib.hid (show Src g D F u b w1 ∧ w1.heap[w.heap.size]? = some (.cells (W8 (List.replicate 32 0)) 37 (0, 0)) ∧ w1.heap.size = w.heap.size + 1 ∧ w.grownBy w1 none by
    rw [← hw1]
    exact ⟨H.out.keep (below_new _ _), ha_new _ _ _ rfl, ha_size _ _, grown_of_below (below_new _ _)⟩)
  clear hw1 H
  go_wp2_with fail
  refine (tell_any g D F u b w1 S.out.1 (by have := S.out.2.2.1; have := HD.out; omega) HB.out 32 (by show u + 32 ≤ 900000; exact HU.out)).mono ?_
  rw [show takeN 32 = 32 from rfl]
  rintro e w2 ⟨v, rfl, ho, hs, hg⟩
  rw [← XE.out] at ho
  obtain ⟨A6, c6, rfl, hr, _, _, hav⟩ := ho.read
  obtain ⟨q, o, rfl, _⟩ := hr 0 (by rw [XL.out]; omega)
  have RG := Lib.hid (rangeB_of hr)
  rw [XL.out]
  have ZX := Lib.hid (show (Try.prog.info? 37).map (·.size) = some (B8 X).length by rw [B8_length, XL.out]; kernel_rfl)
  have ZX2 := Lib.hid (show (Try.prog.info? 37).map (·.size) = some (W8 X).size by rw [W8_size, XL.out]; kernel_rfl)
  have S2 := Lib.hid hs
  have G2 := Lib.hid hg
  clear ho hs hg hr hav
  have R0 := Lib.hid (show w2.heap[w.heap.size]? = some (.cells (W8 (List.replicate 32 0)) 37 (0, 0)) from grown_block G2.out (fun e => by injection e with e; have := HL.out; omega) S.out.2.1)
  go_wp2_with (first
    | (refine wpList_val rfl (run_sl2arr 37 (.tmp 7) rfl 32 5 Try.underlying37 (some ⟨q, o, none⟩) 32 c6 rfl (Nat.le_refl _) _) ?_)
    | (refine wpList_load_mid rfl 37 (.tmp 8) rfl q o rfl (B8 X) _ RG.out Try.underlying37 rfl ZX.out ?_)
    | (refine wpList_store_whole rfl rfl 37 (.tmp 2) (.tmp 9) rfl w.heap.size (W8 X) rfl rfl 37 _ R0.out ZX2.out (by rw [W8_size, W8_size, XL.out]; simp) (W8_one _) ?_; intro w8 hz8 hg8 _))
  refine bodyPost_ret (results_cell_row rfl _ _ w.heap.size 37 (W8 X) (0, 0) _ rfl hz8 Try.underlying37 rfl ZX2.out) rfl ⟨rfl, ?_, ?_⟩
  · exact S2.out.far hg8 (by rintro k ⟨⟩; have := HL.out; have := HD.out; omega)
  · exact grown_more (World.grownBy.trans S.out.2.2.2.mono_none G2.out) hg8 (by rintro k ⟨⟩; exact Nat.le_refl _)
/-- A variable of a struct, made. -/
theorem wpList_alloc_row {P : Program} {ops : Array Oper} {rest : List Oper} {o : Oper} {a : Act} {Q : Exit → Act → World → Prop} {W : World} (hg : o.guard = none) (ty : TypeId) (ho : o.op = .alloc ty) (z : Array Value) (hz : (zeroValue ty).run P W = .ok (.agg z) W)
    (h : wpList P ops Q rest (a.put o.dst (.pointer (some ⟨W.heap.size, 0, none⟩))) (W.alloc (.cells z ty))) : wpList P ops Q (o :: rest) a W :=
  wpList_plain hg fun K hK => by
    unfold Oper.wp execOp
    simp only [ho]
    go_simp
    exact hK _ _ h
theorem zero_src (W : World) : (zeroValue 70).run Try.prog W = .ok (.agg (SrcC (.slice none 0 0) (List.replicate 32 0) false 0 0 false (List.replicate 32 0))) W := by kernel_rfl
end Go.Proofs.Ytldjiigkebkgcaa

/- A source while a law is asked. No condition but those each theorem states. -/
namespace Go.Proofs.Ytldjiigkebkgcaa
set_option linter.unusedVariables false
set_option linter.unusedSimpArgs false
open Go.RowKit
attribute [local go_sem ↓] Go.wp_at_zero Go.wp_at_succ

structure SrcW (w : World) (g D : Nat) (F : List UInt8) (u : Nat) (W : World) : Prop where
  bel : Below w.heap.size w W
  hg : w.heap.size ≤ g
  hD : w.heap.size ≤ D
  ltD : D < W.heap.size
  src : Src g D F u true W
theorem SrcW.ltg {w : World} {g D : Nat} {F : List UInt8} {u : Nat} {W : World} (h : SrcW w g D F u W) : g < W.heap.size := h.src.lt
theorem SrcW.keep {w : World} {g D : Nat} {F : List UInt8} {u : Nat} {W W' : World} (h : SrcW w g D F u W) (hb : Below W.heap.size W W') : SrcW w g D F u W' :=
  ⟨h.bel.trans (hb.mono h.bel.size), h.hg, h.hD, Nat.lt_of_lt_of_le h.ltD hb.size, h.src.keep hb⟩
theorem SrcW.step {w : World} {g D : Nat} {F : List UInt8} {u u2 : Nat} {W W' : World} (h : SrcW w g D F u W) (hs : Src g D F u2 true W') (hg : W.grownBy W' (some g)) : SrcW w g D F u2 W' :=
  ⟨h.bel.trans (grown_below hg h.bel.size (by rintro k ⟨⟩; exact h.hg)), h.hg, h.hD, Nat.lt_of_lt_of_le h.ltD hg.size, hs⟩
theorem SrcW.far {w : World} {g D : Nat} {F : List UInt8} {u : Nat} {W W' : World} {k : Nat} (h : SrcW w g D F u W) (hg : W.grownBy W' (some k)) (h1 : k ≠ g) (h2 : k ≠ D) (hk : w.heap.size ≤ k) : SrcW w g D F u W' :=
  ⟨h.bel.trans (grown_below hg h.bel.size (by rintro q ⟨⟩; exact hk)), h.hg, h.hD, Nat.lt_of_lt_of_le h.ltD hg.size, h.src.far hg (by rintro q ⟨⟩; exact ⟨h1, h2⟩)⟩
theorem SrcW.own {w : World} {g D : Nat} {F : List UInt8} {u : Nat} {W W' : World} {r : Option Nat} (h : SrcW w g D F u W) (hg : W.grownBy W' r) (hr : ∀ k, r = some k → g < k ∧ D < k) : SrcW w g D F u W' :=
  ⟨h.bel.trans (grown_below hg h.bel.size (fun q e => by have := hr q e; have := h.hg; omega)), h.hg, h.hD, Nat.lt_of_lt_of_le h.ltD hg.size, h.src.far hg (fun q e => by have := hr q e; omega)⟩
theorem SrcW.made {w W W' : World} {g D : Nat} {F : List UInt8} (hb : Below w.heap.size w W) (h1 : W.heap.size ≤ g) (h2 : D < W'.heap.size) (h3 : W.heap.size ≤ D) (h4 : Src g D F 0 true W') (h5 : Below W.heap.size W W') : SrcW w g D F 0 W' :=
  ⟨hb.trans (h5.mono hb.size), Nat.le_trans hb.size h1, Nat.le_trans hb.size h3, h2, h4⟩
theorem takeN_nat (n : Nat) (h : n ≤ 65536) : takeN (n : Int) = n := by unfold takeN; omega
theorem tellS_add (F : List UInt8) (u a b : Nat) : tellS F u (a + b) = tellS F u a ++ tellS F (u + a) b := by
  induction b with
  | zero => simp [tellS]
  | succ b ih => rw [← Nat.add_assoc, tellS_succ, tellS_succ, ih, List.append_assoc, Nat.add_assoc]
theorem tellS_first (F : List UInt8) (k : Nat) (hk : k ≤ F.length) : tellS F 0 k = F.take k := by
  apply List.ext_getElem
  · rw [tellS_length, List.length_take]; omega
  · intro i h1 h2
    rw [tellS_length] at h1
    simp only [tellS, List.getElem_map, List.getElem_range, Nat.zero_add, List.getElem_take]
    rw [byteS, if_pos (by omega)]
    simp [List.getD_eq_getElem?_getD, show i < F.length by omega]
theorem tellS_all (F : List UInt8) : tellS F 0 F.length = F := by rw [tellS_first F _ (Nat.le_refl _), List.take_length]
theorem tellS_get (F : List UInt8) (u k i : Nat) (h : i < k) : (tellS F u k).getD i 0 = byteS F (u + i) := by simp [tellS, List.getD_eq_getElem?_getD, h]
set_option maxRecDepth 100000 in
set_option maxHeartbeats 1000000 in
theorem tellN_none (f : World) (m : Int) : Calls Try.prog 15 #[.pointer none, .int .i64 m] f fun e w' => e = .returned (.slice none 0 0) ∧ w' = f := by
  go_enter Try.func15, Try.ntmps15
  go_wp2_with fail
  go_ret
  exact ⟨rfl, rfl⟩
/-- So many bytes told, the source a law's. -/
theorem tellW_any (w : World) (g D : Nat) (F : List UInt8) (u : Nat) (W : World) (h : SrcW w g D F u W) (hb : F.length ≤ 100000) (n : Nat) (hn : n ≤ 65536) (hu : u + n ≤ 900000) :
    Calls Try.prog 15 #[.pointer (some ⟨g, 0, none⟩), .int .i64 (n : Int)] W fun e w' => (∃ v, e = .returned v ∧ OwnB w' W.heap.size v (tellS F u n)) ∧ SrcW w g D F (u + n) w' ∧ W.grownBy w' (some g) := by
  have := tell_any g D F u true W h.src h.ltD hb (n : Int) (by rw [takeN_nat n hn]; exact hu)
  rw [takeN_nat n hn] at this
  exact this.mono fun e w' ⟨v, he, ho, hs, hg⟩ => ⟨⟨v, he, ho⟩, h.step hs hg, hg⟩
end Go.Proofs.Ytldjiigkebkgcaa

/- A region that draws its order, walked along a tree of roads: what only reads is taken as it comes; what is left comes up alone, or two or three of them, each with a road of its own behind it. No condition but those each theorem states. -/
namespace Go.Proofs.Ytldjiigkebkgcaa
set_option linter.unusedVariables false
set_option linter.unusedSimpArgs false
open Go.RowKit

inductive Road where
  | done : Road
  | q : Nat → Road → Road
  | t : Nat → Road → Road
  | two : Nat → Road → Nat → Road → Road
  | three : Nat → Road → Nat → Road → Nat → Road → Road
section
variable {P : Program} {ops : Array Oper} {Q : Exit → Act → World → Prop} {S : World → Prop}
/-- May this tree be taken? -/
def roadB (ops : Array Oper) : Road → Array Bool → Bool
  | .done, L => (Region.ready .any ops L).isEmpty
  | .q i T, L => (ops[i]?).isSome && Region.free .any ops L i && (Region.ready .any ops L).contains i && roadB ops T (L.setIfInBounds i true)
  | .t i T, L => (ops[i]?).isSome && (match Region.ready .any ops L with | [j] => Nat.beq j i | _ => false) && roadB ops T (L.setIfInBounds i true)
  | .two i T j U, L => (ops[i]?).isSome && (ops[j]?).isSome && (match Region.ready .any ops L with | [a, b] => Nat.beq a i && Nat.beq b j | _ => false) && roadB ops T (L.setIfInBounds i true) && roadB ops U (L.setIfInBounds j true)
  | .three i T j U k V, L => (ops[i]?).isSome && (ops[j]?).isSome && (ops[k]?).isSome && (match Region.ready .any ops L with | [a, b, c] => Nat.beq a i && Nat.beq b j && Nat.beq c k | _ => false) && roadB ops T (L.setIfInBounds i true) && roadB ops U (L.setIfInBounds j true) && roadB ops V (L.setIfInBounds k true)
def roadN : Road → Nat
  | .done => 0
  | .q _ T => roadN T + 1
  | .t _ T => roadN T + 1
  | .two _ T _ U => max (roadN T) (roadN U) + 1
  | .three _ T _ U _ V => max (roadN T) (max (roadN U) (roadN V)) + 1
/-- One that comes up. -/
def stepR (P : Program) (ops : Array Oper) (Q : Exit → Act → World → Prop) (S : World → Prop) (K : Act → World → Prop) (i : Nat) (a : Act) (w : World) : Prop :=
  ∃ o, ops[i]? = some o ∧ if Region.wanted o (yielded ops a.tmps) = true then o.wp P a w (fun a' w' => S w' ∧ K a' w') Q else S w ∧ K (a.put o.dst undef) w
/-- The tree. -/
def road (P : Program) (ops : Array Oper) (Q : Exit → Act → World → Prop) : (World → Prop) → Road → Act → World → Prop
  | _, .done, a, w => Q .normal a w
  | S, .q i T, a, w => ∃ S' : World → Prop, (∀ w, S' w → S w) ∧ S' w ∧ ∃ o, ops[i]? = some o ∧ ∃ v, YieldsIf P ops S' o v a ∧ road P ops Q S' T (a.put o.dst v) w
  | S, .t i T, a, w => ∃ S' : World → Prop, (∀ w, S' w → S w) ∧ stepR P ops Q S' (road P ops Q S' T) i a w
  | S, .two i T j U, a, w => ∃ S' : World → Prop, (∀ w, S' w → S w) ∧ stepR P ops Q S' (road P ops Q S' T) i a w ∧ stepR P ops Q S' (road P ops Q S' U) j a w
  | S, .three i T j U k V, a, w => ∃ S' : World → Prop, (∀ w, S' w → S w) ∧ stepR P ops Q S' (road P ops Q S' T) i a w ∧ stepR P ops Q S' (road P ops Q S' U) j a w ∧ stepR P ops Q S' (road P ops Q S' V) k a w
theorem stepR_sound {S : World → Prop} {K K' : Act → World → Prop} {i : Nat} {a : Act} {w : World} (h : stepR P ops Q S K i a w) (hK : ∀ a w, K a w → K' a w) : wpOp P ops Q i (fun a' w' => S w' ∧ K' a' w') a w := by
  obtain ⟨o, ho, h⟩ := h
  unfold wpOp
  simp only [ho]
  split
  · rename_i hw
    rw [if_pos hw] at h
    exact .inl (Oper.wp_mono (fun a' w' hh => ⟨hh.1, hK _ _ hh.2⟩) h)
  · rename_i hw
    rw [if_neg hw] at h
    exact ⟨h.1, hK _ _ h.2⟩
theorem road_sound (hQ : ∀ c a d v w, Q (.panic c) (Act.put a d v) w → Q (.panic c) a w) (hs : Region.noSelect ops = true) : ∀ (T : Road) (S : World → Prop) (fuel : Nat) (L : Array Bool) (a : Act) (w : World), roadN T ≤ fuel → roadB ops T L = true →
    road P ops Q S T a w → wpAnyH P .any ops Q S fuel L a w := by
  intro T
  induction T with
  | done =>
    intro S fuel L a w _ hB h
    simp only [roadB, List.isEmpty_iff] at hB
    exact wpAnyH_done hB h fuel
  | q i T ih =>
    intro S fuel L a w hf hB h
    simp only [roadB, Bool.and_eq_true] at hB
    obtain ⟨⟨⟨hi, hfr⟩, hr⟩, hB'⟩ := hB
    simp only [roadN] at hf
    obtain ⟨fuel, rfl⟩ : ∃ m, fuel = m + 1 := ⟨fuel - 1, by omega⟩
    obtain ⟨S', hSS, hS, o, ho, v, hy, h'⟩ := h
    exact wpAnyH_narrow hSS _ _ _ _ (wpAnyH_take ho hs hfr hr (fun c a w hh => hQ c a _ _ w hh) hy hS (ih S' fuel _ _ w (by omega) hB' h'))
  | t i T ih =>
    intro S fuel L a w hf hB h
    simp only [roadB, Bool.and_eq_true] at hB
    obtain ⟨⟨hi, hr0⟩, hB'⟩ := hB
    have hr : Region.ready .any ops L = [i] := by
      split at hr0
      · rename_i j hj
        rw [hj, Nat.eq_of_beq_eq_true hr0]
      · cases hr0
    simp only [roadN] at hf
    obtain ⟨fuel, rfl⟩ : ∃ m, fuel = m + 1 := ⟨fuel - 1, by omega⟩
    obtain ⟨S', hSS, h⟩ := h
    refine wpAnyH_narrow hSS _ _ _ _ (wpAnyH_all hr (by simp) ?_)
    intro j hj
    obtain rfl : j = i := by simpa using hj
    exact stepR_sound h (fun a w h => ih S' fuel _ a w (by omega) hB' h)
  | two i T j U ihT ihU =>
    intro S fuel L a w hf hB h
    simp only [roadB, Bool.and_eq_true] at hB
    obtain ⟨⟨⟨_, hr0⟩, hT⟩, hU⟩ := hB
    have hr : Region.ready .any ops L = [i, j] := by
      split at hr0
      · rename_i a b hj
        simp only [Bool.and_eq_true] at hr0
        rw [hj, Nat.eq_of_beq_eq_true hr0.1, Nat.eq_of_beq_eq_true hr0.2]
      · cases hr0
    simp only [roadN] at hf
    obtain ⟨fuel, rfl⟩ : ∃ m, fuel = m + 1 := ⟨fuel - 1, by omega⟩
    obtain ⟨S', hSS, h1, h2⟩ := h
    refine wpAnyH_narrow hSS _ _ _ _ (wpAnyH_all hr (by simp) ?_)
    intro k hk
    simp only [List.mem_cons, List.not_mem_nil, or_false] at hk
    rcases hk with rfl | rfl
    · exact stepR_sound h1 (fun a w h => ihT S' fuel _ a w (by omega) hT h)
    · exact stepR_sound h2 (fun a w h => ihU S' fuel _ a w (by omega) hU h)
  | three i T j U k V ihT ihU ihV =>
    intro S fuel L a w hf hB h
    simp only [roadB, Bool.and_eq_true] at hB
    obtain ⟨⟨⟨⟨_, hr0⟩, hT⟩, hU⟩, hV⟩ := hB
    have hr : Region.ready .any ops L = [i, j, k] := by
      split at hr0
      · rename_i a b c hj
        simp only [Bool.and_eq_true] at hr0
        rw [hj, Nat.eq_of_beq_eq_true hr0.1.1, Nat.eq_of_beq_eq_true hr0.1.2, Nat.eq_of_beq_eq_true hr0.2]
      · cases hr0
    simp only [roadN] at hf
    obtain ⟨fuel, rfl⟩ : ∃ m, fuel = m + 1 := ⟨fuel - 1, by omega⟩
    obtain ⟨S', hSS, h1, h2, h3⟩ := h
    refine wpAnyH_narrow hSS _ _ _ _ (wpAnyH_all hr (by simp) ?_)
    intro m hm
    simp only [List.mem_cons, List.not_mem_nil, or_false] at hm
    rcases hm with rfl | rfl | rfl
    · exact stepR_sound h1 (fun a w h => ihT S' fuel _ a w (by omega) hT h)
    · exact stepR_sound h2 (fun a w h => ihU S' fuel _ a w (by omega) hU h)
    · exact stepR_sound h3 (fun a w h => ihV S' fuel _ a w (by omega) hV h)
/-- THE LAW. -/
theorem wp_region_tree {id : Nat} {l : List Oper} {a : Act} {w : World} (S : World → Prop) (T : Road) (hm : P.follows .mixedOrders = true)
    (hB : (roadB l.toArray T (Array.replicate l.toArray.size false) && Region.noSelect l.toArray && Nat.ble (roadN T) l.toArray.size) = true)
    (hQ : ∀ c a d v w, Q (.panic c) (Act.put a d v) w → Q (.panic c) a w)
    (h : road P l.toArray Q S T a w.drew) : (Code.region id l.toArray true).wp P Q a w := by
  simp only [Bool.and_eq_true] at hB
  exact wp_region_held hm (road_sound hQ hB.1.2 T S _ _ a w.drew (Nat.le_of_ble_eq_true hB.2) hB.1.1 h)
theorem road_q {i : Nat} {T : Road} {o : Oper} {a : Act} {w : World} {v : Value} (ho : ops.toList[i]? = some o) (hw : Region.wanted o (yielded ops a.tmps) = true) (hS : S w) (hy : ∀ w, S w → (execOp a.eval o).run P w = .ok (.value v) w) (h : road P ops Q S T (a.put o.dst v) w) : road P ops Q S (.q i T) a w := ⟨S, fun _ h => h, hS, o, by simpa using ho, v, .inl ⟨hw, hy⟩, h⟩
theorem road_qs {i : Nat} {T : Road} {o : Oper} {a : Act} {w : World} (ho : ops.toList[i]? = some o) (hw : Region.wanted o (yielded ops a.tmps) = false) (hS : S w) (h : road P ops Q S T (a.put o.dst undef) w) : road P ops Q S (.q i T) a w := ⟨S, fun _ h => h, hS, o, by simpa using ho, undef, .inr ⟨hw, rfl⟩, h⟩
/-- The class grows narrower. -/
theorem road_sw (S' : World → Prop) {T : Road} {a : Act} {w : World} (hSS : ∀ w, S' w → S w) (h : road P ops Q S' T a w) : road P ops Q S T a w := by
  cases T with
  | done => exact h
  | q i T => obtain ⟨T, h1, h2⟩ := h; exact ⟨T, fun w h => hSS w (h1 w h), h2⟩
  | t i T => obtain ⟨T, h1, h2⟩ := h; exact ⟨T, fun w h => hSS w (h1 w h), h2⟩
  | two i T j U => obtain ⟨T, h1, h2⟩ := h; exact ⟨T, fun w h => hSS w (h1 w h), h2⟩
  | three i T j U k V => obtain ⟨T, h1, h2⟩ := h; exact ⟨T, fun w h => hSS w (h1 w h), h2⟩
theorem stepR_t {K' : Act → World → Prop} {i : Nat} {o : Oper} {a : Act} {w : World} (ho : ops.toList[i]? = some o) (hw : Region.wanted o (yielded ops a.tmps) = true)
    (h : ∀ K : Act → World → Prop, Hid (∀ a w, S w → K' a w → K a w) → o.wp P a w K Q) : stepR P ops Q S K' i a w :=
  ⟨o, by simpa using ho, by rw [if_pos hw]; exact h _ (fun a w h1 h2 => ⟨h1, h2⟩)⟩
/-- An operation that is left; what follows stands behind a variable. -/
theorem road_t {i : Nat} {T : Road} {o : Oper} {a : Act} {w : World} (ho : ops.toList[i]? = some o) (hw : Region.wanted o (yielded ops a.tmps) = true)
    (h : ∀ K : Act → World → Prop, Hid (∀ a w, S w → road P ops Q S T a w → K a w) → o.wp P a w K Q) : road P ops Q S (.t i T) a w := ⟨S, fun _ h => h, stepR_t ho hw h⟩
theorem road_ts {i : Nat} {T : Road} {o : Oper} {a : Act} {w : World} (ho : ops.toList[i]? = some o) (hw : Region.wanted o (yielded ops a.tmps) = false) (hS : S w) (h : road P ops Q S T (a.put o.dst undef) w) : road P ops Q S (.t i T) a w :=
  ⟨S, fun _ h => h, o, by simpa using ho, by rw [if_neg (by rw [hw]; simp)]; exact ⟨hS, h⟩⟩
theorem road_tv {i : Nat} {T : Road} {o : Oper} {a : Act} {w : World} {v : Value} (ho : ops.toList[i]? = some o) (hw : Region.wanted o (yielded ops a.tmps) = true) (hS : S w) (hy : (execOp a.eval o).run P w = .ok (.value v) w) (h : road P ops Q S T (a.put o.dst v) w) : road P ops Q S (.t i T) a w :=
  ⟨S, fun _ h => h, o, by simpa using ho, by rw [if_pos hw]; unfold Oper.wp; rw [hy]; exact ⟨hS, h⟩⟩
/-- Two that may come up. -/
theorem road_two {i j : Nat} {T U : Road} {a : Act} {w : World} (h1 : road P ops Q S (.t i T) a w) (h2 : road P ops Q S (.t j U) a w) : road P ops Q S (.two i T j U) a w := by
  obtain ⟨S1, k1, o1, e1, g1⟩ := h1
  obtain ⟨S2, k2, o2, e2, g2⟩ := h2
  have key : ∀ (S' : World → Prop) (hk : ∀ w, S' w → S w) (T : Road) (o : Oper), (if Region.wanted o (yielded ops a.tmps) = true then o.wp P a w (fun a' w' => S' w' ∧ road P ops Q S' T a' w') Q else S' w ∧ road P ops Q S' T (a.put o.dst undef) w) →
      (if Region.wanted o (yielded ops a.tmps) = true then o.wp P a w (fun a' w' => S w' ∧ road P ops Q S T a' w') Q else S w ∧ road P ops Q S T (a.put o.dst undef) w) := by
    intro S' hk T o h
    split
    · rename_i hw
      rw [if_pos hw] at h
      exact Oper.wp_mono (fun a' w' hh => ⟨hk _ hh.1, road_sw S' hk hh.2⟩) h
    · rename_i hw
      rw [if_neg hw] at h
      exact ⟨hk _ h.1, road_sw S' hk h.2⟩
  exact ⟨S, fun _ h => h, ⟨o1, e1, key S1 k1 T o1 g1⟩, ⟨o2, e2, key S2 k2 U o2 g2⟩⟩
theorem road_three {i j k : Nat} {T U V : Road} {a : Act} {w : World} (h1 : road P ops Q S (.t i T) a w) (h2 : road P ops Q S (.t j U) a w) (h3 : road P ops Q S (.t k V) a w) : road P ops Q S (.three i T j U k V) a w := by
  have key : ∀ {i : Nat} {T : Road}, road P ops Q S (.t i T) a w → stepR P ops Q S (road P ops Q S T) i a w := by
    intro i T h
    obtain ⟨S', hk, o, e, h⟩ := h
    refine ⟨o, e, ?_⟩
    split
    · rename_i hw
      rw [if_pos hw] at h
      exact Oper.wp_mono (fun a' w' hh => ⟨hk _ hh.1, road_sw S' hk hh.2⟩) h
    · rename_i hw
      rw [if_neg hw] at h
      exact ⟨hk _ h.1, road_sw S' hk h.2⟩
  exact ⟨S, fun _ h => h, key h1, key h2, key h3⟩
theorem road_done {a : Act} {w : World} (h : Q .normal a w) : road P ops Q S .done a w := h
end
end Go.Proofs.Ytldjiigkebkgcaa

/- box.Box: what it holds; none, Count, Mode, Known. No condition but those each theorem states. -/
namespace Go.Proofs.Ytldjiigkebkgcaa
set_option linter.unusedVariables false
set_option linter.unusedSimpArgs false
open Go.RowKit
attribute [local go_sem ↓] Go.wp_at_zero Go.wp_at_succ

/-- A box: its mode, its source's first bytes, how many were told, what was sealed, how many times. -/
structure BSt where
  mode : Nat
  F : List UInt8
  u : Nat
  m : List (List UInt8 × Ent)
  n : Nat
/-- A box that was made since w; lo: whatever its entries hold lies from there on. -/
structure BoxB (w : World) (g S D b lo : Nat) (s : BSt) (W : World) : Prop where
  bel : Below w.heap.size w W
  hg : w.heap.size ≤ g
  hS : w.heap.size ≤ S
  hD : w.heap.size ≤ D
  hb : w.heap.size ≤ b
  row : W.heap[g]? = some (.cells #[.int .i64 (s.mode : Int), .pointer (some ⟨S, 0, none⟩), .map (some b), .int .i64 (s.n : Int)] 64 (0, 0))
  src : Src S D s.F s.u true W
  ltD : D < W.heap.size
  map : MapB lo b s.m W
  gS : g ≠ S
  gD : g ≠ D
  gb : g ≠ b
  Sb : S ≠ b
  Db : D ≠ b
  lg : g < lo
  lS : S < lo
  few : s.n ≤ 1000000
theorem BoxB.keep {w W W' : World} {g S D b lo : Nat} {s : BSt} (h : BoxB w g S D b lo s W) (hb : Below W.heap.size W W') : BoxB w g S D b lo s W' :=
  ⟨h.bel.trans (hb.mono h.bel.size), h.hg, h.hS, h.hD, h.hb, below_block hb (row_lt h.row) h.row, h.src.keep hb, Nat.lt_of_lt_of_le h.ltD hb.size, h.map.keep hb, h.gS, h.gD, h.gb, h.Sb, h.Db, h.lg, h.lS, h.few⟩
/-- .. after the source has told. -/
theorem BoxB.step {w W W' : World} {g S D b lo : Nat} {s : BSt} {u2 : Nat} (h : BoxB w g S D b lo s W) (hs : Src S D s.F u2 true W') (hg : W.grownBy W' (some S)) : BoxB w g S D b lo { s with u := u2 } W' :=
  ⟨h.bel.trans (grown_below hg h.bel.size (by rintro k ⟨⟩; exact h.hS)), h.hg, h.hS, h.hD, h.hb, grown_block hg (by intro e; injection e with e; exact h.gS e) h.row, hs, Nat.lt_of_lt_of_le h.ltD hg.size, h.map.far hg (by rintro k ⟨⟩; exact ⟨h.lS, h.Sb⟩), h.gS, h.gD, h.gb, h.Sb, h.Db, h.lg, h.lS, h.few⟩
set_option maxRecDepth 100000 in
theorem bnone_any (w0 : World) (g S D b lo : Nat) (s : BSt) (w : World) (h : BoxB w0 g S D b lo s w) :
    Calls Try.prog 26 #[.pointer (some ⟨g, 0, none⟩)] w fun e w' => e = .returned (.bool false) ∧ w' = w := by
  have c2 := row_cell h.row 2 rfl
  clear h
  have qm : ∀ (w : World) (r : Option Nat), (binOp .eql 62 (.map r) (.map none)).run Try.prog w = .ok (.bool r.isNone) w := fun w r => Go.run_eql_map_nil w _ _ _ r Try.underlying62
  go_enter Try.func26, Try.ntmps26
  go_wp2_with fail
  go_ret
  exact ⟨rfl, rfl⟩
set_option maxRecDepth 100000 in
theorem bnone_nil (w : World) : Calls Try.prog 26 #[.pointer none] w fun e w' => e = .returned (.bool true) ∧ w' = w := by
  have qm : ∀ (w : World) (r : Option Nat), (binOp .eql 62 (.map r) (.map none)).run Try.prog w = .ok (.bool r.isNone) w := fun w r => Go.run_eql_map_nil w _ _ _ r Try.underlying62
  go_enter Try.func26, Try.ntmps26
  go_wp2_with fail
  go_ret
  exact ⟨rfl, rfl⟩
/-- A box that nobody made, in block g. -/
def Box0 (g : Nat) (W : World) : Prop := W.heap[g]? = some (.cells #[.int .i64 0, .pointer none, .map none, .int .i64 0] 64 (0, 0))
set_option maxRecDepth 100000 in
theorem bnone_zero (g : Nat) (w : World) (h : Box0 g w) : Calls Try.prog 26 #[.pointer (some ⟨g, 0, none⟩)] w fun e w' => e = .returned (.bool true) ∧ w' = w := by
  have c2 := row_cell h 2 rfl
  clear h
  have qm : ∀ (w : World) (r : Option Nat), (binOp .eql 62 (.map r) (.map none)).run Try.prog w = .ok (.bool r.isNone) w := fun w r => Go.run_eql_map_nil w _ _ _ r Try.underlying62
  go_enter Try.func26, Try.ntmps26
  go_wp2_with fail
  go_ret
  exact ⟨rfl, rfl⟩
set_option maxRecDepth 100000 in
theorem bcount_any (w0 : World) (g S D b lo : Nat) (s : BSt) (w : World) (h : BoxB w0 g S D b lo s w) :
    Calls Try.prog 17 #[.pointer (some ⟨g, 0, none⟩)] w fun e w' => e = .returned (.int .i64 (s.n : Int)) ∧ w' = w := by
  have c3 := row_cell h.row 3 rfl
  have H := Lib.hid h
  clear h
  go_enter Try.func17, Try.ntmps17
  go_wp2_with fail
  refine (bnone_any w0 g S D b lo s w H.out).mono ?_
  rintro e wd ⟨rfl, hw⟩
  rw [hw]
  clear hw wd
  go_wp2_with fail
  go_ret
  exact ⟨rfl, rfl⟩
set_option maxRecDepth 100000 in
theorem bmode_any (w0 : World) (g S D b lo : Nat) (s : BSt) (w : World) (h : BoxB w0 g S D b lo s w) :
    Calls Try.prog 21 #[.pointer (some ⟨g, 0, none⟩)] w fun e w' => e = .returned (.int .i64 (s.mode : Int)) ∧ w' = w := by
  have c0 := row_cell h.row 0 rfl
  have H := Lib.hid h
  clear h
  go_enter Try.func21, Try.ntmps21
  go_wp2_with fail
  refine (bnone_any w0 g S D b lo s w H.out).mono ?_
  rintro e wd ⟨rfl, hw⟩
  rw [hw]
  clear hw wd
  go_wp2_with fail
  go_ret
  exact ⟨rfl, rfl⟩
end Go.Proofs.Ytldjiigkebkgcaa

/- A region that draws its order and ends with one operation that waits for all that were taken first (a store into what they read): the class of worlds is asked only ahead of it. No condition but those each theorem states. -/
namespace Go.Proofs.Ytldjiigkebkgcaa
set_option linter.unusedVariables false
set_option linter.unusedSimpArgs false
open Go.RowKit

/-- A whole row into a block that is known whole. -/
theorem storeW_wp {P : Program} {o : Oper} {a : Act} {Q : Exit → Act → World → Prop} {W : World} {K : Act → World → Prop} (ty : TypeId) (x y : Operand) (ho : o.op = .store ty x y) (g : Nat) (cells : Array Value) (hx : a.eval x = .pointer (some ⟨g, 0, none⟩)) (hy : a.eval y = .agg cells)
    (cur : Array Value) (t : TypeId) (hg : W.heap[g]? = some (.cells cur t (0, 0))) (hi : (P.info? ty).map (·.size) = some cells.size) (hl : cur.size = cells.size) (h1 : cells.all (·.oneCell') = true)
    (h : ∀ w', w'.heap[g]? = some (.cells cells t (0, 0)) → W.grownBy w' (some g) → w'.heap.size = W.heap.size → K (a.put o.dst undef) w') : o.wp P a W K Q := by
  refine storeM_wp ty x y ho g 0 cells hx hy cur t hg hi (by omega) h1 (fun w' hz => ?_)
  refine h w' ?_
  rw [hz, Nat.zero_add, List.take_zero, List.nil_append, List.drop_of_length_le (by simp; omega), List.append_nil]
section
variable {P : Program} {ops : Array Oper} {Q : Exit → Act → World → Prop} {S : World → Prop} {s : Nat}
/-- Has the last one come up, or does the class hold? -/
def Yet (s : Nat) (S : World → Prop) (L : Array Bool) (w : World) : Prop := L.getD s true = true ∨ S w
/-- Whatever order is picked, the class holding till the last one has come up. -/
def wpTill (P : Program) (ops : Array Oper) (Q : Exit → Act → World → Prop) (S : World → Prop) (s : Nat) : Nat → Array Bool → Act → World → Prop
  | 0, L, a, w => Region.ready .any ops L = [] ∧ Q .normal a w
  | n + 1, L, a, w => (Region.ready .any ops L = [] → Q .normal a w) ∧ ∀ i ∈ Region.ready .any ops L, wpOp P ops Q i (fun a' w' => Yet s S (L.setIfInBounds i true) w' ∧ wpTill P ops Q S s n (L.setIfInBounds i true) a' w') a w
theorem wpAny_of_till : ∀ (n : Nat) (L : Array Bool) (a : Act) (w : World), wpTill P ops Q S s n L a w → wpAny P .any ops Q n L a w
  | 0, _, _, _, h => h
  | n + 1, _, _, _, h => ⟨h.1, fun i hi => wpOp_mono (fun _ _ k => wpAny_of_till n _ _ _ k.2) (h.2 i hi)⟩
theorem wpTill_narrow {S' : World → Prop} (hSS : ∀ w, S' w → S w) : ∀ (n : Nat) (L : Array Bool) (a : Act) (w : World), wpTill P ops Q S' s n L a w → wpTill P ops Q S s n L a w
  | 0, _, _, _, h => h
  | n + 1, _, _, _, h => ⟨h.1, fun i hi => wpOp_mono (fun _ _ k => ⟨k.1.imp id (hSS _), wpTill_narrow hSS n _ _ _ k.2⟩) (h.2 i hi)⟩
theorem not_ready_twice {L : Array Bool} {i : Nat} (hi : i ∈ Region.ready .any ops L) {e : Edge} (he : e.on = i) (h : Region.binds .any e = true → L.getD e.on false = true) (hb : Region.binds .any e = true) : False := by
  have h0 := (mem_ready.1 hi).1
  have h1 := h hb
  rw [he] at h1
  by_cases hs : i < L.size
  · simp [Array.getD, hs] at h0 h1
    rw [h0] at h1
    cases h1
  · simp [Array.getD, hs] at h1
/-- One that yields its value in every world of the class, and for which the last one waits, may be taken first. -/
theorem wpTill_take {i : Nat} {oi os : Oper} {v : Value} (hi : ops[i]? = some oi) (hos : ops[s]? = some os) (hwait : ∃ e ∈ os.after, Region.binds .any e = true ∧ e.on = i) (hsel : ∀ (j : Nat) (o : Oper) cs b, ops[j]? = some o → o.op ≠ .select cs b)
    (hQ : ∀ c a w, Q (.panic c) (a.put oi.dst v) w → Q (.panic c) a w) : ∀ (n : Nat) (L : Array Bool) (a : Act) (w : World), L.getD s true = false → i ≠ s →
      (∀ j oj, ops[j]? = some oj → j ≠ i → L.getD j true = false → (∀ e ∈ oj.after, Region.binds .any e = true → e.on ≠ i) → oi.apart ops oj = true) →
      i ∈ Region.ready .any ops L → YieldsIf P ops S oi v a → S w → wpTill P ops Q S s n (L.setIfInBounds i true) (a.put oi.dst v) w → wpTill P ops Q S s (n + 1) L a w := by
  intro n
  induction n with
  | zero =>
    intro L a w hsL his hap hr hy hS H
    refine ⟨(fun e => by rw [e] at hr; cases hr), fun j hj => ?_⟩
    rcases Nat.decEq j i with hne | rfl
    · have hm := ready_mono hj hne
      rw [H.1] at hm
      cases hm
    · exact hy.wpOp hi hS ⟨.inr hS, H⟩
  | succ n ih =>
    intro L a w hsL his hap hr hy hS H
    refine ⟨(fun e => by rw [e] at hr; cases hr), fun j hj => ?_⟩
    rcases Nat.decEq j i with hne | rfl
    · obtain ⟨hjL, oj, hoj, hedges⟩ := mem_ready.1 hj
      have hjs : j ≠ s := by
        rintro rfl
        rw [hos] at hoj
        cases hoj
        obtain ⟨e, he, hb, hon⟩ := hwait
        exact not_ready_twice hr hon (hedges e he) hb
      have hfree : ∀ e ∈ oj.after, Region.binds .any e = true → e.on ≠ i := fun e he hb hon => not_ready_twice hr hon (hedges e he) hb
      have K := wpOp_putIf hoj (hap j oj hoj hne hjL hfree) (fun cs b => hsel i oi cs b hi) (fun cs b => hsel j oj cs b hoj) hQ hy (H.2 j (ready_mono hj hne))
      refine wpOp_mono (fun a' w' hk => ?_) K
      obtain ⟨hy', hyet, hrest⟩ := hk
      have hsj : (L.setIfInBounds j true).getD s true = false := by rw [getD_set_ne true hjs]; exact hsL
      have hS' : S w' := by
        rcases hyet with h1 | h1
        · rw [getD_set_ne true hjs, getD_set_ne true his] at h1
          rw [hsL] at h1
          cases h1
        · exact h1
      refine ⟨.inr hS', ih (L.setIfInBounds j true) a' w' hsj his (fun k ok hk hki hkL hkf => ?_) (ready_mono hr (Ne.symm hne)) hy' hS' ?_⟩
      · refine hap k ok hk hki ?_ hkf
        rcases Nat.decEq j k with h2 | rfl
        · rwa [getD_set_ne true h2] at hkL
        · exact hjL
      · rw [Array.setIfInBounds_comm _ _ hne]
        exact hrest
    · exact hy.wpOp hi hS ⟨.inr hS, H⟩
/-- May this road be taken, and does the last one come up alone behind it? -/
def tillB (ops : Array Oper) (s : Nat) : List (Bool × Nat) → Array Bool → Bool
  | [], L => (match Region.ready .any ops L with | [j] => Nat.beq j s | _ => false) && (Region.ready .any ops (L.setIfInBounds s true)).isEmpty && (match ops[s]? with | some o => o.guard.isNone | none => false)
  | (true, i) :: T, L => (ops[i]?).isSome && Region.free .any ops L i && (Region.ready .any ops L).contains i && !(L.getD s true) && !(Nat.beq i s) && (match ops[s]? with | some o => o.after.toList.any (fun e => Region.binds .any e && Nat.beq e.on i) | none => false) && tillB ops s T (L.setIfInBounds i true)
  | (false, i) :: T, L => (ops[i]?).isSome && (match Region.ready .any ops L with | [j] => Nat.beq j i | _ => false) && tillB ops s T (L.setIfInBounds i true)
/-- The road. -/
def till (P : Program) (ops : Array Oper) (Q : Exit → Act → World → Prop) (os : Oper) : (World → Prop) → List (Bool × Oper) → Act → World → Prop
  | _, [], a, w => os.wp P a w (fun a' w' => Q .normal a' w') Q
  | S, (true, o) :: r, a, w => ∃ S' : World → Prop, (∀ w, S' w → S w) ∧ S' w ∧ ∃ v, YieldsIf P ops S' o v a ∧ till P ops Q os S' r (a.put o.dst v) w
  | S, (false, o) :: r, a, w => ∃ S' : World → Prop, (∀ w, S' w → S w) ∧ if Region.wanted o (yielded ops a.tmps) = true then o.wp P a w (fun a' w' => S' w' ∧ till P ops Q os S' r a' w') Q else S' w ∧ till P ops Q os S' r (a.put o.dst undef) w
theorem till_sound {os : Oper} (hos : ops[s]? = some os) (hQ : ∀ c a d v w, Q (.panic c) (Act.put a d v) w → Q (.panic c) a w) (hs : Region.noSelect ops = true) : ∀ (T : List (Bool × Nat)) (S : World → Prop) (n : Nat) (L : Array Bool) (a : Act) (w : World), T.length + 1 ≤ n → tillB ops s T L = true →
    till P ops Q os S (T.filterMap fun i => (ops[i.2]?).map fun o => (i.1, o)) a w → wpTill P ops Q S s n L a w
  | [], S, n, L, a, w, hf, hB, h => by
    simp only [tillB, Bool.and_eq_true] at hB
    obtain ⟨⟨hr0, hend⟩, hg⟩ := hB
    have hr : Region.ready .any ops L = [s] := by
      split at hr0
      · rename_i j hj
        rw [hj, Nat.eq_of_beq_eq_true hr0]
      · cases hr0
    rw [hos] at hg
    obtain ⟨n, rfl⟩ : ∃ m, n = m + 1 := ⟨n - 1, by simp at hf; omega⟩
    have hend' : Region.ready .any ops (L.setIfInBounds s true) = [] := by simpa using hend
    refine ⟨(fun e => by rw [hr] at e; cases e), fun j hj => ?_⟩
    rw [hr] at hj
    obtain rfl : j = s := by simpa using hj
    unfold wpOp
    simp only [hos]
    have hgn : os.guard = none := by simpa using hg
    rw [if_pos (by simp [Region.wanted, hgn])]
    refine .inl (Oper.wp_mono (fun a' w' hk => ⟨.inl ?_, ?_⟩) h)
    · by_cases hsz : j < L.size
      · simp [hsz]
      · simp [hsz]
    · cases n with
      | zero => exact ⟨hend', hk⟩
      | succ n => exact ⟨fun _ => hk, (fun i hi => by rw [hend'] at hi; cases hi)⟩
  | (true, i) :: T, S, n, L, a, w, hf, hB, h => by
    simp only [tillB, Bool.and_eq_true] at hB
    obtain ⟨⟨⟨⟨⟨⟨hi, hfr⟩, hr⟩, hsL⟩, hne⟩, hw⟩, hB'⟩ := hB
    obtain ⟨o, ho⟩ := Option.isSome_iff_exists.1 hi
    obtain ⟨n, rfl⟩ : ∃ m, n = m + 1 := ⟨n - 1, by simp at hf; omega⟩
    have e : ((true, i) :: T).filterMap (fun i => (ops[i.2]?).map fun o => (i.1, o)) = (true, o) :: T.filterMap fun i => (ops[i.2]?).map fun o => (i.1, o) := by simp [ho]
    rw [e] at h
    obtain ⟨S', hSS, hS, v, hy, h'⟩ := h
    rw [hos] at hw
    obtain ⟨ed, hed, hb⟩ := List.any_eq_true.1 hw
    simp only [Bool.and_eq_true] at hb
    exact wpTill_narrow hSS _ _ _ _ (wpTill_take ho hos ⟨ed, by simpa using hed, hb.1, Nat.eq_of_beq_eq_true hb.2⟩ (Region.noSelect_spec hs) (fun c a w hh => hQ c a _ _ w hh) n L a w (by simpa using hsL) (by intro e; subst e; simp at hne) (Region.free_spec ho hfr) (by simpa using hr) hy hS
      (till_sound hos hQ hs T S' n _ _ w (by simp at hf ⊢; omega) hB' h'))
  | (false, i) :: T, S, n, L, a, w, hf, hB, h => by
    simp only [tillB, Bool.and_eq_true] at hB
    obtain ⟨⟨hi, hr0⟩, hB'⟩ := hB
    have hr : Region.ready .any ops L = [i] := by
      split at hr0
      · rename_i j hj
        rw [hj, Nat.eq_of_beq_eq_true hr0]
      · cases hr0
    obtain ⟨o, ho⟩ := Option.isSome_iff_exists.1 hi
    obtain ⟨n, rfl⟩ : ∃ m, n = m + 1 := ⟨n - 1, by simp at hf; omega⟩
    have e : ((false, i) :: T).filterMap (fun i => (ops[i.2]?).map fun o => (i.1, o)) = (false, o) :: T.filterMap fun i => (ops[i.2]?).map fun o => (i.1, o) := by simp [ho]
    rw [e] at h
    obtain ⟨S', hSS, h⟩ := h
    refine wpTill_narrow hSS _ _ _ _ ⟨(fun e => by rw [hr] at e; cases e), fun j hj => ?_⟩
    rw [hr] at hj
    obtain rfl : j = i := by simpa using hj
    unfold wpOp
    simp only [ho]
    split
    · rename_i hw
      rw [if_pos hw] at h
      exact .inl (Oper.wp_mono (fun a' w' hh => ⟨.inr hh.1, till_sound hos hQ hs T S' n _ a' w' (by simp at hf; omega) hB' hh.2⟩) h)
    · rename_i hw
      rw [if_neg hw] at h
      exact ⟨.inr h.1, till_sound hos hQ hs T S' n _ _ w (by simp at hf; omega) hB' h.2⟩
/-- THE LAW. -/
theorem wp_region_till {id : Nat} {l : List Oper} {a : Act} {w : World} (S : World → Prop) (s : Nat) (T : List (Bool × Nat)) (os : Oper) (hm : P.follows .mixedOrders = true)
    (hB : (tillB l.toArray s T (Array.replicate l.toArray.size false) && Region.noSelect l.toArray && Nat.ble (T.length + 1) l.toArray.size) = true)
    (hos : l.toArray[s]? = some os) (hQ : ∀ c a d v w, Q (.panic c) (Act.put a d v) w → Q (.panic c) a w)
    (h : till P l.toArray Q os S (T.filterMap fun i => (l.toArray[i.2]?).map fun o => (i.1, o)) a w.drew) : (Code.region id l.toArray true).wp P Q a w := by
  simp only [Bool.and_eq_true] at hB
  exact wp_region_any hm (wpAny_of_till _ _ _ _ (till_sound hos hQ hB.1.2 T S _ _ a w.drew (Nat.le_of_ble_eq_true hB.2) hB.1.1 h))
theorem till_q {os o : Oper} {rest : List (Bool × Oper)} {a : Act} {w : World} {v : Value} (hw : Region.wanted o (yielded ops a.tmps) = true) (hS : S w) (hy : ∀ w, S w → (execOp a.eval o).run P w = .ok (.value v) w) (h : till P ops Q os S rest (a.put o.dst v) w) : till P ops Q os S ((true, o) :: rest) a w := ⟨S, fun _ h => h, hS, v, .inl ⟨hw, hy⟩, h⟩
theorem till_qs {os o : Oper} {rest : List (Bool × Oper)} {a : Act} {w : World} (hw : Region.wanted o (yielded ops a.tmps) = false) (hS : S w) (h : till P ops Q os S rest (a.put o.dst undef) w) : till P ops Q os S ((true, o) :: rest) a w := ⟨S, fun _ h => h, hS, undef, .inr ⟨hw, rfl⟩, h⟩
theorem till_sw {os : Oper} (S' : World → Prop) {l : List (Bool × Oper)} {a : Act} {w : World} (hSS : ∀ w, S' w → S w) (h : till P ops Q os S' l a w) : till P ops Q os S l a w := by
  rcases l with _ | ⟨⟨_ | _, o⟩, r⟩
  · exact h
  · obtain ⟨T, h1, h2⟩ := h
    exact ⟨T, fun w h => hSS w (h1 w h), h2⟩
  · obtain ⟨T, h1, h2⟩ := h
    exact ⟨T, fun w h => hSS w (h1 w h), h2⟩
theorem till_t {os o : Oper} {rest : List (Bool × Oper)} {a : Act} {w : World} (hw : Region.wanted o (yielded ops a.tmps) = true)
    (h : ∀ K : Act → World → Prop, Hid (∀ a w, S w → till P ops Q os S rest a w → K a w) → o.wp P a w K Q) : till P ops Q os S ((false, o) :: rest) a w := by
  refine ⟨S, fun _ h => h, ?_⟩
  rw [if_pos hw]
  exact h _ (fun a w h1 h2 => ⟨h1, h2⟩)
theorem till_tv {os o : Oper} {rest : List (Bool × Oper)} {a : Act} {w : World} {v : Value} (hw : Region.wanted o (yielded ops a.tmps) = true) (hS : S w) (hy : (execOp a.eval o).run P w = .ok (.value v) w) (h : till P ops Q os S rest (a.put o.dst v) w) : till P ops Q os S ((false, o) :: rest) a w := by
  refine ⟨S, fun _ h => h, ?_⟩
  rw [if_pos hw]
  unfold Oper.wp
  rw [hy]
  exact ⟨hS, h⟩
/-- The last one. -/
theorem till_last {os : Oper} {a : Act} {w : World} (h : ∀ K : Act → World → Prop, Hid (∀ a w, Q .normal a w → K a w) → os.wp P a w K Q) : till P ops Q os S [] a w := h _ (fun _ _ h => h)
end
end Go.Proofs.Ytldjiigkebkgcaa

/- box.Box: Known, keep. No condition but those each theorem states. -/
namespace Go.Proofs.Ytldjiigkebkgcaa
set_option linter.unusedVariables false
set_option linter.unusedSimpArgs false
open Go.RowKit
attribute [local go_sem ↓] Go.wp_at_zero Go.wp_at_succ

theorem run_lookup2 {P : Program} {o : Oper} {a : Act} (T : TypeId) (x y : Operand) (ho : o.op = .lookup T x y true) {b : Nat} {k v : Value} (hx : a.eval x = .map (some b)) (hy : a.eval y = k) {W : World} (h : (Instr.lookup T (.map (some b)) k true).run P W = .ok v W) : (execOp a.eval o).run P W = .ok (.value v) W := by
  unfold execOp
  simp only [ho, hx, hy, Sem.run_bind, Sem.run_pure, h, Result.andThen_ok]
theorem zero_entC : (Try.prog.info? 77).map (·.zero) = some (some EntZ) := by kernel_rfl
theorem EntL_size (k b : List UInt8) (A : Option Addr) (n c : Nat) (h : k.length = 32) : (EntL k b A n c).toArray.size = 34 := by simp [EntL, B8_length, h]
theorem EntL_one (k b : List UInt8) (A : Option Addr) (n c : Nat) : (EntL k b A n c).toArray.all (·.oneCell') = true := all_oneCell_toArray (by
  intro v hv
  simp only [EntL, List.mem_append, B8, List.mem_map, List.mem_cons, List.mem_nil_iff, or_false] at hv
  rcases hv with ⟨x, _, rfl⟩ | rfl | rfl <;> rfl)
theorem info_ent : (Try.prog.info? 77).map (·.size) = some 34 := by kernel_rfl
/-- Is it one that was sealed. -/
def knownM (m : List (List UInt8 × Ent)) (s : List UInt8) : Bool := m.any fun p => decide (p.1 = s)
set_option maxRecDepth 100000 in
set_option maxHeartbeats 2000000 in
theorem known_any (w0 : World) (g S D b lo : Nat) (s : BSt) (w : World) (h : BoxB w0 g S D b lo s w) (A : Option Addr) (q c : Nat) (l : List UInt8) (hq : l.length = q) (hR : RdB w A l) (hl : q ≤ 100000) :
    Calls Try.prog 14 #[.pointer (some ⟨g, 0, none⟩), .slice A q c] w fun e w' => e = .returned (.bool (knownM s.m l)) ∧ Below w.heap.size w w' := by
  have H := Lib.hid h
  have HQ := Lib.hid hq
  have HR := Lib.hid hR
  have LK : ∃ k bs A' n c', ∃ β : Bool, knownM s.m l = β ∧ k.length = 32 ∧ ∀ W' : World, W'.heap[b]? = w.heap[b]? → (Instr.lookup 62 (.map (some b)) (.string (strB l)) true).run Try.prog W' = .ok (.tuple #[EntV k bs A' n c', .bool β]) W' := by
    rcases mapB_lookup h.map l (by omega) with ⟨h1, h2⟩ | ⟨j, e, A', c', hj, h2, _, h32, _, _⟩
    · refine ⟨_, _, _, _, _, false, ?_, by simp, h2⟩
      simp only [knownM, List.any_eq_false, decide_eq_true_eq]
      exact h1
    · refine ⟨_, _, _, _, _, true, ?_, h32, h2⟩
      simp only [knownM, List.any_eq_true, decide_eq_true_eq]
      exact ⟨_, List.mem_of_getElem? hj, rfl⟩
  obtain ⟨k, bs, A', n, c', β, hβ, h32, hlk⟩ := LK
  rw [hβ]
  have K32 := Lib.hid h32
  have LKH := Lib.hid hlk
  have ML := Lib.hid h.map.lt
  clear h hq hR hl hβ h32 hlk
  go_enter Try.func14, Try.ntmps14
  go_wp2_with fail
  refine (bnone_any w0 g S D b lo s w H.out).mono ?_
  rintro e wd ⟨rfl, hw⟩
  rw [hw]
  clear hw wd
  go_upto_region 3 with fail
  have B := Lib.hid (show Below w.heap.size w w.drew from (Below.refl _ _).drew)
  refine wp_region_road (fun W => Below w.heap.size w W) [(true, 0), (true, 1), (true, 2), (true, 3), (true, 4), (true, 5), (true, 6), (true, 7), (true, 8), (true, 9), (false, 10), (false, 11), (true, 12)] (by kernel_rfl) (by kernel_rfl) (fun _ _ d _ _ h => by cases d <;> exact h) ?_
  simp only [List.filterMap_cons, List.filterMap_nil, List.getElem?_toArray, List.getElem?_cons_zero, List.getElem?_cons_succ, Option.map_some]
  refine planG_q (v := ?_) (by rfl) (B.out) ?_ ?_
  rotate_left
  · intro W hW
    go_simp
    with_reducible rfl
  simp only [Act.put, List.setIfInBounds_toArray, List.set_cons_zero, List.set_cons_succ]
  refine planG_q (v := ?_) (by rfl) (B.out) ?_ ?_
  rotate_left
  · intro W hW
    go_simp
    with_reducible rfl
  simp only [Act.put, List.setIfInBounds_toArray, List.set_cons_zero, List.set_cons_succ]
  refine planG_q (v := ?_) (by rfl) (B.out) ?_ ?_
  rotate_left
  · intro W hW
    go_simp
    with_reducible rfl
  simp only [Act.put, List.setIfInBounds_toArray, List.set_cons_zero, List.set_cons_succ]
  refine planG_q (by rfl) (B.out) (fun W hW => run_cell 62 (.tmp 12) rfl _ Try.underlying62 rfl rfl (row_cell (below_block hW (row_lt H.out.row) H.out.row) 2 rfl)) ?_
  simp only [Act.put, List.setIfInBounds_toArray, List.set_cons_zero, List.set_cons_succ]
  refine planG_q (v := ?_) (by rfl) (B.out) ?_ ?_
  rotate_left
  · intro W hW
    go_simp
    with_reducible rfl
  simp only [Act.put, List.setIfInBounds_toArray, List.set_cons_zero, List.set_cons_succ]
  refine planG_q (by rfl) (B.out) (fun W hW => run_str 23 9 (.tmp 14) rfl Try.underlying23 Try.underlying5 Try.underlying9 (HR.out.keep hW) q c HQ.out rfl) ?_
  simp only [Act.put, List.setIfInBounds_toArray, List.set_cons_zero, List.set_cons_succ]
  refine planG_q (by rfl) (B.out) (fun W hW => run_lookup2 62 (.tmp 13) (.tmp 15) rfl rfl rfl (LKH.out W (hW.block b ML.out))) ?_
  simp only [Act.put, List.setIfInBounds_toArray, List.set_cons_zero, List.set_cons_succ]
  refine planG_q (v := ?_) (by rfl) (B.out) ?_ ?_
  rotate_left
  · intro W hW
    go_simp
    with_reducible rfl
  simp only [Act.put, List.setIfInBounds_toArray, List.set_cons_zero, List.set_cons_succ]
  refine planG_q (v := ?_) (by rfl) (B.out) ?_ ?_
  rotate_left
  · intro W hW
    go_simp
    with_reducible rfl
  simp only [Act.put, List.setIfInBounds_toArray, List.set_cons_zero, List.set_cons_succ]
  refine planG_q (v := ?_) (by rfl) (B.out) ?_ ?_
  rotate_left
  · intro W hW
    go_simp
    with_reducible rfl
  simp only [Act.put, List.setIfInBounds_toArray, List.set_cons_zero, List.set_cons_succ]
  refine planG_t (by rfl) (fun K hK => ?_)
  go_simp
  generalize hw1 : World.drew (World.alloc w _) = w1
  have R1 := Lib.hid (show w1.heap[w.heap.size]? = some (.cells (EntL (List.replicate 32 0) [] none 0 0).toArray 77 (0, 0)) by rw [← hw1]; exact ha_new w _ _ rfl)
  have B := Lib.hid (show Below w.heap.size w w1 by rw [← hw1]; exact (below_new w _).trans (Below.refl _ _).drew)
  clear hw1
  refine hK.out _ _ (B.out) ?_
  clear hK K
  refine planG_t (by rfl) (fun K hK => ?_)
  refine storeW_wp 77 (.tmp 5) (.tmp 17) rfl w.heap.size (EntL k bs A' n c').toArray rfl rfl _ _ R1.out (by rw [EntL_size _ _ _ _ _ K32.out]; exact info_ent) (by rw [EntL_size _ _ _ _ _ K32.out]; rfl) (EntL_one _ _ _ _ _) ?_
  intro w2 _ hg _
  have B := Lib.hid (B.out.trans (grown_below hg B.out.size (by rintro x ⟨⟩; exact Nat.le_refl _)))
  clear hg
  refine hK.out _ _ (B.out) ?_
  clear hK K
  refine planG_q (v := ?_) (by rfl) (B.out) ?_ ?_
  rotate_left
  · intro W hW
    go_simp
    with_reducible rfl
  simp only [Act.put, List.setIfInBounds_toArray, List.set_cons_zero, List.set_cons_succ]
  refine planG_nil ?_
  go_wp2_with fail
  go_ret
  exact ⟨rfl, B.out⟩
theorem mapUpdate_wp {P : Program} {o : Oper} {a : Act} {Q : Exit → Act → World → Prop} {W W' : World} {K : Act → World → Prop} (T : TypeId) (x y z : Operand) (ho : o.op = .mapUpdate T x y z) {b : Nat} {k v : Value} (hx : a.eval x = .map (some b)) (hy : a.eval y = k) (hz : a.eval z = v)
    (h : (Instr.mapUpdate T (.map (some b)) k v).run P W = .ok () W') (hk : K (a.put o.dst undef) W') : o.wp P a W K Q := by
  unfold Oper.wp execOp
  simp only [ho, hx, hy, hz, Sem.run_bind, Sem.run_pure, h, Result.andThen_ok]
  exact hk
theorem grown_below_trans {w W W' : World} {k : Nat} (h : Below w.heap.size w W) (hg : W.grownBy W' (some k)) (hk : w.heap.size ≤ k) : Below w.heap.size w W' :=
  h.trans (grown_below hg h.size (by rintro q ⟨⟩; exact hk))
set_option maxRecDepth 100000 in
set_option maxHeartbeats 2000000 in
theorem keep_any (w0 : World) (g S D b lo : Nat) (s : BSt) (w : World) (h : BoxB w0 g S D b lo s w) (A : Option Addr) (q c : Nat) (l : List UInt8) (hq : l.length = q) (hR : RdB w A l) (hl : q ≤ 100000)
    (e : Ent) (A2 : Option Addr) (n2 c2 : Nat) (hn2 : e.text.length = n2) (hR2 : RdB w A2 e.text) (hk : e.key.length = 32) (hc2 : n2 ≤ c2) (hA2 : ∀ a, A2 = some a → a.block < w.heap.size ∧ lo ≤ a.block) (hm : s.m.length ≤ 100000) (hn : s.n < 1000000) :
    Calls Try.prog 41 #[.pointer (some ⟨g, 0, none⟩), .slice A q c, .agg (EntL e.key e.beside A2 n2 c2).toArray] w fun en w' => en = .returned (.tuple #[]) ∧
      ∃ m', (((∀ p ∈ s.m, p.1 ≠ l) ∧ m' = s.m ++ [(l, e)]) ∨ ∃ (j : Nat) (e0 : Ent), s.m[j]? = some (l, e0) ∧ m' = s.m.set j (l, e)) ∧ BoxB w0 g S D b lo { s with m := m', n := s.n + 1 } w' ∧
      ∃ w1 w2, Below w.heap.size w w1 ∧ w1.grownBy w2 (some b) ∧ w2.grownBy w' (some g) := by
  have H := Lib.hid h
  have HQ := Lib.hid hq
  have HR := Lib.hid hR
  have HL := Lib.hid hl
  have N2 := Lib.hid hn2
  have R2 := Lib.hid hR2
  have HK := Lib.hid hk
  have C2 := Lib.hid hc2
  have HA := Lib.hid hA2
  have HM := Lib.hid hm
  have HN := Lib.hid hn
  have nb : (s.n : Int) < 1000000 := by omega
  obtain ⟨cs, hcs⟩ : ∃ cs, cs = (EntL e.key e.beside A2 n2 c2).toArray := ⟨_, rfl⟩
  have CE := Lib.hid hcs
  rw [← hcs]
  have Z := Lib.hid (show (Try.prog.info? 77).map (·.size) = some cs.size by rw [hcs, EntL_size _ _ _ _ _ hk]; exact info_ent)
  clear h hq hR hl hn2 hR2 hk hc2 hA2 hm hn hcs
  go_enter Try.func41, Try.ntmps41
  go_upto_region 1 with fail
  generalize hw1 : World.alloc w _ = w1
  have M1 := Lib.hid (show w1.heap[w.heap.size]? = some (.cells cs 77 (0, 0)) by rw [← hw1]; exact ha_new _ _ _ rfl)
  have B1 := Lib.hid (show Below w.heap.size w w1 by rw [← hw1]; exact below_new _ _)
  clear hw1
  have H1 := Lib.hid (H.out.keep B1.out)
  have B := Lib.hid (show Below w1.heap.size w1 w1.drew from (Below.refl _ _).drew)
  refine wp_region_till (fun W => Below w1.heap.size w1 W) 7 [(true, 0), (true, 1), (true, 2), (true, 3), (true, 4), (true, 5), (true, 6)] _ (by kernel_rfl) (by kernel_rfl) rfl (fun _ _ d _ _ h => by cases d <;> exact h) ?_
  simp only [List.filterMap_cons, List.filterMap_nil, List.getElem?_toArray, List.getElem?_cons_zero, List.getElem?_cons_succ, Option.map_some]
  refine till_q (v := ?_) (by rfl) (B.out) ?_ ?_
  rotate_left
  · intro W hW
    go_simp
    with_reducible rfl
  simp only [Act.put, List.setIfInBounds_toArray, List.set_cons_zero, List.set_cons_succ]
  refine till_q (v := ?_) (by rfl) (B.out) ?_ ?_
  rotate_left
  · intro W hW
    go_simp
    with_reducible rfl
  simp only [Act.put, List.setIfInBounds_toArray, List.set_cons_zero, List.set_cons_succ]
  refine till_q (v := ?_) (by rfl) (B.out) ?_ ?_
  rotate_left
  · intro W hW
    go_simp
    with_reducible rfl
  simp only [Act.put, List.setIfInBounds_toArray, List.set_cons_zero, List.set_cons_succ]
  refine till_q (by rfl) (B.out) (fun W hW => run_cell 62 (.tmp 8) rfl _ Try.underlying62 rfl rfl (row_cell (below_block hW (row_lt H1.out.row) H1.out.row) 2 rfl)) ?_
  simp only [Act.put, List.setIfInBounds_toArray, List.set_cons_zero, List.set_cons_succ]
  refine till_q (v := ?_) (by rfl) (B.out) ?_ ?_
  rotate_left
  · intro W hW
    go_simp
    with_reducible rfl
  simp only [Act.put, List.setIfInBounds_toArray, List.set_cons_zero, List.set_cons_succ]
  refine till_q (by rfl) (B.out) (fun W hW => run_str 23 9 (.tmp 10) rfl Try.underlying23 Try.underlying5 Try.underlying9 ((HR.out.keep B1.out).keep hW) q c HQ.out rfl) ?_
  simp only [Act.put, List.setIfInBounds_toArray, List.set_cons_zero, List.set_cons_succ]
  refine till_q (by rfl) (B.out) (fun W hW => run_load_row 77 (.tmp 5) rfl w.heap.size rfl 77 cs (0, 0) _ (below_block hW (row_lt M1.out) M1.out) Try.underlying77 rfl Z.out) ?_
  simp only [Act.put, List.setIfInBounds_toArray, List.set_cons_zero, List.set_cons_succ]
  have H2 := Lib.hid (H1.out.keep B.out)
  obtain ⟨w3, hrun, hg3, hput⟩ := mapB_put H2.out.map l (by rw [HQ.out]; exact HL.out) e A2 c2 HM.out ((R2.out.keep B1.out).keep B.out) HK.out (by rw [N2.out]; exact C2.out) (fun a ea => ⟨Nat.lt_of_lt_of_le (HA.out a ea).1 (Nat.le_trans B1.out.size B.out.size), (HA.out a ea).2⟩)
  rw [N2.out] at hrun
  have G3 := Lib.hid hg3
  have PUT := Lib.hid hput
  have RUN := Lib.hid (show (Instr.mapUpdate 62 (.map (some b)) (.string (strB l)) (.agg cs)).run Try.prog w1.drew = .ok () w3 by rw [CE.out]; exact hrun)
  clear hrun hg3 hput
  refine till_last (fun K hK => ?_)
  refine mapUpdate_wp 62 (.tmp 9) (.tmp 11) (.tmp 12) rfl rfl rfl rfl RUN.out ?_
  refine hK.out _ _ ?_
  clear hK K
  have W1 := Lib.hid (B1.out.size)
  obtain ⟨m', hm', hmap⟩ : ∃ m', (((∀ p ∈ s.m, p.1 ≠ l) ∧ m' = s.m ++ [(l, e)]) ∨ ∃ (j : Nat) (e0 : Ent), s.m[j]? = some (l, e0) ∧ m' = s.m.set j (l, e)) ∧ MapB lo b m' w3 := by
    rcases PUT.out with ⟨h1, h2⟩ | ⟨j, e0, h1, h2⟩
    · exact ⟨_, .inl ⟨h1, rfl⟩, h2⟩
    · exact ⟨_, .inr ⟨j, e0, h1, rfl⟩, h2⟩
  have MO := Lib.hid hm'
  have MB := Lib.hid hmap
  have RW3 := Lib.hid (show w3.heap[g]? = _ from grown_block G3.out (by intro e; injection e with e; exact H2.out.gb e) H2.out.row)
  have SR3 := Lib.hid (H2.out.src.far G3.out (by rintro k ⟨⟩; exact ⟨fun e => H2.out.Sb e.symm, fun e => H2.out.Db e.symm⟩))
  have c3 := row_cell RW3.out 3 rfl
  have f3 := row_free RW3.out 3
  clear hm' hmap PUT RUN
  go_wp2_with fail
  rw [show ((s.n : Int) + 1) = ((s.n + 1 : Nat) : Int) by omega]
  have G4 : w3.grownBy (w3.setCell ⟨g, 3, none⟩ (.int .i64 ((s.n + 1 : Nat) : Int))) (some g) := grown_set (World.grownBy.refl _ _) _ _
  go_end0
  refine ⟨rfl, m', MO.out, ?_, w1.drew, w3, B1.out.trans (B.out.mono B1.out.size), G3.out, G4⟩
  have hB : Below w0.heap.size w0 w3 := grown_below_trans H2.out.bel G3.out H2.out.hb
  exact ⟨grown_below_trans hB G4 H2.out.hg, H2.out.hg, H2.out.hS, H2.out.hD, H2.out.hb,
    by rw [heap_setCell_same _ _ _ _ _ _ RW3.out]; rfl,
    SR3.out.far G4 (by rintro k ⟨⟩; exact ⟨H2.out.gS, H2.out.gD⟩),
    Nat.lt_of_lt_of_le H2.out.ltD (Nat.le_trans G3.out.size G4.size),
    MB.out.far G4 (by rintro k ⟨⟩; exact ⟨H2.out.lg, H2.out.gb⟩),
    H2.out.gS, H2.out.gD, H2.out.gb, H2.out.Sb, H2.out.Db, H2.out.lg, H2.out.lS, by have := HN.out; show s.n + 1 ≤ 1000000; omega⟩
end Go.Proofs.Ytldjiigkebkgcaa

/- box.Box: draw. No condition but those each theorem states. -/
namespace Go.Proofs.Ytldjiigkebkgcaa
set_option linter.unusedVariables false
set_option linter.unusedSimpArgs false
open Go.RowKit
attribute [local go_sem ↓] Go.wp_at_zero Go.wp_at_succ

set_option maxRecDepth 100000 in
set_option maxHeartbeats 2000000 in
theorem bdraw_any (w0 : World) (g S D b lo : Nat) (s : BSt) (w : World) (h : BoxB w0 g S D b lo s w) (n : Nat) (hn : n ≤ 65536) (hu : s.u + n ≤ 900000) (hF : s.F.length ≤ 100000) :
    Calls Try.prog 40 #[.pointer (some ⟨g, 0, none⟩), .int .i64 (n : Int)] w fun e w' => ∃ v, e = .returned v ∧ OwnB w' w.heap.size v (tellS s.F s.u n) ∧ BoxB w0 g S D b lo { s with u := s.u + n } w' ∧ w.grownBy w' (some S) := by
  have TB := Lib.hid (show ByteT Try.prog from ⟨Try.underlying23, by kernel_rfl⟩)
  have H := Lib.hid h
  have HN := Lib.hid hn
  have HU := Lib.hid hu
  have HF := Lib.hid hF
  have nb : (n : Int) ≤ 65536 := by omega
  obtain ⟨T, hT⟩ : ∃ T, T = tellS s.F s.u n := ⟨_, rfl⟩
  have TE := Lib.hid hT
  have TL := Lib.hid (show T.length = n by rw [hT, tellS_length])
  rw [← hT]
  clear h hn hu hF hT
  go_enter Try.func40, Try.ntmps40
  go_wp2_with fail
  go_loopw [5] (fun v wr => (v = .slice none 0 0 ∧ wr = w) ∨ (0 < n ∧ OwnB wr w.heap.size v T ∧ BoxB w0 g S D b lo { s with u := s.u + n } wr ∧ w.grownBy wr (some S))) (fun v _ => n - lenOf v)
  case atStart => exact .inl ⟨rfl, rfl⟩
  case round =>
    rcases hrel with ⟨rfl, hw⟩ | ⟨hn0, ho, hs, hg⟩
    · rw [hw]
      clear hw wr
      rcases Nat.eq_zero_or_pos n with h0 | h0
      · have hD : decide ((0 : Int) < (n : Int)) = false := by simp; omega
        have hD2 : decide (0 < n) = false := by simp; omega
        have T0 := Lib.hid (show T = [] from List.eq_nil_of_length_eq_zero (by rw [TL.out, h0]))
        have N0 := Lib.hid h0
        clear h0
        go_wp2_with fail
        go_ret
        refine ⟨_, rfl, by rw [T0.out]; exact OwnB.nil _ _, ?_, World.grownBy.refl _ _⟩
        have := H.out
        rw [N0.out]
        exact this
      · have hD : decide ((0 : Int) < (n : Int)) = true := by simp; omega
        have hD2 : decide (0 < n) = true := by simp; omega
        have N0 := Lib.hid h0
        have c1 := row_cell H.out.row 1 rfl
        clear h0
        go_wp2_with fail
        refine (tell_any S D s.F s.u true w H.out.src H.out.ltD HF.out (n : Int) (by rw [takeN_nat n HN.out]; exact HU.out)).mono ?_
        rw [takeN_nat n HN.out, ← TE.out]
        rintro e w1 ⟨v, rfl, ho, hs, hg⟩
        obtain ⟨A', c', rfl, hr, _, _, _⟩ := ho.read
        rw [TL.out]
        have R := Lib.hid hr
        have SR := Lib.hid hs
        have G1 := Lib.hid hg
        clear ho hr hs hg c1
        go_wp2_with (refine app_list rfl TB.out (.tmp 10) (.tmp 19) rfl w.heap.size _ [] T A' n c' rfl rfl TL.out (OwnB.nil _ _) R.out G1.out.size (by have := HN.out; simp; omega) ?_)
        intro v1 w2 ho hg _
        have G2 := Lib.hid (grown_more G1.out hg (by rintro k e; simp [Value.ownBlock] at e))
        have O := Lib.hid ho
        have BB := Lib.hid ((H.out.step SR.out G1.out).keep (grown_below hg (Nat.le_refl _) (by rintro k e; simp [Value.ownBlock] at e)))
        obtain ⟨A2, c2, rfl, _, _, _, _⟩ := ho.read
        have O := Lib.hid (show OwnB w2 w.heap.size (.slice A2 n c2) T by have := O.out; rwa [TL.out] at this)
        rw [TL.out]
        clear ho hg
        go_wp2_with fail
        go_roundw
        case rel => exact .inr ⟨N0.out, O.out, BB.out, G2.out⟩
        case measure => have := N0.out; simp [lenOf]; omega
    · obtain ⟨A2, c2, rfl, _, _, _, _⟩ := ho.read
      have O := Lib.hid ho
      have BB := Lib.hid hs
      have G2 := Lib.hid hg
      rw [TL.out] at O ⊢
      have hD : decide ((n : Int) < (n : Int)) = false := by simp
      clear hn0 ho hs hg
      go_wp2_with fail
      go_ret
      exact ⟨_, rfl, O.out, BB.out, G2.out⟩
end Go.Proofs.Ytldjiigkebkgcaa

/- box.Box: ideal. No condition but those each theorem states. -/
namespace Go.Proofs.Ytldjiigkebkgcaa
set_option linter.unusedVariables false
set_option linter.unusedSimpArgs false
open Go.RowKit
attribute [local go_sem ↓] Go.wp_at_zero Go.wp_at_succ

def WhoL (k bs : List UInt8) : List Value := B8 k ++ [.string (strB bs)]
theorem WhoL_size (k bs : List UInt8) (h : k.length = 32) : (WhoL k bs).toArray.size = 33 := by simp [WhoL, B8_length, h]
theorem info_who : (Try.prog.info? 72).map (·.size) = some 33 := by kernel_rfl
/-- So many tries. -/
def idealL : Nat → BSt → Ent → BSt × Option (List UInt8)
  | 0, s, _ => (s, none)
  | t + 1, s, e =>
    if knownM s.m (tellS s.F s.u (e.text.length + 28)) then idealL t { s with u := s.u + (e.text.length + 28) } e
    else ({ s with u := s.u + (e.text.length + 28), m := s.m ++ [(tellS s.F s.u (e.text.length + 28), e)], n := s.n + 1 }, some (tellS s.F s.u (e.text.length + 28)))
theorem not_known {m : List (List UInt8 × Ent)} {l : List UInt8} (h : knownM m l = false) : ∀ p ∈ m, p.1 ≠ l := by
  simp only [knownM, List.any_eq_false, decide_eq_true_eq] at h
  exact h
/-- An entry out of its parts. -/
theorem run_newent {o : Oper} {a : Act} (x y : Operand) (ho : o.op = .build 77 #[(0, x), (1, y)]) (k bs : List UInt8) (hk : k.length = 32) (A : Option Addr) (n c : Nat) (hx : a.eval x = .agg (WhoL k bs).toArray) (hy : a.eval y = .slice A n c) (W : World) :
    (execOp a.eval o).run Try.prog W = .ok (.value (EntV k bs A n c)) W := by
  match k, hk with
  | [k0, k1, k2, k3, k4, k5, k6, k7, k8, k9, k10, k11, k12, k13, k14, k15, k16, k17, k18, k19, k20, k21, k22, k23, k24, k25, k26, k27, k28, k29, k30, k31], _ =>
    have h2 : ∀ (s : Value) (A : Option Addr) (n c : Nat) (v0 v1 v2 v3 v4 v5 v6 v7 v8 v9 v10 v11 v12 v13 v14 v15 v16 v17 v18 v19 v20 v21 v22 v23 v24 v25 v26 v27 v28 v29 v30 v31 : Value) (W : World),
        (Instr.build 77 #[(0, .agg #[v0, v1, v2, v3, v4, v5, v6, v7, v8, v9, v10, v11, v12, v13, v14, v15, v16, v17, v18, v19, v20, v21, v22, v23, v24, v25, v26, v27, v28, v29, v30, v31, s]), (1, Value.slice A n c)]).run Try.prog W = .ok (.agg #[v0, v1, v2, v3, v4, v5, v6, v7, v8, v9, v10, v11, v12, v13, v14, v15, v16, v17, v18, v19, v20, v21, v22, v23, v24, v25, v26, v27, v28, v29, v30, v31, s, .slice A n c]) W := by
      intros
      kernel_rfl
    unfold execOp
    simp only [ho, List.map_toArray, List.map_cons, List.map_nil, hx, hy, Sem.run_bind, Sem.run_pure]
    simp only [WhoL, B8, List.map_cons, List.map_nil, List.cons_append, List.nil_append, h2, Result.andThen_ok]
    rfl
/-- What lies elsewhere is as it was. -/
def BoxF (g S b : Nat) (w w' : World) : Prop := w.heap.size ≤ w'.heap.size ∧ ∀ k, k < w.heap.size → k ≠ g → k ≠ S → k ≠ b → w'.heap[k]? = w.heap[k]?
theorem BoxF.refl (g S b : Nat) (w : World) : BoxF g S b w w := ⟨Nat.le_refl _, fun _ _ _ _ _ => rfl⟩
theorem BoxF.below {g S b : Nat} {w W W' : World} (h : BoxF g S b w W) (hb : Below W.heap.size W W') : BoxF g S b w W' :=
  ⟨Nat.le_trans h.1 hb.size, fun k h1 h2 h3 h4 => (hb.block k (Nat.lt_of_lt_of_le h1 h.1)).trans (h.2 k h1 h2 h3 h4)⟩
theorem BoxF.grown {g S b : Nat} {w W W' : World} {r : Option Nat} (h : BoxF g S b w W) (hg : W.grownBy W' r) (hr : ∀ k, r = some k → k = g ∨ k = S ∨ k = b ∨ w.heap.size ≤ k) : BoxF g S b w W' :=
  ⟨Nat.le_trans h.1 hg.size, fun k h1 h2 h3 h4 => (hg.block k (Nat.lt_of_lt_of_le h1 h.1) (fun e => by have := hr k e.symm; omega)).trans (h.2 k h1 h2 h3 h4)⟩
theorem RdB.boxF {g S b : Nat} {w w' : World} {A : Option Addr} {l : List UInt8} (h : RdB w A l) (hf : BoxF g S b w w') (hA : l ≠ [] → ∀ a, A = some a → a.block ≠ g ∧ a.block ≠ S ∧ a.block ≠ b) : RdB w' A l := by
  intro j hj
  have hne : l ≠ [] := fun e => by rw [e] at hj; exact absurd hj (by simp)
  obtain ⟨k, o, e, hc⟩ := h j hj
  refine ⟨k, o, e, ?_⟩
  have h1 := hA hne _ e
  have h0 := h.lt hne _ e
  rw [← hc]
  have h2 := hf.2 k h0 h1.1 h1.2.1 h1.2.2
  simp only [World.cell?, h2]
/-- What was there before a box was made lies apart. -/
theorem RdB.apart {w0 : World} {A : Option Addr} {l : List UInt8} (h : RdB w0 A l) {g S b : Nat} (hl : w0.heap.size ≤ g ∧ w0.heap.size ≤ S ∧ w0.heap.size ≤ b) : l ≠ [] → ∀ a, A = some a → a.block ≠ g ∧ a.block ≠ S ∧ a.block ≠ b :=
  fun hne a e => by have := h.lt hne a e; omega
def IdealP (w0 : World) (g S D b lo : Nat) (w : World) (r : BSt × Option (List UInt8)) (e : Ending) (w' : World) : Prop :=
  ∃ A m c, e = .returned (.tuple #[.slice A m c, .int .i64 (if r.2.isSome then 0 else 15)]) ∧ RdB w' A (r.2.getD []) ∧ (r.2.getD []).length = m ∧ m ≤ c ∧ (∀ a, A = some a → w.heap.size ≤ a.block ∧ a.block < w'.heap.size) ∧ BoxB w0 g S D b lo r.1 w' ∧ BoxF g S b w w'
set_option maxRecDepth 100000 in
set_option maxHeartbeats 4000000 in
theorem ideal_any (w0 : World) (g S D b lo : Nat) (s : BSt) (w : World) (h : BoxB w0 g S D b lo s w) (e : Ent) (hk : e.key.length = 32) (A : Option Addr) (q c : Nat) (hq : e.text.length = q) (hc : q ≤ c) (hR : RdB w A e.text) (hO : e.text ≠ [] → ∀ a, A = some a → a.block ≠ g ∧ a.block ≠ S ∧ a.block ≠ b)
    (hq2 : q ≤ 60000) (hu : s.u + 8 * (q + 28) ≤ 900000) (hF : s.F.length ≤ 100000) (hm : s.m.length ≤ 10000) (hn : s.n ≤ 100000) (hlo : lo ≤ w.heap.size) :
    Calls Try.prog 27 #[.pointer (some ⟨g, 0, none⟩), .agg (WhoL e.key e.beside).toArray, .slice A q c] w (IdealP w0 g S D b lo w (idealL 8 s e)) := by
  have H := Lib.hid h
  have HK := Lib.hid hk
  have HQ := Lib.hid hq
  have HC := Lib.hid hc
  have HR := Lib.hid hR
  have HO := Lib.hid hO
  have Q2 := Lib.hid hq2
  have HU := Lib.hid hu
  have HF := Lib.hid hF
  have HM := Lib.hid hm
  have HN := Lib.hid hn
  have HL := Lib.hid hlo
  have qb : (q : Int) ≤ 60000 := by omega
  obtain ⟨cs, hcs⟩ : ∃ cs, cs = (WhoL e.key e.beside).toArray := ⟨_, rfl⟩
  have CE := Lib.hid hcs
  rw [← hcs]
  have Z := Lib.hid (show (Try.prog.info? 72).map (·.size) = some cs.size by rw [hcs, WhoL_size _ _ hk]; exact info_who)
  obtain ⟨X, hX⟩ : ∃ X, X = idealL 8 s e := ⟨_, rfl⟩
  have XE := Lib.hid hX.symm
  rw [← hX]
  clear h hk hq hc hR hO hq2 hu hF hm hn hlo hcs hX
  go_enter Try.func27, Try.ntmps27
  go_upto_region 1 with fail
  generalize hw1 : World.alloc w _ = w1
  have M1 := Lib.hid (show w1.heap[w.heap.size]? = some (.cells cs 72 (0, 0)) by rw [← hw1]; exact ha_new _ _ _ rfl)
  have B1 := Lib.hid (show Below w.heap.size w w1 by rw [← hw1]; exact below_new _ _)
  have S1 := Lib.hid (show w1.heap.size = w.heap.size + 1 by rw [← hw1, ha_size])
  clear hw1
  go_wp2_with fail
  go_loopw [9] (fun i wr => ∃ (t : Nat) (u : Nat), t ≤ 8 ∧ i = .int .i64 (t : Int) ∧ idealL (8 - t) { s with u := u } e = X ∧ u = s.u + t * (q + 28) ∧ BoxB w0 g S D b lo { s with u := u } wr ∧ BoxF g S b w1 wr) (fun i _ => 8 - (intOf i).toNat)
  case atStart => exact ⟨0, s.u, by omega, rfl, XE.out, by omega, H.out.keep B1.out, BoxF.refl _ _ _ _⟩
  case round =>
    obtain ⟨t, u, ht, rfl, hx, hu, hs, hf⟩ := hrel
    have T8 := Lib.hid ht
    have XR := Lib.hid hx
    have UE := Lib.hid hu
    have SB := Lib.hid hs
    have FR := Lib.hid hf
    clear ht hx hu hs hf
    by_cases h8 : t < 8
    · have hD : decide ((t : Int) < 8) = true := by simp; omega
      have T := Lib.hid h8
      have tb : (t : Int) ≤ 7 := by omega
      clear h8
      have HUB := Lib.hid (show u + (q + 28) ≤ 900000 ∧ u + (q + 28) = s.u + (t + 1) * (q + 28) by
        have h1 : (t + 1) * (q + 28) ≤ 8 * (q + 28) := Nat.mul_le_mul_right _ (by have := T.out; omega)
        have h2 := Nat.succ_mul t (q + 28)
        have h3 := UE.out
        have h4 := HU.out
        rw [Nat.succ_eq_add_one] at h2
        omega)
      have LT := Lib.hid (show g < w.heap.size ∧ S < w.heap.size ∧ b < w.heap.size from ⟨row_lt H.out.row, H.out.src.lt, H.out.map.lt⟩)
      go_wp2_with fail
      rw [show ((q : Int) + 28) = ((q + 28 : Nat) : Int) by omega]
      refine (bdraw_any w0 g S D b lo { s with u := u } wr SB.out (q + 28) (by have := Q2.out; omega) HUB.out.1 HF.out).mono ?_
      obtain ⟨x, hx⟩ : ∃ x, x = tellS s.F u (q + 28) := ⟨_, rfl⟩
      have XT := Lib.hid hx
      have XL := Lib.hid (show x.length = q + 28 by rw [hx, tellS_length])
      have XS := Lib.hid (show X = if knownM s.m x then idealL (8 - (t + 1)) { s with u := u + (q + 28) } e else ({ s with u := u + (q + 28), m := s.m ++ [(x, e)], n := s.n + 1 }, some x) by
        rw [← XR.out, show 8 - t = (8 - (t + 1)) + 1 by have := T.out; omega, idealL, hx, HQ.out])
      show ∀ _ _, _ → _
      simp only
      rw [← hx]
      rintro e2 w2 ⟨v, rfl, ho, hs, hg⟩
      obtain ⟨Ax, cx, rfl, hrx, hcx, _, hbx⟩ := ho.read
      rw [XL.out]
      have RX := Lib.hid hrx
      have BX := Lib.hid hbx
      have CX := Lib.hid (show q + 28 ≤ cx by rw [← XL.out]; exact hcx)
      have SB := Lib.hid (show BoxB w0 g S D b lo { s with u := u + (q + 28) } w2 from hs)
      have WR := Lib.hid (show w.heap.size ≤ wr.heap.size from Nat.le_trans B1.out.size FR.out.1)
      have FR := Lib.hid (FR.out.grown hg (by rintro k ⟨⟩; exact .inr (.inl rfl)))
      clear ho hs hg hrx hcx hbx hx
      go_wp2_with fail
      refine (known_any w0 g S D b lo { s with u := u + (q + 28) } w2 SB.out Ax (q + 28) cx x XL.out RX.out (by have := Q2.out; omega)).mono ?_
      rintro e2 w3 ⟨rfl, hb⟩
      have RX := Lib.hid (RX.out.keep hb)
      have SB := Lib.hid (SB.out.keep hb)
      have FR := Lib.hid (FR.out.below hb)
      have BX := Lib.hid (show ∀ a, Ax = some a → w.heap.size ≤ a.block ∧ a.block < w3.heap.size from fun a ea => ⟨Nat.le_trans WR.out (BX.out a ea).1, Nat.lt_of_lt_of_le (BX.out a ea).2 hb.size⟩)
      clear hb
      obtain ⟨β, hβ⟩ : ∃ β, β = knownM s.m x := ⟨_, rfl⟩
      simp only
      rw [← hβ]
      rw [← hβ] at XS
      have BE := Lib.hid hβ
      clear hβ
      cases β with
      | true =>
        have XN := Lib.hid (show idealL (8 - (t + 1)) { s with u := u + (q + 28) } e = X by rw [XS.out]; rfl)
        go_wp2_with fail
        go_roundw
        case rel => exact ⟨t + 1, u + (q + 28), by have := T.out; omega, by go_num, XN.out, HUB.out.2, SB.out, FR.out⟩
        case measure => have := T.out; simp [intOf]; omega
      | false =>
        have XN := Lib.hid (show X = ({ s with u := u + (q + 28), m := s.m ++ [(x, e)], n := s.n + 1 }, some x) by rw [XS.out]; rfl)
        go_upto_region 5 with fail
        have M3 := Lib.hid (show w3.heap[w.heap.size]? = some (.cells cs 72 (0, 0)) by
          rw [FR.out.2 w.heap.size (by have := S1.out; omega) (by have := LT.out.1; omega) (by have := LT.out.2.1; omega) (by have := LT.out.2.2; omega)]
          exact M1.out)
        have RT := Lib.hid (show RdB w3 A e.text from (HR.out.keep B1.out).boxF FR.out HO.out)
        have B := Lib.hid (show Below w3.heap.size w3 w3.drew from (Below.refl _ _).drew)
        have MD := Lib.hid (show w3.drew.heap[w.heap.size]? = some (.cells cs 72 (0, 0)) from M3.out)
        refine wp_region_road (fun W => W.heap[w.heap.size]? = some (.cells cs 72 (0, 0))) [(true, 0), (true, 1), (true, 2), (true, 3), (false, 4), (true, 5), (false, 6)] (by kernel_rfl) (by kernel_rfl) (fun _ _ d _ _ h => by cases d <;> exact h) ?_
        simp only [List.filterMap_cons, List.filterMap_nil, List.getElem?_toArray, List.getElem?_cons_zero, List.getElem?_cons_succ, Option.map_some]
        refine planG_q (v := ?_) (by rfl) (MD.out) ?_ ?_
        rotate_left
        · intro W hW
          go_simp
          with_reducible rfl
        simp only [Act.put, List.setIfInBounds_toArray, List.set_cons_zero, List.set_cons_succ]
        refine planG_q (v := ?_) (by rfl) (MD.out) ?_ ?_
        rotate_left
        · intro W hW
          go_simp
          with_reducible rfl
        simp only [Act.put, List.setIfInBounds_toArray, List.set_cons_zero, List.set_cons_succ]
        refine planG_q (by rfl) (MD.out) (fun W hW => run_load_row 72 (.tmp 4) rfl w.heap.size rfl 72 cs (0, 0) _ hW Try.underlying72 rfl Z.out) ?_
        simp only [Act.put, List.setIfInBounds_toArray, List.set_cons_zero, List.set_cons_succ]
        refine planG_q (v := ?_) (by rfl) (MD.out) ?_ ?_
        rotate_left
        · intro W hW
          go_simp
          with_reducible rfl
        simp only [Act.put, List.setIfInBounds_toArray, List.set_cons_zero, List.set_cons_succ]
        refine planG_t (by rfl) (fun K hK => ?_)
        go_simp
        refine (clone_any w3.drew A q c e.text HQ.out (RT.out.keep B.out) (by have := Q2.out; omega)).mono ?_
        rintro e2 w4 ⟨v, rfl, ho, hb⟩
        obtain ⟨Ac, cc, rfl, hrc, hcc, _, hbc⟩ := ho.read
        rw [HQ.out]
        have RC := Lib.hid hrc
        have CC := Lib.hid (show q ≤ cc by rw [← HQ.out]; exact hcc)
        have BC := Lib.hid (show ∀ a, Ac = some a → a.block < w4.heap.size ∧ lo ≤ a.block from fun a ea => ⟨(hbc a ea).2, by have := (hbc a ea).1; have := B.out.size; have := HL.out; have := S1.out; have := FR.out.1; omega⟩)
        have B4 := Lib.hid (B.out.trans (hb.mono B.out.size))
        have M4 := Lib.hid (below_block B4.out (row_lt M3.out) M3.out)
        clear ho hb hrc hcc hbc
        refine hK.out _ _ (M4.out) ?_
        clear hK K
        refine planG_q (by rfl) (M4.out) (fun W hW => run_newent (.tmp 22) (.tmp 24) rfl e.key e.beside HK.out Ac q cc (by rw [← CE.out]; rfl) rfl W) ?_
        simp only [Act.put, List.setIfInBounds_toArray, List.set_cons_zero, List.set_cons_succ]
        have SB4 := Lib.hid (SB.out.keep B4.out)
        have FR4 := Lib.hid (FR.out.below B4.out)
        refine planG_t (by rfl) (fun K hK => ?_)
        go_simp
        refine (keep_any w0 g S D b lo { s with u := u + (q + 28) } w4 SB4.out Ax (q + 28) cx x XL.out (RX.out.keep B4.out) (by have := Q2.out; omega) e Ac q cc HQ.out RC.out HK.out CC.out BC.out (Nat.le_trans HM.out (by omega)) (Nat.lt_of_le_of_lt HN.out (by omega))).mono ?_
        rintro e2 w5 ⟨rfl, m', hm', hbx, w6, w7, hb6, hg7, hg5⟩
        have MN := Lib.hid (show m' = s.m ++ [(x, e)] by
          rcases hm' with ⟨_, h⟩ | ⟨j, e0, h, _⟩
          · exact h
          · exact absurd rfl (not_known BE.out.symm _ (List.mem_of_getElem? h)))
        have SB5 := Lib.hid (show BoxB w0 g S D b lo { s with u := u + (q + 28), m := s.m ++ [(x, e)], n := s.n + 1 } w5 by rw [← MN.out]; exact hbx)
        have FR5 := Lib.hid (((FR4.out.below hb6).grown hg7 (by rintro k ⟨⟩; exact .inr (.inr (.inl rfl)))).grown hg5 (by rintro k ⟨⟩; exact .inl rfl))
        have RX5 := Lib.hid (show RdB w5 Ax x from ((RX.out.keep B4.out).keep hb6).grown hg7 (fun k ek a ea => by cases ek; have := (BX.out a ea).1; have := LT.out.2.2; omega) |>.grown hg5 (fun k ek a ea => by cases ek; have := (BX.out a ea).1; have := LT.out.1; omega))
        have Z5 := Lib.hid (show w3.heap.size ≤ w5.heap.size from Nat.le_trans B4.out.size (Nat.le_trans hb6.size (Nat.le_trans hg7.size hg5.size)))
        have M5 := Lib.hid (show w5.heap[w.heap.size]? = some (.cells cs 72 (0, 0)) from grown_block hg5 (by intro ee; injection ee with ee; have := LT.out.1; omega) (grown_block hg7 (by intro ee; injection ee with ee; have := LT.out.2.2; omega) (below_block hb6 (row_lt M4.out) M4.out)))
        clear hm' hbx hb6 hg7 hg5
        refine hK.out _ _ (M5.out) ?_
        clear hK K
        refine planG_nil ?_
        go_wp2_with fail
        go_ret2
        rw [XN.out]
        exact ⟨Ax, q + 28, cx, rfl, RX5.out, XL.out, CX.out, fun a ea => ⟨(BX.out a ea).1, Nat.lt_of_lt_of_le (BX.out a ea).2 Z5.out⟩, SB5.out, ⟨Nat.le_trans B1.out.size FR5.out.1, fun k h1 h2 h3 h4 => (FR5.out.2 k (Nat.lt_of_lt_of_le h1 B1.out.size) h2 h3 h4).trans (B1.out.block k h1)⟩⟩
    · have hD : decide ((t : Int) < 8) = false := by simp; omega
      have N := Lib.hid (show X = ({ s with u := u }, none) by rw [← XR.out, show 8 - t = 0 by omega]; rfl)
      clear h8
      go_wp2_with fail
      go_ret2
      rw [N.out]
      exact ⟨none, 0, 0, rfl, RdB.nil _ _, rfl, Nat.le_refl _, fun a e => (by cases e), SB.out, ⟨Nat.le_trans B1.out.size FR.out.1, fun k h1 h2 h3 h4 => (FR.out.2 k (Nat.lt_of_lt_of_le h1 B1.out.size) h2 h3 h4).trans (B1.out.block k h1)⟩⟩
end Go.Proofs.Ytldjiigkebkgcaa

/- box.New. No condition but those each theorem states. -/
namespace Go.Proofs.Ytldjiigkebkgcaa
set_option linter.unusedVariables false
set_option linter.unusedSimpArgs false
open Go.RowKit
attribute [local go_sem ↓] Go.wp_at_zero Go.wp_at_succ

def NewP (w0 : World) (S D : Nat) (F : List UInt8) (u k : Nat) (w : World) (e : Ending) (w' : World) : Prop :=
  ∃ g b lo, e = .returned (.tuple #[.pointer (some ⟨g, 0, none⟩), .int .i64 0]) ∧ BoxB w0 g S D b lo ⟨k, F, u, [], 0⟩ w' ∧ Below w.heap.size w w' ∧ lo ≤ w'.heap.size
set_option maxRecDepth 100000 in
set_option maxHeartbeats 1000000 in
theorem bnew_any (w0 : World) (S D : Nat) (F : List UInt8) (u : Nat) (w : World) (h : SrcW w0 S D F u w) (k : Nat) (hk : k = 0 ∨ k = 1) :
    Calls Try.prog 8 #[.int .i64 (k : Int), .pointer (some ⟨S, 0, none⟩)] w (NewP w0 S D F u k w) := by
  have H := Lib.hid h
  have K := Lib.hid hk
  have hB : ∀ w1 : World, w1 = (w.alloc (.map #[] 0)).alloc (.cells #[.int .i64 (k : Int), .pointer (some ⟨S, 0, none⟩), .map (some w.heap.size), .int .i64 0] 64) → BoxB w0 (w.heap.size + 1) S D w.heap.size (w.heap.size + 2) ⟨k, F, u, [], 0⟩ w1 ∧ Below w.heap.size w w1 ∧ w.heap.size + 2 ≤ w1.heap.size := by
    rintro w1 rfl
    have hb : Below w.heap.size w ((w.alloc (.map #[] 0)).alloc (.cells #[.int .i64 (k : Int), .pointer (some ⟨S, 0, none⟩), .map (some w.heap.size), .int .i64 0] 64)) := (below_new _ _).trans ((below_new _ _).mono (by simp))
    have hS := H.out.ltg
    have hD := H.out.ltD
    have h0 := H.out.bel.size
    refine ⟨⟨H.out.bel.trans (hb.mono h0), by omega, H.out.hg, H.out.hD, h0, ha_new _ _ _ (by simp), H.out.src.keep hb, Nat.lt_of_lt_of_le hD hb.size, ⟨⟨#[], 0, ha_old _ _ _ (by simp) (ha_new _ _ _ rfl), Go.MapKept.stamped_empty 0, .nil⟩, fun p hp => by simp at hp, by omega⟩, by omega, by omega, by omega, by omega, by omega, by omega, by omega, by show 0 ≤ 1000000; omega⟩, hb, by simp [ha_size]⟩
  have BB := Lib.hid (hB _ rfl)
  clear h hk hB
  have hmk : ∀ W : World, (Instr.makeMap 62 none).run Try.prog W = .ok (.map (some W.heap.size)) (W.alloc (.map #[] 0)) := fun W => run_makeMap _ W
  rcases K.out with hk | hk
  · subst hk
    go_enter Try.func8, Try.ntmps8
    go_wp2_with fail
    go_ret2
    exact ⟨_, _, _, rfl, BB.out.1, BB.out.2⟩
  · subst hk
    go_enter Try.func8, Try.ntmps8
    go_wp2_with fail
    go_ret2
    exact ⟨_, _, _, rfl, BB.out.1, BB.out.2⟩
end Go.Proofs.Ytldjiigkebkgcaa

/- box.Box: Seal, in the mode Ideal. No condition but those each theorem states. -/
namespace Go.Proofs.Ytldjiigkebkgcaa
set_option linter.unusedVariables false
set_option linter.unusedSimpArgs false
open Go.RowKit
attribute [local go_sem ↓] Go.wp_at_zero Go.wp_at_succ

/-- By what a text is sealed, out of its parts. -/
theorem run_newwho {o : Oper} {a : Act} (x y : Operand) (ho : o.op = .build 72 #[(0, x), (1, y)]) (k bs : List UInt8) (hk : k.length = 32) (hx : a.eval x = .agg (W8 k)) (hy : a.eval y = .string (strB bs)) (W : World) :
    (execOp a.eval o).run Try.prog W = .ok (.value (.agg (WhoL k bs).toArray)) W := by
  match k, hk with
  | [k0, k1, k2, k3, k4, k5, k6, k7, k8, k9, k10, k11, k12, k13, k14, k15, k16, k17, k18, k19, k20, k21, k22, k23, k24, k25, k26, k27, k28, k29, k30, k31], _ =>
    have h2 : ∀ (s : ByteArray) (v0 v1 v2 v3 v4 v5 v6 v7 v8 v9 v10 v11 v12 v13 v14 v15 v16 v17 v18 v19 v20 v21 v22 v23 v24 v25 v26 v27 v28 v29 v30 v31 : Value) (W : World),
        (Instr.build 72 #[(0, .agg #[v0, v1, v2, v3, v4, v5, v6, v7, v8, v9, v10, v11, v12, v13, v14, v15, v16, v17, v18, v19, v20, v21, v22, v23, v24, v25, v26, v27, v28, v29, v30, v31]), (1, .string s)]).run Try.prog W = .ok (.agg #[v0, v1, v2, v3, v4, v5, v6, v7, v8, v9, v10, v11, v12, v13, v14, v15, v16, v17, v18, v19, v20, v21, v22, v23, v24, v25, v26, v27, v28, v29, v30, v31, .string s]) W := by
      intros
      kernel_rfl
    unfold execOp
    simp only [ho, List.map_toArray, List.map_cons, List.map_nil, hx, hy, Sem.run_bind, Sem.run_pure]
    simp only [WhoL, W8, B8, List.map_toArray, List.map_cons, List.map_nil, List.cons_append, List.nil_append, h2, Result.andThen_ok]
theorem WhoL_one (k bs : List UInt8) : (WhoL k bs).toArray.all (·.oneCell') = true := all_oneCell_toArray (by
  intro v hv
  simp only [WhoL, List.mem_append, B8, List.mem_map, List.mem_cons, List.mem_nil_iff, or_false] at hv
  rcases hv with ⟨x, _, rfl⟩ | rfl <;> rfl)
set_option maxRecDepth 100000 in
set_option maxHeartbeats 4000000 in
theorem bseal_ideal (w0 : World) (g S D b lo : Nat) (s : BSt) (w : World) (h : BoxB w0 g S D b lo s w) (hmo : s.mode = 1) (e : Ent) (hk : e.key.length = 32) (Ab : Option Addr) (qb cb : Nat) (hqb : e.beside.length = qb) (hRb : RdB w Ab e.beside) (hb2 : qb ≤ 60000)
    (A : Option Addr) (q c : Nat) (hq : e.text.length = q) (hc : q ≤ c) (hR : RdB w A e.text) (hO : e.text ≠ [] → ∀ a, A = some a → a.block ≠ g ∧ a.block ≠ S ∧ a.block ≠ b)
    (hq2 : q ≤ 60000) (hu : s.u + 8 * (q + 28) ≤ 900000) (hF : s.F.length ≤ 100000) (hm : s.m.length ≤ 10000) (hn : s.n ≤ 100000) (hlo : lo ≤ w.heap.size) :
    Calls Try.prog 11 #[.pointer (some ⟨g, 0, none⟩), .agg (W8 e.key), .slice Ab qb cb, .slice A q c] w (IdealP w0 g S D b lo w (idealL 8 s e)) := by
  have H := Lib.hid h
  have HK := Lib.hid hk
  have HB := Lib.hid hqb
  have RB := Lib.hid hRb
  have HQ := Lib.hid hq
  have HC := Lib.hid hc
  have HR := Lib.hid hR
  have HO := Lib.hid hO
  have Q2 := Lib.hid hq2
  have HU := Lib.hid hu
  have HF := Lib.hid hF
  have HM := Lib.hid hm
  have HN := Lib.hid hn
  have HL := Lib.hid hlo
  have MO := Lib.hid (show (s.mode : Int) = 1 by omega)
  have d1 : decide ((65536 : Int) < (q : Int)) = false := by simp; omega
  have d2 : decide ((65536 : Int) < (qb : Int)) = false := by simp; omega
  have d3 : decide (65536 < q) = false := by simp; omega
  have d4 : decide (65536 < qb) = false := by simp; omega
  obtain ⟨cs, hcs⟩ : ∃ cs, cs = (WhoL e.key e.beside).toArray := ⟨_, rfl⟩
  have CE := Lib.hid hcs
  have CO := Lib.hid (show cs.all (·.oneCell') = true by rw [hcs]; exact WhoL_one _ _)
  have CS := Lib.hid (show cs.size = 33 by rw [hcs, WhoL_size _ _ hk])
  have Z := Lib.hid (show (Try.prog.info? 72).map (·.size) = some cs.size by rw [CS.out]; exact info_who)
  have ZK := Lib.hid (show (Try.prog.info? 37).map (·.size) = some (W8 e.key).size by rw [W8_size, hk]; kernel_rfl)
  obtain ⟨r, hr⟩ : ∃ r, r = idealL 8 s e := ⟨_, rfl⟩
  have RH := Lib.hid hr
  rw [← hr]
  clear h hmo hk hqb hRb hb2 hq hc hR hO hq2 hu hF hm hn hlo hcs hr
  go_enter Try.func11, Try.ntmps11
  go_upto_region 1 with fail
  generalize hw1 : World.alloc w _ = w1
  have M1 := Lib.hid (show w1.heap[w.heap.size]? = some (.cells (W8 e.key) 37 (0, 0)) by rw [← hw1]; exact ha_new _ _ _ rfl)
  have B1 := Lib.hid (show Below w.heap.size w w1 by rw [← hw1]; exact below_new _ _)
  clear hw1
  go_wp2_with fail
  refine (bnone_any w0 g S D b lo s w1 (H.out.keep B1.out)).mono ?_
  rintro e2 wd ⟨rfl, hw⟩
  rw [hw]
  clear hw wd
  go_upto_region 6 with (first
    | (refine wpList_val rfl (run_load_row 37 (.tmp 5) rfl w.heap.size rfl 37 (W8 e.key) (0, 0) _ M1.out Try.underlying37 rfl ZK.out) ?_)
    | (refine wpList_val rfl (run_str 23 9 (.tmp 24) rfl Try.underlying23 Try.underlying5 Try.underlying9 (RB.out.keep B1.out) qb cb HB.out rfl) ?_)
    | (refine wpList_val rfl (show (execOp _ _).run _ _ = .ok (.value (.agg cs)) _ by rw [CE.out]; exact run_newwho (.tmp 23) (.tmp 25) rfl e.key e.beside HK.out rfl rfl _) ?_)
    | (refine wpList_store_new rfl rfl 72 (.tmp 10) (.tmp 26) rfl cs rfl rfl Z.out ?c1 CO.out ?_))
  case c1 => rw [CS.out]; rfl
  generalize hM : Array.size (World.heap w1) = M
  generalize hw2 : World.alloc w1 _ = w2
  have M2 := Lib.hid (show w2.heap[M]? = some (.cells cs 72 (0, 0)) by rw [← hw2]; exact ha_new _ _ _ hM.symm)
  have B2 := Lib.hid (show Below w.heap.size w w2 by rw [← hw2]; exact B1.out.alloc B1.out.size _)
  clear hM hw2
  have H2 := Lib.hid (H.out.keep B2.out)
  have c0 := row_cell H2.out.row 0 rfl
  rw [MO.out] at c0
  go_wp2_with (refine wpList_val rfl (run_load_row 72 (.tmp 10) rfl M rfl 72 cs (0, 0) _ M2.out Try.underlying72 rfl Z.out) ?_)
  rw [CE.out]
  refine (ideal_any w0 g S D b lo s w2 H2.out e HK.out A q c HQ.out HC.out (HR.out.keep B2.out) HO.out Q2.out HU.out HF.out HM.out HN.out (Nat.le_trans HL.out B2.out.size)).mono ?_
  rw [← RH.out]
  rintro e2 w3 ⟨A3, m3, c3, rfl, hr3, hl3, hc3, hb3, hx3, hf3⟩
  have R3 := Lib.hid hr3
  have L3 := Lib.hid hl3
  have C3 := Lib.hid hc3
  have BB3 := Lib.hid hb3
  have X3 := Lib.hid hx3
  have F3 := Lib.hid hf3
  clear hr3 hl3 hc3 hb3 hx3 hf3 c0
  obtain ⟨kk, hkk⟩ : ∃ kk : Int, kk = (if r.2.isSome then 0 else 15) := ⟨_, rfl⟩
  have KE := Lib.hid hkk
  rw [← hkk]
  clear hkk
  go_wp2_with fail
  go_ret2
  exact ⟨A3, m3, c3, by rw [← KE.out]; rfl, R3.out, L3.out, C3.out, fun a ea => ⟨Nat.le_trans B2.out.size (BB3.out a ea).1, (BB3.out a ea).2⟩, X3.out, ⟨Nat.le_trans B2.out.size F3.out.1, fun k h1 h2 h3 h4 => (F3.out.2 k (Nat.lt_of_lt_of_le h1 B2.out.size) h2 h3 h4).trans (B2.out.block k h1)⟩⟩
end Go.Proofs.Ytldjiigkebkgcaa

/- aead: padded, count. No condition but those each theorem states. -/
namespace Go.Proofs.Ytldjiigkebkgcaa
set_option linter.unusedVariables false
set_option linter.unusedSimpArgs false
open Go.RowKit
attribute [local go_sem ↓] Go.wp_at_zero Go.wp_at_succ

/-- Zeros up to a block's end. -/
def padB (l : List UInt8) : List UInt8 := l ++ List.replicate ((16 - l.length % 16) % 16) 0
theorem padB_length (l : List UInt8) : (padB l).length = l.length + (16 - l.length % 16) % 16 := by simp [padB]
theorem padB_app (a b : List UInt8) : padB (padB a ++ b) = padB a ++ padB b := by
  have h : (padB a ++ b).length % 16 = b.length % 16 := by rw [List.length_append, padB_length]; omega
  conv => lhs; unfold padB
  rw [show (padB a ++ b) = a ++ List.replicate ((16 - a.length % 16) % 16) 0 ++ b from rfl] at h
  rw [h, List.append_assoc]
  rfl
/-- A length's eight bytes, the lowest first. -/
def leL (k n : Nat) : List UInt8 := (List.range k).map fun i => UInt8.ofNat (n / 2 ^ (8 * i))
theorem leL_length (k n : Nat) : (leL k n).length = k := by simp [leL]
theorem leL_succ (k n : Nat) : leL (k + 1) n = leL k n ++ [UInt8.ofNat (n / 2 ^ (8 * k))] := by simp [leL, List.range_succ]
set_option maxRecDepth 100000 in
set_option maxHeartbeats 1000000 in
theorem padded_any (w : World) (base : Nat) (v : Value) (b : List UInt8) (A : Option Addr) (n c : Nat) (t : List UInt8) (hn : t.length = n) (ho : OwnB w base v b) (hbase : base ≤ w.heap.size) (hR : RdB w A t) (hl : b.length + n ≤ 200000) :
    Calls Try.prog 47 #[v, .slice A n c] w fun e w' => ∃ v', e = .returned v' ∧ OwnB w' base v' (padB (b ++ t)) ∧ Below base w w' := by
  have TB := Lib.hid (show ByteT Try.prog from ⟨Try.underlying23, by kernel_rfl⟩)
  have HN := Lib.hid hn
  have O := Lib.hid ho
  have HB := Lib.hid hbase
  have HR := Lib.hid hR
  have HL := Lib.hid hl
  clear hn ho hbase hR hl
  go_enter Try.func47, Try.ntmps47
  go_wp2_with (refine app_list rfl TB.out (.tmp 5) (.tmp 6) rfl base v b t A n c rfl rfl HN.out O.out HR.out HB.out (by have := HL.out; omega) ?_)
  intro v1 w1 ho hg _
  have S := Lib.hid (grown_below hg HB.out (fun k e => (O.out.lt k e).1))
  obtain ⟨L, hL⟩ : ∃ L, L = b ++ t := ⟨_, rfl⟩
  rw [← hL] at ho
  have LE := Lib.hid hL
  have LN := Lib.hid (show L.length ≤ 200000 by rw [hL, List.length_append, HN.out]; exact HL.out)
  have O1 := Lib.hid ho
  have B1 := Lib.hid (Nat.le_trans HB.out hg.size)
  clear ho hg hL O HR
  obtain ⟨P, hP⟩ : ∃ P, P = L.length + (16 - L.length % 16) % 16 := ⟨_, rfl⟩
  have PE := Lib.hid hP
  clear hP
  go_wp2_with fail
  go_loopw [0] (fun u wr => ∃ j : Nat, L.length + j ≤ P ∧ OwnB wr base u (L ++ List.replicate j 0) ∧ Below base w wr ∧ base ≤ wr.heap.size) (fun u _ => P - lenOf u)
  case atStart => exact ⟨0, by have := PE.out; omega, by simpa using O1.out, S.out, B1.out⟩
  case round =>
    obtain ⟨j, hj, ho, hb, hs⟩ := hrel
    have J := Lib.hid hj
    have O := Lib.hid ho
    have S := Lib.hid hb
    have SZ := Lib.hid hs
    obtain ⟨A2, c2, hu, _⟩ := ho.read
    have hlen : (L ++ List.replicate j 0).length = L.length + j := by simp
    rw [hlen] at hu
    obtain ⟨m, hm⟩ : ∃ m, m = L.length + j := ⟨_, rfl⟩
    rw [← hm] at hu hj
    have ME := Lib.hid hm
    have LL := Lib.hid (show (L ++ List.replicate j 0).length = m by rw [hlen, hm])
    have mb : (m : Int) ≤ 300000 := by have := PE.out; have := LN.out; omega
    rw [hu] at O ⊢
    have PM := Lib.hid hj
    clear hj ho hb hs hlen hm hu
    by_cases h16 : m % 16 = 0
    · have e1 : (((m : Int) % 16) == 0) = true := by simp; omega
      have e2 : (((m : Int) % 16) != 0) = false := by simp; omega
      have hD : decide ((m : Int) % 16 = 0) = true := by simp; omega
      have JE := Lib.hid (show j = (16 - L.length % 16) % 16 by have := PE.out; have := ME.out; have := J.out; omega)
      clear h16
      go_wp2_with fail
      go_ret
      refine ⟨_, rfl, ?_, S.out⟩
      have := O.out
      rw [JE.out] at this
      rw [← LE.out]
      exact this
    · have e1 : (((m : Int) % 16) == 0) = false := by simp; omega
      have e2 : (((m : Int) % 16) != 0) = true := by simp; omega
      have hD : decide ((m : Int) % 16 = 0) = false := by simp; omega
      have MP := Lib.hid (show m < P by have := PE.out; have := ME.out; have := PM.out; omega)
      clear h16
      go_wp2_with (refine app_list rfl TB.out (.tmp 12) (.tmp 13) rfl base _ (L ++ List.replicate j 0) [0] (some ⟨wr.heap.size, 0, none⟩) 1 1 rfl rfl rfl (O.out.alloc _) (RdB.one (y := 0) (row_cell (fr := (0, 0)) (ha_new wr _ _ rfl) 0 rfl)) ?c1 ?c2 ?_)
      case c1 => have := SZ.out; rw [ha_size]; omega
      case c2 => have := LL.out; have := MP.out; have := PE.out; have := LN.out; omega
      intro v2 w2 ho hg _
      have B2 : Below base w (wr.alloc (.cells #[.int .u8 0] 5)) := S.out.alloc SZ.out _
      have S2 := Lib.hid (B2.trans (grown_below hg (by rw [ha_size]; have := SZ.out; omega) (fun k e => (O.out.lt k e).1)))
      have SZ2 := Lib.hid (show base ≤ w2.heap.size by have := hg.size; rw [ha_size] at this; have := SZ.out; omega)
      have O2 := Lib.hid (show OwnB w2 base v2 (L ++ List.replicate (j + 1) 0) by rw [List.replicate_succ']; exact ho)
      have VL := Lib.hid (show lenOf v2 = m + 1 by
        obtain ⟨A3, c3, e3, _⟩ := O2.out.read
        rw [e3]
        show (L ++ List.replicate (j + 1) 0).length = m + 1
        have := LL.out
        simp at this ⊢
        omega)
      clear ho hg B2
      go_wp2_with fail
      go_roundw
      case rel => exact ⟨j + 1, by have := MP.out; have := ME.out; omega, O2.out, S2.out, SZ2.out⟩
      case measure => rw [VL.out]; show P - (m + 1) < P - m; have := MP.out; omega
theorem le_byte_ex (n r : Nat) (hn : n ≤ 1000000) : ∃ z : UInt8, Hid (z = UInt8.ofNat (n / 2 ^ (8 * r))) ∧ IntKind.u8.wrap ((n : Int) / 2 ^ (8 * r)) = (z.toNat : Int) := by
  refine ⟨_, rfl, ?_⟩
  rw [IntKind.wrap_u8]
  have : ((n : Int) / 2 ^ (8 * r)) = ((n / 2 ^ (8 * r) : Nat) : Int) := by
    rw [Int.natCast_ediv, Int.natCast_pow]; rfl
  rw [this]
  simp
set_option maxRecDepth 100000 in
set_option maxHeartbeats 1000000 in
theorem count_any (w : World) (base : Nat) (v : Value) (b : List UInt8) (ho : OwnB w base v b) (hbase : base ≤ w.heap.size) (n : Nat) (hn : n ≤ 1000000) (hl : b.length ≤ 1000000) :
    Calls Try.prog 49 #[v, .int .i64 (n : Int)] w fun e w' => ∃ v', e = .returned v' ∧ OwnB w' base v' (b ++ leL 8 n) ∧ Below base w w' := by
  have TB := Lib.hid (show ByteT Try.prog from ⟨Try.underlying23, by kernel_rfl⟩)
  have O := Lib.hid ho
  have HB := Lib.hid hbase
  have HN := Lib.hid hn
  have HL := Lib.hid hl
  have nb : (n : Int) ≤ 1000000 := by omega
  have e0 : IntKind.u64.wrap (n : Int) = (n : Int) := by rw [IntKind.wrap_u64]; omega
  clear ho hbase hn hl
  go_enter Try.func49, Try.ntmps49
  go_wp2_with fail
  go_loopw [0, 6] (fun u i wr => ∃ r : Nat, r ≤ 8 ∧ i = .int .i64 (r : Int) ∧ OwnB wr base u (b ++ leL r n) ∧ Below base w wr ∧ base ≤ wr.heap.size) (fun _ i _ => 8 - (intOf i).toNat)
  case atStart => exact ⟨0, by omega, rfl, by simpa [leL] using O.out, Below.refl _ _, HB.out⟩
  case round =>
    obtain ⟨r, hr, rfl, ho, hb, hs⟩ := hrel
    have R := Lib.hid hr
    have O := Lib.hid ho
    have S := Lib.hid hb
    have SZ := Lib.hid hs
    clear hr ho hb hs
    by_cases hlt : r < 8
    · have hD : decide ((r : Int) < 8) = true := by simp; omega
      have R8 := Lib.hid hlt
      have e2 : 8 * (r : Int) ≤ 64 := by omega
      have e4 : (8 * (r : Int)).toNat = 8 * r := by omega
      obtain ⟨z, hz, e3⟩ := le_byte_ex n r HN.out
      have LL := Lib.hid (show (b ++ leL r n).length ≤ 1000008 by rw [List.length_append, leL_length]; have := HL.out; omega)
      clear hlt
      go_wp2_with (refine app_list rfl TB.out (.tmp 9) (.tmp 16) rfl base u0 (b ++ leL r n) [z] (some ⟨wr.heap.size, 0, none⟩) 1 1 rfl rfl rfl (O.out.alloc _) (RdB.one (row_cell (fr := (0, 0)) (ha_new wr _ _ rfl) 0 rfl)) ?c1 ?c2 ?_)
      case c1 => have := SZ.out; rw [ha_size]; omega
      case c2 => have := LL.out; omega
      intro v2 w2 ho hg _
      have B2 : Below base w (wr.alloc (.cells #[.int .u8 (z.toNat : Int)] 5)) := S.out.alloc SZ.out _
      have S2 := Lib.hid (B2.trans (grown_below hg (by rw [ha_size]; have := SZ.out; omega) (fun k e => (O.out.lt k e).1)))
      have SZ2 := Lib.hid (show base ≤ w2.heap.size by have := hg.size; rw [ha_size] at this; have := SZ.out; omega)
      have O2 := Lib.hid (show OwnB w2 base v2 (b ++ leL (r + 1) n) by rw [leL_succ, ← hz.out]; exact ho)
      clear ho hg B2 hD
      go_wp2_with fail
      go_roundw
      case rel => exact ⟨r + 1, by have := R8.out; omega, by go_num, O2.out, S2.out, SZ2.out⟩
      case measure => have := R8.out; simp [intOf]; omega
    · have hD : decide ((r : Int) < 8) = false := by simp; omega
      have RE := Lib.hid (show r = 8 by have := R.out; omega)
      go_wp2_with fail
      go_ret
      exact ⟨_, rfl, by have := O.out; rwa [RE.out] at this, S.out⟩
end Go.Proofs.Ytldjiigkebkgcaa

/- The rounds of a block: what mix, quarter, double do to a state of sixteen words that lies in memory. -/
namespace Go.Proofs.Ytldjiigkebkgcaa
set_option linter.unusedVariables false
set_option linter.unusedSimpArgs false
open Go.RowKit

/-- Half a quarter round. -/
def mixL (l : List UInt32) (a b c d f s : Nat) : List UInt32 :=
  let l1 := l.set a (l.getD a 0 + l.getD b 0)
  let l2 := l1.set d (rotl (l1.getD d 0 ^^^ l1.getD a 0) f)
  let l3 := l2.set c (l2.getD c 0 + l2.getD d 0)
  l3.set b (rotl (l3.getD b 0 ^^^ l3.getD c 0) s)
theorem mixL_length (l : List UInt32) (a b c d f s : Nat) : (mixL l a b c d f s).length = l.length := by simp [mixL]

/-- What is known of a world in which only block g was written, and which holds l there. -/
def StOK (w : World) (g : Nat) (l : List UInt32) (W : World) : Prop := W.heap[g]? = some (.cells (W32 l) 106 (0, 0)) ∧ w.grownBy W (some g)
theorem StOK.cell {w W : World} {g : Nat} {l : List UInt32} (h : StOK w g l W) (i : Nat) (hi : i < l.length) : W.cell? ⟨g, i, none⟩ = some (.int .u32 ((l.getD i 0).toNat : Int)) := row_cell h.1 i (W32_get l i hi)
theorem StOK.pick {w W : World} {g : Nat} {l : List UInt32} (h : StOK w g l W) (i : Nat) (hi : i < l.length) : ∃ x : UInt32, Hid (x = l.getD i 0) ∧ W.cell? ⟨g, i, none⟩ = some (.int .u32 (x.toNat : Int)) := ⟨_, rfl, h.cell i hi⟩
theorem StOK.free {w W : World} {g : Nat} {l : List UInt32} (h : StOK w g l W) (i : Nat) : W.frozen? ⟨g, i, none⟩ = false := row_free h.1 i
theorem StOK.set {w W : World} {g : Nat} {l : List UInt32} (h : StOK w g l W) (i : Nat) (x : UInt32) (v : Int) (hv : v = (x.toNat : Int)) : StOK w g (l.set i x) (W.setCell ⟨g, i, none⟩ (.int .u32 v)) := by
  subst hv
  exact ⟨by rw [heap_setCell_same _ _ _ _ _ _ h.1, W32_set], grown_set h.2 _ _⟩
theorem StOK.drew {w W : World} {g : Nat} {l : List UInt32} (h : StOK w g l W) : StOK w g l W.drew := ⟨h.1, grown_drew h.2⟩
theorem StOK.refl {w : World} {g : Nat} {l : List UInt32} (h : w.heap[g]? = some (.cells (W32 l) 106 (0, 0))) : StOK w g l w := ⟨h, World.grownBy.refl _ _⟩
theorem StOK.trans {w W W' : World} {g : Nat} {l l' : List UInt32} (h : StOK w g l W) (h' : StOK W g l' W') : StOK w g l' W' := ⟨h'.1, World.grownBy.trans h.2 h'.2⟩

set_option maxRecDepth 100000 in
theorem mix_any (g : Nat) (l : List UInt32) (hl : l.length = 16) (w : World) (H : StOK w g l w) (a b c d f s : Nat) (ha : (a : Int) < 16) (hb : (b : Int) < 16) (hc : (c : Int) < 16) (hd : (d : Int) < 16)
    (hf : (f : Int) < 32) (hf0 : (0 : Int) < f) (hkf : bits .and .u64 (IntKind.u64.wrap (f : Int)) 31 = (f : Int)) (hs : (s : Int) < 32) (hs0 : (0 : Int) < s) (hks : bits .and .u64 (IntKind.u64.wrap (s : Int)) 31 = (s : Int)) :
    Calls Try.prog 86 #[.pointer (some ⟨g, 0, none⟩), .int .i64 (a : Int), .int .i64 (b : Int), .int .i64 (c : Int), .int .i64 (d : Int), .int .i64 (f : Int), .int .i64 (s : Int)] w fun e w' =>
      e = .returned (.tuple #[]) ∧ StOK w g (mixL l a b c d f s) w' := by
  have HL := Lib.hid hl
  have K1 := Lib.hid hkf
  have K2 := Lib.hid hks
  have H0 := Lib.hid H
  obtain ⟨x, hx, a1⟩ := H.pick a (by omega)
  obtain ⟨y, hy, a2⟩ := H.pick b (by omega)
  have a3 := H.free a
  clear hkf hks H hl
  go_enter Try.func86, Try.ntmps86
  go_wp2
  go_region
  go_wp2
  clear a1 a2 a3
  refine wp_abs (fun W => StOK w g (l.set a (l.getD a 0 + l.getD b 0)) W) ((H0.out.set a _ _ (by rw [← hx.out, ← hy.out]; exact u32_add _ _)).drew) ?_
  clear hx hy
  generalize hl1 : l.set a (l.getD a 0 + l.getD b 0) = l1
  have HL1 := Lib.hid hl1
  have N1 := Lib.hid (show l1.length = 16 by rw [← hl1]; simpa using HL.out)
  clear hl1
  rintro w1 H1'
  have H1 := Lib.hid H1'
  obtain ⟨x1, hx, a1⟩ := H1'.pick d (by have := N1.out; omega)
  obtain ⟨y1, hy, a2⟩ := H1'.pick a (by have := N1.out; omega)
  have a3 := H1'.free d
  clear H1'
  obtain ⟨z1, hz, X⟩ := u32_xor_ex x1 y1
  go_still_tail 17, (by kernel_rfl)
  still_call (rot_any _ _ _ f hf hf0 K1.out)
  repeat still_step
  refine wpStill_nil ?_
  change wpList _ _ _ _ _ w1.drew
  go_wp2
  clear a1 a2 a3 X
  refine wp_abs (fun W => StOK w g (l1.set d (rotl (l1.getD d 0 ^^^ l1.getD a 0) f)) W) (by rw [← hx.out, ← hy.out, ← hz.out]; exact (H1.out.set d _ _ rfl).drew) ?_
  clear hx hy hz
  generalize hl2 : l1.set d (rotl (l1.getD d 0 ^^^ l1.getD a 0) f) = l2
  have HL2 := Lib.hid hl2
  have N2 := Lib.hid (show l2.length = 16 by rw [← hl2]; simpa using N1.out)
  clear hl2
  rintro w2 H2'
  have H2 := Lib.hid H2'
  obtain ⟨x2, hx, a1⟩ := H2'.pick c (by have := N2.out; omega)
  obtain ⟨y2, hy, a2⟩ := H2'.pick d (by have := N2.out; omega)
  have a3 := H2'.free c
  clear H2'
  go_region
  go_wp2
  clear a1 a2 a3
  refine wp_abs (fun W => StOK w g (l2.set c (l2.getD c 0 + l2.getD d 0)) W) ((H2.out.set c _ _ (by rw [← hx.out, ← hy.out]; exact u32_add _ _)).drew) ?_
  clear hx hy
  generalize hl3 : l2.set c (l2.getD c 0 + l2.getD d 0) = l3
  have HL3 := Lib.hid hl3
  have N3 := Lib.hid (show l3.length = 16 by rw [← hl3]; simpa using N2.out)
  clear hl3
  rintro w3 H3'
  have H3 := Lib.hid H3'
  obtain ⟨x3, hx, a1⟩ := H3'.pick b (by have := N3.out; omega)
  obtain ⟨y3, hy, a2⟩ := H3'.pick c (by have := N3.out; omega)
  have a3 := H3'.free b
  clear H3'
  obtain ⟨z3, hz, X⟩ := u32_xor_ex x3 y3
  go_still_tail 17, (by kernel_rfl)
  still_call (rot_any _ _ _ s hs hs0 K2.out)
  repeat still_step
  refine wpStill_nil ?_
  change wpList _ _ _ _ _ w3.drew
  go_wp2
  go_end0
  refine ⟨rfl, ?_⟩
  have F : StOK w g (l3.set b (rotl (l3.getD b 0 ^^^ l3.getD c 0) s)) (w3.setCell ⟨g, b, none⟩ (.int .u32 ((rotl z3 s).toNat : Int))).drew := by rw [← hx.out, ← hy.out, ← hz.out]; exact (H3.out.set b _ _ rfl).drew
  have E : l3.set b (rotl (l3.getD b 0 ^^^ l3.getD c 0) s) = mixL l a b c d f s := by
    rw [← HL3.out, ← HL2.out, ← HL1.out]; rfl
  rw [← E]; exact F
end Go.Proofs.Ytldjiigkebkgcaa

/- A quarter round, and a double round, of the sixteen words that lie in memory. -/
namespace Go.Proofs.Ytldjiigkebkgcaa
set_option linter.unusedVariables false
set_option linter.unusedSimpArgs false
open Go.RowKit

def quarterL (l : List UInt32) (a b c d : Nat) : List UInt32 := mixL (mixL l a b c d 16 12) a b c d 8 7
theorem quarterL_length (l : List UInt32) (a b c d : Nat) : (quarterL l a b c d).length = l.length := by simp [quarterL, mixL_length]
def stepL (l : List UInt32) (y i : Nat) : List UInt32 := quarterL l i (4 + (i + y) % 4) (8 + (i + 2 * y) % 4) (12 + (i + 3 * y) % 4)
/-- The first k quarter rounds of a double round. -/
def dblK (l : List UInt32) : Nat → List UInt32
  | 0 => l
  | k + 1 => stepL (dblK l k) (k / 4) (k % 4)
theorem dblK_length (l : List UInt32) (k : Nat) : (dblK l k).length = l.length := by
  induction k with
  | zero => rfl
  | succ k ih => rw [dblK, stepL, quarterL_length, ih]

set_option maxRecDepth 100000 in
theorem quarter_nat (g : Nat) (l : List UInt32) (hl : l.length = 16) (w : World) (H : StOK w g l w) (a b c d : Nat) (ha : (a : Int) < 16) (hb : (b : Int) < 16) (hc : (c : Int) < 16) (hd : (d : Int) < 16) :
    Calls Try.prog 71 #[.pointer (some ⟨g, 0, none⟩), .int .i64 (a : Int), .int .i64 (b : Int), .int .i64 (c : Int), .int .i64 (d : Int)] w fun e w' =>
      e = .returned (.tuple #[]) ∧ StOK w g (quarterL l a b c d) w' := by
  have C1 := mix_any g l hl w H a b c d 16 12 ha hb hc hd (by decide) (by decide) (by decide) (by decide) (by decide) (by decide)
  have HL := Lib.hid hl
  have H0 := Lib.hid H
  have K1 := Lib.hid C1
  clear hl H C1
  go_enter Try.func71, Try.ntmps71
  go_wp2_with fail
  refine K1.out.mono ?_
  rintro e w1 ⟨rfl, H1'⟩
  have H1 := Lib.hid H1'
  clear H1'
  go_wp2_with fail
  refine (mix_any g (mixL l a b c d 16 12) (by rw [mixL_length]; exact HL.out) _ (StOK.refl H1.out.1) a b c d 8 7 ha hb hc hd (by decide) (by decide) (by decide) (by decide) (by decide) (by decide)).mono ?_
  rintro e w2 ⟨rfl, H2'⟩
  have H2 := Lib.hid H2'
  clear H2'
  go_wp2_with fail
  go_end0
  exact ⟨rfl, H1.out.trans H2.out⟩

theorem quarter_any (g : Nat) (l : List UInt32) (hl : l.length = 16) (w : World) (H : StOK w g l w) (a b c d : Int) (ha : 0 ≤ a ∧ a < 16) (hb : 0 ≤ b ∧ b < 16) (hc : 0 ≤ c ∧ c < 16) (hd : 0 ≤ d ∧ d < 16) :
    Calls Try.prog 71 #[.pointer (some ⟨g, 0, none⟩), .int .i64 a, .int .i64 b, .int .i64 c, .int .i64 d] w fun e w' =>
      e = .returned (.tuple #[]) ∧ StOK w g (quarterL l a.toNat b.toNat c.toNat d.toNat) w' := by
  obtain ⟨a, rfl⟩ := Int.eq_ofNat_of_zero_le ha.1
  obtain ⟨b, rfl⟩ := Int.eq_ofNat_of_zero_le hb.1
  obtain ⟨c, rfl⟩ := Int.eq_ofNat_of_zero_le hc.1
  obtain ⟨d, rfl⟩ := Int.eq_ofNat_of_zero_le hd.1
  exact quarter_nat g l hl w H a b c d ha.2 hb.2 hc.2 hd.2

theorem row_any (r i y : Int) (hr : 0 ≤ r ∧ r < 4) (hi : 0 ≤ i ∧ i < 4) (hy : 0 ≤ y ∧ y < 8) (w : World) :
    Calls Try.prog 72 #[.int .i64 r, .int .i64 i, .int .i64 y] w fun e w' => e = .returned (.int .i64 (4 * r + (i + y) % 4)) ∧ w = w' := by
  go_enter Try.func72, Try.ntmps72
  go_wp2
  go_ret
  exact ⟨rfl, rfl⟩

set_option maxRecDepth 100000 in
theorem double_any (g : Nat) (l : List UInt32) (hl : l.length = 16) (w : World) (H : StOK w g l w) :
    Calls Try.prog 56 #[.pointer (some ⟨g, 0, none⟩)] w fun e w' => e = .returned (.tuple #[]) ∧ StOK w g (dblK l 8) w' := by
  have HL := Lib.hid hl
  have H0 := Lib.hid H
  clear hl H
  go_enter Try.func56, Try.ntmps56
  go_wp2
  go_loopw [4] (fun i wr => ∃ y : Nat, y ≤ 2 ∧ i = .int .i64 (y : Int) ∧ StOK w g (dblK l (4 * y)) wr) (fun i _ => 2 - (intOf i).toNat)
  case atStart => exact ⟨0, by omega, rfl, H0.out⟩
  case round =>
    obtain ⟨y, hy, rfl, H1'⟩ := hrel
    have H1 := Lib.hid H1'
    clear H1' H0
    by_cases hlt : y < 2
    · obtain ⟨wo, rfl⟩ : ∃ wo : World, wo = wr := ⟨_, rfl⟩
      have hD : decide ((y : Int) < 2) = true := by simp; omega
      go_wp2_with fail
      go_loopw [7] (fun i wr => ∃ j : Nat, j ≤ 4 ∧ i = .int .i64 (j : Int) ∧ StOK w g (dblK l (4 * y + j)) wr) (fun i _ => 4 - (intOf i).toNat)
      case atStart => exact ⟨0, by omega, rfl, H1.out⟩
      case round =>
        obtain ⟨j, hj, rfl, H2'⟩ := hrel
        have H2 := Lib.hid H2'
        clear H2' H1
        by_cases hlt2 : j < 4
        · go_wp2_with fail
          refine (row_any _ _ _ (by omega) (by omega) (by omega) _).mono ?_
          rintro e w1 ⟨rfl, rfl⟩
          go_wp2_with fail
          refine (row_any _ _ _ (by omega) (by omega) (by omega) _).mono ?_
          rintro e w1 ⟨rfl, rfl⟩
          go_wp2_with fail
          refine (row_any _ _ _ (by omega) (by omega) (by omega) _).mono ?_
          rintro e w1 ⟨rfl, rfl⟩
          go_wp2_with fail
          refine (quarter_any g (dblK l (4 * y + j)) (by rw [dblK_length]; exact HL.out) _ (StOK.refl H2.out.1) _ _ _ _ (by omega) (by omega) (by omega) (by omega)).mono ?_
          rintro e w1 ⟨rfl, H3'⟩
          have H3 := Lib.hid (H2.out.trans H3')
          clear H3'
          go_wp2_with fail
          go_roundw
          case rel =>
            refine ⟨j + 1, by omega, by go_num, ?_⟩
            have := H3.out
            rw [show 4 * y + (j + 1) = 4 * y + j + 1 by omega, dblK, stepL, show (4 * y + j) / 4 = y by omega, show (4 * y + j) % 4 = j by omega]
            rw [show ((j : Int)).toNat = j by omega, show (4 + ((j : Int) + (y : Int)) % 4).toNat = 4 + (j + y) % 4 by omega, show (8 + ((j : Int) + 2 * (y : Int)) % 4).toNat = 8 + (j + 2 * y) % 4 by omega, show (12 + ((j : Int) + 3 * (y : Int)) % 4).toNat = 12 + (j + 3 * y) % 4 by omega] at this
            exact this
          case measure => simp [intOf]; omega
        · have hj4 : j = 4 := by omega
          subst hj4
          go_wp2_with fail
          go_roundw
          case rel => exact ⟨y + 1, by omega, by go_num, by have := H2.out; rw [show 4 * (y + 1) = 4 * y + 4 by omega]; exact this⟩
          case measure => simp [intOf]; omega
    · have hy2 : y = 2 := by omega
      subst hy2
      go_wp2_with fail
      go_end0
      exact ⟨rfl, H1.out⟩
end Go.Proofs.Ytldjiigkebkgcaa

/- Bytes are laid into the words of a state. -/
namespace Go.Proofs.Ytldjiigkebkgcaa
set_option linter.unusedVariables false
set_option linter.unusedSimpArgs false
open Go.RowKit

def loadK (l : List UInt32) (p : Nat) (bs : List UInt8) : Nat → List UInt32
  | 0 => l
  | k + 1 => (loadK l p bs k).set (p + k / 4) ((loadK l p bs k).getD (p + k / 4) 0 ||| (bs.getD k 0).toUInt32 <<< (UInt32.ofNat (8 * (k % 4))))
theorem loadK_length (l : List UInt32) (p : Nat) (bs : List UInt8) (k : Nat) : (loadK l p bs k).length = l.length := by
  induction k with
  | zero => rfl
  | succ k ih => simp [loadK, ih]

theorem load_word (x : UInt32) (y : UInt8) (n : Nat) (hn : n < 32) :
    bits .or .u32 (x.toNat : Int) ((y.toNat : Int) * 2 ^ n % 4294967296) = ((x ||| y.toUInt32 <<< (UInt32.ofNat n)).toNat : Int) := by
  have h1 : (y.toNat : Int) * 2 ^ n % 4294967296 = ((y.toNat * 2 ^ n % 4294967296 : Nat) : Int) := by
    rw [Int.natCast_emod, Int.natCast_mul, Int.natCast_pow]; rfl
  have e1 : (UInt32.ofNat n).toNat = n := by simp; omega
  rw [h1, u32_or_nat _ _ x.toNat_lt (by omega), UInt32.toNat_or, UInt32.toNat_shiftLeft, e1, Nat.mod_eq_of_lt hn, Nat.shiftLeft_eq, UInt8.toNat_toUInt32]

set_option maxRecDepth 100000 in
theorem load_any (g : Nat) (l : List UInt32) (hl : l.length = 16) (w : World) (H : StOK w g l w) (p : Nat) (A : Option Addr) (bs : List UInt8) (c : Nat) (hR : RdB w A bs) (hoff : Off A g) (hp : p * 4 + bs.length ≤ 64) :
    Calls Try.prog 55 #[.pointer (some ⟨g, 0, none⟩), .int .i64 (p : Int), .slice A bs.length c] w fun e w' => e = .returned (.tuple #[]) ∧ StOK w g (loadK l p bs bs.length) w' := by
  have HL := Lib.hid hl
  have H0 := Lib.hid H
  have HR := Lib.hid hR
  have HO := Lib.hid hoff
  clear hl H hR hoff
  go_enter Try.func55, Try.ntmps55
  go_wp2
  go_loopw [10] (fun i wr => ∃ k : Nat, k ≤ bs.length ∧ i = .int .i64 (k : Int) ∧ StOK w g (loadK l p bs k) wr) (fun i _ => bs.length - (intOf i).toNat)
  case atStart => exact ⟨0, by omega, rfl, H0.out⟩
  case round =>
    obtain ⟨k, hk, rfl, H1'⟩ := hrel
    have H1 := Lib.hid H1'
    clear H1'
    by_cases hlt : k < bs.length
    · obtain ⟨b, o, rfl, y, hy, a1⟩ := (HR.out.grown H1.out.2 (fun _ e => by cases e; exact HO.out)).get k hlt
      obtain ⟨x, hx, a2⟩ := H1.out.pick (p + k / 4) (by rw [loadK_length, HL.out]; omega)
      have a3 := H1.out.free (p + k / 4)
      have hb8 := u8_lt y
      go_wp2
      go_region
      go_wp2
      go_roundw
      case rel =>
        refine ⟨k + 1, by omega, by go_num, ?_⟩
        rw [load_word x y (8 * (k % 4)) (by omega)]
        refine (H1.out.set (p + k / 4) _ _ ?_).drew
        rw [← hx.out, ← hy.out]
      case measure => simp [intOf]; omega
    · have hk' : k = bs.length := by omega
      subst hk'
      go_wp2
      go_end0
      exact ⟨rfl, H1.out⟩

theorem load_len (g : Nat) (l : List UInt32) (hl : l.length = 16) (w : World) (H : StOK w g l w) (p : Nat) (A : Option Addr) (bs : List UInt8) (n c : Nat) (hn : bs.length = n) (hR : RdB w A bs) (hoff : Off A g) (hp : p * 4 + n ≤ 64) :
    Calls Try.prog 55 #[.pointer (some ⟨g, 0, none⟩), .int .i64 (p : Int), .slice A n c] w fun e w' => e = .returned (.tuple #[]) ∧ StOK w g (loadK l p bs n) w' := by
  subst hn
  exact load_any g l hl w H p A bs c hR hoff hp
end Go.Proofs.Ytldjiigkebkgcaa

/- A block of the key's bytes. -/
namespace Go.Proofs.Ytldjiigkebkgcaa
set_option linter.unusedVariables false
set_option linter.unusedSimpArgs false
open Go.RowKit

def dblN (l : List UInt32) : Nat → List UInt32
  | 0 => l
  | k + 1 => dblK (dblN l k) 8
theorem dblN_length (l : List UInt32) (k : Nat) : (dblN l k).length = l.length := by
  induction k with
  | zero => rfl
  | succ k ih => rw [dblN, dblK_length, ih]
def headL : List UInt32 := [0x61707865, 0x3320646e, 0x79622d32, 0x6b206574, 0, 0, 0, 0, 0, 0, 0, 0, 0, 0, 0, 0]
def initL (k n : List UInt8) (count : UInt32) : List UInt32 := (loadK (loadK headL 4 k 32) 13 n 12).set 12 count
theorem initL_length (k n : List UInt8) (count : UInt32) : (initL k n count).length = 16 := by simp [initL, loadK_length, headL]
def byteOf (v s : List UInt32) (i : Nat) : UInt8 := ((v.getD (i / 4) 0 + s.getD (i / 4) 0) >>> (UInt32.ofNat (8 * (i % 4)))).toUInt8
def outK (v s : List UInt32) : Nat → List UInt8
  | 0 => List.replicate 64 0
  | i + 1 => (outK v s i).set i (byteOf v s i)
theorem outK_length (v s : List UInt32) (i : Nat) : (outK v s i).length = 64 := by
  induction i with
  | zero => simp [outK]
  | succ i ih => simp [outK, ih]
/-- The block. -/
def blockL (k n : List UInt8) (count : UInt32) : List UInt8 := outK (dblN (initL k n count) 10) (initL k n count) 64
theorem blockL_length (k n : List UInt8) (count : UInt32) : (blockL k n count).length = 64 := outK_length _ _ _

theorem sum_ex (x y : UInt32) : ∃ z : UInt32, Hid (z = x + y) ∧ IntKind.u32.wrap ((x.toNat : Int) + (y.toNat : Int)) = (z.toNat : Int) := ⟨_, rfl, by rw [IntKind.wrap_u32, u32_add]⟩
theorem byte_ex (z : UInt32) (n : Nat) (hn : n < 32) : ∃ q : UInt8, Hid (q = (z >>> (UInt32.ofNat n)).toUInt8) ∧ IntKind.u8.wrap ((z.toNat : Int) / 2 ^ n) = (q.toNat : Int) := by
  refine ⟨_, rfl, ?_⟩
  have h2 : (z.toNat : Int) / 2 ^ n = ((z.toNat / 2 ^ n : Nat) : Int) := by
    rw [Int.natCast_ediv, Int.natCast_pow]; rfl
  have e1 : (UInt32.ofNat n).toNat = n := by simp; omega
  rw [h2, IntKind.wrap_u8, UInt32.toNat_toUInt8, UInt32.toNat_shiftRight, e1, Nat.mod_eq_of_lt hn, Nat.shiftRight_eq_div_pow]
  omega

/-- The call's own variables, once they are laid. -/
structure BlkW (w : World) (k n : List UInt8) (s : List UInt32) (W : World) : Prop where
  bk : W.heap[w.heap.size]? = some (.cells (W8 k) 37 (0, 0))
  bn : W.heap[w.heap.size + 1]? = some (.cells (W8 n) 47 (0, 0))
  bz : W.heap[w.heap.size + 1 + 1]? = some (.cells (W8 (List.replicate 64 0)) 94 (0, 0))
  bs : W.heap[w.heap.size + 1 + 1 + 1]? = some (.cells (W32 s) 106 (0, 0))
  bel : Below w.heap.size w W
theorem blk_start (w : World) (k n : List UInt8) : BlkW w k n headL ((((w.alloc (.cells (W8 k) 37)).alloc (.cells (W8 n) 47)).alloc (.cells (W8 (List.replicate 64 0)) 94)).alloc (.cells (W32 headL) 106)) where
  bk := ha_old _ _ _ (by simp; omega) (ha_old _ _ _ (by simp; omega) (ha_old _ _ _ (by simp) (ha_new _ _ _ rfl)))
  bn := ha_old _ _ _ (by simp) (ha_old _ _ _ (by simp) (ha_new _ _ _ (by simp)))
  bz := ha_old _ _ _ (by simp) (ha_new _ _ _ (by simp))
  bs := ha_new _ _ _ (by simp)
  bel := ((((Below.refl _ _).alloc (Nat.le_refl _) _).alloc (by simp) _).alloc (by simp; omega) _).alloc (by simp; omega) _
theorem BlkW.step {w W W' : World} {k n : List UInt8} {s s' : List UInt32} (h : BlkW w k n s W) (h' : StOK W (w.heap.size + 1 + 1 + 1) s' W') : BlkW w k n s' W' where
  bk := grown_block h'.2 (by simp; omega) h.bk
  bn := grown_block h'.2 (by simp) h.bn
  bz := grown_block h'.2 (by simp) h.bz
  bs := h'.1
  bel := h.bel.trans (grown_below h'.2 (Nat.le_of_lt (row_lt h.bk)) (by rintro g ⟨⟩; omega))
theorem BlkW.grown {w W W' : World} {k n : List UInt8} {s : List UInt32} {M : Nat} (h : BlkW w k n s W) (h' : W.grownBy W' (some M)) (hM : w.heap.size + 1 + 1 + 1 < M) : BlkW w k n s W' where
  bk := grown_block h' (by simp; omega) h.bk
  bn := grown_block h' (by simp; omega) h.bn
  bz := grown_block h' (by simp; omega) h.bz
  bs := grown_block h' (by simp; omega) h.bs
  bel := h.bel.trans (grown_below h' (Nat.le_of_lt (row_lt h.bk)) (by rintro g ⟨⟩; omega))
theorem BlkW.st {w W : World} {k n : List UInt8} {s : List UInt32} (h : BlkW w k n s W) : StOK W (w.heap.size + 1 + 1 + 1) s W := StOK.refl h.bs
theorem BlkW.keep {w W W' : World} {k n : List UInt8} {s : List UInt32} {B : Nat} (h : BlkW w k n s W) (h' : Below B W W') (hB : w.heap.size + 1 + 1 + 1 < B) : BlkW w k n s W' where
  bk := below_block h' (by omega) h.bk
  bn := below_block h' (by omega) h.bn
  bz := below_block h' (by omega) h.bz
  bs := below_block h' hB h.bs
  bel := h.bel.trans (h'.mono (by omega))
theorem BlkW.lt {w W : World} {k n : List UInt8} {s : List UInt32} (h : BlkW w k n s W) : w.heap.size + 1 + 1 + 1 < W.heap.size := row_lt h.bs

set_option maxRecDepth 100000 in
set_option maxHeartbeats 1000000 in
theorem block_any (k n : List UInt8) (hk : k.length = 32) (hn : n.length = 12) (count : UInt32) (w : World) :
    Calls Try.prog 46 #[.agg (W8 k), .agg (W8 n), .int .u32 (count.toNat : Int)] w fun e w' => e = .returned (.agg (W8 (blockL k n count))) ∧ Below w.heap.size w w' := by
  have HK := Lib.hid hk
  have HN := Lib.hid hn
  clear hk hn
  go_enter Try.func46, Try.ntmps46
  go_wp2_with fail
  refine calls_abs (fun W => BlkW w k n headL W) (blk_start w k n) ?_
  intro W0 H0'
  refine (load_len _ headL rfl _ H0'.st 4 (some ⟨w.heap.size, 0, none⟩) k 32 32 HK.out (RdB.row H0'.bk) (by intro a e; cases e; simp; omega) (by omega)).mono ?_
  rintro e w1 ⟨rfl, H1'⟩
  replace H1' := H0'.step H1'
  have H1 := Lib.hid H1'
  clear H1' H0' W0
  go_wp2_with fail
  refine (load_len _ _ (by rw [loadK_length]; rfl) _ H1.out.st 13 (some ⟨w.heap.size + 1, 0, none⟩) n 12 12 HN.out (RdB.row H1.out.bn) (by intro a e; cases e; simp) (by omega)).mono ?_
  rintro e w2 ⟨rfl, H2'⟩
  replace H2' := H1.out.step H2'
  have H2 := Lib.hid H2'
  obtain ⟨x, hx, a1⟩ := H2'.st.pick 12 (by simp [loadK_length, headL])
  have a2 := H2'.st.free 12
  clear H2' H1 w1
  go_upto_region 5 with fail
  refine wp_abs (fun W => BlkW w k n (initL k n count) W) (H2.out.step (H2.out.st.set 12 count _ rfl)) ?_
  intro w3 H3'
  clear a1 a2 hx x H2 w2
  have H3 := Lib.hid H3'
  clear H3'
  have Z := Lib.hid (show (Try.prog.info? 106).map (·.size) = some (W32 (initL k n count)).size by rw [W32_size, initL_length]; kernel_rfl)
  go_upto_region 6 with (first
    | (refine wpList_load_row rfl 106 (.tmp 7) rfl (w.heap.size + 1 + 1 + 1) rfl 106 (W32 (initL k n count)) (0, 0) _ H3.out.bs Try.underlying106 rfl Z.out ?_)
    | (refine wpList_store_new rfl rfl 106 (.tmp 8) (.tmp 19) rfl (W32 (initL k n count)) rfl rfl Z.out ?c1 (W32_one _) ?_))
  case c1 => rw [W32_size, initL_length]; rfl
  clear Z
  obtain ⟨M, hM⟩ : ∃ M, M = w3.heap.size := ⟨_, rfl⟩
  have hMl : w.heap.size + 1 + 1 + 1 < M := by rw [hM]; exact H3.out.lt
  refine wp_abs (fun W => BlkW w k n (initL k n count) W ∧ StOK W M (initL k n count) W) ⟨H3.out.keep ((Below.refl _ _).alloc (Nat.le_refl _) _) H3.out.lt, StOK.refl (ha_new _ _ _ hM)⟩ ?_
  rw [← hM]
  clear hM
  have HM := Lib.hid hMl
  clear hMl
  rintro w4 ⟨H4', S4'⟩
  have H4 := Lib.hid H4'
  have S4 := Lib.hid S4'
  clear H4' S4' H3 w3
  go_wp2_with fail
  go_loopw [20] (fun i wr => ∃ j : Nat, j ≤ 10 ∧ i = .int .i64 (j : Int) ∧ BlkW w k n (initL k n count) wr ∧ StOK wr M (dblN (initL k n count) j) wr) (fun i _ => 10 - (intOf i).toNat)
  case atStart => exact ⟨0, by omega, rfl, H4.out, S4.out⟩
  case round =>
    obtain ⟨j, hj, rfl, H5', S5'⟩ := hrel
    have H5 := Lib.hid H5'
    have S5 := Lib.hid S5'
    clear H5' S5' H4 S4 w4
    by_cases hlt : j < 10
    · go_wp2_with fail
      refine (double_any M (dblN (initL k n count) j) (by rw [dblN_length, initL_length]) _ S5.out).mono ?_
      rintro e w1 ⟨rfl, S6'⟩
      have S6 := Lib.hid S6'
      clear S6'
      go_wp2_with fail
      go_roundw
      case rel => exact ⟨j + 1, by omega, by go_num, H5.out.grown S6.out.2 HM.out, StOK.refl S6.out.1⟩
      case measure => simp [intOf]; omega
    · have hj10 : Hid (j = 10) := show j = 10 by omega
      have hD : decide ((j : Int) < 10) = false := by simp; omega
      go_upto_region 11 with fail
      obtain ⟨O, hO⟩ : ∃ O, O = wr.heap.size := ⟨_, rfl⟩
      have hMO : M < O := by rw [hO]; exact row_lt S5.out.1
      refine wp_abs (fun W => BlkW w k n (initL k n count) W ∧ StOK W M (dblN (initL k n count) 10) W ∧ W.heap[O]? = some (.cells (W8 (outK (dblN (initL k n count) 10) (initL k n count) 0)) 94 (0, 0)))
        ⟨H5.out.keep ((Below.refl _ _).alloc (Nat.le_refl _) _) H5.out.lt, StOK.refl (ha_old _ _ _ (row_lt S5.out.1) (by rw [hj10.out] at S5; exact S5.out.1)), ha_new _ _ _ hO⟩ ?_
      rw [← hO]
      have HO := Lib.hid hMO
      clear hO hMO hD hlt hj
      rintro w6 ⟨H6', S6', O6'⟩
      have H6 := Lib.hid H6'
      have S6 := Lib.hid S6'
      have O6 := Lib.hid O6'
      clear H6' S6' O6' H5 S5 wr
      generalize hv : dblN (initL k n count) 10 = v at S6 O6
      generalize hs : initL k n count = s at H6 O6
      have HV := Lib.hid (show v.length = 16 by rw [← hv, dblN_length, initL_length])
      have HS := Lib.hid (show s.length = 16 by rw [← hs, initL_length])
      have EV := Lib.hid hv
      have ES := Lib.hid hs
      clear hv hs
      go_wp2_with fail
      go_loopw [24] (fun i wr => ∃ j : Nat, j ≤ 64 ∧ i = .int .i64 (j : Int) ∧ BlkW w k n s wr ∧ StOK wr M v wr ∧ wr.heap[O]? = some (.cells (W8 (outK v s j)) 94 (0, 0))) (fun i _ => 64 - (intOf i).toNat)
      case atStart => exact ⟨0, by omega, rfl, H6.out, S6.out, O6.out⟩
      case round =>
        obtain ⟨j, hj, rfl, H7', S7', O7'⟩ := hrel
        have H7 := Lib.hid H7'
        have S7 := Lib.hid S7'
        have O7 := Lib.hid O7'
        clear H7' S7' O7' H6 S6 O6 w6
        by_cases hlt : j < 64
        · obtain ⟨x, hx, a1⟩ := S7.out.pick (j / 4) (by rw [HV.out]; omega)
          obtain ⟨y, hy, a2⟩ := H7.out.st.pick (j / 4) (by rw [HS.out]; omega)
          have a3 := row_cell O7.out j (W8_get _ j (by rw [outK_length]; exact hlt))
          have a4 := row_free O7.out j
          obtain ⟨z, hz, e1⟩ := sum_ex x y
          obtain ⟨q, hq, e2⟩ := byte_ex z (8 * (j % 4)) (by omega)
          have hD : decide ((j : Int) < 64) = true := by simp; omega
          go_wp2_with fail
          have b0 : (j : Int) < 64 := by omega
          have b1 : (0 : Int) ≤ (j : Int) / 4 := by omega
          have b2 : (j : Int) / 4 < 16 := by omega
          have b3 : (0 : Int) ≤ 8 * ((j : Int) % 4) := by omega
          have e4 : ((j : Int) / 4).toNat = j / 4 := by omega
          have e5 : (j : Int).tmod 4 = (j : Int) % 4 := Int.tmod_eq_emod_of_nonneg (by omega)
          have e6 : IntKind.i64.wrap ((j : Int) % 4) = (j : Int) % 4 := IntWalk.i64_in _ (by omega)
          have e7 : IntKind.i64.wrap (8 * ((j : Int) % 4)) = 8 * ((j : Int) % 4) := IntWalk.i64_in _ (by omega)
          have e8 : (8 * ((j : Int) % 4)).toNat = 8 * (j % 4) := by omega
          go_still_tail 14, (by kernel_rfl)
          clear e1 e2 e4 e5 e6 e7 e8
          change wpList _ _ _ _ _ wr.drew
          go_wp2_with fail
          go_roundw
          case rel =>
            refine ⟨j + 1, by omega, by go_num, ?_⟩
            have G : wr.grownBy ((wr.setCell ⟨O, j, none⟩ (.int .u8 (q.toNat : Int))).drew) (some O) := grown_drew (grown_set (World.grownBy.refl _ _) _ _)
            refine ⟨H7.out.grown G (by have := HM.out; have := HO.out; omega), StOK.refl (grown_block G (by have := HO.out; simp; omega) S7.out.1), ?_⟩
            show (wr.setCell ⟨O, j, none⟩ (.int .u8 (q.toNat : Int))).heap[O]? = _
            rw [heap_setCell_same _ _ _ _ _ _ O7.out, W8_set, outK, byteOf, ← hx.out, ← hy.out, ← hz.out, ← hq.out]
          case measure => simp [intOf]; omega
        · have hj64 : Hid (j = 64) := show j = 64 by omega
          have hD : decide ((j : Int) < 64) = false := by simp; omega
          have Z8  := Lib.hid (show (Try.prog.info? 94).map (·.size) = some (W8 (outK v s j)).size by rw [W8_size, outK_length]; kernel_rfl)
          have Z9  := Lib.hid (show (W8 (List.replicate 64 0)).size = (W8 (outK v s j)).size by rw [W8_size, W8_size, outK_length]; rfl)
          clear hlt hj
          go_wp2_with (first
            | (refine wpList_load_row rfl 94 (.tmp 9) rfl O rfl 94 (W8 (outK v s j)) (0, 0) _ O7.out Try.underlying94 rfl Z8.out ?_)
            | (refine wpList_store_whole rfl rfl 94 (.tmp 6) (.tmp 44) rfl (w.heap.size + 1 + 1) (W8 (outK v s j)) rfl rfl 94 _ H7.out.bz Z8.out Z9.out (W8_one _) ?_; intro w8 hz8 hg8 _))
          refine bodyPost_ret (results_cell_row rfl _ _ (w.heap.size + 1 + 1) 94 (W8 (outK v s j)) (0, 0) _ rfl hz8 Try.underlying94 rfl Z8.out) rfl ⟨?_, ?_⟩
          · rw [blockL, EV.out, ES.out, hj64.out]
          · exact H7.out.bel.trans (grown_below hg8 (Nat.le_of_lt (row_lt H7.out.bk)) (by rintro g ⟨⟩; omega))
end Go.Proofs.Ytldjiigkebkgcaa

/- A text laid over the key's bytes. -/
namespace Go.Proofs.Ytldjiigkebkgcaa
set_option linter.unusedVariables false
set_option linter.unusedSimpArgs false
open Go.RowKit
attribute [local go_sem ↓] Go.wp_at_zero Go.wp_at_succ

def keyByte (k n : List UInt8) (count : UInt32) (i : Nat) : UInt8 := (blockL k n (count + UInt32.ofNat (i / 64))).getD (i % 64) 0
/-- A text laid over the key's bytes, from a block on. -/
def streamL (k n : List UInt8) (count : UInt32) (bs : List UInt8) : List UInt8 := (List.range bs.length).map fun i => bs.getD i 0 ^^^ keyByte k n count i
theorem streamL_length (k n : List UInt8) (count : UInt32) (bs : List UInt8) : (streamL k n count bs).length = bs.length := by simp [streamL]
theorem streamL_get (k n : List UInt8) (count : UInt32) (bs : List UInt8) (i : Nat) (hi : i < bs.length) : (streamL k n count bs)[i]? = some (bs.getD i 0 ^^^ keyByte k n count i) := by simp [streamL, hi]
theorem streamL_snoc (k n : List UInt8) (count : UInt32) (bs : List UInt8) (i : Nat) (hi : i < bs.length) :
    (streamL k n count bs).take (i + 1) = (streamL k n count bs).take i ++ [bs.getD i 0 ^^^ keyByte k n count i] := by
  have h : i < (streamL k n count bs).length := by rw [streamL_length]; exact hi
  rw [List.take_add_one, streamL_get _ _ _ _ _ hi]
  rfl
theorem streamL_take_length (k n : List UInt8) (count : UInt32) (bs : List UInt8) (i : Nat) (hi : i ≤ bs.length) : ((streamL k n count bs).take i).length = i := by
  rw [List.length_take, streamL_length]; omega
theorem xor_ex (a b : UInt8) : ∃ z : UInt8, Hid (z = a ^^^ b) ∧ bits .xor .u8 (a.toNat : Int) (b.toNat : Int) = (z.toNat : Int) := ⟨_, rfl, u8_xor' a b⟩
theorem min_ex (r : Nat) (h0 : 0 < r) : ∃ m : Nat, (if (64 : Int) < (r : Int) then (64 : Int) else (r : Int)) = (m : Int) ∧ m ≤ r ∧ m ≤ 64 ∧ 0 < m ∧ (m = r ∨ m = 64) := by
  by_cases h : 64 < r
  · exact ⟨64, by rw [if_pos (by omega)]; rfl, by omega, by omega, by omega, .inr rfl⟩
  · exact ⟨r, by rw [if_neg (by omega)], by omega, by omega, by omega, .inl rfl⟩
theorem count_ex (c : UInt32) : ∃ z : UInt32, Hid (z = c + 1) ∧ ((c.toNat : Int) + 1) % 4294967296 = (z.toNat : Int) := ⟨_, rfl, by rw [UInt32.toNat_add]; simp⟩

/-- The call's own two variables. -/
structure StrW (w : World) (k n : List UInt8) (W : World) : Prop where
  bk : W.heap[w.heap.size]? = some (.cells (W8 k) 37 (0, 0))
  bn : W.heap[w.heap.size + 1]? = some (.cells (W8 n) 47 (0, 0))
  bel : Below w.heap.size w W
theorem StrW.size {w W : World} {k n : List UInt8} (h : StrW w k n W) : w.heap.size + 1 < W.heap.size := row_lt h.bn
theorem StrW.grown {w W W' : World} {k n : List UInt8} {r : Option Nat} (h : StrW w k n W) (hg : W.grownBy W' r) (hr : ∀ g, r = some g → w.heap.size + 1 < g) : StrW w k n W' where
  bk := grown_block hg (fun e => by have := hr _ e.symm; omega) h.bk
  bn := grown_block hg (fun e => by have := hr _ e.symm; omega) h.bn
  bel := h.bel.trans (grown_below hg (Nat.le_of_lt (row_lt h.bk)) (fun g e => by have := hr g e; omega))
theorem StrW.below {w W W' : World} {k n : List UInt8} (h : StrW w k n W) (hb : Below W.heap.size W W') : StrW w k n W' := h.grown (grown_of_below hb) (fun g e => by cases e)
theorem str_start (w : World) (k n : List UInt8) : StrW w k n ((w.alloc (.cells (W8 k) 37)).alloc (.cells (W8 n) 47)) where
  bk := ha_old _ _ _ (by simp) (ha_new _ _ _ rfl)
  bn := ha_new _ _ _ (by simp)
  bel := ((Below.refl _ _).alloc (Nat.le_refl _) _).alloc (by simp) _

set_option maxRecDepth 100000 in
set_option maxHeartbeats 1000000 in
theorem stream_go (k n : List UInt8) (hk : k.length = 32) (hn : n.length = 12) (count : UInt32) (w : World) (A : Option Addr) (c : Nat) (bs : List UInt8) (hR : RdB w A bs) (hlc : bs.length ≤ c) (hb : bs.length ≤ 70368744177664) :
    Calls Try.prog 32 #[.agg (W8 k), .agg (W8 n), .int .u32 (count.toNat : Int), .slice A bs.length c] w fun e w' =>
      ∃ v, e = .returned v ∧ OwnB w' w.heap.size v (streamL k n count bs) ∧ Below w.heap.size w w' := by
  have HK := Lib.hid hk
  have HN := Lib.hid hn
  have HR := Lib.hid hR
  have HC := Lib.hid hlc
  have HB := Lib.hid hb
  clear hk hn hR hlc
  have TB := Lib.hid (show ByteT Try.prog from ⟨Try.underlying23, by kernel_rfl⟩)
  obtain ⟨i0, hi, hz0, hz1, hz2⟩ := info_parts (show (Try.prog.info? 5).map (fun i => (i.zero, i.size, i.bytes)) = some (some (.int .u8 0), 1, 1) by kernel_rfl)
  have ZK := Lib.hid (show (Try.prog.info? 37).map (·.size) = some (W8 k).size by rw [W8_size, HK.out]; kernel_rfl)
  have ZN := Lib.hid (show (Try.prog.info? 47).map (·.size) = some (W8 n).size by rw [W8_size, HN.out]; kernel_rfl)
  have ZB := fun cq => Lib.hid (show (Try.prog.info? 94).map (·.size) = some (W8 (blockL k n cq)).size by rw [W8_size, blockL_length]; kernel_rfl)
  have HZB := Lib.hid ZB
  clear ZB
  have I0 := Lib.hid hi
  have I1 := Lib.hid hz0
  have I2 := Lib.hid hz1
  have I3 := Lib.hid hz2
  clear hi hz0 hz1 hz2
  go_enter Try.func32, Try.ntmps32
  go_upto_region 1 with fail
  refine wp_abs (fun W => StrW w k n W) (str_start w k n) ?_
  intro w0 H0'
  have H0 := Lib.hid H0'
  clear H0'
  go_wp2_with (refine wpList_make_own w0 rfl (.const (.int .i64 0)) (.tmp 14) 23 rfl (w.heap.size + 1 + 1) 5 i0 (.int .u8 0) 1 Try.underlying23 I0.out I1.out I2.out .i64 .i64 _ bs.length rfl rfl rfl (by rw [I3.out]; omega) (by unfold maxLen; omega) (by have := H0.out.size; omega) ?_; intro w1 HO1' HG1')
  refine wp_abs (fun W => StrW w k n W ∧ OwnB W (w.heap.size + 1 + 1) (.slice (some ⟨w0.heap.size, 0, none⟩) 0 bs.length) []) ⟨H0.out.grown HG1' (by intro g e; cases e), HO1'⟩ ?_
  generalize (Value.slice (some ⟨w0.heap.size, 0, none⟩) 0 bs.length) = v0
  rintro w2 ⟨H2', O2'⟩
  have H2 := Lib.hid H2'
  have O2 := Lib.hid O2'
  clear HO1' HG1' H2' O2' w1 H0 w0 hb
  go_loopw [2, 3, 9] (fun x b v wr => ∃ q p r A' c', p + r = bs.length ∧ (r = 0 ∨ p = 64 * q) ∧ r ≤ c' ∧ x = .int .u32 ((count + UInt32.ofNat q).toNat : Int) ∧ b = .slice A' r c' ∧ RdB w A' (bs.drop p) ∧
      OwnB wr (w.heap.size + 1 + 1) v ((streamL k n count bs).take p) ∧ StrW w k n wr) (fun _ b _ _ => lenOf b)
  case atStart => exact ⟨0, 0, bs.length, A, c, by omega, .inr rfl, HC.out, by simp, rfl, HR.out, O2.out, H2.out⟩
  case round =>
    obtain ⟨q, p, r, A1, c1, hpr, hrq, hrc, rfl, rfl, hR1, hO1, hS1⟩ := hrel
    have HPR := Lib.hid hpr
    have HRQ := Lib.hid hrq
    have HRC := Lib.hid hrc
    have R1 := Lib.hid hR1
    have L1 := Lib.hid (show bs.drop p ≠ [] → ∀ a, A1 = some a → a.block < w.heap.size from fun hne => hR1.lt hne)
    have O1 := Lib.hid hO1
    have S1 := Lib.hid hS1
    clear hpr hrq hrc hR1 hO1 hS1 H2 O2 w2
    have HX := Lib.hid (show (count + UInt32.ofNat q) = (count + UInt32.ofNat q) from rfl)
    generalize hcq : count + UInt32.ofNat q = cq
    have HCQ := Lib.hid hcq
    clear hcq HX
    by_cases h0 : 0 < r
    · have hD : decide ((0 : Int) < (r : Int)) = true := by simp; omega
      have hp : Hid (p = 64 * q) := HRQ.out.resolve_left (by omega)
      go_upto_region 3 with fail
      go_wp2_with (first
        | (refine wpList_load_row rfl 37 (.tmp 4) rfl w.heap.size rfl 37 (W8 k) (0, 0) _ S1.out.bk Try.underlying37 rfl ZK.out ?_)
        | (refine wpList_load_row rfl 47 (.tmp 5) rfl (w.heap.size + 1) rfl 47 (W8 n) (0, 0) _ S1.out.bn Try.underlying47 rfl ZN.out ?_))
      refine (block_any k n HK.out HN.out cq _).mono ?_
      rintro e w3 ⟨rfl, hb3⟩
      obtain ⟨S3', O3'⟩ : StrW w k n w3 ∧ OwnB w3 (w.heap.size + 1 + 1) u9 ((streamL k n count bs).take p) := ⟨S1.out.below hb3, O1.out.below hb3⟩
      have S3 := Lib.hid S3'
      have O3 := Lib.hid O3'
      clear S3' O3' S1 O1 hb3 wr
      go_upto_region 4 with (refine wpList_store_new rfl rfl 94 (.tmp 10) (.tmp 22) rfl (W8 (blockL k n cq)) rfl rfl (HZB.out cq).out ?c1 (W8_one _) ?_)
      case c1 => rw [W8_size, blockL_length]; rfl
      obtain ⟨M, hM⟩ : ∃ M, M = w3.heap.size := ⟨_, rfl⟩
      refine wp_abs (fun W => StrW w k n W ∧ OwnB W (w.heap.size + 1 + 1) u9 ((streamL k n count bs).take p) ∧ W.heap[M]? = some (.cells (W8 (blockL k n cq)) 94 (0, 0)) ∧ u9.ownBlock ≠ some M ∧ w.heap.size + 1 < M)
        ⟨S3.out.below ((Below.refl _ _).alloc (Nat.le_refl _) _), O3.out.alloc _, ha_new _ _ _ hM, fun e => by have := O3.out.lt _ e; omega, by rw [hM]; exact S3.out.size⟩ ?_
      rw [← hM]
      clear hM
      rintro w4 ⟨S4', O4', M4', N4', L4'⟩
      have S4 := Lib.hid S4'
      have O4 := Lib.hid O4'
      have M4 := Lib.hid M4'
      have N4 := Lib.hid N4'
      have L4 := Lib.hid L4'
      clear S4' O4' M4' N4' L4' S3 O3 w3
      obtain ⟨m, hm, hmr, hm64, hm0, hmc⟩ := min_ex r h0
      have HMR := Lib.hid hmr
      have HMC := Lib.hid hmc
      clear hmr hmc
      go_upto_region 5 with fail
      clear hm
      obtain ⟨wo, rfl⟩ : ∃ wo : World, wo = w4 := ⟨_, rfl⟩
      go_wp2_with fail
      go_loopw [9, 27] (fun v i wr => ∃ j : Nat, j ≤ m ∧ i = .int .i64 (j : Int) ∧ OwnB wr (w.heap.size + 1 + 1) v ((streamL k n count bs).take (p + j)) ∧ StrW w k n wr ∧
          wr.heap[M]? = some (.cells (W8 (blockL k n cq)) 94 (0, 0)) ∧ v.ownBlock ≠ some M) (fun _ i _ => m - (intOf i).toNat)
      case atStart => exact ⟨0, by omega, rfl, O4.out, S4.out, M4.out, N4.out⟩
      case round =>
        obtain ⟨j, hj, rfl, hO5, hS5, hM5, hN5⟩ := hrel
        have HJ := Lib.hid hj
        have O5 := Lib.hid hO5
        have S5 := Lib.hid hS5
        have M5 := Lib.hid hM5
        have N5 := Lib.hid hN5
        clear hj hO5 hS5 hM5 hN5 S4 O4 M4 N4 wo
        by_cases hlt : j < m
        · have hD2 : decide ((j : Int) < (m : Int)) = true := by simp; omega
          obtain ⟨b, o, rfl, x, hx, a1⟩ := (R1.out.keep S5.out.bel).get j (by have := HPR.out; have := HMR.out; simp; omega)
          have a2 := row_cell M5.out j (W8_get _ j (by rw [blockL_length]; omega))
          obtain ⟨y, hy⟩ : ∃ y, y = (blockL k n cq).getD j 0 := ⟨_, rfl⟩
          rw [← hy] at a2
          have HY := Lib.hid hy
          clear hy
          obtain ⟨z, hz, e1⟩ := xor_ex x y
          have b1 : (j : Int) < (r : Int) := by have := HMR.out; omega
          have b2 : (j : Int) < 64 := by omega
          go_wp2_with fail
          have ON : Hid (OwnB (wr.alloc (.cells #[.int .u8 (z.toNat : Int)] 5)).drew (w.heap.size + 1 + 1) u9 ((streamL k n count bs).take (p + j))) := (O5.out.alloc _).drew
          have A1 : Hid ((wr.alloc (.cells #[.int .u8 (z.toNat : Int)] 5)).drew.cell? ⟨b, o + j, none⟩ = some (.int .u8 (x.toNat : Int))) := cell_alloc a1 _
          have A2 : Hid ((wr.alloc (.cells #[.int .u8 (z.toNat : Int)] 5)).drew.cell? ⟨M, j, none⟩ = some (.int .u8 (y.toNat : Int))) := cell_alloc a2 _
          have A3 : Hid (RdB (wr.alloc (.cells #[.int .u8 (z.toNat : Int)] 5)).drew (some ⟨wr.heap.size, 0, none⟩) [z]) := RdB.one (row_cell (fr := (0, 0)) (ha_new wr _ _ rfl) 0 rfl)
          have A4 : Hid (w.heap.size + 1 + 1 ≤ (wr.alloc (.cells #[.int .u8 (z.toNat : Int)] 5)).drew.heap.size) := show _ ≤ (wr.alloc (.cells #[.int .u8 (z.toNat : Int)] 5)).heap.size by have := S5.out.size; rw [ha_size]; omega
          have A5 : Hid (((streamL k n count bs).take (p + j)).length + 1 ≤ 140737488355328) := show _ ≤ _ by have := HPR.out; have := HMR.out; have := HB.out; rw [streamL_take_length _ _ _ _ _ (by omega)]; omega
          have A6 : Hid (∀ g, u9.ownBlock = some g → (⟨b, o + j, none⟩ : Addr).block ≠ g) := fun g e => by have := O5.out.lt g e; have := L1.out (by intro hn; have h1 := congrArg List.length hn; rw [List.length_drop, List.length_nil] at h1; have := HPR.out; have := HMR.out; omega) _ rfl; simp at this ⊢; omega
          have A7 : Hid (∀ g, u9.ownBlock = some g → (⟨M, j, none⟩ : Addr).block ≠ g) := fun g e h => N5.out (by rw [e, ← h])
          go_region_held3 (fun w' => w'.cell? ⟨b, o + j, none⟩ = some (.int .u8 (x.toNat : Int)) ∧ w'.cell? ⟨M, j, none⟩ = some (.int .u8 (y.toNat : Int))) (first | go_keep | exact ⟨cell_grown hg1 A1.out A6.out, cell_grown hg1 A2.out A7.out⟩) ((refine app_step (by rfl) TB.out (.tmp 30) (.tmp 39) (by rfl) (w.heap.size + 1 + 1) u9 ((streamL k n count bs).take (p + j)) [z] (some ⟨wr.heap.size, 0, none⟩) 1 1 (by rfl) (by rfl) (by rfl) ON.out A3.out A4.out A5.out ?_; intro v1 w1 ho1 hg1 hat1))
          have G : Hid (wr.grownBy w1 u9.ownBlock) := World.grownBy.trans (World.grownBy_alloc wr _ _) ⟨hg1.os, hg1.tape, hg1.output, hg1.size, hg1.block⟩
          have HO1 := Lib.hid ho1
          have HAT := Lib.hid hat1
          clear ho1 hat1 hg1 a1 a2 e1 ON A1 A2 A3 A4 A5 A6 A7
          go_wp2_with fail
          go_roundw
          case rel =>
            refine ⟨j + 1, by omega, by go_num, ?_, S5.out.grown G.out (fun g e => by have := O5.out.lt g e; omega), grown_block G.out (fun e => N5.out e.symm) M5.out, fun e => ?_⟩
            · have h1 := HPR.out
              have h2 := HMR.out
              have hz' : bs.getD (p + j) 0 ^^^ keyByte k n count (p + j) = z := by
                rw [hz.out, hx.out, HY.out, keyByte, hp.out, show (64 * q + j) / 64 = q by omega, show (64 * q + j) % 64 = j by omega, HCQ.out]
                simp [List.getD_eq_getElem?_getD, List.getElem?_drop]
              rw [← Nat.add_assoc, streamL_snoc _ _ _ _ _ (by omega), hz']
              exact HO1.out
            · rcases HAT.out with h | h
              · exact N5.out (h.symm.trans e)
              · rw [e] at h
                injection h with h
                have h' : M = wr.heap.size + 1 := by rw [h]; exact ha_size _ _
                have := row_lt M5.out
                omega
          case measure => simp [intOf]; omega
        · have hjm : Hid (j = m) := show j = m by have := HJ.out; omega
          have hD2 : decide ((j : Int) < (m : Int)) = false := by simp; omega
          obtain ⟨A', hcut, hcutR, hcutB⟩ := cut_from (P := Try.prog) 23 5 Try.underlying23 I0.out I2.out A1 r c1 m HMR.out
          have HCR := Lib.hid hcutR
          have HCB := Lib.hid hcutB
          obtain ⟨cq', hcq', e1⟩ := count_ex cq
          clear hcutR hcutB
          go_wp2_with fail
          go_roundw
          case rel =>
            have h1 := HPR.out
            have h2 := HMR.out
            have h3 := HMC.out
            have h4 := HRC.out
            have h5 := hp.out
            refine ⟨q + 1, p + m, r - m, A', c1 - m, by omega, by omega, by omega, ?_, rfl, ?_, ?_, S5.out⟩
            · rw [e1, hcq'.out, ← HCQ.out, UInt32.add_assoc]
              congr 3
              simp
            · have := HCR.out w (bs.drop p) (by rw [List.length_drop]; omega) h4 R1.out
              rwa [List.drop_drop] at this
            · have := O5.out
              rwa [hjm.out] at this
          case measure => simp [lenOf]; omega
    · have hr0 : Hid (r = 0) := show r = 0 by omega
      have hD : decide ((0 : Int) < (r : Int)) = false := by simp; omega
      go_wp2_with fail
      go_ret
      refine ⟨_, rfl, ?_, S1.out.bel⟩
      have hp : p = bs.length := by have := HPR.out; have := hr0.out; omega
      have := O1.out
      rw [hp, List.take_of_length_le (by rw [streamL_length]; omega)] at this
      exact this.mono (by omega)
theorem stream_any (k n : List UInt8) (hk : k.length = 32) (hn : n.length = 12) (count : UInt32) (w : World) (A : Option Addr) (c : Nat) (bs : List UInt8) (hR : RdB w A bs) (hlc : bs.length ≤ c) (hb : bs.length ≤ 70368744177664)
    (hlt : ∀ a, A = some a → a.block < w.heap.size) :
    Calls Try.prog 32 #[.agg (W8 k), .agg (W8 n), .int .u32 (count.toNat : Int), .slice A bs.length c] w fun e w' =>
      ∃ v, e = .returned v ∧ OwnB w' w.heap.size v (streamL k n count bs) ∧ Below w.heap.size w w' := stream_go k n hk hn count w A c bs hR hlc hb
theorem stream_len (k n : List UInt8) (hk : k.length = 32) (hn : n.length = 12) (count : UInt32) (w : World) (A : Option Addr) (m c : Nat) (bs : List UInt8) (hm : bs.length = m) (hR : RdB w A bs) (hlc : m ≤ c) (hb : m ≤ 70368744177664)
    (hlt : ∀ a, A = some a → a.block < w.heap.size) :
    Calls Try.prog 32 #[.agg (W8 k), .agg (W8 n), .int .u32 (count.toNat : Int), .slice A m c] w fun e w' =>
      ∃ v, e = .returned v ∧ OwnB w' w.heap.size v (streamL k n count bs) ∧ Below w.heap.size w w' := by
  subst hm
  exact stream_any k n hk hn count w A c bs hR hlc hb hlt
end Go.Proofs.Ytldjiigkebkgcaa
