/- The sum of texts, one behind the other. No condition but those each theorem states. -/
import Derived.Test.YtphpcegifdiofaaShaSum
import Derived.Test.YtphpcegifdiofaaGen
namespace Go.Proofs.Ytphpcegifdiofaa
set_option linter.unusedVariables false
set_option linter.unusedSimpArgs false
open Go.RowKit
attribute [local go_sem ↓] Go.wp_at_zero Go.wp_at_succ

theorem write_nil (w : World) (v : Value) : Calls Try.prog 29 #[.pointer none, v] w fun e w' => e = .returned (.tuple #[]) ∧ w' = w := by
  go_enter Try.func29, Try.ntmps29
  go_wp2_with fail
  exact bodyPost_ret (results_none rfl _ _ _) rfl ⟨rfl, rfl⟩

set_option maxRecDepth 100000 in
set_option maxHeartbeats 2000000 in
theorem of_any (w : World) (A : Option Addr) (n c : Nat) (vs : List Value) (ls : List (List UInt8)) (hn : vs.length = n) (hR : RdV w A vs) (hall : All2 (SlB w) vs ls) (hb : ls.flatten.length ≤ 140737488355000) (hnb : n ≤ 140737488355000) :
    Calls Try.prog 24 #[.slice A n c] w fun e w' => e = .returned (.agg (W8 (hashL ls.flatten))) ∧ Below w.heap.size w w' := by
  have HN := Lib.hid hn
  have HR := Lib.hid hR
  have HA := Lib.hid hall
  have HB := Lib.hid hb
  have NL := Lib.hid (show ls.length = n by rw [← hall.length, hn])
  have Z32 := Lib.hid zero32
  have b0 : (n : Int) ≤ 140737488355000 := by omega
  clear hn hR hall hb hnb
  go_enter Try.func24, Try.ntmps24
  go_wp2_with fail
  rw [← Z32.out]
  refine (shaNew_any _).mono ?_
  rintro e w1 ⟨E, rfl, hE, hgE, hb1⟩
  have S1 := Lib.hid (show SmW w (List.replicate 32 0) E startH w1 from ⟨below_block hb1 (by simp) (ha_new _ _ _ rfl), hgE, by simp at hE; omega, ((Below.refl _ _).alloc (Nat.le_refl _) _).trans (hb1.mono (by simp))⟩)
  clear hE hgE hb1
  go_wp2_with fail
  go_loopw [9] (fun i wr => ∃ j : Nat, j ≤ n ∧ i = .int .i64 (j : Int) ∧ SmW w (List.replicate 32 0) E (putsB startH (ls.take j).flatten) wr) (fun i _ => n - (intOf i).toNat)
  case atStart => exact ⟨0, Nat.zero_le _, rfl, S1.out⟩
  case round =>
    obtain ⟨j, hj, rfl, hs⟩ := hrel
    have J := Lib.hid hj
    have S2 := Lib.hid hs
    obtain ⟨q, hq⟩ : ∃ q, q = putsB startH (ls.take j).flatten := ⟨_, rfl⟩
    rw [← hq] at S2
    have QQ := Lib.hid hq
    have KQ := Lib.hid (show q.ok by rw [hq]; exact putsB_ok startH_ok _)
    have NQ := Lib.hid (show q.n = (ls.take j).flatten.length by rw [hq, putsB_n]; simp [startH])
    clear hj hs hq S1
    by_cases hlt : j < n
    · have hD : decide ((j : Int) < (n : Int)) = true := by simp; omega
      obtain ⟨l, hl⟩ : ∃ l, ls[j]? = some l := ⟨_, List.getElem?_eq_getElem (by rw [NL.out]; exact hlt)⟩
      obtain ⟨v, hv, A', c', rfl, hc', hR'⟩ := HA.out.get j l hl
      obtain ⟨b, o, rfl, hcell⟩ := (HR.out.keep S2.out.bel) j _ hv
      have L1 := Lib.hid hl
      have R1 := Lib.hid (hR'.keep S2.out.bel)
      have L2 := Lib.hid (fun h0 => hR'.lt h0)
      have C1 := Lib.hid hc'
      have FL := Lib.hid (show (ls.take (j + 1)).flatten = (ls.take j).flatten ++ l by rw [List.take_add_one, hl]; simp)
      have BL := Lib.hid (show (ls.take j).flatten.length + l.length ≤ 140737488355000 by
        have h1 := congrArg List.length FL.out
        rw [List.length_append] at h1
        have h2 : (ls.take (j + 1)).flatten.length ≤ ls.flatten.length := by
          rw [show ls.flatten = (ls.take (j + 1)).flatten ++ (ls.drop (j + 1)).flatten by rw [← List.flatten_append, List.take_append_drop], List.length_append]
          omega
        have := HB.out
        omega)
      obtain ⟨m, hm⟩ : ∃ m, m = l.length := ⟨_, rfl⟩
      rw [← hm] at hcell
      have M := Lib.hid hm
      clear hl hv hc' hR' hm
      go_wp2_with fail
      refine (write_any true E q KQ.out _ A' m c' l M.out.symm (by rw [M.out]; exact C1.out) R1.out (fun h0 a ea => by have := L2.out h0 a ea; have := S2.out.hE; omega) (by rw [NQ.out, M.out]; have := BL.out; omega) S2.out.be).mono ?_
      rintro e w2 ⟨rfl, hg2, hgr2⟩
      have S3 := Lib.hid (S2.out.step hg2 hgr2)
      clear hg2 hgr2 hcell
      go_wp2_with fail
      go_roundw
      case rel =>
        refine ⟨j + 1, by omega, by go_num, ?_⟩
        rw [FL.out, putsB_append, ← QQ.out]
        exact S3.out
      case measure => simp [intOf]; omega
    · have hjn : Hid (j = n) := show j = n by have := J.out; omega
      have hD : decide ((j : Int) < (n : Int)) = false := by simp; omega
      go_wp2_with fail
      refine (hsum_any true E q KQ.out _ (by rw [NQ.out, hjn.out, ← NL.out, List.take_length]; exact HB.out) S2.out.be).mono ?_
      rintro e w2 ⟨rfl, hb2⟩
      have S3 := Lib.hid (S2.out.keep hb2)
      clear hb2
      obtain ⟨L, hL⟩ : ∃ L, L = sumH (if true = true then q else startH) := ⟨_, rfl⟩
      rw [← hL]
      have LL := Lib.hid (show L.length = 32 by rw [hL, sumH_length])
      have LE := Lib.hid (show L = hashL ls.flatten by rw [hL, if_pos rfl, QQ.out, hjn.out, ← NL.out, List.take_length]; rfl)
      clear hL
      have Z := Lib.hid (show (Try.prog.info? 29).map (·.size) = some (W8 L).size by rw [W8_size, LL.out]; kernel_rfl)
      go_wp2_with (refine wpList_store_whole rfl rfl 29 (.tmp 2) (.tmp 18) rfl w.heap.size (W8 L) rfl rfl 29 _ S3.out.bo Z.out (by rw [W8_size, W8_size, LL.out]; simp) (W8_one _) ?_; intro w8 hz8 hg8 _)
      refine bodyPost_ret (results_cell_row rfl _ _ w.heap.size 29 (W8 L) (0, 0) _ rfl hz8 Try.underlying29 rfl Z.out) rfl ⟨?_, ?_⟩
      · rw [LE.out]
      · exact S3.out.bel.trans (grown_below hg8 (Nat.le_of_lt (row_lt S3.out.bo)) (by rintro g ⟨⟩; omega))
set_option maxRecDepth 100000 in
set_option maxHeartbeats 1000000 in
theorem shaSum_any (w : World) (A : Option Addr) (n c : Nat) (l : List UInt8) (hn : l.length = n) (hc : n ≤ c) (hR : RdB w A l) (hb : n ≤ 140737488355000) :
    Calls Try.prog 20 #[.slice A n c] w fun e w' => e = .returned (.agg (W8 (hashL l))) ∧ Below w.heap.size w w' := by
  have HN := Lib.hid hn
  have HC := Lib.hid hc
  have HR := Lib.hid hR
  have HB := Lib.hid hb
  have Z32 := Lib.hid zero32
  clear hn hc hR hb
  go_enter Try.func20, Try.ntmps20
  go_wp2_with fail
  rw [← Z32.out]
  obtain ⟨w1, hw1⟩ : ∃ w1, w1 = (w.alloc (.cells (W8 (List.replicate 32 0)) 29)) := ⟨_, rfl⟩
  have S1 := Lib.hid (show w1.heap[w.heap.size]? = some (.cells (W8 (List.replicate 32 0)) 29 (0, 0)) ∧ Below w.heap.size w w1 ∧ w1.heap.size = w.heap.size + 1 by rw [hw1]; exact ⟨ha_new _ _ _ rfl, (Below.refl _ _).alloc (Nat.le_refl _) _, ha_size _ _⟩)
  rw [← hw1]
  have B2 := Lib.hid (show Below w1.heap.size w1 (w1.alloc (.cells #[.slice A n c] 22)) from (Below.refl _ _).alloc (Nat.le_refl _) _)
  refine (of_any _ (some ⟨w.heap.size + 1, 0, none⟩) 1 1 [.slice A n c] [l] rfl (RdV.one (row_cell (fr := (0, 0)) (ha_new w1 _ _ S1.out.2.2.symm) 0 rfl)) (.cons ⟨A, c, by rw [HN.out], by rw [HN.out]; exact HC.out, (HR.out.keep S1.out.2.1).keep B2.out⟩ .nil) (by simp [HN.out]; exact HB.out) (by omega)).mono ?_
  rintro e w2 ⟨rfl, hb2⟩
  have B3 := Lib.hid (B2.out.trans (hb2.mono (by simp)))
  have G3 := Lib.hid (below_block B3.out (row_lt S1.out.1) S1.out.1)
  obtain ⟨L, hL⟩ : ∃ L, L = hashL ([l].flatten) := ⟨_, rfl⟩
  rw [← hL]
  have LL := Lib.hid (show L.length = 32 by rw [hL, hashL_length])
  have LE := Lib.hid (show L = hashL l by rw [hL]; simp)
  have Z := Lib.hid (show (Try.prog.info? 29).map (·.size) = some (W8 L).size by rw [W8_size, LL.out]; kernel_rfl)
  clear hL hb2 hw1
  go_wp2_with (refine wpList_store_whole rfl rfl 29 (.tmp 2) (.tmp 5) rfl w.heap.size (W8 L) rfl rfl 29 _ G3.out Z.out (by rw [W8_size, W8_size, LL.out]; simp) (W8_one _) ?_; intro w8 hz8 hg8 _)
  refine bodyPost_ret (results_cell_row rfl _ _ w.heap.size 29 (W8 L) (0, 0) _ rfl hz8 Try.underlying29 rfl Z.out) rfl ⟨?_, ?_⟩
  · rw [LE.out]
  · exact (S1.out.2.1.trans (B3.out.mono S1.out.2.1.size)).trans (grown_below hg8 (Nat.le_of_lt (row_lt G3.out)) (by rintro g ⟨⟩; omega))
end Go.Proofs.Ytphpcegifdiofaa
