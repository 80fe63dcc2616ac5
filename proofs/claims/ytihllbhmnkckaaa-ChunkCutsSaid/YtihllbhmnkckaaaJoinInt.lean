/- chunk.Join at int: the list of parts. -/
import Derived.Test.YtihllbhmnkckaaaGen
import Derived.Test.YtihllbhmnkckaaaProg
namespace Go.Proofs.Ytihllbhmnkckaaa
set_option linter.unusedVariables false
set_option linter.unusedSimpArgs false
open Go.RowKit

theorem flatten_take_le {α : Type} : ∀ (L : List (List α)) (j : Nat), (L.take j).flatten.length ≤ L.flatten.length
  | [], j => by simp
  | l :: L, 0 => by simp
  | l :: L, j + 1 => by have := flatten_take_le L j; simp at this ⊢; omega
theorem flatten_snoc {α : Type} (L : List (List α)) (j : Nat) (l : List α) (h : L[j]? = some l) : (L.take (j + 1)).flatten = (L.take j).flatten ++ l := by
  rw [List.take_add_one, h]
  simp

set_option maxRecDepth 100000 in
set_option maxHeartbeats 1000000 in
theorem joinInt_any (w : World) (A : Option Addr) (n c : Nat) (ss : List Value) (L : List (List Value)) (hn : ss.length = n) (hR : RdV w A ss) (hlt : ∀ a, A = some a → a.block < w.heap.size) (hall : All2 (InRow w none) ss L) (hone : ∀ l ∈ L, ∀ u ∈ l, u.oneCell' = true) (hnb : n ≤ 5000000) (hb : L.flatten.length ≤ 5000000) :
    Calls Try.prog 9 #[.slice A n c] w fun e w' => ∃ v, e = .returned v ∧ OwnV w' w.heap.size 3 v L.flatten ∧ Below w.heap.size w w' := by
  have TI := Lib.hid (show SlT Try.prog 25 3 (.int .i64 0) 8 from ⟨Try.underlying25, by kernel_rfl, rfl⟩)
  have HR := Lib.hid hR
  have HN := Lib.hid hn
  have HO := Lib.hid hone
  have HL := Lib.hid hlt
  have HA := Lib.hid hall
  have HB := Lib.hid hb
  have HNB := Lib.hid hnb
  have LN := Lib.hid (show L.length = n by rw [← hn]; exact hall.length.symm)
  clear hR hn hone hlt hb hall hnb
  go_enter Try.func9, Try.ntmps9
  go_wp2_with fail
  go_loopw [3, 5, 8] (fun v x i wr => ∃ j : Nat, j ≤ n ∧ i = .int .i64 (j : Int) ∧ OwnV wr w.heap.size 3 v (L.take j).flatten ∧ Below w.heap.size w wr) (fun _ _ i _ => n - (intOf i).toNat)
  case atStart => exact ⟨0, by omega, rfl, OwnV.nil _ _ _, Below.refl _ _⟩
  case round =>
    obtain ⟨j, hj, rfl, hv, hbel⟩ := hrel
    have V1 := Lib.hid hv
    have B1 := Lib.hid hbel
    have J := Lib.hid hj
    clear hv hbel hj
    have hnb := HNB.out
    by_cases h0 : j < n
    · have hD : decide ((j : Int) < (n : Int)) = true := by simp; omega
      obtain ⟨l, hl⟩ : ∃ l, L[j]? = some l := ⟨L[j]'(by rw [LN.out]; exact h0), by simp⟩
      obtain ⟨s, hs, A2, c2, rfl, hlc, hR2, hA2⟩ := HA.out.get j l hl
      obtain ⟨b, o, rfl, hcell⟩ := HR.out j _ hs
      have a1 : wr.cell? ⟨b, o + j, none⟩ = some (.slice A2 l.length c2) := (B1.out.cell (p := ⟨b, o + j, none⟩) (HL.out ⟨b, o, none⟩ rfl)).trans hcell
      have R2 := Lib.hid (hR2.below B1.out (fun a e => (hA2 a e).1))
      have HLJ := Lib.hid hl
      have b1 : (j : Int) < (n : Int) := by omega
      have O2 := Lib.hid (HO.out l (List.mem_of_getElem? hl))
      have FL := Lib.hid (show ((L.take j).flatten ++ l).length ≤ 5000000 by
        have h1 := flatten_take_le L (j + 1)
        rw [flatten_snoc L j l hl] at h1
        exact Nat.le_trans h1 HB.out)
      obtain ⟨k, hk⟩ : ∃ k, k = l.length := ⟨_, rfl⟩
      rw [← hk] at a1
      have K := Lib.hid hk
      clear hl hs hlc hR2 hA2 hcell hk
      go_wp2_with (refine appV_list rfl TI.out (.tmp 12) (.tmp 13) rfl w.heap.size u3 _ l A2 k c2 rfl rfl K.out.symm V1.out R2.out O2.out B1.out.size ?c4 ?c5 ?_)
      case c4 => have := FL.out; have := K.out; simp at *; omega
      case c5 => have := FL.out; have := K.out; simp at *; omega
      intro v1 w1 ho hg hv
      have V2 := Lib.hid ho
      have B2 := Lib.hid (B1.out.trans (grown_below hg B1.out.size (fun g e => (V1.out.lt g e).1)))
      clear ho hg hv V1 B1 a1 R2
      go_wp2_with fail
      go_roundw
      case rel => exact ⟨j + 1, by omega, by go_num, by rw [flatten_snoc L j l HLJ.out]; exact V2.out, B2.out⟩
      case measure => simp [intOf]; omega
    · have hjn : Hid (j = n) := show j = n by have := J.out; omega
      have hD : decide ((j : Int) < (n : Int)) = false := by simp; omega
      go_wp2_with fail
      go_ret
      refine ⟨_, rfl, ?_, B1.out⟩
      have := V1.out
      rw [hjn.out, List.take_of_length_le (by rw [LN.out]; exact Nat.le_refl _)] at this
      exact this
end Go.Proofs.Ytihllbhmnkckaaa
