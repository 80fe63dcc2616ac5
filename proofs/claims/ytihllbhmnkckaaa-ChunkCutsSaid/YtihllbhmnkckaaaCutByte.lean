/- chunk.Cut at Byte: the parts of a list. No condition but those each theorem states. -/
import Derived.Test.YtihllbhmnkckaaaGen
import Derived.Test.YtihllbhmnkckaaaProg
import Derived.Test.YtihllbhmnkckaaaCutLaws
namespace Go.Proofs.Ytihllbhmnkckaaa
set_option linter.unusedVariables false
set_option linter.unusedSimpArgs false
open Go.RowKit

set_option maxRecDepth 100000 in
set_option maxHeartbeats 1000000 in
theorem cutByte_any (w : World) (A : Option Addr) (n c : Nat) (l : List Value) (size : Int) (N : Nat) (hN : (if size < 1 then 1 else size) = (N : Int)) (hN0 : 0 < N) (hn : l.length = n) (hR : RdV w A l) (hone : ∀ u ∈ l, u.oneCell' = true) (hlt : ∀ a, A = some a → a.block < w.heap.size) (hc : n ≤ c) (hb : n ≤ 5000000) :
    Calls Try.prog 11 #[.slice A n c, .int .i64 size] w fun e w' => ∃ v ss, e = .returned v ∧ OwnV w' w.heap.size 29 v ss ∧ All2 (InRow w' v.ownBlock) ss (cutL N l) ∧ Below w.heap.size w w' := by
  have TI := Lib.hid (show SlT Try.prog 29 5 (.int .u8 0) 1 from ⟨Try.underlying29, by kernel_rfl, rfl⟩)
  have TO := Lib.hid (show SlT Try.prog 33 29 (.slice none 0 0) 24 from ⟨Try.underlying33, by kernel_rfl, rfl⟩)
  obtain ⟨i0, hi, hz0, hz1, hz2⟩ := info_parts (show (Try.prog.info? 5).map (fun i => (i.zero, i.size, i.bytes)) = some (some (.int .u8 0), 1, 1) by kernel_rfl)
  have I0 := Lib.hid hi
  have I2 := Lib.hid hz1
  clear hi hz0 hz1 hz2
  have HR := Lib.hid hR
  have HN := Lib.hid hn
  have HO := Lib.hid hone
  have HL := Lib.hid hlt
  have HC := Lib.hid hc
  have HB := Lib.hid hb
  clear hR hn hone hlt hc hb
  go_enter Try.func11, Try.ntmps11
  go_wp2_with fail
  have NV := Lib.hid hN
  clear hN
  go_loopw [0, 5, 6] (fun b v x wr => ∃ (A' : Option Addr) (r c' : Nat) (rest : List Value) (done : List (List Value)) (ss : List Value), b = .slice A' r c' ∧ rest.length = r ∧ r ≤ c' ∧ r ≤ n ∧ RdV wr A' rest ∧ (∀ a, A' = some a → a.block < w.heap.size) ∧ (∀ u ∈ rest, u.oneCell' = true) ∧
      done.length + r ≤ n ∧ done ++ cutL N rest = cutL N l ∧ OwnV wr w.heap.size 29 v ss ∧ All2 (InRow wr v.ownBlock) ss done ∧ Below w.heap.size w wr) (fun b _ _ _ => lenOf b)
  case atStart => exact ⟨A, n, c, l, [], [], rfl, HN.out, HC.out, Nat.le_refl _, HR.out, HL.out, HO.out, by simp, rfl, OwnV.nil _ _ _, .nil, Below.refl _ _⟩
  case round =>
    obtain ⟨A', r, c', rest, done, ss, rfl, hr, hrc, hrn, hR', hA', hO', hd, he, hv, hall, hbel⟩ := hrel
    have HR1 := Lib.hid hr
    have HRC := Lib.hid hrc
    have HRN := Lib.hid hrn
    have R1 := Lib.hid hR'
    have L1 := Lib.hid hA'
    have O1 := Lib.hid hO'
    have D1 := Lib.hid hd
    have E1 := Lib.hid he
    have V1 := Lib.hid hv
    have S1 := Lib.hid hall
    have B1 := Lib.hid hbel
    clear hr hrc hrn hR' hA' hO' hd he hv hall hbel HR HL HO
    by_cases h0 : 0 < r
    · have hD : decide ((0 : Int) < (r : Int)) = true := by simp; omega
      obtain ⟨m, hm, hm1, hm2⟩ : ∃ m : Nat, (if r < N then (r : Int) else (N : Int)) = (m : Int) ∧ 0 < m ∧ m = min N r := by
        refine ⟨min N r, ?_, by omega, rfl⟩
        split <;> omega
      have M2 := Lib.hid hm2
      obtain ⟨A2, hX, hXR, hXB⟩ := cutV_from (P := Try.prog) 29 5 Try.underlying29 I0.out I2.out A' r c' m (by omega)
      obtain ⟨b0, o0, rfl⟩ := R1.out.some (by rw [HR1.out]; exact h0)
      have XR := Lib.hid hXR
      have XB := Lib.hid hXB
      have hX3 := cut3 (P := Try.prog) 29 5 Try.underlying29 I0.out I2.out (some ⟨b0, o0, none⟩) r c' m (by have := HRC.out; omega) hm1
      clear hXR hXB hm2
      go_wp2_with (refine appV_list rfl TI.out (.tmp 17) (.tmp 21) rfl wr.heap.size _ [] (rest.take m) (some ⟨b0, o0, none⟩) m m rfl rfl ?c0 (World.ownsRow_made wr #[] 0 (Nat.le_refl _) (Nat.zero_le _) rfl) ?c1 ?c2 ?c3 ?c4 ?c5 ?_)
      case c0 => have := HR1.out; have := M2.out; rw [List.length_take]; omega
      case c1 => exact (R1.out.take m).below ((Below.refl wr.heap.size _).alloc (Nat.le_refl _) _) (fun a e => by have := L1.out a e; have := B1.out.size; omega)
      case c2 => exact fun u hu => O1.out u (List.mem_of_mem_take hu)
      case c3 => simp
      case c4 => have := HRN.out; have := HB.out; have := M2.out; simp; omega
      case c5 => have := HRN.out; have := HB.out; have := M2.out; simp; omega
      intro s1 w1 ho1 hg1 hv1
      have hml : (rest.take m).length = m := by have := HR1.out; have := M2.out; rw [List.length_take]; omega
      obtain ⟨A3, c3, rfl, hr3, hl3, hm3, hb3⟩ := ho1.read
      rw [hml] at hl3
      rw [hml]
      have N3 := Lib.hid (show InRow w1 u5.ownBlock (.slice A3 m c3) (rest.take m) from ⟨A3, c3, by rw [hml], by rw [hml]; exact hl3, by simpa using hr3, fun a e => ⟨(hb3 a e).2, fun h => by have := (V1.out.lt _ h.symm).2; have := (hb3 a e).1; omega⟩⟩)
      have G3 := Lib.hid (show wr.grownBy w1 none from ⟨hg1.os, hg1.tape, hg1.output, by have := hg1.size; simp at this; omega, fun k hk _ => (hg1.block k (by simp; omega) (by simp [Value.ownBlock]; omega)).trans (Below.heap_alloc wr _ k hk)⟩)
      clear ho1 hg1 hv1 hr3 hl3 hm3 hb3 hml
      have K1 := Lib.hid (show (w1.alloc (.cells #[.slice A3 m c3] 29)).heap[w1.heap.size]? = some (.cells [.slice A3 m c3].toArray 29 (0, 0)) from ha_new _ _ _ rfl)
      go_wp2_with (refine appV_list rfl TO.out (.tmp 16) (.tmp 23) rfl w.heap.size u5 ss [.slice A3 m c3] (some ⟨w1.heap.size, 0, none⟩) 1 1 rfl rfl rfl ((V1.out.grown G3.out (by cases u5.ownBlock <;> simp)).alloc _) (RdV.row K1.out) ?d2 ?d3 ?d4 ?d5 ?_)
      case d2 => intro u hu; simp only [List.mem_singleton] at hu; subst hu; rfl
      case d3 => have := B1.out.size; have := G3.out.size; rw [ha_size]; omega
      case d4 => have := D1.out; have := HB.out; have := S1.out.length; omega
      case d5 => have := D1.out; have := HB.out; have := S1.out.length; omega
      intro v2 w2 ho2 hg2 hv2
      have HA := World.grownBy_alloc w1 (.cells #[.slice A3 m c3] 29) none
      have hsz : (w1.alloc (.cells #[.slice A3 m c3] 29)).heap.size = w1.heap.size + 1 := ha_size _ _
      have P1 : ∀ s l, InRow wr u5.ownBlock s l → InRow w2 v2.ownBlock s l := fun s l h => by
        have h1 := h.grown (g' := u5.ownBlock) G3.out (.inl rfl) (.inl rfl)
        have h2 := h1.grown (g' := u5.ownBlock) HA (.inl rfl) (.inl rfl)
        exact h2.grown (g' := v2.ownBlock) hg2 (.inr rfl) (by rcases hv2 with h | h; exact .inl h; exact .inr (.inl (by rw [hsz]; exact h)))
      have P2 : InRow w2 v2.ownBlock (.slice A3 m c3) (rest.take m) := by
        have h2 := N3.out.grown (g' := u5.ownBlock) HA (.inl rfl) (.inl rfl)
        exact h2.grown (g' := v2.ownBlock) hg2 (.inr rfl) (by rcases hv2 with h | h; exact .inl h; exact .inr (.inl (by rw [hsz]; exact h)))
      have V2 := Lib.hid ho2
      have S2 := Lib.hid ((S1.out.mono P1).snoc P2)
      have B12 := Lib.hid (show Below w.heap.size wr w2 from ((grown_below G3.out B1.out.size (fun g e => by cases e)).alloc (by have := B1.out.size; have := G3.out.size; omega) _).trans (grown_below hg2 (by have := B1.out.size; have := G3.out.size; omega) (fun g e => (V1.out.lt g e).1)))
      have B2 := Lib.hid (B1.out.trans B12.out)
      clear ho2 hg2 hv2 HA hsz P1 P2 V1 S1 N3 G3 K1
      go_wp2_with fail
      go_roundw
      case rel =>
        refine ⟨A2, r - m, c' - m, rest.drop m, done ++ [rest.take m], _, rfl, by rw [List.length_drop, HR1.out], by have := HRC.out; omega, by have := HRN.out; omega, ?_, ?_, fun u hu => O1.out u (List.mem_of_mem_drop hu), ?_, ?_, V2.out, S2.out, B2.out⟩
        · exact (XR.out w2 rest HR1.out HRC.out (R1.out.below B12.out (fun a e => L1.out a e)))
        · intro a e
          obtain ⟨a0, e0, hb⟩ := XB.out a e
          rw [hb]
          exact L1.out a0 e0
        · have := D1.out; simp; omega
        · rw [List.append_assoc, List.singleton_append, ← cutL_take N hN0 rest (by rw [HR1.out]; exact h0) m (by rw [HR1.out]; exact M2.out)]
          exact E1.out
      case measure => simp [lenOf]; omega
    · have hr0 : r = 0 := by omega
      have hD : decide ((0 : Int) < (r : Int)) = false := by simp; omega
      go_wp2_with fail
      go_ret
      refine ⟨_, ss, rfl, V1.out, ?_, B1.out⟩
      have hnil : rest = [] := List.eq_nil_of_length_eq_zero (by rw [HR1.out, hr0])
      have := E1.out
      rw [hnil, cutL_nil, List.append_nil] at this
      rw [← this]
      exact S1.out
end Go.Proofs.Ytihllbhmnkckaaa
