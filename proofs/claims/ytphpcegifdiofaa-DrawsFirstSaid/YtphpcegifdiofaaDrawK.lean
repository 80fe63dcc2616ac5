/- draws.New. No condition but those each theorem states. -/
import Derived.Test.YtphpcegifdiofaaDrawT
namespace Go.Proofs.Ytphpcegifdiofaa
set_option linter.unusedVariables false
set_option linter.unusedSimpArgs false
open Go.RowKit
attribute [local go_sem ↓] Go.wp_at_zero Go.wp_at_succ

theorem run_newsrc {o : Oper} {a : Act} (x : Operand) (ho : o.op = .build 40 #[(0, x)]) (A : Option Addr) (n c : Nat) (h : a.eval x = .slice A n c) (W : World) :
    (execOp a.eval o).run Try.prog W = .ok (.value (.agg (SrcC (.slice A n c) (List.replicate 32 0) false 0 0 false (List.replicate 32 0)))) W := by
  have h2 : ∀ (A : Option Addr) (n c : Nat) (W : World), (Instr.build 40 #[(0, Value.slice A n c)]).run Try.prog W = .ok (.agg (SrcC (.slice A n c) (List.replicate 32 0) false 0 0 false (List.replicate 32 0))) W := by
    intro A n c W
    kernel_rfl
  unfold execOp
  simp only [ho, List.map_toArray, List.map_cons, List.map_nil, h, Sem.run_bind, h2, Result.andThen_ok, Sem.run_pure]
/-- A source that was just built, not begun. -/
theorem new_src {W : World} {A : Option Addr} {F : List UInt8} {c : Nat} (hc : F.length ≤ c) (hR : RdB W A F) (hA : ∀ a, A = some a → a.block < W.heap.size) :
    ∃ D, Src W.heap.size D F 0 false (W.alloc (.cells (SrcC (.slice A F.length c) (List.replicate 32 0) false 0 0 false (List.replicate 32 0)) 40)) ∧ D < W.heap.size + 1 ∧ (∀ a, A = some a → D = a.block) ∧ (A = none → D = W.heap.size) := by
  have hb := below_new W (.cells (SrcC (.slice A F.length c) (List.replicate 32 0) false 0 0 false (List.replicate 32 0)) 40)
  rcases A with _ | a
  · exact ⟨W.heap.size, ⟨none, c, List.replicate 32 0, false, 0, false, List.replicate 32 0, ha_new _ _ _ rfl, hc, hR.keep hb, fun a e => (by cases e), by simp, by simp, fun e => (by cases e), fun e => (by cases e), fun e => (by cases e)⟩, by omega, fun a e => (by cases e), fun _ => rfl⟩
  · have ha := hA a rfl
    exact ⟨a.block, ⟨some a, c, List.replicate 32 0, false, 0, false, List.replicate 32 0, ha_new _ _ _ rfl, hc, hR.keep hb, fun a' e => (by cases e; exact ⟨by omega, by rw [ha_size]; omega, rfl⟩), by simp, by simp, fun e => (by cases e), fun e => (by cases e), fun e => (by cases e)⟩, by omega, fun a' e => (by cases e; rfl), fun e => (by cases e)⟩
set_option maxRecDepth 100000 in
set_option maxHeartbeats 2000000 in
theorem dnew_any (w : World) (A : Option Addr) (n c : Nat) (vs : List Value) (ls : List (List UInt8)) (hn : vs.length = n) (hR : RdV w A vs) (hall : All2 (SlB w) vs ls) (hfl : ls.flatten.length ≤ 100000) (hnb : n ≤ 1000000) :
    Calls Try.prog 6 #[.slice A n c] w fun e w' => ∃ g D, e = .returned (.pointer (some ⟨g, 0, none⟩)) ∧ w.heap.size ≤ g ∧ D < w'.heap.size ∧ w.heap.size ≤ D ∧ Src g D ls.flatten 0 true w' ∧ Below w.heap.size w w' := by
  obtain ⟨F, hF⟩ : ∃ F, F = ls.flatten := ⟨_, rfl⟩
  have HF := Lib.hid (show F.length ≤ 100000 by rw [hF]; exact hfl)
  have P := Lib.hid (by have P := concat_any w A n c vs ls hn hR hall (by omega) hnb; rw [← hF] at P; exact P)
  rw [← hF]
  clear hF hn hR hall hfl hnb
  go_enter Try.func6, Try.ntmps6
  go_wp2_with fail
  refine P.out.mono ?_
  rintro e w1 ⟨v, rfl, ho, hb⟩
  obtain ⟨Av, cv, rfl, hrv, hlv, _, hav⟩ := ho.read
  have NS := Lib.hid (new_src hlv hrv (fun a e => (hav a e).2))
  have AV := Lib.hid hav
  have B := Lib.hid hb
  obtain ⟨m, hm⟩ : ∃ m, m = F.length := ⟨_, rfl⟩
  rw [← hm] at NS ⊢
  clear ho hb hrv hlv hav hm P
  obtain ⟨C, hC⟩ : ∃ C, C = SrcC (.slice Av m cv) (List.replicate 32 0) false 0 0 false (List.replicate 32 0) := ⟨_, rfl⟩
  rw [← hC] at NS
  have CE := Lib.hid hC
  clear hC
  go_wp2_with (refine wpList_val rfl (show (execOp _ _).run _ _ = .ok (.value (.agg C)) _ by rw [CE.out]; exact run_newsrc (.tmp 5) rfl Av m cv rfl _) ?_)
  obtain ⟨D, hs, hd1, hd2, hd3⟩ := NS.out
  refine (sbegin_any w1.heap.size D F 0 false _ hs HF.out).mono ?_
  rintro e w2 ⟨rfl, hs2, hg⟩
  have S2 := Lib.hid hs2
  have G2 := Lib.hid hg
  have D1 := Lib.hid hd1
  have D2 := Lib.hid hd2
  have D3 := Lib.hid hd3
  clear hs hs2 hg hd1 hd2 hd3
  go_wp2_with fail
  go_ret
  have hz := B.out.size
  refine ⟨_, D, rfl, hz, ?_, ?_, S2.out, ?_⟩
  · have := G2.out.size; rw [ha_size] at this; have := D1.out; omega
  · rcases Av with _ | a
    · have := D3.out rfl; omega
    · have := D2.out a rfl; have := (AV.out a rfl).1; omega
  · exact (B.out.alloc hz _).trans (grown_below G2.out (by rw [ha_size]; omega) (by rintro k ⟨⟩; exact hz))
theorem rangeB_of {w : World} {b o : Nat} {l : List UInt8} (h : RdB w (some ⟨b, o, none⟩) l) : w.rangeAt b o (B8 l) := by
  intro j v hj
  obtain ⟨b', o', e, hc⟩ := h.toV j v hj
  cases e
  exact hc
set_option maxRecDepth 100000 in
set_option maxHeartbeats 2000000 in
theorem dkey_any (g D : Nat) (F : List UInt8) (u : Nat) (b : Bool) (w : World) (h : Src g D F u b w) (hD : D < w.heap.size) (hb : F.length ≤ 100000) (hu : u + 32 ≤ 900000) :
    Calls Try.prog 10 #[.pointer (some ⟨g, 0, none⟩)] w fun e w' => e = .returned (.agg (W8 (tellS F u 32))) ∧ Src g D F (u + 32) true w' ∧ w.grownBy w' (some g) := by
  have H := Lib.hid h
  have HD := Lib.hid hD
  have HB := Lib.hid hb
  have HU := Lib.hid hu
  have Z32 := Lib.hid zero32
  have HL := Lib.hid h.lt
  obtain ⟨X, hX⟩ : ∃ X, X = tellS F u 32 := ⟨_, rfl⟩
  have XL := Lib.hid (show X.length = 32 by rw [hX, tellS_length])
  rw [← hX]
  have XE := Lib.hid hX
  clear h hD hb hu hX
  go_enter Try.func10, Try.ntmps10
  go_upto_region 1 with fail
  rw [← Z32.out]
  generalize hw1 : World.alloc w _ = w1
  have S := Lib.hid (show Src g D F u b w1 ∧ w1.heap[w.heap.size]? = some (.cells (W8 (List.replicate 32 0)) 30 (0, 0)) ∧ w1.heap.size = w.heap.size + 1 ∧ w.grownBy w1 none by
    rw [← hw1]
    exact ⟨H.out.keep (below_new _ _), ha_new _ _ _ rfl, ha_size _ _, grown_of_below (below_new _ _)⟩)
  clear hw1 H
  go_wp2_with fail
  refine (tell_any g D F u b w1 S.out.1 (by have := S.out.2.2.1; have := HD.out; omega) HB.out 32 (by show u + 32 ≤ 900000; exact HU.out)).mono ?_
  rw [show takeN 32 = 32 from rfl]
  rintro e w2 ⟨v, rfl, ho, hs, hg⟩
  rw [← XE.out] at ho
  obtain ⟨A6, c6, rfl, hr, _, _, hav⟩ := ho.read
  obtain ⟨q, o, rfl, _⟩ := hr 0 (by rw [XL.out]; omega)
  have RG := Lib.hid (rangeB_of hr)
  rw [XL.out]
  have ZX := Lib.hid (show (Try.prog.info? 30).map (·.size) = some (B8 X).length by rw [B8_length, XL.out]; kernel_rfl)
  have ZX2 := Lib.hid (show (Try.prog.info? 30).map (·.size) = some (W8 X).size by rw [W8_size, XL.out]; kernel_rfl)
  have S2 := Lib.hid hs
  have G2 := Lib.hid hg
  clear ho hs hg hr hav
  have R0 := Lib.hid (show w2.heap[w.heap.size]? = some (.cells (W8 (List.replicate 32 0)) 30 (0, 0)) from grown_block G2.out (fun e => by injection e with e; have := HL.out; omega) S.out.2.1)
  go_wp2_with (first
    | (refine wpList_val rfl (run_sl2arr 30 (.tmp 7) rfl 32 5 Try.underlying30 (some ⟨q, o, none⟩) 32 c6 rfl (Nat.le_refl _) _) ?_)
    | (refine wpList_load_mid rfl 30 (.tmp 8) rfl q o rfl (B8 X) _ RG.out Try.underlying30 rfl ZX.out ?_)
    | (refine wpList_store_whole rfl rfl 30 (.tmp 2) (.tmp 9) rfl w.heap.size (W8 X) rfl rfl 30 _ R0.out ZX2.out (by rw [W8_size, W8_size, XL.out]; simp) (W8_one _) ?_; intro w8 hz8 hg8 _))
  refine bodyPost_ret (results_cell_row rfl _ _ w.heap.size 30 (W8 X) (0, 0) _ rfl hz8 Try.underlying30 rfl ZX2.out) rfl ⟨rfl, ?_, ?_⟩
  · exact S2.out.far hg8 (by rintro k ⟨⟩; have := HL.out; have := HD.out; omega)
  · exact grown_more (World.grownBy.trans S.out.2.2.2.mono_none G2.out) hg8 (by rintro k ⟨⟩; exact Nat.le_refl _)
/-- A variable of a struct, made. -/
theorem wpList_alloc_row {P : Program} {ops : Array Oper} {rest : List Oper} {o : Oper} {a : Act} {Q : Exit → Act → World → Prop} {W : World} (hg : o.guard = none) (ty : TypeId) (ho : o.op = .alloc ty) (z : Array Value) (hz : (zeroValue ty).run P W = .ok (.agg z) W)
    (h : wpList P ops Q rest (a.put o.dst (.pointer (some ⟨W.heap.size, 0, none⟩))) (W.alloc (.cells z ty))) : wpList P ops Q (o :: rest) a W :=
  wpList_plain hg fun K hK => by
    unfold Oper.wp execOp
    simp only [ho]
    go_simp
    exact hK _ _ h
theorem zero_src (W : World) : (zeroValue 40).run Try.prog W = .ok (.agg (SrcC (.slice none 0 0) (List.replicate 32 0) false 0 0 false (List.replicate 32 0))) W := by kernel_rfl
set_option maxRecDepth 100000 in
set_option maxHeartbeats 2000000 in
theorem dclone_any (g D : Nat) (F : List UInt8) (u : Nat) (b : Bool) (w : World) (h : Src g D F u b w) (hD : D < w.heap.size) (hb : F.length ≤ 100000) :
    Calls Try.prog 12 #[.pointer (some ⟨g, 0, none⟩)] w fun e w' => ∃ g' D', e = .returned (.pointer (some ⟨g', 0, none⟩)) ∧ w.heap.size ≤ g' ∧ D' < w'.heap.size ∧ w.heap.size ≤ D' ∧ Src g' D' F u b w' ∧ Below w.heap.size w w' := by
  have H := Lib.hid h
  obtain ⟨A, c, seed, begun, bk, held, blk, h1, h2, h3, h4, hs, hk, h5, h6, h7⟩ := h.has
  obtain ⟨n, hn⟩ : ∃ n, n = F.length := ⟨_, rfl⟩
  rw [← hn] at h1 h2 hb
  have NE := Lib.hid hn.symm
  obtain ⟨C, hC⟩ : ∃ C, C = SrcC (.slice A n c) seed begun u bk held blk := ⟨_, rfl⟩
  rw [← hC] at h1
  have CE := Lib.hid hC
  have G1 := Lib.hid h1
  have HC := Lib.hid h2
  have RA := Lib.hid h3
  have HA := Lib.hid h4
  have HS := Lib.hid hs
  have HK := Lib.hid hk
  have H5 := Lib.hid h5
  have H6 := Lib.hid h6
  have H7 := Lib.hid h7
  have HB := Lib.hid hb
  have ZC := Lib.hid (show (Try.prog.info? 40).map (·.size) = some C.size by rw [hC, SrcC_size hs hk]; kernel_rfl)
  have C1 := Lib.hid (show C.all (·.oneCell') = true by rw [hC]; exact SrcC_one rfl)
  have c0 := row_cell h1 0 (by rw [hC]; exact SrcC_f)
  obtain ⟨Z0, hZ0⟩ : ∃ Z0, Z0 = SrcC (.slice none 0 0) (List.replicate 32 0) false 0 0 false (List.replicate 32 0) := ⟨_, rfl⟩
  have Z0E := Lib.hid (show (zeroValue 40).run Try.prog w = .ok (.agg Z0) w by rw [hZ0]; exact zero_src w)
  have ZS := Lib.hid (show Z0.size = C.size by rw [hZ0, hC, SrcC_size hs hk, SrcC_size (by simp) (by simp)])
  clear hZ0
  clear h h1 h2 h3 h4 hs hk h5 h6 h7 hn hC hb
  go_enter Try.func12, Try.ntmps12
  go_upto_region 3 with fail
  go_upto_region 4 with (first
    | (refine wpList_val rfl (run_load_row 40 (.tmp 7) rfl g rfl 40 C (0, 0) _ G1.out Try.underlying40 rfl ZC.out) ?_)
    | (refine wpList_alloc_row rfl 40 rfl Z0 Z0E.out ?_)
    | (refine wpList_store_new rfl rfl 40 (.tmp 3) (.tmp 8) rfl C rfl rfl ZC.out ZS.out C1.out ?_))
  generalize hw1 : World.alloc w _ = w1
  obtain ⟨N, hN⟩ : ∃ N, N = w.heap.size := ⟨_, rfl⟩
  have NN := Lib.hid hN.symm
  have B1 := Lib.hid (show Below w.heap.size w w1 by rw [← hw1]; exact below_new _ _)
  have R1 := Lib.hid (show w1.heap[N]? = some (.cells C 40 (0, 0)) by rw [← hw1]; exact ha_new _ _ _ hN)
  have S1 := Lib.hid (show w1.heap.size = N + 1 by rw [← hw1, ha_size, hN])
  have c1 : w1.cell? ⟨g, 0, none⟩ = some (.slice A n c) := by rw [← hw1]; exact cell_alloc c0 _
  rw [← hN]
  clear hw1 hN c0
  go_wp2_with fail
  refine (clone_any w1 A n c F NE.out (RA.out.keep B1.out) (by have := HB.out; omega)).mono ?_
  rintro e w2 ⟨v, rfl, ho, hb⟩
  obtain ⟨A2, k2, rfl, hr2, hl2, _, ha2⟩ := ho.read
  rw [NE.out] at hl2 ⊢
  have R2 := Lib.hid hr2
  have L2 := Lib.hid hl2
  have AA := Lib.hid ha2
  have B2 := Lib.hid hb
  have RN := Lib.hid (below_block hb (row_lt R1.out) R1.out)
  have f0 := row_free RN.out 0
  have n0 := row_cell RN.out 0 (v := .slice A n c) (by rw [CE.out]; exact SrcC_f)
  clear ho hr2 hl2 ha2 hb
  go_wp2_with fail
  go_ret
  have hgr : w2.grownBy (w2.setCell ⟨N, 0, none⟩ (.slice A2 n k2)) (some N) := grown_set (World.grownBy.refl _ _) _ _
  have hs2 := B2.out.size
  have hs1 := S1.out
  have hB : Below w.heap.size w (w2.setCell ⟨N, 0, none⟩ (.slice A2 n k2)) := (B1.out.trans (B2.out.mono (by rw [S1.out, NN.out]; omega))).trans (grown_below hgr (by rw [NN.out]; omega) (by rintro k ⟨⟩; rw [NN.out]; exact Nat.le_refl _))
  have hsz : (w2.setCell ⟨N, 0, none⟩ (.slice A2 n k2)).heap.size = w2.heap.size := by simp [World.setCell]
  refine ⟨N, (match A2 with | some a => a.block | none => N), rfl, by rw [NN.out]; exact Nat.le_refl _, ?_, ?_, ⟨A2, k2, seed, begun, bk, held, blk, ?_, by rw [NE.out]; exact L2.out, R2.out.grown hgr (fun k e a ea => ?_), fun a ea => ?_, HS.out, HK.out, H5.out, H6.out, H7.out⟩, hB⟩
  · rcases A2 with _ | a
    · show N < _; rw [hsz]; omega
    · have := (AA.out a rfl).2; show a.block < _; rw [hsz]; exact this
  · rcases A2 with _ | a
    · show _ ≤ N; rw [NN.out]; exact Nat.le_refl _
    · have := (AA.out a rfl).1; show _ ≤ a.block; rw [NN.out]; omega
  · rw [heap_setCell_same _ _ _ _ _ _ RN.out, CE.out, SrcC_set_f, NE.out]
  · cases e
    have := (AA.out a ea).1
    omega
  · subst ea
    have := (AA.out a rfl).1
    have := (AA.out a rfl).2
    exact ⟨by omega, by rw [hsz]; omega, rfl⟩
end Go.Proofs.Ytphpcegifdiofaa
