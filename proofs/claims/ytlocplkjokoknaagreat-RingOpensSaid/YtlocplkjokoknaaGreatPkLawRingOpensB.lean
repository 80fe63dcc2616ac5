/- Part 2 of what the law LawRingOpens needs. No condition but those each theorem states. -/
import Derived.Carry
import Derived.Deep.Cut
import Derived.Deep.DrawnRows
import Derived.Deep.RegionHeld3
import Derived.Test.YtlocplkjokoknaaGreatProg
import Derived.WalkSpells
import Derived.Test.YtlocplkjokoknaaGreatPkLawRingOpensA
/- draws.Source: Take. No condition but those each theorem states. -/
namespace Go.Proofs.YtlocplkjokoknaaGreat
set_option linter.unusedVariables false
set_option linter.unusedSimpArgs false
open Go.RowKit
attribute [local go_sem ↓] Go.wp_at_zero Go.wp_at_succ

/-- So many bytes of the source, from one on. -/
def tellS (F : List UInt8) (u : Nat) (k : Nat) : List UInt8 := (List.range k).map fun i => byteS F (u + i)
theorem tellS_length (F : List UInt8) (u k : Nat) : (tellS F u k).length = k := by simp [tellS]
theorem tellS_succ (F : List UInt8) (u k : Nat) : tellS F u (k + 1) = tellS F u k ++ [byteS F (u + k)] := by simp [tellS, List.range_succ]
theorem grown_more {w w3 w4 : World} {g : Nat} {r : Option Nat} (h : w.grownBy w3 (some g)) (h' : w3.grownBy w4 r) (hr : ∀ k, r = some k → w.heap.size ≤ k) : w.grownBy w4 (some g) :=
  ⟨h'.os.trans h.os, h'.tape.trans h.tape, h'.output.trans h.output, Nat.le_trans h.size h'.size, fun k hk hne => (h'.block k (Nat.lt_of_lt_of_le hk h.size) (fun e => by have := hr k e.symm; omega)).trans (h.block k hk hne)⟩
def takeN (m : Int) : Nat := (min (max m 0) 65536).toNat
set_option maxRecDepth 100000 in
set_option maxHeartbeats 4000000 in
theorem tell_any (g D : Nat) (F : List UInt8) (u : Nat) (b : Bool) (w : World) (h : Src g D F u b w) (hD : D < w.heap.size) (hb : F.length ≤ 100000) (m : Int) (hu : u + takeN m ≤ 900000) :
    Calls Tryz.prog 70 #[.pointer (some ⟨g, 0, none⟩), .int .i64 m] w fun e w' => ∃ v, e = .returned v ∧ OwnB w' w.heap.size v (tellS F u (takeN m)) ∧ Src g D F (u + takeN m) true w' ∧ w.grownBy w' (some g) := by
  have TB := Lib.hid (show ByteT Tryz.prog from ⟨Tryz.underlying22, by kernel_rfl⟩)
  obtain ⟨N, hN⟩ : ∃ N, N = takeN m := ⟨_, rfl⟩
  rw [← hN] at hu ⊢
  have N6 := Lib.hid (show N ≤ 65536 by rw [hN]; unfold takeN; omega)
  obtain ⟨p, hp⟩ : ∃ p : Int, p = max m 0 := ⟨_, rfl⟩
  have e1 : (if m < (0 : Int) then (0 : Int) else m) = p := by rw [hp]; split <;> omega
  have e2 : (if (65536 : Int) < p then (65536 : Int) else p) = (N : Int) := by rw [hN, hp]; unfold takeN; split <;> omega
  clear hp
  have H := Lib.hid h
  have GL := Lib.hid (And.intro h.lt hD)
  have HB := Lib.hid hb
  have HU := Lib.hid hu
  have nb : (N : Int) ≤ 65536 := by have := N6.out; omega
  clear h hD hb hu hN
  go_enter Tryz.func70, Tryz.ntmps70
  go_wp2_with fail
  refine (sbegin_any g D F u b w H.out HB.out).mono ?_
  rintro e w1 ⟨rfl, hs, hg⟩
  have H := Lib.hid hs
  have G := Lib.hid hg
  clear hs hg
  go_wp2_with fail
  clear e1 e2
  go_loopw [5, 13] (fun v i wr => ∃ j : Nat, j ≤ N ∧ i = .int .i64 (j : Int) ∧ OwnB wr w.heap.size v (tellS F u j) ∧ Src g D F (u + j) true wr ∧ w.grownBy wr (some g)) (fun _ i _ => N - (intOf i).toNat)
  case atStart => exact ⟨0, by omega, rfl, OwnB.nil _ _, H.out, G.out⟩
  case round =>
    obtain ⟨j, hj, rfl, ho, hs, hg⟩ := hrel
    have J := Lib.hid hj
    have O := Lib.hid ho
    have H := Lib.hid hs
    have G := Lib.hid hg
    clear ho hs hg
    by_cases hlt : j < N
    · have hDj : decide ((j : Int) < (N : Int)) = true := by simp; omega
      go_wp2_with fail
      refine (next_any g D F (u + j) wr H.out HB.out (by have := HU.out; omega)).mono ?_
      obtain ⟨y, hy⟩ : ∃ y, y = byteS F (u + j) := ⟨_, rfl⟩
      rw [← hy]
      have TE := Lib.hid (show tellS F u (j + 1) = tellS F u j ++ [y] by rw [tellS_succ, hy])
      clear hy
      rintro e w2 ⟨rfl, hs, hg⟩
      have OL := Lib.hid (fun k (e : u5.ownBlock = some k) => O.out.lt k e)
      have O := Lib.hid (O.out.grown hg (by
        rcases hq : u5.ownBlock with _ | k
        · exact .inl rfl
        · exact .inr (fun e => by injection e with e; have := (OL.out k hq).1; have := GL.out.1; omega)))
      have G := Lib.hid (World.grownBy.trans G.out hg)
      have H := Lib.hid hs
      clear hs hg
      have LJ := Lib.hid (show (tellS F u j).length = j from tellS_length _ _ _)
      go_wp2_with (refine app_list rfl TB.out (.tmp 15) (.tmp 18) rfl w.heap.size u5 (tellS F u j) [y] (some ⟨w2.heap.size, 0, none⟩) 1 1 rfl rfl rfl (O.out.alloc _) (RdB.one (y := y) (row_cell (fr := (0, 0)) (ha_new _ _ _ rfl) 0 rfl)) ?s1 ?s2 ?_)
      case s1 => have := G.out.size; simp; omega
      case s2 => have := LJ.out; have := N6.out; omega
      intro v1 w3 ho hg _
      have OL := Lib.hid (fun k (e : u5.ownBlock = some k) => O.out.lt k e)
      have H := Lib.hid ((H.out.keep (below_new w2 _)).far hg (fun k e => by have := (OL.out k e).1; have := GL.out; omega))
      have G := Lib.hid (grown_more (World.grownBy.trans G.out (grown_of_below (below_new w2 _)).mono_none) hg (fun k e => (OL.out k e).1))
      have O := Lib.hid (show OwnB w3 w.heap.size v1 (tellS F u (j + 1)) by rw [TE.out]; exact ho)
      clear ho hg
      go_wp2_with fail
      go_roundw
      case rel => exact ⟨j + 1, by omega, by go_num, O.out, H.out, G.out⟩
      case measure => simp [intOf]; omega
    · have hDj : decide ((j : Int) < (N : Int)) = false := by simp; omega
      obtain rfl : j = N := by have := J.out; omega
      go_wp2_with fail
      go_ret
      exact ⟨_, rfl, O.out, H.out, G.out⟩
end Go.Proofs.YtlocplkjokoknaaGreat

/- draws.New. No condition but those each theorem states. -/
namespace Go.Proofs.YtlocplkjokoknaaGreat
set_option linter.unusedVariables false
set_option linter.unusedSimpArgs false
open Go.RowKit
attribute [local go_sem ↓] Go.wp_at_zero Go.wp_at_succ

theorem run_newsrc {o : Oper} {a : Act} (x : Operand) (ho : o.op = .build 85 #[(0, x)]) (A : Option Addr) (n c : Nat) (h : a.eval x = .slice A n c) (W : World) :
    (execOp a.eval o).run Tryz.prog W = .ok (.value (.agg (SrcC (.slice A n c) (List.replicate 32 0) false 0 0 false (List.replicate 32 0)))) W := by
  have h2 : ∀ (A : Option Addr) (n c : Nat) (W : World), (Instr.build 85 #[(0, Value.slice A n c)]).run Tryz.prog W = .ok (.agg (SrcC (.slice A n c) (List.replicate 32 0) false 0 0 false (List.replicate 32 0))) W := by
    intro A n c W
    kernel_rfl
  unfold execOp
  simp only [ho, List.map_toArray, List.map_cons, List.map_nil, h, Sem.run_bind, h2, Result.andThen_ok, Sem.run_pure]
/-- A source that was just built, not begun. -/
theorem new_src {W : World} {A : Option Addr} {F : List UInt8} {c : Nat} (hc : F.length ≤ c) (hR : RdB W A F) (hA : ∀ a, A = some a → a.block < W.heap.size) :
    ∃ D, Src W.heap.size D F 0 false (W.alloc (.cells (SrcC (.slice A F.length c) (List.replicate 32 0) false 0 0 false (List.replicate 32 0)) 85)) ∧ D < W.heap.size + 1 ∧ (∀ a, A = some a → D = a.block) ∧ (A = none → D = W.heap.size) := by
  have hb := below_new W (.cells (SrcC (.slice A F.length c) (List.replicate 32 0) false 0 0 false (List.replicate 32 0)) 85)
  rcases A with _ | a
  · exact ⟨W.heap.size, ⟨none, c, List.replicate 32 0, false, 0, false, List.replicate 32 0, ha_new _ _ _ rfl, hc, hR.keep hb, fun a e => (by cases e), by simp, by simp, fun e => (by cases e), fun e => (by cases e), fun e => (by cases e)⟩, by omega, fun a e => (by cases e), fun _ => rfl⟩
  · have ha := hA a rfl
    exact ⟨a.block, ⟨some a, c, List.replicate 32 0, false, 0, false, List.replicate 32 0, ha_new _ _ _ rfl, hc, hR.keep hb, fun a' e => (by cases e; exact ⟨by omega, by rw [ha_size]; omega, rfl⟩), by simp, by simp, fun e => (by cases e), fun e => (by cases e), fun e => (by cases e)⟩, by omega, fun a' e => (by cases e; rfl), fun e => (by cases e)⟩
set_option maxRecDepth 100000 in
set_option maxHeartbeats 2000000 in
theorem dnew_any (w : World) (A : Option Addr) (n c : Nat) (vs : List Value) (ls : List (List UInt8)) (hn : vs.length = n) (hR : RdV w A vs) (hall : All2 (SlB w) vs ls) (hfl : ls.flatten.length ≤ 100000) (hnb : n ≤ 1000000) :
    Calls Tryz.prog 6 #[.slice A n c] w fun e w' => ∃ g D, e = .returned (.pointer (some ⟨g, 0, none⟩)) ∧ w.heap.size ≤ g ∧ D < w'.heap.size ∧ w.heap.size ≤ D ∧ Src g D ls.flatten 0 true w' ∧ Below w.heap.size w w' := by
  obtain ⟨F, hF⟩ : ∃ F, F = ls.flatten := ⟨_, rfl⟩
  have HF := Lib.hid (show F.length ≤ 100000 by rw [hF]; exact hfl)
  have P := Lib.hid (by have P := concat_any w A n c vs ls hn hR hall (by omega) hnb; rw [← hF] at P; exact P)
  rw [← hF]
  clear hF hn hR hall hfl hnb
  go_enter Tryz.func6, Tryz.ntmps6
  go_wp2_with fail
  refine P.out.mono ?_
  rintro e w1 ⟨v, rfl, ho, hb⟩
  obtain ⟨Av, cv, rfl, hrv, hlv, _, hav⟩ := ho.read
  have NS := Lib.hid (new_src hlv hrv (fun a e => (hav a e).2))
  have AV := Lib.hid hav
  have B := Lib.hid hb
  obtain ⟨m, hm⟩ : ∃ m, m = F.length := ⟨_, rfl⟩
  rw [← hm] at NS ⊢
  clear ho hb hrv hlv hav hm P
  obtain ⟨C, hC⟩ : ∃ C, C = SrcC (.slice Av m cv) (List.replicate 32 0) false 0 0 false (List.replicate 32 0) := ⟨_, rfl⟩
  rw [← hC] at NS
  have CE := Lib.hid hC
  clear hC
  go_wp2_with (refine wpList_val rfl (show (execOp _ _).run _ _ = .ok (.value (.agg C)) _ by rw [CE.out]; exact run_newsrc (.tmp 5) rfl Av m cv rfl _) ?_)
  obtain ⟨D, hs, hd1, hd2, hd3⟩ := NS.out
  refine (sbegin_any w1.heap.size D F 0 false _ hs HF.out).mono ?_
  rintro e w2 ⟨rfl, hs2, hg⟩
  have S2 := Lib.hid hs2
  have G2 := Lib.hid hg
  have D1 := Lib.hid hd1
  have D2 := Lib.hid hd2
  have D3 := Lib.hid hd3
  clear hs hs2 hg hd1 hd2 hd3
  go_wp2_with fail
  go_ret
  have hz := B.out.size
  refine ⟨_, D, rfl, hz, ?_, ?_, S2.out, ?_⟩
  · have := G2.out.size; rw [ha_size] at this; have := D1.out; omega
  · rcases Av with _ | a
    · have := D3.out rfl; omega
    · have := D2.out a rfl; have := (AV.out a rfl).1; omega
  · exact (B.out.alloc hz _).trans (grown_below G2.out (by rw [ha_size]; omega) (by rintro k ⟨⟩; exact hz))
theorem rangeB_of {w : World} {b o : Nat} {l : List UInt8} (h : RdB w (some ⟨b, o, none⟩) l) : w.rangeAt b o (B8 l) := by
  intro j v hj
  obtain ⟨b', o', e, hc⟩ := h.toV j v hj
  cases e
  exact hc
set_option maxRecDepth 100000 in
set_option maxHeartbeats 2000000 in
theorem dkey_any (g D : Nat) (F : List UInt8) (u : Nat) (b : Bool) (w : World) (h : Src g D F u b w) (hD : D < w.heap.size) (hb : F.length ≤ 100000) (hu : u + 32 ≤ 900000) :
    Calls Tryz.prog 50 #[.pointer (some ⟨g, 0, none⟩)] w fun e w' => e = .returned (.agg (W8 (tellS F u 32))) ∧ Src g D F (u + 32) true w' ∧ w.grownBy w' (some g) := by
  have H := Lib.hid h
  have HD := Lib.hid hD
  have HB := Lib.hid hb
  have HU := Lib.hid hu
  have Z32 := Lib.hid zero32
  have HL := Lib.hid h.lt
  obtain ⟨X, hX⟩ : ∃ X, X = tellS F u 32 := ⟨_, rfl⟩
  have XL := Lib.hid (show X.length = 32 by rw [hX, tellS_length])
  rw [← hX]
  have XE := Lib.hid hX
  clear h hD hb hu hX
  go_enter Tryz.func50, Tryz.ntmps50
  go_upto_region 1 with fail
  rw [← Z32.out]
  generalize hw1 : World.alloc w _ = w1
  have S := Lib.hid (show Src g D F u b w1 ∧ w1.heap[w.heap.size]? = some (.cells (W8 (List.replicate 32 0)) 38 (0, 0)) ∧ w1.heap.size = w.heap.size + 1 ∧ w.grownBy w1 none by
    rw [← hw1]
    exact ⟨H.out.keep (below_new _ _), ha_new _ _ _ rfl, ha_size _ _, grown_of_below (below_new _ _)⟩)
  clear hw1 H
  go_wp2_with fail
  refine (tell_any g D F u b w1 S.out.1 (by have := S.out.2.2.1; have := HD.out; omega) HB.out 32 (by show u + 32 ≤ 900000; exact HU.out)).mono ?_
  rw [show takeN 32 = 32 from rfl]
  rintro e w2 ⟨v, rfl, ho, hs, hg⟩
  rw [← XE.out] at ho
  obtain ⟨A6, c6, rfl, hr, _, _, hav⟩ := ho.read
  obtain ⟨q, o, rfl, _⟩ := hr 0 (by rw [XL.out]; omega)
  have RG := Lib.hid (rangeB_of hr)
  rw [XL.out]
  have ZX := Lib.hid (show (Tryz.prog.info? 38).map (·.size) = some (B8 X).length by rw [B8_length, XL.out]; kernel_rfl)
  have ZX2 := Lib.hid (show (Tryz.prog.info? 38).map (·.size) = some (W8 X).size by rw [W8_size, XL.out]; kernel_rfl)
  have S2 := Lib.hid hs
  have G2 := Lib.hid hg
  clear ho hs hg hr hav
  have R0 := Lib.hid (show w2.heap[w.heap.size]? = some (.cells (W8 (List.replicate 32 0)) 38 (0, 0)) from grown_block G2.out (fun e => by injection e with e; have := HL.out; omega) S.out.2.1)
  go_wp2_with (first
    | (refine wpList_val rfl (run_sl2arr 38 (.tmp 7) rfl 32 5 Tryz.underlying38 (some ⟨q, o, none⟩) 32 c6 rfl (Nat.le_refl _) _) ?_)
    | (refine wpList_load_mid rfl 38 (.tmp 8) rfl q o rfl (B8 X) _ RG.out Tryz.underlying38 rfl ZX.out ?_)
    | (refine wpList_store_whole rfl rfl 38 (.tmp 2) (.tmp 9) rfl w.heap.size (W8 X) rfl rfl 38 _ R0.out ZX2.out (by rw [W8_size, W8_size, XL.out]; simp) (W8_one _) ?_; intro w8 hz8 hg8 _))
  refine bodyPost_ret (results_cell_row rfl _ _ w.heap.size 38 (W8 X) (0, 0) _ rfl hz8 Tryz.underlying38 rfl ZX2.out) rfl ⟨rfl, ?_, ?_⟩
  · exact S2.out.far hg8 (by rintro k ⟨⟩; have := HL.out; have := HD.out; omega)
  · exact grown_more (World.grownBy.trans S.out.2.2.2.mono_none G2.out) hg8 (by rintro k ⟨⟩; exact Nat.le_refl _)
/-- A variable of a struct, made. -/
theorem wpList_alloc_row {P : Program} {ops : Array Oper} {rest : List Oper} {o : Oper} {a : Act} {Q : Exit → Act → World → Prop} {W : World} (hg : o.guard = none) (ty : TypeId) (ho : o.op = .alloc ty) (z : Array Value) (hz : (zeroValue ty).run P W = .ok (.agg z) W)
    (h : wpList P ops Q rest (a.put o.dst (.pointer (some ⟨W.heap.size, 0, none⟩))) (W.alloc (.cells z ty))) : wpList P ops Q (o :: rest) a W :=
  wpList_plain hg fun K hK => by
    unfold Oper.wp execOp
    simp only [ho]
    go_simp
    exact hK _ _ h
theorem zero_src (W : World) : (zeroValue 85).run Tryz.prog W = .ok (.agg (SrcC (.slice none 0 0) (List.replicate 32 0) false 0 0 false (List.replicate 32 0))) W := by kernel_rfl
end Go.Proofs.YtlocplkjokoknaaGreat

/- A source while a law is asked. No condition but those each theorem states. -/
namespace Go.Proofs.YtlocplkjokoknaaGreat
set_option linter.unusedVariables false
set_option linter.unusedSimpArgs false
open Go.RowKit
attribute [local go_sem ↓] Go.wp_at_zero Go.wp_at_succ

structure SrcW (w : World) (g D : Nat) (F : List UInt8) (u : Nat) (W : World) : Prop where
  bel : Below w.heap.size w W
  hg : w.heap.size ≤ g
  hD : w.heap.size ≤ D
  ltD : D < W.heap.size
  src : Src g D F u true W
theorem SrcW.ltg {w : World} {g D : Nat} {F : List UInt8} {u : Nat} {W : World} (h : SrcW w g D F u W) : g < W.heap.size := h.src.lt
theorem SrcW.keep {w : World} {g D : Nat} {F : List UInt8} {u : Nat} {W W' : World} (h : SrcW w g D F u W) (hb : Below W.heap.size W W') : SrcW w g D F u W' :=
  ⟨h.bel.trans (hb.mono h.bel.size), h.hg, h.hD, Nat.lt_of_lt_of_le h.ltD hb.size, h.src.keep hb⟩
theorem SrcW.step {w : World} {g D : Nat} {F : List UInt8} {u u2 : Nat} {W W' : World} (h : SrcW w g D F u W) (hs : Src g D F u2 true W') (hg : W.grownBy W' (some g)) : SrcW w g D F u2 W' :=
  ⟨h.bel.trans (grown_below hg h.bel.size (by rintro k ⟨⟩; exact h.hg)), h.hg, h.hD, Nat.lt_of_lt_of_le h.ltD hg.size, hs⟩
theorem SrcW.far {w : World} {g D : Nat} {F : List UInt8} {u : Nat} {W W' : World} {k : Nat} (h : SrcW w g D F u W) (hg : W.grownBy W' (some k)) (h1 : k ≠ g) (h2 : k ≠ D) (hk : w.heap.size ≤ k) : SrcW w g D F u W' :=
  ⟨h.bel.trans (grown_below hg h.bel.size (by rintro q ⟨⟩; exact hk)), h.hg, h.hD, Nat.lt_of_lt_of_le h.ltD hg.size, h.src.far hg (by rintro q ⟨⟩; exact ⟨h1, h2⟩)⟩
theorem SrcW.own {w : World} {g D : Nat} {F : List UInt8} {u : Nat} {W W' : World} {r : Option Nat} (h : SrcW w g D F u W) (hg : W.grownBy W' r) (hr : ∀ k, r = some k → g < k ∧ D < k) : SrcW w g D F u W' :=
  ⟨h.bel.trans (grown_below hg h.bel.size (fun q e => by have := hr q e; have := h.hg; omega)), h.hg, h.hD, Nat.lt_of_lt_of_le h.ltD hg.size, h.src.far hg (fun q e => by have := hr q e; omega)⟩
theorem SrcW.made {w W W' : World} {g D : Nat} {F : List UInt8} (hb : Below w.heap.size w W) (h1 : W.heap.size ≤ g) (h2 : D < W'.heap.size) (h3 : W.heap.size ≤ D) (h4 : Src g D F 0 true W') (h5 : Below W.heap.size W W') : SrcW w g D F 0 W' :=
  ⟨hb.trans (h5.mono hb.size), Nat.le_trans hb.size h1, Nat.le_trans hb.size h3, h2, h4⟩
theorem takeN_nat (n : Nat) (h : n ≤ 65536) : takeN (n : Int) = n := by unfold takeN; omega
theorem tellS_add (F : List UInt8) (u a b : Nat) : tellS F u (a + b) = tellS F u a ++ tellS F (u + a) b := by
  induction b with
  | zero => simp [tellS]
  | succ b ih => rw [← Nat.add_assoc, tellS_succ, tellS_succ, ih, List.append_assoc, Nat.add_assoc]
theorem tellS_first (F : List UInt8) (k : Nat) (hk : k ≤ F.length) : tellS F 0 k = F.take k := by
  apply List.ext_getElem
  · rw [tellS_length, List.length_take]; omega
  · intro i h1 h2
    rw [tellS_length] at h1
    simp only [tellS, List.getElem_map, List.getElem_range, Nat.zero_add, List.getElem_take]
    rw [byteS, if_pos (by omega)]
    simp [List.getD_eq_getElem?_getD, show i < F.length by omega]
theorem tellS_all (F : List UInt8) : tellS F 0 F.length = F := by rw [tellS_first F _ (Nat.le_refl _), List.take_length]
theorem tellS_get (F : List UInt8) (u k i : Nat) (h : i < k) : (tellS F u k).getD i 0 = byteS F (u + i) := by simp [tellS, List.getD_eq_getElem?_getD, h]
set_option maxRecDepth 100000 in
set_option maxHeartbeats 1000000 in
theorem tellN_none (f : World) (m : Int) : Calls Tryz.prog 70 #[.pointer none, .int .i64 m] f fun e w' => e = .returned (.slice none 0 0) ∧ w' = f := by
  go_enter Tryz.func70, Tryz.ntmps70
  go_wp2_with fail
  go_ret
  exact ⟨rfl, rfl⟩
/-- So many bytes told, the source a law's. -/
theorem tellW_any (w : World) (g D : Nat) (F : List UInt8) (u : Nat) (W : World) (h : SrcW w g D F u W) (hb : F.length ≤ 100000) (n : Nat) (hn : n ≤ 65536) (hu : u + n ≤ 900000) :
    Calls Tryz.prog 70 #[.pointer (some ⟨g, 0, none⟩), .int .i64 (n : Int)] W fun e w' => (∃ v, e = .returned v ∧ OwnB w' W.heap.size v (tellS F u n)) ∧ SrcW w g D F (u + n) w' ∧ W.grownBy w' (some g) := by
  have := tell_any g D F u true W h.src h.ltD hb (n : Int) (by rw [takeN_nat n hn]; exact hu)
  rw [takeN_nat n hn] at this
  exact this.mono fun e w' ⟨v, he, ho, hs, hg⟩ => ⟨⟨v, he, ho⟩, h.step hs hg, hg⟩
end Go.Proofs.YtlocplkjokoknaaGreat

/- A region that draws its order, walked along a tree of roads: what only reads is taken as it comes; what is left comes up alone, or two or three of them, each with a road of its own behind it. No condition but those each theorem states. -/
namespace Go.Proofs.YtlocplkjokoknaaGreat
set_option linter.unusedVariables false
set_option linter.unusedSimpArgs false
open Go.RowKit

inductive Road where
  | done : Road
  | q : Nat → Road → Road
  | t : Nat → Road → Road
  | two : Nat → Road → Nat → Road → Road
  | three : Nat → Road → Nat → Road → Nat → Road → Road
section
variable {P : Program} {ops : Array Oper} {Q : Exit → Act → World → Prop} {S : World → Prop}
/-- May this tree be taken? -/
def roadB (ops : Array Oper) : Road → Array Bool → Bool
  | .done, L => (Region.ready .any ops L).isEmpty
  | .q i T, L => (ops[i]?).isSome && Region.free .any ops L i && (Region.ready .any ops L).contains i && roadB ops T (L.setIfInBounds i true)
  | .t i T, L => (ops[i]?).isSome && (match Region.ready .any ops L with | [j] => Nat.beq j i | _ => false) && roadB ops T (L.setIfInBounds i true)
  | .two i T j U, L => (ops[i]?).isSome && (ops[j]?).isSome && (match Region.ready .any ops L with | [a, b] => Nat.beq a i && Nat.beq b j | _ => false) && roadB ops T (L.setIfInBounds i true) && roadB ops U (L.setIfInBounds j true)
  | .three i T j U k V, L => (ops[i]?).isSome && (ops[j]?).isSome && (ops[k]?).isSome && (match Region.ready .any ops L with | [a, b, c] => Nat.beq a i && Nat.beq b j && Nat.beq c k | _ => false) && roadB ops T (L.setIfInBounds i true) && roadB ops U (L.setIfInBounds j true) && roadB ops V (L.setIfInBounds k true)
def roadN : Road → Nat
  | .done => 0
  | .q _ T => roadN T + 1
  | .t _ T => roadN T + 1
  | .two _ T _ U => max (roadN T) (roadN U) + 1
  | .three _ T _ U _ V => max (roadN T) (max (roadN U) (roadN V)) + 1
/-- One that comes up. -/
def stepR (P : Program) (ops : Array Oper) (Q : Exit → Act → World → Prop) (S : World → Prop) (K : Act → World → Prop) (i : Nat) (a : Act) (w : World) : Prop :=
  ∃ o, ops[i]? = some o ∧ if Region.wanted o (yielded ops a.tmps) = true then o.wp P a w (fun a' w' => S w' ∧ K a' w') Q else S w ∧ K (a.put o.dst undef) w
/-- The tree. -/
def road (P : Program) (ops : Array Oper) (Q : Exit → Act → World → Prop) : (World → Prop) → Road → Act → World → Prop
  | _, .done, a, w => Q .normal a w
  | S, .q i T, a, w => ∃ S' : World → Prop, (∀ w, S' w → S w) ∧ S' w ∧ ∃ o, ops[i]? = some o ∧ ∃ v, YieldsIf P ops S' o v a ∧ road P ops Q S' T (a.put o.dst v) w
  | S, .t i T, a, w => ∃ S' : World → Prop, (∀ w, S' w → S w) ∧ stepR P ops Q S' (road P ops Q S' T) i a w
  | S, .two i T j U, a, w => ∃ S' : World → Prop, (∀ w, S' w → S w) ∧ stepR P ops Q S' (road P ops Q S' T) i a w ∧ stepR P ops Q S' (road P ops Q S' U) j a w
  | S, .three i T j U k V, a, w => ∃ S' : World → Prop, (∀ w, S' w → S w) ∧ stepR P ops Q S' (road P ops Q S' T) i a w ∧ stepR P ops Q S' (road P ops Q S' U) j a w ∧ stepR P ops Q S' (road P ops Q S' V) k a w
theorem stepR_sound {S : World → Prop} {K K' : Act → World → Prop} {i : Nat} {a : Act} {w : World} (h : stepR P ops Q S K i a w) (hK : ∀ a w, K a w → K' a w) : wpOp P ops Q i (fun a' w' => S w' ∧ K' a' w') a w := by
  obtain ⟨o, ho, h⟩ := h
  unfold wpOp
  simp only [ho]
  split
  · rename_i hw
    rw [if_pos hw] at h
    exact .inl (Oper.wp_mono (fun a' w' hh => ⟨hh.1, hK _ _ hh.2⟩) h)
  · rename_i hw
    rw [if_neg hw] at h
    exact ⟨h.1, hK _ _ h.2⟩
theorem road_sound (hQ : ∀ c a d v w, Q (.panic c) (Act.put a d v) w → Q (.panic c) a w) (hs : Region.noSelect ops = true) : ∀ (T : Road) (S : World → Prop) (fuel : Nat) (L : Array Bool) (a : Act) (w : World), roadN T ≤ fuel → roadB ops T L = true →
    road P ops Q S T a w → wpAnyH P .any ops Q S fuel L a w := by
  intro T
  induction T with
  | done =>
    intro S fuel L a w _ hB h
    simp only [roadB, List.isEmpty_iff] at hB
    exact wpAnyH_done hB h fuel
  | q i T ih =>
    intro S fuel L a w hf hB h
    simp only [roadB, Bool.and_eq_true] at hB
    obtain ⟨⟨⟨hi, hfr⟩, hr⟩, hB'⟩ := hB
    simp only [roadN] at hf
    obtain ⟨fuel, rfl⟩ : ∃ m, fuel = m + 1 := ⟨fuel - 1, by omega⟩
    obtain ⟨S', hSS, hS, o, ho, v, hy, h'⟩ := h
    exact wpAnyH_narrow hSS _ _ _ _ (wpAnyH_take ho hs hfr hr (fun c a w hh => hQ c a _ _ w hh) hy hS (ih S' fuel _ _ w (by omega) hB' h'))
  | t i T ih =>
    intro S fuel L a w hf hB h
    simp only [roadB, Bool.and_eq_true] at hB
    obtain ⟨⟨hi, hr0⟩, hB'⟩ := hB
    have hr : Region.ready .any ops L = [i] := by
      split at hr0
      · rename_i j hj
        rw [hj, Nat.eq_of_beq_eq_true hr0]
      · cases hr0
    simp only [roadN] at hf
    obtain ⟨fuel, rfl⟩ : ∃ m, fuel = m + 1 := ⟨fuel - 1, by omega⟩
    obtain ⟨S', hSS, h⟩ := h
    refine wpAnyH_narrow hSS _ _ _ _ (wpAnyH_all hr (by simp) ?_)
    intro j hj
    obtain rfl : j = i := by simpa using hj
    exact stepR_sound h (fun a w h => ih S' fuel _ a w (by omega) hB' h)
  | two i T j U ihT ihU =>
    intro S fuel L a w hf hB h
    simp only [roadB, Bool.and_eq_true] at hB
    obtain ⟨⟨⟨_, hr0⟩, hT⟩, hU⟩ := hB
    have hr : Region.ready .any ops L = [i, j] := by
      split at hr0
      · rename_i a b hj
        simp only [Bool.and_eq_true] at hr0
        rw [hj, Nat.eq_of_beq_eq_true hr0.1, Nat.eq_of_beq_eq_true hr0.2]
      · cases hr0
    simp only [roadN] at hf
    obtain ⟨fuel, rfl⟩ : ∃ m, fuel = m + 1 := ⟨fuel - 1, by omega⟩
    obtain ⟨S', hSS, h1, h2⟩ := h
    refine wpAnyH_narrow hSS _ _ _ _ (wpAnyH_all hr (by simp) ?_)
    intro k hk
    simp only [List.mem_cons, List.not_mem_nil, or_false] at hk
    rcases hk with rfl | rfl
    · exact stepR_sound h1 (fun a w h => ihT S' fuel _ a w (by omega) hT h)
    · exact stepR_sound h2 (fun a w h => ihU S' fuel _ a w (by omega) hU h)
  | three i T j U k V ihT ihU ihV =>
    intro S fuel L a w hf hB h
    simp only [roadB, Bool.and_eq_true] at hB
    obtain ⟨⟨⟨⟨_, hr0⟩, hT⟩, hU⟩, hV⟩ := hB
    have hr : Region.ready .any ops L = [i, j, k] := by
      split at hr0
      · rename_i a b c hj
        simp only [Bool.and_eq_true] at hr0
        rw [hj, Nat.eq_of_beq_eq_true hr0.1.1, Nat.eq_of_beq_eq_true hr0.1.2, Nat.eq_of_beq_eq_true hr0.2]
      · cases hr0
    simp only [roadN] at hf
    obtain ⟨fuel, rfl⟩ : ∃ m, fuel = m + 1 := ⟨fuel - 1, by omega⟩
    obtain ⟨S', hSS, h1, h2, h3⟩ := h
    refine wpAnyH_narrow hSS _ _ _ _ (wpAnyH_all hr (by simp) ?_)
    intro m hm
    simp only [List.mem_cons, List.not_mem_nil, or_false] at hm
    rcases hm with rfl | rfl | rfl
    · exact stepR_sound h1 (fun a w h => ihT S' fuel _ a w (by omega) hT h)
    · exact stepR_sound h2 (fun a w h => ihU S' fuel _ a w (by omega) hU h)
    · exact stepR_sound h3 (fun a w h => ihV S' fuel _ a w (by omega) hV h)
/-- THE LAW. -/
theorem wp_region_tree {id : Nat} {l : List Oper} {a : Act} {w : World} (S : World → Prop) (T : Road) (hm : P.follows .mixedOrders = true)
    (hB : (roadB l.toArray T (Array.replicate l.toArray.size false) && Region.noSelect l.toArray && Nat.ble (roadN T) l.toArray.size) = true)
    (hQ : ∀ c a d v w, Q (.panic c) (Act.put a d v) w → Q (.panic c) a w)
    (h : road P l.toArray Q S T a w.drew) : (Code.region id l.toArray true).wp P Q a w := by
  simp only [Bool.and_eq_true] at hB
  exact wp_region_held hm (road_sound hQ hB.1.2 T S _ _ a w.drew (Nat.le_of_ble_eq_true hB.2) hB.1.1 h)
theorem road_q {i : Nat} {T : Road} {o : Oper} {a : Act} {w : World} {v : Value} (ho : ops.toList[i]? = some o) (hw : Region.wanted o (yielded ops a.tmps) = true) (hS : S w) (hy : ∀ w, S w → (execOp a.eval o).run P w = .ok (.value v) w) (h : road P ops Q S T (a.put o.dst v) w) : road P ops Q S (.q i T) a w := ⟨S, fun _ h => h, hS, o, by simpa using ho, v, .inl ⟨hw, hy⟩, h⟩
theorem road_qs {i : Nat} {T : Road} {o : Oper} {a : Act} {w : World} (ho : ops.toList[i]? = some o) (hw : Region.wanted o (yielded ops a.tmps) = false) (hS : S w) (h : road P ops Q S T (a.put o.dst undef) w) : road P ops Q S (.q i T) a w := ⟨S, fun _ h => h, hS, o, by simpa using ho, undef, .inr ⟨hw, rfl⟩, h⟩
/-- The class grows narrower. -/
theorem road_sw (S' : World → Prop) {T : Road} {a : Act} {w : World} (hSS : ∀ w, S' w → S w) (h : road P ops Q S' T a w) : road P ops Q S T a w := by
  cases T with
  | done => exact h
  | q i T => obtain ⟨T, h1, h2⟩ := h; exact ⟨T, fun w h => hSS w (h1 w h), h2⟩
  | t i T => obtain ⟨T, h1, h2⟩ := h; exact ⟨T, fun w h => hSS w (h1 w h), h2⟩
  | two i T j U => obtain ⟨T, h1, h2⟩ := h; exact ⟨T, fun w h => hSS w (h1 w h), h2⟩
  | three i T j U k V => obtain ⟨T, h1, h2⟩ := h; exact ⟨T, fun w h => hSS w (h1 w h), h2⟩
theorem stepR_t {K' : Act → World → Prop} {i : Nat} {o : Oper} {a : Act} {w : World} (ho : ops.toList[i]? = some o) (hw : Region.wanted o (yielded ops a.tmps) = true)
    (h : ∀ K : Act → World → Prop, Hid (∀ a w, S w → K' a w → K a w) → o.wp P a w K Q) : stepR P ops Q S K' i a w :=
  ⟨o, by simpa using ho, by rw [if_pos hw]; exact h _ (fun a w h1 h2 => ⟨h1, h2⟩)⟩
/-- An operation that is left; what follows stands behind a variable. -/
theorem road_t {i : Nat} {T : Road} {o : Oper} {a : Act} {w : World} (ho : ops.toList[i]? = some o) (hw : Region.wanted o (yielded ops a.tmps) = true)
    (h : ∀ K : Act → World → Prop, Hid (∀ a w, S w → road P ops Q S T a w → K a w) → o.wp P a w K Q) : road P ops Q S (.t i T) a w := ⟨S, fun _ h => h, stepR_t ho hw h⟩
theorem road_ts {i : Nat} {T : Road} {o : Oper} {a : Act} {w : World} (ho : ops.toList[i]? = some o) (hw : Region.wanted o (yielded ops a.tmps) = false) (hS : S w) (h : road P ops Q S T (a.put o.dst undef) w) : road P ops Q S (.t i T) a w :=
  ⟨S, fun _ h => h, o, by simpa using ho, by rw [if_neg (by rw [hw]; simp)]; exact ⟨hS, h⟩⟩
theorem road_tv {i : Nat} {T : Road} {o : Oper} {a : Act} {w : World} {v : Value} (ho : ops.toList[i]? = some o) (hw : Region.wanted o (yielded ops a.tmps) = true) (hS : S w) (hy : (execOp a.eval o).run P w = .ok (.value v) w) (h : road P ops Q S T (a.put o.dst v) w) : road P ops Q S (.t i T) a w :=
  ⟨S, fun _ h => h, o, by simpa using ho, by rw [if_pos hw]; unfold Oper.wp; rw [hy]; exact ⟨hS, h⟩⟩
/-- Two that may come up. -/
theorem road_two {i j : Nat} {T U : Road} {a : Act} {w : World} (h1 : road P ops Q S (.t i T) a w) (h2 : road P ops Q S (.t j U) a w) : road P ops Q S (.two i T j U) a w := by
  obtain ⟨S1, k1, o1, e1, g1⟩ := h1
  obtain ⟨S2, k2, o2, e2, g2⟩ := h2
  have key : ∀ (S' : World → Prop) (hk : ∀ w, S' w → S w) (T : Road) (o : Oper), (if Region.wanted o (yielded ops a.tmps) = true then o.wp P a w (fun a' w' => S' w' ∧ road P ops Q S' T a' w') Q else S' w ∧ road P ops Q S' T (a.put o.dst undef) w) →
      (if Region.wanted o (yielded ops a.tmps) = true then o.wp P a w (fun a' w' => S w' ∧ road P ops Q S T a' w') Q else S w ∧ road P ops Q S T (a.put o.dst undef) w) := by
    intro S' hk T o h
    split
    · rename_i hw
      rw [if_pos hw] at h
      exact Oper.wp_mono (fun a' w' hh => ⟨hk _ hh.1, road_sw S' hk hh.2⟩) h
    · rename_i hw
      rw [if_neg hw] at h
      exact ⟨hk _ h.1, road_sw S' hk h.2⟩
  exact ⟨S, fun _ h => h, ⟨o1, e1, key S1 k1 T o1 g1⟩, ⟨o2, e2, key S2 k2 U o2 g2⟩⟩
theorem road_three {i j k : Nat} {T U V : Road} {a : Act} {w : World} (h1 : road P ops Q S (.t i T) a w) (h2 : road P ops Q S (.t j U) a w) (h3 : road P ops Q S (.t k V) a w) : road P ops Q S (.three i T j U k V) a w := by
  have key : ∀ {i : Nat} {T : Road}, road P ops Q S (.t i T) a w → stepR P ops Q S (road P ops Q S T) i a w := by
    intro i T h
    obtain ⟨S', hk, o, e, h⟩ := h
    refine ⟨o, e, ?_⟩
    split
    · rename_i hw
      rw [if_pos hw] at h
      exact Oper.wp_mono (fun a' w' hh => ⟨hk _ hh.1, road_sw S' hk hh.2⟩) h
    · rename_i hw
      rw [if_neg hw] at h
      exact ⟨hk _ h.1, road_sw S' hk h.2⟩
  exact ⟨S, fun _ h => h, key h1, key h2, key h3⟩
theorem road_done {a : Act} {w : World} (h : Q .normal a w) : road P ops Q S .done a w := h
end
end Go.Proofs.YtlocplkjokoknaaGreat

/- box.Box: what it holds; none, Count, Mode, Known. No condition but those each theorem states. -/
namespace Go.Proofs.YtlocplkjokoknaaGreat
set_option linter.unusedVariables false
set_option linter.unusedSimpArgs false
open Go.RowKit
attribute [local go_sem ↓] Go.wp_at_zero Go.wp_at_succ

/-- A box: its mode, its source's first bytes, how many were told, what was sealed, how many times. -/
structure BSt where
  mode : Nat
  F : List UInt8
  u : Nat
  m : List (List UInt8 × Ent)
  n : Nat
/-- A box that was made since w; lo: whatever its entries hold lies from there on. -/
structure BoxB (w : World) (g S D b lo : Nat) (s : BSt) (W : World) : Prop where
  bel : Below w.heap.size w W
  hg : w.heap.size ≤ g
  hS : w.heap.size ≤ S
  hD : w.heap.size ≤ D
  hb : w.heap.size ≤ b
  row : W.heap[g]? = some (.cells #[.int .i64 (s.mode : Int), .pointer (some ⟨S, 0, none⟩), .map (some b), .int .i64 (s.n : Int)] 80 (0, 0))
  src : Src S D s.F s.u true W
  ltD : D < W.heap.size
  map : MapB lo b s.m W
  gS : g ≠ S
  gD : g ≠ D
  gb : g ≠ b
  Sb : S ≠ b
  Db : D ≠ b
  lg : g < lo
  lS : S < lo
  few : s.n ≤ 1000000
theorem BoxB.keep {w W W' : World} {g S D b lo : Nat} {s : BSt} (h : BoxB w g S D b lo s W) (hb : Below W.heap.size W W') : BoxB w g S D b lo s W' :=
  ⟨h.bel.trans (hb.mono h.bel.size), h.hg, h.hS, h.hD, h.hb, below_block hb (row_lt h.row) h.row, h.src.keep hb, Nat.lt_of_lt_of_le h.ltD hb.size, h.map.keep hb, h.gS, h.gD, h.gb, h.Sb, h.Db, h.lg, h.lS, h.few⟩
/-- .. after the source has told. -/
theorem BoxB.step {w W W' : World} {g S D b lo : Nat} {s : BSt} {u2 : Nat} (h : BoxB w g S D b lo s W) (hs : Src S D s.F u2 true W') (hg : W.grownBy W' (some S)) : BoxB w g S D b lo { s with u := u2 } W' :=
  ⟨h.bel.trans (grown_below hg h.bel.size (by rintro k ⟨⟩; exact h.hS)), h.hg, h.hS, h.hD, h.hb, grown_block hg (by intro e; injection e with e; exact h.gS e) h.row, hs, Nat.lt_of_lt_of_le h.ltD hg.size, h.map.far hg (by rintro k ⟨⟩; exact ⟨h.lS, h.Sb⟩), h.gS, h.gD, h.gb, h.Sb, h.Db, h.lg, h.lS, h.few⟩
set_option maxRecDepth 100000 in
theorem bnone_any (w0 : World) (g S D b lo : Nat) (s : BSt) (w : World) (h : BoxB w0 g S D b lo s w) :
    Calls Tryz.prog 49 #[.pointer (some ⟨g, 0, none⟩)] w fun e w' => e = .returned (.bool false) ∧ w' = w := by
  have c2 := row_cell h.row 2 rfl
  clear h
  have qm : ∀ (w : World) (r : Option Nat), (binOp .eql 78 (.map r) (.map none)).run Tryz.prog w = .ok (.bool r.isNone) w := fun w r => Go.run_eql_map_nil w _ _ _ r Tryz.underlying78
  go_enter Tryz.func49, Tryz.ntmps49
  go_wp2_with fail
  go_ret
  exact ⟨rfl, rfl⟩
set_option maxRecDepth 100000 in
theorem bnone_nil (w : World) : Calls Tryz.prog 49 #[.pointer none] w fun e w' => e = .returned (.bool true) ∧ w' = w := by
  have qm : ∀ (w : World) (r : Option Nat), (binOp .eql 78 (.map r) (.map none)).run Tryz.prog w = .ok (.bool r.isNone) w := fun w r => Go.run_eql_map_nil w _ _ _ r Tryz.underlying78
  go_enter Tryz.func49, Tryz.ntmps49
  go_wp2_with fail
  go_ret
  exact ⟨rfl, rfl⟩
/-- A box that nobody made, in block g. -/
def Box0 (g : Nat) (W : World) : Prop := W.heap[g]? = some (.cells #[.int .i64 0, .pointer none, .map none, .int .i64 0] 80 (0, 0))
set_option maxRecDepth 100000 in
theorem bnone_zero (g : Nat) (w : World) (h : Box0 g w) : Calls Tryz.prog 49 #[.pointer (some ⟨g, 0, none⟩)] w fun e w' => e = .returned (.bool true) ∧ w' = w := by
  have c2 := row_cell h 2 rfl
  clear h
  have qm : ∀ (w : World) (r : Option Nat), (binOp .eql 78 (.map r) (.map none)).run Tryz.prog w = .ok (.bool r.isNone) w := fun w r => Go.run_eql_map_nil w _ _ _ r Tryz.underlying78
  go_enter Tryz.func49, Tryz.ntmps49
  go_wp2_with fail
  go_ret
  exact ⟨rfl, rfl⟩
end Go.Proofs.YtlocplkjokoknaaGreat

/- A region that draws its order and ends with one operation that waits for all that were taken first (a store into what they read): the class of worlds is asked only ahead of it. No condition but those each theorem states. -/
namespace Go.Proofs.YtlocplkjokoknaaGreat
set_option linter.unusedVariables false
set_option linter.unusedSimpArgs false
open Go.RowKit

/-- A whole row into a block that is known whole. -/
theorem storeW_wp {P : Program} {o : Oper} {a : Act} {Q : Exit → Act → World → Prop} {W : World} {K : Act → World → Prop} (ty : TypeId) (x y : Operand) (ho : o.op = .store ty x y) (g : Nat) (cells : Array Value) (hx : a.eval x = .pointer (some ⟨g, 0, none⟩)) (hy : a.eval y = .agg cells)
    (cur : Array Value) (t : TypeId) (hg : W.heap[g]? = some (.cells cur t (0, 0))) (hi : (P.info? ty).map (·.size) = some cells.size) (hl : cur.size = cells.size) (h1 : cells.all (·.oneCell') = true)
    (h : ∀ w', w'.heap[g]? = some (.cells cells t (0, 0)) → W.grownBy w' (some g) → w'.heap.size = W.heap.size → K (a.put o.dst undef) w') : o.wp P a W K Q := by
  refine storeM_wp ty x y ho g 0 cells hx hy cur t hg hi (by omega) h1 (fun w' hz => ?_)
  refine h w' ?_
  rw [hz, Nat.zero_add, List.take_zero, List.nil_append, List.drop_of_length_le (by simp; omega), List.append_nil]
section
variable {P : Program} {ops : Array Oper} {Q : Exit → Act → World → Prop} {S : World → Prop} {s : Nat}
/-- Has the last one come up, or does the class hold? -/
def Yet (s : Nat) (S : World → Prop) (L : Array Bool) (w : World) : Prop := L.getD s true = true ∨ S w
/-- Whatever order is picked, the class holding till the last one has come up. -/
def wpTill (P : Program) (ops : Array Oper) (Q : Exit → Act → World → Prop) (S : World → Prop) (s : Nat) : Nat → Array Bool → Act → World → Prop
  | 0, L, a, w => Region.ready .any ops L = [] ∧ Q .normal a w
  | n + 1, L, a, w => (Region.ready .any ops L = [] → Q .normal a w) ∧ ∀ i ∈ Region.ready .any ops L, wpOp P ops Q i (fun a' w' => Yet s S (L.setIfInBounds i true) w' ∧ wpTill P ops Q S s n (L.setIfInBounds i true) a' w') a w
theorem wpAny_of_till : ∀ (n : Nat) (L : Array Bool) (a : Act) (w : World), wpTill P ops Q S s n L a w → wpAny P .any ops Q n L a w
  | 0, _, _, _, h => h
  | n + 1, _, _, _, h => ⟨h.1, fun i hi => wpOp_mono (fun _ _ k => wpAny_of_till n _ _ _ k.2) (h.2 i hi)⟩
theorem wpTill_narrow {S' : World → Prop} (hSS : ∀ w, S' w → S w) : ∀ (n : Nat) (L : Array Bool) (a : Act) (w : World), wpTill P ops Q S' s n L a w → wpTill P ops Q S s n L a w
  | 0, _, _, _, h => h
  | n + 1, _, _, _, h => ⟨h.1, fun i hi => wpOp_mono (fun _ _ k => ⟨k.1.imp id (hSS _), wpTill_narrow hSS n _ _ _ k.2⟩) (h.2 i hi)⟩
theorem not_ready_twice {L : Array Bool} {i : Nat} (hi : i ∈ Region.ready .any ops L) {e : Edge} (he : e.on = i) (h : Region.binds .any e = true → L.getD e.on false = true) (hb : Region.binds .any e = true) : False := by
  have h0 := (mem_ready.1 hi).1
  have h1 := h hb
  rw [he] at h1
  by_cases hs : i < L.size
  · simp [Array.getD, hs] at h0 h1
    rw [h0] at h1
    cases h1
  · simp [Array.getD, hs] at h1
/-- One that yields its value in every world of the class, and for which the last one waits, may be taken first. -/
theorem wpTill_take {i : Nat} {oi os : Oper} {v : Value} (hi : ops[i]? = some oi) (hos : ops[s]? = some os) (hwait : ∃ e ∈ os.after, Region.binds .any e = true ∧ e.on = i) (hsel : ∀ (j : Nat) (o : Oper) cs b, ops[j]? = some o → o.op ≠ .select cs b)
    (hQ : ∀ c a w, Q (.panic c) (a.put oi.dst v) w → Q (.panic c) a w) : ∀ (n : Nat) (L : Array Bool) (a : Act) (w : World), L.getD s true = false → i ≠ s →
      (∀ j oj, ops[j]? = some oj → j ≠ i → L.getD j true = false → (∀ e ∈ oj.after, Region.binds .any e = true → e.on ≠ i) → oi.apart ops oj = true) →
      i ∈ Region.ready .any ops L → YieldsIf P ops S oi v a → S w → wpTill P ops Q S s n (L.setIfInBounds i true) (a.put oi.dst v) w → wpTill P ops Q S s (n + 1) L a w := by
  intro n
  induction n with
  | zero =>
    intro L a w hsL his hap hr hy hS H
    refine ⟨(fun e => by rw [e] at hr; cases hr), fun j hj => ?_⟩
    rcases Nat.decEq j i with hne | rfl
    · have hm := ready_mono hj hne
      rw [H.1] at hm
      cases hm
    · exact hy.wpOp hi hS ⟨.inr hS, H⟩
  | succ n ih =>
    intro L a w hsL his hap hr hy hS H
    refine ⟨(fun e => by rw [e] at hr; cases hr), fun j hj => ?_⟩
    rcases Nat.decEq j i with hne | rfl
    · obtain ⟨hjL, oj, hoj, hedges⟩ := mem_ready.1 hj
      have hjs : j ≠ s := by
        rintro rfl
        rw [hos] at hoj
        cases hoj
        obtain ⟨e, he, hb, hon⟩ := hwait
        exact not_ready_twice hr hon (hedges e he) hb
      have hfree : ∀ e ∈ oj.after, Region.binds .any e = true → e.on ≠ i := fun e he hb hon => not_ready_twice hr hon (hedges e he) hb
      have K := wpOp_putIf hoj (hap j oj hoj hne hjL hfree) (fun cs b => hsel i oi cs b hi) (fun cs b => hsel j oj cs b hoj) hQ hy (H.2 j (ready_mono hj hne))
      refine wpOp_mono (fun a' w' hk => ?_) K
      obtain ⟨hy', hyet, hrest⟩ := hk
      have hsj : (L.setIfInBounds j true).getD s true = false := by rw [getD_set_ne true hjs]; exact hsL
      have hS' : S w' := by
        rcases hyet with h1 | h1
        · rw [getD_set_ne true hjs, getD_set_ne true his] at h1
          rw [hsL] at h1
          cases h1
        · exact h1
      refine ⟨.inr hS', ih (L.setIfInBounds j true) a' w' hsj his (fun k ok hk hki hkL hkf => ?_) (ready_mono hr (Ne.symm hne)) hy' hS' ?_⟩
      · refine hap k ok hk hki ?_ hkf
        rcases Nat.decEq j k with h2 | rfl
        · rwa [getD_set_ne true h2] at hkL
        · exact hjL
      · rw [Array.setIfInBounds_comm _ _ hne]
        exact hrest
    · exact hy.wpOp hi hS ⟨.inr hS, H⟩
/-- May this road be taken, and does the last one come up alone behind it? -/
def tillB (ops : Array Oper) (s : Nat) : List (Bool × Nat) → Array Bool → Bool
  | [], L => (match Region.ready .any ops L with | [j] => Nat.beq j s | _ => false) && (Region.ready .any ops (L.setIfInBounds s true)).isEmpty && (match ops[s]? with | some o => o.guard.isNone | none => false)
  | (true, i) :: T, L => (ops[i]?).isSome && Region.free .any ops L i && (Region.ready .any ops L).contains i && !(L.getD s true) && !(Nat.beq i s) && (match ops[s]? with | some o => o.after.toList.any (fun e => Region.binds .any e && Nat.beq e.on i) | none => false) && tillB ops s T (L.setIfInBounds i true)
  | (false, i) :: T, L => (ops[i]?).isSome && (match Region.ready .any ops L with | [j] => Nat.beq j i | _ => false) && tillB ops s T (L.setIfInBounds i true)
/-- The road. -/
def till (P : Program) (ops : Array Oper) (Q : Exit → Act → World → Prop) (os : Oper) : (World → Prop) → List (Bool × Oper) → Act → World → Prop
  | _, [], a, w => os.wp P a w (fun a' w' => Q .normal a' w') Q
  | S, (true, o) :: r, a, w => ∃ S' : World → Prop, (∀ w, S' w → S w) ∧ S' w ∧ ∃ v, YieldsIf P ops S' o v a ∧ till P ops Q os S' r (a.put o.dst v) w
  | S, (false, o) :: r, a, w => ∃ S' : World → Prop, (∀ w, S' w → S w) ∧ if Region.wanted o (yielded ops a.tmps) = true then o.wp P a w (fun a' w' => S' w' ∧ till P ops Q os S' r a' w') Q else S' w ∧ till P ops Q os S' r (a.put o.dst undef) w
theorem till_sound {os : Oper} (hos : ops[s]? = some os) (hQ : ∀ c a d v w, Q (.panic c) (Act.put a d v) w → Q (.panic c) a w) (hs : Region.noSelect ops = true) : ∀ (T : List (Bool × Nat)) (S : World → Prop) (n : Nat) (L : Array Bool) (a : Act) (w : World), T.length + 1 ≤ n → tillB ops s T L = true →
    till P ops Q os S (T.filterMap fun i => (ops[i.2]?).map fun o => (i.1, o)) a w → wpTill P ops Q S s n L a w
  | [], S, n, L, a, w, hf, hB, h => by
    simp only [tillB, Bool.and_eq_true] at hB
    obtain ⟨⟨hr0, hend⟩, hg⟩ := hB
    have hr : Region.ready .any ops L = [s] := by
      split at hr0
      · rename_i j hj
        rw [hj, Nat.eq_of_beq_eq_true hr0]
      · cases hr0
    rw [hos] at hg
    obtain ⟨n, rfl⟩ : ∃ m, n = m + 1 := ⟨n - 1, by simp at hf; omega⟩
    have hend' : Region.ready .any ops (L.setIfInBounds s true) = [] := by simpa using hend
    refine ⟨(fun e => by rw [hr] at e; cases e), fun j hj => ?_⟩
    rw [hr] at hj
    obtain rfl : j = s := by simpa using hj
    unfold wpOp
    simp only [hos]
    have hgn : os.guard = none := by simpa using hg
    rw [if_pos (by simp [Region.wanted, hgn])]
    refine .inl (Oper.wp_mono (fun a' w' hk => ⟨.inl ?_, ?_⟩) h)
    · by_cases hsz : j < L.size
      · simp [hsz]
      · simp [hsz]
    · cases n with
      | zero => exact ⟨hend', hk⟩
      | succ n => exact ⟨fun _ => hk, (fun i hi => by rw [hend'] at hi; cases hi)⟩
  | (true, i) :: T, S, n, L, a, w, hf, hB, h => by
    simp only [tillB, Bool.and_eq_true] at hB
    obtain ⟨⟨⟨⟨⟨⟨hi, hfr⟩, hr⟩, hsL⟩, hne⟩, hw⟩, hB'⟩ := hB
    obtain ⟨o, ho⟩ := Option.isSome_iff_exists.1 hi
    obtain ⟨n, rfl⟩ : ∃ m, n = m + 1 := ⟨n - 1, by simp at hf; omega⟩
    have e : ((true, i) :: T).filterMap (fun i => (ops[i.2]?).map fun o => (i.1, o)) = (true, o) :: T.filterMap fun i => (ops[i.2]?).map fun o => (i.1, o) := by simp [ho]
    rw [e] at h
    obtain ⟨S', hSS, hS, v, hy, h'⟩ := h
    rw [hos] at hw
    obtain ⟨ed, hed, hb⟩ := List.any_eq_true.1 hw
    simp only [Bool.and_eq_true] at hb
    exact wpTill_narrow hSS _ _ _ _ (wpTill_take ho hos ⟨ed, by simpa using hed, hb.1, Nat.eq_of_beq_eq_true hb.2⟩ (Region.noSelect_spec hs) (fun c a w hh => hQ c a _ _ w hh) n L a w (by simpa using hsL) (by intro e; subst e; simp at hne) (Region.free_spec ho hfr) (by simpa using hr) hy hS
      (till_sound hos hQ hs T S' n _ _ w (by simp at hf ⊢; omega) hB' h'))
  | (false, i) :: T, S, n, L, a, w, hf, hB, h => by
    simp only [tillB, Bool.and_eq_true] at hB
    obtain ⟨⟨hi, hr0⟩, hB'⟩ := hB
    have hr : Region.ready .any ops L = [i] := by
      split at hr0
      · rename_i j hj
        rw [hj, Nat.eq_of_beq_eq_true hr0]
      · cases hr0
    obtain ⟨o, ho⟩ := Option.isSome_iff_exists.1 hi
    obtain ⟨n, rfl⟩ : ∃ m, n = m + 1 := ⟨n - 1, by simp at hf; omega⟩
    have e : ((false, i) :: T).filterMap (fun i => (ops[i.2]?).map fun o => (i.1, o)) = (false, o) :: T.filterMap fun i => (ops[i.2]?).map fun o => (i.1, o) := by simp [ho]
    rw [e] at h
    obtain ⟨S', hSS, h⟩ := h
    refine wpTill_narrow hSS _ _ _ _ ⟨(fun e => by rw [hr] at e; cases e), fun j hj => ?_⟩
    rw [hr] at hj
    obtain rfl : j = i := by simpa using hj
    unfold wpOp
    simp only [ho]
    split
    · rename_i hw
      rw [if_pos hw] at h
      exact .inl (Oper.wp_mono (fun a' w' hh => ⟨.inr hh.1, till_sound hos hQ hs T S' n _ a' w' (by simp at hf; omega) hB' hh.2⟩) h)
    · rename_i hw
      rw [if_neg hw] at h
      exact ⟨.inr h.1, till_sound hos hQ hs T S' n _ _ w (by simp at hf; omega) hB' h.2⟩
/-- THE LAW. -/
theorem wp_region_till {id : Nat} {l : List Oper} {a : Act} {w : World} (S : World → Prop) (s : Nat) (T : List (Bool × Nat)) (os : Oper) (hm : P.follows .mixedOrders = true)
    (hB : (tillB l.toArray s T (Array.replicate l.toArray.size false) && Region.noSelect l.toArray && Nat.ble (T.length + 1) l.toArray.size) = true)
    (hos : l.toArray[s]? = some os) (hQ : ∀ c a d v w, Q (.panic c) (Act.put a d v) w → Q (.panic c) a w)
    (h : till P l.toArray Q os S (T.filterMap fun i => (l.toArray[i.2]?).map fun o => (i.1, o)) a w.drew) : (Code.region id l.toArray true).wp P Q a w := by
  simp only [Bool.and_eq_true] at hB
  exact wp_region_any hm (wpAny_of_till _ _ _ _ (till_sound hos hQ hB.1.2 T S _ _ a w.drew (Nat.le_of_ble_eq_true hB.2) hB.1.1 h))
theorem till_q {os o : Oper} {rest : List (Bool × Oper)} {a : Act} {w : World} {v : Value} (hw : Region.wanted o (yielded ops a.tmps) = true) (hS : S w) (hy : ∀ w, S w → (execOp a.eval o).run P w = .ok (.value v) w) (h : till P ops Q os S rest (a.put o.dst v) w) : till P ops Q os S ((true, o) :: rest) a w := ⟨S, fun _ h => h, hS, v, .inl ⟨hw, hy⟩, h⟩
theorem till_qs {os o : Oper} {rest : List (Bool × Oper)} {a : Act} {w : World} (hw : Region.wanted o (yielded ops a.tmps) = false) (hS : S w) (h : till P ops Q os S rest (a.put o.dst undef) w) : till P ops Q os S ((true, o) :: rest) a w := ⟨S, fun _ h => h, hS, undef, .inr ⟨hw, rfl⟩, h⟩
theorem till_sw {os : Oper} (S' : World → Prop) {l : List (Bool × Oper)} {a : Act} {w : World} (hSS : ∀ w, S' w → S w) (h : till P ops Q os S' l a w) : till P ops Q os S l a w := by
  rcases l with _ | ⟨⟨_ | _, o⟩, r⟩
  · exact h
  · obtain ⟨T, h1, h2⟩ := h
    exact ⟨T, fun w h => hSS w (h1 w h), h2⟩
  · obtain ⟨T, h1, h2⟩ := h
    exact ⟨T, fun w h => hSS w (h1 w h), h2⟩
theorem till_t {os o : Oper} {rest : List (Bool × Oper)} {a : Act} {w : World} (hw : Region.wanted o (yielded ops a.tmps) = true)
    (h : ∀ K : Act → World → Prop, Hid (∀ a w, S w → till P ops Q os S rest a w → K a w) → o.wp P a w K Q) : till P ops Q os S ((false, o) :: rest) a w := by
  refine ⟨S, fun _ h => h, ?_⟩
  rw [if_pos hw]
  exact h _ (fun a w h1 h2 => ⟨h1, h2⟩)
theorem till_tv {os o : Oper} {rest : List (Bool × Oper)} {a : Act} {w : World} {v : Value} (hw : Region.wanted o (yielded ops a.tmps) = true) (hS : S w) (hy : (execOp a.eval o).run P w = .ok (.value v) w) (h : till P ops Q os S rest (a.put o.dst v) w) : till P ops Q os S ((false, o) :: rest) a w := by
  refine ⟨S, fun _ h => h, ?_⟩
  rw [if_pos hw]
  unfold Oper.wp
  rw [hy]
  exact ⟨hS, h⟩
/-- The last one. -/
theorem till_last {os : Oper} {a : Act} {w : World} (h : ∀ K : Act → World → Prop, Hid (∀ a w, Q .normal a w → K a w) → os.wp P a w K Q) : till P ops Q os S [] a w := h _ (fun _ _ h => h)
end
end Go.Proofs.YtlocplkjokoknaaGreat

/- box.Box: Known, keep. No condition but those each theorem states. -/
namespace Go.Proofs.YtlocplkjokoknaaGreat
set_option linter.unusedVariables false
set_option linter.unusedSimpArgs false
open Go.RowKit
attribute [local go_sem ↓] Go.wp_at_zero Go.wp_at_succ

theorem run_lookup2 {P : Program} {o : Oper} {a : Act} (T : TypeId) (x y : Operand) (ho : o.op = .lookup T x y true) {b : Nat} {k v : Value} (hx : a.eval x = .map (some b)) (hy : a.eval y = k) {W : World} (h : (Instr.lookup T (.map (some b)) k true).run P W = .ok v W) : (execOp a.eval o).run P W = .ok (.value v) W := by
  unfold execOp
  simp only [ho, hx, hy, Sem.run_bind, Sem.run_pure, h, Result.andThen_ok]
theorem zero_entC : (Tryz.prog.info? 132).map (·.zero) = some (some EntZ) := by kernel_rfl
theorem EntL_size (k b : List UInt8) (A : Option Addr) (n c : Nat) (h : k.length = 32) : (EntL k b A n c).toArray.size = 34 := by simp [EntL, B8_length, h]
theorem EntL_one (k b : List UInt8) (A : Option Addr) (n c : Nat) : (EntL k b A n c).toArray.all (·.oneCell') = true := all_oneCell_toArray (by
  intro v hv
  simp only [EntL, List.mem_append, B8, List.mem_map, List.mem_cons, List.mem_nil_iff, or_false] at hv
  rcases hv with ⟨x, _, rfl⟩ | rfl | rfl <;> rfl)
theorem info_ent : (Tryz.prog.info? 132).map (·.size) = some 34 := by kernel_rfl
/-- Is it one that was sealed. -/
def knownM (m : List (List UInt8 × Ent)) (s : List UInt8) : Bool := m.any fun p => decide (p.1 = s)
set_option maxRecDepth 100000 in
set_option maxHeartbeats 2000000 in
theorem known_any (w0 : World) (g S D b lo : Nat) (s : BSt) (w : World) (h : BoxB w0 g S D b lo s w) (A : Option Addr) (q c : Nat) (l : List UInt8) (hq : l.length = q) (hR : RdB w A l) (hl : q ≤ 100000) :
    Calls Tryz.prog 90 #[.pointer (some ⟨g, 0, none⟩), .slice A q c] w fun e w' => e = .returned (.bool (knownM s.m l)) ∧ Below w.heap.size w w' := by
  have H := Lib.hid h
  have HQ := Lib.hid hq
  have HR := Lib.hid hR
  have LK : ∃ k bs A' n c', ∃ β : Bool, knownM s.m l = β ∧ k.length = 32 ∧ ∀ W' : World, W'.heap[b]? = w.heap[b]? → (Instr.lookup 78 (.map (some b)) (.string (strB l)) true).run Tryz.prog W' = .ok (.tuple #[EntV k bs A' n c', .bool β]) W' := by
    rcases mapB_lookup h.map l (by omega) with ⟨h1, h2⟩ | ⟨j, e, A', c', hj, h2, _, h32, _, _⟩
    · refine ⟨_, _, _, _, _, false, ?_, by simp, h2⟩
      simp only [knownM, List.any_eq_false, decide_eq_true_eq]
      exact h1
    · refine ⟨_, _, _, _, _, true, ?_, h32, h2⟩
      simp only [knownM, List.any_eq_true, decide_eq_true_eq]
      exact ⟨_, List.mem_of_getElem? hj, rfl⟩
  obtain ⟨k, bs, A', n, c', β, hβ, h32, hlk⟩ := LK
  rw [hβ]
  have K32 := Lib.hid h32
  have LKH := Lib.hid hlk
  have ML := Lib.hid h.map.lt
  clear h hq hR hl hβ h32 hlk
  go_enter Tryz.func90, Tryz.ntmps90
  go_wp2_with fail
  refine (bnone_any w0 g S D b lo s w H.out).mono ?_
  rintro e wd ⟨rfl, hw⟩
  rw [hw]
  clear hw wd
  go_upto_region 3 with fail
  have B := Lib.hid (show Below w.heap.size w w.drew from (Below.refl _ _).drew)
  refine wp_region_road (fun W => Below w.heap.size w W) [(true, 0), (true, 1), (true, 2), (true, 3), (true, 4), (true, 5), (true, 6), (true, 7), (true, 8), (true, 9), (false, 10), (false, 11), (true, 12)] (by kernel_rfl) (by kernel_rfl) (fun _ _ d _ _ h => by cases d <;> exact h) ?_
  simp only [List.filterMap_cons, List.filterMap_nil, List.getElem?_toArray, List.getElem?_cons_zero, List.getElem?_cons_succ, Option.map_some]
  refine planG_q (v := ?_) (by rfl) (B.out) ?_ ?_
  rotate_left
  · intro W hW
    go_simp
    with_reducible rfl
  simp only [Act.put, List.setIfInBounds_toArray, List.set_cons_zero, List.set_cons_succ]
  refine planG_q (v := ?_) (by rfl) (B.out) ?_ ?_
  rotate_left
  · intro W hW
    go_simp
    with_reducible rfl
  simp only [Act.put, List.setIfInBounds_toArray, List.set_cons_zero, List.set_cons_succ]
  refine planG_q (v := ?_) (by rfl) (B.out) ?_ ?_
  rotate_left
  · intro W hW
    go_simp
    with_reducible rfl
  simp only [Act.put, List.setIfInBounds_toArray, List.set_cons_zero, List.set_cons_succ]
  refine planG_q (by rfl) (B.out) (fun W hW => run_cell 78 (.tmp 12) rfl _ Tryz.underlying78 rfl rfl (row_cell (below_block hW (row_lt H.out.row) H.out.row) 2 rfl)) ?_
  simp only [Act.put, List.setIfInBounds_toArray, List.set_cons_zero, List.set_cons_succ]
  refine planG_q (v := ?_) (by rfl) (B.out) ?_ ?_
  rotate_left
  · intro W hW
    go_simp
    with_reducible rfl
  simp only [Act.put, List.setIfInBounds_toArray, List.set_cons_zero, List.set_cons_succ]
  refine planG_q (by rfl) (B.out) (fun W hW => run_str 22 9 (.tmp 14) rfl Tryz.underlying22 Tryz.underlying5 Tryz.underlying9 (HR.out.keep hW) q c HQ.out rfl) ?_
  simp only [Act.put, List.setIfInBounds_toArray, List.set_cons_zero, List.set_cons_succ]
  refine planG_q (by rfl) (B.out) (fun W hW => run_lookup2 78 (.tmp 13) (.tmp 15) rfl rfl rfl (LKH.out W (hW.block b ML.out))) ?_
  simp only [Act.put, List.setIfInBounds_toArray, List.set_cons_zero, List.set_cons_succ]
  refine planG_q (v := ?_) (by rfl) (B.out) ?_ ?_
  rotate_left
  · intro W hW
    go_simp
    with_reducible rfl
  simp only [Act.put, List.setIfInBounds_toArray, List.set_cons_zero, List.set_cons_succ]
  refine planG_q (v := ?_) (by rfl) (B.out) ?_ ?_
  rotate_left
  · intro W hW
    go_simp
    with_reducible rfl
  simp only [Act.put, List.setIfInBounds_toArray, List.set_cons_zero, List.set_cons_succ]
  refine planG_q (v := ?_) (by rfl) (B.out) ?_ ?_
  rotate_left
  · intro W hW
    go_simp
    with_reducible rfl
  simp only [Act.put, List.setIfInBounds_toArray, List.set_cons_zero, List.set_cons_succ]
  refine planG_t (by rfl) (fun K hK => ?_)
  go_simp
  generalize hw1 : World.drew (World.alloc w _) = w1
  have R1 := Lib.hid (show w1.heap[w.heap.size]? = some (.cells (EntL (List.replicate 32 0) [] none 0 0).toArray 132 (0, 0)) by rw [← hw1]; exact ha_new w _ _ rfl)
  have B := Lib.hid (show Below w.heap.size w w1 by rw [← hw1]; exact (below_new w _).trans (Below.refl _ _).drew)
  clear hw1
  refine hK.out _ _ (B.out) ?_
  clear hK K
  refine planG_t (by rfl) (fun K hK => ?_)
  refine storeW_wp 132 (.tmp 5) (.tmp 17) rfl w.heap.size (EntL k bs A' n c').toArray rfl rfl _ _ R1.out (by rw [EntL_size _ _ _ _ _ K32.out]; exact info_ent) (by rw [EntL_size _ _ _ _ _ K32.out]; rfl) (EntL_one _ _ _ _ _) ?_
  intro w2 _ hg _
  have B := Lib.hid (B.out.trans (grown_below hg B.out.size (by rintro x ⟨⟩; exact Nat.le_refl _)))
  clear hg
  refine hK.out _ _ (B.out) ?_
  clear hK K
  refine planG_q (v := ?_) (by rfl) (B.out) ?_ ?_
  rotate_left
  · intro W hW
    go_simp
    with_reducible rfl
  simp only [Act.put, List.setIfInBounds_toArray, List.set_cons_zero, List.set_cons_succ]
  refine planG_nil ?_
  go_wp2_with fail
  go_ret
  exact ⟨rfl, B.out⟩
theorem mapUpdate_wp {P : Program} {o : Oper} {a : Act} {Q : Exit → Act → World → Prop} {W W' : World} {K : Act → World → Prop} (T : TypeId) (x y z : Operand) (ho : o.op = .mapUpdate T x y z) {b : Nat} {k v : Value} (hx : a.eval x = .map (some b)) (hy : a.eval y = k) (hz : a.eval z = v)
    (h : (Instr.mapUpdate T (.map (some b)) k v).run P W = .ok () W') (hk : K (a.put o.dst undef) W') : o.wp P a W K Q := by
  unfold Oper.wp execOp
  simp only [ho, hx, hy, hz, Sem.run_bind, Sem.run_pure, h, Result.andThen_ok]
  exact hk
theorem grown_below_trans {w W W' : World} {k : Nat} (h : Below w.heap.size w W) (hg : W.grownBy W' (some k)) (hk : w.heap.size ≤ k) : Below w.heap.size w W' :=
  h.trans (grown_below hg h.size (by rintro q ⟨⟩; exact hk))
set_option maxRecDepth 100000 in
set_option maxHeartbeats 2000000 in
theorem keep_any (w0 : World) (g S D b lo : Nat) (s : BSt) (w : World) (h : BoxB w0 g S D b lo s w) (A : Option Addr) (q c : Nat) (l : List UInt8) (hq : l.length = q) (hR : RdB w A l) (hl : q ≤ 100000)
    (e : Ent) (A2 : Option Addr) (n2 c2 : Nat) (hn2 : e.text.length = n2) (hR2 : RdB w A2 e.text) (hk : e.key.length = 32) (hc2 : n2 ≤ c2) (hA2 : ∀ a, A2 = some a → a.block < w.heap.size ∧ lo ≤ a.block ∧ OfB w a.block) (hm : s.m.length ≤ 100000) (hn : s.n < 1000000) :
    Calls Tryz.prog 91 #[.pointer (some ⟨g, 0, none⟩), .slice A q c, .agg (EntL e.key e.beside A2 n2 c2).toArray] w fun en w' => en = .returned (.tuple #[]) ∧
      ∃ m', (((∀ p ∈ s.m, p.1 ≠ l) ∧ m' = s.m ++ [(l, e)]) ∨ ∃ (j : Nat) (e0 : Ent), s.m[j]? = some (l, e0) ∧ m' = s.m.set j (l, e)) ∧ BoxB w0 g S D b lo { s with m := m', n := s.n + 1 } w' ∧
      ∃ w1 w2, Below w.heap.size w w1 ∧ w1.grownBy w2 (some b) ∧ w2.grownBy w' (some g) := by
  have H := Lib.hid h
  have HQ := Lib.hid hq
  have HR := Lib.hid hR
  have HL := Lib.hid hl
  have N2 := Lib.hid hn2
  have R2 := Lib.hid hR2
  have HK := Lib.hid hk
  have C2 := Lib.hid hc2
  have HA := Lib.hid hA2
  have HM := Lib.hid hm
  have HN := Lib.hid hn
  have nb : (s.n : Int) < 1000000 := by omega
  obtain ⟨cs, hcs⟩ : ∃ cs, cs = (EntL e.key e.beside A2 n2 c2).toArray := ⟨_, rfl⟩
  have CE := Lib.hid hcs
  rw [← hcs]
  have Z := Lib.hid (show (Tryz.prog.info? 132).map (·.size) = some cs.size by rw [hcs, EntL_size _ _ _ _ _ hk]; exact info_ent)
  clear h hq hR hl hn2 hR2 hk hc2 hA2 hm hn hcs
  go_enter Tryz.func91, Tryz.ntmps91
  go_upto_region 1 with fail
  generalize hw1 : World.alloc w _ = w1
  have M1 := Lib.hid (show w1.heap[w.heap.size]? = some (.cells cs 132 (0, 0)) by rw [← hw1]; exact ha_new _ _ _ rfl)
  have B1 := Lib.hid (show Below w.heap.size w w1 by rw [← hw1]; exact below_new _ _)
  clear hw1
  have H1 := Lib.hid (H.out.keep B1.out)
  have B := Lib.hid (show Below w1.heap.size w1 w1.drew from (Below.refl _ _).drew)
  refine wp_region_till (fun W => Below w1.heap.size w1 W) 7 [(true, 0), (true, 1), (true, 2), (true, 3), (true, 4), (true, 5), (true, 6)] _ (by kernel_rfl) (by kernel_rfl) rfl (fun _ _ d _ _ h => by cases d <;> exact h) ?_
  simp only [List.filterMap_cons, List.filterMap_nil, List.getElem?_toArray, List.getElem?_cons_zero, List.getElem?_cons_succ, Option.map_some]
  refine till_q (v := ?_) (by rfl) (B.out) ?_ ?_
  rotate_left
  · intro W hW
    go_simp
    with_reducible rfl
  simp only [Act.put, List.setIfInBounds_toArray, List.set_cons_zero, List.set_cons_succ]
  refine till_q (v := ?_) (by rfl) (B.out) ?_ ?_
  rotate_left
  · intro W hW
    go_simp
    with_reducible rfl
  simp only [Act.put, List.setIfInBounds_toArray, List.set_cons_zero, List.set_cons_succ]
  refine till_q (v := ?_) (by rfl) (B.out) ?_ ?_
  rotate_left
  · intro W hW
    go_simp
    with_reducible rfl
  simp only [Act.put, List.setIfInBounds_toArray, List.set_cons_zero, List.set_cons_succ]
  refine till_q (by rfl) (B.out) (fun W hW => run_cell 78 (.tmp 8) rfl _ Tryz.underlying78 rfl rfl (row_cell (below_block hW (row_lt H1.out.row) H1.out.row) 2 rfl)) ?_
  simp only [Act.put, List.setIfInBounds_toArray, List.set_cons_zero, List.set_cons_succ]
  refine till_q (v := ?_) (by rfl) (B.out) ?_ ?_
  rotate_left
  · intro W hW
    go_simp
    with_reducible rfl
  simp only [Act.put, List.setIfInBounds_toArray, List.set_cons_zero, List.set_cons_succ]
  refine till_q (by rfl) (B.out) (fun W hW => run_str 22 9 (.tmp 10) rfl Tryz.underlying22 Tryz.underlying5 Tryz.underlying9 ((HR.out.keep B1.out).keep hW) q c HQ.out rfl) ?_
  simp only [Act.put, List.setIfInBounds_toArray, List.set_cons_zero, List.set_cons_succ]
  refine till_q (by rfl) (B.out) (fun W hW => run_load_row 132 (.tmp 5) rfl w.heap.size rfl 132 cs (0, 0) _ (below_block hW (row_lt M1.out) M1.out) Tryz.underlying132 rfl Z.out) ?_
  simp only [Act.put, List.setIfInBounds_toArray, List.set_cons_zero, List.set_cons_succ]
  have H2 := Lib.hid (H1.out.keep B.out)
  obtain ⟨w3, hrun, hg3, hput⟩ := mapB_put H2.out.map l (by rw [HQ.out]; exact HL.out) e A2 c2 HM.out ((R2.out.keep B1.out).keep B.out) HK.out (by rw [N2.out]; exact C2.out) (fun a ea => ⟨Nat.lt_of_lt_of_le (HA.out a ea).1 (Nat.le_trans B1.out.size B.out.size), (HA.out a ea).2.1, ((HA.out a ea).2.2.same (B1.out.block _ (HA.out a ea).1)).same (B.out.block _ (Nat.lt_of_lt_of_le (HA.out a ea).1 B1.out.size))⟩)
  rw [N2.out] at hrun
  have G3 := Lib.hid hg3
  have PUT := Lib.hid hput
  have RUN := Lib.hid (show (Instr.mapUpdate 78 (.map (some b)) (.string (strB l)) (.agg cs)).run Tryz.prog w1.drew = .ok () w3 by rw [CE.out]; exact hrun)
  clear hrun hg3 hput
  refine till_last (fun K hK => ?_)
  refine mapUpdate_wp 78 (.tmp 9) (.tmp 11) (.tmp 12) rfl rfl rfl rfl RUN.out ?_
  refine hK.out _ _ ?_
  clear hK K
  have W1 := Lib.hid (B1.out.size)
  obtain ⟨m', hm', hmap⟩ : ∃ m', (((∀ p ∈ s.m, p.1 ≠ l) ∧ m' = s.m ++ [(l, e)]) ∨ ∃ (j : Nat) (e0 : Ent), s.m[j]? = some (l, e0) ∧ m' = s.m.set j (l, e)) ∧ MapB lo b m' w3 := by
    rcases PUT.out with ⟨h1, h2⟩ | ⟨j, e0, h1, h2⟩
    · exact ⟨_, .inl ⟨h1, rfl⟩, h2⟩
    · exact ⟨_, .inr ⟨j, e0, h1, rfl⟩, h2⟩
  have MO := Lib.hid hm'
  have MB := Lib.hid hmap
  have RW3 := Lib.hid (show w3.heap[g]? = _ from grown_block G3.out (by intro e; injection e with e; exact H2.out.gb e) H2.out.row)
  have SR3 := Lib.hid (H2.out.src.far G3.out (by rintro k ⟨⟩; exact ⟨fun e => H2.out.Sb e.symm, fun e => H2.out.Db e.symm⟩))
  have c3 := row_cell RW3.out 3 rfl
  have f3 := row_free RW3.out 3
  clear hm' hmap PUT RUN
  go_wp2_with fail
  rw [show ((s.n : Int) + 1) = ((s.n + 1 : Nat) : Int) by omega]
  have G4 : w3.grownBy (w3.setCell ⟨g, 3, none⟩ (.int .i64 ((s.n + 1 : Nat) : Int))) (some g) := grown_set (World.grownBy.refl _ _) _ _
  go_end0
  refine ⟨rfl, m', MO.out, ?_, w1.drew, w3, B1.out.trans (B.out.mono B1.out.size), G3.out, G4⟩
  have hB : Below w0.heap.size w0 w3 := grown_below_trans H2.out.bel G3.out H2.out.hb
  exact ⟨grown_below_trans hB G4 H2.out.hg, H2.out.hg, H2.out.hS, H2.out.hD, H2.out.hb,
    by rw [heap_setCell_same _ _ _ _ _ _ RW3.out]; rfl,
    SR3.out.far G4 (by rintro k ⟨⟩; exact ⟨H2.out.gS, H2.out.gD⟩),
    Nat.lt_of_lt_of_le H2.out.ltD (Nat.le_trans G3.out.size G4.size),
    MB.out.far G4 (by rintro k ⟨⟩; exact ⟨H2.out.lg, H2.out.gb⟩),
    H2.out.gS, H2.out.gD, H2.out.gb, H2.out.Sb, H2.out.Db, H2.out.lg, H2.out.lS, by have := HN.out; show s.n + 1 ≤ 1000000; omega⟩
end Go.Proofs.YtlocplkjokoknaaGreat

/- box.Box: draw. No condition but those each theorem states. -/
namespace Go.Proofs.YtlocplkjokoknaaGreat
set_option linter.unusedVariables false
set_option linter.unusedSimpArgs false
open Go.RowKit
attribute [local go_sem ↓] Go.wp_at_zero Go.wp_at_succ

set_option maxRecDepth 100000 in
set_option maxHeartbeats 2000000 in
theorem bdraw_any (w0 : World) (g S D b lo : Nat) (s : BSt) (w : World) (h : BoxB w0 g S D b lo s w) (n : Nat) (hn : n ≤ 65536) (hu : s.u + n ≤ 900000) (hF : s.F.length ≤ 100000) :
    Calls Tryz.prog 89 #[.pointer (some ⟨g, 0, none⟩), .int .i64 (n : Int)] w fun e w' => ∃ v, e = .returned v ∧ OwnB w' w.heap.size v (tellS s.F s.u n) ∧ BoxB w0 g S D b lo { s with u := s.u + n } w' ∧ w.grownBy w' (some S) := by
  have TB := Lib.hid (show ByteT Tryz.prog from ⟨Tryz.underlying22, by kernel_rfl⟩)
  have H := Lib.hid h
  have HN := Lib.hid hn
  have HU := Lib.hid hu
  have HF := Lib.hid hF
  have nb : (n : Int) ≤ 65536 := by omega
  obtain ⟨T, hT⟩ : ∃ T, T = tellS s.F s.u n := ⟨_, rfl⟩
  have TE := Lib.hid hT
  have TL := Lib.hid (show T.length = n by rw [hT, tellS_length])
  rw [← hT]
  clear h hn hu hF hT
  go_enter Tryz.func89, Tryz.ntmps89
  go_wp2_with fail
  go_loopw [5] (fun v wr => (v = .slice none 0 0 ∧ wr = w) ∨ (0 < n ∧ OwnB wr w.heap.size v T ∧ BoxB w0 g S D b lo { s with u := s.u + n } wr ∧ w.grownBy wr (some S))) (fun v _ => n - lenOf v)
  case atStart => exact .inl ⟨rfl, rfl⟩
  case round =>
    rcases hrel with ⟨rfl, hw⟩ | ⟨hn0, ho, hs, hg⟩
    · rw [hw]
      clear hw wr
      rcases Nat.eq_zero_or_pos n with h0 | h0
      · have hD : decide ((0 : Int) < (n : Int)) = false := by simp; omega
        have hD2 : decide (0 < n) = false := by simp; omega
        have T0 := Lib.hid (show T = [] from List.eq_nil_of_length_eq_zero (by rw [TL.out, h0]))
        have N0 := Lib.hid h0
        clear h0
        go_wp2_with fail
        go_ret
        refine ⟨_, rfl, by rw [T0.out]; exact OwnB.nil _ _, ?_, World.grownBy.refl _ _⟩
        have := H.out
        rw [N0.out]
        exact this
      · have hD : decide ((0 : Int) < (n : Int)) = true := by simp; omega
        have hD2 : decide (0 < n) = true := by simp; omega
        have N0 := Lib.hid h0
        have c1 := row_cell H.out.row 1 rfl
        clear h0
        go_wp2_with fail
        refine (tell_any S D s.F s.u true w H.out.src H.out.ltD HF.out (n : Int) (by rw [takeN_nat n HN.out]; exact HU.out)).mono ?_
        rw [takeN_nat n HN.out, ← TE.out]
        rintro e w1 ⟨v, rfl, ho, hs, hg⟩
        obtain ⟨A', c', rfl, hr, _, _, _⟩ := ho.read
        rw [TL.out]
        have R := Lib.hid hr
        have SR := Lib.hid hs
        have G1 := Lib.hid hg
        clear ho hr hs hg c1
        go_wp2_with (refine app_list rfl TB.out (.tmp 10) (.tmp 19) rfl w.heap.size _ [] T A' n c' rfl rfl TL.out (OwnB.nil _ _) R.out G1.out.size (by have := HN.out; simp; omega) ?_)
        intro v1 w2 ho hg _
        have G2 := Lib.hid (grown_more G1.out hg (by rintro k e; simp [Value.ownBlock] at e))
        have O := Lib.hid ho
        have BB := Lib.hid ((H.out.step SR.out G1.out).keep (grown_below hg (Nat.le_refl _) (by rintro k e; simp [Value.ownBlock] at e)))
        obtain ⟨A2, c2, rfl, _, _, _, _⟩ := ho.read
        have O := Lib.hid (show OwnB w2 w.heap.size (.slice A2 n c2) T by have := O.out; rwa [TL.out] at this)
        rw [TL.out]
        clear ho hg
        go_wp2_with fail
        go_roundw
        case rel => exact .inr ⟨N0.out, O.out, BB.out, G2.out⟩
        case measure => have := N0.out; simp [lenOf]; omega
    · obtain ⟨A2, c2, rfl, _, _, _, _⟩ := ho.read
      have O := Lib.hid ho
      have BB := Lib.hid hs
      have G2 := Lib.hid hg
      rw [TL.out] at O ⊢
      have hD : decide ((n : Int) < (n : Int)) = false := by simp
      clear hn0 ho hs hg
      go_wp2_with fail
      go_ret
      exact ⟨_, rfl, O.out, BB.out, G2.out⟩
end Go.Proofs.YtlocplkjokoknaaGreat

/- box.Box: ideal. No condition but those each theorem states. -/
namespace Go.Proofs.YtlocplkjokoknaaGreat
set_option linter.unusedVariables false
set_option linter.unusedSimpArgs false
open Go.RowKit
attribute [local go_sem ↓] Go.wp_at_zero Go.wp_at_succ

def WhoL (k bs : List UInt8) : List Value := B8 k ++ [.string (strB bs)]
theorem WhoL_size (k bs : List UInt8) (h : k.length = 32) : (WhoL k bs).toArray.size = 33 := by simp [WhoL, B8_length, h]
theorem info_who : (Tryz.prog.info? 130).map (·.size) = some 33 := by kernel_rfl
/-- So many tries. -/
def idealL : Nat → BSt → Ent → BSt × Option (List UInt8)
  | 0, s, _ => (s, none)
  | t + 1, s, e =>
    if knownM s.m (tellS s.F s.u (e.text.length + 28)) then idealL t { s with u := s.u + (e.text.length + 28) } e
    else ({ s with u := s.u + (e.text.length + 28), m := s.m ++ [(tellS s.F s.u (e.text.length + 28), e)], n := s.n + 1 }, some (tellS s.F s.u (e.text.length + 28)))
theorem not_known {m : List (List UInt8 × Ent)} {l : List UInt8} (h : knownM m l = false) : ∀ p ∈ m, p.1 ≠ l := by
  simp only [knownM, List.any_eq_false, decide_eq_true_eq] at h
  exact h
/-- An entry out of its parts. -/
theorem run_newent {o : Oper} {a : Act} (x y : Operand) (ho : o.op = .build 132 #[(0, x), (1, y)]) (k bs : List UInt8) (hk : k.length = 32) (A : Option Addr) (n c : Nat) (hx : a.eval x = .agg (WhoL k bs).toArray) (hy : a.eval y = .slice A n c) (W : World) :
    (execOp a.eval o).run Tryz.prog W = .ok (.value (EntV k bs A n c)) W := by
  match k, hk with
  | [k0, k1, k2, k3, k4, k5, k6, k7, k8, k9, k10, k11, k12, k13, k14, k15, k16, k17, k18, k19, k20, k21, k22, k23, k24, k25, k26, k27, k28, k29, k30, k31], _ =>
    have h2 : ∀ (s : Value) (A : Option Addr) (n c : Nat) (v0 v1 v2 v3 v4 v5 v6 v7 v8 v9 v10 v11 v12 v13 v14 v15 v16 v17 v18 v19 v20 v21 v22 v23 v24 v25 v26 v27 v28 v29 v30 v31 : Value) (W : World),
        (Instr.build 132 #[(0, .agg #[v0, v1, v2, v3, v4, v5, v6, v7, v8, v9, v10, v11, v12, v13, v14, v15, v16, v17, v18, v19, v20, v21, v22, v23, v24, v25, v26, v27, v28, v29, v30, v31, s]), (1, Value.slice A n c)]).run Tryz.prog W = .ok (.agg #[v0, v1, v2, v3, v4, v5, v6, v7, v8, v9, v10, v11, v12, v13, v14, v15, v16, v17, v18, v19, v20, v21, v22, v23, v24, v25, v26, v27, v28, v29, v30, v31, s, .slice A n c]) W := by
      intros
      kernel_rfl
    unfold execOp
    simp only [ho, List.map_toArray, List.map_cons, List.map_nil, hx, hy, Sem.run_bind, Sem.run_pure]
    simp only [WhoL, B8, List.map_cons, List.map_nil, List.cons_append, List.nil_append, h2, Result.andThen_ok]
    rfl
/-- What lies elsewhere is as it was. -/
def BoxF (g S b : Nat) (w w' : World) : Prop := w.heap.size ≤ w'.heap.size ∧ ∀ k, k < w.heap.size → k ≠ g → k ≠ S → k ≠ b → w'.heap[k]? = w.heap[k]?
theorem BoxF.refl (g S b : Nat) (w : World) : BoxF g S b w w := ⟨Nat.le_refl _, fun _ _ _ _ _ => rfl⟩
theorem BoxF.below {g S b : Nat} {w W W' : World} (h : BoxF g S b w W) (hb : Below W.heap.size W W') : BoxF g S b w W' :=
  ⟨Nat.le_trans h.1 hb.size, fun k h1 h2 h3 h4 => (hb.block k (Nat.lt_of_lt_of_le h1 h.1)).trans (h.2 k h1 h2 h3 h4)⟩
theorem BoxF.grown {g S b : Nat} {w W W' : World} {r : Option Nat} (h : BoxF g S b w W) (hg : W.grownBy W' r) (hr : ∀ k, r = some k → k = g ∨ k = S ∨ k = b ∨ w.heap.size ≤ k) : BoxF g S b w W' :=
  ⟨Nat.le_trans h.1 hg.size, fun k h1 h2 h3 h4 => (hg.block k (Nat.lt_of_lt_of_le h1 h.1) (fun e => by have := hr k e.symm; omega)).trans (h.2 k h1 h2 h3 h4)⟩
theorem RdB.boxF {g S b : Nat} {w w' : World} {A : Option Addr} {l : List UInt8} (h : RdB w A l) (hf : BoxF g S b w w') (hA : l ≠ [] → ∀ a, A = some a → a.block ≠ g ∧ a.block ≠ S ∧ a.block ≠ b) : RdB w' A l := by
  intro j hj
  have hne : l ≠ [] := fun e => by rw [e] at hj; exact absurd hj (by simp)
  obtain ⟨k, o, e, hc⟩ := h j hj
  refine ⟨k, o, e, ?_⟩
  have h1 := hA hne _ e
  have h0 := h.lt hne _ e
  rw [← hc]
  have h2 := hf.2 k h0 h1.1 h1.2.1 h1.2.2
  simp only [World.cell?, h2]
/-- What was there before a box was made lies apart. -/
theorem RdB.apart {w0 : World} {A : Option Addr} {l : List UInt8} (h : RdB w0 A l) {g S b : Nat} (hl : w0.heap.size ≤ g ∧ w0.heap.size ≤ S ∧ w0.heap.size ≤ b) : l ≠ [] → ∀ a, A = some a → a.block ≠ g ∧ a.block ≠ S ∧ a.block ≠ b :=
  fun hne a e => by have := h.lt hne a e; omega
def IdealP (w0 : World) (g S D b lo : Nat) (w : World) (r : BSt × Option (List UInt8)) (e : Ending) (w' : World) : Prop :=
  ∃ A m c, e = .returned (.tuple #[.slice A m c, .int .i64 (if r.2.isSome then 0 else 15)]) ∧ RdB w' A (r.2.getD []) ∧ (r.2.getD []).length = m ∧ m ≤ c ∧ (∀ a, A = some a → w.heap.size ≤ a.block ∧ a.block < w'.heap.size) ∧ BoxB w0 g S D b lo r.1 w' ∧ BoxF g S b w w'
set_option maxRecDepth 100000 in
set_option maxHeartbeats 4000000 in
theorem ideal_any (w0 : World) (g S D b lo : Nat) (s : BSt) (w : World) (h : BoxB w0 g S D b lo s w) (e : Ent) (hk : e.key.length = 32) (A : Option Addr) (q c : Nat) (hq : e.text.length = q) (hc : q ≤ c) (hR : RdB w A e.text) (hO : e.text ≠ [] → ∀ a, A = some a → a.block ≠ g ∧ a.block ≠ S ∧ a.block ≠ b)
    (hq2 : q ≤ 60000) (hu : s.u + 8 * (q + 28) ≤ 900000) (hF : s.F.length ≤ 100000) (hm : s.m.length ≤ 10000) (hn : s.n ≤ 100000) (hlo : lo ≤ w.heap.size) :
    Calls Tryz.prog 68 #[.pointer (some ⟨g, 0, none⟩), .agg (WhoL e.key e.beside).toArray, .slice A q c] w (IdealP w0 g S D b lo w (idealL 8 s e)) := by
  have H := Lib.hid h
  have HK := Lib.hid hk
  have HQ := Lib.hid hq
  have HC := Lib.hid hc
  have HR := Lib.hid hR
  have HO := Lib.hid hO
  have Q2 := Lib.hid hq2
  have HU := Lib.hid hu
  have HF := Lib.hid hF
  have HM := Lib.hid hm
  have HN := Lib.hid hn
  have HL := Lib.hid hlo
  have qb : (q : Int) ≤ 60000 := by omega
  obtain ⟨cs, hcs⟩ : ∃ cs, cs = (WhoL e.key e.beside).toArray := ⟨_, rfl⟩
  have CE := Lib.hid hcs
  rw [← hcs]
  have Z := Lib.hid (show (Tryz.prog.info? 130).map (·.size) = some cs.size by rw [hcs, WhoL_size _ _ hk]; exact info_who)
  obtain ⟨X, hX⟩ : ∃ X, X = idealL 8 s e := ⟨_, rfl⟩
  have XE := Lib.hid hX.symm
  rw [← hX]
  clear h hk hq hc hR hO hq2 hu hF hm hn hlo hcs hX
  go_enter Tryz.func68, Tryz.ntmps68
  go_upto_region 1 with fail
  generalize hw1 : World.alloc w _ = w1
  have M1 := Lib.hid (show w1.heap[w.heap.size]? = some (.cells cs 130 (0, 0)) by rw [← hw1]; exact ha_new _ _ _ rfl)
  have B1 := Lib.hid (show Below w.heap.size w w1 by rw [← hw1]; exact below_new _ _)
  have S1 := Lib.hid (show w1.heap.size = w.heap.size + 1 by rw [← hw1, ha_size])
  clear hw1
  go_wp2_with fail
  go_loopw [9] (fun i wr => ∃ (t : Nat) (u : Nat), t ≤ 8 ∧ i = .int .i64 (t : Int) ∧ idealL (8 - t) { s with u := u } e = X ∧ u = s.u + t * (q + 28) ∧ BoxB w0 g S D b lo { s with u := u } wr ∧ BoxF g S b w1 wr) (fun i _ => 8 - (intOf i).toNat)
  case atStart => exact ⟨0, s.u, by omega, rfl, XE.out, by omega, H.out.keep B1.out, BoxF.refl _ _ _ _⟩
  case round =>
    obtain ⟨t, u, ht, rfl, hx, hu, hs, hf⟩ := hrel
    have T8 := Lib.hid ht
    have XR := Lib.hid hx
    have UE := Lib.hid hu
    have SB := Lib.hid hs
    have FR := Lib.hid hf
    clear ht hx hu hs hf
    by_cases h8 : t < 8
    · have hD : decide ((t : Int) < 8) = true := by simp; omega
      have T := Lib.hid h8
      have tb : (t : Int) ≤ 7 := by omega
      clear h8
      have HUB := Lib.hid (show u + (q + 28) ≤ 900000 ∧ u + (q + 28) = s.u + (t + 1) * (q + 28) by
        have h1 : (t + 1) * (q + 28) ≤ 8 * (q + 28) := Nat.mul_le_mul_right _ (by have := T.out; omega)
        have h2 := Nat.succ_mul t (q + 28)
        have h3 := UE.out
        have h4 := HU.out
        rw [Nat.succ_eq_add_one] at h2
        omega)
      have LT := Lib.hid (show g < w.heap.size ∧ S < w.heap.size ∧ b < w.heap.size from ⟨row_lt H.out.row, H.out.src.lt, H.out.map.lt⟩)
      go_wp2_with fail
      rw [show ((q : Int) + 28) = ((q + 28 : Nat) : Int) by omega]
      refine (bdraw_any w0 g S D b lo { s with u := u } wr SB.out (q + 28) (by have := Q2.out; omega) HUB.out.1 HF.out).mono ?_
      obtain ⟨x, hx⟩ : ∃ x, x = tellS s.F u (q + 28) := ⟨_, rfl⟩
      have XT := Lib.hid hx
      have XL := Lib.hid (show x.length = q + 28 by rw [hx, tellS_length])
      have XS := Lib.hid (show X = if knownM s.m x then idealL (8 - (t + 1)) { s with u := u + (q + 28) } e else ({ s with u := u + (q + 28), m := s.m ++ [(x, e)], n := s.n + 1 }, some x) by
        rw [← XR.out, show 8 - t = (8 - (t + 1)) + 1 by have := T.out; omega, idealL, hx, HQ.out])
      show ∀ _ _, _ → _
      simp only
      rw [← hx]
      rintro e2 w2 ⟨v, rfl, ho, hs, hg⟩
      obtain ⟨Ax, cx, rfl, hrx, hcx, _, hbx⟩ := ho.read
      rw [XL.out]
      have RX := Lib.hid hrx
      have BX := Lib.hid hbx
      have CX := Lib.hid (show q + 28 ≤ cx by rw [← XL.out]; exact hcx)
      have SB := Lib.hid (show BoxB w0 g S D b lo { s with u := u + (q + 28) } w2 from hs)
      have WR := Lib.hid (show w.heap.size ≤ wr.heap.size from Nat.le_trans B1.out.size FR.out.1)
      have FR := Lib.hid (FR.out.grown hg (by rintro k ⟨⟩; exact .inr (.inl rfl)))
      clear ho hs hg hrx hcx hbx hx
      go_wp2_with fail
      refine (known_any w0 g S D b lo { s with u := u + (q + 28) } w2 SB.out Ax (q + 28) cx x XL.out RX.out (by have := Q2.out; omega)).mono ?_
      rintro e2 w3 ⟨rfl, hb⟩
      have RX := Lib.hid (RX.out.keep hb)
      have SB := Lib.hid (SB.out.keep hb)
      have FR := Lib.hid (FR.out.below hb)
      have BX := Lib.hid (show ∀ a, Ax = some a → w.heap.size ≤ a.block ∧ a.block < w3.heap.size from fun a ea => ⟨Nat.le_trans WR.out (BX.out a ea).1, Nat.lt_of_lt_of_le (BX.out a ea).2 hb.size⟩)
      clear hb
      obtain ⟨β, hβ⟩ : ∃ β, β = knownM s.m x := ⟨_, rfl⟩
      simp only
      rw [← hβ]
      rw [← hβ] at XS
      have BE := Lib.hid hβ
      clear hβ
      cases β with
      | true =>
        have XN := Lib.hid (show idealL (8 - (t + 1)) { s with u := u + (q + 28) } e = X by rw [XS.out]; rfl)
        go_wp2_with fail
        go_roundw
        case rel => exact ⟨t + 1, u + (q + 28), by have := T.out; omega, by go_num, XN.out, HUB.out.2, SB.out, FR.out⟩
        case measure => have := T.out; simp [intOf]; omega
      | false =>
        have XN := Lib.hid (show X = ({ s with u := u + (q + 28), m := s.m ++ [(x, e)], n := s.n + 1 }, some x) by rw [XS.out]; rfl)
        go_upto_region 5 with fail
        have M3 := Lib.hid (show w3.heap[w.heap.size]? = some (.cells cs 130 (0, 0)) by
          rw [FR.out.2 w.heap.size (by have := S1.out; omega) (by have := LT.out.1; omega) (by have := LT.out.2.1; omega) (by have := LT.out.2.2; omega)]
          exact M1.out)
        have RT := Lib.hid (show RdB w3 A e.text from (HR.out.keep B1.out).boxF FR.out HO.out)
        have B := Lib.hid (show Below w3.heap.size w3 w3.drew from (Below.refl _ _).drew)
        have MD := Lib.hid (show w3.drew.heap[w.heap.size]? = some (.cells cs 130 (0, 0)) from M3.out)
        refine wp_region_road (fun W => W.heap[w.heap.size]? = some (.cells cs 130 (0, 0))) [(true, 0), (true, 1), (true, 2), (true, 3), (false, 4), (true, 5), (false, 6)] (by kernel_rfl) (by kernel_rfl) (fun _ _ d _ _ h => by cases d <;> exact h) ?_
        simp only [List.filterMap_cons, List.filterMap_nil, List.getElem?_toArray, List.getElem?_cons_zero, List.getElem?_cons_succ, Option.map_some]
        refine planG_q (v := ?_) (by rfl) (MD.out) ?_ ?_
        rotate_left
        · intro W hW
          go_simp
          with_reducible rfl
        simp only [Act.put, List.setIfInBounds_toArray, List.set_cons_zero, List.set_cons_succ]
        refine planG_q (v := ?_) (by rfl) (MD.out) ?_ ?_
        rotate_left
        · intro W hW
          go_simp
          with_reducible rfl
        simp only [Act.put, List.setIfInBounds_toArray, List.set_cons_zero, List.set_cons_succ]
        refine planG_q (by rfl) (MD.out) (fun W hW => run_load_row 130 (.tmp 4) rfl w.heap.size rfl 130 cs (0, 0) _ hW Tryz.underlying130 rfl Z.out) ?_
        simp only [Act.put, List.setIfInBounds_toArray, List.set_cons_zero, List.set_cons_succ]
        refine planG_q (v := ?_) (by rfl) (MD.out) ?_ ?_
        rotate_left
        · intro W hW
          go_simp
          with_reducible rfl
        simp only [Act.put, List.setIfInBounds_toArray, List.set_cons_zero, List.set_cons_succ]
        refine planG_t (by rfl) (fun K hK => ?_)
        go_simp
        refine (clone_any w3.drew A q c e.text HQ.out (RT.out.keep B.out) (by have := Q2.out; omega)).mono ?_
        rintro e2 w4 ⟨v, rfl, ho, hb⟩
        obtain ⟨Ac, cc, rfl, hrc, hcc, _, hbc⟩ := ho.read
        rw [HQ.out]
        have RC := Lib.hid hrc
        have CC := Lib.hid (show q ≤ cc by rw [← HQ.out]; exact hcc)
        have BC := Lib.hid (show ∀ a, Ac = some a → a.block < w4.heap.size ∧ lo ≤ a.block ∧ OfB w4 a.block from fun a ea => ⟨(hbc a ea).2, by have := (hbc a ea).1; have := B.out.size; have := HL.out; have := S1.out; have := FR.out.1; omega, ho.ofB a ea⟩)
        have B4 := Lib.hid (B.out.trans (hb.mono B.out.size))
        have M4 := Lib.hid (below_block B4.out (row_lt M3.out) M3.out)
        clear ho hb hrc hcc hbc
        refine hK.out _ _ (M4.out) ?_
        clear hK K
        refine planG_q (by rfl) (M4.out) (fun W hW => run_newent (.tmp 22) (.tmp 24) rfl e.key e.beside HK.out Ac q cc (by rw [← CE.out]; rfl) rfl W) ?_
        simp only [Act.put, List.setIfInBounds_toArray, List.set_cons_zero, List.set_cons_succ]
        have SB4 := Lib.hid (SB.out.keep B4.out)
        have FR4 := Lib.hid (FR.out.below B4.out)
        refine planG_t (by rfl) (fun K hK => ?_)
        go_simp
        refine (keep_any w0 g S D b lo { s with u := u + (q + 28) } w4 SB4.out Ax (q + 28) cx x XL.out (RX.out.keep B4.out) (by have := Q2.out; omega) e Ac q cc HQ.out RC.out HK.out CC.out BC.out (Nat.le_trans HM.out (by omega)) (Nat.lt_of_le_of_lt HN.out (by omega))).mono ?_
        rintro e2 w5 ⟨rfl, m', hm', hbx, w6, w7, hb6, hg7, hg5⟩
        have MN := Lib.hid (show m' = s.m ++ [(x, e)] by
          rcases hm' with ⟨_, h⟩ | ⟨j, e0, h, _⟩
          · exact h
          · exact absurd rfl (not_known BE.out.symm _ (List.mem_of_getElem? h)))
        have SB5 := Lib.hid (show BoxB w0 g S D b lo { s with u := u + (q + 28), m := s.m ++ [(x, e)], n := s.n + 1 } w5 by rw [← MN.out]; exact hbx)
        have FR5 := Lib.hid (((FR4.out.below hb6).grown hg7 (by rintro k ⟨⟩; exact .inr (.inr (.inl rfl)))).grown hg5 (by rintro k ⟨⟩; exact .inl rfl))
        have RX5 := Lib.hid (show RdB w5 Ax x from ((RX.out.keep B4.out).keep hb6).grown hg7 (fun k ek a ea => by cases ek; have := (BX.out a ea).1; have := LT.out.2.2; omega) |>.grown hg5 (fun k ek a ea => by cases ek; have := (BX.out a ea).1; have := LT.out.1; omega))
        have Z5 := Lib.hid (show w3.heap.size ≤ w5.heap.size from Nat.le_trans B4.out.size (Nat.le_trans hb6.size (Nat.le_trans hg7.size hg5.size)))
        have M5 := Lib.hid (show w5.heap[w.heap.size]? = some (.cells cs 130 (0, 0)) from grown_block hg5 (by intro ee; injection ee with ee; have := LT.out.1; omega) (grown_block hg7 (by intro ee; injection ee with ee; have := LT.out.2.2; omega) (below_block hb6 (row_lt M4.out) M4.out)))
        clear hm' hbx hb6 hg7 hg5
        refine hK.out _ _ (M5.out) ?_
        clear hK K
        refine planG_nil ?_
        go_wp2_with fail
        go_ret2
        rw [XN.out]
        exact ⟨Ax, q + 28, cx, rfl, RX5.out, XL.out, CX.out, fun a ea => ⟨(BX.out a ea).1, Nat.lt_of_lt_of_le (BX.out a ea).2 Z5.out⟩, SB5.out, ⟨Nat.le_trans B1.out.size FR5.out.1, fun k h1 h2 h3 h4 => (FR5.out.2 k (Nat.lt_of_lt_of_le h1 B1.out.size) h2 h3 h4).trans (B1.out.block k h1)⟩⟩
    · have hD : decide ((t : Int) < 8) = false := by simp; omega
      have N := Lib.hid (show X = ({ s with u := u }, none) by rw [← XR.out, show 8 - t = 0 by omega]; rfl)
      clear h8
      go_wp2_with fail
      go_ret2
      rw [N.out]
      exact ⟨none, 0, 0, rfl, RdB.nil _ _, rfl, Nat.le_refl _, fun a e => (by cases e), SB.out, ⟨Nat.le_trans B1.out.size FR.out.1, fun k h1 h2 h3 h4 => (FR.out.2 k (Nat.lt_of_lt_of_le h1 B1.out.size) h2 h3 h4).trans (B1.out.block k h1)⟩⟩
end Go.Proofs.YtlocplkjokoknaaGreat

/- box.New. No condition but those each theorem states. -/
namespace Go.Proofs.YtlocplkjokoknaaGreat
set_option linter.unusedVariables false
set_option linter.unusedSimpArgs false
open Go.RowKit
attribute [local go_sem ↓] Go.wp_at_zero Go.wp_at_succ

def NewP (w0 : World) (S D : Nat) (F : List UInt8) (u k : Nat) (w : World) (e : Ending) (w' : World) : Prop :=
  ∃ g b lo, e = .returned (.tuple #[.pointer (some ⟨g, 0, none⟩), .int .i64 0]) ∧ BoxB w0 g S D b lo ⟨k, F, u, [], 0⟩ w' ∧ Below w.heap.size w w' ∧ lo ≤ w'.heap.size
set_option maxRecDepth 100000 in
set_option maxHeartbeats 1000000 in
theorem bnew_any (w0 : World) (S D : Nat) (F : List UInt8) (u : Nat) (w : World) (h : SrcW w0 S D F u w) (k : Nat) (hk : k = 0 ∨ k = 1) :
    Calls Tryz.prog 5 #[.int .i64 (k : Int), .pointer (some ⟨S, 0, none⟩)] w (NewP w0 S D F u k w) := by
  have H := Lib.hid h
  have K := Lib.hid hk
  have hB : ∀ w1 : World, w1 = (w.alloc (.map #[] 0)).alloc (.cells #[.int .i64 (k : Int), .pointer (some ⟨S, 0, none⟩), .map (some w.heap.size), .int .i64 0] 80) → BoxB w0 (w.heap.size + 1) S D w.heap.size (w.heap.size + 2) ⟨k, F, u, [], 0⟩ w1 ∧ Below w.heap.size w w1 ∧ w.heap.size + 2 ≤ w1.heap.size := by
    rintro w1 rfl
    have hb : Below w.heap.size w ((w.alloc (.map #[] 0)).alloc (.cells #[.int .i64 (k : Int), .pointer (some ⟨S, 0, none⟩), .map (some w.heap.size), .int .i64 0] 80)) := (below_new _ _).trans ((below_new _ _).mono (by simp))
    have hS := H.out.ltg
    have hD := H.out.ltD
    have h0 := H.out.bel.size
    refine ⟨⟨H.out.bel.trans (hb.mono h0), by omega, H.out.hg, H.out.hD, h0, ha_new _ _ _ (by simp), H.out.src.keep hb, Nat.lt_of_lt_of_le hD hb.size, ⟨⟨#[], 0, ha_old _ _ _ (by simp) (ha_new _ _ _ rfl), Go.MapKept.stamped_empty 0, .nil⟩, fun p hp => by simp at hp, by omega⟩, by omega, by omega, by omega, by omega, by omega, by omega, by omega, by show 0 ≤ 1000000; omega⟩, hb, by simp [ha_size]⟩
  have BB := Lib.hid (hB _ rfl)
  clear h hk hB
  have hmk : ∀ W : World, (Instr.makeMap 78 none).run Tryz.prog W = .ok (.map (some W.heap.size)) (W.alloc (.map #[] 0)) := fun W => run_makeMap _ W
  rcases K.out with hk | hk
  · subst hk
    go_enter Tryz.func5, Tryz.ntmps5
    go_wp2_with fail
    go_ret2
    exact ⟨_, _, _, rfl, BB.out.1, BB.out.2⟩
  · subst hk
    go_enter Tryz.func5, Tryz.ntmps5
    go_wp2_with fail
    go_ret2
    exact ⟨_, _, _, rfl, BB.out.1, BB.out.2⟩
end Go.Proofs.YtlocplkjokoknaaGreat

/- box.Box: Seal, in the mode Ideal. No condition but those each theorem states. -/
namespace Go.Proofs.YtlocplkjokoknaaGreat
set_option linter.unusedVariables false
set_option linter.unusedSimpArgs false
open Go.RowKit
attribute [local go_sem ↓] Go.wp_at_zero Go.wp_at_succ

/-- By what a text is sealed, out of its parts. -/
theorem run_newwho {o : Oper} {a : Act} (x y : Operand) (ho : o.op = .build 130 #[(0, x), (1, y)]) (k bs : List UInt8) (hk : k.length = 32) (hx : a.eval x = .agg (W8 k)) (hy : a.eval y = .string (strB bs)) (W : World) :
    (execOp a.eval o).run Tryz.prog W = .ok (.value (.agg (WhoL k bs).toArray)) W := by
  match k, hk with
  | [k0, k1, k2, k3, k4, k5, k6, k7, k8, k9, k10, k11, k12, k13, k14, k15, k16, k17, k18, k19, k20, k21, k22, k23, k24, k25, k26, k27, k28, k29, k30, k31], _ =>
    have h2 : ∀ (s : ByteArray) (v0 v1 v2 v3 v4 v5 v6 v7 v8 v9 v10 v11 v12 v13 v14 v15 v16 v17 v18 v19 v20 v21 v22 v23 v24 v25 v26 v27 v28 v29 v30 v31 : Value) (W : World),
        (Instr.build 130 #[(0, .agg #[v0, v1, v2, v3, v4, v5, v6, v7, v8, v9, v10, v11, v12, v13, v14, v15, v16, v17, v18, v19, v20, v21, v22, v23, v24, v25, v26, v27, v28, v29, v30, v31]), (1, .string s)]).run Tryz.prog W = .ok (.agg #[v0, v1, v2, v3, v4, v5, v6, v7, v8, v9, v10, v11, v12, v13, v14, v15, v16, v17, v18, v19, v20, v21, v22, v23, v24, v25, v26, v27, v28, v29, v30, v31, .string s]) W := by
      intros
      kernel_rfl
    unfold execOp
    simp only [ho, List.map_toArray, List.map_cons, List.map_nil, hx, hy, Sem.run_bind, Sem.run_pure]
    simp only [WhoL, W8, B8, List.map_toArray, List.map_cons, List.map_nil, List.cons_append, List.nil_append, h2, Result.andThen_ok]
theorem WhoL_one (k bs : List UInt8) : (WhoL k bs).toArray.all (·.oneCell') = true := all_oneCell_toArray (by
  intro v hv
  simp only [WhoL, List.mem_append, B8, List.mem_map, List.mem_cons, List.mem_nil_iff, or_false] at hv
  rcases hv with ⟨x, _, rfl⟩ | rfl <;> rfl)
set_option maxRecDepth 100000 in
set_option maxHeartbeats 4000000 in
theorem bseal_ideal (w0 : World) (g S D b lo : Nat) (s : BSt) (w : World) (h : BoxB w0 g S D b lo s w) (hmo : s.mode = 1) (e : Ent) (hk : e.key.length = 32) (Ab : Option Addr) (qb cb : Nat) (hqb : e.beside.length = qb) (hRb : RdB w Ab e.beside) (hb2 : qb ≤ 60000)
    (A : Option Addr) (q c : Nat) (hq : e.text.length = q) (hc : q ≤ c) (hR : RdB w A e.text) (hO : e.text ≠ [] → ∀ a, A = some a → a.block ≠ g ∧ a.block ≠ S ∧ a.block ≠ b)
    (hq2 : q ≤ 60000) (hu : s.u + 8 * (q + 28) ≤ 900000) (hF : s.F.length ≤ 100000) (hm : s.m.length ≤ 10000) (hn : s.n ≤ 100000) (hlo : lo ≤ w.heap.size) :
    Calls Tryz.prog 48 #[.pointer (some ⟨g, 0, none⟩), .agg (W8 e.key), .slice Ab qb cb, .slice A q c] w (IdealP w0 g S D b lo w (idealL 8 s e)) := by
  have H := Lib.hid h
  have HK := Lib.hid hk
  have HB := Lib.hid hqb
  have RB := Lib.hid hRb
  have HQ := Lib.hid hq
  have HC := Lib.hid hc
  have HR := Lib.hid hR
  have HO := Lib.hid hO
  have Q2 := Lib.hid hq2
  have HU := Lib.hid hu
  have HF := Lib.hid hF
  have HM := Lib.hid hm
  have HN := Lib.hid hn
  have HL := Lib.hid hlo
  have MO := Lib.hid (show (s.mode : Int) = 1 by omega)
  have d1 : decide ((65536 : Int) < (q : Int)) = false := by simp; omega
  have d2 : decide ((65536 : Int) < (qb : Int)) = false := by simp; omega
  have d3 : decide (65536 < q) = false := by simp; omega
  have d4 : decide (65536 < qb) = false := by simp; omega
  obtain ⟨cs, hcs⟩ : ∃ cs, cs = (WhoL e.key e.beside).toArray := ⟨_, rfl⟩
  have CE := Lib.hid hcs
  have CO := Lib.hid (show cs.all (·.oneCell') = true by rw [hcs]; exact WhoL_one _ _)
  have CS := Lib.hid (show cs.size = 33 by rw [hcs, WhoL_size _ _ hk])
  have Z := Lib.hid (show (Tryz.prog.info? 130).map (·.size) = some cs.size by rw [CS.out]; exact info_who)
  have ZK := Lib.hid (show (Tryz.prog.info? 38).map (·.size) = some (W8 e.key).size by rw [W8_size, hk]; kernel_rfl)
  obtain ⟨r, hr⟩ : ∃ r, r = idealL 8 s e := ⟨_, rfl⟩
  have RH := Lib.hid hr
  rw [← hr]
  clear h hmo hk hqb hRb hb2 hq hc hR hO hq2 hu hF hm hn hlo hcs hr
  go_enter Tryz.func48, Tryz.ntmps48
  go_upto_region 1 with fail
  generalize hw1 : World.alloc w _ = w1
  have M1 := Lib.hid (show w1.heap[w.heap.size]? = some (.cells (W8 e.key) 38 (0, 0)) by rw [← hw1]; exact ha_new _ _ _ rfl)
  have B1 := Lib.hid (show Below w.heap.size w w1 by rw [← hw1]; exact below_new _ _)
  clear hw1
  go_wp2_with fail
  refine (bnone_any w0 g S D b lo s w1 (H.out.keep B1.out)).mono ?_
  rintro e2 wd ⟨rfl, hw⟩
  rw [hw]
  clear hw wd
  go_upto_region 6 with (first
    | (refine wpList_val rfl (run_load_row 38 (.tmp 5) rfl w.heap.size rfl 38 (W8 e.key) (0, 0) _ M1.out Tryz.underlying38 rfl ZK.out) ?_)
    | (refine wpList_val rfl (run_str 22 9 (.tmp 24) rfl Tryz.underlying22 Tryz.underlying5 Tryz.underlying9 (RB.out.keep B1.out) qb cb HB.out rfl) ?_)
    | (refine wpList_val rfl (show (execOp _ _).run _ _ = .ok (.value (.agg cs)) _ by rw [CE.out]; exact run_newwho (.tmp 23) (.tmp 25) rfl e.key e.beside HK.out rfl rfl _) ?_)
    | (refine wpList_store_new rfl rfl 130 (.tmp 10) (.tmp 26) rfl cs rfl rfl Z.out ?c1 CO.out ?_))
  case c1 => rw [CS.out]; rfl
  generalize hM : Array.size (World.heap w1) = M
  generalize hw2 : World.alloc w1 _ = w2
  have M2 := Lib.hid (show w2.heap[M]? = some (.cells cs 130 (0, 0)) by rw [← hw2]; exact ha_new _ _ _ hM.symm)
  have B2 := Lib.hid (show Below w.heap.size w w2 by rw [← hw2]; exact B1.out.alloc B1.out.size _)
  clear hM hw2
  have H2 := Lib.hid (H.out.keep B2.out)
  have c0 := row_cell H2.out.row 0 rfl
  rw [MO.out] at c0
  go_wp2_with (refine wpList_val rfl (run_load_row 130 (.tmp 10) rfl M rfl 130 cs (0, 0) _ M2.out Tryz.underlying130 rfl Z.out) ?_)
  rw [CE.out]
  refine (ideal_any w0 g S D b lo s w2 H2.out e HK.out A q c HQ.out HC.out (HR.out.keep B2.out) HO.out Q2.out HU.out HF.out HM.out HN.out (Nat.le_trans HL.out B2.out.size)).mono ?_
  rw [← RH.out]
  rintro e2 w3 ⟨A3, m3, c3, rfl, hr3, hl3, hc3, hb3, hx3, hf3⟩
  have R3 := Lib.hid hr3
  have L3 := Lib.hid hl3
  have C3 := Lib.hid hc3
  have BB3 := Lib.hid hb3
  have X3 := Lib.hid hx3
  have F3 := Lib.hid hf3
  clear hr3 hl3 hc3 hb3 hx3 hf3 c0
  obtain ⟨kk, hkk⟩ : ∃ kk : Int, kk = (if r.2.isSome then 0 else 15) := ⟨_, rfl⟩
  have KE := Lib.hid hkk
  rw [← hkk]
  clear hkk
  go_wp2_with fail
  go_ret2
  exact ⟨A3, m3, c3, by rw [← KE.out]; rfl, R3.out, L3.out, C3.out, fun a ea => ⟨Nat.le_trans B2.out.size (BB3.out a ea).1, (BB3.out a ea).2⟩, X3.out, ⟨Nat.le_trans B2.out.size F3.out.1, fun k h1 h2 h3 h4 => (F3.out.2 k (Nat.lt_of_lt_of_le h1 B2.out.size) h2 h3 h4).trans (B2.out.block k h1)⟩⟩
end Go.Proofs.YtlocplkjokoknaaGreat

/- aead: padded, count. No condition but those each theorem states. -/
namespace Go.Proofs.YtlocplkjokoknaaGreat
set_option linter.unusedVariables false
set_option linter.unusedSimpArgs false
open Go.RowKit
attribute [local go_sem ↓] Go.wp_at_zero Go.wp_at_succ

/-- Zeros up to a block's end. -/
def padB (l : List UInt8) : List UInt8 := l ++ List.replicate ((16 - l.length % 16) % 16) 0
theorem padB_length (l : List UInt8) : (padB l).length = l.length + (16 - l.length % 16) % 16 := by simp [padB]
theorem padB_app (a b : List UInt8) : padB (padB a ++ b) = padB a ++ padB b := by
  have h : (padB a ++ b).length % 16 = b.length % 16 := by rw [List.length_append, padB_length]; omega
  conv => lhs; unfold padB
  rw [show (padB a ++ b) = a ++ List.replicate ((16 - a.length % 16) % 16) 0 ++ b from rfl] at h
  rw [h, List.append_assoc]
  rfl
/-- A length's eight bytes, the lowest first. -/
def leL (k n : Nat) : List UInt8 := (List.range k).map fun i => UInt8.ofNat (n / 2 ^ (8 * i))
theorem leL_length (k n : Nat) : (leL k n).length = k := by simp [leL]
theorem leL_succ (k n : Nat) : leL (k + 1) n = leL k n ++ [UInt8.ofNat (n / 2 ^ (8 * k))] := by simp [leL, List.range_succ]
set_option maxRecDepth 100000 in
set_option maxHeartbeats 1000000 in
theorem padded_any (w : World) (base : Nat) (v : Value) (b : List UInt8) (A : Option Addr) (n c : Nat) (t : List UInt8) (hn : t.length = n) (ho : OwnB w base v b) (hbase : base ≤ w.heap.size) (hR : RdB w A t) (hl : b.length + n ≤ 200000) :
    Calls Tryz.prog 103 #[v, .slice A n c] w fun e w' => ∃ v', e = .returned v' ∧ OwnB w' base v' (padB (b ++ t)) ∧ Below base w w' := by
  have TB := Lib.hid (show ByteT Tryz.prog from ⟨Tryz.underlying22, by kernel_rfl⟩)
  have HN := Lib.hid hn
  have O := Lib.hid ho
  have HB := Lib.hid hbase
  have HR := Lib.hid hR
  have HL := Lib.hid hl
  clear hn ho hbase hR hl
  go_enter Tryz.func103, Tryz.ntmps103
  go_wp2_with (refine app_list rfl TB.out (.tmp 5) (.tmp 6) rfl base v b t A n c rfl rfl HN.out O.out HR.out HB.out (by have := HL.out; omega) ?_)
  intro v1 w1 ho hg _
  have S := Lib.hid (grown_below hg HB.out (fun k e => (O.out.lt k e).1))
  obtain ⟨L, hL⟩ : ∃ L, L = b ++ t := ⟨_, rfl⟩
  rw [← hL] at ho
  have LE := Lib.hid hL
  have LN := Lib.hid (show L.length ≤ 200000 by rw [hL, List.length_append, HN.out]; exact HL.out)
  have O1 := Lib.hid ho
  have B1 := Lib.hid (Nat.le_trans HB.out hg.size)
  clear ho hg hL O HR
  obtain ⟨P, hP⟩ : ∃ P, P = L.length + (16 - L.length % 16) % 16 := ⟨_, rfl⟩
  have PE := Lib.hid hP
  clear hP
  go_wp2_with fail
  go_loopw [0] (fun u wr => ∃ j : Nat, L.length + j ≤ P ∧ OwnB wr base u (L ++ List.replicate j 0) ∧ Below base w wr ∧ base ≤ wr.heap.size) (fun u _ => P - lenOf u)
  case atStart => exact ⟨0, by have := PE.out; omega, by simpa using O1.out, S.out, B1.out⟩
  case round =>
    obtain ⟨j, hj, ho, hb, hs⟩ := hrel
    have J := Lib.hid hj
    have O := Lib.hid ho
    have S := Lib.hid hb
    have SZ := Lib.hid hs
    obtain ⟨A2, c2, hu, _⟩ := ho.read
    have hlen : (L ++ List.replicate j 0).length = L.length + j := by simp
    rw [hlen] at hu
    obtain ⟨m, hm⟩ : ∃ m, m = L.length + j := ⟨_, rfl⟩
    rw [← hm] at hu hj
    have ME := Lib.hid hm
    have LL := Lib.hid (show (L ++ List.replicate j 0).length = m by rw [hlen, hm])
    have mb : (m : Int) ≤ 300000 := by have := PE.out; have := LN.out; omega
    rw [hu] at O ⊢
    have PM := Lib.hid hj
    clear hj ho hb hs hlen hm hu
    by_cases h16 : m % 16 = 0
    · have e1 : (((m : Int) % 16) == 0) = true := by simp; omega
      have e2 : (((m : Int) % 16) != 0) = false := by simp; omega
      have hD : decide ((m : Int) % 16 = 0) = true := by simp; omega
      have JE := Lib.hid (show j = (16 - L.length % 16) % 16 by have := PE.out; have := ME.out; have := J.out; omega)
      clear h16
      go_wp2_with fail
      go_ret
      refine ⟨_, rfl, ?_, S.out⟩
      have := O.out
      rw [JE.out] at this
      rw [← LE.out]
      exact this
    · have e1 : (((m : Int) % 16) == 0) = false := by simp; omega
      have e2 : (((m : Int) % 16) != 0) = true := by simp; omega
      have hD : decide ((m : Int) % 16 = 0) = false := by simp; omega
      have MP := Lib.hid (show m < P by have := PE.out; have := ME.out; have := PM.out; omega)
      clear h16
      go_wp2_with (refine app_list rfl TB.out (.tmp 12) (.tmp 13) rfl base _ (L ++ List.replicate j 0) [0] (some ⟨wr.heap.size, 0, none⟩) 1 1 rfl rfl rfl (O.out.alloc _) (RdB.one (y := 0) (row_cell (fr := (0, 0)) (ha_new wr _ _ rfl) 0 rfl)) ?c1 ?c2 ?_)
      case c1 => have := SZ.out; rw [ha_size]; omega
      case c2 => have := LL.out; have := MP.out; have := PE.out; have := LN.out; omega
      intro v2 w2 ho hg _
      have B2 : Below base w (wr.alloc (.cells #[.int .u8 0] 5)) := S.out.alloc SZ.out _
      have S2 := Lib.hid (B2.trans (grown_below hg (by rw [ha_size]; have := SZ.out; omega) (fun k e => (O.out.lt k e).1)))
      have SZ2 := Lib.hid (show base ≤ w2.heap.size by have := hg.size; rw [ha_size] at this; have := SZ.out; omega)
      have O2 := Lib.hid (show OwnB w2 base v2 (L ++ List.replicate (j + 1) 0) by rw [List.replicate_succ']; exact ho)
      have VL := Lib.hid (show lenOf v2 = m + 1 by
        obtain ⟨A3, c3, e3, _⟩ := O2.out.read
        rw [e3]
        show (L ++ List.replicate (j + 1) 0).length = m + 1
        have := LL.out
        simp at this ⊢
        omega)
      clear ho hg B2
      go_wp2_with fail
      go_roundw
      case rel => exact ⟨j + 1, by have := MP.out; have := ME.out; omega, O2.out, S2.out, SZ2.out⟩
      case measure => rw [VL.out]; show P - (m + 1) < P - m; have := MP.out; omega
theorem le_byte_ex (n r : Nat) (hn : n ≤ 1000000) : ∃ z : UInt8, Hid (z = UInt8.ofNat (n / 2 ^ (8 * r))) ∧ IntKind.u8.wrap ((n : Int) / 2 ^ (8 * r)) = (z.toNat : Int) := by
  refine ⟨_, rfl, ?_⟩
  rw [IntKind.wrap_u8]
  have : ((n : Int) / 2 ^ (8 * r)) = ((n / 2 ^ (8 * r) : Nat) : Int) := by
    rw [Int.natCast_ediv, Int.natCast_pow]; rfl
  rw [this]
  simp
set_option maxRecDepth 100000 in
set_option maxHeartbeats 1000000 in
theorem count_any (w : World) (base : Nat) (v : Value) (b : List UInt8) (ho : OwnB w base v b) (hbase : base ≤ w.heap.size) (n : Nat) (hn : n ≤ 1000000) (hl : b.length ≤ 1000000) :
    Calls Tryz.prog 105 #[v, .int .i64 (n : Int)] w fun e w' => ∃ v', e = .returned v' ∧ OwnB w' base v' (b ++ leL 8 n) ∧ Below base w w' := by
  have TB := Lib.hid (show ByteT Tryz.prog from ⟨Tryz.underlying22, by kernel_rfl⟩)
  have O := Lib.hid ho
  have HB := Lib.hid hbase
  have HN := Lib.hid hn
  have HL := Lib.hid hl
  have nb : (n : Int) ≤ 1000000 := by omega
  have e0 : IntKind.u64.wrap (n : Int) = (n : Int) := by rw [IntKind.wrap_u64]; omega
  clear ho hbase hn hl
  go_enter Tryz.func105, Tryz.ntmps105
  go_wp2_with fail
  go_loopw [0, 6] (fun u i wr => ∃ r : Nat, r ≤ 8 ∧ i = .int .i64 (r : Int) ∧ OwnB wr base u (b ++ leL r n) ∧ Below base w wr ∧ base ≤ wr.heap.size) (fun _ i _ => 8 - (intOf i).toNat)
  case atStart => exact ⟨0, by omega, rfl, by simpa [leL] using O.out, Below.refl _ _, HB.out⟩
  case round =>
    obtain ⟨r, hr, rfl, ho, hb, hs⟩ := hrel
    have R := Lib.hid hr
    have O := Lib.hid ho
    have S := Lib.hid hb
    have SZ := Lib.hid hs
    clear hr ho hb hs
    by_cases hlt : r < 8
    · have hD : decide ((r : Int) < 8) = true := by simp; omega
      have R8 := Lib.hid hlt
      have e2 : 8 * (r : Int) ≤ 64 := by omega
      have e4 : (8 * (r : Int)).toNat = 8 * r := by omega
      obtain ⟨z, hz, e3⟩ := le_byte_ex n r HN.out
      have LL := Lib.hid (show (b ++ leL r n).length ≤ 1000008 by rw [List.length_append, leL_length]; have := HL.out; omega)
      clear hlt
      go_wp2_with (refine app_list rfl TB.out (.tmp 9) (.tmp 16) rfl base u0 (b ++ leL r n) [z] (some ⟨wr.heap.size, 0, none⟩) 1 1 rfl rfl rfl (O.out.alloc _) (RdB.one (row_cell (fr := (0, 0)) (ha_new wr _ _ rfl) 0 rfl)) ?c1 ?c2 ?_)
      case c1 => have := SZ.out; rw [ha_size]; omega
      case c2 => have := LL.out; omega
      intro v2 w2 ho hg _
      have B2 : Below base w (wr.alloc (.cells #[.int .u8 (z.toNat : Int)] 5)) := S.out.alloc SZ.out _
      have S2 := Lib.hid (B2.trans (grown_below hg (by rw [ha_size]; have := SZ.out; omega) (fun k e => (O.out.lt k e).1)))
      have SZ2 := Lib.hid (show base ≤ w2.heap.size by have := hg.size; rw [ha_size] at this; have := SZ.out; omega)
      have O2 := Lib.hid (show OwnB w2 base v2 (b ++ leL (r + 1) n) by rw [leL_succ, ← hz.out]; exact ho)
      clear ho hg B2 hD
      go_wp2_with fail
      go_roundw
      case rel => exact ⟨r + 1, by have := R8.out; omega, by go_num, O2.out, S2.out, SZ2.out⟩
      case measure => have := R8.out; simp [intOf]; omega
    · have hD : decide ((r : Int) < 8) = false := by simp; omega
      have RE := Lib.hid (show r = 8 by have := R.out; omega)
      go_wp2_with fail
      go_ret
      exact ⟨_, rfl, by have := O.out; rwa [RE.out] at this, S.out⟩
end Go.Proofs.YtlocplkjokoknaaGreat

/- The rounds of a block: what mix, quarter, double do to a state of sixteen words that lies in memory. -/
namespace Go.Proofs.YtlocplkjokoknaaGreat
set_option linter.unusedVariables false
set_option linter.unusedSimpArgs false
open Go.RowKit

/-- Half a quarter round. -/
def mixL (l : List UInt32) (a b c d f s : Nat) : List UInt32 :=
  let l1 := l.set a (l.getD a 0 + l.getD b 0)
  let l2 := l1.set d (rotl (l1.getD d 0 ^^^ l1.getD a 0) f)
  let l3 := l2.set c (l2.getD c 0 + l2.getD d 0)
  l3.set b (rotl (l3.getD b 0 ^^^ l3.getD c 0) s)
theorem mixL_length (l : List UInt32) (a b c d f s : Nat) : (mixL l a b c d f s).length = l.length := by simp [mixL]

/-- What is known of a world in which only block g was written, and which holds l there. -/
def StOK (w : World) (g : Nat) (l : List UInt32) (W : World) : Prop := W.heap[g]? = some (.cells (W32 l) 219 (0, 0)) ∧ w.grownBy W (some g)
theorem StOK.cell {w W : World} {g : Nat} {l : List UInt32} (h : StOK w g l W) (i : Nat) (hi : i < l.length) : W.cell? ⟨g, i, none⟩ = some (.int .u32 ((l.getD i 0).toNat : Int)) := row_cell h.1 i (W32_get l i hi)
theorem StOK.pick {w W : World} {g : Nat} {l : List UInt32} (h : StOK w g l W) (i : Nat) (hi : i < l.length) : ∃ x : UInt32, Hid (x = l.getD i 0) ∧ W.cell? ⟨g, i, none⟩ = some (.int .u32 (x.toNat : Int)) := ⟨_, rfl, h.cell i hi⟩
theorem StOK.free {w W : World} {g : Nat} {l : List UInt32} (h : StOK w g l W) (i : Nat) : W.frozen? ⟨g, i, none⟩ = false := row_free h.1 i
theorem StOK.set {w W : World} {g : Nat} {l : List UInt32} (h : StOK w g l W) (i : Nat) (x : UInt32) (v : Int) (hv : v = (x.toNat : Int)) : StOK w g (l.set i x) (W.setCell ⟨g, i, none⟩ (.int .u32 v)) := by
  subst hv
  exact ⟨by rw [heap_setCell_same _ _ _ _ _ _ h.1, W32_set], grown_set h.2 _ _⟩
theorem StOK.drew {w W : World} {g : Nat} {l : List UInt32} (h : StOK w g l W) : StOK w g l W.drew := ⟨h.1, grown_drew h.2⟩
theorem StOK.refl {w : World} {g : Nat} {l : List UInt32} (h : w.heap[g]? = some (.cells (W32 l) 219 (0, 0))) : StOK w g l w := ⟨h, World.grownBy.refl _ _⟩
theorem StOK.trans {w W W' : World} {g : Nat} {l l' : List UInt32} (h : StOK w g l W) (h' : StOK W g l' W') : StOK w g l' W' := ⟨h'.1, World.grownBy.trans h.2 h'.2⟩

set_option maxRecDepth 100000 in
theorem mix_any (g : Nat) (l : List UInt32) (hl : l.length = 16) (w : World) (H : StOK w g l w) (a b c d f s : Nat) (ha : (a : Int) < 16) (hb : (b : Int) < 16) (hc : (c : Int) < 16) (hd : (d : Int) < 16)
    (hf : (f : Int) < 32) (hf0 : (0 : Int) < f) (hkf : bits .and .u64 (IntKind.u64.wrap (f : Int)) 31 = (f : Int)) (hs : (s : Int) < 32) (hs0 : (0 : Int) < s) (hks : bits .and .u64 (IntKind.u64.wrap (s : Int)) 31 = (s : Int)) :
    Calls Tryz.prog 138 #[.pointer (some ⟨g, 0, none⟩), .int .i64 (a : Int), .int .i64 (b : Int), .int .i64 (c : Int), .int .i64 (d : Int), .int .i64 (f : Int), .int .i64 (s : Int)] w fun e w' =>
      e = .returned (.tuple #[]) ∧ StOK w g (mixL l a b c d f s) w' := by
  have HL := Lib.hid hl
  have K1 := Lib.hid hkf
  have K2 := Lib.hid hks
  have H0 := Lib.hid H
  obtain ⟨x, hx, a1⟩ := H.pick a (by omega)
  obtain ⟨y, hy, a2⟩ := H.pick b (by omega)
  have a3 := H.free a
  clear hkf hks H hl
  go_enter Tryz.func138, Tryz.ntmps138
  go_wp2
  go_region
  go_wp2
  clear a1 a2 a3
  refine wp_abs (fun W => StOK w g (l.set a (l.getD a 0 + l.getD b 0)) W) ((H0.out.set a _ _ (by rw [← hx.out, ← hy.out]; exact u32_add _ _)).drew) ?_
  clear hx hy
  generalize hl1 : l.set a (l.getD a 0 + l.getD b 0) = l1
  have HL1 := Lib.hid hl1
  have N1 := Lib.hid (show l1.length = 16 by rw [← hl1]; simpa using HL.out)
  clear hl1
  rintro w1 H1'
  have H1 := Lib.hid H1'
  obtain ⟨x1, hx, a1⟩ := H1'.pick d (by have := N1.out; omega)
  obtain ⟨y1, hy, a2⟩ := H1'.pick a (by have := N1.out; omega)
  have a3 := H1'.free d
  clear H1'
  obtain ⟨z1, hz, X⟩ := u32_xor_ex x1 y1
  go_still_tail 17, (by kernel_rfl)
  still_call (rot_any _ _ _ f hf hf0 K1.out)
  repeat still_step
  refine wpStill_nil ?_
  change wpList _ _ _ _ _ w1.drew
  go_wp2
  clear a1 a2 a3 X
  refine wp_abs (fun W => StOK w g (l1.set d (rotl (l1.getD d 0 ^^^ l1.getD a 0) f)) W) (by rw [← hx.out, ← hy.out, ← hz.out]; exact (H1.out.set d _ _ rfl).drew) ?_
  clear hx hy hz
  generalize hl2 : l1.set d (rotl (l1.getD d 0 ^^^ l1.getD a 0) f) = l2
  have HL2 := Lib.hid hl2
  have N2 := Lib.hid (show l2.length = 16 by rw [← hl2]; simpa using N1.out)
  clear hl2
  rintro w2 H2'
  have H2 := Lib.hid H2'
  obtain ⟨x2, hx, a1⟩ := H2'.pick c (by have := N2.out; omega)
  obtain ⟨y2, hy, a2⟩ := H2'.pick d (by have := N2.out; omega)
  have a3 := H2'.free c
  clear H2'
  go_region
  go_wp2
  clear a1 a2 a3
  refine wp_abs (fun W => StOK w g (l2.set c (l2.getD c 0 + l2.getD d 0)) W) ((H2.out.set c _ _ (by rw [← hx.out, ← hy.out]; exact u32_add _ _)).drew) ?_
  clear hx hy
  generalize hl3 : l2.set c (l2.getD c 0 + l2.getD d 0) = l3
  have HL3 := Lib.hid hl3
  have N3 := Lib.hid (show l3.length = 16 by rw [← hl3]; simpa using N2.out)
  clear hl3
  rintro w3 H3'
  have H3 := Lib.hid H3'
  obtain ⟨x3, hx, a1⟩ := H3'.pick b (by have := N3.out; omega)
  obtain ⟨y3, hy, a2⟩ := H3'.pick c (by have := N3.out; omega)
  have a3 := H3'.free b
  clear H3'
  obtain ⟨z3, hz, X⟩ := u32_xor_ex x3 y3
  go_still_tail 17, (by kernel_rfl)
  still_call (rot_any _ _ _ s hs hs0 K2.out)
  repeat still_step
  refine wpStill_nil ?_
  change wpList _ _ _ _ _ w3.drew
  go_wp2
  go_end0
  refine ⟨rfl, ?_⟩
  have F : StOK w g (l3.set b (rotl (l3.getD b 0 ^^^ l3.getD c 0) s)) (w3.setCell ⟨g, b, none⟩ (.int .u32 ((rotl z3 s).toNat : Int))).drew := by rw [← hx.out, ← hy.out, ← hz.out]; exact (H3.out.set b _ _ rfl).drew
  have E : l3.set b (rotl (l3.getD b 0 ^^^ l3.getD c 0) s) = mixL l a b c d f s := by
    rw [← HL3.out, ← HL2.out, ← HL1.out]; rfl
  rw [← E]; exact F
end Go.Proofs.YtlocplkjokoknaaGreat

/- A quarter round, and a double round, of the sixteen words that lie in memory. -/
namespace Go.Proofs.YtlocplkjokoknaaGreat
set_option linter.unusedVariables false
set_option linter.unusedSimpArgs false
open Go.RowKit

def quarterL (l : List UInt32) (a b c d : Nat) : List UInt32 := mixL (mixL l a b c d 16 12) a b c d 8 7
theorem quarterL_length (l : List UInt32) (a b c d : Nat) : (quarterL l a b c d).length = l.length := by simp [quarterL, mixL_length]
def stepL (l : List UInt32) (y i : Nat) : List UInt32 := quarterL l i (4 + (i + y) % 4) (8 + (i + 2 * y) % 4) (12 + (i + 3 * y) % 4)
/-- The first k quarter rounds of a double round. -/
def dblK (l : List UInt32) : Nat → List UInt32
  | 0 => l
  | k + 1 => stepL (dblK l k) (k / 4) (k % 4)
theorem dblK_length (l : List UInt32) (k : Nat) : (dblK l k).length = l.length := by
  induction k with
  | zero => rfl
  | succ k ih => rw [dblK, stepL, quarterL_length, ih]

set_option maxRecDepth 100000 in
theorem quarter_nat (g : Nat) (l : List UInt32) (hl : l.length = 16) (w : World) (H : StOK w g l w) (a b c d : Nat) (ha : (a : Int) < 16) (hb : (b : Int) < 16) (hc : (c : Int) < 16) (hd : (d : Int) < 16) :
    Calls Tryz.prog 134 #[.pointer (some ⟨g, 0, none⟩), .int .i64 (a : Int), .int .i64 (b : Int), .int .i64 (c : Int), .int .i64 (d : Int)] w fun e w' =>
      e = .returned (.tuple #[]) ∧ StOK w g (quarterL l a b c d) w' := by
  have C1 := mix_any g l hl w H a b c d 16 12 ha hb hc hd (by decide) (by decide) (by decide) (by decide) (by decide) (by decide)
  have HL := Lib.hid hl
  have H0 := Lib.hid H
  have K1 := Lib.hid C1
  clear hl H C1
  go_enter Tryz.func134, Tryz.ntmps134
  go_wp2_with fail
  refine K1.out.mono ?_
  rintro e w1 ⟨rfl, H1'⟩
  have H1 := Lib.hid H1'
  clear H1'
  go_wp2_with fail
  refine (mix_any g (mixL l a b c d 16 12) (by rw [mixL_length]; exact HL.out) _ (StOK.refl H1.out.1) a b c d 8 7 ha hb hc hd (by decide) (by decide) (by decide) (by decide) (by decide) (by decide)).mono ?_
  rintro e w2 ⟨rfl, H2'⟩
  have H2 := Lib.hid H2'
  clear H2'
  go_wp2_with fail
  go_end0
  exact ⟨rfl, H1.out.trans H2.out⟩

theorem quarter_any (g : Nat) (l : List UInt32) (hl : l.length = 16) (w : World) (H : StOK w g l w) (a b c d : Int) (ha : 0 ≤ a ∧ a < 16) (hb : 0 ≤ b ∧ b < 16) (hc : 0 ≤ c ∧ c < 16) (hd : 0 ≤ d ∧ d < 16) :
    Calls Tryz.prog 134 #[.pointer (some ⟨g, 0, none⟩), .int .i64 a, .int .i64 b, .int .i64 c, .int .i64 d] w fun e w' =>
      e = .returned (.tuple #[]) ∧ StOK w g (quarterL l a.toNat b.toNat c.toNat d.toNat) w' := by
  obtain ⟨a, rfl⟩ := Int.eq_ofNat_of_zero_le ha.1
  obtain ⟨b, rfl⟩ := Int.eq_ofNat_of_zero_le hb.1
  obtain ⟨c, rfl⟩ := Int.eq_ofNat_of_zero_le hc.1
  obtain ⟨d, rfl⟩ := Int.eq_ofNat_of_zero_le hd.1
  exact quarter_nat g l hl w H a b c d ha.2 hb.2 hc.2 hd.2

theorem row_any (r i y : Int) (hr : 0 ≤ r ∧ r < 4) (hi : 0 ≤ i ∧ i < 4) (hy : 0 ≤ y ∧ y < 8) (w : World) :
    Calls Tryz.prog 135 #[.int .i64 r, .int .i64 i, .int .i64 y] w fun e w' => e = .returned (.int .i64 (4 * r + (i + y) % 4)) ∧ w = w' := by
  go_enter Tryz.func135, Tryz.ntmps135
  go_wp2
  go_ret
  exact ⟨rfl, rfl⟩

set_option maxRecDepth 100000 in
theorem double_any (g : Nat) (l : List UInt32) (hl : l.length = 16) (w : World) (H : StOK w g l w) :
    Calls Tryz.prog 120 #[.pointer (some ⟨g, 0, none⟩)] w fun e w' => e = .returned (.tuple #[]) ∧ StOK w g (dblK l 8) w' := by
  have HL := Lib.hid hl
  have H0 := Lib.hid H
  clear hl H
  go_enter Tryz.func120, Tryz.ntmps120
  go_wp2
  go_loopw [4] (fun i wr => ∃ y : Nat, y ≤ 2 ∧ i = .int .i64 (y : Int) ∧ StOK w g (dblK l (4 * y)) wr) (fun i _ => 2 - (intOf i).toNat)
  case atStart => exact ⟨0, by omega, rfl, H0.out⟩
  case round =>
    obtain ⟨y, hy, rfl, H1'⟩ := hrel
    have H1 := Lib.hid H1'
    clear H1' H0
    by_cases hlt : y < 2
    · obtain ⟨wo, rfl⟩ : ∃ wo : World, wo = wr := ⟨_, rfl⟩
      have hD : decide ((y : Int) < 2) = true := by simp; omega
      go_wp2_with fail
      go_loopw [7] (fun i wr => ∃ j : Nat, j ≤ 4 ∧ i = .int .i64 (j : Int) ∧ StOK w g (dblK l (4 * y + j)) wr) (fun i _ => 4 - (intOf i).toNat)
      case atStart => exact ⟨0, by omega, rfl, H1.out⟩
      case round =>
        obtain ⟨j, hj, rfl, H2'⟩ := hrel
        have H2 := Lib.hid H2'
        clear H2' H1
        by_cases hlt2 : j < 4
        · go_wp2_with fail
          refine (row_any _ _ _ (by omega) (by omega) (by omega) _).mono ?_
          rintro e w1 ⟨rfl, rfl⟩
          go_wp2_with fail
          refine (row_any _ _ _ (by omega) (by omega) (by omega) _).mono ?_
          rintro e w1 ⟨rfl, rfl⟩
          go_wp2_with fail
          refine (row_any _ _ _ (by omega) (by omega) (by omega) _).mono ?_
          rintro e w1 ⟨rfl, rfl⟩
          go_wp2_with fail
          refine (quarter_any g (dblK l (4 * y + j)) (by rw [dblK_length]; exact HL.out) _ (StOK.refl H2.out.1) _ _ _ _ (by omega) (by omega) (by omega) (by omega)).mono ?_
          rintro e w1 ⟨rfl, H3'⟩
          have H3 := Lib.hid (H2.out.trans H3')
          clear H3'
          go_wp2_with fail
          go_roundw
          case rel =>
            refine ⟨j + 1, by omega, by go_num, ?_⟩
            have := H3.out
            rw [show 4 * y + (j + 1) = 4 * y + j + 1 by omega, dblK, stepL, show (4 * y + j) / 4 = y by omega, show (4 * y + j) % 4 = j by omega]
            rw [show ((j : Int)).toNat = j by omega, show (4 + ((j : Int) + (y : Int)) % 4).toNat = 4 + (j + y) % 4 by omega, show (8 + ((j : Int) + 2 * (y : Int)) % 4).toNat = 8 + (j + 2 * y) % 4 by omega, show (12 + ((j : Int) + 3 * (y : Int)) % 4).toNat = 12 + (j + 3 * y) % 4 by omega] at this
            exact this
          case measure => simp [intOf]; omega
        · have hj4 : j = 4 := by omega
          subst hj4
          go_wp2_with fail
          go_roundw
          case rel => exact ⟨y + 1, by omega, by go_num, by have := H2.out; rw [show 4 * (y + 1) = 4 * y + 4 by omega]; exact this⟩
          case measure => simp [intOf]; omega
    · have hy2 : y = 2 := by omega
      subst hy2
      go_wp2_with fail
      go_end0
      exact ⟨rfl, H1.out⟩
end Go.Proofs.YtlocplkjokoknaaGreat

/- Bytes are laid into the words of a state. -/
namespace Go.Proofs.YtlocplkjokoknaaGreat
set_option linter.unusedVariables false
set_option linter.unusedSimpArgs false
open Go.RowKit

def loadK (l : List UInt32) (p : Nat) (bs : List UInt8) : Nat → List UInt32
  | 0 => l
  | k + 1 => (loadK l p bs k).set (p + k / 4) ((loadK l p bs k).getD (p + k / 4) 0 ||| (bs.getD k 0).toUInt32 <<< (UInt32.ofNat (8 * (k % 4))))
theorem loadK_length (l : List UInt32) (p : Nat) (bs : List UInt8) (k : Nat) : (loadK l p bs k).length = l.length := by
  induction k with
  | zero => rfl
  | succ k ih => simp [loadK, ih]

theorem load_word (x : UInt32) (y : UInt8) (n : Nat) (hn : n < 32) :
    bits .or .u32 (x.toNat : Int) ((y.toNat : Int) * 2 ^ n % 4294967296) = ((x ||| y.toUInt32 <<< (UInt32.ofNat n)).toNat : Int) := by
  have h1 : (y.toNat : Int) * 2 ^ n % 4294967296 = ((y.toNat * 2 ^ n % 4294967296 : Nat) : Int) := by
    rw [Int.natCast_emod, Int.natCast_mul, Int.natCast_pow]; rfl
  have e1 : (UInt32.ofNat n).toNat = n := by simp; omega
  rw [h1, u32_or_nat _ _ x.toNat_lt (by omega), UInt32.toNat_or, UInt32.toNat_shiftLeft, e1, Nat.mod_eq_of_lt hn, Nat.shiftLeft_eq, UInt8.toNat_toUInt32]

set_option maxRecDepth 100000 in
theorem load_any (g : Nat) (l : List UInt32) (hl : l.length = 16) (w : World) (H : StOK w g l w) (p : Nat) (A : Option Addr) (bs : List UInt8) (c : Nat) (hR : RdB w A bs) (hoff : Off A g) (hp : p * 4 + bs.length ≤ 64) :
    Calls Tryz.prog 119 #[.pointer (some ⟨g, 0, none⟩), .int .i64 (p : Int), .slice A bs.length c] w fun e w' => e = .returned (.tuple #[]) ∧ StOK w g (loadK l p bs bs.length) w' := by
  have HL := Lib.hid hl
  have H0 := Lib.hid H
  have HR := Lib.hid hR
  have HO := Lib.hid hoff
  clear hl H hR hoff
  go_enter Tryz.func119, Tryz.ntmps119
  go_wp2
  go_loopw [10] (fun i wr => ∃ k : Nat, k ≤ bs.length ∧ i = .int .i64 (k : Int) ∧ StOK w g (loadK l p bs k) wr) (fun i _ => bs.length - (intOf i).toNat)
  case atStart => exact ⟨0, by omega, rfl, H0.out⟩
  case round =>
    obtain ⟨k, hk, rfl, H1'⟩ := hrel
    have H1 := Lib.hid H1'
    clear H1'
    by_cases hlt : k < bs.length
    · obtain ⟨b, o, rfl, y, hy, a1⟩ := (HR.out.grown H1.out.2 (fun _ e => by cases e; exact HO.out)).get k hlt
      obtain ⟨x, hx, a2⟩ := H1.out.pick (p + k / 4) (by rw [loadK_length, HL.out]; omega)
      have a3 := H1.out.free (p + k / 4)
      have hb8 := u8_lt y
      go_wp2
      go_region
      go_wp2
      go_roundw
      case rel =>
        refine ⟨k + 1, by omega, by go_num, ?_⟩
        rw [load_word x y (8 * (k % 4)) (by omega)]
        refine (H1.out.set (p + k / 4) _ _ ?_).drew
        rw [← hx.out, ← hy.out]
      case measure => simp [intOf]; omega
    · have hk' : k = bs.length := by omega
      subst hk'
      go_wp2
      go_end0
      exact ⟨rfl, H1.out⟩

theorem load_len (g : Nat) (l : List UInt32) (hl : l.length = 16) (w : World) (H : StOK w g l w) (p : Nat) (A : Option Addr) (bs : List UInt8) (n c : Nat) (hn : bs.length = n) (hR : RdB w A bs) (hoff : Off A g) (hp : p * 4 + n ≤ 64) :
    Calls Tryz.prog 119 #[.pointer (some ⟨g, 0, none⟩), .int .i64 (p : Int), .slice A n c] w fun e w' => e = .returned (.tuple #[]) ∧ StOK w g (loadK l p bs n) w' := by
  subst hn
  exact load_any g l hl w H p A bs c hR hoff hp
end Go.Proofs.YtlocplkjokoknaaGreat

/- A block of the key's bytes. -/
namespace Go.Proofs.YtlocplkjokoknaaGreat
set_option linter.unusedVariables false
set_option linter.unusedSimpArgs false
open Go.RowKit

def dblN (l : List UInt32) : Nat → List UInt32
  | 0 => l
  | k + 1 => dblK (dblN l k) 8
theorem dblN_length (l : List UInt32) (k : Nat) : (dblN l k).length = l.length := by
  induction k with
  | zero => rfl
  | succ k ih => rw [dblN, dblK_length, ih]
def headL : List UInt32 := [0x61707865, 0x3320646e, 0x79622d32, 0x6b206574, 0, 0, 0, 0, 0, 0, 0, 0, 0, 0, 0, 0]
def initL (k n : List UInt8) (count : UInt32) : List UInt32 := (loadK (loadK headL 4 k 32) 13 n 12).set 12 count
theorem initL_length (k n : List UInt8) (count : UInt32) : (initL k n count).length = 16 := by simp [initL, loadK_length, headL]
def byteOf (v s : List UInt32) (i : Nat) : UInt8 := ((v.getD (i / 4) 0 + s.getD (i / 4) 0) >>> (UInt32.ofNat (8 * (i % 4)))).toUInt8
def outK (v s : List UInt32) : Nat → List UInt8
  | 0 => List.replicate 64 0
  | i + 1 => (outK v s i).set i (byteOf v s i)
theorem outK_length (v s : List UInt32) (i : Nat) : (outK v s i).length = 64 := by
  induction i with
  | zero => simp [outK]
  | succ i ih => simp [outK, ih]
/-- The block. -/
def blockL (k n : List UInt8) (count : UInt32) : List UInt8 := outK (dblN (initL k n count) 10) (initL k n count) 64
theorem blockL_length (k n : List UInt8) (count : UInt32) : (blockL k n count).length = 64 := outK_length _ _ _

theorem sum_ex (x y : UInt32) : ∃ z : UInt32, Hid (z = x + y) ∧ IntKind.u32.wrap ((x.toNat : Int) + (y.toNat : Int)) = (z.toNat : Int) := ⟨_, rfl, by rw [IntKind.wrap_u32, u32_add]⟩
theorem byte_ex (z : UInt32) (n : Nat) (hn : n < 32) : ∃ q : UInt8, Hid (q = (z >>> (UInt32.ofNat n)).toUInt8) ∧ IntKind.u8.wrap ((z.toNat : Int) / 2 ^ n) = (q.toNat : Int) := by
  refine ⟨_, rfl, ?_⟩
  have h2 : (z.toNat : Int) / 2 ^ n = ((z.toNat / 2 ^ n : Nat) : Int) := by
    rw [Int.natCast_ediv, Int.natCast_pow]; rfl
  have e1 : (UInt32.ofNat n).toNat = n := by simp; omega
  rw [h2, IntKind.wrap_u8, UInt32.toNat_toUInt8, UInt32.toNat_shiftRight, e1, Nat.mod_eq_of_lt hn, Nat.shiftRight_eq_div_pow]
  omega

/-- The call's own variables, once they are laid. -/
structure BlkW (w : World) (k n : List UInt8) (s : List UInt32) (W : World) : Prop where
  bk : W.heap[w.heap.size]? = some (.cells (W8 k) 38 (0, 0))
  bn : W.heap[w.heap.size + 1]? = some (.cells (W8 n) 128 (0, 0))
  bz : W.heap[w.heap.size + 1 + 1]? = some (.cells (W8 (List.replicate 64 0)) 179 (0, 0))
  bs : W.heap[w.heap.size + 1 + 1 + 1]? = some (.cells (W32 s) 219 (0, 0))
  bel : Below w.heap.size w W
theorem blk_start (w : World) (k n : List UInt8) : BlkW w k n headL ((((w.alloc (.cells (W8 k) 38)).alloc (.cells (W8 n) 128)).alloc (.cells (W8 (List.replicate 64 0)) 179)).alloc (.cells (W32 headL) 219)) where
  bk := ha_old _ _ _ (by simp; omega) (ha_old _ _ _ (by simp; omega) (ha_old _ _ _ (by simp) (ha_new _ _ _ rfl)))
  bn := ha_old _ _ _ (by simp) (ha_old _ _ _ (by simp) (ha_new _ _ _ (by simp)))
  bz := ha_old _ _ _ (by simp) (ha_new _ _ _ (by simp))
  bs := ha_new _ _ _ (by simp)
  bel := ((((Below.refl _ _).alloc (Nat.le_refl _) _).alloc (by simp) _).alloc (by simp; omega) _).alloc (by simp; omega) _
theorem BlkW.step {w W W' : World} {k n : List UInt8} {s s' : List UInt32} (h : BlkW w k n s W) (h' : StOK W (w.heap.size + 1 + 1 + 1) s' W') : BlkW w k n s' W' where
  bk := grown_block h'.2 (by simp; omega) h.bk
  bn := grown_block h'.2 (by simp) h.bn
  bz := grown_block h'.2 (by simp) h.bz
  bs := h'.1
  bel := h.bel.trans (grown_below h'.2 (Nat.le_of_lt (row_lt h.bk)) (by rintro g ⟨⟩; omega))
theorem BlkW.grown {w W W' : World} {k n : List UInt8} {s : List UInt32} {M : Nat} (h : BlkW w k n s W) (h' : W.grownBy W' (some M)) (hM : w.heap.size + 1 + 1 + 1 < M) : BlkW w k n s W' where
  bk := grown_block h' (by simp; omega) h.bk
  bn := grown_block h' (by simp; omega) h.bn
  bz := grown_block h' (by simp; omega) h.bz
  bs := grown_block h' (by simp; omega) h.bs
  bel := h.bel.trans (grown_below h' (Nat.le_of_lt (row_lt h.bk)) (by rintro g ⟨⟩; omega))
theorem BlkW.st {w W : World} {k n : List UInt8} {s : List UInt32} (h : BlkW w k n s W) : StOK W (w.heap.size + 1 + 1 + 1) s W := StOK.refl h.bs
theorem BlkW.keep {w W W' : World} {k n : List UInt8} {s : List UInt32} {B : Nat} (h : BlkW w k n s W) (h' : Below B W W') (hB : w.heap.size + 1 + 1 + 1 < B) : BlkW w k n s W' where
  bk := below_block h' (by omega) h.bk
  bn := below_block h' (by omega) h.bn
  bz := below_block h' (by omega) h.bz
  bs := below_block h' hB h.bs
  bel := h.bel.trans (h'.mono (by omega))
theorem BlkW.lt {w W : World} {k n : List UInt8} {s : List UInt32} (h : BlkW w k n s W) : w.heap.size + 1 + 1 + 1 < W.heap.size := row_lt h.bs

set_option maxRecDepth 100000 in
set_option maxHeartbeats 1000000 in
theorem block_any (k n : List UInt8) (hk : k.length = 32) (hn : n.length = 12) (count : UInt32) (w : World) :
    Calls Tryz.prog 102 #[.agg (W8 k), .agg (W8 n), .int .u32 (count.toNat : Int)] w fun e w' => e = .returned (.agg (W8 (blockL k n count))) ∧ Below w.heap.size w w' := by
  have HK := Lib.hid hk
  have HN := Lib.hid hn
  clear hk hn
  go_enter Tryz.func102, Tryz.ntmps102
  go_wp2_with fail
  refine calls_abs (fun W => BlkW w k n headL W) (blk_start w k n) ?_
  intro W0 H0'
  refine (load_len _ headL rfl _ H0'.st 4 (some ⟨w.heap.size, 0, none⟩) k 32 32 HK.out (RdB.row H0'.bk) (by intro a e; cases e; simp; omega) (by omega)).mono ?_
  rintro e w1 ⟨rfl, H1'⟩
  replace H1' := H0'.step H1'
  have H1 := Lib.hid H1'
  clear H1' H0' W0
  go_wp2_with fail
  refine (load_len _ _ (by rw [loadK_length]; rfl) _ H1.out.st 13 (some ⟨w.heap.size + 1, 0, none⟩) n 12 12 HN.out (RdB.row H1.out.bn) (by intro a e; cases e; simp) (by omega)).mono ?_
  rintro e w2 ⟨rfl, H2'⟩
  replace H2' := H1.out.step H2'
  have H2 := Lib.hid H2'
  obtain ⟨x, hx, a1⟩ := H2'.st.pick 12 (by simp [loadK_length, headL])
  have a2 := H2'.st.free 12
  clear H2' H1 w1
  go_upto_region 5 with fail
  refine wp_abs (fun W => BlkW w k n (initL k n count) W) (H2.out.step (H2.out.st.set 12 count _ rfl)) ?_
  intro w3 H3'
  clear a1 a2 hx x H2 w2
  have H3 := Lib.hid H3'
  clear H3'
  have Z := Lib.hid (show (Tryz.prog.info? 219).map (·.size) = some (W32 (initL k n count)).size by rw [W32_size, initL_length]; kernel_rfl)
  go_upto_region 6 with (first
    | (refine wpList_load_row rfl 219 (.tmp 7) rfl (w.heap.size + 1 + 1 + 1) rfl 219 (W32 (initL k n count)) (0, 0) _ H3.out.bs Tryz.underlying219 rfl Z.out ?_)
    | (refine wpList_store_new rfl rfl 219 (.tmp 8) (.tmp 19) rfl (W32 (initL k n count)) rfl rfl Z.out ?c1 (W32_one _) ?_))
  case c1 => rw [W32_size, initL_length]; rfl
  clear Z
  obtain ⟨M, hM⟩ : ∃ M, M = w3.heap.size := ⟨_, rfl⟩
  have hMl : w.heap.size + 1 + 1 + 1 < M := by rw [hM]; exact H3.out.lt
  refine wp_abs (fun W => BlkW w k n (initL k n count) W ∧ StOK W M (initL k n count) W) ⟨H3.out.keep ((Below.refl _ _).alloc (Nat.le_refl _) _) H3.out.lt, StOK.refl (ha_new _ _ _ hM)⟩ ?_
  rw [← hM]
  clear hM
  have HM := Lib.hid hMl
  clear hMl
  rintro w4 ⟨H4', S4'⟩
  have H4 := Lib.hid H4'
  have S4 := Lib.hid S4'
  clear H4' S4' H3 w3
  go_wp2_with fail
  go_loopw [20] (fun i wr => ∃ j : Nat, j ≤ 10 ∧ i = .int .i64 (j : Int) ∧ BlkW w k n (initL k n count) wr ∧ StOK wr M (dblN (initL k n count) j) wr) (fun i _ => 10 - (intOf i).toNat)
  case atStart => exact ⟨0, by omega, rfl, H4.out, S4.out⟩
  case round =>
    obtain ⟨j, hj, rfl, H5', S5'⟩ := hrel
    have H5 := Lib.hid H5'
    have S5 := Lib.hid S5'
    clear H5' S5' H4 S4 w4
    by_cases hlt : j < 10
    · go_wp2_with fail
      refine (double_any M (dblN (initL k n count) j) (by rw [dblN_length, initL_length]) _ S5.out).mono ?_
      rintro e w1 ⟨rfl, S6'⟩
      have S6 := Lib.hid S6'
      clear S6'
      go_wp2_with fail
      go_roundw
      case rel => exact ⟨j + 1, by omega, by go_num, H5.out.grown S6.out.2 HM.out, StOK.refl S6.out.1⟩
      case measure => simp [intOf]; omega
    · have hj10 : Hid (j = 10) := show j = 10 by omega
      have hD : decide ((j : Int) < 10) = false := by simp; omega
      go_upto_region 11 with fail
      obtain ⟨O, hO⟩ : ∃ O, O = wr.heap.size := ⟨_, rfl⟩
      have hMO : M < O := by rw [hO]; exact row_lt S5.out.1
      refine wp_abs (fun W => BlkW w k n (initL k n count) W ∧ StOK W M (dblN (initL k n count) 10) W ∧ W.heap[O]? = some (.cells (W8 (outK (dblN (initL k n count) 10) (initL k n count) 0)) 179 (0, 0)))
        ⟨H5.out.keep ((Below.refl _ _).alloc (Nat.le_refl _) _) H5.out.lt, StOK.refl (ha_old _ _ _ (row_lt S5.out.1) (by rw [hj10.out] at S5; exact S5.out.1)), ha_new _ _ _ hO⟩ ?_
      rw [← hO]
      have HO := Lib.hid hMO
      clear hO hMO hD hlt hj
      rintro w6 ⟨H6', S6', O6'⟩
      have H6 := Lib.hid H6'
      have S6 := Lib.hid S6'
      have O6 := Lib.hid O6'
      clear H6' S6' O6' H5 S5 wr
      generalize hv : dblN (initL k n count) 10 = v at S6 O6
      generalize hs : initL k n count = s at H6 O6
      have HV := Lib.hid (show v.length = 16 by rw [← hv, dblN_length, initL_length])
      have HS := Lib.hid (show s.length = 16 by rw [← hs, initL_length])
      have EV := Lib.hid hv
      have ES := Lib.hid hs
      clear hv hs
      go_wp2_with fail
      go_loopw [24] (fun i wr => ∃ j : Nat, j ≤ 64 ∧ i = .int .i64 (j : Int) ∧ BlkW w k n s wr ∧ StOK wr M v wr ∧ wr.heap[O]? = some (.cells (W8 (outK v s j)) 179 (0, 0))) (fun i _ => 64 - (intOf i).toNat)
      case atStart => exact ⟨0, by omega, rfl, H6.out, S6.out, O6.out⟩
      case round =>
        obtain ⟨j, hj, rfl, H7', S7', O7'⟩ := hrel
        have H7 := Lib.hid H7'
        have S7 := Lib.hid S7'
        have O7 := Lib.hid O7'
        clear H7' S7' O7' H6 S6 O6 w6
        by_cases hlt : j < 64
        · obtain ⟨x, hx, a1⟩ := S7.out.pick (j / 4) (by rw [HV.out]; omega)
          obtain ⟨y, hy, a2⟩ := H7.out.st.pick (j / 4) (by rw [HS.out]; omega)
          have a3 := row_cell O7.out j (W8_get _ j (by rw [outK_length]; exact hlt))
          have a4 := row_free O7.out j
          obtain ⟨z, hz, e1⟩ := sum_ex x y
          obtain ⟨q, hq, e2⟩ := byte_ex z (8 * (j % 4)) (by omega)
          have hD : decide ((j : Int) < 64) = true := by simp; omega
          go_wp2_with fail
          have b0 : (j : Int) < 64 := by omega
          have b1 : (0 : Int) ≤ (j : Int) / 4 := by omega
          have b2 : (j : Int) / 4 < 16 := by omega
          have b3 : (0 : Int) ≤ 8 * ((j : Int) % 4) := by omega
          have e4 : ((j : Int) / 4).toNat = j / 4 := by omega
          have e5 : (j : Int).tmod 4 = (j : Int) % 4 := Int.tmod_eq_emod_of_nonneg (by omega)
          have e6 : IntKind.i64.wrap ((j : Int) % 4) = (j : Int) % 4 := IntWalk.i64_in _ (by omega)
          have e7 : IntKind.i64.wrap (8 * ((j : Int) % 4)) = 8 * ((j : Int) % 4) := IntWalk.i64_in _ (by omega)
          have e8 : (8 * ((j : Int) % 4)).toNat = 8 * (j % 4) := by omega
          go_still_tail 14, (by kernel_rfl)
          clear e1 e2 e4 e5 e6 e7 e8
          change wpList _ _ _ _ _ wr.drew
          go_wp2_with fail
          go_roundw
          case rel =>
            refine ⟨j + 1, by omega, by go_num, ?_⟩
            have G : wr.grownBy ((wr.setCell ⟨O, j, none⟩ (.int .u8 (q.toNat : Int))).drew) (some O) := grown_drew (grown_set (World.grownBy.refl _ _) _ _)
            refine ⟨H7.out.grown G (by have := HM.out; have := HO.out; omega), StOK.refl (grown_block G (by have := HO.out; simp; omega) S7.out.1), ?_⟩
            show (wr.setCell ⟨O, j, none⟩ (.int .u8 (q.toNat : Int))).heap[O]? = _
            rw [heap_setCell_same _ _ _ _ _ _ O7.out, W8_set, outK, byteOf, ← hx.out, ← hy.out, ← hz.out, ← hq.out]
          case measure => simp [intOf]; omega
        · have hj64 : Hid (j = 64) := show j = 64 by omega
          have hD : decide ((j : Int) < 64) = false := by simp; omega
          have Z8  := Lib.hid (show (Tryz.prog.info? 179).map (·.size) = some (W8 (outK v s j)).size by rw [W8_size, outK_length]; kernel_rfl)
          have Z9  := Lib.hid (show (W8 (List.replicate 64 0)).size = (W8 (outK v s j)).size by rw [W8_size, W8_size, outK_length]; rfl)
          clear hlt hj
          go_wp2_with (first
            | (refine wpList_load_row rfl 179 (.tmp 9) rfl O rfl 179 (W8 (outK v s j)) (0, 0) _ O7.out Tryz.underlying179 rfl Z8.out ?_)
            | (refine wpList_store_whole rfl rfl 179 (.tmp 6) (.tmp 44) rfl (w.heap.size + 1 + 1) (W8 (outK v s j)) rfl rfl 179 _ H7.out.bz Z8.out Z9.out (W8_one _) ?_; intro w8 hz8 hg8 _))
          refine bodyPost_ret (results_cell_row rfl _ _ (w.heap.size + 1 + 1) 179 (W8 (outK v s j)) (0, 0) _ rfl hz8 Tryz.underlying179 rfl Z8.out) rfl ⟨?_, ?_⟩
          · rw [blockL, EV.out, ES.out, hj64.out]
          · exact H7.out.bel.trans (grown_below hg8 (Nat.le_of_lt (row_lt H7.out.bk)) (by rintro g ⟨⟩; omega))
end Go.Proofs.YtlocplkjokoknaaGreat

/- A text laid over the key's bytes. -/
namespace Go.Proofs.YtlocplkjokoknaaGreat
set_option linter.unusedVariables false
set_option linter.unusedSimpArgs false
open Go.RowKit
attribute [local go_sem ↓] Go.wp_at_zero Go.wp_at_succ

def keyByte (k n : List UInt8) (count : UInt32) (i : Nat) : UInt8 := (blockL k n (count + UInt32.ofNat (i / 64))).getD (i % 64) 0
/-- A text laid over the key's bytes, from a block on. -/
def streamL (k n : List UInt8) (count : UInt32) (bs : List UInt8) : List UInt8 := (List.range bs.length).map fun i => bs.getD i 0 ^^^ keyByte k n count i
theorem streamL_length (k n : List UInt8) (count : UInt32) (bs : List UInt8) : (streamL k n count bs).length = bs.length := by simp [streamL]
theorem streamL_get (k n : List UInt8) (count : UInt32) (bs : List UInt8) (i : Nat) (hi : i < bs.length) : (streamL k n count bs)[i]? = some (bs.getD i 0 ^^^ keyByte k n count i) := by simp [streamL, hi]
theorem streamL_snoc (k n : List UInt8) (count : UInt32) (bs : List UInt8) (i : Nat) (hi : i < bs.length) :
    (streamL k n count bs).take (i + 1) = (streamL k n count bs).take i ++ [bs.getD i 0 ^^^ keyByte k n count i] := by
  have h : i < (streamL k n count bs).length := by rw [streamL_length]; exact hi
  rw [List.take_add_one, streamL_get _ _ _ _ _ hi]
  rfl
theorem streamL_take_length (k n : List UInt8) (count : UInt32) (bs : List UInt8) (i : Nat) (hi : i ≤ bs.length) : ((streamL k n count bs).take i).length = i := by
  rw [List.length_take, streamL_length]; omega
theorem xor_ex (a b : UInt8) : ∃ z : UInt8, Hid (z = a ^^^ b) ∧ bits .xor .u8 (a.toNat : Int) (b.toNat : Int) = (z.toNat : Int) := ⟨_, rfl, u8_xor' a b⟩
theorem min_ex (r : Nat) (h0 : 0 < r) : ∃ m : Nat, (if (64 : Int) < (r : Int) then (64 : Int) else (r : Int)) = (m : Int) ∧ m ≤ r ∧ m ≤ 64 ∧ 0 < m ∧ (m = r ∨ m = 64) := by
  by_cases h : 64 < r
  · exact ⟨64, by rw [if_pos (by omega)]; rfl, by omega, by omega, by omega, .inr rfl⟩
  · exact ⟨r, by rw [if_neg (by omega)], by omega, by omega, by omega, .inl rfl⟩
theorem count_ex (c : UInt32) : ∃ z : UInt32, Hid (z = c + 1) ∧ ((c.toNat : Int) + 1) % 4294967296 = (z.toNat : Int) := ⟨_, rfl, by rw [UInt32.toNat_add]; simp⟩

/-- The call's own two variables. -/
structure StrW (w : World) (k n : List UInt8) (W : World) : Prop where
  bk : W.heap[w.heap.size]? = some (.cells (W8 k) 38 (0, 0))
  bn : W.heap[w.heap.size + 1]? = some (.cells (W8 n) 128 (0, 0))
  bel : Below w.heap.size w W
theorem StrW.size {w W : World} {k n : List UInt8} (h : StrW w k n W) : w.heap.size + 1 < W.heap.size := row_lt h.bn
theorem StrW.grown {w W W' : World} {k n : List UInt8} {r : Option Nat} (h : StrW w k n W) (hg : W.grownBy W' r) (hr : ∀ g, r = some g → w.heap.size + 1 < g) : StrW w k n W' where
  bk := grown_block hg (fun e => by have := hr _ e.symm; omega) h.bk
  bn := grown_block hg (fun e => by have := hr _ e.symm; omega) h.bn
  bel := h.bel.trans (grown_below hg (Nat.le_of_lt (row_lt h.bk)) (fun g e => by have := hr g e; omega))
theorem StrW.below {w W W' : World} {k n : List UInt8} (h : StrW w k n W) (hb : Below W.heap.size W W') : StrW w k n W' := h.grown (grown_of_below hb) (fun g e => by cases e)
theorem str_start (w : World) (k n : List UInt8) : StrW w k n ((w.alloc (.cells (W8 k) 38)).alloc (.cells (W8 n) 128)) where
  bk := ha_old _ _ _ (by simp) (ha_new _ _ _ rfl)
  bn := ha_new _ _ _ (by simp)
  bel := ((Below.refl _ _).alloc (Nat.le_refl _) _).alloc (by simp) _

set_option maxRecDepth 100000 in
set_option maxHeartbeats 1000000 in
theorem stream_go (k n : List UInt8) (hk : k.length = 32) (hn : n.length = 12) (count : UInt32) (w : World) (A : Option Addr) (c : Nat) (bs : List UInt8) (hR : RdB w A bs) (hlc : bs.length ≤ c) (hb : bs.length ≤ 70368744177664) :
    Calls Tryz.prog 81 #[.agg (W8 k), .agg (W8 n), .int .u32 (count.toNat : Int), .slice A bs.length c] w fun e w' =>
      ∃ v, e = .returned v ∧ OwnB w' w.heap.size v (streamL k n count bs) ∧ Below w.heap.size w w' := by
  have HK := Lib.hid hk
  have HN := Lib.hid hn
  have HR := Lib.hid hR
  have HC := Lib.hid hlc
  have HB := Lib.hid hb
  clear hk hn hR hlc
  have TB := Lib.hid (show ByteT Tryz.prog from ⟨Tryz.underlying22, by kernel_rfl⟩)
  obtain ⟨i0, hi, hz0, hz1, hz2⟩ := info_parts (show (Tryz.prog.info? 5).map (fun i => (i.zero, i.size, i.bytes)) = some (some (.int .u8 0), 1, 1) by kernel_rfl)
  have ZK := Lib.hid (show (Tryz.prog.info? 38).map (·.size) = some (W8 k).size by rw [W8_size, HK.out]; kernel_rfl)
  have ZN := Lib.hid (show (Tryz.prog.info? 128).map (·.size) = some (W8 n).size by rw [W8_size, HN.out]; kernel_rfl)
  have ZB := fun cq => Lib.hid (show (Tryz.prog.info? 179).map (·.size) = some (W8 (blockL k n cq)).size by rw [W8_size, blockL_length]; kernel_rfl)
  have HZB := Lib.hid ZB
  clear ZB
  have I0 := Lib.hid hi
  have I1 := Lib.hid hz0
  have I2 := Lib.hid hz1
  have I3 := Lib.hid hz2
  clear hi hz0 hz1 hz2
  go_enter Tryz.func81, Tryz.ntmps81
  go_upto_region 1 with fail
  refine wp_abs (fun W => StrW w k n W) (str_start w k n) ?_
  intro w0 H0'
  have H0 := Lib.hid H0'
  clear H0'
  go_wp2_with (refine wpList_make_own w0 rfl (.const (.int .i64 0)) (.tmp 14) 22 rfl (w.heap.size + 1 + 1) 5 i0 (.int .u8 0) 1 Tryz.underlying22 I0.out I1.out I2.out .i64 .i64 _ bs.length rfl rfl rfl (by rw [I3.out]; omega) (by unfold maxLen; omega) (by have := H0.out.size; omega) ?_; intro w1 HO1' HG1')
  refine wp_abs (fun W => StrW w k n W ∧ OwnB W (w.heap.size + 1 + 1) (.slice (some ⟨w0.heap.size, 0, none⟩) 0 bs.length) []) ⟨H0.out.grown HG1' (by intro g e; cases e), HO1'⟩ ?_
  generalize (Value.slice (some ⟨w0.heap.size, 0, none⟩) 0 bs.length) = v0
  rintro w2 ⟨H2', O2'⟩
  have H2 := Lib.hid H2'
  have O2 := Lib.hid O2'
  clear HO1' HG1' H2' O2' w1 H0 w0 hb
  go_loopw [2, 3, 9] (fun x b v wr => ∃ q p r A' c', p + r = bs.length ∧ (r = 0 ∨ p = 64 * q) ∧ r ≤ c' ∧ x = .int .u32 ((count + UInt32.ofNat q).toNat : Int) ∧ b = .slice A' r c' ∧ RdB w A' (bs.drop p) ∧
      OwnB wr (w.heap.size + 1 + 1) v ((streamL k n count bs).take p) ∧ StrW w k n wr) (fun _ b _ _ => lenOf b)
  case atStart => exact ⟨0, 0, bs.length, A, c, by omega, .inr rfl, HC.out, by simp, rfl, HR.out, O2.out, H2.out⟩
  case round =>
    obtain ⟨q, p, r, A1, c1, hpr, hrq, hrc, rfl, rfl, hR1, hO1, hS1⟩ := hrel
    have HPR := Lib.hid hpr
    have HRQ := Lib.hid hrq
    have HRC := Lib.hid hrc
    have R1 := Lib.hid hR1
    have L1 := Lib.hid (show bs.drop p ≠ [] → ∀ a, A1 = some a → a.block < w.heap.size from fun hne => hR1.lt hne)
    have O1 := Lib.hid hO1
    have S1 := Lib.hid hS1
    clear hpr hrq hrc hR1 hO1 hS1 H2 O2 w2
    have HX := Lib.hid (show (count + UInt32.ofNat q) = (count + UInt32.ofNat q) from rfl)
    generalize hcq : count + UInt32.ofNat q = cq
    have HCQ := Lib.hid hcq
    clear hcq HX
    by_cases h0 : 0 < r
    · have hD : decide ((0 : Int) < (r : Int)) = true := by simp; omega
      have hp : Hid (p = 64 * q) := HRQ.out.resolve_left (by omega)
      go_upto_region 3 with fail
      go_wp2_with (first
        | (refine wpList_load_row rfl 38 (.tmp 4) rfl w.heap.size rfl 38 (W8 k) (0, 0) _ S1.out.bk Tryz.underlying38 rfl ZK.out ?_)
        | (refine wpList_load_row rfl 128 (.tmp 5) rfl (w.heap.size + 1) rfl 128 (W8 n) (0, 0) _ S1.out.bn Tryz.underlying128 rfl ZN.out ?_))
      refine (block_any k n HK.out HN.out cq _).mono ?_
      rintro e w3 ⟨rfl, hb3⟩
      obtain ⟨S3', O3'⟩ : StrW w k n w3 ∧ OwnB w3 (w.heap.size + 1 + 1) u9 ((streamL k n count bs).take p) := ⟨S1.out.below hb3, O1.out.below hb3⟩
      have S3 := Lib.hid S3'
      have O3 := Lib.hid O3'
      clear S3' O3' S1 O1 hb3 wr
      go_upto_region 4 with (refine wpList_store_new rfl rfl 179 (.tmp 10) (.tmp 22) rfl (W8 (blockL k n cq)) rfl rfl (HZB.out cq).out ?c1 (W8_one _) ?_)
      case c1 => rw [W8_size, blockL_length]; rfl
      obtain ⟨M, hM⟩ : ∃ M, M = w3.heap.size := ⟨_, rfl⟩
      refine wp_abs (fun W => StrW w k n W ∧ OwnB W (w.heap.size + 1 + 1) u9 ((streamL k n count bs).take p) ∧ W.heap[M]? = some (.cells (W8 (blockL k n cq)) 179 (0, 0)) ∧ u9.ownBlock ≠ some M ∧ w.heap.size + 1 < M)
        ⟨S3.out.below ((Below.refl _ _).alloc (Nat.le_refl _) _), O3.out.alloc _, ha_new _ _ _ hM, fun e => by have := O3.out.lt _ e; omega, by rw [hM]; exact S3.out.size⟩ ?_
      rw [← hM]
      clear hM
      rintro w4 ⟨S4', O4', M4', N4', L4'⟩
      have S4 := Lib.hid S4'
      have O4 := Lib.hid O4'
      have M4 := Lib.hid M4'
      have N4 := Lib.hid N4'
      have L4 := Lib.hid L4'
      clear S4' O4' M4' N4' L4' S3 O3 w3
      obtain ⟨m, hm, hmr, hm64, hm0, hmc⟩ := min_ex r h0
      have HMR := Lib.hid hmr
      have HMC := Lib.hid hmc
      clear hmr hmc
      go_upto_region 5 with fail
      clear hm
      obtain ⟨wo, rfl⟩ : ∃ wo : World, wo = w4 := ⟨_, rfl⟩
      go_wp2_with fail
      go_loopw [9, 27] (fun v i wr => ∃ j : Nat, j ≤ m ∧ i = .int .i64 (j : Int) ∧ OwnB wr (w.heap.size + 1 + 1) v ((streamL k n count bs).take (p + j)) ∧ StrW w k n wr ∧
          wr.heap[M]? = some (.cells (W8 (blockL k n cq)) 179 (0, 0)) ∧ v.ownBlock ≠ some M) (fun _ i _ => m - (intOf i).toNat)
      case atStart => exact ⟨0, by omega, rfl, O4.out, S4.out, M4.out, N4.out⟩
      case round =>
        obtain ⟨j, hj, rfl, hO5, hS5, hM5, hN5⟩ := hrel
        have HJ := Lib.hid hj
        have O5 := Lib.hid hO5
        have S5 := Lib.hid hS5
        have M5 := Lib.hid hM5
        have N5 := Lib.hid hN5
        clear hj hO5 hS5 hM5 hN5 S4 O4 M4 N4 wo
        by_cases hlt : j < m
        · have hD2 : decide ((j : Int) < (m : Int)) = true := by simp; omega
          obtain ⟨b, o, rfl, x, hx, a1⟩ := (R1.out.keep S5.out.bel).get j (by have := HPR.out; have := HMR.out; simp; omega)
          have a2 := row_cell M5.out j (W8_get _ j (by rw [blockL_length]; omega))
          obtain ⟨y, hy⟩ : ∃ y, y = (blockL k n cq).getD j 0 := ⟨_, rfl⟩
          rw [← hy] at a2
          have HY := Lib.hid hy
          clear hy
          obtain ⟨z, hz, e1⟩ := xor_ex x y
          have b1 : (j : Int) < (r : Int) := by have := HMR.out; omega
          have b2 : (j : Int) < 64 := by omega
          go_wp2_with fail
          have ON : Hid (OwnB (wr.alloc (.cells #[.int .u8 (z.toNat : Int)] 5)).drew (w.heap.size + 1 + 1) u9 ((streamL k n count bs).take (p + j))) := (O5.out.alloc _).drew
          have A1 : Hid ((wr.alloc (.cells #[.int .u8 (z.toNat : Int)] 5)).drew.cell? ⟨b, o + j, none⟩ = some (.int .u8 (x.toNat : Int))) := cell_alloc a1 _
          have A2 : Hid ((wr.alloc (.cells #[.int .u8 (z.toNat : Int)] 5)).drew.cell? ⟨M, j, none⟩ = some (.int .u8 (y.toNat : Int))) := cell_alloc a2 _
          have A3 : Hid (RdB (wr.alloc (.cells #[.int .u8 (z.toNat : Int)] 5)).drew (some ⟨wr.heap.size, 0, none⟩) [z]) := RdB.one (row_cell (fr := (0, 0)) (ha_new wr _ _ rfl) 0 rfl)
          have A4 : Hid (w.heap.size + 1 + 1 ≤ (wr.alloc (.cells #[.int .u8 (z.toNat : Int)] 5)).drew.heap.size) := show _ ≤ (wr.alloc (.cells #[.int .u8 (z.toNat : Int)] 5)).heap.size by have := S5.out.size; rw [ha_size]; omega
          have A5 : Hid (((streamL k n count bs).take (p + j)).length + 1 ≤ 140737488355328) := show _ ≤ _ by have := HPR.out; have := HMR.out; have := HB.out; rw [streamL_take_length _ _ _ _ _ (by omega)]; omega
          have A6 : Hid (∀ g, u9.ownBlock = some g → (⟨b, o + j, none⟩ : Addr).block ≠ g) := fun g e => by have := O5.out.lt g e; have := L1.out (by intro hn; have h1 := congrArg List.length hn; rw [List.length_drop, List.length_nil] at h1; have := HPR.out; have := HMR.out; omega) _ rfl; simp at this ⊢; omega
          have A7 : Hid (∀ g, u9.ownBlock = some g → (⟨M, j, none⟩ : Addr).block ≠ g) := fun g e h => N5.out (by rw [e, ← h])
          go_region_held3 (fun w' => w'.cell? ⟨b, o + j, none⟩ = some (.int .u8 (x.toNat : Int)) ∧ w'.cell? ⟨M, j, none⟩ = some (.int .u8 (y.toNat : Int))) (first | go_keep | exact ⟨cell_grown hg1 A1.out A6.out, cell_grown hg1 A2.out A7.out⟩) ((refine app_step (by rfl) TB.out (.tmp 30) (.tmp 39) (by rfl) (w.heap.size + 1 + 1) u9 ((streamL k n count bs).take (p + j)) [z] (some ⟨wr.heap.size, 0, none⟩) 1 1 (by rfl) (by rfl) (by rfl) ON.out A3.out A4.out A5.out ?_; intro v1 w1 ho1 hg1 hat1))
          have G : Hid (wr.grownBy w1 u9.ownBlock) := World.grownBy.trans (World.grownBy_alloc wr _ _) ⟨hg1.os, hg1.tape, hg1.output, hg1.size, hg1.block⟩
          have HO1 := Lib.hid ho1
          have HAT := Lib.hid hat1
          clear ho1 hat1 hg1 a1 a2 e1 ON A1 A2 A3 A4 A5 A6 A7
          go_wp2_with fail
          go_roundw
          case rel =>
            refine ⟨j + 1, by omega, by go_num, ?_, S5.out.grown G.out (fun g e => by have := O5.out.lt g e; omega), grown_block G.out (fun e => N5.out e.symm) M5.out, fun e => ?_⟩
            · have h1 := HPR.out
              have h2 := HMR.out
              have hz' : bs.getD (p + j) 0 ^^^ keyByte k n count (p + j) = z := by
                rw [hz.out, hx.out, HY.out, keyByte, hp.out, show (64 * q + j) / 64 = q by omega, show (64 * q + j) % 64 = j by omega, HCQ.out]
                simp [List.getD_eq_getElem?_getD, List.getElem?_drop]
              rw [← Nat.add_assoc, streamL_snoc _ _ _ _ _ (by omega), hz']
              exact HO1.out
            · rcases HAT.out with h | h
              · exact N5.out (h.symm.trans e)
              · rw [e] at h
                injection h with h
                have h' : M = wr.heap.size + 1 := by rw [h]; exact ha_size _ _
                have := row_lt M5.out
                omega
          case measure => simp [intOf]; omega
        · have hjm : Hid (j = m) := show j = m by have := HJ.out; omega
          have hD2 : decide ((j : Int) < (m : Int)) = false := by simp; omega
          obtain ⟨A', hcut, hcutR, hcutB⟩ := cut_from (P := Tryz.prog) 22 5 Tryz.underlying22 I0.out I2.out A1 r c1 m HMR.out
          have HCR := Lib.hid hcutR
          have HCB := Lib.hid hcutB
          obtain ⟨cq', hcq', e1⟩ := count_ex cq
          clear hcutR hcutB
          go_wp2_with fail
          go_roundw
          case rel =>
            have h1 := HPR.out
            have h2 := HMR.out
            have h3 := HMC.out
            have h4 := HRC.out
            have h5 := hp.out
            refine ⟨q + 1, p + m, r - m, A', c1 - m, by omega, by omega, by omega, ?_, rfl, ?_, ?_, S5.out⟩
            · rw [e1, hcq'.out, ← HCQ.out, UInt32.add_assoc]
              congr 3
              simp
            · have := HCR.out w (bs.drop p) (by rw [List.length_drop]; omega) h4 R1.out
              rwa [List.drop_drop] at this
            · have := O5.out
              rwa [hjm.out] at this
          case measure => simp [lenOf]; omega
    · have hr0 : Hid (r = 0) := show r = 0 by omega
      have hD : decide ((0 : Int) < (r : Int)) = false := by simp; omega
      go_wp2_with fail
      go_ret
      refine ⟨_, rfl, ?_, S1.out.bel⟩
      have hp : p = bs.length := by have := HPR.out; have := hr0.out; omega
      have := O1.out
      rw [hp, List.take_of_length_le (by rw [streamL_length]; omega)] at this
      exact this.mono (by omega)
theorem stream_any (k n : List UInt8) (hk : k.length = 32) (hn : n.length = 12) (count : UInt32) (w : World) (A : Option Addr) (c : Nat) (bs : List UInt8) (hR : RdB w A bs) (hlc : bs.length ≤ c) (hb : bs.length ≤ 70368744177664)
    (hlt : ∀ a, A = some a → a.block < w.heap.size) :
    Calls Tryz.prog 81 #[.agg (W8 k), .agg (W8 n), .int .u32 (count.toNat : Int), .slice A bs.length c] w fun e w' =>
      ∃ v, e = .returned v ∧ OwnB w' w.heap.size v (streamL k n count bs) ∧ Below w.heap.size w w' := stream_go k n hk hn count w A c bs hR hlc hb
theorem stream_len (k n : List UInt8) (hk : k.length = 32) (hn : n.length = 12) (count : UInt32) (w : World) (A : Option Addr) (m c : Nat) (bs : List UInt8) (hm : bs.length = m) (hR : RdB w A bs) (hlc : m ≤ c) (hb : m ≤ 70368744177664)
    (hlt : ∀ a, A = some a → a.block < w.heap.size) :
    Calls Tryz.prog 81 #[.agg (W8 k), .agg (W8 n), .int .u32 (count.toNat : Int), .slice A m c] w fun e w' =>
      ∃ v, e = .returned v ∧ OwnB w' w.heap.size v (streamL k n count bs) ∧ Below w.heap.size w w' := by
  subst hm
  exact stream_any k n hk hn count w A c bs hR hlc hb hlt
end Go.Proofs.YtlocplkjokoknaaGreat

/- Numbers in limbs of 26 bits, plain. No condition but those each theorem states. -/
namespace Go.Proofs.YtlocplkjokoknaaGreat
set_option linter.unusedVariables false
set_option linter.unusedSimpArgs false
open Go.RowKit

def WN (l : List Nat) : Array Value := (l.map fun x : Nat => Value.int .u64 (x : Int)).toArray
theorem WN_size (l : List Nat) : (WN l).size = l.length := by simp [WN]
theorem WN_get (l : List Nat) (i : Nat) (h : i < l.length) : (WN l)[i]? = some (.int .u64 ((l.getD i 0 : Nat) : Int)) := by simp [WN, h]
theorem WN_set (l : List Nat) (i : Nat) (x : Nat) : (WN l).setIfInBounds i (.int .u64 (x : Int)) = WN (l.set i x) := by simp [WN, List.map_set]
theorem WN_one (l : List Nat) : (WN l).all (·.oneCell') = true := all_oneCell_toArray (by intro v hv; simp only [List.mem_map] at hv; obtain ⟨q, _, rfl⟩ := hv; rfl)

/-- What a number in limbs is. -/
def valN (l : List Nat) : Nat := l.getD 0 0 + 67108864 * (l.getD 1 0 + 67108864 * (l.getD 2 0 + 67108864 * (l.getD 3 0 + 67108864 * l.getD 4 0)))
def PN : Nat := 1361129467683753853853498429727072845819
theorem list5 : ∀ (v : List Nat), v.length = 5 → ∃ a b c d e, v = [a, b, c, d, e]
  | [a, b, c, d, e], _ => ⟨a, b, c, d, e, rfl⟩
/-- All limbs at most so great. -/
def Bd (B : Nat) (l : List Nat) : Prop := ∀ j, l.getD j 0 ≤ B
theorem Bd.mono {B B' : Nat} {l : List Nat} (h : Bd B l) (hb : B ≤ B') : Bd B' l := fun j => Nat.le_trans (h j) hb
theorem getD_set (l : List Nat) (i j x : Nat) : (l.set i x).getD j 0 = if i = j ∧ j < l.length then x else l.getD j 0 := by
  rw [List.getD_eq_getElem?_getD, List.getElem?_set, List.getD_eq_getElem?_getD]
  by_cases h : i = j
  · subst h
    by_cases hl : i < l.length
    · simp [hl]
    · simp [hl]
  · simp [h]
theorem Bd.set {B : Nat} {l : List Nat} (h : Bd B l) {i x : Nat} (hx : x ≤ B) : Bd B (l.set i x) := by
  intro j
  rw [getD_set]
  split
  · exact hx
  · exact h j

/-! ### a sum -/
def addK (n m : List Nat) : Nat → List Nat
  | 0 => n
  | i + 1 => (addK n m i).set i ((addK n m i).getD i 0 + m.getD i 0)
theorem addK_length (n m : List Nat) (i : Nat) : (addK n m i).length = n.length := by
  induction i with
  | zero => rfl
  | succ i ih => simp [addK, ih]
theorem addK_later (n m : List Nat) : ∀ (i j : Nat), i ≤ j → (addK n m i).getD j 0 = n.getD j 0
  | 0, j, _ => rfl
  | i + 1, j, h => by rw [addK, getD_set, if_neg (by omega), addK_later n m i j (by omega)]
theorem addK_all (n m : List Nat) (hn : n.length = 5) (hm : m.length = 5) : valN (addK n m 5) = valN n + valN m ∧ ∀ B C, Bd B n → Bd C m → Bd (B + C) (addK n m 5) := by
  obtain ⟨a, b, c, d, e, rfl⟩ := list5 n hn
  obtain ⟨a', b', c', d', e', rfl⟩ := list5 m hm
  have h : addK [a, b, c, d, e] [a', b', c', d', e'] 5 = [a + a', b + b', c + c', d + d', e + e'] := rfl
  rw [h]
  refine ⟨by simp [valN]; omega, fun B C hB hC j => ?_⟩
  have h0 := hB 0
  have h1 := hB 1
  have h2 := hB 2
  have h3 := hB 3
  have h4 := hB 4
  have k0 := hC 0
  have k1 := hC 1
  have k2 := hC 2
  have k3 := hC 3
  have k4 := hC 4
  simp at h0 h1 h2 h3 h4 k0 k1 k2 k3 k4
  rcases j with _ | _ | _ | _ | _ | j <;> simp <;> omega
/-! ### a carry -/
def carryK (n : List Nat) : Nat → List Nat
  | 0 => n
  | i + 1 =>
    let m := carryK n i
    let m1 := m.set i (m.getD i 0 % 67108864)
    if i + 1 < 5 then m1.set (i + 1) (m1.getD (i + 1) 0 + m.getD i 0 / 67108864) else m1.set 0 (m1.getD 0 0 + 5 * (m.getD i 0 / 67108864))
theorem carryK_length (n : List Nat) (i : Nat) : (carryK n i).length = n.length := by
  induction i with
  | zero => rfl
  | succ i ih => unfold carryK; dsimp only; split <;> simp [ih]
def carryL (n : List Nat) : List Nat := carryK n 5
theorem carryL_length (n : List Nat) : (carryL n).length = n.length := carryK_length n 5
theorem carryK_bd (n : List Nat) (hn : n.length = 5) (h : Bd 4611686018427387904 n) : ∀ i, i ≤ 5 → Bd 9223372036854775808 (carryK n i) := by
  obtain ⟨a, b, c, d, e, rfl⟩ := list5 n hn
  have h0 := h 0
  have h1 := h 1
  have h2 := h 2
  have h3 := h 3
  have h4 := h 4
  simp at h0 h1 h2 h3 h4
  intro i hi j
  rcases i with _ | _ | _ | _ | _ | _ | i
  · exact Nat.le_trans (h j) (by omega)
  · show ([a % 67108864, b + a / 67108864, c, d, e] : List Nat).getD j 0 ≤ _
    rcases j with _ | _ | _ | _ | _ | j <;> simp <;> omega
  · show ([a % 67108864, (b + a / 67108864) % 67108864, c + (b + a / 67108864) / 67108864, d, e] : List Nat).getD j 0 ≤ _
    rcases j with _ | _ | _ | _ | _ | j <;> simp <;> omega
  · show ([a % 67108864, (b + a / 67108864) % 67108864, (c + (b + a / 67108864) / 67108864) % 67108864, d + (c + (b + a / 67108864) / 67108864) / 67108864, e] : List Nat).getD j 0 ≤ _
    rcases j with _ | _ | _ | _ | _ | j <;> simp <;> omega
  · show ([a % 67108864, (b + a / 67108864) % 67108864, (c + (b + a / 67108864) / 67108864) % 67108864, (d + (c + (b + a / 67108864) / 67108864) / 67108864) % 67108864, e + (d + (c + (b + a / 67108864) / 67108864) / 67108864) / 67108864] : List Nat).getD j 0 ≤ _
    rcases j with _ | _ | _ | _ | _ | j <;> simp <;> omega
  · show ([a % 67108864 + 5 * ((e + (d + (c + (b + a / 67108864) / 67108864) / 67108864) / 67108864) / 67108864), (b + a / 67108864) % 67108864, (c + (b + a / 67108864) / 67108864) % 67108864, (d + (c + (b + a / 67108864) / 67108864) / 67108864) % 67108864, (e + (d + (c + (b + a / 67108864) / 67108864) / 67108864) / 67108864) % 67108864] : List Nat).getD j 0 ≤ _
    rcases j with _ | _ | _ | _ | _ | j <;> simp <;> omega
  · omega
/-- What a carry comes to, limb by limb. -/
theorem carryL_form (n : List Nat) (hn : n.length = 5) : ∃ a0 a1 a2 a3 a4 c0 c1 c2 c3 c4 b0 b1 b2 b3 b4, n = [a0, a1, a2, a3, a4] ∧ carryL n = [b0 + 5 * c4, b1, b2, b3, b4] ∧ a0 = b0 + 67108864 * c0 ∧ a1 + c0 = b1 + 67108864 * c1 ∧ a2 + c1 = b2 + 67108864 * c2 ∧ a3 + c2 = b3 + 67108864 * c3 ∧ a4 + c3 = b4 + 67108864 * c4 ∧
    b0 < 67108864 ∧ b1 < 67108864 ∧ b2 < 67108864 ∧ b3 < 67108864 ∧ b4 < 67108864 := by
  obtain ⟨a, b, c, d, e, rfl⟩ := list5 n hn
  refine ⟨a, b, c, d, e, a / 67108864, (b + a / 67108864) / 67108864, (c + (b + a / 67108864) / 67108864) / 67108864, (d + (c + (b + a / 67108864) / 67108864) / 67108864) / 67108864, (e + (d + (c + (b + a / 67108864) / 67108864) / 67108864) / 67108864) / 67108864, a % 67108864, (b + a / 67108864) % 67108864, (c + (b + a / 67108864) / 67108864) % 67108864, (d + (c + (b + a / 67108864) / 67108864) / 67108864) % 67108864, (e + (d + (c + (b + a / 67108864) / 67108864) / 67108864) / 67108864) % 67108864, rfl, rfl, ?_⟩
  refine ⟨?_, ?_, ?_, ?_, ?_, ?_, ?_, ?_, ?_, ?_⟩ <;> omega
theorem carryL_val (n : List Nat) (hn : n.length = 5) : ∃ c, valN n = valN (carryL n) + c * PN := by
  obtain ⟨a0, a1, a2, a3, a4, c0, c1, c2, c3, c4, b0, b1, b2, b3, b4, rfl, e, h0, h1, h2, h3, h4, _⟩ := carryL_form n hn
  refine ⟨c4, ?_⟩
  rw [e]
  simp only [valN, PN, List.getD_cons_zero, List.getD_cons_succ]
  omega
theorem carryL_mod (n : List Nat) (hn : n.length = 5) : valN (carryL n) % PN = valN n % PN := by
  obtain ⟨c, h⟩ := carryL_val n hn
  rw [h, Nat.add_mul_mod_self_right]
/-- Once: the limbs but the first are small, and the first is not great. -/
theorem carryL_once (n : List Nat) (hn : n.length = 5) (h : Bd 4611686018427387904 n) : ∃ b0 b1 b2 b3 b4 c4, carryL n = [b0 + 5 * c4, b1, b2, b3, b4] ∧ b0 < 67108864 ∧ b1 < 67108864 ∧ b2 < 67108864 ∧ b3 < 67108864 ∧ b4 < 67108864 ∧ c4 ≤ 68719480000 := by
  obtain ⟨a0, a1, a2, a3, a4, c0, c1, c2, c3, c4, b0, b1, b2, b3, b4, rfl, e, h0, h1, h2, h3, h4, g0, g1, g2, g3, g4⟩ := carryL_form n hn
  have k0 := h 0
  have k1 := h 1
  have k2 := h 2
  have k3 := h 3
  have k4 := h 4
  simp at k0 k1 k2 k3 k4
  have d0 : c0 ≤ 68719476736 := by clear e h1 h2 h3 h4; omega
  have d1 : c1 ≤ 68719480000 := by clear e h0 h2 h3 h4; omega
  have d2 : c2 ≤ 68719480000 := by clear e h0 h1 h3 h4; omega
  have d3 : c3 ≤ 68719480000 := by clear e h0 h1 h2 h4; omega
  exact ⟨b0, b1, b2, b3, b4, c4, e, g0, g1, g2, g3, g4, by clear e h0 h1 h2 h3; omega⟩
/-- Twice. -/
theorem carryL_twice (n : List Nat) (hn : n.length = 5) (h : Bd 4611686018427387904 n) : ∃ b0 b1 b2 b3 b4, carryL (carryL n) = [b0, b1, b2, b3, b4] ∧ b0 ≤ 67108868 ∧ b1 < 67108864 ∧ b2 < 67108864 ∧ b3 < 67108864 ∧ b4 < 67108864 := by
  obtain ⟨x0, x1, x2, x3, x4, c, e, h0, h1, h2, h3, h4, hc⟩ := carryL_once n hn h
  obtain ⟨a0, a1, a2, a3, a4, c0, c1, c2, c3, c4, b0, b1, b2, b3, b4, e1, e2, k0, k1, k2, k3, k4, g0, g1, g2, g3, g4⟩ := carryL_form (carryL n) (by rw [carryL_length]; exact hn)
  rw [e] at e1
  injection e1 with q0 e1
  injection e1 with q1 e1
  injection e1 with q2 e1
  injection e1 with q3 e1
  injection e1 with q4 e1
  have d0 : c0 ≤ 5130 := by clear e e2 k1 k2 k3 k4; omega
  have d1 : c1 ≤ 1 := by clear e e2 k0 k2 k3 k4; omega
  have d2 : c2 ≤ 1 := by clear e e2 k0 k1 k3 k4; omega
  have d3 : c3 ≤ 1 := by clear e e2 k0 k1 k2 k4; omega
  have d4 : c4 ≤ 1 := by clear e e2 k0 k1 k2 k3; omega
  refine ⟨_, _, _, _, _, e2, ?_, g1, g2, g3, g4⟩
  clear e e2 k0 k1 k2 k3 k4
  omega
/-- Of limbs that are small but for the first, twice: all are small. -/
theorem carryL_small (n : List Nat) (hn : n.length = 5) (h : Bd 67108868 n) : ∃ b0 b1 b2 b3 b4, carryL (carryL n) = [b0, b1, b2, b3, b4] ∧ b0 < 67108864 ∧ b1 < 67108864 ∧ b2 < 67108864 ∧ b3 < 67108864 ∧ b4 < 67108864 := by
  obtain ⟨y0, y1, y2, y3, y4, d0, d1, d2, d3, d4, x0, x1, x2, x3, x4, e0, e, j0, j1, j2, j3, j4, h0, h1, h2, h3, h4⟩ := carryL_form n hn
  obtain ⟨a0, a1, a2, a3, a4, c0, c1, c2, c3, c4, b0, b1, b2, b3, b4, e1, e2, k0, k1, k2, k3, k4, g0, g1, g2, g3, g4⟩ := carryL_form (carryL n) (by rw [carryL_length]; exact hn)
  rw [e] at e1
  injection e1 with q0 e1
  injection e1 with q1 e1
  injection e1 with q2 e1
  injection e1 with q3 e1
  injection e1 with q4 e1
  have m0 := h 0
  have m1 := h 1
  have m2 := h 2
  have m3 := h 3
  have m4 := h 4
  rw [e0] at m0 m1 m2 m3 m4
  simp at m0 m1 m2 m3 m4
  have p0 : d0 ≤ 1 := by clear e e2 e0 j1 j2 j3 j4 k0 k1 k2 k3 k4; omega
  have p1 : d1 ≤ 1 := by clear e e2 e0 j0 j2 j3 j4 k0 k1 k2 k3 k4; omega
  have p2 : d2 ≤ 1 := by clear e e2 e0 j0 j1 j3 j4 k0 k1 k2 k3 k4; omega
  have p3 : d3 ≤ 1 := by clear e e2 e0 j0 j1 j2 j4 k0 k1 k2 k3 k4; omega
  have p4 : d4 ≤ 1 := by clear e e2 e0 j0 j1 j2 j3 k0 k1 k2 k3 k4; omega
  clear e e0 j0 j1 j2 j3 j4
  have r0 : c0 ≤ 1 := by clear e2 k1 k2 k3 k4; omega
  have r1 : c1 ≤ c0 := by clear e2 k0 k2 k3 k4; omega
  have r2 : c2 ≤ c1 := by clear e2 k0 k1 k3 k4; omega
  have r3 : c3 ≤ c2 := by clear e2 k0 k1 k2 k4; omega
  have r4 : c4 ≤ c3 := by clear e2 k0 k1 k2 k3; omega
  refine ⟨_, _, _, _, _, e2, ?_, g1, g2, g3, g4⟩
  clear e2 k1 k2 k3 k4
  omega
/-! ### a product -/
def stepT (n r acc : List Nat) (i k : Nat) : List Nat :=
  if i + k < 5 then acc.set (i + k) (acc.getD (i + k) 0 + n.getD i 0 * r.getD k 0) else acc.set (i + k - 5) (acc.getD (i + k - 5) 0 + 5 * n.getD i 0 * r.getD k 0)
def rowT (n r acc : List Nat) (i : Nat) : Nat → List Nat
  | 0 => acc
  | k + 1 => stepT n r (rowT n r acc i k) i k
def timesT (n r : List Nat) : Nat → List Nat
  | 0 => [0, 0, 0, 0, 0]
  | i + 1 => rowT n r (timesT n r i) i 5
theorem stepT_length (n r acc : List Nat) (i k : Nat) : (stepT n r acc i k).length = acc.length := by unfold stepT; split <;> simp
theorem rowT_length (n r acc : List Nat) (i k : Nat) : (rowT n r acc i k).length = acc.length := by
  induction k with
  | zero => rfl
  | succ k ih => rw [rowT, stepT_length, ih]
theorem timesT_length (n r : List Nat) (i : Nat) : (timesT n r i).length = 5 := by
  induction i with
  | zero => rfl
  | succ i ih => rw [timesT, rowT_length, ih]
theorem prod_bd {n r : List Nat} (hn : Bd 268435456 n) (hr : Bd 67108864 r) (i k : Nat) : 5 * n.getD i 0 * r.getD k 0 ≤ 90071992547409920 ∧ n.getD i 0 * r.getD k 0 ≤ 90071992547409920 := by
  have h1 := Nat.mul_le_mul (hn i) (hr k)
  rw [Nat.mul_assoc]
  constructor <;> omega
theorem stepT_bd {n r acc : List Nat} (hn : Bd 268435456 n) (hr : Bd 67108864 r) {B : Nat} (h : Bd B acc) (i k : Nat) : Bd (B + 90071992547409920) (stepT n r acc i k) := by
  have hp := prod_bd hn hr i k
  unfold stepT
  split
  · exact Bd.set (h.mono (by omega)) (Nat.add_le_add (h _) hp.2)
  · exact Bd.set (h.mono (by omega)) (Nat.add_le_add (h _) hp.1)
theorem rowT_bd {n r acc : List Nat} (hn : Bd 268435456 n) (hr : Bd 67108864 r) {B : Nat} (h : Bd B acc) (i k : Nat) : Bd (B + k * 90071992547409920) (rowT n r acc i k) := by
  induction k with
  | zero => simpa [rowT] using h
  | succ k ih => rw [rowT]; exact (stepT_bd hn hr ih i k).mono (by omega)
theorem timesT_bd {n r : List Nat} (hn : Bd 268435456 n) (hr : Bd 67108864 r) (i : Nat) : Bd (i * 450359962737049600) (timesT n r i) := by
  induction i with
  | zero => intro j; rcases j with _ | _ | _ | _ | _ | j <;> simp [timesT]
  | succ i ih => rw [timesT]; exact (rowT_bd hn hr ih i 5).mono (by omega)
def timesL (n r : List Nat) : List Nat := carryL (carryL (timesT n r 5))
theorem idT (n0 n1 n2 n3 n4 r0 r1 r2 r3 r4 : Nat) :
  (n0 + 67108864 * (n1 + 67108864 * (n2 + 67108864 * (n3 + 67108864 * n4)))) * (r0 + 67108864 * (r1 + 67108864 * (r2 + 67108864 * (r3 + 67108864 * r4)))) =
  ((0 + n0 * r0 + 5 * n1 * r4 + 5 * n2 * r3 + 5 * n3 * r2 + 5 * n4 * r1) + 67108864 * ((0 + n0 * r1 + n1 * r0 + 5 * n2 * r4 + 5 * n3 * r3 + 5 * n4 * r2) + 67108864 * ((0 + n0 * r2 + n1 * r1 + n2 * r0 + 5 * n3 * r4 + 5 * n4 * r3) + 67108864 * ((0 + n0 * r3 + n1 * r2 + n2 * r1 + n3 * r0 + 5 * n4 * r4) + 67108864 * (0 + n0 * r4 + n1 * r3 + n2 * r2 + n3 * r1 + n4 * r0)))))
  + ((n1 * r4 + n2 * r3 + n3 * r2 + n4 * r1) + 67108864 * ((n2 * r4 + n3 * r3 + n4 * r2) + 67108864 * ((n3 * r4 + n4 * r3) + 67108864 * (n4 * r4)))) * 1361129467683753853853498429727072845819 := by
  grind
theorem timesT_mod (n r : List Nat) (hn : n.length = 5) (hr : r.length = 5) : valN (timesT n r 5) % PN = valN n * valN r % PN := by
  obtain ⟨n0, n1, n2, n3, n4, rfl⟩ := list5 n hn
  obtain ⟨r0, r1, r2, r3, r4, rfl⟩ := list5 r hr
  have h : timesT [n0, n1, n2, n3, n4] [r0, r1, r2, r3, r4] 5 = [0 + n0 * r0 + 5 * n1 * r4 + 5 * n2 * r3 + 5 * n3 * r2 + 5 * n4 * r1, 0 + n0 * r1 + n1 * r0 + 5 * n2 * r4 + 5 * n3 * r3 + 5 * n4 * r2, 0 + n0 * r2 + n1 * r1 + n2 * r0 + 5 * n3 * r4 + 5 * n4 * r3, 0 + n0 * r3 + n1 * r2 + n2 * r1 + n3 * r0 + 5 * n4 * r4, 0 + n0 * r4 + n1 * r3 + n2 * r2 + n3 * r1 + n4 * r0] := by kernel_rfl
  rw [h]
  simp only [valN, List.getD_cons_zero, List.getD_cons_succ]
  rw [idT, show PN = 1361129467683753853853498429727072845819 from rfl, Nat.add_mul_mod_self_right]
theorem timesL_length (n r : List Nat) : (timesL n r).length = 5 := by rw [timesL, carryL_length, carryL_length, timesT_length]
theorem timesL_all (n r : List Nat) (hn : n.length = 5) (hr : r.length = 5) (bn : Bd 268435456 n) (br : Bd 67108864 r) : valN (timesL n r) % PN = valN n * valN r % PN ∧ Bd 67108868 (timesL n r) := by
  refine ⟨by rw [timesL, carryL_mod _ (by rw [carryL_length, timesT_length]), carryL_mod _ (timesT_length _ _ _), timesT_mod n r hn hr], ?_⟩
  have hb : Bd 4611686018427387904 (timesT n r 5) := (timesT_bd bn br 5).mono (by omega)
  obtain ⟨b0, b1, b2, b3, b4, e, h0, h1, h2, h3, h4⟩ := carryL_twice _ (timesT_length n r 5) hb
  rw [timesL, e]
  intro j
  rcases j with _ | _ | _ | _ | _ | j <;> simp <;> omega
end Go.Proofs.YtlocplkjokoknaaGreat

/- Numbers in limbs: what the program does with them. No condition but those each theorem states. -/
namespace Go.Proofs.YtlocplkjokoknaaGreat
set_option linter.unusedVariables false
set_option linter.unusedSimpArgs false
open Go.RowKit
attribute [local go_sem ↓] Go.wp_at_zero Go.wp_at_succ

theorem wrap_u64 (x : Nat) (h : x < 18446744073709551616) : IntKind.u64.wrap (x : Int) = (x : Int) := by rw [IntKind.wrap_u64]; omega
theorem wrap_u64_add (x y : Nat) (h : x + y < 18446744073709551616) : IntKind.u64.wrap ((x : Int) + (y : Int)) = ((x + y : Nat) : Int) := by rw [IntKind.wrap_u64]; omega
theorem wrap_u64_mul (x y : Nat) (h : x * y < 18446744073709551616) : IntKind.u64.wrap ((x : Int) * (y : Int)) = ((x * y : Nat) : Int) := by
  rw [← Int.natCast_mul]; exact wrap_u64 _ h
theorem wrap_i64' (x : Int) (h : -9223372036854775808 ≤ x ∧ x ≤ 9223372036854775807) : IntKind.i64.wrap x = x := by rw [IntKind.wrap_i64]; omega
theorem mask26 (x : Nat) (h : x < 18446744073709551616) : bits .and .u64 (x : Int) 67108863 = (x : Int) % 67108864 := by
  have := u64_and_nat x 67108863 h (by omega)
  rw [show ((67108863 : Nat) : Int) = 67108863 from rfl] at this
  rw [this, show (67108863 : Nat) = 2 ^ 26 - 1 from rfl, Nat.and_two_pow_sub_one_eq_mod]
  omega
theorem div26 (x : Nat) : (x : Int) / 67108864 = ((x / 67108864 : Nat) : Int) := by omega
def Z5 : List Nat := [0, 0, 0, 0, 0]
theorem zero5 : WN Z5 = #[.int .u64 0, .int .u64 0, .int .u64 0, .int .u64 0, .int .u64 0] := rfl

/-- Two rows of the call's own, behind one another, and the result's. -/
structure NW (w : World) (g : Nat) (l : List Nat) (W : World) : Prop where
  b : W.heap[g]? = some (.cells (WN l) 222 (0, 0))
  hg : w.heap.size ≤ g
  bel : Below w.heap.size w W
theorem NW.set {w W : World} {g : Nat} {l : List Nat} (h : NW w g l W) (i x : Nat) : NW w g (l.set i x) (W.setCell ⟨g, i, none⟩ (.int .u64 (x : Int))) where
  b := by rw [heap_setCell_same _ _ _ _ _ _ h.b, WN_set]
  hg := h.hg
  bel := h.bel.trans (grown_below (grown_set (World.grownBy.refl W (some g)) _ _) h.bel.size (by rintro k ⟨⟩; exact h.hg))
theorem NW.other {w W : World} {g k : Nat} {m : List Nat} (h : NW w k m W) (hne : k ≠ g) (hg : w.heap.size ≤ g) (i : Nat) (v : Value) : NW w k m (W.setCell ⟨g, i, none⟩ v) where
  b := grown_block (grown_set (World.grownBy.refl _ _) _ _) (by simp; exact hne) h.b
  hg := h.hg
  bel := h.bel.trans (grown_below (grown_set (World.grownBy.refl W (some g)) _ _) h.bel.size (by rintro k ⟨⟩; exact hg))
theorem NW.drew {w W : World} {g : Nat} {l : List Nat} (h : NW w g l W) : NW w g l W.drew := ⟨h.b, h.hg, h.bel.drew⟩
theorem NW.keep {w W W' : World} {g : Nat} {l : List Nat} (h : NW w g l W) (hb : Below W.heap.size W W') : NW w g l W' := ⟨below_block hb (row_lt h.b) h.b, h.hg, h.bel.trans (hb.mono h.bel.size)⟩
/-- A number is handed back. -/
theorem ret_number {w W W' : World} {g : Nat} {m : List Nat} (h : NW w g m W) (hg : W.grownBy W' (some g)) : Below w.heap.size w W' :=
  h.bel.trans (grown_below hg h.bel.size (by rintro k ⟨⟩; exact h.hg))
set_option maxRecDepth 100000 in
set_option maxHeartbeats 1000000 in
theorem nadd_any (n m : List Nat) (hn : n.length = 5) (hm : m.length = 5) (bn : Bd 4611686018427387904 n) (bm : Bd 4611686018427387904 m) (w : World) :
    Calls Tryz.prog 123 #[.agg (WN n), .agg (WN m)] w fun e w' => e = .returned (.agg (WN (addK n m 5))) ∧ Below w.heap.size w w' := by
  have HN := Lib.hid hn
  have HM := Lib.hid hm
  have BN := Lib.hid bn
  have BM := Lib.hid bm
  have Z5' := Lib.hid zero5
  clear hn hm bn bm
  go_enter Tryz.func123, Tryz.ntmps123
  go_wp2_with fail
  rw [← Z5'.out]
  obtain ⟨w1, hw1⟩ : ∃ w1, w1 = ((w.alloc (.cells (WN n) 222)).alloc (.cells (WN m) 222)).alloc (.cells (WN Z5) 222) := ⟨_, rfl⟩
  have S1 := Lib.hid (show NW w w.heap.size n w1 ∧ NW w (w.heap.size + 1) m w1 ∧ NW w (w.heap.size + 1 + 1) Z5 w1 by
    have hb : Below w.heap.size w w1 := by rw [hw1]; exact (((Below.refl _ _).alloc (Nat.le_refl _) _).alloc (by simp) _).alloc (by simp; omega) _
    rw [hw1] at hb ⊢
    exact ⟨⟨ha_old _ _ _ (by simp; omega) (ha_old _ _ _ (by simp) (ha_new _ _ _ rfl)), by omega, hb⟩, ⟨ha_old _ _ _ (by simp) (ha_new _ _ _ (by simp)), by omega, hb⟩, ⟨ha_new _ _ _ (by simp), by omega, hb⟩⟩)
  rw [← hw1]
  clear hw1
  go_loopw [6] (fun i wr => ∃ j : Nat, j ≤ 5 ∧ i = .int .i64 (j : Int) ∧ NW w w.heap.size (addK n m j) wr ∧ NW w (w.heap.size + 1) m wr ∧ NW w (w.heap.size + 1 + 1) Z5 wr) (fun i _ => 5 - (intOf i).toNat)
  case atStart => exact ⟨0, by omega, rfl, S1.out⟩
  case round =>
    obtain ⟨j, hj, rfl, hs⟩ := hrel
    have J := Lib.hid hj
    have S2 := Lib.hid hs
    have AL := Lib.hid (show (addK n m j).length = 5 by rw [addK_length, HN.out])
    clear hj hs S1
    by_cases hlt : j < 5
    · have hD : decide ((j : Int) < 5) = true := by simp; omega
      obtain ⟨x, hx⟩ : ∃ x, x = (addK n m j).getD j 0 := ⟨_, rfl⟩
      obtain ⟨y, hy⟩ : ∃ y, y = m.getD j 0 := ⟨_, rfl⟩
      have e1 := wrap_u64_add x y (by rw [hx, hy, addK_later _ _ _ _ (Nat.le_refl _)]; have := BN.out j; have := BM.out j; omega)
      have a1 := row_cell S2.out.1.b j (WN_get _ j (by rw [AL.out]; exact hlt))
      have f1 := row_free S2.out.1.b j
      have a2 := row_cell S2.out.2.1.b j (WN_get _ j (by rw [HM.out]; exact hlt))
      rw [← hx] at a1
      rw [← hy] at a2
      have X := Lib.hid hx
      have Y := Lib.hid hy
      have b1 : (j : Int) < 5 := by omega
      clear hx hy
      go_upto_region 4 with fail
      have A2 := Lib.hid a2
      refine wp_region_plan (fun W => W.cell? ⟨w.heap.size + 1, j, none⟩ = some (.int .u64 (y : Int))) [0, 1, 3, 4, 5] [2, 6, 7, 8] (by kernel_rfl) (by kernel_rfl) (fun _ _ d _ _ h => by cases d <;> exact h) (a2) ?_
      simp only [List.filterMap_cons, List.filterMap_nil, List.getElem?_toArray, List.getElem?_cons_zero, List.getElem?_cons_succ]
      refine planQ_cons (v := ?_) (by rfl) ?_ ?_
      rotate_left
      · intro W hW
        go_simp
        with_reducible rfl
      simp only [Act.put, List.setIfInBounds_toArray, List.set_cons_zero, List.set_cons_succ]
      refine planQ_cons (v := ?_) (by rfl) ?_ ?_
      rotate_left
      · intro W hW
        go_simp
        with_reducible rfl
      simp only [Act.put, List.setIfInBounds_toArray, List.set_cons_zero, List.set_cons_succ]
      refine planQ_cons (v := ?_) (by rfl) ?_ ?_
      rotate_left
      · intro W hW
        go_simp
        with_reducible rfl
      simp only [Act.put, List.setIfInBounds_toArray, List.set_cons_zero, List.set_cons_succ]
      refine planQ_cons (v := ?_) (by rfl) ?_ ?_
      rotate_left
      · intro W hW
        go_simp
        with_reducible rfl
      simp only [Act.put, List.setIfInBounds_toArray, List.set_cons_zero, List.set_cons_succ]
      refine planQ_cons (by rfl) (fun W hW => run_cell 36 (.tmp 13) rfl _ Tryz.underlying36 rfl rfl hW) ?_
      simp only [Act.put, List.setIfInBounds_toArray, List.set_cons_zero, List.set_cons_succ]
      refine planQ_nil ?_
      refine planT_val (by rfl) (A2.out) (run_cell 36 (.tmp 10) rfl _ Tryz.underlying36 rfl rfl a1) ?_
      simp only [Act.put, List.setIfInBounds_toArray, List.set_cons_zero, List.set_cons_succ]
      refine planT_val (v := ?_) (by rfl) (A2.out) ?_ ?_
      rotate_left
      · go_simp
        with_reducible rfl
      simp only [Act.put, List.setIfInBounds_toArray, List.set_cons_zero, List.set_cons_succ]
      refine planT_val (v := ?_) (by rfl) (A2.out) ?_ ?_
      rotate_left
      · go_simp
        with_reducible rfl
      simp only [Act.put, List.setIfInBounds_toArray, List.set_cons_zero, List.set_cons_succ]
      refine planT_cons (by rfl) (fun K hK => ?_)
      go_simp
      rw [show (x : Int) + (y : Int) = ((x + y : Nat) : Int) by omega]
      have S3 := Lib.hid (show NW w w.heap.size (addK n m (j + 1)) (wr.setCell ⟨w.heap.size, j, none⟩ (.int .u64 ((x + y : Nat) : Int))).drew ∧ NW w (w.heap.size + 1) m (wr.setCell ⟨w.heap.size, j, none⟩ (.int .u64 ((x + y : Nat) : Int))).drew ∧ NW w (w.heap.size + 1 + 1) Z5 (wr.setCell ⟨w.heap.size, j, none⟩ (.int .u64 ((x + y : Nat) : Int))).drew by
        rw [addK, ← X.out, ← Y.out]
        exact ⟨(S2.out.1.set j (x + y)).drew, (S2.out.2.1.other (by omega) (by omega) _ _).drew, (S2.out.2.2.other (by omega) (by omega) _ _).drew⟩)
      refine hK.out _ _ (by have := row_cell S3.out.2.1.b j (WN_get m j (by rw [HM.out]; exact hlt)); rw [← Y.out] at this; exact this) ?_
      clear hK K
      refine planT_nil ?_
      clear a1 f1 a2 e1
      go_wp2_with fail
      go_roundw
      case rel => exact ⟨j + 1, by omega, by go_num, S3.out.1, S3.out.2.1, S3.out.2.2⟩
      case measure => simp [intOf]; omega
    · have hj : Hid (j = 5) := show j = 5 by have := J.out; omega
      have hD : decide ((j : Int) < 5) = false := by simp; omega
      have S3 := Lib.hid (show NW w w.heap.size (addK n m 5) wr by have := S2.out.1; rw [hj.out] at this; exact this)
      have L3 := Lib.hid (show (addK n m 5).length = 5 by rw [addK_length, HN.out])
      obtain ⟨L, hL⟩ : ∃ L, L = addK n m 5 := ⟨_, rfl⟩
      rw [← hL] at S3 L3
      have HLL := Lib.hid hL
      have Z := Lib.hid (show (Tryz.prog.info? 222).map (·.size) = some (WN L).size by rw [WN_size, L3.out]; kernel_rfl)
      clear hL
      go_wp2_with (first
        | (refine wpList_load_row rfl 222 (.tmp 2) rfl w.heap.size rfl 222 (WN L) (0, 0) _ S3.out.b Tryz.underlying222 rfl Z.out ?_)
        | (refine wpList_store_whole rfl rfl 222 (.tmp 4) (.tmp 18) rfl (w.heap.size + 1 + 1) (WN L) rfl rfl 222 _ S2.out.2.2.b Z.out (by rw [WN_size, WN_size, L3.out]; rfl) (WN_one _) ?_; intro w8 hz8 hg8 _))
      exact bodyPost_ret (results_cell_row rfl _ _ (w.heap.size + 1 + 1) 222 (WN L) (0, 0) _ rfl hz8 Tryz.underlying222 rfl Z.out) rfl ⟨by rw [HLL.out], ret_number S2.out.2.2 hg8⟩
set_option maxRecDepth 100000 in
set_option maxHeartbeats 1000000 in
theorem ncarry_any (n : List Nat) (hn : n.length = 5) (bn : Bd 4611686018427387904 n) (w : World) :
    Calls Tryz.prog 136 #[.agg (WN n)] w fun e w' => e = .returned (.agg (WN (carryL n))) ∧ Below w.heap.size w w' := by
  have HN := Lib.hid hn
  have BN := Lib.hid bn
  have Z5' := Lib.hid zero5
  clear hn bn
  go_enter Tryz.func136, Tryz.ntmps136
  go_wp2_with fail
  rw [← Z5'.out]
  obtain ⟨w1, hw1⟩ : ∃ w1, w1 = (w.alloc (.cells (WN n) 222)).alloc (.cells (WN Z5) 222) := ⟨_, rfl⟩
  have S1 := Lib.hid (show NW w w.heap.size n w1 ∧ NW w (w.heap.size + 1) Z5 w1 by
    have hb : Below w.heap.size w w1 := by rw [hw1]; exact ((Below.refl _ _).alloc (Nat.le_refl _) _).alloc (by simp) _
    rw [hw1] at hb ⊢
    exact ⟨⟨ha_old _ _ _ (by simp) (ha_new _ _ _ rfl), by omega, hb⟩, ⟨ha_new _ _ _ (by simp), by omega, hb⟩⟩)
  rw [← hw1]
  clear hw1
  go_loopw [5] (fun i wr => ∃ j : Nat, j ≤ 5 ∧ i = .int .i64 (j : Int) ∧ NW w w.heap.size (carryK n j) wr ∧ NW w (w.heap.size + 1) Z5 wr) (fun i _ => 5 - (intOf i).toNat)
  case atStart => exact ⟨0, by omega, rfl, S1.out⟩
  case round =>
    obtain ⟨j, hj, rfl, hs⟩ := hrel
    have J := Lib.hid hj
    have S2 := Lib.hid hs
    clear hj hs S1
    by_cases hlt : j < 5
    · have hD : decide ((j : Int) < 5) = true := by simp; omega
      obtain ⟨q, hq⟩ : ∃ q, q = carryK n j := ⟨_, rfl⟩
      rw [← hq] at S2
      have QL := Lib.hid (show q.length = 5 by rw [hq, carryK_length, HN.out])
      have QB := Lib.hid (show Bd 9223372036854775808 q by rw [hq]; exact carryK_bd n HN.out BN.out j J.out)
      have QQ := Lib.hid hq
      obtain ⟨x, hx⟩ : ∃ x, x = q.getD j 0 := ⟨_, rfl⟩
      have hxb : x ≤ 9223372036854775808 := by rw [hx]; exact QB.out j
      have e1 := mask26 x (by omega)
      have a1 := row_cell S2.out.1.b j (WN_get _ j (by rw [QL.out]; exact hlt))
      have f1 := row_free S2.out.1.b j
      rw [← hx] at a1
      have X := Lib.hid hx
      have b1 : (j : Int) < 5 := by omega
      clear hx hq
      go_upto_region 6 with fail
      clear a1 f1 e1
      obtain ⟨c, hc⟩ : ∃ c, c = x / 67108864 := ⟨_, rfl⟩
      rw [show (x : Int) % 67108864 = ((x % 67108864 : Nat) : Int) by omega, show (x : Int) / 67108864 = (c : Int) by omega]
      obtain ⟨w2, hw2⟩ : ∃ w2, w2 = wr.setCell ⟨w.heap.size, j, none⟩ (.int .u64 ((x % 67108864 : Nat) : Int)) := ⟨_, rfl⟩
      obtain ⟨p, hp⟩ : ∃ p, p = q.set j (x % 67108864) := ⟨_, rfl⟩
      have S3 := Lib.hid (show NW w w.heap.size p w2 ∧ NW w (w.heap.size + 1) Z5 w2 by rw [hw2, hp]; exact ⟨S2.out.1.set j _, S2.out.2.other (by omega) (by omega) _ _⟩)
      rw [← hw2]
      have C := Lib.hid hc
      have cb : c ≤ 137438953472 := by omega
      have PL := Lib.hid (show p.length = 5 by rw [hp, List.length_set, QL.out])
      have PB := Lib.hid (show Bd 9223372036854775808 p by rw [hp]; exact Bd.set QB.out (by omega))
      have PP := Lib.hid hp
      clear hw2 hp hc S2 hxb
      by_cases h4 : j + 1 < 5
      · have hE : decide ((j : Int) + 1 < 5) = true := by simp; omega
        obtain ⟨y, hy⟩ : ∃ y, y = p.getD (j + 1) 0 := ⟨_, rfl⟩
        have hyb : y ≤ 9223372036854775808 := by rw [hy]; exact PB.out _
        have a2 := row_cell S3.out.1.b (j + 1) (WN_get _ (j + 1) (by rw [PL.out]; exact h4))
        have f2 := row_free S3.out.1.b (j + 1)
        rw [← hy] at a2
        have Y := Lib.hid hy
        have b2 : (j : Int) + 1 < 5 := by omega
        have b3 : (y : Int) + (c : Int) ≤ 18446744073709551615 := by omega
        have e2 : ((j : Int) + 1).toNat = j + 1 := by omega
        clear hy
        go_wp2_with fail
        go_roundw
        case rel =>
          refine ⟨j + 1, by omega, by go_num, ?_⟩
          rw [show (y : Int) + (c : Int) = ((y + c : Nat) : Int) by omega]
          have e : carryK n (j + 1) = p.set (j + 1) (y + c) := by
            rw [carryK]
            rw [if_pos h4, ← QQ.out, ← X.out, ← PP.out, ← Y.out, ← C.out]
          rw [e]
          exact ⟨S3.out.1.set _ _, S3.out.2.other (by omega) (by omega) _ _⟩
        case measure => simp [intOf]; omega
      · have hE : decide ((j : Int) + 1 < 5) = false := by simp; omega
        obtain ⟨y, hy⟩ : ∃ y, y = p.getD 0 0 := ⟨_, rfl⟩
        have hyb : y ≤ 9223372036854775808 := by rw [hy]; exact PB.out _
        have a2 := row_cell S3.out.1.b 0 (WN_get _ 0 (by rw [PL.out]; omega))
        have f2 := row_free S3.out.1.b 0
        rw [← hy] at a2
        have Y := Lib.hid hy
        have b3 : (y : Int) + 5 * (c : Int) ≤ 18446744073709551615 := by omega
        have b4 : 5 * (c : Int) ≤ 18446744073709551615 := by omega
        clear hy
        go_wp2_with fail
        go_roundw
        case rel =>
          refine ⟨j + 1, by omega, by go_num, ?_⟩
          rw [show (y : Int) + 5 * (c : Int) = ((y + 5 * c : Nat) : Int) by omega]
          have e : carryK n (j + 1) = p.set 0 (y + 5 * c) := by
            rw [carryK]
            rw [if_neg h4, ← QQ.out, ← X.out, ← PP.out, ← Y.out, ← C.out]
          rw [e]
          exact ⟨S3.out.1.set _ _, S3.out.2.other (by omega) (by omega) _ _⟩
        case measure => simp [intOf]; omega
    · have hj : Hid (j = 5) := show j = 5 by have := J.out; omega
      have hD : decide ((j : Int) < 5) = false := by simp; omega
      have S3 := Lib.hid (show NW w w.heap.size (carryL n) wr by have := S2.out.1; rw [hj.out] at this; exact this)
      have L3 := Lib.hid (show (carryL n).length = 5 by rw [carryL_length, HN.out])
      obtain ⟨L, hL⟩ : ∃ L, L = carryL n := ⟨_, rfl⟩
      rw [← hL] at S3 L3
      have HLL := Lib.hid hL
      have Z := Lib.hid (show (Tryz.prog.info? 222).map (·.size) = some (WN L).size by rw [WN_size, L3.out]; kernel_rfl)
      clear hL
      go_wp2_with (first
        | (refine wpList_load_row rfl 222 (.tmp 1) rfl w.heap.size rfl 222 (WN L) (0, 0) _ S3.out.b Tryz.underlying222 rfl Z.out ?_)
        | (refine wpList_store_whole rfl rfl 222 (.tmp 2) (.tmp 34) rfl (w.heap.size + 1) (WN L) rfl rfl 222 _ S2.out.2.b Z.out (by rw [WN_size, WN_size, L3.out]; rfl) (WN_one _) ?_; intro w8 hz8 hg8 _))
      exact bodyPost_ret (results_cell_row rfl _ _ (w.heap.size + 1) 222 (WN L) (0, 0) _ rfl hz8 Tryz.underlying222 rfl Z.out) rfl ⟨by rw [HLL.out], ret_number S2.out.2 hg8⟩
end Go.Proofs.YtlocplkjokoknaaGreat

/- Numbers in limbs: a product, and the least one. No condition but those each theorem states. -/
namespace Go.Proofs.YtlocplkjokoknaaGreat
set_option linter.unusedVariables false
set_option linter.unusedSimpArgs false
open Go.RowKit
attribute [local go_sem ↓] Go.wp_at_zero Go.wp_at_succ

theorem carryL_bd (n : List Nat) (hn : n.length = 5) (h : Bd 4611686018427387904 n) : Bd 4611686018427387904 (carryL n) := by
  obtain ⟨b0, b1, b2, b3, b4, c4, e, h0, h1, h2, h3, h4, hc⟩ := carryL_once n hn h
  rw [e]
  intro j
  rcases j with _ | _ | _ | _ | _ | j <;> simp <;> omega
/-- What stands while a product is made. -/
structure TmW (w : World) (n r acc : List Nat) (W : World) : Prop where
  bn : NW w w.heap.size n W
  br : NW w (w.heap.size + 1) r W
  bz : NW w (w.heap.size + 1 + 1) Z5 W
  ba : NW w (w.heap.size + 1 + 1 + 1) acc W
theorem TmW.set {w W : World} {n r acc : List Nat} (h : TmW w n r acc W) (i x : Nat) : TmW w n r (acc.set i x) (W.setCell ⟨w.heap.size + 1 + 1 + 1, i, none⟩ (.int .u64 (x : Int))).drew where
  bn := (h.bn.other (by omega) (by omega) _ _).drew
  br := (h.br.other (by omega) (by omega) _ _).drew
  bz := (h.bz.other (by omega) (by omega) _ _).drew
  ba := (h.ba.set i x).drew
set_option maxRecDepth 100000 in
set_option maxHeartbeats 2000000 in
theorem ntimes_any (n r : List Nat) (hn : n.length = 5) (hr : r.length = 5) (bn : Bd 268435456 n) (br : Bd 67108864 r) (w : World) :
    Calls Tryz.prog 124 #[.agg (WN n), .agg (WN r)] w fun e w' => e = .returned (.agg (WN (timesL n r))) ∧ Below w.heap.size w w' := by
  have HN := Lib.hid hn
  have HR := Lib.hid hr
  have BN := Lib.hid bn
  have BR := Lib.hid br
  have Z5' := Lib.hid zero5
  clear hn hr bn br
  go_enter Tryz.func124, Tryz.ntmps124
  go_wp2_with fail
  rw [← Z5'.out]
  obtain ⟨w1, hw1⟩ : ∃ w1, w1 = (((w.alloc (.cells (WN n) 222)).alloc (.cells (WN r) 222)).alloc (.cells (WN Z5) 222)).alloc (.cells (WN Z5) 222) := ⟨_, rfl⟩
  have S1 := Lib.hid (show TmW w n r (timesT n r 0) w1 by
    have hb : Below w.heap.size w w1 := by rw [hw1]; exact ((((Below.refl _ _).alloc (Nat.le_refl _) _).alloc (by simp) _).alloc (by simp <;> omega) _).alloc (by simp <;> omega) _
    rw [hw1] at hb ⊢
    exact ⟨⟨ha_old _ _ _ (by simp <;> omega) (ha_old _ _ _ (by simp <;> omega) (ha_old _ _ _ (by simp) (ha_new _ _ _ rfl))), by omega, hb⟩, ⟨ha_old _ _ _ (by simp <;> omega) (ha_old _ _ _ (by simp) (ha_new _ _ _ (by simp))), by omega, hb⟩, ⟨ha_old _ _ _ (by simp) (ha_new _ _ _ (by simp)), by omega, hb⟩, ⟨ha_new _ _ _ (by simp), by omega, hb⟩⟩)
  rw [← hw1]
  clear hw1
  go_loopw [8] (fun u wr => ∃ i : Nat, i ≤ 5 ∧ u = .int .i64 (i : Int) ∧ TmW w n r (timesT n r i) wr) (fun u _ => 5 - (intOf u).toNat)
  case atStart => exact ⟨0, by omega, rfl, S1.out⟩
  case round =>
    obtain ⟨i, hi, rfl, hs⟩ := hrel
    have I := Lib.hid hi
    have S2 := Lib.hid hs
    clear hi hs S1
    by_cases hlt : i < 5
    · have hD : decide ((i : Int) < 5) = true := by simp; omega
      obtain ⟨wo, rfl⟩ : ∃ wo : World, wo = wr := ⟨_, rfl⟩
      go_wp2_with fail
      go_loopw [11] (fun u wr => ∃ k : Nat, k ≤ 5 ∧ u = .int .i64 (k : Int) ∧ TmW w n r (rowT n r (timesT n r i) i k) wr) (fun u _ => 5 - (intOf u).toNat)
      case atStart => exact ⟨0, by omega, rfl, S2.out⟩
      case round =>
        obtain ⟨k, hk, rfl, hs⟩ := hrel
        have KK := Lib.hid hk
        have S3 := Lib.hid hs
        clear hk hs S2
        by_cases hlk : k < 5
        · have hE : decide ((k : Int) < 5) = true := by simp; omega
          obtain ⟨acc, hacc⟩ : ∃ acc, acc = rowT n r (timesT n r i) i k := ⟨_, rfl⟩
          rw [← hacc] at S3
          have AA := Lib.hid hacc
          have AL := Lib.hid (show acc.length = 5 by rw [hacc, rowT_length, timesT_length])
          have AB := Lib.hid (show Bd 4611686018427387904 acc by rw [hacc]; exact (rowT_bd BN.out BR.out (timesT_bd BN.out BR.out i) i k).mono (by omega))
          obtain ⟨x, hx⟩ : ∃ x, x = n.getD i 0 := ⟨_, rfl⟩
          obtain ⟨y, hy⟩ : ∃ y, y = r.getD k 0 := ⟨_, rfl⟩
          have hp := prod_bd BN.out BR.out i k
          rw [← hx, ← hy] at hp
          have a1 := row_cell S3.out.bn.b i (WN_get _ i (by rw [HN.out]; exact hlt))
          have a2 := row_cell S3.out.br.b k (WN_get _ k (by rw [HR.out]; exact hlk))
          rw [← hx] at a1
          rw [← hy] at a2
          have hxb : x ≤ 268435456 := by rw [hx]; exact BN.out i
          have X := Lib.hid hx
          have Y := Lib.hid hy
          have A12 := Lib.hid (And.intro a1 a2)
          have b1 : (i : Int) < 5 := by omega
          have b2 : (k : Int) < 5 := by omega
          have e0 := wrap_i64' ((i : Int) + (k : Int)) (by omega)
          have b0 : (0 : Int) ≤ (i : Int) + (k : Int) := by omega
          have e1 := wrap_u64_mul x y (by omega)
          rw [Int.natCast_mul] at e1
          clear hacc hx hy
          by_cases h5 : i + k < 5
          · have hF : decide ((i : Int) + (k : Int) < 5) = true := by simp; omega
            have b3 : (i : Int) + (k : Int) < 5 := by omega
            have e3 : ((i : Int) + (k : Int)).toNat = i + k := by omega
            obtain ⟨o, ho⟩ : ∃ o, o = acc.getD (i + k) 0 := ⟨_, rfl⟩
            have a3 := row_cell S3.out.ba.b (i + k) (WN_get _ (i + k) (by rw [AL.out]; exact h5))
            have f3 := row_free S3.out.ba.b (i + k)
            rw [← ho] at a3
            have e2 := wrap_u64 (o + x * y) (by have := AB.out (i + k); omega)
            rw [Int.natCast_add, Int.natCast_mul] at e2
            have O := Lib.hid ho
            clear ho a1 a2
            go_upto_region 9 with fail
            refine wp_region_plan (fun W => W.cell? ⟨w.heap.size, i, none⟩ = some (.int .u64 (x : Int)) ∧ W.cell? ⟨w.heap.size + 1, k, none⟩ = some (.int .u64 (y : Int))) [0, 1, 2, 3, 5, 6, 7, 8, 9, 10, 11] [4, 12, 13, 14] (by kernel_rfl) (by kernel_rfl) (fun _ _ d _ _ h => by cases d <;> exact h) (A12.out) ?_
            simp only [List.filterMap_cons, List.filterMap_nil, List.getElem?_toArray, List.getElem?_cons_zero, List.getElem?_cons_succ]
            refine planQ_cons (v := ?_) (by rfl) ?_ ?_
            rotate_left
            · intro W hW
              go_simp
              with_reducible rfl
            simp only [Act.put, List.setIfInBounds_toArray, List.set_cons_zero, List.set_cons_succ]
            refine planQ_cons (v := ?_) (by rfl) ?_ ?_
            rotate_left
            · intro W hW
              go_simp
              with_reducible rfl
            simp only [Act.put, List.setIfInBounds_toArray, List.set_cons_zero, List.set_cons_succ]
            refine planQ_cons (v := ?_) (by rfl) ?_ ?_
            rotate_left
            · intro W hW
              go_simp
              with_reducible rfl
            simp only [Act.put, List.setIfInBounds_toArray, List.set_cons_zero, List.set_cons_succ]
            refine planQ_cons (v := ?_) (by rfl) ?_ ?_
            rotate_left
            · intro W hW
              go_simp
              with_reducible rfl
            simp only [Act.put, List.setIfInBounds_toArray, List.set_cons_zero, List.set_cons_succ]
            refine planQ_cons (v := ?_) (by rfl) ?_ ?_
            rotate_left
            · intro W hW
              go_simp
              with_reducible rfl
            simp only [Act.put, List.setIfInBounds_toArray, List.set_cons_zero, List.set_cons_succ]
            refine planQ_cons (v := ?_) (by rfl) ?_ ?_
            rotate_left
            · intro W hW
              go_simp
              with_reducible rfl
            simp only [Act.put, List.setIfInBounds_toArray, List.set_cons_zero, List.set_cons_succ]
            refine planQ_cons (by rfl) (fun W hW => run_cell 36 (.tmp 24) rfl _ Tryz.underlying36 rfl rfl hW.1) ?_
            simp only [Act.put, List.setIfInBounds_toArray, List.set_cons_zero, List.set_cons_succ]
            refine planQ_cons (v := ?_) (by rfl) ?_ ?_
            rotate_left
            · intro W hW
              go_simp
              with_reducible rfl
            simp only [Act.put, List.setIfInBounds_toArray, List.set_cons_zero, List.set_cons_succ]
            refine planQ_cons (v := ?_) (by rfl) ?_ ?_
            rotate_left
            · intro W hW
              go_simp
              with_reducible rfl
            simp only [Act.put, List.setIfInBounds_toArray, List.set_cons_zero, List.set_cons_succ]
            refine planQ_cons (by rfl) (fun W hW => run_cell 36 (.tmp 27) rfl _ Tryz.underlying36 rfl rfl hW.2) ?_
            simp only [Act.put, List.setIfInBounds_toArray, List.set_cons_zero, List.set_cons_succ]
            refine planQ_cons (v := ?_) (by rfl) ?_ ?_
            rotate_left
            · intro W hW
              go_simp
              with_reducible rfl
            simp only [Act.put, List.setIfInBounds_toArray, List.set_cons_zero, List.set_cons_succ]
            refine planQ_nil ?_
            refine planT_val (by rfl) (A12.out) (run_cell 36 (.tmp 21) rfl _ Tryz.underlying36 rfl rfl a3) ?_
            simp only [Act.put, List.setIfInBounds_toArray, List.set_cons_zero, List.set_cons_succ]
            refine planT_val (v := ?_) (by rfl) (A12.out) ?_ ?_
            rotate_left
            · go_simp
              with_reducible rfl
            simp only [Act.put, List.setIfInBounds_toArray, List.set_cons_zero, List.set_cons_succ]
            refine planT_val (v := ?_) (by rfl) (A12.out) ?_ ?_
            rotate_left
            · go_simp
              with_reducible rfl
            simp only [Act.put, List.setIfInBounds_toArray, List.set_cons_zero, List.set_cons_succ]
            refine planT_cons (by rfl) (fun K hK => ?_)
            go_simp
            rw [show (o : Int) + (x : Int) * (y : Int) = ((o + x * y : Nat) : Int) by rw [Int.natCast_add, Int.natCast_mul]]
            have S4 := Lib.hid (S3.out.set (i + k) (o + x * y))
            refine hK.out _ _ (⟨(row_cell S4.out.bn.b i (WN_get _ i (by rw [HN.out]; exact hlt))).trans (by rw [X.out]), (row_cell S4.out.br.b k (WN_get _ k (by rw [HR.out]; exact hlk))).trans (by rw [Y.out])⟩) ?_
            clear hK K
            refine planT_nil ?_
            clear a3 f3 e0 e1 e2 e3
            go_wp2_with fail
            go_roundw
            case rel =>
              refine ⟨k + 1, by omega, by go_num, ?_⟩
              rw [rowT, stepT, if_pos h5, ← AA.out, ← O.out, ← X.out, ← Y.out]
              exact S4.out
            case measure => simp [intOf]; omega
          · have hF : decide ((i : Int) + (k : Int) < 5) = false := by simp; omega
            have b3 : (i : Int) + (k : Int) - 5 < 5 := by omega
            have b4 : (0 : Int) ≤ (i : Int) + (k : Int) - 5 := by omega
            have b5 : (5 : Int) ≤ (i : Int) + (k : Int) := by omega
            have e3 : ((i : Int) + (k : Int) - 5).toNat = i + k - 5 := by omega
            have e4 := wrap_i64' ((i : Int) + (k : Int) - 5) (by omega)
            obtain ⟨o, ho⟩ : ∃ o, o = acc.getD (i + k - 5) 0 := ⟨_, rfl⟩
            have a3 := row_cell S3.out.ba.b (i + k - 5) (WN_get _ (i + k - 5) (by rw [AL.out]; omega))
            have f3 := row_free S3.out.ba.b (i + k - 5)
            rw [← ho] at a3
            have e2 := wrap_u64 (o + 5 * x * y) (by have := AB.out (i + k - 5); omega)
            rw [Int.natCast_add, Int.natCast_mul, Int.natCast_mul] at e2
            have e5 := wrap_u64 (5 * x * y) (by omega)
            rw [Int.natCast_mul, Int.natCast_mul] at e5
            have e6 := wrap_u64 (5 * x) (by omega)
            rw [Int.natCast_mul] at e6
            have c5 : ((5 : Nat) : Int) = 5 := rfl
            rw [c5] at e2 e5 e6
            have O := Lib.hid ho
            clear ho a1 a2 c5
            go_upto_region 10 with fail
            refine wp_region_plan (fun W => W.cell? ⟨w.heap.size, i, none⟩ = some (.int .u64 (x : Int)) ∧ W.cell? ⟨w.heap.size + 1, k, none⟩ = some (.int .u64 (y : Int))) [0, 1, 2, 3, 4, 6, 7, 8, 9, 10, 11, 12, 13] [5, 14, 15, 16] (by kernel_rfl) (by kernel_rfl) (fun _ _ d _ _ h => by cases d <;> exact h) (A12.out) ?_
            simp only [List.filterMap_cons, List.filterMap_nil, List.getElem?_toArray, List.getElem?_cons_zero, List.getElem?_cons_succ]
            refine planQ_cons (v := ?_) (by rfl) ?_ ?_
            rotate_left
            · intro W hW
              go_simp
              with_reducible rfl
            simp only [Act.put, List.setIfInBounds_toArray, List.set_cons_zero, List.set_cons_succ]
            refine planQ_cons (v := ?_) (by rfl) ?_ ?_
            rotate_left
            · intro W hW
              go_simp
              with_reducible rfl
            simp only [Act.put, List.setIfInBounds_toArray, List.set_cons_zero, List.set_cons_succ]
            refine planQ_cons (v := ?_) (by rfl) ?_ ?_
            rotate_left
            · intro W hW
              go_simp
              with_reducible rfl
            simp only [Act.put, List.setIfInBounds_toArray, List.set_cons_zero, List.set_cons_succ]
            refine planQ_cons (v := ?_) (by rfl) ?_ ?_
            rotate_left
            · intro W hW
              go_simp
              with_reducible rfl
            simp only [Act.put, List.setIfInBounds_toArray, List.set_cons_zero, List.set_cons_succ]
            refine planQ_cons (v := ?_) (by rfl) ?_ ?_
            rotate_left
            · intro W hW
              go_simp
              with_reducible rfl
            simp only [Act.put, List.setIfInBounds_toArray, List.set_cons_zero, List.set_cons_succ]
            refine planQ_cons (v := ?_) (by rfl) ?_ ?_
            rotate_left
            · intro W hW
              go_simp
              with_reducible rfl
            simp only [Act.put, List.setIfInBounds_toArray, List.set_cons_zero, List.set_cons_succ]
            refine planQ_cons (v := ?_) (by rfl) ?_ ?_
            rotate_left
            · intro W hW
              go_simp
              with_reducible rfl
            simp only [Act.put, List.setIfInBounds_toArray, List.set_cons_zero, List.set_cons_succ]
            refine planQ_cons (by rfl) (fun W hW => run_cell 36 (.tmp 39) rfl _ Tryz.underlying36 rfl rfl hW.1) ?_
            simp only [Act.put, List.setIfInBounds_toArray, List.set_cons_zero, List.set_cons_succ]
            refine planQ_cons (v := ?_) (by rfl) ?_ ?_
            rotate_left
            · intro W hW
              go_simp
              with_reducible rfl
            simp only [Act.put, List.setIfInBounds_toArray, List.set_cons_zero, List.set_cons_succ]
            refine planQ_cons (v := ?_) (by rfl) ?_ ?_
            rotate_left
            · intro W hW
              go_simp
              with_reducible rfl
            simp only [Act.put, List.setIfInBounds_toArray, List.set_cons_zero, List.set_cons_succ]
            refine planQ_cons (v := ?_) (by rfl) ?_ ?_
            rotate_left
            · intro W hW
              go_simp
              with_reducible rfl
            simp only [Act.put, List.setIfInBounds_toArray, List.set_cons_zero, List.set_cons_succ]
            refine planQ_cons (by rfl) (fun W hW => run_cell 36 (.tmp 43) rfl _ Tryz.underlying36 rfl rfl hW.2) ?_
            simp only [Act.put, List.setIfInBounds_toArray, List.set_cons_zero, List.set_cons_succ]
            refine planQ_cons (v := ?_) (by rfl) ?_ ?_
            rotate_left
            · intro W hW
              go_simp
              with_reducible rfl
            simp only [Act.put, List.setIfInBounds_toArray, List.set_cons_zero, List.set_cons_succ]
            refine planQ_nil ?_
            refine planT_val (by rfl) (A12.out) (run_cell 36 (.tmp 36) rfl _ Tryz.underlying36 rfl rfl a3) ?_
            simp only [Act.put, List.setIfInBounds_toArray, List.set_cons_zero, List.set_cons_succ]
            refine planT_val (v := ?_) (by rfl) (A12.out) ?_ ?_
            rotate_left
            · go_simp
              with_reducible rfl
            simp only [Act.put, List.setIfInBounds_toArray, List.set_cons_zero, List.set_cons_succ]
            refine planT_val (v := ?_) (by rfl) (A12.out) ?_ ?_
            rotate_left
            · go_simp
              with_reducible rfl
            simp only [Act.put, List.setIfInBounds_toArray, List.set_cons_zero, List.set_cons_succ]
            refine planT_cons (by rfl) (fun K hK => ?_)
            go_simp
            rw [show (o : Int) + 5 * (x : Int) * (y : Int) = ((o + 5 * x * y : Nat) : Int) by rw [Int.natCast_add, Int.natCast_mul, Int.natCast_mul]; rfl]
            have S4 := Lib.hid (S3.out.set (i + k - 5) (o + 5 * x * y))
            refine hK.out _ _ (⟨(row_cell S4.out.bn.b i (WN_get _ i (by rw [HN.out]; exact hlt))).trans (by rw [X.out]), (row_cell S4.out.br.b k (WN_get _ k (by rw [HR.out]; exact hlk))).trans (by rw [Y.out])⟩) ?_
            clear hK K
            refine planT_nil ?_
            clear a3 f3 e0 e1 e2 e3 e4 e5 e6
            go_wp2_with fail
            go_roundw
            case rel =>
              refine ⟨k + 1, by omega, by go_num, ?_⟩
              rw [rowT, stepT, if_neg h5, ← AA.out, ← O.out, ← X.out, ← Y.out]
              exact S4.out
            case measure => simp [intOf]; omega
        · have hk5 : Hid (k = 5) := show k = 5 by have := KK.out; omega
          have hE : decide ((k : Int) < 5) = false := by simp; omega
          go_wp2_with fail
          go_roundw
          case rel =>
            refine ⟨i + 1, by omega, by go_num, ?_⟩
            rw [timesT, ← hk5.out]
            exact S3.out
          case measure => simp [intOf]; omega
    · have hi : Hid (i = 5) := show i = 5 by have := I.out; omega
      have hD : decide ((i : Int) < 5) = false := by simp; omega
      have L1 := Lib.hid (timesT_bd BN.out BR.out 5)
      obtain ⟨t, ht⟩ : ∃ t, t = timesT n r i := ⟨_, rfl⟩
      rw [← ht] at S2
      have TT := Lib.hid (show t = timesT n r 5 by rw [ht, hi.out])
      have TL := Lib.hid (show t.length = 5 by rw [ht, timesT_length])
      have TB := Lib.hid (show Bd 4611686018427387904 t by rw [TT.out]; exact L1.out.mono (by omega))
      have Z := Lib.hid (show (Tryz.prog.info? 222).map (·.size) = some (WN t).size by rw [WN_size, TL.out]; kernel_rfl)
      clear ht
      go_wp2_with (refine wpList_load_row rfl 222 (.tmp 5) rfl (w.heap.size + 1 + 1 + 1) rfl 222 (WN t) (0, 0) _ S2.out.ba.b Tryz.underlying222 rfl Z.out ?_)
      refine (ncarry_any t TL.out TB.out _).mono ?_
      rintro e w2 ⟨rfl, hb2⟩
      have B2 := Lib.hid hb2
      clear hb2
      obtain ⟨t2, ht2⟩ : ∃ t2, t2 = carryL t := ⟨_, rfl⟩
      rw [← ht2]
      have TL2 := Lib.hid (show t2.length = 5 by rw [ht2, carryL_length, TL.out])
      have TB2 := Lib.hid (show Bd 4611686018427387904 t2 by rw [ht2]; exact carryL_bd t TL.out TB.out)
      have TT2 := Lib.hid ht2
      clear ht2
      go_wp2_with fail
      refine (ncarry_any t2 TL2.out TB2.out _).mono ?_
      rintro e w3 ⟨rfl, hb3⟩
      have B3 := Lib.hid (B2.out.trans (hb3.mono B2.out.size))
      clear hb3
      obtain ⟨L, hL⟩ : ∃ L, L = carryL t2 := ⟨_, rfl⟩
      rw [← hL]
      have L3 := Lib.hid (show L.length = 5 by rw [hL, carryL_length, TL2.out])
      have HLL := Lib.hid (show L = timesL n r by rw [hL, TT2.out, TT.out, timesL])
      have Z2 := Lib.hid (show (Tryz.prog.info? 222).map (·.size) = some (WN L).size by rw [WN_size, L3.out]; kernel_rfl)
      have S3 := Lib.hid (S2.out.bz.keep B3.out)
      clear hL
      go_wp2_with (refine wpList_store_whole rfl rfl 222 (.tmp 4) (.tmp 52) rfl (w.heap.size + 1 + 1) (WN L) rfl rfl 222 _ S3.out.b Z2.out (by rw [WN_size, WN_size, L3.out]; rfl) (WN_one _) ?_; intro w8 hz8 hg8 _)
      exact bodyPost_ret (results_cell_row rfl _ _ (w.heap.size + 1 + 1) 222 (WN L) (0, 0) _ rfl hz8 Tryz.underlying222 rfl Z2.out) rfl ⟨by rw [HLL.out], ret_number S3.out hg8⟩
/-! ### the least one -/
def leastK (m : List Nat) : Nat → List Nat
  | 0 => m
  | i + 1 => ((leastK m i).set (i + 1) ((leastK m i).getD (i + 1) 0 + (leastK m i).getD i 0 / 67108864)).set i ((leastK m i).getD i 0 % 67108864)
theorem leastK_length (n : List Nat) (i : Nat) : (leastK n i).length = n.length := by
  induction i with
  | zero => rfl
  | succ i ih => simp [leastK, ih]
def limbsN (x : Nat) : List Nat := [x % 67108864, x / 67108864 % 67108864, x / 4503599627370496 % 67108864, x / 302231454903657293676544 % 67108864, x / 20282409603651670423947251286016 % 67108864]
theorem limbs_val (b0 b1 b2 b3 b4 : Nat) (h0 : b0 < 67108864) (h1 : b1 < 67108864) (h2 : b2 < 67108864) (h3 : b3 < 67108864) (h4 : b4 < 67108864) : [b0, b1, b2, b3, b4] = limbsN (valN [b0, b1, b2, b3, b4]) := by
  simp only [limbsN, valN, List.getD_cons_zero, List.getD_cons_succ]
  congr 1
  · omega
  congr 1
  · omega
  congr 1
  · omega
  congr 1
  · omega
  congr 1
  omega
theorem limbs_lt (b0 b1 b2 b3 b4 : Nat) (h0 : b0 < 67108864) (h1 : b1 < 67108864) (h2 : b2 < 67108864) (h3 : b3 < 67108864) (h4 : b4 < 67108864) : valN [b0, b1, b2, b3, b4] < 1361129467683753853853498429727072845824 := by
  simp only [valN, List.getD_cons_zero, List.getD_cons_succ]
  omega
/-- What 'least' has after the loop, of small limbs. -/
theorem leastK_form (b0 b1 b2 b3 b4 : Nat) (h0 : b0 < 67108864) (h1 : b1 < 67108864) (h2 : b2 < 67108864) (h3 : b3 < 67108864) (h4 : b4 < 67108864) :
    ∃ c0 c1 c2 c3 c4, leastK [b0 + 5, b1, b2, b3, b4] 4 = [c0, c1, c2, c3, c4] ∧ c0 < 67108864 ∧ c1 < 67108864 ∧ c2 < 67108864 ∧ c3 < 67108864 ∧ c4 ≤ 67108864 ∧ valN [c0, c1, c2, c3, c4] = valN [b0, b1, b2, b3, b4] + 5 := by
  refine ⟨(b0 + 5) % 67108864, (b1 + (b0 + 5) / 67108864) % 67108864, (b2 + (b1 + (b0 + 5) / 67108864) / 67108864) % 67108864, (b3 + (b2 + (b1 + (b0 + 5) / 67108864) / 67108864) / 67108864) % 67108864, b4 + (b3 + (b2 + (b1 + (b0 + 5) / 67108864) / 67108864) / 67108864) / 67108864, rfl, ?_⟩
  obtain ⟨d0, hd0⟩ : ∃ d, d = (b0 + 5) / 67108864 := ⟨_, rfl⟩
  rw [← hd0]
  obtain ⟨d1, hd1⟩ : ∃ d, d = (b1 + d0) / 67108864 := ⟨_, rfl⟩
  rw [← hd1]
  obtain ⟨d2, hd2⟩ : ∃ d, d = (b2 + d1) / 67108864 := ⟨_, rfl⟩
  rw [← hd2]
  obtain ⟨d3, hd3⟩ : ∃ d, d = (b3 + d2) / 67108864 := ⟨_, rfl⟩
  rw [← hd3]
  refine ⟨by omega, by omega, by omega, by omega, by omega, ?_⟩
  simp only [valN, List.getD_cons_zero, List.getD_cons_succ]
  omega
def leastL (n : List Nat) : List Nat :=
  let a := carryL (carryL n)
  let m := leastK (a.set 0 (a.getD 0 0 + 5)) 4
  if m.getD 4 0 / 67108864 = 0 then a else m.set 4 (m.getD 4 0 % 67108864)
theorem leastL_all (n : List Nat) (hn : n.length = 5) (h : Bd 67108868 n) : leastL n = limbsN (valN n % PN) := by
  have hv : valN (carryL (carryL n)) % PN = valN n % PN := by rw [carryL_mod _ (by rw [carryL_length]; exact hn), carryL_mod _ hn]
  obtain ⟨b0, b1, b2, b3, b4, e, h0, h1, h2, h3, h4⟩ := carryL_small n hn h
  obtain ⟨c0, c1, c2, c3, c4, e2, g0, g1, g2, g3, g4, gv⟩ := leastK_form b0 b1 b2 b3 b4 h0 h1 h2 h3 h4
  have hlt := limbs_lt b0 b1 b2 b3 b4 h0 h1 h2 h3 h4
  rw [e] at hv
  unfold leastL
  rw [e]
  have e3 : leastK ([b0, b1, b2, b3, b4].set 0 ([b0, b1, b2, b3, b4].getD 0 0 + 5)) 4 = [c0, c1, c2, c3, c4] := e2
  dsimp only
  rw [e3]
  simp only [List.getD_cons_zero, List.getD_cons_succ]
  obtain ⟨X, hX⟩ : ∃ X, X = valN [b0, b1, b2, b3, b4] := ⟨_, rfl⟩
  rw [← hX] at hlt gv hv
  rw [← hv]
  by_cases hc : c4 / 67108864 = 0
  · rw [if_pos hc]
    have : X < PN := by
      have := limbs_lt c0 c1 c2 c3 c4 g0 g1 g2 g3 (by omega)
      unfold PN
      omega
    rw [Nat.mod_eq_of_lt this, hX]
    exact limbs_val b0 b1 b2 b3 b4 h0 h1 h2 h3 h4
  · rw [if_neg hc]
    have hc4 : c4 = 67108864 := by omega
    subst hc4
    have hX2 : valN [c0, c1, c2, c3, 0] = X - PN ∧ PN ≤ X := by
      simp only [valN, List.getD_cons_zero, List.getD_cons_succ] at gv ⊢
      unfold PN
      omega
    have : X % PN = X - PN := by
      rw [Nat.mod_eq_sub_mod hX2.2, Nat.mod_eq_of_lt (by unfold PN; omega)]
    rw [this, ← hX2.1]
    exact limbs_val c0 c1 c2 c3 0 g0 g1 g2 g3 (by omega)
end Go.Proofs.YtlocplkjokoknaaGreat

/- Bytes as a number, the lowest first; and in limbs. No condition but those each theorem states. -/
namespace Go.Proofs.YtlocplkjokoknaaGreat
set_option linter.unusedVariables false
set_option linter.unusedSimpArgs false
open Go.RowKit

def leNat : List UInt8 → Nat
  | [] => 0
  | c :: r => c.toNat + 256 * leNat r
theorem leNat_append (a b : List UInt8) : leNat (a ++ b) = leNat a + 256 ^ a.length * leNat b := by
  induction a with
  | nil => simp [leNat]
  | cons c r ih =>
    simp only [List.cons_append, leNat, ih, List.length_cons, Nat.pow_succ]
    rw [Nat.mul_add, Nat.mul_comm (256 ^ r.length) 256, Nat.mul_assoc, Nat.add_assoc]
theorem leNat_lt (a : List UInt8) : leNat a < 256 ^ a.length := by
  induction a with
  | nil => simp [leNat]
  | cons c r ih =>
    have := c.toNat_lt
    simp only [leNat, List.length_cons, Nat.pow_succ]
    omega
theorem leNat_snoc (l : List UInt8) (i : Nat) (hi : i < l.length) : leNat (l.take (i + 1)) = leNat (l.take i) + (l.getD i 0).toNat * 256 ^ i := by
  rw [List.take_add_one, List.getElem?_eq_getElem hi, leNat_append]
  simp [leNat, List.getD_eq_getElem?_getD, hi]
  rw [Nat.min_eq_left (by omega), Nat.mul_comm]
theorem or_add (s a b q : Nat) (ha : a < 2 ^ s) (hb : b = 2 ^ s * q) : a ||| b = a + b := by
  subst hb
  rw [Nat.or_comm, ← Nat.two_pow_add_eq_or_of_lt ha, Nat.add_comm]
theorem load_0 (x c : Nat) (hx : x < 1) (hc : c < 256) : limbsN (x + c * 1) = [x % 67108864 ||| c * 1 % 67108864, x / 67108864 % 67108864 ||| c * 1 / 67108864, x / 4503599627370496 % 67108864, x / 302231454903657293676544 % 67108864, x / 20282409603651670423947251286016 % 67108864] := by
  have o1 : x % 67108864 ||| c * 1 % 67108864 = x % 67108864 + c * 1 % 67108864 := or_add 0 _ _ (c % 67108864) (by omega) (by omega)
  have z : x / 67108864 % 67108864 = 0 := by omega
  have o2 : x / 67108864 % 67108864 ||| c * 1 / 67108864 = c * 1 / 67108864 := by rw [z, Nat.zero_or]
  rw [o1, o2]
  simp only [limbsN, List.cons.injEq]
  refine ⟨?_, ?_, ?_, ?_, ?_, trivial⟩ <;> omega
theorem load_1 (x c : Nat) (hx : x < 256) (hc : c < 256) : limbsN (x + c * 256) = [x % 67108864 ||| c * 256 % 67108864, x / 67108864 % 67108864 ||| c * 256 / 67108864, x / 4503599627370496 % 67108864, x / 302231454903657293676544 % 67108864, x / 20282409603651670423947251286016 % 67108864] := by
  have o1 : x % 67108864 ||| c * 256 % 67108864 = x % 67108864 + c * 256 % 67108864 := or_add 8 _ _ (c % 262144) (by omega) (by omega)
  have z : x / 67108864 % 67108864 = 0 := by omega
  have o2 : x / 67108864 % 67108864 ||| c * 256 / 67108864 = c * 256 / 67108864 := by rw [z, Nat.zero_or]
  rw [o1, o2]
  simp only [limbsN, List.cons.injEq]
  refine ⟨?_, ?_, ?_, ?_, ?_, trivial⟩ <;> omega
theorem load_2 (x c : Nat) (hx : x < 65536) (hc : c < 256) : limbsN (x + c * 65536) = [x % 67108864 ||| c * 65536 % 67108864, x / 67108864 % 67108864 ||| c * 65536 / 67108864, x / 4503599627370496 % 67108864, x / 302231454903657293676544 % 67108864, x / 20282409603651670423947251286016 % 67108864] := by
  have o1 : x % 67108864 ||| c * 65536 % 67108864 = x % 67108864 + c * 65536 % 67108864 := or_add 16 _ _ (c % 1024) (by omega) (by omega)
  have z : x / 67108864 % 67108864 = 0 := by omega
  have o2 : x / 67108864 % 67108864 ||| c * 65536 / 67108864 = c * 65536 / 67108864 := by rw [z, Nat.zero_or]
  rw [o1, o2]
  simp only [limbsN, List.cons.injEq]
  refine ⟨?_, ?_, ?_, ?_, ?_, trivial⟩ <;> omega
theorem load_3 (x c : Nat) (hx : x < 16777216) (hc : c < 256) : limbsN (x + c * 16777216) = [x % 67108864 ||| c * 16777216 % 67108864, x / 67108864 % 67108864 ||| c * 16777216 / 67108864, x / 4503599627370496 % 67108864, x / 302231454903657293676544 % 67108864, x / 20282409603651670423947251286016 % 67108864] := by
  have o1 : x % 67108864 ||| c * 16777216 % 67108864 = x % 67108864 + c * 16777216 % 67108864 := or_add 24 _ _ (c % 4) (by omega) (by omega)
  have z : x / 67108864 % 67108864 = 0 := by omega
  have o2 : x / 67108864 % 67108864 ||| c * 16777216 / 67108864 = c * 16777216 / 67108864 := by rw [z, Nat.zero_or]
  rw [o1, o2]
  simp only [limbsN, List.cons.injEq]
  refine ⟨?_, ?_, ?_, ?_, ?_, trivial⟩ <;> omega
theorem load_4 (x c : Nat) (hx : x < 4294967296) (hc : c < 256) : limbsN (x + c * 4294967296) = [x % 67108864, x / 67108864 % 67108864 ||| c * 64 % 67108864, x / 4503599627370496 % 67108864 ||| c * 64 / 67108864, x / 302231454903657293676544 % 67108864, x / 20282409603651670423947251286016 % 67108864] := by
  have o1 : x / 67108864 % 67108864 ||| c * 64 % 67108864 = x / 67108864 % 67108864 + c * 64 % 67108864 := or_add 6 _ _ (c % 1048576) (by omega) (by omega)
  have z : x / 4503599627370496 % 67108864 = 0 := by omega
  have o2 : x / 4503599627370496 % 67108864 ||| c * 64 / 67108864 = c * 64 / 67108864 := by rw [z, Nat.zero_or]
  rw [o1, o2]
  simp only [limbsN, List.cons.injEq]
  refine ⟨?_, ?_, ?_, ?_, ?_, trivial⟩ <;> omega
theorem load_5 (x c : Nat) (hx : x < 1099511627776) (hc : c < 256) : limbsN (x + c * 1099511627776) = [x % 67108864, x / 67108864 % 67108864 ||| c * 16384 % 67108864, x / 4503599627370496 % 67108864 ||| c * 16384 / 67108864, x / 302231454903657293676544 % 67108864, x / 20282409603651670423947251286016 % 67108864] := by
  have o1 : x / 67108864 % 67108864 ||| c * 16384 % 67108864 = x / 67108864 % 67108864 + c * 16384 % 67108864 := or_add 14 _ _ (c % 4096) (by omega) (by omega)
  have z : x / 4503599627370496 % 67108864 = 0 := by omega
  have o2 : x / 4503599627370496 % 67108864 ||| c * 16384 / 67108864 = c * 16384 / 67108864 := by rw [z, Nat.zero_or]
  rw [o1, o2]
  simp only [limbsN, List.cons.injEq]
  refine ⟨?_, ?_, ?_, ?_, ?_, trivial⟩ <;> omega
theorem load_6 (x c : Nat) (hx : x < 281474976710656) (hc : c < 256) : limbsN (x + c * 281474976710656) = [x % 67108864, x / 67108864 % 67108864 ||| c * 4194304 % 67108864, x / 4503599627370496 % 67108864 ||| c * 4194304 / 67108864, x / 302231454903657293676544 % 67108864, x / 20282409603651670423947251286016 % 67108864] := by
  have o1 : x / 67108864 % 67108864 ||| c * 4194304 % 67108864 = x / 67108864 % 67108864 + c * 4194304 % 67108864 := or_add 22 _ _ (c % 16) (by omega) (by omega)
  have z : x / 4503599627370496 % 67108864 = 0 := by omega
  have o2 : x / 4503599627370496 % 67108864 ||| c * 4194304 / 67108864 = c * 4194304 / 67108864 := by rw [z, Nat.zero_or]
  rw [o1, o2]
  simp only [limbsN, List.cons.injEq]
  refine ⟨?_, ?_, ?_, ?_, ?_, trivial⟩ <;> omega
theorem load_7 (x c : Nat) (hx : x < 72057594037927936) (hc : c < 256) : limbsN (x + c * 72057594037927936) = [x % 67108864, x / 67108864 % 67108864, x / 4503599627370496 % 67108864 ||| c * 16 % 67108864, x / 302231454903657293676544 % 67108864 ||| c * 16 / 67108864, x / 20282409603651670423947251286016 % 67108864] := by
  have o1 : x / 4503599627370496 % 67108864 ||| c * 16 % 67108864 = x / 4503599627370496 % 67108864 + c * 16 % 67108864 := or_add 4 _ _ (c % 4194304) (by omega) (by omega)
  have z : x / 302231454903657293676544 % 67108864 = 0 := by omega
  have o2 : x / 302231454903657293676544 % 67108864 ||| c * 16 / 67108864 = c * 16 / 67108864 := by rw [z, Nat.zero_or]
  rw [o1, o2]
  simp only [limbsN, List.cons.injEq]
  refine ⟨?_, ?_, ?_, ?_, ?_, trivial⟩ <;> omega
theorem load_8 (x c : Nat) (hx : x < 18446744073709551616) (hc : c < 256) : limbsN (x + c * 18446744073709551616) = [x % 67108864, x / 67108864 % 67108864, x / 4503599627370496 % 67108864 ||| c * 4096 % 67108864, x / 302231454903657293676544 % 67108864 ||| c * 4096 / 67108864, x / 20282409603651670423947251286016 % 67108864] := by
  have o1 : x / 4503599627370496 % 67108864 ||| c * 4096 % 67108864 = x / 4503599627370496 % 67108864 + c * 4096 % 67108864 := or_add 12 _ _ (c % 16384) (by omega) (by omega)
  have z : x / 302231454903657293676544 % 67108864 = 0 := by omega
  have o2 : x / 302231454903657293676544 % 67108864 ||| c * 4096 / 67108864 = c * 4096 / 67108864 := by rw [z, Nat.zero_or]
  rw [o1, o2]
  simp only [limbsN, List.cons.injEq]
  refine ⟨?_, ?_, ?_, ?_, ?_, trivial⟩ <;> omega
theorem load_9 (x c : Nat) (hx : x < 4722366482869645213696) (hc : c < 256) : limbsN (x + c * 4722366482869645213696) = [x % 67108864, x / 67108864 % 67108864, x / 4503599627370496 % 67108864 ||| c * 1048576 % 67108864, x / 302231454903657293676544 % 67108864 ||| c * 1048576 / 67108864, x / 20282409603651670423947251286016 % 67108864] := by
  have o1 : x / 4503599627370496 % 67108864 ||| c * 1048576 % 67108864 = x / 4503599627370496 % 67108864 + c * 1048576 % 67108864 := or_add 20 _ _ (c % 64) (by omega) (by omega)
  have z : x / 302231454903657293676544 % 67108864 = 0 := by omega
  have o2 : x / 302231454903657293676544 % 67108864 ||| c * 1048576 / 67108864 = c * 1048576 / 67108864 := by rw [z, Nat.zero_or]
  rw [o1, o2]
  simp only [limbsN, List.cons.injEq]
  refine ⟨?_, ?_, ?_, ?_, ?_, trivial⟩ <;> omega
theorem load_10 (x c : Nat) (hx : x < 1208925819614629174706176) (hc : c < 256) : limbsN (x + c * 1208925819614629174706176) = [x % 67108864, x / 67108864 % 67108864, x / 4503599627370496 % 67108864, x / 302231454903657293676544 % 67108864 ||| c * 4 % 67108864, x / 20282409603651670423947251286016 % 67108864 ||| c * 4 / 67108864] := by
  have o1 : x / 302231454903657293676544 % 67108864 ||| c * 4 % 67108864 = x / 302231454903657293676544 % 67108864 + c * 4 % 67108864 := or_add 2 _ _ (c % 16777216) (by omega) (by omega)
  have z : x / 20282409603651670423947251286016 % 67108864 = 0 := by omega
  have o2 : x / 20282409603651670423947251286016 % 67108864 ||| c * 4 / 67108864 = c * 4 / 67108864 := by rw [z, Nat.zero_or]
  rw [o1, o2]
  simp only [limbsN, List.cons.injEq]
  refine ⟨?_, ?_, ?_, ?_, ?_, trivial⟩ <;> omega
theorem load_11 (x c : Nat) (hx : x < 309485009821345068724781056) (hc : c < 256) : limbsN (x + c * 309485009821345068724781056) = [x % 67108864, x / 67108864 % 67108864, x / 4503599627370496 % 67108864, x / 302231454903657293676544 % 67108864 ||| c * 1024 % 67108864, x / 20282409603651670423947251286016 % 67108864 ||| c * 1024 / 67108864] := by
  have o1 : x / 302231454903657293676544 % 67108864 ||| c * 1024 % 67108864 = x / 302231454903657293676544 % 67108864 + c * 1024 % 67108864 := or_add 10 _ _ (c % 65536) (by omega) (by omega)
  have z : x / 20282409603651670423947251286016 % 67108864 = 0 := by omega
  have o2 : x / 20282409603651670423947251286016 % 67108864 ||| c * 1024 / 67108864 = c * 1024 / 67108864 := by rw [z, Nat.zero_or]
  rw [o1, o2]
  simp only [limbsN, List.cons.injEq]
  refine ⟨?_, ?_, ?_, ?_, ?_, trivial⟩ <;> omega
theorem load_12 (x c : Nat) (hx : x < 79228162514264337593543950336) (hc : c < 256) : limbsN (x + c * 79228162514264337593543950336) = [x % 67108864, x / 67108864 % 67108864, x / 4503599627370496 % 67108864, x / 302231454903657293676544 % 67108864 ||| c * 262144 % 67108864, x / 20282409603651670423947251286016 % 67108864 ||| c * 262144 / 67108864] := by
  have o1 : x / 302231454903657293676544 % 67108864 ||| c * 262144 % 67108864 = x / 302231454903657293676544 % 67108864 + c * 262144 % 67108864 := or_add 18 _ _ (c % 256) (by omega) (by omega)
  have z : x / 20282409603651670423947251286016 % 67108864 = 0 := by omega
  have o2 : x / 20282409603651670423947251286016 % 67108864 ||| c * 262144 / 67108864 = c * 262144 / 67108864 := by rw [z, Nat.zero_or]
  rw [o1, o2]
  simp only [limbsN, List.cons.injEq]
  refine ⟨?_, ?_, ?_, ?_, ?_, trivial⟩ <;> omega
theorem load_13 (x c : Nat) (hx : x < 20282409603651670423947251286016) (hc : c < 256) : limbsN (x + c * 20282409603651670423947251286016) = [x % 67108864, x / 67108864 % 67108864, x / 4503599627370496 % 67108864, x / 302231454903657293676544 % 67108864, x / 20282409603651670423947251286016 % 67108864 ||| c * 1 % 67108864] := by
  have o1 : x / 20282409603651670423947251286016 % 67108864 ||| c * 1 % 67108864 = x / 20282409603651670423947251286016 % 67108864 + c * 1 % 67108864 := or_add 0 _ _ (c % 67108864) (by omega) (by omega)
  rw [o1]
  simp only [limbsN, List.cons.injEq]
  refine ⟨?_, ?_, ?_, ?_, ?_, trivial⟩ <;> omega
theorem load_14 (x c : Nat) (hx : x < 5192296858534827628530496329220096) (hc : c < 256) : limbsN (x + c * 5192296858534827628530496329220096) = [x % 67108864, x / 67108864 % 67108864, x / 4503599627370496 % 67108864, x / 302231454903657293676544 % 67108864, x / 20282409603651670423947251286016 % 67108864 ||| c * 256 % 67108864] := by
  have o1 : x / 20282409603651670423947251286016 % 67108864 ||| c * 256 % 67108864 = x / 20282409603651670423947251286016 % 67108864 + c * 256 % 67108864 := or_add 8 _ _ (c % 262144) (by omega) (by omega)
  rw [o1]
  simp only [limbsN, List.cons.injEq]
  refine ⟨?_, ?_, ?_, ?_, ?_, trivial⟩ <;> omega
theorem load_15 (x c : Nat) (hx : x < 1329227995784915872903807060280344576) (hc : c < 256) : limbsN (x + c * 1329227995784915872903807060280344576) = [x % 67108864, x / 67108864 % 67108864, x / 4503599627370496 % 67108864, x / 302231454903657293676544 % 67108864, x / 20282409603651670423947251286016 % 67108864 ||| c * 65536 % 67108864] := by
  have o1 : x / 20282409603651670423947251286016 % 67108864 ||| c * 65536 % 67108864 = x / 20282409603651670423947251286016 % 67108864 + c * 65536 % 67108864 := or_add 16 _ _ (c % 1024) (by omega) (by omega)
  rw [o1]
  simp only [limbsN, List.cons.injEq]
  refine ⟨?_, ?_, ?_, ?_, ?_, trivial⟩ <;> omega
theorem load_16 (x c : Nat) (hx : x < 340282366920938463463374607431768211456) (hc : c < 4) : limbsN (x + c * 340282366920938463463374607431768211456) = [x % 67108864, x / 67108864 % 67108864, x / 4503599627370496 % 67108864, x / 302231454903657293676544 % 67108864, x / 20282409603651670423947251286016 % 67108864 ||| c * 16777216 % 67108864] := by
  have o1 : x / 20282409603651670423947251286016 % 67108864 ||| c * 16777216 % 67108864 = x / 20282409603651670423947251286016 % 67108864 + c * 16777216 % 67108864 := or_add 24 _ _ (c % 4) (by omega) (by omega)
  rw [o1]
  simp only [limbsN, List.cons.injEq]
  refine ⟨?_, ?_, ?_, ?_, ?_, trivial⟩ <;> omega

/-- What a round of 'load' lays into limb k, and into the one behind it. -/
def loadStep (q : List Nat) (i c : Nat) : List Nat :=
  let p := q.set (8 * i / 26) (q.getD (8 * i / 26) 0 ||| c * 2 ^ (8 * i % 26) % 67108864)
  if 8 * i / 26 + 1 < 5 then p.set (8 * i / 26 + 1) (p.getD (8 * i / 26 + 1) 0 ||| c * 2 ^ (8 * i % 26) / 67108864) else p
theorem load_step (x c i : Nat) (hi : i < 17) (hx : x < 256 ^ i) (hc : c < 256) (h4 : i = 16 → c < 4) : loadStep (limbsN x) i c = limbsN (x + c * 256 ^ i) := by
  rcases i with _ | _ | _ | _ | _ | _ | _ | _ | _ | _ | _ | _ | _ | _ | _ | _ | _ | i
  · exact (load_0 x c hx hc).symm
  · exact (load_1 x c hx hc).symm
  · exact (load_2 x c hx hc).symm
  · exact (load_3 x c hx hc).symm
  · exact (load_4 x c hx hc).symm
  · exact (load_5 x c hx hc).symm
  · exact (load_6 x c hx hc).symm
  · exact (load_7 x c hx hc).symm
  · exact (load_8 x c hx hc).symm
  · exact (load_9 x c hx hc).symm
  · exact (load_10 x c hx hc).symm
  · exact (load_11 x c hx hc).symm
  · exact (load_12 x c hx hc).symm
  · exact (load_13 x c hx hc).symm
  · exact (load_14 x c hx hc).symm
  · exact (load_15 x c hx hc).symm
  · exact (load_16 x c hx (h4 rfl)).symm
  · omega
theorem limbsN_bd (x : Nat) : Bd 67108863 (limbsN x) := by
  intro j
  rcases j with _ | _ | _ | _ | _ | j <;> simp [limbsN] <;> omega
theorem limbsN_length (x : Nat) : (limbsN x).length = 5 := rfl
theorem limbsN_val (x : Nat) (h : x < 1361129467683753853853498429727072845824) : valN (limbsN x) = x := by
  simp only [limbsN, valN, List.getD_cons_zero, List.getD_cons_succ]
  omega
end Go.Proofs.YtlocplkjokoknaaGreat

/- The least number, bytes in limbs, a clamped key: walked. No condition but those each theorem states. -/
namespace Go.Proofs.YtlocplkjokoknaaGreat
set_option linter.unusedVariables false
set_option linter.unusedSimpArgs false
open Go.RowKit
attribute [local go_sem ↓] Go.wp_at_zero Go.wp_at_succ

theorem info_num {l : List Nat} (h : l.length = 5) : (Tryz.prog.info? 222).map (·.size) = some (WN l).size := by rw [WN_size, h]; kernel_rfl
theorem NW.whole {w W W' : World} {g : Nat} {l l' : List Nat} (h : NW w g l W) (hb : W'.heap[g]? = some (.cells (WN l') 222 (0, 0))) (hg : W.grownBy W' (some g)) : NW w g l' W' := ⟨hb, h.hg, ret_number h hg⟩
theorem NW.away {w W W' : World} {g k : Nat} {m : List Nat} (h : NW w k m W) (hne : k ≠ g) (hg : w.heap.size ≤ g) (hgr : W.grownBy W' (some g)) : NW w k m W' where
  b := grown_block hgr (by simp; exact hne) h.b
  hg := h.hg
  bel := h.bel.trans (grown_below hgr h.bel.size (by rintro k ⟨⟩; exact hg))
set_option maxRecDepth 100000 in
set_option maxHeartbeats 2000000 in
theorem nleast_any (n : List Nat) (hn : n.length = 5) (bn : Bd 67108868 n) (w : World) :
    Calls Tryz.prog 125 #[.agg (WN n)] w fun e w' => e = .returned (.agg (WN (leastL n))) ∧ Below w.heap.size w w' := by
  have HN := Lib.hid hn
  have BN := Lib.hid bn
  have Z5' := Lib.hid zero5
  obtain ⟨t1, ht1⟩ : ∃ t, t = carryL n := ⟨_, rfl⟩
  obtain ⟨t2, ht2⟩ : ∃ t, t = carryL t1 := ⟨_, rfl⟩
  have L1 := Lib.hid (show t1.length = 5 by rw [ht1, carryL_length, hn])
  have L2 := Lib.hid (show t2.length = 5 by rw [ht2, carryL_length, L1.out])
  have D1 := Lib.hid (show Bd 4611686018427387904 t1 by rw [ht1]; exact carryL_bd n hn (bn.mono (by omega)))
  have D2 := Lib.hid (show Bd 67108863 t2 by
    obtain ⟨b0, b1, b2, b3, b4, e, h0, h1, h2, h3, h4⟩ := carryL_small n hn bn
    rw [ht2, ht1, e]
    intro j
    rcases j with _ | _ | _ | _ | _ | j <;> simp <;> omega)
  have T1 := Lib.hid ht1
  have T2 := Lib.hid ht2
  have LE := Lib.hid (show leastL n = if (leastK (t2.set 0 (t2.getD 0 0 + 5)) 4).getD 4 0 / 67108864 = 0 then t2 else (leastK (t2.set 0 (t2.getD 0 0 + 5)) 4).set 4 ((leastK (t2.set 0 (t2.getD 0 0 + 5)) 4).getD 4 0 % 67108864) by rw [ht2, ht1]; rfl)
  clear hn bn ht1 ht2
  go_enter Tryz.func125, Tryz.ntmps125
  go_upto_region 1 with fail
  rw [← Z5'.out]
  obtain ⟨w1, hw1⟩ : ∃ w1, w1 = (w.alloc (.cells (WN n) 222)).alloc (.cells (WN Z5) 222) := ⟨_, rfl⟩
  have S1 := Lib.hid (show NW w w.heap.size n w1 ∧ NW w (w.heap.size + 1) Z5 w1 by
    have hb : Below w.heap.size w w1 := by rw [hw1]; exact ((Below.refl _ _).alloc (Nat.le_refl _) _).alloc (by simp) _
    rw [hw1] at hb ⊢
    exact ⟨⟨ha_old _ _ _ (by simp) (ha_new _ _ _ rfl), by omega, hb⟩, ⟨ha_new _ _ _ (by simp), by omega, hb⟩⟩)
  rw [← hw1]
  clear hw1
  go_wp2_with (refine wpList_load_row rfl 222 (.tmp 1) rfl w.heap.size rfl 222 (WN n) (0, 0) _ S1.out.1.b Tryz.underlying222 rfl (info_num HN.out) ?_)
  refine (ncarry_any n HN.out (BN.out.mono (by omega)) _).mono ?_
  rw [← T1.out]
  rintro e w2 ⟨rfl, hb2⟩
  have S2 := Lib.hid (And.intro (S1.out.1.keep hb2) (S1.out.2.keep hb2))
  clear hb2 S1
  go_wp2_with fail
  refine (ncarry_any t1 L1.out D1.out _).mono ?_
  rw [← T2.out]
  rintro e w3 ⟨rfl, hb3⟩
  have S3 := Lib.hid (And.intro (S2.out.1.keep hb3) (S2.out.2.keep hb3))
  clear hb3 S2
  go_upto_region 2 with (refine wpList_store_whole rfl rfl 222 (.tmp 1) (.tmp 7) rfl w.heap.size (WN t2) rfl rfl 222 _ S3.out.1.b (info_num L2.out) (by rw [WN_size, WN_size, L2.out, HN.out]) (WN_one _) ?_; intro w4 hz4 hg4 hs4)
  have S4 := Lib.hid (show NW w w.heap.size t2 w4 ∧ NW w (w.heap.size + 1) Z5 w4 from ⟨S3.out.1.whole hz4 hg4, S3.out.2.away (by omega) (Nat.le_refl _) hg4⟩)
  clear hz4 hg4 hs4 S3
  go_upto_region 3 with (first
    | (refine wpList_load_row rfl 222 (.tmp 1) rfl w.heap.size rfl 222 (WN t2) (0, 0) _ S4.out.1.b Tryz.underlying222 rfl (info_num L2.out) ?_)
    | (refine wpList_store_new rfl rfl 222 (.tmp 3) (.tmp 8) rfl (WN t2) rfl rfl (info_num L2.out) ?c1 (WN_one _) ?_))
  case c1 => rw [WN_size, L2.out]; rfl
  obtain ⟨M, hM⟩ : ∃ M, M = w4.heap.size := ⟨_, rfl⟩
  rw [← hM]
  obtain ⟨w5, hw5⟩ : ∃ w5, w5 = w4.alloc (.cells (WN t2) 222) := ⟨_, rfl⟩
  have hbel : Below w4.heap.size w4 w5 := by rw [hw5]; exact (Below.refl _ _).alloc (Nat.le_refl _) _
  have S5 := Lib.hid (show NW w w.heap.size t2 w5 ∧ NW w (w.heap.size + 1) Z5 w5 ∧ NW w M t2 w5 from ⟨S4.out.1.keep hbel, S4.out.2.keep hbel, by rw [hw5]; exact ha_new _ _ _ hM, by rw [hM]; exact S4.out.1.bel.size, (S4.out.1.keep hbel).bel⟩)
  have HM := Lib.hid (show w.heap.size + 1 < M by rw [hM]; exact row_lt S4.out.2.b)
  rw [← hw5]
  clear hbel hw5 hM S4
  obtain ⟨x, hx⟩ : ∃ x, x = t2.getD 0 0 := ⟨_, rfl⟩
  have a1 := row_cell S5.out.2.2.b 0 (WN_get _ 0 (by rw [L2.out]; omega))
  have f1 := row_free S5.out.2.2.b 0
  rw [← hx] at a1
  have b1 : (x : Int) ≤ 67108863 := by have := D2.out 0; omega
  have X := Lib.hid hx
  clear hx
  go_upto_region 4 with fail
  clear a1 f1
  obtain ⟨z, hz⟩ : ∃ z : Nat, z = x + 5 := ⟨_, rfl⟩
  rw [show (x : Int) + 5 = (z : Int) by omega]
  obtain ⟨m, hm0⟩ : ∃ m, m = t2.set 0 z := ⟨_, rfl⟩
  obtain ⟨w6, hw6⟩ : ∃ w6, w6 = w5.setCell ⟨M, 0, none⟩ (.int .u64 (z : Int)) := ⟨_, rfl⟩
  have hm : m = t2.set 0 (x + 5) := by rw [hm0, hz]
  have S6 := Lib.hid (show NW w w.heap.size t2 w6 ∧ NW w (w.heap.size + 1) Z5 w6 ∧ NW w M (leastK m 0) w6 by
    rw [hw6, leastK, hm0]
    have := HM.out
    exact ⟨S5.out.1.other (by omega) (by omega) _ _, S5.out.2.1.other (by omega) (by omega) _ _, S5.out.2.2.set _ _⟩)
  have ML := Lib.hid (show m.length = 5 by rw [hm, List.length_set, L2.out])
  have MB := Lib.hid (show ∀ i, i ≤ 4 → Bd 134217800 (leastK m i) by
    obtain ⟨c0, c1, c2, c3, c4, hc⟩ := list5 t2 L2.out
    rw [hm, X.out, hc]
    have d := D2.out
    rw [hc] at d
    have d0 := d 0
    have d1 := d 1
    have d2 := d 2
    have d3 := d 3
    have d4 := d 4
    simp at d0 d1 d2 d3 d4
    intro i hi j
    rcases i with _ | _ | _ | _ | _ | i
    · rcases j with _ | _ | _ | _ | _ | j <;> simp [leastK] <;> omega
    · rcases j with _ | _ | _ | _ | _ | j <;> simp [leastK] <;> omega
    · rcases j with _ | _ | _ | _ | _ | j <;> simp [leastK] <;> omega
    · rcases j with _ | _ | _ | _ | _ | j <;> simp [leastK] <;> omega
    · rcases j with _ | _ | _ | _ | _ | j <;> simp [leastK] <;> omega
    · omega)
  have MM := Lib.hid (show m = t2.set 0 (t2.getD 0 0 + 5) by rw [hm, X.out])
  rw [← hw6]
  clear hw6 hm hm0 hz S5 b1
  go_wp2_with fail
  go_loopw [13] (fun u wr => ∃ i : Nat, i ≤ 4 ∧ u = .int .i64 (i : Int) ∧ NW w w.heap.size t2 wr ∧ NW w (w.heap.size + 1) Z5 wr ∧ NW w M (leastK m i) wr) (fun u _ => 4 - (intOf u).toNat)
  case atStart => exact ⟨0, by omega, rfl, S6.out⟩
  case round =>
    obtain ⟨i, hi, rfl, hs⟩ := hrel
    have I := Lib.hid hi
    have S7 := Lib.hid hs
    clear hi hs S6
    by_cases hlt : i < 4
    · have hD : decide ((i : Int) < 4) = true := by simp; omega
      obtain ⟨q, hq⟩ : ∃ q, q = leastK m i := ⟨_, rfl⟩
      rw [← hq] at S7
      have QL := Lib.hid (show q.length = 5 by rw [hq, leastK_length, ML.out])
      have QB := Lib.hid (show Bd 134217800 q by rw [hq]; exact MB.out i I.out)
      have QQ := Lib.hid hq
      obtain ⟨x, hx⟩ : ∃ x, x = q.getD i 0 := ⟨_, rfl⟩
      obtain ⟨y, hy⟩ : ∃ y, y = q.getD (i + 1) 0 := ⟨_, rfl⟩
      have hxb : x ≤ 134217800 := by rw [hx]; exact QB.out i
      have hyb : y ≤ 134217800 := by rw [hy]; exact QB.out (i + 1)
      have a1 := row_cell S7.out.2.2.b i (WN_get _ i (by rw [QL.out]; omega))
      have a2 := row_cell S7.out.2.2.b (i + 1) (WN_get _ (i + 1) (by rw [QL.out]; omega))
      have f2 := row_free S7.out.2.2.b (i + 1)
      rw [← hx] at a1
      rw [← hy] at a2
      have X' := Lib.hid hx
      have Y := Lib.hid hy
      have A1 := Lib.hid a1
      have b1 : (i : Int) < 5 := by omega
      have b2 : (i : Int) + 1 < 5 := by omega
      have b0 : (0 : Int) ≤ (i : Int) + 1 := by omega
      have e0 := wrap_i64' ((i : Int) + 1) (by omega)
      have e3 : ((i : Int) + 1).toNat = i + 1 := by omega
      have e2 := wrap_u64 (y + x / 67108864) (by omega)
      rw [Int.natCast_add, Int.natCast_ediv] at e2
      have c26 : ((67108864 : Nat) : Int) = 67108864 := rfl
      rw [c26] at e2
      clear hq hx hy c26
      go_upto_region 7 with fail
      clear a1
      refine wp_region_plan (fun W => W.cell? ⟨M, i, none⟩ = some (.int .u64 (x : Int))) [0, 1, 2, 4, 5, 6, 7] [3, 8, 9, 10] (by kernel_rfl) (by kernel_rfl) (fun _ _ d _ _ h => by cases d <;> exact h) (A1.out) ?_
      simp only [List.filterMap_cons, List.filterMap_nil, List.getElem?_toArray, List.getElem?_cons_zero, List.getElem?_cons_succ]
      refine planQ_cons (v := ?_) (by rfl) ?_ ?_
      rotate_left
      · intro W hW
        go_simp
        with_reducible rfl
      simp only [Act.put, List.setIfInBounds_toArray, List.set_cons_zero, List.set_cons_succ]
      refine planQ_cons (v := ?_) (by rfl) ?_ ?_
      rotate_left
      · intro W hW
        go_simp
        with_reducible rfl
      simp only [Act.put, List.setIfInBounds_toArray, List.set_cons_zero, List.set_cons_succ]
      refine planQ_cons (v := ?_) (by rfl) ?_ ?_
      rotate_left
      · intro W hW
        go_simp
        with_reducible rfl
      simp only [Act.put, List.setIfInBounds_toArray, List.set_cons_zero, List.set_cons_succ]
      refine planQ_cons (v := ?_) (by rfl) ?_ ?_
      rotate_left
      · intro W hW
        go_simp
        with_reducible rfl
      simp only [Act.put, List.setIfInBounds_toArray, List.set_cons_zero, List.set_cons_succ]
      refine planQ_cons (v := ?_) (by rfl) ?_ ?_
      rotate_left
      · intro W hW
        go_simp
        with_reducible rfl
      simp only [Act.put, List.setIfInBounds_toArray, List.set_cons_zero, List.set_cons_succ]
      refine planQ_cons (by rfl) (fun W hW => run_cell 36 (.tmp 21) rfl _ Tryz.underlying36 rfl rfl hW) ?_
      simp only [Act.put, List.setIfInBounds_toArray, List.set_cons_zero, List.set_cons_succ]
      refine planQ_cons (v := ?_) (by rfl) ?_ ?_
      rotate_left
      · intro W hW
        go_simp
        with_reducible rfl
      simp only [Act.put, List.setIfInBounds_toArray, List.set_cons_zero, List.set_cons_succ]
      refine planQ_nil ?_
      refine planT_val (by rfl) (A1.out) (run_cell 36 (.tmp 18) rfl _ Tryz.underlying36 rfl rfl a2) ?_
      simp only [Act.put, List.setIfInBounds_toArray, List.set_cons_zero, List.set_cons_succ]
      refine planT_val (v := ?_) (by rfl) (A1.out) ?_ ?_
      rotate_left
      · go_simp
        with_reducible rfl
      simp only [Act.put, List.setIfInBounds_toArray, List.set_cons_zero, List.set_cons_succ]
      refine planT_val (v := ?_) (by rfl) (A1.out) ?_ ?_
      rotate_left
      · go_simp
        with_reducible rfl
      simp only [Act.put, List.setIfInBounds_toArray, List.set_cons_zero, List.set_cons_succ]
      refine planT_cons (by rfl) (fun K hK => ?_)
      go_simp
      obtain ⟨p, hp⟩ : ∃ p, p = q.set (i + 1) (y + x / 67108864) := ⟨_, rfl⟩
      rw [show (y : Int) + (x : Int) / 67108864 = ((y + x / 67108864 : Nat) : Int) by omega]
      have S8 := Lib.hid (show NW w w.heap.size t2 (wr.setCell ⟨M, i + 1, none⟩ (.int .u64 ((y + x / 67108864 : Nat) : Int))).drew ∧ NW w (w.heap.size + 1) Z5 (wr.setCell ⟨M, i + 1, none⟩ (.int .u64 ((y + x / 67108864 : Nat) : Int))).drew ∧ NW w M p (wr.setCell ⟨M, i + 1, none⟩ (.int .u64 ((y + x / 67108864 : Nat) : Int))).drew by
        have := HM.out
        rw [hp]
        exact ⟨(S7.out.1.other (by omega) (by omega) _ _).drew, (S7.out.2.1.other (by omega) (by omega) _ _).drew, (S7.out.2.2.set _ _).drew⟩)
      have PL := Lib.hid (show p.length = 5 by rw [hp, List.length_set, QL.out])
      have PX := Lib.hid (show p.getD i 0 = x by rw [hp, getD_set, if_neg (by omega), X'.out])
      have PP := Lib.hid hp
      clear hp
      have A2 := row_cell S8.out.2.2.b i (WN_get _ i (by rw [PL.out]; omega))
      rw [PX.out] at A2
      refine hK.out _ _ (A2) ?_
      clear hK K
      refine planT_nil ?_
      obtain ⟨w8, hw8⟩ : ∃ w8, w8 = (wr.setCell ⟨M, i + 1, none⟩ (.int .u64 ((y + x / 67108864 : Nat) : Int))).drew := ⟨_, rfl⟩
      rw [← hw8] at S8 A2 ⊢
      clear hw8 a2 f2 e0 e2 e3
      have f1 := row_free S8.out.2.2.b i
      have e1 := mask26 x (by omega)
      go_wp2_with fail
      go_roundw
      case rel =>
        refine ⟨i + 1, by omega, by go_num, ?_⟩
        have := HM.out
        rw [show (x : Int) % 67108864 = ((x % 67108864 : Nat) : Int) by omega]
        rw [leastK, ← QQ.out, ← X'.out, ← Y.out, ← PP.out]
        exact ⟨S8.out.1.other (by omega) (by omega) _ _, S8.out.2.1.other (by omega) (by omega) _ _, S8.out.2.2.set _ _⟩
      case measure => simp [intOf]; omega
    · have hi : Hid (i = 4) := show i = 4 by have := I.out; omega
      have hD : decide ((i : Int) < 4) = false := by simp; omega
      obtain ⟨q, hq⟩ : ∃ q, q = leastK m 4 := ⟨_, rfl⟩
      have S8 := Lib.hid (show NW w w.heap.size t2 wr ∧ NW w (w.heap.size + 1) Z5 wr ∧ NW w M q wr by have := S7.out; rw [hi.out, ← hq] at this; exact this)
      have QL := Lib.hid (show q.length = 5 by rw [hq, leastK_length, ML.out])
      have QB := Lib.hid (show Bd 134217800 q by rw [hq]; exact MB.out 4 (by omega))
      obtain ⟨y, hy⟩ : ∃ y, y = q.getD 4 0 := ⟨_, rfl⟩
      have hyb : y ≤ 134217800 := by rw [hy]; exact QB.out 4
      have LF := Lib.hid (show leastL n = if y / 67108864 = 0 then t2 else q.set 4 (y % 67108864) by rw [LE.out, ← MM.out, ← hq, ← hy])
      have a1 := row_cell S8.out.2.2.b 4 (WN_get _ 4 (by rw [QL.out]; omega))
      have f1 := row_free S8.out.2.2.b 4
      rw [← hy] at a1
      have e1 := mask26 y (by omega)
      clear hq hy S7
      by_cases hc : y / 67108864 = 0
      · have hE : ((y : Int) / 67108864 == 0) = true := by simp; omega
        go_wp2_with (first
          | (refine wpList_load_row rfl 222 (.tmp 1) rfl w.heap.size rfl 222 (WN t2) (0, 0) _ S8.out.1.b Tryz.underlying222 rfl (info_num L2.out) ?_)
          | (refine wpList_store_whole rfl rfl 222 (.tmp 2) (.tmp 36) rfl (w.heap.size + 1) (WN t2) rfl rfl 222 _ S8.out.2.1.b (info_num L2.out) (by rw [WN_size, WN_size, L2.out]; rfl) (WN_one _) ?_; intro w8 hz8 hg8 _))
        exact bodyPost_ret (results_cell_row rfl _ _ (w.heap.size + 1) 222 (WN t2) (0, 0) _ rfl hz8 Tryz.underlying222 rfl (info_num L2.out)) rfl ⟨by rw [LF.out, if_pos hc], ret_number S8.out.2.1 hg8⟩
      · have hE : ((y : Int) / 67108864 == 0) = false := by simp; omega
        go_upto_region 13 with fail
        clear a1 f1 e1 hE
        rw [show (y : Int) % 67108864 = ((y % 67108864 : Nat) : Int) by omega]
        obtain ⟨p, hp⟩ : ∃ p, p = q.set 4 (y % 67108864) := ⟨_, rfl⟩
        obtain ⟨w9, hw9⟩ : ∃ w9, w9 = wr.setCell ⟨M, 4, none⟩ (.int .u64 ((y % 67108864 : Nat) : Int)) := ⟨_, rfl⟩
        have S9 := Lib.hid (show NW w (w.heap.size + 1) Z5 w9 ∧ NW w M p w9 by
          have := HM.out
          rw [hw9, hp]
          exact ⟨S8.out.2.1.other (by omega) (by omega) _ _, S8.out.2.2.set _ _⟩)
        rw [← hw9]
        have PL := Lib.hid (show p.length = 5 by rw [hp, List.length_set, QL.out])
        have PP := Lib.hid hp
        clear hw9 hp S8
        go_wp2_with (first
          | (refine wpList_load_row rfl 222 (.tmp 3) rfl M rfl 222 (WN p) (0, 0) _ S9.out.2.b Tryz.underlying222 rfl (info_num PL.out) ?_)
          | (refine wpList_store_whole rfl rfl 222 (.tmp 2) (.tmp 41) rfl (w.heap.size + 1) (WN p) rfl rfl 222 _ S9.out.1.b (info_num PL.out) (by rw [WN_size, WN_size, PL.out]; rfl) (WN_one _) ?_; intro w8 hz8 hg8 _))
        exact bodyPost_ret (results_cell_row rfl _ _ (w.heap.size + 1) 222 (WN p) (0, 0) _ rfl hz8 Tryz.underlying222 rfl (info_num PL.out)) rfl ⟨by rw [LF.out, if_neg hc, PP.out], ret_number S9.out.1 hg8⟩
end Go.Proofs.YtlocplkjokoknaaGreat

/- Bytes in limbs, a clamped key: walked. No condition but those each theorem states. -/
namespace Go.Proofs.YtlocplkjokoknaaGreat
set_option linter.unusedVariables false
set_option linter.unusedSimpArgs false
open Go.RowKit
attribute [local go_sem ↓] Go.wp_at_zero Go.wp_at_succ

theorem or64 (x y : Nat) (hx : x < 18446744073709551616) (hy : y < 18446744073709551616) : bits .or .u64 (x : Int) (y : Int) = ((x ||| y : Nat) : Int) := u64_or_nat x y hx hy
set_option maxRecDepth 100000 in
set_option maxHeartbeats 2000000 in
theorem nload_any (A : Option Addr) (n c : Nat) (l : List UInt8) (hn : l.length = n) (h17 : n ≤ 17) (h4 : n = 17 → (l.getD 16 0).toNat < 4) (w : World) (hR : RdB w A l) :
    Calls Tryz.prog 122 #[.slice A n c] w fun e w' => e = .returned (.agg (WN (limbsN (leNat l)))) ∧ Below w.heap.size w w' := by
  have HN := Lib.hid hn
  have H4 := Lib.hid h4
  have HR := Lib.hid hR
  have Z5' := Lib.hid zero5
  clear hn h4 hR
  go_enter Tryz.func122, Tryz.ntmps122
  go_wp2_with fail
  rw [← Z5'.out]
  obtain ⟨w1, hw1⟩ : ∃ w1, w1 = (w.alloc (.cells (WN Z5) 222)).alloc (.cells (WN Z5) 222) := ⟨_, rfl⟩
  have S1 := Lib.hid (show NW w w.heap.size Z5 w1 ∧ NW w (w.heap.size + 1) (limbsN (leNat (l.take 0))) w1 by
    have hb : Below w.heap.size w w1 := by rw [hw1]; exact ((Below.refl _ _).alloc (Nat.le_refl _) _).alloc (by simp) _
    rw [hw1] at hb ⊢
    rw [show limbsN (leNat (l.take 0)) = Z5 by rw [List.take_zero]; rfl]
    exact ⟨⟨ha_old _ _ _ (by simp) (ha_new _ _ _ rfl), by omega, hb⟩, ⟨ha_new _ _ _ (by simp), by omega, hb⟩⟩)
  rw [← hw1]
  clear hw1
  go_loopw [12] (fun u wr => ∃ i : Nat, i ≤ n ∧ u = .int .i64 (i : Int) ∧ NW w w.heap.size Z5 wr ∧ NW w (w.heap.size + 1) (limbsN (leNat (l.take i))) wr) (fun u _ => n - (intOf u).toNat)
  case atStart => exact ⟨0, by omega, rfl, S1.out⟩
  case round =>
    obtain ⟨i, hi, rfl, hs⟩ := hrel
    have I := Lib.hid hi
    have S2 := Lib.hid hs
    clear hi hs S1
    by_cases hlt : i < n
    · have hD : decide ((i : Int) < (n : Int)) = true := by simp; omega
      obtain ⟨X, hX⟩ : ∃ X, X = leNat (l.take i) := ⟨_, rfl⟩
      rw [← hX] at S2
      have XX := Lib.hid hX
      have XB := Lib.hid (show X < 256 ^ i by rw [hX]; have := leNat_lt (l.take i); rw [List.length_take, HN.out, Nat.min_eq_left (by omega)] at this; exact this)
      obtain ⟨b, o, rfl, y, hy, hcell⟩ := (HR.out.keep S2.out.1.bel).get i (by rw [HN.out]; exact hlt)
      obtain ⟨k, hk⟩ : ∃ k, k = 8 * i / 26 := ⟨_, rfl⟩
      obtain ⟨s, hs⟩ : ∃ s, s = 8 * i % 26 := ⟨_, rfl⟩
      have i17 : i < 17 := by omega
      have b1 : (i : Int) ≤ 16 := by omega
      have e1 : 8 * (i : Int) / 26 = (k : Int) := by omega
      have e2 : 8 * (i : Int) % 26 = (s : Int) := by omega
      have k4 : k < 5 := by omega
      have s26 : s < 26 := by omega
      have K := Lib.hid hk
      have S := Lib.hid hs
      obtain ⟨V, hV⟩ : ∃ V, V = y.toNat * 2 ^ s := ⟨_, rfl⟩
      have yb := y.toNat_lt
      have sp : 2 ^ s ≤ 2 ^ 25 := Nat.pow_le_pow_right (by omega) (by omega)
      have vb : V ≤ 8589934592 := by rw [hV]; have := Nat.mul_le_mul (show y.toNat ≤ 256 by omega) sp; omega
      have e3 : IntKind.u64.wrap (y.toNat : Int) = (y.toNat : Int) := wrap_u64 _ (by omega)
      have e4 : IntKind.u64.wrap ((y.toNat : Int) * 2 ^ s) = (V : Int) := by
        have : ((y.toNat : Int) * 2 ^ s) = (V : Int) := by rw [hV, Int.natCast_mul, Int.natCast_pow]; rfl
        rw [this]; exact wrap_u64 _ (by omega)
      have VV := Lib.hid hV
      have E1 := Lib.hid e1
      have E2 := Lib.hid e2
      clear hX hk hs hV sp yb
      go_upto_region 8 with fail
      rw [E1.out, E2.out]
      clear hcell e1 e2 e3 e4
      obtain ⟨q, hq⟩ : ∃ q, q = limbsN X := ⟨_, rfl⟩
      rw [← hq] at S2
      have QL := Lib.hid (show q.length = 5 by rw [hq]; rfl)
      have QB := Lib.hid (show Bd 67108863 q by rw [hq]; exact limbsN_bd X)
      obtain ⟨x, hx⟩ : ∃ x, x = q.getD k 0 := ⟨_, rfl⟩
      have xb : x ≤ 67108863 := by rw [hx]; exact QB.out k
      have a1 := row_cell S2.out.2.b k (WN_get _ k (by rw [QL.out]; omega))
      have f1 := row_free S2.out.2.b k
      rw [← hx] at a1
      obtain ⟨P, hP⟩ : ∃ P, P = x ||| V % 67108864 := ⟨_, rfl⟩
      have e5 : bits .or .u64 (x : Int) ((V : Int) % 67108864) = (P : Int) := by
        have h := or64 x (V % 67108864) (by omega) (by omega)
        rw [← hP] at h
        rw [← h]
        rfl
      have e6 := mask26 V (by omega)
      have b2 : (k : Int) < 5 := by omega
      have Q := Lib.hid hq
      have XQ := Lib.hid hx
      have PP := Lib.hid hP
      clear hq hx hP
      go_upto_region 9 with fail
      clear a1 f1 e5 e6
      obtain ⟨p, hp⟩ : ∃ p, p = q.set k P := ⟨_, rfl⟩
      obtain ⟨w2, hw2⟩ : ∃ w2, w2 = wr.setCell ⟨w.heap.size + 1, k, none⟩ (.int .u64 (P : Int)) := ⟨_, rfl⟩
      have S3 := Lib.hid (show NW w w.heap.size Z5 w2 ∧ NW w (w.heap.size + 1) p w2 by rw [hw2, hp]; exact ⟨S2.out.1.other (by omega) (by omega) _ _, S2.out.2.set _ _⟩)
      rw [← hw2]
      have PL := Lib.hid (show p.length = 5 by rw [hp, List.length_set, QL.out])
      have PS := Lib.hid hp
      have LS := Lib.hid (show limbsN (leNat (l.take (i + 1))) = if k + 1 < 5 then p.set (k + 1) (p.getD (k + 1) 0 ||| V / 67108864) else p by
        have h := load_step X y.toNat i i17 XB.out y.toNat_lt (fun e => by have := H4.out (by omega); rw [e] at hy; rw [hy.out]; exact this)
        rw [leNat_snoc l i (by rw [HN.out]; exact hlt), ← XX.out, ← hy.out, ← h, loadStep, ← K.out, ← S.out, ← Q.out, ← VV.out, ← XQ.out, ← PP.out, ← PS.out])
      clear hw2 hp
      by_cases h5 : k + 1 < 5
      · have hE : decide ((k : Int) + 1 < 5) = true := by simp; omega
        obtain ⟨z, hz⟩ : ∃ z, z = p.getD (k + 1) 0 := ⟨_, rfl⟩
        have zb : z ≤ 67108863 := by rw [hz, PS.out, getD_set, if_neg (by omega)]; exact QB.out _
        have a2 := row_cell S3.out.2.b (k + 1) (WN_get _ (k + 1) (by rw [PL.out]; exact h5))
        have f2 := row_free S3.out.2.b (k + 1)
        rw [← hz] at a2
        obtain ⟨R, hRr⟩ : ∃ R, R = z ||| V / 67108864 := ⟨_, rfl⟩
        have e5 : bits .or .u64 (z : Int) ((V : Int) / 67108864) = (R : Int) := by
          have h := or64 z (V / 67108864) (by omega) (by omega)
          rw [← hRr] at h
          rw [← h]
          rfl
        have b3 : (k : Int) + 1 < 5 := by omega
        have e7 : ((k : Int) + 1).toNat = k + 1 := by omega
        have ZZ := Lib.hid hz
        have RR := Lib.hid hRr
        clear hz hRr
        go_wp2_with fail
        go_roundw
        case rel =>
          refine ⟨i + 1, by omega, by go_num, ?_⟩
          rw [LS.out, if_pos h5, ← ZZ.out, ← RR.out]
          exact ⟨S3.out.1.other (by omega) (by omega) _ _, S3.out.2.set _ _⟩
        case measure => simp [intOf]; omega
      · have hE : decide ((k : Int) + 1 < 5) = false := by simp; omega
        go_wp2_with fail
        go_roundw
        case rel =>
          refine ⟨i + 1, by omega, by go_num, ?_⟩
          rw [LS.out, if_neg h5]
          exact S3.out
        case measure => simp [intOf]; omega
    · have hi : Hid (i = n) := show i = n by have := I.out; omega
      have hD : decide ((i : Int) < (n : Int)) = false := by simp; omega
      obtain ⟨L, hL⟩ : ∃ L, L = limbsN (leNat (l.take i)) := ⟨_, rfl⟩
      rw [← hL] at S2
      have LL := Lib.hid (show L.length = 5 by rw [hL]; rfl)
      have HLL := Lib.hid (show L = limbsN (leNat l) by rw [hL, hi.out, ← HN.out, List.take_length])
      clear hL
      go_wp2_with (first
        | (refine wpList_load_row rfl 222 (.tmp 3) rfl (w.heap.size + 1) rfl 222 (WN L) (0, 0) _ S2.out.2.b Tryz.underlying222 rfl (info_num LL.out) ?_)
        | (refine wpList_store_whole rfl rfl 222 (.tmp 2) (.tmp 46) rfl w.heap.size (WN L) rfl rfl 222 _ S2.out.1.b (info_num LL.out) (by rw [WN_size, WN_size, LL.out]; rfl) (WN_one _) ?_; intro w8 hz8 hg8 _))
      exact bodyPost_ret (results_cell_row rfl _ _ w.heap.size 222 (WN L) (0, 0) _ rfl hz8 Tryz.underlying222 rfl (info_num LL.out)) rfl ⟨by rw [HLL.out], ret_number S2.out.1 hg8⟩
end Go.Proofs.YtlocplkjokoknaaGreat
