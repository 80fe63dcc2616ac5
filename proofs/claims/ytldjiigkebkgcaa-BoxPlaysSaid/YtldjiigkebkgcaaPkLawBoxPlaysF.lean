/- Part 6 of what the law LawBoxPlays needs. No condition but those each theorem states. -/
import Derived.Test.YtldjiigkebkgcaaPkLawBoxPlaysE
/- The law BoxPlays, walked. -/
namespace Go.Proofs.Ytldjiigkebkgcaa
set_option linter.unusedVariables false
set_option linter.unusedSimpArgs false
open Go.RowKit
attribute [local go_sem ↓] Go.wp_at_zero Go.wp_at_succ

theorem run_newrbx {o : Oper} {a : Act} (x y : Operand) (ho : o.op = .build 53 #[(0, x), (1, y)]) (m : Nat) (F : List UInt8) (hx : a.eval x = .int .i64 (m : Int)) (hy : a.eval y = .string (strB F)) (W : World) :
    (execOp a.eval o).run Try.prog W = .ok (.value (.agg (RBC m F 0 none 0 0))) W := by
  have h2 : ∀ (z : Int) (s : ByteArray) (W : World), (Instr.build 53 #[(0, .int .i64 z), (1, .string s)]).run Try.prog W = .ok (.agg #[.int .i64 z, .string s, .int .i64 0, .slice none 0 0]) W := by
    intro z s W
    kernel_rfl
  unfold execOp
  simp only [ho, List.map_toArray, List.map_cons, List.map_nil, hx, hy, Sem.run_bind, h2, Result.andThen_ok, Sem.run_pure]
  rfl
/-- The two boxes while the law is asked. -/
structure PlW (w3 : World) (g S D b lo k : Nat) (F : List UInt8) (M9 m : Nat) (s : BSt) (q : RBx) (A : Option Addr) (nn c : Nat) (W : World) : Prop where
  box : BoxB w3 g S D b lo s W
  rel : RelB s q
  mode : s.mode = k
  fe : s.F = F
  u : s.u ≤ m * 1824
  len : s.m.length ≤ m
  cnt : s.n ≤ m
  xs : ∀ p ∈ q.L, p.x.length ≤ 228
  ts : ∀ p ∈ s.m, s.mode = 1 → p.2.text.length ≤ 200
  row : W.heap[M9]? = some (.cells (RBC q.mode q.F q.u A nn c) 53 (0, 0))
  rd : RdV W A (EC q.L)
  ln : q.L.length = nn
  cap : nn ≤ c
  off : ∀ a, A = some a → a.block ≠ g ∧ a.block ≠ S ∧ a.block ≠ b ∧ a.block ≠ M9 ∧ a.block < W.heap.size
  lov : lo ≤ W.heap.size
  m9 : g < M9 ∧ S < M9 ∧ D < M9 ∧ b < M9 ∧ M9 < lo
theorem BoxB.far {w0 W W' : World} {g S D b lo : Nat} {s : BSt} {M : Nat} (h : BoxB w0 g S D b lo s W) (hg : W.grownBy W' (some M)) (hM : M ≠ g ∧ M ≠ S ∧ M ≠ D ∧ M ≠ b ∧ M < lo ∧ w0.heap.size ≤ M) : BoxB w0 g S D b lo s W' :=
  ⟨h.bel.trans (grown_below hg h.bel.size (by rintro k ⟨⟩; exact hM.2.2.2.2.2)), h.hg, h.hS, h.hD, h.hb, grown_block hg (by intro e; injection e with e; exact hM.1 e.symm) h.row, h.src.far hg (by rintro k ⟨⟩; exact ⟨hM.2.1, hM.2.2.1⟩), Nat.lt_of_lt_of_le h.ltD hg.size, h.map.far hg (by rintro k ⟨⟩; exact ⟨hM.2.2.2.2.1, hM.2.2.2.1⟩), h.gS, h.gD, h.gb, h.Sb, h.Db, h.lg, h.lS, h.few⟩
theorem PlW.keep {w3 : World} {g S D b lo k : Nat} {F : List UInt8} {M9 m : Nat} {s : BSt} {q : RBx} {A : Option Addr} {nn c : Nat} {W W' : World} (h : PlW w3 g S D b lo k F M9 m s q A nn c W) (hb : Below W.heap.size W W') : PlW w3 g S D b lo k F M9 m s q A nn c W' :=
  ⟨h.box.keep hb, h.rel, h.mode, h.fe, h.u, h.len, h.cnt, h.xs, h.ts, below_block hb (row_lt h.row) h.row, h.rd.keep hb, h.ln, h.cap, fun a e => ⟨(h.off a e).1, (h.off a e).2.1, (h.off a e).2.2.1, (h.off a e).2.2.2.1, Nat.lt_of_lt_of_le (h.off a e).2.2.2.2 hb.size⟩, Nat.le_trans h.lov hb.size, h.m9⟩
theorem PlW.more {w3 : World} {g S D b lo k : Nat} {F : List UInt8} {M9 m : Nat} {s : BSt} {q : RBx} {A : Option Addr} {nn c : Nat} {W : World} (h : PlW w3 g S D b lo k F M9 m s q A nn c W) : PlW w3 g S D b lo k F M9 (m + 1) s q A nn c W :=
  ⟨h.box, h.rel, h.mode, h.fe, Nat.le_trans h.u (Nat.mul_le_mul_right _ (Nat.le_succ m)), Nat.le_succ_of_le h.len, Nat.le_succ_of_le h.cnt, h.xs, h.ts, h.row, h.rd, h.ln, h.cap, h.off, h.lov, h.m9⟩
set_option maxRecDepth 100000 in
theorem OpenP.any {w : World} {r : Option (List UInt8)} {e : Ending} {w' : World} (h : OpenP w r e w') : ∃ A m c, e = .returned (.tuple #[.slice A m c, .bool r.isSome]) ∧ RdB w' A (r.getD []) ∧ (r.getD []).length = m ∧ Below w.heap.size w w' := by
  cases r with
  | none =>
    obtain ⟨rfl, hb⟩ := h.no
    exact ⟨none, 0, 0, rfl, RdB.nil _ _, rfl, hb⟩
  | some t =>
    obtain ⟨⟨v, rfl, ho⟩, hb⟩ := h.yes
    obtain ⟨A, c, rfl, hr, _⟩ := ho.read
    exact ⟨A, t.length, c, rfl, hr, rfl, hb⟩
set_option maxRecDepth 100000 in
theorem mask3 (x : UInt8) : bits .and .u8 (x.toNat : Int) 3 = ((x &&& 3).toNat : Int) := by
  have h : ∀ n : Nat, n < 256 → bits .and .u8 (n : Int) 3 = ((UInt8.ofNat n &&& 3).toNat : Int) := by decide +kernel
  have := h x.toNat x.toNat_lt
  rwa [UInt8.ofNat_toNat] at this
set_option maxRecDepth 100000 in
set_option maxHeartbeats 8000000 in
theorem boxPlays_walk (w : World) (a0 : Int) (b0 : -9223372036854775808 ≤ a0 ∧ a0 ≤ 9223372036854775807) (A1 : Option Addr) (c1 : Nat) (l1 : List UInt8) (R1 : RdB w A1 l1) (n1 : l1.length ≤ c1) (m1 : c1 ≤ 9223372036854775807) (b1 : ∀ a, A1 = some a → a.block < w.heap.size) (z1 : l1.length ≤ 140737488351232)
    (A2 : Option Addr) (c2 : Nat) (zs : List BAct) (R2 : RdA w A2 zs) (n2 : zs.length ≤ c2) :
    Calls Try.prog 6 #[.int .i64 a0, .slice A1 l1.length c1, .slice A2 zs.length c2] w fun e w' => e = .returned (.bool true) ∧ Below w.heap.size w w' := by
  obtain ⟨i0, hi0, hz0, hz1, hz2⟩ := info_parts (show (Try.prog.info? 5).map (fun i => (i.zero, i.size, i.bytes)) = some (some (.int .u8 0), 1, 1) by kernel_rfl)
  have I0 := Lib.hid hi0
  have I1 := Lib.hid hz1
  have IA := Lib.hid (show (Try.prog.info? 35).map (·.size) = some 5 by kernel_rfl)
  have IE := Lib.hid (show (Try.prog.info? 57).map (·.size) = some 4 by kernel_rfl)
  have F0 := Lib.hid R1
  have H1 := Lib.hid R2
  obtain ⟨q0, hq0⟩ : ∃ q, q = l1.length := ⟨_, rfl⟩
  obtain ⟨q1, hq1⟩ : ∃ q, q = zs.length := ⟨_, rfl⟩
  rw [← hq0, ← hq1]
  have Q0 := Lib.hid hq0.symm
  have Q1 := Lib.hid hq1.symm
  have QC := Lib.hid (show q0 ≤ c1 ∧ q0 ≤ 140737488351232 by rw [hq0]; exact ⟨n1, z1⟩)
  have d0 : (q0 : Int) ≤ 140737488351232 := by have := QC.out; omega
  clear hi0 hz0 hz1 hz2 R1 R2 n1 m1 b1 z1 n2 hq0 hq1
  go_enter Try.func6, Try.ntmps6
  obtain ⟨F, hF⟩ : ∃ F, F = l1.take 300 := ⟨_, rfl⟩
  obtain ⟨n, hn⟩ : ∃ n, n = F.length := ⟨_, rfl⟩
  have NE := Lib.hid hn.symm
  have NB := Lib.hid (show n ≤ 300 ∧ n ≤ c1 by have := QC.out; have := Q0.out; rw [hn, hF, List.length_take]; omega)
  have FR := Lib.hid (show RdB w A1 F by rw [hF]; exact F0.out.take _)
  go_upto_if 27 with fail
  go_cut [1] (fun v wx => v = .slice A1 n c1 ∧ wx = w)
  case first =>
    by_cases h3 : 300 < q0
    · have hD : decide ((300 : Int) < (q0 : Int)) = true := by simp; omega
      have QD := Lib.hid (show 300 ≤ c1 by have := QC.out; omega)
      go_wp2_with (refine wpList_val rfl (run_cut_to 23 (.tmp 28) (.const (.int .i64 300)) rfl 5 Try.underlying23 I0.out I1.out A1 q0 c1 300 rfl rfl QD.out _) ?_)
      go_meet
      exact ⟨by rw [hn, hF, List.length_take, Q0.out, Nat.min_eq_left (by omega)], rfl⟩
    · have hD : decide ((300 : Int) < (q0 : Int)) = false := by simp; omega
      go_wp2_with fail
      go_meet
      exact ⟨by rw [hn, hF, List.length_take, Q0.out, Nat.min_eq_right (by omega)], rfl⟩
  case rest =>
  obtain ⟨rfl, hwx⟩ := hcut
  rw [hwx]
  clear hwx hF hn d0
  have NZ := Lib.hid (show F.length ≤ 300 by have := NB.out; rw [NE.out]; omega)
  go_wp2_with fail
  have RV := Lib.hid (RdV.row (g := w.heap.size) (l := [.slice A1 n c1]) (t := 23) (fr := (0, 0)) (w := w.alloc (.cells #[.slice A1 n c1] 23)) (ha_new _ _ _ rfl))
  have B3 := Lib.hid (below_new w (.cells #[.slice A1 n c1] 23))
  generalize World.alloc w _ = w3 at *
  refine (dnew_any w3 _ 1 1 _ [F] rfl RV.out (.cons ⟨_, c1, by rw [NE.out], by rw [NE.out]; exact NB.out.2, FR.out.keep B3.out⟩ .nil) (by have := NZ.out; simp; omega) (by omega)).mono ?_
  rw [show ([F] : List (List UInt8)).flatten = F by simp]
  rintro e w4 ⟨S, D, rfl, hg, hD1, hD2, hs, hb⟩
  have SW := Lib.hid (SrcW.new hg hD1 hD2 hs hb)
  have B4 := Lib.hid (B3.out.trans (hb.mono B3.out.size))
  clear hg hD1 hD2 hs hb
  by_cases hm : a0 ≠ 0 ∧ a0 ≠ 1
  · have e0 : (a0 == 0) = false := by simp; exact hm.1
    have e1 : (a0 == 1) = false := by simp; exact hm.2
    have e2 : (a0 != 0) = true := by simp; exact hm.1
    have e3 : (a0 != 1) = true := by simp; exact hm.2
    go_wp2_with fail
    refine (bnew_bad w4 a0 hm _).mono ?_
    rintro e wd ⟨rfl, hw⟩
    rw [hw]
    clear hw wd
    go_wp2_with fail
    refine (boxOne_true w4).mono ?_
    rintro e w5 ⟨rfl, hb⟩
    have BF := Lib.hid (B4.out.trans (hb.mono B4.out.size))
    clear hb
    go_wp2_with fail
    go_ret
    exact ⟨rfl, BF.out⟩
  · obtain ⟨k, rfl, hk⟩ : ∃ k : Nat, a0 = (k : Int) ∧ (k = 0 ∨ k = 1) := by
      by_cases h0 : a0 = 0
      · exact ⟨0, h0, .inl rfl⟩
      · exact ⟨1, by by_cases h1 : a0 = 1; exact h1; exact absurd ⟨h0, h1⟩ hm, .inr rfl⟩
    have KM := Lib.hid hk
    have kb : (k : Int) ≤ 1 := by omega
    clear hk hm
    go_wp2_with fail
    refine (bnew_any w3 S D F 0 w4 SW.out k KM.out).mono ?_
    rintro e w5 ⟨g, b, lo, rfl, hbx, hb2, hlo⟩
    have X := Lib.hid hbx
    have XL := Lib.hid hlo
    clear hbx hb2 hlo SW
    go_upto_region 4 with fail
    go_cut [43] (fun v wx => v = .bool false ∧ wx = w5)
    case first =>
      rcases KM.out with rfl | rfl
      · go_wp2_with fail
        go_meet
        exact ⟨rfl, rfl⟩
      · go_wp2_with fail
        go_meet
        exact ⟨rfl, rfl⟩
    case rest =>
    obtain ⟨rfl, hwx⟩ := hcut
    rw [hwx]
    clear hwx
    have BW5 := Lib.hid (B3.out.trans (X.out.bel.mono B3.out.size))
    have Z0 := Lib.hid (show (Try.prog.info? 53).map (·.size) = some (RBC k F 0 none 0 0).size from info_rbx)
    go_upto_region 7 with (first
      | (refine wpList_val rfl (run_str 23 9 (.tmp 54) rfl Try.underlying23 Try.underlying5 Try.underlying9 (FR.out.keep BW5.out) n c1 NE.out rfl) ?_)
      | (refine wpList_val rfl (run_newrbx (.tmp 53) (.tmp 55) rfl k F rfl rfl _) ?_)
      | (refine wpList_store_new rfl rfl 53 (.tmp 9) (.tmp 56) rfl (RBC k F 0 none 0 0) rfl rfl Z0.out rfl (RBC_one _ _ _ _ _ _) ?_))
    generalize hM9 : Array.size (World.heap w5) = M9
    generalize hw6 : World.alloc w5 _ = w6
    obtain ⟨L, hL⟩ : ∃ L, L = w6.heap.size := ⟨_, rfl⟩
    have P := Lib.hid (show PlW w3 g S D b L k F M9 0 ⟨k, F, 0, [], 0⟩ ⟨k, F, 0, []⟩ none 0 0 w6 by
      have hl := X.out.lt
      have hb : Below w5.heap.size w5 w6 := by rw [← hw6]; exact below_new _ _
      have hz : w6.heap.size = w5.heap.size + 1 := by rw [← hw6, ha_size]
      refine ⟨(X.out.keep hb).raise rfl (by have := XL.out; omega), ⟨rfl, rfl, rfl, rfl, fun _ => rfl, fun _ => rfl⟩, rfl, rfl, by show 0 ≤ _; omega, by show 0 ≤ _; omega, by show 0 ≤ _; omega, by simp, by simp, by rw [← hw6]; exact ha_new _ _ _ hM9.symm, RdV.nil _ _, rfl, Nat.le_refl _, fun a e => (by cases e), Nat.le_of_eq hL, ?_⟩
      rw [← hM9]
      exact ⟨hl.1, hl.2.1, hl.2.2.1, hl.2.2.2, by omega⟩)
    have W39 := Lib.hid (show w3.heap.size ≤ M9 by rw [← hM9]; exact X.out.bel.size)
    clear hM9 hw6 X XL RV Z0 hL
    go_wp2_with fail
    go_loopw [10] (fun i wr => ∃ (m : Nat) (s : BSt) (q : RBx) (A : Option Addr) (nn c : Nat), m ≤ 16 ∧ m ≤ q1 ∧ i = .int .i64 (m : Int) ∧ PlW w3 g S D b L k F M9 m s q A nn c wr) (fun i _ => 16 - (intOf i).toNat)
    case atStart => exact ⟨0, _, _, _, _, _, by omega, by omega, rfl, P.out⟩
    case round =>
      obtain ⟨m, s, q, A, nn, c, hm, hmq, rfl, hP⟩ := hrel
      have M := Lib.hid (And.intro hm hmq)
      have P := Lib.hid hP
      have BW := Lib.hid (show Below w.heap.size w wr from B3.out.trans (hP.box.bel.mono B3.out.size))
      clear hm hmq hP
      obtain ⟨wp, rfl⟩ : ∃ wp : World, wp = wr := ⟨_, rfl⟩
      by_cases hq : m < q1
      · by_cases h16 : m < 16
        · have hD : decide ((m : Int) < (q1 : Int)) = true := by simp; omega
          have hD2 : decide ((m : Int) < 16) = true := by simp; omega
          obtain ⟨z, bz, oz, hz, hok, hA, hrz⟩ := H1.out.at (by rw [Q1.out]; exact hq)
          obtain ⟨cs, hcs⟩ : ∃ cs, cs = RowA z := ⟨_, rfl⟩
          have OK := Lib.hid hok
          have AE := Lib.hid hA
          have MQ := Lib.hid hq
          have RZ := Lib.hid (show wp.rangeAt bz (oz + m * 5) cs by rw [hcs]; exact fun i v hi => cell_same (hrz i v hi) (BW.out.block bz (cell_lt (hrz 0 _ rfl))))
          have CE := Lib.hid hcs
          have CL := Lib.hid (show (Try.prog.info? 35).map (·.size) = some cs.length by rw [hcs]; exact IA.out)
          have CO := Lib.hid (show cs.toArray.all (·.oneCell') = true by rw [hcs]; exact all_oneCell_toArray (by intro v hv; simp only [RowA, List.mem_cons, List.mem_nil_iff, or_false] at hv; rcases hv with rfl | rfl | rfl | rfl | rfl <;> rfl))
          have M15 := Lib.hid h16
          have mb : (m : Int) ≤ 15 := by omega
          clear hz hok hA hrz hcs hq h16
          go_upto_region 10 with fail
          refine wp_region_list ?_
          simp only [List.toList_toArray]
          refine wpList_val (v := ?_) (by rfl) ?_ ?_
          rotate_left
          · go_simp
            with_reducible rfl
          simp only [Act.put, List.setIfInBounds_toArray, List.set_cons_zero, List.set_cons_succ]
          refine wpList_val (v := ?_) (by rfl) ?_ ?_
          rotate_left
          · go_simp
            with_reducible rfl
          simp only [Act.put, List.setIfInBounds_toArray, List.set_cons_zero, List.set_cons_succ]
          refine wpList_val (by rfl) (run_iaddr_slk 22 (.tmp 67) (.tmp 68) rfl 35 Try.underlying22 5 IA.out bz oz q1 c2 m MQ.out .i64 _ rfl (by rw [← AE.out]; rfl) rfl _) ?_
          simp only [Act.put, List.setIfInBounds_toArray, List.set_cons_zero, List.set_cons_succ]
          refine wpList_val (by rfl) (run_load_range 35 (.tmp 69) rfl bz (oz + m * 5) rfl cs RZ.out Try.underlying35 rfl CL.out) ?_
          simp only [Act.put, List.setIfInBounds_toArray, List.set_cons_zero, List.set_cons_succ]
          go_upto_region 11 with (refine wpList_store_new rfl rfl 35 (.tmp 11) (.tmp 70) rfl cs.toArray rfl rfl CL.out (by rw [CE.out]; rfl) CO.out ?_)
          generalize hM11 : Array.size (World.heap wp) = M11
          generalize hw7 : World.alloc wp _ = w7
          have P7 := Lib.hid (show PlW w3 g S D b L k F M9 m s q A nn c w7 by rw [← hw7]; exact P.out.keep (below_new _ _))
          have R11 := Lib.hid (show w7.heap[M11]? = some (.cells cs.toArray 35 (0, 0)) by rw [← hw7]; exact ha_new _ _ _ hM11.symm)
          have BW7 := Lib.hid (show Below w.heap.size w w7 by rw [← hw7]; exact BW.out.trans ((below_new _ _).mono BW.out.size))
          have WM := Lib.hid (show w.heap.size ≤ M11 by rw [← hM11]; exact BW.out.size)
          have LT11 := Lib.hid (show g < M11 ∧ S < M11 ∧ b < M11 ∧ M9 < M11 by rw [← hM11]; exact ⟨P.out.box.lt.1, P.out.box.lt.2.1, P.out.box.lt.2.2.2, row_lt P.out.row⟩)
          clear hM11 hw7 P BW
          obtain ⟨zk, zn, ky, Ab, cb, lb, At, ct, lt⟩ := z
          have OKW : Hid ((RdB w Ab lb ∧ lb.length ≤ cb) ∧ (RdB w At lt ∧ lt.length ≤ ct)) := ⟨OK.out.1, OK.out.2.1⟩
          have ZB : Hid (-9223372036854775808 ≤ zn ∧ zn ≤ 9223372036854775807) := OK.out.2.2.2
          obtain ⟨kk, hkk⟩ : ∃ kk : UInt8, kk = ky &&& 3 := ⟨_, rfl⟩
          have e3 : bits .and .u8 (ky.toNat : Int) 3 = (kk.toNat : Int) := by rw [hkk]; exact mask3 ky
          have a2 := row_cell R11.out 2 (show cs.toArray[2]? = some (.int .u8 (ky.toNat : Int)) by rw [CE.out]; rfl)
          have ZKK := Lib.hid (show (Try.prog.info? 37).map (·.size) = some (W8 (keyK kk)).size by rw [W8_size]; kernel_rfl)
          clear hkk OK RZ
          refine wp_region_list ?_
          simp only [List.toList_toArray]
          refine wpList_val (v := ?_) (by rfl) ?_ ?_
          rotate_left
          · go_simp
            with_reducible rfl
          simp only [Act.put, List.setIfInBounds_toArray, List.set_cons_zero, List.set_cons_succ]
          refine wpList_val (v := ?_) (by rfl) ?_ ?_
          rotate_left
          · go_simp
            with_reducible rfl
          simp only [Act.put, List.setIfInBounds_toArray, List.set_cons_zero, List.set_cons_succ]
          refine wpList_val (v := ?_) (by rfl) ?_ ?_
          rotate_left
          · go_simp
            with_reducible rfl
          simp only [Act.put, List.setIfInBounds_toArray, List.set_cons_zero, List.set_cons_succ]
          refine wpList_val (by rfl) (run_keyK (.tmp 73) rfl kk rfl _) ?_
          simp only [Act.put, List.setIfInBounds_toArray, List.set_cons_zero, List.set_cons_succ]
          go_upto_region 12 with (refine wpList_store_new rfl rfl 37 (.tmp 12) (.tmp 74) rfl (W8 (keyK kk)) rfl rfl ZKK.out (by rw [W8_size]; rfl) (W8_one _) ?_)
          generalize hM12 : Array.size (World.heap w7) = M12
          generalize hw8 : World.alloc w7 _ = w8
          have LT12 := Lib.hid (show g < M12 ∧ S < M12 ∧ b < M12 ∧ M9 < M12 ∧ M11 < M12 by rw [← hM12]; have h2 := P7.out.box.lt; exact ⟨h2.1, h2.2.1, h2.2.2.2, row_lt P7.out.row, row_lt R11.out⟩)
          have P8 := Lib.hid (show PlW w3 g S D b L k F M9 m s q A nn c w8 by rw [← hw8]; exact P7.out.keep (below_new _ _))
          have R11 := Lib.hid (show w8.heap[M11]? = some (.cells cs.toArray 35 (0, 0)) by rw [← hw8]; exact ha_old _ _ _ (row_lt R11.out) R11.out)
          have R12 := Lib.hid (show w8.heap[M12]? = some (.cells (W8 (keyK kk)) 37 (0, 0)) by rw [← hw8]; exact ha_new _ _ _ hM12.symm)
          have BW8 := Lib.hid (show Below w.heap.size w w8 by rw [← hw8]; exact BW7.out.trans ((below_new _ _).mono BW7.out.size))
          clear hM12 hw8 P7 BW7 a2 e3
          have D8 := Lib.hid (show Below w8.heap.size w8 w8.drew from (Below.refl _ _).drew)
          refine wp_region_road (fun W => Below w8.heap.size w8 W) [(true, 0), (true, 1), (true, 3), (true, 4), (false, 2), (false, 5), (true, 6), (true, 7)] (by kernel_rfl) (by kernel_rfl) (fun _ _ d _ _ h => by cases d <;> exact h) ?_
          simp only [List.filterMap_cons, List.filterMap_nil, List.getElem?_toArray, List.getElem?_cons_zero, List.getElem?_cons_succ, Option.map_some]
          refine planG_q (v := ?_) (by rfl) (D8.out) ?_ ?_
          rotate_left
          · intro W hW
            go_simp
            with_reducible rfl
          simp only [Act.put, List.setIfInBounds_toArray, List.set_cons_zero, List.set_cons_succ]
          refine planG_q (by rfl) (D8.out) (fun W hW => run_cell 23 (.tmp 75) rfl _ Try.underlying23 rfl rfl (row_cell (below_block hW (row_lt R11.out) R11.out) 3 (show cs.toArray[3]? = some (.slice Ab lb.length cb) by rw [CE.out]; rfl))) ?_
          simp only [Act.put, List.setIfInBounds_toArray, List.set_cons_zero, List.set_cons_succ]
          refine planG_q (v := ?_) (by rfl) (D8.out) ?_ ?_
          rotate_left
          · intro W hW
            go_simp
            with_reducible rfl
          simp only [Act.put, List.setIfInBounds_toArray, List.set_cons_zero, List.set_cons_succ]
          refine planG_q (by rfl) (D8.out) (fun W hW => run_cell 23 (.tmp 78) rfl _ Try.underlying23 rfl rfl (row_cell (below_block hW (row_lt R11.out) R11.out) 4 (show cs.toArray[4]? = some (.slice At lt.length ct) by rw [CE.out]; rfl))) ?_
          simp only [Act.put, List.setIfInBounds_toArray, List.set_cons_zero, List.set_cons_succ]
          refine planG_t (by rfl) (fun K hK => ?_)
          go_simp
          refine (bshort_any _ Ab lb.length cb lb rfl OKW.out.1.2).mono ?_
          obtain ⟨bs, hbs⟩ : ∃ bs, bs = lb.take 200 := ⟨_, rfl⟩
          obtain ⟨p, hp⟩ : ∃ p, p = bs.length := ⟨_, rfl⟩
          rw [← hbs, ← hp]
          have BL := Lib.hid hp.symm
          have BQ := Lib.hid (show p ≤ 200 ∧ p ≤ cb by have := OKW.out.1.2; rw [hp, hbs, List.length_take]; omega)
          have BR := Lib.hid (show RdB w Ab bs by rw [hbs]; exact OKW.out.1.1.take _)
          rintro e wd ⟨rfl, hw⟩
          rw [hw]
          clear hw wd hbs hp
          refine hK.out _ _ (D8.out) ?_
          clear hK K
          refine planG_t (by rfl) (fun K hK => ?_)
          go_simp
          refine (bshort_any _ At lt.length ct lt rfl OKW.out.2.2).mono ?_
          obtain ⟨t, ht⟩ : ∃ t, t = lt.take 200 := ⟨_, rfl⟩
          obtain ⟨p2, hp⟩ : ∃ p, p = t.length := ⟨_, rfl⟩
          rw [← ht, ← hp]
          have TL := Lib.hid hp.symm
          have TQ := Lib.hid (show p2 ≤ 200 ∧ p2 ≤ ct by have := OKW.out.2.2; rw [hp, ht, List.length_take]; omega)
          have TR := Lib.hid (show RdB w At t by rw [ht]; exact OKW.out.2.1.take _)
          rintro e wd ⟨rfl, hw⟩
          rw [hw]
          clear hw wd ht hp
          refine hK.out _ _ (D8.out) ?_
          clear hK K
          refine planG_q (v := ?_) (by rfl) (D8.out) ?_ ?_
          rotate_left
          · intro W hW
            go_simp
            with_reducible rfl
          simp only [Act.put, List.setIfInBounds_toArray, List.set_cons_zero, List.set_cons_succ]
          refine planG_q (v := ?_) (by rfl) (D8.out) ?_ ?_
          rotate_left
          · intro W hW
            go_simp
            with_reducible rfl
          simp only [Act.put, List.setIfInBounds_toArray, List.set_cons_zero, List.set_cons_succ]
          refine planG_nil ?_
          generalize hw9 : World.drew w8 = w9
          have P := Lib.hid (show PlW w3 g S D b L k F M9 m s q A nn c w9 by rw [← hw9]; exact P8.out.keep D8.out)
          have R11 := Lib.hid (show w9.heap[M11]? = some (.cells cs.toArray 35 (0, 0)) by rw [← hw9]; exact R11.out)
          have R12 := Lib.hid (show w9.heap[M12]? = some (.cells (W8 (keyK kk)) 37 (0, 0)) by rw [← hw9]; exact R12.out)
          have BW := Lib.hid (show Below w.heap.size w w9 by rw [← hw9]; exact BW8.out.trans (D8.out.mono BW8.out.size))
          clear hw9 P8 BW8 D8
          have a0 := row_cell R11.out 0 (show cs.toArray[0]? = some (.int .i64 zk) by rw [CE.out]; rfl)
          go_upto_if 83 with fail
          have kb2 : (k : Int) ≤ 1 := kb
          go_cut [9] (fun v wx => v = .pointer (some ⟨M9, 0, none⟩) ∧ ∃ (s : BSt) (q : RBx) (A : Option Addr) (nn c : Nat), PlW w3 g S D b L k F M9 (m + 1) s q A nn c wx)
          case first =>
            by_cases hz : zk = 0
            · as_aux_lemma =>
                have e0 : (zk == 0) = true := by simp; exact hz
                go_upto_region 14 with fail
                clear a0
                refine wp_region_list ?_
                simp only [List.toList_toArray]
                refine wpList_val (v := ?_) (by rfl) ?_ ?_
                rotate_left
                · go_simp
                  with_reducible rfl
                simp only [Act.put, List.setIfInBounds_toArray, List.set_cons_zero, List.set_cons_succ]
                refine wpList_val (by rfl) (run_load_row 37 (.tmp 12) rfl M12 rfl 37 (W8 (keyK kk)) (0, 0) _ R12.out Try.underlying37 rfl ZKK.out) ?_
                simp only [Act.put, List.setIfInBounds_toArray, List.set_cons_zero, List.set_cons_succ]
                go_wp2_with fail
                have BGG := Lib.hid (show w.heap.size ≤ g ∧ w.heap.size ≤ S ∧ w.heap.size ≤ b by have := B3.out.size; have := P.out.box.hg; have := P.out.box.hS; have := P.out.box.hb; omega)
                have MK := Lib.hid (show s.mode = 0 ∨ s.mode = 1 by rw [P.out.mode]; exact KM.out)
                refine (bseal_any w3 g S D b L s w9 P.out.box MK.out ⟨keyK kk, bs, t⟩ rfl Ab p cb BL.out (BR.out.keep BW.out) (by have := BQ.out; omega) At p2 ct TL.out TQ.out.2 (TR.out.keep BW.out) (TR.out.apart BGG.out) (by have := TQ.out; omega) (by have := P.out.u; have := TQ.out; have := M.out; omega) (by rw [P.out.fe]; have := NZ.out; omega) (by have := P.out.len; have := M.out; omega) (by have := P.out.cnt; have := M.out; omega) P.out.lov).mono ?_
                rintro e wx ⟨Ax, mx, cx, s', r, rfl, hsr, hrx, hlx, hcx, hbx, hbb, hff⟩
                obtain ⟨hr2, hrel2⟩ := P.out.rel.sealed hsr
                have hlen := SealR.texts hsr 200 P.out.ts (by show t.length ≤ 200; rw [TL.out]; exact TQ.out.1)
                have hmod := hsr.mode
                have X1 := Lib.hid hbb
                have RR := Lib.hid hr2
                have RL2 := Lib.hid (show RelB s' (sealR8 q (keyK kk) bs t).1 from hrel2)
                have TS := Lib.hid hlen
                have SM := Lib.hid hmod
                have RX := Lib.hid hrx
                have XL := Lib.hid hlx
                have R9 := Lib.hid (show wx.heap[M9]? = _ from (hff.2 M9 (row_lt P.out.row) (by have := P.out.m9; omega) (by have := P.out.m9; omega) (by have := P.out.m9; omega)).trans P.out.row)
                have R12 := Lib.hid (show wx.heap[M12]? = some (.cells (W8 (keyK kk)) 37 (0, 0)) from (hff.2 M12 (row_lt R12.out) (by have := LT12.out; omega) (by have := LT12.out; omega) (by have := LT12.out; omega)).trans R12.out)
                have QRD := Lib.hid (show RdV wx A (EC q.L) from P.out.rd.boxF hff (fun a ea => by have := P.out.off a ea; exact ⟨this.1, this.2.1, this.2.2.1⟩))
                have LOX := Lib.hid (Nat.le_trans P.out.lov hff.1)
                have WXS := Lib.hid hff.1
                have M9X := Lib.hid (show M9 < wx.heap.size from Nat.lt_of_lt_of_le (row_lt P.out.row) hff.1)
                have BWX := Lib.hid (show Below w.heap.size w wx from B3.out.trans (hbb.bel.mono B3.out.size))
                have QM := Lib.hid (show q.mode = 0 ∨ q.mode = 1 by rw [← P.out.rel.mode]; exact MK.out)
                obtain ⟨kx, hkx⟩ : ∃ kx : Int, kx = (if r.isSome then 0 else 15) := ⟨_, rfl⟩
                have KXE := Lib.hid hkx
                rw [← hkx]
                clear hsr hrx hlx hcx hbx hbb hff hr2 hrel2 hlen hmod hkx
                go_upto_region 15 with fail
                obtain ⟨gs, hgs⟩ : ∃ gs, gs = RBC q.mode q.F q.u A nn c := ⟨_, rfl⟩
                have GE := Lib.hid hgs
                have GZ := Lib.hid (show (Try.prog.info? 53).map (·.size) = some gs.size by rw [hgs]; exact info_rbx)
                rw [← hgs] at R9
                clear hgs
                obtain ⟨y, hy⟩ : ∃ y, y = sealR8 q (keyK kk) bs t := ⟨_, rfl⟩
                rw [← hy] at RR RL2
                have YE := Lib.hid hy
                clear hy
                obtain ⟨ek, hek⟩ : ∃ ek : Int, ek = (if y.2.isSome then 0 else 15) := ⟨_, rfl⟩
                have EKE := Lib.hid hek
                clear hek
                go_cut [17, 18, 19] (fun v17 v18 v19 wy => ∃ M17 A' n' c', v17 = .pointer (some ⟨M17, 0, none⟩) ∧ v18 = .string (strB (y.2.getD [])) ∧ v19 = .int .i64 ek ∧ wx.heap.size ≤ M17 ∧ wy.heap[M17]? = some (.cells (RBC y.1.mode y.1.F y.1.u A' n' c') 53 (0, 0)) ∧ RdV wy A' (EC y.1.L) ∧ y.1.L.length = n' ∧ n' ≤ c' ∧ (∀ a, A' = some a → (wx.heap.size ≤ a.block ∧ a.block < wy.heap.size) ∨ A = some a) ∧ Below wx.heap.size wx wy)
                case first =>
                  have AL := Lib.hid (show ∀ a, A = some a → a.block < wx.heap.size from fun a ea => Nat.lt_of_lt_of_le (P.out.off a ea).2.2.2.2 WXS.out)
                  have S := Lib.hid (show Below wx.heap.size wx wx.drew from (Below.refl _ _).drew)
                  refine wp_region_tree (fun W => Below wx.heap.size wx W) (.q 0 (.q 1 (.q 2 (.q 3 (.q 4 (.q 5 (.q 6 (.two 7 (.q 8 (.q 9 (.q 10 (.q 11 (.t 12 (.t 13 (.q 14 (.q 15 .done)))))))) 12 (.t 7 (.q 8 (.q 9 (.q 10 (.q 11 (.t 13 (.q 14 (.q 15 .done)))))))))))))))) (by kernel_rfl) (by kernel_rfl) (fun _ _ d _ _ h => by cases d <;> exact h) ?_
                  generalize World.drew wx = w10 at *
                  refine road_q rfl rfl (S.out) (fun W hW => run_load_row 53 (.tmp 9) rfl M9 rfl 53 gs (0, 0) _ (below_block hW (row_lt R9.out) R9.out) Try.underlying53 rfl GZ.out) ?_
                  simp only [Act.put, List.setIfInBounds_toArray, List.set_cons_zero, List.set_cons_succ]
                  refine road_q rfl rfl (S.out) (fun W hW => run_arr_all 37 (.tmp 12) rfl 32 5 Try.underlying37 I0.out M12 rfl W) ?_
                  simp only [Act.put, List.setIfInBounds_toArray, List.set_cons_zero, List.set_cons_succ]
                  refine road_q rfl rfl (S.out) (fun W hW => run_str 23 9 (.tmp 94) rfl Try.underlying23 Try.underlying5 Try.underlying9 (RdB.row (below_block hW (row_lt R12.out) R12.out)) 32 32 rfl rfl) ?_
                  simp only [Act.put, List.setIfInBounds_toArray, List.set_cons_zero, List.set_cons_succ]
                  refine road_q (v := ?_) rfl rfl (S.out) ?_ ?_
                  rotate_left
                  · intro W hW
                    go_simp
                    with_reducible rfl
                  simp only [Act.put, List.setIfInBounds_toArray, List.set_cons_zero, List.set_cons_succ]
                  refine road_q rfl rfl (S.out) (fun W hW => run_str 23 9 (.tmp 96) rfl Try.underlying23 Try.underlying5 Try.underlying9 ((BR.out.keep BWX.out).keep hW) p cb BL.out rfl) ?_
                  simp only [Act.put, List.setIfInBounds_toArray, List.set_cons_zero, List.set_cons_succ]
                  refine road_q (v := ?_) rfl rfl (S.out) ?_ ?_
                  rotate_left
                  · intro W hW
                    go_simp
                    with_reducible rfl
                  simp only [Act.put, List.setIfInBounds_toArray, List.set_cons_zero, List.set_cons_succ]
                  refine road_q rfl rfl (S.out) (fun W hW => run_str 23 9 (.tmp 98) rfl Try.underlying23 Try.underlying5 Try.underlying9 ((TR.out.keep BWX.out).keep hW) p2 ct TL.out rfl) ?_
                  simp only [Act.put, List.setIfInBounds_toArray, List.set_cons_zero, List.set_cons_succ]
                  refine road_two ?_ ?_
                  ·
                    refine road_t rfl rfl (fun K hK => ?_)
                    go_simp
                    rw [GE.out]
                    refine (rbseal_any q QM.out A nn c P.out.ln P.out.cap _ (QRD.out.keep S.out) (keyK kk) bs t rfl (by rw [BL.out]; have := BQ.out; omega) (by rw [TL.out]; have := TQ.out; omega) (by rw [← P.out.rel.F, P.out.fe]; have := NZ.out; omega) (by rw [← P.out.rel.u]; have := P.out.u; have := M.out; omega) (by have h1 := P.out.cnt; have h2 := P.out.rel.n; have := P.out.ln; have := M.out; omega)).mono ?_
                    rw [← YE.out, ← GE.out]
                    rintro e wq ⟨A', n', c', rfl, hrd, hln, hcp, hof, hb⟩
                    rw [← EKE.out]
                    have RD := Lib.hid hrd
                    have LN := Lib.hid hln
                    have CP := Lib.hid hcp
                    have OF := Lib.hid (show ∀ a, A' = some a → (wx.heap.size ≤ a.block ∧ a.block < wq.heap.size) ∨ A = some a from fun a ea => (hof a ea).imp_left fun hh => ⟨Nat.le_trans S.out.size hh.1, hh.2⟩)
                    try have AM := Lib.hid (show ∀ a, A' = some a → a.block ≠ M17 from fun a ea => by
                      have h1 := row_lt R.out
                      have h2 := MS.out
                      rcases hof a ea with hh | hh
                      · have := hh.1; omega
                      · have := AL.out a hh; omega)
                    have S := Lib.hid (S.out.trans (hb.mono S.out.size))
                    try have R := Lib.hid (below_block hb (row_lt R.out) R.out)
                    clear hrd hln hcp hof hb
                    refine hK.out _ _ (S.out) ?_
                    clear hK K
                    refine road_q (v := ?_) rfl rfl (S.out) ?_ ?_
                    rotate_left
                    · intro W hW
                      go_simp
                      with_reducible rfl
                    simp only [Act.put, List.setIfInBounds_toArray, List.set_cons_zero, List.set_cons_succ]
                    refine road_q (v := ?_) rfl rfl (S.out) ?_ ?_
                    rotate_left
                    · intro W hW
                      go_simp
                      with_reducible rfl
                    simp only [Act.put, List.setIfInBounds_toArray, List.set_cons_zero, List.set_cons_succ]
                    refine road_q (v := ?_) rfl rfl (S.out) ?_ ?_
                    rotate_left
                    · intro W hW
                      go_simp
                      with_reducible rfl
                    simp only [Act.put, List.setIfInBounds_toArray, List.set_cons_zero, List.set_cons_succ]
                    refine road_q (v := ?_) rfl rfl (S.out) ?_ ?_
                    rotate_left
                    · intro W hW
                      go_simp
                      with_reducible rfl
                    simp only [Act.put, List.setIfInBounds_toArray, List.set_cons_zero, List.set_cons_succ]
                    refine road_t rfl rfl (fun K hK => ?_)
                    go_simp
                    generalize hM : Array.size (World.heap _) = M17
                    generalize hwn : World.alloc _ _ = wn
                    have MS := Lib.hid (show wx.heap.size ≤ M17 by rw [← hM]; exact S.out.size)
                    have R := Lib.hid (show wn.heap[M17]? = some (.cells RBZ 53 (0, 0)) by rw [← hwn]; exact ha_new _ _ _ hM.symm)
                    try have RD := Lib.hid (RD.out.keep (show Below _ _ wn by rw [← hwn]; exact below_new _ _))
                    try have AM := Lib.hid (show ∀ a, A' = some a → a.block ≠ M17 from fun a ea => by
                      rcases OF.out a ea with hh | hh
                      · have := hh.2; omega
                      · have := AL.out a hh; have := MS.out; omega)
                    try have OF := Lib.hid (show ∀ a, A' = some a → (wx.heap.size ≤ a.block ∧ a.block < wn.heap.size) ∨ A = some a from fun a ea => (OF.out a ea).imp_left fun hh => ⟨hh.1, Nat.lt_of_lt_of_le hh.2 (by rw [← hwn]; exact (below_new _ _).size)⟩)
                    have S := Lib.hid (show Below wx.heap.size wx wn by rw [← hwn]; exact S.out.alloc S.out.size _)
                    clear hM hwn
                    refine hK.out _ _ (S.out) ?_
                    clear hK K
                    refine road_t rfl rfl (fun K hK => ?_)
                    obtain ⟨hs, hhs⟩ : ∃ hs, hs = RBC y.1.mode y.1.F y.1.u A' n' c' := ⟨_, rfl⟩
                    have HZ := Lib.hid (show (Try.prog.info? 53).map (·.size) = some hs.size by rw [hhs]; exact info_rbx)
                    have HO := Lib.hid (show hs.all (·.oneCell') = true by rw [hhs]; exact RBC_one _ _ _ _ _ _)
                    have HS := Lib.hid (show hs.size = 4 by rw [hhs]; rfl)
                    have HE := Lib.hid hhs
                    rw [← hhs]
                    clear hhs
                    refine storeW_wp 53 (.tmp 17) (.tmp 101) rfl M17 hs rfl rfl _ _ R.out HZ.out (by rw [HS.out]; rfl) HO.out ?_
                    intro wz hz9 hg9 _
                    have R := Lib.hid hz9
                    have RD := Lib.hid (RD.out.grown hg9 (fun g' e a ea => by have e : M17 = g' := Option.some.inj e; have := AM.out a ea; omega))
                    have OF := Lib.hid (show ∀ a, A' = some a → (wx.heap.size ≤ a.block ∧ a.block < wz.heap.size) ∨ A = some a from fun a ea => (OF.out a ea).imp_left fun hh => ⟨hh.1, Nat.lt_of_lt_of_le hh.2 hg9.size⟩)
                    have S := Lib.hid (S.out.trans (grown_below hg9 S.out.size (fun g' e => by have e : M17 = g' := Option.some.inj e; have := MS.out; omega)))
                    clear hz9 hg9
                    refine hK.out _ _ (S.out) ?_
                    clear hK K
                    refine road_q (v := ?_) rfl rfl (S.out) ?_ ?_
                    rotate_left
                    · intro W hW
                      go_simp
                      with_reducible rfl
                    simp only [Act.put, List.setIfInBounds_toArray, List.set_cons_zero, List.set_cons_succ]
                    refine road_q (v := ?_) rfl rfl (S.out) ?_ ?_
                    rotate_left
                    · intro W hW
                      go_simp
                      with_reducible rfl
                    simp only [Act.put, List.setIfInBounds_toArray, List.set_cons_zero, List.set_cons_succ]
                    refine road_done ?_
                    go_wp2_with fail
                    go_meet
                    exact ⟨M17, A', n', c', rfl, rfl, rfl, MS.out, by rw [← HE.out]; exact R.out, RD.out, LN.out, CP.out, OF.out, S.out⟩
                  ·
                    refine road_t rfl rfl (fun K hK => ?_)
                    go_simp
                    generalize hM : Array.size (World.heap _) = M17
                    generalize hwn : World.alloc _ _ = wn
                    have MS := Lib.hid (show wx.heap.size ≤ M17 by rw [← hM]; exact S.out.size)
                    have R := Lib.hid (show wn.heap[M17]? = some (.cells RBZ 53 (0, 0)) by rw [← hwn]; exact ha_new _ _ _ hM.symm)
                    try have RD := Lib.hid (RD.out.keep (show Below _ _ wn by rw [← hwn]; exact below_new _ _))
                    try have AM := Lib.hid (show ∀ a, A' = some a → a.block ≠ M17 from fun a ea => by
                      rcases OF.out a ea with hh | hh
                      · have := hh.2; omega
                      · have := AL.out a hh; have := MS.out; omega)
                    try have OF := Lib.hid (show ∀ a, A' = some a → (wx.heap.size ≤ a.block ∧ a.block < wn.heap.size) ∨ A = some a from fun a ea => (OF.out a ea).imp_left fun hh => ⟨hh.1, Nat.lt_of_lt_of_le hh.2 (by rw [← hwn]; exact (below_new _ _).size)⟩)
                    have S := Lib.hid (show Below wx.heap.size wx wn by rw [← hwn]; exact S.out.alloc S.out.size _)
                    clear hM hwn
                    refine hK.out _ _ (S.out) ?_
                    clear hK K
                    refine road_t rfl rfl (fun K hK => ?_)
                    go_simp
                    rw [GE.out]
                    refine (rbseal_any q QM.out A nn c P.out.ln P.out.cap _ (QRD.out.keep S.out) (keyK kk) bs t rfl (by rw [BL.out]; have := BQ.out; omega) (by rw [TL.out]; have := TQ.out; omega) (by rw [← P.out.rel.F, P.out.fe]; have := NZ.out; omega) (by rw [← P.out.rel.u]; have := P.out.u; have := M.out; omega) (by have h1 := P.out.cnt; have h2 := P.out.rel.n; have := P.out.ln; have := M.out; omega)).mono ?_
                    rw [← YE.out, ← GE.out]
                    rintro e wq ⟨A', n', c', rfl, hrd, hln, hcp, hof, hb⟩
                    rw [← EKE.out]
                    have RD := Lib.hid hrd
                    have LN := Lib.hid hln
                    have CP := Lib.hid hcp
                    have OF := Lib.hid (show ∀ a, A' = some a → (wx.heap.size ≤ a.block ∧ a.block < wq.heap.size) ∨ A = some a from fun a ea => (hof a ea).imp_left fun hh => ⟨Nat.le_trans S.out.size hh.1, hh.2⟩)
                    try have AM := Lib.hid (show ∀ a, A' = some a → a.block ≠ M17 from fun a ea => by
                      have h1 := row_lt R.out
                      have h2 := MS.out
                      rcases hof a ea with hh | hh
                      · have := hh.1; omega
                      · have := AL.out a hh; omega)
                    have S := Lib.hid (S.out.trans (hb.mono S.out.size))
                    try have R := Lib.hid (below_block hb (row_lt R.out) R.out)
                    clear hrd hln hcp hof hb
                    refine hK.out _ _ (S.out) ?_
                    clear hK K
                    refine road_q (v := ?_) rfl rfl (S.out) ?_ ?_
                    rotate_left
                    · intro W hW
                      go_simp
                      with_reducible rfl
                    simp only [Act.put, List.setIfInBounds_toArray, List.set_cons_zero, List.set_cons_succ]
                    refine road_q (v := ?_) rfl rfl (S.out) ?_ ?_
                    rotate_left
                    · intro W hW
                      go_simp
                      with_reducible rfl
                    simp only [Act.put, List.setIfInBounds_toArray, List.set_cons_zero, List.set_cons_succ]
                    refine road_q (v := ?_) rfl rfl (S.out) ?_ ?_
                    rotate_left
                    · intro W hW
                      go_simp
                      with_reducible rfl
                    simp only [Act.put, List.setIfInBounds_toArray, List.set_cons_zero, List.set_cons_succ]
                    refine road_q (v := ?_) rfl rfl (S.out) ?_ ?_
                    rotate_left
                    · intro W hW
                      go_simp
                      with_reducible rfl
                    simp only [Act.put, List.setIfInBounds_toArray, List.set_cons_zero, List.set_cons_succ]
                    refine road_t rfl rfl (fun K hK => ?_)
                    obtain ⟨hs, hhs⟩ : ∃ hs, hs = RBC y.1.mode y.1.F y.1.u A' n' c' := ⟨_, rfl⟩
                    have HZ := Lib.hid (show (Try.prog.info? 53).map (·.size) = some hs.size by rw [hhs]; exact info_rbx)
                    have HO := Lib.hid (show hs.all (·.oneCell') = true by rw [hhs]; exact RBC_one _ _ _ _ _ _)
                    have HS := Lib.hid (show hs.size = 4 by rw [hhs]; rfl)
                    have HE := Lib.hid hhs
                    rw [← hhs]
                    clear hhs
                    refine storeW_wp 53 (.tmp 17) (.tmp 101) rfl M17 hs rfl rfl _ _ R.out HZ.out (by rw [HS.out]; rfl) HO.out ?_
                    intro wz hz9 hg9 _
                    have R := Lib.hid hz9
                    have RD := Lib.hid (RD.out.grown hg9 (fun g' e a ea => by have e : M17 = g' := Option.some.inj e; have := AM.out a ea; omega))
                    have OF := Lib.hid (show ∀ a, A' = some a → (wx.heap.size ≤ a.block ∧ a.block < wz.heap.size) ∨ A = some a from fun a ea => (OF.out a ea).imp_left fun hh => ⟨hh.1, Nat.lt_of_lt_of_le hh.2 hg9.size⟩)
                    have S := Lib.hid (S.out.trans (grown_below hg9 S.out.size (fun g' e => by have e : M17 = g' := Option.some.inj e; have := MS.out; omega)))
                    clear hz9 hg9
                    refine hK.out _ _ (S.out) ?_
                    clear hK K
                    refine road_q (v := ?_) rfl rfl (S.out) ?_ ?_
                    rotate_left
                    · intro W hW
                      go_simp
                      with_reducible rfl
                    simp only [Act.put, List.setIfInBounds_toArray, List.set_cons_zero, List.set_cons_succ]
                    refine road_q (v := ?_) rfl rfl (S.out) ?_ ?_
                    rotate_left
                    · intro W hW
                      go_simp
                      with_reducible rfl
                    simp only [Act.put, List.setIfInBounds_toArray, List.set_cons_zero, List.set_cons_succ]
                    refine road_done ?_
                    go_wp2_with fail
                    go_meet
                    exact ⟨M17, A', n', c', rfl, rfl, rfl, MS.out, by rw [← HE.out]; exact R.out, RD.out, LN.out, CP.out, OF.out, S.out⟩
                case rest =>
                obtain ⟨M17, A', n', c', rfl, rfl, rfl, h17, hr17, hrd, hln, hcp, hof, hbc⟩ := hcut
                obtain rfl : ek = kx := by rw [EKE.out, KXE.out, RR.out]
                have R17 := Lib.hid hr17
                have H17 := Lib.hid h17
                have RD := Lib.hid hrd
                have LN := Lib.hid hln
                have CP := Lib.hid hcp
                have OF := Lib.hid hof
                have R9 := Lib.hid (below_block hbc (row_lt R9.out) R9.out)
                have X2 := Lib.hid (X1.out.keep hbc)
                have RX := Lib.hid (show RdB wc Ax (y.2.getD []) by rw [← RR.out]; exact RX.out.keep hbc)
                have XL := Lib.hid (show (y.2.getD []).length = mx by rw [← RR.out]; exact XL.out)
                have LOC := Lib.hid (Nat.le_trans LOX.out hbc.size)
                have MC := Lib.hid (show wx.heap.size ≤ wc.heap.size from hbc.size)
                clear h17 hr17 hrd hln hcp hof hbc
                go_upto_region 16 with fail
                refine wp_region_list ?_
                simp only [List.toList_toArray]
                refine wpList_val (v := ?_) (by rfl) ?_ ?_
                rotate_left
                · go_simp
                  with_reducible rfl
                simp only [Act.put, List.setIfInBounds_toArray, List.set_cons_zero, List.set_cons_succ]
                refine wpList_val (by rfl) (run_str 23 9 (.tmp 104) rfl Try.underlying23 Try.underlying5 Try.underlying9 RX.out mx cx XL.out rfl) ?_
                simp only [Act.put, List.setIfInBounds_toArray, List.set_cons_zero, List.set_cons_succ]
                refine wpList_val (v := ?_) (by rfl) ?_ ?_
                rotate_left
                · go_simp
                  with_reducible rfl
                simp only [Act.put, List.setIfInBounds_toArray, List.set_cons_zero, List.set_cons_succ]
                refine wpList_val (by rfl) (run_neqstr_false 9 _ (.tmp 105) (.tmp 106) rfl (y.2.getD []) (y.2.getD []) rfl rfl rfl _) ?_
                simp only [Act.put, List.setIfInBounds_toArray, List.set_cons_zero, List.set_cons_succ]
                go_upto_region 18 with fail
                obtain ⟨hs, hhs⟩ : ∃ hs, hs = RBC y.1.mode y.1.F y.1.u A' n' c' := ⟨_, rfl⟩
                have HZ := Lib.hid (show (Try.prog.info? 53).map (·.size) = some hs.size by rw [hhs]; exact info_rbx)
                have HO := Lib.hid (show hs.all (·.oneCell') = true by rw [hhs]; exact RBC_one _ _ _ _ _ _)
                have HS := Lib.hid (show hs.size = 4 by rw [hhs]; rfl)
                have GS := Lib.hid (show gs.size = 4 by rw [GE.out]; rfl)
                have HE := Lib.hid hhs
                rw [← hhs] at R17
                clear hhs
                go_wp2_with (first
                  | (refine wpList_val rfl (run_load_row 53 (.tmp 17) rfl M17 rfl 53 hs (0, 0) _ R17.out Try.underlying53 rfl HZ.out) ?_)
                  | (refine wpList_store_whole rfl rfl 53 (.tmp 9) (.tmp 113) rfl M9 hs rfl rfl 53 gs R9.out HZ.out (by rw [HS.out, GS.out]) HO.out ?_; intro wz hz9 hg9 _))
                go_meet
                have h1 := P.out.m9
                have h2 := SM.out
                have h2b : s'.u ≤ s.u + 8 * (t.length + 28) := h2.2.2.1
                have h3 := TQ.out
                have h4 := TL.out
                have h5 := P.out
                refine ⟨rfl, s', y.1, A', n', c', ⟨X2.out.far hg9 ⟨by omega, by omega, by omega, by omega, by omega, W39.out⟩, RL2.out, by rw [h2.1]; exact h5.mode, by rw [h2.2.1]; exact h5.fe, ?_, ?_, ?_, ?_, TS.out, by rw [← HE.out]; exact hz9, RD.out.grown hg9 (fun g' e a ea => ?_), LN.out, CP.out, fun a ea => ?_, Nat.le_trans LOC.out hg9.size, h1⟩⟩
                · have := h5.u; omega
                · have := h5.len; have := h2.2.2.2.2; omega
                · have := h5.cnt; have := h2.2.2.2.1; omega
                · rw [YE.out]; exact sealR8_len q (keyK kk) bs t 228 h5.xs (by omega)
                · have e : M9 = g' := Option.some.inj e
                  rcases OF.out a ea with hh | hh
                  · have := M9X.out; omega
                  · have := h5.off a hh; omega
                · have hz := hg9.size
                  rcases OF.out a ea with hh | hh
                  · have := M9X.out; have := hh.1; have := hh.2; refine ⟨?_, ?_, ?_, ?_, ?_⟩ <;> omega
                  · have h6 := h5.off a hh
                    have := WXS.out
                    have := MC.out
                    exact ⟨h6.1, h6.2.1, h6.2.2.1, h6.2.2.2.1, by omega⟩
            · as_aux_lemma =>
                have e0 : (zk == 0) = false := by simp; exact hz
                obtain ⟨gs, hgs⟩ : ∃ gs, gs = RBC q.mode q.F q.u A nn c := ⟨_, rfl⟩
                have GE := Lib.hid hgs
                have GZ := Lib.hid (show (Try.prog.info? 53).map (·.size) = some gs.size by rw [hgs]; exact info_rbx)
                have R9 := Lib.hid (show w9.heap[M9]? = some (.cells gs 53 (0, 0)) by rw [hgs]; exact P.out.row)
                clear hgs hz
                have QM := Lib.hid (show q.mode = 0 ∨ q.mode = 1 by rw [← P.out.rel.mode, P.out.mode]; exact KM.out)
                have MK := Lib.hid (show s.mode = 0 ∨ s.mode = 1 by rw [P.out.mode]; exact KM.out)
                have NN16 := Lib.hid (show nn ≤ 16 by have h1 := P.out.cnt; have h2 := P.out.rel.n; have := P.out.ln; have := M.out; omega)
                have a1 := row_cell R11.out 1 (show cs.toArray[1]? = some (.int .i64 zn) by rw [CE.out]; rfl)
                have g3 := row_cell R9.out 3 (show gs[3]? = some (.slice A nn c) by rw [GE.out]; rfl)
                have G3 := Lib.hid g3
                have A1C := Lib.hid a1
                go_upto_region 20 with fail
                clear a0
                obtain ⟨β, hβ⟩ : ∃ β : Bool, β = decide (0 ≤ zn ∧ 0 < nn) := ⟨_, rfl⟩
                have BE := Lib.hid hβ
                clear hβ
                go_cut [123] (fun v wx => v = .bool β ∧ wx = w9)
                case first =>
                  have nb : (nn : Int) ≤ 16 := by have := NN16.out; omega
                  by_cases h1 : 0 ≤ zn
                  · have f1 : decide (0 ≤ zn) = true := decide_eq_true h1
                    by_cases h2 : 0 < nn
                    · have f2 : decide ((0 : Int) < (nn : Int)) = true := by simp; omega
                      have f3 : decide (0 < nn) = true := by simp; omega
                      have EB := Lib.hid (show β = true by rw [BE.out]; exact decide_eq_true ⟨h1, h2⟩)
                      go_wp2_with fail
                      go_meet
                      exact ⟨by rw [EB.out], rfl⟩
                    · have f2 : decide ((0 : Int) < (nn : Int)) = false := by simp; omega
                      have f3 : decide (0 < nn) = false := by simp; omega
                      have EB := Lib.hid (show β = false by rw [BE.out]; exact decide_eq_false (fun h => h2 h.2))
                      go_wp2_with fail
                      go_meet
                      exact ⟨by rw [EB.out], rfl⟩
                  · have f1 : decide (0 ≤ zn) = false := decide_eq_false h1
                    have EB := Lib.hid (show β = false by rw [BE.out]; exact decide_eq_false (fun h => h1 h.1))
                    go_wp2_with fail
                    go_meet
                    exact ⟨by rw [EB.out], rfl⟩
                case rest =>
                obtain ⟨rfl, hwx⟩ := hcut
                rw [hwx]
                clear hwx a1 g3
                go_upto_if 123 with fail
                go_cut [20] (fun v wx => ∃ Ai ni ci xin, v = .slice Ai ni ci ∧ RdB wx Ai xin ∧ xin.length = ni ∧ ni ≤ ci ∧ ni ≤ 1000 ∧ Below w9.heap.size w9 wx)
                case first =>
                  cases β with
                  | false =>
                    go_wp2_with fail
                    go_meet
                    exact ⟨At, p2, ct, t, rfl, TR.out.keep BW.out, TL.out, TQ.out.2, by have := TQ.out; omega, Below.refl _ _⟩
                  | true =>
                    have hz : 0 ≤ zn ∧ 0 < nn := of_decide_eq_true BE.out.symm
                    obtain ⟨zi, hzi⟩ : ∃ zi : Nat, zn = (zi : Int) := ⟨zn.toNat, by omega⟩
                    obtain ⟨j, hj⟩ : ∃ j, j = zi % nn := ⟨_, rfl⟩
                    have JL := Lib.hid (show j < nn by rw [hj]; exact Nat.mod_lt _ hz.2)
                    have e2 : zn.tmod (nn : Int) = (j : Int) := by rw [hzi, Int.tmod_eq_emod_of_nonneg (by omega), hj]; omega
                    have n0 : ((nn : Int) == 0) = false := by simp; omega
                    have n1 : ¬ nn = 0 := by omega
                    obtain ⟨pe, hpe⟩ : ∃ pe, q.L[j]? = some pe := ⟨_, List.getElem?_eq_getElem (by rw [P.out.ln]; exact JL.out)⟩
                    obtain ⟨bA, oA, hA, hcell⟩ := rng_cell P.out.rd hpe
                    have AE2 := Lib.hid hA
                    have C0 := Lib.hid (show w9.cell? ⟨bA, oA + j * 4 + 0, none⟩ = some (.string (strB pe.x)) from hcell 0 _ rfl)
                    have PX := Lib.hid (P.out.xs pe (List.mem_of_getElem? hpe))
                    obtain ⟨xin, hxin⟩ : ∃ xin, xin = pe.x := ⟨_, rfl⟩
                    rw [← hxin] at C0 PX
                    clear hz hzi hj hpe hA hcell hxin
                    go_upto_region 21 with fail
                    have SX := Lib.hid (show Below w9.heap.size w9 w9.drew from (Below.refl _ _).drew)
                    refine wp_region_road (fun W => Below w9.heap.size w9 W) [(true, 0), (true, 1), (true, 2), (true, 3), (true, 4), (true, 5), (true, 6), (true, 7), (true, 8), (true, 9), (true, 10), (false, 11), (true, 12)] (by kernel_rfl) (by kernel_rfl) (fun _ _ d _ _ h => by cases d <;> exact h) ?_
                    simp only [List.filterMap_cons, List.filterMap_nil, List.getElem?_toArray, List.getElem?_cons_zero, List.getElem?_cons_succ, Option.map_some]
                    refine planG_q (v := ?_) (by rfl) (SX.out) ?_ ?_
                    rotate_left
                    · intro W hW
                      go_simp
                      with_reducible rfl
                    simp only [Act.put, List.setIfInBounds_toArray, List.set_cons_zero, List.set_cons_succ]
                    refine planG_q (by rfl) (SX.out) (fun W hW => run_cell 51 (.tmp 124) rfl _ Try.underlying51 rfl rfl (cell_same G3.out (hW.block M9 (row_lt R9.out)))) ?_
                    simp only [Act.put, List.setIfInBounds_toArray, List.set_cons_zero, List.set_cons_succ]
                    refine planG_q (v := ?_) (by rfl) (SX.out) ?_ ?_
                    rotate_left
                    · intro W hW
                      go_simp
                      with_reducible rfl
                    simp only [Act.put, List.setIfInBounds_toArray, List.set_cons_zero, List.set_cons_succ]
                    refine planG_q (by rfl) (SX.out) (fun W hW => run_cell 3 (.tmp 126) rfl _ Try.underlying3 rfl rfl (cell_same A1C.out (hW.block M11 (row_lt R11.out)))) ?_
                    simp only [Act.put, List.setIfInBounds_toArray, List.set_cons_zero, List.set_cons_succ]
                    refine planG_q (v := ?_) (by rfl) (SX.out) ?_ ?_
                    rotate_left
                    · intro W hW
                      go_simp
                      with_reducible rfl
                    simp only [Act.put, List.setIfInBounds_toArray, List.set_cons_zero, List.set_cons_succ]
                    refine planG_q (by rfl) (SX.out) (fun W hW => run_cell 51 (.tmp 128) rfl _ Try.underlying51 rfl rfl (cell_same G3.out (hW.block M9 (row_lt R9.out)))) ?_
                    simp only [Act.put, List.setIfInBounds_toArray, List.set_cons_zero, List.set_cons_succ]
                    refine planG_q (v := ?_) (by rfl) (SX.out) ?_ ?_
                    rotate_left
                    · intro W hW
                      go_simp
                      with_reducible rfl
                    simp only [Act.put, List.setIfInBounds_toArray, List.set_cons_zero, List.set_cons_succ]
                    refine planG_q (v := ?_) (by rfl) (SX.out) ?_ ?_
                    rotate_left
                    · intro W hW
                      go_simp
                      with_reducible rfl
                    simp only [Act.put, List.setIfInBounds_toArray, List.set_cons_zero, List.set_cons_succ]
                    refine planG_q (by rfl) (SX.out) (fun W hW => run_iaddr_slk 51 (.tmp 125) (.tmp 131) rfl 57 Try.underlying51 4 IE.out bA oA nn c j JL.out .i64 _ rfl (by rw [← AE2.out]; rfl) rfl W) ?_
                    simp only [Act.put, List.setIfInBounds_toArray, List.set_cons_zero, List.set_cons_succ]
                    refine planG_q (v := ?_) (by rfl) (SX.out) ?_ ?_
                    rotate_left
                    · intro W hW
                      go_simp
                      with_reducible rfl
                    simp only [Act.put, List.setIfInBounds_toArray, List.set_cons_zero, List.set_cons_succ]
                    refine planG_q (by rfl) (SX.out) (fun W hW => run_cell 9 (.tmp 133) rfl _ Try.underlying9 rfl rfl (cell_same C0.out (hW.block bA (cell_lt C0.out)))) ?_
                    simp only [Act.put, List.setIfInBounds_toArray, List.set_cons_zero, List.set_cons_succ]
                    refine planG_t (by rfl) (fun K hK => ?_)
                    refine bytes_wp 9 23 5 (.tmp 134) rfl Try.underlying9 Try.underlying23 Try.underlying5 xin rfl ?_
                    intro w10 cb10 hrb hcb hb10 _
                    have RB10 := Lib.hid hrb
                    have CB10 := Lib.hid hcb
                    have SX := Lib.hid (SX.out.trans (hb10.mono SX.out.size))
                    clear hrb hb10 hcb
                    refine hK.out _ _ (SX.out) ?_
                    clear hK K
                    refine planG_q (v := ?_) (by rfl) (SX.out) ?_ ?_
                    rotate_left
                    · intro W hW
                      go_simp
                      with_reducible rfl
                    simp only [Act.put, List.setIfInBounds_toArray, List.set_cons_zero, List.set_cons_succ]
                    refine planG_nil ?_
                    go_wp2_with fail
                    go_meet
                    exact ⟨_, xin.length, cb10, xin, rfl, RB10.out, rfl, CB10.out, by have := PX.out; omega, SX.out⟩
                case rest =>
                obtain ⟨Ai, ni, ci, xin, rfl, hri, hli, hci, hni, hbi⟩ := hcut
                have RI := Lib.hid hri
                have LI := Lib.hid hli
                have CI := Lib.hid hci
                have NI := Lib.hid hni
                have P := Lib.hid (P.out.keep hbi)
                have R12 := Lib.hid (below_block hbi (row_lt R12.out) R12.out)
                have R9 := Lib.hid (below_block hbi (row_lt R9.out) R9.out)
                have BW := Lib.hid (BW.out.trans (hbi.mono BW.out.size))
                have UQ := Lib.hid (show s.mode = 1 → ∀ (i j : Nat) (x : List UInt8) (e e' : Ent), s.m[i]? = some (x, e) → s.m[j]? = some (x, e') → i = j from fun _ i j x e e' h1 h2 => P.out.box.map.one h1 h2)
                obtain ⟨r3, hr3⟩ : ∃ r3, r3 = openR8 q (keyK kk) bs xin := ⟨_, rfl⟩
                have R3E := Lib.hid hr3
                have OS := Lib.hid (show openS s (keyK kk) bs xin = r3 by rw [hr3]; exact P.out.rel.opens MK.out UQ.out _ _ _)
                have TX := Lib.hid (show ∀ p ∈ s.m, s.mode = 1 → p.2.text.length ≤ 100000 from fun p hp hm => Nat.le_trans (P.out.ts p hp hm) (by omega))
                clear hri hli hci hni hbi G3 A1C hr3
                go_upto_region 22 with fail
                refine wp_region_list ?_
                simp only [List.toList_toArray]
                refine wpList_val (v := ?_) (by rfl) ?_ ?_
                rotate_left
                · go_simp
                  with_reducible rfl
                simp only [Act.put, List.setIfInBounds_toArray, List.set_cons_zero, List.set_cons_succ]
                refine wpList_val (by rfl) (run_load_row 37 (.tmp 12) rfl M12 rfl 37 (W8 (keyK kk)) (0, 0) _ R12.out Try.underlying37 rfl ZKK.out) ?_
                simp only [Act.put, List.setIfInBounds_toArray, List.set_cons_zero, List.set_cons_succ]
                go_wp2_with fail
                refine (bopen_both w3 g S D b L s wc P.out.box MK.out (keyK kk) bs xin rfl Ab p cb BL.out (BR.out.keep BW.out) (by have := BQ.out; omega) Ai ni ci LI.out CI.out RI.out (by have := NI.out; omega) TX.out).mono ?_
                rw [OS.out]
                rintro e w11 hp
                obtain ⟨Ao, mo, co, rfl, hro, hlo, hb11⟩ := hp.any
                have RO := Lib.hid hro
                have LO := Lib.hid hlo
                have RI := Lib.hid (RI.out.keep hb11)
                have P := Lib.hid (P.out.keep hb11)
                have R12 := Lib.hid (below_block hb11 (row_lt R12.out) R12.out)
                have R9 := Lib.hid (below_block hb11 (row_lt R9.out) R9.out)
                have BW := Lib.hid (BW.out.trans (hb11.mono BW.out.size))
                obtain ⟨ok, hok⟩ : ∃ ok, ok = r3.isSome := ⟨_, rfl⟩
                obtain ⟨yo, hyo⟩ : ∃ yo, yo = r3.getD [] := ⟨_, rfl⟩
                have OKE := Lib.hid hok
                have YOE := Lib.hid hyo
                rw [← hyo] at RO LO
                rw [← hok]
                clear hp hro hlo hb11 hok hyo
                go_upto_region 23 with fail
                have SX := Lib.hid (show Below w11.heap.size w11 w11.drew from (Below.refl _ _).drew)
                refine wp_region_road (fun W => Below w11.heap.size w11 W) [(true, 0), (true, 1), (true, 2), (true, 3), (true, 4), (true, 5), (true, 6), (false, 7), (true, 8), (true, 9), (true, 10), (true, 11), (true, 12)] (by kernel_rfl) (by kernel_rfl) (fun _ _ d _ _ h => by cases d <;> exact h) ?_
                simp only [List.filterMap_cons, List.filterMap_nil, List.getElem?_toArray, List.getElem?_cons_zero, List.getElem?_cons_succ, Option.map_some]
                refine planG_q (by rfl) (SX.out) (fun W hW => run_load_row 53 (.tmp 9) rfl M9 rfl 53 gs (0, 0) _ (below_block hW (row_lt R9.out) R9.out) Try.underlying53 rfl GZ.out) ?_
                simp only [Act.put, List.setIfInBounds_toArray, List.set_cons_zero, List.set_cons_succ]
                refine planG_q (by rfl) (SX.out) (fun W hW => run_arr_all 37 (.tmp 12) rfl 32 5 Try.underlying37 I0.out M12 rfl W) ?_
                simp only [Act.put, List.setIfInBounds_toArray, List.set_cons_zero, List.set_cons_succ]
                refine planG_q (by rfl) (SX.out) (fun W hW => run_str 23 9 (.tmp 146) rfl Try.underlying23 Try.underlying5 Try.underlying9 (RdB.row (below_block hW (row_lt R12.out) R12.out)) 32 32 rfl rfl) ?_
                simp only [Act.put, List.setIfInBounds_toArray, List.set_cons_zero, List.set_cons_succ]
                refine planG_q (v := ?_) (by rfl) (SX.out) ?_ ?_
                rotate_left
                · intro W hW
                  go_simp
                  with_reducible rfl
                simp only [Act.put, List.setIfInBounds_toArray, List.set_cons_zero, List.set_cons_succ]
                refine planG_q (by rfl) (SX.out) (fun W hW => run_str 23 9 (.tmp 148) rfl Try.underlying23 Try.underlying5 Try.underlying9 ((BR.out.keep BW.out).keep hW) p cb BL.out rfl) ?_
                simp only [Act.put, List.setIfInBounds_toArray, List.set_cons_zero, List.set_cons_succ]
                refine planG_q (v := ?_) (by rfl) (SX.out) ?_ ?_
                rotate_left
                · intro W hW
                  go_simp
                  with_reducible rfl
                simp only [Act.put, List.setIfInBounds_toArray, List.set_cons_zero, List.set_cons_succ]
                refine planG_q (by rfl) (SX.out) (fun W hW => run_str 23 9 (.tmp 150) rfl Try.underlying23 Try.underlying5 Try.underlying9 (RI.out.keep hW) ni ci LI.out rfl) ?_
                simp only [Act.put, List.setIfInBounds_toArray, List.set_cons_zero, List.set_cons_succ]
                refine planG_t (by rfl) (fun K hK => ?_)
                go_simp
                rw [GE.out]
                refine (rbopen_any q QM.out A nn c P.out.ln _ (P.out.rd.keep SX.out) (keyK kk) bs xin rfl (by rw [BL.out]; have := BQ.out; omega) (by rw [LI.out]; exact NI.out) (by have := NN16.out; omega)).mono ?_
                rw [← R3E.out, ← GE.out]
                rintro e w12 ⟨rfl, hb12⟩
                rw [← YOE.out, ← OKE.out]
                have SX := Lib.hid (SX.out.trans (hb12.mono SX.out.size))
                clear hb12
                refine hK.out _ _ (SX.out) ?_
                clear hK K
                refine planG_q (v := ?_) (by rfl) (SX.out) ?_ ?_
                rotate_left
                · intro W hW
                  go_simp
                  with_reducible rfl
                simp only [Act.put, List.setIfInBounds_toArray, List.set_cons_zero, List.set_cons_succ]
                refine planG_q (v := ?_) (by rfl) (SX.out) ?_ ?_
                rotate_left
                · intro W hW
                  go_simp
                  with_reducible rfl
                simp only [Act.put, List.setIfInBounds_toArray, List.set_cons_zero, List.set_cons_succ]
                refine planG_q (v := ?_) (by rfl) (SX.out) ?_ ?_
                rotate_left
                · intro W hW
                  go_simp
                  with_reducible rfl
                simp only [Act.put, List.setIfInBounds_toArray, List.set_cons_zero, List.set_cons_succ]
                refine planG_q (v := ?_) (by rfl) (SX.out) ?_ ?_
                rotate_left
                · intro W hW
                  go_simp
                  with_reducible rfl
                simp only [Act.put, List.setIfInBounds_toArray, List.set_cons_zero, List.set_cons_succ]
                refine planG_q (v := ?_) (by rfl) (SX.out) ?_ ?_
                rotate_left
                · intro W hW
                  go_simp
                  with_reducible rfl
                simp only [Act.put, List.setIfInBounds_toArray, List.set_cons_zero, List.set_cons_succ]
                refine planG_nil ?_
                have RI := Lib.hid (RI.out.keep SX.out)
                have RO := Lib.hid (RO.out.keep SX.out)
                have P := Lib.hid (P.out.keep SX.out)
                have R9 := Lib.hid (below_block SX.out (row_lt R9.out) R9.out)
                have BW := Lib.hid (BW.out.trans (SX.out.mono BW.out.size))
                go_upto_region 24 with fail
                have KR := Lib.hid (P.out.rel.known xin)
                obtain ⟨κ, hκ⟩ : ∃ κ, κ = knownR q.L xin := ⟨_, rfl⟩
                have KE := Lib.hid hκ
                rw [← hκ] at KR
                clear hκ
                have SX := Lib.hid (show Below w12.heap.size w12 w12.drew from (Below.refl _ _).drew)
                refine wp_region_road (fun W => Below w12.heap.size w12 W) [(true, 0), (true, 1), (true, 2), (true, 3), (true, 4), (true, 5), (true, 6), (true, 7), (true, 8), (true, 9), (true, 10), (true, 11), (true, 13), (true, 14), (true, 15), (false, 12), (false, 16), (true, 17), (true, 18)] (by kernel_rfl) (by kernel_rfl) (fun _ _ d _ _ h => by cases d <;> exact h) ?_
                simp only [List.filterMap_cons, List.filterMap_nil, List.getElem?_toArray, List.getElem?_cons_zero, List.getElem?_cons_succ, Option.map_some]
                refine planG_q (v := ?_) (by rfl) (SX.out) ?_ ?_
                rotate_left
                · intro W hW
                  go_simp
                  with_reducible rfl
                simp only [Act.put, List.setIfInBounds_toArray, List.set_cons_zero, List.set_cons_succ]
                refine planG_q (by rfl) (SX.out) (fun W hW => run_str 23 9 (.tmp 155) rfl Try.underlying23 Try.underlying5 Try.underlying9 (RO.out.keep hW) mo co LO.out rfl) ?_
                simp only [Act.put, List.setIfInBounds_toArray, List.set_cons_zero, List.set_cons_succ]
                refine planG_q (v := ?_) (by rfl) (SX.out) ?_ ?_
                rotate_left
                · intro W hW
                  go_simp
                  with_reducible rfl
                simp only [Act.put, List.setIfInBounds_toArray, List.set_cons_zero, List.set_cons_succ]
                refine planG_q (by rfl) (SX.out) (fun W hW => run_neqstr_false 9 _ (.tmp 156) (.tmp 157) rfl yo yo rfl rfl rfl W) ?_
                simp only [Act.put, List.setIfInBounds_toArray, List.set_cons_zero, List.set_cons_succ]
                refine planG_q (v := ?_) (by rfl) (SX.out) ?_ ?_
                rotate_left
                · intro W hW
                  go_simp
                  with_reducible rfl
                simp only [Act.put, List.setIfInBounds_toArray, List.set_cons_zero, List.set_cons_succ]
                refine planG_q (v := ?_) (by rfl) (SX.out) ?_ ?_
                rotate_left
                · intro W hW
                  go_simp
                  with_reducible rfl
                simp only [Act.put, List.setIfInBounds_toArray, List.set_cons_zero, List.set_cons_succ]
                refine planG_q (v := ?_) (by rfl) (SX.out) ?_ ?_
                rotate_left
                · intro W hW
                  go_simp
                  with_reducible rfl
                simp only [Act.put, List.setIfInBounds_toArray, List.set_cons_zero, List.set_cons_succ]
                refine planG_q (v := ?_) (by rfl) (SX.out) ?_ ?_
                rotate_left
                · intro W hW
                  go_simp
                  with_reducible rfl
                simp only [Act.put, List.setIfInBounds_toArray, List.set_cons_zero, List.set_cons_succ]
                refine planG_q (v := ?_) (by rfl) (SX.out) ?_ ?_
                rotate_left
                · intro W hW
                  go_simp
                  with_reducible rfl
                simp only [Act.put, List.setIfInBounds_toArray, List.set_cons_zero, List.set_cons_succ]
                refine planG_q (v := ?_) (by rfl) (SX.out) ?_ ?_
                rotate_left
                · intro W hW
                  go_simp
                  with_reducible rfl
                simp only [Act.put, List.setIfInBounds_toArray, List.set_cons_zero, List.set_cons_succ]
                refine planG_q (v := ?_) (by rfl) (SX.out) ?_ ?_
                rotate_left
                · intro W hW
                  go_simp
                  with_reducible rfl
                simp only [Act.put, List.setIfInBounds_toArray, List.set_cons_zero, List.set_cons_succ]
                refine planG_q (v := ?_) (by rfl) (SX.out) ?_ ?_
                rotate_left
                · intro W hW
                  go_simp
                  with_reducible rfl
                simp only [Act.put, List.setIfInBounds_toArray, List.set_cons_zero, List.set_cons_succ]
                refine planG_q (by rfl) (SX.out) (fun W hW => run_load_row 53 (.tmp 9) rfl M9 rfl 53 gs (0, 0) _ (below_block hW (row_lt R9.out) R9.out) Try.underlying53 rfl GZ.out) ?_
                simp only [Act.put, List.setIfInBounds_toArray, List.set_cons_zero, List.set_cons_succ]
                refine planG_q (v := ?_) (by rfl) (SX.out) ?_ ?_
                rotate_left
                · intro W hW
                  go_simp
                  with_reducible rfl
                simp only [Act.put, List.setIfInBounds_toArray, List.set_cons_zero, List.set_cons_succ]
                refine planG_q (by rfl) (SX.out) (fun W hW => run_str 23 9 (.tmp 169) rfl Try.underlying23 Try.underlying5 Try.underlying9 (RI.out.keep hW) ni ci LI.out rfl) ?_
                simp only [Act.put, List.setIfInBounds_toArray, List.set_cons_zero, List.set_cons_succ]
                refine planG_t (by rfl) (fun K hK => ?_)
                go_simp
                refine (known_any w3 g S D b L s _ (P.out.box.keep SX.out) Ai ni ci xin LI.out (RI.out.keep SX.out) (by have := NI.out; omega)).mono ?_
                rw [KR.out]
                rintro e w13 ⟨rfl, hb13⟩
                have SX := Lib.hid (SX.out.trans (hb13.mono SX.out.size))
                clear hb13
                refine hK.out _ _ (SX.out) ?_
                clear hK K
                refine planG_t (by rfl) (fun K hK => ?_)
                go_simp
                rw [GE.out]
                refine (rknown_any q.mode q.F q.u A nn c q.L P.out.ln _ (P.out.rd.keep SX.out) xin (by have := NN16.out; omega)).mono ?_
                rw [← GE.out, ← KE.out]
                rintro e w14 ⟨rfl, hb14⟩
                have SX := Lib.hid (SX.out.trans (hb14.mono SX.out.size))
                clear hb14
                refine hK.out _ _ (SX.out) ?_
                clear hK K
                refine planG_q (v := ?_) (by rfl) (SX.out) ?_ ?_
                rotate_left
                · intro W hW
                  go_simp
                  with_reducible rfl
                simp only [Act.put, List.setIfInBounds_toArray, List.set_cons_zero, List.set_cons_succ]
                refine planG_q (v := ?_) (by rfl) (SX.out) ?_ ?_
                rotate_left
                · intro W hW
                  go_simp
                  with_reducible rfl
                simp only [Act.put, List.setIfInBounds_toArray, List.set_cons_zero, List.set_cons_succ]
                refine planG_nil ?_
                have P := Lib.hid (P.out.keep SX.out)
                go_wp2_with fail
                go_meet
                exact ⟨rfl, s, q, A, nn, c, P.out.more⟩
          case rest =>
          obtain ⟨rfl, s, q, A, nn, c, hP⟩ := hcut
          have P := Lib.hid hP
          clear hP
          obtain ⟨gs, hgs⟩ : ∃ gs, gs = RBC q.mode q.F q.u A nn c := ⟨_, rfl⟩
          have GE := Lib.hid hgs
          have R9 := Lib.hid (show wc.heap[M9]? = some (.cells gs 53 (0, 0)) by rw [hgs]; exact P.out.row)
          clear hgs
          have g3 := row_cell R9.out 3 (show gs[3]? = some (.slice A nn c) by rw [GE.out]; rfl)
          have G3 := Lib.hid g3
          clear g3
          have NS := Lib.hid (show (s.n : Int) = (nn : Int) by rw [P.out.rel.n, P.out.ln])
          have MS := Lib.hid (show (s.mode : Int) = (k : Int) by rw [P.out.mode])
          go_upto_region 26 with fail
          refine wp_region_road (fun W => W = wc.drew) [(true, 0), (true, 2), (true, 3), (true, 4), (false, 1), (true, 5), (true, 6), (true, 7), (true, 9), (false, 8), (true, 10), (true, 11)] (by kernel_rfl) (by kernel_rfl) (fun _ _ d _ _ h => by cases d <;> exact h) ?_
          simp only [List.filterMap_cons, List.filterMap_nil, List.getElem?_toArray, List.getElem?_cons_zero, List.getElem?_cons_succ, Option.map_some]
          refine planG_q (v := ?_) (by rfl) (rfl) ?_ ?_
          rotate_left
          · intro W hW
            go_simp
            with_reducible rfl
          simp only [Act.put, List.setIfInBounds_toArray, List.set_cons_zero, List.set_cons_succ]
          refine planG_q (v := ?_) (by rfl) (rfl) ?_ ?_
          rotate_left
          · intro W hW
            go_simp
            with_reducible rfl
          simp only [Act.put, List.setIfInBounds_toArray, List.set_cons_zero, List.set_cons_succ]
          refine planG_q (by rfl) (rfl) (fun W hW => run_cell 51 (.tmp 176) rfl _ Try.underlying51 rfl rfl (show W.cell? ⟨M9, 3, none⟩ = _ by rw [hW]; exact G3.out)) ?_
          simp only [Act.put, List.setIfInBounds_toArray, List.set_cons_zero, List.set_cons_succ]
          refine planG_q (v := ?_) (by rfl) (rfl) ?_ ?_
          rotate_left
          · intro W hW
            go_simp
            with_reducible rfl
          simp only [Act.put, List.setIfInBounds_toArray, List.set_cons_zero, List.set_cons_succ]
          refine planG_t (by rfl) (fun K hK => ?_)
          go_simp
          refine (bcount_any w3 g S D b L s _ (P.out.box.keep (Below.refl _ _).drew)).mono ?_
          rw [NS.out]
          rintro e wd ⟨rfl, hw⟩
          rw [hw]
          clear hw wd
          refine hK.out _ _ (rfl) ?_
          clear hK K
          refine planG_q (v := ?_) (by rfl) (rfl) ?_ ?_
          rotate_left
          · intro W hW
            go_simp
            with_reducible rfl
          simp only [Act.put, List.setIfInBounds_toArray, List.set_cons_zero, List.set_cons_succ]
          refine planG_q (v := ?_) (by rfl) (rfl) ?_ ?_
          rotate_left
          · intro W hW
            go_simp
            with_reducible rfl
          simp only [Act.put, List.setIfInBounds_toArray, List.set_cons_zero, List.set_cons_succ]
          refine planG_q (v := ?_) (by rfl) (rfl) ?_ ?_
          rotate_left
          · intro W hW
            go_simp
            with_reducible rfl
          simp only [Act.put, List.setIfInBounds_toArray, List.set_cons_zero, List.set_cons_succ]
          refine planG_q (v := ?_) (by rfl) (rfl) ?_ ?_
          rotate_left
          · intro W hW
            go_simp
            with_reducible rfl
          simp only [Act.put, List.setIfInBounds_toArray, List.set_cons_zero, List.set_cons_succ]
          refine planG_t (by rfl) (fun K hK => ?_)
          go_simp
          refine (bmode_any w3 g S D b L s _ (P.out.box.keep (Below.refl _ _).drew)).mono ?_
          rw [MS.out]
          rintro e wd ⟨rfl, hw⟩
          rw [hw]
          clear hw wd
          refine hK.out _ _ (rfl) ?_
          clear hK K
          refine planG_q (v := ?_) (by rfl) (rfl) ?_ ?_
          rotate_left
          · intro W hW
            go_simp
            with_reducible rfl
          simp only [Act.put, List.setIfInBounds_toArray, List.set_cons_zero, List.set_cons_succ]
          refine planG_q (v := ?_) (by rfl) (rfl) ?_ ?_
          rotate_left
          · intro W hW
            go_simp
            with_reducible rfl
          simp only [Act.put, List.setIfInBounds_toArray, List.set_cons_zero, List.set_cons_succ]
          refine planG_nil ?_
          go_wp2_with fail
          go_roundw
          case rel => exact ⟨m + 1, s, q, A, nn, c, by have := M15.out; omega, by have := MQ.out; omega, by go_num, P.out.keep (Below.refl _ _).drew⟩
          case measure => have := M15.out; simp [intOf]; omega
        · have hD : decide ((m : Int) < (q1 : Int)) = true := by simp; omega
          have hD2 : decide ((m : Int) < 16) = false := by simp; omega
          go_wp2_with fail
          refine (boxOne_true _).mono ?_
          rintro e wz ⟨rfl, hbz⟩
          have BF := Lib.hid (BW.out.trans (hbz.mono BW.out.size))
          clear hbz
          go_wp2_with fail
          go_ret
          exact ⟨rfl, BF.out⟩
      · have hD : decide ((m : Int) < (q1 : Int)) = false := by simp; omega
        go_wp2_with fail
        refine (boxOne_true _).mono ?_
        rintro e wz ⟨rfl, hbz⟩
        have BF := Lib.hid (BW.out.trans (hbz.mono BW.out.size))
        clear hbz
        go_wp2_with fail
        go_ret
        exact ⟨rfl, BF.out⟩
end Go.Proofs.Ytldjiigkebkgcaa
