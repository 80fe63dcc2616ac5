/- aead: Open. No condition but those each theorem states. -/
import Derived.Test.YtdheopihcohciaaAeadR
import Derived.Test.YtdheopihcohciaaKdfEq
import Derived.Test.YtdheopihcohciaaRoadD
namespace Go.Proofs.Ytdheopihcohciaa
set_option linter.unusedVariables false
set_option linter.unusedSimpArgs false
open Go.RowKit
attribute [local go_sem ↓] Go.wp_at_zero Go.wp_at_succ

/-- What opens to what. -/
def openL (k n beside sealed : List UInt8) : Option (List UInt8) :=
  if sealed.length < 16 then none else if tagL k n beside (sealed.take (sealed.length - 16)) = sealed.drop (sealed.length - 16) then some (streamL k n 1 (sealed.take (sealed.length - 16))) else none
/-- What the opener hands back. -/
def OpenP (w : World) (r : Option (List UInt8)) (e : Ending) (w' : World) : Prop :=
  (match r with | some t => ∃ v, e = .returned (.tuple #[v, .bool true]) ∧ OwnB w' w.heap.size v t | none => e = .returned (.tuple #[.slice none 0 0, .bool false])) ∧ Below w.heap.size w w'
/-- The call's own four variables. -/
structure OpW (w : World) (k n : List UInt8) (W : World) : Prop where
  bk : W.heap[w.heap.size]? = some (.cells (W8 k) 23 (0, 0))
  bn : W.heap[w.heap.size + 1]? = some (.cells (W8 n) 27 (0, 0))
  bt : W.heap[w.heap.size + 1 + 1]? = some (.cells #[.slice none 0 0] 24 (0, 0))
  bo : W.heap[w.heap.size + 1 + 1 + 1]? = some (.cells #[.bool false] 4 (0, 0))
  bel : Below w.heap.size w W
theorem OpW.lt {w W : World} {k n : List UInt8} (h : OpW w k n W) : w.heap.size + 1 + 1 + 1 < W.heap.size := row_lt h.bo
theorem OpW.keep {w W W' : World} {k n : List UInt8} (h : OpW w k n W) (hb : Below W.heap.size W W') : OpW w k n W' :=
  have := h.lt
  ⟨below_block hb (by omega) h.bk, below_block hb (by omega) h.bn, below_block hb (by omega) h.bt, below_block hb (by omega) h.bo, h.bel.trans (hb.mono (by omega))⟩
theorem OpW.grow {w W W' : World} {k n : List UInt8} {M : Nat} (h : OpW w k n W) (hg : W.grownBy W' (some M)) (hM : w.heap.size + 1 + 1 + 1 < M) : OpW w k n W' :=
  ⟨grown_block hg (by simp; omega) h.bk, grown_block hg (by simp; omega) h.bn, grown_block hg (by simp; omega) h.bt, grown_block hg (by simp; omega) h.bo, h.bel.trans (grown_below hg h.bel.size (by rintro g ⟨⟩; omega))⟩
theorem op_start (w : World) (k n : List UInt8) : OpW w k n ((((w.alloc (.cells (W8 k) 23)).alloc (.cells (W8 n) 27)).alloc (.cells #[.slice none 0 0] 24)).alloc (.cells #[.bool false] 4)) where
  bk := ha_old _ _ _ (by simp <;> omega) (ha_old _ _ _ (by simp <;> omega) (ha_old _ _ _ (by simp) (ha_new _ _ _ rfl)))
  bn := ha_old _ _ _ (by simp <;> omega) (ha_old _ _ _ (by simp) (ha_new _ _ _ (by simp)))
  bt := ha_old _ _ _ (by simp) (ha_new _ _ _ (by simp))
  bo := ha_new _ _ _ (by simp)
  bel := (((((Below.refl _ _).alloc (Nat.le_refl _) _).alloc (by simp) _).alloc (by simp <;> omega) _)).alloc (by simp <;> omega) _
def D89 : Option Tmp → Bool
  | none => true
  | some x => !(x == 8) && !(x == 9)
theorem put_89 {a : Act} {d : Option Tmp} {v : Value} (hd : D89 d = true) : results Try.f9 (a.put d v).tmps = results Try.f9 a.tmps := by
  cases d with
  | none => rfl
  | some x =>
    simp [D89] at hd
    have h8 : ∀ (t : Array Value), (t.setIfInBounds x v).getD 8 undef = t.getD 8 undef := fun t => by simp [Array.getElem?_setIfInBounds, hd.1]
    have h9 : ∀ (t : Array Value), (t.setIfInBounds x v).getD 9 undef = t.getD 9 undef := fun t => by simp [Array.getElem?_setIfInBounds, hd.2]
    unfold results
    simp only [Try.results9, Act.put]
    simp [Array.getElem?_setIfInBounds, hd.1, hd.2]
/-- What was thrown is caught: no text. -/
theorem open_falls {w W : World} {k n : List UInt8} (S : OpW w k n W) (u : TypeId) (pv : Value) (tmps : Array Value) (h8 : tmps[8]?.getD undef = .pointer (some ⟨w.heap.size + 1 + 1, 0, none⟩)) (h9 : tmps[9]?.getD undef = .pointer (some ⟨w.heap.size + 1 + 1 + 1, 0, none⟩)) :
    bodyPostD Try.prog Try.f9 (OpenP w none) (Exit.panic [{ v := .iface u pv, recovered := false }]) { tmps := tmps, defers := [{ target := Target.fn (Fn.func 19) #[.pointer (some ⟨w.heap.size + 1 + 1, 0, none⟩), .pointer (some ⟨w.heap.size + 1 + 1 + 1, 0, none⟩)], args := #[] }] } W := by
  refine leaves_cons (f := 19) (args := #[.pointer (some ⟨w.heap.size + 1 + 1, 0, none⟩), .pointer (some ⟨w.heap.size + 1 + 1 + 1, 0, none⟩)]) (by simp) (by simp [go_sem]) ?_
  refine (catch_panicking ⟨w.heap.size + 1 + 1, 0, none⟩ ⟨w.heap.size + 1 + 1 + 1, 0, none⟩ _ _ (by simp) u pv [] W (row_cell S.bt 0 rfl) (row_free S.bt 0) (row_cell S.bo 0 rfl) (row_free S.bo 0)).mono ?_
  rintro e u' w'' ⟨rfl, rfl, rfl⟩
  obtain ⟨W1, hW1⟩ : ∃ W1, W1 = W.setCell ⟨w.heap.size + 1 + 1, 0, none⟩ (.slice none 0 0) := ⟨_, rfl⟩
  rw [← hW1]
  have t1 : W1.heap[w.heap.size + 1 + 1]? = some (.cells #[.slice none 0 0] 24 (0, 0)) := by rw [hW1, heap_setCell_same _ _ _ _ _ _ S.bt]; rfl
  have g1 : W.grownBy W1 (some (w.heap.size + 1 + 1)) := by rw [hW1]; exact grown_set (World.grownBy.refl _ _) _ _
  have o1 : W1.heap[w.heap.size + 1 + 1 + 1]? = some (.cells #[.bool false] 4 (0, 0)) := grown_block g1 (by simp) S.bo
  obtain ⟨W2, hW2⟩ : ∃ W2, W2 = W1.setCell ⟨w.heap.size + 1 + 1 + 1, 0, none⟩ (.bool false) := ⟨_, rfl⟩
  rw [← hW2]
  have g2 : W1.grownBy W2 (some (w.heap.size + 1 + 1 + 1)) := by rw [hW2]; exact grown_set (World.grownBy.refl _ _) _ _
  have cA : W2.cell? ⟨w.heap.size + 1 + 1, 0, none⟩ = some (.slice none 0 0) := row_cell (grown_block g2 (by simp) t1) 0 rfl
  have cB : W2.cell? ⟨w.heap.size + 1 + 1 + 1, 0, none⟩ = some (.bool false) := row_cell (t := 4) (fr := (0, 0)) (cs := #[.bool false]) (by rw [hW2, heap_setCell_same _ _ _ _ _ _ o1]; rfl) 0 rfl
  have hB : Below w.heap.size w W2 := S.bel.trans ((grown_below g1 S.bel.size (by rintro k ⟨⟩; omega)).trans (grown_below g2 (Nat.le_trans S.bel.size g1.size) (by rintro k ⟨⟩; omega)))
  clear hW1 hW2 t1 g1 o1 g2
  refine ⟨.tuple #[.slice none 0 0, .bool false], ?_, rfl, hB⟩
  simp [settle, results, Try.results9, h8, h9, go_sem, cA, cB]
/-- .. nothing was thrown. -/
theorem open_stands {w W : World} {t : List UInt8} {v : Value} (cA : W.cell? ⟨w.heap.size + 1 + 1, 0, none⟩ = some v) (cB : W.cell? ⟨w.heap.size + 1 + 1 + 1, 0, none⟩ = some (.bool true)) (hO : OwnB W w.heap.size v t) (hB : Below w.heap.size w W)
    (tmps : Array Value) (h8 : tmps[8]?.getD undef = .pointer (some ⟨w.heap.size + 1 + 1, 0, none⟩)) (h9 : tmps[9]?.getD undef = .pointer (some ⟨w.heap.size + 1 + 1 + 1, 0, none⟩)) :
    bodyPostD Try.prog Try.f9 (OpenP w (some t)) Exit.ret { tmps := tmps, defers := [{ target := Target.fn (Fn.func 19) #[.pointer (some ⟨w.heap.size + 1 + 1, 0, none⟩), .pointer (some ⟨w.heap.size + 1 + 1 + 1, 0, none⟩)], args := #[] }] } W := by
  refine leaves_cons (f := 19) (args := #[.pointer (some ⟨w.heap.size + 1 + 1, 0, none⟩), .pointer (some ⟨w.heap.size + 1 + 1 + 1, 0, none⟩)]) (by simp) (by simp [go_sem]) ?_
  refine (catch_idle ⟨w.heap.size + 1 + 1, 0, none⟩ ⟨w.heap.size + 1 + 1 + 1, 0, none⟩ W).mono ?_
  rintro e u' w'' ⟨rfl, rfl, rfl⟩
  refine ⟨.tuple #[v, .bool true], ?_, ⟨v, rfl, hO⟩, hB⟩
  simp [settle, results, Try.results9, h8, h9, go_sem, cA, cB]
set_option maxRecDepth 100000 in
set_option maxHeartbeats 4000000 in
theorem open_any (k n : List UInt8) (hk : k.length = 32) (hn : n.length = 12) (w : World) (A : Option Addr) (q c : Nat) (l : List UInt8) (hq : l.length = q) (hR : RdB w A l) (A2 : Option Addr) (q2 c2 : Nat) (l2 : List UInt8) (hq2 : l2.length = q2) (hc2 : q2 ≤ c2) (hR2 : RdB w A2 l2) (hlt : ∀ a, A2 = some a → a.block < w.heap.size) (hl : q ≤ 70000) (hl2 : q2 ≤ 70000) :
    Calls Try.prog 9 #[.agg (W8 k), .agg (W8 n), .slice A q c, .slice A2 q2 c2] w (OpenP w (openL k n l l2)) := by
  have TB := Lib.hid (show ByteT Try.prog from ⟨Try.underlying24, by kernel_rfl⟩)
  have HK := Lib.hid hk
  have HN := Lib.hid hn
  have HQ := Lib.hid hq
  have HQ2 := Lib.hid hq2
  have HR := Lib.hid hR
  have HR2 := Lib.hid hR2
  have HC2 := Lib.hid hc2
  have HLT := Lib.hid hlt
  have ZK := Lib.hid (show (Try.prog.info? 23).map (·.size) = some (W8 k).size by rw [W8_size, hk]; kernel_rfl)
  have ZN := Lib.hid (show (Try.prog.info? 27).map (·.size) = some (W8 n).size by rw [W8_size, hn]; kernel_rfl)
  have QB := Lib.hid (And.intro hl hl2)
  obtain ⟨i0, hi0, hz0, hz1, hz2⟩ := info_parts (show (Try.prog.info? 5).map (fun i => (i.zero, i.size, i.bytes)) = some (some (.int .u8 0), 1, 1) by kernel_rfl)
  have I0 := Lib.hid hi0
  have I1 := Lib.hid hz1
  have hmf : ∀ (fn : Fn) (first cap : Array Value) (w : World), (Instr.makeFunc fn first cap).run Try.prog w = .ok (.func fn first cap) w := fun _ _ _ _ => rfl
  have q2b : (q2 : Int) ≤ 70000 := by omega
  clear hk hn hq hq2 hR hR2 hl hl2 hc2 hlt hi0 hz0 hz1 hz2
  by_cases h16 : q2 < 16
  · have OE := Lib.hid (show openL k n l l2 = none by rw [openL, if_pos (by rw [HQ2.out]; exact h16)])
    have hD : decide ((16 : Int) ≤ (q2 : Int)) = false := by simp; omega
    rw [OE.out]
    go_enter_defers Try.func9, Try.ntmps9
    go_wp2_with fail
    clear hD
    generalize hw : World.alloc _ _ = w1
    have S := Lib.hid (show OpW w k n w1 by rw [← hw]; exact op_start w k n)
    clear hw
    refine (must_false _).mono ?_
    rintro e w2 ⟨ht, hw⟩
    rw [hw]
    obtain ⟨u, pv, rfl⟩ := ht
    exact open_falls S.out u pv _ rfl rfl
  · have hD : decide ((16 : Int) ≤ (q2 : Int)) = true := by simp; omega
    obtain ⟨at_, hat⟩ : ∃ a, q2 = a + 16 := ⟨q2 - 16, by omega⟩
    have e1 : (q2 : Int) - 16 = (at_ : Int) := by omega
    have AE := Lib.hid hat
    obtain ⟨r, hr⟩ : ∃ r, r = openL k n l l2 := ⟨_, rfl⟩
    rw [← hr]
    have RE := Lib.hid hr
    clear hr hat h16
    go_enter_defers Try.func9, Try.ntmps9
    go_wp2_with fail
    generalize hw : World.alloc _ _ = w1
    have S := Lib.hid (show OpW w k n w1 by rw [← hw]; exact op_start w k n)
    clear hw hD e1
    refine (must_true _).mono ?_
    rintro e w2 ⟨rfl, hw⟩
    rw [hw]
    clear hw w2
    obtain ⟨X, hX⟩ : ∃ X, X = l2.take at_ := ⟨_, rfl⟩
    obtain ⟨T, hT⟩ : ∃ T, T = tagL k n l X := ⟨_, rfl⟩
    obtain ⟨Y, hY⟩ : ∃ Y, Y = l2.drop at_ := ⟨_, rfl⟩
    have XL := Lib.hid (show X.length = at_ by rw [hX, List.length_take, HQ2.out, AE.out]; omega)
    have YL := Lib.hid (show Y.length = 16 by rw [hY, List.length_drop, HQ2.out, AE.out]; omega)
    have TL := Lib.hid (show T.length = 16 by rw [hT, tagL_length])
    have ZT := Lib.hid (show (Try.prog.info? 29).map (·.size) = some (W8 T).size by rw [W8_size, TL.out]; kernel_rfl)
    have RE := Lib.hid (show r = if T = Y then some (streamL k n 1 X) else none by
      rw [RE.out, openL, if_neg (by rw [HQ2.out, AE.out]; omega), hT, hY, hX, show l2.length - 16 = at_ by rw [HQ2.out, AE.out]; omega])
    have RX := Lib.hid (show RdB w A2 X by rw [hX]; exact HR2.out.take _)
    have TE := Lib.hid hT
    have YE := Lib.hid hY
    have ZZ := Lib.hid zero16
    have AB := Lib.hid (show at_ ≤ 70000 by have := QB.out; have := AE.out; omega)
    have AC := Lib.hid (show at_ ≤ c2 by have := HC2.out; have := AE.out; omega)
    clear hX hT hY
    go_upto_region 4 with fail
    go_cut [11] from 19 to 26 (fun v wx => ∃ M, v = .pointer (some ⟨M, 0, none⟩) ∧ wx.heap[M]? = some (.cells (W8 T) 29 (0, 0)) ∧ OpW w k n wx)
    case first =>
      refine wp_region_treeD D89 (by kernel_rfl) (fun W => OpW w k n W) (.q 0 (.q 1 (.q 2 (.q 3 (.q 4 (.q 5 (.q 6 (.two 7 (.t 8 (.t 9 .done)) 8 (.t 7 (.t 9 .done)))))))))) (by kernel_rfl) (by kernel_rfl) (fun _ _ d _ _ hd h => door_put (put_89 hd) h) ?_
      have S := Lib.hid (S.out.keep (Below.refl _ _).drew)
      generalize World.drew w1 = w3 at *
      refine road_q rfl rfl (S.out) (fun W hW => run_load_row 23 (.tmp 4) rfl w.heap.size rfl 23 (W8 k) (0, 0) _ hW.bk Try.underlying23 rfl ZK.out) ?_
      simp only [Act.put, List.setIfInBounds_toArray, List.set_cons_zero, List.set_cons_succ]
      refine road_q rfl rfl (S.out) (fun W hW => run_load_row 27 (.tmp 5) rfl (w.heap.size + 1) rfl 27 (W8 n) (0, 0) _ hW.bn Try.underlying27 rfl ZN.out) ?_
      simp only [Act.put, List.setIfInBounds_toArray, List.set_cons_zero, List.set_cons_succ]
      refine road_q (v := ?_) rfl rfl (S.out) ?_ ?_
      rotate_left
      · intro W hW
        go_simp
        with_reducible rfl
      simp only [Act.put, List.setIfInBounds_toArray, List.set_cons_zero, List.set_cons_succ]
      refine road_q (v := ?_) rfl rfl (S.out) ?_ ?_
      rotate_left
      · intro W hW
        go_simp
        with_reducible rfl
      simp only [Act.put, List.setIfInBounds_toArray, List.set_cons_zero, List.set_cons_succ]
      refine road_q (v := ?_) rfl rfl (S.out) ?_ ?_
      rotate_left
      · intro W hW
        go_simp
        with_reducible rfl
      simp only [Act.put, List.setIfInBounds_toArray, List.set_cons_zero, List.set_cons_succ]
      refine road_q (v := ?_) rfl rfl (S.out) ?_ ?_
      rotate_left
      · intro W hW
        go_simp
        with_reducible rfl
      simp only [Act.put, List.setIfInBounds_toArray, List.set_cons_zero, List.set_cons_succ]
      refine road_q rfl rfl (S.out) (fun W hW => run_cut_max 24 5 (.tmp 22) (.tmp 23) (.tmp 24) rfl Try.underlying24 I0.out I1.out A2 q2 c2 at_ AC.out rfl rfl rfl W) ?_
      simp only [Act.put, List.setIfInBounds_toArray, List.set_cons_zero, List.set_cons_succ]
      refine road_two ?_ ?_
      ·
        refine road_t rfl rfl (fun K hK => ?_)
        go_simp
        refine (tag_any k n HK.out HN.out _ A q c l HQ.out (HR.out.keep S.out.bel) A2 at_ at_ X XL.out (RX.out.keep S.out.bel) (by have := QB.out; omega) (by have := AB.out; omega)).mono ?_
        rw [← TE.out]
        rintro e w3 ⟨rfl, hb⟩
        have S := Lib.hid (S.out.keep hb)
        try have R := Lib.hid (below_block hb (row_lt R.out) R.out)
        clear hb
        refine hK.out _ _ (S.out) ?_
        clear hK K
        refine road_t rfl rfl (fun K hK => ?_)
        go_simp
        rw [← ZZ.out]
        generalize hM : Array.size (World.heap w3) = M
        generalize hw : World.alloc w3 _ = w8
        have MS := Lib.hid (show w.heap.size + 1 + 1 + 1 < M by rw [← hM]; exact S.out.lt)
        have R := Lib.hid (show w8.heap[M]? = some (.cells (W8 Z16) 29 (0, 0)) by rw [← hw]; exact ha_new _ _ _ hM.symm)
        have S := Lib.hid (show OpW w k n w8 by rw [← hw]; exact S.out.keep (below_new _ _))
        clear hM hw
        refine hK.out _ _ (S.out) ?_
        clear hK K
        refine road_t rfl rfl (fun K hK => ?_)
        refine storeW_wp 29 (.tmp 11) (.tmp 26) rfl M (W8 T) rfl rfl _ _ R.out ZT.out (by rw [W8_size, W8_size, TL.out]; rfl) (W8_one _) ?_
        intro w9 hz9 hg9 _
        have R := Lib.hid hz9
        have S := Lib.hid (S.out.grow hg9 MS.out)
        clear hz9 hg9
        refine hK.out _ _ (S.out) ?_
        clear hK K
        refine road_done ?_
        simp only [Act.put]
        go_wp2_with fail
        go_meet
        exact ⟨M, rfl, R.out, S.out⟩
      ·
        refine road_t rfl rfl (fun K hK => ?_)
        go_simp
        rw [← ZZ.out]
        generalize hM : Array.size (World.heap w3) = M
        generalize hw : World.alloc w3 _ = w8
        have MS := Lib.hid (show w.heap.size + 1 + 1 + 1 < M by rw [← hM]; exact S.out.lt)
        have R := Lib.hid (show w8.heap[M]? = some (.cells (W8 Z16) 29 (0, 0)) by rw [← hw]; exact ha_new _ _ _ hM.symm)
        have S := Lib.hid (show OpW w k n w8 by rw [← hw]; exact S.out.keep (below_new _ _))
        clear hM hw
        refine hK.out _ _ (S.out) ?_
        clear hK K
        refine road_t rfl rfl (fun K hK => ?_)
        go_simp
        refine (tag_any k n HK.out HN.out _ A q c l HQ.out (HR.out.keep S.out.bel) A2 at_ at_ X XL.out (RX.out.keep S.out.bel) (by have := QB.out; omega) (by have := AB.out; omega)).mono ?_
        rw [← TE.out]
        rintro e w3 ⟨rfl, hb⟩
        have S := Lib.hid (S.out.keep hb)
        try have R := Lib.hid (below_block hb (row_lt R.out) R.out)
        clear hb
        refine hK.out _ _ (S.out) ?_
        clear hK K
        refine road_t rfl rfl (fun K hK => ?_)
        refine storeW_wp 29 (.tmp 11) (.tmp 26) rfl M (W8 T) rfl rfl _ _ R.out ZT.out (by rw [W8_size, W8_size, TL.out]; rfl) (W8_one _) ?_
        intro w9 hz9 hg9 _
        have R := Lib.hid hz9
        have S := Lib.hid (S.out.grow hg9 MS.out)
        clear hz9 hg9
        refine hK.out _ _ (S.out) ?_
        clear hK K
        refine road_done ?_
        simp only [Act.put]
        go_wp2_with fail
        go_meet
        exact ⟨M, rfl, R.out, S.out⟩
    case rest =>
    obtain ⟨M, rfl, hr, hs⟩ := hcut
    have R := Lib.hid hr
    have S := Lib.hid hs
    clear hr hs
    obtain ⟨A', hX0, hcut, _⟩ := cut_from (P := Try.prog) 24 5 Try.underlying24 I0.out I1.out A2 q2 c2 at_ (by have := AE.out; omega)
    rw [show q2 - at_ = 16 by have := AE.out; omega] at hX0
    have HX := Lib.hid hX0
    have RY := Lib.hid (show RdB w A' Y by rw [YE.out]; exact hcut w l2 HQ2.out HC2.out HR2.out)
    clear hX0 hcut
    go_upto_region 5 with fail
    by_cases hTY : T = Y
    · have hE := Lib.hid (show decide (T = Y) = true from decide_eq_true hTY)
      have RE := Lib.hid (show r = some (streamL k n 1 X) by rw [RE.out, if_pos hTY])
      clear hTY
      refine wp_region_roadD D89 (by kernel_rfl) (fun W => OpW w k n W ∧ W.heap[M]? = some (.cells (W8 T) 29 (0, 0))) [(true, 0), (true, 1), (true, 2), (true, 3), (false, 4), (false, 5)] (by kernel_rfl) (by kernel_rfl) (fun _ _ d _ _ hd h => door_put (put_89 hd) h) ?_
      simp only [List.filterMap_cons, List.filterMap_nil, List.getElem?_toArray, List.getElem?_cons_zero, List.getElem?_cons_succ, Option.map_some]
      have S := Lib.hid (show OpW w k n wc.drew ∧ wc.drew.heap[M]? = some (.cells (W8 T) 29 (0, 0)) from ⟨S.out.keep (Below.refl _ _).drew, R.out⟩)
      refine planG_q (by rfl) (S.out) (fun W hW => run_arr_all 29 (.tmp 11) rfl 16 5 Try.underlying29 I0.out M rfl W) ?_
      simp only [Act.put, List.setIfInBounds_toArray, List.set_cons_zero, List.set_cons_succ]
      refine planG_q (v := ?_) (by rfl) (S.out) ?_ ?_
      rotate_left
      · intro W hW
        go_simp
        with_reducible rfl
      simp only [Act.put, List.setIfInBounds_toArray, List.set_cons_zero, List.set_cons_succ]
      refine planG_q (v := ?_) (by rfl) (S.out) ?_ ?_
      rotate_left
      · intro W hW
        go_simp
        with_reducible rfl
      simp only [Act.put, List.setIfInBounds_toArray, List.set_cons_zero, List.set_cons_succ]
      refine planG_q (by rfl) (S.out) (fun W hW => run_cut_from 24 (.tmp 28) (.tmp 29) rfl Try.underlying24 HX.out rfl rfl W) ?_
      simp only [Act.put, List.setIfInBounds_toArray, List.set_cons_zero, List.set_cons_succ]
      refine planG_t (by rfl) (fun K hK => ?_)
      go_simp
      refine (equal_any _ (some ⟨M, 0, none⟩) 16 16 T TL.out (RdB.row S.out.2) A' 16 (c2 - at_) Y YL.out (RY.out.keep S.out.1.bel) (by omega) (by omega)).mono ?_
      rw [hE.out]
      rintro e w4 ⟨rfl, hb⟩
      have S := Lib.hid (show OpW w k n w4 ∧ w4.heap[M]? = some (.cells (W8 T) 29 (0, 0)) from ⟨S.out.1.keep hb, below_block hb (row_lt S.out.2) S.out.2⟩)
      clear hb
      refine hK.out _ _ (S.out) ?_
      clear hK K
      refine planG_t (by rfl) (fun K hK => ?_)
      go_simp
      refine (must_true _).mono ?_
      rintro e w5 ⟨rfl, hw⟩
      rw [hw]
      clear hw w5
      refine hK.out _ _ (S.out) ?_
      clear hK K
      refine planG_nil ?_
      go_upto_region 6 with fail
      refine wp_region_roadD D89 (by kernel_rfl) (fun W => W.heap[w.heap.size]? = some (.cells (W8 k) 23 (0, 0)) ∧ W.heap[w.heap.size + 1]? = some (.cells (W8 n) 27 (0, 0))) [(true, 0), (true, 1), (true, 2), (true, 3), (true, 4), (true, 5), (false, 6), (false, 7), (false, 8)] (by kernel_rfl) (by kernel_rfl) (fun _ _ d _ _ hd h => door_put (put_89 hd) h) ?_
      simp only [List.filterMap_cons, List.filterMap_nil, List.getElem?_toArray, List.getElem?_cons_zero, List.getElem?_cons_succ, Option.map_some]
      have S := Lib.hid (show OpW w k n w4.drew from S.out.1.keep (Below.refl _ _).drew)
      have C := Lib.hid (And.intro S.out.bk S.out.bn)
      refine planG_q (by rfl) (C.out) (fun W hW => run_load_row 23 (.tmp 4) rfl w.heap.size rfl 23 (W8 k) (0, 0) _ hW.1 Try.underlying23 rfl ZK.out) ?_
      simp only [Act.put, List.setIfInBounds_toArray, List.set_cons_zero, List.set_cons_succ]
      refine planG_q (by rfl) (C.out) (fun W hW => run_load_row 27 (.tmp 5) rfl (w.heap.size + 1) rfl 27 (W8 n) (0, 0) _ hW.2 Try.underlying27 rfl ZN.out) ?_
      simp only [Act.put, List.setIfInBounds_toArray, List.set_cons_zero, List.set_cons_succ]
      refine planG_q (v := ?_) (by rfl) (C.out) ?_ ?_
      rotate_left
      · intro W hW
        go_simp
        with_reducible rfl
      simp only [Act.put, List.setIfInBounds_toArray, List.set_cons_zero, List.set_cons_succ]
      refine planG_q (v := ?_) (by rfl) (C.out) ?_ ?_
      rotate_left
      · intro W hW
        go_simp
        with_reducible rfl
      simp only [Act.put, List.setIfInBounds_toArray, List.set_cons_zero, List.set_cons_succ]
      refine planG_q (v := ?_) (by rfl) (C.out) ?_ ?_
      rotate_left
      · intro W hW
        go_simp
        with_reducible rfl
      simp only [Act.put, List.setIfInBounds_toArray, List.set_cons_zero, List.set_cons_succ]
      refine planG_q (by rfl) (C.out) (fun W hW => run_cut_max 24 5 (.tmp 35) (.tmp 36) (.tmp 37) rfl Try.underlying24 I0.out I1.out A2 q2 c2 at_ AC.out rfl rfl rfl W) ?_
      simp only [Act.put, List.setIfInBounds_toArray, List.set_cons_zero, List.set_cons_succ]
      refine planG_t (by rfl) (fun K hK => ?_)
      go_simp
      have SA := Lib.hid (stream_any k n HK.out HN.out 1 w4.drew A2 at_ X (RX.out.keep S.out.bel) (by rw [XL.out]; exact Nat.le_refl _) (by have := AB.out; have := XL.out; omega) (fun a e => Nat.lt_of_lt_of_le (HLT.out a e) S.out.bel.size))
      rw [XL.out] at SA
      refine SA.out.mono ?_
      obtain ⟨Z, hZ⟩ : ∃ Z, Z = streamL k n 1 X := ⟨_, rfl⟩
      rw [← hZ]
      rw [← hZ] at RE
      rintro e w5 ⟨v, rfl, ho, hb⟩
      obtain ⟨Av, cv, rfl, _⟩ := ho.read
      obtain ⟨zn, hzn⟩ : ∃ z, z = Z.length := ⟨_, rfl⟩
      rw [← hzn] at ho ⊢
      have O := Lib.hid (ho.mono S.out.bel.size)
      have OL := Lib.hid (fun g e => Nat.lt_of_lt_of_le S.out.lt (ho.lt g e).1)
      have S := Lib.hid (S.out.keep hb)
      have C := Lib.hid (And.intro S.out.bk S.out.bn)
      clear hb ho hZ hzn SA
      refine hK.out _ _ (C.out) ?_
      clear hK K
      have ct : w5.cell? ⟨w.heap.size + 1 + 1, 0, none⟩ = some (.slice none 0 0) := row_cell S.out.bt 0 rfl
      have ft := row_free S.out.bt 0
      refine planG_t (by rfl) (fun K hK => ?_)
      go_simp
      obtain ⟨w6, hw6⟩ : ∃ w6, w6 = w5.setCell ⟨w.heap.size + 1 + 1, 0, none⟩ (.slice Av zn cv) := ⟨_, rfl⟩
      rw [← hw6]
      have G6 := Lib.hid (show w5.grownBy w6 (some (w.heap.size + 1 + 1)) by rw [hw6]; exact grown_set (World.grownBy.refl _ _) _ _)
      have T6 := Lib.hid (show w6.heap[w.heap.size + 1 + 1]? = some (.cells #[.slice Av zn cv] 24 (0, 0)) by rw [hw6, heap_setCell_same _ _ _ _ _ _ S.out.bt]; rfl)
      have O6 := Lib.hid (grown_block G6.out (by simp) S.out.bo)
      have C := Lib.hid (And.intro (grown_block G6.out (by simp <;> omega) S.out.bk) (grown_block G6.out (by simp <;> omega) S.out.bn))
      clear hw6 ct ft
      refine hK.out _ _ (C.out) ?_
      clear hK K
      have co : w6.cell? ⟨w.heap.size + 1 + 1 + 1, 0, none⟩ = some (.bool false) := row_cell O6.out 0 rfl
      have fo := row_free O6.out 0
      refine planG_t (by rfl) (fun K hK => ?_)
      go_simp
      obtain ⟨w7, hw7⟩ : ∃ w7, w7 = w6.setCell ⟨w.heap.size + 1 + 1 + 1, 0, none⟩ (.bool true) := ⟨_, rfl⟩
      rw [← hw7]
      have G7 := Lib.hid (show w6.grownBy w7 (some (w.heap.size + 1 + 1 + 1)) by rw [hw7]; exact grown_set (World.grownBy.refl _ _) _ _)
      have T7 := Lib.hid (grown_block G7.out (by simp) T6.out)
      have O7 := Lib.hid (show w7.heap[w.heap.size + 1 + 1 + 1]? = some (.cells #[.bool true] 4 (0, 0)) by rw [hw7, heap_setCell_same _ _ _ _ _ _ O6.out]; rfl)
      have C := Lib.hid (And.intro (grown_block G7.out (by simp <;> omega) C.out.1) (grown_block G7.out (by simp <;> omega) C.out.2))
      clear hw7 co fo
      refine hK.out _ _ (C.out) ?_
      clear hK K
      refine planG_nil ?_
      go_wp2_with fail
      rw [RE.out]
      refine open_stands (row_cell T7.out 0 rfl) (row_cell O7.out 0 rfl) ?_ ?_ _ rfl rfl
      · refine (O.out.grown G6.out ?_).grown G7.out ?_
        · rcases hq : (Value.slice Av zn cv).ownBlock with _ | g
          · exact .inl rfl
          · exact .inr (fun e => by injection e with e; have := OL.out g hq; omega)
        · rcases hq : (Value.slice Av zn cv).ownBlock with _ | g
          · exact .inl rfl
          · exact .inr (fun e => by injection e with e; have := OL.out g hq; omega)
      · exact S.out.bel.trans ((grown_below G6.out S.out.bel.size (by rintro k ⟨⟩; omega)).trans (grown_below G7.out (Nat.le_trans S.out.bel.size G6.out.size) (by rintro k ⟨⟩; omega)))
    · have hE := Lib.hid (show decide (T = Y) = false from decide_eq_false hTY)
      have RE := Lib.hid (show r = none by rw [RE.out, if_neg hTY])
      clear hTY
      refine wp_region_roadD D89 (by kernel_rfl) (fun W => OpW w k n W ∧ W.heap[M]? = some (.cells (W8 T) 29 (0, 0))) [(true, 0), (true, 1), (true, 2), (true, 3), (false, 4), (false, 5)] (by kernel_rfl) (by kernel_rfl) (fun _ _ d _ _ hd h => door_put (put_89 hd) h) ?_
      simp only [List.filterMap_cons, List.filterMap_nil, List.getElem?_toArray, List.getElem?_cons_zero, List.getElem?_cons_succ, Option.map_some]
      have S := Lib.hid (show OpW w k n wc.drew ∧ wc.drew.heap[M]? = some (.cells (W8 T) 29 (0, 0)) from ⟨S.out.keep (Below.refl _ _).drew, R.out⟩)
      refine planG_q (by rfl) (S.out) (fun W hW => run_arr_all 29 (.tmp 11) rfl 16 5 Try.underlying29 I0.out M rfl W) ?_
      simp only [Act.put, List.setIfInBounds_toArray, List.set_cons_zero, List.set_cons_succ]
      refine planG_q (v := ?_) (by rfl) (S.out) ?_ ?_
      rotate_left
      · intro W hW
        go_simp
        with_reducible rfl
      simp only [Act.put, List.setIfInBounds_toArray, List.set_cons_zero, List.set_cons_succ]
      refine planG_q (v := ?_) (by rfl) (S.out) ?_ ?_
      rotate_left
      · intro W hW
        go_simp
        with_reducible rfl
      simp only [Act.put, List.setIfInBounds_toArray, List.set_cons_zero, List.set_cons_succ]
      refine planG_q (by rfl) (S.out) (fun W hW => run_cut_from 24 (.tmp 28) (.tmp 29) rfl Try.underlying24 HX.out rfl rfl W) ?_
      simp only [Act.put, List.setIfInBounds_toArray, List.set_cons_zero, List.set_cons_succ]
      refine planG_t (by rfl) (fun K hK => ?_)
      go_simp
      refine (equal_any _ (some ⟨M, 0, none⟩) 16 16 T TL.out (RdB.row S.out.2) A' 16 (c2 - at_) Y YL.out (RY.out.keep S.out.1.bel) (by omega) (by omega)).mono ?_
      rw [hE.out]
      rintro e w4 ⟨rfl, hb⟩
      have S := Lib.hid (show OpW w k n w4 ∧ w4.heap[M]? = some (.cells (W8 T) 29 (0, 0)) from ⟨S.out.1.keep hb, below_block hb (row_lt S.out.2) S.out.2⟩)
      clear hb
      refine hK.out _ _ (S.out) ?_
      clear hK K
      refine planG_t (by rfl) (fun K hK => ?_)
      go_simp
      refine (must_false _).mono ?_
      rintro e w5 ⟨ht, hw⟩
      rw [hw]
      obtain ⟨u, pv, rfl⟩ := ht
      rw [RE.out]
      exact open_falls S.out.1 u pv _ rfl rfl
end Go.Proofs.Ytdheopihcohciaa
