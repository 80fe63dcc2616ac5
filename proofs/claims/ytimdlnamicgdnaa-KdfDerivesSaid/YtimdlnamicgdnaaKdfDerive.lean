/- kdf.Derive, whole. No condition but those each theorem states. -/
import Derived.Test.YtimdlnamicgdnaaKdfDer
namespace Go.Proofs.Ytimdlnamicgdnaa
set_option linter.unusedVariables false
set_option linter.unusedSimpArgs false
open Go.RowKit
attribute [local go_sem ↓] Go.wp_at_zero Go.wp_at_succ

/-- What stands. -/
structure DrW (w : World) (k : List UInt8) (W : World) : Prop where
  bel : Below w.heap.size w W
  bk : W.heap[w.heap.size]? = some (.cells (W8 k) 33 (0, 0))
  bo : W.heap[w.heap.size + 1]? = some (.cells (W8 (List.replicate 32 0)) 33 (0, 0))
theorem DrW.keep {w W W' : World} {k : List UInt8} (h : DrW w k W) (hb : Below W.heap.size W W') : DrW w k W' := ⟨h.bel.trans (hb.mono h.bel.size), below_block hb (row_lt h.bk) h.bk, below_block hb (row_lt h.bo) h.bo⟩
theorem DrW.grow {w W W' : World} {k : List UInt8} {g : Nat} (h : DrW w k W) (hg : W.grownBy W' (some g)) (hne : w.heap.size + 1 < g) : DrW w k W' :=
  ⟨h.bel.trans (grown_below hg h.bel.size (by rintro q ⟨⟩; omega)), grown_block hg (by simp; omega) h.bk, grown_block hg (by simp; omega) h.bo⟩
theorem sized_flat (ls : List (List UInt8)) : (ls.map sizedL).flatten.length = ls.flatten.length + 4 * ls.length := by
  induction ls with
  | nil => rfl
  | cons l ls ih => simp only [List.map_cons, List.flatten_cons, List.length_append, ih, sizedL_length, List.length_cons]; omega
theorem range_of {w : World} {b o : Nat} {l : List UInt8} (h : RdB w (some ⟨b, o, none⟩) l) : w.rangeAt b o (B8 l) := by
  intro j v hj
  obtain ⟨b', o', e, hc⟩ := h.toV j v hj
  cases e
  exact hc
set_option maxRecDepth 100000 in
set_option maxHeartbeats 4000000 in
theorem derive_any (w : World) (k : List UInt8) (hk : k.length = 32) (word : List UInt8) (hwl : word.length ≤ 1000000) (A : Option Addr) (n c : Nat) (vs : List Value) (ls : List (List UInt8)) (hn : vs.length = n) (hR : RdV w A vs) (hall : All2 (SlB w) vs ls)
    (hb : ls.flatten.length ≤ 1000000) (hnb : n ≤ 1000000) :
    Calls Try.prog 17 #[.agg (W8 k), .string (strB word), .slice A n c] w fun e w' => e = .returned (.agg (W8 (deriveL k word ls))) ∧ Below w.heap.size w w' := by
  have HK := Lib.hid hk
  have HW := Lib.hid hwl
  have HN := Lib.hid hn
  have HR := Lib.hid hR
  have HA := Lib.hid hall
  have HB := Lib.hid (And.intro hb hnb)
  have NL := Lib.hid (show ls.length = n by rw [← hall.length, hn])
  have Z32 := Lib.hid zero32
  have ZK := Lib.hid (show (Try.prog.info? 33).map (·.size) = some (W8 k).size by rw [W8_size, hk]; kernel_rfl)
  clear hk hwl hn hR hall hb hnb
  go_enter Try.func17, Try.ntmps17
  go_upto_region 1 with fail
  rw [← Z32.out]
  generalize hw1 : World.alloc w _ = w0
  generalize hw2 : World.alloc w0 _ = w1
  have S := Lib.hid (show DrW w k w1 by
    rw [← hw2, ← hw1]
    exact ⟨((Below.refl _ _).alloc (Nat.le_refl _) _).alloc (by simp) _, ha_old _ _ _ (by simp) (ha_new _ _ _ rfl), ha_new _ _ _ (by simp)⟩)
  clear hw1 hw2
  refine wp_region_list ?_
  simp only [List.toList_toArray]
  refine wpList_val (v := ?_) (by rfl) ?_ ?_
  rotate_left
  · go_simp
    with_reducible rfl
  simp only [Act.put, List.setIfInBounds_toArray, List.set_cons_zero, List.set_cons_succ]
  refine wpList_op (by rfl) (fun K hK => ?_)
  refine bytes_wp 9 22 5 (.tmp 10) rfl Try.underlying9 Try.underlying22 Try.underlying5 word rfl ?_
  intro w2 cw hr hcw hb hs2
  have S := Lib.hid (S.out.keep hb)
  clear hb
  generalize Array.size (World.heap w1) = NB at *
  obtain ⟨m, hm⟩ : ∃ m, m = word.length := ⟨_, rfl⟩
  rw [← hm] at hcw ⊢
  have RW := Lib.hid hr
  have CW := Lib.hid hcw
  have MW := Lib.hid hm.symm
  have NL2 := Lib.hid (show NB < w2.heap.size by omega)
  clear hr hcw hs2 hm
  refine hK.out _ _ ?_
  clear hK K
  simp only [Act.put, List.setIfInBounds_toArray, List.set_cons_zero, List.set_cons_succ]
  go_wp2_with fail
  refine (sized_any w2 none 0 0 [] (some ⟨NB, 0, none⟩) m cw word rfl (RdB.nil _ _) MW.out RW.out (by have := HW.out; have := MW.out; omega)).mono ?_
  rw [List.nil_append]
  rintro e w3 ⟨v, rfl, ho, hb⟩
  have S := Lib.hid (S.out.keep hb)
  obtain ⟨Ai, ci, rfl, hr, hl, _, hbk⟩ := ho.read
  obtain ⟨q, hq⟩ : ∃ q, q = (sizedL word).length := ⟨_, rfl⟩
  rw [← hq] at hl ⊢
  have QE := Lib.hid hq
  have RI := Lib.hid hr
  have LI := Lib.hid hl
  have BI := Lib.hid hbk
  clear ho hb hr hl hbk hq
  go_upto_region 2 with fail
  generalize hG : Array.size (World.heap w3) = G
  generalize hw : World.alloc w3 _ = w4
  have hb : Below w3.heap.size w3 w4 := by rw [← hw]; exact below_new _ _
  have GB := Lib.hid (show w.heap.size + 1 < G by rw [← hG]; exact row_lt S.out.bo)
  have V := Lib.hid (show VarB G (sizedL word) w4 from ⟨Ai, ci, by rw [← QE.out, ← hw]; exact ha_new _ _ _ hG.symm, by rw [← QE.out]; exact LI.out, RI.out.keep hb, fun a e => by
    have := (BI.out a e).2
    have := hb.size
    exact ⟨by omega, by omega⟩⟩)
  have S := Lib.hid (S.out.keep hb)
  clear hG hw hb QE LI RI BI
  go_wp2_with fail
  refine (eachc_any w w4 S.out.bel G (by have := GB.out; omega) (sizedL word) V.out A n c vs ls HN.out HR.out HA.out (by have := HB.out; have := NL.out; have := HW.out; rw [sized_flat, sizedL_length]; omega) (by have := HB.out; omega)).mono ?_
  rintro e w5 ⟨rfl, hv, hgr⟩
  obtain ⟨I, hI⟩ : ∃ I, I = infoL word ls := ⟨_, rfl⟩
  have V := Lib.hid (show VarB G I w5 by rw [hI]; exact hv)
  have IE := Lib.hid hI
  have IL := Lib.hid (show I.length ≤ 140737488340000 by rw [hI, infoL, List.length_append, sized_flat, sizedL_length]; have := HB.out; have := NL.out; have := HW.out; omega)
  have S := Lib.hid (S.out.grow hgr GB.out)
  clear hv hgr hI
  obtain ⟨A5, c5, h1, h2, h3, _⟩ := V.out.has
  obtain ⟨qi, hqi⟩ : ∃ q, q = I.length := ⟨_, rfl⟩
  rw [← hqi] at h1 h2 IL
  have a1 := row_cell h1 0 rfl
  have QI := Lib.hid hqi.symm
  have C5 := Lib.hid h2
  have R5 := Lib.hid h3
  clear h1 h2 h3 hqi
  go_wp2_with (refine wpList_val rfl (run_load_row 33 (.tmp 3) rfl w.heap.size rfl 33 (W8 k) (0, 0) _ S.out.bk Try.underlying33 rfl ZK.out) ?_)
  refine (expand_any _ k HK.out A5 qi c5 I QI.out C5.out R5.out IL.out 32 (by omega)).mono ?_
  rintro e w6 ⟨hb, hx⟩
  rcases hx with ⟨hx, _⟩ | ⟨_, _, A6, rfl, hr⟩
  · exfalso; omega
  have e32 : (32 : Int).toNat = 32 := rfl
  rw [e32] at hr ⊢
  obtain ⟨X, hX⟩ : ∃ X, X = expandL k I 32 := ⟨_, rfl⟩
  have XL := Lib.hid (show X.length = 32 by rw [hX, expandL_length])
  have XE := Lib.hid (show X = deriveL k word ls by rw [hX, IE.out]; rfl)
  rw [← hX] at hr
  have S := Lib.hid (S.out.keep hb)
  obtain ⟨b, o, rfl, _⟩ := hr 0 (by rw [XL.out]; omega)
  have RG := Lib.hid (range_of hr)
  have ZX := Lib.hid (show (Try.prog.info? 33).map (·.size) = some (B8 X).length by rw [B8_length, XL.out]; kernel_rfl)
  have ZX2 := Lib.hid (show (Try.prog.info? 33).map (·.size) = some (W8 X).size by rw [W8_size, XL.out]; kernel_rfl)
  clear hb hr hX e32 a1
  go_wp2_with (first
    | (refine wpList_val rfl (run_sl2arr 33 (.tmp 22) rfl 32 5 Try.underlying33 (some ⟨b, o, none⟩) 32 32 rfl (Nat.le_refl _) _) ?_)
    | (refine wpList_load_mid rfl 33 (.tmp 23) rfl b o rfl (B8 X) _ RG.out Try.underlying33 rfl ZX.out ?_)
    | (refine wpList_store_whole rfl rfl 33 (.tmp 6) (.tmp 24) rfl (w.heap.size + 1) (W8 X) rfl rfl 33 _ S.out.bo ZX2.out (by rw [W8_size, W8_size, XL.out]; simp) (W8_one _) ?_; intro w8 hz8 hg8 _))
  refine bodyPost_ret (results_cell_row rfl _ _ (w.heap.size + 1) 33 (W8 X) (0, 0) _ rfl hz8 Try.underlying33 rfl ZX2.out) rfl ⟨?_, ?_⟩
  · rw [XE.out]
  · exact S.out.bel.trans (grown_below hg8 S.out.bel.size (by rintro g ⟨⟩; omega))
end Go.Proofs.Ytimdlnamicgdnaa
