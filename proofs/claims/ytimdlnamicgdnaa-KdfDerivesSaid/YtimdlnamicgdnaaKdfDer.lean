/- kdf.Derive: the key that one comes to, for a word and texts. No condition but those each theorem states. -/
import Derived.Test.YtimdlnamicgdnaaKdfExp
import Derived.Test.YtimdlnamicgdnaaSized
namespace Go.Proofs.Ytimdlnamicgdnaa
set_option linter.unusedVariables false
set_option linter.unusedSimpArgs false
open Go.RowKit
attribute [local go_sem ↓] Go.wp_at_zero Go.wp_at_succ

/-- What it is for. -/
def infoL (word : List UInt8) (ls : List (List UInt8)) : List UInt8 := sizedL word ++ (ls.map sizedL).flatten
theorem infoL_snoc (word : List UInt8) (ls : List (List UInt8)) (l : List UInt8) : infoL word (ls ++ [l]) = infoL word ls ++ sizedL l := by simp [infoL]
def deriveL (k word : List UInt8) (ls : List (List UInt8)) : List UInt8 := expandL k (infoL word ls) 32
theorem deriveL_length (k word : List UInt8) (ls : List (List UInt8)) : (deriveL k word ls).length = 32 := expandL_length _ _ _
/-- A variable that holds bytes. -/
structure VarB (G : Nat) (l : List UInt8) (W : World) : Prop where
  has : ∃ A c, W.heap[G]? = some (.cells #[.slice A l.length c] 22 (0, 0)) ∧ l.length ≤ c ∧ RdB W A l ∧ ∀ a, A = some a → a.block ≠ G ∧ a.block < W.heap.size
theorem VarB.keep {G : Nat} {l : List UInt8} {W W' : World} (h : VarB G l W) (hb : Below W.heap.size W W') : VarB G l W' := by
  obtain ⟨A, c, h1, h2, h3, h4⟩ := h.has
  exact ⟨A, c, below_block hb (row_lt h1) h1, h2, h3.keep hb, fun a e => ⟨(h4 a e).1, Nat.lt_of_lt_of_le (h4 a e).2 hb.size⟩⟩
set_option maxRecDepth 100000 in
set_option maxHeartbeats 2000000 in
theorem derc_any (w : World) (G : Nat) (info : List UInt8) (hG : VarB G info w) (A : Option Addr) (n c : Nat) (l : List UInt8) (hn : l.length = n) (hR : RdB w A l) (hb : info.length + n ≤ 140737488355000) :
    Calls Try.prog 27 #[.slice A n c, .pointer (some ⟨G, 0, none⟩)] w fun e w' => e = .returned (.tuple #[]) ∧ VarB G (info ++ sizedL l) w' ∧ w.grownBy w' (some G) := by
  obtain ⟨Ai, ci, h1, h2, h3, h4⟩ := hG.has
  obtain ⟨m, hm⟩ : ∃ m, m = info.length := ⟨_, rfl⟩
  rw [← hm] at h1 h2 hb
  have c0 := row_cell h1 0 rfl
  have GB := Lib.hid h1
  have C := Lib.hid h2
  have RI := Lib.hid h3
  have NI := Lib.hid h4
  have ME := Lib.hid hm.symm
  have HN := Lib.hid hn
  have HR := Lib.hid hR
  have HB := Lib.hid hb
  clear hG h1 h2 h3 h4 hm hn hR hb
  go_enter Try.func27, Try.ntmps27
  go_wp2_with fail
  refine (sized_any w Ai m ci info A n c l ME.out RI.out HN.out HR.out (by have := HB.out; omega)).mono ?_
  obtain ⟨r, hr0⟩ : ∃ r, r = info ++ sizedL l := ⟨_, rfl⟩
  rw [← hr0]
  rintro e w1 ⟨v, rfl, ho, hb⟩
  obtain ⟨A', c', rfl, hr, hl, _, hbk⟩ := ho.read
  obtain ⟨k, hk⟩ : ∃ k, k = r.length := ⟨_, rfl⟩
  rw [← hk] at hl ⊢
  have KE := Lib.hid hk
  have RE := Lib.hid hr0
  clear hk hr0
  have GB1 := Lib.hid (below_block hb (row_lt GB.out) GB.out)
  have f0 := row_free GB1.out 0
  have c1 := row_cell GB1.out 0 rfl
  have GL := row_lt GB.out
  clear ho c0
  go_wp2_with fail
  go_end0
  have hgr : w1.grownBy (w1.setCell ⟨G, 0, none⟩ (.slice A' k c')) (some G) := grown_set (World.grownBy.refl _ _) _ _
  rw [← RE.out]
  refine ⟨rfl, ⟨⟨A', c', ?_, by rw [← KE.out]; exact hl, hr.grown hgr (fun g e a ea => by cases e; have := (hbk a ea).1; omega), fun a ea => ⟨by have := (hbk a ea).1; omega, by have := (hbk a ea).2; have := hgr.size; omega⟩⟩⟩, World.grownBy.trans (grown_of_below hb |>.mono_none) hgr⟩
  rw [heap_setCell_same _ _ _ _ _ _ GB1.out, ← KE.out]
  rfl
set_option maxRecDepth 100000 in
set_option maxHeartbeats 2000000 in
theorem eachc_any (w0 w : World) (hw : Below w0.heap.size w0 w) (G : Nat) (hG : w0.heap.size ≤ G) (info : List UInt8) (hV : VarB G info w) (A : Option Addr) (n c : Nat) (vs : List Value) (ls : List (List UInt8)) (hn : vs.length = n) (hR : RdV w0 A vs) (hall : All2 (SlB w0) vs ls)
    (hb : info.length + (ls.map sizedL).flatten.length ≤ 140737488354000) (hnb : n ≤ 140737488355000) :
    Calls Try.prog 22 #[.slice A n c, .func (.func 27) #[] #[.pointer (some ⟨G, 0, none⟩)]] w fun e w' => e = .returned (.tuple #[]) ∧ VarB G (info ++ (ls.map sizedL).flatten) w' ∧ w.grownBy w' (some G) := by
  have HW := Lib.hid hw
  have HG := Lib.hid hG
  have HN := Lib.hid hn
  have HR := Lib.hid hR
  have HA := Lib.hid hall
  have HB := Lib.hid hb
  have V0 := Lib.hid hV
  have NL := Lib.hid (show ls.length = n by rw [← hall.length, hn])
  have b0 : (n : Int) ≤ 140737488355000 := by omega
  clear hw hG hn hR hall hb hnb hV
  go_enter Try.func22, Try.ntmps22
  go_wp2_with fail
  go_loopw [8] (fun i wr => ∃ j : Nat, j ≤ n ∧ i = .int .i64 (j : Int) ∧ VarB G (info ++ ((ls.take j).map sizedL).flatten) wr ∧ w.grownBy wr (some G)) (fun i _ => n - (intOf i).toNat)
  case atStart => exact ⟨0, Nat.zero_le _, rfl, by simpa using V0.out, World.grownBy.refl _ _⟩
  case round =>
    obtain ⟨j, hj, rfl, hg, hgr⟩ := hrel
    have J := Lib.hid hj
    have V1 := Lib.hid hg
    have GR := Lib.hid hgr
    have BL := Lib.hid (show Below w0.heap.size w0 wr from HW.out.trans (grown_below hgr HW.out.size (by rintro k ⟨⟩; exact HG.out)))
    clear hj hg hgr V0
    by_cases hlt : j < n
    · have hD : decide ((j : Int) < (n : Int)) = true := by simp; omega
      obtain ⟨l, hl⟩ : ∃ l, ls[j]? = some l := ⟨_, List.getElem?_eq_getElem (by rw [NL.out]; exact hlt)⟩
      obtain ⟨v, hv, A', c', rfl, hc', hR'⟩ := HA.out.get j l hl
      obtain ⟨b, o, rfl, hcell⟩ := (HR.out.keep BL.out) j _ hv
      have R1 := Lib.hid (hR'.keep BL.out)
      have FL := Lib.hid (show ((ls.take (j + 1)).map sizedL).flatten = ((ls.take j).map sizedL).flatten ++ sizedL l by rw [List.take_add_one, hl]; simp)
      have BB := Lib.hid (show info.length + ((ls.take j).map sizedL).flatten.length + l.length ≤ 140737488354000 by
        have h1 := congrArg List.length FL.out
        rw [List.length_append, sizedL_length] at h1
        have h2 : ((ls.take (j + 1)).map sizedL).flatten.length ≤ (ls.map sizedL).flatten.length := by
          rw [show (ls.map sizedL).flatten = ((ls.take (j + 1)).map sizedL).flatten ++ ((ls.drop (j + 1)).map sizedL).flatten by rw [← List.flatten_append, ← List.map_append, List.take_append_drop], List.length_append]
          omega
        have := HB.out
        omega)
      obtain ⟨m, hm⟩ : ∃ m, m = l.length := ⟨_, rfl⟩
      rw [← hm] at hcell
      have M := Lib.hid hm
      clear hl hv hc' hR' hm
      go_wp2_with fail
      refine (derc_any wr G _ V1.out A' m c' l M.out.symm R1.out (by rw [List.length_append, M.out]; have := BB.out; omega)).mono ?_
      rintro e w2 ⟨rfl, hv2, hgr2⟩
      have V2 := Lib.hid (show VarB G (info ++ ((ls.take (j + 1)).map sizedL).flatten) w2 by rw [FL.out, ← List.append_assoc]; exact hv2)
      have GR2 := Lib.hid (World.grownBy.trans GR.out hgr2)
      clear hv2 hgr2 hcell
      go_wp2_with fail
      go_roundw
      case rel => exact ⟨j + 1, by omega, by go_num, V2.out, GR2.out⟩
      case measure => simp [intOf]; omega
    · have hjn : Hid (j = n) := show j = n by have := J.out; omega
      have hD : decide ((j : Int) < (n : Int)) = false := by simp; omega
      go_wp2_with fail
      go_end0
      refine ⟨rfl, ?_, GR.out⟩
      have := V1.out
      rwa [hjn.out, ← NL.out, List.take_length] at this
end Go.Proofs.Ytimdlnamicgdnaa
