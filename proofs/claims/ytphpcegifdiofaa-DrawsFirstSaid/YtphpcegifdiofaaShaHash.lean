/- Bytes are taken in. No condition but those each theorem states. -/
import Derived.Test.YtphpcegifdiofaaShaW
import Derived.Test.YtphpcegifdiofaaShaTake
import Derived.Test.YtphpcegifdiofaaOps
namespace Go.Proofs.Ytphpcegifdiofaa
set_option linter.unusedVariables false
set_option linter.unusedSimpArgs false
open Go.RowKit
attribute [local go_sem ↓] Go.wp_at_zero Go.wp_at_succ

/-- The block of a Hash. -/
def HBx (made : Bool) (h : HSt) : Array Value := HB made h.s h.rest h.n
theorem run_newhash {o : Oper} {a : Act} (ho : o.op = .build 70 #[(0, .const (.bool true)), (1, .tmp 1)]) (h : a.eval (.tmp 1) = .agg (W32 beginL)) (W : World) : (execOp a.eval o).run Try.prog W = .ok (.value (.agg (HBx true startH))) W := by
  have h2 : ∀ (g : Operand → Value) (W : World), g (.const (.bool true)) = .bool true → g (.tmp 1) = .agg (W32 beginL) → (execOp g { o with op := .build 70 #[(0, .const (.bool true)), (1, .tmp 1)] }).run Try.prog W = .ok (.value (.agg (HBx true startH))) W := by
    intro g W h1 h2
    unfold execOp
    simp only [h1, h2, List.map_toArray, List.map_cons, List.map_nil]
    kernel_rfl
  rw [show o = { o with op := .build 70 #[(0, .const (.bool true)), (1, .tmp 1)] } by rw [← ho]]
  exact h2 _ W rfl h
set_option maxRecDepth 100000 in
set_option maxHeartbeats 1000000 in
theorem shaNew_any (w : World) : Calls Try.prog 28 #[] w fun e w' => ∃ g, e = .returned (.pointer (some ⟨g, 0, none⟩)) ∧ w.heap.size ≤ g ∧ w'.heap[g]? = some (.cells (HBx true startH) 70 (0, 0)) ∧ Below w.heap.size w w' := by
  go_enter Try.func28, Try.ntmps28
  go_wp2_with fail
  refine (begin_any _).mono ?_
  rintro e w1 ⟨rfl, hb1⟩
  obtain ⟨bl, hbl⟩ : ∃ bl, bl = W32 beginL := ⟨_, rfl⟩
  rw [← hbl]
  have BL := Lib.hid hbl
  clear hbl
  go_wp2_with (refine wpList_val rfl (run_newhash rfl (by rw [← BL.out]; rfl) _) ?_)
  go_ret
  exact ⟨_, rfl, hb1.size, ha_new _ _ _ rfl, hb1.alloc hb1.size _⟩

theorem HB_words (made : Bool) (s : List UInt32) (rest : List UInt8) (n : Nat) (hs : s.length = 8) (v : List UInt32) (hv : v.length = 8) :
    ((HB made s rest n).toList.take 1 ++ ((W32 v).toList ++ (HB made s rest n).toList.drop (1 + (W32 v).size))).toArray = HB made v rest n := by
  have e0 : (HB made s rest n).toList = (Value.bool made :: s.map fun x => Value.int .u32 (x.toNat : Int)) ++ (B8 rest ++ [Value.int .u64 (n : Int)]) := by simp [HB, HBl, B8]
  have l0 : (Value.bool made :: s.map fun x => Value.int .u32 (x.toNat : Int)).length = 9 := by simp [hs]
  have e2 : (HB made s rest n).toList.drop (1 + (W32 v).size) = B8 rest ++ [Value.int .u64 (n : Int)] := by
    rw [e0, W32_size, hv, show 1 + 8 = (Value.bool made :: s.map fun x => Value.int .u32 (x.toNat : Int)).length by rw [l0], List.drop_left]
  rw [e2]
  simp [HB, HBl, B8, W32]
/-- What a Hash that may not have been made stands for. -/
def stOf (made : Bool) (h : HSt) : HSt := if made then h else ⟨beginL, h.rest, h.n⟩
theorem stOf_ok {h : HSt} (k : h.ok) (made : Bool) : (stOf made h).ok := by
  cases made
  · exact ⟨rfl, k.hr⟩
  · exact k
theorem min_nat (a b : Nat) : ∃ m : Nat, m = Nat.min a b ∧ m ≤ a ∧ m ≤ b ∧ (m = a ∨ m = b) := ⟨_, rfl, Nat.min_le_left _ _, Nat.min_le_right _ _, by show min a b = a ∨ min a b = b; omega⟩
theorem HB_copy (made : Bool) (s : List UInt32) (rest : List UInt8) (n : Nat) (hs : s.length = 8) (p : Nat) (l : List UInt8) (h : p + l.length ≤ rest.length) :
    ((HB made s rest n).toList.take (9 + p) ++ (B8 l ++ (HB made s rest n).toList.drop (9 + p + l.length))).toArray = HB made s (layL rest p l) n := by
  have e0 : (HB made s rest n).toList = (Value.bool made :: s.map fun x => Value.int .u32 (x.toNat : Int)) ++ (B8 rest ++ [Value.int .u64 (n : Int)]) := by simp [HB, HBl, B8]
  have l0 : (Value.bool made :: s.map fun x => Value.int .u32 (x.toNat : Int)).length = 9 := by simp [hs]
  have e1 : (HB made s rest n).toList.take (9 + p) = (Value.bool made :: s.map fun x => Value.int .u32 (x.toNat : Int)) ++ B8 (rest.take p) := by
    rw [e0, List.take_append, List.take_of_length_le (by omega), l0, List.take_append_of_le_length (by rw [B8_length]; omega)]
    simp [B8, List.map_take]
  have e2 : (HB made s rest n).toList.drop (9 + p + l.length) = B8 (rest.drop (p + l.length)) ++ [Value.int .u64 (n : Int)] := by
    rw [e0, List.drop_append, List.drop_of_length_le (by omega), l0, List.nil_append, List.drop_append_of_le_length (by rw [B8_length]; omega)]
    simp [B8, List.map_drop]
    omega
  rw [e1, e2, HB, HBl, layL]
  simp [B8]
set_option maxRecDepth 100000 in
set_option maxHeartbeats 2000000 in
theorem write_any (made : Bool) (g : Nat) (h0 : HSt) (k0 : h0.ok) (w : World) (A : Option Addr) (n c : Nat) (l : List UInt8) (hn : l.length = n) (hc : n ≤ c) (hR : RdB w A l) (hlt : l ≠ [] → ∀ a, A = some a → a.block ≠ g)
    (hb : h0.n + n ≤ 140737488355328) (hg : w.heap[g]? = some (.cells (HBx made h0) 70 (0, 0))) :
    Calls Try.prog 29 #[.pointer (some ⟨g, 0, none⟩), .slice A n c] w fun e w' => e = .returned (.tuple #[]) ∧ w'.heap[g]? = some (.cells (HBx true (putsB (stOf made h0) l)) 70 (0, 0)) ∧ w.grownBy w' (some g) := by
  have K0 := Lib.hid k0
  obtain ⟨h, hh⟩ : ∃ h, h = stOf made h0 := ⟨_, rfl⟩
  rw [← hh]
  have K := Lib.hid (show h.ok by rw [hh]; exact stOf_ok k0 made)
  have HH := Lib.hid hh
  have hb' : h.n + n ≤ 140737488355328 := by rw [hh]; cases made <;> exact hb
  clear hh k0 hb
  have HN := Lib.hid hn
  have HC := Lib.hid hc
  have HR := Lib.hid hR
  have HL := Lib.hid hlt
  have HBd := Lib.hid hb'
  have GA := Lib.hid hg
  have c0 := row_cell hg 0 (HB_made made h0.s h0.rest h0.n)
  have f0 := row_free hg 0
  clear hn hc hR hlt hb' hg
  go_enter Try.func29, Try.ntmps29
  go_upto_if 11 with fail
  go_cut [1] (fun b wx => b = .slice A n c ∧ wx.heap[g]? = some (.cells (HBx true h) 70 (0, 0)) ∧ w.grownBy wx (some g))
  case first =>
    rcases made with _ | _
    · go_wp2_with fail
      refine (begin_any _).mono ?_
      rintro e w1 ⟨rfl, hb1⟩
      obtain ⟨bl, hbl⟩ : ∃ bl, bl = W32 beginL := ⟨_, rfl⟩
      rw [← hbl]
      have BL := Lib.hid hbl
      have ZB := Lib.hid (show (Try.prog.info? 66).map (·.size) = some bl.size by rw [hbl]; kernel_rfl)
      have G1 := Lib.hid (below_block hb1 (row_lt GA.out) GA.out)
      have B1 := Lib.hid hb1
      clear hbl hb1 c0 f0
      have c0 := row_cell G1.out 0 (HB_made false h0.s h0.rest h0.n)
      have f0 := row_free G1.out 0
      have G2 := Lib.hid (show (w1.setCell ⟨g, 0, none⟩ (.bool true)).heap[g]? = some (.cells (HB true h0.s h0.rest h0.n) 70 (0, 0)) by rw [heap_setCell_same _ _ _ _ _ _ G1.out, HBx, HB_set_made])
      go_wp2_with (refine storeM_list rfl 66 (.tmp 18) (.tmp 14) rfl g 1 bl rfl rfl _ _ G2.out ZB.out ?c1 ?c2 ?_)
      case c1 => rw [HB_size _ _ _ _ K0.out.hs K0.out.hr, BL.out]; decide
      case c2 => rw [BL.out]; exact W32_one _
      intro w2 hg2 hgr2 hs2
      go_wp2_with fail
      go_meet
      refine ⟨rfl, ?_, ?_⟩
      · rw [hg2, HH.out, BL.out, HBx, stOf, HB_words _ _ _ _ K0.out.hs _ rfl]
        rfl
      · exact World.grownBy.trans (grown_of_below B1.out |>.mono_none) (World.grownBy.trans (grown_set (World.grownBy.refl _ _) _ _) hgr2)
    · have e1 : h = h0 := HH.out
      go_wp2_with fail
      go_meet
      exact ⟨rfl, by rw [HH.out]; exact GA.out, World.grownBy.refl _ _⟩
  case rest =>
  obtain ⟨rfl, hg, hgr0⟩ := hcut
  have G0 := Lib.hid hg
  have GR0 := Lib.hid hgr0
  clear c0 f0 GA hg hgr0 HH K0
  go_wp2_with fail
  go_loopw [1] (fun b wr => ∃ (p r : Nat) (A' : Option Addr) (c' : Nat), p + r = n ∧ r ≤ c' ∧ b = .slice A' r c' ∧ RdB w A' (l.drop p) ∧ (l ≠ [] → ∀ a, A' = some a → a.block ≠ g) ∧
      wr.heap[g]? = some (.cells (HBx true (putsB h (l.take p))) 70 (0, 0)) ∧ w.grownBy wr (some g)) (fun b _ => lenOf b)
  case atStart => exact ⟨0, n, A, c, by omega, HC.out, rfl, HR.out, HL.out, G0.out, GR0.out⟩
  case round =>
    obtain ⟨p, r, A1, c1, hpr, hrc, rfl, hR1, hlt1, hg1, hgr1⟩ := hrel
    have HPR := Lib.hid hpr
    have HRC := Lib.hid hrc
    have R1 := Lib.hid hR1
    have L1 := Lib.hid hlt1
    have G1 := Lib.hid hg1
    have GR1 := Lib.hid hgr1
    clear hpr hrc hR1 hlt1 hg1 hgr1 HC HR HL G0 GR0
    by_cases h0 : 0 < r
    · have hD : decide ((0 : Int) < (r : Int)) = true := by simp; omega
      obtain ⟨q, hq⟩ : ∃ q, q = putsB h (l.take p) := ⟨_, rfl⟩
      rw [← hq] at G1
      have KQ := Lib.hid (show q.ok by rw [hq]; exact putsB_ok K.out _)
      have NQ := Lib.hid (show q.n = h.n + p by have := HN.out; have := HPR.out; rw [hq, putsB_n, List.length_take]; omega)
      have QQ := Lib.hid hq
      clear hq
      have cn := row_cell G1.out 73 (HB_n true q.s q.rest q.n KQ.out.hs KQ.out.hr)
      have CN := Lib.hid cn
      clear cn
      go_upto_region 4 with fail
      obtain ⟨i0, hi, hz0, hz1, hz2⟩ := info_parts (show (Try.prog.info? 5).map (fun i => (i.zero, i.size, i.bytes)) = some (some (.int .u8 0), 1, 1) by kernel_rfl)
      have I0 := Lib.hid hi
      have I2 := Lib.hid hz1
      clear hi hz0 hz1 hz2
      refine wp_region_plan (fun W => W.cell? ⟨g, 73, none⟩ = some (.int .u64 (q.n : Int))) [0, 1, 2, 3, 4, 5, 6, 7, 8, 9] [10, 11] (by kernel_rfl) (by kernel_rfl) (fun _ _ d _ _ h => by cases d <;> exact h) (CN.out) ?_
      simp only [List.filterMap_cons, List.filterMap_nil, List.getElem?_toArray, List.getElem?_cons_zero, List.getElem?_cons_succ]
      refine planQ_cons (v := ?_) (by rfl) ?_ ?_
      rotate_left
      · intro W hW
        go_simp
        with_reducible rfl
      simp only [Act.put, List.setIfInBounds_toArray, List.set_cons_zero, List.set_cons_succ]
      refine planQ_cons (v := ?_) (by rfl) ?_ ?_
      rotate_left
      · intro W hW
        go_simp
        with_reducible rfl
      simp only [Act.put, List.setIfInBounds_toArray, List.set_cons_zero, List.set_cons_succ]
      refine planQ_cons (v := ?_) (by rfl) ?_ ?_
      rotate_left
      · intro W hW
        go_simp
        with_reducible rfl
      simp only [Act.put, List.setIfInBounds_toArray, List.set_cons_zero, List.set_cons_succ]
      refine planQ_cons (v := ?_) (by rfl) ?_ ?_
      rotate_left
      · intro W hW
        go_simp
        with_reducible rfl
      simp only [Act.put, List.setIfInBounds_toArray, List.set_cons_zero, List.set_cons_succ]
      refine planQ_cons (v := ?_) (by rfl) ?_ ?_
      rotate_left
      · intro W hW
        go_simp
        with_reducible rfl
      simp only [Act.put, List.setIfInBounds_toArray, List.set_cons_zero, List.set_cons_succ]
      refine planQ_cons (v := ?_) (by rfl) ?_ ?_
      rotate_left
      · intro W hW
        go_simp
        with_reducible rfl
      simp only [Act.put, List.setIfInBounds_toArray, List.set_cons_zero, List.set_cons_succ]
      refine planQ_cons (by rfl) (fun W hW => run_cell 46 (.tmp 27) rfl _ Try.underlying46 rfl rfl hW) ?_
      simp only [Act.put, List.setIfInBounds_toArray, List.set_cons_zero, List.set_cons_succ]
      refine planQ_cons (v := ?_) (by rfl) ?_ ?_
      rotate_left
      · intro W hW
        go_simp
        with_reducible rfl
      simp only [Act.put, List.setIfInBounds_toArray, List.set_cons_zero, List.set_cons_succ]
      obtain ⟨pos, hpos⟩ : ∃ pos, pos = q.n % 64 := ⟨_, rfl⟩
      have PO := Lib.hid (show (q.n : Int).tmod 64 = (pos : Int) by rw [Int.tmod_eq_emod_of_nonneg (by omega)]; omega)
      have P64 := Lib.hid (show pos < 64 by omega)
      have PP := Lib.hid hpos
      clear hpos
      refine planQ_cons (by rfl) (fun W hW => run_ptr_fromz 68 (.tmp 24) (.tmp 29) rfl 64 5 Try.underlying68 I0.out I2.out .u64 g 9 pos P64.out _ PO.out rfl rfl W) ?_
      simp only [Act.put, List.setIfInBounds_toArray, List.set_cons_zero, List.set_cons_succ]
      refine planQ_cons (v := ?_) (by rfl) ?_ ?_
      rotate_left
      · intro W hW
        go_simp
        with_reducible rfl
      simp only [Act.put, List.setIfInBounds_toArray, List.set_cons_zero, List.set_cons_succ]
      refine planQ_nil ?_
      refine planT_cons (by rfl) (fun K hK => ?_)
      obtain ⟨m, hm0, hmr, hm64, hmc⟩ := min_nat r (64 - pos)
      have HM := Lib.hid hm0
      clear hm0
      have TB := Lib.hid (show ByteT Try.prog from ⟨Try.underlying22, by kernel_rfl⟩)
      have LN := Lib.hid (show l ≠ [] by intro e; have h1 := HN.out; have h2 := HPR.out; rw [e] at h1; simp at h1; omega)
      have R2 := Lib.hid (R1.out.grow GR1.out (fun _ a ea => L1.out LN.out a ea))
      refine copyB_wp TB.out (.tmp 30) (.tmp 31) rfl g (9 + pos) (64 - pos) (64 - pos) A1 r c1 rfl rfl _ _ G1.out (l.drop p) (by have := HN.out; have := HPR.out; simp; omega) R2.out h0 m HM.out (by rw [HBx, HB_size _ _ _ _ KQ.out.hs KQ.out.hr]; have := P64.out; omega) ?_
      intro w2 hg2 hgr2 hs2
      have LC := Lib.hid (show ((l.drop p).take m).length = m by have := HN.out; have := HPR.out; simp; omega)
      rw [show 9 + pos + m = 9 + pos + ((l.drop p).take m).length by rw [LC.out], HBx, HB_copy true q.s q.rest q.n KQ.out.hs pos _ (by rw [LC.out, KQ.out.hr]; have := P64.out; omega)] at hg2
      refine hK.out _ _ (row_cell hg2 73 (HB_n true q.s _ q.n KQ.out.hs (by rw [layL_length _ _ _ (by rw [LC.out, KQ.out.hr]; have := P64.out; omega)]; exact KQ.out.hr))) ?_
      clear hK K
      refine planT_val (v := ?_) (by rfl) (row_cell hg2 73 (HB_n true q.s _ q.n KQ.out.hs (by rw [layL_length _ _ _ (by rw [LC.out, KQ.out.hr]; have := P64.out; omega)]; exact KQ.out.hr))) ?_ ?_
      rotate_left
      · go_simp
        with_reducible rfl
      simp only [Act.put, List.setIfInBounds_toArray, List.set_cons_zero, List.set_cons_succ]
      refine planT_nil ?_
      obtain ⟨rs, hrs⟩ : ∃ rs, rs = layL q.rest pos ((l.drop p).take m) := ⟨_, rfl⟩
      have RL := Lib.hid (show rs.length = 64 by rw [hrs, layL_length _ _ _ (by rw [LC.out, KQ.out.hr]; have := P64.out; omega)]; exact KQ.out.hr)
      rw [← hrs] at hg2
      have RS := Lib.hid hrs
      have G2 := Lib.hid hg2
      have GR2 := Lib.hid (World.grownBy.trans (grown_drew GR1.out) hgr2)
      have MC := Lib.hid hmc
      have MR := Lib.hid hmr
      have M64 := Lib.hid hm64
      clear hrs hg2 hgr2 hs2 R2 CN HM GR1 G1 hmc hm64
      obtain ⟨A2, hcut, hcutR, hcutB⟩ := cut_from (P := Try.prog) 22 5 Try.underlying22 I0.out I2.out A1 r c1 m hmr
      have HCR := Lib.hid hcutR
      have HCB := Lib.hid hcutB
      clear hcutR hcutB
      have c73 := row_cell G2.out 73 (HB_n true q.s rs q.n KQ.out.hs RL.out)
      have f73 := row_free G2.out 73
      have b1 : (m : Int) ≤ 64 := by have := M64.out; omega
      have b2 : (q.n : Int) + (m : Int) ≤ 140737488355328 := by have := NQ.out; have := HPR.out; have := HBd.out; omega
      go_upto_region 7 with fail
      clear c73 f73
      rw [show (q.n : Int) + (m : Int) = ((q.n + m : Nat) : Int) by omega]
      obtain ⟨w3, hw3⟩ : ∃ w3, w3 = w2.setCell ⟨g, 73, none⟩ (.int .u64 ((q.n + m : Nat) : Int)) := ⟨_, rfl⟩
      have G3 := Lib.hid (show w3.heap[g]? = some (.cells (HB true q.s rs (q.n + m)) 70 (0, 0)) by rw [hw3, heap_setCell_same _ _ _ _ _ _ G2.out, HB_set_n true q.s rs q.n _ KQ.out.hs RL.out])
      have GR3 := Lib.hid (show w.grownBy w3 (some g) by rw [hw3]; exact grown_set GR2.out _ _)
      rw [← hw3]
      have ST := Lib.hid (show putsB h (l.take (p + m)) = stepW q ((l.drop p).take m) by
        have hm0 : 0 < m := by have := MC.out; have := P64.out; omega
        rw [List.take_add, putsB_append, ← QQ.out, putsB_some q KQ.out _ (by intro e; have := LC.out; rw [e] at this; simp at this; omega) (by rw [LC.out, ← PP.out]; have := P64.out; have := M64.out; omega)])
      clear hw3 G2 GR2
      have c73 := row_cell G3.out 73 (HB_n true q.s rs (q.n + m) KQ.out.hs RL.out)
      by_cases h64 : (q.n + m) % 64 = 0
      · have hE : (((q.n + m : Nat) : Int) % 64 == 0) = true := by simp; omega
        go_upto_region 8 with fail
        clear c73
        refine wp_region_plan (fun _ => True) [0, 1, 2, 3, 4, 5] [6] (by kernel_rfl) (by kernel_rfl) (fun _ _ d _ _ h => by cases d <;> exact h) (trivial) ?_
        simp only [List.filterMap_cons, List.filterMap_nil, List.getElem?_toArray, List.getElem?_cons_zero, List.getElem?_cons_succ]
        refine planQ_cons (v := ?_) (by rfl) ?_ ?_
        rotate_left
        · intro W hW
          go_simp
          with_reducible rfl
        simp only [Act.put, List.setIfInBounds_toArray, List.set_cons_zero, List.set_cons_succ]
        refine planQ_cons (v := ?_) (by rfl) ?_ ?_
        rotate_left
        · intro W hW
          go_simp
          with_reducible rfl
        simp only [Act.put, List.setIfInBounds_toArray, List.set_cons_zero, List.set_cons_succ]
        refine planQ_cons (v := ?_) (by rfl) ?_ ?_
        rotate_left
        · intro W hW
          go_simp
          with_reducible rfl
        simp only [Act.put, List.setIfInBounds_toArray, List.set_cons_zero, List.set_cons_succ]
        refine planQ_cons (v := ?_) (by rfl) ?_ ?_
        rotate_left
        · intro W hW
          go_simp
          with_reducible rfl
        simp only [Act.put, List.setIfInBounds_toArray, List.set_cons_zero, List.set_cons_succ]
        refine planQ_cons (v := ?_) (by rfl) ?_ ?_
        rotate_left
        · intro W hW
          go_simp
          with_reducible rfl
        simp only [Act.put, List.setIfInBounds_toArray, List.set_cons_zero, List.set_cons_succ]
        refine planQ_cons (v := ?_) (by rfl) ?_ ?_
        rotate_left
        · intro W hW
          go_simp
          with_reducible rfl
        simp only [Act.put, List.setIfInBounds_toArray, List.set_cons_zero, List.set_cons_succ]
        refine planQ_nil ?_
        refine planT_cons (by rfl) (fun K hK => ?_)
        go_simp
        refine (take_any g true q.s rs (q.n + m) KQ.out.hs RL.out w3.drew G3.out).mono ?_
        rintro e w4 ⟨rfl, hg4, hgr4⟩
        have G4 := Lib.hid hg4
        have GR4 := Lib.hid (World.grownBy.trans (grown_drew GR3.out) hgr4)
        clear hg4 hgr4
        refine hK.out _ _ (trivial) ?_
        clear hK K
        refine planT_nil ?_
        go_wp2_with fail
        go_roundw
        case rel =>
          refine ⟨p + m, r - m, A2, c1 - m, by have := HPR.out; omega, by have := HRC.out; omega, rfl, ?_, fun _ a ha => ?_, ?_, GR4.out⟩
          · have := HCR.out w (l.drop p) (by have := HN.out; have := HPR.out; simp; omega) HRC.out R1.out
            rwa [List.drop_drop] at this
          · obtain ⟨a0, ha0, hb⟩ := HCB.out a ha
            rw [hb]
            exact L1.out LN.out a0 ha0
          · rw [ST.out, stepW, LC.out, if_pos h64, ← PP.out, ← RS.out]
            exact G4.out
        case measure => have := MC.out; have := P64.out; simp [lenOf]; omega
      · have hE : (((q.n + m : Nat) : Int) % 64 == 0) = false := by simp; omega
        go_wp2_with fail
        go_roundw
        case rel =>
          refine ⟨p + m, r - m, A2, c1 - m, by have := HPR.out; omega, by have := HRC.out; omega, rfl, ?_, fun _ a ha => ?_, ?_, GR3.out⟩
          · have := HCR.out w (l.drop p) (by have := HN.out; have := HPR.out; simp; omega) HRC.out R1.out
            rwa [List.drop_drop] at this
          · obtain ⟨a0, ha0, hb⟩ := HCB.out a ha
            rw [hb]
            exact L1.out LN.out a0 ha0
          · rw [ST.out, stepW, LC.out, if_neg h64, ← PP.out, ← RS.out]
            exact G3.out
        case measure => have := MC.out; have := P64.out; simp [lenOf]; omega
    · have hr0 : Hid (r = 0) := show r = 0 by omega
      have hD : decide ((0 : Int) < (r : Int)) = false := by simp; omega
      go_wp2_with fail
      go_end0
      refine ⟨rfl, ?_, GR1.out⟩
      have hp : p = l.length := by have := HPR.out; have := hr0.out; have := HN.out; omega
      have := G1.out
      rw [hp, List.take_length] at this
      exact this
end Go.Proofs.Ytphpcegifdiofaa
