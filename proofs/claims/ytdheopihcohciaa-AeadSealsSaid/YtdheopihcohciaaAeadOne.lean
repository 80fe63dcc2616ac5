/- A text that is sealed and opened, which every statement of the layer asks; and short. No condition but those each theorem states. -/
import Derived.Test.YtdheopihcohciaaAeadO
import Derived.Test.YtdheopihcohciaaStreamLaws
import Derived.Lib.SlBytesConst
namespace Go.Proofs.Ytdheopihcohciaa
set_option linter.unusedVariables false
set_option linter.unusedSimpArgs false
open Go.RowKit
attribute [local go_sem ↓] Go.wp_at_zero Go.wp_at_succ

/-! ### plain -/
theorem openL_seal (k n b t : List UInt8) : openL k n b (sealL k n b t) = some t := by
  have hl : (sealL k n b t).length - 16 = (streamL k n 1 t).length := by rw [sealL_length, streamL_length]; omega
  have h1 : (sealL k n b t).take (streamL k n 1 t).length = streamL k n 1 t := by rw [sealL]; simp
  have h2 : (sealL k n b t).drop (streamL k n 1 t).length = tagL k n b (streamL k n 1 t) := by rw [sealL]; simp
  rw [openL, if_neg (by rw [sealL_length]; omega), hl, h1, h2, if_pos rfl, streamL_twice]
set_option maxRecDepth 100000 in
set_option maxHeartbeats 1000000 in
theorem short_any (w : World) (A : Option Addr) (n c : Nat) (l : List UInt8) (hn : l.length = n) (hc : n ≤ c) (k : Nat) (hk : k ≤ 100000) :
    Calls Try.prog 6 #[.slice A n c, .int .i64 (k : Int)] w fun e w' => e = .returned (.slice A (l.take k).length c) ∧ w' = w := by
  obtain ⟨i0, hi, hz0, hz1, hz2⟩ := info_parts (show (Try.prog.info? 5).map (fun i => (i.zero, i.size, i.bytes)) = some (some (.int .u8 0), 1, 1) by kernel_rfl)
  have I0 := Lib.hid hi
  have I2 := Lib.hid hz1
  have HN := Lib.hid hn
  clear hi hz0 hz1 hz2 hn
  go_enter Try.func6, Try.ntmps6
  by_cases h : k < n
  · have hD : decide ((k : Int) < (n : Int)) = true := by simp; omega
    have hcut := cut_to (P := Try.prog) 24 5 Try.underlying24 I0.out I2.out A n c k (by omega)
    have e : Hid ((l.take k).length = k) := show _ = _ by rw [List.length_take, HN.out]; omega
    go_wp2_with fail
    go_ret
    exact ⟨by rw [e.out]; rfl, rfl⟩
  · have hD : decide ((k : Int) < (n : Int)) = false := by simp; omega
    have e : Hid ((l.take k).length = n) := show _ = _ by rw [List.length_take, HN.out]; omega
    go_wp2_with fail
    go_ret
    exact ⟨by rw [e.out]; rfl, rfl⟩
theorem OpenP.yes {w : World} {t : List UInt8} {e : Ending} {w' : World} (h : OpenP w (some t) e w') : (∃ v, e = .returned (.tuple #[v, .bool true]) ∧ OwnB w' w.heap.size v t) ∧ Below w.heap.size w w' := h
theorem OpenP.no {w : World} {e : Ending} {w' : World} (h : OpenP w none e w') : e = .returned (.tuple #[.slice none 0 0, .bool false]) ∧ Below w.heap.size w w' := h
def oneK : List UInt8 := [1, 0, 0, 0, 0, 0, 0, 0, 0, 0, 0, 0, 0, 0, 0, 0, 0, 0, 0, 0, 0, 0, 0, 0, 0, 0, 0, 0, 0, 0, 0, 0]
def oneN : List UInt8 := [2, 0, 0, 0, 0, 0, 0, 0, 0, 0, 0, 0]
theorem one_no : openL oneK oneN [98] (sealL oneK oneN [97] [98, 99]) = none := by decide +kernel
theorem run_oneK {o : Oper} {a : Act} (ho : o.op = .build 23 #[(0, .const (.int .u8 1))]) (W : World) : (execOp a.eval o).run Try.prog W = .ok (.value (.agg (W8 oneK))) W := by
  have h2 : ∀ W : World, (Instr.build 23 #[(0, .int .u8 1)]).run Try.prog W = .ok (.agg (W8 oneK)) W := by
    intro W
    kernel_rfl
  unfold execOp
  simp only [ho, List.map_toArray, List.map_cons, List.map_nil, Act.eval, Sem.run_bind, h2, Result.andThen_ok, Sem.run_pure]
theorem run_oneN {o : Oper} {a : Act} (ho : o.op = .build 27 #[(0, .const (.int .u8 2))]) (W : World) : (execOp a.eval o).run Try.prog W = .ok (.value (.agg (W8 oneN))) W := by
  have h2 : ∀ W : World, (Instr.build 27 #[(0, .int .u8 2)]).run Try.prog W = .ok (.agg (W8 oneN)) W := by
    intro W
    kernel_rfl
  unfold execOp
  simp only [ho, List.map_toArray, List.map_cons, List.map_nil, Act.eval, Sem.run_bind, h2, Result.andThen_ok, Sem.run_pure]
theorem cv_at {w : World} {C : Array Value} (g n c : Nat) (hg : g = w.heap.size) :
    (convert 24 24 (.slice (some ⟨g, 0, none⟩) n c)).run Try.prog (w.alloc (.cells C 5)) = .ok (.slice (some ⟨g, 0, none⟩) n c) (w.alloc (.cells C 5 (C.size, C.size + 1))) := by
  subst hg
  exact Lib.run_convert_bytes_const w 24 5 C n c Try.underlying24 Try.underlying5
set_option maxRecDepth 100000 in
set_option maxHeartbeats 4000000 in
theorem aeadOne_true (w : World) : Calls Try.prog 13 #[] w fun e w' => e = .returned (.bool true) ∧ Below w.heap.size w w' := by
  obtain ⟨S, hS⟩ : ∃ S, S = sealL oneK oneN [97] [98, 99] := ⟨_, rfl⟩
  have SE := Lib.hid hS
  have SL := Lib.hid (show S.length = 18 by rw [hS, sealL_length]; rfl)
  have O1 := Lib.hid (show openL oneK oneN [97] S = some [98, 99] by rw [hS]; exact openL_seal _ _ _ _)
  have O2 := Lib.hid (show openL oneK oneN [98] S = none by rw [hS]; exact one_no)
  have h1 := cv_at (w := w) (C := #[.int .u8 97]) w.heap.size 1 1 rfl
  have h2 := cv_at (w := w.alloc (.cells #[.int .u8 97] 5 (1, 2))) (C := #[.int .u8 98, .int .u8 99]) (w.heap.size + 1) 2 2 (by simp)
  obtain ⟨KV, hKV⟩ : ∃ v, v = W8 oneK := ⟨_, rfl⟩
  obtain ⟨NV, hNV⟩ : ∃ v, v = W8 oneN := ⟨_, rfl⟩
  have RK := Lib.hid (fun (o : Oper) (a : Act) ho W => show (execOp a.eval o).run Try.prog W = .ok (.value (.agg KV)) W by rw [hKV]; exact run_oneK ho W)
  have RN := Lib.hid (fun (o : Oper) (a : Act) ho W => show (execOp a.eval o).run Try.prog W = .ok (.value (.agg NV)) W by rw [hNV]; exact run_oneN ho W)
  have KE := Lib.hid hKV
  have NE := Lib.hid hNV
  clear hS hKV hNV
  go_enter Try.func13, Try.ntmps13
  go_wp2_with (first
    | (refine wpList_val rfl (RK.out _ _ rfl _) ?_)
    | (refine wpList_val rfl (RN.out _ _ rfl _) ?_))
  clear h1 h2
  generalize hw1 : World.alloc w _ = w1
  generalize hw2 : World.alloc w1 _ = w2
  have hb1 : Below w.heap.size w w1 := by rw [← hw1]; exact below_new _ _
  have hb2 : Below w1.heap.size w1 w2 := by rw [← hw2]; exact below_new _ _
  have z1 : w1.heap.size = w.heap.size + 1 := by rw [← hw1, ha_size]
  have z2 : w2.heap.size = w.heap.size + 1 + 1 := by rw [← hw2, ha_size, z1]
  have R1 := Lib.hid ((RdB.row (g := w.heap.size) (l := [97]) (t := 5) (fr := (1, 2)) (by rw [← hw1]; exact ha_new w _ _ rfl)).keep hb2)
  have R2 := Lib.hid (RdB.row (g := w.heap.size + 1) (l := [98, 99]) (t := 5) (fr := (2, 3)) (show w2.heap[w.heap.size + 1]? = _ by rw [← hw2]; exact ha_new w1 _ _ z1.symm))
  have B := Lib.hid (hb1.trans (hb2.mono hb1.size))
  have Z2 := Lib.hid z2
  clear hw1 hw2 hb1 hb2 z1 z2
  rw [KE.out, NE.out]
  refine (seal_any oneK oneN rfl rfl w2 (some ⟨w.heap.size, 0, none⟩) 1 1 [97] rfl R1.out (some ⟨w.heap.size + 1, 0, none⟩) 2 2 [98, 99] rfl (Nat.le_refl _) R2.out (by rintro q ⟨⟩; rw [Z2.out]; show w.heap.size + 1 < _; omega) (by omega) (by omega)).mono ?_
  rw [← SE.out, ← KE.out, ← NE.out]
  rintro e w4 ⟨v, rfl, ho, hb⟩
  obtain ⟨As, cs, rfl, hrs, hls, _, hbs⟩ := ho.read
  rw [SL.out] at hls ⊢
  have RS := Lib.hid hrs
  have CS := Lib.hid hls
  have LS := Lib.hid (show ∀ q, As = some q → q.block < w4.heap.size from fun q e => (hbs q e).2)
  have B := Lib.hid (B.out.trans (hb.mono B.out.size))
  clear ho hb hrs hls hbs R1 R2
  have h3 := cv_at (w := w4) (C := #[.int .u8 97]) w4.heap.size 1 1 rfl
  go_wp2_with (first
    | (refine wpList_val rfl (RK.out _ _ rfl _) ?_)
    | (refine wpList_val rfl (RN.out _ _ rfl _) ?_))
  clear h3
  generalize hM : Array.size (World.heap w4) = M
  generalize hw : World.alloc w4 _ = w5
  have hb : Below w4.heap.size w4 w5 := by rw [← hw]; exact below_new _ _
  have R1 := Lib.hid (show RdB w5 (some ⟨M, 0, none⟩) [97] from RdB.row (g := M) (l := [97]) (t := 5) (fr := (1, 2)) (by rw [← hw]; exact ha_new w4 _ _ hM.symm))
  have RS := Lib.hid (RS.out.keep hb)
  have LS := Lib.hid (show ∀ q, As = some q → q.block < w5.heap.size from fun q e => Nat.lt_of_lt_of_le (LS.out q e) hb.size)
  have B := Lib.hid (B.out.trans (hb.mono B.out.size))
  clear hM hw hb
  rw [KE.out, NE.out]
  refine (open_any oneK oneN rfl rfl w5 (some ⟨M, 0, none⟩) 1 1 [97] rfl R1.out As 18 cs S SL.out CS.out RS.out LS.out (by omega) (by omega)).mono ?_
  rw [← KE.out, ← NE.out, O1.out]
  rintro e w4 hp
  obtain ⟨⟨v, rfl, ho⟩, hb⟩ := hp.yes
  obtain ⟨Ab, cb, rfl, hrb, _⟩ := ho.read
  have RB := Lib.hid hrb
  have RS := Lib.hid (RS.out.keep hb)
  have LS := Lib.hid (show ∀ q, As = some q → q.block < w4.heap.size from fun q e => Nat.lt_of_lt_of_le (LS.out q e) hb.size)
  have B := Lib.hid (B.out.trans (hb.mono B.out.size))
  clear hp ho hb hrb
  have h3 := cv_at (w := w4) (C := #[.int .u8 98]) w4.heap.size 1 1 rfl
  go_wp2_with (first
    | (refine wpList_val rfl (RK.out _ _ rfl _) ?_)
    | (refine wpList_val rfl (RN.out _ _ rfl _) ?_))
  clear h3
  generalize hM : Array.size (World.heap w4) = M
  generalize hw : World.alloc w4 _ = w5
  have hb : Below w4.heap.size w4 w5 := by rw [← hw]; exact below_new _ _
  have R1 := Lib.hid (show RdB w5 (some ⟨M, 0, none⟩) [98] from RdB.row (g := M) (l := [98]) (t := 5) (fr := (1, 2)) (by rw [← hw]; exact ha_new w4 _ _ hM.symm))
  have RS := Lib.hid (RS.out.keep hb)
  have RB := Lib.hid (RB.out.keep hb)
  have LS := Lib.hid (show ∀ q, As = some q → q.block < w5.heap.size from fun q e => Nat.lt_of_lt_of_le (LS.out q e) hb.size)
  have B := Lib.hid (B.out.trans (hb.mono B.out.size))
  clear hM hw hb
  rw [KE.out, NE.out]
  refine (open_any oneK oneN rfl rfl w5 (some ⟨M, 0, none⟩) 1 1 [98] rfl R1.out As 18 cs S SL.out CS.out RS.out LS.out (by omega) (by omega)).mono ?_
  rw [← KE.out, ← NE.out, O2.out]
  rintro e w4 hp
  obtain ⟨rfl, hb⟩ := hp.no
  have RB := Lib.hid (RB.out.keep hb)
  have B := Lib.hid (B.out.trans (hb.mono B.out.size))
  clear hp hb
  go_wp2_with (first
    | (refine wpList_valg rfl (run_str 24 9 (.tmp 38) rfl Try.underlying24 Try.underlying5 Try.underlying9 RB.out 2 cb rfl rfl) ?_)
    | (refine wpList_valg rfl (run_eqstr_true 9 9 (.tmp 39) (.const (.string { data := #[98, 99] })) rfl [98, 99] [98, 99] rfl rfl rfl _) ?_))
  go_ret
  exact ⟨rfl, B.out⟩
end Go.Proofs.Ytdheopihcohciaa
