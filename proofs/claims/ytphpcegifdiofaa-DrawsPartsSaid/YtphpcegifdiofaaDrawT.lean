/- draws.Source: Take. No condition but those each theorem states. -/
import Derived.Test.YtphpcegifdiofaaDrawX
namespace Go.Proofs.Ytphpcegifdiofaa
set_option linter.unusedVariables false
set_option linter.unusedSimpArgs false
open Go.RowKit
attribute [local go_sem ↓] Go.wp_at_zero Go.wp_at_succ

/-- So many bytes of the source, from one on. -/
def tellS (F : List UInt8) (u : Nat) (k : Nat) : List UInt8 := (List.range k).map fun i => byteS F (u + i)
theorem tellS_length (F : List UInt8) (u k : Nat) : (tellS F u k).length = k := by simp [tellS]
theorem tellS_succ (F : List UInt8) (u k : Nat) : tellS F u (k + 1) = tellS F u k ++ [byteS F (u + k)] := by simp [tellS, List.range_succ]
theorem grown_more {w w3 w4 : World} {g : Nat} {r : Option Nat} (h : w.grownBy w3 (some g)) (h' : w3.grownBy w4 r) (hr : ∀ k, r = some k → w.heap.size ≤ k) : w.grownBy w4 (some g) :=
  ⟨h'.os.trans h.os, h'.tape.trans h.tape, h'.output.trans h.output, Nat.le_trans h.size h'.size, fun k hk hne => (h'.block k (Nat.lt_of_lt_of_le hk h.size) (fun e => by have := hr k e.symm; omega)).trans (h.block k hk hne)⟩
def takeN (m : Int) : Nat := (min (max m 0) 65536).toNat
set_option maxRecDepth 100000 in
set_option maxHeartbeats 4000000 in
theorem tell_any (g D : Nat) (F : List UInt8) (u : Nat) (b : Bool) (w : World) (h : Src g D F u b w) (hD : D < w.heap.size) (hb : F.length ≤ 100000) (m : Int) (hu : u + takeN m ≤ 900000) :
    Calls Try.prog 7 #[.pointer (some ⟨g, 0, none⟩), .int .i64 m] w fun e w' => ∃ v, e = .returned v ∧ OwnB w' w.heap.size v (tellS F u (takeN m)) ∧ Src g D F (u + takeN m) true w' ∧ w.grownBy w' (some g) := by
  have TB := Lib.hid (show ByteT Try.prog from ⟨Try.underlying22, by kernel_rfl⟩)
  obtain ⟨N, hN⟩ : ∃ N, N = takeN m := ⟨_, rfl⟩
  rw [← hN] at hu ⊢
  have N6 := Lib.hid (show N ≤ 65536 by rw [hN]; unfold takeN; omega)
  obtain ⟨p, hp⟩ : ∃ p : Int, p = max m 0 := ⟨_, rfl⟩
  have e1 : (if m < (0 : Int) then (0 : Int) else m) = p := by rw [hp]; split <;> omega
  have e2 : (if (65536 : Int) < p then (65536 : Int) else p) = (N : Int) := by rw [hN, hp]; unfold takeN; split <;> omega
  clear hp
  have H := Lib.hid h
  have GL := Lib.hid (And.intro h.lt hD)
  have HB := Lib.hid hb
  have HU := Lib.hid hu
  have nb : (N : Int) ≤ 65536 := by have := N6.out; omega
  clear h hD hb hu hN
  go_enter Try.func7, Try.ntmps7
  go_wp2_with fail
  refine (sbegin_any g D F u b w H.out HB.out).mono ?_
  rintro e w1 ⟨rfl, hs, hg⟩
  have H := Lib.hid hs
  have G := Lib.hid hg
  clear hs hg
  go_wp2_with fail
  clear e1 e2
  go_loopw [5, 13] (fun v i wr => ∃ j : Nat, j ≤ N ∧ i = .int .i64 (j : Int) ∧ OwnB wr w.heap.size v (tellS F u j) ∧ Src g D F (u + j) true wr ∧ w.grownBy wr (some g)) (fun _ i _ => N - (intOf i).toNat)
  case atStart => exact ⟨0, by omega, rfl, OwnB.nil _ _, H.out, G.out⟩
  case round =>
    obtain ⟨j, hj, rfl, ho, hs, hg⟩ := hrel
    have J := Lib.hid hj
    have O := Lib.hid ho
    have H := Lib.hid hs
    have G := Lib.hid hg
    clear ho hs hg
    by_cases hlt : j < N
    · have hDj : decide ((j : Int) < (N : Int)) = true := by simp; omega
      go_wp2_with fail
      refine (next_any g D F (u + j) wr H.out HB.out (by have := HU.out; omega)).mono ?_
      obtain ⟨y, hy⟩ : ∃ y, y = byteS F (u + j) := ⟨_, rfl⟩
      rw [← hy]
      have TE := Lib.hid (show tellS F u (j + 1) = tellS F u j ++ [y] by rw [tellS_succ, hy])
      clear hy
      rintro e w2 ⟨rfl, hs, hg⟩
      have OL := Lib.hid (fun k (e : u5.ownBlock = some k) => O.out.lt k e)
      have O := Lib.hid (O.out.grown hg (by
        rcases hq : u5.ownBlock with _ | k
        · exact .inl rfl
        · exact .inr (fun e => by injection e with e; have := (OL.out k hq).1; have := GL.out.1; omega)))
      have G := Lib.hid (World.grownBy.trans G.out hg)
      have H := Lib.hid hs
      clear hs hg
      have LJ := Lib.hid (show (tellS F u j).length = j from tellS_length _ _ _)
      go_wp2_with (refine app_list rfl TB.out (.tmp 15) (.tmp 18) rfl w.heap.size u5 (tellS F u j) [y] (some ⟨w2.heap.size, 0, none⟩) 1 1 rfl rfl rfl (O.out.alloc _) (RdB.one (y := y) (row_cell (fr := (0, 0)) (ha_new _ _ _ rfl) 0 rfl)) ?s1 ?s2 ?_)
      case s1 => have := G.out.size; simp; omega
      case s2 => have := LJ.out; have := N6.out; omega
      intro v1 w3 ho hg _
      have OL := Lib.hid (fun k (e : u5.ownBlock = some k) => O.out.lt k e)
      have H := Lib.hid ((H.out.keep (below_new w2 _)).far hg (fun k e => by have := (OL.out k e).1; have := GL.out; omega))
      have G := Lib.hid (grown_more (World.grownBy.trans G.out (grown_of_below (below_new w2 _)).mono_none) hg (fun k e => (OL.out k e).1))
      have O := Lib.hid (show OwnB w3 w.heap.size v1 (tellS F u (j + 1)) by rw [TE.out]; exact ho)
      clear ho hg
      go_wp2_with fail
      go_roundw
      case rel => exact ⟨j + 1, by omega, by go_num, O.out, H.out, G.out⟩
      case measure => simp [intOf]; omega
    · have hDj : decide ((j : Int) < (N : Int)) = false := by simp; omega
      obtain rfl : j = N := by have := J.out; omega
      go_wp2_with fail
      go_ret
      exact ⟨_, rfl, O.out, H.out, G.out⟩
end Go.Proofs.Ytphpcegifdiofaa
