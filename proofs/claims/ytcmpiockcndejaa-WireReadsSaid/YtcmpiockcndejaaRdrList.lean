/- wire.Reader: texts are read, at most so many. No condition but those each theorem states. -/
import Derived.Test.YtcmpiockcndejaaRdrSz
import Derived.Test.YtcmpiockcndejaaLast
namespace Go.Proofs.Ytcmpiockcndejaa
set_option linter.unusedVariables false
set_option linter.unusedSimpArgs false
open Go.RowKit
attribute [local go_sem ↓] Go.wp_at_zero Go.wp_at_succ

/-- So many texts, as long as nothing is wrong. -/
def oftenS : Nat → RSt → List (List UInt8) → RSt × List (List UInt8)
  | 0, s, acc => (s, acc)
  | k + 1, s, acc => if s.e = 0 then oftenS k (sizedS s).1 (acc ++ [(sizedS s).2]) else (s, acc)
theorem oftenS_bad (k : Nat) (s : RSt) (acc : List (List UInt8)) (h : s.e ≠ 0) : oftenS k s acc = (s, acc) := by
  cases k with
  | zero => rfl
  | succ k => rw [oftenS, if_neg h]
/-- What is done before the texts are read. -/
def headS (s : RSt) (most : Int) : RSt × Nat := if (numS s 2).1.e = 0 ∧ most < ((numS s 2).2 : Int) then (⟨[], 3⟩, (numS s 2).2) else numS s 2
def listS (s : RSt) (most : Int) : RSt × List (List UInt8) :=
  if (oftenS (headS s most).2 (headS s most).1 []).1.e = 0 then oftenS (headS s most).2 (headS s most).1 [] else ((oftenS (headS s most).2 (headS s most).1 []).1, [])
/-- A text of the call's own, in a block that is none of the row's. -/
def InB (w : World) (base : Nat) (k : Option Nat) (v : Value) (l : List UInt8) : Prop := ∃ A c, v = .slice A l.length c ∧ l.length ≤ c ∧ RdB w A l ∧ ∀ a, A = some a → base ≤ a.block ∧ a.block < w.heap.size ∧ some a.block ≠ k
theorem InB.sl {w : World} {base : Nat} {k : Option Nat} {v : Value} {l : List UInt8} (h : InB w base k v l) : SlB w v l := by
  obtain ⟨A, c, h1, h2, h3, _⟩ := h
  exact ⟨A, c, h1, h2, h3⟩
theorem InB.grown {w w' : World} {base : Nat} {k k' r : Option Nat} {v : Value} {l : List UInt8} (h : InB w base k v l) (hg : w.grownBy w' r) (hr : r = k ∨ (∀ g, r = some g → g < base)) (hk : k' = k ∨ k' = some w.heap.size) : InB w' base k' v l := by
  obtain ⟨A, c, h1, h2, h3, h4⟩ := h
  refine ⟨A, c, h1, h2, h3.grown hg (fun g e a ea => ?_), fun a ea => ⟨(h4 a ea).1, Nat.lt_of_lt_of_le (h4 a ea).2.1 hg.size, ?_⟩⟩
  · rcases hr with hr | hr
    · intro eb
      exact (h4 a ea).2.2 (by rw [eb, ← e, hr])
    · have := hr g e
      have := (h4 a ea).1
      omega
  · rcases hk with e | e
    · rw [e]; exact (h4 a ea).2.2
    · rw [e]; intro eb; injection eb with eb; have := (h4 a ea).2.1; omega
theorem InB.of {w : World} {base b1 : Nat} {k : Option Nat} {v : Value} {l : List UInt8} (h : OwnB w b1 v l) (hb : base ≤ b1) (hk : ∀ g, k = some g → g < b1) : InB w base k v l := by
  obtain ⟨A, c, h1, h2, h3, _, h5⟩ := h.read
  exact ⟨A, c, h1, h3, h2, fun a ea => ⟨Nat.le_trans hb (h5 a ea).1, (h5 a ea).2, fun e => by have := hk _ e.symm; have := (h5 a ea).1; omega⟩⟩
/-- What stands while texts are read. -/
structure LsW (base g D C Bx : Nat) (s : RSt) (ls : List (List UInt8)) (W : World) : Prop where
  rd : Rdr g D s W
  var : ∃ v vs, W.heap[C]? = some (.cells #[v] 34 (0, 0)) ∧ OwnV W base 23 v vs ∧ All2 (InB W base v.ownBlock) vs ls
  bx : W.heap[Bx]? = some (.cells #[.pointer (some ⟨g, 0, none⟩)] 25 (0, 0))
  hC : C < base
  hB : Bx < base
  hg : g < base
  hD : D < base
  n1 : C ≠ g
  n2 : Bx ≠ g
  n3 : C ≠ Bx
  nD : D ≠ C
/-- .. and what has grown. -/
def LsG (base g C : Nat) (W W' : World) : Prop := W.os = W'.os ∧ W.tape = W'.tape ∧ W.output = W'.output ∧ W.heap.size ≤ W'.heap.size ∧ ∀ k, k < base → k ≠ g → k ≠ C → W'.heap[k]? = W.heap[k]?
theorem LsG.refl (base g C : Nat) (W : World) : LsG base g C W W := ⟨rfl, rfl, rfl, Nat.le_refl _, fun _ _ _ _ => rfl⟩
theorem LsG.trans {base g C : Nat} {W W' W'' : World} (h : LsG base g C W W') (h' : LsG base g C W' W'') : LsG base g C W W'' :=
  ⟨h.1.trans h'.1, h.2.1.trans h'.2.1, h.2.2.1.trans h'.2.2.1, Nat.le_trans h.2.2.2.1 h'.2.2.2.1, fun k h1 h2 h3 => (h'.2.2.2.2 k h1 h2 h3).trans (h.2.2.2.2 k h1 h2 h3)⟩
theorem LsG.of {base g C : Nat} {W W' : World} {r : Option Nat} (h : W.grownBy W' r) (hb : base ≤ W.heap.size) (hr : ∀ k, r = some k → base ≤ k ∨ k = g ∨ k = C) : LsG base g C W W' :=
  ⟨h.os.symm, h.tape.symm, h.output.symm, h.size, fun k h1 h2 h3 => h.block k (by omega) (fun e => by have := hr k e.symm; omega)⟩
theorem rowT : SlT Try.prog 34 23 (.slice none 0 0) 24 := ⟨Try.underlying34, by kernel_rfl, rfl⟩
theorem InB_one {w : World} {base : Nat} {k : Option Nat} {vs : List Value} {ls : List (List UInt8)} (h : All2 (InB w base k) vs ls) : ∀ u ∈ vs, u.oneCell' = true := slices_one (h.mono fun _ _ h => h.sl)
set_option maxRecDepth 100000 in
set_option maxHeartbeats 4000000 in
theorem lsc_any (base g D C Bx : Nat) (s : RSt) (ls : List (List UInt8)) (w : World) (h : LsW base g D C Bx s ls w) (hb : base ≤ w.heap.size) (hl : ls.length ≤ 1000000) :
    Calls Try.prog 37 #[.pointer (some ⟨C, 0, none⟩), .pointer (some ⟨Bx, 0, none⟩)] w fun e w' => e = .returned (.tuple #[]) ∧ LsW base g D C Bx (sizedS s).1 (ls ++ [(sizedS s).2]) w' ∧ LsG base g C w w' := by
  have H := Lib.hid h
  have HB := Lib.hid hb
  have HL := Lib.hid hl
  obtain ⟨v, vs, h1, h2, h3⟩ := h.var
  have CV := Lib.hid h1
  have OV := Lib.hid h2
  have AV := Lib.hid h3
  have VL := Lib.hid (show vs.length ≤ 1000000 by rw [h3.length]; exact hl)
  clear h hb hl h1 h2 h3
  go_enter Try.func37, Try.ntmps37
  go_upto_region 0 with fail
  change Code.wp _ _ _ { tmps := #[.pointer (some ⟨C, 0, none⟩), .pointer (some ⟨Bx, 0, none⟩), undef, undef, undef, undef, undef], defers := [] } _
  have CL := Lib.hid (row_lt CV.out)
  have S := Lib.hid (show w.drew.heap[C]? = some (.cells #[v] 34 (0, 0)) ∧ w.drew.heap[Bx]? = some (.cells #[.pointer (some ⟨g, 0, none⟩)] 25 (0, 0)) from ⟨CV.out, H.out.bx⟩)
  have OV := Lib.hid (OV.out.drew)
  have R := Lib.hid (H.out.rd.keep (Below.refl _ _).drew)
  have AV := Lib.hid (AV.out.mono fun u l h => (h.grown (grown_drew (World.grownBy.refl w none)) (.inr (by simp)) (.inl rfl) : InB w.drew base v.ownBlock u l))
  have G0 := Lib.hid (show LsG base g C w w.drew from ⟨rfl, rfl, rfl, Nat.le_refl _, fun _ _ _ _ => rfl⟩)
  refine wp_region_till (fun W => W.heap[C]? = some (.cells #[v] 34 (0, 0)) ∧ W.heap[Bx]? = some (.cells #[.pointer (some ⟨g, 0, none⟩)] 25 (0, 0))) 5 [(true, 0), (true, 1), (false, 2), (false, 3), (false, 4)] _ (by kernel_rfl) (by kernel_rfl) rfl (fun _ _ d _ _ h => by cases d <;> exact h) ?_
  simp only [List.filterMap_cons, List.filterMap_nil, List.getElem?_toArray, List.getElem?_cons_zero, List.getElem?_cons_succ, Option.map_some]
  generalize World.drew w = w0 at S OV R AV G0 ⊢
  refine till_q (by rfl) (S.out) (fun W hW => run_cell 34 (.tmp 0) rfl _ Try.underlying34 rfl rfl (row_cell hW.1 0 rfl)) ?_
  simp only [Act.put, List.setIfInBounds_toArray, List.set_cons_zero, List.set_cons_succ]
  refine till_q (by rfl) (S.out) (fun W hW => run_cell 25 (.tmp 1) rfl _ Try.underlying25 rfl rfl (row_cell hW.2 0 rfl)) ?_
  simp only [Act.put, List.setIfInBounds_toArray, List.set_cons_zero, List.set_cons_succ]
  refine till_t (by rfl) (fun K hK => ?_)
  go_simp
  refine (rsz_any g D s w0 R.out).mono ?_
  obtain ⟨t, ht⟩ : ∃ t, t = sizedS s := ⟨_, rfl⟩
  rw [← ht]
  obtain ⟨s', x⟩ := t
  simp only
  rintro e w1 ⟨⟨u, rfl, ho⟩, hr, hg⟩
  have B0 := Lib.hid (show base ≤ w0.heap.size from Nat.le_trans HB.out G0.out.2.2.2.1)
  have S := Lib.hid (show w1.heap[C]? = some (.cells #[v] 34 (0, 0)) ∧ w1.heap[Bx]? = some (.cells #[.pointer (some ⟨g, 0, none⟩)] 25 (0, 0)) from ⟨grown_block hg (by have := H.out.n1; simp; omega) S.out.1, grown_block hg (by have := H.out.n2; simp; omega) S.out.2⟩)
  have LTV := Lib.hid (fun k (e : v.ownBlock = some k) => OV.out.lt k e)
  have XI := Lib.hid (InB.of (base := base) (k := v.ownBlock) ho B0.out (fun k e => (LTV.out k e).2))
  have OV := Lib.hid (OV.out.grown hg (by
    rcases hq : v.ownBlock with _ | k
    · exact .inl rfl
    · exact .inr (fun e => by injection e with e; have := (LTV.out k hq).1; have := H.out.hg; omega)))
  have AV := Lib.hid (AV.out.mono fun u l h => h.grown hg (.inr (fun k e => by cases e; exact H.out.hg)) (.inl rfl))
  have R := Lib.hid hr
  have G1 := Lib.hid (G0.out.trans (LsG.of hg B0.out (by rintro k ⟨⟩; exact .inr (.inl rfl))))
  have B1 := Lib.hid (show base ≤ w1.heap.size from Nat.le_trans B0.out hg.size)
  have LTV := Lib.hid (fun k (e : v.ownBlock = some k) => OV.out.lt k e)
  obtain ⟨Au, cu, rfl, _⟩ := XI.out
  generalize x.length = q at *
  clear ho hr hg G0
  refine hK.out _ _ (S.out) ?_
  clear hK K
  refine till_t (by rfl) (fun K hK => ?_)
  go_simp
  generalize hB : Array.size (World.heap w1) = NB
  generalize hw : World.alloc w1 _ = w2
  have hb : Below w1.heap.size w1 w2 := by rw [← hw]; exact below_new _ _
  have S := Lib.hid (show w2.heap[C]? = some (.cells #[v] 34 (0, 0)) ∧ w2.heap[Bx]? = some (.cells #[.pointer (some ⟨g, 0, none⟩)] 25 (0, 0)) from ⟨below_block hb (row_lt S.out.1) S.out.1, below_block hb (row_lt S.out.2) S.out.2⟩)
  have RV := Lib.hid (show RdV w2 (some ⟨NB, 0, none⟩) [.slice Au q cu] from RdV.one (row_cell (t := 23) (fr := (0, 0)) (by rw [← hw]; exact ha_new _ _ _ hB.symm) 0 rfl))
  have XI := Lib.hid (XI.out.grown (grown_of_below hb) (.inr (by simp)) (.inl rfl))
  have OV := Lib.hid (OV.out.below hb)
  have AV := Lib.hid (AV.out.mono fun u l h => h.grown (grown_of_below hb) (.inr (by simp)) (.inl rfl))
  have R := Lib.hid (R.out.keep hb)
  have G2 := Lib.hid (G1.out.trans (LsG.of (grown_of_below hb) B1.out (by simp)))
  have B2 := Lib.hid (show base ≤ w2.heap.size from Nat.le_trans B1.out hb.size)
  clear hB hw hb G1
  refine hK.out _ _ (S.out) ?_
  clear hK K
  refine till_t (by rfl) (fun K hK => ?_)
  refine appV_wp rowT (.tmp 2) (.tmp 5) rfl base v vs [.slice Au q cu] (some ⟨NB, 0, none⟩) 1 1 rfl rfl rfl OV.out RV.out (by intro z hz; simp at hz; subst hz; rfl) B2.out (by have := VL.out; omega) (by have := VL.out; omega) ?_
  intro v1 w3 ho hg hat
  have S := Lib.hid (show w3.heap[C]? = some (.cells #[v] 34 (0, 0)) ∧ w3.heap[Bx]? = some (.cells #[.pointer (some ⟨g, 0, none⟩)] 25 (0, 0)) from ⟨grown_block hg (fun e => by have := (LTV.out C e.symm).1; have := H.out.hC; omega) S.out.1, grown_block hg (fun e => by have := (LTV.out Bx e.symm).1; have := H.out.hB; omega) S.out.2⟩)
  have AV := Lib.hid (show All2 (InB w3 base v1.ownBlock) (vs ++ [.slice Au q cu]) (ls ++ [x]) from (AV.out.snoc XI.out).mono fun u l h => h.grown hg (.inl rfl) hat)
  have R := Lib.hid (R.out.far hg (fun k e => by have := (LTV.out k e).1; have := H.out.hg; have := H.out.hD; omega))
  have G3 := Lib.hid (G2.out.trans (LsG.of hg B2.out (fun k e => .inl (LTV.out k e).1)))
  have O3 := Lib.hid ho
  have B3 := Lib.hid (show base ≤ w3.heap.size from Nat.le_trans B2.out hg.size)
  obtain ⟨A1, c1, rfl, _⟩ := ho.read
  generalize (vs ++ [Value.slice Au q cu]).length = q1 at *
  clear ho hg hat G2 OV
  have a3 := row_cell S.out.1 0 rfl
  have f3 := row_free S.out.1 0
  have C3 := Lib.hid S.out
  have TE := Lib.hid ht
  clear ht
  refine hK.out _ _ (S.out) ?_
  clear hK K
  refine till_last (fun K hK => ?_)
  go_simp
  have hgr : w3.grownBy (w3.setCell ⟨C, 0, none⟩ (.slice A1 q1 c1)) (some C) := grown_set (World.grownBy.refl _ _) _ _
  have hc : (w3.setCell ⟨C, 0, none⟩ (.slice A1 q1 c1)).heap[C]? = some (.cells #[.slice A1 q1 c1] 34 (0, 0)) := by rw [heap_setCell_same _ _ _ _ _ _ C3.out.1]; rfl
  have LT3 := fun k (e : (Value.slice A1 q1 c1).ownBlock = some k) => O3.out.lt k e
  have F := Lib.hid (show LsW base g D C Bx s' (ls ++ [x]) (w3.setCell ⟨C, 0, none⟩ (.slice A1 q1 c1)) from
    ⟨R.out.far hgr (fun k e => by cases e; exact ⟨H.out.n1, by have := H.out.nD; omega⟩),
     ⟨_, _, hc, O3.out.grown hgr (by
        rcases hq : (Value.slice A1 q1 c1).ownBlock with _ | k
        · exact .inl rfl
        · exact .inr (fun e => by injection e with e; have := (LT3 k hq).1; have := H.out.hC; omega)),
      AV.out.mono fun u l h => h.grown hgr (.inr (fun k e => by cases e; exact H.out.hC)) (.inl rfl)⟩,
     grown_block hgr (by have := H.out.n3; simp; omega) C3.out.2, H.out.hC, H.out.hB, H.out.hg, H.out.hD, H.out.n1, H.out.n2, H.out.n3, H.out.nD⟩)
  have G4 := Lib.hid (G3.out.trans (LsG.of hgr B3.out (by rintro k ⟨⟩; exact .inr (.inr rfl))))
  clear hgr hc LT3 a3 f3
  refine hK.out _ _ ?_
  clear hK K
  go_end0
  rw [← TE.out]
  exact ⟨rfl, F.out, G4.out⟩
set_option maxRecDepth 100000 in
set_option maxHeartbeats 4000000 in
theorem often_any (base g D C Bx : Nat) (s : RSt) (N : Nat) (hN : N ≤ 65535) (w : World) (h : LsW base g D C Bx s [] w) (hb : base ≤ w.heap.size) :
    Calls Try.prog 36 #[.pointer (some ⟨g, 0, none⟩), .int .i64 (N : Int), .func (.func 37) #[] #[.pointer (some ⟨C, 0, none⟩), .pointer (some ⟨Bx, 0, none⟩)]] w fun e w' => e = .returned (.tuple #[]) ∧ LsW base g D C Bx (oftenS N s []).1 (oftenS N s []).2 w' ∧ LsG base g C w w' := by
  have H := Lib.hid h
  have HB := Lib.hid hb
  have nb : (N : Int) ≤ 65535 := by omega
  have NB := Lib.hid hN
  clear h hb hN
  go_enter Try.func36, Try.ntmps36
  go_wp2_with fail
  go_loopw [6] (fun i wr => ∃ (j : Nat) (s' : RSt) (acc : List (List UInt8)), j ≤ N ∧ i = .int .i64 (j : Int) ∧ LsW base g D C Bx s' acc wr ∧ oftenS (N - j) s' acc = oftenS N s [] ∧ acc.length ≤ j ∧ LsG base g C w wr) (fun i _ => N - (intOf i).toNat)
  case atStart => exact ⟨0, s, [], by omega, rfl, H.out, rfl, by simp, LsG.refl _ _ _ _⟩
  case round =>
    obtain ⟨j, s', acc, hj, rfl, hw, ho, hl, hg⟩ := hrel
    have J := Lib.hid hj
    have L := Lib.hid hw
    have O := Lib.hid ho
    have AL := Lib.hid hl
    have G := Lib.hid hg
    have B := Lib.hid (show base ≤ wr.heap.size from Nat.le_trans HB.out hg.2.2.2.1)
    clear hw ho hl hg hj
    by_cases hlt : j < N
    · have hD : decide ((j : Int) < (N : Int)) = true := by simp; omega
      go_wp2_with fail
      refine (fine_any g D s' wr L.out.rd).mono ?_
      by_cases he : s'.e = 0
      · have E := Lib.hid he
        rw [show decide (s'.e = 0) = true by simp [he]]
        rintro e w1 ⟨rfl, hw⟩
        rw [hw]
        clear hw w1 he
        go_wp2_with fail
        refine (lsc_any base g D C Bx s' acc wr L.out B.out (by have := AL.out; have := NB.out; omega)).mono ?_
        rintro e w1 ⟨rfl, hw, hg⟩
        have L2 := Lib.hid hw
        have G2 := Lib.hid (G.out.trans hg)
        have O2 := Lib.hid (show oftenS (N - (j + 1)) (sizedS s').1 (acc ++ [(sizedS s').2]) = oftenS N s [] by
          rw [← O.out, show N - j = (N - (j + 1)) + 1 by omega, oftenS, if_pos E.out])
        clear hw hg
        go_wp2_with fail
        go_roundw
        case rel => exact ⟨j + 1, _, _, by omega, by go_num, L2.out, O2.out, by have := AL.out; simp; omega, G2.out⟩
        case measure => simp [intOf]; omega
      · have O2 := Lib.hid (show (s', acc) = oftenS N s [] by rw [← O.out, oftenS_bad _ _ _ he])
        rw [show decide (s'.e = 0) = false by simp [he]]
        rintro e w1 ⟨rfl, hw⟩
        rw [hw]
        clear hw w1 he
        go_wp2_with fail
        go_end0
        rw [← O2.out]
        exact ⟨rfl, L.out, G.out⟩
    · have hD : decide ((j : Int) < (N : Int)) = false := by simp; omega
      have O2 := Lib.hid (show (s', acc) = oftenS N s [] by rw [← O.out, show N - j = 0 by have := J.out; omega]; rfl)
      go_wp2_with fail
      go_end0
      rw [← O2.out]
      exact ⟨rfl, L.out, G.out⟩
theorem numS2_lt (s : RSt) : (numS s 2).2 < 65536 := by
  have h1 := beVal_lt (takeS s (min 2 8)).2.1
  have h2 := takeS_le s (min 2 8) 2 (by omega)
  have h3 : 256 ^ (takeS s (min 2 8)).2.1.length ≤ 256 ^ 2 := Nat.pow_le_pow_right (by omega) h2
  unfold numS
  simp only
  omega
theorem LsG.grown {base g C : Nat} {w W W' : World} (h : w.grownBy W (some g)) (h2 : LsG base g C W W') (hb : w.heap.size ≤ base) (hC : w.heap.size ≤ C) : w.grownBy W' (some g) :=
  ⟨h2.1.symm.trans h.os, h2.2.1.symm.trans h.tape, h2.2.2.1.symm.trans h.output, Nat.le_trans h.size h2.2.2.2.1, fun k hk hne => (h2.2.2.2.2 k (by omega) (fun e => hne (by rw [e])) (by omega)).trans (h.block k hk hne)⟩
set_option maxRecDepth 100000 in
set_option maxHeartbeats 4000000 in
theorem rlist_any (g D : Nat) (s : RSt) (most : Int) (hm : -9223372036854775808 ≤ most ∧ most ≤ 9223372036854775807) (w : World) (h : Rdr g D s w) (hD : D < w.heap.size) :
    Calls Try.prog 27 #[.pointer (some ⟨g, 0, none⟩), .int .i64 most] w fun e w' => (∃ A c vs, e = .returned (.slice A vs.length c) ∧ vs.length ≤ c ∧ RdV w' A vs ∧ All2 (SlB w') vs (listS s most).2) ∧ Rdr g D (listS s most).1 w' ∧ w.grownBy w' (some g) := by
  have R := Lib.hid h
  have GL := Lib.hid h.lt
  have DL := Lib.hid hD
  have MB := Lib.hid hm
  clear h hm hD
  go_enter Try.func27, Try.ntmps27
  go_upto_region 1 with fail
  generalize hB : Array.size (World.heap w) = Bx
  generalize hw : World.alloc w _ = w1
  have BX := Lib.hid (show w1.heap[Bx]? = some (.cells #[.pointer (some ⟨g, 0, none⟩)] 25 (0, 0)) by rw [← hw]; exact ha_new _ _ _ hB.symm)
  have hb : Below w.heap.size w w1 := by rw [← hw]; exact below_new _ _
  have R1 := Lib.hid (R.out.keep hb)
  have G1 := Lib.hid (show w.grownBy w1 (some g) from (grown_of_below hb).mono_none)
  have BW := Lib.hid (show Bx = w.heap.size from hB.symm)
  have a1 := row_cell BX.out 0 rfl
  clear hB hw hb
  go_wp2_with fail
  refine (num_any g D s 2 (by omega) w1 R1.out).mono ?_
  have N2 := Lib.hid (numS2_lt s)
  obtain ⟨t, ht⟩ : ∃ t, t = numS s 2 := ⟨_, rfl⟩
  rw [← ht] at N2 ⊢
  have HE := Lib.hid (show headS s most = if t.1.e = 0 ∧ most < (t.2 : Int) then (⟨[], 3⟩, t.2) else t by rw [ht]; rfl)
  obtain ⟨s1, v⟩ := t
  simp only
  rintro e w2 ⟨rfl, hr, hg⟩
  have N2 := Lib.hid (show v < 65536 from N2.out)
  have vb : (v : Int) < 65536 := by have := N2.out; omega
  have R2 := Lib.hid hr
  have BX2 := Lib.hid (grown_block hg (by have := GL.out; have := BW.out; simp; omega) BX.out)
  have G2 := Lib.hid (World.grownBy.trans G1.out hg)
  have a2 := row_cell BX2.out 0 rfl
  clear ht hr hg a1 R1 G1 BX
  go_wp2_with fail
  refine (fine_any g D s1 w2 R2.out).mono ?_
  by_cases he : s1.e = 0
  · rw [show decide (s1.e = 0) = true by simp [he]]
    rintro e w3 ⟨rfl, hw⟩
    rw [hw]
    clear hw w3
    by_cases hmv : most < (v : Int)
    · have hD : decide (most < (v : Int)) = true := by simp; omega
      have SE := Lib.hid (show headS s most = (⟨[], 3⟩, v) by rw [HE.out]; exact if_pos ⟨he, hmv⟩)
      go_wp2_with fail
      refine (fail_any g D s1 w2 R2.out 3 (by omega)).mono ?_
      rintro e w3 ⟨rfl, hr, hg⟩
      have R3 := Lib.hid hr
      have BX3 := Lib.hid (grown_block hg (by have := GL.out; have := BW.out; simp; omega) BX2.out)
      have G3 := Lib.hid (World.grownBy.trans G2.out hg)
      have a3 := row_cell BX3.out 0 rfl
      clear hr hg a2 R2 G2 BX2 hD hmv he
      obtain ⟨w2, rfl⟩ : ∃ w2 : World, w2 = w3 := ⟨_, rfl⟩
      obtain ⟨s2, hs2⟩ : ∃ s2 : RSt, s2 = ⟨[], 3⟩ := ⟨_, rfl⟩
      rw [← hs2] at R3 SE
      clear hs2
      have R2 := R3
      have BX2 := BX3
      have G2 := G3
      clear R3 BX3 G3
      have GL2 := Lib.hid (R2.out.lt)
      go_upto_region 5 with fail
      generalize hC : Array.size (World.heap w2) = C
      generalize hw : World.alloc w2 _ = w3
      have hb : Below w2.heap.size w2 w3 := by rw [← hw]; exact below_new _ _
      have CC := Lib.hid (show w3.heap[C]? = some (.cells #[.slice none 0 0] 34 (0, 0)) by rw [← hw]; exact ha_new _ _ _ hC.symm)
      have BX3 := Lib.hid (below_block hb (row_lt BX2.out) BX2.out)
      have G3 := Lib.hid (World.grownBy.trans G2.out (grown_of_below hb).mono_none)
      have CS := Lib.hid (show C < w3.heap.size from row_lt CC.out)
      have CW := Lib.hid (show w.heap.size ≤ C by rw [← hC]; exact G2.out.size)
      have L3 := Lib.hid (show LsW w3.heap.size g D C Bx s2 [] w3 from ⟨R2.out.keep hb, ⟨_, [], CC.out, OwnV.nil _ _ _, .nil⟩, BX3.out, CS.out, row_lt BX3.out, Nat.lt_of_lt_of_le GL2.out hb.size,
        by have := DL.out; have := CW.out; have := CS.out; omega, by have := GL2.out; omega, by have := GL.out; have := BW.out; omega, by have := row_lt BX2.out; omega, by have := DL.out; have := CW.out; omega⟩)
      have a3 := row_cell BX3.out 0 rfl
      clear hC hw hb R2 CC
      go_wp2_with fail
      refine (often_any w3.heap.size g D C Bx s2 v (by have := N2.out; omega) w3 L3.out (Nat.le_refl _)).mono ?_
      obtain ⟨f, hf⟩ : ∃ f, f = oftenS v s2 [] := ⟨_, rfl⟩
      rw [← hf]
      have FE := Lib.hid (show listS s most = if f.1.e = 0 then f else (f.1, []) by unfold listS; rw [SE.out, hf])
      rintro e w4 ⟨rfl, hl, hg⟩
      have L4 := Lib.hid hl
      have G4 := Lib.hid (LsG.grown G3.out hg (by have := CW.out; have := CS.out; omega) CW.out)
      have a4 := row_cell hl.bx 0 rfl
      obtain ⟨u, us, h1, h2, h3⟩ := hl.var
      obtain ⟨Au, cu, rfl, hr5, hl5, _⟩ := h2.read
      obtain ⟨q, hq⟩ : ∃ q, q = us.length := ⟨_, rfl⟩
      rw [← hq] at h1 hl5
      have QE := Lib.hid hq
      have b4 := row_cell h1 0 rfl
      have RV := Lib.hid hr5
      have LC := Lib.hid hl5
      have AV := Lib.hid (h3.mono fun u l h => h.sl)
      clear hl hg hf h1 h2 h3 hr5 hl5 hq a3 G3
      go_wp2_with fail
      refine (fine_any g D f.1 w4 L4.out.rd).mono ?_
      by_cases hfe : f.1.e = 0
      · have FF := Lib.hid (show listS s most = f by rw [FE.out, if_pos hfe])
        rw [show decide (f.1.e = 0) = true by simp [hfe]]
        rintro e w5 ⟨rfl, hw⟩
        rw [hw]
        clear hw w5 hfe
        go_wp2_with fail
        go_ret
        rw [FF.out]
        exact ⟨⟨Au, cu, us, by rw [← QE.out]; rfl, by rw [← QE.out]; exact LC.out, RV.out, AV.out⟩, L4.out.rd, G4.out⟩
      · have FF := Lib.hid (show listS s most = (f.1, []) by rw [FE.out, if_neg hfe])
        rw [show decide (f.1.e = 0) = false by simp [hfe]]
        rintro e w5 ⟨rfl, hw⟩
        rw [hw]
        clear hw w5 hfe
        go_wp2_with fail
        go_ret
        rw [FF.out]
        exact ⟨⟨none, 0, [], rfl, Nat.le_refl _, RdV.nil _ _, .nil⟩, L4.out.rd, G4.out⟩
    · have hD : decide (most < (v : Int)) = false := by simp; omega
      have SE := Lib.hid (show headS s most = (s1, v) by rw [HE.out]; exact if_neg (fun h => hmv h.2))
      clear hmv he
      obtain ⟨s2, hs2⟩ : ∃ s2 : RSt, s2 = s1 := ⟨_, rfl⟩
      rw [← hs2] at R2 SE
      clear hs2
      have GL2 := Lib.hid (R2.out.lt)
      go_upto_region 5 with fail
      generalize hC : Array.size (World.heap w2) = C
      generalize hw : World.alloc w2 _ = w3
      have hb : Below w2.heap.size w2 w3 := by rw [← hw]; exact below_new _ _
      have CC := Lib.hid (show w3.heap[C]? = some (.cells #[.slice none 0 0] 34 (0, 0)) by rw [← hw]; exact ha_new _ _ _ hC.symm)
      have BX3 := Lib.hid (below_block hb (row_lt BX2.out) BX2.out)
      have G3 := Lib.hid (World.grownBy.trans G2.out (grown_of_below hb).mono_none)
      have CS := Lib.hid (show C < w3.heap.size from row_lt CC.out)
      have CW := Lib.hid (show w.heap.size ≤ C by rw [← hC]; exact G2.out.size)
      have L3 := Lib.hid (show LsW w3.heap.size g D C Bx s2 [] w3 from ⟨R2.out.keep hb, ⟨_, [], CC.out, OwnV.nil _ _ _, .nil⟩, BX3.out, CS.out, row_lt BX3.out, Nat.lt_of_lt_of_le GL2.out hb.size,
        by have := DL.out; have := CW.out; have := CS.out; omega, by have := GL2.out; omega, by have := GL.out; have := BW.out; omega, by have := row_lt BX2.out; omega, by have := DL.out; have := CW.out; omega⟩)
      have a3 := row_cell BX3.out 0 rfl
      clear hC hw hb R2 CC
      go_wp2_with fail
      refine (often_any w3.heap.size g D C Bx s2 v (by have := N2.out; omega) w3 L3.out (Nat.le_refl _)).mono ?_
      obtain ⟨f, hf⟩ : ∃ f, f = oftenS v s2 [] := ⟨_, rfl⟩
      rw [← hf]
      have FE := Lib.hid (show listS s most = if f.1.e = 0 then f else (f.1, []) by unfold listS; rw [SE.out, hf])
      rintro e w4 ⟨rfl, hl, hg⟩
      have L4 := Lib.hid hl
      have G4 := Lib.hid (LsG.grown G3.out hg (by have := CW.out; have := CS.out; omega) CW.out)
      have a4 := row_cell hl.bx 0 rfl
      obtain ⟨u, us, h1, h2, h3⟩ := hl.var
      obtain ⟨Au, cu, rfl, hr5, hl5, _⟩ := h2.read
      obtain ⟨q, hq⟩ : ∃ q, q = us.length := ⟨_, rfl⟩
      rw [← hq] at h1 hl5
      have QE := Lib.hid hq
      have b4 := row_cell h1 0 rfl
      have RV := Lib.hid hr5
      have LC := Lib.hid hl5
      have AV := Lib.hid (h3.mono fun u l h => h.sl)
      clear hl hg hf h1 h2 h3 hr5 hl5 hq a3 G3
      go_wp2_with fail
      refine (fine_any g D f.1 w4 L4.out.rd).mono ?_
      by_cases hfe : f.1.e = 0
      · have FF := Lib.hid (show listS s most = f by rw [FE.out, if_pos hfe])
        rw [show decide (f.1.e = 0) = true by simp [hfe]]
        rintro e w5 ⟨rfl, hw⟩
        rw [hw]
        clear hw w5 hfe
        go_wp2_with fail
        go_ret
        rw [FF.out]
        exact ⟨⟨Au, cu, us, by rw [← QE.out]; rfl, by rw [← QE.out]; exact LC.out, RV.out, AV.out⟩, L4.out.rd, G4.out⟩
      · have FF := Lib.hid (show listS s most = (f.1, []) by rw [FE.out, if_neg hfe])
        rw [show decide (f.1.e = 0) = false by simp [hfe]]
        rintro e w5 ⟨rfl, hw⟩
        rw [hw]
        clear hw w5 hfe
        go_wp2_with fail
        go_ret
        rw [FF.out]
        exact ⟨⟨none, 0, [], rfl, Nat.le_refl _, RdV.nil _ _, .nil⟩, L4.out.rd, G4.out⟩
  · rw [show decide (s1.e = 0) = false by simp [he]]
    rintro e w3 ⟨rfl, hw⟩
    rw [hw]
    clear hw w3
    have SE := Lib.hid (show headS s most = (s1, v) by rw [HE.out]; exact if_neg (fun h => he h.1))
    clear he
    obtain ⟨s2, hs2⟩ : ∃ s2 : RSt, s2 = s1 := ⟨_, rfl⟩
    rw [← hs2] at R2 SE
    clear hs2
    have GL2 := Lib.hid (R2.out.lt)
    go_upto_region 5 with fail
    generalize hC : Array.size (World.heap w2) = C
    generalize hw : World.alloc w2 _ = w3
    have hb : Below w2.heap.size w2 w3 := by rw [← hw]; exact below_new _ _
    have CC := Lib.hid (show w3.heap[C]? = some (.cells #[.slice none 0 0] 34 (0, 0)) by rw [← hw]; exact ha_new _ _ _ hC.symm)
    have BX3 := Lib.hid (below_block hb (row_lt BX2.out) BX2.out)
    have G3 := Lib.hid (World.grownBy.trans G2.out (grown_of_below hb).mono_none)
    have CS := Lib.hid (show C < w3.heap.size from row_lt CC.out)
    have CW := Lib.hid (show w.heap.size ≤ C by rw [← hC]; exact G2.out.size)
    have L3 := Lib.hid (show LsW w3.heap.size g D C Bx s2 [] w3 from ⟨R2.out.keep hb, ⟨_, [], CC.out, OwnV.nil _ _ _, .nil⟩, BX3.out, CS.out, row_lt BX3.out, Nat.lt_of_lt_of_le GL2.out hb.size,
      by have := DL.out; have := CW.out; have := CS.out; omega, by have := GL2.out; omega, by have := GL.out; have := BW.out; omega, by have := row_lt BX2.out; omega, by have := DL.out; have := CW.out; omega⟩)
    have a3 := row_cell BX3.out 0 rfl
    clear hC hw hb R2 CC
    go_wp2_with fail
    refine (often_any w3.heap.size g D C Bx s2 v (by have := N2.out; omega) w3 L3.out (Nat.le_refl _)).mono ?_
    obtain ⟨f, hf⟩ : ∃ f, f = oftenS v s2 [] := ⟨_, rfl⟩
    rw [← hf]
    have FE := Lib.hid (show listS s most = if f.1.e = 0 then f else (f.1, []) by unfold listS; rw [SE.out, hf])
    rintro e w4 ⟨rfl, hl, hg⟩
    have L4 := Lib.hid hl
    have G4 := Lib.hid (LsG.grown G3.out hg (by have := CW.out; have := CS.out; omega) CW.out)
    have a4 := row_cell hl.bx 0 rfl
    obtain ⟨u, us, h1, h2, h3⟩ := hl.var
    obtain ⟨Au, cu, rfl, hr5, hl5, _⟩ := h2.read
    obtain ⟨q, hq⟩ : ∃ q, q = us.length := ⟨_, rfl⟩
    rw [← hq] at h1 hl5
    have QE := Lib.hid hq
    have b4 := row_cell h1 0 rfl
    have RV := Lib.hid hr5
    have LC := Lib.hid hl5
    have AV := Lib.hid (h3.mono fun u l h => h.sl)
    clear hl hg hf h1 h2 h3 hr5 hl5 hq a3 G3
    go_wp2_with fail
    refine (fine_any g D f.1 w4 L4.out.rd).mono ?_
    by_cases hfe : f.1.e = 0
    · have FF := Lib.hid (show listS s most = f by rw [FE.out, if_pos hfe])
      rw [show decide (f.1.e = 0) = true by simp [hfe]]
      rintro e w5 ⟨rfl, hw⟩
      rw [hw]
      clear hw w5 hfe
      go_wp2_with fail
      go_ret
      rw [FF.out]
      exact ⟨⟨Au, cu, us, by rw [← QE.out]; rfl, by rw [← QE.out]; exact LC.out, RV.out, AV.out⟩, L4.out.rd, G4.out⟩
    · have FF := Lib.hid (show listS s most = (f.1, []) by rw [FE.out, if_neg hfe])
      rw [show decide (f.1.e = 0) = false by simp [hfe]]
      rintro e w5 ⟨rfl, hw⟩
      rw [hw]
      clear hw w5 hfe
      go_wp2_with fail
      go_ret
      rw [FF.out]
      exact ⟨⟨none, 0, [], rfl, Nat.le_refl _, RdV.nil _ _, .nil⟩, L4.out.rd, G4.out⟩
end Go.Proofs.Ytcmpiockcndejaa
