/- Part 4 of what the law LawBoxBack needs. No condition but those each theorem states. -/
import Derived.Deep.CutBlock
import Derived.Test.YtldjiigkebkgcaaPkLawBoxBackC
/- An ideal box over a source that does not tell a text twice; what opens, in both modes: plain, and the rows that are kept meanwhile. No condition but those each theorem states. -/
namespace Go.Proofs.Ytldjiigkebkgcaa
set_option linter.unusedVariables false
set_option linter.unusedSimpArgs false
open Go.RowKit

/-- What was sealed are windows of what was told. -/
def WinB (s : BSt) : Prop := ∀ p ∈ s.m, ∃ v, p.1 = tellS s.F v p.1.length ∧ v + p.1.length ≤ s.u ∧ 28 ≤ p.1.length
/-- No window of at least 28 bytes is told twice. -/
def OnceS (F : List UInt8) (N : Nat) : Prop := ∀ u v n, 28 ≤ n → u + n ≤ N → v + n ≤ N → tellS F u n = tellS F v n → u = v
theorem fresh_ideal {N : Nat} (s : BSt) (e : Ent) (ho : OnceS s.F N) (hw : WinB s) (hN : s.u + (e.text.length + 28) ≤ N) :
    idealL 8 s e = ({ s with u := s.u + (e.text.length + 28), m := s.m ++ [(tellS s.F s.u (e.text.length + 28), e)], n := s.n + 1 }, some (tellS s.F s.u (e.text.length + 28))) ∧ WinB { s with u := s.u + (e.text.length + 28), m := s.m ++ [(tellS s.F s.u (e.text.length + 28), e)], n := s.n + 1 } ∧ knownM s.m (tellS s.F s.u (e.text.length + 28)) = false := by
  have hk : knownM s.m (tellS s.F s.u (e.text.length + 28)) = false := by
    simp only [knownM, List.any_eq_false, decide_eq_true_eq]
    intro p hp heq
    obtain ⟨v, h1, h2, h3⟩ := hw p hp
    have hl : p.1.length = e.text.length + 28 := by rw [heq, tellS_length]
    rw [hl] at h1 h2
    rw [heq] at h1
    have := ho _ _ _ (by omega) hN (by omega) h1
    omega
  refine ⟨?_, ?_, hk⟩
  · rw [show (8 : Nat) = 7 + 1 from rfl, idealL, hk]
    rfl
  · intro p hp
    rcases List.mem_append.mp hp with hp | hp
    · obtain ⟨v, h1, h2, h3⟩ := hw p hp
      exact ⟨v, h1, by show _ ≤ s.u + (e.text.length + 28); omega, h3⟩
    · simp only [List.mem_cons, List.mem_nil_iff, or_false] at hp
      rw [hp]
      refine ⟨s.u, ?_, ?_, ?_⟩ <;> simp only [tellS_length]
      · exact Nat.le_refl _
      · omega
/-- By whom, and what, a step seals. -/
def entOf (z : BAct) : Ent := ⟨keyK z.key, z.l1.take 200, z.l2.take 200⟩
/-- What was sealed so, in both modes. -/
def GoodX (s : BSt) (e : Ent) (x : List UInt8) : Prop := (s.mode = 0 ∧ ∃ s0, x = realL s0 e.key e.beside e.text) ∨ (s.mode = 1 ∧ lookM s.m x = some e)
theorem lookM_old {m l : List (List UInt8 × Ent)} {x : List UInt8} {e : Ent} (h : lookM m x = some e) : lookM (m ++ l) x = some e := by
  simp only [lookM, Option.map_eq_some_iff] at h ⊢
  obtain ⟨p, hp, h2⟩ := h
  exact ⟨p, by rw [List.find?_append, hp]; rfl, h2⟩
theorem GoodX.opens {s : BSt} {e : Ent} {x : List UInt8} (h : GoodX s e x) : openS s e.key e.beside x = some e.text := by
  rcases h with ⟨h0, s0, rfl⟩ | ⟨h1, h2⟩
  · rw [open_real s h0]
    exact openL_seal _ _ _ _
  · rw [openS, if_neg (by omega), h2]
    simp
theorem GoodX.not {s : BSt} {e : Ent} {x : List UInt8} (h : GoodX s e x) (hm : s.mode = 1) (k bs : List UInt8) (hne : ¬ (e.key = k ∧ e.beside = bs)) : openS s k bs x = none := by
  rcases h with ⟨h0, _⟩ | ⟨h1, h2⟩
  · omega
  · rw [openS, if_neg (by omega), h2]
    simp only
    rw [if_neg hne]
theorem openS_known {s : BSt} (hm : s.mode = 1) (k bs x t : List UInt8) (h : openS s k bs x = some t) : knownM s.m x = true := by
  rw [openS, if_neg (by omega)] at h
  cases hl : lookM s.m x with
  | none => rw [hl] at h; cases h
  | some e =>
    simp only [lookM, Option.map_eq_some_iff] at hl
    obtain ⟨p, hp, _⟩ := hl
    simp only [knownM, List.any_eq_true]
    have h3 := List.find?_some hp
    exact ⟨p, List.mem_of_find?_eq_some hp, by simpa using h3⟩
/-- One more sealed: it opens, and so does what was. -/
theorem seal_good {N : Nat} {s s' : BSt} {e : Ent} {r : Option (List UInt8)} (hs : SealR s e s' r) (ho : OnceS s.F N) (hw : s.mode = 1 → WinB s) (hN : s.u + (e.text.length + 28) ≤ N) :
    ∃ x, r = some x ∧ x.length = e.text.length + 28 ∧ GoodX s' e x ∧ (∀ e' x', GoodX s e' x' → GoodX s' e' x') ∧ (s'.mode = 1 → WinB s') ∧ s'.u ≤ s.u + (e.text.length + 28) := by
  have hmode := hs.mode.1
  rcases hs with ⟨h1, h2⟩ | ⟨h0, h1, h2, h3, h4, h5, h6, h7⟩
  · obtain ⟨e1, e2, e3⟩ := fresh_ideal s e ho (hw h1) hN
    rw [e1] at h2
    injection h2 with h2 h3
    refine ⟨_, h3, tellS_length _ _ _, .inr ⟨by rw [h2]; exact h1, by rw [h2]; exact lookM_append e3⟩, fun e' x' hg => ?_, fun _ => by rw [h2]; exact e2, by rw [h2]; exact Nat.le_refl _⟩
    rcases hg with ⟨h0, _⟩ | ⟨_, hl⟩
    · omega
    · exact .inr ⟨by rw [h2]; exact h1, by rw [h2]; exact lookM_old hl⟩
  · refine ⟨_, h1, realL_length _ _ _ _, .inl ⟨h2, s, rfl⟩, fun e' x' hg => ?_, fun hh => by omega, by omega⟩
    rcases hg with ⟨_, hl⟩ | ⟨h8, _⟩
    · exact .inl ⟨h2, hl⟩
    · omega
/-! ### a slice of the sealed texts -/
def SlA (base : Nat) (r : Option Nat) (W : World) (v : Value) (l : List UInt8) : Prop := ∃ A c, v = .slice A l.length c ∧ l.length ≤ c ∧ RdB W A l ∧ ∀ a, A = some a → base ≤ a.block ∧ a.block < W.heap.size ∧ some a.block ≠ r
theorem SlA.keep {base : Nat} {r : Option Nat} {W W' : World} {v : Value} {l : List UInt8} (h : SlA base r W v l) (hb : Below W.heap.size W W') : SlA base r W' v l := by
  obtain ⟨A, c, h1, h2, h3, h4⟩ := h
  exact ⟨A, c, h1, h2, h3.keep hb, fun a e => ⟨(h4 a e).1, Nat.lt_of_lt_of_le (h4 a e).2.1 hb.size, (h4 a e).2.2⟩⟩
theorem SlA.boxF {base : Nat} {r : Option Nat} {W W' : World} {v : Value} {l : List UInt8} {g S b : Nat} (h : SlA base r W v l) (hf : BoxF g S b W W') (hl : g < base ∧ S < base ∧ b < base) : SlA base r W' v l := by
  obtain ⟨A, c, h1, h2, h3, h4⟩ := h
  exact ⟨A, c, h1, h2, h3.boxF hf (fun _ a e => by have := (h4 a e).1; omega), fun a e => ⟨(h4 a e).1, Nat.lt_of_lt_of_le (h4 a e).2.1 hf.1, (h4 a e).2.2⟩⟩
theorem SlA.app {base : Nat} {r r' : Option Nat} {W W' : World} {v : Value} {l : List UInt8} (h : SlA base r W v l) (hg : W.grownBy W' r) (hr : r' = r ∨ r' = some W.heap.size) : SlA base r' W' v l := by
  obtain ⟨A, c, h1, h2, h3, h4⟩ := h
  refine ⟨A, c, h1, h2, h3.grown hg (fun g e a ea => fun hh => (h4 a ea).2.2 (by rw [hh, e])), fun a e => ⟨(h4 a e).1, Nat.lt_of_lt_of_le (h4 a e).2.1 hg.size, ?_⟩⟩
  rcases hr with rfl | rfl
  · exact (h4 a e).2.2
  · intro hh
    have := (h4 a e).2.1
    have := Option.some.inj hh
    omega
theorem OwnV.boxF {base : Nat} {e : TypeId} {W W' : World} {v : Value} {l : List Value} {g S b : Nat} (h : OwnV W base e v l) (hf : BoxF g S b W W') (hl : g < base ∧ S < base ∧ b < base) : OwnV W' base e v l := by
  refine ⟨h.1, ?_⟩
  rcases h.2 with h2 | ⟨q, cap, cur, hv, hg, hh, hr⟩
  · exact .inl h2
  · exact .inr ⟨q, cap, cur, hv, hg, (hf.2 q (row_lt hh) (by omega) (by omega) (by omega)).trans hh, hr⟩
end Go.Proofs.Ytldjiigkebkgcaa

/- What a source of the bytes of 'coffret' tells at first: no window of 3 bytes stands twice in it. No condition. -/
namespace Go.Proofs.Ytldjiigkebkgcaa
set_option linter.unusedVariables false
set_option linter.unusedSimpArgs false
set_option maxRecDepth 100000
def cofF : List UInt8 := [99, 111, 102, 102, 114, 101, 116]
def cofS : List UInt8 := [51, 168, 164, 81, 196, 25, 210, 44, 124, 160, 218, 117, 170, 186, 240, 49, 40, 230, 11, 15, 113, 229, 227, 56, 174, 126, 23, 26, 36, 240, 127, 34]
theorem cofS_eq : hashL cofF = cofS := by decide +kernel
def cofB0 : List (List UInt8) := [[74, 150, 233, 77, 188, 197, 33, 165, 152, 218, 29, 227, 21, 113, 209, 4, 202, 136, 47, 248, 221, 193, 140, 133, 57, 136, 6, 9, 57, 19, 150, 230], [88, 8, 69, 238, 85, 195, 226, 253, 56, 230, 153, 131, 251, 122, 117, 88, 182, 237, 234, 50, 70, 90, 252, 231, 81, 182, 40, 94, 121, 130, 229, 99], [78, 159, 6, 182, 213, 116, 124, 109, 207, 233, 187, 79, 122, 89, 65, 244, 125, 207, 149, 194, 6, 41, 114, 29, 23, 233, 96, 187, 72, 187, 22, 48], [237, 249, 54, 163, 39, 70, 71, 159, 54, 243, 0, 167, 94, 206, 144, 35, 137, 217, 61, 116, 35, 155, 82, 150, 139, 224, 156, 90, 142, 193, 101, 133], [130, 0, 246, 48, 125, 130, 64, 153, 247, 130, 57, 12, 177, 154, 60, 171, 66, 55, 215, 31, 30, 44, 223, 142, 145, 24, 31, 130, 179, 143, 185, 21], [50, 85, 100, 49, 109, 132, 213, 64, 105, 4, 211, 54, 76, 66, 43, 105, 119, 183, 110, 192, 113, 199, 66, 223, 108, 30, 9, 197, 15, 81, 234, 255]]
theorem cofB0_eq : (List.range 6).map (fun j => hashL (cofS ++ beL 8 (0 + j))) = cofB0 := by decide +kernel
def cofB1 : List (List UInt8) := [[205, 157, 237, 156, 28, 203, 149, 144, 234, 208, 191, 18, 196, 181, 9, 50, 23, 47, 250, 90, 6, 152, 1, 250, 62, 251, 184, 54, 234, 150, 162, 154], [226, 68, 191, 206, 84, 9, 117, 79, 71, 134, 218, 244, 202, 40, 59, 183, 147, 122, 204, 54, 129, 191, 226, 45, 0, 9, 146, 198, 234, 185, 148, 180], [145, 206, 48, 196, 52, 105, 135, 124, 74, 253, 105, 79, 238, 128, 152, 87, 74, 161, 68, 223, 190, 167, 50, 245, 149, 14, 59, 6, 124, 115, 25, 237], [34, 117, 139, 149, 31, 94, 100, 45, 120, 143, 7, 151, 86, 218, 65, 5, 37, 78, 62, 70, 20, 202, 130, 35, 249, 6, 103, 208, 95, 234, 29, 101], [204, 103, 126, 52, 227, 115, 97, 129, 209, 214, 83, 179, 171, 62, 30, 74, 93, 229, 13, 23, 180, 141, 173, 67, 150, 57, 148, 218, 169, 155, 179, 99], [90, 57, 164, 99, 165, 100, 135, 66, 128, 121, 74, 119, 108, 163, 181, 252, 32, 241, 108, 17, 244, 113, 78, 32, 234, 213, 239, 84, 209, 151, 153, 108]]
theorem cofB1_eq : (List.range 6).map (fun j => hashL (cofS ++ beL 8 (6 + j))) = cofB1 := by decide +kernel
def cofB2 : List (List UInt8) := [[28, 110, 131, 91, 243, 103, 146, 122, 139, 154, 233, 30, 8, 228, 162, 91, 57, 165, 107, 86, 12, 124, 88, 181, 57, 96, 141, 166, 103, 148, 134, 34], [62, 24, 26, 95, 196, 101, 58, 216, 91, 105, 233, 113, 10, 169, 136, 76, 107, 225, 205, 79, 162, 210, 142, 63, 112, 108, 183, 11, 9, 123, 123, 50], [43, 190, 172, 15, 38, 224, 108, 202, 29, 232, 20, 235, 244, 91, 202, 90, 40, 97, 70, 68, 212, 231, 106, 244, 241, 144, 226, 136, 210, 131, 120, 34], [223, 219, 111, 62, 16, 151, 2, 143, 65, 106, 75, 23, 8, 52, 19, 74, 102, 63, 109, 40, 238, 173, 19, 20, 241, 192, 189, 70, 200, 101, 15, 135], [20, 41, 161, 48, 158, 201, 45, 2, 226, 193, 40, 140, 19, 78, 147, 156, 150, 210, 186, 51, 227, 232, 251, 165, 130, 199, 65, 2, 230, 192, 78, 25], [186, 196, 231, 44, 125, 32, 52, 93, 154, 105, 120, 215, 178, 74, 188, 224, 127, 61, 43, 15, 230, 174, 20, 201, 149, 241, 176, 0, 94, 49, 61, 215]]
theorem cofB2_eq : (List.range 6).map (fun j => hashL (cofS ++ beL 8 (12 + j))) = cofB2 := by decide +kernel
def cofB3 : List (List UInt8) := [[233, 199, 14, 32, 68, 159, 2, 146, 92, 223, 96, 164, 87, 244, 89, 196, 238, 92, 3, 27, 230, 250, 14, 214, 182, 27, 137, 22, 95, 54, 197, 202], [116, 60, 15, 189, 99, 210, 90, 82, 184, 105, 93, 180, 216, 53, 240, 172, 60, 126, 60, 238, 164, 112, 127, 43, 33, 107, 64, 184, 1, 83, 51, 213], [176, 254, 17, 26, 157, 55, 103, 230, 143, 185, 4, 189, 222, 13, 187, 57, 116, 230, 195, 133, 213, 154, 134, 217, 90, 153, 249, 194, 5, 197, 144, 198], [19, 144, 218, 152, 233, 51, 157, 146, 235, 186, 57, 26, 41, 226, 73, 218, 4, 227, 59, 214, 88, 164, 156, 95, 24, 99, 93, 31, 100, 230, 158, 144], [227, 202, 67, 220, 36, 99, 115, 45, 30, 125, 46, 129, 78, 219, 233, 194, 83, 8, 94, 242, 111, 188, 178, 188, 143, 86, 91, 142, 154, 171, 123, 204], [179, 25, 151, 244, 102, 5, 26, 211, 231, 68, 180, 216, 248, 209, 202, 76, 79, 191, 161, 217, 30, 117, 170, 209, 213, 58, 131, 237, 83, 91, 138, 80]]
theorem cofB3_eq : (List.range 6).map (fun j => hashL (cofS ++ beL 8 (18 + j))) = cofB3 := by decide +kernel
def cofB4 : List (List UInt8) := [[219, 31, 132, 123, 222, 108, 144, 40, 217, 80, 186, 188, 156, 53, 35, 146, 131, 5, 81, 184, 151, 15, 86, 208, 232, 26, 130, 177, 206, 130, 169, 202], [71, 223, 142, 143, 98, 75, 213, 184, 131, 95, 30, 202, 182, 29, 143, 155, 83, 63, 103, 0, 231, 218, 226, 1, 32, 25, 53, 30, 174, 168, 233, 253], [245, 38, 37, 18, 230, 185, 114, 207, 194, 105, 193, 159, 110, 152, 94, 65, 190, 103, 172, 103, 238, 4, 236, 18, 222, 133, 227, 47, 49, 238, 190, 93], [5, 98, 44, 242, 233, 222, 123, 91, 167, 220, 73, 67, 198, 45, 221, 224, 230, 123, 159, 200, 143, 63, 77, 40, 243, 236, 119, 30, 248, 44, 50, 127], [43, 248, 105, 123, 31, 229, 67, 145, 196, 39, 24, 221, 227, 46, 80, 121, 193, 36, 113, 135, 133, 44, 31, 145, 223, 111, 82, 69, 126, 103, 77, 120], [94, 75, 37, 49, 242, 224, 181, 18, 70, 127, 190, 255, 224, 231, 41, 135, 91, 199, 197, 117, 151, 171, 228, 225, 186, 23, 196, 84, 251, 52, 112, 192]]
theorem cofB4_eq : (List.range 6).map (fun j => hashL (cofS ++ beL 8 (24 + j))) = cofB4 := by decide +kernel
def cofB5 : List (List UInt8) := [[90, 0, 108, 123, 38, 12, 143, 249, 237, 129, 207, 218, 87, 167, 244, 87, 11, 14, 204, 30, 82, 79, 191, 187, 64, 89, 186, 31, 48, 217, 67, 19], [150, 219, 161, 45, 42, 92, 159, 11, 11, 147, 99, 118, 88, 54, 86, 241, 41, 100, 221, 20, 81, 2, 61, 72, 149, 23, 90, 144, 19, 237, 247, 236], [71, 103, 126, 19, 37, 80, 217, 146, 91, 230, 152, 27, 239, 250, 14, 69, 199, 44, 30, 111, 200, 77, 28, 60, 52, 33, 99, 50, 29, 79, 60, 175], [111, 138, 24, 73, 174, 250, 197, 123, 90, 184, 235, 129, 250, 132, 130, 60, 201, 240, 1, 123, 130, 49, 146, 146, 67, 48, 33, 70, 222, 194, 203, 100], [26, 113, 238, 208, 231, 243, 136, 211, 137, 31, 109, 113, 2, 193, 93, 91, 8, 134, 18, 211, 159, 110, 91, 247, 227, 5, 157, 115, 126, 172, 6, 34], [226, 146, 98, 105, 59, 84, 240, 42, 134, 4, 3, 245, 165, 253, 150, 166, 167, 193, 253, 167, 244, 52, 60, 3, 5, 169, 56, 22, 128, 14, 139, 249]]
theorem cofB5_eq : (List.range 6).map (fun j => hashL (cofS ++ beL 8 (30 + j))) = cofB5 := by decide +kernel
def cofB6 : List (List UInt8) := [[103, 160, 164, 56, 94, 196, 72, 20, 62, 236, 114, 51, 230, 5, 112, 218, 117, 140, 254, 248, 42, 148, 54, 210, 170, 1, 200, 133, 30, 243, 69, 143], [212, 217, 231, 106, 8, 103, 106, 100, 11, 223, 156, 48, 24, 220, 67, 186, 130, 175, 9, 155, 53, 225, 142, 31, 177, 145, 65, 93, 86, 142, 126, 107], [241, 4, 99, 218, 205, 192, 32, 46, 202, 223, 163, 50, 20, 108, 98, 224, 32, 19, 176, 82, 12, 132, 28, 241, 236, 239, 222, 98, 249, 3, 234, 170], [232, 190, 252, 58, 82, 5, 250, 166, 164, 21, 123, 9, 88, 101, 32, 102, 95, 93, 252, 10, 95, 137, 32, 242, 100, 113, 172, 34, 12, 62, 8, 101], [10, 82, 184, 234, 61, 12, 116, 61, 245, 236, 231, 6, 108, 61, 74, 211, 125, 200, 167, 253, 164, 161, 48, 216, 26, 179, 77, 96, 251, 214, 235, 218], [19, 223, 93, 134, 28, 162, 109, 125, 92, 243, 153, 92, 126, 18, 215, 58, 230, 185, 51, 146, 228, 195, 151, 75, 30, 43, 104, 134, 137, 173, 250, 46]]
theorem cofB6_eq : (List.range 6).map (fun j => hashL (cofS ++ beL 8 (36 + j))) = cofB6 := by decide +kernel
def cofB7 : List (List UInt8) := [[13, 240, 172, 254, 228, 59, 92, 198, 153, 184, 126, 23, 248, 168, 164, 239, 39, 100, 115, 152, 44, 131, 192, 29, 64, 220, 154, 168, 189, 116, 237, 158], [171, 19, 245, 186, 17, 70, 195, 135, 217, 176, 130, 115, 39, 49, 235, 186, 172, 71, 141, 198, 208, 147, 216, 78, 245, 43, 33, 217, 242, 92, 184, 149], [242, 251, 4, 18, 144, 188, 189, 131, 103, 6, 148, 234, 40, 218, 12, 34, 122, 250, 40, 148, 249, 119, 27, 197, 243, 213, 115, 250, 73, 4, 142, 22], [115, 118, 38, 128, 9, 50, 115, 184, 129, 156, 192, 123, 90, 201, 13, 86, 36, 52, 118, 13, 111, 201, 223, 46, 131, 203, 133, 23, 154, 182, 224, 20], [27, 194, 167, 172, 114, 142, 235, 223, 247, 32, 9, 239, 189, 158, 39, 230, 133, 91, 33, 70, 176, 180, 213, 210, 58, 98, 116, 155, 147, 35, 32, 26], [23, 134, 162, 36, 146, 131, 206, 185, 8, 107, 157, 99, 30, 207, 3, 84, 203, 100, 16, 6, 248, 0, 134, 30, 102, 180, 131, 123, 57, 22, 27, 6]]
theorem cofB7_eq : (List.range 6).map (fun j => hashL (cofS ++ beL 8 (42 + j))) = cofB7 := by decide +kernel
def cofB8 : List (List UInt8) := [[2, 167, 25, 89, 203, 149, 12, 107, 227, 230, 128, 0, 227, 204, 138, 112, 130, 154, 58, 170, 204, 51, 66, 133, 196, 149, 169, 209, 39, 24, 47, 0], [64, 217, 131, 40, 112, 236, 177, 11, 187, 153, 18, 193, 26, 229, 207, 155, 68, 28, 132, 183, 53, 95, 168, 123, 36, 102, 109, 115, 77, 173, 218, 46], [140, 246, 184, 56, 42, 53, 103, 195, 98, 66, 1, 80, 217, 46, 40, 177, 209, 230, 194, 237, 115, 81, 48, 114, 76, 138, 129, 70, 58, 194, 153, 126], [196, 185, 111, 186, 120, 82, 13, 67, 7, 193, 95, 58, 18, 77, 46, 203, 132, 7, 87, 229, 95, 158, 148, 11, 80, 165, 175, 44, 138, 50, 107, 191], [162, 238, 61, 109, 162, 158, 96, 58, 249, 48, 83, 79, 210, 95, 206, 38, 45, 88, 72, 24, 110, 16, 25, 246, 160, 194, 123, 178, 250, 104, 85, 249], [195, 239, 26, 237, 234, 79, 246, 149, 212, 78, 167, 247, 143, 186, 246, 153, 139, 239, 4, 182, 221, 55, 68, 141, 55, 90, 134, 65, 166, 148, 91, 206]]
theorem cofB8_eq : (List.range 6).map (fun j => hashL (cofS ++ beL 8 (48 + j))) = cofB8 := by decide +kernel
def cofB9 : List (List UInt8) := [[237, 72, 58, 73, 213, 91, 87, 95, 76, 87, 24, 68, 136, 106, 177, 234, 124, 100, 144, 200, 16, 12, 151, 165, 58, 153, 155, 41, 100, 245, 108, 208], [44, 186, 159, 192, 83, 66, 109, 62, 76, 219, 233, 123, 18, 6, 239, 138, 185, 16, 217, 37, 199, 111, 62, 161, 30, 197, 252, 129, 212, 18, 184, 120], [238, 253, 232, 26, 9, 88, 82, 7, 173, 240, 157, 109, 164, 41, 165, 222, 233, 167, 127, 3, 230, 13, 144, 22, 104, 220, 122, 58, 222, 106, 105, 130], [19, 26, 143, 255, 190, 67, 12, 14, 143, 207, 133, 8, 87, 103, 189, 138, 82, 233, 69, 91, 77, 247, 150, 212, 86, 120, 36, 34, 235, 203, 139, 73], [190, 38, 229, 77, 178, 120, 153, 183, 238, 134, 191, 175, 145, 181, 164, 126, 118, 254, 111, 69, 237, 242, 121, 26, 89, 205, 145, 131, 195, 213, 89, 124], [86, 149, 10, 197, 108, 55, 119, 103, 229, 93, 170, 85, 81, 236, 237, 129, 209, 57, 220, 115, 210, 13, 209, 214, 46, 191, 184, 94, 83, 179, 200, 112]]
theorem cofB9_eq : (List.range 6).map (fun j => hashL (cofS ++ beL 8 (54 + j))) = cofB9 := by decide +kernel
def cofB10 : List (List UInt8) := [[172, 11, 139, 221, 242, 142, 197, 144, 95, 68, 4, 180, 213, 105, 149, 222, 98, 56, 13, 108, 200, 169, 82, 105, 125, 105, 96, 62, 21, 188, 220, 207], [34, 14, 176, 150, 28, 136, 63, 245, 246, 131, 9, 220, 241, 229, 239, 43, 122, 18, 142, 250, 122, 2, 36, 2, 247, 37, 97, 108, 83, 233, 190, 253], [186, 135, 188, 197, 115, 123, 159, 180, 85, 169, 246, 232, 250, 78, 139, 32, 115, 122, 210, 25, 57, 46, 164, 130, 225, 241, 193, 15, 101, 125, 77, 248], [195, 8, 41, 214, 221, 210, 112, 53, 227, 109, 88, 210, 141, 84, 3, 125, 123, 47, 234, 221, 130, 139, 121, 81, 98, 177, 37, 130, 196, 4, 212, 99], [132, 85, 161, 103, 40, 64, 144, 23, 57, 61, 80, 159, 11, 21, 195, 81, 48, 223, 106, 42, 126, 69, 127, 88, 194, 51, 146, 43, 151, 164, 49, 31], [207, 172, 143, 168, 44, 173, 116, 103, 188, 3, 182, 235, 227, 191, 162, 225, 254, 74, 144, 100, 72, 20, 136, 193, 250, 206, 10, 161, 107, 48, 150, 166]]
theorem cofB10_eq : (List.range 6).map (fun j => hashL (cofS ++ beL 8 (60 + j))) = cofB10 := by decide +kernel
def cofB11 : List (List UInt8) := [[139, 117, 35, 167, 73, 172, 204, 12, 83, 195, 31, 203, 189, 177, 248, 138, 210, 52, 164, 218, 118, 193, 92, 7, 80, 91, 192, 227, 134, 213, 240, 38], [247, 140, 44, 206, 211, 178, 73, 199, 206, 73, 85, 32, 133, 192, 164, 74, 239, 188, 210, 199, 194, 227, 246, 200, 129, 1, 78, 137, 23, 104, 234, 53], [2, 90, 251, 105, 113, 221, 153, 124, 51, 123, 40, 128, 160, 125, 45, 119, 167, 192, 158, 107, 102, 20, 196, 34, 17, 48, 121, 112, 46, 22, 10, 212], [217, 166, 122, 31, 50, 185, 123, 123, 83, 123, 21, 116, 181, 86, 48, 199, 118, 181, 165, 131, 61, 164, 159, 83, 55, 198, 1, 111, 240, 79, 28, 177], [248, 108, 158, 250, 1, 199, 225, 233, 51, 69, 69, 16, 163, 131, 56, 139, 193, 203, 131, 96, 117, 166, 191, 75, 109, 118, 43, 162, 91, 121, 118, 33], [250, 250, 218, 65, 11, 233, 65, 175, 175, 123, 154, 144, 165, 45, 162, 49, 183, 88, 42, 95, 195, 187, 98, 198, 227, 170, 86, 8, 90, 39, 0, 130]]
theorem cofB11_eq : (List.range 6).map (fun j => hashL (cofS ++ beL 8 (66 + j))) = cofB11 := by decide +kernel
def cofB12 : List (List UInt8) := [[19, 52, 209, 200, 25, 53, 154, 130, 203, 33, 50, 90, 94, 11, 36, 231, 179, 207, 72, 175, 223, 225, 208, 123, 38, 171, 58, 217, 232, 53, 9, 74], [187, 156, 240, 66, 145, 141, 78, 253, 178, 52, 72, 143, 168, 27, 188, 72, 80, 129, 42, 62, 229, 61, 126, 69, 64, 244, 203, 193, 111, 164, 156, 240], [58, 142, 149, 196, 163, 14, 20, 245, 162, 20, 49, 57, 150, 159, 58, 196, 27, 28, 115, 199, 67, 116, 94, 102, 7, 12, 130, 244, 112, 240, 48, 36], [102, 66, 250, 234, 176, 206, 242, 156, 106, 0, 232, 155, 143, 236, 196, 74, 90, 114, 132, 160, 1, 57, 98, 254, 152, 52, 172, 110, 227, 203, 204, 200], [50, 70, 13, 215, 232, 141, 47, 199, 173, 155, 133, 182, 189, 57, 25, 236, 173, 187, 178, 133, 55, 52, 67, 88, 153, 109, 17, 37, 91, 241, 154, 71], [55, 165, 143, 207, 248, 220, 225, 107, 201, 72, 81, 56, 247, 80, 219, 47, 230, 213, 122, 162, 82, 84, 138, 29, 159, 24, 162, 123, 152, 158, 51, 203]]
theorem cofB12_eq : (List.range 6).map (fun j => hashL (cofS ++ beL 8 (72 + j))) = cofB12 := by decide +kernel
def cofB13 : List (List UInt8) := [[199, 203, 88, 243, 126, 129, 99, 98, 39, 55, 234, 181, 226, 68, 25, 79, 253, 220, 222, 144, 227, 125, 137, 171, 240, 27, 34, 25, 113, 193, 162, 137], [121, 211, 28, 95, 134, 100, 153, 24, 33, 190, 204, 47, 210, 169, 185, 132, 221, 242, 41, 52, 184, 178, 98, 181, 67, 200, 13, 235, 251, 198, 144, 90], [16, 221, 36, 186, 6, 50, 1, 127, 154, 41, 129, 165, 92, 52, 202, 44, 161, 181, 184, 206, 34, 212, 178, 235, 140, 1, 101, 228, 219, 143, 2, 238], [56, 6, 7, 52, 87, 153, 109, 179, 191, 181, 19, 138, 117, 116, 82, 67, 154, 200, 189, 36, 29, 124, 216, 149, 22, 139, 24, 213, 40, 167, 131, 82], [56, 103, 14, 200, 228, 220, 207, 106, 25, 212, 55, 11, 190, 21, 114, 93, 238, 230, 28, 113, 3, 154, 27, 61, 194, 183, 176, 238, 25, 146, 223, 157], [255, 101, 107, 31, 81, 15, 138, 117, 228, 217, 23, 31, 27, 209, 129, 72, 148, 182, 252, 157, 200, 65, 93, 155, 111, 92, 66, 130, 42, 143, 123, 129]]
theorem cofB13_eq : (List.range 6).map (fun j => hashL (cofS ++ beL 8 (78 + j))) = cofB13 := by decide +kernel
def cofB14 : List (List UInt8) := [[94, 130, 55, 117, 248, 92, 140, 57, 215, 54, 15, 203, 151, 178, 199, 141, 135, 127, 182, 102, 86, 122, 244, 165, 141, 87, 42, 151, 78, 229, 165, 113], [39, 210, 54, 204, 237, 52, 181, 85, 33, 124, 44, 230, 165, 11, 141, 220, 222, 107, 101, 182, 176, 203, 21, 17, 63, 233, 39, 77, 173, 238, 201, 215]]
theorem cofB14_eq : (List.range 2).map (fun j => hashL (cofS ++ beL 8 (84 + j))) = cofB14 := by decide +kernel
def cofBs : List (List UInt8) := cofB0 ++ cofB1 ++ cofB2 ++ cofB3 ++ cofB4 ++ cofB5 ++ cofB6 ++ cofB7 ++ cofB8 ++ cofB9 ++ cofB10 ++ cofB11 ++ cofB12 ++ cofB13 ++ cofB14
def cofT : List UInt8 := cofF ++ cofBs.flatten
theorem cofT_length : cofT.length = 2759 := by decide +kernel
theorem cofBs_get (j : Nat) (hj : j < 86) : hashL (cofS ++ beL 8 j) = cofBs.getD j [] := by
  have key : ∀ (c n : Nat) (B : List (List UInt8)), (List.range n).map (fun j => hashL (cofS ++ beL 8 (c + j))) = B → ∀ i, i < n → hashL (cofS ++ beL 8 (c + i)) = B.getD i [] := by
    intro c n B h i hi
    rw [← h]
    simp [List.getD_eq_getElem?_getD, hi]
  have k0 := key 0 6 _ cofB0_eq
  have k1 := key 6 6 _ cofB1_eq
  have k2 := key 12 6 _ cofB2_eq
  have k3 := key 18 6 _ cofB3_eq
  have k4 := key 24 6 _ cofB4_eq
  have k5 := key 30 6 _ cofB5_eq
  have k6 := key 36 6 _ cofB6_eq
  have k7 := key 42 6 _ cofB7_eq
  have k8 := key 48 6 _ cofB8_eq
  have k9 := key 54 6 _ cofB9_eq
  have k10 := key 60 6 _ cofB10_eq
  have k11 := key 66 6 _ cofB11_eq
  have k12 := key 72 6 _ cofB12_eq
  have k13 := key 78 6 _ cofB13_eq
  have k14 := key 84 2 _ cofB14_eq
  clear key
  by_cases h0 : j < 6
  · obtain ⟨i, rfl⟩ : ∃ i, j = 0 + i := ⟨j - 0, by omega⟩
    rw [k0 i (by omega)]
    match i, (show i < 6 by omega) with
    | 0, _ => rfl
    | 1, _ => rfl
    | 2, _ => rfl
    | 3, _ => rfl
    | 4, _ => rfl
    | 5, _ => rfl
    | n + 6, h => exact absurd h (by omega)
  by_cases h1 : j < 12
  · obtain ⟨i, rfl⟩ : ∃ i, j = 6 + i := ⟨j - 6, by omega⟩
    rw [k1 i (by omega)]
    match i, (show i < 6 by omega) with
    | 0, _ => rfl
    | 1, _ => rfl
    | 2, _ => rfl
    | 3, _ => rfl
    | 4, _ => rfl
    | 5, _ => rfl
    | n + 6, h => exact absurd h (by omega)
  by_cases h2 : j < 18
  · obtain ⟨i, rfl⟩ : ∃ i, j = 12 + i := ⟨j - 12, by omega⟩
    rw [k2 i (by omega)]
    match i, (show i < 6 by omega) with
    | 0, _ => rfl
    | 1, _ => rfl
    | 2, _ => rfl
    | 3, _ => rfl
    | 4, _ => rfl
    | 5, _ => rfl
    | n + 6, h => exact absurd h (by omega)
  by_cases h3 : j < 24
  · obtain ⟨i, rfl⟩ : ∃ i, j = 18 + i := ⟨j - 18, by omega⟩
    rw [k3 i (by omega)]
    match i, (show i < 6 by omega) with
    | 0, _ => rfl
    | 1, _ => rfl
    | 2, _ => rfl
    | 3, _ => rfl
    | 4, _ => rfl
    | 5, _ => rfl
    | n + 6, h => exact absurd h (by omega)
  by_cases h4 : j < 30
  · obtain ⟨i, rfl⟩ : ∃ i, j = 24 + i := ⟨j - 24, by omega⟩
    rw [k4 i (by omega)]
    match i, (show i < 6 by omega) with
    | 0, _ => rfl
    | 1, _ => rfl
    | 2, _ => rfl
    | 3, _ => rfl
    | 4, _ => rfl
    | 5, _ => rfl
    | n + 6, h => exact absurd h (by omega)
  by_cases h5 : j < 36
  · obtain ⟨i, rfl⟩ : ∃ i, j = 30 + i := ⟨j - 30, by omega⟩
    rw [k5 i (by omega)]
    match i, (show i < 6 by omega) with
    | 0, _ => rfl
    | 1, _ => rfl
    | 2, _ => rfl
    | 3, _ => rfl
    | 4, _ => rfl
    | 5, _ => rfl
    | n + 6, h => exact absurd h (by omega)
  by_cases h6 : j < 42
  · obtain ⟨i, rfl⟩ : ∃ i, j = 36 + i := ⟨j - 36, by omega⟩
    rw [k6 i (by omega)]
    match i, (show i < 6 by omega) with
    | 0, _ => rfl
    | 1, _ => rfl
    | 2, _ => rfl
    | 3, _ => rfl
    | 4, _ => rfl
    | 5, _ => rfl
    | n + 6, h => exact absurd h (by omega)
  by_cases h7 : j < 48
  · obtain ⟨i, rfl⟩ : ∃ i, j = 42 + i := ⟨j - 42, by omega⟩
    rw [k7 i (by omega)]
    match i, (show i < 6 by omega) with
    | 0, _ => rfl
    | 1, _ => rfl
    | 2, _ => rfl
    | 3, _ => rfl
    | 4, _ => rfl
    | 5, _ => rfl
    | n + 6, h => exact absurd h (by omega)
  by_cases h8 : j < 54
  · obtain ⟨i, rfl⟩ : ∃ i, j = 48 + i := ⟨j - 48, by omega⟩
    rw [k8 i (by omega)]
    match i, (show i < 6 by omega) with
    | 0, _ => rfl
    | 1, _ => rfl
    | 2, _ => rfl
    | 3, _ => rfl
    | 4, _ => rfl
    | 5, _ => rfl
    | n + 6, h => exact absurd h (by omega)
  by_cases h9 : j < 60
  · obtain ⟨i, rfl⟩ : ∃ i, j = 54 + i := ⟨j - 54, by omega⟩
    rw [k9 i (by omega)]
    match i, (show i < 6 by omega) with
    | 0, _ => rfl
    | 1, _ => rfl
    | 2, _ => rfl
    | 3, _ => rfl
    | 4, _ => rfl
    | 5, _ => rfl
    | n + 6, h => exact absurd h (by omega)
  by_cases h10 : j < 66
  · obtain ⟨i, rfl⟩ : ∃ i, j = 60 + i := ⟨j - 60, by omega⟩
    rw [k10 i (by omega)]
    match i, (show i < 6 by omega) with
    | 0, _ => rfl
    | 1, _ => rfl
    | 2, _ => rfl
    | 3, _ => rfl
    | 4, _ => rfl
    | 5, _ => rfl
    | n + 6, h => exact absurd h (by omega)
  by_cases h11 : j < 72
  · obtain ⟨i, rfl⟩ : ∃ i, j = 66 + i := ⟨j - 66, by omega⟩
    rw [k11 i (by omega)]
    match i, (show i < 6 by omega) with
    | 0, _ => rfl
    | 1, _ => rfl
    | 2, _ => rfl
    | 3, _ => rfl
    | 4, _ => rfl
    | 5, _ => rfl
    | n + 6, h => exact absurd h (by omega)
  by_cases h12 : j < 78
  · obtain ⟨i, rfl⟩ : ∃ i, j = 72 + i := ⟨j - 72, by omega⟩
    rw [k12 i (by omega)]
    match i, (show i < 6 by omega) with
    | 0, _ => rfl
    | 1, _ => rfl
    | 2, _ => rfl
    | 3, _ => rfl
    | 4, _ => rfl
    | 5, _ => rfl
    | n + 6, h => exact absurd h (by omega)
  by_cases h13 : j < 84
  · obtain ⟨i, rfl⟩ : ∃ i, j = 78 + i := ⟨j - 78, by omega⟩
    rw [k13 i (by omega)]
    match i, (show i < 6 by omega) with
    | 0, _ => rfl
    | 1, _ => rfl
    | 2, _ => rfl
    | 3, _ => rfl
    | 4, _ => rfl
    | 5, _ => rfl
    | n + 6, h => exact absurd h (by omega)
  obtain ⟨i, rfl⟩ : ∃ i, j = 84 + i := ⟨j - 84, by omega⟩
  rw [k14 i (by omega)]
  match i, (show i < 2 by omega) with
  | 0, _ => rfl
  | 1, _ => rfl
  | n + 2, h => exact absurd h (by omega)
theorem cofT_get (i : Nat) (hi : i < cofT.length) : byteS cofF i = cofT.getD i 0 := by
  rw [cofT_length] at hi
  by_cases h : i < 7
  · rw [byteS, if_pos (by show i < 7; exact h), cofT, List.getD_eq_getElem?_getD, List.getD_eq_getElem?_getD, List.getElem?_append_left (by show i < 7; exact h)]
  · rw [byteS, if_neg (by show ¬ i < 7; exact h), cofS_eq, show cofF.length = 7 from rfl, cofBs_get _ (by omega), cofT, List.getD_eq_getElem?_getD (l := cofF ++ _), List.getElem?_append_right (by show 7 ≤ i; omega), show cofF.length = 7 from rfl]
    have hf : ∀ (B : List (List UInt8)), (∀ b ∈ B, b.length = 32) → ∀ i, i / 32 < B.length → (B.flatten)[i]?.getD 0 = (B.getD (i / 32) []).getD (i % 32) 0 := flat_get
    exact (hf _ (by decide +kernel) _ (by have h2 : cofBs.length = 86 := (by decide +kernel); omega)).symm
theorem cof_once (u v n : Nat) (hn : 3 ≤ n) (hu : u + n ≤ 2759) (hv : v + n ≤ 2759) (he : tellS cofF u n = tellS cofF v n) : u = v := by
  have h : (insAll (wins (256 ^ (2 + 1)) (valB 0 (natT (cofT.take 2))) (natT (cofT.drop 2))) .nil).isSome = true := by decide +kernel
  obtain ⟨t, ht⟩ := Option.isSome_iff_exists.1 h
  exact told_once cofT_get ht u v n (by omega) (by rw [cofT_length]; exact hu) (by rw [cofT_length]; exact hv) he
end Go.Proofs.Ytldjiigkebkgcaa

/- What the law BoxBack keeps while it seals: plain. No condition but those each theorem states. -/
namespace Go.Proofs.Ytldjiigkebkgcaa
set_option linter.unusedVariables false
set_option linter.unusedSimpArgs false
open Go.RowKit

theorem idealL_mm (t : Nat) (s : BSt) (e : Ent) : (idealL t s e).1.m = s.m ∨ ∃ x, (idealL t s e).1.m = s.m ++ [(x, e)] := by
  induction t generalizing s with
  | zero => exact .inl rfl
  | succ t ih =>
    rw [idealL]
    split
    · exact ih { s with u := s.u + (e.text.length + 28) }
    · exact .inr ⟨_, rfl⟩
theorem sealR_texts {s s' : BSt} {e : Ent} {r : Option (List UInt8)} (hs : SealR s e s' r) (n : Nat) (h : ∀ p ∈ s.m, s.mode = 1 → p.2.text.length ≤ n) (he : e.text.length ≤ n) : ∀ p ∈ s'.m, s'.mode = 1 → p.2.text.length ≤ n := by
  rcases hs with ⟨h1, h2⟩ | ⟨h0, _, h2, _⟩
  · have e1 : s' = (idealL 8 s e).1 := by rw [← h2]
    intro p hp _
    rw [e1] at hp
    rcases idealL_mm 8 s e with h3 | ⟨x, h3⟩ <;> rw [h3] at hp
    · exact h p hp h1
    · rcases List.mem_append.mp hp with hp | hp
      · exact h p hp h1
      · simp only [List.mem_cons, List.mem_nil_iff, or_false] at hp
        rw [hp]
        exact he
  · intro p _ hh
    omega
/-- A slice of slices of bytes grows: a box is as it was. -/
theorem BoxB.grownV {w0 W W' : World} {g S D b lo : Nat} {s : BSt} {r : Option Nat} (h : BoxB w0 g S D b lo s W) (hg : W.grownBy W' r) (hl : D < lo) (hw : w0.heap.size ≤ lo)
    (hr : ∀ q, r = some q → lo ≤ q ∧ ∃ cur fr, W.heap[q]? = some (.cells cur 23 fr)) : BoxB w0 g S D b lo s W' := by
  have hne : ∀ k, k < lo → some k ≠ r := fun k hk e => by have := (hr k e.symm).1; omega
  have hlS := h.lS
  obtain ⟨es, clock, m1, m2, m3⟩ := h.map.has
  refine ⟨h.bel.trans (grown_below hg h.bel.size (fun q e => Nat.le_trans hw (hr q e).1)), h.hg, h.hS, h.hD, h.hb, grown_block hg (hne g h.lg) h.row, h.src.far hg (fun q e => ⟨by have := (hr q e).1; omega, by have := (hr q e).1; omega⟩), Nat.lt_of_lt_of_le h.ltD hg.size, ⟨⟨es, clock, grown_block hg (hne b h.map.low) m1, m2, m3.mono fun x p hx => ?_⟩, h.map.small, h.map.low⟩, h.gS, h.gD, h.gb, h.Sb, h.Db, h.lg, h.lS, h.few⟩
  obtain ⟨h1, A, c, h2, h3, h4, h5, h6⟩ := hx
  have hq : ∀ a, A = some a → some a.block ≠ r := by
    intro a ea e
    obtain ⟨cur, fr, hc⟩ := (h6 a ea).2.2
    obtain ⟨_, cur', fr', hc'⟩ := hr _ e.symm
    rw [hc] at hc'
    injection hc' with hc'
    injection hc' with _ ht _
    exact absurd ht (by decide)
  exact ⟨h1, A, c, h2, h3.grown hg (fun q e a ea e2 => hq a ea (by rw [e2, e])), h4, h5, fun a ea => ⟨Nat.lt_of_lt_of_le (h6 a ea).1 hg.size, (h6 a ea).2.1, (h6 a ea).2.2.grown hg (hq a ea)⟩⟩
theorem OwnV.typed {W : World} {base : Nat} {e : TypeId} {v : Value} {l : List Value} (h : OwnV W base e v l) : ∀ q, v.ownBlock = some q → base ≤ q ∧ ∃ cur fr, W.heap[q]? = some (.cells cur e fr) := by
  intro q hq
  rcases h.2 with ⟨hv, _⟩ | ⟨g, cap, cur, hv, hb, hh, _⟩
  · rw [hv] at hq; cases hq
  · rw [hv] at hq
    cases hq
    exact ⟨hb, cur, _, hh⟩
/-- So many sealed. -/
structure BkW (w3 : World) (g S D b lo k m : Nat) (s : BSt) (zs : List BAct) (v : Value) (vs : List Value) (W : World) : Prop where
  box : BoxB w3 g S D b lo s W
  mode : s.mode = k
  fe : s.F = cofF
  u : s.u ≤ m * 228
  len : s.m.length ≤ m
  cnt : s.n ≤ m
  ts : ∀ p ∈ s.m, s.mode = 1 → p.2.text.length ≤ 200
  win : s.mode = 1 → WinB s
  own : OwnV W lo 23 v vs
  vl : vs.length = m
  xs : ∀ (i : Nat) (z : BAct), i < m → zs[i]? = some z → ∃ x u, vs[i]? = some u ∧ SlA lo v.ownBlock W u x ∧ x.length = (z.l2.take 200).length + 28 ∧ GoodX s (entOf z) x
  low : g < lo ∧ S < lo ∧ D < lo ∧ b < lo
  lov : lo ≤ W.heap.size
  w3l : w3.heap.size ≤ lo
section
variable {w3 : World} {g S D b lo k m : Nat} {s : BSt} {zs : List BAct} {v : Value} {vs : List Value} {W : World}
theorem BkW.keep {W' : World} (h : BkW w3 g S D b lo k m s zs v vs W) (hb : Below W.heap.size W W') : BkW w3 g S D b lo k m s zs v vs W' :=
  ⟨h.box.keep hb, h.mode, h.fe, h.u, h.len, h.cnt, h.ts, h.win, h.own.below hb, h.vl, fun i z hi hz => by
    obtain ⟨x, u, h1, h2, h3⟩ := h.xs i z hi hz
    exact ⟨x, u, h1, h2.keep hb, h3⟩, h.low, Nat.le_trans h.lov hb.size, h.w3l⟩
theorem cof_onceS : OnceS cofF 2759 := fun u v n h28 hu hv he => cof_once u v n (by omega) hu hv he
theorem BkW.next (h : BkW w3 g S D b lo k m s zs v vs W) {z : BAct} (hz : zs[m]? = some z) (hm : m < 12) {s' : BSt} {r : Option (List UInt8)} {W1 : World} {Ax : Option Addr} {mx cx : Nat} (hs : SealR s (entOf z) s' r)
    (hx : RdB W1 Ax (r.getD [])) (hl : (r.getD []).length = mx) (hc : mx ≤ cx) (ha : ∀ a, Ax = some a → W.heap.size ≤ a.block ∧ a.block < W1.heap.size) (hb : BoxB w3 g S D b lo s' W1) (hf : BoxF g S b W W1) :
    r.isSome = true ∧ mx = (z.l2.take 200).length + 28 ∧ OwnV W1 lo 23 v vs ∧ ∀ W2, Below W1.heap.size W1 W2 → ∀ v3 W3, OwnV W3 lo 23 v3 (vs ++ [.slice Ax mx cx]) → W2.grownBy W3 v.ownBlock → (v3.ownBlock = v.ownBlock ∨ v3.ownBlock = some W2.heap.size) →
      BkW w3 g S D b lo k (m + 1) s' zs v3 (vs ++ [.slice Ax mx cx]) W3 := by
  have ht : (entOf z).text.length ≤ 200 := by show (z.l2.take 200).length ≤ 200; rw [List.length_take]; omega
  have hu := h.u
  have hlen := h.len
  have hcnt := h.cnt
  have hvl := h.vl
  have hlow := h.low
  obtain ⟨x, rfl, hxl, hg, hold, hw, hu2⟩ := seal_good (N := 2759) hs (by rw [h.fe]; exact cof_onceS) h.win (by omega)
  have hmo := hs.mode
  have hte := sealR_texts hs 200 h.ts ht
  have hxm : mx = x.length := hl.symm
  subst hxm
  have own1 : OwnV W1 lo 23 v vs := h.own.boxF hf ⟨hlow.1, hlow.2.1, hlow.2.2.2⟩
  refine ⟨rfl, hxl, own1, fun W2 hB v3 W3 ho hG hor => ?_⟩
  have own2 := own1.below hB
  refine ⟨(hb.keep hB).grownV hG hlow.2.2.1 h.w3l own2.typed, by rw [hmo.1]; exact h.mode, by rw [hmo.2.1]; exact h.fe, by omega, by omega, by omega, hte, hw, ho, by simp [hvl], fun i z' hi hz' => ?_, hlow, Nat.le_trans h.lov (Nat.le_trans hf.1 (Nat.le_trans hB.size hG.size)), h.w3l⟩
  by_cases him : i < m
  · obtain ⟨x', u, h1, h2, h3, h4⟩ := h.xs i z' him hz'
    exact ⟨x', u, by rw [List.getElem?_append_left (by omega)]; exact h1, ((h2.boxF hf ⟨hlow.1, hlow.2.1, hlow.2.2.2⟩).keep hB).app hG hor, h3, hold _ _ h4⟩
  · obtain rfl : i = m := by omega
    rw [hz] at hz'
    cases hz'
    refine ⟨x, .slice Ax x.length cx, by rw [List.getElem?_append_right (by omega)]; simp [hvl], SlA.app ⟨Ax, cx, rfl, hc, hx.keep hB, fun a ea => ?_⟩ hG hor, hxl, hg⟩
    have h1 := ha a ea
    have h2 := h.lov
    have h3 := hB.size
    refine ⟨by omega, by omega, fun e => ?_⟩
    have := h.own.lt _ e.symm
    omega
end
end Go.Proofs.Ytldjiigkebkgcaa

/- A number's low bits. No condition. -/
namespace Go.Proofs.Ytldjiigkebkgcaa
set_option linter.unusedVariables false
set_option linter.unusedSimpArgs false
open Go.RowKit
theorem mask_i64 (n : Int) (b : Nat) (hb : b ≤ 4611686018427387903) : ∃ m : Nat, m ≤ b ∧ bits .and .i64 n (b : Int) = (m : Int) := by
  refine ⟨(BitVec.ofInt 64 n &&& BitVec.ofInt 64 (b : Int)).toNat, ?_, ?_⟩
  · rw [BitVec.toNat_and, BitVec.ofInt_natCast, BitVec.toNat_ofNat]
    exact Nat.le_trans Nat.and_le_right (Nat.mod_le _ _)
  · show IntKind.i64.wrap ((BitVec.ofInt 64 n &&& BitVec.ofInt 64 (b : Int)).toNat : Int) = _
    have : (BitVec.ofInt 64 n &&& BitVec.ofInt 64 (b : Int)).toNat ≤ b := by
      rw [BitVec.toNat_and, BitVec.ofInt_natCast, BitVec.toNat_ofNat]
      exact Nat.le_trans Nat.and_le_right (Nat.mod_le _ _)
    rw [IntKind.wrap_i64]
    omega
end Go.Proofs.Ytldjiigkebkgcaa

/- The law BoxBack, walked. -/
namespace Go.Proofs.Ytldjiigkebkgcaa
set_option linter.unusedVariables false
set_option linter.unusedSimpArgs false
open Go.RowKit
attribute [local go_sem ↓] Go.wp_at_zero Go.wp_at_succ

theorem OpenP.anyB {w : World} {r : Option (List UInt8)} {e : Ending} {w' : World} (h : OpenP w r e w') : ∃ A m c, e = .returned (.tuple #[.slice A m c, .bool r.isSome]) ∧ RdB w' A (r.getD []) ∧ (r.getD []).length = m ∧ Below w.heap.size w w' := by
  cases r with
  | none =>
    obtain ⟨rfl, hb⟩ := h.no
    exact ⟨none, 0, 0, rfl, RdB.nil _ _, rfl, hb⟩
  | some t =>
    obtain ⟨⟨v, rfl, ho⟩, hb⟩ := h.yes
    obtain ⟨A, c, rfl, hr, _⟩ := ho.read
    exact ⟨A, t.length, c, rfl, hr, rfl, hb⟩
set_option maxRecDepth 100000 in
set_option maxHeartbeats 8000000 in
theorem boxBack_walk (w : World) (a0 : Int) (A1 : Option Addr) (c1 : Nat) (zs : List BAct) (R1 : RdA w A1 zs) (n1 : zs.length ≤ c1)
    (A2 : Option Addr) (c2 : Nat) (l2 : List UInt8) (R2 : RdB w A2 l2) (n2 : l2.length ≤ c2) (z2 : l2.length ≤ 140737488351232) :
    Calls Try.prog 3 #[.int .i64 a0, .slice A1 zs.length c1, .slice A2 l2.length c2] w fun e w' => e = .returned (.bool true) ∧ Below w.heap.size w w' := by
  have TB := Lib.hid (show ByteT Try.prog from ⟨Try.underlying23, by kernel_rfl⟩)
  have IA := Lib.hid (show (Try.prog.info? 35).map (·.size) = some 5 by kernel_rfl)
  have TO := Lib.hid (show SlT Try.prog 31 23 (.slice none 0 0) 24 from ⟨Try.underlying31, by kernel_rfl, rfl⟩)
  have F2 := Lib.hid R2
  have H1 := Lib.hid R1
  obtain ⟨q2, hq2⟩ : ∃ q, q = l2.length := ⟨_, rfl⟩
  obtain ⟨q1, hq1⟩ : ∃ q, q = zs.length := ⟨_, rfl⟩
  rw [← hq2, ← hq1]
  have Q2 := Lib.hid hq2.symm
  have Q1 := Lib.hid hq1.symm
  have QC := Lib.hid (show q2 ≤ c2 ∧ q2 ≤ 140737488351232 by rw [hq2]; exact ⟨n2, z2⟩)
  have d2 : (q2 : Int) ≤ 140737488351232 := by have := QC.out; omega
  obtain ⟨k, hk, hek⟩ := mask_i64 a0 1 (by omega)
  have eM : bits .and .i64 a0 1 = (k : Int) := hek
  have KM := Lib.hid (show k = 0 ∨ k = 1 by omega)
  clear hk hek R1 R2 n1 n2 z2 hq1 hq2
  go_enter Try.func3, Try.ntmps3
  have h1 := cv_at (w := w) (C := #[.int .u8 99, .int .u8 111, .int .u8 102, .int .u8 102, .int .u8 114, .int .u8 101, .int .u8 116]) w.heap.size 7 7 rfl
  go_wp2_with fail
  clear h1 eM
  generalize hM : Array.size (World.heap w) = M0
  generalize hw1 : World.alloc w _ = w1
  have B1 := Lib.hid (show Below w.heap.size w w1 by rw [← hw1]; exact below_new _ _)
  have R1 := Lib.hid (show RdB w1 (some ⟨M0, 0, none⟩) cofF from RdB.row (g := M0) (l := cofF) (t := 5) (fr := (7, 8)) (by rw [← hw1]; exact ha_new w _ _ hM.symm))
  have hz1 : w1.heap.size = M0 + 1 := by rw [← hw1, ha_size, hM]
  generalize hw3 : World.alloc w1 _ = w3
  have B3 := Lib.hid (show Below w1.heap.size w1 w3 by rw [← hw3]; exact below_new _ _)
  have RV := Lib.hid (show RdV w3 (some ⟨M0 + 1, 0, none⟩) [.slice (some ⟨M0, 0, none⟩) 7 7] from RdV.row (g := M0 + 1) (t := 23) (fr := (0, 0)) (by rw [← hw3]; exact ha_new _ _ _ hz1.symm))
  clear hM hw1 hw3 hz1
  refine (dnew_any w3 _ 1 1 _ [cofF] rfl RV.out (.cons ⟨some ⟨M0, 0, none⟩, 7, rfl, Nat.le_refl _, R1.out.keep B3.out⟩ .nil) ?_ (by omega)).mono ?_
  · show ([cofF] : List (List UInt8)).flatten.length ≤ 100000
    decide
  rw [show ([cofF] : List (List UInt8)).flatten = cofF by simp]
  rintro e w4 ⟨S, D, rfl, hg, hD1, hD2, hs, hb⟩
  have SW := Lib.hid (SrcW.new hg hD1 hD2 hs hb)
  have W3 := Lib.hid (show Below w.heap.size w w3 from B1.out.trans (B3.out.mono B1.out.size))
  clear hg hD1 hD2 hs hb RV R1 B1 B3
  go_wp2_with fail
  refine (bnew_any w3 S D cofF 0 w4 SW.out k KM.out).mono ?_
  rintro e w5 ⟨g, b, lo, rfl, hbx, hb2, hlo⟩
  have X := Lib.hid hbx
  have XL := Lib.hid hlo
  have W5 := Lib.hid (show Below w.heap.size w w5 from W3.out.trans (hbx.bel.mono W3.out.size))
  clear hbx hb2 hlo SW
  by_cases h1000 : 1000 < q2
  · have hD : decide ((1000 : Int) < (q2 : Int)) = true := by simp; omega
    go_wp2_with fail
    refine (boxOne_true w5).mono ?_
    rintro e w6 ⟨rfl, hb⟩
    have BF := Lib.hid (W5.out.trans (hb.mono W5.out.size))
    clear hb
    go_wp2_with fail
    go_ret
    exact ⟨rfl, BF.out⟩
  · have hD : decide ((1000 : Int) < (q2 : Int)) = false := by simp; omega
    have QL := Lib.hid (show q2 ≤ 1000 by omega)
    clear h1000
    obtain ⟨L, hL⟩ : ∃ L, L = w5.heap.size := ⟨_, rfl⟩
    have P := Lib.hid (show BkW w3 g S D b L k 0 ⟨k, cofF, 0, [], 0⟩ zs (.slice none 0 0) [] w5 by
      have hl := X.out.lt
      exact ⟨X.out.raise rfl (by rw [hL]; exact XL.out), rfl, rfl, by show 0 ≤ _; omega, by show 0 ≤ _; omega, by show 0 ≤ _; omega, by simp, fun _ => (by intro p hp; cases hp), OwnV.nil _ _ _, rfl, fun i z hi _ => absurd hi (Nat.not_lt_zero _), by rw [hL]; exact hl, by rw [hL]; exact Nat.le_refl _, by rw [hL]; exact X.out.bel.size⟩)
    clear hL X XL W5
    go_upto_block 0 with fail
    clear hD
    go_cut [9] (fun v wx => ∃ (m : Nat) (s : BSt) (vs : List Value), m ≤ 12 ∧ m ≤ q1 ∧ BkW w3 g S D b L k m s zs v vs wx)
    case first =>
      go_wp2_with fail
      go_loopw [9, 10] (fun v i wr => ∃ (m : Nat) (s : BSt) (vs : List Value), m ≤ 12 ∧ m ≤ q1 ∧ i = .int .i64 (m : Int) ∧ BkW w3 g S D b L k m s zs v vs wr) (fun _ i _ => 12 - (intOf i).toNat)
      case atStart => exact ⟨0, _, _, by omega, by omega, rfl, P.out⟩
      case round =>
        obtain ⟨m, s, vs, hm, hmq, rfl, hP⟩ := hrel
        have M := Lib.hid (And.intro hm hmq)
        have P := Lib.hid hP
        have BW := Lib.hid (show Below w.heap.size w wr from W3.out.trans (hP.box.bel.mono W3.out.size))
        clear hm hmq hP
        obtain ⟨wp, rfl⟩ : ∃ wp : World, wp = wr := ⟨_, rfl⟩
        by_cases hq : m < q1
        · by_cases h12 : m < 12
          · have hD : decide ((m : Int) < (q1 : Int)) = true := by simp; omega
            have hD2 : decide ((m : Int) < 12) = true := by simp; omega
            obtain ⟨z, bz, oz, hz, hok, hA, hrz⟩ := H1.out.at (by rw [Q1.out]; exact hq)
            have ZE := Lib.hid hz
            obtain ⟨zk, zn, ky, Ab, cb, lb, At, ct, lt⟩ := z
            have hok : (RdB w Ab lb ∧ lb.length ≤ cb) ∧ (RdB w At lt ∧ lt.length ≤ ct) ∧ _ := hok
            have OK := Lib.hid (And.intro hok.1 hok.2.1)
            have AE := Lib.hid hA
            have MQ := Lib.hid hq
            have M12 := Lib.hid h12
            have BZ := Lib.hid (cell_lt (hrz 0 _ rfl))
            have BE := Lib.hid (BW.out.block bz BZ.out)
            have K2 : Hid (wp.cell? ⟨bz, oz + m * 5 + 2, none⟩ = some (.int .u8 (ky.toNat : Int))) := Lib.hid (cell_same (hrz 2 _ rfl) BE.out)
            have K3 : Hid (wp.cell? ⟨bz, oz + m * 5 + 3, none⟩ = some (.slice Ab lb.length cb)) := Lib.hid (cell_same (hrz 3 _ rfl) BE.out)
            have K4 : Hid (wp.cell? ⟨bz, oz + m * 5 + 4, none⟩ = some (.slice At lt.length ct)) := Lib.hid (cell_same (hrz 4 _ rfl) BE.out)
            clear hz hok hrz hA hq h12
            go_upto_region 9 with fail
            have KD := Lib.hid (show wp.drew.heap[bz]? = wp.heap[bz]? from rfl)
            have BD := Lib.hid (show Below wp.heap.size wp wp.drew from (Below.refl _ _).drew)
            refine wp_region_road (fun W => W.heap[bz]? = wp.heap[bz]?) [(true, 0), (true, 1), (true, 2), (true, 3), (true, 4), (true, 5), (true, 6), (true, 7), (true, 8), (true, 9), (true, 10), (true, 11), (true, 13), (true, 14), (true, 15), (true, 16), (true, 17), (false, 12), (false, 18), (false, 19), (true, 20), (true, 21), (true, 22), (true, 23), (true, 24)] (by kernel_rfl) (by kernel_rfl) (fun _ _ d _ _ h => by cases d <;> exact h) ?_
            simp only [List.filterMap_cons, List.filterMap_nil, List.getElem?_toArray, List.getElem?_cons_zero, List.getElem?_cons_succ, Option.map_some]
            refine planG_q (v := ?_) (by rfl) (KD.out) ?_ ?_
            rotate_left
            · intro W hW
              go_simp
              with_reducible rfl
            simp only [Act.put, List.setIfInBounds_toArray, List.set_cons_zero, List.set_cons_succ]
            refine planG_q (v := ?_) (by rfl) (KD.out) ?_ ?_
            rotate_left
            · intro W hW
              go_simp
              with_reducible rfl
            simp only [Act.put, List.setIfInBounds_toArray, List.set_cons_zero, List.set_cons_succ]
            refine planG_q (v := ?_) (by rfl) (KD.out) ?_ ?_
            rotate_left
            · intro W hW
              go_simp
              with_reducible rfl
            simp only [Act.put, List.setIfInBounds_toArray, List.set_cons_zero, List.set_cons_succ]
            refine planG_q (by rfl) (KD.out) (fun W hW => run_iaddr_slk 22 (.tmp 62) (.tmp 63) rfl 35 Try.underlying22 5 IA.out bz oz q1 c1 m MQ.out .i64 _ rfl (by rw [← AE.out]; rfl) rfl W) ?_
            simp only [Act.put, List.setIfInBounds_toArray, List.set_cons_zero, List.set_cons_succ]
            refine planG_q (v := ?_) (by rfl) (KD.out) ?_ ?_
            rotate_left
            · intro W hW
              go_simp
              with_reducible rfl
            simp only [Act.put, List.setIfInBounds_toArray, List.set_cons_zero, List.set_cons_succ]
            refine planG_q (by rfl) (KD.out) (fun W hW => run_cell 5 (.tmp 65) rfl _ Try.underlying5 rfl rfl (cell_same K2.out hW)) ?_
            simp only [Act.put, List.setIfInBounds_toArray, List.set_cons_zero, List.set_cons_succ]
            refine planG_q (by rfl) (KD.out) (fun W hW => run_keyK (.tmp 66) rfl ky rfl W) ?_
            simp only [Act.put, List.setIfInBounds_toArray, List.set_cons_zero, List.set_cons_succ]
            refine planG_q (v := ?_) (by rfl) (KD.out) ?_ ?_
            rotate_left
            · intro W hW
              go_simp
              with_reducible rfl
            simp only [Act.put, List.setIfInBounds_toArray, List.set_cons_zero, List.set_cons_succ]
            refine planG_q (v := ?_) (by rfl) (KD.out) ?_ ?_
            rotate_left
            · intro W hW
              go_simp
              with_reducible rfl
            simp only [Act.put, List.setIfInBounds_toArray, List.set_cons_zero, List.set_cons_succ]
            refine planG_q (by rfl) (KD.out) (fun W hW => run_iaddr_slk 22 (.tmp 68) (.tmp 69) rfl 35 Try.underlying22 5 IA.out bz oz q1 c1 m MQ.out .i64 _ rfl (by rw [← AE.out]; rfl) rfl W) ?_
            simp only [Act.put, List.setIfInBounds_toArray, List.set_cons_zero, List.set_cons_succ]
            refine planG_q (v := ?_) (by rfl) (KD.out) ?_ ?_
            rotate_left
            · intro W hW
              go_simp
              with_reducible rfl
            simp only [Act.put, List.setIfInBounds_toArray, List.set_cons_zero, List.set_cons_succ]
            refine planG_q (by rfl) (KD.out) (fun W hW => run_cell 23 (.tmp 71) rfl _ Try.underlying23 rfl rfl (cell_same K3.out hW)) ?_
            simp only [Act.put, List.setIfInBounds_toArray, List.set_cons_zero, List.set_cons_succ]
            refine planG_q (v := ?_) (by rfl) (KD.out) ?_ ?_
            rotate_left
            · intro W hW
              go_simp
              with_reducible rfl
            simp only [Act.put, List.setIfInBounds_toArray, List.set_cons_zero, List.set_cons_succ]
            refine planG_q (v := ?_) (by rfl) (KD.out) ?_ ?_
            rotate_left
            · intro W hW
              go_simp
              with_reducible rfl
            simp only [Act.put, List.setIfInBounds_toArray, List.set_cons_zero, List.set_cons_succ]
            refine planG_q (by rfl) (KD.out) (fun W hW => run_iaddr_slk 22 (.tmp 74) (.tmp 75) rfl 35 Try.underlying22 5 IA.out bz oz q1 c1 m MQ.out .i64 _ rfl (by rw [← AE.out]; rfl) rfl W) ?_
            simp only [Act.put, List.setIfInBounds_toArray, List.set_cons_zero, List.set_cons_succ]
            refine planG_q (v := ?_) (by rfl) (KD.out) ?_ ?_
            rotate_left
            · intro W hW
              go_simp
              with_reducible rfl
            simp only [Act.put, List.setIfInBounds_toArray, List.set_cons_zero, List.set_cons_succ]
            refine planG_q (by rfl) (KD.out) (fun W hW => run_cell 23 (.tmp 77) rfl _ Try.underlying23 rfl rfl (cell_same K4.out hW)) ?_
            simp only [Act.put, List.setIfInBounds_toArray, List.set_cons_zero, List.set_cons_succ]
            refine planG_t (by rfl) (fun K hK => ?_)
            go_simp
            refine (bshort_any _ Ab lb.length cb lb rfl OK.out.1.2).mono ?_
            obtain ⟨bs, hbs⟩ : ∃ bs, bs = lb.take 200 := ⟨_, rfl⟩
            obtain ⟨p, hp⟩ : ∃ p, p = bs.length := ⟨_, rfl⟩
            rw [← hbs, ← hp]
            have BL := Lib.hid hp.symm
            have BSE := Lib.hid hbs
            have BQ := Lib.hid (show p ≤ 200 ∧ p ≤ cb by have := OK.out.1.2; rw [hp, hbs, List.length_take]; omega)
            have BR := Lib.hid (show RdB wp Ab bs by rw [hbs]; exact (OK.out.1.1.take _).keep BW.out)
            rintro e wd ⟨rfl, hw⟩
            rw [hw]
            clear hw wd hbs hp
            refine hK.out _ _ (KD.out) ?_
            clear hK K
            refine planG_t (by rfl) (fun K hK => ?_)
            go_simp
            refine (bshort_any _ At lt.length ct lt rfl OK.out.2.2).mono ?_
            obtain ⟨t, ht⟩ : ∃ t, t = lt.take 200 := ⟨_, rfl⟩
            obtain ⟨q, hq⟩ : ∃ q, q = t.length := ⟨_, rfl⟩
            rw [← ht, ← hq]
            have TL := Lib.hid hq.symm
            have TSE := Lib.hid ht
            have TQ := Lib.hid (show q ≤ 200 ∧ q ≤ ct by have := OK.out.2.2; rw [hq, ht, List.length_take]; omega)
            have TW := Lib.hid (show RdB w At t by rw [ht]; exact OK.out.2.1.take _)
            rintro e wd ⟨rfl, hw⟩
            rw [hw]
            clear hw wd ht hq
            refine hK.out _ _ (KD.out) ?_
            clear hK K
            refine planG_t (by rfl) (fun K hK => ?_)
            go_simp
            have BG := Lib.hid (show w.heap.size ≤ g ∧ w.heap.size ≤ S ∧ w.heap.size ≤ b by have := W3.out.size; have := P.out.box.hg; have := P.out.box.hS; have := P.out.box.hb; omega)
            refine (bseal_any w3 g S D b L s wp.drew (P.out.box.keep BD.out) (by rw [P.out.mode]; exact KM.out) ⟨keyK ky, bs, t⟩ rfl Ab p cb BL.out (BR.out.keep BD.out) (by have := BQ.out; omega) At q ct TL.out TQ.out.2 ((TW.out.keep BW.out).keep BD.out) (TW.out.apart BG.out) (by have := TQ.out; omega) (by have := P.out.u; have := TQ.out; have := M.out; omega) (by rw [P.out.fe]; decide) (by have := P.out.len; have := M.out; omega) (by have := P.out.cnt; have := M.out; omega) P.out.lov).mono ?_
            rintro e wx ⟨Ax, mx, cx, s', r, rfl, hsr, hrx, hlx, hcx, hbx, hbb, hff⟩
            have KX := Lib.hid (show wx.heap[bz]? = wp.heap[bz]? from (hff.2 bz (Nat.lt_of_lt_of_le BZ.out (Nat.le_trans BW.out.size BD.out.size)) (by have := BG.out; have := BZ.out; omega) (by have := BG.out; have := BZ.out; omega) (by have := BG.out; have := BZ.out; omega)))
            obtain ⟨hr1, hmx0, hown, hnext⟩ := (P.out.keep BD.out).next ZE.out M12.out (by rw [show entOf ⟨zk, zn, ky, Ab, cb, lb, At, ct, lt⟩ = ⟨keyK ky, bs, t⟩ by rw [BSE.out, TSE.out]; rfl]; exact hsr) hrx hlx hcx hbx hbb hff
            have hmx : mx = q + 28 := by rw [hmx0, ← TL.out, TSE.out]
            have NX := Lib.hid hnext
            have OX := Lib.hid hown
            have MX := Lib.hid hmx
            have LX := Lib.hid (show L ≤ wx.heap.size from Nat.le_trans P.out.lov (Nat.le_trans BD.out.size hff.1))
            have VL := Lib.hid P.out.vl
            have k4x : wx.cell? ⟨bz, oz + m * 5 + 4, none⟩ = some (.slice At lt.length ct) := cell_same K4.out KX.out
            rw [hr1]
            simp only [if_true]
            clear hsr hrx hlx hcx hbx hbb hff hr1 hmx0 hmx hown hnext P BD KD
            refine hK.out _ _ (KX.out) ?_
            clear hK K
            refine planG_q (v := ?_) (by rfl) (KX.out) ?_ ?_
            rotate_left
            · intro W hW
              go_simp
              with_reducible rfl
            simp only [Act.put, List.setIfInBounds_toArray, List.set_cons_zero, List.set_cons_succ]
            refine planG_q (v := ?_) (by rfl) (KX.out) ?_ ?_
            rotate_left
            · intro W hW
              go_simp
              with_reducible rfl
            simp only [Act.put, List.setIfInBounds_toArray, List.set_cons_zero, List.set_cons_succ]
            refine planG_q (v := ?_) (by rfl) (KX.out) ?_ ?_
            rotate_left
            · intro W hW
              go_simp
              with_reducible rfl
            simp only [Act.put, List.setIfInBounds_toArray, List.set_cons_zero, List.set_cons_succ]
            refine planG_q (v := ?_) (by rfl) (KX.out) ?_ ?_
            rotate_left
            · intro W hW
              go_simp
              with_reducible rfl
            simp only [Act.put, List.setIfInBounds_toArray, List.set_cons_zero, List.set_cons_succ]
            refine planG_q (v := ?_) (by rfl) (KX.out) ?_ ?_
            rotate_left
            · intro W hW
              go_simp
              with_reducible rfl
            simp only [Act.put, List.setIfInBounds_toArray, List.set_cons_zero, List.set_cons_succ]
            refine planG_nil ?_
            have e28 : (q : Int) + 28 = (mx : Int) := by have := MX.out; omega
            have mi : (m : Int) ≤ 11 := by have := M12.out; omega
            have qb : (q : Int) ≤ 200 := by have := TQ.out; omega
            have mb : (mx : Int) ≤ 228 := by omega
            go_wp2_with (refine wpList_valg (by rfl) (run_iaddr_slk 22 (.tmp 88) (.tmp 89) rfl 35 Try.underlying22 5 IA.out bz oz q1 c1 m MQ.out .i64 _ rfl (by rw [← AE.out]; rfl) rfl _) ?_)
            refine (bshort_any _ At lt.length ct lt rfl OK.out.2.2).mono ?_
            rw [← TSE.out, TL.out]
            rintro e wd ⟨rfl, hw⟩
            rw [hw]
            clear hw wd k4x
            go_wp2_with (refine appV_list rfl TO.out (.tmp 98) (.tmp 100) rfl L _ vs [.slice Ax mx cx] (some ⟨wx.heap.size, 0, none⟩) 1 1 rfl rfl rfl (OX.out.alloc _) (RdV.row (t := 23) (fr := (0, 0)) (ha_new _ _ _ rfl)) ?d2 ?d3 ?d4 ?d5 ?_)
            case d2 => intro u hu; simp only [List.mem_cons, List.mem_nil_iff, or_false] at hu; rw [hu]; rfl
            case d3 => have := LX.out; rw [ha_size]; omega
            case d4 => have := VL.out; have := M12.out; omega
            case d5 => have := VL.out; have := M12.out; omega
            intro v3 w6 ho hg hor
            have PN := Lib.hid (NX.out _ (below_new _ _) v3 w6 ho hg (by rw [ha_size]; exact hor))
            clear ho hg hor NX
            go_wp2_with fail
            go_roundw
            case rel => exact ⟨m + 1, _, _, by have := M12.out; omega, by have := MQ.out; omega, by go_num, PN.out⟩
            case measure => have := M12.out; simp [intOf]; omega
          · have hD : decide ((m : Int) < (q1 : Int)) = true := by simp; omega
            have hD2 : decide ((m : Int) < 12) = false := by simp; omega
            go_wp2_with fail
            go_meet
            exact ⟨m, s, vs, M.out.1, M.out.2, P.out⟩
        · have hD : decide ((m : Int) < (q1 : Int)) = false := by simp; omega
          go_wp2_with fail
          go_meet
          exact ⟨m, s, vs, M.out.1, M.out.2, P.out⟩
    case rest =>
    obtain ⟨m, s, vs, hm, hmq, hP⟩ := hcut
    have M := Lib.hid (And.intro hm hmq)
    obtain ⟨Av, cv, hv, _⟩ := hP.own.read
    rw [hP.vl] at hv
    subst hv
    have P := Lib.hid hP
    clear hm hmq hP
    have I23 := Lib.hid (show (Try.prog.info? 23).map (·.size) = some 1 by kernel_rfl)
    go_upto_block 2 with fail
    go_cut [] (fun wx => BkW w3 g S D b L k m s zs (.slice Av m cv) vs wx)
    case first =>
      go_wp2_with fail
      go_loopw [13] (fun i wr => ∃ (j : Nat), j ≤ m ∧ i = .int .i64 (j : Int) ∧ BkW w3 g S D b L k m s zs (.slice Av m cv) vs wr) (fun i _ => m - (intOf i).toNat)
      case atStart => exact ⟨0, by omega, rfl, P.out⟩
      case round =>
        obtain ⟨j, hj, rfl, hP⟩ := hrel
        have P := Lib.hid hP
        have J := Lib.hid hj
        have BW := Lib.hid (show Below w.heap.size w wr from W3.out.trans (hP.box.bel.mono W3.out.size))
        clear hj hP
        obtain ⟨wp, rfl⟩ : ∃ wp : World, wp = wr := ⟨_, rfl⟩
        by_cases hjm : j < m
        · have hD : decide ((j : Int) < (m : Int)) = true := by simp; omega
          obtain ⟨z, bz, oz, hz, hok, hA, hrz⟩ := H1.out.at (show j < zs.length by have := M.out; rw [Q1.out]; omega)
          obtain ⟨cs, hcs⟩ : ∃ cs, cs = RowA z := ⟨_, rfl⟩
          obtain ⟨x, ux, hux, hsl, hxl, hgx⟩ := P.out.xs j z hjm hz
          obtain ⟨Ax, cx, rfl, hcx, hrx, _⟩ := hsl
          obtain ⟨A', c', e', hR, _⟩ := P.out.own.read
          rw [P.out.vl] at e'
          have hR : RdV wp Av vs := by cases e'; exact hR
          clear e'
          obtain ⟨bA, oA, hAv, hcell⟩ := hR j _ hux
          subst hAv
          have CX0 : Hid (wp.cell? ⟨bA, oA + j * 1, none⟩ = some (.slice Ax x.length cx)) := Lib.hid (by rw [Nat.mul_one]; exact hcell)
          have RX0 := Lib.hid hrx
          have XC := Lib.hid hcx
          have XL := Lib.hid hxl
          have GX := Lib.hid hgx
          have OK := Lib.hid hok
          have AE := Lib.hid hA
          have JM := Lib.hid hjm
          have JQ := Lib.hid (show j < q1 by have := M.out; omega)
          have RZ := Lib.hid (show wp.rangeAt bz (oz + j * 5) cs by rw [hcs]; exact fun i v hi => cell_same (hrz i v hi) (BW.out.block bz (cell_lt (hrz 0 _ rfl))))
          have CE := Lib.hid hcs
          have CL := Lib.hid (show (Try.prog.info? 35).map (·.size) = some cs.length by rw [hcs]; exact IA.out)
          have CO := Lib.hid (show cs.toArray.all (·.oneCell') = true by rw [hcs]; exact all_oneCell_toArray (by intro v hv; simp only [RowA, List.mem_cons, List.mem_nil_iff, or_false] at hv; rcases hv with rfl | rfl | rfl | rfl | rfl <;> rfl))
          have jb : (j : Int) ≤ 11 := by have := M.out; omega
          clear hz hok hA hrz hcs hjm hcx hrx hxl hgx hR hux hcell
          go_upto_region 16 with fail
          refine wp_region_list ?_
          simp only [List.toList_toArray]
          refine wpList_val (v := ?_) (by rfl) ?_ ?_
          rotate_left
          · go_simp
            with_reducible rfl
          simp only [Act.put, List.setIfInBounds_toArray, List.set_cons_zero, List.set_cons_succ]
          refine wpList_val (v := ?_) (by rfl) ?_ ?_
          rotate_left
          · go_simp
            with_reducible rfl
          simp only [Act.put, List.setIfInBounds_toArray, List.set_cons_zero, List.set_cons_succ]
          refine wpList_val (by rfl) (run_iaddr_slk 22 (.tmp 108) (.tmp 109) rfl 35 Try.underlying22 5 IA.out bz oz q1 c1 j JQ.out .i64 _ rfl (by rw [← AE.out]; rfl) rfl _) ?_
          simp only [Act.put, List.setIfInBounds_toArray, List.set_cons_zero, List.set_cons_succ]
          refine wpList_val (by rfl) (run_load_range 35 (.tmp 110) rfl bz (oz + j * 5) rfl cs RZ.out Try.underlying35 rfl CL.out) ?_
          simp only [Act.put, List.setIfInBounds_toArray, List.set_cons_zero, List.set_cons_succ]
          go_upto_region 17 with (refine wpList_store_new rfl rfl 35 (.tmp 14) (.tmp 111) rfl cs.toArray rfl rfl CL.out (by rw [CE.out]; rfl) CO.out ?_)
          generalize hM14 : Array.size (World.heap wp) = M14
          generalize hw7 : World.alloc wp _ = w7
          have B7 := Lib.hid (show Below wp.heap.size wp w7 by rw [← hw7]; exact below_new _ _)
          have P7 := Lib.hid (P.out.keep B7.out)
          have R14 := Lib.hid (show w7.heap[M14]? = some (.cells cs.toArray 35 (0, 0)) by rw [← hw7]; exact ha_new _ _ _ hM14.symm)
          have CX := Lib.hid (cell_same CX0.out (B7.out.block bA (cell_lt CX0.out)))
          have RX := Lib.hid (RX0.out.keep B7.out)
          have BW7 := Lib.hid (BW.out.trans (B7.out.mono BW.out.size))
          clear hM14 hw7 CX0 RX0 RZ P B7
          obtain ⟨zk, zn, ky, Ab, cb, lb, At, ct, lt⟩ := z
          have OKW : Hid ((RdB w Ab lb ∧ lb.length ≤ cb) ∧ (RdB w At lt ∧ lt.length ≤ ct)) := ⟨OK.out.1, OK.out.2.1⟩
          have D7 := Lib.hid (show Below w7.heap.size w7 w7.drew from (Below.refl _ _).drew)
          obtain ⟨bs, hbs⟩ : ∃ bs, bs = lb.take 200 := ⟨_, rfl⟩
          obtain ⟨p, hp⟩ : ∃ p, p = bs.length := ⟨_, rfl⟩
          have BSE := Lib.hid hbs
          have BL := Lib.hid hp.symm
          have BQ := Lib.hid (show p ≤ 200 ∧ p ≤ cb by have := OKW.out.1.2; rw [hp, hbs, List.length_take]; omega)
          have BR := Lib.hid (show RdB w Ab bs by rw [hbs]; exact OKW.out.1.1.take _)
          obtain ⟨t, ht⟩ : ∃ t, t = lt.take 200 := ⟨_, rfl⟩
          obtain ⟨q, hq⟩ : ∃ q, q = t.length := ⟨_, rfl⟩
          have TSE := Lib.hid ht
          have TL := Lib.hid hq.symm
          have TQ := Lib.hid (show q ≤ 200 ∧ q ≤ ct by have := OKW.out.2.2; rw [hq, ht, List.length_take]; omega)
          have TR := Lib.hid (show RdB w At t by rw [ht]; exact OKW.out.2.1.take _)
          obtain ⟨nx, hnx⟩ : ∃ nx, nx = x.length := ⟨_, rfl⟩
          have NX := Lib.hid hnx.symm
          have NXB := Lib.hid (show nx ≤ 228 by have h1 : x.length = (lt.take 200).length + 28 := XL.out; rw [← ht, ← hq] at h1; have := TQ.out; omega)
          have CX : Hid (w7.cell? ⟨bA, oA + j * 1, none⟩ = some (.slice Ax nx cx)) := by rw [hnx]; exact CX
          have XC : Hid (nx ≤ cx) := by rw [hnx]; exact XC
          have GX : Hid (GoodX s ⟨keyK ky, bs, t⟩ x) := by rw [hbs, ht]; exact GX
          have MK := Lib.hid (show s.mode = 0 ∨ s.mode = 1 by rw [P7.out.mode]; exact KM.out)
          have TXT := Lib.hid (show ∀ p ∈ s.m, s.mode = 1 → p.2.text.length ≤ 100000 from fun p hp h => Nat.le_trans (P7.out.ts p hp h) (by omega))
          clear hbs hp ht hq hnx OK XL
          refine wp_region_road (fun W => Below w7.heap.size w7 W) [(true, 0), (true, 1), (true, 2), (true, 3), (true, 4), (true, 5), (true, 7), (true, 8), (true, 9), (true, 10), (false, 6), (false, 11), (true, 12), (true, 13), (true, 14), (true, 15), (true, 16)] (by kernel_rfl) (by kernel_rfl) (fun _ _ d _ _ h => by cases d <;> exact h) ?_
          simp only [List.filterMap_cons, List.filterMap_nil, List.getElem?_toArray, List.getElem?_cons_zero, List.getElem?_cons_succ, Option.map_some]
          refine planG_q (v := ?_) (by rfl) (D7.out) ?_ ?_
          rotate_left
          · intro W hW
            go_simp
            with_reducible rfl
          simp only [Act.put, List.setIfInBounds_toArray, List.set_cons_zero, List.set_cons_succ]
          refine planG_q (v := ?_) (by rfl) (D7.out) ?_ ?_
          rotate_left
          · intro W hW
            go_simp
            with_reducible rfl
          simp only [Act.put, List.setIfInBounds_toArray, List.set_cons_zero, List.set_cons_succ]
          refine planG_q (by rfl) (D7.out) (fun W hW => run_cell 5 (.tmp 114) rfl _ Try.underlying5 rfl rfl (row_cell (below_block hW (row_lt R14.out) R14.out) 2 (show cs.toArray[2]? = some (.int .u8 (ky.toNat : Int)) by rw [CE.out]; rfl))) ?_
          simp only [Act.put, List.setIfInBounds_toArray, List.set_cons_zero, List.set_cons_succ]
          refine planG_q (by rfl) (D7.out) (fun W hW => run_keyK (.tmp 115) rfl ky rfl W) ?_
          simp only [Act.put, List.setIfInBounds_toArray, List.set_cons_zero, List.set_cons_succ]
          refine planG_q (v := ?_) (by rfl) (D7.out) ?_ ?_
          rotate_left
          · intro W hW
            go_simp
            with_reducible rfl
          simp only [Act.put, List.setIfInBounds_toArray, List.set_cons_zero, List.set_cons_succ]
          refine planG_q (by rfl) (D7.out) (fun W hW => run_cell 23 (.tmp 117) rfl _ Try.underlying23 rfl rfl (row_cell (below_block hW (row_lt R14.out) R14.out) 3 (show cs.toArray[3]? = some (.slice Ab lb.length cb) by rw [CE.out]; rfl))) ?_
          simp only [Act.put, List.setIfInBounds_toArray, List.set_cons_zero, List.set_cons_succ]
          refine planG_q (v := ?_) (by rfl) (D7.out) ?_ ?_
          rotate_left
          · intro W hW
            go_simp
            with_reducible rfl
          simp only [Act.put, List.setIfInBounds_toArray, List.set_cons_zero, List.set_cons_succ]
          refine planG_q (v := ?_) (by rfl) (D7.out) ?_ ?_
          rotate_left
          · intro W hW
            go_simp
            with_reducible rfl
          simp only [Act.put, List.setIfInBounds_toArray, List.set_cons_zero, List.set_cons_succ]
          refine planG_q (by rfl) (D7.out) (fun W hW => run_iaddr_slk 31 (.tmp 120) (.tmp 121) rfl 23 Try.underlying31 1 I23.out bA oA m cv j JM.out .i64 _ rfl rfl rfl W) ?_
          simp only [Act.put, List.setIfInBounds_toArray, List.set_cons_zero, List.set_cons_succ]
          refine planG_q (by rfl) (D7.out) (fun W hW => run_cell 23 (.tmp 122) rfl _ Try.underlying23 rfl rfl (cell_same CX.out (hW.block bA (cell_lt CX.out)))) ?_
          simp only [Act.put, List.setIfInBounds_toArray, List.set_cons_zero, List.set_cons_succ]
          refine planG_t (by rfl) (fun K hK => ?_)
          go_simp
          refine (bshort_any _ Ab lb.length cb lb rfl OKW.out.1.2).mono ?_
          rw [← BSE.out, BL.out]
          rintro e wd ⟨rfl, hw⟩
          rw [hw]
          clear hw wd
          refine hK.out _ _ (D7.out) ?_
          clear hK K
          refine planG_t (by rfl) (fun K hK => ?_)
          go_simp
          refine (bopen_both w3 g S D b L s w7.drew (P7.out.box.keep D7.out) MK.out (keyK ky) bs x rfl Ab p cb BL.out ((BR.out.keep BW7.out).keep D7.out) (by have := BQ.out; omega) Ax nx cx NX.out XC.out (RX.out.keep D7.out) (by have := NXB.out; omega) TXT.out).mono ?_
          rw [show openS s (keyK ky) bs x = some t from GX.out.opens]
          rintro e wy hop
          obtain ⟨⟨v, rfl, ho⟩, hb⟩ := OpenP.yes hop
          obtain ⟨Ay, cy, rfl, hry, hcy, _⟩ := ho.read
          rw [TL.out]
          have RY := Lib.hid hry
          have YC := Lib.hid hcy
          have BY := Lib.hid (show Below w7.heap.size w7 wy from D7.out.trans (hb.mono D7.out.size))
          clear hop ho hb hry hcy
          refine hK.out _ _ (BY.out) ?_
          clear hK K
          refine planG_q (v := ?_) (by rfl) (BY.out) ?_ ?_
          rotate_left
          · intro W hW
            go_simp
            with_reducible rfl
          simp only [Act.put, List.setIfInBounds_toArray, List.set_cons_zero, List.set_cons_succ]
          refine planG_q (v := ?_) (by rfl) (BY.out) ?_ ?_
          rotate_left
          · intro W hW
            go_simp
            with_reducible rfl
          simp only [Act.put, List.setIfInBounds_toArray, List.set_cons_zero, List.set_cons_succ]
          refine planG_q (v := ?_) (by rfl) (BY.out) ?_ ?_
          rotate_left
          · intro W hW
            go_simp
            with_reducible rfl
          simp only [Act.put, List.setIfInBounds_toArray, List.set_cons_zero, List.set_cons_succ]
          refine planG_q (v := ?_) (by rfl) (BY.out) ?_ ?_
          rotate_left
          · intro W hW
            go_simp
            with_reducible rfl
          simp only [Act.put, List.setIfInBounds_toArray, List.set_cons_zero, List.set_cons_succ]
          refine planG_q (v := ?_) (by rfl) (BY.out) ?_ ?_
          rotate_left
          · intro W hW
            go_simp
            with_reducible rfl
          simp only [Act.put, List.setIfInBounds_toArray, List.set_cons_zero, List.set_cons_succ]
          refine planG_nil ?_
          go_upto_region 18 with fail
          have BZ := Lib.hid (show Below w7.heap.size w7 wy.drew from BY.out.trans (((Below.refl wy.heap.size wy).drew).mono BY.out.size))
          have RD := Lib.hid (show RdB wy.drew Ay t ∧ RdB wy.drew At t from ⟨RY.out, ((TR.out.keep BW7.out).keep BY.out).keep ((Below.refl _ _).drew)⟩)
          have DY := Lib.hid (show wy.drew.heap.size = wy.drew.heap.size ∧ Below w7.heap.size w7 wy.drew ∧ RdB wy.drew Ay t ∧ RdB wy.drew At t from ⟨rfl, BZ.out, RD.out.1, RD.out.2⟩)
          refine wp_region_road (fun W => W.heap.size = wy.drew.heap.size ∧ Below w7.heap.size w7 W ∧ RdB W Ay t ∧ RdB W At t) [(true, 0), (true, 1), (true, 2), (true, 3), (true, 4), (true, 5), (true, 6), (false, 7), (true, 8), (true, 9), (true, 10)] (by kernel_rfl) (by kernel_rfl) (fun _ _ d _ _ h => by cases d <;> exact h) ?_
          simp only [List.filterMap_cons, List.filterMap_nil, List.getElem?_toArray, List.getElem?_cons_zero, List.getElem?_cons_succ, Option.map_some]
          refine planG_q (v := ?_) (by rfl) (DY.out) ?_ ?_
          rotate_left
          · intro W hW
            go_simp
            with_reducible rfl
          simp only [Act.put, List.setIfInBounds_toArray, List.set_cons_zero, List.set_cons_succ]
          refine planG_q (v := ?_) (by rfl) (DY.out) ?_ ?_
          rotate_left
          · intro W hW
            go_simp
            with_reducible rfl
          simp only [Act.put, List.setIfInBounds_toArray, List.set_cons_zero, List.set_cons_succ]
          refine planG_q (v := ?_) (by rfl) (DY.out) ?_ ?_
          rotate_left
          · intro W hW
            go_simp
            with_reducible rfl
          simp only [Act.put, List.setIfInBounds_toArray, List.set_cons_zero, List.set_cons_succ]
          refine planG_q (v := ?_) (by rfl) (DY.out) ?_ ?_
          rotate_left
          · intro W hW
            go_simp
            with_reducible rfl
          simp only [Act.put, List.setIfInBounds_toArray, List.set_cons_zero, List.set_cons_succ]
          refine planG_q (by rfl) (DY.out) (fun W hW => run_str 23 9 (.tmp 130) rfl Try.underlying23 Try.underlying5 Try.underlying9 hW.2.2.1 q cy TL.out rfl) ?_
          simp only [Act.put, List.setIfInBounds_toArray, List.set_cons_zero, List.set_cons_succ]
          refine planG_q (v := ?_) (by rfl) (DY.out) ?_ ?_
          rotate_left
          · intro W hW
            go_simp
            with_reducible rfl
          simp only [Act.put, List.setIfInBounds_toArray, List.set_cons_zero, List.set_cons_succ]
          refine planG_q (by rfl) (DY.out) (fun W hW => run_cell 23 (.tmp 132) rfl _ Try.underlying23 rfl rfl (row_cell (below_block hW.2.1 (row_lt R14.out) R14.out) 4 (show cs.toArray[4]? = some (.slice At lt.length ct) by rw [CE.out]; rfl))) ?_
          simp only [Act.put, List.setIfInBounds_toArray, List.set_cons_zero, List.set_cons_succ]
          refine planG_t (by rfl) (fun K hK => ?_)
          go_simp
          refine (bshort_any _ At lt.length ct lt rfl OKW.out.2.2).mono ?_
          rw [← TSE.out, TL.out]
          rintro e wd ⟨rfl, hw⟩
          rw [hw]
          clear hw wd
          refine hK.out _ _ (DY.out) ?_
          clear hK K
          refine planG_q (by rfl) (DY.out) (fun W hW => run_str 23 9 (.tmp 134) rfl Try.underlying23 Try.underlying5 Try.underlying9 hW.2.2.2 q ct TL.out rfl) ?_
          simp only [Act.put, List.setIfInBounds_toArray, List.set_cons_zero, List.set_cons_succ]
          refine planG_q (by rfl) (DY.out) (fun W hW => run_neqstr_false 9 _ (.tmp 131) (.tmp 135) rfl t t rfl rfl rfl W) ?_
          simp only [Act.put, List.setIfInBounds_toArray, List.set_cons_zero, List.set_cons_succ]
          refine planG_q (v := ?_) (by rfl) (DY.out) ?_ ?_
          rotate_left
          · intro W hW
            go_simp
            with_reducible rfl
          simp only [Act.put, List.setIfInBounds_toArray, List.set_cons_zero, List.set_cons_succ]
          refine planG_nil ?_
          rcases KM.out with rfl | rfl
          · go_wp2_with fail
            go_roundw
            case rel => exact ⟨j + 1, by have := JM.out; omega, by go_num, P7.out.keep BZ.out⟩
            case measure => have := JM.out; simp [intOf]; omega
          · as_aux_lemma =>
            go_upto_region 21 with fail
            generalize hw8 : World.drew wy = w8
            have B8 := Lib.hid (show Below w7.heap.size w7 w8 by rw [← hw8]; exact BZ.out)
            clear hw8 BZ RD DY RY BY
            have S1 := Lib.hid (show s.mode = 1 from P7.out.mode)
            have D8 := Lib.hid (show Below w7.heap.size w7 w8.drew from B8.out.trans (((Below.refl w8.heap.size w8).drew).mono B8.out.size))
            have NK := Lib.hid (show openS s (keyK2 ky 1) bs x = none from GX.out.not S1.out _ _ (by intro h; have := congrArg (fun l => List.getD l 1 0) h.1; simp [keyK, keyK2] at this))
            refine wp_region_road (fun W => Below w7.heap.size w7 W) [(true, 0), (true, 1), (true, 2), (true, 3), (true, 4), (true, 5), (true, 7), (true, 8), (true, 9), (true, 10), (false, 6), (false, 11), (true, 12), (true, 13), (true, 14), (true, 15), (true, 16)] (by kernel_rfl) (by kernel_rfl) (fun _ _ d _ _ h => by cases d <;> exact h) ?_
            simp only [List.filterMap_cons, List.filterMap_nil, List.getElem?_toArray, List.getElem?_cons_zero, List.getElem?_cons_succ, Option.map_some]
            refine planG_q (v := ?_) (by rfl) (D8.out) ?_ ?_
            rotate_left
            · intro W hW
              go_simp
              with_reducible rfl
            simp only [Act.put, List.setIfInBounds_toArray, List.set_cons_zero, List.set_cons_succ]
            refine planG_q (v := ?_) (by rfl) (D8.out) ?_ ?_
            rotate_left
            · intro W hW
              go_simp
              with_reducible rfl
            simp only [Act.put, List.setIfInBounds_toArray, List.set_cons_zero, List.set_cons_succ]
            refine planG_q (by rfl) (D8.out) (fun W hW => run_cell 5 (.tmp 142) rfl _ Try.underlying5 rfl rfl (row_cell (below_block hW (row_lt R14.out) R14.out) 2 (show cs.toArray[2]? = some (.int .u8 (ky.toNat : Int)) by rw [CE.out]; rfl))) ?_
            simp only [Act.put, List.setIfInBounds_toArray, List.set_cons_zero, List.set_cons_succ]
            refine planG_q (by rfl) (D8.out) (fun W hW => run_keyK2 (.tmp 143) (.const (.int .u8 1)) rfl ky 1 rfl rfl W) ?_
            simp only [Act.put, List.setIfInBounds_toArray, List.set_cons_zero, List.set_cons_succ]
            refine planG_q (v := ?_) (by rfl) (D8.out) ?_ ?_
            rotate_left
            · intro W hW
              go_simp
              with_reducible rfl
            simp only [Act.put, List.setIfInBounds_toArray, List.set_cons_zero, List.set_cons_succ]
            refine planG_q (by rfl) (D8.out) (fun W hW => run_cell 23 (.tmp 145) rfl _ Try.underlying23 rfl rfl (row_cell (below_block hW (row_lt R14.out) R14.out) 3 (show cs.toArray[3]? = some (.slice Ab lb.length cb) by rw [CE.out]; rfl))) ?_
            simp only [Act.put, List.setIfInBounds_toArray, List.set_cons_zero, List.set_cons_succ]
            refine planG_q (v := ?_) (by rfl) (D8.out) ?_ ?_
            rotate_left
            · intro W hW
              go_simp
              with_reducible rfl
            simp only [Act.put, List.setIfInBounds_toArray, List.set_cons_zero, List.set_cons_succ]
            refine planG_q (v := ?_) (by rfl) (D8.out) ?_ ?_
            rotate_left
            · intro W hW
              go_simp
              with_reducible rfl
            simp only [Act.put, List.setIfInBounds_toArray, List.set_cons_zero, List.set_cons_succ]
            refine planG_q (by rfl) (D8.out) (fun W hW => run_iaddr_slk 31 (.tmp 148) (.tmp 149) rfl 23 Try.underlying31 1 I23.out bA oA m cv j JM.out .i64 _ rfl rfl rfl W) ?_
            simp only [Act.put, List.setIfInBounds_toArray, List.set_cons_zero, List.set_cons_succ]
            refine planG_q (by rfl) (D8.out) (fun W hW => run_cell 23 (.tmp 150) rfl _ Try.underlying23 rfl rfl (cell_same CX.out (hW.block bA (cell_lt CX.out)))) ?_
            simp only [Act.put, List.setIfInBounds_toArray, List.set_cons_zero, List.set_cons_succ]
            refine planG_t (by rfl) (fun K hK => ?_)
            go_simp
            refine (bshort_any _ Ab lb.length cb lb rfl OKW.out.1.2).mono ?_
            rw [← BSE.out, BL.out]
            rintro e wd ⟨rfl, hw⟩
            rw [hw]
            clear hw wd
            refine hK.out _ _ (D8.out) ?_
            clear hK K
            refine planG_t (by rfl) (fun K hK => ?_)
            go_simp
            refine (bopen_both w3 g S D b L s w8.drew (P7.out.box.keep D8.out) MK.out (keyK2 ky 1) bs x rfl Ab p cb BL.out ((BR.out.keep BW7.out).keep D8.out) (by have := BQ.out; omega) Ax nx cx NX.out XC.out (RX.out.keep D8.out) (by have := NXB.out; omega) TXT.out).mono ?_
            rw [NK.out]
            rintro e wz hop
            obtain ⟨rfl, hb⟩ := OpenP.no hop
            have BZ := Lib.hid (show Below w7.heap.size w7 wz from D8.out.trans (hb.mono D8.out.size))
            clear hop hb
            refine hK.out _ _ (BZ.out) ?_
            clear hK K
            refine planG_q (v := ?_) (by rfl) (BZ.out) ?_ ?_
            rotate_left
            · intro W hW
              go_simp
              with_reducible rfl
            simp only [Act.put, List.setIfInBounds_toArray, List.set_cons_zero, List.set_cons_succ]
            refine planG_q (v := ?_) (by rfl) (BZ.out) ?_ ?_
            rotate_left
            · intro W hW
              go_simp
              with_reducible rfl
            simp only [Act.put, List.setIfInBounds_toArray, List.set_cons_zero, List.set_cons_succ]
            refine planG_q (v := ?_) (by rfl) (BZ.out) ?_ ?_
            rotate_left
            · intro W hW
              go_simp
              with_reducible rfl
            simp only [Act.put, List.setIfInBounds_toArray, List.set_cons_zero, List.set_cons_succ]
            refine planG_q (v := ?_) (by rfl) (BZ.out) ?_ ?_
            rotate_left
            · intro W hW
              go_simp
              with_reducible rfl
            simp only [Act.put, List.setIfInBounds_toArray, List.set_cons_zero, List.set_cons_succ]
            refine planG_q (v := ?_) (by rfl) (BZ.out) ?_ ?_
            rotate_left
            · intro W hW
              go_simp
              with_reducible rfl
            simp only [Act.put, List.setIfInBounds_toArray, List.set_cons_zero, List.set_cons_succ]
            refine planG_nil ?_
            go_upto_region 22 with fail
            have NB := Lib.hid (show openS s (keyK ky) ([] ++ bs ++ [0]) x = none from GX.out.not S1.out _ _ (by intro h; have := congrArg List.length h.2; simp at this))
            refine wp_region_tree (fun W => Below w7.heap.size w7 W) (.q 0 (.q 1 (.q 2 (.q 3 (.q 5 (.q 6 (.q 11 (.q 12 (.q 13 (.q 14 (.three 4 (.two 7 (.two 8 (.t 9 (.t 10 (.t 15 (.q 16 (.q 17 (.q 18 (.q 19 (.q 20 .done)))))))) 9 (.t 8 (.t 10 (.t 15 (.q 16 (.q 17 (.q 18 (.q 19 (.q 20 .done))))))))) 9 (.t 7 (.t 8 (.t 10 (.t 15 (.q 16 (.q 17 (.q 18 (.q 19 (.q 20 .done)))))))))) 7 (.two 4 (.two 8 (.t 9 (.t 10 (.t 15 (.q 16 (.q 17 (.q 18 (.q 19 (.q 20 .done)))))))) 9 (.t 8 (.t 10 (.t 15 (.q 16 (.q 17 (.q 18 (.q 19 (.q 20 .done))))))))) 9 (.t 4 (.t 8 (.t 10 (.t 15 (.q 16 (.q 17 (.q 18 (.q 19 (.q 20 .done)))))))))) 9 (.two 4 (.t 7 (.t 8 (.t 10 (.t 15 (.q 16 (.q 17 (.q 18 (.q 19 (.q 20 .done))))))))) 7 (.t 4 (.t 8 (.t 10 (.t 15 (.q 16 (.q 17 (.q 18 (.q 19 (.q 20 .done))))))))))))))))))))) (by kernel_rfl) (by kernel_rfl) (fun _ _ d _ _ h => by cases d <;> exact h) ?_
            have Z := Lib.hid (BZ.out.trans (((Below.refl wz.heap.size wz).drew).mono BZ.out.size))
            generalize World.drew wz = wd0 at Z ⊢
            refine road_q (v := ?_) rfl rfl (Z.out) ?_ ?_
            rotate_left
            · intro W hW
              go_simp
              with_reducible rfl
            simp only [Act.put, List.setIfInBounds_toArray, List.set_cons_zero, List.set_cons_succ]
            refine road_q (v := ?_) rfl rfl (Z.out) ?_ ?_
            rotate_left
            · intro W hW
              go_simp
              with_reducible rfl
            simp only [Act.put, List.setIfInBounds_toArray, List.set_cons_zero, List.set_cons_succ]
            refine road_q rfl rfl (Z.out) (fun W hW => run_cell 5 (.tmp 157) rfl _ Try.underlying5 rfl rfl (row_cell (below_block hW (row_lt R14.out) R14.out) 2 (show cs.toArray[2]? = some (.int .u8 (ky.toNat : Int)) by rw [CE.out]; rfl))) ?_
            simp only [Act.put, List.setIfInBounds_toArray, List.set_cons_zero, List.set_cons_succ]
            refine road_q rfl rfl (Z.out) (fun W hW => run_keyK (.tmp 158) rfl ky rfl W) ?_
            simp only [Act.put, List.setIfInBounds_toArray, List.set_cons_zero, List.set_cons_succ]
            refine road_q (v := ?_) rfl rfl (Z.out) ?_ ?_
            rotate_left
            · intro W hW
              go_simp
              with_reducible rfl
            simp only [Act.put, List.setIfInBounds_toArray, List.set_cons_zero, List.set_cons_succ]
            refine road_q rfl rfl (Z.out) (fun W hW => run_cell 23 (.tmp 161) rfl _ Try.underlying23 rfl rfl (row_cell (below_block hW (row_lt R14.out) R14.out) 3 (show cs.toArray[3]? = some (.slice Ab lb.length cb) by rw [CE.out]; rfl))) ?_
            simp only [Act.put, List.setIfInBounds_toArray, List.set_cons_zero, List.set_cons_succ]
            refine road_q (v := ?_) rfl rfl (Z.out) ?_ ?_
            rotate_left
            · intro W hW
              go_simp
              with_reducible rfl
            simp only [Act.put, List.setIfInBounds_toArray, List.set_cons_zero, List.set_cons_succ]
            refine road_q (v := ?_) rfl rfl (Z.out) ?_ ?_
            rotate_left
            · intro W hW
              go_simp
              with_reducible rfl
            simp only [Act.put, List.setIfInBounds_toArray, List.set_cons_zero, List.set_cons_succ]
            refine road_q rfl rfl (Z.out) (fun W hW => run_iaddr_slk 31 (.tmp 167) (.tmp 168) rfl 23 Try.underlying31 1 I23.out bA oA m cv j JM.out .i64 _ rfl rfl rfl W) ?_
            simp only [Act.put, List.setIfInBounds_toArray, List.set_cons_zero, List.set_cons_succ]
            refine road_q rfl rfl (Z.out) (fun W hW => run_cell 23 (.tmp 169) rfl _ Try.underlying23 rfl rfl (cell_same CX.out (hW.block bA (cell_lt CX.out)))) ?_
            simp only [Act.put, List.setIfInBounds_toArray, List.set_cons_zero, List.set_cons_succ]
            refine road_three ?_ ?_ ?_
            ·
              as_aux_lemma =>
                refine road_t rfl rfl (fun K hK => ?_)
                go_simp
                generalize hB : Array.size (World.heap _) = N4
                generalize hw : World.alloc _ _ = wn
                obtain ⟨ho, hs, hb⟩ := made_new hw hB Z.out
                have O := Lib.hid ho
                have Z := Lib.hid hs
                try have NE9 := Lib.hid (show ∀ g', (Value.slice (some ⟨N4, 0, none⟩) 0 0).ownBlock = some g' → N9 ≠ g' by intro g' e; have h1 := R9.out.lt1; have h2 : N4 = g' := Option.some.inj e; omega)
                try have R9 := Lib.hid (R9.out.keep hb)
                clear hB hw hb ho hs
                refine hK.out _ _ (Z.out) ?_
                clear hK K
                refine road_two ?_ ?_
                ·
                  as_aux_lemma =>
                    refine road_t rfl rfl (fun K hK => ?_)
                    go_simp
                    refine (bshort_any _ Ab lb.length cb lb rfl OKW.out.1.2).mono ?_
                    rw [← BSE.out, BL.out]
                    rintro e wd ⟨rfl, hw⟩
                    rw [hw]
                    clear hw wd
                    refine hK.out _ _ (Z.out) ?_
                    clear hK K
                    refine road_two ?_ ?_
                    ·
                      as_aux_lemma =>
                        refine road_t rfl rfl (fun K hK => ?_)
                        refine app_wp TB.out (.tmp 160) (.tmp 163) rfl w7.heap.size _ [] bs Ab p cb rfl rfl BL.out O.out ((BR.out.keep BW7.out).keep Z.out) Z.out.size (by have := BQ.out; simp; omega) ?_
                        intro v8 w6 ho hg hat
                        try have NE9n := Lib.hid (show ∀ g', v8.ownBlock = some g' → N9 ≠ g' by intro g' e; rcases hat with h | h; exact NE9.out g' (h.symm.trans e); have : N9 < _ := R9.out.lt (by simp) _ rfl; rw [h] at e; have := Option.some.inj e; omega)
                        try have R9 := Lib.hid (R9.out.grown hg (fun g' e a ea => by cases ea; exact NE9.out g' e))
                        try have NE9 := NE9n
                        have Z := Lib.hid (below_own Z.out O.out hg)
                        have O := Lib.hid ho
                        clear ho hg hat
                        refine hK.out _ _ (Z.out) ?_
                        clear hK K
                        refine road_t rfl rfl (fun K hK => ?_)
                        go_simp
                        generalize hB : Array.size (World.heap _) = N9
                        generalize hw : World.alloc _ _ = wn
                        obtain ⟨hr, hs, hb⟩ := built_one (x := 0) hw hB Z.out
                        have R9 := Lib.hid hr
                        have Z := Lib.hid hs
                        try have NE9 := Lib.hid (show ∀ g', (Value.slice (some ⟨N4, 0, none⟩) 0 0).ownBlock = some g' → N9 ≠ g' by intro g' e; have := (O.out.lt g' e).2; omega)
                        try have O := Lib.hid (O.out.below hb)
                        clear hB hw hb hr hs
                        refine hK.out _ _ (Z.out) ?_
                        clear hK K
                        refine road_t rfl rfl (fun K hK => ?_)
                        refine app_wp TB.out (.tmp 164) (.tmp 165) rfl w7.heap.size _ _ [0] (some ⟨N9, 0, none⟩) 1 1 rfl rfl rfl O.out R9.out Z.out.size (by have := BQ.out; have := BL.out; simp; omega) ?_
                        intro v10 w9 ho hg _
                        have Z := Lib.hid (below_own Z.out O.out hg)
                        obtain ⟨A10, c10, rfl, hr, hl, _, _⟩ := ho.read
                        have LE := Lib.hid (show ([] ++ bs ++ [0] : List UInt8).length = p + 1 by simp [BL.out])
                        rw [LE.out] at hl ⊢
                        have R10 := Lib.hid hr
                        clear ho hg hr hl
                        refine hK.out _ _ (Z.out) ?_
                        clear hK K
                        refine road_t rfl rfl (fun K hK => ?_)
                        go_simp
                        refine (bopen_both w3 g S D b L s _ (P7.out.box.keep Z.out) MK.out (keyK ky) ([] ++ bs ++ [0]) x rfl A10 (p + 1) c10 LE.out R10.out (by have := BQ.out; omega) Ax nx cx NX.out XC.out (RX.out.keep Z.out) (by have := NXB.out; omega) TXT.out).mono ?_
                        rw [NB.out]
                        rintro e wh hop
                        obtain ⟨rfl, hb⟩ := OpenP.no hop
                        have Z := Lib.hid (Z.out.trans (hb.mono Z.out.size))
                        clear hop hb
                        refine hK.out _ _ (Z.out) ?_
                        clear hK K
                        refine road_q (v := ?_) rfl rfl (Z.out) ?_ ?_
                        rotate_left
                        · intro W hW
                          go_simp
                          with_reducible rfl
                        simp only [Act.put, List.setIfInBounds_toArray, List.set_cons_zero, List.set_cons_succ]
                        refine road_q (v := ?_) rfl rfl (Z.out) ?_ ?_
                        rotate_left
                        · intro W hW
                          go_simp
                          with_reducible rfl
                        simp only [Act.put, List.setIfInBounds_toArray, List.set_cons_zero, List.set_cons_succ]
                        refine road_q (v := ?_) rfl rfl (Z.out) ?_ ?_
                        rotate_left
                        · intro W hW
                          go_simp
                          with_reducible rfl
                        simp only [Act.put, List.setIfInBounds_toArray, List.set_cons_zero, List.set_cons_succ]
                        refine road_q (v := ?_) rfl rfl (Z.out) ?_ ?_
                        rotate_left
                        · intro W hW
                          go_simp
                          with_reducible rfl
                        simp only [Act.put, List.setIfInBounds_toArray, List.set_cons_zero, List.set_cons_succ]
                        refine road_q (v := ?_) rfl rfl (Z.out) ?_ ?_
                        rotate_left
                        · intro W hW
                          go_simp
                          with_reducible rfl
                        simp only [Act.put, List.setIfInBounds_toArray, List.set_cons_zero, List.set_cons_succ]
                        refine road_done ?_
                        go_wp2_with fail
                        rw [show ((1 : Nat) : Int) = 1 from rfl]
                        go_roundw
                        case rel => exact ⟨j + 1, by have := JM.out; omega, by go_num, P7.out.keep Z.out⟩
                        case measure => have := JM.out; simp [intOf]; omega
                    ·
                      as_aux_lemma =>
                        refine road_t rfl rfl (fun K hK => ?_)
                        go_simp
                        generalize hB : Array.size (World.heap _) = N9
                        generalize hw : World.alloc _ _ = wn
                        obtain ⟨hr, hs, hb⟩ := built_one (x := 0) hw hB Z.out
                        have R9 := Lib.hid hr
                        have Z := Lib.hid hs
                        try have NE9 := Lib.hid (show ∀ g', (Value.slice (some ⟨N4, 0, none⟩) 0 0).ownBlock = some g' → N9 ≠ g' by intro g' e; have := (O.out.lt g' e).2; omega)
                        try have O := Lib.hid (O.out.below hb)
                        clear hB hw hb hr hs
                        refine hK.out _ _ (Z.out) ?_
                        clear hK K
                        refine road_t rfl rfl (fun K hK => ?_)
                        refine app_wp TB.out (.tmp 160) (.tmp 163) rfl w7.heap.size _ [] bs Ab p cb rfl rfl BL.out O.out ((BR.out.keep BW7.out).keep Z.out) Z.out.size (by have := BQ.out; simp; omega) ?_
                        intro v8 w6 ho hg hat
                        try have NE9n := Lib.hid (show ∀ g', v8.ownBlock = some g' → N9 ≠ g' by intro g' e; rcases hat with h | h; exact NE9.out g' (h.symm.trans e); have : N9 < _ := R9.out.lt (by simp) _ rfl; rw [h] at e; have := Option.some.inj e; omega)
                        try have R9 := Lib.hid (R9.out.grown hg (fun g' e a ea => by cases ea; exact NE9.out g' e))
                        try have NE9 := NE9n
                        have Z := Lib.hid (below_own Z.out O.out hg)
                        have O := Lib.hid ho
                        clear ho hg hat
                        refine hK.out _ _ (Z.out) ?_
                        clear hK K
                        refine road_t rfl rfl (fun K hK => ?_)
                        refine app_wp TB.out (.tmp 164) (.tmp 165) rfl w7.heap.size _ _ [0] (some ⟨N9, 0, none⟩) 1 1 rfl rfl rfl O.out R9.out Z.out.size (by have := BQ.out; have := BL.out; simp; omega) ?_
                        intro v10 w9 ho hg _
                        have Z := Lib.hid (below_own Z.out O.out hg)
                        obtain ⟨A10, c10, rfl, hr, hl, _, _⟩ := ho.read
                        have LE := Lib.hid (show ([] ++ bs ++ [0] : List UInt8).length = p + 1 by simp [BL.out])
                        rw [LE.out] at hl ⊢
                        have R10 := Lib.hid hr
                        clear ho hg hr hl
                        refine hK.out _ _ (Z.out) ?_
                        clear hK K
                        refine road_t rfl rfl (fun K hK => ?_)
                        go_simp
                        refine (bopen_both w3 g S D b L s _ (P7.out.box.keep Z.out) MK.out (keyK ky) ([] ++ bs ++ [0]) x rfl A10 (p + 1) c10 LE.out R10.out (by have := BQ.out; omega) Ax nx cx NX.out XC.out (RX.out.keep Z.out) (by have := NXB.out; omega) TXT.out).mono ?_
                        rw [NB.out]
                        rintro e wh hop
                        obtain ⟨rfl, hb⟩ := OpenP.no hop
                        have Z := Lib.hid (Z.out.trans (hb.mono Z.out.size))
                        clear hop hb
                        refine hK.out _ _ (Z.out) ?_
                        clear hK K
                        refine road_q (v := ?_) rfl rfl (Z.out) ?_ ?_
                        rotate_left
                        · intro W hW
                          go_simp
                          with_reducible rfl
                        simp only [Act.put, List.setIfInBounds_toArray, List.set_cons_zero, List.set_cons_succ]
                        refine road_q (v := ?_) rfl rfl (Z.out) ?_ ?_
                        rotate_left
                        · intro W hW
                          go_simp
                          with_reducible rfl
                        simp only [Act.put, List.setIfInBounds_toArray, List.set_cons_zero, List.set_cons_succ]
                        refine road_q (v := ?_) rfl rfl (Z.out) ?_ ?_
                        rotate_left
                        · intro W hW
                          go_simp
                          with_reducible rfl
                        simp only [Act.put, List.setIfInBounds_toArray, List.set_cons_zero, List.set_cons_succ]
                        refine road_q (v := ?_) rfl rfl (Z.out) ?_ ?_
                        rotate_left
                        · intro W hW
                          go_simp
                          with_reducible rfl
                        simp only [Act.put, List.setIfInBounds_toArray, List.set_cons_zero, List.set_cons_succ]
                        refine road_q (v := ?_) rfl rfl (Z.out) ?_ ?_
                        rotate_left
                        · intro W hW
                          go_simp
                          with_reducible rfl
                        simp only [Act.put, List.setIfInBounds_toArray, List.set_cons_zero, List.set_cons_succ]
                        refine road_done ?_
                        go_wp2_with fail
                        rw [show ((1 : Nat) : Int) = 1 from rfl]
                        go_roundw
                        case rel => exact ⟨j + 1, by have := JM.out; omega, by go_num, P7.out.keep Z.out⟩
                        case measure => have := JM.out; simp [intOf]; omega
                ·
                  as_aux_lemma =>
                    refine road_t rfl rfl (fun K hK => ?_)
                    go_simp
                    generalize hB : Array.size (World.heap _) = N9
                    generalize hw : World.alloc _ _ = wn
                    obtain ⟨hr, hs, hb⟩ := built_one (x := 0) hw hB Z.out
                    have R9 := Lib.hid hr
                    have Z := Lib.hid hs
                    try have NE9 := Lib.hid (show ∀ g', (Value.slice (some ⟨N4, 0, none⟩) 0 0).ownBlock = some g' → N9 ≠ g' by intro g' e; have := (O.out.lt g' e).2; omega)
                    try have O := Lib.hid (O.out.below hb)
                    clear hB hw hb hr hs
                    refine hK.out _ _ (Z.out) ?_
                    clear hK K
                    refine road_t rfl rfl (fun K hK => ?_)
                    go_simp
                    refine (bshort_any _ Ab lb.length cb lb rfl OKW.out.1.2).mono ?_
                    rw [← BSE.out, BL.out]
                    rintro e wd ⟨rfl, hw⟩
                    rw [hw]
                    clear hw wd
                    refine hK.out _ _ (Z.out) ?_
                    clear hK K
                    refine road_t rfl rfl (fun K hK => ?_)
                    refine app_wp TB.out (.tmp 160) (.tmp 163) rfl w7.heap.size _ [] bs Ab p cb rfl rfl BL.out O.out ((BR.out.keep BW7.out).keep Z.out) Z.out.size (by have := BQ.out; simp; omega) ?_
                    intro v8 w6 ho hg hat
                    try have NE9n := Lib.hid (show ∀ g', v8.ownBlock = some g' → N9 ≠ g' by intro g' e; rcases hat with h | h; exact NE9.out g' (h.symm.trans e); have : N9 < _ := R9.out.lt (by simp) _ rfl; rw [h] at e; have := Option.some.inj e; omega)
                    try have R9 := Lib.hid (R9.out.grown hg (fun g' e a ea => by cases ea; exact NE9.out g' e))
                    try have NE9 := NE9n
                    have Z := Lib.hid (below_own Z.out O.out hg)
                    have O := Lib.hid ho
                    clear ho hg hat
                    refine hK.out _ _ (Z.out) ?_
                    clear hK K
                    refine road_t rfl rfl (fun K hK => ?_)
                    refine app_wp TB.out (.tmp 164) (.tmp 165) rfl w7.heap.size _ _ [0] (some ⟨N9, 0, none⟩) 1 1 rfl rfl rfl O.out R9.out Z.out.size (by have := BQ.out; have := BL.out; simp; omega) ?_
                    intro v10 w9 ho hg _
                    have Z := Lib.hid (below_own Z.out O.out hg)
                    obtain ⟨A10, c10, rfl, hr, hl, _, _⟩ := ho.read
                    have LE := Lib.hid (show ([] ++ bs ++ [0] : List UInt8).length = p + 1 by simp [BL.out])
                    rw [LE.out] at hl ⊢
                    have R10 := Lib.hid hr
                    clear ho hg hr hl
                    refine hK.out _ _ (Z.out) ?_
                    clear hK K
                    refine road_t rfl rfl (fun K hK => ?_)
                    go_simp
                    refine (bopen_both w3 g S D b L s _ (P7.out.box.keep Z.out) MK.out (keyK ky) ([] ++ bs ++ [0]) x rfl A10 (p + 1) c10 LE.out R10.out (by have := BQ.out; omega) Ax nx cx NX.out XC.out (RX.out.keep Z.out) (by have := NXB.out; omega) TXT.out).mono ?_
                    rw [NB.out]
                    rintro e wh hop
                    obtain ⟨rfl, hb⟩ := OpenP.no hop
                    have Z := Lib.hid (Z.out.trans (hb.mono Z.out.size))
                    clear hop hb
                    refine hK.out _ _ (Z.out) ?_
                    clear hK K
                    refine road_q (v := ?_) rfl rfl (Z.out) ?_ ?_
                    rotate_left
                    · intro W hW
                      go_simp
                      with_reducible rfl
                    simp only [Act.put, List.setIfInBounds_toArray, List.set_cons_zero, List.set_cons_succ]
                    refine road_q (v := ?_) rfl rfl (Z.out) ?_ ?_
                    rotate_left
                    · intro W hW
                      go_simp
                      with_reducible rfl
                    simp only [Act.put, List.setIfInBounds_toArray, List.set_cons_zero, List.set_cons_succ]
                    refine road_q (v := ?_) rfl rfl (Z.out) ?_ ?_
                    rotate_left
                    · intro W hW
                      go_simp
                      with_reducible rfl
                    simp only [Act.put, List.setIfInBounds_toArray, List.set_cons_zero, List.set_cons_succ]
                    refine road_q (v := ?_) rfl rfl (Z.out) ?_ ?_
                    rotate_left
                    · intro W hW
                      go_simp
                      with_reducible rfl
                    simp only [Act.put, List.setIfInBounds_toArray, List.set_cons_zero, List.set_cons_succ]
                    refine road_q (v := ?_) rfl rfl (Z.out) ?_ ?_
                    rotate_left
                    · intro W hW
                      go_simp
                      with_reducible rfl
                    simp only [Act.put, List.setIfInBounds_toArray, List.set_cons_zero, List.set_cons_succ]
                    refine road_done ?_
                    go_wp2_with fail
                    rw [show ((1 : Nat) : Int) = 1 from rfl]
                    go_roundw
                    case rel => exact ⟨j + 1, by have := JM.out; omega, by go_num, P7.out.keep Z.out⟩
                    case measure => have := JM.out; simp [intOf]; omega
            ·
              as_aux_lemma =>
                refine road_t rfl rfl (fun K hK => ?_)
                go_simp
                refine (bshort_any _ Ab lb.length cb lb rfl OKW.out.1.2).mono ?_
                rw [← BSE.out, BL.out]
                rintro e wd ⟨rfl, hw⟩
                rw [hw]
                clear hw wd
                refine hK.out _ _ (Z.out) ?_
                clear hK K
                refine road_two ?_ ?_
                ·
                  as_aux_lemma =>
                    refine road_t rfl rfl (fun K hK => ?_)
                    go_simp
                    generalize hB : Array.size (World.heap _) = N4
                    generalize hw : World.alloc _ _ = wn
                    obtain ⟨ho, hs, hb⟩ := made_new hw hB Z.out
                    have O := Lib.hid ho
                    have Z := Lib.hid hs
                    try have NE9 := Lib.hid (show ∀ g', (Value.slice (some ⟨N4, 0, none⟩) 0 0).ownBlock = some g' → N9 ≠ g' by intro g' e; have h1 := R9.out.lt1; have h2 : N4 = g' := Option.some.inj e; omega)
                    try have R9 := Lib.hid (R9.out.keep hb)
                    clear hB hw hb ho hs
                    refine hK.out _ _ (Z.out) ?_
                    clear hK K
                    refine road_two ?_ ?_
                    ·
                      as_aux_lemma =>
                        refine road_t rfl rfl (fun K hK => ?_)
                        refine app_wp TB.out (.tmp 160) (.tmp 163) rfl w7.heap.size _ [] bs Ab p cb rfl rfl BL.out O.out ((BR.out.keep BW7.out).keep Z.out) Z.out.size (by have := BQ.out; simp; omega) ?_
                        intro v8 w6 ho hg hat
                        try have NE9n := Lib.hid (show ∀ g', v8.ownBlock = some g' → N9 ≠ g' by intro g' e; rcases hat with h | h; exact NE9.out g' (h.symm.trans e); have : N9 < _ := R9.out.lt (by simp) _ rfl; rw [h] at e; have := Option.some.inj e; omega)
                        try have R9 := Lib.hid (R9.out.grown hg (fun g' e a ea => by cases ea; exact NE9.out g' e))
                        try have NE9 := NE9n
                        have Z := Lib.hid (below_own Z.out O.out hg)
                        have O := Lib.hid ho
                        clear ho hg hat
                        refine hK.out _ _ (Z.out) ?_
                        clear hK K
                        refine road_t rfl rfl (fun K hK => ?_)
                        go_simp
                        generalize hB : Array.size (World.heap _) = N9
                        generalize hw : World.alloc _ _ = wn
                        obtain ⟨hr, hs, hb⟩ := built_one (x := 0) hw hB Z.out
                        have R9 := Lib.hid hr
                        have Z := Lib.hid hs
                        try have NE9 := Lib.hid (show ∀ g', (Value.slice (some ⟨N4, 0, none⟩) 0 0).ownBlock = some g' → N9 ≠ g' by intro g' e; have := (O.out.lt g' e).2; omega)
                        try have O := Lib.hid (O.out.below hb)
                        clear hB hw hb hr hs
                        refine hK.out _ _ (Z.out) ?_
                        clear hK K
                        refine road_t rfl rfl (fun K hK => ?_)
                        refine app_wp TB.out (.tmp 164) (.tmp 165) rfl w7.heap.size _ _ [0] (some ⟨N9, 0, none⟩) 1 1 rfl rfl rfl O.out R9.out Z.out.size (by have := BQ.out; have := BL.out; simp; omega) ?_
                        intro v10 w9 ho hg _
                        have Z := Lib.hid (below_own Z.out O.out hg)
                        obtain ⟨A10, c10, rfl, hr, hl, _, _⟩ := ho.read
                        have LE := Lib.hid (show ([] ++ bs ++ [0] : List UInt8).length = p + 1 by simp [BL.out])
                        rw [LE.out] at hl ⊢
                        have R10 := Lib.hid hr
                        clear ho hg hr hl
                        refine hK.out _ _ (Z.out) ?_
                        clear hK K
                        refine road_t rfl rfl (fun K hK => ?_)
                        go_simp
                        refine (bopen_both w3 g S D b L s _ (P7.out.box.keep Z.out) MK.out (keyK ky) ([] ++ bs ++ [0]) x rfl A10 (p + 1) c10 LE.out R10.out (by have := BQ.out; omega) Ax nx cx NX.out XC.out (RX.out.keep Z.out) (by have := NXB.out; omega) TXT.out).mono ?_
                        rw [NB.out]
                        rintro e wh hop
                        obtain ⟨rfl, hb⟩ := OpenP.no hop
                        have Z := Lib.hid (Z.out.trans (hb.mono Z.out.size))
                        clear hop hb
                        refine hK.out _ _ (Z.out) ?_
                        clear hK K
                        refine road_q (v := ?_) rfl rfl (Z.out) ?_ ?_
                        rotate_left
                        · intro W hW
                          go_simp
                          with_reducible rfl
                        simp only [Act.put, List.setIfInBounds_toArray, List.set_cons_zero, List.set_cons_succ]
                        refine road_q (v := ?_) rfl rfl (Z.out) ?_ ?_
                        rotate_left
                        · intro W hW
                          go_simp
                          with_reducible rfl
                        simp only [Act.put, List.setIfInBounds_toArray, List.set_cons_zero, List.set_cons_succ]
                        refine road_q (v := ?_) rfl rfl (Z.out) ?_ ?_
                        rotate_left
                        · intro W hW
                          go_simp
                          with_reducible rfl
                        simp only [Act.put, List.setIfInBounds_toArray, List.set_cons_zero, List.set_cons_succ]
                        refine road_q (v := ?_) rfl rfl (Z.out) ?_ ?_
                        rotate_left
                        · intro W hW
                          go_simp
                          with_reducible rfl
                        simp only [Act.put, List.setIfInBounds_toArray, List.set_cons_zero, List.set_cons_succ]
                        refine road_q (v := ?_) rfl rfl (Z.out) ?_ ?_
                        rotate_left
                        · intro W hW
                          go_simp
                          with_reducible rfl
                        simp only [Act.put, List.setIfInBounds_toArray, List.set_cons_zero, List.set_cons_succ]
                        refine road_done ?_
                        go_wp2_with fail
                        rw [show ((1 : Nat) : Int) = 1 from rfl]
                        go_roundw
                        case rel => exact ⟨j + 1, by have := JM.out; omega, by go_num, P7.out.keep Z.out⟩
                        case measure => have := JM.out; simp [intOf]; omega
                    ·
                      as_aux_lemma =>
                        refine road_t rfl rfl (fun K hK => ?_)
                        go_simp
                        generalize hB : Array.size (World.heap _) = N9
                        generalize hw : World.alloc _ _ = wn
                        obtain ⟨hr, hs, hb⟩ := built_one (x := 0) hw hB Z.out
                        have R9 := Lib.hid hr
                        have Z := Lib.hid hs
                        try have NE9 := Lib.hid (show ∀ g', (Value.slice (some ⟨N4, 0, none⟩) 0 0).ownBlock = some g' → N9 ≠ g' by intro g' e; have := (O.out.lt g' e).2; omega)
                        try have O := Lib.hid (O.out.below hb)
                        clear hB hw hb hr hs
                        refine hK.out _ _ (Z.out) ?_
                        clear hK K
                        refine road_t rfl rfl (fun K hK => ?_)
                        refine app_wp TB.out (.tmp 160) (.tmp 163) rfl w7.heap.size _ [] bs Ab p cb rfl rfl BL.out O.out ((BR.out.keep BW7.out).keep Z.out) Z.out.size (by have := BQ.out; simp; omega) ?_
                        intro v8 w6 ho hg hat
                        try have NE9n := Lib.hid (show ∀ g', v8.ownBlock = some g' → N9 ≠ g' by intro g' e; rcases hat with h | h; exact NE9.out g' (h.symm.trans e); have : N9 < _ := R9.out.lt (by simp) _ rfl; rw [h] at e; have := Option.some.inj e; omega)
                        try have R9 := Lib.hid (R9.out.grown hg (fun g' e a ea => by cases ea; exact NE9.out g' e))
                        try have NE9 := NE9n
                        have Z := Lib.hid (below_own Z.out O.out hg)
                        have O := Lib.hid ho
                        clear ho hg hat
                        refine hK.out _ _ (Z.out) ?_
                        clear hK K
                        refine road_t rfl rfl (fun K hK => ?_)
                        refine app_wp TB.out (.tmp 164) (.tmp 165) rfl w7.heap.size _ _ [0] (some ⟨N9, 0, none⟩) 1 1 rfl rfl rfl O.out R9.out Z.out.size (by have := BQ.out; have := BL.out; simp; omega) ?_
                        intro v10 w9 ho hg _
                        have Z := Lib.hid (below_own Z.out O.out hg)
                        obtain ⟨A10, c10, rfl, hr, hl, _, _⟩ := ho.read
                        have LE := Lib.hid (show ([] ++ bs ++ [0] : List UInt8).length = p + 1 by simp [BL.out])
                        rw [LE.out] at hl ⊢
                        have R10 := Lib.hid hr
                        clear ho hg hr hl
                        refine hK.out _ _ (Z.out) ?_
                        clear hK K
                        refine road_t rfl rfl (fun K hK => ?_)
                        go_simp
                        refine (bopen_both w3 g S D b L s _ (P7.out.box.keep Z.out) MK.out (keyK ky) ([] ++ bs ++ [0]) x rfl A10 (p + 1) c10 LE.out R10.out (by have := BQ.out; omega) Ax nx cx NX.out XC.out (RX.out.keep Z.out) (by have := NXB.out; omega) TXT.out).mono ?_
                        rw [NB.out]
                        rintro e wh hop
                        obtain ⟨rfl, hb⟩ := OpenP.no hop
                        have Z := Lib.hid (Z.out.trans (hb.mono Z.out.size))
                        clear hop hb
                        refine hK.out _ _ (Z.out) ?_
                        clear hK K
                        refine road_q (v := ?_) rfl rfl (Z.out) ?_ ?_
                        rotate_left
                        · intro W hW
                          go_simp
                          with_reducible rfl
                        simp only [Act.put, List.setIfInBounds_toArray, List.set_cons_zero, List.set_cons_succ]
                        refine road_q (v := ?_) rfl rfl (Z.out) ?_ ?_
                        rotate_left
                        · intro W hW
                          go_simp
                          with_reducible rfl
                        simp only [Act.put, List.setIfInBounds_toArray, List.set_cons_zero, List.set_cons_succ]
                        refine road_q (v := ?_) rfl rfl (Z.out) ?_ ?_
                        rotate_left
                        · intro W hW
                          go_simp
                          with_reducible rfl
                        simp only [Act.put, List.setIfInBounds_toArray, List.set_cons_zero, List.set_cons_succ]
                        refine road_q (v := ?_) rfl rfl (Z.out) ?_ ?_
                        rotate_left
                        · intro W hW
                          go_simp
                          with_reducible rfl
                        simp only [Act.put, List.setIfInBounds_toArray, List.set_cons_zero, List.set_cons_succ]
                        refine road_q (v := ?_) rfl rfl (Z.out) ?_ ?_
                        rotate_left
                        · intro W hW
                          go_simp
                          with_reducible rfl
                        simp only [Act.put, List.setIfInBounds_toArray, List.set_cons_zero, List.set_cons_succ]
                        refine road_done ?_
                        go_wp2_with fail
                        rw [show ((1 : Nat) : Int) = 1 from rfl]
                        go_roundw
                        case rel => exact ⟨j + 1, by have := JM.out; omega, by go_num, P7.out.keep Z.out⟩
                        case measure => have := JM.out; simp [intOf]; omega
                ·
                  as_aux_lemma =>
                    refine road_t rfl rfl (fun K hK => ?_)
                    go_simp
                    generalize hB : Array.size (World.heap _) = N9
                    generalize hw : World.alloc _ _ = wn
                    obtain ⟨hr, hs, hb⟩ := built_one (x := 0) hw hB Z.out
                    have R9 := Lib.hid hr
                    have Z := Lib.hid hs
                    try have NE9 := Lib.hid (show ∀ g', (Value.slice (some ⟨N4, 0, none⟩) 0 0).ownBlock = some g' → N9 ≠ g' by intro g' e; have := (O.out.lt g' e).2; omega)
                    try have O := Lib.hid (O.out.below hb)
                    clear hB hw hb hr hs
                    refine hK.out _ _ (Z.out) ?_
                    clear hK K
                    refine road_t rfl rfl (fun K hK => ?_)
                    go_simp
                    generalize hB : Array.size (World.heap _) = N4
                    generalize hw : World.alloc _ _ = wn
                    obtain ⟨ho, hs, hb⟩ := made_new hw hB Z.out
                    have O := Lib.hid ho
                    have Z := Lib.hid hs
                    try have NE9 := Lib.hid (show ∀ g', (Value.slice (some ⟨N4, 0, none⟩) 0 0).ownBlock = some g' → N9 ≠ g' by intro g' e; have h1 := R9.out.lt1; have h2 : N4 = g' := Option.some.inj e; omega)
                    try have R9 := Lib.hid (R9.out.keep hb)
                    clear hB hw hb ho hs
                    refine hK.out _ _ (Z.out) ?_
                    clear hK K
                    refine road_t rfl rfl (fun K hK => ?_)
                    refine app_wp TB.out (.tmp 160) (.tmp 163) rfl w7.heap.size _ [] bs Ab p cb rfl rfl BL.out O.out ((BR.out.keep BW7.out).keep Z.out) Z.out.size (by have := BQ.out; simp; omega) ?_
                    intro v8 w6 ho hg hat
                    try have NE9n := Lib.hid (show ∀ g', v8.ownBlock = some g' → N9 ≠ g' by intro g' e; rcases hat with h | h; exact NE9.out g' (h.symm.trans e); have : N9 < _ := R9.out.lt (by simp) _ rfl; rw [h] at e; have := Option.some.inj e; omega)
                    try have R9 := Lib.hid (R9.out.grown hg (fun g' e a ea => by cases ea; exact NE9.out g' e))
                    try have NE9 := NE9n
                    have Z := Lib.hid (below_own Z.out O.out hg)
                    have O := Lib.hid ho
                    clear ho hg hat
                    refine hK.out _ _ (Z.out) ?_
                    clear hK K
                    refine road_t rfl rfl (fun K hK => ?_)
                    refine app_wp TB.out (.tmp 164) (.tmp 165) rfl w7.heap.size _ _ [0] (some ⟨N9, 0, none⟩) 1 1 rfl rfl rfl O.out R9.out Z.out.size (by have := BQ.out; have := BL.out; simp; omega) ?_
                    intro v10 w9 ho hg _
                    have Z := Lib.hid (below_own Z.out O.out hg)
                    obtain ⟨A10, c10, rfl, hr, hl, _, _⟩ := ho.read
                    have LE := Lib.hid (show ([] ++ bs ++ [0] : List UInt8).length = p + 1 by simp [BL.out])
                    rw [LE.out] at hl ⊢
                    have R10 := Lib.hid hr
                    clear ho hg hr hl
                    refine hK.out _ _ (Z.out) ?_
                    clear hK K
                    refine road_t rfl rfl (fun K hK => ?_)
                    go_simp
                    refine (bopen_both w3 g S D b L s _ (P7.out.box.keep Z.out) MK.out (keyK ky) ([] ++ bs ++ [0]) x rfl A10 (p + 1) c10 LE.out R10.out (by have := BQ.out; omega) Ax nx cx NX.out XC.out (RX.out.keep Z.out) (by have := NXB.out; omega) TXT.out).mono ?_
                    rw [NB.out]
                    rintro e wh hop
                    obtain ⟨rfl, hb⟩ := OpenP.no hop
                    have Z := Lib.hid (Z.out.trans (hb.mono Z.out.size))
                    clear hop hb
                    refine hK.out _ _ (Z.out) ?_
                    clear hK K
                    refine road_q (v := ?_) rfl rfl (Z.out) ?_ ?_
                    rotate_left
                    · intro W hW
                      go_simp
                      with_reducible rfl
                    simp only [Act.put, List.setIfInBounds_toArray, List.set_cons_zero, List.set_cons_succ]
                    refine road_q (v := ?_) rfl rfl (Z.out) ?_ ?_
                    rotate_left
                    · intro W hW
                      go_simp
                      with_reducible rfl
                    simp only [Act.put, List.setIfInBounds_toArray, List.set_cons_zero, List.set_cons_succ]
                    refine road_q (v := ?_) rfl rfl (Z.out) ?_ ?_
                    rotate_left
                    · intro W hW
                      go_simp
                      with_reducible rfl
                    simp only [Act.put, List.setIfInBounds_toArray, List.set_cons_zero, List.set_cons_succ]
                    refine road_q (v := ?_) rfl rfl (Z.out) ?_ ?_
                    rotate_left
                    · intro W hW
                      go_simp
                      with_reducible rfl
                    simp only [Act.put, List.setIfInBounds_toArray, List.set_cons_zero, List.set_cons_succ]
                    refine road_q (v := ?_) rfl rfl (Z.out) ?_ ?_
                    rotate_left
                    · intro W hW
                      go_simp
                      with_reducible rfl
                    simp only [Act.put, List.setIfInBounds_toArray, List.set_cons_zero, List.set_cons_succ]
                    refine road_done ?_
                    go_wp2_with fail
                    rw [show ((1 : Nat) : Int) = 1 from rfl]
                    go_roundw
                    case rel => exact ⟨j + 1, by have := JM.out; omega, by go_num, P7.out.keep Z.out⟩
                    case measure => have := JM.out; simp [intOf]; omega
            ·
              as_aux_lemma =>
                refine road_t rfl rfl (fun K hK => ?_)
                go_simp
                generalize hB : Array.size (World.heap _) = N9
                generalize hw : World.alloc _ _ = wn
                obtain ⟨hr, hs, hb⟩ := built_one (x := 0) hw hB Z.out
                have R9 := Lib.hid hr
                have Z := Lib.hid hs
                try have NE9 := Lib.hid (show ∀ g', (Value.slice (some ⟨N4, 0, none⟩) 0 0).ownBlock = some g' → N9 ≠ g' by intro g' e; have := (O.out.lt g' e).2; omega)
                try have O := Lib.hid (O.out.below hb)
                clear hB hw hb hr hs
                refine hK.out _ _ (Z.out) ?_
                clear hK K
                refine road_two ?_ ?_
                ·
                  as_aux_lemma =>
                    refine road_t rfl rfl (fun K hK => ?_)
                    go_simp
                    generalize hB : Array.size (World.heap _) = N4
                    generalize hw : World.alloc _ _ = wn
                    obtain ⟨ho, hs, hb⟩ := made_new hw hB Z.out
                    have O := Lib.hid ho
                    have Z := Lib.hid hs
                    try have NE9 := Lib.hid (show ∀ g', (Value.slice (some ⟨N4, 0, none⟩) 0 0).ownBlock = some g' → N9 ≠ g' by intro g' e; have h1 := R9.out.lt1; have h2 : N4 = g' := Option.some.inj e; omega)
                    try have R9 := Lib.hid (R9.out.keep hb)
                    clear hB hw hb ho hs
                    refine hK.out _ _ (Z.out) ?_
                    clear hK K
                    refine road_t rfl rfl (fun K hK => ?_)
                    go_simp
                    refine (bshort_any _ Ab lb.length cb lb rfl OKW.out.1.2).mono ?_
                    rw [← BSE.out, BL.out]
                    rintro e wd ⟨rfl, hw⟩
                    rw [hw]
                    clear hw wd
                    refine hK.out _ _ (Z.out) ?_
                    clear hK K
                    refine road_t rfl rfl (fun K hK => ?_)
                    refine app_wp TB.out (.tmp 160) (.tmp 163) rfl w7.heap.size _ [] bs Ab p cb rfl rfl BL.out O.out ((BR.out.keep BW7.out).keep Z.out) Z.out.size (by have := BQ.out; simp; omega) ?_
                    intro v8 w6 ho hg hat
                    try have NE9n := Lib.hid (show ∀ g', v8.ownBlock = some g' → N9 ≠ g' by intro g' e; rcases hat with h | h; exact NE9.out g' (h.symm.trans e); have : N9 < _ := R9.out.lt (by simp) _ rfl; rw [h] at e; have := Option.some.inj e; omega)
                    try have R9 := Lib.hid (R9.out.grown hg (fun g' e a ea => by cases ea; exact NE9.out g' e))
                    try have NE9 := NE9n
                    have Z := Lib.hid (below_own Z.out O.out hg)
                    have O := Lib.hid ho
                    clear ho hg hat
                    refine hK.out _ _ (Z.out) ?_
                    clear hK K
                    refine road_t rfl rfl (fun K hK => ?_)
                    refine app_wp TB.out (.tmp 164) (.tmp 165) rfl w7.heap.size _ _ [0] (some ⟨N9, 0, none⟩) 1 1 rfl rfl rfl O.out R9.out Z.out.size (by have := BQ.out; have := BL.out; simp; omega) ?_
                    intro v10 w9 ho hg _
                    have Z := Lib.hid (below_own Z.out O.out hg)
                    obtain ⟨A10, c10, rfl, hr, hl, _, _⟩ := ho.read
                    have LE := Lib.hid (show ([] ++ bs ++ [0] : List UInt8).length = p + 1 by simp [BL.out])
                    rw [LE.out] at hl ⊢
                    have R10 := Lib.hid hr
                    clear ho hg hr hl
                    refine hK.out _ _ (Z.out) ?_
                    clear hK K
                    refine road_t rfl rfl (fun K hK => ?_)
                    go_simp
                    refine (bopen_both w3 g S D b L s _ (P7.out.box.keep Z.out) MK.out (keyK ky) ([] ++ bs ++ [0]) x rfl A10 (p + 1) c10 LE.out R10.out (by have := BQ.out; omega) Ax nx cx NX.out XC.out (RX.out.keep Z.out) (by have := NXB.out; omega) TXT.out).mono ?_
                    rw [NB.out]
                    rintro e wh hop
                    obtain ⟨rfl, hb⟩ := OpenP.no hop
                    have Z := Lib.hid (Z.out.trans (hb.mono Z.out.size))
                    clear hop hb
                    refine hK.out _ _ (Z.out) ?_
                    clear hK K
                    refine road_q (v := ?_) rfl rfl (Z.out) ?_ ?_
                    rotate_left
                    · intro W hW
                      go_simp
                      with_reducible rfl
                    simp only [Act.put, List.setIfInBounds_toArray, List.set_cons_zero, List.set_cons_succ]
                    refine road_q (v := ?_) rfl rfl (Z.out) ?_ ?_
                    rotate_left
                    · intro W hW
                      go_simp
                      with_reducible rfl
                    simp only [Act.put, List.setIfInBounds_toArray, List.set_cons_zero, List.set_cons_succ]
                    refine road_q (v := ?_) rfl rfl (Z.out) ?_ ?_
                    rotate_left
                    · intro W hW
                      go_simp
                      with_reducible rfl
                    simp only [Act.put, List.setIfInBounds_toArray, List.set_cons_zero, List.set_cons_succ]
                    refine road_q (v := ?_) rfl rfl (Z.out) ?_ ?_
                    rotate_left
                    · intro W hW
                      go_simp
                      with_reducible rfl
                    simp only [Act.put, List.setIfInBounds_toArray, List.set_cons_zero, List.set_cons_succ]
                    refine road_q (v := ?_) rfl rfl (Z.out) ?_ ?_
                    rotate_left
                    · intro W hW
                      go_simp
                      with_reducible rfl
                    simp only [Act.put, List.setIfInBounds_toArray, List.set_cons_zero, List.set_cons_succ]
                    refine road_done ?_
                    go_wp2_with fail
                    rw [show ((1 : Nat) : Int) = 1 from rfl]
                    go_roundw
                    case rel => exact ⟨j + 1, by have := JM.out; omega, by go_num, P7.out.keep Z.out⟩
                    case measure => have := JM.out; simp [intOf]; omega
                ·
                  as_aux_lemma =>
                    refine road_t rfl rfl (fun K hK => ?_)
                    go_simp
                    refine (bshort_any _ Ab lb.length cb lb rfl OKW.out.1.2).mono ?_
                    rw [← BSE.out, BL.out]
                    rintro e wd ⟨rfl, hw⟩
                    rw [hw]
                    clear hw wd
                    refine hK.out _ _ (Z.out) ?_
                    clear hK K
                    refine road_t rfl rfl (fun K hK => ?_)
                    go_simp
                    generalize hB : Array.size (World.heap _) = N4
                    generalize hw : World.alloc _ _ = wn
                    obtain ⟨ho, hs, hb⟩ := made_new hw hB Z.out
                    have O := Lib.hid ho
                    have Z := Lib.hid hs
                    try have NE9 := Lib.hid (show ∀ g', (Value.slice (some ⟨N4, 0, none⟩) 0 0).ownBlock = some g' → N9 ≠ g' by intro g' e; have h1 := R9.out.lt1; have h2 : N4 = g' := Option.some.inj e; omega)
                    try have R9 := Lib.hid (R9.out.keep hb)
                    clear hB hw hb ho hs
                    refine hK.out _ _ (Z.out) ?_
                    clear hK K
                    refine road_t rfl rfl (fun K hK => ?_)
                    refine app_wp TB.out (.tmp 160) (.tmp 163) rfl w7.heap.size _ [] bs Ab p cb rfl rfl BL.out O.out ((BR.out.keep BW7.out).keep Z.out) Z.out.size (by have := BQ.out; simp; omega) ?_
                    intro v8 w6 ho hg hat
                    try have NE9n := Lib.hid (show ∀ g', v8.ownBlock = some g' → N9 ≠ g' by intro g' e; rcases hat with h | h; exact NE9.out g' (h.symm.trans e); have : N9 < _ := R9.out.lt (by simp) _ rfl; rw [h] at e; have := Option.some.inj e; omega)
                    try have R9 := Lib.hid (R9.out.grown hg (fun g' e a ea => by cases ea; exact NE9.out g' e))
                    try have NE9 := NE9n
                    have Z := Lib.hid (below_own Z.out O.out hg)
                    have O := Lib.hid ho
                    clear ho hg hat
                    refine hK.out _ _ (Z.out) ?_
                    clear hK K
                    refine road_t rfl rfl (fun K hK => ?_)
                    refine app_wp TB.out (.tmp 164) (.tmp 165) rfl w7.heap.size _ _ [0] (some ⟨N9, 0, none⟩) 1 1 rfl rfl rfl O.out R9.out Z.out.size (by have := BQ.out; have := BL.out; simp; omega) ?_
                    intro v10 w9 ho hg _
                    have Z := Lib.hid (below_own Z.out O.out hg)
                    obtain ⟨A10, c10, rfl, hr, hl, _, _⟩ := ho.read
                    have LE := Lib.hid (show ([] ++ bs ++ [0] : List UInt8).length = p + 1 by simp [BL.out])
                    rw [LE.out] at hl ⊢
                    have R10 := Lib.hid hr
                    clear ho hg hr hl
                    refine hK.out _ _ (Z.out) ?_
                    clear hK K
                    refine road_t rfl rfl (fun K hK => ?_)
                    go_simp
                    refine (bopen_both w3 g S D b L s _ (P7.out.box.keep Z.out) MK.out (keyK ky) ([] ++ bs ++ [0]) x rfl A10 (p + 1) c10 LE.out R10.out (by have := BQ.out; omega) Ax nx cx NX.out XC.out (RX.out.keep Z.out) (by have := NXB.out; omega) TXT.out).mono ?_
                    rw [NB.out]
                    rintro e wh hop
                    obtain ⟨rfl, hb⟩ := OpenP.no hop
                    have Z := Lib.hid (Z.out.trans (hb.mono Z.out.size))
                    clear hop hb
                    refine hK.out _ _ (Z.out) ?_
                    clear hK K
                    refine road_q (v := ?_) rfl rfl (Z.out) ?_ ?_
                    rotate_left
                    · intro W hW
                      go_simp
                      with_reducible rfl
                    simp only [Act.put, List.setIfInBounds_toArray, List.set_cons_zero, List.set_cons_succ]
                    refine road_q (v := ?_) rfl rfl (Z.out) ?_ ?_
                    rotate_left
                    · intro W hW
                      go_simp
                      with_reducible rfl
                    simp only [Act.put, List.setIfInBounds_toArray, List.set_cons_zero, List.set_cons_succ]
                    refine road_q (v := ?_) rfl rfl (Z.out) ?_ ?_
                    rotate_left
                    · intro W hW
                      go_simp
                      with_reducible rfl
                    simp only [Act.put, List.setIfInBounds_toArray, List.set_cons_zero, List.set_cons_succ]
                    refine road_q (v := ?_) rfl rfl (Z.out) ?_ ?_
                    rotate_left
                    · intro W hW
                      go_simp
                      with_reducible rfl
                    simp only [Act.put, List.setIfInBounds_toArray, List.set_cons_zero, List.set_cons_succ]
                    refine road_q (v := ?_) rfl rfl (Z.out) ?_ ?_
                    rotate_left
                    · intro W hW
                      go_simp
                      with_reducible rfl
                    simp only [Act.put, List.setIfInBounds_toArray, List.set_cons_zero, List.set_cons_succ]
                    refine road_done ?_
                    go_wp2_with fail
                    rw [show ((1 : Nat) : Int) = 1 from rfl]
                    go_roundw
                    case rel => exact ⟨j + 1, by have := JM.out; omega, by go_num, P7.out.keep Z.out⟩
                    case measure => have := JM.out; simp [intOf]; omega
        · have hD : decide ((j : Int) < (m : Int)) = false := by simp; omega
          go_wp2_with fail
          go_meet
          exact P.out
    case rest =>
    have P := Lib.hid hcut
    clear hcut
    have BW := Lib.hid (show Below w.heap.size w wc from W3.out.trans (P.out.box.bel.mono W3.out.size))
    go_wp2_with (refine wpList_val rfl (run_keyK (.const (.int .u8 1)) rfl 1 rfl _) ?_)
    refine (bopen_both w3 g S D b L s wc P.out.box (by rw [P.out.mode]; exact KM.out) (keyK 1) [] l2 rfl none 0 0 rfl (RdB.nil _ _) (by omega) A2 q2 c2 Q2.out QC.out.1 (F2.out.keep BW.out) (by have := QL.out; omega) (fun p hp h => Nat.le_trans (P.out.ts p hp h) (by omega))).mono ?_
    rintro e wx hop
    obtain ⟨Ax, mx, cx, rfl, _, _, hb⟩ := OpenP.anyB hop
    have PX := Lib.hid (P.out.keep hb)
    have BX := Lib.hid (show Below w.heap.size w wx from W3.out.trans (PX.out.box.bel.mono W3.out.size))
    obtain ⟨o, ho⟩ : ∃ o : Bool, o = (openS s (keyK 1) [] l2).isSome := ⟨_, rfl⟩
    have OE := Lib.hid ho
    rw [← ho]
    clear ho hb hop P BW
    rcases KM.out with rfl | rfl
    · rcases o with _ | _
      · skip
        go_wp2_with fail
        refine (boxOne_true wx).mono ?_
        rintro e w9 ⟨rfl, hb⟩
        have BF := Lib.hid (BX.out.trans (hb.mono BX.out.size))
        clear hb
        go_wp2_with fail
        go_ret
        exact ⟨rfl, BF.out⟩
      · skip
        go_wp2_with fail
        refine (boxOne_true wx).mono ?_
        rintro e w9 ⟨rfl, hb⟩
        have BF := Lib.hid (BX.out.trans (hb.mono BX.out.size))
        clear hb
        go_wp2_with fail
        go_ret
        exact ⟨rfl, BF.out⟩
    · rcases o with _ | _
      · skip
        go_wp2_with fail
        refine (boxOne_true wx).mono ?_
        rintro e w9 ⟨rfl, hb⟩
        have BF := Lib.hid (BX.out.trans (hb.mono BX.out.size))
        clear hb
        go_wp2_with fail
        go_ret
        exact ⟨rfl, BF.out⟩
      · obtain ⟨t, ht⟩ := Option.isSome_iff_exists.1 OE.out.symm
        have hk := openS_known PX.out.mode (keyK 1) [] l2 t ht
        have HK := Lib.hid hk
        clear ht hk
        go_wp2_with fail
        refine (known_any w3 g S D b L s wx PX.out.box A2 q2 c2 l2 Q2.out (F2.out.keep BX.out) (by have := QL.out; omega)).mono ?_
        rw [HK.out]
        rintro e w8 ⟨rfl, hb⟩
        have B8 := Lib.hid (BX.out.trans (hb.mono BX.out.size))
        clear hb
        go_wp2_with fail
        refine (boxOne_true w8).mono ?_
        rintro e w9 ⟨rfl, hb⟩
        have BF := Lib.hid (B8.out.trans (hb.mono B8.out.size))
        clear hb
        go_wp2_with fail
        go_ret
        exact ⟨rfl, BF.out⟩
end Go.Proofs.Ytldjiigkebkgcaa
