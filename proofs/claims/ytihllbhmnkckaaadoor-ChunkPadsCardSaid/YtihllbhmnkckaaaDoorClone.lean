/- slices.Clone at bytes: a row of the call's own with the same bytes. No condition but those each theorem states. -/
import Derived.Test.YtihllbhmnkckaaaDoorProg
import Derived.Test.YtihllbhmnkckaaaDoorBase
import Derived.Lib.SliceRun
namespace Go.Proofs.YtihllbhmnkckaaaDoor
set_option linter.unusedVariables false
set_option linter.unusedSimpArgs false
open Go.RowKit

set_option maxRecDepth 100000 in
set_option maxHeartbeats 1000000 in
theorem clone_any (w : World) (A : Option Addr) (n c : Nat) (l : List UInt8) (hn : l.length = n) (hR : RdB w A l) (hb : n ≤ 140737488355328) :
    Calls Tryd.prog 25 #[.slice A n c] w fun e w' => ∃ v, e = .returned v ∧ OwnB w' w.heap.size v l ∧ Below w.heap.size w w' := by
  have TB := Lib.hid (show ByteT Tryd.prog from ⟨Tryd.underlying22, by kernel_rfl⟩)
  have q22 : ∀ (w : World) (a : Option Addr) (n c n' c' : Nat), (binOp .eql 22 (.slice a n c) (.slice none n' c')).run Tryd.prog w = .ok (.bool a.isNone) w := fun w a n c n' c' => Lib.run_eql_slice_nil w _ _ a n c n' c' Tryd.underlying22
  have HR := Lib.hid hR
  have HN := Lib.hid hn
  clear hR hn
  rcases A with _ | ad
  · have hl : l = [] := by
      rcases l with _ | ⟨x, r⟩
      · rfl
      · obtain ⟨b, o, e, _⟩ := HR.out 0 (by simp)
        cases e
    have HL := Lib.hid hl
    clear hl
    go_enter Tryd.func25, Tryd.ntmps25
    go_wp2_with fail
    go_ret
    exact ⟨_, rfl, by rw [HL.out]; exact OwnB.nil _ _, Below.refl _ _⟩
  · go_enter Tryd.func25, Tryd.ntmps25
    go_wp2_with (refine app_list rfl TB.out (.tmp 5) (.tmp 6) rfl w.heap.size _ [] l (some ad) n c rfl rfl HN.out (World.ownsRow_made w #[] 0 (Nat.le_refl _) (Nat.zero_le _) rfl) ?c1 ?c2 ?c3 ?_)
    case c1 => exact HR.out.grown (World.grownBy_alloc w _ _) (fun g e a ea => by cases e) (r := none)
    case c2 => simp
    case c3 => simp; omega
    intro v1 w1 ho hg hv
    go_wp2_with fail
    go_ret
    exact ⟨_, rfl, by simpa using ho, ((Below.refl _ _).alloc (Nat.le_refl _) _).trans (grown_below hg (by simp) (fun g e => by simp [Value.ownBlock] at e; omega))⟩
end Go.Proofs.YtihllbhmnkckaaaDoor
