/- wire.Sized: how many bytes a text has, and it, behind bytes. -/
import Derived.Test.YtihllbhmnkckaaaDoorPut
import Derived.Test.YtihllbhmnkckaaaDoorOps
namespace Go.Proofs.YtihllbhmnkckaaaDoor
set_option linter.unusedVariables false
set_option linter.unusedSimpArgs false
open Go.RowKit

theorem u64_len (n : Nat) (h : n ≤ 140737488355328) : ∃ x : UInt64, Hid (x.toNat = n) ∧ IntKind.u64.wrap (n : Int) = (x.toNat : Int) := by
  refine ⟨UInt64.ofNat n, ?_, ?_⟩
  · show (UInt64.ofNat n).toNat = n
    rw [UInt64.toNat_ofNat']; omega
  · rw [IntKind.wrap_u64, UInt64.toNat_ofNat']; omega
def sizedL (x : List UInt8) : List UInt8 := beL 4 x.length ++ x
theorem sizedL_length (x : List UInt8) : (sizedL x).length = x.length + 4 := by simp [sizedL, beL_length]; omega
set_option maxRecDepth 100000 in
set_option maxHeartbeats 1000000 in
theorem sized_any (w : World) (A : Option Addr) (n c : Nat) (l : List UInt8) (A2 : Option Addr) (n2 c2 : Nat) (l2 : List UInt8) (hn : l.length = n) (hR : RdB w A l)
    (hn2 : l2.length = n2) (hR2 : RdB w A2 l2) (hb : n + n2 ≤ 140737488355320) :
    Calls Tryd.prog 14 #[.slice A n c, .slice A2 n2 c2] w fun e w' => ∃ v, e = .returned v ∧ OwnB w' w.heap.size v (l ++ sizedL l2) ∧ Below w.heap.size w w' := by
  have TB := Lib.hid (show ByteT Tryd.prog from ⟨Tryd.underlying22, by kernel_rfl⟩)
  have HR := Lib.hid hR
  have HR2 := Lib.hid hR2
  have HN := Lib.hid hn
  have HN2 := Lib.hid hn2
  have HB := Lib.hid hb
  obtain ⟨x, hx, e1⟩ := u64_len n2 (by omega)
  clear hR hn hb hR2 hn2
  go_enter Tryd.func14, Tryd.ntmps14
  go_wp2_with fail
  refine (put_any w A n c l x 4 (by omega) HN.out HR.out (by have := HB.out; omega)).mono ?_
  rintro e w1 ⟨v, rfl, ho, hb1⟩
  have e2 : beL (putN 4) x.toNat = beL 4 l2.length := by rw [hx.out, HN2.out]; rfl
  rw [e2] at ho
  have O1 := Lib.hid ho
  have B1 := Lib.hid hb1
  clear ho hb1 e1 e2
  go_wp2_with (refine app_list rfl TB.out (.tmp 9) (.tmp 10) rfl w.heap.size v _ l2 A2 n2 c2 rfl rfl HN2.out O1.out (HR2.out.keep B1.out) B1.out.size ?c1 ?_)
  case c1 => have := HB.out; have := HN.out; simp [beL_length]; omega
  intro v1 w2 ho hg hv
  go_wp2_with fail
  go_ret
  refine ⟨_, rfl, ?_, B1.out.trans (grown_below hg B1.out.size (fun g e => (O1.out.lt g e).1))⟩
  exact ho
end Go.Proofs.YtihllbhmnkckaaaDoor
