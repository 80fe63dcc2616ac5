/- Bytes are laid into the words of a state. -/
import Derived.Test.YtdheopihcohciaaProg
import Derived.Test.YtdheopihcohciaaDouble
namespace Go.Proofs.Ytdheopihcohciaa
set_option linter.unusedVariables false
set_option linter.unusedSimpArgs false
open Go.RowKit

def loadK (l : List UInt32) (p : Nat) (bs : List UInt8) : Nat → List UInt32
  | 0 => l
  | k + 1 => (loadK l p bs k).set (p + k / 4) ((loadK l p bs k).getD (p + k / 4) 0 ||| (bs.getD k 0).toUInt32 <<< (UInt32.ofNat (8 * (k % 4))))
theorem loadK_length (l : List UInt32) (p : Nat) (bs : List UInt8) (k : Nat) : (loadK l p bs k).length = l.length := by
  induction k with
  | zero => rfl
  | succ k ih => simp [loadK, ih]

theorem load_word (x : UInt32) (y : UInt8) (n : Nat) (hn : n < 32) :
    bits .or .u32 (x.toNat : Int) ((y.toNat : Int) * 2 ^ n % 4294967296) = ((x ||| y.toUInt32 <<< (UInt32.ofNat n)).toNat : Int) := by
  have h1 : (y.toNat : Int) * 2 ^ n % 4294967296 = ((y.toNat * 2 ^ n % 4294967296 : Nat) : Int) := by
    rw [Int.natCast_emod, Int.natCast_mul, Int.natCast_pow]; rfl
  have e1 : (UInt32.ofNat n).toNat = n := by simp; omega
  rw [h1, u32_or_nat _ _ x.toNat_lt (by omega), UInt32.toNat_or, UInt32.toNat_shiftLeft, e1, Nat.mod_eq_of_lt hn, Nat.shiftLeft_eq, UInt8.toNat_toUInt32]

set_option maxRecDepth 100000 in
theorem load_any (g : Nat) (l : List UInt32) (hl : l.length = 16) (w : World) (H : StOK w g l w) (p : Nat) (A : Option Addr) (bs : List UInt8) (c : Nat) (hR : RdB w A bs) (hoff : Off A g) (hp : p * 4 + bs.length ≤ 64) :
    Calls Try.prog 27 #[.pointer (some ⟨g, 0, none⟩), .int .i64 (p : Int), .slice A bs.length c] w fun e w' => e = .returned (.tuple #[]) ∧ StOK w g (loadK l p bs bs.length) w' := by
  have HL := Lib.hid hl
  have H0 := Lib.hid H
  have HR := Lib.hid hR
  have HO := Lib.hid hoff
  clear hl H hR hoff
  go_enter Try.func27, Try.ntmps27
  go_wp2
  go_loopw [10] (fun i wr => ∃ k : Nat, k ≤ bs.length ∧ i = .int .i64 (k : Int) ∧ StOK w g (loadK l p bs k) wr) (fun i _ => bs.length - (intOf i).toNat)
  case atStart => exact ⟨0, by omega, rfl, H0.out⟩
  case round =>
    obtain ⟨k, hk, rfl, H1'⟩ := hrel
    have H1 := Lib.hid H1'
    clear H1'
    by_cases hlt : k < bs.length
    · obtain ⟨b, o, rfl, y, hy, a1⟩ := (HR.out.grown H1.out.2 (fun _ e => by cases e; exact HO.out)).get k hlt
      obtain ⟨x, hx, a2⟩ := H1.out.pick (p + k / 4) (by rw [loadK_length, HL.out]; omega)
      have a3 := H1.out.free (p + k / 4)
      have hb8 := u8_lt y
      go_wp2
      go_region
      go_wp2
      go_roundw
      case rel =>
        refine ⟨k + 1, by omega, by go_num, ?_⟩
        rw [load_word x y (8 * (k % 4)) (by omega)]
        refine (H1.out.set (p + k / 4) _ _ ?_).drew
        rw [← hx.out, ← hy.out]
      case measure => simp [intOf]; omega
    · have hk' : k = bs.length := by omega
      subst hk'
      go_wp2
      go_end0
      exact ⟨rfl, H1.out⟩

theorem load_len (g : Nat) (l : List UInt32) (hl : l.length = 16) (w : World) (H : StOK w g l w) (p : Nat) (A : Option Addr) (bs : List UInt8) (n c : Nat) (hn : bs.length = n) (hR : RdB w A bs) (hoff : Off A g) (hp : p * 4 + n ≤ 64) :
    Calls Try.prog 27 #[.pointer (some ⟨g, 0, none⟩), .int .i64 (p : Int), .slice A n c] w fun e w' => e = .returned (.tuple #[]) ∧ StOK w g (loadK l p bs n) w' := by
  subst hn
  exact load_any g l hl w H p A bs c hR hoff hp
end Go.Proofs.Ytdheopihcohciaa
