/- A chain of appends in a group. No condition but those each theorem states. -/
import Derived.Test.YtcpagoeaknlieaaGrp
import Derived.Test.YtcpagoeaknlieaaBase
namespace Go.Proofs.Ytcpagoeaknlieaa
set_option linter.unusedVariables false
set_option linter.unusedSimpArgs false
open Go.RowKit

theorem OwnB.blk {W : World} {E : Nat} {v : Value} {l : List UInt8} (h : OwnB W E v l) : blkOf v = v.ownBlock := by
  obtain ⟨A, c, rfl, _⟩ := h.read
  cases A <;> rfl
/-- append goes on in what another one of the group yielded. -/
theorem GInv.app {S : World → Prop} {E : Nat} {Grp : List Nat} {cons : Nat → Option Nat} {Post : Nat → Value → World → Prop} {R : List Nat} {vals : Nat → Value} {W W' : World} (h : GInv S E Grp cons Post R vals W) (i p : Nat) (v : Value) {l l' : List UInt8} (hp : p ∈ Grp) (hpR : p ∉ R) (hcp : cons p = some i) (hiR : i ∈ R) (hnd : R.Nodup)
    (ho : OwnB W E (vals p) l) (ho' : OwnB W' E v l') (hgr : W.grownBy W' (vals p).ownBlock) (hat : v.ownBlock = (vals p).ownBlock ∨ v.ownBlock = some W.heap.size) (hS : S W') (hP : Post i v W')
    (hst : ∀ j u, (∀ g, (vals p).ownBlock = some g → blkOf u ≠ some g) → Post j u W → Post j u W') : GInv S E Grp cons Post (R.erase i) (updV vals i v) W' :=
  h.onto i p v hp hpR hcp hiR hnd (by rw [ho.blk]; exact hgr) hS hP (fun j _ _ _ hne hP => hst j _ (by rw [ho.blk] at hne; exact hne) hP) (fun g hg => by
    rw [ho'.blk] at hg
    rw [ho.blk]
    rcases hat with e | e
    · left; rw [← e]; exact hg
    · right
      have := (ho'.lt g hg).2
      rw [e] at hg
      cases hg
      exact ⟨Nat.le_refl _, this⟩)
end Go.Proofs.Ytcpagoeaknlieaa
