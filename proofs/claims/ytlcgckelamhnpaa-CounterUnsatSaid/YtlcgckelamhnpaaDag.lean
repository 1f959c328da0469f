/- A region whose operations come in any order, walked as a graph: one lemma for each set of operations that are done. -/
import Derived.Deep.RegionHeld3
import Derived.WalkKit
namespace Go.Proofs.Ytlcgckelamhnpaa

section
variable {P : Program} {ops : Array Oper} {Q : Exit → Act → World → Prop} {md : Region.Mode} {S : World → Prop}
theorem wpAnyH_abs {fuel : Nat} {listed : Array Bool} {a : Act} {w : World} (h : ∀ (X : Nat → Array Bool → Act → World → Prop) (a0 : Act), X = wpAnyH P md ops Q S → a0 = a → X fuel listed a0 w) : wpAnyH P md ops Q S fuel listed a w := h _ _ rfl rfl
theorem at_node {fuel : Nat} {l l' : Array Bool} {a : Act} {w : World} (h : l = l') (h2 : wpAnyH P md ops Q S fuel l' a w) : wpAnyH P md ops Q S fuel l a w := h ▸ h2
end
end Go.Proofs.Ytlcgckelamhnpaa
