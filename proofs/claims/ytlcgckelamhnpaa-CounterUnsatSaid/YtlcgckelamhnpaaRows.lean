/-
  No cell of these rows narrows 'for every input' (looked for: loops, veiled, ifaces, maps, wideKeys, modest, calm, conditions, laid).
  DERIVED. THE GIVEN ROWS OF THIS SEAT. 4 by the template 'for every input the law returns true; each argument reads behind the call as it read before'; 0 by the template 'total and deterministic' (their statements: YtlcgckelamhnpaaTotals.lean).
  GIVEN WITH THE SEED: the statements are not yours to turn. If you find one false, say at which input.
  Laid BY PROGRAM, IN A SANDBOX (cutbox-rows.mjs): the forced cells as the released guide's own fill.sh prints them over the translation 5e8a9c5d628acb1c… (all of the seat's roots in one cut). By AI agents, Wed Nov 11 2026. No macro, syntax, notation, axiom, sorry.
-/
import Derived.Test.YtlcgckelamhnpaaChecked
import GoSem.Claim
import GoSem.ClaimJoined
import GoSem.ClaimMapViews
import Derived.JoinedTies
import Derived.KernelRfl
namespace Go.Proofs.Ytlcgckelamhnpaa
/- THE CELL 'sum', in the pinned program and in every row, IS THE sha256 OF THE DUMP (.gsa) THAT YtlcgckelamhnpaaProg.lean LOADS. Nothing in Lean hashes anything: it is a label: what it is worth is what the hold of that sum in a sandbox is worth. -/
noncomputable def Try.pinned : Pinned := { name := "ytlcgckelamhnpaa", sum := "5e8a9c5d628acb1c71f9f4f995f73217009100df32e32fe8e2a7682ed058ef63", checked := Try.checked }
namespace Rows
def none {H : Type} : Left H := { results := [], args := [] }

/-- 'kitbaglaw12.CounterNarrows': WHATEVER THE INPUT: true; the input reads as it did. -/
def counterNarrowsSpec : ChangeSpec := { name := "counterNarrows", fn := fun _ => fun
  | [d1, d2, d3, d4, d5, d6, d7] => { results := [.lit (.bool true)], args := [d1, d2, d3, d4, d5, d6, d7] }
  | _ => none }
def counterNarrowsRow : OpenClaim := { program := "ytlcgckelamhnpaa", sum := "5e8a9c5d628acb1c71f9f4f995f73217009100df32e32fe8e2a7682ed058ef63", func := "kitbag/kitbaglaw12.CounterNarrows", spec := "counterNarrows", unfollowed := true, recurses := true, apart := false }
def CounterNarrowsSaid : Prop := counterNarrowsRow.holds Try.pinned (OpenSpec.ofChange counterNarrowsSpec)

/-- ITS FALSE NEIGHBOUR: 'it returns false'. Refute it at one input. -/
def counterNarrowsWrong : ChangeSpec := { name := "counterNarrows", fn := fun _ => fun
  | [d1, d2, d3, d4, d5, d6, d7] => { results := [.lit (.bool false)], args := [d1, d2, d3, d4, d5, d6, d7] }
  | _ => none }
def CounterNarrowsWrongFalsely : Prop := counterNarrowsRow.holds Try.pinned (OpenSpec.ofChange counterNarrowsWrong)

/-- 'kitbaglaw12.CounterAdds': WHATEVER THE INPUT: true; the input reads as it did. -/
def counterAddsSpec : ChangeSpec := { name := "counterAdds", fn := fun _ => fun
  | [d1, d2, d3, d4, d5, d6] => { results := [.lit (.bool true)], args := [d1, d2, d3, d4, d5, d6] }
  | _ => none }
def counterAddsRow : OpenClaim := { program := "ytlcgckelamhnpaa", sum := "5e8a9c5d628acb1c71f9f4f995f73217009100df32e32fe8e2a7682ed058ef63", func := "kitbag/kitbaglaw12.CounterAdds", spec := "counterAdds", unfollowed := true, recurses := true, apart := false }
def CounterAddsSaid : Prop := counterAddsRow.holds Try.pinned (OpenSpec.ofChange counterAddsSpec)

/-- ITS FALSE NEIGHBOUR: 'it returns false'. Refute it at one input. -/
def counterAddsWrong : ChangeSpec := { name := "counterAdds", fn := fun _ => fun
  | [d1, d2, d3, d4, d5, d6] => { results := [.lit (.bool false)], args := [d1, d2, d3, d4, d5, d6] }
  | _ => none }
def CounterAddsWrongFalsely : Prop := counterAddsRow.holds Try.pinned (OpenSpec.ofChange counterAddsWrong)

/-- 'kitbaglaw12.CounterExact': WHATEVER THE INPUT: true; the input reads as it did. -/
def counterExactSpec : ChangeSpec := { name := "counterExact", fn := fun _ => fun
  | [d1, d2, d3, d4, d5, d6] => { results := [.lit (.bool true)], args := [d1, d2, d3, d4, d5, d6] }
  | _ => none }
def counterExactRow : OpenClaim := { program := "ytlcgckelamhnpaa", sum := "5e8a9c5d628acb1c71f9f4f995f73217009100df32e32fe8e2a7682ed058ef63", func := "kitbag/kitbaglaw12.CounterExact", spec := "counterExact", unfollowed := true, recurses := true, apart := false }
def CounterExactSaid : Prop := counterExactRow.holds Try.pinned (OpenSpec.ofChange counterExactSpec)

/-- ITS FALSE NEIGHBOUR: 'it returns false'. Refute it at one input. -/
def counterExactWrong : ChangeSpec := { name := "counterExact", fn := fun _ => fun
  | [d1, d2, d3, d4, d5, d6] => { results := [.lit (.bool false)], args := [d1, d2, d3, d4, d5, d6] }
  | _ => none }
def CounterExactWrongFalsely : Prop := counterExactRow.holds Try.pinned (OpenSpec.ofChange counterExactWrong)

/-- 'kitbaglaw12.CounterUnsat': WHATEVER THE INPUT: true; the input reads as it did. -/
def counterUnsatSpec : ChangeSpec := { name := "counterUnsat", fn := fun _ => fun
  | [d1, d2, d3] => { results := [.lit (.bool true)], args := [d1, d2, d3] }
  | _ => none }
def counterUnsatRow : OpenClaim := { program := "ytlcgckelamhnpaa", sum := "5e8a9c5d628acb1c71f9f4f995f73217009100df32e32fe8e2a7682ed058ef63", func := "kitbag/kitbaglaw12.CounterUnsat", spec := "counterUnsat", unfollowed := true, recurses := true, apart := false }
def CounterUnsatSaid : Prop := counterUnsatRow.holds Try.pinned (OpenSpec.ofChange counterUnsatSpec)

/-- ITS FALSE NEIGHBOUR: 'it returns false'. Refute it at one input. -/
def counterUnsatWrong : ChangeSpec := { name := "counterUnsat", fn := fun _ => fun
  | [d1, d2, d3] => { results := [.lit (.bool false)], args := [d1, d2, d3] }
  | _ => none }
def CounterUnsatWrongFalsely : Prop := counterUnsatRow.holds Try.pinned (OpenSpec.ofChange counterUnsatWrong)

/- THE SECOND FORM. 'bulk': how many values and letters a reading holds, each counted each time it is reached (what is shared counts as often as it is met; a slice's spare places count too). A statement '..UptoSaid' is the law's where the arguments, and the package variables that the reading takes, are together of bulk at most 1048576: NARROWER than '..Said'. Prove '..Said' where nothing that the law and all that it calls make is longer than what came in: it says more and counts as full. Else prove '..UptoSaid'. A law counts once. -/
mutual
def uptoBulk {H : Type} : DataW H → Nat
  | .lit (.string bytes) => bytes.length + 1
  | .lit _ => 1
  | .nil => 1
  | .ptr d => uptoBulk d + 1
  | .slice elems spare => uptoBulkAll elems + uptoBulkAll spare + 1
  | .agg parts => uptoBulkAll parts + 1
  | .iface _ d => uptoBulk d + 1
  | .map entries => uptoBulkEntries entries + 1
  | .held _ => 1
def uptoBulkAll {H : Type} : List (DataW H) → Nat
  | [] => 0
  | d :: r => uptoBulk d + uptoBulkAll r
def uptoBulkEntries {H : Type} : List (Lit × DataW H) → Nat
  | [] => 0
  | x :: r => uptoBulkEntry x + uptoBulkEntries r
def uptoBulkEntry {H : Type} : Lit × DataW H → Nat
  | (.string bytes, d) => bytes.length + uptoBulk d + 1
  | (_, d) => uptoBulk d + 1
 end
def uptoSmall : (H : Type) → List (DataW H) → Bool := fun _ ds => decide (uptoBulkAll ds ≤ 1048576)
def OpenSpec.upto (s : _root_.Go.ChangeSpec) : _root_.Go.OpenSpec := { _root_.Go.OpenSpec.ofChange s with cond := some uptoSmall }

/-- 'kitbaglaw12.CounterNarrows', WHERE WHAT IT READS IS OF BULK AT MOST 1048576: true; the input reads as it did. -/
def counterNarrowsUptoRow : OpenClaim := { program := "ytlcgckelamhnpaa", sum := "5e8a9c5d628acb1c71f9f4f995f73217009100df32e32fe8e2a7682ed058ef63", func := "kitbag/kitbaglaw12.CounterNarrows", spec := "counterNarrows", unfollowed := true, recurses := true, apart := false, narrowed := true }
def CounterNarrowsUptoSaid : Prop := counterNarrowsUptoRow.holds Try.pinned (OpenSpec.upto counterNarrowsSpec)

/-- 'kitbaglaw12.CounterAdds', WHERE WHAT IT READS IS OF BULK AT MOST 1048576: true; the input reads as it did. -/
def counterAddsUptoRow : OpenClaim := { program := "ytlcgckelamhnpaa", sum := "5e8a9c5d628acb1c71f9f4f995f73217009100df32e32fe8e2a7682ed058ef63", func := "kitbag/kitbaglaw12.CounterAdds", spec := "counterAdds", unfollowed := true, recurses := true, apart := false, narrowed := true }
def CounterAddsUptoSaid : Prop := counterAddsUptoRow.holds Try.pinned (OpenSpec.upto counterAddsSpec)

/-- 'kitbaglaw12.CounterExact', WHERE WHAT IT READS IS OF BULK AT MOST 1048576: true; the input reads as it did. -/
def counterExactUptoRow : OpenClaim := { program := "ytlcgckelamhnpaa", sum := "5e8a9c5d628acb1c71f9f4f995f73217009100df32e32fe8e2a7682ed058ef63", func := "kitbag/kitbaglaw12.CounterExact", spec := "counterExact", unfollowed := true, recurses := true, apart := false, narrowed := true }
def CounterExactUptoSaid : Prop := counterExactUptoRow.holds Try.pinned (OpenSpec.upto counterExactSpec)

/-- 'kitbaglaw12.CounterUnsat', WHERE WHAT IT READS IS OF BULK AT MOST 1048576: true; the input reads as it did. -/
def counterUnsatUptoRow : OpenClaim := { program := "ytlcgckelamhnpaa", sum := "5e8a9c5d628acb1c71f9f4f995f73217009100df32e32fe8e2a7682ed058ef63", func := "kitbag/kitbaglaw12.CounterUnsat", spec := "counterUnsat", unfollowed := true, recurses := true, apart := false, narrowed := true }
def CounterUnsatUptoSaid : Prop := counterUnsatUptoRow.holds Try.pinned (OpenSpec.upto counterUnsatSpec)

end Rows
end Go.Proofs.Ytlcgckelamhnpaa
