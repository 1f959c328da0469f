/-
  No cell of these rows narrows 'for every input' (looked for: loops, veiled, ifaces, maps, wideKeys, modest, calm, conditions, laid).
  DERIVED. THE GIVEN ROWS OF THIS SEAT. 4 by the template 'for every input the law returns true; each argument reads behind the call as it read before'; 0 by the template 'total and deterministic' (their statements: YtgmngkbocpadaaaTotals.lean).
  GIVEN WITH THE SEED: the statements are not yours to turn. If you find one false, say at which input.
  Laid BY PROGRAM, IN A SANDBOX (cutbox-rows.mjs): the forced cells as the released guide's own fill.sh prints them over the translation 3d01f97237f57d5c… (all of the seat's roots in one cut). By AI agents, Wed Nov 11 2026. No macro, syntax, notation, axiom, sorry.
-/
import Derived.Test.YtgmngkbocpadaaaChecked
import GoSem.Claim
import GoSem.ClaimJoined
import GoSem.ClaimMapViews
import Derived.JoinedTies
import Derived.KernelRfl
namespace Go.Proofs.Ytgmngkbocpadaaa
/- THE CELL 'sum', in the pinned program and in every row, IS THE sha256 OF THE DUMP (.gsa) THAT YtgmngkbocpadaaaProg.lean LOADS. Nothing in Lean hashes anything: it is a label: what it is worth is what the hold of that sum in a sandbox is worth. -/
noncomputable def Try.pinned : Pinned := { name := "ytgmngkbocpadaaa", sum := "3d01f97237f57d5cd4ec378fe9e5482b4981acf9c9f678dd4fa0f7f8f92cbf81", checked := Try.checked }
namespace Rows
def none {H : Type} : Left H := { results := [], args := [] }

/-- 'kitbaglaw31.StockKeeps': WHATEVER THE INPUT: true; the input reads as it did. -/
def stockKeepsSpec : ChangeSpec := { name := "stockKeeps", fn := fun _ => fun
  | [d1, d2, d3] => { results := [.lit (.bool true)], args := [d1, d2, d3] }
  | _ => none }
def stockKeepsRow : OpenClaim := { program := "ytgmngkbocpadaaa", sum := "3d01f97237f57d5cd4ec378fe9e5482b4981acf9c9f678dd4fa0f7f8f92cbf81", func := "kitbag/kitbaglaw31.StockKeeps", spec := "stockKeeps", apart := false }
def StockKeepsSaid : Prop := stockKeepsRow.holds Try.pinned (OpenSpec.ofChange stockKeepsSpec)

/-- ITS FALSE NEIGHBOUR: 'it returns false'. Refute it at one input. -/
def stockKeepsWrong : ChangeSpec := { name := "stockKeeps", fn := fun _ => fun
  | [d1, d2, d3] => { results := [.lit (.bool false)], args := [d1, d2, d3] }
  | _ => none }
def StockKeepsWrongFalsely : Prop := stockKeepsRow.holds Try.pinned (OpenSpec.ofChange stockKeepsWrong)

/-- 'kitbaglaw31.StockTwice': WHATEVER THE INPUT: true; the input reads as it did. -/
def stockTwiceSpec : ChangeSpec := { name := "stockTwice", fn := fun _ => fun
  | [d1, d2, d3, d4, d5] => { results := [.lit (.bool true)], args := [d1, d2, d3, d4, d5] }
  | _ => none }
def stockTwiceRow : OpenClaim := { program := "ytgmngkbocpadaaa", sum := "3d01f97237f57d5cd4ec378fe9e5482b4981acf9c9f678dd4fa0f7f8f92cbf81", func := "kitbag/kitbaglaw31.StockTwice", spec := "stockTwice", apart := false }
def StockTwiceSaid : Prop := stockTwiceRow.holds Try.pinned (OpenSpec.ofChange stockTwiceSpec)

/-- ITS FALSE NEIGHBOUR: 'it returns false'. Refute it at one input. -/
def stockTwiceWrong : ChangeSpec := { name := "stockTwice", fn := fun _ => fun
  | [d1, d2, d3, d4, d5] => { results := [.lit (.bool false)], args := [d1, d2, d3, d4, d5] }
  | _ => none }
def StockTwiceWrongFalsely : Prop := stockTwiceRow.holds Try.pinned (OpenSpec.ofChange stockTwiceWrong)

/-- 'kitbaglaw31.StockMore': WHATEVER THE INPUT: true; the input reads as it did. -/
def stockMoreSpec : ChangeSpec := { name := "stockMore", fn := fun _ => fun
  | [d1, d2, d3, d4] => { results := [.lit (.bool true)], args := [d1, d2, d3, d4] }
  | _ => none }
def stockMoreRow : OpenClaim := { program := "ytgmngkbocpadaaa", sum := "3d01f97237f57d5cd4ec378fe9e5482b4981acf9c9f678dd4fa0f7f8f92cbf81", func := "kitbag/kitbaglaw31.StockMore", spec := "stockMore", apart := false }
def StockMoreSaid : Prop := stockMoreRow.holds Try.pinned (OpenSpec.ofChange stockMoreSpec)

/-- ITS FALSE NEIGHBOUR: 'it returns false'. Refute it at one input. -/
def stockMoreWrong : ChangeSpec := { name := "stockMore", fn := fun _ => fun
  | [d1, d2, d3, d4] => { results := [.lit (.bool false)], args := [d1, d2, d3, d4] }
  | _ => none }
def StockMoreWrongFalsely : Prop := stockMoreRow.holds Try.pinned (OpenSpec.ofChange stockMoreWrong)

/-- 'kitbaglaw31.StockRules': WHATEVER THE INPUT: true; the input reads as it did. -/
def stockRulesSpec : ChangeSpec := { name := "stockRules", fn := fun _ => fun
  | [d1, d2, d3] => { results := [.lit (.bool true)], args := [d1, d2, d3] }
  | _ => none }
def stockRulesRow : OpenClaim := { program := "ytgmngkbocpadaaa", sum := "3d01f97237f57d5cd4ec378fe9e5482b4981acf9c9f678dd4fa0f7f8f92cbf81", func := "kitbag/kitbaglaw31.StockRules", spec := "stockRules", apart := false }
def StockRulesSaid : Prop := stockRulesRow.holds Try.pinned (OpenSpec.ofChange stockRulesSpec)

/-- ITS FALSE NEIGHBOUR: 'it returns false'. Refute it at one input. -/
def stockRulesWrong : ChangeSpec := { name := "stockRules", fn := fun _ => fun
  | [d1, d2, d3] => { results := [.lit (.bool false)], args := [d1, d2, d3] }
  | _ => none }
def StockRulesWrongFalsely : Prop := stockRulesRow.holds Try.pinned (OpenSpec.ofChange stockRulesWrong)

/- THE SECOND FORM. 'bulk': how many values and letters a reading holds, each counted each time it is reached (what is shared counts as often as it is met; a slice's spare places count too). A statement '..UptoSaid' is the law's where the arguments, and the package variables that the reading takes, are together of bulk at most 1048576: NARROWER than '..Said'. Prove '..Said' where nothing that the law and all that it calls make is longer than what came in: it says more and counts as full. Else prove '..UptoSaid'. A law counts once. -/
mutual
def uptoBulk {H : Type} : DataW H → Nat
  | .lit (.string bytes) => bytes.length + 1
  | .lit _ => 1
  | .nil => 1
  | .ptr d => uptoBulk d + 1
  | .slice elems spare => uptoBulkAll elems + uptoBulkAll spare + 1
  | .agg parts => uptoBulkAll parts + 1
  | .iface _ d => uptoBulk d + 1
  | .map entries => uptoBulkEntries entries + 1
  | .held _ => 1
def uptoBulkAll {H : Type} : List (DataW H) → Nat
  | [] => 0
  | d :: r => uptoBulk d + uptoBulkAll r
def uptoBulkEntries {H : Type} : List (Lit × DataW H) → Nat
  | [] => 0
  | x :: r => uptoBulkEntry x + uptoBulkEntries r
def uptoBulkEntry {H : Type} : Lit × DataW H → Nat
  | (.string bytes, d) => bytes.length + uptoBulk d + 1
  | (_, d) => uptoBulk d + 1
 end
def uptoSmall : (H : Type) → List (DataW H) → Bool := fun _ ds => decide (uptoBulkAll ds ≤ 1048576)
def OpenSpec.upto (s : _root_.Go.ChangeSpec) : _root_.Go.OpenSpec := { _root_.Go.OpenSpec.ofChange s with cond := some uptoSmall }

/-- 'kitbaglaw31.StockKeeps', WHERE WHAT IT READS IS OF BULK AT MOST 1048576: true; the input reads as it did. -/
def stockKeepsUptoRow : OpenClaim := { program := "ytgmngkbocpadaaa", sum := "3d01f97237f57d5cd4ec378fe9e5482b4981acf9c9f678dd4fa0f7f8f92cbf81", func := "kitbag/kitbaglaw31.StockKeeps", spec := "stockKeeps", apart := false, narrowed := true }
def StockKeepsUptoSaid : Prop := stockKeepsUptoRow.holds Try.pinned (OpenSpec.upto stockKeepsSpec)

/-- 'kitbaglaw31.StockTwice', WHERE WHAT IT READS IS OF BULK AT MOST 1048576: true; the input reads as it did. -/
def stockTwiceUptoRow : OpenClaim := { program := "ytgmngkbocpadaaa", sum := "3d01f97237f57d5cd4ec378fe9e5482b4981acf9c9f678dd4fa0f7f8f92cbf81", func := "kitbag/kitbaglaw31.StockTwice", spec := "stockTwice", apart := false, narrowed := true }
def StockTwiceUptoSaid : Prop := stockTwiceUptoRow.holds Try.pinned (OpenSpec.upto stockTwiceSpec)

/-- 'kitbaglaw31.StockMore', WHERE WHAT IT READS IS OF BULK AT MOST 1048576: true; the input reads as it did. -/
def stockMoreUptoRow : OpenClaim := { program := "ytgmngkbocpadaaa", sum := "3d01f97237f57d5cd4ec378fe9e5482b4981acf9c9f678dd4fa0f7f8f92cbf81", func := "kitbag/kitbaglaw31.StockMore", spec := "stockMore", apart := false, narrowed := true }
def StockMoreUptoSaid : Prop := stockMoreUptoRow.holds Try.pinned (OpenSpec.upto stockMoreSpec)

/-- 'kitbaglaw31.StockRules', WHERE WHAT IT READS IS OF BULK AT MOST 1048576: true; the input reads as it did. -/
def stockRulesUptoRow : OpenClaim := { program := "ytgmngkbocpadaaa", sum := "3d01f97237f57d5cd4ec378fe9e5482b4981acf9c9f678dd4fa0f7f8f92cbf81", func := "kitbag/kitbaglaw31.StockRules", spec := "stockRules", apart := false, narrowed := true }
def StockRulesUptoSaid : Prop := stockRulesUptoRow.holds Try.pinned (OpenSpec.upto stockRulesSpec)

end Rows
end Go.Proofs.Ytgmngkbocpadaaa
