/-
  No cell of these rows narrows 'for every input' (looked for: loops, veiled, ifaces, maps, wideKeys, modest, calm, conditions, laid).
  DERIVED. THE GIVEN ROWS OF THIS SEAT. 5 by the template 'for every input the law returns true; each argument reads behind the call as it read before'; 0 by the template 'total and deterministic' (their statements: YtpjpkcelajbfnaaTotals.lean).
  GIVEN WITH THE SEED: the statements are not yours to turn. If you find one false, say at which input.
  Laid BY PROGRAM, IN A SANDBOX (cutbox-rows.mjs): the forced cells as the released guide's own fill.sh prints them over the translation edaacf9ff6b136b8… (all of the seat's roots in one cut). By AI agents, Wed Nov 11 2026. No macro, syntax, notation, axiom, sorry.
-/
import Derived.Test.YtpjpkcelajbfnaaChecked
import GoSem.Claim
import GoSem.ClaimJoined
import GoSem.ClaimMapViews
import Derived.JoinedTies
import Derived.KernelRfl
namespace Go.Proofs.Ytpjpkcelajbfnaa
/- THE CELL 'sum', in the pinned program and in every row, IS THE sha256 OF THE DUMP (.gsa) THAT YtpjpkcelajbfnaaProg.lean LOADS. Nothing in Lean hashes anything: it is a label: what it is worth is what the hold of that sum in a sandbox is worth. -/
noncomputable def Try.pinned : Pinned := { name := "ytpjpkcelajbfnaa", sum := "edaacf9ff6b136b896053c8b55740288ccfead64cb23947724ebcd25537a611e", checked := Try.checked }
namespace Rows
def none {H : Type} : Left H := { results := [], args := [] }

/-- 'kitbaglaw11.ScaleTells': WHATEVER THE INPUT: true; the input reads as it did. -/
def scaleTellsSpec : ChangeSpec := { name := "scaleTells", fn := fun _ => fun
  | [d1, d2, d3, d4, d5, d6] => { results := [.lit (.bool true)], args := [d1, d2, d3, d4, d5, d6] }
  | _ => none }
def scaleTellsRow : OpenClaim := { program := "ytpjpkcelajbfnaa", sum := "edaacf9ff6b136b896053c8b55740288ccfead64cb23947724ebcd25537a611e", func := "kitbag/kitbaglaw11.ScaleTells", spec := "scaleTells", unfollowed := true, recurses := true, apart := false }
def ScaleTellsSaid : Prop := scaleTellsRow.holds Try.pinned (OpenSpec.ofChange scaleTellsSpec)

/-- ITS FALSE NEIGHBOUR: 'it returns false'. Refute it at one input. -/
def scaleTellsWrong : ChangeSpec := { name := "scaleTells", fn := fun _ => fun
  | [d1, d2, d3, d4, d5, d6] => { results := [.lit (.bool false)], args := [d1, d2, d3, d4, d5, d6] }
  | _ => none }
def ScaleTellsWrongFalsely : Prop := scaleTellsRow.holds Try.pinned (OpenSpec.ofChange scaleTellsWrong)

/-- 'kitbaglaw11.ScaleHolds': WHATEVER THE INPUT: true; the input reads as it did. -/
def scaleHoldsSpec : ChangeSpec := { name := "scaleHolds", fn := fun _ => fun
  | [d1, d2, d3, d4, d5] => { results := [.lit (.bool true)], args := [d1, d2, d3, d4, d5] }
  | _ => none }
def scaleHoldsRow : OpenClaim := { program := "ytpjpkcelajbfnaa", sum := "edaacf9ff6b136b896053c8b55740288ccfead64cb23947724ebcd25537a611e", func := "kitbag/kitbaglaw11.ScaleHolds", spec := "scaleHolds", unfollowed := true, recurses := true, apart := false }
def ScaleHoldsSaid : Prop := scaleHoldsRow.holds Try.pinned (OpenSpec.ofChange scaleHoldsSpec)

/-- ITS FALSE NEIGHBOUR: 'it returns false'. Refute it at one input. -/
def scaleHoldsWrong : ChangeSpec := { name := "scaleHolds", fn := fun _ => fun
  | [d1, d2, d3, d4, d5] => { results := [.lit (.bool false)], args := [d1, d2, d3, d4, d5] }
  | _ => none }
def ScaleHoldsWrongFalsely : Prop := scaleHoldsRow.holds Try.pinned (OpenSpec.ofChange scaleHoldsWrong)

/-- 'kitbaglaw11.ScaleGrows': WHATEVER THE INPUT: true; the input reads as it did. -/
def scaleGrowsSpec : ChangeSpec := { name := "scaleGrows", fn := fun _ => fun
  | [d1, d2, d3, d4, d5, d6, d7] => { results := [.lit (.bool true)], args := [d1, d2, d3, d4, d5, d6, d7] }
  | _ => none }
def scaleGrowsRow : OpenClaim := { program := "ytpjpkcelajbfnaa", sum := "edaacf9ff6b136b896053c8b55740288ccfead64cb23947724ebcd25537a611e", func := "kitbag/kitbaglaw11.ScaleGrows", spec := "scaleGrows", unfollowed := true, recurses := true, apart := false }
def ScaleGrowsSaid : Prop := scaleGrowsRow.holds Try.pinned (OpenSpec.ofChange scaleGrowsSpec)

/-- ITS FALSE NEIGHBOUR: 'it returns false'. Refute it at one input. -/
def scaleGrowsWrong : ChangeSpec := { name := "scaleGrows", fn := fun _ => fun
  | [d1, d2, d3, d4, d5, d6, d7] => { results := [.lit (.bool false)], args := [d1, d2, d3, d4, d5, d6, d7] }
  | _ => none }
def ScaleGrowsWrongFalsely : Prop := scaleGrowsRow.holds Try.pinned (OpenSpec.ofChange scaleGrowsWrong)

/-- 'kitbaglaw11.ScaleOthers': WHATEVER THE INPUT: true; the input reads as it did. -/
def scaleOthersSpec : ChangeSpec := { name := "scaleOthers", fn := fun _ => fun
  | [d1, d2, d3, d4, d5] => { results := [.lit (.bool true)], args := [d1, d2, d3, d4, d5] }
  | _ => none }
def scaleOthersRow : OpenClaim := { program := "ytpjpkcelajbfnaa", sum := "edaacf9ff6b136b896053c8b55740288ccfead64cb23947724ebcd25537a611e", func := "kitbag/kitbaglaw11.ScaleOthers", spec := "scaleOthers", unfollowed := true, recurses := true, apart := false }
def ScaleOthersSaid : Prop := scaleOthersRow.holds Try.pinned (OpenSpec.ofChange scaleOthersSpec)

/-- ITS FALSE NEIGHBOUR: 'it returns false'. Refute it at one input. -/
def scaleOthersWrong : ChangeSpec := { name := "scaleOthers", fn := fun _ => fun
  | [d1, d2, d3, d4, d5] => { results := [.lit (.bool false)], args := [d1, d2, d3, d4, d5] }
  | _ => none }
def ScaleOthersWrongFalsely : Prop := scaleOthersRow.holds Try.pinned (OpenSpec.ofChange scaleOthersWrong)

/-- 'kitbaglaw11.ScaleRecalls': WHATEVER THE INPUT: true; the input reads as it did. -/
def scaleRecallsSpec : ChangeSpec := { name := "scaleRecalls", fn := fun _ => fun
  | [d1, d2, d3, d4, d5, d6, d7] => { results := [.lit (.bool true)], args := [d1, d2, d3, d4, d5, d6, d7] }
  | _ => none }
def scaleRecallsRow : OpenClaim := { program := "ytpjpkcelajbfnaa", sum := "edaacf9ff6b136b896053c8b55740288ccfead64cb23947724ebcd25537a611e", func := "kitbag/kitbaglaw11.ScaleRecalls", spec := "scaleRecalls", unfollowed := true, recurses := true, apart := false }
def ScaleRecallsSaid : Prop := scaleRecallsRow.holds Try.pinned (OpenSpec.ofChange scaleRecallsSpec)

/-- ITS FALSE NEIGHBOUR: 'it returns false'. Refute it at one input. -/
def scaleRecallsWrong : ChangeSpec := { name := "scaleRecalls", fn := fun _ => fun
  | [d1, d2, d3, d4, d5, d6, d7] => { results := [.lit (.bool false)], args := [d1, d2, d3, d4, d5, d6, d7] }
  | _ => none }
def ScaleRecallsWrongFalsely : Prop := scaleRecallsRow.holds Try.pinned (OpenSpec.ofChange scaleRecallsWrong)

/- THE SECOND FORM. 'bulk': how many values and letters a reading holds, each counted each time it is reached (what is shared counts as often as it is met; a slice's spare places count too). A statement '..UptoSaid' is the law's where the arguments, and the package variables that the reading takes, are together of bulk at most 1048576: NARROWER than '..Said'. Prove '..Said' where nothing that the law and all that it calls make is longer than what came in: it says more and counts as full. Else prove '..UptoSaid'. A law counts once. -/
mutual
def uptoBulk {H : Type} : DataW H → Nat
  | .lit (.string bytes) => bytes.length + 1
  | .lit _ => 1
  | .nil => 1
  | .ptr d => uptoBulk d + 1
  | .slice elems spare => uptoBulkAll elems + uptoBulkAll spare + 1
  | .agg parts => uptoBulkAll parts + 1
  | .iface _ d => uptoBulk d + 1
  | .map entries => uptoBulkEntries entries + 1
  | .held _ => 1
def uptoBulkAll {H : Type} : List (DataW H) → Nat
  | [] => 0
  | d :: r => uptoBulk d + uptoBulkAll r
def uptoBulkEntries {H : Type} : List (Lit × DataW H) → Nat
  | [] => 0
  | x :: r => uptoBulkEntry x + uptoBulkEntries r
def uptoBulkEntry {H : Type} : Lit × DataW H → Nat
  | (.string bytes, d) => bytes.length + uptoBulk d + 1
  | (_, d) => uptoBulk d + 1
 end
def uptoSmall : (H : Type) → List (DataW H) → Bool := fun _ ds => decide (uptoBulkAll ds ≤ 1048576)
def OpenSpec.upto (s : _root_.Go.ChangeSpec) : _root_.Go.OpenSpec := { _root_.Go.OpenSpec.ofChange s with cond := some uptoSmall }

/-- 'kitbaglaw11.ScaleTells', WHERE WHAT IT READS IS OF BULK AT MOST 1048576: true; the input reads as it did. -/
def scaleTellsUptoRow : OpenClaim := { program := "ytpjpkcelajbfnaa", sum := "edaacf9ff6b136b896053c8b55740288ccfead64cb23947724ebcd25537a611e", func := "kitbag/kitbaglaw11.ScaleTells", spec := "scaleTells", unfollowed := true, recurses := true, apart := false, narrowed := true }
def ScaleTellsUptoSaid : Prop := scaleTellsUptoRow.holds Try.pinned (OpenSpec.upto scaleTellsSpec)

/-- 'kitbaglaw11.ScaleHolds', WHERE WHAT IT READS IS OF BULK AT MOST 1048576: true; the input reads as it did. -/
def scaleHoldsUptoRow : OpenClaim := { program := "ytpjpkcelajbfnaa", sum := "edaacf9ff6b136b896053c8b55740288ccfead64cb23947724ebcd25537a611e", func := "kitbag/kitbaglaw11.ScaleHolds", spec := "scaleHolds", unfollowed := true, recurses := true, apart := false, narrowed := true }
def ScaleHoldsUptoSaid : Prop := scaleHoldsUptoRow.holds Try.pinned (OpenSpec.upto scaleHoldsSpec)

/-- 'kitbaglaw11.ScaleGrows', WHERE WHAT IT READS IS OF BULK AT MOST 1048576: true; the input reads as it did. -/
def scaleGrowsUptoRow : OpenClaim := { program := "ytpjpkcelajbfnaa", sum := "edaacf9ff6b136b896053c8b55740288ccfead64cb23947724ebcd25537a611e", func := "kitbag/kitbaglaw11.ScaleGrows", spec := "scaleGrows", unfollowed := true, recurses := true, apart := false, narrowed := true }
def ScaleGrowsUptoSaid : Prop := scaleGrowsUptoRow.holds Try.pinned (OpenSpec.upto scaleGrowsSpec)

/-- 'kitbaglaw11.ScaleOthers', WHERE WHAT IT READS IS OF BULK AT MOST 1048576: true; the input reads as it did. -/
def scaleOthersUptoRow : OpenClaim := { program := "ytpjpkcelajbfnaa", sum := "edaacf9ff6b136b896053c8b55740288ccfead64cb23947724ebcd25537a611e", func := "kitbag/kitbaglaw11.ScaleOthers", spec := "scaleOthers", unfollowed := true, recurses := true, apart := false, narrowed := true }
def ScaleOthersUptoSaid : Prop := scaleOthersUptoRow.holds Try.pinned (OpenSpec.upto scaleOthersSpec)

/-- 'kitbaglaw11.ScaleRecalls', WHERE WHAT IT READS IS OF BULK AT MOST 1048576: true; the input reads as it did. -/
def scaleRecallsUptoRow : OpenClaim := { program := "ytpjpkcelajbfnaa", sum := "edaacf9ff6b136b896053c8b55740288ccfead64cb23947724ebcd25537a611e", func := "kitbag/kitbaglaw11.ScaleRecalls", spec := "scaleRecalls", unfollowed := true, recurses := true, apart := false, narrowed := true }
def ScaleRecallsUptoSaid : Prop := scaleRecallsUptoRow.holds Try.pinned (OpenSpec.upto scaleRecallsSpec)

end Rows
end Go.Proofs.Ytpjpkcelajbfnaa
