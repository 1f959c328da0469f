/-
  No cell of these rows narrows 'for every input' (looked for: loops, veiled, ifaces, maps, wideKeys, modest, calm, conditions, laid).
  DERIVED. THE GIVEN ROWS OF THIS SEAT. 4 by the template 'for every input the law returns true; each argument reads behind the call as it read before'; 0 by the template 'total and deterministic' (their statements: YtlpcblhkddmlnaaTotals.lean).
  GIVEN WITH THE SEED: the statements are not yours to turn. If you find one false, say at which input.
  Laid BY PROGRAM, IN A SANDBOX (cutbox-rows.mjs): the forced cells as the released guide's own fill.sh prints them over the translation e9340b71db31c7a1… (all of the seat's roots in one cut). By AI agents, Wed Nov 11 2026. No macro, syntax, notation, axiom, sorry.
-/
import Derived.Test.YtlpcblhkddmlnaaChecked
import GoSem.Claim
import GoSem.ClaimJoined
import GoSem.ClaimMapViews
import Derived.JoinedTies
import Derived.KernelRfl
namespace Go.Proofs.Ytlpcblhkddmlnaa
/- THE CELL 'sum', in the pinned program and in every row, IS THE sha256 OF THE DUMP (.gsa) THAT YtlpcblhkddmlnaaProg.lean LOADS. Nothing in Lean hashes anything: it is a label: what it is worth is what the hold of that sum in a sandbox is worth. -/
noncomputable def Try.pinned : Pinned := { name := "ytlpcblhkddmlnaa", sum := "e9340b71db31c7a1b3cd6bf4d51da4c61266b211a09f3f9e88796b528596e602", checked := Try.checked }
namespace Rows
def none {H : Type} : Left H := { results := [], args := [] }

/-- 'kitbaglaw43.RestateTells': WHATEVER THE INPUT: true; the input reads as it did. -/
def restateTellsSpec : ChangeSpec := { name := "restateTells", fn := fun _ => fun
  | [d1, d2, d3, d4] => { results := [.lit (.bool true)], args := [d1, d2, d3, d4] }
  | _ => none }
def restateTellsRow : OpenClaim := { program := "ytlpcblhkddmlnaa", sum := "e9340b71db31c7a1b3cd6bf4d51da4c61266b211a09f3f9e88796b528596e602", func := "kitbag/kitbaglaw43.RestateTells", spec := "restateTells", unfollowed := true, recurses := true, apart := false }
def RestateTellsSaid : Prop := restateTellsRow.holds Try.pinned (OpenSpec.ofChange restateTellsSpec)

/-- ITS FALSE NEIGHBOUR: 'it returns false'. Refute it at one input. -/
def restateTellsWrong : ChangeSpec := { name := "restateTells", fn := fun _ => fun
  | [d1, d2, d3, d4] => { results := [.lit (.bool false)], args := [d1, d2, d3, d4] }
  | _ => none }
def RestateTellsWrongFalsely : Prop := restateTellsRow.holds Try.pinned (OpenSpec.ofChange restateTellsWrong)

/-- 'kitbaglaw43.RestateStays': WHATEVER THE INPUT: true; the input reads as it did. -/
def restateStaysSpec : ChangeSpec := { name := "restateStays", fn := fun _ => fun
  | [d1, d2, d3, d4] => { results := [.lit (.bool true)], args := [d1, d2, d3, d4] }
  | _ => none }
def restateStaysRow : OpenClaim := { program := "ytlpcblhkddmlnaa", sum := "e9340b71db31c7a1b3cd6bf4d51da4c61266b211a09f3f9e88796b528596e602", func := "kitbag/kitbaglaw43.RestateStays", spec := "restateStays", unfollowed := true, recurses := true, apart := false }
def RestateStaysSaid : Prop := restateStaysRow.holds Try.pinned (OpenSpec.ofChange restateStaysSpec)

/-- ITS FALSE NEIGHBOUR: 'it returns false'. Refute it at one input. -/
def restateStaysWrong : ChangeSpec := { name := "restateStays", fn := fun _ => fun
  | [d1, d2, d3, d4] => { results := [.lit (.bool false)], args := [d1, d2, d3, d4] }
  | _ => none }
def RestateStaysWrongFalsely : Prop := restateStaysRow.holds Try.pinned (OpenSpec.ofChange restateStaysWrong)

/-- 'kitbaglaw43.RestateOnce': WHATEVER THE INPUT: true; the input reads as it did. -/
def restateOnceSpec : ChangeSpec := { name := "restateOnce", fn := fun _ => fun
  | [d1, d2, d3, d4, d5, d6] => { results := [.lit (.bool true)], args := [d1, d2, d3, d4, d5, d6] }
  | _ => none }
def restateOnceRow : OpenClaim := { program := "ytlpcblhkddmlnaa", sum := "e9340b71db31c7a1b3cd6bf4d51da4c61266b211a09f3f9e88796b528596e602", func := "kitbag/kitbaglaw43.RestateOnce", spec := "restateOnce", unfollowed := true, recurses := true, apart := false }
def RestateOnceSaid : Prop := restateOnceRow.holds Try.pinned (OpenSpec.ofChange restateOnceSpec)

/-- ITS FALSE NEIGHBOUR: 'it returns false'. Refute it at one input. -/
def restateOnceWrong : ChangeSpec := { name := "restateOnce", fn := fun _ => fun
  | [d1, d2, d3, d4, d5, d6] => { results := [.lit (.bool false)], args := [d1, d2, d3, d4, d5, d6] }
  | _ => none }
def RestateOnceWrongFalsely : Prop := restateOnceRow.holds Try.pinned (OpenSpec.ofChange restateOnceWrong)

/-- 'kitbaglaw43.RestateDeltas': WHATEVER THE INPUT: true; the input reads as it did. -/
def restateDeltasSpec : ChangeSpec := { name := "restateDeltas", fn := fun _ => fun
  | [d1, d2] => { results := [.lit (.bool true)], args := [d1, d2] }
  | _ => none }
def restateDeltasRow : OpenClaim := { program := "ytlpcblhkddmlnaa", sum := "e9340b71db31c7a1b3cd6bf4d51da4c61266b211a09f3f9e88796b528596e602", func := "kitbag/kitbaglaw43.RestateDeltas", spec := "restateDeltas", unfollowed := true, recurses := true, apart := false }
def RestateDeltasSaid : Prop := restateDeltasRow.holds Try.pinned (OpenSpec.ofChange restateDeltasSpec)

/-- ITS FALSE NEIGHBOUR: 'it returns false'. Refute it at one input. -/
def restateDeltasWrong : ChangeSpec := { name := "restateDeltas", fn := fun _ => fun
  | [d1, d2] => { results := [.lit (.bool false)], args := [d1, d2] }
  | _ => none }
def RestateDeltasWrongFalsely : Prop := restateDeltasRow.holds Try.pinned (OpenSpec.ofChange restateDeltasWrong)

/- THE SECOND FORM. 'bulk': how many values and letters a reading holds, each counted each time it is reached (what is shared counts as often as it is met; a slice's spare places count too). A statement '..UptoSaid' is the law's where the arguments, and the package variables that the reading takes, are together of bulk at most 1048576: NARROWER than '..Said'. Prove '..Said' where nothing that the law and all that it calls make is longer than what came in: it says more and counts as full. Else prove '..UptoSaid'. A law counts once. -/
mutual
def uptoBulk {H : Type} : DataW H → Nat
  | .lit (.string bytes) => bytes.length + 1
  | .lit _ => 1
  | .nil => 1
  | .ptr d => uptoBulk d + 1
  | .slice elems spare => uptoBulkAll elems + uptoBulkAll spare + 1
  | .agg parts => uptoBulkAll parts + 1
  | .iface _ d => uptoBulk d + 1
  | .map entries => uptoBulkEntries entries + 1
  | .held _ => 1
def uptoBulkAll {H : Type} : List (DataW H) → Nat
  | [] => 0
  | d :: r => uptoBulk d + uptoBulkAll r
def uptoBulkEntries {H : Type} : List (Lit × DataW H) → Nat
  | [] => 0
  | x :: r => uptoBulkEntry x + uptoBulkEntries r
def uptoBulkEntry {H : Type} : Lit × DataW H → Nat
  | (.string bytes, d) => bytes.length + uptoBulk d + 1
  | (_, d) => uptoBulk d + 1
 end
def uptoSmall : (H : Type) → List (DataW H) → Bool := fun _ ds => decide (uptoBulkAll ds ≤ 1048576)
def OpenSpec.upto (s : _root_.Go.ChangeSpec) : _root_.Go.OpenSpec := { _root_.Go.OpenSpec.ofChange s with cond := some uptoSmall }

/-- 'kitbaglaw43.RestateTells', WHERE WHAT IT READS IS OF BULK AT MOST 1048576: true; the input reads as it did. -/
def restateTellsUptoRow : OpenClaim := { program := "ytlpcblhkddmlnaa", sum := "e9340b71db31c7a1b3cd6bf4d51da4c61266b211a09f3f9e88796b528596e602", func := "kitbag/kitbaglaw43.RestateTells", spec := "restateTells", unfollowed := true, recurses := true, apart := false, narrowed := true }
def RestateTellsUptoSaid : Prop := restateTellsUptoRow.holds Try.pinned (OpenSpec.upto restateTellsSpec)

/-- 'kitbaglaw43.RestateStays', WHERE WHAT IT READS IS OF BULK AT MOST 1048576: true; the input reads as it did. -/
def restateStaysUptoRow : OpenClaim := { program := "ytlpcblhkddmlnaa", sum := "e9340b71db31c7a1b3cd6bf4d51da4c61266b211a09f3f9e88796b528596e602", func := "kitbag/kitbaglaw43.RestateStays", spec := "restateStays", unfollowed := true, recurses := true, apart := false, narrowed := true }
def RestateStaysUptoSaid : Prop := restateStaysUptoRow.holds Try.pinned (OpenSpec.upto restateStaysSpec)

/-- 'kitbaglaw43.RestateOnce', WHERE WHAT IT READS IS OF BULK AT MOST 1048576: true; the input reads as it did. -/
def restateOnceUptoRow : OpenClaim := { program := "ytlpcblhkddmlnaa", sum := "e9340b71db31c7a1b3cd6bf4d51da4c61266b211a09f3f9e88796b528596e602", func := "kitbag/kitbaglaw43.RestateOnce", spec := "restateOnce", unfollowed := true, recurses := true, apart := false, narrowed := true }
def RestateOnceUptoSaid : Prop := restateOnceUptoRow.holds Try.pinned (OpenSpec.upto restateOnceSpec)

/-- 'kitbaglaw43.RestateDeltas', WHERE WHAT IT READS IS OF BULK AT MOST 1048576: true; the input reads as it did. -/
def restateDeltasUptoRow : OpenClaim := { program := "ytlpcblhkddmlnaa", sum := "e9340b71db31c7a1b3cd6bf4d51da4c61266b211a09f3f9e88796b528596e602", func := "kitbag/kitbaglaw43.RestateDeltas", spec := "restateDeltas", unfollowed := true, recurses := true, apart := false, narrowed := true }
def RestateDeltasUptoSaid : Prop := restateDeltasUptoRow.holds Try.pinned (OpenSpec.upto restateDeltasSpec)

end Rows
end Go.Proofs.Ytlpcblhkddmlnaa
