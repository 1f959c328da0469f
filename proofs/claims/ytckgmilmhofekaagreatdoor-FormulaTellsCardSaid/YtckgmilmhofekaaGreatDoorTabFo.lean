/- The laid table of powers of ten, out of a row's condition; a world in which tables are laid. -/
import Derived.Test.YtckgmilmhofekaaGreatDoorLexPrint
import Derived.Test.YtckgmilmhofekaaGreatDoorFoOx
import Derived.Test.YtckgmilmhofekaaGreatDoorFoCn
import Derived.Test.YtckgmilmhofekaaGreatDoorFoWl
import Derived.Test.YtckgmilmhofekaaGreatDoorFoSz
import Derived.Test.YtckgmilmhofekaaGreatDoorProg
import Derived.Test.YtckgmilmhofekaaGreatDoorShelf
import Derived.Test.YtckgmilmhofekaaGreatDoorRows
import Derived.WalkKit
import Derived.Lib.ItoaNum
import Derived.WalkSpells
import Derived.WalkLawsBesides
import Derived.Handy
import Derived.Lib.Hide
import Derived.Lib.Strings
import Derived.Lib.Builder
import Derived.Shelf.Strings.Builder1
import Derived.BigQuiet
import Derived.OwnWalk
import Derived.Laws.BitsLemmas
import Derived.WalkSmall
import Derived.Deep.QuietTactic
import Derived.StillTailTactics
import Derived.Maps.AppendAt
import Derived.IntWalk
import Derived.Deep.RegionHeld3
import Derived.Deep.DeepFit
import Derived.Deep.LoopGhost
import Derived.Deep.DeepCutAuto
import Derived.Lib.Repeat
import Derived.Lib.AppendIntMem
import Derived.Sort.OwnSorted
import Derived.Shelf.Strings.SlTrimAscii
import Derived.Lib.ConvBytes
import Derived.Lib.CutLaws
import Derived.ArgAppend
import Derived.Deep.Slices
import Derived.Deep.Fields
import Derived.ChangeSame
import Derived.Lib.LaidTab
namespace Go.Proofs.YtckgmilmhofekaaGreatDoor
open Go.ChangeShapes Go.WideShapes Go.ChangeAt Go.RowKit

theorem gTab : Tryz.prog.globalNamed "internal/strconv.uint64pow10" = some 1 := by kernel_rfl
theorem gTabType : (Tryz.prog.globals[1]?).map (·.type) = some 129 := by kernel_rfl
theorem cellsTab : Tryz.prog.cellsOf 129 = 20 := by kernel_rfl
theorem cellsU64 : Tryz.prog.cellsOf 120 = 1 := by kernel_rfl
theorem laid_pow : (Rows.laid_internal_strconv_uint64pow10 : DataW Unit) = Lib.tabData .u64 Lib.pow10Tab := by rfl
theorem pow_of_vars {W : World} {rest : List (String × DataW Unit)} {ps : List MemPlace} (h : DataW.LaidVars Tryz.prog W (("internal/strconv.uint64pow10", Rows.laid_internal_strconv_uint64pow10) :: rest) ps) : Lib.TabIs Tryz.prog W "internal/strconv.uint64pow10" .u64 Lib.pow10Tab := by
 rw [laid_pow] at h
 obtain ⟨g', t', cs, fuel, p, q, hg', ht', hvar, hd, _, _⟩ := h
 obtain rfl := Option.some.inj (gTab.symm.trans hg')
 obtain rfl := Option.some.inj (gTabType.symm.trans ht')
 unfold Lib.TabIs
 rw [hvar, ← Lib.cells_of_tab Tryz.underlying129 Tryz.underlying120 cellsU64 cellsTab hd]
theorem gSig : Tryz.prog.globalNamed "kitbag/lexer.signs" = some 0 := by kernel_rfl
theorem gSigType : (Tryz.prog.globals[0]?).map (·.type) = some 105 := by kernel_rfl
theorem cellsSig : Tryz.prog.cellsOf 105 = 13 := by kernel_rfl
theorem cellsU8 : Tryz.prog.cellsOf 5 = 1 := by kernel_rfl
theorem laid_sig : (Rows.laid_kitbag_lexer_signs : DataW Unit) = Lib.tabData .u8 [40, 41, 44, 59, 58, 61, 60, 43, 45, 42, 47, 123, 125] := by rfl
theorem sig_of_vars {W : World} {rest : List (String × DataW Unit)} {ps : List MemPlace} (h : DataW.LaidVars Tryz.prog W (("kitbag/lexer.signs", Rows.laid_kitbag_lexer_signs) :: rest) ps) : Lib.TabIs Tryz.prog W "kitbag/lexer.signs" .u8 [40, 41, 44, 59, 58, 61, 60, 43, 45, 42, 47, 123, 125] := by
 rw [laid_sig] at h
 obtain ⟨g', t', cs, fuel, p, q, hg', ht', hvar, hd, _, _⟩ := h
 obtain rfl := Option.some.inj (gSig.symm.trans hg')
 obtain rfl := Option.some.inj (gSigType.symm.trans ht')
 unfold Lib.TabIs
 rw [hvar, ← Lib.cells_of_tab Tryz.underlying105 Tryz.underlying5 cellsU8 cellsSig hd]
theorem signs_of {W : World} (h : Lib.TabIs Tryz.prog W "kitbag/lexer.signs" .u8 [40, 41, 44, 59, 58, 61, 60, 43, 45, 42, 47, 123, 125]) : SignsIn W := by
  have hc : ∀ j v, signVals[j]? = some v → W.cell? ⟨0, 0 + j, none⟩ = some v := by
    intro j v hj
    have hlt : j < 13 := by
      rcases Nat.lt_or_ge j 13 with h' | h'
      · exact h'
      · rw [List.getElem?_eq_none (by rw [signVals_len]; exact h')] at hj; cases hj
    rw [Nat.zero_add, h.cell gSig j hlt]
    rw [← hj]
    have : ∀ j, j < 13 → some (Value.int .u8 (([40, 41, 44, 59, 58, 61, 60, 43, 45, 42, 47, 123, 125] : List Int).getD j 0)) = signVals[j]? := by
      intro j hj
      match j, hj with
      | 0, _ | 1, _ | 2, _ | 3, _ | 4, _ | 5, _ | 6, _ | 7, _ | 8, _ | 9, _ | 10, _ | 11, _ | 12, _ => rfl
      | j + 13, hj => omega
    exact this j hlt
  refine ⟨?_, hc⟩
  have h0 := hc 0 _ rfl
  rcases Nat.lt_or_ge 0 W.heap.size with h' | h'
  · exact h'
  · simp [World.cell?, Array.getElem?_eq_none h'] at h0
def flat1 : DataW Unit → List Value
 | .lit (.int k z) => [.int k z]
 | _ => []
def flat2 : DataW Unit → List Value
 | .agg l => l.flatMap flat1
 | d => flat1 d
/-- The cells of a laid table. -/
def cellsD : DataW Unit → List Value
 | .agg l => l.flatMap flat2
 | _ => []
def setCells_ (l : List Value) : Obj → Obj
 | .cells _ t fr => .cells l.toArray t fr
 | o => o
end Go.Proofs.YtckgmilmhofekaaGreatDoor
