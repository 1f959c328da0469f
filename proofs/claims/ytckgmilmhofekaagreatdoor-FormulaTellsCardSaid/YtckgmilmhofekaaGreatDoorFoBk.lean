/- Walks: FormulaBack. -/
import Derived.Test.YtckgmilmhofekaaGreatDoorLexLaws
import Derived.Test.YtckgmilmhofekaaGreatDoorFoBack
import Derived.Test.YtckgmilmhofekaaGreatDoorFoWd
import Derived.Test.YtckgmilmhofekaaGreatDoorFoOx
import Derived.Test.YtckgmilmhofekaaGreatDoorFoCn
import Derived.Test.YtckgmilmhofekaaGreatDoorFoWl
import Derived.Test.YtckgmilmhofekaaGreatDoorFoSz
import Derived.Test.YtckgmilmhofekaaGreatDoorFoPt
import Derived.Test.YtckgmilmhofekaaGreatDoorFoRt
import Derived.Test.YtckgmilmhofekaaGreatDoorProg
import Derived.Test.YtckgmilmhofekaaGreatDoorShelf
import Derived.WalkKit
import Derived.Lib.ItoaNum
import Derived.WalkSpells
import Derived.WalkLawsBesides
import Derived.Handy
import Derived.Lib.Hide
import Derived.Lib.Strings
import Derived.Lib.Builder
import Derived.Shelf.Strings.Builder1
import Derived.BigQuiet
import Derived.OwnWalk
import Derived.Laws.BitsLemmas
import Derived.WalkSmall
import Derived.Deep.QuietTactic
import Derived.StillTailTactics
import Derived.Maps.AppendAt
import Derived.IntWalk
import Derived.Deep.RegionHeld3
import Derived.Deep.DeepFit
import Derived.Deep.LoopGhost
import Derived.Deep.DeepCutAuto
import Derived.Lib.Repeat
import Derived.Lib.AppendIntMem
import Derived.Sort.OwnSorted
import Derived.Shelf.Strings.SlTrimAscii
import Derived.Lib.ConvBytes
import Derived.Lib.CutLaws
import Derived.ArgAppend
namespace Go.Proofs.YtckgmilmhofekaaGreatDoor
open Go.RowKit

theorem prn_right {x : Ex} (h : rightX x = true) : Prn x := by
 obtain ⟨h1, h2⟩ := right_toks h
 have h3 := right_nodes h
 have h4 := printL_len _ h1
 refine ⟨by omega, fun t ht => ?_, by omega⟩
 have h5 := (h1 t ht).len
 have h6 := text_le t
 omega
theorem smF_sh : ∀ a : Fo, shF a = true → smF a
  | .nil, _ => trivial
  | .cons op n u m a r, h => by
    have h : (nodeB op n u m a.len && shF a && shF r) = true := h
    rw [Bool.and_eq_true, Bool.and_eq_true] at h
    have i1 := smF_sh a h.1.2
    have i2 := smF_sh r h.2
    have hq : ∀ u : Bytes, quoteOk u = true → u.length ≤ 9223372036854775807 := fun u h => by
      unfold quoteOk at h; rw [Bool.and_eq_true, decide_eq_true_eq] at h; omega
    have hm : ∀ m : Bytes, namedB m = true → m.length ≤ 9223372036854775807 := fun m h => by
      have := nameOk_len (named_ok h).1; omega
    have h0 : ([] : Bytes).length ≤ 9223372036854775807 := Nat.zero_le _
    have : u.length ≤ 9223372036854775807 ∧ m.length ≤ 9223372036854775807 ∧ a.len ≤ 9223372036854775807 := by
      rcases node_cases h.1.1 with ⟨-, k1, -, -, k2, k3⟩ | ⟨-, k1, ⟨-, k2, k3⟩ | ⟨-, k2, k3⟩ | ⟨-, k2, k4, k3⟩ | ⟨-, k2, k3⟩ | ⟨-, k2, k3⟩ | ⟨-, k2, k3⟩ | ⟨-, k2, k3⟩⟩
      · rw [k2]; exact ⟨hq u k1, h0, by omega⟩
      · rw [k1]; exact ⟨h0, hm m k2, by omega⟩
      · rw [k1]; exact ⟨h0, hm m k2, by omega⟩
      · rw [k1]; exact ⟨h0, hm m k2, by omega⟩
      · rw [k1, k2]; exact ⟨h0, h0, by omega⟩
      · rw [k1, k2]; exact ⟨h0, h0, by omega⟩
      · rw [k1, k2]; exact ⟨h0, h0, by omega⟩
      · rw [k1, k2]; exact ⟨h0, h0, by omega⟩
    exact ⟨⟨this.1, this.2.1, this.2.2, i1⟩, i2⟩
theorem smX_right {x : Ex} (h : rightX x = true) : smX x := by
 unfold rightX at h
 rw [Bool.and_eq_true] at h
 exact (smF_sh _ h.2).1
theorem smX_zero : smX Ex.zero := ⟨Nat.zero_le _, Nat.zero_le _, Nat.zero_le _, trivial⟩
theorem smX_parse {s : Bytes} {x : Ex} {p e : Nat} (h : parseX s = (x, p, e)) : smX x := by
  by_cases he : e = 0
  · exact smX_right ((parse_facts h).1 he).1
  · rw [(parse_facts h).2 he]; exact smX_zero
theorem few_parse {s : Bytes} {x : Ex} {p e : Nat} (h : parseX s = (x, p, e)) : (szF (x.then .nil) 250 24).isSome = true := by
  by_cases he : e = 0
  · exact right_few ((parse_facts h).1 he).1 (by omega) (by omega)
  · rw [(parse_facts h).2 he]; rfl
end Go.Proofs.YtckgmilmhofekaaGreatDoor
