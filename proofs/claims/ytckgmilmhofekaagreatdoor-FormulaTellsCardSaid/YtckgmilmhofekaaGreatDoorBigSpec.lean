/- Natural numbers as digits to the base 2^20, plain: no Go in sight. -/
import Derived.Test.YtckgmilmhofekaaGreatDoorBase
import Derived.WalkKit
import Derived.WalkSpells
import Derived.WalkLawsBesides
import Derived.Handy
import Derived.Lib.Hide
import Derived.Lib.Strings
import Derived.Lib.Builder
import Derived.BigQuiet
namespace Go.Proofs.YtckgmilmhofekaaGreatDoor

abbrev Digs := List Nat
def digsF : Nat → Nat → Digs | 0, _ => [] | f + 1, n => if n = 0 then [] else n % 1048576 :: digsF f (n / 1048576)
/-- The digits of a number, the least one first, without zeros at the end. -/
def digs (n : Nat) : Digs := digsF n n
end Go.Proofs.YtckgmilmhofekaaGreatDoor
namespace Go.Proofs.YtckgmilmhofekaaGreatDoor
open Go.RowKit

/-- A slice of ints reads as these numbers. -/
def RdZ (w : World) (v : Value) (l : List Int) : Prop := RdS w v l.length 1 (fun k => (l[k]?.map fun d => [Value.int .i64 d]).getD [])
def ints (l : Digs) : List Int := List.map (fun d : Nat => (d : Int)) l
/-- A slice of ints reads as these digits. -/
def RdN (w : World) (v : Value) (l : Digs) : Prop := RdZ w v (ints l)
theorem ints_len (l : Digs) : (ints l).length = l.length := by simp [ints]
theorem ints_get (l : Digs) (k : Nat) (h : k < l.length) : (ints l)[k]'(by rw [ints_len]; exact h) = (l[k] : Int) := by simp [ints]
theorem RdZ.keep {w w' : World} {v : Value} {l : List Int} (h : RdZ w v l) (hb : Below w.heap.size w w') : RdZ w' v l := RdS.keep h hb
theorem RdN.keep {w w' : World} {v : Value} {l : Digs} (h : RdN w v l) (hb : Below w.heap.size w w') : RdN w' v l := RdZ.keep h hb
theorem RdZ.at {w : World} {a : Option Addr} {n cap : Nat} {l : List Int} (h : RdZ w (.slice a n cap) l) {k : Nat} (hk : k < l.length) :
  ∃ b off, a = some ⟨b, off, none⟩ ∧ b < w.heap.size ∧ w.cell? ⟨b, off + k, none⟩ = some (.int .i64 l[k]) := by
 obtain ⟨a', cap', hv, hc⟩ := h
 cases hv
 obtain ⟨b, off, ha, hlt, hcell⟩ := hc k hk
 refine ⟨b, off, ha, hlt, ?_⟩
 have := hcell 0 (.int .i64 l[k]) (by show ((l[k]?.map fun d => [Value.int .i64 d]).getD [])[0]? = _; rw [List.getElem?_eq_getElem hk]; rfl)
 rwa [Nat.mul_one, Nat.add_zero] at this
theorem RdZ.shape {w : World} {v : Value} {l : List Int} (h : RdZ w v l) : ∃ a cap, v = .slice a l.length cap := by
 obtain ⟨a, cap, hv, _⟩ := h; exact ⟨a, cap, hv⟩
theorem RdN.shape {w : World} {v : Value} {l : Digs} (h : RdN w v l) : ∃ a cap, v = .slice a l.length cap := by
 obtain ⟨a, cap, hv⟩ := RdZ.shape h; rw [ints_len] at hv; exact ⟨a, cap, hv⟩
theorem RdN.at {w : World} {a : Option Addr} {n cap : Nat} {l : Digs} (h : RdN w (.slice a n cap) l) {k : Nat} (hk : k < l.length) :
  ∃ b off, a = some ⟨b, off, none⟩ ∧ b < w.heap.size ∧ w.cell? ⟨b, off + k, none⟩ = some (.int .i64 (l[k] : Int)) := by
 obtain ⟨b, off, ha, hlt, hc⟩ := RdZ.at h (k := k) (by rw [ints_len]; exact hk)
 rw [ints_get l k hk] at hc
 exact ⟨b, off, ha, hlt, hc⟩
/-- Part of a slice. -/
theorem RdN.take {w : World} {a : Option Addr} {n cap : Nat} {l : Digs} (h : RdN w (.slice a n cap) l) {m cap' : Nat} (hm : m ≤ l.length) : RdN w (.slice a m cap') (l.take m) := by
 have hlen : (l.take m).length = m := by rw [List.length_take]; omega
 refine ⟨a, cap', by rw [ints_len, hlen], fun k hk => ?_⟩
 rw [ints_len, hlen] at hk
 obtain ⟨b, off, ha, hlt, hc⟩ := h.at (k := k) (by omega)
 refine ⟨b, off, ha, hlt, fun j u hj => ?_⟩
 have hg : (ints (l.take m))[k]? = some (l[k]'(by omega) : Int) := by
  rw [List.getElem?_eq_getElem (by rw [ints_len, hlen]; exact hk), ints_get _ _ (by rw [hlen]; exact hk), List.getElem_take]
 dsimp only at hj
 rw [hg] at hj
 match j, hj with
 | 0, hj => simp at hj; subst hj; rw [Nat.mul_one, Nat.add_zero]; exact hc
 | j + 1, hj => simp at hj
end Go.Proofs.YtckgmilmhofekaaGreatDoor
