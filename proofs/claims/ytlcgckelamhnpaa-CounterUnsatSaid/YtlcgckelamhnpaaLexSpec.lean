/- The lexer's plain answer, and plain facts about it: no Go in sight. -/
import Derived.WalkKit
namespace Go.Proofs.Ytlcgckelamhnpaa

abbrev Bytes := List UInt8
def isLetter (c : UInt8) : Bool := (decide (97 ≤ c.toNat) && decide (c.toNat ≤ 122)) || (decide (65 ≤ c.toNat) && decide (c.toNat ≤ 90))
def isDigit (c : UInt8) : Bool := decide (48 ≤ c.toNat) && decide (c.toNat ≤ 57)
def isInner (c : UInt8) : Bool := isLetter c || isDigit c || decide (c.toNat = 95)
def spanN (p : UInt8 → Bool) (l : Bytes) : Nat := (l.takeWhile p).length
def nameOk (l : Bytes) : Bool := match l with
 | [] => false
 | c :: _ => isLetter c && decide (l.length ≤ 20) && l.all isInner
/-! ### plain facts -/

theorem takeWhile_all (p : UInt8 → Bool) (l : Bytes) (h : l.all p = true) : l.takeWhile p = l := by
 induction l with
 | nil => rfl
 | cons c r ih => simp at h; simp [h.1]; exact ih (by simpa using h.2)
theorem all_takeWhile (p : UInt8 → Bool) (l : Bytes) : (l.takeWhile p).all p = true := by
 induction l with
 | nil => rfl
 | cons c r ih => by_cases h : p c <;> simp [h]
theorem take_takeWhile (p : UInt8 → Bool) (l : Bytes) : l.take (l.takeWhile p).length = l.takeWhile p := by
 induction l with
 | nil => rfl
 | cons c r ih => by_cases h : p c <;> simp [h]; exact ih
/-! ### the scan as a relation -/

end Go.Proofs.Ytlcgckelamhnpaa
