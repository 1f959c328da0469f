/- Decimal texts: plain laws. -/
import Derived.Lib.ItoaNum
import Derived.Lib.Repeat
namespace Go.Proofs.Ytlcgckelamhnpaa
open Go.Lib

/-- b as k decimal digits, zeros ahead. -/
def padK (k b : Nat) : List UInt8 := List.replicate (k - (decDigits b).length) 48 ++ decDigits b
/-- The pieces of a text, the last one first. -/
def parts : Nat → Nat → List (List UInt8)
 | 0, _ => []
 | f + 1, n => if n = 0 then [] else (if n / 100000 = 0 then decDigits (n % 100000) else padK 5 (n % 100000)) :: parts f (n / 100000)
end Go.Proofs.Ytlcgckelamhnpaa
