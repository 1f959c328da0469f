/- Plain laws for the reference's text and reading of a big integer. -/
import Derived.Test.YtcfmakpckdicjaaGreatDoorBigDec
import Derived.Lib.ItoaNum
import Derived.Lib.Repeat
namespace Go.Proofs.YtcfmakpckdicjaaGreatDoor
open Go.Lib

/-- The digits of a number; none for zero. -/
def tx (n : Nat) : List UInt8 := if n = 0 then [] else decDigits n
theorem tx_pos {n : Nat} (h : n ≠ 0) : tx n = decDigits n := if_neg h
theorem tx_step {n : Nat} (h : n ≠ 0) : tx n = tx (n / 10) ++ [UInt8.ofNat (48 + n % 10)] := by
  unfold tx; rw [if_neg h]
  by_cases h1 : n < 10
  · rw [decDigits_one h1, if_pos (by omega), Nat.mod_eq_of_lt h1]; rfl
  · rw [decDigits, dif_neg h1, if_neg (by omega)]
theorem tx_next {n m d : Nat} {S : List UInt8} (h : n ≠ 0) (hm : n / 10 = m) (hd : n % 10 = d) {T : List UInt8} (hT : T = tx n ++ S) : T = tx m ++ (UInt8.ofNat (48 + d) :: S) := by
 rw [hT, tx_step h, hm, hd, List.append_assoc]; rfl
theorem lit_digit {d : Nat} (h : d < 10) : ((⟨#[48, 49, 50, 51, 52, 53, 54, 55, 56, 57]⟩ : ByteArray).extract d (d + 1)) = ⟨[UInt8.ofNat (48 + d)].toArray⟩ := by
 match d, h with
 | 0, _ | 1, _ | 2, _ | 3, _ | 4, _ | 5, _ | 6, _ | 7, _ | 8, _ | 9, _ => rfl
theorem textZ_tx (z : Int) : textZ z = if z < 0 then 45 :: tx z.natAbs else if z = 0 then [48] else tx z.natAbs := by
  unfold textZ
  by_cases h : z < 0
  · rw [if_pos h, if_pos h, tx_pos (by omega)]
  · rw [if_neg h, if_neg h]
    by_cases h0 : z = 0
    · rw [if_pos h0, h0]; exact decDigits_one (by omega)
    · rw [if_neg h0, tx_pos (by omega)]
end Go.Proofs.YtcfmakpckdicjaaGreatDoor
