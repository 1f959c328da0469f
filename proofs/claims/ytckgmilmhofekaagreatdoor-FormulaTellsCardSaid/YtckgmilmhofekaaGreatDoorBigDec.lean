/- Decimal texts: plain laws. -/
import Derived.Lib.ItoaNum
import Derived.Lib.Repeat
namespace Go.Proofs.YtckgmilmhofekaaGreatDoor
open Go.Lib

theorem nDigits_le {k b : Nat} (h : b < 10 ^ k) (hk : 0 < k) : nDigits b ≤ k := by
  induction k generalizing b with
  | zero => omega
  | succ k ih =>
    by_cases h1 : b < 10
    · rw [nDigits_small h1]; omega
    · rw [nDigits_big h1]
      have : b / 10 < 10 ^ k := by rw [Nat.pow_succ] at h; omega
      have hk0 : 0 < k := by
        rcases Nat.eq_zero_or_pos k with h0 | h0
        · subst h0; simp at this; omega
        · exact h0
      have := ih this hk0
      omega
/-- A digit's value; digits' value. -/
def dgv (c : UInt8) : Nat := c.toNat - 48
def isDg (c : UInt8) : Bool := 48 ≤ c && c ≤ 57
def decVal (l : List UInt8) : Nat := l.foldl (fun v c => v * 10 + dgv c) 0
theorem decVal_snoc (l : List UInt8) (c : UInt8) : decVal (l ++ [c]) = decVal l * 10 + dgv c := by unfold decVal; rw [List.foldl_append]; rfl
theorem dgv_of {d : Nat} (h : d < 10) : dgv (UInt8.ofNat (48 + d)) = d := by
 unfold dgv
 rw [UInt8.toNat_ofNat', Nat.mod_eq_of_lt (by omega)]; omega
theorem isDg_of {d : Nat} (h : d < 10) : isDg (UInt8.ofNat (48 + d)) = true := by
 have : ∀ e : Fin 10, isDg (UInt8.ofNat (48 + e.val)) = true := by decide
 exact this ⟨d, h⟩
theorem decVal_dec (n : Nat) : decVal (decDigits n) = n := by
  induction n using Nat.strongRecOn with
  | _ n ih =>
    by_cases h : n < 10
    · rw [decDigits_one h]; show 0 * 10 + dgv (UInt8.ofNat (48 + n)) = n; rw [dgv_of h]; omega
    · rw [decDigits, dif_neg h, decVal_snoc, ih (n / 10) (by omega), dgv_of (by omega)]; omega
theorem dec_digits (n : Nat) : ∀ c ∈ decDigits n, isDg c = true := by
  induction n using Nat.strongRecOn with
  | _ n ih =>
    by_cases h : n < 10
    · rw [decDigits_one h]; intro c hc; rw [List.mem_singleton] at hc; subst hc; exact isDg_of h
    · rw [decDigits, dif_neg h]; intro c hc
      rcases List.mem_append.1 hc with h1 | h1
      · exact ih _ (by omega) c h1
      · rw [List.mem_singleton] at h1; subst h1; exact isDg_of (by omega)
theorem dec_ne (n : Nat) : decDigits n ≠ [] := by
 intro h; have := congrArg List.length h; rw [decDigits_length] at this; have := nDigits_pos n; simp at *; omega
theorem dec_head {n : Nat} (h : 0 < n) : (decDigits n).head? ≠ some 48 := by
  induction n using Nat.strongRecOn with
  | _ n ih =>
    by_cases h1 : n < 10
    · rw [decDigits_one h1]
      have : ∀ e : Fin 10, 0 < e.val → ([UInt8.ofNat (48 + e.val)] : List UInt8).head? ≠ some 48 := by decide
      exact this ⟨n, h1⟩ h
    · rw [decDigits, dif_neg h1]
      have := ih (n / 10) (by omega) (by omega)
      have hne := dec_ne (n / 10)
      cases hq : decDigits (n / 10) with
      | nil => exact absurd hq hne
      | cons a l => rw [hq] at this; simpa using this
end Go.Proofs.YtckgmilmhofekaaGreatDoor
