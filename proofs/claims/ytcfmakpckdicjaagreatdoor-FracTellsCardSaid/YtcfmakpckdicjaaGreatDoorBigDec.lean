/- Decimal texts: plain laws. -/
import Derived.Lib.ItoaNum
import Derived.Lib.Repeat
namespace Go.Proofs.YtcfmakpckdicjaaGreatDoor
open Go.Lib

/-- b as k decimal digits, zeros ahead. -/
def padK (k b : Nat) : List UInt8 := List.replicate (k - (decDigits b).length) 48 ++ decDigits b
theorem nDigits_le {k b : Nat} (h : b < 10 ^ k) (hk : 0 < k) : nDigits b ≤ k := by
  induction k generalizing b with
  | zero => omega
  | succ k ih =>
    by_cases h1 : b < 10
    · rw [nDigits_small h1]; omega
    · rw [nDigits_big h1]
      have : b / 10 < 10 ^ k := by rw [Nat.pow_succ] at h; omega
      have hk0 : 0 < k := by
        rcases Nat.eq_zero_or_pos k with h0 | h0
        · subst h0; simp at this; omega
        · exact h0
      have := ih this hk0
      omega
theorem padK_succ {k b : Nat} (h : b < 10 ^ (k + 1)) (hk : 0 < k) : padK (k + 1) b = padK k (b / 10) ++ [UInt8.ofNat (48 + b % 10)] := by
  unfold padK
  have h10 : b / 10 < 10 ^ k := by rw [Nat.pow_succ] at h; omega
  have hl := nDigits_le h10 hk
  rw [decDigits_length, decDigits_length]
  by_cases h1 : b < 10
  · have h0 : b / 10 = 0 := by omega
    rw [nDigits_small h1, h0, nDigits_small (by omega)]
    rw [decDigits_one h1, decDigits_one (by omega : 0 < 10)]
    have : b % 10 = b := by omega
    rw [this, show k + 1 - 1 = (k - 1) + 1 by omega, List.replicate_succ']; rfl
  · rw [nDigits_big h1, decDigits, dif_neg h1, ← List.append_assoc, show k + 1 - (nDigits (b / 10) + 1) = k - nDigits (b / 10) by omega]
theorem padK_one {b : Nat} (h : b < 10) : padK 1 b = [UInt8.ofNat (48 + b)] := by
 unfold padK; rw [decDigits_one h]; rfl
theorem dec_split : ∀ (k a b : Nat), 0 < a → 0 < k → b < 10 ^ k → decDigits (a * 10 ^ k + b) = decDigits a ++ padK k b
 | 0, _, _, _, h, _ => by omega
 | 1, a, b, ha, _, hb => by
  have hb' : b < 10 := by simpa using hb
  rw [Nat.pow_one, decDigits, dif_neg (by omega), padK_one hb', show (a * 10 + b) / 10 = a by omega, show (a * 10 + b) % 10 = b by omega]
 | k + 2, a, b, ha, _, hb => by
  have ih := dec_split (k + 1) a (b / 10) ha (by omega) (by rw [Nat.pow_succ] at hb; omega)
  have hp : 1 ≤ 10 ^ (k + 1) := Nat.one_le_pow _ _ (by decide)
  have hbig : 10 ≤ a * 10 ^ (k + 2) := by
   rw [Nat.pow_succ, ← Nat.mul_assoc]
   have : 1 ≤ a * 10 ^ (k + 1) := Nat.mul_pos ha hp
   omega
  have e1 : (a * 10 ^ (k + 2) + b) / 10 = a * 10 ^ (k + 1) + b / 10 := by rw [Nat.pow_succ, ← Nat.mul_assoc]; omega
  have e2 : (a * 10 ^ (k + 2) + b) % 10 = b % 10 := by rw [Nat.pow_succ, ← Nat.mul_assoc]; omega
  rw [decDigits, dif_neg (by omega), e1, e2, ih, padK_succ hb (by omega), List.append_assoc]
/-- The pieces of a text, the last one first. -/
def parts : Nat → Nat → List (List UInt8)
 | 0, _ => []
 | f + 1, n => if n = 0 then [] else (if n / 100000 = 0 then decDigits (n % 100000) else padK 5 (n % 100000)) :: parts f (n / 100000)
theorem parts_join : ∀ (f n : Nat), n ≤ f → 0 < n → (parts f n).reverse.flatten = decDigits n
  | 0, n, h, h0 => by omega
  | f + 1, n, h, h0 => by
    have ih := parts_join f (n / 100000) (by omega)
    rw [parts, if_neg (by omega)]
    by_cases hq : n / 100000 = 0
    · rw [if_pos hq, hq]
      have : parts f 0 = [] := by cases f <;> simp [parts]
      rw [this, show n % 100000 = n by omega]; simp
    · rw [if_neg hq, List.reverse_cons, List.flatten_append, ih (by omega)]
      have := dec_split 5 (n / 100000) (n % 100000) (by omega) (by omega) (by omega)
      rw [show n / 100000 * 10 ^ 5 + n % 100000 = n by omega] at this
      rw [this]; simp
theorem parts_zero (f : Nat) : parts f 0 = [] := by cases f <;> simp [parts]
theorem parts_fuel : ∀ (f g n : Nat), n ≤ f → n ≤ g → parts f n = parts g n
  | 0, g, n, h, _ => by obtain rfl : n = 0 := by omega
                        rw [parts_zero, parts_zero]
  | f + 1, 0, n, _, h => by obtain rfl : n = 0 := by omega
                            rw [parts_zero, parts_zero]
  | f + 1, g + 1, n, h, h' => by
    rw [parts, parts]
    by_cases h0 : n = 0
    · rw [if_pos h0, if_pos h0]
    · rw [if_neg h0, if_neg h0, parts_fuel f g (n / 100000) (by omega) (by omega)]
/-- The text of an integer. -/
def textZ (z : Int) : List UInt8 := if z < 0 then 45 :: decDigits z.natAbs else decDigits z.natAbs
/-- A digit's value; digits' value. -/
def dgv (c : UInt8) : Nat := c.toNat - 48
def isDg (c : UInt8) : Bool := 48 ≤ c && c ≤ 57
def decVal (l : List UInt8) : Nat := l.foldl (fun v c => v * 10 + dgv c) 0
theorem decVal_snoc (l : List UInt8) (c : UInt8) : decVal (l ++ [c]) = decVal l * 10 + dgv c := by unfold decVal; rw [List.foldl_append]; rfl
theorem dgv_of {d : Nat} (h : d < 10) : dgv (UInt8.ofNat (48 + d)) = d := by
 unfold dgv
 rw [UInt8.toNat_ofNat', Nat.mod_eq_of_lt (by omega)]; omega
theorem isDg_of {d : Nat} (h : d < 10) : isDg (UInt8.ofNat (48 + d)) = true := by
 have : ∀ e : Fin 10, isDg (UInt8.ofNat (48 + e.val)) = true := by decide
 exact this ⟨d, h⟩
theorem decVal_dec (n : Nat) : decVal (decDigits n) = n := by
  induction n using Nat.strongRecOn with
  | _ n ih =>
    by_cases h : n < 10
    · rw [decDigits_one h]; show 0 * 10 + dgv (UInt8.ofNat (48 + n)) = n; rw [dgv_of h]; omega
    · rw [decDigits, dif_neg h, decVal_snoc, ih (n / 10) (by omega), dgv_of (by omega)]; omega
theorem dec_digits (n : Nat) : ∀ c ∈ decDigits n, isDg c = true := by
  induction n using Nat.strongRecOn with
  | _ n ih =>
    by_cases h : n < 10
    · rw [decDigits_one h]; intro c hc; rw [List.mem_singleton] at hc; subst hc; exact isDg_of h
    · rw [decDigits, dif_neg h]; intro c hc
      rcases List.mem_append.1 hc with h1 | h1
      · exact ih _ (by omega) c h1
      · rw [List.mem_singleton] at h1; subst h1; exact isDg_of (by omega)
theorem dec_ne (n : Nat) : decDigits n ≠ [] := by
 intro h; have := congrArg List.length h; rw [decDigits_length] at this; have := nDigits_pos n; simp at *; omega
theorem isDg_bounds {c : UInt8} (h : isDg c = true) : dgv c < 10 ∧ UInt8.ofNat (48 + dgv c) = c ∧ (dgv c = 0 → c = 48) := by
 have : ∀ e : Fin 256, isDg (UInt8.ofNat e.val) = true → dgv (UInt8.ofNat e.val) < 10 ∧ UInt8.ofNat (48 + dgv (UInt8.ofNat e.val)) = UInt8.ofNat e.val ∧ (dgv (UInt8.ofNat e.val) = 0 → UInt8.ofNat e.val = 48) := by decide +kernel
 have h2 := this ⟨c.toNat, c.toNat_lt⟩
 simp only [UInt8.ofNat_toNat] at h2
 exact h2 h
theorem snoc_ind {α : Type} {P : List α → Prop} (h0 : P []) (h1 : ∀ l c, P l → P (l ++ [c])) (l : List α) : P l := by
 have : ∀ r : List α, P r.reverse := fun r => by
  induction r with
  | nil => exact h0
  | cons a r ih => rw [List.reverse_cons]; exact h1 _ _ ih
 rw [← List.reverse_reverse l]; exact this _
theorem decVal_pos {l : List UInt8} (hd : ∀ c ∈ l, isDg c = true) (hn : l ≠ []) (h0 : l.head? ≠ some 48) : 0 < decVal l := by
 induction l using snoc_ind with
 | h0 => exact absurd rfl hn
 | h1 l c ih =>
  rw [decVal_snoc]
  cases l with
  | nil =>
   have := isDg_bounds (hd c (by simp))
   have h1 : c ≠ 48 := by simpa using h0
   have : dgv c ≠ 0 := fun h => h1 (this.2.2 h)
   simp [decVal]; omega
  | cons a l =>
   have := ih (fun x hx => hd x (by simp at hx ⊢; rcases hx with h | h <;> simp [h])) (by simp) (by simpa using h0)
   omega
theorem dec_decVal {l : List UInt8} (hd : ∀ c ∈ l, isDg c = true) (hn : l ≠ []) (h0 : l.head? ≠ some 48) : decDigits (decVal l) = l := by
 induction l using snoc_ind with
 | h0 => exact absurd rfl hn
 | h1 l c ih =>
  have hc := isDg_bounds (hd c (by simp))
  cases l with
  | nil => rw [show decVal ([] ++ [c]) = dgv c by simp [decVal], decDigits_one hc.1, hc.2.1]; rfl
  | cons a l =>
   have hd' : ∀ x ∈ a :: l, isDg x = true := fun x hx => hd x (by simp at hx ⊢; rcases hx with h | h <;> simp [h])
   have ih' := ih hd' (by simp) (by simpa using h0)
   have hp := decVal_pos hd' (by simp) (by simpa using h0)
   rw [decVal_snoc, decDigits, dif_neg (by omega), show (decVal (a :: l) * 10 + dgv c) / 10 = decVal (a :: l) by omega, show (decVal (a :: l) * 10 + dgv c) % 10 = dgv c by omega, ih', hc.2.1]
theorem dec_head {n : Nat} (h : 0 < n) : (decDigits n).head? ≠ some 48 := by
  induction n using Nat.strongRecOn with
  | _ n ih =>
    by_cases h1 : n < 10
    · rw [decDigits_one h1]
      have : ∀ e : Fin 10, 0 < e.val → ([UInt8.ofNat (48 + e.val)] : List UInt8).head? ≠ some 48 := by decide
      exact this ⟨n, h1⟩ h
    · rw [decDigits, dif_neg h1]
      have := ih (n / 10) (by omega) (by omega)
      have hne := dec_ne (n / 10)
      cases hq : decDigits (n / 10) with
      | nil => exact absurd hq hne
      | cons a l => rw [hq] at this; simpa using this
end Go.Proofs.YtcfmakpckdicjaaGreatDoor
