/- Masks and shifts of ints by 20 bits, plain. -/
import Derived.WalkKit
import Derived.Laws.BitsLemmas
namespace Go.Proofs.YtlcgckelamhnpaaGreat
theorem mask20_plain (n : Int) : ((BitVec.ofInt 64 n &&& BitVec.ofInt 64 1048575).toNat : Int) = n % 1048576 := by
 have h1 : (BitVec.ofInt 64 n).toNat = (n % 18446744073709551616).toNat := by rw [BitVec.toNat_ofInt]; rfl
 have h2 : (BitVec.ofInt 64 1048575).toNat = 2 ^ 20 - 1 := by decide
 rw [BitVec.toNat_and, h1, h2, Nat.and_two_pow_sub_one_eq_mod]; omega
theorem wrap_mod20 (n : Int) : IntKind.i64.wrap (n % 1048576) = n % 1048576 := by rw [IntKind.wrap_i64]; omega
theorem mask20 (n : Int) : bits .and .i64 n 1048575 = n % 1048576 :=
 (congrArg IntKind.i64.wrap (mask20_plain n)).trans (wrap_mod20 n)
theorem mask1_plain (n : Int) : ((BitVec.ofInt 64 n &&& BitVec.ofInt 64 1).toNat : Int) = n % 2 := by
 have h1 : (BitVec.ofInt 64 n).toNat = (n % 18446744073709551616).toNat := by rw [BitVec.toNat_ofInt]; rfl
 have h2 : (BitVec.ofInt 64 1).toNat = 2 ^ 1 - 1 := by decide
 rw [BitVec.toNat_and, h1, h2, Nat.and_two_pow_sub_one_eq_mod]; omega
theorem wrap_mod2 (n : Int) : IntKind.i64.wrap (n % 2) = n % 2 := by rw [IntKind.wrap_i64]; omega
theorem mask1 (n : Int) : bits .and .i64 n 1 = n % 2 := (congrArg IntKind.i64.wrap (mask1_plain n)).trans (wrap_mod2 n)
theorem wraps_i64 (n : Int) (h₀ : 0 ≤ n) (h₁ : n < 2 ^ 63) : IntKind.i64.wrap n = n := by rw [IntKind.wrap_i64]; omega
theorem or20 {r x : Nat} (hr : r < 1099511627776) (hx : x < 1048576) : bits .or .i64 ((r : Int) * 1048576) (x : Int) = ((r * 1048576 + x : Nat) : Int) := by
 rw [bits_join .i64 63 (by decide) wraps_i64 20 _ _ (by omega) (by omega) (by omega) (by omega) (by omega) (by omega)]; omega
end Go.Proofs.YtlcgckelamhnpaaGreat
