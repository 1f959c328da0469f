/- Scale: plain laws on errors and ends; contracts of comparisons. -/
import Derived.Test.YtlcgckelamhnpaaGreatScaleI
import Derived.ArgAppend
namespace Go.Proofs.YtlcgckelamhnpaaGreat
open Go.RowKit
variable {G : Nat}
theorem rcin_nil (w : World) (a : Option Addr) (c : Nat) : RcIn w (.slice a 0 c) [] := ⟨a, c, rfl, fun k hk => by simp at hk⟩
theorem divInt_nonneg {x y : Int} (hy : 0 < y) (hx : 0 ≤ x) : 0 ≤ Rat.divInt x y := by
 obtain ⟨g, hg, -, e1, -⟩ := new_parts (x := x) hy; rw [← Rat.num_nonneg]; have h2 : 0 ≤ g * nu (Rat.divInt x y) := by omega
 by_cases h : 0 ≤ nu (Rat.divInt x y)
 · exact h
 · exfalso
   have := Int.mul_neg_of_pos_of_neg hg (show nu (Rat.divInt x y) < 0 by omega)
   omega
theorem cast_nonneg {x : Int} (hx : 0 ≤ x) : 0 ≤ ((x : Int) : Rat) := by rw [← Rat.num_nonneg]; exact hx
theorem errQ_nonneg {c : Ct} {rd day : Int} (h : coversC c day = true) (h' : inR rd 0 1099511627776 = true) : 0 ≤ errQ c rd day := by
 have hb := covers_bounds h; have he := err_bounds h h'; have h1 : 0 ≤ Rat.divInt (c.p * rd) 1000 := divInt_nonneg (by omega) (by omega); have h2 : 0 ≤ ((c.n + c.d * (day - c.f) : Int) : Rat) := cast_nonneg (by omega); unfold errQ; grind
theorem sgq_nonneg {q : Rat} (h : 0 ≤ q) : 0 ≤ sg (nu q) := by
 have h1 := (sg_neg_iff q).1
 by_cases h2 : 0 ≤ sg (nu q)
 · exact h2
 · have := h1 (by omega); grind
theorem lo_big {e : Rat} {rd : Int} (h : e ≤ (rd : Rat)) : loQ e rd = (rd : Rat) - e := lo_pos (sgq_nonneg (by grind))
theorem lo_small {e : Rat} {rd : Int} (h : (rd : Rat) < e) : loQ e rd = ((0 : Int) : Rat) := lo_neg ((sg_neg_iff _).2 (by grind))
theorem zero_cast : ((0 : Int) : Rat) = 0 := rfl
theorem lo_le {e : Rat} {rd : Int} (h : 0 ≤ e) (hr : 0 ≤ rd) : loQ e rd ≤ (rd : Rat) := by
 have h1 := cast_nonneg hr
 by_cases h2 : e ≤ (rd : Rat)
 · rw [lo_big h2]; grind
 · rw [lo_small (by grind), zero_cast]; exact h1
theorem lo_nonneg {e : Rat} {rd : Int} : 0 ≤ loQ e rd := by
 by_cases h2 : e ≤ (rd : Rat)
 · rw [lo_big h2]; grind
 · rw [lo_small (by grind), zero_cast]; exact Rat.le_refl
end Go.Proofs.YtlcgckelamhnpaaGreat
