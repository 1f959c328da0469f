/- Scale: plain laws on errors and ends; contracts of comparisons. -/
import Derived.Test.YtpjpkcelajbfnaaScaleK
namespace Go.Proofs.Ytpjpkcelajbfnaa
open Go.RowKit
variable {G : Nat}

theorem divInt_nonneg {x y : Int} (hy : 0 < y) (hx : 0 ≤ x) : 0 ≤ Rat.divInt x y := by
  obtain ⟨g, hg, -, e1, -⟩ := new_parts (x := x) hy
  rw [← Rat.num_nonneg]
  have h2 : 0 ≤ g * nu (Rat.divInt x y) := by omega
  by_cases h : 0 ≤ nu (Rat.divInt x y)
  · exact h
  · exfalso
    have := Int.mul_neg_of_pos_of_neg hg (show nu (Rat.divInt x y) < 0 by omega)
    omega
theorem cast_nonneg {x : Int} (hx : 0 ≤ x) : 0 ≤ ((x : Int) : Rat) := by rw [← Rat.num_nonneg]; exact hx
theorem errQ_nonneg {c : Ct} {rd day : Int} (h : coversC c day = true) (h' : inR rd 0 1099511627776 = true) : 0 ≤ errQ c rd day := by
  have hb := covers_bounds h
  have he := err_bounds h h'
  have h1 : 0 ≤ Rat.divInt (c.p * rd) 1000 := divInt_nonneg (by omega) (by omega)
  have h2 : 0 ≤ ((c.n + c.d * (day - c.f) : Int) : Rat) := cast_nonneg (by omega)
  unfold errQ; grind
theorem ordQ_le {q r : Rat} (h : q ≤ r) : ordQ q r ≤ 0 := by
  unfold ordQ; split
  · omega
  · split
    · grind
    · omega
theorem ordQ_lt {q r : Rat} (h : q < r) : ordQ q r = -1 := by unfold ordQ; rw [if_pos h]
theorem sgq_nonneg {q : Rat} (h : 0 ≤ q) : 0 ≤ sg (nu q) := by
  have h1 := (sg_neg_iff q).1
  by_cases h2 : 0 ≤ sg (nu q)
  · exact h2
  · have := h1 (by omega); grind
theorem hi_up (e : Rat) (rd : Int) : hiQ e rd - (rd : Rat) = e := by unfold hiQ; grind
theorem lo_big {e : Rat} {rd : Int} (h : e ≤ (rd : Rat)) : loQ e rd = (rd : Rat) - e := lo_pos (sgq_nonneg (by grind))
theorem lo_small {e : Rat} {rd : Int} (h : (rd : Rat) < e) : loQ e rd = ((0 : Int) : Rat) := lo_neg ((sg_neg_iff _).2 (by grind))
theorem zero_cast : ((0 : Int) : Rat) = 0 := rfl
theorem lo_le {e : Rat} {rd : Int} (h : 0 ≤ e) (hr : 0 ≤ rd) : loQ e rd ≤ (rd : Rat) := by
  have h1 := cast_nonneg hr
  by_cases h2 : e ≤ (rd : Rat)
  · rw [lo_big h2]; grind
  · rw [lo_small (by grind), zero_cast]; exact h1
theorem lo_nonneg {e : Rat} {rd : Int} : 0 ≤ loQ e rd := by
  by_cases h2 : e ≤ (rd : Rat)
  · rw [lo_big h2]; grind
  · rw [lo_small (by grind), zero_cast]; exact Rat.le_refl
theorem rfcompare_is {q r : Rat} {k : Int} {a1 b1 a2 b2 : Option Addr} {c1 d1 c2 d2 : Nat} {w : World} (h1 : FD G w a1 c1 b1 d1 q) (h2 : FD G w a2 c2 b2 d2 r) (hx : Fz q 137438953472) (hy : Fz r 137438953472) (hk : ordQ q r = k) :
    Calls Try.prog 23 #[.agg #[.int .i64 (sg (nu q)), .slice a1 (ln (nu q)) c1, .int .i64 (sg (de q)), .slice b1 (ln (de q)) d1], .agg #[.int .i64 (sg (nu r)), .slice a2 (ln (nu r)) c2, .int .i64 (sg (de r)), .slice b2 (ln (de r)) d2]] w fun e w' => e = .returned (.int .i64 k) ∧ Below w.heap.size w w' := by
  rw [← hk]; exact rfcompare_ok h1 h2 hx hy
theorem rfsign_is {q : Rat} {k : Int} {a1 b1 : Option Addr} {c1 d1 : Nat} {w : World} (h1 : FD G w a1 c1 b1 d1 q) (hx : Fz q 549755813888) (hk : sg (nu q) = k) :
    Calls Try.prog 24 #[.agg #[.int .i64 (sg (nu q)), .slice a1 (ln (nu q)) c1, .int .i64 (sg (de q)), .slice b1 (ln (de q)) d1]] w fun e w' => e = .returned (.int .i64 k) ∧ Below w.heap.size w w' := by
  rw [← hk]; exact rfsign_ok h1 hx
theorem rat_ext {q r : Rat} (h1 : nu q = nu r) (h2 : de q = de r) : q = r := by rw [← divInt_parts q, ← divInt_parts r, h1, h2]
theorem rfsame_not {q r : Rat} {a1 b1 a2 b2 : Option Addr} {c1 d1 c2 d2 : Nat} {w : World} (h1 : FD G w a1 c1 b1 d1 q) (h2 : FD G w a2 c2 b2 d2 r) (hx : Fz q 549755813888) (hy : Fz r 549755813888) (hne : q ≠ r) :
    Calls Try.prog 16 #[.agg #[.int .i64 (sg (nu q)), .slice a1 (ln (nu q)) c1, .int .i64 (sg (de q)), .slice b1 (ln (de q)) d1], .agg #[.int .i64 (sg (nu r)), .slice a2 (ln (nu r)) c2, .int .i64 (sg (de r)), .slice b2 (ln (de r)) d2]] w fun e w' => e = .returned (.bool false) ∧ Below w.heap.size w w' := by
  have := rfsame_ok h1.n h1.d h2.n h2.d (hx.1.mono (by omega)) (hx.2.mono (by omega)) (hy.1.mono (by omega)) (hy.2.mono (by omega))
  have e1 : (eqZ (nu q) (nu r) && eqZ (de q) (de r)) = false := by
    rw [Bool.and_eq_false_iff]
    by_cases h : nu q = nu r
    · exact .inr (by simp [eqZ]; intro h'; exact hne (rat_ext h h'))
    · exact .inl (by simp [eqZ, h])
  rwa [e1] at this
theorem ivl_no_found {cs : List Ct} {rs : List Rc} {sc rd day : Int} (h : findC cs sc day = none) : ivl cs rs sc rd day = none := by unfold ivl; rw [h]
theorem ivl_no_range {cs : List Ct} {rs : List Rc} {sc rd day : Int} {g : Nat} (h : findC cs sc day = some g) (hr : inR rd 0 1099511627776 = false) : ivl cs rs sc rd day = none := by
  unfold ivl; rw [h]; simp only; split
  · rfl
  · split
    · rfl
    · rw [if_neg (by rw [hr]; simp)]
theorem ivl_no_rec {cs : List Ct} {rs : List Rc} {sc rd day : Int} {g : Nat} (h : findC cs sc day = some g) (hr : recalledB rs sc day = true) : ivl cs rs sc rd day = none := by
  unfold ivl; rw [h]; simp only; split
  · rfl
  · rw [if_pos hr]
theorem ivl_yes {cs : List Ct} {rs : List Rc} {sc rd day : Int} {g : Nat} (hg : g < cs.length) (h : findC cs sc day = some g) (hr : recalledB rs sc day = false) (hi : inR rd 0 1099511627776 = true) :
    ivl cs rs sc rd day = some (loQ (errQ cs[g] rd day) rd, hiQ (errQ cs[g] rd day) rd) := by
  unfold ivl; rw [h]; simp only; rw [List.getElem?_eq_getElem hg]; simp only
  rw [if_neg (by rw [hr]; simp), if_pos hi]
theorem in_no {n m : Int} (h : n < 0 ∨ m < n) : inR n 0 m = false := by simp [inR]; omega

end Go.Proofs.Ytpjpkcelajbfnaa
