/- Spans of rational numbers, plain: no Go in sight. -/
import Derived.WalkKit
namespace Go.Proofs.YtjbfngjlepafgaaGreat

def minQ (q r : Rat) : Rat := if r < q then r else q
def maxQ (q r : Rat) : Rat := if q < r then r else q
theorem minQ_le1 (q r : Rat) : minQ q r ≤ q := by unfold minQ; split <;> grind
theorem minQ_le2 (q r : Rat) : minQ q r ≤ r := by unfold minQ; split <;> grind
theorem le_maxQ1 (q r : Rat) : q ≤ maxQ q r := by unfold maxQ; split <;> grind
theorem le_maxQ2 (q r : Rat) : r ≤ maxQ q r := by unfold maxQ; split <;> grind
theorem le_minQ {z q r : Rat} : z ≤ minQ q r ↔ z ≤ q ∧ z ≤ r := by unfold minQ; split <;> grind
theorem maxQ_le {z q r : Rat} : maxQ q r ≤ z ↔ q ≤ z ∧ r ≤ z := by unfold maxQ; split <;> grind
theorem minQ_or (q r : Rat) : minQ q r = q ∨ minQ q r = r := by unfold minQ; split <;> simp
theorem maxQ_or (q r : Rat) : maxQ q r = q ∨ maxQ q r = r := by unfold maxQ; split <;> simp
structure Sp where
 lo : Rat
 hi : Rat
def min4 (x y z u : Rat) : Rat := minQ (minQ (minQ x y) z) u
def max4 (x y z u : Rat) : Rat := maxQ (maxQ (maxQ x y) z) u
theorem le_min4 {v x y z u : Rat} : v ≤ min4 x y z u ↔ v ≤ x ∧ v ≤ y ∧ v ≤ z ∧ v ≤ u := by unfold min4; rw [le_minQ, le_minQ, le_minQ]; grind
theorem max4_le {v x y z u : Rat} : max4 x y z u ≤ v ↔ x ≤ v ∧ y ≤ v ∧ z ≤ v ∧ u ≤ v := by unfold max4; rw [maxQ_le, maxQ_le, maxQ_le]; grind
theorem min4_or (x y z u : Rat) : min4 x y z u = x ∨ min4 x y z u = y ∨ min4 x y z u = z ∨ min4 x y z u = u := by
  unfold min4
  rcases minQ_or (minQ (minQ x y) z) u with h | h
  · rcases minQ_or (minQ x y) z with h2 | h2
    · rcases minQ_or x y with h3 | h3 <;> grind
    · grind
  · grind
theorem max4_or (x y z u : Rat) : max4 x y z u = x ∨ max4 x y z u = y ∨ max4 x y z u = z ∨ max4 x y z u = u := by
  unfold max4
  rcases maxQ_or (maxQ (maxQ x y) z) u with h | h
  · rcases maxQ_or (maxQ x y) z with h2 | h2
    · rcases maxQ_or x y with h3 | h3 <;> grind
    · grind
  · grind
theorem mulr_mono {x y z : Rat} (h : x ≤ y) (hz : 0 ≤ z) : x * z ≤ y * z := Rat.mul_le_mul_of_nonneg_right h hz
theorem mulr_anti {x y z : Rat} (h : x ≤ y) (hz : z ≤ 0) : y * z ≤ x * z := by
 have h1 : 0 ≤ -z := by grind
 have := Rat.mul_le_mul_of_nonneg_right h h1
 rw [Rat.mul_neg, Rat.mul_neg] at this
 exact Rat.neg_le_neg_iff.1 this
/-- A product lies between the products of the ends. -/
theorem mul_hi {p x q y : Rat} {v : Rat} (h1 : p ≤ x) (h2 : x ≤ q) (k1 : p * y ≤ v) (k2 : q * y ≤ v) : x * y ≤ v := by
  rcases (show 0 ≤ y ∨ y ≤ 0 by grind) with h | h
  · exact Rat.le_trans (mulr_mono h2 h) k2
  · exact Rat.le_trans (mulr_anti h1 h) k1
theorem mul_lo {p x q y : Rat} {v : Rat} (h1 : p ≤ x) (h2 : x ≤ q) (k1 : v ≤ p * y) (k2 : v ≤ q * y) : v ≤ x * y := by
  rcases (show 0 ≤ y ∨ y ≤ 0 by grind) with h | h
  · exact Rat.le_trans k1 (mulr_mono h1 h)
  · exact Rat.le_trans k2 (mulr_anti h2 h)
def mulS (a b : Sp) : Sp := ⟨min4 (a.lo * b.lo) (a.lo * b.hi) (a.hi * b.lo) (a.hi * b.hi), max4 (a.lo * b.lo) (a.lo * b.hi) (a.hi * b.lo) (a.hi * b.hi)⟩
def addS (a b : Sp) : Sp := ⟨a.lo + b.lo, a.hi + b.hi⟩
def negS (a : Sp) : Sp := ⟨-a.hi, -a.lo⟩
def subS (a b : Sp) : Sp := addS a (negS b)
def minS (a b : Sp) : Sp := ⟨minQ a.lo b.lo, minQ a.hi b.hi⟩
def maxS (a b : Sp) : Sp := ⟨maxQ a.lo b.lo, maxQ a.hi b.hi⟩
def invS (b : Sp) : Sp := ⟨1 / b.hi, 1 / b.lo⟩
def okS (a : Sp) : Prop := a.lo ≤ a.hi
def hasS (a : Sp) (x : Rat) : Prop := a.lo ≤ x ∧ x ≤ a.hi
def divS (a b : Sp) : Option Sp := if b.lo ≤ 0 ∧ 0 ≤ b.hi then none else some (mulS a (invS b))
theorem mulS_has {a b : Sp} {x y : Rat} (hx : hasS a x) (hy : hasS b y) : hasS (mulS a b) (x * y) := by
  have hl := le_min4.1 (Rat.le_refl (a := (mulS a b).lo))
  have hh := max4_le.1 (Rat.le_refl (a := (mulS a b).hi))
  constructor
  · refine mul_lo hx.1 hx.2 ?_ ?_
    · rw [Rat.mul_comm]; refine mul_lo hy.1 hy.2 ?_ ?_ <;> rw [Rat.mul_comm] <;> grind
    · rw [Rat.mul_comm]; refine mul_lo hy.1 hy.2 ?_ ?_ <;> rw [Rat.mul_comm] <;> grind
  · refine mul_hi hx.1 hx.2 ?_ ?_
    · rw [Rat.mul_comm]; refine mul_hi hy.1 hy.2 ?_ ?_ <;> rw [Rat.mul_comm] <;> grind
    · rw [Rat.mul_comm]; refine mul_hi hy.1 hy.2 ?_ ?_ <;> rw [Rat.mul_comm] <;> grind
theorem has_lo {a : Sp} (h : okS a) : hasS a a.lo := ⟨Rat.le_refl, h⟩
theorem has_hi {a : Sp} (h : okS a) : hasS a a.hi := ⟨h, Rat.le_refl⟩
theorem Sp.ext' {a b : Sp} (h : a.lo = b.lo) (k : a.hi = b.hi) : a = b := by cases a; cases b; simp_all
theorem end_has {a : Sp} (h : okS a) {x : Rat} (hx : x = a.lo ∨ x = a.hi) : hasS a x := by rcases hx with rfl | rfl; exact has_lo h; exact has_hi h
theorem mulS_end_lo (a b : Sp) : ∃ x y, (x = a.lo ∨ x = a.hi) ∧ (y = b.lo ∨ y = b.hi) ∧ (mulS a b).lo = x * y := by
  rcases min4_or (a.lo * b.lo) (a.lo * b.hi) (a.hi * b.lo) (a.hi * b.hi) with h | h | h | h
  · exact ⟨_, _, .inl rfl, .inl rfl, h⟩
  · exact ⟨_, _, .inl rfl, .inr rfl, h⟩
  · exact ⟨_, _, .inr rfl, .inl rfl, h⟩
  · exact ⟨_, _, .inr rfl, .inr rfl, h⟩
theorem mulS_end_hi (a b : Sp) : ∃ x y, (x = a.lo ∨ x = a.hi) ∧ (y = b.lo ∨ y = b.hi) ∧ (mulS a b).hi = x * y := by
  rcases max4_or (a.lo * b.lo) (a.lo * b.hi) (a.hi * b.lo) (a.hi * b.hi) with h | h | h | h
  · exact ⟨_, _, .inl rfl, .inl rfl, h⟩
  · exact ⟨_, _, .inl rfl, .inr rfl, h⟩
  · exact ⟨_, _, .inr rfl, .inl rfl, h⟩
  · exact ⟨_, _, .inr rfl, .inr rfl, h⟩
theorem mulS_end {a b : Sp} {x : Rat} (h : x = (mulS a b).lo ∨ x = (mulS a b).hi) : ∃ y z, (y = a.lo ∨ y = a.hi) ∧ (z = b.lo ∨ z = b.hi) ∧ x = y * z := by
  rcases h with h | h
  · obtain ⟨y, z, hy, hz, e⟩ := mulS_end_lo a b; exact ⟨y, z, hy, hz, h.trans e⟩
  · obtain ⟨y, z, hy, hz, e⟩ := mulS_end_hi a b; exact ⟨y, z, hy, hz, h.trans e⟩
/-- Spans without 0, turned over. -/
theorem inv_pos {y : Rat} (h : 0 < y) : 0 < 1 / y := by rw [Rat.div_def, Rat.one_mul]; exact Rat.inv_pos.2 h
theorem inv_neg {y : Rat} (h : y < 0) : 1 / y < 0 := by
 have := inv_pos (show 0 < -y by grind)
 have e : 1 / -y = -(1 / y) := by
  have hy : y ≠ 0 := by grind
  have hn : -y ≠ 0 := by grind
  have h1 := Rat.div_mul_cancel (a := 1) hn
  have h2 := Rat.div_mul_cancel (a := 1) hy
  grind
 rw [e] at this; grind
theorem mul_one_div {x y : Rat} : x * (1 / y) = x / y := by rw [Rat.div_def, Rat.div_def, Rat.one_mul]
theorem inv_anti_pos {y z : Rat} (h : 0 < y) (hz : y ≤ z) : 1 / z ≤ 1 / y := by
 have hp : 0 < z := by grind
 have h1 := Rat.div_mul_cancel (a := 1) (show y ≠ 0 by grind)
 have h2 := Rat.div_mul_cancel (a := 1) (show z ≠ 0 by grind)
 have h3 := inv_pos h; have h4 := inv_pos hp
 have h5 := mulr_mono hz (Rat.le_of_lt (Rat.mul_pos h3 h4))
 have e1 : y * (1 / y * (1 / z)) = 1 / z := by grind
 have e2 : z * (1 / y * (1 / z)) = 1 / y := by grind
 rw [e1, e2] at h5; exact h5
theorem inv_anti_neg {y z : Rat} (h : z < 0) (hz : y ≤ z) : 1 / z ≤ 1 / y := by
 have hp : y < 0 := by grind
 have h1 := Rat.div_mul_cancel (a := 1) (show y ≠ 0 by grind)
 have h2 := Rat.div_mul_cancel (a := 1) (show z ≠ 0 by grind)
 have h3 := inv_neg hp; have h4 := inv_neg h
 have h6 : 0 < (1 / y) * (1 / z) := by
  have := Rat.mul_pos (show 0 < -(1 / y) by grind) (show 0 < -(1 / z) by grind)
  rw [Rat.neg_mul, Rat.mul_neg, Rat.neg_neg] at this; exact this
 have h5 := mulr_mono hz (Rat.le_of_lt h6)
 have e1 : y * (1 / y * (1 / z)) = 1 / z := by grind
 have e2 : z * (1 / y * (1 / z)) = 1 / y := by grind
 rw [e1, e2] at h5; exact h5
/-- It has no 0. -/
def no0 (b : Sp) : Prop := ¬ (b.lo ≤ 0 ∧ 0 ≤ b.hi)
theorem no0_sign {b : Sp} (_hb : okS b) (h : no0 b) : 0 < b.lo ∨ b.hi < 0 := by unfold no0 okS at *; grind
theorem invS_has {b : Sp} {y : Rat} (hb : okS b) (h : no0 b) (hy : hasS b y) : hasS (invS b) (1 / y) := by
  unfold hasS invS at *
  rcases no0_sign hb h with h1 | h1
  · exact ⟨inv_anti_pos (by grind) hy.2, inv_anti_pos h1 hy.1⟩
  · exact ⟨inv_anti_neg h1 hy.2, inv_anti_neg (by grind) hy.1⟩
theorem invS_ok {b : Sp} (hb : okS b) (h : no0 b) : okS (invS b) := by
 have := invS_has hb h (has_lo hb); exact Rat.le_trans this.1 this.2
theorem has_ne {b : Sp} {y : Rat} (h : no0 b) (hy : hasS b y) : y ≠ 0 := by unfold no0 hasS at *; grind
theorem div_has {a b : Sp} {x y : Rat} (hb : okS b) (h : no0 b) (hx : hasS a x) (hy : hasS b y) : hasS (mulS a (invS b)) (x / y) := by
 rw [← mul_one_div]; exact mulS_has hx (invS_has hb h hy)
def opS : Nat → Sp → Sp → Option Sp
 | 0, a, b => some (addS a b)
 | 1, a, b => some (subS a b)
 | 2, a, b => some (mulS a b)
 | 3, a, b => divS a b
 | 4, a, b => some (minS a b)
 | _, a, b => some (maxS a b)
def calcQ : Nat → Rat → Rat → Option Rat
 | 0, x, y => some (x + y)
 | 1, x, y => some (x - y)
 | 2, x, y => some (x * y)
 | 3, x, y => if y = 0 then none else some (x / y)
 | 4, x, y => some (minQ x y)
 | _, x, y => some (maxQ x y)
theorem divS_some {a b s : Sp} (h : divS a b = some s) : no0 b ∧ s = mulS a (invS b) := by
  unfold divS at h; split at h
  · cases h
  · rename_i h0; exact ⟨h0, (Option.some.inj h).symm⟩
theorem addS_has {a b : Sp} {x y : Rat} (hx : hasS a x) (hy : hasS b y) : hasS (addS a b) (x + y) := by unfold hasS addS at *; grind
theorem subS_has {a b : Sp} {x y : Rat} (hx : hasS a x) (hy : hasS b y) : hasS (subS a b) (x - y) := by unfold hasS subS addS negS at *; grind
theorem minS_has {a b : Sp} {x y : Rat} (hx : hasS a x) (hy : hasS b y) : hasS (minS a b) (minQ x y) := by unfold hasS minS minQ at *; grind
theorem maxS_has {a b : Sp} {x y : Rat} (hx : hasS a x) (hy : hasS b y) : hasS (maxS a b) (maxQ x y) := by unfold hasS maxS maxQ at *; grind
theorem op_has {k : Nat} {a b s : Sp} {x y : Rat} (hb : okS b) (hx : hasS a x) (hy : hasS b y) (h : opS k a b = some s) : ∃ z, calcQ k x y = some z ∧ hasS s z := by
 match k, h with
 | 0, h => cases h; exact ⟨_, rfl, addS_has hx hy⟩
 | 1, h => cases h; exact ⟨_, rfl, subS_has hx hy⟩
 | 2, h => cases h; exact ⟨_, rfl, mulS_has hx hy⟩
 | 3, h =>
  obtain ⟨h0, rfl⟩ := divS_some h
  exact ⟨_, if_neg (has_ne h0 hy), div_has hb h0 hx hy⟩
 | 4, h => cases h; exact ⟨_, rfl, minS_has hx hy⟩
 | _ + 5, h => cases h; exact ⟨_, rfl, maxS_has hx hy⟩
theorem op_none {k : Nat} {a b : Sp} (h : opS k a b = none) : k = 3 ∧ hasS b 0 := by
  match k, h with
  | 0, h => cases h
  | 1, h => cases h
  | 2, h => cases h
  | 3, h =>
    refine ⟨rfl, ?_⟩
    have h' : divS a b = none := h
    unfold divS at h'; split at h'
    · assumption
    · cases h'
  | 4, h => cases h
  | _ + 5, h => cases h
/-- Which ends: the first of a pair by the number's first bit, the second by its second. -/
def endA (a : Sp) (i : Nat) : Rat := if i % 2 = 1 then a.hi else a.lo
def endB (b : Sp) (i : Nat) : Rat := if i / 2 = 1 then b.hi else b.lo
theorem ends_pick {a b : Sp} {x y : Rat} (hx : x = a.lo ∨ x = a.hi) (hy : y = b.lo ∨ y = b.hi) : ∃ i, i < 4 ∧ endA a i = x ∧ endB b i = y := by
  rcases hx with rfl | rfl <;> rcases hy with rfl | rfl
  · exact ⟨0, by decide, rfl, rfl⟩
  · exact ⟨2, by decide, rfl, rfl⟩
  · exact ⟨1, by decide, rfl, rfl⟩
  · exact ⟨3, by decide, rfl, rfl⟩
theorem inv_end {b : Sp} {y : Rat} (h : y = (invS b).lo ∨ y = (invS b).hi) : ∃ z, (z = b.lo ∨ z = b.hi) ∧ y = 1 / z := by
  rcases h with h | h
  · exact ⟨_, .inr rfl, h⟩
  · exact ⟨_, .inl rfl, h⟩
theorem met_fin {k : Nat} {a b : Sp} {v x y : Rat} (hx : x = a.lo ∨ x = a.hi) (hy : y = b.lo ∨ y = b.hi) (e : calcQ k x y = some v) : ∃ i, i < 4 ∧ calcQ k (endA a i) (endB b i) = some v := by
 obtain ⟨i, hi, e1, e2⟩ := ends_pick hx hy
 exact ⟨i, hi, by rw [e1, e2]; exact e⟩
/-- The ends of a result are results for ends. -/
theorem op_met {k : Nat} {a b s : Sp} {v : Rat} (hb : okS b) (h : opS k a b = some s) (hv : v = s.lo ∨ v = s.hi) : ∃ i, i < 4 ∧ calcQ k (endA a i) (endB b i) = some v := by
  match k, h with
  | 0, h =>
    cases h
    rcases hv with rfl | rfl
    · exact met_fin (.inl rfl) (.inl rfl) rfl
    · exact met_fin (.inr rfl) (.inr rfl) rfl
  | 1, h =>
    cases h
    rcases hv with rfl | rfl
    · exact met_fin (.inl rfl) (.inr rfl) (by unfold calcQ subS addS negS; simp only [Rat.sub_eq_add_neg])
    · exact met_fin (.inr rfl) (.inl rfl) (by unfold calcQ subS addS negS; simp only [Rat.sub_eq_add_neg])
  | 2, h =>
    cases h
    obtain ⟨x, y, hx, hy, e⟩ := mulS_end hv
    exact met_fin hx hy (by rw [e]; rfl)
  | 3, h =>
    obtain ⟨h0, rfl⟩ := divS_some h
    obtain ⟨x, y, hx, hy, e⟩ := mulS_end hv
    obtain ⟨z, hz, e2⟩ := inv_end hy
    have hne := has_ne h0 (end_has hb hz)
    exact met_fin hx hz (by show (if z = 0 then none else some (x / z)) = some v; rw [if_neg hne, e, e2, mul_one_div])
  | 4, h =>
    cases h
    rcases hv with rfl | rfl
    · exact met_fin (.inl rfl) (.inl rfl) rfl
    · exact met_fin (.inr rfl) (.inr rfl) rfl
  | _ + 5, h =>
    cases h
    rcases hv with rfl | rfl
    · exact met_fin (.inl rfl) (.inl rfl) rfl
    · exact met_fin (.inr rfl) (.inr rfl) rfl
end Go.Proofs.YtjbfngjlepafgaaGreat
