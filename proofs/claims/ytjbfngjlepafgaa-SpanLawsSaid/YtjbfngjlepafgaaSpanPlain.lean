/- Spans of rational numbers, plain: no Go in sight. -/
import Derived.WalkKit
namespace Go.Proofs.Ytjbfngjlepafgaa

def minQ (q r : Rat) : Rat := if r < q then r else q
def maxQ (q r : Rat) : Rat := if q < r then r else q
theorem minQ_le1 (q r : Rat) : minQ q r ≤ q := by unfold minQ; split <;> grind
theorem le_maxQ1 (q r : Rat) : q ≤ maxQ q r := by unfold maxQ; split <;> grind
theorem le_minQ {z q r : Rat} : z ≤ minQ q r ↔ z ≤ q ∧ z ≤ r := by unfold minQ; split <;> grind
theorem maxQ_le {z q r : Rat} : maxQ q r ≤ z ↔ q ≤ z ∧ r ≤ z := by unfold maxQ; split <;> grind
theorem minQ_or (q r : Rat) : minQ q r = q ∨ minQ q r = r := by unfold minQ; split <;> simp
theorem maxQ_or (q r : Rat) : maxQ q r = q ∨ maxQ q r = r := by unfold maxQ; split <;> simp
structure Sp where
  lo : Rat
  hi : Rat
def min4 (x y z u : Rat) : Rat := minQ (minQ (minQ x y) z) u
def max4 (x y z u : Rat) : Rat := maxQ (maxQ (maxQ x y) z) u
theorem le_min4 {v x y z u : Rat} : v ≤ min4 x y z u ↔ v ≤ x ∧ v ≤ y ∧ v ≤ z ∧ v ≤ u := by unfold min4; rw [le_minQ, le_minQ, le_minQ]; grind
theorem max4_le {v x y z u : Rat} : max4 x y z u ≤ v ↔ x ≤ v ∧ y ≤ v ∧ z ≤ v ∧ u ≤ v := by unfold max4; rw [maxQ_le, maxQ_le, maxQ_le]; grind
theorem min4_or (x y z u : Rat) : min4 x y z u = x ∨ min4 x y z u = y ∨ min4 x y z u = z ∨ min4 x y z u = u := by
  unfold min4
  rcases minQ_or (minQ (minQ x y) z) u with h | h
  · rcases minQ_or (minQ x y) z with h2 | h2
    · rcases minQ_or x y with h3 | h3 <;> grind
    · grind
  · grind
theorem max4_or (x y z u : Rat) : max4 x y z u = x ∨ max4 x y z u = y ∨ max4 x y z u = z ∨ max4 x y z u = u := by
  unfold max4
  rcases maxQ_or (maxQ (maxQ x y) z) u with h | h
  · rcases maxQ_or (maxQ x y) z with h2 | h2
    · rcases maxQ_or x y with h3 | h3 <;> grind
    · grind
  · grind
theorem eq_of_le_iff {a b : Rat} (h : ∀ z, a ≤ z ↔ b ≤ z) : a = b := Rat.le_antisymm ((h b).2 Rat.le_refl) ((h a).1 Rat.le_refl)
theorem eq_of_ge_iff {a b : Rat} (h : ∀ z, z ≤ a ↔ z ≤ b) : a = b := Rat.le_antisymm ((h a).1 Rat.le_refl) ((h b).2 Rat.le_refl)
theorem mulr_mono {x y z : Rat} (h : x ≤ y) (hz : 0 ≤ z) : x * z ≤ y * z := Rat.mul_le_mul_of_nonneg_right h hz
theorem mulr_anti {x y z : Rat} (h : x ≤ y) (hz : z ≤ 0) : y * z ≤ x * z := by
  have h1 : 0 ≤ -z := by grind
  have := Rat.mul_le_mul_of_nonneg_right h h1
  rw [Rat.mul_neg, Rat.mul_neg] at this
  exact Rat.neg_le_neg_iff.1 this
/-- A product lies between the products of the ends. -/
theorem mul_hi {p x q y : Rat} {v : Rat} (h1 : p ≤ x) (h2 : x ≤ q) (k1 : p * y ≤ v) (k2 : q * y ≤ v) : x * y ≤ v := by
  rcases (show 0 ≤ y ∨ y ≤ 0 by grind) with h | h
  · exact Rat.le_trans (mulr_mono h2 h) k2
  · exact Rat.le_trans (mulr_anti h1 h) k1
theorem mul_lo {p x q y : Rat} {v : Rat} (h1 : p ≤ x) (h2 : x ≤ q) (k1 : v ≤ p * y) (k2 : v ≤ q * y) : v ≤ x * y := by
  rcases (show 0 ≤ y ∨ y ≤ 0 by grind) with h | h
  · exact Rat.le_trans k1 (mulr_mono h1 h)
  · exact Rat.le_trans k2 (mulr_anti h2 h)
def mulS (a b : Sp) : Sp := ⟨min4 (a.lo * b.lo) (a.lo * b.hi) (a.hi * b.lo) (a.hi * b.hi), max4 (a.lo * b.lo) (a.lo * b.hi) (a.hi * b.lo) (a.hi * b.hi)⟩
def addS (a b : Sp) : Sp := ⟨a.lo + b.lo, a.hi + b.hi⟩
def negS (a : Sp) : Sp := ⟨-a.hi, -a.lo⟩
def subS (a b : Sp) : Sp := addS a (negS b)
def minS (a b : Sp) : Sp := ⟨minQ a.lo b.lo, minQ a.hi b.hi⟩
def maxS (a b : Sp) : Sp := ⟨maxQ a.lo b.lo, maxQ a.hi b.hi⟩
def hullS (a b : Sp) : Sp := ⟨min4 a.lo a.hi b.lo b.hi, max4 a.lo a.hi b.lo b.hi⟩
def invS (b : Sp) : Sp := ⟨1 / b.hi, 1 / b.lo⟩
def okS (a : Sp) : Prop := a.lo ≤ a.hi
def hasS (a : Sp) (x : Rat) : Prop := a.lo ≤ x ∧ x ≤ a.hi
def inS (a b : Sp) : Prop := b.lo ≤ a.lo ∧ a.hi ≤ b.hi
def divS (a b : Sp) : Option Sp := if b.lo ≤ 0 ∧ 0 ≤ b.hi then none else some (mulS a (invS b))
theorem mulS_has {a b : Sp} {x y : Rat} (hx : hasS a x) (hy : hasS b y) : hasS (mulS a b) (x * y) := by
  have hl := le_min4.1 (Rat.le_refl (a := (mulS a b).lo))
  have hh := max4_le.1 (Rat.le_refl (a := (mulS a b).hi))
  constructor
  · refine mul_lo hx.1 hx.2 ?_ ?_
    · rw [Rat.mul_comm]; refine mul_lo hy.1 hy.2 ?_ ?_ <;> rw [Rat.mul_comm] <;> grind
    · rw [Rat.mul_comm]; refine mul_lo hy.1 hy.2 ?_ ?_ <;> rw [Rat.mul_comm] <;> grind
  · refine mul_hi hx.1 hx.2 ?_ ?_
    · rw [Rat.mul_comm]; refine mul_hi hy.1 hy.2 ?_ ?_ <;> rw [Rat.mul_comm] <;> grind
    · rw [Rat.mul_comm]; refine mul_hi hy.1 hy.2 ?_ ?_ <;> rw [Rat.mul_comm] <;> grind
theorem has_lo {a : Sp} (h : okS a) : hasS a a.lo := ⟨Rat.le_refl, h⟩
theorem has_hi {a : Sp} (h : okS a) : hasS a a.hi := ⟨h, Rat.le_refl⟩
theorem mulS_ok {a b : Sp} (ha : okS a) (hb : okS b) : okS (mulS a b) := by
  have := mulS_has (has_lo ha) (has_lo hb)
  exact Rat.le_trans this.1 this.2
/-- The least span: it lies in every span that has the products of the ends. -/
theorem mulS_hi {a b : Sp} {z : Rat} : (mulS a b).hi ≤ z ↔ a.lo * b.lo ≤ z ∧ a.lo * b.hi ≤ z ∧ a.hi * b.lo ≤ z ∧ a.hi * b.hi ≤ z := max4_le
theorem mulS_lo {a b : Sp} {z : Rat} : z ≤ (mulS a b).lo ↔ z ≤ a.lo * b.lo ∧ z ≤ a.lo * b.hi ∧ z ≤ a.hi * b.lo ∧ z ≤ a.hi * b.hi := le_min4
theorem Sp.ext' {a b : Sp} (h : a.lo = b.lo) (k : a.hi = b.hi) : a = b := by cases a; cases b; simp_all
theorem mulS_comm (a b : Sp) : mulS a b = mulS b a := by
  apply Sp.ext'
  · apply eq_of_ge_iff; intro z; rw [mulS_lo, mulS_lo]; rw [Rat.mul_comm b.lo, Rat.mul_comm b.lo, Rat.mul_comm b.hi, Rat.mul_comm b.hi]; grind
  · apply eq_of_le_iff; intro z; rw [mulS_hi, mulS_hi]; rw [Rat.mul_comm b.lo, Rat.mul_comm b.lo, Rat.mul_comm b.hi, Rat.mul_comm b.hi]; grind
/-- All products of ends. -/
def all8 (P : Rat → Prop) (a b c : Sp) : Prop := ∀ x y z, (x = a.lo ∨ x = a.hi) → (y = b.lo ∨ y = b.hi) → (z = c.lo ∨ z = c.hi) → P (x * y * z)
theorem end_has {a : Sp} (h : okS a) {x : Rat} (hx : x = a.lo ∨ x = a.hi) : hasS a x := by rcases hx with rfl | rfl; exact has_lo h; exact has_hi h
theorem mulS_end_lo (a b : Sp) : ∃ x y, (x = a.lo ∨ x = a.hi) ∧ (y = b.lo ∨ y = b.hi) ∧ (mulS a b).lo = x * y := by
  rcases min4_or (a.lo * b.lo) (a.lo * b.hi) (a.hi * b.lo) (a.hi * b.hi) with h | h | h | h
  · exact ⟨_, _, .inl rfl, .inl rfl, h⟩
  · exact ⟨_, _, .inl rfl, .inr rfl, h⟩
  · exact ⟨_, _, .inr rfl, .inl rfl, h⟩
  · exact ⟨_, _, .inr rfl, .inr rfl, h⟩
theorem mulS_end_hi (a b : Sp) : ∃ x y, (x = a.lo ∨ x = a.hi) ∧ (y = b.lo ∨ y = b.hi) ∧ (mulS a b).hi = x * y := by
  rcases max4_or (a.lo * b.lo) (a.lo * b.hi) (a.hi * b.lo) (a.hi * b.hi) with h | h | h | h
  · exact ⟨_, _, .inl rfl, .inl rfl, h⟩
  · exact ⟨_, _, .inl rfl, .inr rfl, h⟩
  · exact ⟨_, _, .inr rfl, .inl rfl, h⟩
  · exact ⟨_, _, .inr rfl, .inr rfl, h⟩
theorem mulS_end {a b : Sp} {x : Rat} (h : x = (mulS a b).lo ∨ x = (mulS a b).hi) : ∃ y z, (y = a.lo ∨ y = a.hi) ∧ (z = b.lo ∨ z = b.hi) ∧ x = y * z := by
  rcases h with h | h
  · obtain ⟨y, z, hy, hz, e⟩ := mulS_end_lo a b; exact ⟨y, z, hy, hz, h.trans e⟩
  · obtain ⟨y, z, hy, hz, e⟩ := mulS_end_hi a b; exact ⟨y, z, hy, hz, h.trans e⟩
theorem mul3_hi {a b c : Sp} (ha : okS a) (hb : okS b) {z : Rat} : (mulS (mulS a b) c).hi ≤ z ↔ all8 (· ≤ z) a b c := by
  rw [mulS_hi]
  constructor
  · intro h x y v hx hy hv
    have hm := mulS_has (end_has ha hx) (end_has hb hy)
    rcases hv with rfl | rfl
    · exact mul_hi hm.1 hm.2 h.1 h.2.2.1
    · exact mul_hi hm.1 hm.2 h.2.1 h.2.2.2
  · intro h
    obtain ⟨x, y, hx, hy, e⟩ := mulS_end_lo a b
    obtain ⟨x', y', hx', hy', e'⟩ := mulS_end_hi a b
    rw [e, e']
    exact ⟨h _ _ _ hx hy (.inl rfl), h _ _ _ hx hy (.inr rfl), h _ _ _ hx' hy' (.inl rfl), h _ _ _ hx' hy' (.inr rfl)⟩
theorem mul3_lo {a b c : Sp} (ha : okS a) (hb : okS b) {z : Rat} : z ≤ (mulS (mulS a b) c).lo ↔ all8 (z ≤ ·) a b c := by
  rw [mulS_lo]
  constructor
  · intro h x y v hx hy hv
    have hm := mulS_has (end_has ha hx) (end_has hb hy)
    rcases hv with rfl | rfl
    · exact mul_lo hm.1 hm.2 h.1 h.2.2.1
    · exact mul_lo hm.1 hm.2 h.2.1 h.2.2.2
  · intro h
    obtain ⟨x, y, hx, hy, e⟩ := mulS_end_lo a b
    obtain ⟨x', y', hx', hy', e'⟩ := mulS_end_hi a b
    rw [e, e']
    exact ⟨h _ _ _ hx hy (.inl rfl), h _ _ _ hx hy (.inr rfl), h _ _ _ hx' hy' (.inl rfl), h _ _ _ hx' hy' (.inr rfl)⟩
theorem all8_turn {P : Rat → Prop} {a b c : Sp} : all8 P a b c ↔ all8 P b c a := by
  constructor
  · intro h x y z hx hy hz
    have := h z x y hz hx hy
    rwa [show x * y * z = z * x * y by grind]
  · intro h x y z hx hy hz
    have := h y z x hy hz hx
    rwa [show x * y * z = y * z * x by grind]
theorem mulS_assoc {a b c : Sp} (ha : okS a) (hb : okS b) (hc : okS c) : mulS (mulS a b) c = mulS a (mulS b c) := by
  rw [mulS_comm a (mulS b c)]
  apply Sp.ext'
  · apply eq_of_ge_iff; intro z; rw [mul3_lo ha hb, mul3_lo hb hc, all8_turn]
  · apply eq_of_le_iff; intro z; rw [mul3_hi ha hb, mul3_hi hb hc, all8_turn]
theorem addS_comm (a b : Sp) : addS a b = addS b a := by unfold addS; apply Sp.ext' <;> grind
theorem addS_assoc (a b c : Sp) : addS (addS a b) c = addS a (addS b c) := by unfold addS; apply Sp.ext' <;> grind
theorem minQ_comm (a b : Rat) : minQ a b = minQ b a := by unfold minQ; grind
theorem maxQ_comm (a b : Rat) : maxQ a b = maxQ b a := by unfold maxQ; grind
theorem minQ_assoc (a b c : Rat) : minQ (minQ a b) c = minQ a (minQ b c) := by unfold minQ; grind
theorem maxQ_assoc (a b c : Rat) : maxQ (maxQ a b) c = maxQ a (maxQ b c) := by unfold maxQ; grind
theorem minS_comm (a b : Sp) : minS a b = minS b a := by unfold minS; rw [minQ_comm, minQ_comm a.hi]
theorem maxS_comm (a b : Sp) : maxS a b = maxS b a := by unfold maxS; rw [maxQ_comm, maxQ_comm a.hi]
theorem minS_assoc (a b c : Sp) : minS (minS a b) c = minS a (minS b c) := by unfold minS; simp only [minQ_assoc]
theorem maxS_assoc (a b c : Sp) : maxS (maxS a b) c = maxS a (maxS b c) := by unfold maxS; simp only [maxQ_assoc]
theorem hullS_eq {a b : Sp} (ha : okS a) (hb : okS b) : hullS a b = ⟨minQ a.lo b.lo, maxQ a.hi b.hi⟩ := by
  unfold hullS
  unfold okS at ha hb
  apply Sp.ext'
  · apply eq_of_ge_iff; intro z; rw [le_min4, le_minQ]; grind
  · apply eq_of_le_iff; intro z; rw [max4_le, maxQ_le]; grind
theorem hullS_ok {a b : Sp} (ha : okS a) (hb : okS b) : okS (hullS a b) := by
  rw [hullS_eq ha hb]; exact Rat.le_trans (minQ_le1 _ _) (Rat.le_trans ha (le_maxQ1 _ _))
theorem hullS_comm {a b : Sp} (ha : okS a) (hb : okS b) : hullS a b = hullS b a := by rw [hullS_eq ha hb, hullS_eq hb ha, minQ_comm, maxQ_comm]
theorem hullS_assoc {a b c : Sp} (ha : okS a) (hb : okS b) (hc : okS c) : hullS (hullS a b) c = hullS a (hullS b c) := by
  rw [hullS_eq (hullS_ok ha hb) hc, hullS_eq ha (hullS_ok hb hc), hullS_eq ha hb, hullS_eq hb hc]
  simp only [minQ_assoc, maxQ_assoc]
theorem addS_ok {a b : Sp} (ha : okS a) (hb : okS b) : okS (addS a b) := by unfold okS addS at *; grind
/-- The product of a span and a sum lies in the sum of the products. -/
theorem distr {a b c : Sp} (ha : okS a) (hb : okS b) (hc : okS c) : inS (mulS a (addS b c)) (addS (mulS a b) (mulS a c)) := by
  constructor
  · rw [mulS_lo]
    have h1 := mulS_has (has_lo ha) (has_lo hb); have h2 := mulS_has (has_lo ha) (has_lo hc)
    have h3 := mulS_has (has_lo ha) (has_hi hb); have h4 := mulS_has (has_lo ha) (has_hi hc)
    have h5 := mulS_has (has_hi ha) (has_lo hb); have h6 := mulS_has (has_hi ha) (has_lo hc)
    have h7 := mulS_has (has_hi ha) (has_hi hb); have h8 := mulS_has (has_hi ha) (has_hi hc)
    unfold hasS at *; unfold addS; simp only
    rw [Rat.mul_add, Rat.mul_add, Rat.mul_add, Rat.mul_add]
    refine ⟨?_, ?_, ?_, ?_⟩ <;> grind
  · rw [mulS_hi]
    have h1 := mulS_has (has_lo ha) (has_lo hb); have h2 := mulS_has (has_lo ha) (has_lo hc)
    have h3 := mulS_has (has_lo ha) (has_hi hb); have h4 := mulS_has (has_lo ha) (has_hi hc)
    have h5 := mulS_has (has_hi ha) (has_lo hb); have h6 := mulS_has (has_hi ha) (has_lo hc)
    have h7 := mulS_has (has_hi ha) (has_hi hb); have h8 := mulS_has (has_hi ha) (has_hi hc)
    unfold hasS at *; unfold addS; simp only
    rw [Rat.mul_add, Rat.mul_add, Rat.mul_add, Rat.mul_add]
    refine ⟨?_, ?_, ?_, ?_⟩ <;> grind
/-- Sub-spans. -/
theorem in_has {a c : Sp} {x : Rat} (h : inS a c) (hx : hasS a x) : hasS c x := ⟨Rat.le_trans h.1 hx.1, Rat.le_trans hx.2 h.2⟩
theorem mulS_in {a b c d : Sp} (ha : okS a) (hb : okS b) (h : inS a c) (k : inS b d) : inS (mulS a b) (mulS c d) := by
  constructor
  · obtain ⟨x, y, hx, hy, e⟩ := mulS_end_lo a b
    rw [e]; exact (mulS_has (in_has h (end_has ha hx)) (in_has k (end_has hb hy))).1
  · obtain ⟨x, y, hx, hy, e⟩ := mulS_end_hi a b
    rw [e]; exact (mulS_has (in_has h (end_has ha hx)) (in_has k (end_has hb hy))).2
theorem addS_in {a b c d : Sp} (h : inS a c) (k : inS b d) : inS (addS a b) (addS c d) := by unfold inS addS at *; grind
theorem negS_in {a c : Sp} (h : inS a c) : inS (negS a) (negS c) := by unfold inS negS at *; grind
theorem subS_in {a b c d : Sp} (h : inS a c) (k : inS b d) : inS (subS a b) (subS c d) := addS_in h (negS_in k)
theorem minS_in {a b c d : Sp} (h : inS a c) (k : inS b d) : inS (minS a b) (minS c d) := by unfold inS minS minQ at *; grind
theorem maxS_in {a b c d : Sp} (h : inS a c) (k : inS b d) : inS (maxS a b) (maxS c d) := by unfold inS maxS maxQ at *; grind
theorem hullS_in {a b c d : Sp} (ha : okS a) (hb : okS b) (hc : okS c) (hd : okS d) (h : inS a c) (k : inS b d) : inS (hullS a b) (hullS c d) := by
  rw [hullS_eq ha hb, hullS_eq hc hd]; unfold inS minQ maxQ at *; grind
/-- Spans without 0, turned over. -/
theorem inv_pos {y : Rat} (h : 0 < y) : 0 < 1 / y := by rw [Rat.div_def, Rat.one_mul]; exact Rat.inv_pos.2 h
theorem inv_neg {y : Rat} (h : y < 0) : 1 / y < 0 := by
  have := inv_pos (show 0 < -y by grind)
  have e : 1 / -y = -(1 / y) := by
    have hy : y ≠ 0 := by grind
    have hn : -y ≠ 0 := by grind
    have h1 := Rat.div_mul_cancel (a := 1) hn
    have h2 := Rat.div_mul_cancel (a := 1) hy
    grind
  rw [e] at this; grind
theorem mul_one_div {x y : Rat} : x * (1 / y) = x / y := by rw [Rat.div_def, Rat.div_def, Rat.one_mul]
theorem inv_anti_pos {y z : Rat} (h : 0 < y) (hz : y ≤ z) : 1 / z ≤ 1 / y := by
  have hp : 0 < z := by grind
  have h1 := Rat.div_mul_cancel (a := 1) (show y ≠ 0 by grind)
  have h2 := Rat.div_mul_cancel (a := 1) (show z ≠ 0 by grind)
  have h3 := inv_pos h; have h4 := inv_pos hp
  have h5 := mulr_mono hz (Rat.le_of_lt (Rat.mul_pos h3 h4))
  have e1 : y * (1 / y * (1 / z)) = 1 / z := by grind
  have e2 : z * (1 / y * (1 / z)) = 1 / y := by grind
  rw [e1, e2] at h5; exact h5
theorem inv_anti_neg {y z : Rat} (h : z < 0) (hz : y ≤ z) : 1 / z ≤ 1 / y := by
  have hp : y < 0 := by grind
  have h1 := Rat.div_mul_cancel (a := 1) (show y ≠ 0 by grind)
  have h2 := Rat.div_mul_cancel (a := 1) (show z ≠ 0 by grind)
  have h3 := inv_neg hp; have h4 := inv_neg h
  have h6 : 0 < (1 / y) * (1 / z) := by
    have := Rat.mul_pos (show 0 < -(1 / y) by grind) (show 0 < -(1 / z) by grind)
    rw [Rat.neg_mul, Rat.mul_neg, Rat.neg_neg] at this; exact this
  have h5 := mulr_mono hz (Rat.le_of_lt h6)
  have e1 : y * (1 / y * (1 / z)) = 1 / z := by grind
  have e2 : z * (1 / y * (1 / z)) = 1 / y := by grind
  rw [e1, e2] at h5; exact h5
/-- It has no 0. -/
def no0 (b : Sp) : Prop := ¬ (b.lo ≤ 0 ∧ 0 ≤ b.hi)
theorem no0_sign {b : Sp} (_hb : okS b) (h : no0 b) : 0 < b.lo ∨ b.hi < 0 := by unfold no0 okS at *; grind
theorem invS_has {b : Sp} {y : Rat} (hb : okS b) (h : no0 b) (hy : hasS b y) : hasS (invS b) (1 / y) := by
  unfold hasS invS at *
  rcases no0_sign hb h with h1 | h1
  · exact ⟨inv_anti_pos (by grind) hy.2, inv_anti_pos h1 hy.1⟩
  · exact ⟨inv_anti_neg h1 hy.2, inv_anti_neg (by grind) hy.1⟩
theorem invS_ok {b : Sp} (hb : okS b) (h : no0 b) : okS (invS b) := by
  have := invS_has hb h (has_lo hb); exact Rat.le_trans this.1 this.2
theorem invS_in {b d : Sp} (hb : okS b) (hd : okS d) (k : inS b d) (h : no0 d) : inS (invS b) (invS d) ∧ no0 b := by
  have hn : no0 b := by unfold no0 inS at *; grind
  refine ⟨⟨?_, ?_⟩, hn⟩
  · exact (invS_has hd h (in_has k (has_hi hb))).1
  · exact (invS_has hd h (in_has k (has_lo hb))).2
theorem has_ne {b : Sp} {y : Rat} (h : no0 b) (hy : hasS b y) : y ≠ 0 := by unfold no0 hasS at *; grind
theorem div_has {a b : Sp} {x y : Rat} (hb : okS b) (h : no0 b) (hx : hasS a x) (hy : hasS b y) : hasS (mulS a (invS b)) (x / y) := by
  rw [← mul_one_div]; exact mulS_has hx (invS_has hb h hy)
theorem mul_back {a b : Sp} (ha : okS a) (hb : okS b) (h : no0 b) : inS a (mulS (mulS a b) (invS b)) := by
  have hm := mulS_has (has_lo ha) (has_lo hb)
  have hm2 := mulS_has (has_hi ha) (has_lo hb)
  have h1 := div_has hb h hm (has_lo hb)
  have h2 := div_has hb h hm2 (has_lo hb)
  have hne := has_ne h (has_lo hb)
  rw [Rat.mul_div_cancel hne] at h1 h2
  exact ⟨h1.1, h2.2⟩
def opS : Nat → Sp → Sp → Option Sp
  | 0, a, b => some (addS a b)
  | 1, a, b => some (subS a b)
  | 2, a, b => some (mulS a b)
  | 3, a, b => divS a b
  | 4, a, b => some (minS a b)
  | _, a, b => some (maxS a b)
def calcQ : Nat → Rat → Rat → Option Rat
  | 0, x, y => some (x + y)
  | 1, x, y => some (x - y)
  | 2, x, y => some (x * y)
  | 3, x, y => if y = 0 then none else some (x / y)
  | 4, x, y => some (minQ x y)
  | _, x, y => some (maxQ x y)
theorem divS_some {a b s : Sp} (h : divS a b = some s) : no0 b ∧ s = mulS a (invS b) := by
  unfold divS at h; split at h
  · cases h
  · rename_i h0; exact ⟨h0, (Option.some.inj h).symm⟩
theorem addS_has {a b : Sp} {x y : Rat} (hx : hasS a x) (hy : hasS b y) : hasS (addS a b) (x + y) := by unfold hasS addS at *; grind
theorem subS_has {a b : Sp} {x y : Rat} (hx : hasS a x) (hy : hasS b y) : hasS (subS a b) (x - y) := by unfold hasS subS addS negS at *; grind
theorem minS_has {a b : Sp} {x y : Rat} (hx : hasS a x) (hy : hasS b y) : hasS (minS a b) (minQ x y) := by unfold hasS minS minQ at *; grind
theorem maxS_has {a b : Sp} {x y : Rat} (hx : hasS a x) (hy : hasS b y) : hasS (maxS a b) (maxQ x y) := by unfold hasS maxS maxQ at *; grind
theorem op_has {k : Nat} {a b s : Sp} {x y : Rat} (hb : okS b) (hx : hasS a x) (hy : hasS b y) (h : opS k a b = some s) : ∃ z, calcQ k x y = some z ∧ hasS s z := by
  match k, h with
  | 0, h => cases h; exact ⟨_, rfl, addS_has hx hy⟩
  | 1, h => cases h; exact ⟨_, rfl, subS_has hx hy⟩
  | 2, h => cases h; exact ⟨_, rfl, mulS_has hx hy⟩
  | 3, h =>
    obtain ⟨h0, rfl⟩ := divS_some h
    exact ⟨_, if_neg (has_ne h0 hy), div_has hb h0 hx hy⟩
  | 4, h => cases h; exact ⟨_, rfl, minS_has hx hy⟩
  | _ + 5, h => cases h; exact ⟨_, rfl, maxS_has hx hy⟩
theorem op_none {k : Nat} {a b : Sp} (h : opS k a b = none) : k = 3 ∧ hasS b 0 := by
  match k, h with
  | 0, h => cases h
  | 1, h => cases h
  | 2, h => cases h
  | 3, h =>
    refine ⟨rfl, ?_⟩
    have h' : divS a b = none := h
    unfold divS at h'; split at h'
    · assumption
    · cases h'
  | 4, h => cases h
  | _ + 5, h => cases h
theorem op_ok {k : Nat} {a b s : Sp} (ha : okS a) (hb : okS b) (h : opS k a b = some s) : okS s := by
  obtain ⟨z, -, hz⟩ := op_has hb (has_lo ha) (has_lo hb) h
  exact Rat.le_trans hz.1 hz.2
/-- Which ends: the first of a pair by the number's first bit, the second by its second. -/
def endA (a : Sp) (i : Nat) : Rat := if i % 2 = 1 then a.hi else a.lo
def endB (b : Sp) (i : Nat) : Rat := if i / 2 = 1 then b.hi else b.lo
theorem ends_pick {a b : Sp} {x y : Rat} (hx : x = a.lo ∨ x = a.hi) (hy : y = b.lo ∨ y = b.hi) : ∃ i, i < 4 ∧ endA a i = x ∧ endB b i = y := by
  rcases hx with rfl | rfl <;> rcases hy with rfl | rfl
  · exact ⟨0, by decide, rfl, rfl⟩
  · exact ⟨2, by decide, rfl, rfl⟩
  · exact ⟨1, by decide, rfl, rfl⟩
  · exact ⟨3, by decide, rfl, rfl⟩
theorem inv_end {b : Sp} {y : Rat} (h : y = (invS b).lo ∨ y = (invS b).hi) : ∃ z, (z = b.lo ∨ z = b.hi) ∧ y = 1 / z := by
  rcases h with h | h
  · exact ⟨_, .inr rfl, h⟩
  · exact ⟨_, .inl rfl, h⟩
theorem met_fin {k : Nat} {a b : Sp} {v x y : Rat} (hx : x = a.lo ∨ x = a.hi) (hy : y = b.lo ∨ y = b.hi) (e : calcQ k x y = some v) : ∃ i, i < 4 ∧ calcQ k (endA a i) (endB b i) = some v := by
  obtain ⟨i, hi, e1, e2⟩ := ends_pick hx hy
  exact ⟨i, hi, by rw [e1, e2]; exact e⟩
/-- The ends of a result are results for ends. -/
theorem op_met {k : Nat} {a b s : Sp} {v : Rat} (hb : okS b) (h : opS k a b = some s) (hv : v = s.lo ∨ v = s.hi) : ∃ i, i < 4 ∧ calcQ k (endA a i) (endB b i) = some v := by
  match k, h with
  | 0, h =>
    cases h
    rcases hv with rfl | rfl
    · exact met_fin (.inl rfl) (.inl rfl) rfl
    · exact met_fin (.inr rfl) (.inr rfl) rfl
  | 1, h =>
    cases h
    rcases hv with rfl | rfl
    · exact met_fin (.inl rfl) (.inr rfl) (by unfold calcQ subS addS negS; simp only [Rat.sub_eq_add_neg])
    · exact met_fin (.inr rfl) (.inl rfl) (by unfold calcQ subS addS negS; simp only [Rat.sub_eq_add_neg])
  | 2, h =>
    cases h
    obtain ⟨x, y, hx, hy, e⟩ := mulS_end hv
    exact met_fin hx hy (by rw [e]; rfl)
  | 3, h =>
    obtain ⟨h0, rfl⟩ := divS_some h
    obtain ⟨x, y, hx, hy, e⟩ := mulS_end hv
    obtain ⟨z, hz, e2⟩ := inv_end hy
    have hne := has_ne h0 (end_has hb hz)
    exact met_fin hx hz (by show (if z = 0 then none else some (x / z)) = some v; rw [if_neg hne, e, e2, mul_one_div])
  | 4, h =>
    cases h
    rcases hv with rfl | rfl
    · exact met_fin (.inl rfl) (.inl rfl) rfl
    · exact met_fin (.inr rfl) (.inr rfl) rfl
  | _ + 5, h =>
    cases h
    rcases hv with rfl | rfl
    · exact met_fin (.inl rfl) (.inl rfl) rfl
    · exact met_fin (.inr rfl) (.inr rfl) rfl
theorem op_in {k : Nat} {a b c d t : Sp} (ha : okS a) (hb : okS b) (hd : okS d) (h : inS a c) (k' : inS b d) (ht : opS k c d = some t) : ∃ s, opS k a b = some s ∧ inS s t := by
  match k, ht with
  | 0, ht => cases ht; exact ⟨_, rfl, addS_in h k'⟩
  | 1, ht => cases ht; exact ⟨_, rfl, subS_in h k'⟩
  | 2, ht => cases ht; exact ⟨_, rfl, mulS_in ha hb h k'⟩
  | 3, ht =>
    obtain ⟨h0, rfl⟩ := divS_some ht
    obtain ⟨hi, hn⟩ := invS_in hb hd k' h0
    exact ⟨_, if_neg hn, mulS_in ha (invS_ok hb hn) h hi⟩
  | 4, ht => cases ht; exact ⟨_, rfl, minS_in h k'⟩
  | _ + 5, ht => cases ht; exact ⟨_, rfl, maxS_in h k'⟩
/-- What two spans have in common. -/
def meetS (a b : Sp) : Option Sp := if minQ a.hi b.hi < maxQ a.lo b.lo then none else some ⟨maxQ a.lo b.lo, minQ a.hi b.hi⟩
theorem meet_in {a b c d s : Sp} (h : inS a c) (k : inS b d) (hm : meetS a b = some s) : ∃ t, meetS c d = some t ∧ inS s t := by
  unfold meetS at *
  split at hm
  · cases hm
  · cases hm
    have : ¬ minQ c.hi d.hi < maxQ c.lo d.lo := by unfold inS minQ maxQ at *; grind
    rw [if_neg this]
    exact ⟨_, rfl, by unfold inS minQ maxQ at *; grind⟩
theorem meet_none {a b : Sp} {x : Rat} (h : meetS a b = none) : ¬ (hasS a x ∧ hasS b x) := by
  unfold meetS at h; split at h
  · unfold hasS minQ maxQ at *; grind
  · cases h
theorem meet_ninS {a b c : Sp} (hc : okS c) (h : meetS a b = none) : ¬ (inS c a ∧ inS c b) := by
  unfold meetS at h; split at h
  · unfold inS okS minQ maxQ at *; grind
  · cases h
theorem hull_in1 {a b : Sp} (ha : okS a) (hb : okS b) : inS a (hullS a b) ∧ inS b (hullS a b) := by rw [hullS_eq ha hb]; unfold inS minQ maxQ; grind
theorem hull_least {a b c : Sp} (ha : okS a) (hb : okS b) (h : inS a c) (k : inS b c) : inS (hullS a b) c := by rw [hullS_eq ha hb]; unfold inS minQ maxQ at *; grind
theorem hull_is {a b : Sp} (ha : okS a) (hb : okS b) : inS a b ↔ hullS a b = b := by
  rw [hullS_eq ha hb]
  constructor
  · intro h; unfold inS minQ maxQ at *; apply Sp.ext' <;> grind
  · intro h
    have h1 := congrArg Sp.lo h; have h2 := congrArg Sp.hi h
    simp only at h1 h2
    unfold inS minQ maxQ at *; grind
end Go.Proofs.Ytjbfngjlepafgaa
