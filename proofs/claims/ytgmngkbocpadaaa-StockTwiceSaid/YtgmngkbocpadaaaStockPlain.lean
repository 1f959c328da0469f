/- Stocks in layers over rational numbers, plain: no Go in sight. -/
import Derived.WalkKit
namespace Go.Proofs.Ytgmngkbocpadaaa

structure Ly where
  n : Int
  b : Rat
def okL (x : Ly) : Prop := 1 ≤ x.n ∧ 0 ≤ x.b
def sumN (l : List Ly) : Int := (l.map Ly.n).sum
def sumB (l : List Ly) : Rat := (l.map Ly.b).sum
/-- What t of a layer's goods carry. -/
def part (x : Ly) (t : Int) : Rat := x.b * ((t : Rat) / (x.n : Rat))
def drawF : List Ly → Int → List Ly × Rat
  | [], _ => ([], 0)
  | x :: r, a => if a ≤ 0 then (x :: r, 0) else if x.n ≤ a then ((drawF r (a - x.n)).1, x.b + (drawF r (a - x.n)).2) else (⟨x.n - a, x.b - part x a⟩ :: r, part x a)
theorem cast_pos {n : Int} (h : 1 ≤ n) : (0 : Rat) < (n : Rat) := Rat.intCast_pos.2 (by omega)
theorem part_mul {x : Ly} (h : okL x) (t : Int) : part x t * (x.n : Rat) = x.b * (t : Rat) := by
  unfold part
  have := cast_pos h.1
  rw [Rat.mul_assoc, Rat.div_mul_cancel (by grind)]
theorem div_nonneg {a b : Rat} (ha : 0 ≤ a) (hb : 0 < b) : 0 ≤ a / b := by
  rw [Rat.div_def]; exact Rat.mul_nonneg ha (Rat.le_of_lt (Rat.inv_pos.2 hb))
theorem part_nonneg {x : Ly} (h : okL x) {t : Int} (ht : 0 ≤ t) : 0 ≤ part x t := Rat.mul_nonneg h.2 (div_nonneg (Rat.intCast_nonneg.2 ht) (cast_pos h.1))
theorem part_le {x : Ly} (h : okL x) {t : Int} (ht : t ≤ x.n) : part x t ≤ x.b := by
  have h1 := cast_pos h.1
  have h2 := part_mul h t
  have h3 : (t : Rat) ≤ (x.n : Rat) := Rat.intCast_le_intCast.2 ht
  have h4 := Rat.mul_le_mul_of_nonneg_left h3 h.2
  rw [← h2] at h4
  exact Rat.le_of_mul_le_mul_right h4 h1
theorem sumN_cons (x : Ly) (l : List Ly) : sumN (x :: l) = x.n + sumN l := by simp [sumN]
theorem sumB_cons (x : Ly) (l : List Ly) : sumB (x :: l) = x.b + sumB l := by simp [sumB]
theorem sumN_nil : sumN [] = 0 := rfl
theorem sumB_nil : sumB [] = 0 := rfl
theorem sumN_pos {l : List Ly} (h : ∀ x ∈ l, okL x) : 0 ≤ sumN l := by
  induction l with
  | nil => simp [sumN]
  | cons x r ih => rw [sumN_cons]; have := (h x (by simp)).1; have := ih (fun y hy => h y (by simp [hy])); omega
theorem sumB_pos {l : List Ly} (h : ∀ x ∈ l, okL x) : 0 ≤ sumB l := by
  induction l with
  | nil => rw [sumB_nil]; exact Rat.le_refl
  | cons x r ih => rw [sumB_cons]; have := (h x (by simp)).2; have := ih (fun y hy => h y (by simp [hy])); grind
theorem draw_zero (l : List Ly) {a : Int} (h : a ≤ 0) : drawF l a = (l, 0) := by
  cases l with
  | nil => rfl
  | cons x r => rw [drawF, if_pos h]
theorem draw_keeps {l : List Ly} {a : Int} (h : ∀ x ∈ l, okL x) (h0 : 0 ≤ a) (ha : a ≤ sumN l) :
    (∀ x ∈ (drawF l a).1, okL x) ∧ sumN (drawF l a).1 + a = sumN l ∧ sumB (drawF l a).1 + (drawF l a).2 = sumB l ∧ 0 ≤ (drawF l a).2 ∧ (drawF l a).1.length ≤ l.length := by
  induction l generalizing a with
  | nil =>
    rw [sumN_nil] at ha
    have : a = 0 := by omega
    subst this
    exact ⟨h, by rw [drawF]; simp, by rw [drawF]; simp [sumB_nil, Rat.add_zero], by rw [drawF]; exact Rat.le_refl, by rw [drawF]; exact Nat.le_refl _⟩
  | cons x r ih =>
    have hx := h x (by simp)
    have hr : ∀ y ∈ r, okL y := fun y hy => h y (by simp [hy])
    rw [sumN_cons] at ha
    rw [drawF]
    by_cases h1 : a ≤ 0
    · have : a = 0 := by omega
      subst this
      rw [if_pos h1]
      exact ⟨h, by simp, by simp [Rat.add_zero], Rat.le_refl, Nat.le_refl _⟩
    · rw [if_neg h1]
      by_cases h2 : x.n ≤ a
      · rw [if_pos h2]
        obtain ⟨i1, i2, i3, i4, i5⟩ := ih (a := a - x.n) hr (by omega) (by omega)
        refine ⟨i1, ?_, ?_, ?_, ?_⟩
        · rw [sumN_cons]; simp only; omega
        · rw [sumB_cons]; simp only; grind
        · simp only; have := hx.2; grind
        · simp only [List.length_cons]; omega
      · rw [if_neg h2]
        have hp := part_le hx (t := a) (by omega)
        have hq := part_nonneg hx (t := a) (by omega)
        refine ⟨?_, ?_, ?_, hq, Nat.le_refl _⟩
        · intro y hy
          rcases List.mem_cons.1 hy with rfl | hy
          · exact ⟨by show 1 ≤ x.n - a; omega, by show 0 ≤ x.b - part x a; grind⟩
          · exact hr y hy
        · rw [sumN_cons, sumN_cons]; simp only; omega
        · rw [sumB_cons, sumB_cons]; simp only; grind
theorem part_rest {x : Ly} (h : okL x) {a b : Int} (ha : a < x.n) : part ⟨x.n - a, x.b - part x a⟩ b = part x (a + b) - part x a := by
  have h1 := cast_pos h.1
  have h2 : (0 : Rat) < ((x.n - a : Int) : Rat) := cast_pos (by omega)
  unfold part
  simp only
  rw [Rat.intCast_sub] at h2 ⊢
  rw [Rat.intCast_add]
  rw [Rat.div_def, Rat.div_def, Rat.div_def]
  have e1 := Rat.mul_inv_cancel (x.n : Rat) (by grind)
  have e2 := Rat.mul_inv_cancel ((x.n : Rat) - (a : Rat)) (by grind)
  generalize ((x.n : Rat))⁻¹ = i at *
  generalize ((x.n : Rat) - (a : Rat))⁻¹ = j at *
  generalize (x.n : Rat) = n at *
  generalize (a : Rat) = A at *
  generalize (b : Rat) = B at *
  have e3 : (1 - A * i) = (n - A) * i := by grind
  have : (x.b - x.b * (A * i)) * (B * j) = x.b * ((1 - A * i) * j) * B := by grind
  rw [this, e3]
  have : (n - A) * i * j = i := by grind
  grind
theorem draw_twice {l : List Ly} {a b : Int} (h : ∀ x ∈ l, okL x) (h0 : 0 ≤ a) (h1 : 0 ≤ b) (ha : a ≤ sumN l) :
    (drawF (drawF l a).1 b).1 = (drawF l (a + b)).1 ∧ (drawF l a).2 + (drawF (drawF l a).1 b).2 = (drawF l (a + b)).2 := by
  induction l generalizing a with
  | nil => simp [drawF, Rat.add_zero]
  | cons x r ih =>
    have hx := h x (by simp)
    have hr : ∀ y ∈ r, okL y := fun y hy => h y (by simp [hy])
    rw [sumN_cons] at ha
    by_cases c0 : a ≤ 0
    · have : a = 0 := by omega
      subst this
      rw [draw_zero _ (Int.le_refl 0)]; simp [Rat.zero_add]
    · by_cases c1 : x.n ≤ a
      · have e1 : drawF (x :: r) a = ((drawF r (a - x.n)).1, x.b + (drawF r (a - x.n)).2) := by rw [drawF, if_neg c0, if_pos c1]
        have e2 : drawF (x :: r) (a + b) = ((drawF r (a + b - x.n)).1, x.b + (drawF r (a + b - x.n)).2) := by rw [drawF, if_neg (by omega), if_pos (by omega)]
        obtain ⟨i1, i2⟩ := ih (a := a - x.n) hr (by omega) (by omega)
        rw [show a - x.n + b = a + b - x.n by omega] at i1 i2
        rw [e1, e2]
        exact ⟨i1, by simp only; rw [← i2]; grind⟩
      · have e1 : drawF (x :: r) a = (⟨x.n - a, x.b - part x a⟩ :: r, part x a) := by rw [drawF, if_neg c0, if_neg c1]
        rw [e1]
        simp only
        have hlt : a < x.n := by omega
        by_cases c2 : b ≤ 0
        · have : b = 0 := by omega
          subst this
          rw [draw_zero _ (Int.le_refl 0), Int.add_zero, e1]; simp [Rat.add_zero]
        · by_cases c3 : x.n - a ≤ b
          · have e3 : drawF (⟨x.n - a, x.b - part x a⟩ :: r) b = ((drawF r (b - (x.n - a))).1, (x.b - part x a) + (drawF r (b - (x.n - a))).2) := by rw [drawF, if_neg c2, if_pos c3]
            have e2 : drawF (x :: r) (a + b) = ((drawF r (a + b - x.n)).1, x.b + (drawF r (a + b - x.n)).2) := by rw [drawF, if_neg (by omega), if_pos (by omega)]
            rw [e3, e2, show b - (x.n - a) = a + b - x.n by omega]
            exact ⟨rfl, by simp only; grind⟩
          · have e3 : drawF (⟨x.n - a, x.b - part x a⟩ :: r) b = (⟨x.n - a - b, (x.b - part x a) - part ⟨x.n - a, x.b - part x a⟩ b⟩ :: r, part ⟨x.n - a, x.b - part x a⟩ b) := by rw [drawF, if_neg c2, if_neg c3]
            have e2 : drawF (x :: r) (a + b) = (⟨x.n - (a + b), x.b - part x (a + b)⟩ :: r, part x (a + b)) := by rw [drawF, if_neg (by omega), if_neg (by omega)]
            rw [e3, e2, part_rest hx hlt]
            refine ⟨?_, by simp only; grind⟩
            simp only
            congr 2
            · omega
            · grind
/-- The same amounts, no less burdens. -/
def leL : List Ly → List Ly → Prop
  | [], [] => True
  | x :: r, y :: s => x.n = y.n ∧ x.b ≤ y.b ∧ leL r s
  | _, _ => False
theorem part_more {x y : Ly} (hx : okL x) (hn : x.n = y.n) (hb : x.b ≤ y.b) {t : Int} (h0 : 0 ≤ t) (ht : t ≤ x.n) : part x t ≤ part y t ∧ x.b - part x t ≤ y.b - part y t := by
  unfold part
  rw [← hn]
  have h1 := cast_pos hx.1
  have h2 := div_nonneg (Rat.intCast_nonneg.2 h0) h1
  have h3 : (t : Rat) / (x.n : Rat) ≤ 1 := by
    have h4 : (t : Rat) ≤ (x.n : Rat) := Rat.intCast_le_intCast.2 ht
    have h5 := Rat.div_mul_cancel (a := (t : Rat)) (show (x.n : Rat) ≠ 0 by grind)
    refine Rat.le_of_mul_le_mul_right (c := (x.n : Rat)) ?_ h1
    rw [h5, Rat.one_mul]; exact h4
  generalize (t : Rat) / (x.n : Rat) = s at *
  have h6 := Rat.mul_le_mul_of_nonneg_right hb h2
  have h7 := Rat.mul_le_mul_of_nonneg_right hb (show 0 ≤ 1 - s by grind)
  refine ⟨h6, ?_⟩
  grind
theorem draw_more {l m : List Ly} {a : Int} (hl : ∀ x ∈ l, okL x) (h : leL l m) (h0 : 0 ≤ a) : leL (drawF l a).1 (drawF m a).1 ∧ (drawF l a).2 ≤ (drawF m a).2 := by
  induction l generalizing m a with
  | nil =>
    cases m with
    | nil => exact ⟨h, Rat.le_refl⟩
    | cons y s => exact h.elim
  | cons x r ih =>
    cases m with
    | nil => exact h.elim
    | cons y s =>
      obtain ⟨hn, hb, hr⟩ := h
      have hx := hl x (by simp)
      rw [drawF, drawF]
      by_cases c0 : a ≤ 0
      · rw [if_pos c0, if_pos c0]; exact ⟨⟨hn, hb, hr⟩, Rat.le_refl⟩
      · rw [if_neg c0, if_neg c0, ← hn]
        by_cases c1 : x.n ≤ a
        · rw [if_pos c1, if_pos c1]
          obtain ⟨i1, i2⟩ := ih (fun z hz => hl z (by simp [hz])) hr (a := a - x.n) (by omega)
          exact ⟨i1, by simp only; grind⟩
        · rw [if_neg c1, if_neg c1]
          obtain ⟨p1, p2⟩ := part_more hx hn hb h0 (show a ≤ x.n by omega)
          exact ⟨⟨rfl, p2, hr⟩, p1⟩
theorem leL_len : ∀ {l m : List Ly}, leL l m → l.length = m.length
  | [], [], _ => rfl
  | x :: r, y :: s, h => by simp only [List.length_cons]; rw [leL_len h.2.2]
theorem leL_get : ∀ {l m : List Ly}, leL l m → ∀ (k : Nat) (x y : Ly), l[k]? = some x → m[k]? = some y → x.n = y.n ∧ x.b ≤ y.b
  | [], [], _, k, x, y, h, _ => by simp at h
  | _ :: _, _ :: _, h, 0, x, y, h1, h2 => by simp at h1 h2; subst h1 h2; exact ⟨h.1, h.2.1⟩
  | _ :: _, _ :: _, h, k + 1, x, y, h1, h2 => leL_get h.2.2 k x y (by simpa using h1) (by simpa using h2)
theorem leL_app : ∀ {l m : List Ly} {p q : List Ly}, leL l m → leL p q → leL (l ++ p) (m ++ q)
  | [], [], _, _, _, h => h
  | _ :: _, _ :: _, _, _, h, h' => ⟨h.1, h.2.1, leL_app h.2.2 h'⟩
theorem leL_rev : ∀ {l m : List Ly}, leL l m → leL l.reverse m.reverse
  | [], [], _ => trivial
  | x :: r, y :: s, h => by
    rw [List.reverse_cons, List.reverse_cons]
    exact leL_app (leL_rev h.2.2) ⟨h.1, h.2.1, trivial⟩
theorem leL_sum : ∀ {l m : List Ly}, leL l m → sumN l = sumN m ∧ sumB l ≤ sumB m
  | [], [], _ => ⟨rfl, Rat.le_refl⟩
  | x :: r, y :: s, h => by
    obtain ⟨h1, h2⟩ := leL_sum h.2.2
    rw [sumN_cons, sumN_cons, sumB_cons, sumB_cons, h.1, h1]
    exact ⟨rfl, by have := h.2.1; grind⟩
/-- Burdens per unit. -/
theorem part_gt {x : Ly} (hx : okL x) {v : Rat} (h : v * (x.n : Rat) < x.b) {t : Int} (ht : 0 < t) : v * (t : Rat) < part x t := by
  have h1 := cast_pos hx.1
  have h2 := part_mul hx t
  have h3 : (0 : Rat) < (t : Rat) := Rat.intCast_pos.2 ht
  have h4 := Rat.mul_lt_mul_of_pos_right h h3
  rw [← h2] at h4
  refine Rat.lt_of_mul_lt_mul_right (c := (x.n : Rat)) ?_ (Rat.le_of_lt h1)
  grind
theorem part_lt {x : Ly} (hx : okL x) {v : Rat} (h : x.b < v * (x.n : Rat)) {t : Int} (ht : 0 < t) : part x t < v * (t : Rat) := by
  have h1 := cast_pos hx.1
  have h2 := part_mul hx t
  have h3 : (0 : Rat) < (t : Rat) := Rat.intCast_pos.2 ht
  have h4 := Rat.mul_lt_mul_of_pos_right h h3
  rw [← h2] at h4
  refine Rat.lt_of_mul_lt_mul_right (c := (x.n : Rat)) ?_ (Rat.le_of_lt h1)
  grind
theorem part_eq {x : Ly} (hx : okL x) {v : Rat} (h : x.b = v * (x.n : Rat)) (t : Int) : part x t = v * (t : Rat) := by
  unfold part
  have h1 := cast_pos hx.1
  have h2 := Rat.div_mul_cancel (a := (t : Rat)) (show (x.n : Rat) ≠ 0 by grind)
  rw [h]
  generalize (t : Rat) / (x.n : Rat) = s at *
  grind
theorem draw_gt {l : List Ly} {v : Rat} {a : Int} (hl : ∀ x ∈ l, okL x) (h : ∀ x ∈ l, v * (x.n : Rat) < x.b) (h0 : 0 < a) (ha : a ≤ sumN l) : v * (a : Rat) < (drawF l a).2 := by
  induction l generalizing a with
  | nil => rw [sumN_nil] at ha; omega
  | cons x r ih =>
    have hx := hl x (by simp)
    rw [sumN_cons] at ha
    rw [drawF, if_neg (by omega)]
    by_cases c1 : x.n ≤ a
    · rw [if_pos c1]
      simp only
      have h1 := h x (by simp)
      by_cases c2 : a = x.n
      · rw [c2, Int.sub_self, draw_zero _ (Int.le_refl 0)]; simp only; grind
      · have h2 := ih (fun z hz => hl z (by simp [hz])) (fun z hz => h z (by simp [hz])) (a := a - x.n) (by omega) (by omega)
        rw [Rat.intCast_sub] at h2
        grind
    · rw [if_neg c1]; exact part_gt hx (h x (by simp)) h0
theorem draw_lt {l : List Ly} {v : Rat} {a : Int} (hl : ∀ x ∈ l, okL x) (h : ∀ x ∈ l, x.b < v * (x.n : Rat)) (h0 : 0 < a) (ha : a ≤ sumN l) : (drawF l a).2 < v * (a : Rat) := by
  induction l generalizing a with
  | nil => rw [sumN_nil] at ha; omega
  | cons x r ih =>
    have hx := hl x (by simp)
    rw [sumN_cons] at ha
    rw [drawF, if_neg (by omega)]
    by_cases c1 : x.n ≤ a
    · rw [if_pos c1]
      simp only
      have h1 := h x (by simp)
      by_cases c2 : a = x.n
      · rw [c2, Int.sub_self, draw_zero _ (Int.le_refl 0)]; simp only; grind
      · have h2 := ih (fun z hz => hl z (by simp [hz])) (fun z hz => h z (by simp [hz])) (a := a - x.n) (by omega) (by omega)
        rw [Rat.intCast_sub] at h2
        grind
    · rw [if_neg c1]; exact part_lt hx (h x (by simp)) h0
theorem draw_eq {l : List Ly} {v : Rat} {a : Int} (hl : ∀ x ∈ l, okL x) (h : ∀ x ∈ l, x.b = v * (x.n : Rat)) (h0 : 0 ≤ a) (ha : a ≤ sumN l) : (drawF l a).2 = v * (a : Rat) := by
  induction l generalizing a with
  | nil => rw [sumN_nil] at ha; have : a = 0 := by omega
           subst this; rw [drawF]; show (0 : Rat) = v * 0; rw [Rat.mul_zero]
  | cons x r ih =>
    have hx := hl x (by simp)
    rw [sumN_cons] at ha
    rw [drawF]
    by_cases c0 : a ≤ 0
    · have : a = 0 := by omega
      subst this
      rw [if_pos c0]; show (0 : Rat) = v * 0; rw [Rat.mul_zero]
    · rw [if_neg c0]
      by_cases c1 : x.n ≤ a
      · rw [if_pos c1]
        simp only
        have h1 := h x (by simp)
        have h2 := ih (fun z hz => hl z (by simp [hz])) (fun z hz => h z (by simp [hz])) (a := a - x.n) (by omega) (by omega)
        rw [Rat.intCast_sub] at h2
        grind
      · rw [if_neg c1]; exact part_eq hx (h x (by simp)) a
theorem sum_eq {l : List Ly} {v : Rat} (h : ∀ x ∈ l, x.b = v * (x.n : Rat)) : sumB l = v * (sumN l : Rat) := by
  induction l with
  | nil => show (0 : Rat) = v * 0; rw [Rat.mul_zero]
  | cons x r ih => rw [sumB_cons, sumN_cons, ih (fun z hz => h z (by simp [hz])), h x (by simp), Rat.intCast_add]; grind
theorem sum_gt {l : List Ly} {v : Rat} (h : ∀ x ∈ l, v * (x.n : Rat) < x.b) (hn : l ≠ []) : v * (sumN l : Rat) < sumB l := by
  induction l with
  | nil => exact absurd rfl hn
  | cons x r ih =>
    have h1 := h x (by simp)
    rw [sumB_cons, sumN_cons, Rat.intCast_add]
    by_cases hr : r = []
    · subst hr; rw [sumN_nil, sumB_nil]; have : ((0 : Int) : Rat) = 0 := rfl
      grind
    · have := ih (fun z hz => h z (by simp [hz])) hr; grind
theorem sum_lt {l : List Ly} {v : Rat} (h : ∀ x ∈ l, x.b < v * (x.n : Rat)) (hn : l ≠ []) : sumB l < v * (sumN l : Rat) := by
  induction l with
  | nil => exact absurd rfl hn
  | cons x r ih =>
    have h1 := h x (by simp)
    rw [sumB_cons, sumN_cons, Rat.intCast_add]
    by_cases hr : r = []
    · subst hr; rw [sumN_nil, sumB_nil]; have : ((0 : Int) : Rat) = 0 := rfl
      grind
    · have := ih (fun z hz => h z (by simp [hz])) hr; grind
theorem draw_all {l : List Ly} (hl : ∀ x ∈ l, okL x) : drawF l (sumN l) = ([], sumB l) := by
  induction l with
  | nil => rfl
  | cons x r ih =>
    have hx := hl x (by simp)
    have hr : ∀ z ∈ r, okL z := fun z hz => hl z (by simp [hz])
    have h1 := sumN_pos hr
    have := hx.1
    rw [sumN_cons, sumB_cons, drawF, if_neg (by omega), if_pos (by omega), show x.n + sumN r - x.n = sumN r by omega, ih hr]
/-- A draw by a rule. -/
def mean (l : List Ly) : List Ly := [⟨sumN l, sumB l⟩]
def drawR (k : Int) (l : List Ly) (a : Int) : List Ly × Rat :=
  if k = 1 then ((drawF l.reverse a).1.reverse, (drawF l.reverse a).2) else if k = 2 then drawF (mean l) a else drawF l a
theorem sumN_app (l m : List Ly) : sumN (l ++ m) = sumN l + sumN m := by simp [sumN]
theorem sumB_app (l m : List Ly) : sumB (l ++ m) = sumB l + sumB m := by simp [sumB, List.sum_append]
theorem sumN_rev (l : List Ly) : sumN l.reverse = sumN l := by
  induction l with
  | nil => rfl
  | cons x r ih => rw [List.reverse_cons, sumN_app, ih, sumN_cons, sumN_cons, sumN_nil]; omega
theorem sumB_rev (l : List Ly) : sumB l.reverse = sumB l := by
  induction l with
  | nil => rfl
  | cons x r ih => rw [List.reverse_cons, sumB_app, ih, sumB_cons, sumB_cons, sumB_nil]; grind
theorem ok_rev {l : List Ly} (h : ∀ x ∈ l, okL x) : ∀ x ∈ l.reverse, okL x := fun x hx => h x (List.mem_reverse.1 hx)
theorem mean_ok {l : List Ly} (h : ∀ x ∈ l, okL x) (hn : 1 ≤ sumN l) : ∀ x ∈ mean l, okL x := by
  intro x hx
  have : x = ⟨sumN l, sumB l⟩ := by simpa [mean] using hx
  subst this
  exact ⟨hn, sumB_pos h⟩
theorem mean_sumN (l : List Ly) : sumN (mean l) = sumN l := by simp [mean, sumN]
theorem mean_sumB (l : List Ly) : sumB (mean l) = sumB l := by simp [mean, sumB, Rat.add_zero]
theorem len_pos {l : List Ly} (h : 1 ≤ sumN l) : 1 ≤ l.length := by
  cases l with
  | nil => rw [sumN_nil] at h; omega
  | cons x r => simp
theorem R_keeps {k : Int} {l : List Ly} {a : Int} (h : ∀ x ∈ l, okL x) (h0 : 1 ≤ a) (ha : a ≤ sumN l) :
    (∀ x ∈ (drawR k l a).1, okL x) ∧ sumN (drawR k l a).1 + a = sumN l ∧ sumB (drawR k l a).1 + (drawR k l a).2 = sumB l ∧ 0 ≤ (drawR k l a).2 ∧ (drawR k l a).1.length ≤ l.length := by
  unfold drawR
  by_cases h1 : k = 1
  · rw [if_pos h1]
    obtain ⟨i1, i2, i3, i4, i5⟩ := draw_keeps (a := a) (ok_rev h) (by omega) (by rw [sumN_rev]; exact ha)
    rw [sumN_rev] at i2; rw [sumB_rev] at i3
    exact ⟨ok_rev i1, by rw [sumN_rev]; exact i2, by rw [sumB_rev]; exact i3, i4, by simpa using i5⟩
  · rw [if_neg h1]
    by_cases h2 : k = 2
    · rw [if_pos h2]
      obtain ⟨i1, i2, i3, i4, i5⟩ := draw_keeps (a := a) (mean_ok h (by omega)) (by omega) (by rw [mean_sumN]; exact ha)
      rw [mean_sumN] at i2; rw [mean_sumB] at i3
      have := len_pos (l := l) (by omega)
      exact ⟨i1, i2, i3, i4, Nat.le_trans i5 this⟩
    · rw [if_neg h2]
      exact draw_keeps h (by omega) ha
theorem mean_one (x : Ly) : mean [x] = [x] := by
  cases x; simp [mean, sumN, sumB, Rat.add_zero]
theorem R_twice {k : Int} {l : List Ly} {a b : Int} (h : ∀ x ∈ l, okL x) (h0 : 1 ≤ a) (h1 : 1 ≤ b) (hab : a + b ≤ sumN l) :
    (drawR k (drawR k l a).1 b).1 = (drawR k l (a + b)).1 ∧ (drawR k l a).2 + (drawR k (drawR k l a).1 b).2 = (drawR k l (a + b)).2 := by
  unfold drawR
  by_cases c1 : k = 1
  · simp only [if_pos c1, List.reverse_reverse]
    obtain ⟨i1, i2⟩ := draw_twice (a := a) (b := b) (ok_rev h) (by omega) (by omega) (by rw [sumN_rev]; omega)
    exact ⟨by rw [i1], i2⟩
  · simp only [if_neg c1]
    by_cases c2 : k = 2
    · simp only [if_pos c2]
      have hm := mean_ok h (by omega)
      obtain ⟨i1, i2⟩ := draw_twice (a := a) (b := b) hm (by omega) (by omega) (by rw [mean_sumN]; omega)
      have e : (drawF (mean l) a).1 = [⟨sumN l - a, sumB l - part ⟨sumN l, sumB l⟩ a⟩] := by
        unfold mean; rw [drawF, if_neg (by omega), if_neg (by show ¬ sumN l ≤ a; omega)]
      have e2 : mean (drawF (mean l) a).1 = (drawF (mean l) a).1 := by rw [e, mean_one]
      rw [e2]; exact ⟨i1, i2⟩
    · simp only [if_neg c2]
      exact draw_twice h (by omega) (by omega) (by omega)
theorem R_last (l : List Ly) (x : Ly) (hx : okL x) : drawR 1 (l ++ [x]) x.n = (l, x.b) := by
  unfold drawR
  rw [if_pos rfl, List.reverse_append]
  have := hx.1
  have e : drawF ([x].reverse ++ l.reverse) x.n = (l.reverse, x.b) := by
    show drawF (x :: l.reverse) x.n = _
    rw [drawF, if_neg (by omega), if_pos (by omega), Int.sub_self, draw_zero _ (Int.le_refl 0)]
    simp [Rat.add_zero]
  rw [e]; simp
theorem R_more {k : Int} {l m : List Ly} {a : Int} (hl : ∀ x ∈ l, okL x) (h : leL l m) (h0 : 1 ≤ a) (ha : a ≤ sumN l) : leL (drawR k l a).1 (drawR k m a).1 ∧ (drawR k l a).2 ≤ (drawR k m a).2 := by
  unfold drawR
  by_cases c1 : k = 1
  · simp only [if_pos c1]
    obtain ⟨i1, i2⟩ := draw_more (a := a) (ok_rev hl) (leL_rev h) (by omega)
    exact ⟨leL_rev i1, i2⟩
  · simp only [if_neg c1]
    by_cases c2 : k = 2
    · simp only [if_pos c2]
      obtain ⟨s1, s2⟩ := leL_sum h
      exact draw_more (mean_ok hl (by omega)) ⟨s1, s2, trivial⟩ (by omega)
    · simp only [if_neg c2]
      exact draw_more hl h (by omega)
/-- If every layer carried more for a unit, so would the draw. -/
theorem R_gt {k : Int} {l : List Ly} {v : Rat} {a : Int} (hl : ∀ x ∈ l, okL x) (h : ∀ x ∈ l, v * (x.n : Rat) < x.b) (h0 : 1 ≤ a) (ha : a ≤ sumN l) : v * (a : Rat) < (drawR k l a).2 := by
  unfold drawR
  by_cases c1 : k = 1
  · simp only [if_pos c1]
    exact draw_gt (ok_rev hl) (fun x hx => h x (List.mem_reverse.1 hx)) (by omega) (by rw [sumN_rev]; exact ha)
  · simp only [if_neg c1]
    by_cases c2 : k = 2
    · simp only [if_pos c2]
      refine draw_gt (mean_ok hl (by omega)) ?_ (by omega) (by rw [mean_sumN]; exact ha)
      intro x hx
      have : x = ⟨sumN l, sumB l⟩ := by simpa [mean] using hx
      subst this
      exact sum_gt h (by rintro rfl; rw [sumN_nil] at ha; omega)
    · simp only [if_neg c2]
      exact draw_gt hl h (by omega) ha
theorem R_lt {k : Int} {l : List Ly} {v : Rat} {a : Int} (hl : ∀ x ∈ l, okL x) (h : ∀ x ∈ l, x.b < v * (x.n : Rat)) (h0 : 1 ≤ a) (ha : a ≤ sumN l) : (drawR k l a).2 < v * (a : Rat) := by
  unfold drawR
  by_cases c1 : k = 1
  · simp only [if_pos c1]
    exact draw_lt (ok_rev hl) (fun x hx => h x (List.mem_reverse.1 hx)) (by omega) (by rw [sumN_rev]; exact ha)
  · simp only [if_neg c1]
    by_cases c2 : k = 2
    · simp only [if_pos c2]
      refine draw_lt (mean_ok hl (by omega)) ?_ (by omega) (by rw [mean_sumN]; exact ha)
      intro x hx
      have : x = ⟨sumN l, sumB l⟩ := by simpa [mean] using hx
      subst this
      exact sum_lt h (by rintro rfl; rw [sumN_nil] at ha; omega)
    · simp only [if_neg c2]
      exact draw_lt hl h (by omega) ha
theorem R_eq {k : Int} {l : List Ly} {v : Rat} {a : Int} (hl : ∀ x ∈ l, okL x) (h : ∀ x ∈ l, x.b = v * (x.n : Rat)) (h0 : 1 ≤ a) (ha : a ≤ sumN l) : (drawR k l a).2 = v * (a : Rat) := by
  unfold drawR
  by_cases c1 : k = 1
  · simp only [if_pos c1]
    exact draw_eq (ok_rev hl) (fun x hx => h x (List.mem_reverse.1 hx)) (by omega) (by rw [sumN_rev]; exact ha)
  · simp only [if_neg c1]
    by_cases c2 : k = 2
    · simp only [if_pos c2]
      refine draw_eq (mean_ok hl (by omega)) ?_ (by omega) (by rw [mean_sumN]; exact ha)
      intro x hx
      have : x = ⟨sumN l, sumB l⟩ := by simpa [mean] using hx
      subst this
      exact sum_eq h
    · simp only [if_neg c2]
      exact draw_eq hl h (by omega) ha
theorem R_all {k : Int} {l : List Ly} (hl : ∀ x ∈ l, okL x) (hn : 1 ≤ sumN l) : drawR k l (sumN l) = ([], sumB l) := by
  unfold drawR
  by_cases c1 : k = 1
  · simp only [if_pos c1]
    have := draw_all (ok_rev hl)
    rw [sumN_rev, sumB_rev] at this
    rw [this]; rfl
  · simp only [if_neg c1]
    by_cases c2 : k = 2
    · simp only [if_pos c2]
      have := draw_all (mean_ok hl hn)
      rw [mean_sumN, mean_sumB] at this
      exact this
    · simp only [if_neg c2]
      exact draw_all hl
end Go.Proofs.Ytgmngkbocpadaaa
