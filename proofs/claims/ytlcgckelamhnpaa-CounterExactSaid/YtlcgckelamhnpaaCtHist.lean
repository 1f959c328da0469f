/- Histories of meters, plain: which are allowed, what is counted in one, and the two that count least and most. -/
import Derived.Test.YtlcgckelamhnpaaCtLaws
import Derived.WalkKit
namespace Go.Proofs.Ytlcgckelamhnpaa

/-! ### What is allowed -/
/-- The value of a day: valid, not negative, not less than that of the day before. -/
def valB (vs : List (Option Rat)) (i : Nat) : Bool := match vs[i]? with
 | some (some q) => decide (0 ≤ q) && (decide (i = 0) || match vs[i - 1]? with | some (some p) => decide (p ≤ q) | _ => true)
 | _ => false
def inB (m : Mt) (vs : List (Option Rat)) (x : Mk) : Bool := match vs[(x.d - m.f).toNat]? with
 | some (some q) => decide (x.lo ≤ q) && decide (q ≤ x.hi)
 | _ => false
def fitsB (m : Mt) (l : List Mk) (vs : List (Option Rat)) : Bool := decide ((vs.length : Int) = m.u - m.f + 1) && ((List.range vs.length).all (valB vs) && l.all (inB m vs))
def allowB (iv : Iv) (nb big : Bool) (ms : List Mt) (rs : List Rg) (H : List (List (Option Rat))) : Bool :=
 decide (formedE nb big ms rs = 0) && (decide (H.length = ms.length) && (List.range ms.length).all fun i => fitsB (ms.getD i ⟨0, 0, 0⟩) (marksL iv ms rs (i : Nat)) (H.getD i []))
/-- A meter's history. -/
structure HistOk (m : Mt) (l : List Mk) (qs : List Rat) : Prop where
 len : (qs.length : Int) = m.u - m.f + 1
 nn : ∀ (i : Nat) (q : Rat), qs[i]? = some q → 0 ≤ q
 step : ∀ (i : Nat) (p q : Rat), qs[i]? = some p → qs[i + 1]? = some q → p ≤ q
 has : ∀ x ∈ l, ∃ q, qs[(x.d - m.f).toNat]? = some q ∧ x.lo ≤ q ∧ q ≤ x.hi
theorem HistOk.mono {m : Mt} {l : List Mk} {qs : List Rat} (h : HistOk m l qs) : ∀ {j i : Nat} {p q : Rat}, i ≤ j → qs[i]? = some p → qs[j]? = some q → p ≤ q
  | 0, i, p, q, hij, h1, h2 => by
    obtain rfl : i = 0 := by omega
    rw [h1] at h2; cases h2; exact Rat.le_refl
  | j + 1, i, p, q, hij, h1, h2 => by
    by_cases e : i = j + 1
    · subst e; rw [h1] at h2; cases h2; exact Rat.le_refl
    · have hj : j < qs.length := by have := (List.getElem?_eq_some_iff.1 h2).1; omega
      exact Rat.le_trans (h.mono (j := j) (i := i) (by omega) h1 (List.getElem?_eq_getElem hj)) (h.step j _ _ (List.getElem?_eq_getElem hj) h2)
theorem all_some : ∀ {vs : List (Option Rat)}, (∀ i, i < vs.length → ∃ q, vs[i]? = some (some q)) → ∃ qs : List Rat, vs = qs.map some
 | [], _ => ⟨[], rfl⟩
 | v :: r, h => by
  obtain ⟨q, hq⟩ := h 0 (by simp)
  obtain ⟨qs, hqs⟩ := all_some (vs := r) fun i hi => h (i + 1) (by simpa using hi)
  simp at hq
  exact ⟨q :: qs, by rw [hq, hqs]; rfl⟩
theorem valB_some {vs : List (Option Rat)} {i : Nat} (h : valB vs i = true) : ∃ q, vs[i]? = some (some q) ∧ 0 ≤ q ∧ (0 < i → ∀ p, vs[i - 1]? = some (some p) → p ≤ q) := by
  unfold valB at h
  split at h
  · rename_i q hq
    simp only [Bool.and_eq_true, Bool.or_eq_true, decide_eq_true_eq] at h
    refine ⟨q, hq, h.1, fun hi p hp => ?_⟩
    rcases h.2 with h2 | h2
    · omega
    · rw [hp] at h2; simpa using h2
  · cases h
theorem getM {qs : List Rat} {i : Nat} {q : Rat} : (qs.map some)[i]? = some (some q) ↔ qs[i]? = some q := by
 rw [List.getElem?_map]
 cases qs[i]? <;> simp
theorem fits_iff {m : Mt} {l : List Mk} {vs : List (Option Rat)} : fitsB m l vs = true ↔ ∃ qs, vs = qs.map some ∧ HistOk m l qs := by
  unfold fitsB
  simp only [Bool.and_eq_true, decide_eq_true_eq, List.all_eq_true, List.mem_range]
  constructor
  · rintro ⟨h1, h2, h3⟩
    obtain ⟨qs, rfl⟩ := all_some fun i hi => by obtain ⟨q, hq, -⟩ := valB_some (h2 i hi); exact ⟨q, hq⟩
    rw [List.length_map] at h1 h2
    refine ⟨qs, rfl, h1, fun i q hq => ?_, fun i p q hp hq => ?_, fun x hx => ?_⟩
    · obtain ⟨q', hq', h4, -⟩ := valB_some (h2 i (List.getElem?_eq_some_iff.1 hq).1)
      rw [getM, hq] at hq'; cases hq'; exact h4
    · obtain ⟨q', hq', -, h4⟩ := valB_some (h2 (i + 1) (List.getElem?_eq_some_iff.1 hq).1)
      rw [getM, hq] at hq'; cases hq'
      exact h4 (by omega) p (getM.2 hp)
    · have h4 := h3 x hx
      unfold inB at h4
      split at h4
      · rename_i q hq
        rw [getM] at hq
        simp only [Bool.and_eq_true, decide_eq_true_eq] at h4
        exact ⟨q, hq, h4⟩
      · cases h4
  · rintro ⟨qs, rfl, h⟩
    rw [List.length_map]
    refine ⟨h.len, fun i hi => ?_, fun x hx => ?_⟩
    · have hq := List.getElem?_eq_getElem hi
      have e : (qs.map some)[i]? = some (some qs[i]) := getM.2 hq
      unfold valB
      rw [e]
      show (decide (0 ≤ qs[i]) && _) = true
      rw [decide_eq_true (h.nn i _ hq), Bool.true_and, Bool.or_eq_true]
      by_cases h0 : i = 0
      · exact .inl (decide_eq_true h0)
      · right
        split
        · rename_i p hp
          rw [getM] at hp
          have := h.step (i - 1) p qs[i] hp (by rw [show i - 1 + 1 = i by omega]; exact hq)
          exact decide_eq_true this
        · rfl
    · obtain ⟨q, hq, h1, h2⟩ := h.has x hx
      unfold inB
      rw [getM.2 hq]
      show (decide (x.lo ≤ q) && decide (q ≤ x.hi)) = true
      rw [decide_eq_true h1, decide_eq_true h2]; rfl
theorem allow_iff {iv : Iv} {nb big : Bool} {ms : List Mt} {rs : List Rg} {H : List (List (Option Rat))} : allowB iv nb big ms rs H = true ↔
  formedE nb big ms rs = 0 ∧ H.length = ms.length ∧ ∀ i : Nat, i < ms.length → ∃ qs, H.getD i [] = qs.map some ∧ HistOk (ms.getD i ⟨0, 0, 0⟩) (marksL iv ms rs (i : Nat)) qs := by
 unfold allowB
 simp only [Bool.and_eq_true, decide_eq_true_eq, List.all_eq_true, List.mem_range, fits_iff]
/-- If there is a history, the readings do not contradict each other. -/
theorem hist_poss {m : Mt} {l : List Mk} {qs : List Rat} (h : HistOk m l qs) : Poss l := by
 intro x hx z hz hd
 obtain ⟨p, hp, h1, -⟩ := h.has x hx
 obtain ⟨q, hq, -, h2⟩ := h.has z hz
 exact Rat.le_trans h1 (Rat.le_trans (h.mono (by omega) hp hq) h2)
theorem allow_poss {iv : Iv} (hv : IvOk iv) {nb big : Bool} {ms : List Mt} {rs : List Rg} {H : List (List (Option Rat))} (h : allowB iv nb big ms rs H = true) : checkE iv nb big ms rs = 0 := by
 obtain ⟨h1, h2, h3⟩ := allow_iff.1 h
 refine check_zero.2 ⟨h1, (possA_iff hv).2 fun i hi => ?_⟩
 obtain ⟨qs, -, h4⟩ := h3 i hi
 exact hist_poss h4
theorem allow_not {iv : Iv} (hv : IvOk iv) {nb big : Bool} {ms : List Mt} {rs : List Rg} (H : List (List (Option Rat))) (h : checkE iv nb big ms rs ≠ 0) : allowB iv nb big ms rs H = false := by
 cases e : allowB iv nb big ms rs H with
 | false => rfl
 | true => exact absurd (allow_poss hv e) h
/-! ### The days of the marks -/
theorem marks_in {iv : Iv} {nb big : Bool} {ms : List Mt} {rs : List Rg} (h : formedE nb big ms rs = 0) {i : Nat} : ∀ x ∈ marksL iv ms rs i, (ms.getD i ⟨0, 0, 0⟩).f ≤ x.d ∧ x.d ≤ (ms.getD i ⟨0, 0, 0⟩).u := by
  intro x hx
  obtain ⟨r, hr, hm, p, -, rfl⟩ := mem_marks.1 hx
  obtain ⟨k, hk⟩ := List.getElem?_of_mem hr
  have h1 := (formed_zero.1 h).2.2.2 k (List.getElem?_eq_some_iff.1 hk).1
  unfold rErr at h1
  rw [hk] at h1
  have h1' : (if (decide (r.m < 0) || decide ((ms.length : Int) ≤ r.m) || decide (r.c < 0) || decide (1099511627776 < r.c)) = true then 1
    else if (decide (r.d < (mtAt ms r.m).f) || decide ((mtAt ms r.m).u < r.d)) = true then 18 else _) = (0 : Int) := h1
  have e : mtAt ms r.m = ms.getD i ⟨0, 0, 0⟩ := by rw [hm]; rfl
  rw [e] at h1'
  split at h1'
  · cases h1'
  · split at h1'
    · cases h1'
    · rename_i h2
      simp only [Bool.or_eq_true, decide_eq_true_eq, not_or] at h2
      show (ms.getD i ⟨0, 0, 0⟩).f ≤ r.d ∧ r.d ≤ (ms.getD i ⟨0, 0, 0⟩).u
      omega
/-- The history that a function of the day makes. -/
def mkH (f u : Int) (F : Int → Rat) : List Rat := (List.range (u - f + 1).toNat).map fun i : Nat => F (f + i)
theorem mkH_at {f u : Int} {F : Int → Rat} {i : Nat} (hi : f + i ≤ u) : (mkH f u F)[i]? = some (F (f + i)) := by
 unfold mkH
 rw [List.getElem?_map, List.getElem?_range (by omega)]; rfl
theorem mkH_len {f u : Int} {F : Int → Rat} (h : f ≤ u) : ((mkH f u F).length : Int) = u - f + 1 := by
 unfold mkH
 rw [List.length_map, List.length_range]; omega
theorem mkH_some {f u : Int} {F : Int → Rat} {i : Nat} {q : Rat} (h : (mkH f u F)[i]? = some q) : f + i ≤ u ∧ q = F (f + i) := by
 have hi := (List.getElem?_eq_some_iff.1 h).1
 have hi' : f + i ≤ u := by unfold mkH at hi; rw [List.length_map, List.length_range] at hi; omega
 rw [mkH_at hi'] at h
 exact ⟨hi', (Option.some.inj h).symm⟩
theorem mkH_ok {m : Mt} {l : List Mk} {F : Int → Rat} (hfu : m.f ≤ m.u) (hin : ∀ x ∈ l, m.f ≤ x.d ∧ x.d ≤ m.u) (h0 : ∀ d, 0 ≤ F d) (h1 : ∀ d, m.f ≤ d → F d ≤ F (d + 1)) (h2 : ∀ x ∈ l, x.lo ≤ F x.d ∧ F x.d ≤ x.hi) : HistOk m l (mkH m.f m.u F) where
 len := mkH_len hfu
 nn i q hq := by obtain ⟨-, rfl⟩ := mkH_some hq; exact h0 _
 step i p q hp hq := by
  obtain ⟨-, rfl⟩ := mkH_some hp
  obtain ⟨-, rfl⟩ := mkH_some hq
  have := h1 (m.f + i) (by omega)
  rw [show m.f + ((i + 1 : Nat) : Int) = m.f + i + 1 by omega]; exact this
 has x hx := by
  obtain ⟨h3, h4⟩ := hin x hx
  refine ⟨F x.d, ?_, h2 x hx⟩
  rw [mkH_at (by omega), show m.f + ((x.d - m.f).toNat : Int) = x.d by omega]
/-! ### The two histories at the ends -/
def flatC (l : List Mk) (a b : Int) : Rat := match mostO l a with | none => leastQ l b | some h => minQ (leastQ l b) h
def flatF (l : List Mk) (a b d : Int) : Rat := if a ≤ d then maxQ (leastQ l d) (flatC l a b) else leastQ l d
def steepF (l : List Mk) (a b d : Int) : Rat :=
 let v := if a < d ∧ d ≤ b then (mostO l d).getD (leastQ l d) else leastQ l d
 if b < d then maxQ v ((mostO l b).getD 0) else v
theorem flatF_nn (l : List Mk) (a b d : Int) : 0 ≤ flatF l a b d := by
  unfold flatF
  split
  · exact Rat.le_trans (least_nn l d) (le_maxQ1 _ _)
  · exact least_nn l d
theorem least_up (l : List Mk) {d e : Int} (h : d ≤ e) : leastQ l d ≤ leastQ l e := least_mono (fun _ hm => hm) h
theorem maxQ_mono {a b a' b' : Rat} (h : a ≤ a') (k : b ≤ b') : maxQ a b ≤ maxQ a' b' := maxQ_le.2 ⟨Rat.le_trans h (le_maxQ1 _ _), Rat.le_trans k (le_maxQ2 _ _)⟩
theorem flatF_step (l : List Mk) (a b d : Int) : flatF l a b d ≤ flatF l a b (d + 1) := by
  have h := least_up l (show d ≤ d + 1 by omega)
  unfold flatF
  by_cases h1 : a ≤ d
  · rw [if_pos h1, if_pos (by omega)]; exact maxQ_mono h Rat.le_refl
  · rw [if_neg h1]
    split
    · exact Rat.le_trans h (le_maxQ1 _ _)
    · exact h
theorem flatC_le {l : List Mk} {a b d : Int} {x : Mk} (hx : x ∈ l) (hd : x.d = d) (h : a ≤ d) : flatC l a b ≤ x.hi := by
 obtain ⟨g, hg⟩ := Option.isSome_iff_exists.1 (most_some (l := l) (day := a) |>.2 ⟨x, hx, by omega⟩)
 unfold flatC; rw [hg]
 exact Rat.le_trans (minQ_le2 _ _) (most_le hg hx (by omega))
theorem least_hi {l : List Mk} (hp : Poss l) (h0 : ∀ m ∈ l, 0 ≤ m.lo ∧ m.lo ≤ m.hi) {x : Mk} (hx : x ∈ l) : leastQ l x.d ≤ x.hi :=
 least_le.2 ⟨Rat.le_trans (h0 x hx).1 (h0 x hx).2, fun m hm hd => hp m hm x hx hd⟩
theorem flat_ok {m : Mt} {l : List Mk} (hp : Poss l) (h0 : ∀ m ∈ l, 0 ≤ m.lo ∧ m.lo ≤ m.hi) (hfu : m.f ≤ m.u) (hin : ∀ x ∈ l, m.f ≤ x.d ∧ x.d ≤ m.u) (a b : Int) : HistOk m l (mkH m.f m.u (flatF l a b)) :=
  mkH_ok hfu hin (flatF_nn l a b) (fun d _ => flatF_step l a b d) fun x hx => by
    have h1 := le_least hx (Int.le_refl x.d)
    have h2 := least_hi hp h0 hx
    unfold flatF
    split
    · rename_i h3
      exact ⟨Rat.le_trans h1 (le_maxQ1 _ _), maxQ_le.2 ⟨h2, flatC_le hx rfl h3⟩⟩
    · exact ⟨h1, h2⟩
theorem most_up {l : List Mk} {d e : Int} {h : Rat} (hd : d ≤ e) (k : mostO l e = some h) : ∃ g, mostO l d = some g ∧ g ≤ h := most_mono (fun _ hm => hm) hd k
theorem steep_mid {l : List Mk} {a b d : Int} {g : Rat} (h1 : a < d) (h2 : d ≤ b) (h : mostO l d = some g) : steepF l a b d = g := by
 have n1 : ¬ b < d := by omega
 have n2 : a < d ∧ d ≤ b := ⟨h1, h2⟩
 unfold steepF; simp only; rw [if_neg n1, if_pos n2, h]; rfl
theorem steep_low {l : List Mk} {a b d : Int} (h1 : d ≤ a) (h2 : a < b) : steepF l a b d = leastQ l d := by
 have n1 : ¬ b < d := by omega
 have n2 : ¬ (a < d ∧ d ≤ b) := by omega
 unfold steepF; simp only; rw [if_neg n1, if_neg n2]
theorem steep_high {l : List Mk} {a b d : Int} {h : Rat} (h1 : b < d) (k : mostO l b = some h) : steepF l a b d = maxQ (leastQ l d) h := by
 have n2 : ¬ (a < d ∧ d ≤ b) := by omega
 unfold steepF; simp only; rw [if_pos h1, if_neg n2, k]; rfl
theorem steepF_ok {l : List Mk} (hp : Poss l) (h0 : ∀ m ∈ l, 0 ≤ m.lo ∧ m.lo ≤ m.hi) {a b : Int} (hab : a < b) {h : Rat} (hb : mostO l b = some h) (d : Int) :
    0 ≤ steepF l a b d ∧ steepF l a b d ≤ steepF l a b (d + 1) ∧ ∀ x ∈ l, x.d = d → x.lo ≤ steepF l a b d ∧ steepF l a b d ≤ x.hi := by
  have hl := least_up l (show d ≤ d + 1 by omega)
  have hn := least_nn l d
  by_cases h1 : d ≤ a
  · rw [steep_low h1 hab]
    refine ⟨hn, ?_, fun x hx e => ⟨le_least hx (by omega), by rw [← e]; exact least_hi hp h0 hx⟩⟩
    by_cases h2 : d + 1 ≤ a
    · rw [steep_low h2 hab]; exact hl
    · obtain ⟨g, hg, -⟩ := most_up (show d + 1 ≤ b by omega) hb
      rw [steep_mid (by omega) (by omega) hg]
      exact Rat.le_trans hl (poss_ge hp h0 hg)
  · by_cases h2 : d ≤ b
    · obtain ⟨g, hg, hgh⟩ := most_up h2 hb
      have hge := poss_ge hp h0 hg
      rw [steep_mid (by omega) h2 hg]
      refine ⟨Rat.le_trans hn hge, ?_, fun x hx e => ⟨Rat.le_trans (le_least hx (by omega)) hge, most_le hg hx (by omega)⟩⟩
      by_cases h3 : d + 1 ≤ b
      · obtain ⟨g', hg', -⟩ := most_up h3 hb
        obtain ⟨g2, hg2, h4⟩ := most_up (show d ≤ d + 1 by omega) hg'
        rw [hg] at hg2; cases hg2
        rw [steep_mid (by omega) h3 hg']; exact h4
      · rw [steep_high (by omega) hb]
        exact Rat.le_trans hgh (le_maxQ2 _ _)
    · rw [steep_high (by omega) hb, steep_high (by omega) hb]
      refine ⟨Rat.le_trans hn (le_maxQ1 _ _), maxQ_mono hl Rat.le_refl, fun x hx e => ⟨Rat.le_trans (le_least hx (by omega)) (le_maxQ1 _ _), maxQ_le.2 ⟨?_, most_le hb hx (by omega)⟩⟩⟩
      rw [← e]; exact least_hi hp h0 hx
theorem steep_ok {m : Mt} {l : List Mk} (hp : Poss l) (h0 : ∀ m ∈ l, 0 ≤ m.lo ∧ m.lo ≤ m.hi) (hfu : m.f ≤ m.u) (hin : ∀ x ∈ l, m.f ≤ x.d ∧ x.d ≤ m.u) {a b : Int} (hab : a < b) {h : Rat} (hb : mostO l b = some h) : HistOk m l (mkH m.f m.u (steepF l a b)) :=
 mkH_ok hfu hin (fun d => (steepF_ok hp h0 hab hb d).1) (fun d _ => (steepF_ok hp h0 hab hb d).2.1) fun x hx => (steepF_ok hp h0 hab hb x.d).2.2 x hx rfl
/-! ### What is counted -/
/-- What is counted of one meter. -/
def cntM (m : Mt) (qs : List Rat) (a b : Int) : Rat :=
 if max a m.f - m.f < min b m.u - m.f ∧ 0 ≤ max a m.f - m.f ∧ min b m.u - m.f < (qs.length : Int) then qs.getD (min b m.u - m.f).toNat 0 - qs.getD (max a m.f - m.f).toNat 0 else 0
def cntS (F : Nat → Rat) : Nat → Rat
 | 0 => 0
 | k + 1 => cntS F k + F k
def cntA (ms : List Mt) (H : List (List Rat)) (a b : Int) : Rat := cntS (fun i => cntM (ms.getD i ⟨0, 0, 0⟩) (H.getD i []) a b) ms.length
theorem getD_of_ {qs : List Rat} {i : Nat} {q : Rat} (h : qs[i]? = some q) : qs.getD i 0 = q := by rw [List.getD_eq_getElem?_getD, h]; rfl
theorem cntM_in {m : Mt} {l : List Mk} {qs : List Rat} (h : HistOk m l qs) (hin : ∀ x ∈ l, m.f ≤ x.d ∧ x.d ≤ m.u) {a b : Int} {z : Rat × Rat} (hz : pieceL l (max a m.f) (min b m.u) = some z) : z.1 ≤ cntM m qs a b ∧ cntM m qs a b ≤ z.2 := by
  have hlen := h.len
  unfold pieceL at hz
  unfold cntM
  by_cases hab : min b m.u ≤ max a m.f
  · rw [if_pos hab] at hz; cases hz
    rw [if_neg (by omega)]; exact ⟨Rat.le_refl, Rat.le_refl⟩
  · rw [if_neg hab] at hz
    rw [if_pos (by omega)]
    obtain ⟨A, hA⟩ : ∃ A, max a m.f = A := ⟨_, rfl⟩
    obtain ⟨B, hB⟩ : ∃ B, min b m.u = B := ⟨_, rfl⟩
    have hA1 : m.f ≤ A := by omega
    have hB1 : B ≤ m.u := by omega
    rw [hA, hB] at hz hab ⊢
    have ia : (A - m.f).toNat < qs.length := by omega
    have ib : (B - m.f).toNat < qs.length := by omega
    have ea := List.getElem?_eq_getElem ia
    have eb := List.getElem?_eq_getElem ib
    generalize qs[(A - m.f).toNat] = p at ea
    generalize qs[(B - m.f).toNat] = q at eb
    rw [getD_of_ ea, getD_of_ eb]
    -- the least at a day is at most the value; the most is at least
    have low : ∀ (d : Int) (v : Rat), m.f ≤ d → qs[(d - m.f).toNat]? = some v → leastQ l d ≤ v := fun d v hd hv => least_le.2 ⟨h.nn _ _ hv, fun x hx hxd => by
      obtain ⟨y, hy, h1, -⟩ := h.has x hx
      have := hin x hx
      exact Rat.le_trans h1 (h.mono (by omega) hy hv)⟩
    have top : ∀ (d : Int) (v : Rat), m.f ≤ d → qs[(d - m.f).toNat]? = some v → LeO v (mostO l d) := fun d v hd hv => le_most.2 fun x hx hxd => by
      obtain ⟨y, hy, -, h1⟩ := h.has x hx
      have := hin x hx
      exact Rat.le_trans (h.mono (by omega) hv hy) h1
    have hpq : p ≤ q := h.mono (by omega) ea eb
    have l1 := low A p (by omega) ea
    have l2 := low B q (by omega) eb
    have t1 := top A p (by omega) ea
    have t2 := top B q (by omega) eb
    unfold cntHi at hz
    cases e2 : mostO l B with
    | none => rw [e2] at hz; cases hz
    | some h2 =>
      rw [e2] at hz t2; cases hz
      have t2' : q ≤ h2 := t2
      refine ⟨?_, ?_⟩
      · show cntLo l A B ≤ q - p
        unfold cntLo
        cases e1 : mostO l A with
        | none => show (0 : Rat) ≤ q - p; grind
        | some h1 =>
          rw [e1] at t1
          have t1' : p ≤ h1 := t1
          show maxQ _ _ ≤ _
          rw [maxQ_le]
          constructor <;> grind
      · show q - p ≤ h2 - leastQ l A
        grind
theorem cntM_mk {m : Mt} {F : Int → Rat} {a b : Int} (h : ¬ min b m.u ≤ max a m.f) : cntM m (mkH m.f m.u F) a b = F (min b m.u) - F (max a m.f) := by
 have hl := mkH_len (f := m.f) (u := m.u) (F := F) (by omega)
 unfold cntM
 rw [if_pos (by omega)]
 have e1 : (mkH m.f m.u F)[(min b m.u - m.f).toNat]? = some (F (min b m.u)) := by rw [mkH_at (by omega), show m.f + ((min b m.u - m.f).toNat : Int) = min b m.u by omega]
 have e2 : (mkH m.f m.u F)[(max a m.f - m.f).toNat]? = some (F (max a m.f)) := by rw [mkH_at (by omega), show m.f + ((max a m.f - m.f).toNat : Int) = max a m.f by omega]
 rw [getD_of_ e1, getD_of_ e2]
theorem cntM_no {m : Mt} {qs : List Rat} {a b : Int} (h : min b m.u ≤ max a m.f) : cntM m qs a b = 0 := by
 unfold cntM; rw [if_neg (by omega)]
theorem flat_cnt {m : Mt} {l : List Mk} (hp : Poss l) (h0 : ∀ m ∈ l, 0 ≤ m.lo ∧ m.lo ≤ m.hi) {a b : Int} {z : Rat × Rat} (hz : pieceL l (max a m.f) (min b m.u) = some z) :
    cntM m (mkH m.f m.u (flatF l (max a m.f) (min b m.u))) a b = z.1 := by
  unfold pieceL at hz
  by_cases hab : min b m.u ≤ max a m.f
  · rw [if_pos hab] at hz; cases hz; exact cntM_no hab
  · rw [if_neg hab] at hz
    rw [cntM_mk hab]
    generalize max a m.f = A at *
    generalize min b m.u = B at *
    cases e : cntHi l A B with
    | none => rw [e] at hz; cases hz
    | some g =>
      rw [e] at hz; cases hz
      show _ = cntLo l A B
      have hl := least_up l (show A ≤ B by omega)
      unfold flatF cntLo flatC
      rw [if_pos (by omega), if_pos (by omega)]
      cases e1 : mostO l A with
      | none =>
        show maxQ (leastQ l B) (leastQ l B) - maxQ (leastQ l A) (leastQ l B) = 0
        unfold maxQ; grind
      | some g1 =>
        have := poss_ge hp h0 e1
        show maxQ (leastQ l B) (minQ (leastQ l B) g1) - maxQ (leastQ l A) (minQ (leastQ l B) g1) = maxQ (leastQ l B - g1) 0
        unfold maxQ minQ; grind
theorem steep_cnt {m : Mt} {l : List Mk} {a b : Int} {z : Rat × Rat} (hab : max a m.f < min b m.u) (hz : pieceL l (max a m.f) (min b m.u) = some z) :
  cntM m (mkH m.f m.u (steepF l (max a m.f) (min b m.u))) a b = z.2 := by
 unfold pieceL cntHi at hz
 rw [if_neg (by omega)] at hz
 rw [cntM_mk (by omega)]
 generalize max a m.f = A at *
 generalize min b m.u = B at *
 cases e : mostO l B with
 | none => rw [e] at hz; cases hz
 | some g =>
  rw [e] at hz; cases hz
  rw [steep_mid (by omega) (Int.le_refl _) e, steep_low (Int.le_refl _) hab]
theorem cntS_in {F : Nat → Rat} {P : Nat → Option (Rat × Rat)} : ∀ {k : Nat} {z : Rat × Rat}, (∀ i, i < k → ∀ y, P i = some y → y.1 ≤ F i ∧ F i ≤ y.2) → btw P k = some z → z.1 ≤ cntS F k ∧ cntS F k ≤ z.2
 | 0, z, _, h => by cases h; exact ⟨Rat.le_refl, Rat.le_refl⟩
 | k + 1, z, hF, h => by
  obtain ⟨x, y, e1, e2, rfl⟩ := btw_next h
  have i1 := cntS_in (fun i hi => hF i (by omega)) e1
  have i2 := hF k (by omega) _ e2
  exact ⟨q_add_le i1.1 i2.1, q_add_le i1.2 i2.2⟩
theorem cntS_lo {F : Nat → Rat} {P : Nat → Option (Rat × Rat)} : ∀ {k : Nat} {z : Rat × Rat}, (∀ i, i < k → ∀ y, P i = some y → F i = y.1) → btw P k = some z → cntS F k = z.1
 | 0, z, _, h => by cases h; rfl
 | k + 1, z, hF, h => by
  obtain ⟨x, y, e1, e2, rfl⟩ := btw_next h
  show cntS F k + F k = x.1 + y.1
  rw [cntS_lo (fun i hi => hF i (by omega)) e1, hF k (by omega) _ e2]
theorem cntS_hi {F : Nat → Rat} {P : Nat → Option (Rat × Rat)} : ∀ {k : Nat} {z : Rat × Rat}, (∀ i, i < k → ∀ y, P i = some y → F i = y.2) → btw P k = some z → cntS F k = z.2
 | 0, z, _, h => by cases h; rfl
 | k + 1, z, hF, h => by
  obtain ⟨x, y, e1, e2, rfl⟩ := btw_next h
  show cntS F k + F k = x.2 + y.2
  rw [cntS_hi (fun i hi => hF i (by omega)) e1, hF k (by omega) _ e2]
/-! ### The stage's theorem -/
def pA (ms : List Mt) (a : Int) (i : Nat) : Int := max a (ms.getD i ⟨0, 0, 0⟩).f
def pB (ms : List Mt) (b : Int) (i : Nat) : Int := min b (ms.getD i ⟨0, 0, 0⟩).u
def endH (iv : Iv) (ms : List Mt) (rs : List Rg) (a b : Int) (much : Bool) (i : Nat) : List Rat :=
 mkH (ms.getD i ⟨0, 0, 0⟩).f (ms.getD i ⟨0, 0, 0⟩).u (if (much && decide (pA ms a i < pB ms b i)) = true then steepF (marksL iv ms rs i) (pA ms a i) (pB ms b i) else flatF (marksL iv ms rs i) (pA ms a i) (pB ms b i))
def endsH (iv : Iv) (ms : List Mt) (rs : List Rg) (a b : Int) (much : Bool) : List (List Rat) := (List.range ms.length).map (endH iv ms rs a b much)
theorem range_getD {α : Type} {F : Nat → α} {n i : Nat} {z : α} (hi : i < n) : ((List.range n).map F).getD i z = F i := by
 rw [List.getD_eq_getElem?_getD, List.getElem?_map, List.getElem?_range hi]; rfl
theorem map_getD {H : List (List Rat)} {i : Nat} (hi : i < H.length) : (H.map (List.map some)).getD i [] = (H.getD i []).map some := by
 simp only [List.getD_eq_getElem?_getD]
 rw [List.getElem?_map, List.getElem?_eq_getElem hi]; rfl
theorem some_inj : ∀ {x y : List Rat}, x.map some = y.map some → x = y
 | [], [], _ => rfl
 | [], b :: y, h => by cases h
 | a :: x, [], h => by cases h
 | a :: x, b :: y, h => by
  rw [List.map_cons, List.map_cons, List.cons.injEq] at h
  rw [some_inj h.2, Option.some.inj h.1]
theorem exact_in {iv : Iv} {nb big : Bool} {ms : List Mt} {rs : List Rg} {a b : Int} {s : Rat × Rat} (h : betw iv nb big ms rs a b = (0, some s)) {H : List (List Rat)} (hH : allowB iv nb big ms rs (H.map (List.map some)) = true) :
  s.1 ≤ cntA ms H a b ∧ cntA ms H a b ≤ s.2 := by
 obtain ⟨hc, -, x, hx, e⟩ := betw_zero (show (betw iv nb big ms rs a b).1 = 0 by rw [h])
 rw [h] at e; cases e
 obtain ⟨h1, h2, h3⟩ := allow_iff.1 hH
 rw [List.length_map] at h2
 refine cntS_in (fun i hi y hy => ?_) hx
 obtain ⟨qs, hq, h4⟩ := h3 i hi
 rw [map_getD (by omega)] at hq
 have e5 : qs = H.getD i [] := some_inj hq.symm
 rw [← e5]
 exact cntM_in h4 (marks_in h1) hy
theorem ends_allow {iv : Iv} (hv : IvOk iv) {nb big : Bool} {ms : List Mt} {rs : List Rg} {a b : Int} {s : Rat × Rat} (h : betw iv nb big ms rs a b = (0, some s)) (much : Bool) : allowB iv nb big ms rs ((endsH iv ms rs a b much).map (List.map some)) = true := by
  obtain ⟨hc, -, x, hx, e⟩ := betw_zero (show (betw iv nb big ms rs a b).1 = 0 by rw [h])
  obtain ⟨h1, h2⟩ := check_zero.1 hc
  refine allow_iff.2 ⟨h1, by unfold endsH; simp, fun i hi => ⟨endH iv ms rs a b much i, ?_, ?_⟩⟩
  · rw [map_getD (by unfold endsH; simpa using hi)]
    unfold endsH; rw [range_getD hi]
  · have hp := (possA_iff hv).1 h2 i hi
    have h0 := marks_ok hv ms rs i
    have hin := marks_in (iv := iv) h1 (i := i)
    have hmi := mErr_zero hi ((formed_zero.1 h1).2.2.1 i hi)
    unfold endH
    by_cases hm : (much && decide (pA ms a i < pB ms b i)) = true
    · rw [if_pos hm]
      simp only [Bool.and_eq_true, decide_eq_true_eq] at hm
      obtain ⟨z, hz⟩ : ∃ z, pieceM iv ms rs a b i = some z := by
        cases e : pieceM iv ms rs a b i with
        | none => rw [btw_none hi e] at hx; cases hx
        | some z => exact ⟨z, rfl⟩
      have hab := hm.2
      unfold pieceM pieceL cntHi at hz
      unfold pA pB at hab ⊢
      rw [if_neg (by omega)] at hz
      cases e : mostO (marksL iv ms rs i) (min b (ms.getD i ⟨0, 0, 0⟩).u) with
      | none => rw [e] at hz; cases hz
      | some g => exact steep_ok hp h0 (by omega) hin hab e
    · rw [if_neg hm]
      exact flat_ok hp h0 (by omega) hin _ _
theorem ends_lo {iv : Iv} (hv : IvOk iv) {nb big : Bool} {ms : List Mt} {rs : List Rg} {a b : Int} {s : Rat × Rat} (h : betw iv nb big ms rs a b = (0, some s)) : cntA ms (endsH iv ms rs a b false) a b = s.1 := by
 obtain ⟨hc, -, x, hx, e⟩ := betw_zero (show (betw iv nb big ms rs a b).1 = 0 by rw [h])
 rw [h] at e; cases e
 refine cntS_lo (fun i hi y hy => ?_) hx
 unfold endsH; rw [range_getD hi]
 unfold endH
 rw [Bool.false_and, if_neg (by simp)]
 exact flat_cnt ((possA_iff hv).1 (check_zero.1 hc).2 i hi) (marks_ok hv ms rs i) hy
theorem ends_hi {iv : Iv} {nb big : Bool} {ms : List Mt} {rs : List Rg} {a b : Int} {s : Rat × Rat} (h : betw iv nb big ms rs a b = (0, some s)) : cntA ms (endsH iv ms rs a b true) a b = s.2 := by
  obtain ⟨-, -, x, hx, e⟩ := betw_zero (show (betw iv nb big ms rs a b).1 = 0 by rw [h])
  rw [h] at e; cases e
  refine cntS_hi (fun i hi y hy => ?_) hx
  unfold endsH; rw [range_getD hi]
  unfold endH
  rw [Bool.true_and]
  by_cases hm : pA ms a i < pB ms b i
  · rw [if_pos (decide_eq_true hm)]
    exact steep_cnt hm hy
  · rw [if_neg (by simpa using hm)]
    have hy' := hy
    unfold pieceM pieceL at hy'
    unfold pA pB at hm
    rw [if_pos (by omega)] at hy'
    cases hy'
    exact cntM_no (by omega)
/-! ### When there is no history -/
/-! ### One reading after the other -/
def lowF (iv : Iv) (ms : List Mt) (m day : Int) (a : Rat) (x : Rg) : Rat := if x.m = m ∧ x.d ≤ day then (match iv (mtAt ms m).s x.c x.d with | none => a | some p => maxQ a p.1) else a
def highF (iv : Iv) (ms : List Mt) (m day : Int) (o : Option Rat) (x : Rg) : Option Rat := if x.m = m ∧ day ≤ x.d then (match iv (mtAt ms m).s x.c x.d with | none => o | some p => some (match o with | none => p.2 | some h => minQ h p.2)) else o
theorem marks_cons (iv : Iv) (ms : List Mt) (x : Rg) (rs : List Rg) (m : Int) : marksL iv ms (x :: rs) m = if x.m = m then (match iv (mtAt ms m).s x.c x.d with | none => marksL iv ms rs m | some p => ⟨x.d, p.1, p.2⟩ :: marksL iv ms rs m) else marksL iv ms rs m := by
  unfold marksL
  by_cases h : x.m = m
  · rw [if_pos h, List.filter_cons, if_pos (by simpa using h), List.filterMap_cons]
    unfold mkOf rIv
    rw [h]
    cases iv (mtAt ms m).s x.c x.d <;> rfl
  · rw [if_neg h, List.filter_cons, if_neg (by simpa using h)]
theorem low_fold (iv : Iv) (ms : List Mt) (m day : Int) : ∀ (rs : List Rg) (a : Rat), rs.foldl (lowF iv ms m day) a = (marksL iv ms rs m).foldl (leastF day) a
  | [], a => rfl
  | x :: rs, a => by
    rw [List.foldl_cons, low_fold iv ms m day rs, marks_cons]
    unfold lowF
    by_cases h : x.m = m
    · rw [if_pos h]
      cases hp : iv (mtAt ms m).s x.c x.d with
      | none => simp
      | some p =>
        rw [List.foldl_cons]
        unfold leastF
        simp only [h, true_and]
    · rw [if_neg h, if_neg (fun h2 => h h2.1)]
theorem high_fold (iv : Iv) (ms : List Mt) (m day : Int) : ∀ (rs : List Rg) (o : Option Rat), rs.foldl (highF iv ms m day) o = (marksL iv ms rs m).foldl (mostF day) o
  | [], o => rfl
  | x :: rs, o => by
    rw [List.foldl_cons, high_fold iv ms m day rs, marks_cons]
    unfold highF
    by_cases h : x.m = m
    · rw [if_pos h]
      cases hp : iv (mtAt ms m).s x.c x.d with
      | none => simp
      | some p =>
        rw [List.foldl_cons]
        unfold mostF
        by_cases h2 : day ≤ x.d
        · rw [if_pos ⟨h, h2⟩, if_neg (show ¬ (x.d < day) by omega)]
          cases o <;> rfl
        · rw [if_neg (fun h3 => h2 h3.2), if_pos (show x.d < day by omega)]
    · rw [if_neg h, if_neg (fun h2 => h h2.1)]
theorem low_is (iv : Iv) (ms : List Mt) (rs : List Rg) (m day : Int) : rs.foldl (lowF iv ms m day) 0 = leastQ (marksL iv ms rs m) day := low_fold iv ms m day rs 0
theorem high_is (iv : Iv) (ms : List Mt) (rs : List Rg) (m day : Int) : rs.foldl (highF iv ms m day) none = mostO (marksL iv ms rs m) day := high_fold iv ms m day rs none
theorem foldl_next {α β : Type} {f : β → α → β} {b : β} {l : List α} {k : Nat} {x : α} (h : l[k]? = some x) : (l.take (k + 1)).foldl f b = f ((l.take k).foldl f b) x := by
 obtain ⟨hk, hx⟩ := List.getElem?_eq_some_iff.1 h
 rw [List.take_succ_eq_append_getElem hk, List.foldl_append, hx]; rfl
/-- An option that a flag tells of. -/
def opt (b : Bool) (q : Rat) : Option Rat := if b = true then some q else none
theorem opt_eq {b c : Bool} {q r : Rat} (h : opt b q = opt c r) (hb : b = false → q = 0) (hc : c = false → r = 0) : b = c ∧ q = r := by
  cases b <;> cases c
  · exact ⟨rfl, (hb rfl).trans (hc rfl).symm⟩
  · cases h
  · cases h
  · cases h; exact ⟨rfl, rfl⟩
theorem opt_of (o : Option Rat) : ∃ b q, o = opt b q ∧ (b = false → q = 0) := by
 cases o with
 | none => exact ⟨false, 0, rfl, fun _ => rfl⟩
 | some q => exact ⟨true, q, rfl, fun h => by cases h⟩
theorem opt_getD {b : Bool} {q : Rat} (h : b = false → q = 0) : (opt b q).getD 0 = q := by
  cases b
  · exact (h rfl).symm
  · rfl
theorem low_skip {iv : Iv} {ms : List Mt} {m day : Int} {a : Rat} {x : Rg} (h : ¬ (x.m = m ∧ x.d ≤ day)) : lowF iv ms m day a x = a := by unfold lowF; rw [if_neg h]
theorem low_no {iv : Iv} {ms : List Mt} {m day : Int} {a : Rat} {x : Rg} {s : Int} (hs : (mtAt ms m).s = s) (h : iv s x.c x.d = none) : lowF iv ms m day a x = a := by
 unfold lowF; rw [hs, h]; simp
theorem low_yes {iv : Iv} {ms : List Mt} {m day : Int} {a lo hi : Rat} {x : Rg} {s : Int} (hm : x.m = m) (hd : x.d ≤ day) (hs : (mtAt ms m).s = s) (h : iv s x.c x.d = some (lo, hi)) {t : Bool} (ht : decide (a < lo) = t) : lowF iv ms m day a x = if t = true then lo else a := by
 unfold lowF; rw [if_pos ⟨hm, hd⟩, hs, h, ← ht]
 show maxQ a lo = _
 unfold maxQ; simp
theorem high_skip {iv : Iv} {ms : List Mt} {m day : Int} {o : Option Rat} {x : Rg} (h : ¬ (x.m = m ∧ day ≤ x.d)) : highF iv ms m day o x = o := by unfold highF; rw [if_neg h]
theorem high_no {iv : Iv} {ms : List Mt} {m day : Int} {o : Option Rat} {x : Rg} {s : Int} (hs : (mtAt ms m).s = s) (h : iv s x.c x.d = none) : highF iv ms m day o x = o := by
 unfold highF; rw [hs, h]; simp
theorem high_first {iv : Iv} {ms : List Mt} {m day : Int} {lo hi q : Rat} {x : Rg} {s : Int} (hm : x.m = m) (hd : day ≤ x.d) (hs : (mtAt ms m).s = s) (h : iv s x.c x.d = some (lo, hi)) : highF iv ms m day (opt false q) x = opt true hi := by
 unfold highF; rw [if_pos ⟨hm, hd⟩, hs, h]; rfl
theorem high_yes {iv : Iv} {ms : List Mt} {m day : Int} {a lo hi : Rat} {x : Rg} {s : Int} (hm : x.m = m) (hd : day ≤ x.d) (hs : (mtAt ms m).s = s) (h : iv s x.c x.d = some (lo, hi)) {t : Bool} (ht : decide (hi < a) = t) : highF iv ms m day (opt true a) x = opt true (if t = true then hi else a) := by
 unfold highF; rw [if_pos ⟨hm, hd⟩, hs, h, ← ht]
 show some (minQ a hi) = some _
 unfold minQ; simp
end Go.Proofs.Ytlcgckelamhnpaa
