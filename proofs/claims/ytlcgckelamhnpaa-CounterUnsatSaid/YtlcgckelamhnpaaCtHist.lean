/- Histories of meters, plain: which are allowed, what is counted in one, and the two that count least and most. -/
import Derived.Test.YtlcgckelamhnpaaCtLaws
import Derived.WalkKit
namespace Go.Proofs.Ytlcgckelamhnpaa

/-! ### What is allowed -/
/-- The value of a day: valid, not negative, not less than that of the day before. -/
def valB (vs : List (Option Rat)) (i : Nat) : Bool := match vs[i]? with
 | some (some q) => decide (0 ≤ q) && (decide (i = 0) || match vs[i - 1]? with | some (some p) => decide (p ≤ q) | _ => true)
 | _ => false
def inB (m : Mt) (vs : List (Option Rat)) (x : Mk) : Bool := match vs[(x.d - m.f).toNat]? with
 | some (some q) => decide (x.lo ≤ q) && decide (q ≤ x.hi)
 | _ => false
def fitsB (m : Mt) (l : List Mk) (vs : List (Option Rat)) : Bool := decide ((vs.length : Int) = m.u - m.f + 1) && ((List.range vs.length).all (valB vs) && l.all (inB m vs))
def allowB (iv : Iv) (nb big : Bool) (ms : List Mt) (rs : List Rg) (H : List (List (Option Rat))) : Bool :=
 decide (formedE nb big ms rs = 0) && (decide (H.length = ms.length) && (List.range ms.length).all fun i => fitsB (ms.getD i ⟨0, 0, 0⟩) (marksL iv ms rs (i : Nat)) (H.getD i []))
/-- A meter's history. -/
structure HistOk (m : Mt) (l : List Mk) (qs : List Rat) : Prop where
 len : (qs.length : Int) = m.u - m.f + 1
 nn : ∀ (i : Nat) (q : Rat), qs[i]? = some q → 0 ≤ q
 step : ∀ (i : Nat) (p q : Rat), qs[i]? = some p → qs[i + 1]? = some q → p ≤ q
 has : ∀ x ∈ l, ∃ q, qs[(x.d - m.f).toNat]? = some q ∧ x.lo ≤ q ∧ q ≤ x.hi
theorem HistOk.mono {m : Mt} {l : List Mk} {qs : List Rat} (h : HistOk m l qs) : ∀ {j i : Nat} {p q : Rat}, i ≤ j → qs[i]? = some p → qs[j]? = some q → p ≤ q
  | 0, i, p, q, hij, h1, h2 => by
    obtain rfl : i = 0 := by omega
    rw [h1] at h2; cases h2; exact Rat.le_refl
  | j + 1, i, p, q, hij, h1, h2 => by
    by_cases e : i = j + 1
    · subst e; rw [h1] at h2; cases h2; exact Rat.le_refl
    · have hj : j < qs.length := by have := (List.getElem?_eq_some_iff.1 h2).1; omega
      exact Rat.le_trans (h.mono (j := j) (i := i) (by omega) h1 (List.getElem?_eq_getElem hj)) (h.step j _ _ (List.getElem?_eq_getElem hj) h2)
theorem all_some : ∀ {vs : List (Option Rat)}, (∀ i, i < vs.length → ∃ q, vs[i]? = some (some q)) → ∃ qs : List Rat, vs = qs.map some
 | [], _ => ⟨[], rfl⟩
 | v :: r, h => by
  obtain ⟨q, hq⟩ := h 0 (by simp)
  obtain ⟨qs, hqs⟩ := all_some (vs := r) fun i hi => h (i + 1) (by simpa using hi)
  simp at hq
  exact ⟨q :: qs, by rw [hq, hqs]; rfl⟩
theorem valB_some {vs : List (Option Rat)} {i : Nat} (h : valB vs i = true) : ∃ q, vs[i]? = some (some q) ∧ 0 ≤ q ∧ (0 < i → ∀ p, vs[i - 1]? = some (some p) → p ≤ q) := by
  unfold valB at h
  split at h
  · rename_i q hq
    simp only [Bool.and_eq_true, Bool.or_eq_true, decide_eq_true_eq] at h
    refine ⟨q, hq, h.1, fun hi p hp => ?_⟩
    rcases h.2 with h2 | h2
    · omega
    · rw [hp] at h2; simpa using h2
  · cases h
theorem getM {qs : List Rat} {i : Nat} {q : Rat} : (qs.map some)[i]? = some (some q) ↔ qs[i]? = some q := by
 rw [List.getElem?_map]
 cases qs[i]? <;> simp
theorem fits_iff {m : Mt} {l : List Mk} {vs : List (Option Rat)} : fitsB m l vs = true ↔ ∃ qs, vs = qs.map some ∧ HistOk m l qs := by
  unfold fitsB
  simp only [Bool.and_eq_true, decide_eq_true_eq, List.all_eq_true, List.mem_range]
  constructor
  · rintro ⟨h1, h2, h3⟩
    obtain ⟨qs, rfl⟩ := all_some fun i hi => by obtain ⟨q, hq, -⟩ := valB_some (h2 i hi); exact ⟨q, hq⟩
    rw [List.length_map] at h1 h2
    refine ⟨qs, rfl, h1, fun i q hq => ?_, fun i p q hp hq => ?_, fun x hx => ?_⟩
    · obtain ⟨q', hq', h4, -⟩ := valB_some (h2 i (List.getElem?_eq_some_iff.1 hq).1)
      rw [getM, hq] at hq'; cases hq'; exact h4
    · obtain ⟨q', hq', -, h4⟩ := valB_some (h2 (i + 1) (List.getElem?_eq_some_iff.1 hq).1)
      rw [getM, hq] at hq'; cases hq'
      exact h4 (by omega) p (getM.2 hp)
    · have h4 := h3 x hx
      unfold inB at h4
      split at h4
      · rename_i q hq
        rw [getM] at hq
        simp only [Bool.and_eq_true, decide_eq_true_eq] at h4
        exact ⟨q, hq, h4⟩
      · cases h4
  · rintro ⟨qs, rfl, h⟩
    rw [List.length_map]
    refine ⟨h.len, fun i hi => ?_, fun x hx => ?_⟩
    · have hq := List.getElem?_eq_getElem hi
      have e : (qs.map some)[i]? = some (some qs[i]) := getM.2 hq
      unfold valB
      rw [e]
      show (decide (0 ≤ qs[i]) && _) = true
      rw [decide_eq_true (h.nn i _ hq), Bool.true_and, Bool.or_eq_true]
      by_cases h0 : i = 0
      · exact .inl (decide_eq_true h0)
      · right
        split
        · rename_i p hp
          rw [getM] at hp
          have := h.step (i - 1) p qs[i] hp (by rw [show i - 1 + 1 = i by omega]; exact hq)
          exact decide_eq_true this
        · rfl
    · obtain ⟨q, hq, h1, h2⟩ := h.has x hx
      unfold inB
      rw [getM.2 hq]
      show (decide (x.lo ≤ q) && decide (q ≤ x.hi)) = true
      rw [decide_eq_true h1, decide_eq_true h2]; rfl
theorem allow_iff {iv : Iv} {nb big : Bool} {ms : List Mt} {rs : List Rg} {H : List (List (Option Rat))} : allowB iv nb big ms rs H = true ↔
  formedE nb big ms rs = 0 ∧ H.length = ms.length ∧ ∀ i : Nat, i < ms.length → ∃ qs, H.getD i [] = qs.map some ∧ HistOk (ms.getD i ⟨0, 0, 0⟩) (marksL iv ms rs (i : Nat)) qs := by
 unfold allowB
 simp only [Bool.and_eq_true, decide_eq_true_eq, List.all_eq_true, List.mem_range, fits_iff]
/-- If there is a history, the readings do not contradict each other. -/
theorem hist_poss {m : Mt} {l : List Mk} {qs : List Rat} (h : HistOk m l qs) : Poss l := by
 intro x hx z hz hd
 obtain ⟨p, hp, h1, -⟩ := h.has x hx
 obtain ⟨q, hq, -, h2⟩ := h.has z hz
 exact Rat.le_trans h1 (Rat.le_trans (h.mono (by omega) hp hq) h2)
theorem allow_poss {iv : Iv} (hv : IvOk iv) {nb big : Bool} {ms : List Mt} {rs : List Rg} {H : List (List (Option Rat))} (h : allowB iv nb big ms rs H = true) : checkE iv nb big ms rs = 0 := by
 obtain ⟨h1, h2, h3⟩ := allow_iff.1 h
 refine check_zero.2 ⟨h1, (possA_iff hv).2 fun i hi => ?_⟩
 obtain ⟨qs, -, h4⟩ := h3 i hi
 exact hist_poss h4
theorem allow_not {iv : Iv} (hv : IvOk iv) {nb big : Bool} {ms : List Mt} {rs : List Rg} (H : List (List (Option Rat))) (h : checkE iv nb big ms rs ≠ 0) : allowB iv nb big ms rs H = false := by
 cases e : allowB iv nb big ms rs H with
 | false => rfl
 | true => exact absurd (allow_poss hv e) h
/-! ### The days of the marks -/
theorem marks_in {iv : Iv} {nb big : Bool} {ms : List Mt} {rs : List Rg} (h : formedE nb big ms rs = 0) {i : Nat} : ∀ x ∈ marksL iv ms rs i, (ms.getD i ⟨0, 0, 0⟩).f ≤ x.d ∧ x.d ≤ (ms.getD i ⟨0, 0, 0⟩).u := by
  intro x hx
  obtain ⟨r, hr, hm, p, -, rfl⟩ := mem_marks.1 hx
  obtain ⟨k, hk⟩ := List.getElem?_of_mem hr
  have h1 := (formed_zero.1 h).2.2.2 k (List.getElem?_eq_some_iff.1 hk).1
  unfold rErr at h1
  rw [hk] at h1
  have h1' : (if (decide (r.m < 0) || decide ((ms.length : Int) ≤ r.m) || decide (r.c < 0) || decide (1099511627776 < r.c)) = true then 1
    else if (decide (r.d < (mtAt ms r.m).f) || decide ((mtAt ms r.m).u < r.d)) = true then 18 else _) = (0 : Int) := h1
  have e : mtAt ms r.m = ms.getD i ⟨0, 0, 0⟩ := by rw [hm]; rfl
  rw [e] at h1'
  split at h1'
  · cases h1'
  · split at h1'
    · cases h1'
    · rename_i h2
      simp only [Bool.or_eq_true, decide_eq_true_eq, not_or] at h2
      show (ms.getD i ⟨0, 0, 0⟩).f ≤ r.d ∧ r.d ≤ (ms.getD i ⟨0, 0, 0⟩).u
      omega
/-- The history that a function of the day makes. -/
def mkH (f u : Int) (F : Int → Rat) : List Rat := (List.range (u - f + 1).toNat).map fun i : Nat => F (f + i)
theorem mkH_at {f u : Int} {F : Int → Rat} {i : Nat} (hi : f + i ≤ u) : (mkH f u F)[i]? = some (F (f + i)) := by
 unfold mkH
 rw [List.getElem?_map, List.getElem?_range (by omega)]; rfl
theorem mkH_len {f u : Int} {F : Int → Rat} (h : f ≤ u) : ((mkH f u F).length : Int) = u - f + 1 := by
 unfold mkH
 rw [List.length_map, List.length_range]; omega
theorem mkH_some {f u : Int} {F : Int → Rat} {i : Nat} {q : Rat} (h : (mkH f u F)[i]? = some q) : f + i ≤ u ∧ q = F (f + i) := by
 have hi := (List.getElem?_eq_some_iff.1 h).1
 have hi' : f + i ≤ u := by unfold mkH at hi; rw [List.length_map, List.length_range] at hi; omega
 rw [mkH_at hi'] at h
 exact ⟨hi', (Option.some.inj h).symm⟩
theorem mkH_ok {m : Mt} {l : List Mk} {F : Int → Rat} (hfu : m.f ≤ m.u) (hin : ∀ x ∈ l, m.f ≤ x.d ∧ x.d ≤ m.u) (h0 : ∀ d, 0 ≤ F d) (h1 : ∀ d, m.f ≤ d → F d ≤ F (d + 1)) (h2 : ∀ x ∈ l, x.lo ≤ F x.d ∧ F x.d ≤ x.hi) : HistOk m l (mkH m.f m.u F) where
 len := mkH_len hfu
 nn i q hq := by obtain ⟨-, rfl⟩ := mkH_some hq; exact h0 _
 step i p q hp hq := by
  obtain ⟨-, rfl⟩ := mkH_some hp
  obtain ⟨-, rfl⟩ := mkH_some hq
  have := h1 (m.f + i) (by omega)
  rw [show m.f + ((i + 1 : Nat) : Int) = m.f + i + 1 by omega]; exact this
 has x hx := by
  obtain ⟨h3, h4⟩ := hin x hx
  refine ⟨F x.d, ?_, h2 x hx⟩
  rw [mkH_at (by omega), show m.f + ((x.d - m.f).toNat : Int) = x.d by omega]
/-! ### The two histories at the ends -/
def flatC (l : List Mk) (a b : Int) : Rat := match mostO l a with | none => leastQ l b | some h => minQ (leastQ l b) h
def flatF (l : List Mk) (a b d : Int) : Rat := if a ≤ d then maxQ (leastQ l d) (flatC l a b) else leastQ l d
theorem flatF_nn (l : List Mk) (a b d : Int) : 0 ≤ flatF l a b d := by
  unfold flatF
  split
  · exact Rat.le_trans (least_nn l d) (le_maxQ1 _ _)
  · exact least_nn l d
theorem least_up (l : List Mk) {d e : Int} (h : d ≤ e) : leastQ l d ≤ leastQ l e := least_mono (fun _ hm => hm) h
theorem maxQ_mono {a b a' b' : Rat} (h : a ≤ a') (k : b ≤ b') : maxQ a b ≤ maxQ a' b' := maxQ_le.2 ⟨Rat.le_trans h (le_maxQ1 _ _), Rat.le_trans k (le_maxQ2 _ _)⟩
theorem flatF_step (l : List Mk) (a b d : Int) : flatF l a b d ≤ flatF l a b (d + 1) := by
  have h := least_up l (show d ≤ d + 1 by omega)
  unfold flatF
  by_cases h1 : a ≤ d
  · rw [if_pos h1, if_pos (by omega)]; exact maxQ_mono h Rat.le_refl
  · rw [if_neg h1]
    split
    · exact Rat.le_trans h (le_maxQ1 _ _)
    · exact h
theorem flatC_le {l : List Mk} {a b d : Int} {x : Mk} (hx : x ∈ l) (hd : x.d = d) (h : a ≤ d) : flatC l a b ≤ x.hi := by
 obtain ⟨g, hg⟩ := Option.isSome_iff_exists.1 (most_some (l := l) (day := a) |>.2 ⟨x, hx, by omega⟩)
 unfold flatC; rw [hg]
 exact Rat.le_trans (minQ_le2 _ _) (most_le hg hx (by omega))
theorem least_hi {l : List Mk} (hp : Poss l) (h0 : ∀ m ∈ l, 0 ≤ m.lo ∧ m.lo ≤ m.hi) {x : Mk} (hx : x ∈ l) : leastQ l x.d ≤ x.hi :=
 least_le.2 ⟨Rat.le_trans (h0 x hx).1 (h0 x hx).2, fun m hm hd => hp m hm x hx hd⟩
theorem flat_ok {m : Mt} {l : List Mk} (hp : Poss l) (h0 : ∀ m ∈ l, 0 ≤ m.lo ∧ m.lo ≤ m.hi) (hfu : m.f ≤ m.u) (hin : ∀ x ∈ l, m.f ≤ x.d ∧ x.d ≤ m.u) (a b : Int) : HistOk m l (mkH m.f m.u (flatF l a b)) :=
  mkH_ok hfu hin (flatF_nn l a b) (fun d _ => flatF_step l a b d) fun x hx => by
    have h1 := le_least hx (Int.le_refl x.d)
    have h2 := least_hi hp h0 hx
    unfold flatF
    split
    · rename_i h3
      exact ⟨Rat.le_trans h1 (le_maxQ1 _ _), maxQ_le.2 ⟨h2, flatC_le hx rfl h3⟩⟩
    · exact ⟨h1, h2⟩
/-! ### What is counted -/
/-! ### The stage's theorem -/
theorem range_getD {α : Type} {F : Nat → α} {n i : Nat} {z : α} (hi : i < n) : ((List.range n).map F).getD i z = F i := by
 rw [List.getD_eq_getElem?_getD, List.getElem?_map, List.getElem?_range hi]; rfl
theorem map_getD {H : List (List Rat)} {i : Nat} (hi : i < H.length) : (H.map (List.map some)).getD i [] = (H.getD i []).map some := by
 simp only [List.getD_eq_getElem?_getD]
 rw [List.getElem?_map, List.getElem?_eq_getElem hi]; rfl
/-! ### When there is no history -/
def leastH (iv : Iv) (ms : List Mt) (rs : List Rg) : List (List Rat) := (List.range ms.length).map fun i : Nat =>
 mkH (ms.getD i ⟨0, 0, 0⟩).f (ms.getD i ⟨0, 0, 0⟩).u (flatF (marksL iv ms rs i) (ms.getD i ⟨0, 0, 0⟩).u (ms.getD i ⟨0, 0, 0⟩).u)
theorem least_allow {iv : Iv} (hv : IvOk iv) {nb big : Bool} {ms : List Mt} {rs : List Rg} (hc : checkE iv nb big ms rs = 0) : allowB iv nb big ms rs ((leastH iv ms rs).map (List.map some)) = true := by
 obtain ⟨h1, h2⟩ := check_zero.1 hc
 refine allow_iff.2 ⟨h1, by unfold leastH; simp, fun i hi => ⟨_, by rw [map_getD (by unfold leastH; simpa using hi)], ?_⟩⟩
 unfold leastH; rw [range_getD hi]
 have hmi := mErr_zero hi ((formed_zero.1 h1).2.2.1 i hi)
 exact flat_ok ((possA_iff hv).1 h2 i hi) (marks_ok hv ms rs i) (by omega) (marks_in h1) _ _
/-- A reading contradicts a later one. -/
def clashB (iv : Iv) (ms : List Mt) (rs : List Rg) (x : Rg) : Bool := match rIv iv ms x with
 | none => false
 | some p => match mostO (marksL iv ms rs x.m) x.d with
  | none => false
  | some h => decide (h < p.1)
theorem clash_iff {iv : Iv} (hv : IvOk iv) {nb big : Bool} {ms : List Mt} {rs : List Rg} (h : formedE nb big ms rs = 0) : rs.any (clashB iv ms rs) = true ↔ checkE iv nb big ms rs = 16 := by
  have hin : ∀ x ∈ rs, 0 ≤ x.m ∧ x.m < ms.length := by
    intro x hx
    obtain ⟨k, hk⟩ := List.getElem?_of_mem hx
    have h1 := (formed_zero.1 h).2.2.2 k (List.getElem?_eq_some_iff.1 hk).1
    unfold rErr at h1
    rw [hk] at h1
    have h1' : (if (decide (x.m < 0) || decide ((ms.length : Int) ≤ x.m) || decide (x.c < 0) || decide (1099511627776 < x.c)) = true then 1 else _) = (0 : Int) := h1
    split at h1'
    · cases h1'
    · rename_i h2
      simp only [Bool.or_eq_true, decide_eq_true_eq, not_or] at h2
      omega
  have e : checkE iv nb big ms rs = 16 ↔ ¬ possA iv ms rs = true := by
    unfold checkE
    rw [if_pos h]
    by_cases hp : possA iv ms rs = true
    · rw [if_pos hp]; simp [hp]
    · rw [if_neg hp]; simp [hp]
  rw [e, possA_iff hv, List.any_eq_true]
  constructor
  · rintro ⟨x, hx, hb⟩ hp
    obtain ⟨i, hi⟩ : ∃ i : Nat, x.m = (i : Int) := ⟨x.m.toNat, by have := hin x hx; omega⟩
    unfold clashB rIv at hb
    cases e1 : iv (mtAt ms x.m).s x.c x.d with
    | none => rw [e1] at hb; cases hb
    | some p =>
      rw [e1] at hb
      cases e2 : mostO (marksL iv ms rs x.m) x.d with
      | none => rw [e2] at hb; cases hb
      | some g =>
        rw [e2] at hb
        have hlt : g < p.1 := of_decide_eq_true hb
        have hm : (⟨x.d, p.1, p.2⟩ : Mk) ∈ marksL iv ms rs i := mem_marks.2 ⟨x, hx, hi, p, by rw [← hi]; exact e1, rfl⟩
        rw [hi] at e2
        have h5 := poss_ge (hp i (by have := hin x hx; omega)) (marks_ok hv ms rs i) e2
        have h6 := le_least hm (Int.le_refl x.d)
        exact absurd (Rat.le_trans h6 h5) (Rat.not_le.2 hlt)
  · intro hn
    obtain ⟨i, hi, hnp⟩ : ∃ i : Nat, i < ms.length ∧ ¬ Poss (marksL iv ms rs i) := Classical.byContradiction fun hc => hn fun i hi => Classical.byContradiction fun h5 => hc ⟨i, hi, h5⟩
    obtain ⟨x, z, hx, hz, hd, hlt⟩ : ∃ x z, x ∈ marksL iv ms rs i ∧ z ∈ marksL iv ms rs i ∧ x.d ≤ z.d ∧ ¬ x.lo ≤ z.hi := Classical.byContradiction fun hc => hnp fun x hx z hz hd => Classical.byContradiction fun h5 => hc ⟨x, z, hx, hz, hd, h5⟩
    obtain ⟨r, hr, hm, p, hp, rfl⟩ := mem_marks.1 hx
    refine ⟨r, hr, ?_⟩
    obtain ⟨g, hg⟩ := Option.isSome_iff_exists.1 (most_some (l := marksL iv ms rs i) (day := r.d) |>.2 ⟨z, hz, hd⟩)
    have h6 := most_le hg hz hd
    unfold clashB rIv
    rw [hm, hp]
    show (match mostO (marksL iv ms rs (i : Int)) r.d with | none => false | some h => decide (h < p.1)) = true
    rw [hg]
    exact decide_eq_true (Rat.not_le.1 fun h7 => hlt (Rat.le_trans h7 h6))
/-! ### One reading after the other -/
def lowF (iv : Iv) (ms : List Mt) (m day : Int) (a : Rat) (x : Rg) : Rat := if x.m = m ∧ x.d ≤ day then (match iv (mtAt ms m).s x.c x.d with | none => a | some p => maxQ a p.1) else a
def highF (iv : Iv) (ms : List Mt) (m day : Int) (o : Option Rat) (x : Rg) : Option Rat := if x.m = m ∧ day ≤ x.d then (match iv (mtAt ms m).s x.c x.d with | none => o | some p => some (match o with | none => p.2 | some h => minQ h p.2)) else o
theorem marks_cons (iv : Iv) (ms : List Mt) (x : Rg) (rs : List Rg) (m : Int) : marksL iv ms (x :: rs) m = if x.m = m then (match iv (mtAt ms m).s x.c x.d with | none => marksL iv ms rs m | some p => ⟨x.d, p.1, p.2⟩ :: marksL iv ms rs m) else marksL iv ms rs m := by
  unfold marksL
  by_cases h : x.m = m
  · rw [if_pos h, List.filter_cons, if_pos (by simpa using h), List.filterMap_cons]
    unfold mkOf rIv
    rw [h]
    cases iv (mtAt ms m).s x.c x.d <;> rfl
  · rw [if_neg h, List.filter_cons, if_neg (by simpa using h)]
theorem low_fold (iv : Iv) (ms : List Mt) (m day : Int) : ∀ (rs : List Rg) (a : Rat), rs.foldl (lowF iv ms m day) a = (marksL iv ms rs m).foldl (leastF day) a
  | [], a => rfl
  | x :: rs, a => by
    rw [List.foldl_cons, low_fold iv ms m day rs, marks_cons]
    unfold lowF
    by_cases h : x.m = m
    · rw [if_pos h]
      cases hp : iv (mtAt ms m).s x.c x.d with
      | none => simp
      | some p =>
        rw [List.foldl_cons]
        unfold leastF
        simp only [h, true_and]
    · rw [if_neg h, if_neg (fun h2 => h h2.1)]
theorem high_fold (iv : Iv) (ms : List Mt) (m day : Int) : ∀ (rs : List Rg) (o : Option Rat), rs.foldl (highF iv ms m day) o = (marksL iv ms rs m).foldl (mostF day) o
  | [], o => rfl
  | x :: rs, o => by
    rw [List.foldl_cons, high_fold iv ms m day rs, marks_cons]
    unfold highF
    by_cases h : x.m = m
    · rw [if_pos h]
      cases hp : iv (mtAt ms m).s x.c x.d with
      | none => simp
      | some p =>
        rw [List.foldl_cons]
        unfold mostF
        by_cases h2 : day ≤ x.d
        · rw [if_pos ⟨h, h2⟩, if_neg (show ¬ (x.d < day) by omega)]
          cases o <;> rfl
        · rw [if_neg (fun h3 => h2 h3.2), if_pos (show x.d < day by omega)]
    · rw [if_neg h, if_neg (fun h2 => h h2.1)]
theorem low_is (iv : Iv) (ms : List Mt) (rs : List Rg) (m day : Int) : rs.foldl (lowF iv ms m day) 0 = leastQ (marksL iv ms rs m) day := low_fold iv ms m day rs 0
theorem high_is (iv : Iv) (ms : List Mt) (rs : List Rg) (m day : Int) : rs.foldl (highF iv ms m day) none = mostO (marksL iv ms rs m) day := high_fold iv ms m day rs none
theorem foldl_next {α β : Type} {f : β → α → β} {b : β} {l : List α} {k : Nat} {x : α} (h : l[k]? = some x) : (l.take (k + 1)).foldl f b = f ((l.take k).foldl f b) x := by
 obtain ⟨hk, hx⟩ := List.getElem?_eq_some_iff.1 h
 rw [List.take_succ_eq_append_getElem hk, List.foldl_append, hx]; rfl
/-- An option that a flag tells of. -/
def opt (b : Bool) (q : Rat) : Option Rat := if b = true then some q else none
theorem opt_eq {b c : Bool} {q r : Rat} (h : opt b q = opt c r) (hb : b = false → q = 0) (hc : c = false → r = 0) : b = c ∧ q = r := by
  cases b <;> cases c
  · exact ⟨rfl, (hb rfl).trans (hc rfl).symm⟩
  · cases h
  · cases h
  · cases h; exact ⟨rfl, rfl⟩
theorem opt_of (o : Option Rat) : ∃ b q, o = opt b q ∧ (b = false → q = 0) := by
 cases o with
 | none => exact ⟨false, 0, rfl, fun _ => rfl⟩
 | some q => exact ⟨true, q, rfl, fun h => by cases h⟩
theorem opt_getD {b : Bool} {q : Rat} (h : b = false → q = 0) : (opt b q).getD 0 = q := by
  cases b
  · exact (h rfl).symm
  · rfl
theorem low_skip {iv : Iv} {ms : List Mt} {m day : Int} {a : Rat} {x : Rg} (h : ¬ (x.m = m ∧ x.d ≤ day)) : lowF iv ms m day a x = a := by unfold lowF; rw [if_neg h]
theorem low_no {iv : Iv} {ms : List Mt} {m day : Int} {a : Rat} {x : Rg} {s : Int} (hs : (mtAt ms m).s = s) (h : iv s x.c x.d = none) : lowF iv ms m day a x = a := by
 unfold lowF; rw [hs, h]; simp
theorem low_yes {iv : Iv} {ms : List Mt} {m day : Int} {a lo hi : Rat} {x : Rg} {s : Int} (hm : x.m = m) (hd : x.d ≤ day) (hs : (mtAt ms m).s = s) (h : iv s x.c x.d = some (lo, hi)) {t : Bool} (ht : decide (a < lo) = t) : lowF iv ms m day a x = if t = true then lo else a := by
 unfold lowF; rw [if_pos ⟨hm, hd⟩, hs, h, ← ht]
 show maxQ a lo = _
 unfold maxQ; simp
theorem high_skip {iv : Iv} {ms : List Mt} {m day : Int} {o : Option Rat} {x : Rg} (h : ¬ (x.m = m ∧ day ≤ x.d)) : highF iv ms m day o x = o := by unfold highF; rw [if_neg h]
theorem high_no {iv : Iv} {ms : List Mt} {m day : Int} {o : Option Rat} {x : Rg} {s : Int} (hs : (mtAt ms m).s = s) (h : iv s x.c x.d = none) : highF iv ms m day o x = o := by
 unfold highF; rw [hs, h]; simp
theorem high_first {iv : Iv} {ms : List Mt} {m day : Int} {lo hi q : Rat} {x : Rg} {s : Int} (hm : x.m = m) (hd : day ≤ x.d) (hs : (mtAt ms m).s = s) (h : iv s x.c x.d = some (lo, hi)) : highF iv ms m day (opt false q) x = opt true hi := by
 unfold highF; rw [if_pos ⟨hm, hd⟩, hs, h]; rfl
theorem high_yes {iv : Iv} {ms : List Mt} {m day : Int} {a lo hi : Rat} {x : Rg} {s : Int} (hm : x.m = m) (hd : day ≤ x.d) (hs : (mtAt ms m).s = s) (h : iv s x.c x.d = some (lo, hi)) {t : Bool} (ht : decide (hi < a) = t) : highF iv ms m day (opt true a) x = opt true (if t = true then hi else a) := by
 unfold highF; rw [if_pos ⟨hm, hd⟩, hs, h, ← ht]
 show some (minQ a hi) = some _
 unfold minQ; simp
end Go.Proofs.Ytlcgckelamhnpaa
