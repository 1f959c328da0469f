/- Meters, plain: what a station's error is, what was counted by all meters, and how that changes. -/
import Derived.WalkKit
namespace Go.Proofs.Ytlcgckelamhnpaa

def minQ (q r : Rat) : Rat := if r < q then r else q
def maxQ (q r : Rat) : Rat := if q < r then r else q
theorem minQ_le2 (q r : Rat) : minQ q r ≤ r := by unfold minQ; split <;> grind
theorem le_maxQ1 (q r : Rat) : q ≤ maxQ q r := by unfold maxQ; split <;> grind
theorem le_maxQ2 (q r : Rat) : r ≤ maxQ q r := by unfold maxQ; split <;> grind
theorem le_minQ {z q r : Rat} : z ≤ minQ q r ↔ z ≤ q ∧ z ≤ r := by unfold minQ; split <;> grind
theorem maxQ_le {z q r : Rat} : maxQ q r ≤ z ↔ q ≤ z ∧ r ≤ z := by unfold maxQ; split <;> grind
end Go.Proofs.Ytlcgckelamhnpaa
namespace Go.Proofs.Ytlcgckelamhnpaa

structure Mt where
 s : Int
 f : Int
 u : Int
structure Rg where
 m : Int
 d : Int
 c : Int
/-- What a reading says of its meter. -/
structure Mk where
 d : Int
 lo : Rat
 hi : Rat
/-- The interval of a scale's reading on a day. -/
abbrev Iv := Int → Int → Int → Option (Rat × Rat)
def mtAt (ms : List Mt) (m : Int) : Mt := ms.getD m.toNat ⟨0, 0, 0⟩
def rIv (iv : Iv) (ms : List Mt) (x : Rg) : Option (Rat × Rat) := iv (mtAt ms x.m).s x.c x.d
def mkOf (iv : Iv) (ms : List Mt) (x : Rg) : Option Mk := (rIv iv ms x).map fun p => ⟨x.d, p.1, p.2⟩
def marksL (iv : Iv) (ms : List Mt) (rs : List Rg) (m : Int) : List Mk := (rs.filter fun x => x.m == m).filterMap (mkOf iv ms)
/-- No interval goes below zero at its end, nor above its own end. -/
def IvOk (iv : Iv) : Prop := ∀ s c d p, iv s c d = some p → 0 ≤ p.1 ∧ p.1 ≤ p.2
theorem mem_marks {iv : Iv} {ms : List Mt} {rs : List Rg} {m : Int} {x : Mk} : x ∈ marksL iv ms rs m ↔ ∃ r ∈ rs, r.m = m ∧ ∃ p, iv (mtAt ms m).s r.c r.d = some p ∧ x = ⟨r.d, p.1, p.2⟩ := by
  unfold marksL
  rw [List.mem_filterMap]
  constructor
  · rintro ⟨r, hr, h⟩
    obtain ⟨h1, h2⟩ := List.mem_filter.1 hr
    have h3 : r.m = m := by simpa using h2
    unfold mkOf rIv at h
    rw [h3] at h
    cases hp : iv (mtAt ms m).s r.c r.d with
    | none => rw [hp] at h; cases h
    | some p => rw [hp] at h; exact ⟨r, h1, h3, p, hp, (Option.some.inj h).symm⟩
  · rintro ⟨r, hr, h3, p, hp, rfl⟩
    refine ⟨r, List.mem_filter.2 ⟨hr, by simpa using h3⟩, ?_⟩
    unfold mkOf rIv
    rw [h3, hp]; rfl
def leastF (day : Int) (a : Rat) (m : Mk) : Rat := if m.d ≤ day then maxQ a m.lo else a
def leastQ (l : List Mk) (day : Int) : Rat := l.foldl (leastF day) 0
def mostF (day : Int) (a : Option Rat) (m : Mk) : Option Rat := if m.d < day then a else match a with | none => some m.hi | some h => some (minQ h m.hi)
def mostO (l : List Mk) (day : Int) : Option Rat := l.foldl (mostF day) none
theorem least_next {l : List Mk} {k : Nat} {x : Mk} {day : Int} (h : l[k]? = some x) : leastQ (l.take (k + 1)) day = leastF day (leastQ (l.take k) day) x := by
 obtain ⟨hk, hx⟩ := List.getElem?_eq_some_iff.1 h
 unfold leastQ; rw [List.take_succ_eq_append_getElem hk, List.foldl_append, hx]; rfl
theorem most_next {l : List Mk} {k : Nat} {x : Mk} {day : Int} (h : l[k]? = some x) : mostO (l.take (k + 1)) day = mostF day (mostO (l.take k) day) x := by
 obtain ⟨hk, hx⟩ := List.getElem?_eq_some_iff.1 h
 unfold mostO; rw [List.take_succ_eq_append_getElem hk, List.foldl_append, hx]; rfl
theorem leastF_le {day : Int} {v : Rat} : ∀ {l : List Mk} {a : Rat}, l.foldl (leastF day) a ≤ v ↔ a ≤ v ∧ ∀ m ∈ l, m.d ≤ day → m.lo ≤ v
  | [], a => by simp
  | x :: l, a => by
    rw [List.foldl_cons, leastF_le]
    unfold leastF
    by_cases h : x.d ≤ day
    · rw [if_pos h, maxQ_le]
      constructor
      · rintro ⟨⟨h1, h2⟩, h3⟩
        refine ⟨h1, fun m hm hd => ?_⟩
        rcases List.mem_cons.1 hm with rfl | hm
        · exact h2
        · exact h3 m hm hd
      · rintro ⟨h1, h2⟩
        exact ⟨⟨h1, h2 x (by simp) h⟩, fun m hm hd => h2 m (by simp [hm]) hd⟩
    · rw [if_neg h]
      constructor
      · rintro ⟨h1, h3⟩
        refine ⟨h1, fun m hm hd => ?_⟩
        rcases List.mem_cons.1 hm with rfl | hm
        · exact absurd hd h
        · exact h3 m hm hd
      · rintro ⟨h1, h2⟩
        exact ⟨h1, fun m hm hd => h2 m (by simp [hm]) hd⟩
theorem least_le {l : List Mk} {day : Int} {v : Rat} : leastQ l day ≤ v ↔ 0 ≤ v ∧ ∀ m ∈ l, m.d ≤ day → m.lo ≤ v := leastF_le
theorem least_nn (l : List Mk) (day : Int) : 0 ≤ leastQ l day := (least_le.1 (Rat.le_refl (a := leastQ l day))).1
theorem le_least {l : List Mk} {day : Int} {m : Mk} (hm : m ∈ l) (hd : m.d ≤ day) : m.lo ≤ leastQ l day := (least_le.1 (Rat.le_refl (a := leastQ l day))).2 m hm hd
theorem least_mono {l l' : List Mk} {a b : Int} (hs : ∀ m ∈ l, m ∈ l') (hab : a ≤ b) : leastQ l a ≤ leastQ l' b :=
 least_le.2 ⟨least_nn _ _, fun m hm hd => le_least (hs m hm) (by omega)⟩
/-- What is at most the least end. -/
def LeO (v : Rat) : Option Rat → Prop | none => True | some h => v ≤ h
theorem mostF_le {day : Int} {v : Rat} : ∀ {l : List Mk} {a : Option Rat}, LeO v (l.foldl (mostF day) a) ↔ LeO v a ∧ ∀ m ∈ l, day ≤ m.d → v ≤ m.hi
  | [], a => by simp
  | x :: l, a => by
    rw [List.foldl_cons, mostF_le]
    unfold mostF
    by_cases h : x.d < day
    · rw [if_pos h]
      constructor
      · rintro ⟨h1, h3⟩
        refine ⟨h1, fun m hm hd => ?_⟩
        rcases List.mem_cons.1 hm with rfl | hm
        · omega
        · exact h3 m hm hd
      · rintro ⟨h1, h2⟩
        exact ⟨h1, fun m hm hd => h2 m (by simp [hm]) hd⟩
    · rw [if_neg h]
      have e : LeO v (match a with | none => some x.hi | some h => some (minQ h x.hi)) ↔ LeO v a ∧ v ≤ x.hi := by
        cases a with
        | none => exact ⟨fun h => ⟨trivial, h⟩, fun h => h.2⟩
        | some y => exact le_minQ
      rw [e]
      constructor
      · rintro ⟨⟨h1, h2⟩, h3⟩
        refine ⟨h1, fun m hm hd => ?_⟩
        rcases List.mem_cons.1 hm with rfl | hm
        · exact h2
        · exact h3 m hm hd
      · rintro ⟨h1, h2⟩
        exact ⟨⟨h1, h2 x (by simp) (by omega)⟩, fun m hm hd => h2 m (by simp [hm]) hd⟩
theorem le_most {l : List Mk} {day : Int} {v : Rat} : LeO v (mostO l day) ↔ ∀ m ∈ l, day ≤ m.d → v ≤ m.hi := by
 unfold mostO; rw [mostF_le]; simp [LeO]
theorem most_le {l : List Mk} {day : Int} {m : Mk} {h : Rat} (e : mostO l day = some h) (hm : m ∈ l) (hd : day ≤ m.d) : h ≤ m.hi := by
 have := le_most (l := l) (day := day) (v := h)
 rw [e] at this
 exact this.1 (show h ≤ h from Rat.le_refl) m hm hd
theorem mostF_some {day : Int} : ∀ {l : List Mk} {a : Option Rat}, (l.foldl (mostF day) a).isSome = true ↔ a.isSome = true ∨ ∃ m ∈ l, day ≤ m.d
  | [], a => by simp
  | x :: l, a => by
    rw [List.foldl_cons, mostF_some]
    unfold mostF
    by_cases h : x.d < day
    · rw [if_pos h]
      constructor
      · rintro (h1 | ⟨m, hm, hd⟩)
        · exact .inl h1
        · exact .inr ⟨m, by simp [hm], hd⟩
      · rintro (h1 | ⟨m, hm, hd⟩)
        · exact .inl h1
        · rcases List.mem_cons.1 hm with rfl | hm
          · omega
          · exact .inr ⟨m, hm, hd⟩
    · rw [if_neg h]
      constructor
      · intro _; exact .inr ⟨x, by simp, by omega⟩
      · intro _; left; cases a <;> rfl
theorem most_some {l : List Mk} {day : Int} : (mostO l day).isSome = true ↔ ∃ m ∈ l, day ≤ m.d := by
 unfold mostO; rw [mostF_some]; simp
/-- A history of a meter is possible. -/
def Poss (l : List Mk) : Prop := ∀ x ∈ l, ∀ z ∈ l, x.d ≤ z.d → x.lo ≤ z.hi
def possB (l : List Mk) : Bool := l.all fun m => match mostO l m.d with | none => true | some h => !decide (h < leastQ l m.d)
theorem poss_ge {l : List Mk} (hp : Poss l) (h0 : ∀ m ∈ l, 0 ≤ m.lo ∧ m.lo ≤ m.hi) {day : Int} {h : Rat} (e : mostO l day = some h) : leastQ l day ≤ h := by
 have h2 : LeO (leastQ l day) (mostO l day) := le_most.2 fun m hm hd =>
  least_le.2 ⟨Rat.le_trans (h0 m hm).1 (h0 m hm).2, fun x hx hx' => hp x hx m hm (by omega)⟩
 rw [e] at h2; exact h2
theorem poss_iff {l : List Mk} (h0 : ∀ m ∈ l, 0 ≤ m.lo ∧ m.lo ≤ m.hi) : possB l = true ↔ Poss l := by
  unfold possB
  rw [List.all_eq_true]
  constructor
  · intro h x hx z hz hd
    have h1 := h x hx
    have h2 := most_some.2 ⟨x, hx, Int.le_refl x.d⟩
    cases e : mostO l x.d with
    | none => rw [e] at h2; cases h2
    | some g =>
      rw [e] at h1
      have h3 : ¬ g < leastQ l x.d := by simpa using h1
      exact Rat.le_trans (le_least hx (Int.le_refl _)) (Rat.le_trans (Rat.not_lt.1 h3) (most_le e hz hd))
  · intro h x hx
    cases e : mostO l x.d with
    | none => rfl
    | some g =>
      show (!decide (g < leastQ l x.d)) = true
      rw [decide_eq_false (Rat.not_lt.2 (poss_ge h h0 e))]; rfl
/-- What can have been counted. -/
def cntLo (l : List Mk) (a b : Int) : Rat := match mostO l a with | none => 0 | some h => maxQ (leastQ l b - h) 0
def cntHi (l : List Mk) (a b : Int) : Option Rat := (mostO l b).map (· - leastQ l a)
theorem cnt_ok {l : List Mk} (hp : Poss l) (h0 : ∀ m ∈ l, 0 ≤ m.lo ∧ m.lo ≤ m.hi) {a b : Int} (hab : a ≤ b) {h : Rat} (e : cntHi l a b = some h) : cntLo l a b ≤ h := by
 unfold cntHi at e
 cases e' : mostO l b with
 | none => rw [e'] at e; cases e
 | some h' =>
  rw [e'] at e
  have h2 : h' - leastQ l a = h := Option.some.inj e
  have h3 := poss_ge hp h0 e'
  have h4 := least_mono (l := l) (l' := l) (a := a) (b := b) (fun m hm => hm) hab
  unfold cntLo
  cases e2 : mostO l a with
  | none => show (0 : Rat) ≤ h; grind
  | some g =>
   have h5 := poss_ge hp h0 e2
   show maxQ _ _ ≤ h
   rw [maxQ_le]
   constructor <;> grind
end Go.Proofs.Ytlcgckelamhnpaa
namespace Go.Proofs.Ytlcgckelamhnpaa

theorem marks_ok {iv : Iv} (hv : IvOk iv) (ms : List Mt) (rs : List Rg) (m : Int) : ∀ x ∈ marksL iv ms rs m, 0 ≤ x.lo ∧ x.lo ≤ x.hi := by
 intro x hx
 obtain ⟨r, -, -, p, hp, rfl⟩ := mem_marks.1 hx
 exact hv _ _ _ _ hp
/-! ### Errors -/
/-- The first error. -/
def firstE (f : Nat → Int) : Nat → Int
 | 0 => 0
 | n + 1 => if firstE f n = 0 then f n else firstE f n
theorem firstE_zero {f : Nat → Int} : ∀ {n : Nat}, firstE f n = 0 ↔ ∀ j, j < n → f j = 0
  | 0 => by simp [firstE]
  | n + 1 => by
    unfold firstE
    by_cases h : firstE f n = 0
    · rw [if_pos h]
      have ih := firstE_zero.1 h
      constructor
      · intro h1 j hj
        by_cases e : j = n
        · rw [e]; exact h1
        · exact ih j (by omega)
      · intro h1; exact h1 n (by omega)
    · rw [if_neg h]
      constructor
      · intro h1; exact absurd h1 h
      · intro h1; exact absurd (firstE_zero.2 fun j hj => h1 j (by omega)) h
theorem firstE_at {f : Nat → Int} {n k : Nat} (hk : k < n) (h : ∀ j, j < k → f j = 0) (h1 : f k ≠ 0) : firstE f n = f k := by
  induction n with
  | zero => omega
  | succ n ih =>
    unfold firstE
    by_cases e : k = n
    · subst e; rw [if_pos (firstE_zero.2 h)]
    · have := ih (by omega); rw [this, if_neg h1]
def mErr (ms : List Mt) (i : Nat) : Int :=
 match ms[i]? with
 | none => 0
 | some m => if m.s < 0 then 1 else if (decide (m.f < 0) || decide (m.u ≤ m.f) || decide (100000 < m.u) || (decide (0 < i) && !decide ((ms.getD (i - 1) ⟨0, 0, 0⟩).u = m.f))) = true then 18 else 0
def afterB (x y : Rg) : Bool := decide (y.m < x.m) || (decide (x.m = y.m) && decide (y.d < x.d))
def rErr (ms : List Mt) (rs : List Rg) (i : Nat) : Int :=
 match rs[i]? with
 | none => 0
 | some x => if (decide (x.m < 0) || decide ((ms.length : Int) ≤ x.m) || decide (x.c < 0) || decide (1099511627776 < x.c)) = true then 1
  else if (decide (x.d < (mtAt ms x.m).f) || decide ((mtAt ms x.m).u < x.d)) = true then 18
  else if (decide (0 < i) && !afterB x (rs.getD (i - 1) ⟨0, 0, 0⟩)) = true then 5 else 0
def bigB (ms : List Mt) (rs : List Rg) (nc nr : Nat) : Bool := decide (20 < ms.length) || (decide (400 < rs.length) || (decide (100 < nc) || decide (30 < nr)))
def formedE (nb big : Bool) (ms : List Mt) (rs : List Rg) : Int :=
 if nb = false then 11 else if big = true then 6 else if firstE (mErr ms) ms.length = 0 then firstE (rErr ms rs) rs.length else firstE (mErr ms) ms.length
theorem formed_zero {nb big : Bool} {ms : List Mt} {rs : List Rg} : formedE nb big ms rs = 0 ↔ nb = true ∧ big = false ∧ (∀ j, j < ms.length → mErr ms j = 0) ∧ (∀ j, j < rs.length → rErr ms rs j = 0) := by
  unfold formedE
  cases nb with
  | false => simp
  | true =>
    cases big with
    | true => simp
    | false =>
      rw [if_neg (by simp), if_neg (by simp)]
      by_cases h : firstE (mErr ms) ms.length = 0
      · rw [if_pos h]
        constructor
        · intro h1; exact ⟨rfl, rfl, firstE_zero.1 h, firstE_zero.1 h1⟩
        · intro h1; exact firstE_zero.2 h1.2.2.2
      · rw [if_neg h]
        constructor
        · intro h1; exact absurd h1 h
        · intro h1; exact absurd (firstE_zero.2 h1.2.2.1) h
def possA (iv : Iv) (ms : List Mt) (rs : List Rg) : Bool := (List.range ms.length).all fun i => possB (marksL iv ms rs (i : Nat))
theorem possA_iff {iv : Iv} (hv : IvOk iv) {ms : List Mt} {rs : List Rg} : possA iv ms rs = true ↔ ∀ i : Nat, i < ms.length → Poss (marksL iv ms rs i) := by
  unfold possA
  rw [List.all_eq_true]
  constructor
  · intro h i hi; exact (poss_iff (marks_ok hv ms rs i)).1 (h i (List.mem_range.2 hi))
  · intro h i hi; exact (poss_iff (marks_ok hv ms rs i)).2 (h i (List.mem_range.1 hi))
theorem Poss.sub {l l' : List Mk} (h : Poss l) (hs : ∀ m ∈ l', m ∈ l) : Poss l' := fun x hx z hz => h x (hs x hx) z (hs z hz)
def checkE (iv : Iv) (nb big : Bool) (ms : List Mt) (rs : List Rg) : Int := if formedE nb big ms rs = 0 then (if possA iv ms rs = true then 0 else 16) else formedE nb big ms rs
theorem check_zero {iv : Iv} {nb big : Bool} {ms : List Mt} {rs : List Rg} : checkE iv nb big ms rs = 0 ↔ formedE nb big ms rs = 0 ∧ possA iv ms rs = true := by
  unfold checkE
  by_cases h : formedE nb big ms rs = 0
  · rw [if_pos h]
    by_cases h1 : possA iv ms rs = true
    · rw [if_pos h1]; simp [h, h1]
    · rw [if_neg h1]; simp [h1]
  · rw [if_neg h]; simp [h]
/-! ### Sums over the meters -/
def pieceL (l : List Mk) (a b : Int) : Option (Rat × Rat) := if b ≤ a then some (0, 0) else (cntHi l a b).map fun h => (cntLo l a b, h)
def btw (P : Nat → Option (Rat × Rat)) : Nat → Option (Rat × Rat)
 | 0 => some (0, 0)
 | k + 1 => match btw P k with
  | none => none
  | some x => match P k with
   | none => none
   | some y => some (x.1 + y.1, x.2 + y.2)
theorem btw_next {P : Nat → Option (Rat × Rat)} {k : Nat} {z : Rat × Rat} (h : btw P (k + 1) = some z) : ∃ x y, btw P k = some x ∧ P k = some y ∧ z = (x.1 + y.1, x.2 + y.2) := by
 unfold btw at h
 cases e : btw P k with
 | none => rw [e] at h; cases h
 | some x =>
  rw [e] at h
  cases e' : P k with
  | none => rw [e'] at h; cases h
  | some y => rw [e'] at h; exact ⟨x, y, rfl, rfl, (Option.some.inj h).symm⟩
theorem btw_mk {P : Nat → Option (Rat × Rat)} {k : Nat} {x y : Rat × Rat} (h : btw P k = some x) (h' : P k = some y) : btw P (k + 1) = some (x.1 + y.1, x.2 + y.2) := by
 unfold btw; rw [h]; show (match P k with | none => none | some y => some (x.1 + y.1, x.2 + y.2)) = _; rw [h']
theorem btw_none {P : Nat → Option (Rat × Rat)} {k n : Nat} (hk : k < n) (h : P k = none) : btw P n = none := by
  induction n with
  | zero => omega
  | succ n ih =>
    cases e : btw P (n + 1) with
    | none => rfl
    | some z =>
      obtain ⟨x, y, h1, h2, -⟩ := btw_next e
      by_cases hn : k = n
      · subst hn; rw [h] at h2; cases h2
      · rw [ih (by omega)] at h1; cases h1
theorem q_add_le {a b c d : Rat} (h : a ≤ b) (h' : c ≤ d) : a + c ≤ b + d := by grind
def pieceM (iv : Iv) (ms : List Mt) (rs : List Rg) (a b : Int) (i : Nat) : Option (Rat × Rat) := pieceL (marksL iv ms rs i) (max a (ms.getD i ⟨0, 0, 0⟩).f) (min b (ms.getD i ⟨0, 0, 0⟩).u)
/-- What Between returns: an error, and the span. -/
def betw (iv : Iv) (nb big : Bool) (ms : List Mt) (rs : List Rg) (a b : Int) : Int × Option (Rat × Rat) :=
 if checkE iv nb big ms rs = 0 then
  if b < a then (1, none)
  else if ms.length = 0 ∨ a < (ms.getD 0 ⟨0, 0, 0⟩).f ∨ (ms.getD (ms.length - 1) ⟨0, 0, 0⟩).u < b then (4, none)
  else match btw (pieceM iv ms rs a b) ms.length with
   | none => (17, none)
   | some x => (0, some x)
 else (checkE iv nb big ms rs, none)
/-- The days that a span can be asked for. -/
def DaysOk (ms : List Mt) (a b : Int) : Prop := a ≤ b ∧ ms.length ≠ 0 ∧ (ms.getD 0 ⟨0, 0, 0⟩).f ≤ a ∧ b ≤ (ms.getD (ms.length - 1) ⟨0, 0, 0⟩).u
theorem betw_ok {iv : Iv} {nb big : Bool} {ms : List Mt} {rs : List Rg} {a b : Int} (hc : checkE iv nb big ms rs = 0) (hd : DaysOk ms a b) :
  betw iv nb big ms rs a b = match btw (pieceM iv ms rs a b) ms.length with | none => (17, none) | some x => (0, some x) := by
 obtain ⟨h1, h2, h3, h4⟩ := hd
 unfold betw
 rw [if_pos hc, if_neg (by omega), if_neg (by omega)]
/-! ### One reading or one recall more -/
/-! ### Three days -/
theorem mErr_zero {ms : List Mt} {i : Nat} (hi : i < ms.length) (h : mErr ms i = 0) : 0 ≤ (ms.getD i ⟨0, 0, 0⟩).f ∧ (ms.getD i ⟨0, 0, 0⟩).f < (ms.getD i ⟨0, 0, 0⟩).u ∧ (ms.getD i ⟨0, 0, 0⟩).u ≤ 100000 ∧ (0 < i → (ms.getD (i - 1) ⟨0, 0, 0⟩).u = (ms.getD i ⟨0, 0, 0⟩).f) ∧ 0 ≤ (ms.getD i ⟨0, 0, 0⟩).s := by
  unfold mErr at h
  rw [List.getElem?_eq_getElem hi] at h
  rw [show ms.getD i ⟨0, 0, 0⟩ = ms[i] by rw [List.getD_eq_getElem?_getD, List.getElem?_eq_getElem hi]; rfl]
  simp only at h
  by_cases h1 : ms[i].s < 0
  · rw [if_pos h1] at h; cases h
  · rw [if_neg h1] at h
    split at h
    · cases h
    · rename_i h2
      simp only [Bool.or_eq_true, Bool.and_eq_true, decide_eq_true_eq, Bool.not_eq_true', decide_eq_false_iff_not, not_or, not_and, Classical.not_not] at h2
      refine ⟨by omega, by omega, by omega, fun hp => h2.2 hp, by omega⟩
end Go.Proofs.Ytlcgckelamhnpaa
