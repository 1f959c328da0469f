/- The lexer's plain answer, and plain facts about it: no Go in sight. -/
import Derived.WalkKit
namespace Go.Proofs.YtlcgckelamhnpaaGreat
def minQ (q r : Rat) : Rat := if r < q then r else q
def maxQ (q r : Rat) : Rat := if q < r then r else q
theorem le_minQ {z q r : Rat} : z ≤ minQ q r ↔ z ≤ q ∧ z ≤ r := by unfold minQ; split <;> grind
theorem maxQ_le {z q r : Rat} : maxQ q r ≤ z ↔ q ≤ z ∧ r ≤ z := by unfold maxQ; split <;> grind
theorem eq_of_le_iff {a b : Rat} (h : ∀ z, a ≤ z ↔ b ≤ z) : a = b := Rat.le_antisymm ((h b).2 Rat.le_refl) ((h a).1 Rat.le_refl)
structure Mt where
 s : Int
 f : Int
 u : Int
structure Rg where
 m : Int
 d : Int
 c : Int
structure Mk where
 d : Int
 lo : Rat
 hi : Rat
abbrev Iv := Int → Int → Int → Option (Rat × Rat)
def mtAt (ms : List Mt) (m : Int) : Mt := ms.getD m.toNat ⟨0, 0, 0⟩
def rIv (iv : Iv) (ms : List Mt) (x : Rg) : Option (Rat × Rat) := iv (mtAt ms x.m).s x.c x.d
def mkOf (iv : Iv) (ms : List Mt) (x : Rg) : Option Mk := (rIv iv ms x).map fun p => ⟨x.d, p.1, p.2⟩
def marksL (iv : Iv) (ms : List Mt) (rs : List Rg) (m : Int) : List Mk := (rs.filter fun x => x.m == m).filterMap (mkOf iv ms)
def IvOk (iv : Iv) : Prop := ∀ s c d p, iv s c d = some p → 0 ≤ p.1 ∧ p.1 ≤ p.2
theorem mem_marks {iv : Iv} {ms : List Mt} {rs : List Rg} {m : Int} {x : Mk} : x ∈ marksL iv ms rs m ↔ ∃ r ∈ rs, r.m = m ∧ ∃ p, iv (mtAt ms m).s r.c r.d = some p ∧ x = ⟨r.d, p.1, p.2⟩ := by
 unfold marksL; rw [List.mem_filterMap]
 constructor
 · rintro ⟨r, hr, h⟩
   obtain ⟨h1, h2⟩ := List.mem_filter.1 hr; have h3 : r.m = m := by simpa using h2
   unfold mkOf rIv at h; rw [h3] at h
   cases hp : iv (mtAt ms m).s r.c r.d with
   | none => rw [hp] at h; cases h
   | some p => rw [hp] at h; exact ⟨r, h1, h3, p, hp, (Option.some.inj h).symm⟩
 · rintro ⟨r, hr, h3, p, hp, rfl⟩
   refine ⟨r, List.mem_filter.2 ⟨hr, by simpa using h3⟩, ?_⟩; unfold mkOf rIv; rw [h3, hp]; rfl
def leastF (day : Int) (a : Rat) (m : Mk) : Rat := if m.d ≤ day then maxQ a m.lo else a
def leastQ (l : List Mk) (day : Int) : Rat := l.foldl (leastF day) 0
def mostF (day : Int) (a : Option Rat) (m : Mk) : Option Rat := if m.d < day then a else match a with | none => some m.hi | some h => some (minQ h m.hi)
def mostO (l : List Mk) (day : Int) : Option Rat := l.foldl (mostF day) none
theorem least_next {l : List Mk} {k : Nat} {x : Mk} {day : Int} (h : l[k]? = some x) : leastQ (l.take (k + 1)) day = leastF day (leastQ (l.take k) day) x := by
 obtain ⟨hk, hx⟩ := List.getElem?_eq_some_iff.1 h; unfold leastQ; rw [List.take_succ_eq_append_getElem hk, List.foldl_append, hx]; rfl
theorem most_next {l : List Mk} {k : Nat} {x : Mk} {day : Int} (h : l[k]? = some x) : mostO (l.take (k + 1)) day = mostF day (mostO (l.take k) day) x := by
 obtain ⟨hk, hx⟩ := List.getElem?_eq_some_iff.1 h; unfold mostO; rw [List.take_succ_eq_append_getElem hk, List.foldl_append, hx]; rfl
theorem leastF_le {day : Int} {v : Rat} : ∀ {l : List Mk} {a : Rat}, l.foldl (leastF day) a ≤ v ↔ a ≤ v ∧ ∀ m ∈ l, m.d ≤ day → m.lo ≤ v
 | [], a => by simp
 | x :: l, a => by
  rw [List.foldl_cons, leastF_le]; unfold leastF
  by_cases h : x.d ≤ day
  · rw [if_pos h, maxQ_le]
    constructor
    · rintro ⟨⟨h1, h2⟩, h3⟩
      refine ⟨h1, fun m hm hd => ?_⟩; rcases List.mem_cons.1 hm with rfl | hm
      · exact h2
      · exact h3 m hm hd
    · rintro ⟨h1, h2⟩
      exact ⟨⟨h1, h2 x (by simp) h⟩, fun m hm hd => h2 m (by simp [hm]) hd⟩
  · rw [if_neg h]
    constructor
    · rintro ⟨h1, h3⟩
      refine ⟨h1, fun m hm hd => ?_⟩; rcases List.mem_cons.1 hm with rfl | hm
      · exact absurd hd h
      · exact h3 m hm hd
    · rintro ⟨h1, h2⟩
      exact ⟨h1, fun m hm hd => h2 m (by simp [hm]) hd⟩
theorem least_le {l : List Mk} {day : Int} {v : Rat} : leastQ l day ≤ v ↔ 0 ≤ v ∧ ∀ m ∈ l, m.d ≤ day → m.lo ≤ v := leastF_le
theorem least_nn (l : List Mk) (day : Int) : 0 ≤ leastQ l day := (least_le.1 (Rat.le_refl (a := leastQ l day))).1
theorem le_least {l : List Mk} {day : Int} {m : Mk} (hm : m ∈ l) (hd : m.d ≤ day) : m.lo ≤ leastQ l day := (least_le.1 (Rat.le_refl (a := leastQ l day))).2 m hm hd
theorem least_mono {l l' : List Mk} {a b : Int} (hs : ∀ m ∈ l, m ∈ l') (hab : a ≤ b) : leastQ l a ≤ leastQ l' b :=
 least_le.2 ⟨least_nn _ _, fun m hm hd => le_least (hs m hm) (by omega)⟩
def LeO (v : Rat) : Option Rat → Prop | none => True | some h => v ≤ h
theorem mostF_le {day : Int} {v : Rat} : ∀ {l : List Mk} {a : Option Rat}, LeO v (l.foldl (mostF day) a) ↔ LeO v a ∧ ∀ m ∈ l, day ≤ m.d → v ≤ m.hi
 | [], a => by simp
 | x :: l, a => by
  rw [List.foldl_cons, mostF_le]; unfold mostF
  by_cases h : x.d < day
  · rw [if_pos h]
    constructor
    · rintro ⟨h1, h3⟩
      refine ⟨h1, fun m hm hd => ?_⟩; rcases List.mem_cons.1 hm with rfl | hm
      · omega
      · exact h3 m hm hd
    · rintro ⟨h1, h2⟩
      exact ⟨h1, fun m hm hd => h2 m (by simp [hm]) hd⟩
  · rw [if_neg h]
    have e : LeO v (match a with | none => some x.hi | some h => some (minQ h x.hi)) ↔ LeO v a ∧ v ≤ x.hi := by
     cases a with
     | none => exact ⟨fun h => ⟨trivial, h⟩, fun h => h.2⟩
     | some y => exact le_minQ
    rw [e]
    constructor
    · rintro ⟨⟨h1, h2⟩, h3⟩
      refine ⟨h1, fun m hm hd => ?_⟩; rcases List.mem_cons.1 hm with rfl | hm
      · exact h2
      · exact h3 m hm hd
    · rintro ⟨h1, h2⟩
      exact ⟨⟨h1, h2 x (by simp) (by omega)⟩, fun m hm hd => h2 m (by simp [hm]) hd⟩
theorem le_most {l : List Mk} {day : Int} {v : Rat} : LeO v (mostO l day) ↔ ∀ m ∈ l, day ≤ m.d → v ≤ m.hi := by
 unfold mostO; rw [mostF_le]; simp [LeO]
theorem most_le {l : List Mk} {day : Int} {m : Mk} {h : Rat} (e : mostO l day = some h) (hm : m ∈ l) (hd : day ≤ m.d) : h ≤ m.hi := by
 have := le_most (l := l) (day := day) (v := h); rw [e] at this; exact this.1 (show h ≤ h from Rat.le_refl) m hm hd
theorem mostF_some {day : Int} : ∀ {l : List Mk} {a : Option Rat}, (l.foldl (mostF day) a).isSome = true ↔ a.isSome = true ∨ ∃ m ∈ l, day ≤ m.d
 | [], a => by simp
 | x :: l, a => by
  rw [List.foldl_cons, mostF_some]; unfold mostF
  by_cases h : x.d < day
  · rw [if_pos h]
    constructor
    · rintro (h1 | ⟨m, hm, hd⟩)
      · exact .inl h1
      · exact .inr ⟨m, by simp [hm], hd⟩
    · rintro (h1 | ⟨m, hm, hd⟩)
      · exact .inl h1
      · rcases List.mem_cons.1 hm with rfl | hm
        · omega
        · exact .inr ⟨m, hm, hd⟩
  · rw [if_neg h]
    constructor
    · intro _; exact .inr ⟨x, by simp, by omega⟩
    · intro _; left; cases a <;> rfl
theorem most_some {l : List Mk} {day : Int} : (mostO l day).isSome = true ↔ ∃ m ∈ l, day ≤ m.d := by
 unfold mostO; rw [mostF_some]; simp
theorem most_none {l : List Mk} {day : Int} : mostO l day = none ↔ ∀ m ∈ l, m.d < day := by
 constructor
 · intro h m hm
   rcases Int.lt_or_le m.d day with h1 | h1
   · exact h1
   · have := most_some.2 ⟨m, hm, h1⟩; rw [h] at this; cases this
 · intro h
   cases e : mostO l day with
   | none => rfl
   | some y =>
    obtain ⟨m, hm, hd⟩ := most_some.1 (show (mostO l day).isSome = true by rw [e]; rfl); have := h m hm; omega
def Poss (l : List Mk) : Prop := ∀ x ∈ l, ∀ z ∈ l, x.d ≤ z.d → x.lo ≤ z.hi
def possB (l : List Mk) : Bool := l.all fun m => match mostO l m.d with | none => true | some h => !decide (h < leastQ l m.d)
theorem poss_ge {l : List Mk} (hp : Poss l) (h0 : ∀ m ∈ l, 0 ≤ m.lo ∧ m.lo ≤ m.hi) {day : Int} {h : Rat} (e : mostO l day = some h) : leastQ l day ≤ h := by
 have h2 : LeO (leastQ l day) (mostO l day) := le_most.2 fun m hm hd =>
  least_le.2 ⟨Rat.le_trans (h0 m hm).1 (h0 m hm).2, fun x hx hx' => hp x hx m hm (by omega)⟩
 rw [e] at h2; exact h2
theorem poss_iff {l : List Mk} (h0 : ∀ m ∈ l, 0 ≤ m.lo ∧ m.lo ≤ m.hi) : possB l = true ↔ Poss l := by
 unfold possB; rw [List.all_eq_true]
 constructor
 · intro h x hx z hz hd
   have h1 := h x hx; have h2 := most_some.2 ⟨x, hx, Int.le_refl x.d⟩
   cases e : mostO l x.d with
   | none => rw [e] at h2; cases h2
   | some g =>
    rw [e] at h1; have h3 : ¬ g < leastQ l x.d := by simpa using h1
    exact Rat.le_trans (le_least hx (Int.le_refl _)) (Rat.le_trans (Rat.not_lt.1 h3) (most_le e hz hd))
 · intro h x hx
   cases e : mostO l x.d with
   | none => rfl
   | some g =>
    show (!decide (g < leastQ l x.d)) = true
    rw [decide_eq_false (Rat.not_lt.2 (poss_ge h h0 e))]; rfl
def cntLo (l : List Mk) (a b : Int) : Rat := match mostO l a with | none => 0 | some h => maxQ (leastQ l b - h) 0
def cntHi (l : List Mk) (a b : Int) : Option Rat := (mostO l b).map (· - leastQ l a)
theorem cnt_ok {l : List Mk} (hp : Poss l) (h0 : ∀ m ∈ l, 0 ≤ m.lo ∧ m.lo ≤ m.hi) {a b : Int} (hab : a ≤ b) {h : Rat} (e : cntHi l a b = some h) : cntLo l a b ≤ h := by
 unfold cntHi at e
 cases e' : mostO l b with
 | none => rw [e'] at e; cases e
 | some h' =>
  rw [e'] at e; have h2 : h' - leastQ l a = h := Option.some.inj e; have h3 := poss_ge hp h0 e'; have h4 := least_mono (l := l) (l' := l) (a := a) (b := b) (fun m hm => hm) hab; unfold cntLo
  cases e2 : mostO l a with
  | none => show (0 : Rat) ≤ h; grind
  | some g =>
   have h5 := poss_ge hp h0 e2
   show maxQ _ _ ≤ h
   rw [maxQ_le]
   constructor <;> grind
theorem marks_ok {iv : Iv} (hv : IvOk iv) (ms : List Mt) (rs : List Rg) (m : Int) : ∀ x ∈ marksL iv ms rs m, 0 ≤ x.lo ∧ x.lo ≤ x.hi := by
 intro x hx
 obtain ⟨r, -, -, p, hp, rfl⟩ := mem_marks.1 hx; exact hv _ _ _ _ hp
def firstE (f : Nat → Int) : Nat → Int
 | 0 => 0
 | n + 1 => if firstE f n = 0 then f n else firstE f n
theorem firstE_zero {f : Nat → Int} : ∀ {n : Nat}, firstE f n = 0 ↔ ∀ j, j < n → f j = 0
 | 0 => by simp [firstE]
 | n + 1 => by
  unfold firstE
  by_cases h : firstE f n = 0
  · rw [if_pos h]
    have ih := firstE_zero.1 h
    constructor
    · intro h1 j hj
      by_cases e : j = n
      · rw [e]; exact h1
      · exact ih j (by omega)
    · intro h1; exact h1 n (by omega)
  · rw [if_neg h]
    constructor
    · intro h1; exact absurd h1 h
    · intro h1; exact absurd (firstE_zero.2 fun j hj => h1 j (by omega)) h
theorem firstE_at {f : Nat → Int} {n k : Nat} (hk : k < n) (h : ∀ j, j < k → f j = 0) (h1 : f k ≠ 0) : firstE f n = f k := by
 induction n with
 | zero => omega
 | succ n ih =>
  unfold firstE
  by_cases e : k = n
  · subst e; rw [if_pos (firstE_zero.2 h)]
  · have := ih (by omega); rw [this, if_neg h1]
def mErr (ms : List Mt) (i : Nat) : Int :=
 match ms[i]? with
 | none => 0
 | some m => if m.s < 0 then 1 else if (decide (m.f < 0) || decide (m.u ≤ m.f) || decide (100000 < m.u) || (decide (0 < i) && !decide ((ms.getD (i - 1) ⟨0, 0, 0⟩).u = m.f))) = true then 18 else 0
def afterB (x y : Rg) : Bool := decide (y.m < x.m) || (decide (x.m = y.m) && decide (y.d < x.d))
def rErr (ms : List Mt) (rs : List Rg) (i : Nat) : Int :=
 match rs[i]? with
 | none => 0
 | some x => if (decide (x.m < 0) || decide ((ms.length : Int) ≤ x.m) || decide (x.c < 0) || decide (1099511627776 < x.c)) = true then 1
  else if (decide (x.d < (mtAt ms x.m).f) || decide ((mtAt ms x.m).u < x.d)) = true then 18
  else if (decide (0 < i) && !afterB x (rs.getD (i - 1) ⟨0, 0, 0⟩)) = true then 5 else 0
def bigB (ms : List Mt) (rs : List Rg) (nc nr : Nat) : Bool := decide (20 < ms.length) || (decide (400 < rs.length) || (decide (100 < nc) || decide (30 < nr)))
def formedE (nb big : Bool) (ms : List Mt) (rs : List Rg) : Int :=
 if nb = false then 11 else if big = true then 6 else if firstE (mErr ms) ms.length = 0 then firstE (rErr ms rs) rs.length else firstE (mErr ms) ms.length
theorem formed_zero {nb big : Bool} {ms : List Mt} {rs : List Rg} : formedE nb big ms rs = 0 ↔ nb = true ∧ big = false ∧ (∀ j, j < ms.length → mErr ms j = 0) ∧ (∀ j, j < rs.length → rErr ms rs j = 0) := by
 unfold formedE
 cases nb with
 | false => simp
 | true =>
  cases big with
  | true => simp
  | false =>
   rw [if_neg (by simp), if_neg (by simp)]
   by_cases h : firstE (mErr ms) ms.length = 0
   · rw [if_pos h]
     constructor
     · intro h1; exact ⟨rfl, rfl, firstE_zero.1 h, firstE_zero.1 h1⟩
     · intro h1; exact firstE_zero.2 h1.2.2.2
   · rw [if_neg h]
     constructor
     · intro h1; exact absurd h1 h
     · intro h1; exact absurd (firstE_zero.2 h1.2.2.1) h
def possA (iv : Iv) (ms : List Mt) (rs : List Rg) : Bool := (List.range ms.length).all fun i => possB (marksL iv ms rs (i : Nat))
theorem possA_iff {iv : Iv} (hv : IvOk iv) {ms : List Mt} {rs : List Rg} : possA iv ms rs = true ↔ ∀ i : Nat, i < ms.length → Poss (marksL iv ms rs i) := by
 unfold possA; rw [List.all_eq_true]
 constructor
 · intro h i hi; exact (poss_iff (marks_ok hv ms rs i)).1 (h i (List.mem_range.2 hi))
 · intro h i hi; exact (poss_iff (marks_ok hv ms rs i)).2 (h i (List.mem_range.1 hi))
theorem Poss.sub {l l' : List Mk} (h : Poss l) (hs : ∀ m ∈ l', m ∈ l) : Poss l' := fun x hx z hz => h x (hs x hx) z (hs z hz)
def checkE (iv : Iv) (nb big : Bool) (ms : List Mt) (rs : List Rg) : Int := if formedE nb big ms rs = 0 then (if possA iv ms rs = true then 0 else 16) else formedE nb big ms rs
theorem check_zero {iv : Iv} {nb big : Bool} {ms : List Mt} {rs : List Rg} : checkE iv nb big ms rs = 0 ↔ formedE nb big ms rs = 0 ∧ possA iv ms rs = true := by
 unfold checkE
 by_cases h : formedE nb big ms rs = 0
 · rw [if_pos h]
   by_cases h1 : possA iv ms rs = true
   · rw [if_pos h1]; simp [h, h1]
   · rw [if_neg h1]; simp [h1]
 · rw [if_neg h]; simp [h]
def pieceL (l : List Mk) (a b : Int) : Option (Rat × Rat) := if b ≤ a then some (0, 0) else (cntHi l a b).map fun h => (cntLo l a b, h)
def btw (P : Nat → Option (Rat × Rat)) : Nat → Option (Rat × Rat)
 | 0 => some (0, 0)
 | k + 1 => match btw P k with
  | none => none
  | some x => match P k with
   | none => none
   | some y => some (x.1 + y.1, x.2 + y.2)
theorem btw_next {P : Nat → Option (Rat × Rat)} {k : Nat} {z : Rat × Rat} (h : btw P (k + 1) = some z) : ∃ x y, btw P k = some x ∧ P k = some y ∧ z = (x.1 + y.1, x.2 + y.2) := by
 unfold btw at h
 cases e : btw P k with
 | none => rw [e] at h; cases h
 | some x =>
  rw [e] at h
  cases e' : P k with
  | none => rw [e'] at h; cases h
  | some y => rw [e'] at h; exact ⟨x, y, rfl, rfl, (Option.some.inj h).symm⟩
theorem btw_mk {P : Nat → Option (Rat × Rat)} {k : Nat} {x y : Rat × Rat} (h : btw P k = some x) (h' : P k = some y) : btw P (k + 1) = some (x.1 + y.1, x.2 + y.2) := by
 unfold btw; rw [h]; show (match P k with | none => none | some y => some (x.1 + y.1, x.2 + y.2)) = _; rw [h']
theorem btw_none {P : Nat → Option (Rat × Rat)} {k n : Nat} (hk : k < n) (h : P k = none) : btw P n = none := by
 induction n with
 | zero => omega
 | succ n ih =>
  cases e : btw P (n + 1) with
  | none => rfl
  | some z =>
   obtain ⟨x, y, h1, h2, -⟩ := btw_next e
   by_cases hn : k = n
   · subst hn; rw [h] at h2; cases h2
   · rw [ih (by omega)] at h1; cases h1
theorem q_add_le {a b c d : Rat} (h : a ≤ b) (h' : c ≤ d) : a + c ≤ b + d := by grind
def pieceM (iv : Iv) (ms : List Mt) (rs : List Rg) (a b : Int) (i : Nat) : Option (Rat × Rat) := pieceL (marksL iv ms rs i) (max a (ms.getD i ⟨0, 0, 0⟩).f) (min b (ms.getD i ⟨0, 0, 0⟩).u)
def betw (iv : Iv) (nb big : Bool) (ms : List Mt) (rs : List Rg) (a b : Int) : Int × Option (Rat × Rat) :=
 if checkE iv nb big ms rs = 0 then
  if b < a then (1, none)
  else if ms.length = 0 ∨ a < (ms.getD 0 ⟨0, 0, 0⟩).f ∨ (ms.getD (ms.length - 1) ⟨0, 0, 0⟩).u < b then (4, none)
  else match btw (pieceM iv ms rs a b) ms.length with
   | none => (17, none)
   | some x => (0, some x)
 else (checkE iv nb big ms rs, none)
def DaysOk (ms : List Mt) (a b : Int) : Prop := a ≤ b ∧ ms.length ≠ 0 ∧ (ms.getD 0 ⟨0, 0, 0⟩).f ≤ a ∧ b ≤ (ms.getD (ms.length - 1) ⟨0, 0, 0⟩).u
theorem betw_ok {iv : Iv} {nb big : Bool} {ms : List Mt} {rs : List Rg} {a b : Int} (hc : checkE iv nb big ms rs = 0) (hd : DaysOk ms a b) :
 betw iv nb big ms rs a b = match btw (pieceM iv ms rs a b) ms.length with | none => (17, none) | some x => (0, some x) := by
 obtain ⟨h1, h2, h3, h4⟩ := hd; unfold betw; rw [if_pos hc, if_neg (by omega), if_neg (by omega)]
theorem mErr_zero {ms : List Mt} {i : Nat} (hi : i < ms.length) (h : mErr ms i = 0) : 0 ≤ (ms.getD i ⟨0, 0, 0⟩).f ∧ (ms.getD i ⟨0, 0, 0⟩).f < (ms.getD i ⟨0, 0, 0⟩).u ∧ (ms.getD i ⟨0, 0, 0⟩).u ≤ 100000 ∧ (0 < i → (ms.getD (i - 1) ⟨0, 0, 0⟩).u = (ms.getD i ⟨0, 0, 0⟩).f) ∧ 0 ≤ (ms.getD i ⟨0, 0, 0⟩).s := by
 unfold mErr at h; rw [List.getElem?_eq_getElem hi] at h; rw [show ms.getD i ⟨0, 0, 0⟩ = ms[i] by rw [List.getD_eq_getElem?_getD, List.getElem?_eq_getElem hi]; rfl]; simp only at h
 by_cases h1 : ms[i].s < 0
 · rw [if_pos h1] at h; cases h
 · rw [if_neg h1] at h
   split at h
   · cases h
   · rename_i h2
     simp only [Bool.or_eq_true, Bool.and_eq_true, decide_eq_true_eq, Bool.not_eq_true', decide_eq_false_iff_not, not_or, not_and, Classical.not_not] at h2; refine ⟨by omega, by omega, by omega, fun hp => h2.2 hp, by omega⟩
def valB (vs : List (Option Rat)) (i : Nat) : Bool := match vs[i]? with
 | some (some q) => decide (0 ≤ q) && (decide (i = 0) || match vs[i - 1]? with | some (some p) => decide (p ≤ q) | _ => true)
 | _ => false
def inB (m : Mt) (vs : List (Option Rat)) (x : Mk) : Bool := match vs[(x.d - m.f).toNat]? with
 | some (some q) => decide (x.lo ≤ q) && decide (q ≤ x.hi)
 | _ => false
def fitsB (m : Mt) (l : List Mk) (vs : List (Option Rat)) : Bool := decide ((vs.length : Int) = m.u - m.f + 1) && ((List.range vs.length).all (valB vs) && l.all (inB m vs))
def allowB (iv : Iv) (nb big : Bool) (ms : List Mt) (rs : List Rg) (H : List (List (Option Rat))) : Bool :=
 decide (formedE nb big ms rs = 0) && (decide (H.length = ms.length) && (List.range ms.length).all fun i => fitsB (ms.getD i ⟨0, 0, 0⟩) (marksL iv ms rs (i : Nat)) (H.getD i []))
theorem valB_some {vs : List (Option Rat)} {i : Nat} (h : valB vs i = true) : ∃ q, vs[i]? = some (some q) ∧ 0 ≤ q ∧ (0 < i → ∀ p, vs[i - 1]? = some (some p) → p ≤ q) := by
 unfold valB at h
 split at h
 · rename_i q hq
   simp only [Bool.and_eq_true, Bool.or_eq_true, decide_eq_true_eq] at h; refine ⟨q, hq, h.1, fun hi p hp => ?_⟩; rcases h.2 with h2 | h2
   · omega
   · rw [hp] at h2; simpa using h2
 · cases h
theorem marks_in {iv : Iv} {nb big : Bool} {ms : List Mt} {rs : List Rg} (h : formedE nb big ms rs = 0) {i : Nat} : ∀ x ∈ marksL iv ms rs i, (ms.getD i ⟨0, 0, 0⟩).f ≤ x.d ∧ x.d ≤ (ms.getD i ⟨0, 0, 0⟩).u := by
 intro x hx
 obtain ⟨r, hr, hm, p, -, rfl⟩ := mem_marks.1 hx; obtain ⟨k, hk⟩ := List.getElem?_of_mem hr; have h1 := (formed_zero.1 h).2.2.2 k (List.getElem?_eq_some_iff.1 hk).1; unfold rErr at h1; rw [hk] at h1
 have h1' : (if (decide (r.m < 0) || decide ((ms.length : Int) ≤ r.m) || decide (r.c < 0) || decide (1099511627776 < r.c)) = true then 1
   else if (decide (r.d < (mtAt ms r.m).f) || decide ((mtAt ms r.m).u < r.d)) = true then 18 else _) = (0 : Int) := h1
 have e : mtAt ms r.m = ms.getD i ⟨0, 0, 0⟩ := by rw [hm]; rfl
 rw [e] at h1'
 split at h1'
 · cases h1'
 · split at h1'
   · cases h1'
   · rename_i h2
     simp only [Bool.or_eq_true, decide_eq_true_eq, not_or] at h2
     show (ms.getD i ⟨0, 0, 0⟩).f ≤ r.d ∧ r.d ≤ (ms.getD i ⟨0, 0, 0⟩).u
     omega
def clashB (iv : Iv) (ms : List Mt) (rs : List Rg) (x : Rg) : Bool := match rIv iv ms x with
 | none => false
 | some p => match mostO (marksL iv ms rs x.m) x.d with
  | none => false
  | some h => decide (h < p.1)
theorem clash_iff {iv : Iv} (hv : IvOk iv) {nb big : Bool} {ms : List Mt} {rs : List Rg} (h : formedE nb big ms rs = 0) : rs.any (clashB iv ms rs) = true ↔ checkE iv nb big ms rs = 16 := by
 have hin : ∀ x ∈ rs, 0 ≤ x.m ∧ x.m < ms.length := by
  intro x hx
  obtain ⟨k, hk⟩ := List.getElem?_of_mem hx; have h1 := (formed_zero.1 h).2.2.2 k (List.getElem?_eq_some_iff.1 hk).1; unfold rErr at h1; rw [hk] at h1; have h1' : (if (decide (x.m < 0) || decide ((ms.length : Int) ≤ x.m) || decide (x.c < 0) || decide (1099511627776 < x.c)) = true then 1 else _) = (0 : Int) := h1
  split at h1'
  · cases h1'
  · rename_i h2
    simp only [Bool.or_eq_true, decide_eq_true_eq, not_or] at h2
    omega
 have e : checkE iv nb big ms rs = 16 ↔ ¬ possA iv ms rs = true := by
  unfold checkE; rw [if_pos h]
  by_cases hp : possA iv ms rs = true
  · rw [if_pos hp]; simp [hp]
  · rw [if_neg hp]; simp [hp]
 rw [e, possA_iff hv, List.any_eq_true]
 constructor
 · rintro ⟨x, hx, hb⟩ hp
   obtain ⟨i, hi⟩ : ∃ i : Nat, x.m = (i : Int) := ⟨x.m.toNat, by have := hin x hx; omega⟩; unfold clashB rIv at hb
   cases e1 : iv (mtAt ms x.m).s x.c x.d with
   | none => rw [e1] at hb; cases hb
   | some p =>
    rw [e1] at hb
    cases e2 : mostO (marksL iv ms rs x.m) x.d with
    | none => rw [e2] at hb; cases hb
    | some g =>
     rw [e2] at hb; have hlt : g < p.1 := of_decide_eq_true hb; have hm : (⟨x.d, p.1, p.2⟩ : Mk) ∈ marksL iv ms rs i := mem_marks.2 ⟨x, hx, hi, p, by rw [← hi]; exact e1, rfl⟩; rw [hi] at e2; have h5 := poss_ge (hp i (by have := hin x hx; omega)) (marks_ok hv ms rs i) e2; have h6 := le_least hm (Int.le_refl x.d); exact absurd (Rat.le_trans h6 h5) (Rat.not_le.2 hlt)
 · intro hn
   obtain ⟨i, hi, hnp⟩ : ∃ i : Nat, i < ms.length ∧ ¬ Poss (marksL iv ms rs i) := Classical.byContradiction fun hc => hn fun i hi => Classical.byContradiction fun h5 => hc ⟨i, hi, h5⟩
   obtain ⟨x, z, hx, hz, hd, hlt⟩ : ∃ x z, x ∈ marksL iv ms rs i ∧ z ∈ marksL iv ms rs i ∧ x.d ≤ z.d ∧ ¬ x.lo ≤ z.hi := Classical.byContradiction fun hc => hnp fun x hx z hz hd => Classical.byContradiction fun h5 => hc ⟨x, z, hx, hz, hd, h5⟩
   obtain ⟨r, hr, hm, p, hp, rfl⟩ := mem_marks.1 hx; refine ⟨r, hr, ?_⟩; obtain ⟨g, hg⟩ := Option.isSome_iff_exists.1 (most_some (l := marksL iv ms rs i) (day := r.d) |>.2 ⟨z, hz, hd⟩); have h6 := most_le hg hz hd; unfold clashB rIv; rw [hm, hp]
   show (match mostO (marksL iv ms rs (i : Int)) r.d with | none => false | some h => decide (h < p.1)) = true
   rw [hg]; exact decide_eq_true (Rat.not_le.1 fun h7 => hlt (Rat.le_trans h7 h6))
def lowF (iv : Iv) (ms : List Mt) (m day : Int) (a : Rat) (x : Rg) : Rat := if x.m = m ∧ x.d ≤ day then (match iv (mtAt ms m).s x.c x.d with | none => a | some p => maxQ a p.1) else a
def highF (iv : Iv) (ms : List Mt) (m day : Int) (o : Option Rat) (x : Rg) : Option Rat := if x.m = m ∧ day ≤ x.d then (match iv (mtAt ms m).s x.c x.d with | none => o | some p => some (match o with | none => p.2 | some h => minQ h p.2)) else o
theorem marks_cons (iv : Iv) (ms : List Mt) (x : Rg) (rs : List Rg) (m : Int) : marksL iv ms (x :: rs) m = if x.m = m then (match iv (mtAt ms m).s x.c x.d with | none => marksL iv ms rs m | some p => ⟨x.d, p.1, p.2⟩ :: marksL iv ms rs m) else marksL iv ms rs m := by
 unfold marksL
 by_cases h : x.m = m
 · rw [if_pos h, List.filter_cons, if_pos (by simpa using h), List.filterMap_cons]
   unfold mkOf rIv; rw [h]
   cases iv (mtAt ms m).s x.c x.d <;> rfl
 · rw [if_neg h, List.filter_cons, if_neg (by simpa using h)]
theorem low_fold (iv : Iv) (ms : List Mt) (m day : Int) : ∀ (rs : List Rg) (a : Rat), rs.foldl (lowF iv ms m day) a = (marksL iv ms rs m).foldl (leastF day) a
 | [], a => rfl
 | x :: rs, a => by
  rw [List.foldl_cons, low_fold iv ms m day rs, marks_cons]; unfold lowF
  by_cases h : x.m = m
  · rw [if_pos h]
    cases hp : iv (mtAt ms m).s x.c x.d with
    | none => simp
    | some p =>
     rw [List.foldl_cons]; unfold leastF; simp only [h, true_and]
  · rw [if_neg h, if_neg (fun h2 => h h2.1)]
theorem high_fold (iv : Iv) (ms : List Mt) (m day : Int) : ∀ (rs : List Rg) (o : Option Rat), rs.foldl (highF iv ms m day) o = (marksL iv ms rs m).foldl (mostF day) o
 | [], o => rfl
 | x :: rs, o => by
  rw [List.foldl_cons, high_fold iv ms m day rs, marks_cons]; unfold highF
  by_cases h : x.m = m
  · rw [if_pos h]
    cases hp : iv (mtAt ms m).s x.c x.d with
    | none => simp
    | some p =>
     rw [List.foldl_cons]; unfold mostF
     by_cases h2 : day ≤ x.d
     · rw [if_pos ⟨h, h2⟩, if_neg (show ¬ (x.d < day) by omega)]
       cases o <;> rfl
     · rw [if_neg (fun h3 => h2 h3.2), if_pos (show x.d < day by omega)]
  · rw [if_neg h, if_neg (fun h2 => h h2.1)]
theorem low_is (iv : Iv) (ms : List Mt) (rs : List Rg) (m day : Int) : rs.foldl (lowF iv ms m day) 0 = leastQ (marksL iv ms rs m) day := low_fold iv ms m day rs 0
theorem high_is (iv : Iv) (ms : List Mt) (rs : List Rg) (m day : Int) : rs.foldl (highF iv ms m day) none = mostO (marksL iv ms rs m) day := high_fold iv ms m day rs none
theorem foldl_next {α β : Type} {f : β → α → β} {b : β} {l : List α} {k : Nat} {x : α} (h : l[k]? = some x) : (l.take (k + 1)).foldl f b = f ((l.take k).foldl f b) x := by
 obtain ⟨hk, hx⟩ := List.getElem?_eq_some_iff.1 h; rw [List.take_succ_eq_append_getElem hk, List.foldl_append, hx]; rfl
theorem low_skip {iv : Iv} {ms : List Mt} {m day : Int} {a : Rat} {x : Rg} (h : ¬ (x.m = m ∧ x.d ≤ day)) : lowF iv ms m day a x = a := by unfold lowF; rw [if_neg h]
theorem high_skip {iv : Iv} {ms : List Mt} {m day : Int} {o : Option Rat} {x : Rg} (h : ¬ (x.m = m ∧ day ≤ x.d)) : highF iv ms m day o x = o := by unfold highF; rw [if_neg h]
theorem sorted {nb big : Bool} {ms : List Mt} {rs : List Rg} (h : formedE nb big ms rs = 0) : ∀ {k i : Nat} {x z : Rg}, i < k → rs[i]? = some x → rs[k]? = some z → x.m < z.m ∨ (x.m = z.m ∧ x.d < z.d)
 | 0, i, x, z, hik, _, _ => by omega
 | k + 1, i, x, z, hik, hx, hz => by
  have hk := (List.getElem?_eq_some_iff.1 hz).1; obtain ⟨y, hy⟩ : ∃ y, rs[k]? = some y := ⟨rs[k], List.getElem?_eq_getElem (by omega)⟩; have h1 := (formed_zero.1 h).2.2.2 (k + 1) hk; unfold rErr at h1; rw [hz] at h1
  have h1' : (if (decide (z.m < 0) || decide ((ms.length : Int) ≤ z.m) || decide (z.c < 0) || decide (1099511627776 < z.c)) = true then 1
    else if (decide (z.d < (mtAt ms z.m).f) || decide ((mtAt ms z.m).u < z.d)) = true then 18
    else if (decide (0 < k + 1) && !afterB z (rs.getD (k + 1 - 1) ⟨0, 0, 0⟩)) = true then 5 else 0) = (0 : Int) := h1
  rw [show k + 1 - 1 = k by omega, show rs.getD k ⟨0, 0, 0⟩ = y by rw [List.getD_eq_getElem?_getD, hy]; rfl] at h1'
  split at h1'
  · cases h1'
  · split at h1'
    · cases h1'
    · split at h1'
      · cases h1'
      · rename_i h2
        have h3 : afterB z y = true := by
         cases e : afterB z y with
         | true => rfl
         | false => exfalso; apply h2; rw [e]; simp
        unfold afterB at h3; simp only [Bool.or_eq_true, Bool.and_eq_true, decide_eq_true_eq] at h3
        by_cases e : i = k
        · subst e
          rw [hy] at hx; cases hx
          omega
        · have ih := sorted h (k := k) (i := i) (by omega) hx hy
          omega
def pairB (iv : Iv) (ms : List Mt) (x z : Rg) : Bool := decide (z.m = x.m) && match rIv iv ms x with
 | none => false
 | some p => match rIv iv ms z with
  | none => false
  | some r => decide (r.2 < p.1)
theorem check_clash {iv : Iv} (hv : IvOk iv) {nb big : Bool} {ms : List Mt} {rs : List Rg} (h : formedE nb big ms rs = 0) {i k : Nat} {x z : Rg} (hik : i ≤ k) (hx : rs[i]? = some x) (hz : rs[k]? = some z) (hp : pairB iv ms x z = true) : checkE iv nb big ms rs = 16 := by
 refine (clash_iff hv h).1 ?_; rw [List.any_eq_true]; refine ⟨x, List.mem_of_getElem? hx, ?_⟩; unfold pairB at hp; rw [Bool.and_eq_true, decide_eq_true_eq] at hp; obtain ⟨hm, hp⟩ := hp
 have hd : x.d ≤ z.d := by
  by_cases e : i = k
  · subst e; rw [hx] at hz; cases hz; omega
  · have := sorted h (show i < k by omega) hx hz; omega
 unfold clashB
 cases e1 : rIv iv ms x with
 | none => rw [e1] at hp; cases hp
 | some p =>
  rw [e1] at hp
  cases e2 : rIv iv ms z with
  | none => rw [e2] at hp; cases hp
  | some r =>
   rw [e2] at hp; have hlt : r.2 < p.1 := of_decide_eq_true hp; have hmem : (⟨z.d, r.1, r.2⟩ : Mk) ∈ marksL iv ms rs x.m := mem_marks.2 ⟨z, List.mem_of_getElem? hz, hm, r, by rw [← hm]; exact e2, rfl⟩; obtain ⟨g, hg⟩ := Option.isSome_iff_exists.1 (most_some (l := marksL iv ms rs x.m) (day := x.d) |>.2 ⟨_, hmem, hd⟩); have h6 := most_le hg hmem hd
   show (match mostO (marksL iv ms rs x.m) x.d with | none => false | some h => decide (h < p.1)) = true
   rw [hg]; exact decide_eq_true (Rat.not_le.1 fun h7 => Rat.not_le.2 hlt (Rat.le_trans h7 h6))
theorem check_none {iv : Iv} (hv : IvOk iv) {nb big : Bool} {ms : List Mt} {rs : List Rg} (h : formedE nb big ms rs = 0) (hn : ∀ (i k : Nat) (x z : Rg), i ≤ k → rs[i]? = some x → rs[k]? = some z → pairB iv ms x z = false) : checkE iv nb big ms rs = 0 := by
 refine check_zero.2 ⟨h, (possA_iff hv).2 fun m hm x hx z hz hd => ?_⟩; obtain ⟨rx, hrx, hmx, p, hp, rfl⟩ := mem_marks.1 hx; obtain ⟨rz, hrz, hmz, r, hr, rfl⟩ := mem_marks.1 hz; obtain ⟨i, hi⟩ := List.getElem?_of_mem hrx; obtain ⟨k, hk⟩ := List.getElem?_of_mem hrz
 have hik : i ≤ k := by
  rcases Nat.lt_or_ge k i with h1 | h1
  · have := sorted h h1 hk hi
    simp only at hd
    omega
  · exact h1
 have h2 := hn i k rx rz hik hi hk; unfold pairB rIv at h2; rw [hmx, hmz, hp, hr, decide_eq_true rfl, Bool.true_and] at h2; have h3 : decide (r.2 < p.1) = false := h2; exact Rat.not_lt.1 (of_decide_eq_false h3)
theorem pair_other {iv : Iv} {ms : List Mt} {x z : Rg} (h : ¬ z.m = x.m) : pairB iv ms x z = false := by unfold pairB; rw [decide_eq_false h]; rfl
theorem pair_no1 {iv : Iv} {ms : List Mt} {x z : Rg} {s : Int} (hs : (mtAt ms x.m).s = s) (h : iv s x.c x.d = none) : pairB iv ms x z = false := by unfold pairB rIv; rw [hs, h]; simp
theorem pair_no2 {iv : Iv} {ms : List Mt} {x z : Rg} {s : Int} (hs : (mtAt ms z.m).s = s) (h : iv s z.c z.d = none) : pairB iv ms x z = false := by
 unfold pairB; have e : rIv iv ms z = none := by unfold rIv; rw [hs, h]
 rw [e]
 cases rIv iv ms x <;> simp
theorem pair_yes {iv : Iv} {ms : List Mt} {x z : Rg} {s s' : Int} {lo hi lo' hi' : Rat} (hm : z.m = x.m) (hs : (mtAt ms x.m).s = s) (h : iv s x.c x.d = some (lo, hi)) (hs' : (mtAt ms z.m).s = s') (h' : iv s' z.c z.d = some (lo', hi')) {t : Bool} (ht : decide (hi' < lo) = t) : pairB iv ms x z = t := by
 unfold pairB rIv; rw [decide_eq_true hm, hs, h, hs', h', Bool.true_and]; exact ht
def inF (iv : Iv) (ms : List Mt) (m a b d : Int) (lo : Rat) (s : Rat) (z : Rg) : Rat := if z.m = m ∧ d ≤ b ∧ a ≤ z.d then (match iv (mtAt ms m).s z.c z.d with | none => s | some r => maxQ s (lo - r.2)) else s
def outF (iv : Iv) (ms : List Mt) (rs : List Rg) (m a b : Int) (s : Rat) (x : Rg) : Rat := if x.m = m then (match iv (mtAt ms m).s x.c x.d with | none => s | some p => rs.foldl (inF iv ms m a b x.d p.1) s) else s
theorem inF_le {iv : Iv} {ms : List Mt} {m a b d : Int} {lo v : Rat} : ∀ {l : List Rg} {s : Rat}, l.foldl (inF iv ms m a b d lo) s ≤ v ↔ s ≤ v ∧ ∀ z ∈ l, z.m = m → d ≤ b → a ≤ z.d → ∀ r, iv (mtAt ms m).s z.c z.d = some r → lo - r.2 ≤ v
 | [], s => by simp
 | x :: l, s => by
  rw [List.foldl_cons, inF_le]
  have e : inF iv ms m a b d lo s x ≤ v ↔ s ≤ v ∧ (x.m = m → d ≤ b → a ≤ x.d → ∀ r, iv (mtAt ms m).s x.c x.d = some r → lo - r.2 ≤ v) := by
   unfold inF
   by_cases h : x.m = m ∧ d ≤ b ∧ a ≤ x.d
   · rw [if_pos h]
     cases hp : iv (mtAt ms m).s x.c x.d with
     | none => exact ⟨fun h1 => ⟨h1, fun _ _ _ r hr => by cases hr⟩, fun h1 => h1.1⟩
     | some p =>
      show maxQ s (lo - p.2) ≤ v ↔ _
      rw [maxQ_le]; exact ⟨fun h1 => ⟨h1.1, fun _ _ _ r hr => by cases hr; exact h1.2⟩, fun h1 => ⟨h1.1, h1.2 h.1 h.2.1 h.2.2 p rfl⟩⟩
   · rw [if_neg h]
     exact ⟨fun h1 => ⟨h1, fun a1 a2 a3 => absurd ⟨a1, a2, a3⟩ h⟩, fun h1 => h1.1⟩
  rw [e]
  constructor
  · rintro ⟨⟨h1, h2⟩, h3⟩
    exact ⟨h1, fun z hz => by rcases List.mem_cons.1 hz with rfl | hz; exact h2; exact h3 z hz⟩
  · rintro ⟨h1, h2⟩
    exact ⟨⟨h1, h2 x (by simp)⟩, fun z hz => h2 z (by simp [hz])⟩
theorem outF_le {iv : Iv} {ms : List Mt} {rs : List Rg} {m a b : Int} {v : Rat} : ∀ {l : List Rg} {s : Rat}, l.foldl (outF iv ms rs m a b) s ≤ v ↔ s ≤ v ∧ ∀ x ∈ l, x.m = m → ∀ p, iv (mtAt ms m).s x.c x.d = some p → ∀ z ∈ rs, z.m = m → x.d ≤ b → a ≤ z.d → ∀ r, iv (mtAt ms m).s z.c z.d = some r → p.1 - r.2 ≤ v
 | [], s => by simp
 | x :: l, s => by
  rw [List.foldl_cons, outF_le]
  have e : outF iv ms rs m a b s x ≤ v ↔ s ≤ v ∧ (x.m = m → ∀ p, iv (mtAt ms m).s x.c x.d = some p → ∀ z ∈ rs, z.m = m → x.d ≤ b → a ≤ z.d → ∀ r, iv (mtAt ms m).s z.c z.d = some r → p.1 - r.2 ≤ v) := by
   unfold outF
   by_cases h : x.m = m
   · rw [if_pos h]
     cases hp : iv (mtAt ms m).s x.c x.d with
     | none => exact ⟨fun h1 => ⟨h1, fun _ p hp => by cases hp⟩, fun h1 => h1.1⟩
     | some p =>
      show rs.foldl (inF iv ms m a b x.d p.1) s ≤ v ↔ _
      rw [inF_le]; exact ⟨fun h1 => ⟨h1.1, fun _ p' hp' => by cases hp'; exact h1.2⟩, fun h1 => ⟨h1.1, h1.2 h p rfl⟩⟩
   · rw [if_neg h]
     exact ⟨fun h1 => ⟨h1, fun a1 => absurd a1 h⟩, fun h1 => h1.1⟩
  rw [e]
  constructor
  · rintro ⟨⟨h1, h2⟩, h3⟩
    exact ⟨h1, fun z hz => by rcases List.mem_cons.1 hz with rfl | hz; exact h2; exact h3 z hz⟩
  · rintro ⟨h1, h2⟩
    exact ⟨⟨h1, h2 x (by simp)⟩, fun z hz => h2 z (by simp [hz])⟩
theorem pairs_is {iv : Iv} (hv : IvOk iv) (ms : List Mt) (rs : List Rg) (m a b : Int) : rs.foldl (outF iv ms rs m a b) 0 = cntLo (marksL iv ms rs m) a b := by
 refine eq_of_le_iff fun v => ?_; rw [outF_le]; have h0 := marks_ok hv ms rs m
 have e : (∀ x ∈ rs, x.m = m → ∀ p, iv (mtAt ms m).s x.c x.d = some p → ∀ z ∈ rs, z.m = m → x.d ≤ b → a ≤ z.d → ∀ r, iv (mtAt ms m).s z.c z.d = some r → p.1 - r.2 ≤ v) ↔
  ∀ x ∈ marksL iv ms rs m, x.d ≤ b → ∀ z ∈ marksL iv ms rs m, a ≤ z.d → x.lo - z.hi ≤ v := by
  constructor
  · intro h x hx hxb z hz hza
    obtain ⟨rx, hrx, hmx, p, hp, rfl⟩ := mem_marks.1 hx; obtain ⟨rz, hrz, hmz, r, hr, rfl⟩ := mem_marks.1 hz; exact h rx hrx hmx p hp rz hrz hmz hxb hza r hr
  · intro h x hx hmx p hp z hz hmz hxb hza r hr
    exact h _ (mem_marks.2 ⟨x, hx, hmx, p, hp, rfl⟩) hxb _ (mem_marks.2 ⟨z, hz, hmz, r, hr, rfl⟩) hza
 rw [e]; unfold cntLo
 cases em : mostO (marksL iv ms rs m) a with
 | none =>
  have hn := most_none.1 em
  show (0 ≤ v ∧ _) ↔ (0 : Rat) ≤ v
  exact ⟨fun h => h.1, fun h => ⟨h, fun x _ _ z hz hza => by have := hn z hz; omega⟩⟩
 | some g =>
  show _ ↔ maxQ (leastQ (marksL iv ms rs m) b - g) 0 ≤ v
  rw [maxQ_le]
  have hg : ∀ w, w ≤ g ↔ ∀ z ∈ marksL iv ms rs m, a ≤ z.d → w ≤ z.hi := fun w => by
   have := le_most (l := marksL iv ms rs m) (day := a) (v := w); rw [em] at this; exact this
  have hg0 : 0 ≤ g := (hg 0).2 fun z hz _ => Rat.le_trans (h0 z hz).1 (h0 z hz).2
  constructor
  · rintro ⟨h1, h2⟩
    refine ⟨?_, h1⟩
    have : leastQ (marksL iv ms rs m) b ≤ v + g := least_le.2 ⟨by grind, fun x hx hxb => by
     have h3 : x.lo - v ≤ g := (hg _).2 fun z hz hza => by have := h2 x hx hxb z hz hza; grind
     grind⟩
    grind
  · rintro ⟨h1, h2⟩
    refine ⟨h2, fun x hx hxb z hz hza => ?_⟩; have h3 := le_least hx hxb; have h4 := (hg g).1 Rat.le_refl z hz hza
    grind
theorem inP_skip {iv : Iv} {ms : List Mt} {m a b d : Int} {lo s : Rat} {z : Rg} (h : ¬ (z.m = m ∧ d ≤ b ∧ a ≤ z.d)) : inF iv ms m a b d lo s z = s := by unfold inF; rw [if_neg h]
theorem inP_yes {iv : Iv} {ms : List Mt} {m a b d : Int} {lo s lo' hi' : Rat} {z : Rg} {sc : Int} (hm : z.m = m) (hd : d ≤ b) (ha : a ≤ z.d) (hs : (mtAt ms m).s = sc) (h : iv sc z.c z.d = some (lo', hi')) {t : Bool} (ht : decide (s < lo - hi') = t) : inF iv ms m a b d lo s z = if t = true then lo - hi' else s := by
 unfold inF; rw [if_pos ⟨hm, hd, ha⟩, hs, h, ← ht]
 show maxQ s (lo - hi') = _
 unfold maxQ; simp
theorem outP_skip {iv : Iv} {ms : List Mt} {rs : List Rg} {m a b : Int} {s : Rat} {x : Rg} (h : ¬ x.m = m) : outF iv ms rs m a b s x = s := by unfold outF; rw [if_neg h]
theorem outP_yes {iv : Iv} {ms : List Mt} {rs : List Rg} {m a b : Int} {s lo hi v : Rat} {x : Rg} {sc : Int} (hm : x.m = m) (hs : (mtAt ms m).s = sc) (h : iv sc x.c x.d = some (lo, hi)) (hv : rs.foldl (inF iv ms m a b x.d lo) s = v) : outF iv ms rs m a b s x = v := by
 unfold outF; rw [if_pos hm, hs, h]; exact hv
theorem low_none {iv : Iv} {ms : List Mt} {m day : Int} {a : Rat} {x : Rg} {s : Int} (hs : (mtAt ms x.m).s = s) (h : iv s x.c x.d = none) : lowF iv ms m day a x = a := by
 unfold lowF
 by_cases hx : x.m = m ∧ x.d ≤ day
 · rw [if_pos hx, ← hx.1, hs, h]
 · rw [if_neg hx]
theorem high_none {iv : Iv} {ms : List Mt} {m day : Int} {o : Option Rat} {x : Rg} {s : Int} (hs : (mtAt ms x.m).s = s) (h : iv s x.c x.d = none) : highF iv ms m day o x = o := by
 unfold highF
 by_cases hx : x.m = m ∧ day ≤ x.d
 · rw [if_pos hx, ← hx.1, hs, h]
 · rw [if_neg hx]
theorem outP_none {iv : Iv} {ms : List Mt} {rs : List Rg} {m a b : Int} {s : Rat} {x : Rg} {sc : Int} (hs : (mtAt ms x.m).s = sc) (h : iv sc x.c x.d = none) : outF iv ms rs m a b s x = s := by
 unfold outF
 by_cases hx : x.m = m
 · rw [if_pos hx, ← hx, hs, h]
 · rw [if_neg hx]
theorem inP_none {iv : Iv} {ms : List Mt} {m a b d : Int} {lo s : Rat} {z : Rg} {sc : Int} (hs : (mtAt ms z.m).s = sc) (h : iv sc z.c z.d = none) : inF iv ms m a b d lo s z = s := by
 unfold inF
 by_cases hx : z.m = m ∧ d ≤ b ∧ a ≤ z.d
 · rw [if_pos hx, ← hx.1, hs, h]
 · rw [if_neg hx]
def lowB (day d : Int) (a lo : Rat) : Bool := decide (d ≤ day) && decide (a < lo)
def highB (day d : Int) (o : Option Rat) (hi : Rat) : Bool := decide (day ≤ d) && (match o with | none => true | some h => decide (hi < h))
theorem low_b {iv : Iv} {ms : List Mt} {m day : Int} {a lo hi : Rat} {x : Rg} {s : Int} (hm : x.m = m) (hs : (mtAt ms x.m).s = s) (h : iv s x.c x.d = some (lo, hi)) {t : Bool} (ht : lowB day x.d a lo = t) : lowF iv ms m day a x = if t = true then lo else a := by
 subst ht; unfold lowF lowB
 by_cases hd : x.d ≤ day
 · rw [if_pos ⟨hm, hd⟩, ← hm, hs, h, decide_eq_true hd, Bool.true_and]
   show maxQ a lo = _
   unfold maxQ; simp
 · rw [if_neg (fun h => hd h.2), decide_eq_false hd, Bool.false_and, if_neg (by simp)]
theorem high_b {iv : Iv} {ms : List Mt} {m day : Int} {o : Option Rat} {lo hi : Rat} {x : Rg} {s : Int} (hm : x.m = m) (hs : (mtAt ms x.m).s = s) (h : iv s x.c x.d = some (lo, hi)) {t : Bool} (ht : highB day x.d o hi = t) : highF iv ms m day o x = if t = true then some hi else o := by
 subst ht; unfold highF highB
 by_cases hd : day ≤ x.d
 · rw [if_pos ⟨hm, hd⟩, ← hm, hs, h, decide_eq_true hd, Bool.true_and]
   cases o with
   | none => simp
   | some g =>
    show some (minQ g hi) = if (decide (hi < g)) = true then some hi else some g
    unfold minQ
    by_cases h2 : hi < g
    · rw [if_pos h2, decide_eq_true h2, if_pos rfl]
    · rw [if_neg h2, decide_eq_false h2, if_neg (by simp)]
 · rw [if_neg (fun h => hd h.2), decide_eq_false hd, Bool.false_and, if_neg (by simp)]
def listB (m : Mt) (vs : List (Option Rat)) : Bool := decide ((vs.length : Int) = m.u - m.f + 1) && (List.range vs.length).all (valB vs)
def readB (iv : Iv) (ms : List Mt) (H : List (List (Option Rat))) (x : Rg) : Bool := match iv (mtAt ms x.m).s x.c x.d with
 | none => true
 | some p => inB (mtAt ms x.m) (H.getD x.m.toNat []) ⟨x.d, p.1, p.2⟩
theorem allowR {iv : Iv} {nb big : Bool} {ms : List Mt} {rs : List Rg} {H : List (List (Option Rat))} (hf : formedE nb big ms rs = 0) (hl : H.length = ms.length) (hin : ∀ (i : Nat) (x : Rg), rs[i]? = some x → 0 ≤ x.m ∧ x.m < (ms.length : Int)) :
 allowB iv nb big ms rs H = ((List.range ms.length).all (fun i => listB (ms.getD i ⟨0, 0, 0⟩) (H.getD i [])) && rs.all (readB iv ms H)) := by
 rw [Bool.eq_iff_iff]; unfold allowB; simp only [Bool.and_eq_true, decide_eq_true_eq, List.all_eq_true, List.mem_range, fitsB, listB, hf, hl, true_and]
 constructor
 · intro h
   refine ⟨fun i hi => ⟨(h i hi).1, (h i hi).2.1⟩, fun x hx => ?_⟩; obtain ⟨k, hk⟩ := List.getElem?_of_mem hx; obtain ⟨h0, h1⟩ := hin k x hk; have hx0 : ((x.m.toNat : Nat) : Int) = x.m := Int.toNat_of_nonneg h0; have h2 := (h x.m.toNat (by omega)).2.2; unfold readB
   cases e : iv (mtAt ms x.m).s x.c x.d with
   | none => rfl
   | some p =>
    refine h2 ⟨x.d, p.1, p.2⟩ (mem_marks.2 ⟨x, hx, hx0.symm, p, ?_, rfl⟩); rw [hx0]; exact e
 · rintro ⟨h1, h2⟩ i hi
   refine ⟨(h1 i hi).1, (h1 i hi).2, fun x hx => ?_⟩; obtain ⟨r, hr, hm, p, hp, rfl⟩ := mem_marks.1 hx; have h3 := h2 r hr; unfold readB at h3; rw [hm, hp] at h3; exact h3
theorem allH_take {α : Type} {p : α → Bool} {l : List α} {k : Nat} {x : α} (h : (l.take k).all p = true) (hx : l[k]? = some x) (hp : p x = true) : (l.take (k + 1)).all p = true := by
 obtain ⟨hk, he⟩ := List.getElem?_eq_some_iff.1 hx; rw [List.take_succ_eq_append_getElem hk, List.all_append, h, he]
 simp [hp]
theorem allH_at {α : Type} {p : α → Bool} {l : List α} {k : Nat} {x : α} (hx : l[k]? = some x) (hp : p x = false) : l.all p = false := by
 cases e : l.all p with
 | false => rfl
 | true => rw [List.all_eq_true] at e; rw [e x (List.mem_of_getElem? hx)] at hp; cases hp
abbrev Bytes := List UInt8
def isLetter (c : UInt8) : Bool := (decide (97 ≤ c.toNat) && decide (c.toNat ≤ 122)) || (decide (65 ≤ c.toNat) && decide (c.toNat ≤ 90))
def isDigit (c : UInt8) : Bool := decide (48 ≤ c.toNat) && decide (c.toNat ≤ 57)
def isInner (c : UInt8) : Bool := isLetter c || isDigit c || decide (c.toNat = 95)
def spanN (p : UInt8 → Bool) (l : Bytes) : Nat := (l.takeWhile p).length
def nameOk (l : Bytes) : Bool := match l with
 | [] => false
 | c :: _ => isLetter c && decide (l.length ≤ 20) && l.all isInner
theorem takeWhile_all (p : UInt8 → Bool) (l : Bytes) (h : l.all p = true) : l.takeWhile p = l := by
 induction l with
 | nil => rfl
 | cons c r ih => simp at h; simp [h.1]; exact ih (by simpa using h.2)
theorem all_takeWhile (p : UInt8 → Bool) (l : Bytes) : (l.takeWhile p).all p = true := by
 induction l with
 | nil => rfl
 | cons c r ih => by_cases h : p c <;> simp [h]
theorem take_takeWhile (p : UInt8 → Bool) (l : Bytes) : l.take (l.takeWhile p).length = l.takeWhile p := by
 induction l with
 | nil => rfl
 | cons c r ih => by_cases h : p c <;> simp [h]; exact ih
theorem letter_inner {c : UInt8} (h : isLetter c = true) : isInner c = true := by simp [isInner, h]
end Go.Proofs.YtlcgckelamhnpaaGreat
