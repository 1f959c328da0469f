/- What the lexer's statements say of its plain answer: no Go in sight. -/
import Derived.WalkKit
namespace Go.Proofs.YtckgmilmhofekaaGreatDoor

abbrev Bytes := List UInt8
def isLetter (c : UInt8) : Bool := (decide (97 ≤ c.toNat) && decide (c.toNat ≤ 122)) || (decide (65 ≤ c.toNat) && decide (c.toNat ≤ 90))
def isDigit (c : UInt8) : Bool := decide (48 ≤ c.toNat) && decide (c.toNat ≤ 57)
def isInner (c : UInt8) : Bool := isLetter c || isDigit c || decide (c.toNat = 95)
def isPlain (c : UInt8) : Bool := decide (32 ≤ c.toNat) && decide (c.toNat ≤ 126)
def isBlank (c : UInt8) : Bool := decide (c.toNat = 32) || decide (c.toNat = 9) || decide (c.toNat = 10)
def signBytes : Bytes := [40, 41, 44, 59, 58, 61, 60, 43, 45, 42, 47, 123, 125]
def isSign (c : UInt8) : Bool := signBytes.contains c
def spanN (p : UInt8 → Bool) (l : Bytes) : Nat := (l.takeWhile p).length
def nameOk (l : Bytes) : Bool := match l with
 | [] => false
 | c :: _ => isLetter c && decide (l.length ≤ 20) && l.all isInner
def numVal (l : Bytes) : Nat := l.foldl (fun n c => 10 * n + (c.toNat - 48)) 0
def numOf (l : Bytes) : Option Nat :=
 if l = [] ∨ l.all isDigit = false ∨ (l.head? = some 48 ∧ l ≠ [48]) ∨ 13 < l.length then none
 else if 1099511627776 < numVal l then none else some (numVal l)
def escBody (l : Bytes) : Bytes := l.flatMap fun c => if c = 34 ∨ c = 92 then [92, c] else [c]
def escL (l : Bytes) : Bytes := 34 :: (escBody l ++ [34])
def quoteOk (l : Bytes) : Bool := decide (l.length ≤ 400) && l.all isPlain
/-- What is between the quotes, and how many bytes were read, behind the opening quote. -/
def unq : Bytes → Option (Bytes × Nat)
 | [] => none
 | c :: r =>
  if isPlain c = false then none
  else if c = 34 then some ([], 1)
  else if c = 92 then
   match r with
   | [] => none
   | d :: r' => if d = 34 ∨ d = 92 then (unq r').map fun p => (d :: p.1, p.2 + 2) else none
  else (unq r).map fun p => (c :: p.1, p.2 + 1)
/-- A quoted string at the head of a text: its value and its length. -/
def quotedT (l : Bytes) : Option (Bytes × Nat) := match unq l.tail with
 | none => none
 | some p => if 400 < p.1.length then none else some (p.1, p.2 + 1)
structure Tok where
 kind : Nat
 text : Bytes
 n : Nat
 pos : Nat
 deriving DecidableEq
def nextT (l : Bytes) : Except Nat (Tok × Nat) := match l with
 | [] => .error 0
 | c :: _ =>
  if isLetter c then (if nameOk (l.takeWhile isInner) then .ok (⟨0, l.takeWhile isInner, 0, 0⟩, (l.takeWhile isInner).length) else .error 3)
  else if isDigit c then (match numOf (l.takeWhile isDigit) with | none => .error 3 | some n => .ok (⟨1, l.takeWhile isDigit, n, 0⟩, (l.takeWhile isDigit).length))
  else if c = 34 then (match quotedT l with | none => .error 2 | some p => .ok (⟨2, p.1, 0, 0⟩, p.2))
  else if isSign c then .ok (⟨3, [c], 0, 0⟩, 1)
  else .error 10
/-- How many bytes at the head are blanks and comments ('b': inside a comment). -/
def gapC : Bool → Bytes → Nat
 | _, [] => 0
 | b, c :: r => if c = 10 then gapC false r + 1 else if b then gapC b r + 1 else if isBlank c then gapC b r + 1 else if c = 35 then gapC true r + 1 else 0
def Tok.at (t : Tok) (p : Nat) : Tok := { t with pos := p }
def scanF : Nat → Nat → Bytes → Except (Nat × Nat) (List Tok)
 | 0, _, _ => .ok []
 | f + 1, p, l =>
  match l.drop (gapC false l) with
  | [] => .ok []
  | c :: r => match nextT (c :: r) with
   | .error e => .error (p + gapC false l, e)
   | .ok x => match scanF f (p + gapC false l + x.2) ((c :: r).drop x.2) with
    | .ok ts => .ok (x.1.at (p + gapC false l) :: ts)
    | .error e => .error e
def scanAll (l : Bytes) : Except (Nat × Nat) (List Tok) := scanF (l.length + 1) 0 l
def tokText (t : Tok) : Bytes := if t.kind = 2 then escL t.text else t.text
def printL : List Tok → Bytes
 | [] => []
 | [t] => tokText t
 | t :: u :: r => tokText t ++ 32 :: printL (u :: r)
/-! ### plain facts -/

theorem gapC_le (b : Bool) (l : Bytes) : gapC b l ≤ l.length := by
 induction l generalizing b with
 | nil => simp [gapC]
 | cons c r ih =>
  have h1 := ih false
  have h2 := ih true
  have h3 := ih b
  simp only [gapC, List.length_cons]
  repeat' split
  all_goals omega
theorem gapC_app (b : Bool) (l z : Bytes) (h : gapC b l < l.length) : gapC b (l ++ z) = gapC b l := by
 induction l generalizing b with
 | nil => simp at h
 | cons c r ih =>
  simp only [gapC, List.length_cons, List.cons_append] at h ⊢
  have i0 := ih false
  have i1 := ih true
  have i2 := ih b
  repeat' split
  all_goals simp_all
theorem gapC_take (b : Bool) (m : Nat) (l : Bytes) : gapC b (l.take m) = min (min m l.length) (gapC b l) := by
 induction l generalizing b m with
 | nil => simp [gapC]
 | cons c r ih =>
  cases m with
  | zero => simp [gapC]
  | succ m =>
   simp only [List.take_succ_cons, gapC, List.length_cons]
   repeat' split
   all_goals simp_all
   all_goals omega
theorem gapC_stop (b : Bool) (l : Bytes) {c : UInt8} {r : Bytes} (h : l.drop (gapC b l) = c :: r) : isBlank c = false ∧ c ≠ 35 := by
  induction l generalizing b with
  | nil => simp at h
  | cons d t ih =>
    unfold gapC at h
    split at h
    · exact ih false (by simpa using h)
    · rename_i h10
      split at h
      · exact ih b (by simpa using h)
      · split at h
        · exact ih b (by simpa using h)
        · split at h
          · exact ih true (by simpa using h)
          · simp at h
            obtain ⟨rfl, rfl⟩ := h
            simp_all
theorem gapC_zero {c : UInt8} {r : Bytes} (h : isBlank c = false) (h' : c ≠ 35) : gapC false (c :: r) = 0 := by
 have : c ≠ 10 := by rintro rfl; simp [isBlank] at h
 simp [gapC, h, h', this]
theorem takeWhile_app_stop (p : UInt8 → Bool) (l z : Bytes) (hz : ∀ c z', z = c :: z' → p c = false) : (l ++ z).takeWhile p = l.takeWhile p := by
 induction l with
 | nil => cases z with
  | nil => rfl
  | cons c z' => simp [hz c z' rfl]
 | cons c r ih => by_cases h : p c <;> simp [h, ih]
theorem takeWhile_all (p : UInt8 → Bool) (l : Bytes) (h : l.all p = true) : l.takeWhile p = l := by
 induction l with
 | nil => rfl
 | cons c r ih => simp at h; simp [h.1]; exact ih (by simpa using h.2)
theorem all_takeWhile (p : UInt8 → Bool) (l : Bytes) : (l.takeWhile p).all p = true := by
 induction l with
 | nil => rfl
 | cons c r ih => by_cases h : p c <;> simp [h]
theorem drop_takeWhile_stop (p : UInt8 → Bool) (l : Bytes) {c : UInt8} {r : Bytes} (h : l.drop (l.takeWhile p).length = c :: r) : p c = false := by
  induction l with
  | nil => simp at h
  | cons d t ih =>
    by_cases hp : p d
    · simp [hp] at h; exact ih h
    · simp [hp] at h; obtain ⟨rfl, rfl⟩ := h; simpa using hp
theorem take_takeWhile (p : UInt8 → Bool) (l : Bytes) : l.take (l.takeWhile p).length = l.takeWhile p := by
 induction l with
 | nil => rfl
 | cons c r ih => by_cases h : p c <;> simp [h]; exact ih
theorem unq_nil : unq [] = none := rfl
theorem unq_cons (c : UInt8) (r : Bytes) : unq (c :: r) = if isPlain c = false then none
  else if c = 34 then some ([], 1)
  else if c = 92 then
   match r with
   | [] => none
   | d :: r' => if d = 34 ∨ d = 92 then (unq r').map fun p => (d :: p.1, p.2 + 2) else none
  else (unq r).map fun p => (c :: p.1, p.2 + 1) := by
 cases r <;> rfl
theorem escBody_cons (c : UInt8) (l : Bytes) : escBody (c :: l) = (if c = 34 ∨ c = 92 then [92, c] else [c]) ++ escBody l := by simp [escBody]
theorem escBody_nil : escBody [] = [] := rfl
theorem plain92 : isPlain 92 = true := by decide
theorem plain34 : isPlain 34 = true := by decide
theorem unq_esc (v z : Bytes) (hv : v.all isPlain = true) : unq (escBody v ++ 34 :: z) = some (v, (escBody v).length + 1) := by
  induction v with
  | nil => simp [escBody_nil, unq_cons, plain34]
  | cons c r ih =>
    simp only [List.all_cons, Bool.and_eq_true] at hv
    have hr := ih hv.2
    rw [escBody_cons]
    by_cases h : c = 34 ∨ c = 92
    · rw [if_pos h]
      simp only [List.cons_append, List.nil_append, unq_cons, plain92]
      simp [h, hr]
    · rw [if_neg h]
      have h1 : c ≠ 34 := fun e => h (.inl e)
      have h2 : c ≠ 92 := fun e => h (.inr e)
      simp only [List.cons_append, List.nil_append, unq_cons, hv.1]
      simp [h1, h2, hr]
theorem unq_src : ∀ (l : Bytes) (v : Bytes) (k : Nat), unq l = some (v, k) → v.all isPlain = true ∧ l = escBody v ++ 34 :: l.drop k ∧ k = (escBody v).length + 1
  | [], v, k, h => by simp [unq_nil] at h
  | c :: r, v, k, h => by
    rw [unq_cons] at h
    split at h
    · cases h
    · rename_i hp
      split at h
      · rename_i hc
        simp at h; obtain ⟨rfl, rfl⟩ := h
        simp [escBody_nil, hc]
      · rename_i h34
        split at h
        · rename_i h92
          split at h
          · cases h
          · rename_i d r'
            split at h
            · rename_i hd
              simp only [Option.map_eq_some_iff] at h
              obtain ⟨⟨v', k'⟩, hu, he⟩ := h
              simp only [Prod.mk.injEq] at he
              obtain ⟨rfl, rfl⟩ := he
              obtain ⟨g1, g2, g3⟩ := unq_src r' v' k' hu
              have hdp : isPlain d = true := by rcases hd with rfl | rfl <;> decide
              refine ⟨by simp [hdp]; simpa using g1, ?_, ?_⟩
              · rw [escBody_cons, if_pos hd]
                simp only [List.cons_append, List.nil_append, List.drop_succ_cons, h92]
                rw [← g2]
              · rw [escBody_cons, if_pos hd]; simp [g3]
            · cases h
        · rename_i h92
          simp only [Option.map_eq_some_iff] at h
          obtain ⟨⟨v', k'⟩, hu, he⟩ := h
          simp only [Prod.mk.injEq] at he
          obtain ⟨rfl, rfl⟩ := he
          obtain ⟨g1, g2, g3⟩ := unq_src r v' k' hu
          have hn : ¬ (c = 34 ∨ c = 92) := fun e => e.elim h34 h92
          have hcp : isPlain c = true := by simpa using hp
          refine ⟨by simp [hcp]; simpa using g1, ?_, ?_⟩
          · rw [escBody_cons, if_neg hn]
            simp only [List.cons_append, List.nil_append, List.drop_succ_cons]
            rw [← g2]
          · rw [escBody_cons, if_neg hn]; simp [g3]
theorem letter_inner {c : UInt8} (h : isLetter c = true) : isInner c = true := by simp [isInner, h]
theorem inner_not_digit {c : UInt8} (h : isInner c = false) : isDigit c = false := by simp [isInner] at h; exact h.1.2
/-- A token stops ahead of what follows. -/
def stops (t : Tok) (z : Bytes) : Prop := ∀ c z', z = c :: z' → (t.kind = 0 → isInner c = false) ∧ (t.kind = 1 → isDigit c = false)
theorem stops_nil (t : Tok) : stops t [] := by intro c z' h; cases h
theorem stops_plain (t : Tok) {c : UInt8} (h : isInner c = false) (y : Bytes) : stops t (c :: y) := by
 intro d z' e; cases e; exact ⟨fun _ => h, fun _ => inner_not_digit h⟩
theorem stops_take (t : Tok) {z : Bytes} (h : stops t z) (m : Nat) : stops t (z.take m) := by
 intro c z' e
 cases m with
 | zero => simp at e
 | succ m => cases z with
  | nil => simp at e
  | cons d r => simp at e; exact h c r (by rw [e.1])
theorem nextT_ok {l : Bytes} {t : Tok} {n : Nat} (h : nextT l = .ok (t, n)) :
    1 ≤ n ∧ n ≤ l.length ∧ l.take n = tokText t ∧ n = (tokText t).length ∧ t.pos = 0 ∧ t.kind ≤ 3 ∧ (t.kind ≠ 1 → t.n = 0) ∧ stops t (l.drop n) ∧ ∀ z, stops t z → nextT (tokText t ++ z) = .ok (t, n) := by
  match l, h with
  | c :: r, h =>
    rw [nextT] at h
    split at h
    · rename_i hL
      split at h
      · rename_i hn
        simp only [Except.ok.injEq, Prod.mk.injEq] at h
        obtain ⟨rfl, rfl⟩ := h
        have hcw : (c :: r).takeWhile isInner = c :: r.takeWhile isInner := by simp [letter_inner hL]
        refine ⟨by rw [hcw]; simp, (List.takeWhile_sublist _).length_le, ?_, rfl, rfl, Nat.zero_le _, fun _ => rfl, ?_, ?_⟩
        · exact take_takeWhile _ _
        · intro d z' e; exact ⟨fun _ => drop_takeWhile_stop _ _ e, fun k => by cases k⟩
        · intro z hz
          show nextT ((c :: r).takeWhile isInner ++ z) = _
          have h1 : ((c :: r).takeWhile isInner ++ z).takeWhile isInner = (c :: r).takeWhile isInner := by
            rw [takeWhile_app_stop _ _ _ (fun d z' e => (hz d z' e).1 rfl), takeWhile_all _ _ (all_takeWhile _ _)]
          rw [hcw] at h1 hn ⊢
          rw [List.cons_append, nextT]
          rw [List.cons_append] at h1
          rw [if_pos hL, h1, if_pos hn]
      · cases h
    · rename_i hL
      split at h
      · rename_i hD
        split at h
        · cases h
        · rename_i m hm
          simp only [Except.ok.injEq, Prod.mk.injEq] at h
          obtain ⟨rfl, rfl⟩ := h
          have hcw : (c :: r).takeWhile isDigit = c :: r.takeWhile isDigit := by simp [hD]
          refine ⟨by rw [hcw]; simp, (List.takeWhile_sublist _).length_le, ?_, rfl, rfl, by simp, fun k => absurd rfl k, ?_, ?_⟩
          · exact take_takeWhile _ _
          · intro d z' e; exact ⟨(fun k => by cases k), fun _ => drop_takeWhile_stop _ _ e⟩
          · intro z hz
            show nextT ((c :: r).takeWhile isDigit ++ z) = _
            have h1 : ((c :: r).takeWhile isDigit ++ z).takeWhile isDigit = (c :: r).takeWhile isDigit := by
              rw [takeWhile_app_stop _ _ _ (fun d z' e => (hz d z' e).2 rfl), takeWhile_all _ _ (all_takeWhile _ _)]
            rw [hcw] at h1 hm ⊢
            rw [List.cons_append, nextT]
            rw [List.cons_append] at h1
            rw [if_neg hL, if_pos hD, h1, hm]
      · rename_i hD
        split at h
        · rename_i h34
          split at h
          · cases h
          · rename_i p hp
            simp only [Except.ok.injEq, Prod.mk.injEq] at h
            obtain ⟨rfl, rfl⟩ := h
            unfold quotedT at hp
            split at hp
            · cases hp
            · rename_i q hq
              split at hp
              · cases hp
              · rename_i h400
                simp only [Option.some.injEq] at hp
                subst hp
                obtain ⟨g1, g2, g3⟩ := unq_src r q.1 q.2 hq
                have hlen : q.2 ≤ r.length := by rw [g2, g3]; simp
                have htake : (c :: r).take (q.2 + 1) = escL q.1 := by
                  rw [List.take_succ_cons, h34]
                  conv => lhs; rw [g2]
                  rw [g3]; simp [escL, List.take_append, List.take_of_length_le]
                have hl : q.2 + 1 = (escL q.1).length := by simp [escL, g3]
                refine ⟨by simp, by simp; omega, ?_, ?_, rfl, by simp, fun _ => rfl, ?_, ?_⟩
                · simpa [tokText] using htake
                · simpa [tokText] using hl
                · intro d z' _; exact ⟨(fun k => by cases k), (fun k => by cases k)⟩
                · intro z _
                  show nextT (escL q.1 ++ z) = _
                  rw [escL, List.cons_append, nextT]
                  have hu : unq (escBody q.1 ++ [34] ++ z) = some q := by
                    rw [List.append_assoc, List.singleton_append, unq_esc _ _ g1, ← g3]
                  rw [if_neg (by decide), if_neg (by decide), if_pos rfl]
                  simp only [quotedT, List.tail_cons]
                  rw [hu]
                  simp only
                  rw [if_neg h400]
        · rename_i h34
          split at h
          · rename_i hS
            simp only [Except.ok.injEq, Prod.mk.injEq] at h
            obtain ⟨rfl, rfl⟩ := h
            refine ⟨Nat.le_refl _, by simp, by simp [tokText], by simp [tokText], rfl, by simp, fun _ => rfl, ?_, ?_⟩
            · intro d z' _; exact ⟨(fun k => by cases k), (fun k => by cases k)⟩
            · intro z _
              show nextT (c :: z) = _
              rw [nextT, if_neg hL, if_neg hD, if_neg h34, if_pos hS]
          · cases h
/-! ### the scan as a relation -/

inductive Scan : Nat → Bytes → Except (Nat × Nat) (List Tok) → Prop
 | done (p : Nat) (l : Bytes) (h : gapC false l = l.length) : Scan p l (.ok [])
 | bad (p : Nat) (l : Bytes) (c : UInt8) (r : Bytes) (e : Nat) (h : l.drop (gapC false l) = c :: r) (hn : nextT (c :: r) = .error e) : Scan p l (.error (p + gapC false l, e))
 | tok (p : Nat) (l : Bytes) (c : UInt8) (r : Bytes) (t : Tok) (n : Nat) (ts : List Tok) (h : l.drop (gapC false l) = c :: r) (hn : nextT (c :: r) = .ok (t, n))
   (hs : Scan (p + gapC false l + n) ((c :: r).drop n) (.ok ts)) : Scan p l (.ok (t.at (p + gapC false l) :: ts))
 | late (p : Nat) (l : Bytes) (c : UInt8) (r : Bytes) (t : Tok) (n : Nat) (x : Nat × Nat) (h : l.drop (gapC false l) = c :: r) (hn : nextT (c :: r) = .ok (t, n))
   (hs : Scan (p + gapC false l + n) ((c :: r).drop n) (.error x)) : Scan p l (.error x)
theorem drop_nil_gap {b : Bool} {l : Bytes} (h : l.drop (gapC b l) = []) : gapC b l = l.length := by
 have := gapC_le b l
 simp at h; omega
theorem scanF_scan : ∀ (f p : Nat) (l : Bytes), l.length < f → Scan p l (scanF f p l)
  | 0, p, l, h => by omega
  | f + 1, p, l, h => by
    rw [scanF]
    split
    · rename_i hd; exact Scan.done p l (drop_nil_gap hd)
    · rename_i c r hd
      have hl : (c :: r).length ≤ l.length := by rw [← hd]; simp
      split
      · rename_i e hn; exact Scan.bad p l c r e hd hn
      · rename_i x hn
        obtain ⟨t, n⟩ := x
        obtain ⟨g1, g2, -⟩ := nextT_ok hn
        have ih := scanF_scan f (p + gapC false l + n) ((c :: r).drop n) (by rw [List.length_drop]; omega)
        simp only
        split
        · rename_i ts hs; rw [hs] at ih; exact Scan.tok p l c r t n ts hd hn ih
        · rename_i e hs; rw [hs] at ih; exact Scan.late p l c r t n e hd hn ih
theorem scan_det {p : Nat} {l : Bytes} {a b : Except (Nat × Nat) (List Tok)} (h : Scan p l a) : Scan p l b → a = b := by
 induction h generalizing b with
 | done p l h =>
  intro k
  have e : l.drop (gapC false l) = [] := by rw [h]; simp
  cases k with
  | done => rfl
  | bad => rename_i hn2 h2; rw [e] at h2; cases h2
  | tok => rename_i hn2 h2 hs2; rw [e] at h2; cases h2
  | late => rename_i hn2 h2 hs2; rw [e] at h2; cases h2
 | bad p l c r e h hn =>
  intro k
  cases k with
  | done => rename_i h2; rw [h2] at h; simp at h
  | bad => rename_i hn2 h2; rw [h] at h2; cases h2; rw [hn] at hn2; cases hn2; rfl
  | tok => rename_i hn2 h2 hs2; rw [h] at h2; cases h2; rw [hn] at hn2; cases hn2
  | late => rename_i hn2 h2 hs2; rw [h] at h2; cases h2; rw [hn] at hn2; cases hn2
 | tok p l c r t n ts h hn hs ih =>
  intro k
  cases k with
  | done => rename_i h2; rw [h2] at h; simp at h
  | bad => rename_i hn2 h2; rw [h] at h2; cases h2; rw [hn] at hn2; cases hn2
  | tok => rename_i hn2 h2 hs2; rw [h] at h2; cases h2; rw [hn] at hn2; cases hn2; cases ih hs2; rfl
  | late => rename_i hn2 h2 hs2; rw [h] at h2; cases h2; rw [hn] at hn2; cases hn2; cases ih hs2
 | late p l c r t n x h hn hs ih =>
  intro k
  cases k with
  | done => rename_i h2; rw [h2] at h; simp at h
  | bad => rename_i hn2 h2; rw [h] at h2; cases h2; rw [hn] at hn2; cases hn2
  | tok => rename_i hn2 h2 hs2; rw [h] at h2; cases h2; rw [hn] at hn2; cases hn2; cases ih hs2
  | late => rename_i hn2 h2 hs2; rw [h] at h2; cases h2; rw [hn] at hn2; cases hn2; cases ih hs2; rfl
theorem scanAll_scan (l : Bytes) : Scan 0 l (scanAll l) := scanF_scan _ _ _ (Nat.lt_succ_self _)
theorem scanAll_of {l : Bytes} {a : Except (Nat × Nat) (List Tok)} (h : Scan 0 l a) : scanAll l = a := scan_det (scanAll_scan l) h
end Go.Proofs.YtckgmilmhofekaaGreatDoor
namespace Go.Proofs.YtckgmilmhofekaaGreatDoor

theorem gap_lt_of_cons {b : Bool} {l : Bytes} {c : UInt8} {r : Bytes} (h : l.drop (gapC b l) = c :: r) : gapC b l < l.length := by
 have : (l.drop (gapC b l)).length = (c :: r).length := by rw [h]
 simp at this; omega
/-! ### joins -/
def sewn (ts : List Tok) : Except (Nat × Nat) (List Tok) → Except (Nat × Nat) (List Tok)
 | .ok us => .ok (ts ++ us)
 | .error e => .error e
theorem scan_shift_gap {p d : Nat} {y : Bytes} (hd : gapC false y = d + gapC false (y.drop d)) {b : Except (Nat × Nat) (List Tok)} (h : Scan (p + d) (y.drop d) b) (hl : d ≤ y.length) : Scan p y b := by
 have hdd : y.drop (gapC false y) = (y.drop d).drop (gapC false (y.drop d)) := by rw [List.drop_drop, ← hd]
 generalize hz : y.drop d = z at *
 generalize hq : p + d = q at *
 have hzl : z.length = y.length - d := by rw [← hz]; simp
 cases h with
 | done => rename_i h; exact Scan.done p y (by rw [hd, h, hzl]; omega)
 | bad =>
  rename_i hn h
  have : q + gapC false z = p + gapC false y := by omega
  rw [this]; exact Scan.bad p y _ _ _ (hdd.trans h) hn
 | tok =>
  rename_i hn h hs
  have : q + gapC false z = p + gapC false y := by omega
  rw [this] at hs ⊢; exact Scan.tok p y _ _ _ _ _ (hdd.trans h) hn hs
 | late =>
  rename_i hn h hs
  have : q + gapC false z = p + gapC false y := by omega
  rw [this] at hs; exact Scan.late p y _ _ _ _ _ (hdd.trans h) hn hs
/-! ### errors -/
theorem nextT_err {l : Bytes} {c : UInt8} {r : Bytes} {e : Nat} (hl : l = c :: r) (h : nextT l = .error e) : e = 2 ∨ e = 3 ∨ e = 10 := by
 subst hl
 rw [nextT] at h
 repeat' split at h
 all_goals first | (cases h; done) | (cases h; simp)
theorem scan_err {p : Nat} {l : Bytes} {a : Except (Nat × Nat) (List Tok)} (h : Scan p l a) : ∀ q e, a = .error (q, e) →
    p ≤ q ∧ q < p + l.length ∧ (e = 2 ∨ e = 3 ∨ e = 10) ∧ (∃ ts, Scan p (l.take (q - p)) (.ok ts)) ∧ Scan 0 (l.drop (q - p)) (.error (0, e)) := by
  induction h with
  | done p l h => intro q e k; cases k
  | bad p l c r e h hn =>
    intro q e' k
    cases k
    have hlt := gap_lt_of_cons h
    obtain ⟨s1, s2⟩ := gapC_stop _ _ h
    have hz := gapC_zero (r := r) s1 s2
    refine ⟨by omega, by omega, nextT_err rfl hn, ⟨[], Scan.done _ _ ?_⟩, ?_⟩
    · rw [show p + gapC false l - p = gapC false l from by omega, gapC_take]; simp [Nat.min_eq_left (Nat.le_of_lt hlt)]
    · rw [show p + gapC false l - p = gapC false l from by omega, h]
      have := Scan.bad 0 (c :: r) c r e (by rw [hz]; rfl) hn
      rw [hz] at this; exact this
  | tok p l c r t n ts h hn hs ih => intro q e k; cases k
  | late p l c r t n x h hn hs ih =>
    intro q e k
    cases k
    have hlt := gap_lt_of_cons h
    obtain ⟨g1, g2, g3, g4, g5, g6, g7, g8, g9⟩ := nextT_ok hn
    obtain ⟨i1, i2, i3, ⟨us, i4⟩, i5⟩ := ih q e rfl
    have hlen : (c :: r).length = l.length - gapC false l := by rw [← h]; simp
    rw [List.length_drop] at i2
    refine ⟨by omega, by omega, i3, ⟨t.at (p + gapC false l) :: us, ?_⟩, ?_⟩
    · have hg : gapC false (l.take (q - p)) = gapC false l := by rw [gapC_take]; omega
      have hd : (l.take (q - p)).drop (gapC false l) = (c :: r).take (q - p - gapC false l) := by rw [List.drop_take, h]
      obtain ⟨m, hm⟩ : ∃ m, q - p - gapC false l = m + 1 := ⟨q - p - gapC false l - 1, by omega⟩
      have hsplit : (c :: r).take (m + 1) = tokText t ++ ((c :: r).drop n).take (m + 1 - n) := by
        rw [← g3]
        conv => lhs; rw [← List.take_append_drop n (c :: r)]
        rw [List.take_append]; simp only [List.length_take, Nat.min_eq_left g2]
        rw [List.take_of_length_le (by simp only [List.length_take]; omega)]
      have hn' : nextT ((c :: r).take (m + 1)) = .ok (t, n) := by rw [hsplit]; exact g9 _ (stops_take t g8 _)
      have hdn : ((c :: r).take (m + 1)).drop n = ((c :: r).drop n).take (q - (p + gapC false l + n)) := by
        rw [List.drop_take]; congr 1; omega
      have := Scan.tok p (l.take (q - p)) c (r.take m) t n us (by rw [hg, hd, hm]; rfl) (by rw [← List.take_succ_cons]; exact hn') (by rw [hg, ← List.take_succ_cons, hdn]; exact i4)
      rw [hg] at this; exact this
    · have : l.drop (q - p) = ((c :: r).drop n).drop (q - (p + gapC false l + n)) := by
        rw [← h, List.drop_drop, List.drop_drop]; congr 1; omega
      rw [this]; exact i5
theorem err_facts {l : Bytes} {q e : Nat} (h : scanAll l = .error (q, e)) : q < l.length ∧ (e = 2 ∨ e = 3 ∨ e = 10) ∧ (∃ ts, scanAll (l.take q) = .ok ts) ∧ scanAll (l.drop q) = .error (0, e) := by
 obtain ⟨_, h2, h3, ⟨ts, h4⟩, h5⟩ := scan_err (scanAll_scan l) q e h
 rw [Nat.sub_zero] at h4 h5
 exact ⟨by omega, h3, ⟨ts, scanAll_of h4⟩, scanAll_of h5⟩
/-! ### printing -/
def GoodT (t : Tok) : Prop := 1 ≤ (tokText t).length ∧ gapC false (tokText t) = 0 ∧ ∀ z, stops t z → nextT (tokText t ++ z) = .ok (t.at 0, (tokText t).length)
theorem tokText_at (t : Tok) (p : Nat) : tokText (t.at p) = tokText t := rfl
theorem at_at (t : Tok) (p q : Nat) : (t.at p).at q = t.at q := rfl
theorem at_zero {t : Tok} (h : t.pos = 0) : t.at 0 = t := by cases t; simp at h; subst h; rfl
theorem good_of_next {c : UInt8} {r : Bytes} {t : Tok} {n : Nat} {l : Bytes} {b : Bool} (h : l.drop (gapC b l) = c :: r) (hn : nextT (c :: r) = .ok (t, n)) (p : Nat) : GoodT (t.at p) := by
  obtain ⟨g1, g2, g3, g4, g5, g6, g7, g8, g9⟩ := nextT_ok hn
  obtain ⟨s1, s2⟩ := gapC_stop _ _ h
  refine ⟨by rw [tokText_at, ← g4]; exact g1, ?_, ?_⟩
  · rw [tokText_at, ← g3]
    obtain ⟨m, rfl⟩ : ∃ m, n = m + 1 := ⟨n - 1, by omega⟩
    rw [List.take_succ_cons]; exact gapC_zero s1 s2
  · intro z hz
    rw [at_at, at_zero g5, tokText_at, ← g4]
    exact g9 z hz
theorem scan_good {p : Nat} {l : Bytes} {a : Except (Nat × Nat) (List Tok)} (h : Scan p l a) : ∀ ts, a = .ok ts → (∀ t ∈ ts, GoodT t) ∧ (printL ts).length ≤ 2 * l.length := by
  induction h with
  | done p l h => intro ts k; cases k; simp [printL]
  | bad p l c r e h hn => intro ts k; cases k
  | late p l c r t n x h hn hs ih => intro ts k; cases k
  | tok p l c r t n ts h hn hs ih =>
    intro us k
    cases k
    obtain ⟨i1, i2⟩ := ih ts rfl
    obtain ⟨g1, g2, g3, g4, -⟩ := nextT_ok hn
    have hlen : (c :: r).length = l.length - gapC false l := by rw [← h]; simp
    have hlt := gap_lt_of_cons h
    refine ⟨?_, ?_⟩
    · intro u hu
      rcases List.mem_cons.1 hu with rfl | hu
      · exact good_of_next h hn _
      · exact i1 u hu
    · rw [List.length_drop] at i2
      cases ts with
      | nil => simp only [printL, tokText_at]; omega
      | cons u us => simp only [printL, tokText_at, List.length_append, List.length_cons]; omega
theorem isInner32 : isInner 32 = false := by decide
theorem gap_app_zero {l z : Bytes} (h : gapC false l = 0) (h1 : 1 ≤ l.length) : gapC false (l ++ z) = 0 := by rw [gapC_app _ _ _ (by omega), h]
theorem scan_print : ∀ (ts : List Tok), (∀ t ∈ ts, GoodT t) → ∀ p, ∃ us, Scan p (printL ts) (.ok us) ∧ us.map (fun t => t.at 0) = ts.map (fun t => t.at 0)
  | [], _, p => ⟨[], Scan.done p _ rfl, rfl⟩
  | [t], h, p => by
    obtain ⟨g1, g2, g3⟩ := h t (by simp)
    have h3 := g3 [] (stops_nil t)
    rw [List.append_nil] at h3
    match hx : tokText t, g1 with
    | c :: r, _ =>
      rw [hx] at g2 h3
      refine ⟨[(t.at 0).at (p + gapC false (c :: r))], ?_, rfl⟩
      simp only [printL, hx]
      refine Scan.tok p (c :: r) c r (t.at 0) _ [] (by rw [g2]; rfl) h3 ?_
      rw [List.drop_length]; exact Scan.done _ _ rfl
  | t :: u :: r, h, p => by
    obtain ⟨g1, g2, g3⟩ := h t (by simp)
    have h3 := g3 (32 :: printL (u :: r)) (stops_plain t isInner32 _)
    have hg := gap_app_zero (z := 32 :: printL (u :: r)) g2 g1
    obtain ⟨us, i1, i2⟩ := scan_print (u :: r) (fun x hx => h x (by simp at hx ⊢; exact .inr hx)) (p + (tokText t).length + 1)
    match hx : tokText t, g1 with
    | c :: q, _ =>
      rw [hx] at hg h3 i1
      refine ⟨(t.at 0).at (p + 0) :: us, ?_, by simp [at_at, i2]⟩
      simp only [printL, hx]
      have := Scan.tok p (c :: q ++ 32 :: printL (u :: r)) c (q ++ 32 :: printL (u :: r)) (t.at 0) (c :: q).length us (by rw [hg]; rfl) h3 ?_
      · rw [hg] at this; exact this
      · rw [hg, ← List.cons_append, List.drop_append, List.drop_length, Nat.sub_self]
        refine scan_shift_gap (d := 1) ?_ ?_ (by simp)
        · simp [gapC, isBlank, Nat.add_comm]
        · exact i1
theorem printL_like (ts us : List Tok) (h : us.map (fun t => t.at 0) = ts.map (fun t => t.at 0)) : printL us = printL ts := by
 induction ts generalizing us with
 | nil => simp at h; subst h; rfl
 | cons t r ih =>
  cases us with
  | nil => simp at h
  | cons u s =>
   simp only [List.map_cons, List.cons.injEq] at h
   have ht : tokText u = tokText t := by rw [← tokText_at u 0, h.1, tokText_at]
   have hr := ih s h.2
   cases r with
   | nil => cases s with
    | nil => simp [printL, ht]
    | cons a b => simp at h
   | cons a b => cases s with
    | nil => simp at h
    | cons a' b' => simp only [printL, ht]; rw [hr]
theorem back_facts {l : Bytes} {ts : List Tok} (h : scanAll l = .ok ts) : (printL ts).length ≤ 2 * l.length ∧ ∃ us, scanAll (printL ts) = .ok us ∧ us.map (fun t => t.at 0) = ts.map (fun t => t.at 0) ∧ printL us = printL ts := by
 have hs := scanAll_scan l
 rw [h] at hs
 obtain ⟨g1, g2⟩ := scan_good hs ts rfl
 obtain ⟨us, s1, s2⟩ := scan_print ts g1 0
 exact ⟨g2, us, scanAll_of s1, s2, printL_like ts us s2⟩
theorem scan_count {p : Nat} {l : Bytes} {a : Except (Nat × Nat) (List Tok)} (h : Scan p l a) : ∀ ts, a = .ok ts → ts.length ≤ l.length := by
 induction h with
 | done p l h => intro ts k; cases k; simp
 | bad p l c r e h hn => intro ts k; cases k
 | late p l c r t n x h hn hs ih => intro ts k; cases k
 | tok p l c r t n ts h hn hs ih =>
  intro us k
  cases k
  have i1 := ih ts rfl
  obtain ⟨g1, g2, -⟩ := nextT_ok hn
  have hlen : (c :: r).length = l.length - gapC false l := by rw [← h]; simp
  have hlt := gap_lt_of_cons h
  rw [List.length_drop] at i1
  simp only [List.length_cons] at *; omega
theorem escBody_ge (l : Bytes) : l.length ≤ (escBody l).length := by
 induction l with
 | nil => simp
 | cons c r ih => rw [escBody_cons]; split <;> simp <;> omega
theorem text_le (t : Tok) : t.text.length ≤ (tokText t).length := by
  unfold tokText; split
  · have := escBody_ge t.text; simp [escL]; omega
  · omega
theorem count_le {l : Bytes} {ts : List Tok} (h : scanAll l = .ok ts) : ts.length ≤ l.length := by
 have hs := scanAll_scan l; rw [h] at hs; exact scan_count hs ts rfl
/-! ### places -/
/-! ### quotes, names, numbers -/
theorem next_quote (v : Bytes) (h : quoteOk v = true) : nextT (escL v) = .ok (⟨2, v, 0, 0⟩, (escL v).length) := by
 simp only [quoteOk, Bool.and_eq_true, decide_eq_true_eq] at h
 rw [escL, nextT, if_neg (by decide), if_neg (by decide), if_pos rfl]
 simp only [quotedT, List.tail_cons, unq_esc v [] h.2]
 rw [if_neg (by omega)]; simp
theorem scan_one {l : Bytes} {c : UInt8} {r : Bytes} (hl : l = c :: r) {t : Tok} (h : nextT l = .ok (t, l.length)) (hg : gapC false l = 0) : scanAll l = .ok [t.at 0] := by
 subst hl
 refine scanAll_of ?_
 have := Scan.tok 0 (c :: r) c r t (c :: r).length [] (by rw [hg]; rfl) h (by rw [List.drop_length]; exact Scan.done _ _ rfl)
 rw [hg] at this; exact this
theorem scan_quote (v : Bytes) (h : quoteOk v = true) : scanAll (escL v) = .ok [⟨2, v, 0, 0⟩] := scan_one (t := ⟨2, v, 0, 0⟩) rfl (next_quote v h) (gapC_zero (by decide) (by decide))
theorem scan_name (l : Bytes) (h : nameOk l = true) : scanAll l = .ok [⟨0, l, 0, 0⟩] := by
  match l, h with
  | c :: r, h =>
    have h0 := h
    simp only [nameOk, Bool.and_eq_true, decide_eq_true_eq] at h
    obtain ⟨⟨h1, h2⟩, h3⟩ := h
    have hw := takeWhile_all _ _ h3
    refine scan_one (t := ⟨0, c :: r, 0, 0⟩) rfl (by rw [nextT, if_pos h1, hw, if_pos h0]) (gapC_zero ?_ ?_)
    · simp [isLetter, isBlank] at h1 ⊢; omega
    · rintro rfl; revert h1; decide
theorem digit_not_letter {c : UInt8} (h : isDigit c = true) : isLetter c = false := by simp [isDigit, isLetter] at h ⊢; omega
theorem numOf_some {l : Bytes} {n : Nat} (h : numOf l = some n) : l ≠ [] ∧ l.all isDigit = true ∧ n = numVal l ∧ n ≤ 1099511627776 := by
  unfold numOf at h
  split at h
  · cases h
  · rename_i h1
    split at h
    · cases h
    · rename_i h2
      simp only [Option.some.injEq] at h
      simp only [not_or] at h1
      exact ⟨h1.1, by simpa using h1.2.1, h.symm, by omega⟩
theorem scan_number (l : Bytes) {n : Nat} (h : numOf l = some n) : scanAll l = .ok [⟨1, l, n, 0⟩] := by
  obtain ⟨h1, h2, -⟩ := numOf_some h
  match l, h1 with
  | c :: r, _ =>
    have hw := takeWhile_all _ _ h2
    have hc : isDigit c = true := by simp at h2; exact h2.1
    have hl := digit_not_letter hc
    refine scan_one (t := ⟨1, c :: r, n, 0⟩) rfl (by rw [nextT, if_neg (by simp [hl]), if_pos hc, hw, h]) (gapC_zero ?_ ?_)
    · simp [isDigit, isBlank] at hc ⊢; omega
    · rintro rfl; revert hc; decide
end Go.Proofs.YtckgmilmhofekaaGreatDoor
