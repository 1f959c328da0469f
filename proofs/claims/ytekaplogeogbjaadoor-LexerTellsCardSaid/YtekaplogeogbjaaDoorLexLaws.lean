/- What the lexer's statements say of its plain answer: no Go in sight. -/
import Derived.Test.YtekaplogeogbjaaDoorLexSpec
namespace Go.Proofs.YtekaplogeogbjaaDoor

theorem drop_app_le (l z : Bytes) {n : Nat} (h : n ≤ l.length) : (l ++ z).drop n = l.drop n ++ z := by
  rw [List.drop_append]; simp [Nat.sub_eq_zero_of_le h]

theorem gap_lt_of_cons {b : Bool} {l : Bytes} {c : UInt8} {r : Bytes} (h : l.drop (gapC b l) = c :: r) : gapC b l < l.length := by
  have : (l.drop (gapC b l)).length = (c :: r).length := by rw [h]
  simp at this; omega

/-! ### joins -/
def sewn (ts : List Tok) : Except (Nat × Nat) (List Tok) → Except (Nat × Nat) (List Tok)
  | .ok us => .ok (ts ++ us)
  | .error e => .error e

theorem scan_shift_gap {p d : Nat} {y : Bytes} (hd : gapC false y = d + gapC false (y.drop d)) {b : Except (Nat × Nat) (List Tok)} (h : Scan (p + d) (y.drop d) b) (hl : d ≤ y.length) : Scan p y b := by
  have hdd : y.drop (gapC false y) = (y.drop d).drop (gapC false (y.drop d)) := by rw [List.drop_drop, ← hd]
  generalize hz : y.drop d = z at *
  generalize hq : p + d = q at *
  have hzl : z.length = y.length - d := by rw [← hz]; simp
  cases h with
  | done => rename_i h; exact Scan.done p y (by rw [hd, h, hzl]; omega)
  | bad =>
    rename_i hn h
    have : q + gapC false z = p + gapC false y := by omega
    rw [this]; exact Scan.bad p y _ _ _ (hdd.trans h) hn
  | tok =>
    rename_i hn h hs
    have : q + gapC false z = p + gapC false y := by omega
    rw [this] at hs ⊢; exact Scan.tok p y _ _ _ _ _ (hdd.trans h) hn hs
  | late =>
    rename_i hn h hs
    have : q + gapC false z = p + gapC false y := by omega
    rw [this] at hs; exact Scan.late p y _ _ _ _ _ (hdd.trans h) hn hs

theorem scan_join {p : Nat} {x : Bytes} {a : Except (Nat × Nat) (List Tok)} (h : Scan p x a) (y : Bytes) :
    (∀ e, a = .error e → Scan p (x ++ 10 :: y) (.error e)) ∧ (∀ ts, a = .ok ts → ∀ b, Scan (p + x.length + 1) y b → Scan p (x ++ 10 :: y) (sewn ts b)) := by
  induction h with
  | done p l h =>
    refine ⟨(fun e k => by cases k), fun ts k b hb => ?_⟩
    cases k
    have hg := gapC_app_nl false l y h
    have hs : sewn [] b = b := by cases b <;> rfl
    have hdr : (l ++ 10 :: y).drop (l.length + 1) = y := by
      rw [List.drop_append]; simp
    rw [hs]
    refine scan_shift_gap (d := l.length + 1) (by rw [hg, hdr]) (by rw [hdr, ← Nat.add_assoc]; exact hb) (by simp)
  | bad p l c r e h hn =>
    have hlt := gap_lt_of_cons h
    have hg := gapC_app false l (10 :: y) hlt
    refine ⟨fun e' k => ?_, fun ts k => by cases k⟩
    cases k
    have := Scan.bad p (l ++ 10 :: y) c (r ++ 10 :: y) e (by rw [hg, drop_app_le _ _ (by omega), h]; rfl) (by rw [← List.cons_append, nextT_app_nl]; exact hn)
    rwa [hg] at this
  | tok p l c r t n ts h hn hs ih =>
    have hlt := gap_lt_of_cons h
    have hg := gapC_app false l (10 :: y) hlt
    obtain ⟨g1, g2, -⟩ := nextT_ok hn
    refine ⟨(fun e k => by cases k), fun us k b hb => ?_⟩
    cases k
    have hlen : p + gapC false l + n + ((c :: r).drop n).length + 1 = p + l.length + 1 := by
      have : (l.drop (gapC false l)).length = (c :: r).length := by rw [h]
      rw [List.length_drop] at this ⊢; omega
    have h2 := ih.2 ts rfl b (by rw [hlen]; exact hb)
    have hd : (l ++ 10 :: y).drop (gapC false (l ++ 10 :: y)) = c :: (r ++ 10 :: y) := by rw [hg, drop_app_le _ _ (by omega), h]; rfl
    have hn' : nextT (c :: (r ++ 10 :: y)) = .ok (t, n) := by rw [← List.cons_append, nextT_app_nl]; exact hn
    have hdn : (c :: (r ++ 10 :: y)).drop n = (c :: r).drop n ++ 10 :: y := by rw [← List.cons_append, drop_app_le _ _ g2]
    cases b with
    | ok us =>
      have := Scan.tok p (l ++ 10 :: y) c _ t n (ts ++ us) hd hn' (by rw [hg, hdn]; exact h2)
      rw [hg] at this; exact this
    | error e =>
      have := Scan.late p (l ++ 10 :: y) c _ t n e hd hn' (by rw [hg, hdn]; exact h2)
      exact this
  | late p l c r t n x h hn hs ih =>
    have hlt := gap_lt_of_cons h
    have hg := gapC_app false l (10 :: y) hlt
    obtain ⟨g1, g2, -⟩ := nextT_ok hn
    refine ⟨fun e k => ?_, fun ts k => by cases k⟩
    cases k
    have h2 := ih.1 x rfl
    have hd : (l ++ 10 :: y).drop (gapC false (l ++ 10 :: y)) = c :: (r ++ 10 :: y) := by rw [hg, drop_app_le _ _ (by omega), h]; rfl
    have hn' : nextT (c :: (r ++ 10 :: y)) = .ok (t, n) := by rw [← List.cons_append, nextT_app_nl]; exact hn
    have hdn : (c :: (r ++ 10 :: y)).drop n = (c :: r).drop n ++ 10 :: y := by rw [← List.cons_append, drop_app_le _ _ g2]
    exact Scan.late p (l ++ 10 :: y) c _ t n x hd hn' (by rw [hg, hdn]; exact h2)

def shifted (d : Nat) : Except (Nat × Nat) (List Tok) → Except (Nat × Nat) (List Tok)
  | .ok us => .ok (us.map fun t => t.at (t.pos + d))
  | .error e => .error (e.1 + d, e.2)

theorem scan_shift {p : Nat} {l : Bytes} {a : Except (Nat × Nat) (List Tok)} (h : Scan p l a) (d : Nat) : Scan (p + d) l (shifted d a) := by
  induction h with
  | done p l h => exact Scan.done _ l h
  | bad p l c r e h hn =>
    have := Scan.bad (p + d) l c r e h hn
    rw [show p + d + gapC false l = p + gapC false l + d from by omega] at this; exact this
  | tok p l c r t n ts h hn hs ih =>
    have := Scan.tok (p + d) l c r t n _ h hn (by rw [show p + d + gapC false l + n = p + gapC false l + n + d from by omega]; exact ih)
    rw [show p + d + gapC false l = p + gapC false l + d from by omega] at this; exact this
  | late p l c r t n x h hn hs ih =>
    exact Scan.late (p + d) l c r t n _ h hn (by rw [show p + d + gapC false l + n = p + gapC false l + n + d from by omega]; exact ih)

theorem join_error {x y : Bytes} {e : Nat × Nat} (h : scanAll x = .error e) : scanAll (x ++ 10 :: y) = .error e :=
  scanAll_of ((scan_join (scanAll_scan x) y).1 e h)

theorem join_ok {x y : Bytes} {ts : List Tok} (h : scanAll x = .ok ts) : scanAll (x ++ 10 :: y) = sewn ts (shifted (x.length + 1) (scanAll y)) := by
  refine scanAll_of ((scan_join (scanAll_scan x) y).2 ts h _ ?_)
  have := scan_shift (scanAll_scan y) (x.length + 1)
  rw [Nat.zero_add] at this; rw [Nat.zero_add]; exact this

/-! ### errors -/
theorem nextT_err {l : Bytes} {c : UInt8} {r : Bytes} {e : Nat} (hl : l = c :: r) (h : nextT l = .error e) : e = 2 ∨ e = 3 ∨ e = 10 := by
  subst hl
  rw [nextT] at h
  repeat' split at h
  all_goals first | (cases h; done) | (cases h; simp)

theorem scan_err {p : Nat} {l : Bytes} {a : Except (Nat × Nat) (List Tok)} (h : Scan p l a) : ∀ q e, a = .error (q, e) →
    p ≤ q ∧ q < p + l.length ∧ (e = 2 ∨ e = 3 ∨ e = 10) ∧ (∃ ts, Scan p (l.take (q - p)) (.ok ts)) ∧ Scan 0 (l.drop (q - p)) (.error (0, e)) := by
  induction h with
  | done p l h => intro q e k; cases k
  | bad p l c r e h hn =>
    intro q e' k
    cases k
    have hlt := gap_lt_of_cons h
    obtain ⟨s1, s2⟩ := gapC_stop _ _ h
    have hz := gapC_zero (r := r) s1 s2
    refine ⟨by omega, by omega, nextT_err rfl hn, ⟨[], Scan.done _ _ ?_⟩, ?_⟩
    · rw [show p + gapC false l - p = gapC false l from by omega, gapC_take]; simp [Nat.min_eq_left (Nat.le_of_lt hlt)]
    · rw [show p + gapC false l - p = gapC false l from by omega, h]
      have := Scan.bad 0 (c :: r) c r e (by rw [hz]; rfl) hn
      rw [hz] at this; exact this
  | tok p l c r t n ts h hn hs ih => intro q e k; cases k
  | late p l c r t n x h hn hs ih =>
    intro q e k
    cases k
    have hlt := gap_lt_of_cons h
    obtain ⟨g1, g2, g3, g4, g5, g6, g7, g8, g9⟩ := nextT_ok hn
    obtain ⟨i1, i2, i3, ⟨us, i4⟩, i5⟩ := ih q e rfl
    have hlen : (c :: r).length = l.length - gapC false l := by rw [← h]; simp
    rw [List.length_drop] at i2
    refine ⟨by omega, by omega, i3, ⟨t.at (p + gapC false l) :: us, ?_⟩, ?_⟩
    · have hg : gapC false (l.take (q - p)) = gapC false l := by rw [gapC_take]; omega
      have hd : (l.take (q - p)).drop (gapC false l) = (c :: r).take (q - p - gapC false l) := by rw [List.drop_take, h]
      obtain ⟨m, hm⟩ : ∃ m, q - p - gapC false l = m + 1 := ⟨q - p - gapC false l - 1, by omega⟩
      have hsplit : (c :: r).take (m + 1) = tokText t ++ ((c :: r).drop n).take (m + 1 - n) := by
        rw [← g3]
        conv => lhs; rw [← List.take_append_drop n (c :: r)]
        rw [List.take_append]; simp only [List.length_take, Nat.min_eq_left g2]
        rw [List.take_of_length_le (by simp only [List.length_take]; omega)]
      have hn' : nextT ((c :: r).take (m + 1)) = .ok (t, n) := by rw [hsplit]; exact g9 _ (stops_take t g8 _)
      have hdn : ((c :: r).take (m + 1)).drop n = ((c :: r).drop n).take (q - (p + gapC false l + n)) := by
        rw [List.drop_take]; congr 1; omega
      have := Scan.tok p (l.take (q - p)) c (r.take m) t n us (by rw [hg, hd, hm]; rfl) (by rw [← List.take_succ_cons]; exact hn') (by rw [hg, ← List.take_succ_cons, hdn]; exact i4)
      rw [hg] at this; exact this
    · have : l.drop (q - p) = ((c :: r).drop n).drop (q - (p + gapC false l + n)) := by
        rw [← h, List.drop_drop, List.drop_drop]; congr 1; omega
      rw [this]; exact i5

theorem err_facts {l : Bytes} {q e : Nat} (h : scanAll l = .error (q, e)) : q < l.length ∧ (e = 2 ∨ e = 3 ∨ e = 10) ∧ (∃ ts, scanAll (l.take q) = .ok ts) ∧ scanAll (l.drop q) = .error (0, e) := by
  obtain ⟨_, h2, h3, ⟨ts, h4⟩, h5⟩ := scan_err (scanAll_scan l) q e h
  rw [Nat.sub_zero] at h4 h5
  exact ⟨by omega, h3, ⟨ts, scanAll_of h4⟩, scanAll_of h5⟩

theorem scan_blanks (l : Bytes) (hl : ∀ c ∈ l, c = 32) : scanAll l = .ok [] := by
  refine scanAll_of (Scan.done _ _ ?_)
  induction l with
  | nil => rfl
  | cons c r ih =>
    have := hl c (by simp)
    subst this
    have := ih fun c hc => hl c (by simp [hc])
    simp [gapC, isBlank, this]

/-! ### printing -/
def GoodT (t : Tok) : Prop := 1 ≤ (tokText t).length ∧ gapC false (tokText t) = 0 ∧ ∀ z, stops t z → nextT (tokText t ++ z) = .ok (t.at 0, (tokText t).length)

theorem tokText_at (t : Tok) (p : Nat) : tokText (t.at p) = tokText t := rfl
theorem at_at (t : Tok) (p q : Nat) : (t.at p).at q = t.at q := rfl
theorem at_zero {t : Tok} (h : t.pos = 0) : t.at 0 = t := by cases t; simp at h; subst h; rfl
theorem stops_at (t : Tok) (p : Nat) (z : Bytes) : stops (t.at p) z ↔ stops t z := Iff.rfl

theorem good_of_next {c : UInt8} {r : Bytes} {t : Tok} {n : Nat} {l : Bytes} {b : Bool} (h : l.drop (gapC b l) = c :: r) (hn : nextT (c :: r) = .ok (t, n)) (p : Nat) : GoodT (t.at p) := by
  obtain ⟨g1, g2, g3, g4, g5, g6, g7, g8, g9⟩ := nextT_ok hn
  obtain ⟨s1, s2⟩ := gapC_stop _ _ h
  refine ⟨by rw [tokText_at, ← g4]; exact g1, ?_, ?_⟩
  · rw [tokText_at, ← g3]
    obtain ⟨m, rfl⟩ : ∃ m, n = m + 1 := ⟨n - 1, by omega⟩
    rw [List.take_succ_cons]; exact gapC_zero s1 s2
  · intro z hz
    rw [at_at, at_zero g5, tokText_at, ← g4]
    exact g9 z hz

theorem scan_good {p : Nat} {l : Bytes} {a : Except (Nat × Nat) (List Tok)} (h : Scan p l a) : ∀ ts, a = .ok ts → (∀ t ∈ ts, GoodT t) ∧ (printL ts).length ≤ 2 * l.length := by
  induction h with
  | done p l h => intro ts k; cases k; simp [printL]
  | bad p l c r e h hn => intro ts k; cases k
  | late p l c r t n x h hn hs ih => intro ts k; cases k
  | tok p l c r t n ts h hn hs ih =>
    intro us k
    cases k
    obtain ⟨i1, i2⟩ := ih ts rfl
    obtain ⟨g1, g2, g3, g4, -⟩ := nextT_ok hn
    have hlen : (c :: r).length = l.length - gapC false l := by rw [← h]; simp
    have hlt := gap_lt_of_cons h
    refine ⟨?_, ?_⟩
    · intro u hu
      rcases List.mem_cons.1 hu with rfl | hu
      · exact good_of_next h hn _
      · exact i1 u hu
    · rw [List.length_drop] at i2
      cases ts with
      | nil => simp only [printL, tokText_at]; omega
      | cons u us => simp only [printL, tokText_at, List.length_append, List.length_cons]; omega

theorem isInner32 : isInner 32 = false := by decide

theorem gap_app_zero {l z : Bytes} (h : gapC false l = 0) (h1 : 1 ≤ l.length) : gapC false (l ++ z) = 0 := by rw [gapC_app _ _ _ (by omega), h]

theorem scan_print : ∀ (ts : List Tok), (∀ t ∈ ts, GoodT t) → ∀ p, ∃ us, Scan p (printL ts) (.ok us) ∧ us.map (fun t => t.at 0) = ts.map (fun t => t.at 0)
  | [], _, p => ⟨[], Scan.done p _ rfl, rfl⟩
  | [t], h, p => by
    obtain ⟨g1, g2, g3⟩ := h t (by simp)
    have h3 := g3 [] (stops_nil t)
    rw [List.append_nil] at h3
    match hx : tokText t, g1 with
    | c :: r, _ =>
      rw [hx] at g2 h3
      refine ⟨[(t.at 0).at (p + gapC false (c :: r))], ?_, rfl⟩
      simp only [printL, hx]
      refine Scan.tok p (c :: r) c r (t.at 0) _ [] (by rw [g2]; rfl) h3 ?_
      rw [List.drop_length]; exact Scan.done _ _ rfl
  | t :: u :: r, h, p => by
    obtain ⟨g1, g2, g3⟩ := h t (by simp)
    have h3 := g3 (32 :: printL (u :: r)) (stops_plain t isInner32 _)
    have hg := gap_app_zero (z := 32 :: printL (u :: r)) g2 g1
    obtain ⟨us, i1, i2⟩ := scan_print (u :: r) (fun x hx => h x (by simp at hx ⊢; exact .inr hx)) (p + (tokText t).length + 1)
    match hx : tokText t, g1 with
    | c :: q, _ =>
      rw [hx] at hg h3 i1
      refine ⟨(t.at 0).at (p + 0) :: us, ?_, by simp [at_at, i2]⟩
      simp only [printL, hx]
      have := Scan.tok p (c :: q ++ 32 :: printL (u :: r)) c (q ++ 32 :: printL (u :: r)) (t.at 0) (c :: q).length us (by rw [hg]; rfl) h3 ?_
      · rw [hg] at this; exact this
      · rw [hg, ← List.cons_append, List.drop_append, List.drop_length, Nat.sub_self]
        refine scan_shift_gap (d := 1) ?_ ?_ (by simp)
        · simp [gapC, isBlank, Nat.add_comm]
        · exact i1

theorem printL_like (ts us : List Tok) (h : us.map (fun t => t.at 0) = ts.map (fun t => t.at 0)) : printL us = printL ts := by
  induction ts generalizing us with
  | nil => simp at h; subst h; rfl
  | cons t r ih =>
    cases us with
    | nil => simp at h
    | cons u s =>
      simp only [List.map_cons, List.cons.injEq] at h
      have ht : tokText u = tokText t := by rw [← tokText_at u 0, h.1, tokText_at]
      have hr := ih s h.2
      cases r with
      | nil => cases s with
        | nil => simp [printL, ht]
        | cons a b => simp at h
      | cons a b => cases s with
        | nil => simp at h
        | cons a' b' => simp only [printL, ht]; rw [hr]

theorem back_facts {l : Bytes} {ts : List Tok} (h : scanAll l = .ok ts) : (printL ts).length ≤ 2 * l.length ∧ ∃ us, scanAll (printL ts) = .ok us ∧ us.map (fun t => t.at 0) = ts.map (fun t => t.at 0) ∧ printL us = printL ts := by
  have hs := scanAll_scan l
  rw [h] at hs
  obtain ⟨g1, g2⟩ := scan_good hs ts rfl
  obtain ⟨us, s1, s2⟩ := scan_print ts g1 0
  exact ⟨g2, us, scanAll_of s1, s2, printL_like ts us s2⟩

theorem scan_count {p : Nat} {l : Bytes} {a : Except (Nat × Nat) (List Tok)} (h : Scan p l a) : ∀ ts, a = .ok ts → ts.length ≤ l.length := by
  induction h with
  | done p l h => intro ts k; cases k; simp
  | bad p l c r e h hn => intro ts k; cases k
  | late p l c r t n x h hn hs ih => intro ts k; cases k
  | tok p l c r t n ts h hn hs ih =>
    intro us k
    cases k
    have i1 := ih ts rfl
    obtain ⟨g1, g2, -⟩ := nextT_ok hn
    have hlen : (c :: r).length = l.length - gapC false l := by rw [← h]; simp
    have hlt := gap_lt_of_cons h
    rw [List.length_drop] at i1
    simp only [List.length_cons] at *; omega
theorem escBody_ge (l : Bytes) : l.length ≤ (escBody l).length := by
  induction l with
  | nil => simp
  | cons c r ih => rw [escBody_cons]; split <;> simp <;> omega
theorem text_le (t : Tok) : t.text.length ≤ (tokText t).length := by
  unfold tokText; split
  · have := escBody_ge t.text; simp [escL]; omega
  · omega
theorem tok_le_print : ∀ (ts : List Tok) (t : Tok), t ∈ ts → (tokText t).length ≤ (printL ts).length
  | [], t, h => by simp at h
  | [u], t, h => by simp at h; subst h; simp [printL]
  | u :: v :: r, t, h => by
    simp only [printL, List.length_append, List.length_cons]
    rcases List.mem_cons.1 h with rfl | h
    · omega
    · have := tok_le_print (v :: r) t h; omega
theorem count_le {l : Bytes} {ts : List Tok} (h : scanAll l = .ok ts) : ts.length ≤ l.length := by
  have hs := scanAll_scan l; rw [h] at hs; exact scan_count hs ts rfl

/-! ### places -/
def idleP (l : Bytes) : Prop := gapC false l = l.length

def placed : Nat → List Tok → Bytes → Prop
  | e, [], T => idleP (T.drop e) ∧ e ≤ T.length
  | e, t :: ts, T => e ≤ t.pos ∧ t.pos + (tokText t).length ≤ T.length ∧ (t.kind ≠ 1 → t.n = 0) ∧ 1 ≤ (tokText t).length ∧ (T.drop t.pos).take (tokText t).length = tokText t ∧ t.kind ≤ 3 ∧ idleP ((T.drop e).take (t.pos - e)) ∧ placed (t.pos + (tokText t).length) ts T

theorem scan_placed {p : Nat} {l : Bytes} {a : Except (Nat × Nat) (List Tok)} (h : Scan p l a) : ∀ T : Bytes, l = T.drop p → p ≤ T.length → ∀ ts, a = .ok ts → placed p ts T := by
  induction h with
  | done p l h => intro T hT hp ts k; cases k; exact ⟨by rw [← hT]; exact h, hp⟩
  | bad p l c r e h hn => intro T hT hp ts k; cases k
  | late p l c r t n x h hn hs ih => intro T hT hp ts k; cases k
  | tok p l c r t n ts h hn hs ih =>
    intro T hT hp us k
    cases k
    obtain ⟨g1, g2, g3, g4, g5, g6, g7, g8, g9⟩ := nextT_ok hn
    have hlen : (c :: r).length = l.length - gapC false l := by rw [← h]; simp
    have hlt := gap_lt_of_cons h
    have hTl : l.length = T.length - p := by rw [hT]; simp
    have hd : T.drop (p + gapC false l) = c :: r := by rw [← h, hT, List.drop_drop]
    have hi := ih T (by rw [← hd, List.drop_drop]) (by omega) ts rfl
    refine ⟨?_, ?_, g7, ?_, ?_, g6, ?_, ?_⟩
    · show p ≤ p + gapC false l; omega
    · show p + gapC false l + (tokText t).length ≤ _; omega
    · rw [tokText_at]; omega
    · show (T.drop (p + gapC false l)).take (tokText t).length = tokText t
      rw [hd, ← g4]; exact g3
    · show idleP ((T.drop p).take (p + gapC false l - p))
      rw [← hT, show p + gapC false l - p = gapC false l from by omega, idleP, gapC_take]; simp
    · show placed (p + gapC false l + (tokText t).length) ts T
      rw [← g4]; exact hi

theorem place_facts {l : Bytes} {ts : List Tok} (h : scanAll l = .ok ts) : placed 0 ts l := scan_placed (scanAll_scan l) l rfl (Nat.zero_le _) ts h

/-! ### quotes, names, numbers -/
theorem next_quote (v : Bytes) (h : quoteOk v = true) : nextT (escL v) = .ok (⟨2, v, 0, 0⟩, (escL v).length) := by
  simp only [quoteOk, Bool.and_eq_true, decide_eq_true_eq] at h
  rw [escL, nextT, if_neg (by decide), if_neg (by decide), if_pos rfl]
  simp only [quotedT, List.tail_cons, unq_esc v [] h.2]
  rw [if_neg (by omega)]; simp

theorem scan_one {l : Bytes} {c : UInt8} {r : Bytes} (hl : l = c :: r) {t : Tok} (h : nextT l = .ok (t, l.length)) (hg : gapC false l = 0) : scanAll l = .ok [t.at 0] := by
  subst hl
  refine scanAll_of ?_
  have := Scan.tok 0 (c :: r) c r t (c :: r).length [] (by rw [hg]; rfl) h (by rw [List.drop_length]; exact Scan.done _ _ rfl)
  rw [hg] at this; exact this

theorem scan_quote (v : Bytes) (h : quoteOk v = true) : scanAll (escL v) = .ok [⟨2, v, 0, 0⟩] := scan_one (t := ⟨2, v, 0, 0⟩) rfl (next_quote v h) (gapC_zero (by decide) (by decide))

theorem scan_name (l : Bytes) (h : nameOk l = true) : scanAll l = .ok [⟨0, l, 0, 0⟩] := by
  match l, h with
  | c :: r, h =>
    have h0 := h
    simp only [nameOk, Bool.and_eq_true, decide_eq_true_eq] at h
    obtain ⟨⟨h1, h2⟩, h3⟩ := h
    have hw := takeWhile_all _ _ h3
    refine scan_one (t := ⟨0, c :: r, 0, 0⟩) rfl (by rw [nextT, if_pos h1, hw, if_pos h0]) (gapC_zero ?_ ?_)
    · simp [isLetter, isBlank] at h1 ⊢; omega
    · rintro rfl; revert h1; decide

theorem digit_not_letter {c : UInt8} (h : isDigit c = true) : isLetter c = false := by simp [isDigit, isLetter] at h ⊢; omega

theorem numOf_some {l : Bytes} {n : Nat} (h : numOf l = some n) : l ≠ [] ∧ l.all isDigit = true ∧ n = numVal l ∧ n ≤ 1099511627776 := by
  unfold numOf at h
  split at h
  · cases h
  · rename_i h1
    split at h
    · cases h
    · rename_i h2
      simp only [Option.some.injEq] at h
      simp only [not_or] at h1
      exact ⟨h1.1, by simpa using h1.2.1, h.symm, by omega⟩

theorem scan_number (l : Bytes) {n : Nat} (h : numOf l = some n) : scanAll l = .ok [⟨1, l, n, 0⟩] := by
  obtain ⟨h1, h2, -⟩ := numOf_some h
  match l, h1 with
  | c :: r, _ =>
    have hw := takeWhile_all _ _ h2
    have hc : isDigit c = true := by simp at h2; exact h2.1
    have hl := digit_not_letter hc
    refine scan_one (t := ⟨1, c :: r, n, 0⟩) rfl (by rw [nextT, if_neg (by simp [hl]), if_pos hc, hw, h]) (gapC_zero ?_ ?_)
    · simp [isDigit, isBlank] at hc ⊢; omega
    · rintro rfl; revert hc; decide

theorem next_kind {l : Bytes} {t : Tok} {n : Nat} (h : nextT l = .ok (t, n)) : (t.kind = 0 → nameOk t.text = true) ∧ (t.kind = 1 → numOf t.text = some t.n) := by
  match l, h with
  | c :: r, h =>
    rw [nextT] at h
    split at h
    · split at h
      · rename_i hn
        cases h
        exact ⟨fun _ => hn, fun k => by cases k⟩
      · cases h
    · split at h
      · split at h
        · cases h
        · rename_i m hm
          cases h
          exact ⟨(fun k => by cases k), fun _ => hm⟩
      · split at h
        · split at h
          · cases h
          · cases h; exact ⟨(fun k => by cases k), (fun k => by cases k)⟩
        · split at h
          · cases h; exact ⟨(fun k => by cases k), (fun k => by cases k)⟩
          · cases h

theorem scan_kinds {p : Nat} {l : Bytes} {a : Except (Nat × Nat) (List Tok)} (h : Scan p l a) : ∀ ts, a = .ok ts → ∀ t ∈ ts, (t.kind = 0 → nameOk t.text = true) ∧ (t.kind = 1 → numOf t.text = some t.n) := by
  induction h with
  | done p l h => intro ts k; cases k; simp
  | bad p l c r e h hn => intro ts k; cases k
  | late p l c r t n x h hn hs ih => intro ts k; cases k
  | tok p l c r t n ts h hn hs ih =>
    intro us k
    cases k
    intro u hu
    rcases List.mem_cons.1 hu with rfl | hu
    · exact (next_kind hn : _)
    · exact ih ts rfl u hu

/-- A text is a name, or a number, exactly if its only token is the whole of it. -/
theorem name_iff (l : Bytes) : nameOk l = true ↔ ∃ t, scanAll l = .ok [t] ∧ t.text = l ∧ t.pos = 0 ∧ t.kind = 0 := by
  constructor
  · intro h; exact ⟨_, scan_name l h, rfl, rfl, rfl⟩
  · rintro ⟨t, h, h1, h2, h3⟩
    have := (scan_kinds (scanAll_scan l) [t] h t (by simp)).1 h3
    rwa [h1] at this

theorem number_iff (l : Bytes) (n : Nat) : numOf l = some n ↔ ∃ t, scanAll l = .ok [t] ∧ t.text = l ∧ t.pos = 0 ∧ t.kind = 1 ∧ t.n = n := by
  constructor
  · intro h; exact ⟨_, scan_number l h, rfl, rfl, rfl, rfl⟩
  · rintro ⟨t, h, h1, h2, h3, h4⟩
    have := (scan_kinds (scanAll_scan l) [t] h t (by simp)).2 h3
    rwa [h1, h4] at this

end Go.Proofs.YtekaplogeogbjaaDoor
