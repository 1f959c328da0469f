/- Scale: errors and intervals, whether there is one or not, in one contract each. -/
import Derived.Test.YtpjpkcelajbfnaaScaleH
namespace Go.Proofs.Ytpjpkcelajbfnaa
open Go.RowKit
variable {G : Nat}

/-- The parts of a fraction that may be none: then the zeros of api.Frac{}. -/
def oN : Option Rat → Int | none => 0 | some q => nu q
def oD : Option Rat → Int | none => 0 | some q => de q
def errO (c : Ct) (rd day : Int) : Option Rat := if hasE c rd day = true then some (errQ c rd day) else none
def ivl (cs : List Ct) (rs : List Rc) (sc rd day : Int) : Option (Rat × Rat) :=
  match findC cs sc day with
  | none => none
  | some g => match cs[g]? with
    | none => none
    | some c => if recalledB rs sc day = true then none else if inR rd 0 1099511627776 = true then some (loQ (errQ c rd day) rd, hiQ (errQ c rd day) rd) else none
def loO (cs : List Ct) (rs : List Rc) (sc rd day : Int) : Option Rat := (ivl cs rs sc rd day).map (·.1)
def hiO (cs : List Ct) (rs : List Rc) (sc rd day : Int) : Option Rat := (ivl cs rs sc rd day).map (·.2)
def hasI (cs : List Ct) (rs : List Rc) (sc rd day : Int) : Bool := (ivl cs rs sc rd day).isSome

theorem sz_zero (n : Nat) : Sz 0 n := by unfold Sz; simp [digs_zero]
theorem errO_size (c : Ct) (rd day : Int) : Sz (oN (errO c rd day)) 9 ∧ Sz (oD (errO c rd day)) 9 := by
  unfold errO
  by_cases h : hasE c rd day = true
  · rw [if_pos h]
    simp only [hasE, Bool.and_eq_true] at h
    exact errQ_size h.1 h.2
  · rw [if_neg h]; exact ⟨sz_zero _, sz_zero _⟩
theorem lo_size {e : Rat} {rd : Int} (h : Fz e 9) (h' : inR rd 0 1099511627776 = true) : Fz (loQ e rd) 14 := by
  have hb := in_bounds h'
  unfold loQ pick
  split
  · exact (Fz.int64 (x := 0) (by omega)).mono (by omega)
  · exact Fz.sub (n := 4) (Fz.int64 (by omega)) h
theorem hi_size {e : Rat} {rd : Int} (h : Fz e 9) (h' : inR rd 0 1099511627776 = true) : Fz (hiQ e rd) 14 := by
  have hb := in_bounds h'
  exact Fz.add (n := 4) (Fz.int64 (by omega)) h
theorem ivl_some {cs : List Ct} {rs : List Rc} {sc rd day : Int} {l h : Rat} (hi : ivl cs rs sc rd day = some (l, h)) :
    ∃ (g : Nat) (hg : g < cs.length), findC cs sc day = some g ∧ recalledB rs sc day = false ∧ inR rd 0 1099511627776 = true ∧ coversC cs[g] day = true ∧ l = loQ (errQ cs[g] rd day) rd ∧ h = hiQ (errQ cs[g] rd day) rd := by
  unfold ivl at hi
  split at hi
  · cases hi
  · rename_i g hg
    obtain ⟨hgl, -, hc⟩ := findC_is hg
    rw [List.getElem?_eq_getElem hgl] at hi
    simp only at hi
    split at hi
    · cases hi
    · split at hi
      · rename_i h1 h2
        simp only [Option.some.injEq, Prod.mk.injEq] at hi
        exact ⟨g, hgl, hg, by simpa using h1, h2, hc, hi.1.symm, hi.2.symm⟩
      · cases hi
theorem ivl_none {cs : List Ct} {rs : List Rc} {sc rd day : Int} (hi : ivl cs rs sc rd day = none) :
    findC cs sc day = none ∨ (∃ g, findC cs sc day = some g ∧ recalledB rs sc day = true) ∨ (∃ (g : Nat) (_ : g < cs.length), findC cs sc day = some g ∧ recalledB rs sc day = false ∧ inR rd 0 1099511627776 = false) := by
  unfold ivl at hi
  split at hi
  · rename_i h; exact .inl h
  · rename_i g hg
    obtain ⟨hgl, -, hc⟩ := findC_is hg
    rw [List.getElem?_eq_getElem hgl] at hi
    simp only at hi
    split at hi
    · rename_i h1; exact .inr (.inl ⟨g, hg, h1⟩)
    · rename_i h1
      split at hi
      · cases hi
      · rename_i h2; exact .inr (.inr ⟨g, hgl, hg, by simpa using h1, by simpa using h2⟩)
theorem ivl_size {cs : List Ct} {rs : List Rc} {sc rd day : Int} {l h : Rat} (hi : ivl cs rs sc rd day = some (l, h)) : Fz l 14 ∧ Fz h 14 := by
  obtain ⟨g, hg, -, -, h2, hc, rfl, rfl⟩ := ivl_some hi
  exact ⟨lo_size (errQ_size hc h2) h2, hi_size (errQ_size hc h2) h2⟩
theorem lo_sizes (cs : List Ct) (rs : List Rc) (sc rd day : Int) : Sz (oN (loO cs rs sc rd day)) 14 ∧ Sz (oD (loO cs rs sc rd day)) 14 := by
  unfold loO
  cases h : ivl cs rs sc rd day with
  | none => exact ⟨sz_zero _, sz_zero _⟩
  | some x => obtain ⟨l, r⟩ := x; exact (ivl_size h).1
theorem hi_sizes (cs : List Ct) (rs : List Rc) (sc rd day : Int) : Sz (oN (hiO cs rs sc rd day)) 14 ∧ Sz (oD (hiO cs rs sc rd day)) 14 := by
  unfold hiO
  cases h : ivl cs rs sc rd day with
  | none => exact ⟨sz_zero _, sz_zero _⟩
  | some x => obtain ⟨l, r⟩ := x; exact (ivl_size h).2

theorem scError_all {s f u n p d rd day : Int} {w : World} (hG : G ≤ w.heap.size) :
    Calls Try.prog 12 #[.agg #[.int .i64 s, .int .i64 f, .int .i64 u, .int .i64 n, .int .i64 p, .int .i64 d], .int .i64 rd, .int .i64 day] w fun e w' => ∃ a c b d', e = .returned (.tuple #[.agg #[.int .i64 (sg (oN (errO ⟨s, f, u, n, p, d⟩ rd day))), .slice a (ln (oN (errO ⟨s, f, u, n, p, d⟩ rd day))) c, .int .i64 (sg (oD (errO ⟨s, f, u, n, p, d⟩ rd day))), .slice b (ln (oD (errO ⟨s, f, u, n, p, d⟩ rd day))) d'], .bool (hasE ⟨s, f, u, n, p, d⟩ rd day)]) ∧ BD G w' a c (oN (errO ⟨s, f, u, n, p, d⟩ rd day)) ∧ BD G w' b d' (oD (errO ⟨s, f, u, n, p, d⟩ rd day)) ∧ Below w.heap.size w w' := by
  unfold errO hasE
  cases h1 : coversC ⟨s, f, u, n, p, d⟩ day with
  | false => exact (scError_no1 h1).mono fun e w' ⟨he, hb⟩ => ⟨none, 0, none, 0, he, bd_zero _ _ _, bd_zero _ _ _, hb⟩
  | true =>
    cases h2 : inR rd 0 1099511627776 with
    | false => exact (scError_no2 h1 h2).mono fun e w' ⟨he, hb⟩ => ⟨none, 0, none, 0, he, bd_zero _ _ _, bd_zero _ _ _, hb⟩
    | true => exact (scError_yes hG h1 h2).mono fun e w' ⟨a, c, b, d', he, hd, hb⟩ => ⟨a, c, b, d', he, hd.n, hd.d, hb⟩
theorem rcError_all {s f u n p d rd day : Int} {w : World} (hG : G ≤ w.heap.size) :
    Calls Try.prog 13 #[.agg #[.int .i64 s, .int .i64 f, .int .i64 u, .int .i64 n, .int .i64 p, .int .i64 d], .int .i64 rd, .int .i64 day] w fun e w' => ∃ a c b d', e = .returned (.tuple #[.agg #[.int .i64 (sg (oN (errO ⟨s, f, u, n, p, d⟩ rd day))), .slice a (ln (oN (errO ⟨s, f, u, n, p, d⟩ rd day))) c, .int .i64 (sg (oD (errO ⟨s, f, u, n, p, d⟩ rd day))), .slice b (ln (oD (errO ⟨s, f, u, n, p, d⟩ rd day))) d'], .bool (hasE ⟨s, f, u, n, p, d⟩ rd day)]) ∧ BD G w' a c (oN (errO ⟨s, f, u, n, p, d⟩ rd day)) ∧ BD G w' b d' (oD (errO ⟨s, f, u, n, p, d⟩ rd day)) ∧ Below w.heap.size w w' := by
  unfold errO hasE
  have hcv := covers_in ⟨s, f, u, n, p, d⟩ day
  cases h0 : rightC ⟨s, f, u, n, p, d⟩ with
  | false =>
    rw [h0, Bool.false_and] at hcv
    rw [hcv]
    exact (rcError_no1 h0).mono fun e w' ⟨he, hb⟩ => ⟨none, 0, none, 0, he, bd_zero _ _ _, bd_zero _ _ _, hb⟩
  | true =>
    rw [h0, Bool.true_and] at hcv
    cases h2 : inR rd 0 1099511627776 with
    | false =>
      rw [Bool.and_false]
      exact (rcError_no2 h0 h2).mono fun e w' ⟨he, hb⟩ => ⟨none, 0, none, 0, he, bd_zero _ _ _, bd_zero _ _ _, hb⟩
    | true =>
      cases h3 : inR day f u with
      | false =>
        rw [h3] at hcv
        rw [hcv]
        exact (rcError_no3 h0 h2 h3).mono fun e w' ⟨he, hb⟩ => ⟨none, 0, none, 0, he, bd_zero _ _ _, bd_zero _ _ _, hb⟩
      | true =>
        rw [h3] at hcv
        rw [hcv]
        exact (rcError_yes hG hcv h2).mono fun e w' ⟨a, c, b, d', he, hd, hb⟩ => ⟨a, c, b, d', he, hd.n, hd.d, hb⟩

theorem scInterval_all {v1 v2 : Value} {cs : List Ct} {rs : List Rc} {sc rd day : Int} {w : World} (h1 : CtIn w v1 cs) (h2 : RcIn w v2 rs) (hn1 : cs.length ≤ 1099511627776) (hn2 : rs.length ≤ 1099511627776) (hG : G ≤ w.heap.size) :
    Calls Try.prog 14 #[v1, v2, .int .i64 sc, .int .i64 rd, .int .i64 day] w fun e w' => ∃ a c b d a' c' b' d', e = .returned (.tuple #[.agg #[.int .i64 (sg (oN (loO cs rs sc rd day))), .slice a (ln (oN (loO cs rs sc rd day))) c, .int .i64 (sg (oD (loO cs rs sc rd day))), .slice b (ln (oD (loO cs rs sc rd day))) d], .agg #[.int .i64 (sg (oN (hiO cs rs sc rd day))), .slice a' (ln (oN (hiO cs rs sc rd day))) c', .int .i64 (sg (oD (hiO cs rs sc rd day))), .slice b' (ln (oD (hiO cs rs sc rd day))) d'], .bool (hasI cs rs sc rd day)]) ∧ BD G w' a c (oN (loO cs rs sc rd day)) ∧ BD G w' b d (oD (loO cs rs sc rd day)) ∧ BD G w' a' c' (oN (hiO cs rs sc rd day)) ∧ BD G w' b' d' (oD (hiO cs rs sc rd day)) ∧ Below w.heap.size w w' := by
  obtain ⟨a1, cap1, rfl⟩ := h1.shape
  obtain ⟨a2, cap2, rfl⟩ := h2.shape
  unfold loO hiO hasI
  cases hi : ivl cs rs sc rd day with
  | none =>
    rcases ivl_none hi with hf | ⟨g, hf, hr⟩ | ⟨g, hgl, hf, hr, hr2⟩
    · exact (scInterval_no1 h1 h2 hn1 hn2 hf).mono fun e w' ⟨he, hb⟩ => ⟨none, 0, none, 0, none, 0, none, 0, he, bd_zero _ _ _, bd_zero _ _ _, bd_zero _ _ _, bd_zero _ _ _, hb⟩
    · exact (scInterval_no2 h1 h2 hn1 hn2 hf hr).mono fun e w' ⟨he, hb⟩ => ⟨none, 0, none, 0, none, 0, none, 0, he, bd_zero _ _ _, bd_zero _ _ _, bd_zero _ _ _, bd_zero _ _ _, hb⟩
    · exact (scInterval_no3 h1 h2 hn1 hn2 (hgl := hgl) rfl hf hr hr2).mono fun e w' ⟨he, hb⟩ => ⟨none, 0, none, 0, none, 0, none, 0, he, bd_zero _ _ _, bd_zero _ _ _, bd_zero _ _ _, bd_zero _ _ _, hb⟩
  | some x =>
    obtain ⟨l, r⟩ := x
    obtain ⟨g, hgl, hf, hr, hr2, hc, rfl, rfl⟩ := ivl_some hi
    exact (scInterval_yes h1 h2 hn1 hn2 (hgl := hgl) rfl hf hr hr2 hG).mono fun e w' ⟨a, c, b, d, a', c', b', d', he, hl, hh, hb⟩ => ⟨a, c, b, d, a', c', b', d', he, hl.n, hl.d, hh.n, hh.d, hb⟩
theorem rcInterval_all {v1 v2 : Value} {cs : List Ct} {rs : List Rc} {sc rd day : Int} {w : World} (h1 : CtIn w v1 cs) (h2 : RcIn w v2 rs) (hn1 : cs.length ≤ 1099511627776) (hn2 : rs.length ≤ 1099511627776) (hG : G ≤ w.heap.size) :
    Calls Try.prog 15 #[v1, v2, .int .i64 sc, .int .i64 rd, .int .i64 day] w fun e w' => ∃ a c b d a' c' b' d', e = .returned (.tuple #[.agg #[.int .i64 (sg (oN (loO cs rs sc rd day))), .slice a (ln (oN (loO cs rs sc rd day))) c, .int .i64 (sg (oD (loO cs rs sc rd day))), .slice b (ln (oD (loO cs rs sc rd day))) d], .agg #[.int .i64 (sg (oN (hiO cs rs sc rd day))), .slice a' (ln (oN (hiO cs rs sc rd day))) c', .int .i64 (sg (oD (hiO cs rs sc rd day))), .slice b' (ln (oD (hiO cs rs sc rd day))) d'], .bool (hasI cs rs sc rd day)]) ∧ BD G w' a c (oN (loO cs rs sc rd day)) ∧ BD G w' b d (oD (loO cs rs sc rd day)) ∧ BD G w' a' c' (oN (hiO cs rs sc rd day)) ∧ BD G w' b' d' (oD (hiO cs rs sc rd day)) ∧ Below w.heap.size w w' := by
  obtain ⟨a1, cap1, rfl⟩ := h1.shape
  obtain ⟨a2, cap2, rfl⟩ := h2.shape
  unfold loO hiO hasI
  cases hi : ivl cs rs sc rd day with
  | none =>
    rcases ivl_none hi with hf | ⟨g, hf, hr⟩ | ⟨g, hgl, hf, hr, hr2⟩
    · exact (rcInterval_no1 h1 h2 hn1 hn2 hf).mono fun e w' ⟨he, hb⟩ => ⟨none, 0, none, 0, none, 0, none, 0, he, bd_zero _ _ _, bd_zero _ _ _, bd_zero _ _ _, bd_zero _ _ _, hb⟩
    · exact (rcInterval_no2 h1 h2 hn1 hn2 hf hr).mono fun e w' ⟨he, hb⟩ => ⟨none, 0, none, 0, none, 0, none, 0, he, bd_zero _ _ _, bd_zero _ _ _, bd_zero _ _ _, bd_zero _ _ _, hb⟩
    · exact (rcInterval_no3 h1 h2 hn1 hn2 (hgl := hgl) rfl hf hr hr2).mono fun e w' ⟨he, hb⟩ => ⟨none, 0, none, 0, none, 0, none, 0, he, bd_zero _ _ _, bd_zero _ _ _, bd_zero _ _ _, bd_zero _ _ _, hb⟩
  | some x =>
    obtain ⟨l, r⟩ := x
    obtain ⟨g, hgl, hf, hr, hr2, hc, rfl, rfl⟩ := ivl_some hi
    by_cases hs : sg (nu ((rd : Rat) - errQ cs[g] rd day)) < 0
    · exact (rcInterval_neg h1 h2 hn1 hn2 (hgl := hgl) rfl hf hr hr2 hG hs).mono fun e w' ⟨a, c, b, d, a', c', b', d', he, hl, hh, hb⟩ => ⟨a, c, b, d, a', c', b', d', he, hl.n, hl.d, hh.n, hh.d, hb⟩
    · exact (rcInterval_pos h1 h2 hn1 hn2 (hgl := hgl) rfl hf hr hr2 hG (by omega)).mono fun e w' ⟨a, c, b, d, a', c', b', d', he, hl, hh, hb⟩ => ⟨a, c, b, d, a', c', b', d', he, hl.n, hl.d, hh.n, hh.d, hb⟩

/-- Two fractions of equal parts, or api.Frac{} both, are the same. -/
theorem rfsame_eq {x y : Int} {a1 b1 a2 b2 : Option Addr} {c1 d1 c2 d2 : Nat} {w : World} (h1 : BD G w a1 c1 x) (k1 : BD G w b1 d1 y) (h2 : BD G w a2 c2 x) (k2 : BD G w b2 d2 y) (hx : Sz x 1099511627776) (hy : Sz y 1099511627776) :
    Calls Try.prog 16 #[.agg #[.int .i64 (sg x), .slice a1 (ln x) c1, .int .i64 (sg y), .slice b1 (ln y) d1], .agg #[.int .i64 (sg x), .slice a2 (ln x) c2, .int .i64 (sg y), .slice b2 (ln y) d2]] w fun e w' => e = .returned (.bool true) ∧ Below w.heap.size w w' := by
  have := rfsame_ok h1 k1 h2 k2 hx hy hx hy
  have e1 : (eqZ x x && eqZ y y) = true := by simp [eqZ]
  rwa [e1] at this
def fewB (n m : Nat) : Bool := decide (n ≤ 120) && decide (m ≤ 60)
theorem few_ok {v1 v2 : Value} {cs : List Ct} {rs : List Rc} {w : World} (h1 : CtIn w v1 cs) (h2 : RcIn w v2 rs) :
    Calls Try.prog 9 #[v1, v2] w fun e w' => e = .returned (.bool (fewB cs.length rs.length)) ∧ w = w' := by
  obtain ⟨a1, cap1, rfl⟩ := h1.shape
  obtain ⟨a2, cap2, rfl⟩ := h2.shape
  clear h1 h2
  unfold fewB
  by_cases hA : cs.length ≤ 120
  · by_cases hB : rs.length ≤ 60
    · have e1 : decide ((cs.length : Int) ≤ 120) = true := decide_eq_true (by omega)
      have e2 : decide ((rs.length : Int) ≤ 60) = true := decide_eq_true (by omega)
      have HO : Hid (true = (decide (cs.length ≤ 120) && decide (rs.length ≤ 60))) := by show _ = _; simp [hA, hB]
      go_enter Try.func9, Try.ntmps9
      go_wp2_with fail
      go_ret
      exact ⟨ret_bool HO.out, rfl⟩
    · have e1 : decide ((cs.length : Int) ≤ 120) = true := decide_eq_true (by omega)
      have e2 : decide ((rs.length : Int) ≤ 60) = false := decide_eq_false (by omega)
      have HO : Hid (false = (decide (cs.length ≤ 120) && decide (rs.length ≤ 60))) := by show _ = _; simp [hB]
      go_enter Try.func9, Try.ntmps9
      go_wp2_with fail
      go_ret
      exact ⟨ret_bool HO.out, rfl⟩
  · have e1 : decide ((cs.length : Int) ≤ 120) = false := decide_eq_false (by omega)
    have HO : Hid (false = (decide (cs.length ≤ 120) && decide (rs.length ≤ 60))) := by show _ = _; simp [hA]
    go_enter Try.func9, Try.ntmps9
    go_wp2_with fail
    go_ret
    exact ⟨ret_bool HO.out, rfl⟩
end Go.Proofs.Ytpjpkcelajbfnaa
