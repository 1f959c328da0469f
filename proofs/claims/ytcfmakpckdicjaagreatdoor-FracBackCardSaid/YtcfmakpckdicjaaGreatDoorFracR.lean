/- Walks: fractions whatever they are: few digits, which are right; plain laws. -/
import Derived.Test.YtcfmakpckdicjaaGreatDoorFracT
import Derived.Test.YtcfmakpckdicjaaGreatDoorRefB5
namespace Go.Proofs.YtcfmakpckdicjaaGreatDoor
open Go.RowKit Go.Lib
variable {G : Nat}

theorem textF_lit {q : Rat} {l1 l2 : List UInt8} (h1 : rdE l1 = 0) (h2 : rdE l2 = 0) (e1 : nu q = rdZ l1) (e2 : de q = rdZ l2) : textF q = l1 ++ 47 :: l2 := by
  unfold textF; rw [e1, e2, text_read h1, text_read h2]
theorem readF_lit {q : Rat} {l1 l2 : List UInt8} (h1 : rdE l1 = 0) (h2 : rdE l2 = 0) (e1 : nu q = rdZ l1) (e2 : de q = rdZ l2) : readF (l1 ++ 47 :: l2) = some q := by
  rw [← textF_lit h1 h2 e1 e2]; exact readF_text q
theorem fracMin_1 {q r : Rat} (h : q ≤ r) : pick q r (-1) = q := by
  unfold pick ordQ; rw [if_neg]; split
  · decide
  · split
    · exfalso; grind
    · decide
theorem fracMin_2 {q r : Rat} (h : r < q) : pick q r (-1) = r := by
  unfold pick ordQ; rw [if_pos]; rw [if_neg (by grind), if_pos h]; decide
theorem fracMax_1 {q r : Rat} (h : q ≤ r) : pick q r 1 = if q = r then q else r := by
  unfold pick ordQ
  by_cases h1 : q = r
  · subst h1; rw [if_pos rfl, if_neg]; rw [if_neg (by grind), if_neg (by grind)]; decide
  · rw [if_neg h1, if_pos]; rw [if_pos (by grind)]; decide
theorem fracMax_2 {q r : Rat} (h : r < q) : pick q r 1 = q := by
  unfold pick ordQ; rw [if_neg]; rw [if_neg (by grind), if_pos h]; decide
theorem fracMax_3 {q r : Rat} (h : q ≤ r) : pick q r 1 = r := by
  rw [fracMax_1 h]; split
  · assumption
  · rfl

set_option maxRecDepth 100000 in
set_option maxHeartbeats 4000000 in
theorem rfFew_ok {s t m : Int} {n k : Nat} {a b : Option Addr} {c d : Nat} {r : Bool} {w : World} (hr : (decide ((n : Int) ≤ m) && decide ((k : Int) ≤ m)) = r) :
    Calls Tryz.prog 9 #[.agg #[.int .i64 s, .slice a n c, .int .i64 t, .slice b k d], .int .i64 m] w fun e w' => e = .returned (.bool r) ∧ Below w.heap.size w w' := by
  obtain ⟨r1, h1⟩ : ∃ b, decide ((n : Int) ≤ m) = b := ⟨_, rfl⟩
  obtain ⟨r2, h2⟩ : ∃ b, decide ((k : Int) ≤ m) = b := ⟨_, rfl⟩
  rw [h1, h2] at hr
  have HR := Lib.hid hr; clear hr
  have M : Hid (Below w.heap.size w w) := Below.refl _ _
  go_enter Tryz.func9, Tryz.ntmps9
  go_upto_region 1 with fail
  obtain ⟨w1, hv⟩ : ∃ w_ : World, w_ = (w.alloc (.cells #[.int .i64 s, .slice a n c, .int .i64 t, .slice b k d] 26)) := ⟨_, rfl⟩
  rw [← hv]
  replace M := Lib.hid (And.intro (hv ▸ bx1 w 26 #[.int .i64 s, .slice a n c, .int .i64 t, .slice b k d]) (Goes.go M.out (hv ▸ below_alloc _ _ : Below w.heap.size w w1)))
  clear hv
  cases r1 with
  | false =>
    have y0 := (M.out.1).c4; have p0_0 := y0.1; have q0_0 := y0.2.1; have p0_1 := y0.2.2.1; have q0_1 := y0.2.2.2.1; have p0_2 := y0.2.2.2.2.1; have q0_2 := y0.2.2.2.2.2.1; have p0_3 := y0.2.2.2.2.2.2.1; have q0_3 := y0.2.2.2.2.2.2.2; clear y0
    go_wp2_with fail
    clear p0_0 q0_0 p0_1 q0_1 p0_2 q0_2 p0_3 q0_3
    go_ret
    exact ⟨by rw [← HR.out]; rfl, (M.out.2)⟩
  | true =>
    have y0 := (M.out.1).c4; have p0_0 := y0.1; have q0_0 := y0.2.1; have p0_1 := y0.2.2.1; have q0_1 := y0.2.2.2.1; have p0_2 := y0.2.2.2.2.1; have q0_2 := y0.2.2.2.2.2.1; have p0_3 := y0.2.2.2.2.2.2.1; have q0_3 := y0.2.2.2.2.2.2.2; clear y0
    go_wp2_with fail
    clear p0_0 q0_0 p0_1 q0_1 p0_2 q0_2 p0_3 q0_3
    go_ret
    exact ⟨by rw [← HR.out]; rfl, (M.out.2)⟩

/-- Right or not. -/
def zOf (s : Int) (l : List Int) : Int := s * (val (l.map Int.toNat) : Int)
def rightF (s : Int) (l : List Int) (t : Int) (m : List Int) : Bool := rightB s l && rightB t m && rightP (zOf s l) (zOf t m)
theorem zOf_right {s : Int} {l : List Int} {z : Int} (h : s = sg z) (hl : l = ints (digs z.natAbs)) : zOf s l = z := by
  subst h hl
  unfold zOf
  have : (ints (digs z.natAbs)).map Int.toNat = digs z.natAbs := by
    unfold ints; rw [List.map_map]
    conv => rhs; rw [← List.map_id (digs z.natAbs)]
    exact List.map_congr_left fun d _ => by simp
  rw [this, val_digs]; exact (abs_sg z).symm
theorem bigRight_len {s : Int} {a : Option Addr} {n c : Nat} {l : List Int} {b : Bool} {w : World} (h : RdZ w (.slice a n c) l) (hn : n ≤ 1099511627776) (hb : rightB s l = b) :
    Calls Tryz.prog 60 #[.agg #[.int .i64 s, .slice a n c]] w fun e w' => e = .returned (.bool b) ∧ Below w.heap.size w w' := by
  obtain ⟨a', c', hv, hc⟩ := h
  cases hv
  exact bigRight_raw ⟨_, _, rfl, hc⟩ hn hb

set_option maxRecDepth 100000 in
set_option maxHeartbeats 4000000 in
theorem fracRight_n1 {s t : Int} {l m : List Int} {a b : Option Addr} {c d : Nat} {w : World} (h1 : RdZ w (.slice a l.length c) l) (k1 : RdZ w (.slice b m.length d) m) (hl : l.length ≤ 1099511627776) (hm : m.length ≤ 1099511627776) (hrl : rightB s l = false) :
    Calls Tryz.prog 25 #[.agg #[.int .i64 s, .slice a l.length c, .int .i64 t, .slice b m.length d]] w fun e w' => e = .returned (.bool false) ∧ Below w.heap.size w w' := by
  have HL := Lib.hid hl; have HM := Lib.hid hm; have HRl := Lib.hid hrl; clear hl hm hrl
  have H1 : Hid (RdZ w (.slice a l.length c) l) := h1
  have K1 : Hid (RdZ w (.slice b m.length d) m) := k1
  clear h1 k1
  have M : Hid (Below w.heap.size w w) := Below.refl _ _
  go_enter Tryz.func25, Tryz.ntmps25
  go_upto_region 1 with fail
  obtain ⟨w1, hv⟩ : ∃ w_ : World, w_ = (w.alloc (.cells #[.int .i64 s, .slice a l.length c, .int .i64 t, .slice b m.length d] 26)) := ⟨_, rfl⟩
  rw [← hv]
  replace M := Lib.hid (And.intro (hv ▸ bx1 w 26 #[.int .i64 s, .slice a l.length c, .int .i64 t, .slice b m.length d]) (Goes.go M.out (hv ▸ below_alloc _ _ : Below w.heap.size w w1)))
  clear hv
  have y0 := (M.out.1).c4; have p0_0 := y0.1; have q0_0 := y0.2.1; have p0_1 := y0.2.2.1; have q0_1 := y0.2.2.2.1; have p0_2 := y0.2.2.2.2.1; have q0_2 := y0.2.2.2.2.2.1; have p0_3 := y0.2.2.2.2.2.2.1; have q0_3 := y0.2.2.2.2.2.2.2; clear y0
  go_wp2_with fail
  clear p0_0 q0_0 p0_1 q0_1 p0_2 q0_2 p0_3 q0_3
  refine (bigRight_len (s := s) (l := l) (b := false) (H1.out.keep (M.out.2)) HL.out HRl.out).mono ?_
  rintro e w2 ⟨rfl, hb⟩
  replace M := Lib.hid (Goes.go M.out hb)
  clear hb
  go_wp2_with fail
  go_ret
  exact ⟨rfl, (M.out.2)⟩

set_option maxRecDepth 100000 in
set_option maxHeartbeats 4000000 in
theorem fracRight_n2 {s t : Int} {l m : List Int} {a b : Option Addr} {c d : Nat} {w : World} (h1 : RdZ w (.slice a l.length c) l) (k1 : RdZ w (.slice b m.length d) m) (hl : l.length ≤ 1099511627776) (hm : m.length ≤ 1099511627776) (hrl : rightB s l = true) (hrm : rightB t m = false) :
    Calls Tryz.prog 25 #[.agg #[.int .i64 s, .slice a l.length c, .int .i64 t, .slice b m.length d]] w fun e w' => e = .returned (.bool false) ∧ Below w.heap.size w w' := by
  have HL := Lib.hid hl; have HM := Lib.hid hm; have HRl := Lib.hid hrl; have HRm := Lib.hid hrm; clear hl hm hrl hrm
  have H1 : Hid (RdZ w (.slice a l.length c) l) := h1
  have K1 : Hid (RdZ w (.slice b m.length d) m) := k1
  clear h1 k1
  have M : Hid (Below w.heap.size w w) := Below.refl _ _
  go_enter Tryz.func25, Tryz.ntmps25
  go_upto_region 1 with fail
  obtain ⟨w1, hv⟩ : ∃ w_ : World, w_ = (w.alloc (.cells #[.int .i64 s, .slice a l.length c, .int .i64 t, .slice b m.length d] 26)) := ⟨_, rfl⟩
  rw [← hv]
  replace M := Lib.hid (And.intro (hv ▸ bx1 w 26 #[.int .i64 s, .slice a l.length c, .int .i64 t, .slice b m.length d]) (Goes.go M.out (hv ▸ below_alloc _ _ : Below w.heap.size w w1)))
  clear hv
  have y0 := (M.out.1).c4; have p0_0 := y0.1; have q0_0 := y0.2.1; have p0_1 := y0.2.2.1; have q0_1 := y0.2.2.2.1; have p0_2 := y0.2.2.2.2.1; have q0_2 := y0.2.2.2.2.2.1; have p0_3 := y0.2.2.2.2.2.2.1; have q0_3 := y0.2.2.2.2.2.2.2; clear y0
  go_wp2_with fail
  clear p0_0 q0_0 p0_1 q0_1 p0_2 q0_2 p0_3 q0_3
  refine (bigRight_len (s := s) (l := l) (b := true) (H1.out.keep (M.out.2)) HL.out HRl.out).mono ?_
  rintro e w2 ⟨rfl, hb⟩
  replace M := Lib.hid (Goes.go M.out hb)
  clear hb
  have y0 := (M.out.1).c4; have p0_0 := y0.1; have q0_0 := y0.2.1; have p0_1 := y0.2.2.1; have q0_1 := y0.2.2.2.1; have p0_2 := y0.2.2.2.2.1; have q0_2 := y0.2.2.2.2.2.1; have p0_3 := y0.2.2.2.2.2.2.1; have q0_3 := y0.2.2.2.2.2.2.2; clear y0
  go_wp2_with fail
  clear p0_0 q0_0 p0_1 q0_1 p0_2 q0_2 p0_3 q0_3
  refine (bigRight_len (s := t) (l := m) (b := false) (K1.out.keep (M.out.2)) HM.out HRm.out).mono ?_
  rintro e w3 ⟨rfl, hb⟩
  replace M := Lib.hid (Goes.go M.out hb)
  clear hb
  go_wp2_with fail
  go_ret
  exact ⟨rfl, (M.out.2)⟩

/-- A fraction's parts in memory, whatever they are. -/
structure FR (w : World) (a : Option Addr) (c : Nat) (b : Option Addr) (d : Nat) (l m : List Int) : Prop where
  n1 : RdZ w (.slice a l.length c) l
  d1 : RdZ w (.slice b m.length d) m
  n2 : l.length ≤ c
  d2 : m.length ≤ d
theorem FR.keep {w w' : World} {a b : Option Addr} {c d : Nat} {l m : List Int} (h : FR w a c b d l m) (hb : Below w.heap.size w w') : FR w' a c b d l m := ⟨h.n1.keep hb, h.d1.keep hb, h.n2, h.d2⟩
instance {w w' : World} {a b : Option Addr} {c d : Nat} {l m : List Int} : Goes (FR w a c b d l m) w w' (FR w' a c b d l m) := ⟨fun h hb => h.keep hb⟩
theorem bd_of_right' {s : Int} {a : Option Addr} {c : Nat} {l : List Int} {w : World} (h : RdZ w (.slice a l.length c) l) (hc : l.length ≤ c) (hr : rightB s l = true) : s = sg (zOf s l) ∧ l.length = Go.Proofs.YtcfmakpckdicjaaGreatDoor.ln (zOf s l) ∧ BD w.heap.size w a c (zOf s l) := by
  obtain ⟨z, h1, h2⟩ := right_parts hr
  have hz := zOf_right h1 h2
  have hl : l.length = Go.Proofs.YtcfmakpckdicjaaGreatDoor.ln z := by rw [h2, ints_len]; rfl
  rw [hz]
  refine ⟨h1, hl, ?_, by omega, ?_⟩
  · rw [← hl]; unfold RdN; rw [← h2]; exact h
  · rcases Nat.eq_zero_or_pos (Go.Proofs.YtcfmakpckdicjaaGreatDoor.ln z) with h0 | h0
    · exact .inl h0
    · refine .inr fun b off hb => .inl ?_
      obtain ⟨b', off', he, hlt, -⟩ := h.at (k := 0) (by omega)
      rw [he] at hb; cases hb; exact hlt
theorem fracRight_raw {s t : Int} {l m : List Int} {a b : Option Addr} {c d : Nat} {r : Bool} {w : World} (h : FR w a c b d l m) (hl : l.length ≤ 549755813888) (hm : m.length ≤ 549755813888) (hr : rightF s l t m = r) :
    Calls Tryz.prog 25 #[.agg #[.int .i64 s, .slice a l.length c, .int .i64 t, .slice b m.length d]] w fun e w' => e = .returned (.bool r) ∧ Below w.heap.size w w' := by
  subst hr
  unfold rightF
  cases h1 : rightB s l with
  | false => exact fracRight_n1 h.n1 h.d1 (by omega) (by omega) h1
  | true =>
    cases h2 : rightB t m with
    | false => exact fracRight_n2 h.n1 h.d1 (by omega) (by omega) h1 h2
    | true =>
      obtain ⟨ex, lx, bx⟩ := bd_of_right' h.n1 h.n2 h1
      obtain ⟨ey, ly, by_⟩ := bd_of_right' h.d1 h.d2 h2
      have := fracRight_bd bx by_ (show Go.Proofs.YtcfmakpckdicjaaGreatDoor.ln _ ≤ _ by omega) (show Go.Proofs.YtcfmakpckdicjaaGreatDoor.ln _ ≤ _ by omega) rfl
      rw [← ex, ← lx, ← ey, ← ly] at this
      exact this
/-- A right fraction is a rational number. -/
theorem fd_of_right {s t : Int} {l m : List Int} {a b : Option Addr} {c d : Nat} {w : World} (h : FR w a c b d l m) (hr : rightF s l t m = true) :
    ∃ q : Rat, s = sg (nu q) ∧ l.length = Go.Proofs.YtcfmakpckdicjaaGreatDoor.ln (nu q) ∧ t = sg (de q) ∧ m.length = Go.Proofs.YtcfmakpckdicjaaGreatDoor.ln (de q) ∧ FD w.heap.size w a c b d q := by
  unfold rightF at hr
  rw [Bool.and_eq_true, Bool.and_eq_true] at hr
  obtain ⟨⟨h1, h2⟩, h3⟩ := hr
  obtain ⟨ex, lx, bx⟩ := bd_of_right' h.n1 h.n2 h1
  obtain ⟨ey, ly, by_⟩ := bd_of_right' h.d1 h.d2 h2
  obtain ⟨e1, e2⟩ := rightP_parts h3
  exact ⟨Rat.divInt (zOf s l) (zOf t m), by rw [e1]; exact ex, by rw [e1]; exact lx, by rw [e2]; exact ey, by rw [e2]; exact ly, ⟨by rw [e1]; exact bx, by rw [e2]; exact by_⟩⟩

theorem fracRight_len {s t : Int} {l m : List Int} {n k : Nat} {a b : Option Addr} {c d : Nat} {r : Bool} {w : World} (h : FR w a c b d l m) (hn : l.length = n) (hk : m.length = k) (hl : n ≤ 549755813888) (hm : k ≤ 549755813888) (hr : rightF s l t m = r) :
    Calls Tryz.prog 25 #[.agg #[.int .i64 s, .slice a n c, .int .i64 t, .slice b k d]] w fun e w' => e = .returned (.bool r) ∧ Below w.heap.size w w' := by
  subst hn hk
  exact fracRight_raw h hl hm hr

theorem fracOf_is {x y : Int} {q : Rat} {w : World} (hG : G ≤ w.heap.size) (hx : -9223372036854775808 ≤ x ∧ x ≤ 9223372036854775807) (hy : -9223372036854775808 ≤ y ∧ y ≤ 9223372036854775807) (hs : y ≠ 0) (hq : Rat.divInt x y = q) :
    Calls Tryz.prog 19 #[.int .i64 x, .int .i64 y] w fun e w' => ∃ a c b d, e = .returned (.tuple #[.agg #[.int .i64 (sg (nu q)), .slice a (ln (nu q)) c, .int .i64 (sg (de q)), .slice b (ln (de q)) d], .int .i64 0]) ∧ FD G w' a c b d q ∧ Below w.heap.size w w' := by
  subst hq; exact fracOf_ok hG hx hy hs

theorem fz_lit {q : Rat} {x y : Int} (h : q = Rat.divInt x y) (hx : Sz x 10) (hy : Sz y 10) (h0 : y ≠ 0) : Fz q 10 := by subst h; exact new_size_any hx hy h0

theorem len_of5 {n k : Nat} {m : Int} (h : (decide ((n : Int) ≤ m) && decide ((k : Int) ≤ m)) = true) (hm : m ≤ 549755813888) : n ≤ 549755813888 ∧ k ≤ 549755813888 := by
  rw [Bool.and_eq_true] at h
  have := of_decide_eq_true h.1; have := of_decide_eq_true h.2; omega
theorem few_fz {q : Rat} {m : Int} {n : Nat} (h : Fz q n) (hm : m = (n : Int)) : (decide ((ln (nu q) : Int) ≤ m) && decide ((ln (de q) : Int) ≤ m)) = true := by
  rw [few_sz h.1 hm, few_sz h.2 hm]; rfl
theorem ordQ_swap (q r : Rat) : ordQ r q = -ordQ q r := by
  unfold ordQ
  by_cases h : q < r
  · rw [if_pos h, if_neg (by grind), if_pos h]; rfl
  · by_cases h' : r < q
    · rw [if_pos h', if_neg h, if_pos h']
    · rw [if_neg h, if_neg h', if_neg h', if_neg h]; rfl
theorem ordQ_zero (q r : Rat) : (ordQ q r == 0) = decide (q = r) := by
  unfold ordQ
  by_cases h : q < r
  · rw [if_pos h, decide_eq_false (by grind)]; rfl
  · by_cases h' : r < q
    · rw [if_neg h, if_pos h', decide_eq_false (by grind)]; rfl
    · rw [if_neg h, if_neg h', decide_eq_true (by grind)]; rfl
theorem ordQ_sg (q r : Rat) : ordQ q r = sg (nu (q - r)) := by
  have hz : ∀ x : Rat, sg (nu x) = if x < 0 then -1 else if 0 < x then 1 else 0 := by
    intro x
    have h1 : (0 : Rat) ≤ x ↔ 0 ≤ nu x := Rat.num_nonneg.symm
    have h2 : x = 0 ↔ nu x = 0 := nu_zero.symm
    by_cases h : x < 0
    · rw [if_pos h]
      have : ¬ 0 ≤ nu x := fun h0 => by have := h1.2 h0; grind
      exact sg_neg (by omega)
    · rw [if_neg h]
      by_cases h' : 0 < x
      · rw [if_pos h']
        have h3 : 0 ≤ nu x := h1.1 (by grind)
        have h4 : nu x ≠ 0 := fun h0 => by have := h2.2 h0; grind
        exact sg_pos (by omega)
      · rw [if_neg h']
        have : nu x = 0 := h2.1 (by grind)
        rw [this]; rfl
  rw [hz]; unfold ordQ
  by_cases h : q < r
  · rw [if_pos h, if_pos (by grind)]
  · by_cases h' : r < q
    · rw [if_neg h, if_pos h', if_neg (by grind), if_pos (by grind)]
    · rw [if_neg h, if_neg h', if_neg (by grind), if_neg (by grind)]
theorem ordQ_plus (q r u : Rat) : ordQ (q + u) (r + u) = ordQ q r := by
  rw [ordQ_sg, ordQ_sg]; congr 2; grind
theorem ordQ_neg (q r : Rat) : ordQ (-q) (-r) = -ordQ q r := by
  rw [← ordQ_swap, ordQ_sg, ordQ_sg]; congr 2; grind
theorem sgq_neg {x : Rat} (h : x < 0) : sg (nu x) = -1 := by
  have := ordQ_sg x 0
  rw [Rat.sub_eq_add_neg, Rat.neg_zero, Rat.add_zero] at this
  rw [← this]; unfold ordQ; rw [if_pos h]
theorem sgq_pos {x : Rat} (h : 0 < x) : sg (nu x) = 1 := by
  have := ordQ_sg x 0
  rw [Rat.sub_eq_add_neg, Rat.neg_zero, Rat.add_zero] at this
  rw [← this]; unfold ordQ; rw [if_neg (by grind), if_pos h]
theorem rmul_pn {x y : Rat} (h : 0 < x) (h' : y < 0) : x * y < 0 := by
  have := Rat.mul_pos h (show 0 < -y by grind)
  rw [Rat.mul_neg] at this; grind
theorem rmul_np {x y : Rat} (h : x < 0) (h' : 0 < y) : x * y < 0 := by
  have := Rat.mul_pos (show 0 < -x by grind) h'
  rw [Rat.neg_mul] at this; grind
theorem rmul_nn {x y : Rat} (h : x < 0) (h' : y < 0) : 0 < x * y := by
  have := Rat.mul_pos (show 0 < -x by grind) (show 0 < -y by grind)
  rw [Rat.neg_mul, Rat.mul_neg, Rat.neg_neg] at this; exact this
theorem sgn_mul (x y : Rat) : sg (nu (x * y)) = sg (nu x) * sg (nu y) := by
  rcases (show x < 0 ∨ x = 0 ∨ 0 < x by grind) with h | h | h <;> rcases (show y < 0 ∨ y = 0 ∨ 0 < y by grind) with h' | h' | h'
  · rw [sgq_pos (rmul_nn h h'), sgq_neg h, sgq_neg h']; rfl
  · subst h'; rw [Rat.mul_zero]; simp [show sg (nu 0) = 0 from rfl]
  · rw [sgq_neg (rmul_np h h'), sgq_neg h, sgq_pos h']; rfl
  · subst h; rw [Rat.zero_mul]; simp [show sg (nu 0) = 0 from rfl]
  · subst h; rw [Rat.zero_mul]; simp [show sg (nu 0) = 0 from rfl]
  · subst h; rw [Rat.zero_mul]; simp [show sg (nu 0) = 0 from rfl]
  · rw [sgq_neg (rmul_pn h h'), sgq_pos h, sgq_neg h']; rfl
  · subst h'; rw [Rat.mul_zero]; simp [show sg (nu 0) = 0 from rfl]
  · rw [sgq_pos (Rat.mul_pos h h'), sgq_pos h, sgq_pos h']; rfl
theorem ordQ_times (q r u : Rat) : ordQ (q * u) (r * u) = ordQ q r * sg (nu u) := by
  rw [ordQ_sg, ordQ_sg, ← sgn_mul]; congr 2; grind
theorem ordQ_chain {q r u : Rat} (h1 : ordQ q r ≤ 0) (h2 : ordQ r u ≤ 0) : ¬ 0 < ordQ q u := by
  unfold ordQ at *
  by_cases h : r < q
  · rw [if_neg (by grind), if_pos h] at h1; omega
  · by_cases h' : u < r
    · rw [if_neg (by grind), if_pos h'] at h2; omega
    · split
      · decide
      · rw [if_neg (by grind)]; decide
theorem flo_floor (q : Rat) : flo q = q.floor := by
  unfold flo dv nu de
  rw [Rat.floor_def, Int.fdiv_eq_ediv_of_nonneg _ (by omega)]
theorem flo_size {q : Rat} {n : Nat} (h : Fz q n) : Sz (flo q) n := by
  refine h.1.le ?_
  unfold flo dv nu de
  have hd := q.den_pos
  rw [Int.fdiv_eq_ediv_of_nonneg _ (by omega)]
  exact Int.natAbs_ediv_le_natAbs _ _
theorem rat_int (z : Int) : Rat.divInt z 1 = (z : Rat) := by
  have := divInt_parts (z : Rat)
  exact this
theorem flo_le {q : Rat} {f : Int} (h : flo q = f) : (f : Rat) ≤ q := by
  rw [← h, flo_floor]; exact Rat.floor_le q
theorem flo_lt {q : Rat} {f : Int} (h : flo q = f) : q < (f : Rat) + 1 := by
  rw [← h, flo_floor]
  have := Rat.lt_floor_add_one q
  rw [Rat.intCast_add] at this
  exact this
theorem flo_of {q : Rat} {f : Int} (h : (f : Rat) ≤ q) (h' : q < (f : Rat) + 1) : flo q = f := by
  rw [flo_floor]
  have h1 := Rat.le_floor_iff.2 h
  have h2 : q.floor < f + 1 := Rat.floor_lt_iff.2 (by rw [Rat.intCast_add]; exact h')
  omega
theorem flo_neg_whole {q : Rat} {f : Int} (h : q = (f : Rat)) : flo (-q) = -f := by
  refine flo_of (by rw [Rat.intCast_neg]; grind) (by rw [Rat.intCast_neg]; grind)
theorem flo_neg_part {q : Rat} {f : Int} (h : flo q = f) (hn : (f : Rat) ≠ q) : flo (-q) = -(f + 1) := by
  have h1 := flo_le h
  have h2 := flo_lt h
  refine flo_of (by rw [Rat.intCast_neg, Rat.intCast_add]; have : ((1 : Int) : Rat) = 1 := rfl; grind) (by rw [Rat.intCast_neg, Rat.intCast_add]; have : ((1 : Int) : Rat) = 1 := rfl; grind)
theorem ordQ_ge {q r : Rat} (h : r < q) : ordQ q r = 1 := by unfold ordQ; rw [if_neg (by grind), if_pos h]
theorem ordQ_up {q r : Rat} (h : q ≤ r) : ¬ 0 < ordQ q r := by
  unfold ordQ; split
  · decide
  · rw [if_neg (by grind)]; decide
theorem rfsame_b {q r : Rat} {b : Bool} {a1 b1 a2 b2 : Option Addr} {c1 d1 c2 d2 : Nat} {w : World} (h1 : FD G w a1 c1 b1 d1 q) (h2 : FD G w a2 c2 b2 d2 r) (hx : Fz q 549755813888) (hy : Fz r 549755813888) (he : decide (q = r) = b) :
    Calls Tryz.prog 14 #[.agg #[.int .i64 (sg (nu q)), .slice a1 (ln (nu q)) c1, .int .i64 (sg (de q)), .slice b1 (ln (de q)) d1], .agg #[.int .i64 (sg (nu r)), .slice a2 (ln (nu r)) c2, .int .i64 (sg (de r)), .slice b2 (ln (de r)) d2]] w fun e w' => e = .returned (.bool b) ∧ Below w.heap.size w w' := by
  by_cases h : q = r
  · rw [← he, decide_eq_true h]; exact rfsame_q h1 h2 hx h
  · rw [← he, decide_eq_false h]; exact rfsame_not h1 h2 hx hy h
theorem fracFloor_is {q : Rat} {f : Int} {a1 b1 : Option Addr} {c1 d1 : Nat} {w : World} (hG : G ≤ w.heap.size) (h1 : FD G w a1 c1 b1 d1 q) (hx : Fz q 137438953472) (hf : flo q = f) :
    Calls Tryz.prog 43 #[.agg #[.int .i64 (sg (nu q)), .slice a1 (ln (nu q)) c1, .int .i64 (sg (de q)), .slice b1 (ln (de q)) d1]] w fun e w' => ∃ a c, e = .returned (.agg #[.int .i64 (sg f), .slice a (ln f) c]) ∧ BD G w' a c f ∧ Below w.heap.size w w' := by
  rw [← hf]; exact fracFloor_ok hG h1 hx
theorem fracFloor_neg {q : Rat} {z f : Int} {a1 b1 : Option Addr} {c1 d1 : Nat} {w : World} (hG : G ≤ w.heap.size) (h1 : BD G w a1 c1 z) (k1 : BD G w b1 d1 (de q)) (hx : Fz q 137438953472) (hz : z = -nu q) (hf : flo (-q) = f) :
    Calls Tryz.prog 43 #[.agg #[.int .i64 (sg z), .slice a1 (ln z) c1, .int .i64 (sg (de q)), .slice b1 (ln (de q)) d1]] w fun e w' => ∃ a c, e = .returned (.agg #[.int .i64 (sg f), .slice a (ln f) c]) ∧ BD G w' a c f ∧ Below w.heap.size w w' := by
  subst hz
  have hn : nu (-q) = -nu q := nu_neg q
  have hd : de (-q) = de q := de_neg q
  have := fracFloor_is (q := -q) (f := f) hG (a1 := a1) (b1 := b1) (c1 := c1) (d1 := d1) (w := w) ⟨by rw [hn]; exact h1, by rw [hd]; exact k1⟩ hx.neg hf
  rw [hn, hd] at this; exact this
theorem new_is {x y : Int} {q : Rat} {a1 a2 : Option Addr} {c1 c2 : Nat} {w : World} (hG : G ≤ w.heap.size) (h1 : BD G w a1 c1 x) (h2 : BD G w a2 c2 y) (hx : Sz x 549755813888) (hy : Sz y 549755813888) (hs : y ≠ 0) (hq : Rat.divInt x y = q) :
    Calls Tryz.prog 23 #[.agg #[.int .i64 (sg x), .slice a1 (ln x) c1], .agg #[.int .i64 (sg y), .slice a2 (ln y) c2]] w fun e w' => ∃ a c b d, e = .returned (.tuple #[.agg #[.int .i64 (sg (nu q)), .slice a (ln (nu q)) c, .int .i64 (sg (de q)), .slice b (ln (de q)) d], .int .i64 0]) ∧ FD G w' a c b d q ∧ Below w.heap.size w w' := by
  subst hq; exact new_ok hG h1 h2 hx hy hs
def divO (q r : Rat) : Option Rat := if r = 0 then none else some (q / r)
def divE (r : Rat) : Int := if r = 0 then 15 else 0
theorem fracDiv_any {q r : Rat} {o : Option Rat} {er : Int} {a1 b1 a2 b2 : Option Addr} {c1 d1 c2 d2 : Nat} {w : World} (hG : G ≤ w.heap.size) (h1 : FD G w a1 c1 b1 d1 q) (h2 : FD G w a2 c2 b2 d2 r) (hx : Fz q 137438953472) (hy : Fz r 137438953472) (ho : divO q r = o) (he : divE r = er) :
    Calls Tryz.prog 17 #[.agg #[.int .i64 (sg (nu q)), .slice a1 (ln (nu q)) c1, .int .i64 (sg (de q)), .slice b1 (ln (de q)) d1], .agg #[.int .i64 (sg (nu r)), .slice a2 (ln (nu r)) c2, .int .i64 (sg (de r)), .slice b2 (ln (de r)) d2]] w fun e w' => ∃ a c b d, e = .returned (.tuple #[.agg #[.int .i64 (sg (oN o)), .slice a (ln (oN o)) c, .int .i64 (sg (oD o)), .slice b (ln (oD o)) d], .int .i64 er]) ∧ BD G w' a c (oN o) ∧ BD G w' b d (oD o) ∧ Below w.heap.size w w' := by
  subst ho he
  unfold divO divE
  by_cases h : r = 0
  · rw [if_pos h, if_pos h]
    refine (fracDiv_zero hG h1 h2 hx hy h).mono ?_
    rintro e w' ⟨rfl, hb⟩
    exact ⟨none, 0, none, 0, rfl, bd_zero _ _ _, bd_zero _ _ _, hb⟩
  · rw [if_neg h, if_neg h]
    refine (fracDiv_ok hG h1 h2 hx hy h).mono ?_
    rintro e w' ⟨a, c, b, d, rfl, hf, hb⟩
    exact ⟨a, c, b, d, rfl, hf.n, hf.d, hb⟩

end Go.Proofs.YtcfmakpckdicjaaGreatDoor
