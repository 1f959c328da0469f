/- Walks: fractions whatever they are: few digits, which are right; plain laws. -/
import Derived.Test.YtjbfngjlepafgaaBase
import Derived.Test.YtjbfngjlepafgaaBigSpec
import Derived.Test.YtjbfngjlepafgaaBigA
import Derived.Test.YtjbfngjlepafgaaBigB
import Derived.Test.YtjbfngjlepafgaaBigD
import Derived.Test.YtjbfngjlepafgaaBigL
import Derived.Test.YtjbfngjlepafgaaBigQ
import Derived.Test.YtjbfngjlepafgaaFracA
import Derived.Test.YtjbfngjlepafgaaFracC
import Derived.Test.YtjbfngjlepafgaaFz
import Derived.Test.YtjbfngjlepafgaaAw
import Derived.Test.YtjbfngjlepafgaaFracD
import Derived.Test.YtjbfngjlepafgaaBigDec
import Derived.Test.YtjbfngjlepafgaaFracT
import Derived.Test.YtjbfngjlepafgaaProg
import Derived.WalkKit
import Derived.WalkSpells
import Derived.WalkLawsBesides
import Derived.Handy
import Derived.Lib.Hide
import Derived.Lib.Strings
import Derived.Lib.Builder
import Derived.BigQuiet
import Derived.OwnWalk
import Derived.Laws.BitsLemmas
import Derived.WalkSmall
import Derived.Deep.QuietTactic
import Derived.StillTailTactics
import Derived.Maps.AppendAt
import Derived.IntWalk
import Derived.Deep.RegionHeld3
import Derived.Deep.DeepFit
import Derived.Deep.LoopGhost
import Derived.Deep.DeepCutAuto
import Derived.Lib.ItoaNum
import Derived.Lib.Repeat
import Derived.Lib.AppendIntMem
import Derived.Sort.OwnSorted
import Derived.Shelf.Strings.SlTrimAscii
import Derived.Lib.ConvBytes
import Derived.Lib.CutLaws
namespace Go.Proofs.Ytjbfngjlepafgaa
open Go.RowKit Go.Lib
variable {G : Nat}

theorem fracMin_1 {q r : Rat} (h : q ≤ r) : pick q r (-1) = q := by
  unfold pick ordQ; rw [if_neg]; split
  · decide
  · split
    · exfalso; grind
    · decide
theorem fracMin_2 {q r : Rat} (h : r < q) : pick q r (-1) = r := by
  unfold pick ordQ; rw [if_pos]; rw [if_neg (by grind), if_pos h]; decide
theorem fracMax_1 {q r : Rat} (h : q ≤ r) : pick q r 1 = if q = r then q else r := by
  unfold pick ordQ
  by_cases h1 : q = r
  · subst h1; rw [if_pos rfl, if_neg]; rw [if_neg (by grind), if_neg (by grind)]; decide
  · rw [if_neg h1, if_pos]; rw [if_pos (by grind)]; decide
theorem fracMax_2 {q r : Rat} (h : r < q) : pick q r 1 = q := by
  unfold pick ordQ; rw [if_neg]; rw [if_neg (by grind), if_pos h]; decide
theorem fracMax_3 {q r : Rat} (h : q ≤ r) : pick q r 1 = r := by
  rw [fracMax_1 h]; split
  · assumption
  · rfl
set_option maxRecDepth 100000 in
set_option maxHeartbeats 4000000 in
theorem rfFew_ok {s t m : Int} {n k : Nat} {a b : Option Addr} {c d : Nat} {r : Bool} {w : World} (hr : (decide ((n : Int) ≤ m) && decide ((k : Int) ≤ m)) = r) :
    Calls Try.prog 22 #[.agg #[.int .i64 s, .slice a n c, .int .i64 t, .slice b k d], .int .i64 m] w fun e w' => e = .returned (.bool r) ∧ Below w.heap.size w w' := by
  obtain ⟨r1, h1⟩ : ∃ b, decide ((n : Int) ≤ m) = b := ⟨_, rfl⟩
  obtain ⟨r2, h2⟩ : ∃ b, decide ((k : Int) ≤ m) = b := ⟨_, rfl⟩
  rw [h1, h2] at hr
  have HR := Lib.hid hr; clear hr
  have M : Hid (Below w.heap.size w w) := Below.refl _ _
  go_enter Try.func22, Try.ntmps22
  go_upto_region 1 with fail
  obtain ⟨w1, hv⟩ : ∃ w_ : World, w_ = (w.alloc (.cells #[.int .i64 s, .slice a n c, .int .i64 t, .slice b k d] 26)) := ⟨_, rfl⟩
  rw [← hv]
  replace M := Lib.hid (And.intro (hv ▸ bx1 w 26 #[.int .i64 s, .slice a n c, .int .i64 t, .slice b k d]) (Goes.go M.out (hv ▸ below_alloc _ _ : Below w.heap.size w w1)))
  clear hv
  cases r1 with
  | false =>
    have y0 := (M.out.1).c4; have p0_0 := y0.1; have q0_0 := y0.2.1; have p0_1 := y0.2.2.1; have q0_1 := y0.2.2.2.1; have p0_2 := y0.2.2.2.2.1; have q0_2 := y0.2.2.2.2.2.1; have p0_3 := y0.2.2.2.2.2.2.1; have q0_3 := y0.2.2.2.2.2.2.2; clear y0
    go_wp2_with fail
    clear p0_0 q0_0 p0_1 q0_1 p0_2 q0_2 p0_3 q0_3
    go_ret
    exact ⟨by rw [← HR.out]; rfl, (M.out.2)⟩
  | true =>
    have y0 := (M.out.1).c4; have p0_0 := y0.1; have q0_0 := y0.2.1; have p0_1 := y0.2.2.1; have q0_1 := y0.2.2.2.1; have p0_2 := y0.2.2.2.2.1; have q0_2 := y0.2.2.2.2.2.1; have p0_3 := y0.2.2.2.2.2.2.1; have q0_3 := y0.2.2.2.2.2.2.2; clear y0
    go_wp2_with fail
    clear p0_0 q0_0 p0_1 q0_1 p0_2 q0_2 p0_3 q0_3
    go_ret
    exact ⟨by rw [← HR.out]; rfl, (M.out.2)⟩
/-- Right or not. -/
def zOf (s : Int) (l : List Int) : Int := s * (val (l.map Int.toNat) : Int)
def rightF (s : Int) (l : List Int) (t : Int) (m : List Int) : Bool := rightB s l && rightB t m && rightP (zOf s l) (zOf t m)
theorem zOf_right {s : Int} {l : List Int} {z : Int} (h : s = sg z) (hl : l = ints (digs z.natAbs)) : zOf s l = z := by
  subst h hl
  unfold zOf
  have : (ints (digs z.natAbs)).map Int.toNat = digs z.natAbs := by
    unfold ints; rw [List.map_map]
    conv => rhs; rw [← List.map_id (digs z.natAbs)]
    exact List.map_congr_left fun d _ => by simp
  rw [this, val_digs]; exact (abs_sg z).symm
theorem bigRight_len {s : Int} {a : Option Addr} {n c : Nat} {l : List Int} {b : Bool} {w : World} (h : RdZ w (.slice a n c) l) (hn : n ≤ 1099511627776) (hb : rightB s l = b) :
    Calls Try.prog 61 #[.agg #[.int .i64 s, .slice a n c]] w fun e w' => e = .returned (.bool b) ∧ Below w.heap.size w w' := by
  obtain ⟨a', c', hv, hc⟩ := h
  cases hv
  exact bigRight_raw ⟨_, _, rfl, hc⟩ hn hb
set_option maxRecDepth 100000 in
set_option maxHeartbeats 4000000 in
theorem fracRight_n1 {s t : Int} {l m : List Int} {a b : Option Addr} {c d : Nat} {w : World} (h1 : RdZ w (.slice a l.length c) l) (k1 : RdZ w (.slice b m.length d) m) (hl : l.length ≤ 1099511627776) (hm : m.length ≤ 1099511627776) (hrl : rightB s l = false) :
    Calls Try.prog 41 #[.agg #[.int .i64 s, .slice a l.length c, .int .i64 t, .slice b m.length d]] w fun e w' => e = .returned (.bool false) ∧ Below w.heap.size w w' := by
  have HL := Lib.hid hl; have HM := Lib.hid hm; have HRl := Lib.hid hrl; clear hl hm hrl
  have H1 : Hid (RdZ w (.slice a l.length c) l) := h1
  have K1 : Hid (RdZ w (.slice b m.length d) m) := k1
  clear h1 k1
  have M : Hid (Below w.heap.size w w) := Below.refl _ _
  go_enter Try.func41, Try.ntmps41
  go_upto_region 1 with fail
  obtain ⟨w1, hv⟩ : ∃ w_ : World, w_ = (w.alloc (.cells #[.int .i64 s, .slice a l.length c, .int .i64 t, .slice b m.length d] 26)) := ⟨_, rfl⟩
  rw [← hv]
  replace M := Lib.hid (And.intro (hv ▸ bx1 w 26 #[.int .i64 s, .slice a l.length c, .int .i64 t, .slice b m.length d]) (Goes.go M.out (hv ▸ below_alloc _ _ : Below w.heap.size w w1)))
  clear hv
  have y0 := (M.out.1).c4; have p0_0 := y0.1; have q0_0 := y0.2.1; have p0_1 := y0.2.2.1; have q0_1 := y0.2.2.2.1; have p0_2 := y0.2.2.2.2.1; have q0_2 := y0.2.2.2.2.2.1; have p0_3 := y0.2.2.2.2.2.2.1; have q0_3 := y0.2.2.2.2.2.2.2; clear y0
  go_wp2_with fail
  clear p0_0 q0_0 p0_1 q0_1 p0_2 q0_2 p0_3 q0_3
  refine (bigRight_len (s := s) (l := l) (b := false) (H1.out.keep (M.out.2)) HL.out HRl.out).mono ?_
  rintro e w2 ⟨rfl, hb⟩
  replace M := Lib.hid (Goes.go M.out hb)
  clear hb
  go_wp2_with fail
  go_ret
  exact ⟨rfl, (M.out.2)⟩
set_option maxRecDepth 100000 in
set_option maxHeartbeats 4000000 in
theorem fracRight_n2 {s t : Int} {l m : List Int} {a b : Option Addr} {c d : Nat} {w : World} (h1 : RdZ w (.slice a l.length c) l) (k1 : RdZ w (.slice b m.length d) m) (hl : l.length ≤ 1099511627776) (hm : m.length ≤ 1099511627776) (hrl : rightB s l = true) (hrm : rightB t m = false) :
    Calls Try.prog 41 #[.agg #[.int .i64 s, .slice a l.length c, .int .i64 t, .slice b m.length d]] w fun e w' => e = .returned (.bool false) ∧ Below w.heap.size w w' := by
  have HL := Lib.hid hl; have HM := Lib.hid hm; have HRl := Lib.hid hrl; have HRm := Lib.hid hrm; clear hl hm hrl hrm
  have H1 : Hid (RdZ w (.slice a l.length c) l) := h1
  have K1 : Hid (RdZ w (.slice b m.length d) m) := k1
  clear h1 k1
  have M : Hid (Below w.heap.size w w) := Below.refl _ _
  go_enter Try.func41, Try.ntmps41
  go_upto_region 1 with fail
  obtain ⟨w1, hv⟩ : ∃ w_ : World, w_ = (w.alloc (.cells #[.int .i64 s, .slice a l.length c, .int .i64 t, .slice b m.length d] 26)) := ⟨_, rfl⟩
  rw [← hv]
  replace M := Lib.hid (And.intro (hv ▸ bx1 w 26 #[.int .i64 s, .slice a l.length c, .int .i64 t, .slice b m.length d]) (Goes.go M.out (hv ▸ below_alloc _ _ : Below w.heap.size w w1)))
  clear hv
  have y0 := (M.out.1).c4; have p0_0 := y0.1; have q0_0 := y0.2.1; have p0_1 := y0.2.2.1; have q0_1 := y0.2.2.2.1; have p0_2 := y0.2.2.2.2.1; have q0_2 := y0.2.2.2.2.2.1; have p0_3 := y0.2.2.2.2.2.2.1; have q0_3 := y0.2.2.2.2.2.2.2; clear y0
  go_wp2_with fail
  clear p0_0 q0_0 p0_1 q0_1 p0_2 q0_2 p0_3 q0_3
  refine (bigRight_len (s := s) (l := l) (b := true) (H1.out.keep (M.out.2)) HL.out HRl.out).mono ?_
  rintro e w2 ⟨rfl, hb⟩
  replace M := Lib.hid (Goes.go M.out hb)
  clear hb
  have y0 := (M.out.1).c4; have p0_0 := y0.1; have q0_0 := y0.2.1; have p0_1 := y0.2.2.1; have q0_1 := y0.2.2.2.1; have p0_2 := y0.2.2.2.2.1; have q0_2 := y0.2.2.2.2.2.1; have p0_3 := y0.2.2.2.2.2.2.1; have q0_3 := y0.2.2.2.2.2.2.2; clear y0
  go_wp2_with fail
  clear p0_0 q0_0 p0_1 q0_1 p0_2 q0_2 p0_3 q0_3
  refine (bigRight_len (s := t) (l := m) (b := false) (K1.out.keep (M.out.2)) HM.out HRm.out).mono ?_
  rintro e w3 ⟨rfl, hb⟩
  replace M := Lib.hid (Goes.go M.out hb)
  clear hb
  go_wp2_with fail
  go_ret
  exact ⟨rfl, (M.out.2)⟩
/-- A fraction's parts in memory, whatever they are. -/
structure FR (w : World) (a : Option Addr) (c : Nat) (b : Option Addr) (d : Nat) (l m : List Int) : Prop where
  n1 : RdZ w (.slice a l.length c) l
  d1 : RdZ w (.slice b m.length d) m
  n2 : l.length ≤ c
  d2 : m.length ≤ d
theorem FR.keep {w w' : World} {a b : Option Addr} {c d : Nat} {l m : List Int} (h : FR w a c b d l m) (hb : Below w.heap.size w w') : FR w' a c b d l m := ⟨h.n1.keep hb, h.d1.keep hb, h.n2, h.d2⟩
instance {w w' : World} {a b : Option Addr} {c d : Nat} {l m : List Int} : Goes (FR w a c b d l m) w w' (FR w' a c b d l m) := ⟨fun h hb => h.keep hb⟩
theorem bd_of_right' {s : Int} {a : Option Addr} {c : Nat} {l : List Int} {w : World} (h : RdZ w (.slice a l.length c) l) (hc : l.length ≤ c) (hr : rightB s l = true) : s = sg (zOf s l) ∧ l.length = Go.Proofs.Ytjbfngjlepafgaa.ln (zOf s l) ∧ BD w.heap.size w a c (zOf s l) := by
  obtain ⟨z, h1, h2⟩ := right_parts hr
  have hz := zOf_right h1 h2
  have hl : l.length = Go.Proofs.Ytjbfngjlepafgaa.ln z := by rw [h2, ints_len]; rfl
  rw [hz]
  refine ⟨h1, hl, ?_, by omega, ?_⟩
  · rw [← hl]; unfold RdN; rw [← h2]; exact h
  · rcases Nat.eq_zero_or_pos (Go.Proofs.Ytjbfngjlepafgaa.ln z) with h0 | h0
    · exact .inl h0
    · refine .inr fun b off hb => .inl ?_
      obtain ⟨b', off', he, hlt, -⟩ := h.at (k := 0) (by omega)
      rw [he] at hb; cases hb; exact hlt
theorem fracRight_raw {s t : Int} {l m : List Int} {a b : Option Addr} {c d : Nat} {r : Bool} {w : World} (h : FR w a c b d l m) (hl : l.length ≤ 549755813888) (hm : m.length ≤ 549755813888) (hr : rightF s l t m = r) :
    Calls Try.prog 41 #[.agg #[.int .i64 s, .slice a l.length c, .int .i64 t, .slice b m.length d]] w fun e w' => e = .returned (.bool r) ∧ Below w.heap.size w w' := by
  subst hr
  unfold rightF
  cases h1 : rightB s l with
  | false => exact fracRight_n1 h.n1 h.d1 (by omega) (by omega) h1
  | true =>
    cases h2 : rightB t m with
    | false => exact fracRight_n2 h.n1 h.d1 (by omega) (by omega) h1 h2
    | true =>
      obtain ⟨ex, lx, bx⟩ := bd_of_right' h.n1 h.n2 h1
      obtain ⟨ey, ly, by_⟩ := bd_of_right' h.d1 h.d2 h2
      have := fracRight_bd bx by_ (show Go.Proofs.Ytjbfngjlepafgaa.ln _ ≤ _ by omega) (show Go.Proofs.Ytjbfngjlepafgaa.ln _ ≤ _ by omega) rfl
      rw [← ex, ← lx, ← ey, ← ly] at this
      exact this
/-- A right fraction is a rational number. -/
theorem fd_of_right {s t : Int} {l m : List Int} {a b : Option Addr} {c d : Nat} {w : World} (h : FR w a c b d l m) (hr : rightF s l t m = true) :
    ∃ q : Rat, s = sg (nu q) ∧ l.length = Go.Proofs.Ytjbfngjlepafgaa.ln (nu q) ∧ t = sg (de q) ∧ m.length = Go.Proofs.Ytjbfngjlepafgaa.ln (de q) ∧ FD w.heap.size w a c b d q := by
  unfold rightF at hr
  rw [Bool.and_eq_true, Bool.and_eq_true] at hr
  obtain ⟨⟨h1, h2⟩, h3⟩ := hr
  obtain ⟨ex, lx, bx⟩ := bd_of_right' h.n1 h.n2 h1
  obtain ⟨ey, ly, by_⟩ := bd_of_right' h.d1 h.d2 h2
  obtain ⟨e1, e2⟩ := rightP_parts h3
  exact ⟨Rat.divInt (zOf s l) (zOf t m), by rw [e1]; exact ex, by rw [e1]; exact lx, by rw [e2]; exact ey, by rw [e2]; exact ly, ⟨by rw [e1]; exact bx, by rw [e2]; exact by_⟩⟩
theorem fracRight_len {s t : Int} {l m : List Int} {n k : Nat} {a b : Option Addr} {c d : Nat} {r : Bool} {w : World} (h : FR w a c b d l m) (hn : l.length = n) (hk : m.length = k) (hl : n ≤ 549755813888) (hm : k ≤ 549755813888) (hr : rightF s l t m = r) :
    Calls Try.prog 41 #[.agg #[.int .i64 s, .slice a n c, .int .i64 t, .slice b k d]] w fun e w' => e = .returned (.bool r) ∧ Below w.heap.size w w' := by
  subst hn hk
  exact fracRight_raw h hl hm hr
theorem fz_lit {q : Rat} {x y : Int} (h : q = Rat.divInt x y) (hx : Sz x 10) (hy : Sz y 10) (h0 : y ≠ 0) : Fz q 10 := by subst h; exact new_size_any hx hy h0
theorem ordQ_swap (q r : Rat) : ordQ r q = -ordQ q r := by
  unfold ordQ
  by_cases h : q < r
  · rw [if_pos h, if_neg (by grind), if_pos h]; rfl
  · by_cases h' : r < q
    · rw [if_pos h', if_neg h, if_pos h']
    · rw [if_neg h, if_neg h', if_neg h', if_neg h]; rfl
theorem ordQ_ge {q r : Rat} (h : r < q) : ordQ q r = 1 := by unfold ordQ; rw [if_neg (by grind), if_pos h]
theorem ordQ_up {q r : Rat} (h : q ≤ r) : ¬ 0 < ordQ q r := by
  unfold ordQ; split
  · decide
  · rw [if_neg (by grind)]; decide
def divO (q r : Rat) : Option Rat := if r = 0 then none else some (q / r)
def divE (r : Rat) : Int := if r = 0 then 15 else 0
theorem fracDiv_any {q r : Rat} {o : Option Rat} {er : Int} {a1 b1 a2 b2 : Option Addr} {c1 d1 c2 d2 : Nat} {w : World} (hG : G ≤ w.heap.size) (h1 : FD G w a1 c1 b1 d1 q) (h2 : FD G w a2 c2 b2 d2 r) (hx : Fz q 137438953472) (hy : Fz r 137438953472) (ho : divO q r = o) (he : divE r = er) :
    Calls Try.prog 49 #[.agg #[.int .i64 (sg (nu q)), .slice a1 (ln (nu q)) c1, .int .i64 (sg (de q)), .slice b1 (ln (de q)) d1], .agg #[.int .i64 (sg (nu r)), .slice a2 (ln (nu r)) c2, .int .i64 (sg (de r)), .slice b2 (ln (de r)) d2]] w fun e w' => ∃ a c b d, e = .returned (.tuple #[.agg #[.int .i64 (sg (oN o)), .slice a (ln (oN o)) c, .int .i64 (sg (oD o)), .slice b (ln (oD o)) d], .int .i64 er]) ∧ BD G w' a c (oN o) ∧ BD G w' b d (oD o) ∧ Below w.heap.size w w' := by
  subst ho he
  unfold divO divE
  by_cases h : r = 0
  · rw [if_pos h, if_pos h]
    refine (fracDiv_zero hG h1 h2 hx hy h).mono ?_
    rintro e w' ⟨rfl, hb⟩
    exact ⟨none, 0, none, 0, rfl, bd_zero _ _ _, bd_zero _ _ _, hb⟩
  · rw [if_neg h, if_neg h]
    refine (fracDiv_ok hG h1 h2 hx hy h).mono ?_
    rintro e w' ⟨a, c, b, d, rfl, hf, hb⟩
    exact ⟨a, c, b, d, rfl, hf.n, hf.d, hb⟩
end Go.Proofs.Ytjbfngjlepafgaa
