/- Walks: fractions whatever they are: few digits, which are right; plain laws. -/
import Derived.Test.YtlcgckelamhnpaaBase
import Derived.Test.YtlcgckelamhnpaaBigSpec
import Derived.Test.YtlcgckelamhnpaaBigA
import Derived.Test.YtlcgckelamhnpaaBigB
import Derived.Test.YtlcgckelamhnpaaBigD
import Derived.Test.YtlcgckelamhnpaaBigL
import Derived.Test.YtlcgckelamhnpaaBigQ
import Derived.Test.YtlcgckelamhnpaaFd
import Derived.Test.YtlcgckelamhnpaaAw
import Derived.Test.YtlcgckelamhnpaaFracA
import Derived.Test.YtlcgckelamhnpaaFracC
import Derived.Test.YtlcgckelamhnpaaFz
import Derived.Test.YtlcgckelamhnpaaFracD
import Derived.Test.YtlcgckelamhnpaaBigDec
import Derived.Test.YtlcgckelamhnpaaProg
import Derived.Test.YtlcgckelamhnpaaShelf
import Derived.WalkKit
import Derived.WalkSpells
import Derived.WalkLawsBesides
import Derived.Handy
import Derived.Lib.Hide
import Derived.Lib.Strings
import Derived.Lib.Builder
import Derived.BigQuiet
import Derived.OwnWalk
import Derived.Laws.BitsLemmas
import Derived.WalkSmall
import Derived.Deep.QuietTactic
import Derived.StillTailTactics
import Derived.Maps.AppendAt
import Derived.IntWalk
import Derived.Deep.RegionHeld3
import Derived.Deep.DeepFit
import Derived.Deep.LoopGhost
import Derived.Deep.DeepCutAuto
import Derived.Lib.ItoaNum
import Derived.Lib.Repeat
import Derived.Lib.AppendIntMem
import Derived.Sort.OwnSorted
import Derived.Shelf.Strings.SlTrimAscii
import Derived.Lib.ConvBytes
import Derived.Lib.CutLaws
namespace Go.Proofs.Ytlcgckelamhnpaa
open Go.RowKit Go.Lib
variable {G : Nat}

def rightP (p q : Int) : Bool := decide (0 < q) && decide (Nat.gcd p.natAbs q.natAbs = 1)
theorem one_is {x : Int} {b_ : Bool} {a1 : Option Addr} {c1 : Nat} {w : World} (h1 : BD G w a1 c1 x) (hX : Sz x 1099511627776) (hb : oneB x = b_) :
  Calls Try.prog 59 #[.agg #[.int .i64 (sg x), .slice a1 (ln x) c1]] w fun e w' => e = .returned (.bool b_) ∧ Below w.heap.size w w' := by
 rw [← hb]; exact one_ok h1 hX
theorem rightP_sg {x y gv : Int} (h : ((Nat.gcd x.natAbs y.natAbs : Nat) : Int) = gv) : rightP x y = (sg y == 1 && oneB gv) := by
  unfold rightP oneB
  have h1 : decide (Nat.gcd x.natAbs y.natAbs = 1) = decide (gv = 1) := by apply decide_eq_decide.2; omega
  rw [h1]
  rcases Int.lt_trichotomy y 0 with h | h | h
  · rw [sg_neg h, decide_eq_false (by omega)]; rfl
  · subst h; rfl
  · rw [sg_pos h, decide_eq_true h]; rfl
theorem gcd_size {x y gv : Int} {n : Nat} (h : ((Nat.gcd x.natAbs y.natAbs : Nat) : Int) = gv) (hx : Sz x n) (hy : Sz y n) : Sz gv n := by
  rcases Nat.eq_zero_or_pos x.natAbs with h0 | h0
  · refine hy.le ?_
    rw [← h, h0]; simp
  · refine hx.le ?_
    have := Nat.gcd_le_left (m := x.natAbs) y.natAbs h0
    omega
set_option maxRecDepth 100000 in
set_option maxHeartbeats 4000000 in
theorem fracRight_bd {x y : Int} {b_ : Bool} {a1 b1 : Option Addr} {c1 d1 : Nat} {w : World} (h1 : BD G w a1 c1 x) (k1 : BD G w b1 d1 y) (hx : Sz x 549755813888) (hy : Sz y 549755813888) (hb : rightP x y = b_) :
  Calls Try.prog 35 #[.agg #[.int .i64 (sg x), .slice a1 (ln x) c1, .int .i64 (sg y), .slice b1 (ln y) d1]] w fun e w' => e = .returned (.bool b_) ∧ Below w.heap.size w w' := by
 obtain ⟨gv, hgv⟩ : ∃ g, ((Nat.gcd x.natAbs y.natAbs : Nat) : Int) = g := ⟨_, rfl⟩
 rw [rightP_sg hgv] at hb
 have HSG := Lib.hid (gcd_size hgv hx hy)
 obtain ⟨bs, hbs⟩ : ∃ b, (sg y != 1) = b := ⟨_, rfl⟩
 obtain ⟨bo, hbo⟩ : ∃ b, oneB gv = b := ⟨_, rfl⟩
 have HBR : Hid ((!bs && bo) = b_) := by show _ = _; rw [← hb, ← hbs, ← hbo]; show (!(!(sg y == 1)) && _) = _; rw [Bool.not_not]
 have HG := Lib.hid hgv; have HBO := Lib.hid hbo
 have HX := Lib.hid hx; have HY := Lib.hid hy
 clear hb hgv hbo hx hy
 have H1 : Hid (BD G w a1 c1 x) := h1
 have K1 : Hid (BD G w b1 d1 y) := k1
 clear h1 k1
 have M : Hid (Below w.heap.size w w) := Below.refl _ _
 go_enter Try.func35, Try.ntmps35
 go_upto_region 1 with fail
 refine nmW (w.alloc (.cells #[.int .i64 (sg x), .slice a1 (ln x) c1, .int .i64 (sg y), .slice b1 (ln y) d1] 38)) fun w1 hv => ?_
 rw [← hv]
 replace M := alM hv M
 clear hv
 obtain ⟨aa, ab, ac, ad, ae, af, ag, ah⟩ := (M.out.1).c4
 go_wp2_with fail
 clear aa ab ac ad ae af ag ah
 refine (bigRight_ok (G := G) (z := x) (H1.out.keep (J1 M)) (Sz.mono HX.out (by omega))).mono ?_
 rintro e w2 ⟨rfl, hb⟩
 replace M := gnM hb M
 clear hb
 obtain ⟨aa, ab, ac, ad, ae, af, ag, ah⟩ := (M.out.1).c4
 go_wp2_with fail
 clear aa ab ac ad ae af ag ah
 refine (bigRight_ok (G := G) (z := y) (K1.out.keep (J1 M)) (Sz.mono HY.out (by omega))).mono ?_
 rintro e w3 ⟨rfl, hb⟩
 replace M := gnM hb M
 clear hb
 cases bs with
 | false =>
  obtain ⟨aa, ab, ac, ad, ae, af, ag, ah⟩ := (M.out.1).c4
  go_wp2_with fail
  clear aa ab ac ad ae af ag ah
  refine (bigGcd_is' (G := G) (x := x) (y := y) (g := gv) (H1.out.keep (J1 M)) (K1.out.keep (J1 M)) HX.out HY.out HG.out).mono ?_
  rintro e w4 ⟨a_1, c_2, rfl, hd3, hb⟩
  replace M := adM hd3 hb M
  clear hb hd3
  go_upto_region 4 with fail
  refine nmW (w4.alloc (.cells #[.int .i64 (sg gv), .slice a_1 (ln gv) c_2] 36)) fun w5 hv => ?_
  rw [← hv]
  have o1 : w.heap.size < w4.heap.size := ((J1 M).1).lt
  replace M := alM hv M
  clear hv
  obtain ⟨ai, aj, ak, al⟩ := (M.out.1).c2
  go_wp2_with fail
  clear ai aj ak al
  refine (one_is (G := G) (x := gv) (b_ := bo) (J1 M).1 (Sz.mono HSG.out (by omega)) HBO.out).mono ?_
  rintro e w6 ⟨rfl, hb⟩
  replace M := gnM hb M
  clear hb
  go_wp2_with fail
  go_ret
  exact ⟨by rw [← HBR.out]; rfl, (J3 M)⟩
 | true =>
  obtain ⟨aa, ab, ac, ad, ae, af, ag, ah⟩ := (M.out.1).c4
  go_wp2_with fail
  clear aa ab ac ad ae af ag ah
  go_ret
  exact ⟨by rw [← HBR.out]; rfl, (J1 M)⟩
end Go.Proofs.Ytlcgckelamhnpaa
namespace Go.Proofs.Ytlcgckelamhnpaa
open Go.RowKit Go.Lib
variable {G : Nat}

theorem fracMin_1 {q r : Rat} (h : q ≤ r) : pick q r (-1) = q := by
  unfold pick ordQ; rw [if_neg]; split
  · decide
  · split
    · exfalso; grind
    · decide
theorem fracMin_2 {q r : Rat} (h : r < q) : pick q r (-1) = r := by
 unfold pick ordQ; rw [if_pos]; rw [if_neg (by grind), if_pos h]; decide
theorem fracMax_1 {q r : Rat} (h : q ≤ r) : pick q r 1 = if q = r then q else r := by
  unfold pick ordQ
  by_cases h1 : q = r
  · subst h1; rw [if_pos rfl, if_neg]; rw [if_neg (by grind), if_neg (by grind)]; decide
  · rw [if_neg h1, if_pos]; rw [if_pos (by grind)]; decide
theorem fracMax_2 {q r : Rat} (h : r < q) : pick q r 1 = q := by
 unfold pick ordQ; rw [if_neg]; rw [if_neg (by grind), if_pos h]; decide
theorem fracMax_3 {q r : Rat} (h : q ≤ r) : pick q r 1 = r := by
  rw [fracMax_1 h]; split
  · assumption
  · rfl
/-- Right or not. -/
def zOf (s : Int) (l : List Int) : Int := s * (val (l.map Int.toNat) : Int)
def rightF (s : Int) (l : List Int) (t : Int) (m : List Int) : Bool := rightB s l && rightB t m && rightP (zOf s l) (zOf t m)
theorem zOf_right {s : Int} {l : List Int} {z : Int} (h : s = sg z) (hl : l = ints (digs z.natAbs)) : zOf s l = z := by
 subst h hl
 unfold zOf
 have : (ints (digs z.natAbs)).map Int.toNat = digs z.natAbs := by
  unfold ints; rw [List.map_map]
  conv => rhs; rw [← List.map_id (digs z.natAbs)]
  exact List.map_congr_left fun d _ => by simp
 rw [this, val_digs]; exact (abs_sg z).symm
theorem bigRight_len {s : Int} {a : Option Addr} {n c : Nat} {l : List Int} {b : Bool} {w : World} (h : RdZ w (.slice a n c) l) (hn : n ≤ 1099511627776) (hb : rightB s l = b) :
  Calls Try.prog 57 #[.agg #[.int .i64 s, .slice a n c]] w fun e w' => e = .returned (.bool b) ∧ Below w.heap.size w w' := by
 obtain ⟨a', c', hv, hc⟩ := h
 cases hv
 exact bigRight_raw ⟨_, _, rfl, hc⟩ hn hb
set_option maxRecDepth 100000 in
set_option maxHeartbeats 4000000 in
theorem fracRight_n1 {s t : Int} {l m : List Int} {a b : Option Addr} {c d : Nat} {w : World} (h1 : RdZ w (.slice a l.length c) l) (k1 : RdZ w (.slice b m.length d) m) (hl : l.length ≤ 1099511627776) (hm : m.length ≤ 1099511627776) (hrl : rightB s l = false) :
  Calls Try.prog 35 #[.agg #[.int .i64 s, .slice a l.length c, .int .i64 t, .slice b m.length d]] w fun e w' => e = .returned (.bool false) ∧ Below w.heap.size w w' := by
 have HL := Lib.hid hl; have HM := Lib.hid hm; have HRl := Lib.hid hrl; clear hl hm hrl
 have H1 : Hid (RdZ w (.slice a l.length c) l) := h1
 have K1 : Hid (RdZ w (.slice b m.length d) m) := k1
 clear h1 k1
 have M : Hid (Below w.heap.size w w) := Below.refl _ _
 go_enter Try.func35, Try.ntmps35
 go_upto_region 1 with fail
 refine nmW (w.alloc (.cells #[.int .i64 s, .slice a l.length c, .int .i64 t, .slice b m.length d] 38)) fun w1 hv => ?_
 rw [← hv]
 replace M := alM hv M
 clear hv
 refine cj8 (M.out.1).c4 fun aa ab ac ad ae af ag ah => ?_
 go_wp2_with fail
 clear aa ab ac ad ae af ag ah
 refine (bigRight_len (s := s) (l := l) (b := false) (H1.out.keep (J1 M)) HL.out HRl.out).mono ?_
 rintro e w2 ⟨rfl, hb⟩
 replace M := gnM hb M
 clear hb
 go_wp2_with fail
 go_ret
 exact ⟨rfl, (J1 M)⟩
set_option maxRecDepth 100000 in
set_option maxHeartbeats 4000000 in
theorem fracRight_n2 {s t : Int} {l m : List Int} {a b : Option Addr} {c d : Nat} {w : World} (h1 : RdZ w (.slice a l.length c) l) (k1 : RdZ w (.slice b m.length d) m) (hl : l.length ≤ 1099511627776) (hm : m.length ≤ 1099511627776) (hrl : rightB s l = true) (hrm : rightB t m = false) :
  Calls Try.prog 35 #[.agg #[.int .i64 s, .slice a l.length c, .int .i64 t, .slice b m.length d]] w fun e w' => e = .returned (.bool false) ∧ Below w.heap.size w w' := by
 have HL := Lib.hid hl; have HM := Lib.hid hm; have HRl := Lib.hid hrl; have HRm := Lib.hid hrm; clear hl hm hrl hrm
 have H1 : Hid (RdZ w (.slice a l.length c) l) := h1
 have K1 : Hid (RdZ w (.slice b m.length d) m) := k1
 clear h1 k1
 have M : Hid (Below w.heap.size w w) := Below.refl _ _
 go_enter Try.func35, Try.ntmps35
 go_upto_region 1 with fail
 refine nmW (w.alloc (.cells #[.int .i64 s, .slice a l.length c, .int .i64 t, .slice b m.length d] 38)) fun w1 hv => ?_
 rw [← hv]
 replace M := alM hv M
 clear hv
 refine cj8 (M.out.1).c4 fun aa ab ac ad ae af ag ah => ?_
 go_wp2_with fail
 clear aa ab ac ad ae af ag ah
 refine (bigRight_len (s := s) (l := l) (b := true) (H1.out.keep (J1 M)) HL.out HRl.out).mono ?_
 rintro e w2 ⟨rfl, hb⟩
 replace M := gnM hb M
 clear hb
 refine cj8 (M.out.1).c4 fun aa ab ac ad ae af ag ah => ?_
 go_wp2_with fail
 clear aa ab ac ad ae af ag ah
 refine (bigRight_len (s := t) (l := m) (b := false) (K1.out.keep (J1 M)) HM.out HRm.out).mono ?_
 rintro e w3 ⟨rfl, hb⟩
 replace M := gnM hb M
 clear hb
 go_wp2_with fail
 go_ret
 exact ⟨rfl, (J1 M)⟩
/-- A fraction's parts in memory, whatever they are. -/
structure FR (w : World) (a : Option Addr) (c : Nat) (b : Option Addr) (d : Nat) (l m : List Int) : Prop where
 n1 : RdZ w (.slice a l.length c) l
 d1 : RdZ w (.slice b m.length d) m
 n2 : l.length ≤ c
 d2 : m.length ≤ d
theorem FR.keep {w w' : World} {a b : Option Addr} {c d : Nat} {l m : List Int} (h : FR w a c b d l m) (hb : Below w.heap.size w w') : FR w' a c b d l m := ⟨h.n1.keep hb, h.d1.keep hb, h.n2, h.d2⟩
instance {w w' : World} {a b : Option Addr} {c d : Nat} {l m : List Int} : Goes (FR w a c b d l m) w w' (FR w' a c b d l m) := ⟨fun h hb => h.keep hb⟩
theorem bd_of_right' {s : Int} {a : Option Addr} {c : Nat} {l : List Int} {w : World} (h : RdZ w (.slice a l.length c) l) (hc : l.length ≤ c) (hr : rightB s l = true) : s = sg (zOf s l) ∧ l.length = Go.Proofs.Ytlcgckelamhnpaa.ln (zOf s l) ∧ BD w.heap.size w a c (zOf s l) := by
  obtain ⟨z, h1, h2⟩ := right_parts hr
  have hz := zOf_right h1 h2
  have hl : l.length = Go.Proofs.Ytlcgckelamhnpaa.ln z := by rw [h2, ints_len]; rfl
  rw [hz]
  refine ⟨h1, hl, ?_, by omega, ?_⟩
  · rw [← hl]; unfold RdN; rw [← h2]; exact h
  · rcases Nat.eq_zero_or_pos (Go.Proofs.Ytlcgckelamhnpaa.ln z) with h0 | h0
    · exact .inl h0
    · refine .inr fun b off hb => .inl ?_
      obtain ⟨b', off', he, hlt, -⟩ := h.at (k := 0) (by omega)
      rw [he] at hb; cases hb; exact hlt
theorem fracRight_raw {s t : Int} {l m : List Int} {a b : Option Addr} {c d : Nat} {r : Bool} {w : World} (h : FR w a c b d l m) (hl : l.length ≤ 549755813888) (hm : m.length ≤ 549755813888) (hr : rightF s l t m = r) :
  Calls Try.prog 35 #[.agg #[.int .i64 s, .slice a l.length c, .int .i64 t, .slice b m.length d]] w fun e w' => e = .returned (.bool r) ∧ Below w.heap.size w w' := by
 subst hr
 unfold rightF
 cases h1 : rightB s l with
 | false => exact fracRight_n1 h.n1 h.d1 (by omega) (by omega) h1
 | true =>
  cases h2 : rightB t m with
  | false => exact fracRight_n2 h.n1 h.d1 (by omega) (by omega) h1 h2
  | true =>
   obtain ⟨ex, lx, bx⟩ := bd_of_right' h.n1 h.n2 h1
   obtain ⟨ey, ly, by_⟩ := bd_of_right' h.d1 h.d2 h2
   have := fracRight_bd bx by_ (show Go.Proofs.Ytlcgckelamhnpaa.ln _ ≤ _ by omega) (show Go.Proofs.Ytlcgckelamhnpaa.ln _ ≤ _ by omega) rfl
   rw [← ex, ← lx, ← ey, ← ly] at this
   exact this
theorem fracRight_len {s t : Int} {l m : List Int} {n k : Nat} {a b : Option Addr} {c d : Nat} {r : Bool} {w : World} (h : FR w a c b d l m) (hn : l.length = n) (hk : m.length = k) (hl : n ≤ 549755813888) (hm : k ≤ 549755813888) (hr : rightF s l t m = r) :
  Calls Try.prog 35 #[.agg #[.int .i64 s, .slice a n c, .int .i64 t, .slice b k d]] w fun e w' => e = .returned (.bool r) ∧ Below w.heap.size w w' := by
 subst hn hk
 exact fracRight_raw h hl hm hr
theorem ordQ_swap (q r : Rat) : ordQ r q = -ordQ q r := by
  unfold ordQ
  by_cases h : q < r
  · rw [if_pos h, if_neg (by grind), if_pos h]; rfl
  · by_cases h' : r < q
    · rw [if_pos h', if_neg h, if_pos h']
    · rw [if_neg h, if_neg h', if_neg h', if_neg h]; rfl
theorem ordQ_ge {q r : Rat} (h : r < q) : ordQ q r = 1 := by unfold ordQ; rw [if_neg (by grind), if_pos h]
theorem ordQ_up {q r : Rat} (h : q ≤ r) : ¬ 0 < ordQ q r := by
  unfold ordQ; split
  · decide
  · rw [if_neg (by grind)]; decide
end Go.Proofs.Ytlcgckelamhnpaa
