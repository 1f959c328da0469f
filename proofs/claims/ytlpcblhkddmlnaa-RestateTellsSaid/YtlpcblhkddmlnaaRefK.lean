/- Walks of the verifier's reference: a big integer of an int. -/
import Derived.Test.YtlpcblhkddmlnaaBase
import Derived.Test.YtlpcblhkddmlnaaBigSpec
import Derived.Test.YtlpcblhkddmlnaaBigA
import Derived.Test.YtlpcblhkddmlnaaBigB
import Derived.Test.YtlpcblhkddmlnaaBigC
import Derived.Test.YtlpcblhkddmlnaaBigD
import Derived.Test.YtlpcblhkddmlnaaBigK
import Derived.Test.YtlpcblhkddmlnaaBigL
import Derived.Test.YtlpcblhkddmlnaaBigQ
import Derived.Test.YtlpcblhkddmlnaaFd
import Derived.Test.YtlpcblhkddmlnaaFracC
import Derived.Test.YtlpcblhkddmlnaaRefS
import Derived.Test.YtlpcblhkddmlnaaRefG
import Derived.Test.YtlpcblhkddmlnaaProg
import Derived.WalkKit
import Derived.WalkSpells
import Derived.WalkLawsBesides
import Derived.Handy
import Derived.Lib.Hide
import Derived.Lib.Strings
import Derived.Lib.Builder
import Derived.BigQuiet
import Derived.OwnWalk
import Derived.Laws.BitsLemmas
import Derived.WalkSmall
import Derived.Deep.QuietTactic
import Derived.StillTailTactics
import Derived.Maps.AppendAt
import Derived.IntWalk
import Derived.Deep.RegionHeld3
import Derived.Deep.DeepFit
import Derived.Deep.LoopGhost
import Derived.Deep.DeepCutAuto
namespace Go.Proofs.Ytlpcblhkddmlnaa
open Go.RowKit
variable {G : Nat}

theorem over_nat {m n : Nat} {a1 a2 : Option Addr} {c1 c2 : Nat} {w : World} (h1 : RdN w (.slice a1 (lnN m) c1) (digs m)) (h2 : RdN w (.slice a2 (lnN n) c2) (digs n)) (hm : lnN m ≤ 549755813888) (hn : lnN n ≤ 549755813888) (h0 : n ≠ 0) {q r : Nat} (hq : m / n = q) (hr : m % n = r) :
  Calls Try.prog 93 #[.slice a1 (lnN m) c1, .slice a2 (lnN n) c2] w fun e w' => ∃ a c b d, e = .returned (.tuple #[.slice a (lnN q) c, .slice b (lnN r) d]) ∧ OwnN w' w.heap.size (.slice a (lnN q) c) (digs q) ∧ OwnN w' w.heap.size (.slice b (lnN r) d) (digs r) ∧ Below w.heap.size w w' := by
 have h3 := over_ok _ _ (digs m) n w h1 h2 (digs_small _) (by omega) hm hn
 rw [val_digs, hq, hr] at h3
 exact h3.mono fun e w' ⟨v, r', he, h3, h4, hb⟩ => by
  obtain ⟨a, c, rfl⟩ := h3.slice
  obtain ⟨b, d, rfl⟩ := h4.slice
  exact ⟨a, c, b, d, he, h3, h4, hb⟩
theorem ord_ref {x y : Int} (hs : sg x = sg y) (hne : x ≠ y) : ord x y = if lessZ x y = decide (0 < sg x) then -1 else 1 := by
  rcases Int.lt_trichotomy x 0 with hx | hx | hx
  · rw [sg_neg hx] at *
    rcases Int.lt_trichotomy y 0 with hy | hy | hy
    · rw [show decide ((0 : Int) < -1) = false from rfl]
      unfold lessZ
      by_cases h : x.natAbs < y.natAbs
      · rw [decide_eq_true h, if_neg (by simp), ord_gt (by omega)]
      · rw [decide_eq_false h, if_pos rfl, ord_lt (by omega)]
    · rw [sg_zero' hy] at hs; omega
    · rw [sg_pos hy] at hs; omega
  · rw [sg_zero' hx] at hs
    rcases Int.lt_trichotomy y 0 with hy | hy | hy
    · rw [sg_neg hy] at hs; omega
    · omega
    · rw [sg_pos hy] at hs; omega
  · rw [sg_pos hx] at *
    rcases Int.lt_trichotomy y 0 with hy | hy | hy
    · rw [sg_neg hy] at hs; omega
    · rw [sg_zero' hy] at hs; omega
    · rw [show decide ((0 : Int) < 1) = true from rfl]
      unfold lessZ
      by_cases h : x.natAbs < y.natAbs
      · rw [decide_eq_true h, if_pos rfl, ord_lt (by omega)]
      · rw [decide_eq_false h, if_neg (by simp), ord_gt (by omega)]
theorem ord_sign {x y : Int} (h : sg x ≠ sg y) : ord x y = if sg x < sg y then -1 else 1 := by
  rw [← ord_signs h]
  unfold ord
  by_cases h1 : sg x < sg y
  · rw [if_pos h1, if_pos h1]
  · rw [if_neg h1, if_neg h1, if_pos (by omega)]
set_option maxHeartbeats 4000000 in
theorem rcompare_eq {x y : Int} {a1 a2 : Option Addr} {c1 c2 : Nat} {w : World} (h1 : BD G w a1 c1 x) (h2 : BD G w a2 c2 y) (hx : Sz x 549755813888) (hy : Sz y 549755813888) (hc : x = y) :
  Calls Try.prog 79 #[.agg #[.int .i64 (sg x), .slice a1 (ln x) c1], .agg #[.int .i64 (sg y), .slice a2 (ln y) c2]] w fun e w' => e = .returned (.int .i64 (ord x y)) ∧ Below w.heap.size w w' := by
 have HX := Lib.hid hx
 have H1 := Lib.hid h1
 have HY := Lib.hid hy
 have H2 := Lib.hid h2
 have HEQ : Hid (eqZ x y = true) := by show _ = _; rw [eqZ, decide_eq_true_eq]; exact hc
 have HO : Hid (0 = ord x y) := by show _ = _; rw [hc, ord_eq]
 clear hc
 clear hx h1 hy h2

 go_enter Try.func79, Try.ntmps79
 go_wp2_with fail
 refine (rright_ok (x := x) (H1.out.keep (by go_grown)) (HX.out.mono (by omega))).mono ?_
 rintro e w1 ⟨rfl, hb⟩
 have hbx := bx2 w 25 25 #[.int .i64 (sg x), .slice a1 (ln x) c1] #[.int .i64 (sg y), .slice a2 (ln y) c2]
 obtain ⟨k0, k1⟩ := hbx
 have K0 := Lib.hid (k0.keep hb)
 have K1 := Lib.hid (k1.keep hb)
 clear k0 k1
 have hb' : Below w.heap.size w w1 := below_call (by go_grown) hb
 have HB := Lib.hid hb'
 replace H1 := Lib.hid (H1.out.keep hb')
 replace H2 := Lib.hid (H2.out.keep hb')
 clear hb hb'
 refine K0.out.w2 fun p0_0 q0_0 p0_1 q0_1 z0 => ?_
 refine K1.out.w2 fun p1_0 q1_0 p1_1 q1_1 z1 => ?_
 go_wp2_with fail
 refine (rright_ok (x := y) (H2.out.keep (by go_grown)) (HY.out.mono (by omega))).mono ?_
 rintro e w2 ⟨rfl, hb⟩
 clear p0_0 q0_0 p0_1 q0_1 z0 p1_0 q1_0 p1_1 q1_1 z1
 have hb' := below_call (w1 := w1) (by go_grown) hb
 replace K0 := Lib.hid (K0.out.keep hb')
 replace K1 := Lib.hid (K1.out.keep hb')
 replace HB := Lib.hid (below_call HB.out hb')
 replace H1 := Lib.hid (H1.out.keep hb')
 replace H2 := Lib.hid (H2.out.keep hb')
 clear hb hb'
 refine K0.out.w2 fun p0_0 q0_0 p0_1 q0_1 z0 => ?_
 refine K1.out.w2 fun p1_0 q1_0 p1_1 q1_1 z1 => ?_
 go_wp2_with fail
 refine (rsame_ok (H1.out.keep (by go_grown)) (H2.out.keep (by go_grown)) (HX.out.mono (by omega)) (HY.out.mono (by omega))).mono ?_
 rintro e w3 ⟨rfl, hb⟩
 clear p0_0 q0_0 p0_1 q0_1 z0 p1_0 q1_0 p1_1 q1_1 z1
 have hb' := below_call (w1 := w2) (by go_grown) hb
 replace K0 := Lib.hid (K0.out.keep hb')
 replace K1 := Lib.hid (K1.out.keep hb')
 replace HB := Lib.hid (below_call HB.out hb')
 replace H1 := Lib.hid (H1.out.keep hb')
 replace H2 := Lib.hid (H2.out.keep hb')
 clear hb hb'
 refine K0.out.w2 fun p0_0 q0_0 p0_1 q0_1 z0 => ?_
 refine K1.out.w2 fun p1_0 q1_0 p1_1 q1_1 z1 => ?_
 rw [HEQ.out]
 go_wp2_with fail
 go_ret
 exact ⟨ret_int HO.out, HB.out⟩
set_option maxHeartbeats 4000000 in
theorem rcompare_slt {x y : Int} {a1 a2 : Option Addr} {c1 c2 : Nat} {w : World} (h1 : BD G w a1 c1 x) (h2 : BD G w a2 c2 y) (hx : Sz x 549755813888) (hy : Sz y 549755813888) (hc : sg x < sg y) :
  Calls Try.prog 79 #[.agg #[.int .i64 (sg x), .slice a1 (ln x) c1], .agg #[.int .i64 (sg y), .slice a2 (ln y) c2]] w fun e w' => e = .returned (.int .i64 (ord x y)) ∧ Below w.heap.size w w' := by
 have HX := Lib.hid hx
 have H1 := Lib.hid h1
 have HY := Lib.hid hy
 have H2 := Lib.hid h2
 have HEQ : Hid (eqZ x y = false) := eqZ_sign (by omega)
 have HO : Hid (-1 = ord x y) := by show _ = _; rw [ord_sign (by omega)]; rw [if_pos hc]
 have t1 : (sg x != sg y) = true := by rw [bne_iff_ne]; omega
 have t2 : decide (sg x < sg y) = true := by rw [decide_eq_true_eq]; exact hc
 clear hc
 clear hx h1 hy h2

 go_enter Try.func79, Try.ntmps79
 go_wp2_with fail
 refine (rright_ok (x := x) (H1.out.keep (by go_grown)) (HX.out.mono (by omega))).mono ?_
 rintro e w1 ⟨rfl, hb⟩
 have hbx := bx2 w 25 25 #[.int .i64 (sg x), .slice a1 (ln x) c1] #[.int .i64 (sg y), .slice a2 (ln y) c2]
 obtain ⟨k0, k1⟩ := hbx
 have K0 := Lib.hid (k0.keep hb)
 have K1 := Lib.hid (k1.keep hb)
 clear k0 k1
 have hb' : Below w.heap.size w w1 := below_call (by go_grown) hb
 have HB := Lib.hid hb'
 replace H1 := Lib.hid (H1.out.keep hb')
 replace H2 := Lib.hid (H2.out.keep hb')
 clear hb hb'
 refine K0.out.w2 fun p0_0 q0_0 p0_1 q0_1 z0 => ?_
 refine K1.out.w2 fun p1_0 q1_0 p1_1 q1_1 z1 => ?_
 go_wp2_with fail
 refine (rright_ok (x := y) (H2.out.keep (by go_grown)) (HY.out.mono (by omega))).mono ?_
 rintro e w2 ⟨rfl, hb⟩
 clear p0_0 q0_0 p0_1 q0_1 z0 p1_0 q1_0 p1_1 q1_1 z1
 have hb' := below_call (w1 := w1) (by go_grown) hb
 replace K0 := Lib.hid (K0.out.keep hb')
 replace K1 := Lib.hid (K1.out.keep hb')
 replace HB := Lib.hid (below_call HB.out hb')
 replace H1 := Lib.hid (H1.out.keep hb')
 replace H2 := Lib.hid (H2.out.keep hb')
 clear hb hb'
 refine K0.out.w2 fun p0_0 q0_0 p0_1 q0_1 z0 => ?_
 refine K1.out.w2 fun p1_0 q1_0 p1_1 q1_1 z1 => ?_
 go_wp2_with fail
 refine (rsame_ok (H1.out.keep (by go_grown)) (H2.out.keep (by go_grown)) (HX.out.mono (by omega)) (HY.out.mono (by omega))).mono ?_
 rintro e w3 ⟨rfl, hb⟩
 clear p0_0 q0_0 p0_1 q0_1 z0 p1_0 q1_0 p1_1 q1_1 z1
 have hb' := below_call (w1 := w2) (by go_grown) hb
 replace K0 := Lib.hid (K0.out.keep hb')
 replace K1 := Lib.hid (K1.out.keep hb')
 replace HB := Lib.hid (below_call HB.out hb')
 replace H1 := Lib.hid (H1.out.keep hb')
 replace H2 := Lib.hid (H2.out.keep hb')
 clear hb hb'
 refine K0.out.w2 fun p0_0 q0_0 p0_1 q0_1 z0 => ?_
 refine K1.out.w2 fun p1_0 q1_0 p1_1 q1_1 z1 => ?_
 rw [HEQ.out]
 go_wp2_with fail
 go_ret
 exact ⟨ret_int HO.out, HB.out⟩
set_option maxHeartbeats 4000000 in
theorem rcompare_sgt {x y : Int} {a1 a2 : Option Addr} {c1 c2 : Nat} {w : World} (h1 : BD G w a1 c1 x) (h2 : BD G w a2 c2 y) (hx : Sz x 549755813888) (hy : Sz y 549755813888) (hc : sg y < sg x) :
  Calls Try.prog 79 #[.agg #[.int .i64 (sg x), .slice a1 (ln x) c1], .agg #[.int .i64 (sg y), .slice a2 (ln y) c2]] w fun e w' => e = .returned (.int .i64 (ord x y)) ∧ Below w.heap.size w w' := by
 have HX := Lib.hid hx
 have H1 := Lib.hid h1
 have HY := Lib.hid hy
 have H2 := Lib.hid h2
 have HEQ : Hid (eqZ x y = false) := eqZ_sign (by omega)
 have HO : Hid (1 = ord x y) := by show _ = _; rw [ord_sign (by omega)]; rw [if_neg (by omega)]
 have t1 : (sg x != sg y) = true := by rw [bne_iff_ne]; omega
 have t2 : decide (sg x < sg y) = false := by rw [decide_eq_false_iff_not]; omega
 clear hc
 clear hx h1 hy h2

 go_enter Try.func79, Try.ntmps79
 go_wp2_with fail
 refine (rright_ok (x := x) (H1.out.keep (by go_grown)) (HX.out.mono (by omega))).mono ?_
 rintro e w1 ⟨rfl, hb⟩
 have hbx := bx2 w 25 25 #[.int .i64 (sg x), .slice a1 (ln x) c1] #[.int .i64 (sg y), .slice a2 (ln y) c2]
 obtain ⟨k0, k1⟩ := hbx
 have K0 := Lib.hid (k0.keep hb)
 have K1 := Lib.hid (k1.keep hb)
 clear k0 k1
 have hb' : Below w.heap.size w w1 := below_call (by go_grown) hb
 have HB := Lib.hid hb'
 replace H1 := Lib.hid (H1.out.keep hb')
 replace H2 := Lib.hid (H2.out.keep hb')
 clear hb hb'
 refine K0.out.w2 fun p0_0 q0_0 p0_1 q0_1 z0 => ?_
 refine K1.out.w2 fun p1_0 q1_0 p1_1 q1_1 z1 => ?_
 go_wp2_with fail
 refine (rright_ok (x := y) (H2.out.keep (by go_grown)) (HY.out.mono (by omega))).mono ?_
 rintro e w2 ⟨rfl, hb⟩
 clear p0_0 q0_0 p0_1 q0_1 z0 p1_0 q1_0 p1_1 q1_1 z1
 have hb' := below_call (w1 := w1) (by go_grown) hb
 replace K0 := Lib.hid (K0.out.keep hb')
 replace K1 := Lib.hid (K1.out.keep hb')
 replace HB := Lib.hid (below_call HB.out hb')
 replace H1 := Lib.hid (H1.out.keep hb')
 replace H2 := Lib.hid (H2.out.keep hb')
 clear hb hb'
 refine K0.out.w2 fun p0_0 q0_0 p0_1 q0_1 z0 => ?_
 refine K1.out.w2 fun p1_0 q1_0 p1_1 q1_1 z1 => ?_
 go_wp2_with fail
 refine (rsame_ok (H1.out.keep (by go_grown)) (H2.out.keep (by go_grown)) (HX.out.mono (by omega)) (HY.out.mono (by omega))).mono ?_
 rintro e w3 ⟨rfl, hb⟩
 clear p0_0 q0_0 p0_1 q0_1 z0 p1_0 q1_0 p1_1 q1_1 z1
 have hb' := below_call (w1 := w2) (by go_grown) hb
 replace K0 := Lib.hid (K0.out.keep hb')
 replace K1 := Lib.hid (K1.out.keep hb')
 replace HB := Lib.hid (below_call HB.out hb')
 replace H1 := Lib.hid (H1.out.keep hb')
 replace H2 := Lib.hid (H2.out.keep hb')
 clear hb hb'
 refine K0.out.w2 fun p0_0 q0_0 p0_1 q0_1 z0 => ?_
 refine K1.out.w2 fun p1_0 q1_0 p1_1 q1_1 z1 => ?_
 rw [HEQ.out]
 go_wp2_with fail
 go_ret
 exact ⟨ret_int HO.out, HB.out⟩
set_option maxHeartbeats 4000000 in
theorem rcompare_llt {x y : Int} {a1 a2 : Option Addr} {c1 c2 : Nat} {w : World} (h1 : BD G w a1 c1 x) (h2 : BD G w a2 c2 y) (hx : Sz x 549755813888) (hy : Sz y 549755813888) (hs : sg x = sg y) (hne : x ≠ y) (hc : lessZ x y = decide (0 < sg x)) :
  Calls Try.prog 79 #[.agg #[.int .i64 (sg x), .slice a1 (ln x) c1], .agg #[.int .i64 (sg y), .slice a2 (ln y) c2]] w fun e w' => e = .returned (.int .i64 (ord x y)) ∧ Below w.heap.size w w' := by
 have HX := Lib.hid hx
 have H1 := Lib.hid h1
 have HY := Lib.hid hy
 have H2 := Lib.hid h2
 have HEQ : Hid (eqZ x y = false) := by show _ = _; rw [eqZ, decide_eq_false_iff_not]; exact hne
 have HO : Hid (-1 = ord x y) := by show _ = _; rw [ord_ref hs hne]; rw [if_pos hc]
 have t1 : (sg x != sg y) = false := by rw [hs]; simp
 obtain ⟨b1, hb1⟩ : ∃ b, b = lessZ x y := ⟨_, rfl⟩
 obtain ⟨b2, hb2⟩ : ∃ b, b = decide (0 < sg x) := ⟨_, rfl⟩
 have HB1 := Lib.hid hb1
 have t2 : decide (0 < sg x) = b2 := hb2.symm
 have t3 : (b1 == b2) = true := by rw [hb1, hb2]; rw [beq_iff_eq]; exact hc
 clear hc hs hne hb1 hb2
 clear hx h1 hy h2

 go_enter Try.func79, Try.ntmps79
 go_wp2_with fail
 refine (rright_ok (x := x) (H1.out.keep (by go_grown)) (HX.out.mono (by omega))).mono ?_
 rintro e w1 ⟨rfl, hb⟩
 have hbx := bx2 w 25 25 #[.int .i64 (sg x), .slice a1 (ln x) c1] #[.int .i64 (sg y), .slice a2 (ln y) c2]
 obtain ⟨k0, k1⟩ := hbx
 have K0 := Lib.hid (k0.keep hb)
 have K1 := Lib.hid (k1.keep hb)
 clear k0 k1
 have hb' : Below w.heap.size w w1 := below_call (by go_grown) hb
 have HB := Lib.hid hb'
 replace H1 := Lib.hid (H1.out.keep hb')
 replace H2 := Lib.hid (H2.out.keep hb')
 clear hb hb'
 refine K0.out.w2 fun p0_0 q0_0 p0_1 q0_1 z0 => ?_
 refine K1.out.w2 fun p1_0 q1_0 p1_1 q1_1 z1 => ?_
 go_wp2_with fail
 refine (rright_ok (x := y) (H2.out.keep (by go_grown)) (HY.out.mono (by omega))).mono ?_
 rintro e w2 ⟨rfl, hb⟩
 clear p0_0 q0_0 p0_1 q0_1 z0 p1_0 q1_0 p1_1 q1_1 z1
 have hb' := below_call (w1 := w1) (by go_grown) hb
 replace K0 := Lib.hid (K0.out.keep hb')
 replace K1 := Lib.hid (K1.out.keep hb')
 replace HB := Lib.hid (below_call HB.out hb')
 replace H1 := Lib.hid (H1.out.keep hb')
 replace H2 := Lib.hid (H2.out.keep hb')
 clear hb hb'
 refine K0.out.w2 fun p0_0 q0_0 p0_1 q0_1 z0 => ?_
 refine K1.out.w2 fun p1_0 q1_0 p1_1 q1_1 z1 => ?_
 go_wp2_with fail
 refine (rsame_ok (H1.out.keep (by go_grown)) (H2.out.keep (by go_grown)) (HX.out.mono (by omega)) (HY.out.mono (by omega))).mono ?_
 rintro e w3 ⟨rfl, hb⟩
 clear p0_0 q0_0 p0_1 q0_1 z0 p1_0 q1_0 p1_1 q1_1 z1
 have hb' := below_call (w1 := w2) (by go_grown) hb
 replace K0 := Lib.hid (K0.out.keep hb')
 replace K1 := Lib.hid (K1.out.keep hb')
 replace HB := Lib.hid (below_call HB.out hb')
 replace H1 := Lib.hid (H1.out.keep hb')
 replace H2 := Lib.hid (H2.out.keep hb')
 clear hb hb'
 refine K0.out.w2 fun p0_0 q0_0 p0_1 q0_1 z0 => ?_
 refine K1.out.w2 fun p1_0 q1_0 p1_1 q1_1 z1 => ?_
 rw [HEQ.out]
 go_wp2_with fail
 clear p0_0 q0_0 p0_1 q0_1 z0 p1_0 q1_0 p1_1 q1_1 z1
 have mk : Hid (∀ w', Below w3.heap.size w3 w' → w'.cell? ⟨w.heap.size, 0, none⟩ = some (.int .i64 (sg x)) ∧ w'.cell? ⟨w.heap.size, 1, none⟩ = some (.slice a1 (ln x) c1) ∧ w'.cell? ⟨w.heap.size + 1, 0, none⟩ = some (.int .i64 (sg y)) ∧ w'.cell? ⟨w.heap.size + 1, 1, none⟩ = some (.slice a2 (ln y) c2) ∧ Below w3.heap.size w3 w') := fun w' h => ((K0.out.keep h).t2 ((K1.out.keep h).t2 (h)))
 have hs0 : Below w3.heap.size w3 w3.drew := (Below.refl _ _).drew
 have HS0 : Hid (Below w3.heap.size w3 w3.drew) := (Below.refl _ _).drew
 have tok0 : True := trivial
 go_region_held3 (fun w' => w'.cell? ⟨w.heap.size, 0, none⟩ = some (.int .i64 (sg x)) ∧ w'.cell? ⟨w.heap.size, 1, none⟩ = some (.slice a1 (ln x) c1) ∧ w'.cell? ⟨w.heap.size + 1, 0, none⟩ = some (.int .i64 (sg y)) ∧ w'.cell? ⟨w.heap.size + 1, 1, none⟩ = some (.slice a2 (ln y) c2) ∧ Below w3.heap.size w3 w')
  (first | exact mk.out _ (by assumption) | exact mk.out _ (Below.alloc (by assumption) (Below.size (by assumption)) _))
  (first
   | (go_at_call 95; have _t := tok0; refine (less_is (H1.out.keep HS0.out) (H2.out.keep HS0.out) (HX.out.mono (by omega)) (HY.out.mono (by omega))).mono ?_; rintro e w4 ⟨rfl, hb⟩; clear tok0 _t; have hs1 := below_call hs0 hb; have HS1 := Lib.hid (below_call HS0.out hb); clear hb))
 replace K0 := Lib.hid (K0.out.keep HS1.out)
 replace K1 := Lib.hid (K1.out.keep HS1.out)
 replace HB := Lib.hid (below_call HB.out HS1.out)
 replace H1 := Lib.hid (H1.out.keep HS1.out)
 replace H2 := Lib.hid (H2.out.keep HS1.out)
 clear mk hs0 HS0 hs1 HS1
 rw [← HB1.out]
 go_wp2_with fail
 any_goals (exfalso; rename_i hh; rw [t3] at hh; exact Bool.noConfusion hh)
 go_ret
 exact ⟨ret_int HO.out, HB.out⟩
set_option maxHeartbeats 4000000 in
theorem rcompare_lgt {x y : Int} {a1 a2 : Option Addr} {c1 c2 : Nat} {w : World} (h1 : BD G w a1 c1 x) (h2 : BD G w a2 c2 y) (hx : Sz x 549755813888) (hy : Sz y 549755813888) (hs : sg x = sg y) (hne : x ≠ y) (hc : lessZ x y ≠ decide (0 < sg x)) :
  Calls Try.prog 79 #[.agg #[.int .i64 (sg x), .slice a1 (ln x) c1], .agg #[.int .i64 (sg y), .slice a2 (ln y) c2]] w fun e w' => e = .returned (.int .i64 (ord x y)) ∧ Below w.heap.size w w' := by
 have HX := Lib.hid hx
 have H1 := Lib.hid h1
 have HY := Lib.hid hy
 have H2 := Lib.hid h2
 have HEQ : Hid (eqZ x y = false) := by show _ = _; rw [eqZ, decide_eq_false_iff_not]; exact hne
 have HO : Hid (1 = ord x y) := by show _ = _; rw [ord_ref hs hne]; rw [if_neg hc]
 have t1 : (sg x != sg y) = false := by rw [hs]; simp
 obtain ⟨b1, hb1⟩ : ∃ b, b = lessZ x y := ⟨_, rfl⟩
 obtain ⟨b2, hb2⟩ : ∃ b, b = decide (0 < sg x) := ⟨_, rfl⟩
 have HB1 := Lib.hid hb1
 have t2 : decide (0 < sg x) = b2 := hb2.symm
 have t3 : (b1 == b2) = false := by rw [hb1, hb2]; rw [beq_eq_false_iff_ne]; exact hc
 clear hc hs hne hb1 hb2
 clear hx h1 hy h2

 go_enter Try.func79, Try.ntmps79
 go_wp2_with fail
 refine (rright_ok (x := x) (H1.out.keep (by go_grown)) (HX.out.mono (by omega))).mono ?_
 rintro e w1 ⟨rfl, hb⟩
 have hbx := bx2 w 25 25 #[.int .i64 (sg x), .slice a1 (ln x) c1] #[.int .i64 (sg y), .slice a2 (ln y) c2]
 obtain ⟨k0, k1⟩ := hbx
 have K0 := Lib.hid (k0.keep hb)
 have K1 := Lib.hid (k1.keep hb)
 clear k0 k1
 have hb' : Below w.heap.size w w1 := below_call (by go_grown) hb
 have HB := Lib.hid hb'
 replace H1 := Lib.hid (H1.out.keep hb')
 replace H2 := Lib.hid (H2.out.keep hb')
 clear hb hb'
 refine K0.out.w2 fun p0_0 q0_0 p0_1 q0_1 z0 => ?_
 refine K1.out.w2 fun p1_0 q1_0 p1_1 q1_1 z1 => ?_
 go_wp2_with fail
 refine (rright_ok (x := y) (H2.out.keep (by go_grown)) (HY.out.mono (by omega))).mono ?_
 rintro e w2 ⟨rfl, hb⟩
 clear p0_0 q0_0 p0_1 q0_1 z0 p1_0 q1_0 p1_1 q1_1 z1
 have hb' := below_call (w1 := w1) (by go_grown) hb
 replace K0 := Lib.hid (K0.out.keep hb')
 replace K1 := Lib.hid (K1.out.keep hb')
 replace HB := Lib.hid (below_call HB.out hb')
 replace H1 := Lib.hid (H1.out.keep hb')
 replace H2 := Lib.hid (H2.out.keep hb')
 clear hb hb'
 refine K0.out.w2 fun p0_0 q0_0 p0_1 q0_1 z0 => ?_
 refine K1.out.w2 fun p1_0 q1_0 p1_1 q1_1 z1 => ?_
 go_wp2_with fail
 refine (rsame_ok (H1.out.keep (by go_grown)) (H2.out.keep (by go_grown)) (HX.out.mono (by omega)) (HY.out.mono (by omega))).mono ?_
 rintro e w3 ⟨rfl, hb⟩
 clear p0_0 q0_0 p0_1 q0_1 z0 p1_0 q1_0 p1_1 q1_1 z1
 have hb' := below_call (w1 := w2) (by go_grown) hb
 replace K0 := Lib.hid (K0.out.keep hb')
 replace K1 := Lib.hid (K1.out.keep hb')
 replace HB := Lib.hid (below_call HB.out hb')
 replace H1 := Lib.hid (H1.out.keep hb')
 replace H2 := Lib.hid (H2.out.keep hb')
 clear hb hb'
 refine K0.out.w2 fun p0_0 q0_0 p0_1 q0_1 z0 => ?_
 refine K1.out.w2 fun p1_0 q1_0 p1_1 q1_1 z1 => ?_
 rw [HEQ.out]
 go_wp2_with fail
 clear p0_0 q0_0 p0_1 q0_1 z0 p1_0 q1_0 p1_1 q1_1 z1
 have mk : Hid (∀ w', Below w3.heap.size w3 w' → w'.cell? ⟨w.heap.size, 0, none⟩ = some (.int .i64 (sg x)) ∧ w'.cell? ⟨w.heap.size, 1, none⟩ = some (.slice a1 (ln x) c1) ∧ w'.cell? ⟨w.heap.size + 1, 0, none⟩ = some (.int .i64 (sg y)) ∧ w'.cell? ⟨w.heap.size + 1, 1, none⟩ = some (.slice a2 (ln y) c2) ∧ Below w3.heap.size w3 w') := fun w' h => ((K0.out.keep h).t2 ((K1.out.keep h).t2 (h)))
 have hs0 : Below w3.heap.size w3 w3.drew := (Below.refl _ _).drew
 have HS0 : Hid (Below w3.heap.size w3 w3.drew) := (Below.refl _ _).drew
 have tok0 : True := trivial
 go_region_held3 (fun w' => w'.cell? ⟨w.heap.size, 0, none⟩ = some (.int .i64 (sg x)) ∧ w'.cell? ⟨w.heap.size, 1, none⟩ = some (.slice a1 (ln x) c1) ∧ w'.cell? ⟨w.heap.size + 1, 0, none⟩ = some (.int .i64 (sg y)) ∧ w'.cell? ⟨w.heap.size + 1, 1, none⟩ = some (.slice a2 (ln y) c2) ∧ Below w3.heap.size w3 w')
  (first | exact mk.out _ (by assumption) | exact mk.out _ (Below.alloc (by assumption) (Below.size (by assumption)) _))
  (first
   | (go_at_call 95; have _t := tok0; refine (less_is (H1.out.keep HS0.out) (H2.out.keep HS0.out) (HX.out.mono (by omega)) (HY.out.mono (by omega))).mono ?_; rintro e w4 ⟨rfl, hb⟩; clear tok0 _t; have hs1 := below_call hs0 hb; have HS1 := Lib.hid (below_call HS0.out hb); clear hb))
 replace K0 := Lib.hid (K0.out.keep HS1.out)
 replace K1 := Lib.hid (K1.out.keep HS1.out)
 replace HB := Lib.hid (below_call HB.out HS1.out)
 replace H1 := Lib.hid (H1.out.keep HS1.out)
 replace H2 := Lib.hid (H2.out.keep HS1.out)
 clear mk hs0 HS0 hs1 HS1
 rw [← HB1.out]
 go_wp2_with fail
 any_goals (exfalso; rename_i hh; rw [t3] at hh; exact Bool.noConfusion hh)
 go_ret
 exact ⟨ret_int HO.out, HB.out⟩
theorem rcompare_ok {x y : Int} {a1 a2 : Option Addr} {c1 c2 : Nat} {w : World} (h1 : BD G w a1 c1 x) (h2 : BD G w a2 c2 y) (hx : Sz x 549755813888) (hy : Sz y 549755813888) :
    Calls Try.prog 79 #[.agg #[.int .i64 (sg x), .slice a1 (ln x) c1], .agg #[.int .i64 (sg y), .slice a2 (ln y) c2]] w fun e w' => e = .returned (.int .i64 (ord x y)) ∧ Below w.heap.size w w' := by
  by_cases hc : x = y
  · exact rcompare_eq h1 h2 hx hy hc
  · by_cases hs : sg x = sg y
    · by_cases hl : lessZ x y = decide (0 < sg x)
      · exact rcompare_llt h1 h2 hx hy hs hc hl
      · exact rcompare_lgt h1 h2 hx hy hs hc hl
    · by_cases hl : sg x < sg y
      · exact rcompare_slt h1 h2 hx hy hl
      · exact rcompare_sgt h1 h2 hx hy (by omega)
end Go.Proofs.Ytlpcblhkddmlnaa
namespace Go.Proofs.Ytlpcblhkddmlnaa
open Go.RowKit
variable {G : Nat}

theorem radd_sub {x y : Int} {a1 a2 : Option Addr} {c1 c2 : Nat} {w : World} (h1 : BD G w a1 c1 x) (h2 : BD G w a2 c2 (-y)) (hx : Sz x 549755813888) (hy : Sz y 549755813888) :
  Calls Try.prog 83 #[.agg #[.int .i64 (sg x), .slice a1 (ln x) c1], .agg #[.int .i64 (sg (-y)), .slice a2 (ln (-y)) c2]] w fun e w' => ∃ a c, e = .returned (.tuple #[.agg #[.int .i64 (sg (x - y)), .slice a (ln (x - y)) c], .int .i64 0]) ∧ BD G w' a c (x - y) ∧ Below w.heap.size w w' := by
 have := radd_ok h1 h2 hx hy.neg
 rwa [show x + -y = x - y by omega] at this
set_option maxHeartbeats 4000000 in
theorem rsub_ok {x y : Int} {a1 a2 : Option Addr} {c1 c2 : Nat} {w : World} (h1 : BD G w a1 c1 x) (h2 : BD G w a2 c2 y) (hx : Sz x 549755813888) (hy : Sz y 549755813888) :
    Calls Try.prog 57 #[.agg #[.int .i64 (sg x), .slice a1 (ln x) c1], .agg #[.int .i64 (sg y), .slice a2 (ln y) c2]] w fun e w' => ∃ a c, e = .returned (.tuple #[.agg #[.int .i64 (sg (x - y)), .slice a (ln (x - y)) c], .int .i64 0]) ∧ BD G w' a c (x - y) ∧ Below w.heap.size w w' := by
  have HX := Lib.hid hx
  have H1 := Lib.hid h1
  have HY := Lib.hid hy
  have H2 := Lib.hid h2
  have HSB : Hid (x + -y = x - y) := by show _ = _; omega
  clear hx h1 hy h2

  go_enter Try.func57, Try.ntmps57
  go_wp2_with fail
  refine (rright_ok (x := y) (H2.out.keep (by go_grown)) (HY.out.mono (by omega))).mono ?_
  rintro e w1 ⟨rfl, hb⟩
  have hbx := bx3 w 25 25 25 #[.int .i64 (sg x), .slice a1 (ln x) c1] #[.int .i64 (sg y), .slice a2 (ln y) c2] #[.int .i64 0, .slice none 0 0]
  obtain ⟨k0, k1, k2⟩ := hbx
  have K0 := Lib.hid (k0.keep hb)
  have K1 := Lib.hid (k1.keep hb)
  have K2 := Lib.hid (k2.keep hb)
  clear k0 k1 k2
  have hb' : Below w.heap.size w w1 := below_call (by go_grown) hb
  have HB := Lib.hid hb'
  replace H1 := Lib.hid (H1.out.keep hb')
  replace H2 := Lib.hid (H2.out.keep hb')
  clear hb hb'
  refine K0.out.w2 fun p0_0 q0_0 p0_1 q0_1 z0 => ?_
  refine K1.out.w2 fun p1_0 q1_0 p1_1 q1_1 z1 => ?_
  refine K2.out.w2 fun p2_0 q2_0 p2_1 q2_1 z2 => ?_
  go_wp2_with fail
  clear p0_0 q0_0 p0_1 q0_1 z0 p1_0 q1_0 p1_1 q1_1 z1 p2_0 q2_0 p2_1 q2_1 z2
  go_upto_region 3 with fail
  go_cut [6, 7] (fun sA s7 wx => ∃ (A : Nat) (a4 : Option Addr) (c4 : Nat), sA = .pointer (some ⟨A, 0, none⟩) ∧ s7 = .int .i64 0 ∧ Hid (Bx wx A 25 #[.int .i64 (sg (x - y)), .slice a4 (ln (x - y)) c4]) ∧ Hid (Bx wx w.heap.size 25 #[.int .i64 (sg x), .slice a1 (ln x) c1]) ∧ Hid (Bx wx (w.heap.size + 1) 25 #[.int .i64 (sg y), .slice a2 (ln y) c2]) ∧ Hid (Bx wx (w.heap.size + 1 + 1) 25 #[.int .i64 0, .slice none 0 0]) ∧ Hid (BD G wx a4 c4 (x - y)) ∧ Hid (BD G wx a1 c1 x) ∧ Hid (BD G wx a2 c2 y) ∧ Hid (Below w.heap.size w wx) ∧ w.heap.size + 1 + 1 < A)
  case first =>
    have mk : Hid (∀ w', Below w1.heap.size w1 w' → w'.cell? ⟨w.heap.size, 0, none⟩ = some (.int .i64 (sg x)) ∧ w'.cell? ⟨w.heap.size, 1, none⟩ = some (.slice a1 (ln x) c1) ∧ w'.cell? ⟨w.heap.size + 1, 0, none⟩ = some (.int .i64 (sg y)) ∧ w'.cell? ⟨w.heap.size + 1, 1, none⟩ = some (.slice a2 (ln y) c2) ∧ w'.cell? ⟨w.heap.size + 1 + 1, 0, none⟩ = some (.int .i64 0) ∧ w'.cell? ⟨w.heap.size + 1 + 1, 1, none⟩ = some (.slice none 0 0) ∧ Below w1.heap.size w1 w') := fun w' h => ((K0.out.keep h).t2 ((K1.out.keep h).t2 ((K2.out.keep h).t2 (h))))
    have hs0 : Below w1.heap.size w1 w1.drew := (Below.refl _ _).drew
    have HS0 : Hid (Below w1.heap.size w1 w1.drew) := (Below.refl _ _).drew
    have tok0 : True := trivial
    have tok1 : True := trivial
    go_region_held3 (fun w' => w'.cell? ⟨w.heap.size, 0, none⟩ = some (.int .i64 (sg x)) ∧ w'.cell? ⟨w.heap.size, 1, none⟩ = some (.slice a1 (ln x) c1) ∧ w'.cell? ⟨w.heap.size + 1, 0, none⟩ = some (.int .i64 (sg y)) ∧ w'.cell? ⟨w.heap.size + 1, 1, none⟩ = some (.slice a2 (ln y) c2) ∧ w'.cell? ⟨w.heap.size + 1 + 1, 0, none⟩ = some (.int .i64 0) ∧ w'.cell? ⟨w.heap.size + 1 + 1, 1, none⟩ = some (.slice none 0 0) ∧ Below w1.heap.size w1 w')
      (first | exact mk.out _ (by assumption) | exact mk.out _ (Below.alloc (by assumption) (Below.size (by assumption)) _) | exact mk.out _ (Below.setCell (Below.setCell (by assumption) hlA _) hlA _))
      (first
        | (go_at_call 84; have _t := tok0; refine (rneg_ok (H2.out.keep (Below.alloc HS0.out (Below.size HS0.out) _)) (HY.out.mono (by omega))).mono ?_; rintro e w2 ⟨a3, c3, rfl, hd3, hb⟩; clear tok0 _t; have hlA : w1.heap.size ≤ w1.heap.size := HS0.out.size; have KP : Hid (Bx w2 w1.heap.size 25 #[.int .i64 0, .slice none 0 0]) := (Bx.new w1.drew 25 #[.int .i64 0, .slice none 0 0]).keep hb; have ne0 : w.heap.size < w1.heap.size := (K0.out.keep HS0.out).lt; have ne1 : w.heap.size + 1 < w1.heap.size := (K1.out.keep HS0.out).lt; have ne2 : w.heap.size + 1 + 1 < w1.heap.size := (K2.out.keep HS0.out).lt; have hs1 := below_call (Below.alloc hs0 (Below.size hs0) _) hb; have HS1 := Lib.hid (below_call (Below.alloc HS0.out (Below.size HS0.out) _) hb); clear hb; have Hd3 := Lib.hid hd3; clear hd3)
        | (go_at_call 84; have _t := tok0; refine (rneg_ok (H2.out.keep HS0.out) (HY.out.mono (by omega))).mono ?_; rintro e w2 ⟨a3, c3, rfl, hd3, hb⟩; clear tok0 _t; have hs1 := below_call hs0 hb; have HS1 := Lib.hid (below_call HS0.out hb); clear hb; have Hd3 := Lib.hid hd3; clear hd3)
        | (go_at_call 83; have _t := tok1; refine (radd_sub (H1.out.keep (Below.alloc HS1.out (Below.size HS1.out) _)) (Hd3.out.keep (below_alloc _ _)) (HX.out.mono (by omega)) (HY.out.mono (by omega))).mono ?_; rintro e w3 ⟨a4, c4, rfl, hd4, hb⟩; clear tok1 _t; have hlA : w1.heap.size ≤ w2.heap.size := HS1.out.size; have KP : Hid (Bx w3 w2.heap.size 25 #[.int .i64 0, .slice none 0 0]) := (Bx.new w2 25 #[.int .i64 0, .slice none 0 0]).keep hb; have ne0 : w.heap.size < w2.heap.size := (K0.out.keep HS1.out).lt; have ne1 : w.heap.size + 1 < w2.heap.size := (K1.out.keep HS1.out).lt; have ne2 : w.heap.size + 1 + 1 < w2.heap.size := (K2.out.keep HS1.out).lt; (try (obtain ⟨pA, qA⟩ := KP.out.at)); have hs2 := below_call (Below.alloc hs1 (Below.size hs1) _) hb; have HS2 := Lib.hid (below_call (Below.alloc HS1.out (Below.size HS1.out) _) hb); have Hd3 := Lib.hid (Hd3.out.keep (below_call (below_alloc _ _) hb)); clear hb; have Hd4 := Lib.hid hd4; clear hd4)
        | (go_at_call 83; have _t := tok1; refine (radd_sub (H1.out.keep HS1.out) Hd3.out (HX.out.mono (by omega)) (HY.out.mono (by omega))).mono ?_; rintro e w3 ⟨a4, c4, rfl, hd4, hb⟩; clear tok1 _t; (try (have KP := Lib.hid (KP.out.keep hb))); (try (obtain ⟨pA, qA⟩ := KP.out.at)); have hs2 := below_call hs1 hb; have HS2 := Lib.hid (below_call HS1.out hb); have Hd3 := Lib.hid (Hd3.out.keep hb); clear hb; have Hd4 := Lib.hid hd4; clear hd4))
    all_goals (go_wp2_with fail)
    all_goals go_meet
    all_goals first
      | (exact ⟨_, a4, c4, rfl, rfl, Bx.new _ _ _, (K0.out.keep HS2.out).keep (below_alloc _ _), (K1.out.keep HS2.out).keep (below_alloc _ _), (K2.out.keep HS2.out).keep (below_alloc _ _), Hd4.out.keep (below_alloc _ _), (H1.out.keep HS2.out).keep (below_alloc _ _), (H2.out.keep HS2.out).keep (below_alloc _ _), below_call HB.out (below_call HS2.out (below_alloc _ _)), (K2.out.keep HS2.out).lt⟩)
      | ((have hA : w.heap.size ≤ w1.heap.size := by (have := ne0; omega)); have og := only_setCell (o := 1) (only_setCell (o := 0) (World.grownBy.refl w3 (some w1.heap.size)) (.int .i64 (sg (x - y)))) (.slice a4 (ln (x - y)) c4); exact ⟨_, a4, c4, rfl, rfl, KP.out.set2 _ _, (K0.out.keep HS2.out).only og (by omega), (K1.out.keep HS2.out).only og (by omega), (K2.out.keep HS2.out).only og (by omega), Hd4.out.far0 KP.out zb2 og, (H1.out.keep HS2.out).far0 KP.out zb2 og, (H2.out.keep HS2.out).far0 KP.out zb2 og, (Below.setCell (Below.setCell (below_call HB.out HS2.out) hA _) hA _), ne2⟩)
      | ((have hA : w.heap.size ≤ w2.heap.size := by (have := ne0; omega)); have og := only_setCell (o := 1) (only_setCell (o := 0) (World.grownBy.refl w3 (some w2.heap.size)) (.int .i64 (sg (x - y)))) (.slice a4 (ln (x - y)) c4); exact ⟨_, a4, c4, rfl, rfl, KP.out.set2 _ _, (K0.out.keep HS2.out).only og (by omega), (K1.out.keep HS2.out).only og (by omega), (K2.out.keep HS2.out).only og (by omega), Hd4.out.far0 KP.out zb2 og, (H1.out.keep HS2.out).far0 KP.out zb2 og, (H2.out.keep HS2.out).far0 KP.out zb2 og, (Below.setCell (Below.setCell (below_call HB.out HS2.out) hA _) hA _), ne2⟩)
  case rest =>
    obtain ⟨A, a4, c4, rfl, rfl, KA, K0, K1, K2, Hd4, H1, H2, HB, hltA⟩ := hcut
    obtain ⟨w4, rfl⟩ : ∃ x, x = wc := ⟨_, rfl⟩
    have K3 := KA; clear KA
    refine K0.out.w2 fun p0_0 q0_0 p0_1 q0_1 z0 => ?_
    refine K1.out.w2 fun p1_0 q1_0 p1_1 q1_1 z1 => ?_
    refine K2.out.w2 fun p2_0 q2_0 p2_1 q2_1 z2 => ?_
    refine K3.out.w2 fun p3_0 q3_0 p3_1 q3_1 z3 => ?_
    go_wp2_with fail
    clear p0_0 q0_0 p0_1 q0_1 z0 p1_0 q1_0 p1_1 q1_1 z1 p2_0 q2_0 p2_1 q2_1 z2 p3_0 q3_0 p3_1 q3_1 z3
    refine bodyPost_ret (results_box2 rfl _ _ (w.heap.size + 1 + 1) 25 _ _ _ rfl (K2.out.set2 _ _) Try.underlying25 rfl (by kernel_rfl)) rfl ?_
    refine ⟨a4, c4, rfl, ?_, ?_⟩
    · exact (Hd4.out.far0 K2.out zb2 (only_setCell (only_setCell (World.grownBy.refl _ _) _) _))
    · exact (Below.setCell (Below.setCell HB.out (by simp; try omega) _) (by simp; try omega) _)
theorem made_rd {s z : Int} {a : Option Addr} {c n : Nat} {w : World} (h : RdN w (.slice a (lnN n) c) (digs n)) (hn : lnN n ≤ 8796093022208) (hc : lnN n ≤ c) (hz : s * n = z) (h1 : n ≠ 0 → s = 1 ∨ s = -1) :
  Calls Try.prog 81 #[.int .i64 s, .slice a (lnN n) c] w fun e w' => ∃ a c, e = .returned (.agg #[.int .i64 (sg z), .slice a (ln z) c]) ∧ BD G w' a c z ∧ Below w.heap.size w w' :=
 made_ok (G := G) (l := digs n) h (digs_small n) hn hc (val_digs n) hz h1
set_option maxHeartbeats 4000000 in
theorem rgcd_ok {x y : Int} {a1 a2 : Option Addr} {c1 c2 : Nat} {w : World} (h1 : BD G w a1 c1 x) (h2 : BD G w a2 c2 y) (hx : Sz x 549755813888) (hy : Sz y 549755813888) :
    Calls Try.prog 78 #[.agg #[.int .i64 (sg x), .slice a1 (ln x) c1], .agg #[.int .i64 (sg y), .slice a2 (ln y) c2]] w fun e w' => ∃ a c, e = .returned (.tuple #[.agg #[.int .i64 (sg (Nat.gcd x.natAbs y.natAbs)), .slice a (ln (Nat.gcd x.natAbs y.natAbs)) c], .int .i64 0]) ∧ BD G w' a c (Nat.gcd x.natAbs y.natAbs) ∧ Below w.heap.size w w' := by
  have HX := Lib.hid hx
  have H1 := Lib.hid h1
  have HY := Lib.hid hy
  have H2 := Lib.hid h2
  clear hx h1 hy h2

  go_enter Try.func78, Try.ntmps78
  go_wp2_with fail
  refine (rright_ok (x := x) (H1.out.keep (by go_grown)) (HX.out.mono (by omega))).mono ?_
  rintro e w1 ⟨rfl, hb⟩
  have hbx := bx3 w 25 25 25 #[.int .i64 (sg x), .slice a1 (ln x) c1] #[.int .i64 (sg y), .slice a2 (ln y) c2] #[.int .i64 0, .slice none 0 0]
  obtain ⟨k0, k1, k2⟩ := hbx
  have K0 := Lib.hid (k0.keep hb)
  have K1 := Lib.hid (k1.keep hb)
  have K2 := Lib.hid (k2.keep hb)
  clear k0 k1 k2
  have hb' : Below w.heap.size w w1 := below_call (by go_grown) hb
  have HB := Lib.hid hb'
  replace H1 := Lib.hid (H1.out.keep hb')
  replace H2 := Lib.hid (H2.out.keep hb')
  clear hb hb'
  refine K0.out.w2 fun p0_0 q0_0 p0_1 q0_1 z0 => ?_
  refine K1.out.w2 fun p1_0 q1_0 p1_1 q1_1 z1 => ?_
  refine K2.out.w2 fun p2_0 q2_0 p2_1 q2_1 z2 => ?_
  go_wp2_with fail
  refine (rright_ok (x := y) (H2.out.keep (by go_grown)) (HY.out.mono (by omega))).mono ?_
  rintro e w2 ⟨rfl, hb⟩
  clear p0_0 q0_0 p0_1 q0_1 z0 p1_0 q1_0 p1_1 q1_1 z1 p2_0 q2_0 p2_1 q2_1 z2
  have hb' := below_call (w1 := w1) (by go_grown) hb
  replace K0 := Lib.hid (K0.out.keep hb')
  replace K1 := Lib.hid (K1.out.keep hb')
  replace K2 := Lib.hid (K2.out.keep hb')
  replace HB := Lib.hid (below_call HB.out hb')
  replace H1 := Lib.hid (H1.out.keep hb')
  replace H2 := Lib.hid (H2.out.keep hb')
  clear hb hb'
  refine K0.out.w2 fun p0_0 q0_0 p0_1 q0_1 z0 => ?_
  refine K1.out.w2 fun p1_0 q1_0 p1_1 q1_1 z1 => ?_
  refine K2.out.w2 fun p2_0 q2_0 p2_1 q2_1 z2 => ?_
  go_wp2_with fail
  clear p0_0 q0_0 p0_1 q0_1 z0 p1_0 q1_0 p1_1 q1_1 z1 p2_0 q2_0 p2_1 q2_1 z2
  rw [ln_eq y, ln_eq x]
  go_loopg [6, 7] y.natAbs (fun k v6 v7 wr => ∃ (m : Nat) (ax : Option Addr) (cx : Nat) (ay : Option Addr) (cy : Nat), v6 = .slice ax (lnN m) cx ∧ v7 = .slice ay (lnN k) cy ∧ Hid (Nat.gcd m k = Nat.gcd x.natAbs y.natAbs) ∧ Hid (RdN wr (.slice ax (lnN m) cx) (digs m)) ∧ Hid (RdN wr (.slice ay (lnN k) cy) (digs k)) ∧ Hid (lnN m ≤ 549755813888 ∧ lnN k ≤ 549755813888 ∧ lnN m ≤ cx ∧ lnN k ≤ cy) ∧ Hid (Below w2.heap.size w2 wr))
  case atStart => exact ⟨x.natAbs, _, _, _, _, rfl, rfl, rfl, H1.out.rd, H2.out.rd, ⟨HX.out, HY.out, H1.out.le, H2.out.le⟩, Below.refl _ _⟩
  case round =>
    obtain ⟨m, ax, cx, ay, cy, rfl, rfl, HG, HA, HC, HL, HW⟩ := hrel
    by_cases h0 : gk = 0
    · have e1 : decide (0 < lnN gk) = false := by rw [h0]; rfl
      have HM : Hid (m = Nat.gcd x.natAbs y.natAbs) := by show _ = _; rw [← HG.out, h0, Nat.gcd_zero_right]
      clear h0
      go_wp2_with fail
      replace K0 := Lib.hid (K0.out.keep HW.out)
      replace K1 := Lib.hid (K1.out.keep HW.out)
      replace K2 := Lib.hid (K2.out.keep HW.out)
      replace HB := Lib.hid (below_call HB.out HW.out)
      refine K0.out.w2 fun p0_0 q0_0 p0_1 q0_1 z0 => ?_
      refine K1.out.w2 fun p1_0 q1_0 p1_1 q1_1 z1 => ?_
      refine K2.out.w2 fun p2_0 q2_0 p2_1 q2_1 z2 => ?_
      refine (made_rd (G := G) (z := (m : Int)) (HA.out.keep (by go_grown)) (by have := HL.out.1; omega) HL.out.2.2.1 (Int.one_mul _) (fun _ => .inl rfl)).mono ?_
      rintro e w3 ⟨a6, c6, rfl, hd6, hb⟩
      clear p0_0 q0_0 p0_1 q0_1 z0 p1_0 q1_0 p1_1 q1_1 z1 p2_0 q2_0 p2_1 q2_1 z2
      have hb' := below_call (w1 := wr) (by go_grown) hb
      replace K0 := Lib.hid (K0.out.keep hb')
      replace K1 := Lib.hid (K1.out.keep hb')
      replace K2 := Lib.hid (K2.out.keep hb')
      replace HB := Lib.hid (below_call HB.out hb')
      replace HA := Lib.hid (HA.out.keep hb')
      clear hb hb'
      have Hd6 := Lib.hid hd6; clear hd6
      refine K0.out.w2 fun p0_0 q0_0 p0_1 q0_1 z0 => ?_
      refine K1.out.w2 fun p1_0 q1_0 p1_1 q1_1 z1 => ?_
      refine K2.out.w2 fun p2_0 q2_0 p2_1 q2_1 z2 => ?_
      go_wp2_with fail
      refine bodyPost_ret (results_box2 rfl _ _ (w.heap.size + 1 + 1) 25 _ _ _ rfl (K2.out.set2 _ _) Try.underlying25 rfl (by kernel_rfl)) rfl ?_
      rw [← HM.out]
      refine ⟨a6, c6, rfl, ?_, ?_⟩
      · exact Hd6.out.far0 K2.out zb2 (only_setCell (only_setCell (World.grownBy.refl _ _) _) _)
      · exact (HB.out.setCell (by simp; omega) _).setCell (by simp; omega) _
    · have hp := lnN_pos h0
      have e1 : decide (0 < lnN gk) = true := by rw [decide_eq_true_eq]; exact hp
      have HH := Lib.hid h0
      clear h0 hp
      go_wp2_with fail
      refine (over_nat (q := m / gk) (r := m % gk) HA.out HC.out HL.out.1 HL.out.2.1 HH.out rfl rfl).mono ?_
      rintro e w4 ⟨aq, cq, ar, cr, rfl, hq4, hr4, hb⟩
      have HR4 := Lib.hid hr4
      have HB4 := Lib.hid hb
      clear hq4 hr4 hb
      go_wp2_with fail
      go_roundg (m % gk)
      case measure => exact Nat.mod_lt _ (Nat.pos_of_ne_zero HH.out)
      case rel => exact ⟨gk, _, _, _, _, rfl, rfl, by show _ = _; rw [← HG.out, Nat.gcd_comm m gk, Nat.gcd_rec gk m, Nat.gcd_comm], HC.out.keep HB4.out, HR4.out.rd, ⟨HL.out.2.1, Nat.le_trans (digs_len_mono (Nat.mod_le _ _)) HL.out.1, HL.out.2.2.2, HR4.out.le⟩, below_call HW.out HB4.out⟩
end Go.Proofs.Ytlpcblhkddmlnaa
namespace Go.Proofs.Ytlpcblhkddmlnaa
open Go.RowKit
variable {G : Nat}

theorem over_is {x y : Int} {a1 a2 : Option Addr} {c1 c2 : Nat} {w : World} (h1 : BD G w a1 c1 x) (h2 : BD G w a2 c2 y) (hx : Sz x 549755813888) (hy : Sz y 549755813888) (h0 : y ≠ 0) {q r : Nat} (hq : x.natAbs / y.natAbs = q) (hr : x.natAbs % y.natAbs = r) :
  Calls Try.prog 93 #[.slice a1 (ln x) c1, .slice a2 (ln y) c2] w fun e w' => ∃ a c b d, e = .returned (.tuple #[.slice a (lnN q) c, .slice b (lnN r) d]) ∧ OwnN w' w.heap.size (.slice a (lnN q) c) (digs q) ∧ OwnN w' w.heap.size (.slice b (lnN r) d) (digs r) ∧ Below w.heap.size w w' := by
 rw [ln_eq, ln_eq]
 exact over_nat h1.rd h2.rd (by unfold Sz at hx; exact hx) (by unfold Sz at hy; exact hy) (by omega) hq hr
theorem minus_nat {y : Int} {r : Nat} {a2 b : Option Addr} {c2 d B : Nat} {w : World} (h2 : BD G w a2 c2 y) (h : OwnN w B (.slice b (lnN r) d) (digs r)) (hy : Sz y 549755813888) (hle : r ≤ y.natAbs) :
  Calls Try.prog 99 #[.slice a2 (ln y) c2, .slice b (lnN r) d] w fun e w' => ∃ a c, e = .returned (.slice a (lnN (y.natAbs - r)) c) ∧ OwnN w' w.heap.size (.slice a (lnN (y.natAbs - r)) c) (digs (y.natAbs - r)) ∧ Below w.heap.size w w' := by
 have := minus_ok _ _ _ _ w h2.rd h.rd (digs_small _) (digs_small _) (by rw [val_digs, val_digs]; exact hle) (digs_len_mono hle) (by unfold Sz at hy; omega)
 rw [val_digs, val_digs] at this
 exact own_slice this
theorem plus_one {q : Nat} {a : Option Addr} {c B : Nat} {w : World} (h : OwnN (w.alloc (.cells #[.int .i64 1] 3)) B (.slice a (lnN q) c) (digs q)) (hq : lnN q ≤ 549755813888) :
  Calls Try.prog 98 #[.slice a (lnN q) c, .slice (some ⟨w.heap.size, 0, none⟩) 1 1] (w.alloc (.cells #[.int .i64 1] 3)) fun e w' => ∃ a c, e = .returned (.slice a (lnN (q + 1)) c) ∧ OwnN w' (w.alloc (.cells #[.int .i64 1] 3)).heap.size (.slice a (lnN (q + 1)) c) (digs (q + 1)) ∧ Below (w.alloc (.cells #[.int .i64 1] 3)).heap.size (w.alloc (.cells #[.int .i64 1] 3)) w' := by
 have := plus_ok _ _ _ _ _ h.rd (own_lit1 w w.heap.size 1 (Nat.le_refl _)).rd (digs_small _) (small_one (by omega)) (by unfold lnN at hq; omega) (by simp)
 rw [val_digs] at this
 exact own_slice this
set_option maxHeartbeats 4000000 in
theorem rdiv_unlike {x y : Int} {a1 a2 : Option Addr} {c1 c2 : Nat} {w : World} (h1 : BD G w a1 c1 x) (h2 : BD G w a2 c2 y) (hx : Sz x 549755813888) (hy : Sz y 549755813888) (hy0 : y ≠ 0) (hs : sg x * sg y < 0 ∧ x.natAbs % y.natAbs ≠ 0) :
    Calls Try.prog 85 #[.agg #[.int .i64 (sg x), .slice a1 (ln x) c1], .agg #[.int .i64 (sg y), .slice a2 (ln y) c2]] w fun e w' => ∃ a c b d, e = .returned (.tuple #[.agg #[.int .i64 (sg (dv x y)), .slice a (ln (dv x y)) c], .agg #[.int .i64 (sg (md x y)), .slice b (ln (md x y)) d], .int .i64 0]) ∧ BD G w' a c (dv x y) ∧ BD G w' b d (md x y) ∧ Below w.heap.size w w' := by
  have HX := Lib.hid hx
  have HY := Lib.hid hy
  have H1 := Lib.hid h1
  have H2 := Lib.hid h2
  have hws := wrap_signs x y
  have e0 : (sg y == 0) = false := by rw [beq_eq_false_iff_ne]; rcases sg_ne hy0 with h | h <;> rw [h] <;> decide
  obtain ⟨q, hq⟩ : ∃ q, x.natAbs / y.natAbs = q := ⟨_, rfl⟩
  obtain ⟨r, hr⟩ : ∃ r, x.natAbs % y.natAbs = r := ⟨_, rfl⟩
  have hrm := tail_room (y := y) hx
  have hm1 := div_unlike hs.1 hs.2
  have hry := Nat.mod_lt x.natAbs (show 0 < y.natAbs by omega)
  rw [hq, hr] at hm1
  rw [hr] at hry
  have HM1 := Lib.hid hm1
  have HRY : Hid (r ≤ y.natAbs) := by show _ ≤ _; omega
  have e1 : decide (0 ≤ sg x * sg y) = false := by rw [decide_eq_false_iff_not]; omega
  have hrp := lnN_pos hs.2
  rw [hr] at hrp
  have e2 : (lnN r == 0) = false := by rw [beq_eq_false_iff_ne]; omega
  have e3 : ((lnN r : Int) == 0) = false := by rw [beq_eq_false_iff_ne]; omega
  have HM0 : Hid ((digs (q + 1)).length ≤ 8796093022208) := by
    show _ ≤ _
    have h1 := digs_len_add q 1
    have h2 : (digs 1).length = 1 := rfl
    have h3 := hrm.1
    rw [hq, lnN] at h3; omega
  have HM4 : Hid ((digs (y.natAbs - r)).length ≤ 8796093022208) := by show _ ≤ _; have := digs_len_mono (Nat.sub_le y.natAbs r); unfold Sz at hy; omega
  clear hm1 hry hrp
  rw [hq, hr] at hrm
  have HRM := Lib.hid hrm
  have HQ := Lib.hid hq
  have HR := Lib.hid hr
  clear hx hy h1 h2 hs hq hr hrm

  go_enter Try.func85, Try.ntmps85
  go_wp2_with fail
  refine (rright_ok (x := x) (H1.out.keep (by go_grown)) (HX.out.mono (by omega))).mono ?_
  rintro e w1 ⟨rfl, hb⟩
  have hbx := bx4 w 25 25 25 25 #[.int .i64 (sg x), .slice a1 (ln x) c1] #[.int .i64 (sg y), .slice a2 (ln y) c2] #[.int .i64 0, .slice none 0 0] #[.int .i64 0, .slice none 0 0]
  obtain ⟨k0, k1, k2, k3⟩ := hbx
  have K0 := Lib.hid (k0.keep hb)
  have K1 := Lib.hid (k1.keep hb)
  have K2 := Lib.hid (k2.keep hb)
  have K3 := Lib.hid (k3.keep hb)
  clear k0 k1 k2 k3
  have hb' : Below w.heap.size w w1 := below_call (by go_grown) hb
  have HB := Lib.hid hb'
  replace H1 := Lib.hid (H1.out.keep hb')
  replace H2 := Lib.hid (H2.out.keep hb')
  clear hb hb'
  refine K0.out.w2 fun p0_0 q0_0 p0_1 q0_1 z0 => ?_
  refine K1.out.w2 fun p1_0 q1_0 p1_1 q1_1 z1 => ?_
  refine K2.out.w2 fun p2_0 q2_0 p2_1 q2_1 z2 => ?_
  refine K3.out.w2 fun p3_0 q3_0 p3_1 q3_1 z3 => ?_
  go_wp2_with fail
  refine (rright_ok (x := y) (H2.out.keep (by go_grown)) (HY.out.mono (by omega))).mono ?_
  rintro e w2 ⟨rfl, hb⟩
  clear p0_0 q0_0 p0_1 q0_1 z0 p1_0 q1_0 p1_1 q1_1 z1 p2_0 q2_0 p2_1 q2_1 z2 p3_0 q3_0 p3_1 q3_1 z3
  have hb' := below_call (w1 := w1) (by go_grown) hb
  replace K0 := Lib.hid (K0.out.keep hb')
  replace K1 := Lib.hid (K1.out.keep hb')
  replace K2 := Lib.hid (K2.out.keep hb')
  replace K3 := Lib.hid (K3.out.keep hb')
  replace HB := Lib.hid (below_call HB.out hb')
  replace H1 := Lib.hid (H1.out.keep hb')
  replace H2 := Lib.hid (H2.out.keep hb')
  clear hb hb'
  refine K0.out.w2 fun p0_0 q0_0 p0_1 q0_1 z0 => ?_
  refine K1.out.w2 fun p1_0 q1_0 p1_1 q1_1 z1 => ?_
  refine K2.out.w2 fun p2_0 q2_0 p2_1 q2_1 z2 => ?_
  refine K3.out.w2 fun p3_0 q3_0 p3_1 q3_1 z3 => ?_
  go_wp2_with fail
  refine (over_is (q := q) (r := r) (H1.out.keep (by go_grown)) (H2.out.keep (by go_grown)) (HX.out.mono (by omega)) (HY.out.mono (by omega)) hy0 HQ.out HR.out).mono ?_
  rintro e w3 ⟨aq, cq, ar, cr, rfl, hq3, hr3, hb⟩
  clear p0_0 q0_0 p0_1 q0_1 z0 p1_0 q1_0 p1_1 q1_1 z1 p2_0 q2_0 p2_1 q2_1 z2 p3_0 q3_0 p3_1 q3_1 z3
  have hb' := below_call (w1 := w2) (by go_grown) hb
  replace K0 := Lib.hid (K0.out.keep hb')
  replace K1 := Lib.hid (K1.out.keep hb')
  replace K2 := Lib.hid (K2.out.keep hb')
  replace K3 := Lib.hid (K3.out.keep hb')
  replace HB := Lib.hid (below_call HB.out hb')
  replace H1 := Lib.hid (H1.out.keep hb')
  replace H2 := Lib.hid (H2.out.keep hb')
  clear hb hb'
  have Hq3 := Lib.hid hq3; clear hq3
  have Hr3 := Lib.hid hr3; clear hr3
  refine K0.out.w2 fun p0_0 q0_0 p0_1 q0_1 z0 => ?_
  refine K1.out.w2 fun p1_0 q1_0 p1_1 q1_1 z1 => ?_
  refine K2.out.w2 fun p2_0 q2_0 p2_1 q2_1 z2 => ?_
  refine K3.out.w2 fun p3_0 q3_0 p3_1 q3_1 z3 => ?_
  go_wp2_with fail
  clear p0_0 q0_0 p0_1 q0_1 z0 p1_0 q1_0 p1_1 q1_1 z1 p2_0 q2_0 p2_1 q2_1 z2 p3_0 q3_0 p3_1 q3_1 z3
  have mk : Hid (∀ w', Out w3 w' (w.heap.size + 1 + 1) (w.heap.size + 1 + 1 + 1) → w'.cell? ⟨w.heap.size, 0, none⟩ = some (.int .i64 (sg x)) ∧ w'.cell? ⟨w.heap.size, 1, none⟩ = some (.slice a1 (ln x) c1) ∧ w'.cell? ⟨w.heap.size + 1, 0, none⟩ = some (.int .i64 (sg y)) ∧ w'.cell? ⟨w.heap.size + 1, 1, none⟩ = some (.slice a2 (ln y) c2) ∧ Out w3 w' (w.heap.size + 1 + 1) (w.heap.size + 1 + 1 + 1)) := fun w' h => ((K0.out.outside h (by omega)).t2 ((K1.out.outside h (by omega)).t2 (h)))
  have hs0 : Out w3 w3.drew (w.heap.size + 1 + 1) (w.heap.size + 1 + 1 + 1) := out_start _ _ _
  have HS0 : Hid (Below w3.heap.size w3 w3.drew) := (Below.refl _ _).drew
  have tok0 : True := trivial
  have tok1 : True := trivial
  have tok2 : True := trivial
  have tok3 : True := trivial
  go_region_held3 (fun w' => w'.cell? ⟨w.heap.size, 0, none⟩ = some (.int .i64 (sg x)) ∧ w'.cell? ⟨w.heap.size, 1, none⟩ = some (.slice a1 (ln x) c1) ∧ w'.cell? ⟨w.heap.size + 1, 0, none⟩ = some (.int .i64 (sg y)) ∧ w'.cell? ⟨w.heap.size + 1, 1, none⟩ = some (.slice a2 (ln y) c2) ∧ Out w3 w' (w.heap.size + 1 + 1) (w.heap.size + 1 + 1 + 1))
    (first | exact mk.out _ (by assumption) | exact mk.out _ (out_alloc (by assumption) _) | (go_split_ands; exact mk.out _ (out_set (out_set (by assumption) (by omega) _) (by omega) _)))
    (first
      | (go_at_call 98; have _t := tok0; refine (plus_one (w := w3.drew) (Hq3.out.keep (Below.alloc HS0.out (Below.size HS0.out) _)) (by have := HRM.out.1; omega)).mono ?_; rintro e w4 ⟨a4, c4, rfl, ho4, hb⟩; clear tok0 _t; have hs1 := out_call (out_alloc hs0 _) hb; have HS1 := Lib.hid (below_call (Below.alloc HS0.out (Below.size HS0.out) _) hb); clear hb; have Ho4 := Lib.hid ho4; clear ho4)
      | (go_at_call 81; have _t := tok1; refine (made_own (G := G) (z := dv x y) Ho4.out HM0.out HM1.out.1 (fun _ => .inr rfl)).mono ?_; rintro e w5 ⟨a5, c5, rfl, hd5, hb⟩; clear tok1 _t; have hs2 := out_call hs1 hb; have HS2 := Lib.hid (below_call HS1.out hb); have Ho4 := Lib.hid (Ho4.out.keep hb); clear hb; have Hd5 := Lib.hid hd5; clear hd5)
      | (go_at_call 99; have _t := tok2; refine (minus_nat (H2.out.keep HS2.out) (Hr3.out.keep HS2.out) (HY.out.mono (by omega)) HRY.out).mono ?_; rintro e w6 ⟨a6, c6, rfl, ho6, hb⟩; clear tok2 _t; have hs3 := out_call hs2 hb; have HS3 := Lib.hid (below_call HS2.out hb); have Ho4 := Lib.hid (Ho4.out.keep hb); have Hd5 := Lib.hid (Hd5.out.keep hb); clear hb; have Ho6 := Lib.hid ho6; clear ho6)
      | (go_at_call 81; have _t := tok3; refine (made_own (G := G) (z := md x y) Ho6.out HM4.out HM1.out.2.1 (fun _ => HM1.out.2.2)).mono ?_; rintro e w7 ⟨a7, c7, rfl, hd7, hb⟩; clear tok3 _t; have hs4 := out_call hs3 hb; have HS4 := Lib.hid (below_call HS3.out hb); have Ho4 := Lib.hid (Ho4.out.keep hb); have Hd5 := Lib.hid (Hd5.out.keep hb); have Ho6 := Lib.hid (Ho6.out.keep hb); clear hb; have Hd7 := Lib.hid hd7; clear hd7; obtain ⟨p2, q2⟩ := (K2.out.keep HS4.out).at; obtain ⟨p3, q3⟩ := (K3.out.keep HS4.out).at))
  replace K0 := Lib.hid (K0.out.keep HS4.out)
  replace K1 := Lib.hid (K1.out.keep HS4.out)
  replace K2 := Lib.hid (K2.out.keep HS4.out)
  replace K3 := Lib.hid (K3.out.keep HS4.out)
  replace HB := Lib.hid (below_call HB.out HS4.out)
  replace H1 := Lib.hid (H1.out.keep HS4.out)
  replace H2 := Lib.hid (H2.out.keep HS4.out)
  replace Hq3 := Lib.hid (Hq3.out.keep HS4.out)
  replace Hr3 := Lib.hid (Hr3.out.keep HS4.out)
  clear mk hs0 HS0 hs1 HS1 hs2 HS2 hs3 HS3 hs4 HS4  p2 q2 p3 q3
  go_wp2_with fail
  have hst2 := only_setCell (g := w.heap.size + 1 + 1) (o := 1) (only_setCell (o := 0) (World.grownBy.refl w7 (some (w.heap.size + 1 + 1))) (.int .i64 (sg (dv x y)))) (.slice a5 (ln (dv x y)) c5)
  have k3 := K3.out.only hst2 (by omega)
  refine bodyPost_ret (results_box2t rfl _ _ (w.heap.size + 1 + 1) (w.heap.size + 1 + 1 + 1) 25 25 _ _ _ _ _ _ rfl ((K2.out.set2 _ _).only (only_setCell (only_setCell (World.grownBy.refl _ _) _) _) (by omega)) Try.underlying25 rfl (by kernel_rfl) rfl (k3.set2 _ _) Try.underlying25 rfl (by kernel_rfl)) rfl ⟨a5, c5, a7, c7, rfl, ?_, ?_, ?_⟩
  · exact (Hd5.out.far0 K2.out zb2 hst2).far0 k3 zb2 (only_setCell (only_setCell (World.grownBy.refl _ _) _) _)
  · exact (Hd7.out.far0 K2.out zb2 hst2).far0 k3 zb2 (only_setCell (only_setCell (World.grownBy.refl _ _) _) _)
  · exact (((HB.out.setCell (by simp; omega) _).setCell (by simp; omega) _).setCell (by simp; omega) _).setCell (by simp; omega) _
set_option maxHeartbeats 4000000 in
theorem rdiv_like {x y : Int} {a1 a2 : Option Addr} {c1 c2 : Nat} {w : World} (h1 : BD G w a1 c1 x) (h2 : BD G w a2 c2 y) (hx : Sz x 549755813888) (hy : Sz y 549755813888) (hy0 : y ≠ 0) (hs : 0 ≤ sg x * sg y) :
    Calls Try.prog 85 #[.agg #[.int .i64 (sg x), .slice a1 (ln x) c1], .agg #[.int .i64 (sg y), .slice a2 (ln y) c2]] w fun e w' => ∃ a c b d, e = .returned (.tuple #[.agg #[.int .i64 (sg (dv x y)), .slice a (ln (dv x y)) c], .agg #[.int .i64 (sg (md x y)), .slice b (ln (md x y)) d], .int .i64 0]) ∧ BD G w' a c (dv x y) ∧ BD G w' b d (md x y) ∧ Below w.heap.size w w' := by
  have HX := Lib.hid hx
  have HY := Lib.hid hy
  have H1 := Lib.hid h1
  have H2 := Lib.hid h2
  have hws := wrap_signs x y
  have e0 : (sg y == 0) = false := by rw [beq_eq_false_iff_ne]; rcases sg_ne hy0 with h | h <;> rw [h] <;> decide
  obtain ⟨q, hq⟩ : ∃ q, x.natAbs / y.natAbs = q := ⟨_, rfl⟩
  obtain ⟨r, hr⟩ : ∃ r, x.natAbs % y.natAbs = r := ⟨_, rfl⟩
  have hrm := tail_room (y := y) hx
  have hm1 := div_like hy0 (.inl hs)
  have e1 : decide (0 ≤ sg x * sg y) = true := by rw [decide_eq_true_eq]; exact hs

  rw [hq, hr] at hm1
  have HM1 := Lib.hid hm1
  have HM0 : Hid ((digs q).length ≤ 8796093022208) := by show _ ≤ _; have h3 := hrm.1; rw [hq, lnN] at h3; omega
  have HM4 : Hid ((digs r).length ≤ 8796093022208) := by show _ ≤ _; have h3 := hrm.2; rw [hr, lnN] at h3; omega
  have HM5 : Hid (q ≠ 0 → sg x * sg y = 1 ∨ sg x * sg y = -1) := fun h => sgs_ne (by rintro rfl; rw [← hq] at h; simp at h) hy0
  have HM6 : Hid (r ≠ 0 → sg x = 1 ∨ sg x = -1) := fun h => sg_ne (by rintro rfl; rw [← hr] at h; simp at h)
  clear hm1
  rw [hq, hr] at hrm
  have HRM := Lib.hid hrm
  have HQ := Lib.hid hq
  have HR := Lib.hid hr
  clear hx hy h1 h2 hs hq hr hrm

  go_enter Try.func85, Try.ntmps85
  go_wp2_with fail
  refine (rright_ok (x := x) (H1.out.keep (by go_grown)) (HX.out.mono (by omega))).mono ?_
  rintro e w1 ⟨rfl, hb⟩
  have hbx := bx4 w 25 25 25 25 #[.int .i64 (sg x), .slice a1 (ln x) c1] #[.int .i64 (sg y), .slice a2 (ln y) c2] #[.int .i64 0, .slice none 0 0] #[.int .i64 0, .slice none 0 0]
  obtain ⟨k0, k1, k2, k3⟩ := hbx
  have K0 := Lib.hid (k0.keep hb)
  have K1 := Lib.hid (k1.keep hb)
  have K2 := Lib.hid (k2.keep hb)
  have K3 := Lib.hid (k3.keep hb)
  clear k0 k1 k2 k3
  have hb' : Below w.heap.size w w1 := below_call (by go_grown) hb
  have HB := Lib.hid hb'
  replace H1 := Lib.hid (H1.out.keep hb')
  replace H2 := Lib.hid (H2.out.keep hb')
  clear hb hb'
  refine K0.out.w2 fun p0_0 q0_0 p0_1 q0_1 z0 => ?_
  refine K1.out.w2 fun p1_0 q1_0 p1_1 q1_1 z1 => ?_
  refine K2.out.w2 fun p2_0 q2_0 p2_1 q2_1 z2 => ?_
  refine K3.out.w2 fun p3_0 q3_0 p3_1 q3_1 z3 => ?_
  go_wp2_with fail
  refine (rright_ok (x := y) (H2.out.keep (by go_grown)) (HY.out.mono (by omega))).mono ?_
  rintro e w2 ⟨rfl, hb⟩
  clear p0_0 q0_0 p0_1 q0_1 z0 p1_0 q1_0 p1_1 q1_1 z1 p2_0 q2_0 p2_1 q2_1 z2 p3_0 q3_0 p3_1 q3_1 z3
  have hb' := below_call (w1 := w1) (by go_grown) hb
  replace K0 := Lib.hid (K0.out.keep hb')
  replace K1 := Lib.hid (K1.out.keep hb')
  replace K2 := Lib.hid (K2.out.keep hb')
  replace K3 := Lib.hid (K3.out.keep hb')
  replace HB := Lib.hid (below_call HB.out hb')
  replace H1 := Lib.hid (H1.out.keep hb')
  replace H2 := Lib.hid (H2.out.keep hb')
  clear hb hb'
  refine K0.out.w2 fun p0_0 q0_0 p0_1 q0_1 z0 => ?_
  refine K1.out.w2 fun p1_0 q1_0 p1_1 q1_1 z1 => ?_
  refine K2.out.w2 fun p2_0 q2_0 p2_1 q2_1 z2 => ?_
  refine K3.out.w2 fun p3_0 q3_0 p3_1 q3_1 z3 => ?_
  go_wp2_with fail
  refine (over_is (q := q) (r := r) (H1.out.keep (by go_grown)) (H2.out.keep (by go_grown)) (HX.out.mono (by omega)) (HY.out.mono (by omega)) hy0 HQ.out HR.out).mono ?_
  rintro e w3 ⟨aq, cq, ar, cr, rfl, hq3, hr3, hb⟩
  clear p0_0 q0_0 p0_1 q0_1 z0 p1_0 q1_0 p1_1 q1_1 z1 p2_0 q2_0 p2_1 q2_1 z2 p3_0 q3_0 p3_1 q3_1 z3
  have hb' := below_call (w1 := w2) (by go_grown) hb
  replace K0 := Lib.hid (K0.out.keep hb')
  replace K1 := Lib.hid (K1.out.keep hb')
  replace K2 := Lib.hid (K2.out.keep hb')
  replace K3 := Lib.hid (K3.out.keep hb')
  replace HB := Lib.hid (below_call HB.out hb')
  replace H1 := Lib.hid (H1.out.keep hb')
  replace H2 := Lib.hid (H2.out.keep hb')
  clear hb hb'
  have Hq3 := Lib.hid hq3; clear hq3
  have Hr3 := Lib.hid hr3; clear hr3
  refine K0.out.w2 fun p0_0 q0_0 p0_1 q0_1 z0 => ?_
  refine K1.out.w2 fun p1_0 q1_0 p1_1 q1_1 z1 => ?_
  refine K2.out.w2 fun p2_0 q2_0 p2_1 q2_1 z2 => ?_
  refine K3.out.w2 fun p3_0 q3_0 p3_1 q3_1 z3 => ?_
  go_wp2_with fail
  clear p0_0 q0_0 p0_1 q0_1 z0 p1_0 q1_0 p1_1 q1_1 z1 p2_0 q2_0 p2_1 q2_1 z2 p3_0 q3_0 p3_1 q3_1 z3
  have mk : Hid (∀ w', Out w3 w' (w.heap.size + 1 + 1) (w.heap.size + 1 + 1 + 1) → w'.cell? ⟨w.heap.size, 0, none⟩ = some (.int .i64 (sg x)) ∧ w'.cell? ⟨w.heap.size, 1, none⟩ = some (.slice a1 (ln x) c1) ∧ w'.cell? ⟨w.heap.size + 1, 0, none⟩ = some (.int .i64 (sg y)) ∧ w'.cell? ⟨w.heap.size + 1, 1, none⟩ = some (.slice a2 (ln y) c2) ∧ Out w3 w' (w.heap.size + 1 + 1) (w.heap.size + 1 + 1 + 1)) := fun w' h => ((K0.out.outside h (by omega)).t2 ((K1.out.outside h (by omega)).t2 (h)))
  have hs0 : Out w3 w3.drew (w.heap.size + 1 + 1) (w.heap.size + 1 + 1 + 1) := out_start _ _ _
  have HS0 : Hid (Below w3.heap.size w3 w3.drew) := (Below.refl _ _).drew
  have tok0 : True := trivial
  have tok1 : True := trivial
  go_region_held3 (fun w' => w'.cell? ⟨w.heap.size, 0, none⟩ = some (.int .i64 (sg x)) ∧ w'.cell? ⟨w.heap.size, 1, none⟩ = some (.slice a1 (ln x) c1) ∧ w'.cell? ⟨w.heap.size + 1, 0, none⟩ = some (.int .i64 (sg y)) ∧ w'.cell? ⟨w.heap.size + 1, 1, none⟩ = some (.slice a2 (ln y) c2) ∧ Out w3 w' (w.heap.size + 1 + 1) (w.heap.size + 1 + 1 + 1))
    (first | exact mk.out _ (by assumption) | exact mk.out _ (out_alloc (by assumption) _) | (go_split_ands; exact mk.out _ (out_set (out_set (by assumption) (by omega) _) (by omega) _)))
    (first
      | (go_at_call 81; have _t := tok0; refine (made_own (G := G) (z := dv x y) (Hq3.out.keep HS0.out) HM0.out HM1.out.1 HM5.out).mono ?_; rintro e w4 ⟨a4, c4, rfl, hd4, hb⟩; clear tok0 _t; have hs1 := out_call hs0 hb; have HS1 := Lib.hid (below_call HS0.out hb); clear hb; have Hd4 := Lib.hid hd4; clear hd4)
      | (go_at_call 81; have _t := tok1; refine (made_own (G := G) (z := md x y) (Hr3.out.keep HS1.out) HM4.out HM1.out.2 HM6.out).mono ?_; rintro e w5 ⟨a5, c5, rfl, hd5, hb⟩; clear tok1 _t; have hs2 := out_call hs1 hb; have HS2 := Lib.hid (below_call HS1.out hb); have Hd4 := Lib.hid (Hd4.out.keep hb); clear hb; have Hd5 := Lib.hid hd5; clear hd5; obtain ⟨p2, q2⟩ := (K2.out.keep HS2.out).at; obtain ⟨p3, q3⟩ := (K3.out.keep HS2.out).at))
  replace K0 := Lib.hid (K0.out.keep HS2.out)
  replace K1 := Lib.hid (K1.out.keep HS2.out)
  replace K2 := Lib.hid (K2.out.keep HS2.out)
  replace K3 := Lib.hid (K3.out.keep HS2.out)
  replace HB := Lib.hid (below_call HB.out HS2.out)
  replace H1 := Lib.hid (H1.out.keep HS2.out)
  replace H2 := Lib.hid (H2.out.keep HS2.out)
  replace Hq3 := Lib.hid (Hq3.out.keep HS2.out)
  replace Hr3 := Lib.hid (Hr3.out.keep HS2.out)
  clear mk hs0 HS0 hs1 HS1 hs2 HS2  p2 q2 p3 q3
  go_wp2_with fail
  have hst2 := only_setCell (g := w.heap.size + 1 + 1) (o := 1) (only_setCell (o := 0) (World.grownBy.refl w5 (some (w.heap.size + 1 + 1))) (.int .i64 (sg (dv x y)))) (.slice a4 (ln (dv x y)) c4)
  have k3 := K3.out.only hst2 (by omega)
  refine bodyPost_ret (results_box2t rfl _ _ (w.heap.size + 1 + 1) (w.heap.size + 1 + 1 + 1) 25 25 _ _ _ _ _ _ rfl ((K2.out.set2 _ _).only (only_setCell (only_setCell (World.grownBy.refl _ _) _) _) (by omega)) Try.underlying25 rfl (by kernel_rfl) rfl (k3.set2 _ _) Try.underlying25 rfl (by kernel_rfl)) rfl ⟨a4, c4, a5, c5, rfl, ?_, ?_, ?_⟩
  · exact (Hd4.out.far0 K2.out zb2 hst2).far0 k3 zb2 (only_setCell (only_setCell (World.grownBy.refl _ _) _) _)
  · exact (Hd5.out.far0 K2.out zb2 hst2).far0 k3 zb2 (only_setCell (only_setCell (World.grownBy.refl _ _) _) _)
  · exact (((HB.out.setCell (by simp; omega) _).setCell (by simp; omega) _).setCell (by simp; omega) _).setCell (by simp; omega) _
set_option maxHeartbeats 4000000 in
theorem rdiv_none {x y : Int} {a1 a2 : Option Addr} {c1 c2 : Nat} {w : World} (h1 : BD G w a1 c1 x) (h2 : BD G w a2 c2 y) (hx : Sz x 549755813888) (hy : Sz y 549755813888) (hy0 : y ≠ 0) (hs : sg x * sg y < 0 ∧ x.natAbs % y.natAbs = 0) :
    Calls Try.prog 85 #[.agg #[.int .i64 (sg x), .slice a1 (ln x) c1], .agg #[.int .i64 (sg y), .slice a2 (ln y) c2]] w fun e w' => ∃ a c b d, e = .returned (.tuple #[.agg #[.int .i64 (sg (dv x y)), .slice a (ln (dv x y)) c], .agg #[.int .i64 (sg (md x y)), .slice b (ln (md x y)) d], .int .i64 0]) ∧ BD G w' a c (dv x y) ∧ BD G w' b d (md x y) ∧ Below w.heap.size w w' := by
  have HX := Lib.hid hx
  have HY := Lib.hid hy
  have H1 := Lib.hid h1
  have H2 := Lib.hid h2
  have hws := wrap_signs x y
  have e0 : (sg y == 0) = false := by rw [beq_eq_false_iff_ne]; rcases sg_ne hy0 with h | h <;> rw [h] <;> decide
  obtain ⟨q, hq⟩ : ∃ q, x.natAbs / y.natAbs = q := ⟨_, rfl⟩
  obtain ⟨r, hr⟩ : ∃ r, x.natAbs % y.natAbs = r := ⟨_, rfl⟩
  have hrm := tail_room (y := y) hx
  have hm1 := div_like hy0 (.inr hs.2)
  have e1 : decide (0 ≤ sg x * sg y) = false := by rw [decide_eq_false_iff_not]; omega
  have e2 : (lnN r == 0) = true := by rw [← hr, hs.2]; rfl
  have e3 : ((lnN r : Int) == 0) = true := by rw [← hr, hs.2]; rfl

  rw [hq, hr] at hm1
  have HM1 := Lib.hid hm1
  have HM0 : Hid ((digs q).length ≤ 8796093022208) := by show _ ≤ _; have h3 := hrm.1; rw [hq, lnN] at h3; omega
  have HM4 : Hid ((digs r).length ≤ 8796093022208) := by show _ ≤ _; have h3 := hrm.2; rw [hr, lnN] at h3; omega
  have HM5 : Hid (q ≠ 0 → sg x * sg y = 1 ∨ sg x * sg y = -1) := fun h => sgs_ne (by rintro rfl; rw [← hq] at h; simp at h) hy0
  have HM6 : Hid (r ≠ 0 → sg x = 1 ∨ sg x = -1) := fun h => sg_ne (by rintro rfl; rw [← hr] at h; simp at h)
  clear hm1
  rw [hq, hr] at hrm
  have HRM := Lib.hid hrm
  have HQ := Lib.hid hq
  have HR := Lib.hid hr
  clear hx hy h1 h2 hs hq hr hrm

  go_enter Try.func85, Try.ntmps85
  go_wp2_with fail
  refine (rright_ok (x := x) (H1.out.keep (by go_grown)) (HX.out.mono (by omega))).mono ?_
  rintro e w1 ⟨rfl, hb⟩
  have hbx := bx4 w 25 25 25 25 #[.int .i64 (sg x), .slice a1 (ln x) c1] #[.int .i64 (sg y), .slice a2 (ln y) c2] #[.int .i64 0, .slice none 0 0] #[.int .i64 0, .slice none 0 0]
  obtain ⟨k0, k1, k2, k3⟩ := hbx
  have K0 := Lib.hid (k0.keep hb)
  have K1 := Lib.hid (k1.keep hb)
  have K2 := Lib.hid (k2.keep hb)
  have K3 := Lib.hid (k3.keep hb)
  clear k0 k1 k2 k3
  have hb' : Below w.heap.size w w1 := below_call (by go_grown) hb
  have HB := Lib.hid hb'
  replace H1 := Lib.hid (H1.out.keep hb')
  replace H2 := Lib.hid (H2.out.keep hb')
  clear hb hb'
  refine K0.out.w2 fun p0_0 q0_0 p0_1 q0_1 z0 => ?_
  refine K1.out.w2 fun p1_0 q1_0 p1_1 q1_1 z1 => ?_
  refine K2.out.w2 fun p2_0 q2_0 p2_1 q2_1 z2 => ?_
  refine K3.out.w2 fun p3_0 q3_0 p3_1 q3_1 z3 => ?_
  go_wp2_with fail
  refine (rright_ok (x := y) (H2.out.keep (by go_grown)) (HY.out.mono (by omega))).mono ?_
  rintro e w2 ⟨rfl, hb⟩
  clear p0_0 q0_0 p0_1 q0_1 z0 p1_0 q1_0 p1_1 q1_1 z1 p2_0 q2_0 p2_1 q2_1 z2 p3_0 q3_0 p3_1 q3_1 z3
  have hb' := below_call (w1 := w1) (by go_grown) hb
  replace K0 := Lib.hid (K0.out.keep hb')
  replace K1 := Lib.hid (K1.out.keep hb')
  replace K2 := Lib.hid (K2.out.keep hb')
  replace K3 := Lib.hid (K3.out.keep hb')
  replace HB := Lib.hid (below_call HB.out hb')
  replace H1 := Lib.hid (H1.out.keep hb')
  replace H2 := Lib.hid (H2.out.keep hb')
  clear hb hb'
  refine K0.out.w2 fun p0_0 q0_0 p0_1 q0_1 z0 => ?_
  refine K1.out.w2 fun p1_0 q1_0 p1_1 q1_1 z1 => ?_
  refine K2.out.w2 fun p2_0 q2_0 p2_1 q2_1 z2 => ?_
  refine K3.out.w2 fun p3_0 q3_0 p3_1 q3_1 z3 => ?_
  go_wp2_with fail
  refine (over_is (q := q) (r := r) (H1.out.keep (by go_grown)) (H2.out.keep (by go_grown)) (HX.out.mono (by omega)) (HY.out.mono (by omega)) hy0 HQ.out HR.out).mono ?_
  rintro e w3 ⟨aq, cq, ar, cr, rfl, hq3, hr3, hb⟩
  clear p0_0 q0_0 p0_1 q0_1 z0 p1_0 q1_0 p1_1 q1_1 z1 p2_0 q2_0 p2_1 q2_1 z2 p3_0 q3_0 p3_1 q3_1 z3
  have hb' := below_call (w1 := w2) (by go_grown) hb
  replace K0 := Lib.hid (K0.out.keep hb')
  replace K1 := Lib.hid (K1.out.keep hb')
  replace K2 := Lib.hid (K2.out.keep hb')
  replace K3 := Lib.hid (K3.out.keep hb')
  replace HB := Lib.hid (below_call HB.out hb')
  replace H1 := Lib.hid (H1.out.keep hb')
  replace H2 := Lib.hid (H2.out.keep hb')
  clear hb hb'
  have Hq3 := Lib.hid hq3; clear hq3
  have Hr3 := Lib.hid hr3; clear hr3
  refine K0.out.w2 fun p0_0 q0_0 p0_1 q0_1 z0 => ?_
  refine K1.out.w2 fun p1_0 q1_0 p1_1 q1_1 z1 => ?_
  refine K2.out.w2 fun p2_0 q2_0 p2_1 q2_1 z2 => ?_
  refine K3.out.w2 fun p3_0 q3_0 p3_1 q3_1 z3 => ?_
  go_wp2_with fail
  clear p0_0 q0_0 p0_1 q0_1 z0 p1_0 q1_0 p1_1 q1_1 z1 p2_0 q2_0 p2_1 q2_1 z2 p3_0 q3_0 p3_1 q3_1 z3
  have mk : Hid (∀ w', Out w3 w' (w.heap.size + 1 + 1) (w.heap.size + 1 + 1 + 1) → w'.cell? ⟨w.heap.size, 0, none⟩ = some (.int .i64 (sg x)) ∧ w'.cell? ⟨w.heap.size, 1, none⟩ = some (.slice a1 (ln x) c1) ∧ w'.cell? ⟨w.heap.size + 1, 0, none⟩ = some (.int .i64 (sg y)) ∧ w'.cell? ⟨w.heap.size + 1, 1, none⟩ = some (.slice a2 (ln y) c2) ∧ Out w3 w' (w.heap.size + 1 + 1) (w.heap.size + 1 + 1 + 1)) := fun w' h => ((K0.out.outside h (by omega)).t2 ((K1.out.outside h (by omega)).t2 (h)))
  have hs0 : Out w3 w3.drew (w.heap.size + 1 + 1) (w.heap.size + 1 + 1 + 1) := out_start _ _ _
  have HS0 : Hid (Below w3.heap.size w3 w3.drew) := (Below.refl _ _).drew
  have tok0 : True := trivial
  have tok1 : True := trivial
  go_region_held3 (fun w' => w'.cell? ⟨w.heap.size, 0, none⟩ = some (.int .i64 (sg x)) ∧ w'.cell? ⟨w.heap.size, 1, none⟩ = some (.slice a1 (ln x) c1) ∧ w'.cell? ⟨w.heap.size + 1, 0, none⟩ = some (.int .i64 (sg y)) ∧ w'.cell? ⟨w.heap.size + 1, 1, none⟩ = some (.slice a2 (ln y) c2) ∧ Out w3 w' (w.heap.size + 1 + 1) (w.heap.size + 1 + 1 + 1))
    (first | exact mk.out _ (by assumption) | exact mk.out _ (out_alloc (by assumption) _) | (go_split_ands; exact mk.out _ (out_set (out_set (by assumption) (by omega) _) (by omega) _)))
    (first
      | (go_at_call 81; have _t := tok0; refine (made_own (G := G) (z := dv x y) (Hq3.out.keep HS0.out) HM0.out HM1.out.1 HM5.out).mono ?_; rintro e w4 ⟨a4, c4, rfl, hd4, hb⟩; clear tok0 _t; have hs1 := out_call hs0 hb; have HS1 := Lib.hid (below_call HS0.out hb); clear hb; have Hd4 := Lib.hid hd4; clear hd4)
      | (go_at_call 81; have _t := tok1; refine (made_own (G := G) (z := md x y) (Hr3.out.keep HS1.out) HM4.out HM1.out.2 HM6.out).mono ?_; rintro e w5 ⟨a5, c5, rfl, hd5, hb⟩; clear tok1 _t; have hs2 := out_call hs1 hb; have HS2 := Lib.hid (below_call HS1.out hb); have Hd4 := Lib.hid (Hd4.out.keep hb); clear hb; have Hd5 := Lib.hid hd5; clear hd5; obtain ⟨p2, q2⟩ := (K2.out.keep HS2.out).at; obtain ⟨p3, q3⟩ := (K3.out.keep HS2.out).at))
  replace K0 := Lib.hid (K0.out.keep HS2.out)
  replace K1 := Lib.hid (K1.out.keep HS2.out)
  replace K2 := Lib.hid (K2.out.keep HS2.out)
  replace K3 := Lib.hid (K3.out.keep HS2.out)
  replace HB := Lib.hid (below_call HB.out HS2.out)
  replace H1 := Lib.hid (H1.out.keep HS2.out)
  replace H2 := Lib.hid (H2.out.keep HS2.out)
  replace Hq3 := Lib.hid (Hq3.out.keep HS2.out)
  replace Hr3 := Lib.hid (Hr3.out.keep HS2.out)
  clear mk hs0 HS0 hs1 HS1 hs2 HS2  p2 q2 p3 q3
  go_wp2_with fail
  have hst2 := only_setCell (g := w.heap.size + 1 + 1) (o := 1) (only_setCell (o := 0) (World.grownBy.refl w5 (some (w.heap.size + 1 + 1))) (.int .i64 (sg (dv x y)))) (.slice a4 (ln (dv x y)) c4)
  have k3 := K3.out.only hst2 (by omega)
  refine bodyPost_ret (results_box2t rfl _ _ (w.heap.size + 1 + 1) (w.heap.size + 1 + 1 + 1) 25 25 _ _ _ _ _ _ rfl ((K2.out.set2 _ _).only (only_setCell (only_setCell (World.grownBy.refl _ _) _) _) (by omega)) Try.underlying25 rfl (by kernel_rfl) rfl (k3.set2 _ _) Try.underlying25 rfl (by kernel_rfl)) rfl ⟨a4, c4, a5, c5, rfl, ?_, ?_, ?_⟩
  · exact (Hd4.out.far0 K2.out zb2 hst2).far0 k3 zb2 (only_setCell (only_setCell (World.grownBy.refl _ _) _) _)
  · exact (Hd5.out.far0 K2.out zb2 hst2).far0 k3 zb2 (only_setCell (only_setCell (World.grownBy.refl _ _) _) _)
  · exact (((HB.out.setCell (by simp; omega) _).setCell (by simp; omega) _).setCell (by simp; omega) _).setCell (by simp; omega) _
theorem rdiv_ok {x y : Int} {a1 a2 : Option Addr} {c1 c2 : Nat} {w : World} (h1 : BD G w a1 c1 x) (h2 : BD G w a2 c2 y) (hx : Sz x 549755813888) (hy : Sz y 549755813888) (hy0 : y ≠ 0) :
    Calls Try.prog 85 #[.agg #[.int .i64 (sg x), .slice a1 (ln x) c1], .agg #[.int .i64 (sg y), .slice a2 (ln y) c2]] w fun e w' => ∃ a c b d, e = .returned (.tuple #[.agg #[.int .i64 (sg (dv x y)), .slice a (ln (dv x y)) c], .agg #[.int .i64 (sg (md x y)), .slice b (ln (md x y)) d], .int .i64 0]) ∧ BD G w' a c (dv x y) ∧ BD G w' b d (md x y) ∧ Below w.heap.size w w' := by
  by_cases hs : sg x * sg y < 0
  · by_cases hr : x.natAbs % y.natAbs = 0
    · exact rdiv_none h1 h2 hx hy hy0 ⟨hs, hr⟩
    · exact rdiv_unlike h1 h2 hx hy hy0 ⟨hs, hr⟩
  · exact rdiv_like h1 h2 hx hy hy0 (by omega)
end Go.Proofs.Ytlpcblhkddmlnaa
namespace Go.Proofs.Ytlpcblhkddmlnaa
open Go.RowKit
variable {G : Nat}

theorem made_own_any {s z : Int} {v : Value} {l : Digs} {n B : Nat} {w : World} (h : OwnN w B v l) (hs : small l) (hn : l.length ≤ 8796093022208) (hv : val l = n) (hz : s * n = z) (h1 : n ≠ 0 → s = 1 ∨ s = -1) :
  Calls Try.prog 81 #[.int .i64 s, v] w fun e w' => ∃ a c, e = .returned (.agg #[.int .i64 (sg z), .slice a (ln z) c]) ∧ BD G w' a c z ∧ Below w.heap.size w w' := by
 obtain ⟨a, c, rfl, hc⟩ := h.sl
 exact made_ok (G := G) h.rd hs hn hc hv hz h1
set_option maxHeartbeats 8000000 in
set_option maxRecDepth 100000 in
theorem rof_pos (x : Int) (w : World) (hx : -9223372036854775808 ≤ x ∧ x ≤ 9223372036854775807) (hs : 0 < x) :
    Calls Try.prog 80 #[.int .i64 x] w fun e w' => ∃ a c, e = .returned (.agg #[.int .i64 (sg x), .slice a (ln x) c]) ∧ BD G w' a c x ∧ Below w.heap.size w w' := by
  obtain ⟨n, hn⟩ : ∃ n, n = x.natAbs := ⟨_, rfl⟩
  have hnb : n ≤ 9223372036854775808 := by omega
  have e0 : (x == 0) = false := by rw [beq_eq_false_iff_ne]; omega
  have e1 : decide (x < 0) = false := by rw [decide_eq_false_iff_not]; omega
  have HNX := Lib.hid hn
  have HX := Lib.hid hs
  have HSt : Hid (x = n) := by show _ = _; omega
  clear hn hs
  go_enter Try.func80, Try.ntmps80
  go_wp2_with fail
  obtain ⟨w0, hw0⟩ : ∃ w0, w0 = w.alloc (.cells #[.int .i64 0, .slice none 0 0] 25) := ⟨_, rfl⟩
  rw [← hw0]
  have K0 : Hid (Bx w0 w.heap.size 25 #[.int .i64 0, .slice none 0 0]) := by rw [hw0]; exact bx1 w _ _
  have HB0 : Hid (Below w.heap.size w w0) := by rw [hw0]; exact below_alloc _ _
  clear hw0
  go_loopw [0, 4] (fun i v wr => ∃ (l : Digs) (u : Nat), u ≤ n ∧ l.length ≤ 4 ∧ i = .int .i64 u ∧ Hid (small l) ∧ Hid (val l + 1048576 ^ l.length * u = n) ∧ Hid (OwnN wr w0.heap.size v l) ∧ Hid (Below w0.heap.size w0 wr)) (fun i _ _ => (intOf i).natAbs)
  case atStart => exact ⟨[], n, Nat.le_refl _, by simp, by rw [HSt.out], small_nil, by show _ = _; simp [val], ownN_nil _ _, Below.refl _ _⟩
  case round =>
    obtain ⟨l, u, hu, hll, rfl, HS, HE, HO, HB⟩ := hrel
    have hl4 : u ≠ 0 → l.length < 4 := fun h => of_room hnb HE.out h
    by_cases h0 : u = 0
    · have e2 : (u != 0) = false := by rw [h0]; rfl
      have e3 : ((u : Int) != 0) = false := by rw [h0]; rfl
      have HV : Hid (val l = n) := by show _ = _; have := HE.out; rw [h0, Nat.mul_zero] at this; omega
      have HL : Hid (l.length ≤ 8796093022208) := by show _ ≤ _; omega
      have HZ : Hid (1 * (n : Int) = x) := by show _ = _; rw [HNX.out]; have := HX.out; omega
      clear h0 hl4
      go_wp2_with fail
      refine (made_own_any (G := G) HO.out HS.out HL.out HV.out HZ.out (fun _ => .inl rfl)).mono ?_
      rintro e w2 ⟨a, c, rfl, hd, hb⟩
      have K2 := Lib.hid ((K0.out.keep HB.out).keep hb)
      have HB2 := Lib.hid (below_call HB0.out (below_call HB.out hb))
      have HD := Lib.hid hd
      clear hb hd
      obtain ⟨p0, q0⟩ := K2.out.at
      go_wp2_with fail
      refine bodyPost_ret (results_box1 rfl _ _ w.heap.size 25 _ _ _ rfl (K2.out.set2 _ _) Try.underlying25 rfl (by kernel_rfl)) rfl ⟨a, c, rfl, ?_, ?_⟩
      · exact HD.out.far0 K2.out zb2 (only_setCell (only_setCell (World.grownBy.refl _ _) _) _)
      · exact (HB2.out.setCell (Nat.le_refl _) _).setCell (Nat.le_refl _) _
    · have hl3 := hl4 h0
      have e2 : (u != 0) = true := by rw [bne_iff_ne]; exact h0
      have e3 : ((u : Int) != 0) = true := by rw [bne_iff_ne]; omega
      obtain ⟨d, hd⟩ : ∃ d, d = u % 1048576 := ⟨_, rfl⟩
      obtain ⟨m, hm⟩ : ∃ m, m = u / 1048576 := ⟨_, rfl⟩
      have hds : d < 1048576 := by omega
      have hmod : (u : Int) % 1048576 = (d : Int) := by omega
      have hdiv : (u : Int) / 1048576 = (m : Int) := by omega
      have hmu : m < u := by omega
      have hum : u ≤ 9223372036854775808 := by omega
      have HE2 : Hid (val (l ++ [d]) + 1048576 ^ (l ++ [d]).length * m = n) := by show _ = _; rw [val_snoc_digs, show d + 1048576 * m = u by omega]; exact HE.out
      have HA : Hid (OwnN (wr.alloc (.cells #[.int .i64 (d : Int)] 3)) w0.heap.size u4 l) := HO.out.keep (below_alloc _ _)
      have HL1 : Hid (RdN (wr.alloc (.cells #[.int .i64 (d : Int)] 3)) (.slice (some ⟨wr.heap.size, 0, none⟩) 1 1) [d]) := (own_lit1 wr wr.heap.size d (Nat.le_refl _)).rd
      have hsz : w0.heap.size ≤ wr.heap.size := HB.out.size
      clear hd hm h0 hl4
      go_wp2_with (at_builtin; go_must (refine wpList_appendN rfl _ _ rfl (wr.alloc (.cells #[.int .i64 (d : Int)] 3)) w0.heap.size u4 l rfl HA.out ⟨wr.heap.size, 0, none⟩ 1 1 [d] rfl rfl HL1.out (by simp; omega) (by simp; omega) ?_; intro v' w1 ho hg hb))
      have HO2 := Lib.hid ho
      have HB2 : Hid (Below w0.heap.size w0 w1) := (HB.out.alloc hsz _).trans hb
      clear ho hg hb
      go_roundw
      case rel => exact ⟨l ++ [d], m, by omega, by simp; omega, by first | rfl | rw [hdiv], small_append HS.out (small_one hds), HE2, HO2.out, HB2.out⟩
      case measure => simp [intOf]; omega
set_option maxHeartbeats 8000000 in
set_option maxRecDepth 100000 in
theorem rof_neg (x : Int) (w : World) (hx : -9223372036854775808 ≤ x ∧ x ≤ 9223372036854775807) (hs : x < 0) :
    Calls Try.prog 80 #[.int .i64 x] w fun e w' => ∃ a c, e = .returned (.agg #[.int .i64 (sg x), .slice a (ln x) c]) ∧ BD G w' a c x ∧ Below w.heap.size w w' := by
  obtain ⟨n, hn⟩ : ∃ n, n = x.natAbs := ⟨_, rfl⟩
  have hnb : n ≤ 9223372036854775808 := by omega
  have e0 : (x == 0) = false := by rw [beq_eq_false_iff_ne]; omega
  have e1 : decide (x < 0) = true := by rw [decide_eq_true_eq]; omega
  have HNX := Lib.hid hn
  have HX := Lib.hid hs
  have HSt : Hid (x = -(n : Int)) := by show _ = _; omega
  clear hn hs
  go_enter Try.func80, Try.ntmps80
  go_wp2_with fail
  obtain ⟨w0, hw0⟩ : ∃ w0, w0 = w.alloc (.cells #[.int .i64 0, .slice none 0 0] 25) := ⟨_, rfl⟩
  rw [← hw0]
  have K0 : Hid (Bx w0 w.heap.size 25 #[.int .i64 0, .slice none 0 0]) := by rw [hw0]; exact bx1 w _ _
  have HB0 : Hid (Below w.heap.size w w0) := by rw [hw0]; exact below_alloc _ _
  clear hw0
  go_loopw [0, 4] (fun i v wr => ∃ (l : Digs) (u : Nat), u ≤ n ∧ l.length ≤ 4 ∧ i = .int .i64 (-(u : Int)) ∧ Hid (small l) ∧ Hid (val l + 1048576 ^ l.length * u = n) ∧ Hid (OwnN wr w0.heap.size v l) ∧ Hid (Below w0.heap.size w0 wr)) (fun i _ _ => (intOf i).natAbs)
  case atStart => exact ⟨[], n, Nat.le_refl _, by simp, by rw [HSt.out], small_nil, by show _ = _; simp [val], ownN_nil _ _, Below.refl _ _⟩
  case round =>
    obtain ⟨l, u, hu, hll, rfl, HS, HE, HO, HB⟩ := hrel
    have hl4 : u ≠ 0 → l.length < 4 := fun h => of_room hnb HE.out h
    by_cases h0 : u = 0
    · have e2 : (u != 0) = false := by rw [h0]; rfl
      have e3 : ((-(u : Int)) != 0) = false := by rw [h0]; rfl
      have HV : Hid (val l = n) := by show _ = _; have := HE.out; rw [h0, Nat.mul_zero] at this; omega
      have HL : Hid (l.length ≤ 8796093022208) := by show _ ≤ _; omega
      have HZ : Hid ((-1) * (n : Int) = x) := by show _ = _; rw [HNX.out]; have := HX.out; omega
      clear h0 hl4
      go_wp2_with fail
      refine (made_own_any (G := G) HO.out HS.out HL.out HV.out HZ.out (fun _ => .inr rfl)).mono ?_
      rintro e w2 ⟨a, c, rfl, hd, hb⟩
      have K2 := Lib.hid ((K0.out.keep HB.out).keep hb)
      have HB2 := Lib.hid (below_call HB0.out (below_call HB.out hb))
      have HD := Lib.hid hd
      clear hb hd
      obtain ⟨p0, q0⟩ := K2.out.at
      go_wp2_with fail
      refine bodyPost_ret (results_box1 rfl _ _ w.heap.size 25 _ _ _ rfl (K2.out.set2 _ _) Try.underlying25 rfl (by kernel_rfl)) rfl ⟨a, c, rfl, ?_, ?_⟩
      · exact HD.out.far0 K2.out zb2 (only_setCell (only_setCell (World.grownBy.refl _ _) _) _)
      · exact (HB2.out.setCell (Nat.le_refl _) _).setCell (Nat.le_refl _) _
    · have hl3 := hl4 h0
      have e2 : (u != 0) = true := by rw [bne_iff_ne]; exact h0
      have e3 : ((-(u : Int)) != 0) = true := by rw [bne_iff_ne]; omega
      obtain ⟨d, hd⟩ : ∃ d, d = u % 1048576 := ⟨_, rfl⟩
      obtain ⟨m, hm⟩ : ∃ m, m = u / 1048576 := ⟨_, rfl⟩
      have hds : d < 1048576 := by omega
      have hmod : Int.tmod (-(u : Int)) 1048576 = -(d : Int) := by
        rw [Int.neg_tmod]
        have : Int.tmod (u : Int) 1048576 = (d : Int) := by (rw [Int.tmod_eq_emod_of_nonneg (by omega)]; omega)
        omega
      have hdiv : Int.tdiv (-(u : Int)) 1048576 = -(m : Int) := by
        rw [Int.neg_tdiv]
        have : Int.tdiv (u : Int) 1048576 = (m : Int) := by (rw [Int.tdiv_eq_ediv_of_nonneg (by omega)]; omega)
        omega
      have hmu : m < u := by omega
      have hum : u ≤ 9223372036854775808 := by omega
      have HE2 : Hid (val (l ++ [d]) + 1048576 ^ (l ++ [d]).length * m = n) := by show _ = _; rw [val_snoc_digs, show d + 1048576 * m = u by omega]; exact HE.out
      have HA : Hid (OwnN (wr.alloc (.cells #[.int .i64 (d : Int)] 3)) w0.heap.size u4 l) := HO.out.keep (below_alloc _ _)
      have HL1 : Hid (RdN (wr.alloc (.cells #[.int .i64 (d : Int)] 3)) (.slice (some ⟨wr.heap.size, 0, none⟩) 1 1) [d]) := (own_lit1 wr wr.heap.size d (Nat.le_refl _)).rd
      have hsz : w0.heap.size ≤ wr.heap.size := HB.out.size
      clear hd hm h0 hl4
      by_cases hd0 : d = 0
      · subst hd0
        have HA : Hid (OwnN (wr.alloc (.cells #[.int .i64 0] 3)) w0.heap.size u4 l) := HA.out
        have HL1 : Hid (RdN (wr.alloc (.cells #[.int .i64 0] 3)) (.slice (some ⟨wr.heap.size, 0, none⟩) 1 1) [0]) := HL1.out
        have hmod : Int.tmod (-(u : Int)) 1048576 = 0 := hmod
        go_wp2_with (at_builtin; go_must (refine wpList_appendN rfl _ _ rfl (wr.alloc (.cells #[.int .i64 0] 3)) w0.heap.size u4 l rfl HA.out ⟨wr.heap.size, 0, none⟩ 1 1 [0] rfl rfl HL1.out (by simp; omega) (by simp; omega) ?_; intro v' w1 ho hg hb))
        have HO2 := Lib.hid ho
        have HB2 : Hid (Below w0.heap.size w0 w1) := (HB.out.alloc hsz _).trans hb
        clear ho hg hb
        go_roundw
        case rel => exact ⟨l ++ [0], m, by omega, by simp; omega, by first | rfl | rw [hdiv], small_append HS.out (small_one hds), HE2, HO2.out, HB2.out⟩
        case measure => simp [intOf]; omega
      · have t4 : decide (-(d : Int) < 0) = true := by rw [decide_eq_true_eq]; omega
        go_wp2_with (at_builtin; go_must (refine wpList_appendN rfl _ _ rfl (wr.alloc (.cells #[.int .i64 (d : Int)] 3)) w0.heap.size u4 l rfl HA.out ⟨wr.heap.size, 0, none⟩ 1 1 [d] rfl rfl HL1.out (by simp; omega) (by simp; omega) ?_; intro v' w1 ho hg hb))
        have HO2 := Lib.hid ho
        have HB2 : Hid (Below w0.heap.size w0 w1) := (HB.out.alloc hsz _).trans hb
        clear ho hg hb
        go_roundw
        case rel => exact ⟨l ++ [d], m, by omega, by simp; omega, by first | rfl | rw [hdiv], small_append HS.out (small_one hds), HE2, HO2.out, HB2.out⟩
        case measure => simp [intOf]; omega
set_option maxHeartbeats 8000000 in
theorem rof_zero (w : World) :
    Calls Try.prog 80 #[.int .i64 0] w fun e w' => ∃ a c, e = .returned (.agg #[.int .i64 (sg 0), .slice a (ln 0) c]) ∧ BD G w' a c 0 ∧ Below w.heap.size w w' := by
  go_enter Try.func80, Try.ntmps80
  go_wp2_with fail
  refine bodyPost_ret (results_box1 rfl _ _ w.heap.size 25 _ _ _ rfl (bx1 w _ #[.int .i64 0, .slice none 0 0]) Try.underlying25 rfl (by kernel_rfl)) rfl ⟨none, 0, rfl, ?_, ?_⟩
  · exact bd_zero _ _ _
  · exact below_alloc _ _
theorem rof_ok (x : Int) (w : World) (hx : -9223372036854775808 ≤ x ∧ x ≤ 9223372036854775807) :
    Calls Try.prog 80 #[.int .i64 x] w fun e w' => ∃ a c, e = .returned (.agg #[.int .i64 (sg x), .slice a (ln x) c]) ∧ BD G w' a c x ∧ Below w.heap.size w w' := by
  rcases Int.lt_trichotomy x 0 with h | h | h
  · exact rof_neg (G := G) x w hx h
  · rw [h]; exact rof_zero (G := G) w
  · exact rof_pos (G := G) x w hx h
end Go.Proofs.Ytlpcblhkddmlnaa
namespace Go.Proofs.Ytlpcblhkddmlnaa
open Go.RowKit
variable {G : Nat}

theorem rgcd_is {x y g : Int} {a1 a2 : Option Addr} {c1 c2 : Nat} {w : World} (h1 : BD G w a1 c1 x) (h2 : BD G w a2 c2 y) (hx : Sz x 549755813888) (hy : Sz y 549755813888) (hg : ((Nat.gcd x.natAbs y.natAbs : Nat) : Int) = g) :
  Calls Try.prog 78 #[.agg #[.int .i64 (sg x), .slice a1 (ln x) c1], .agg #[.int .i64 (sg y), .slice a2 (ln y) c2]] w fun e w' => ∃ a c, e = .returned (.tuple #[.agg #[.int .i64 (sg g), .slice a (ln g) c], .int .i64 0]) ∧ BD G w' a c g ∧ Below w.heap.size w w' := by
 subst hg; exact rgcd_ok h1 h2 hx hy
theorem rdiv_exact {x y q : Int} {a1 a2 : Option Addr} {c1 c2 : Nat} {w : World} (h1 : BD G w a1 c1 x) (h2 : BD G w a2 c2 y) (hx : Sz x 549755813888) (hy : Sz y 549755813888) (hy0 : 0 < y) (h : x = y * q) :
  Calls Try.prog 85 #[.agg #[.int .i64 (sg x), .slice a1 (ln x) c1], .agg #[.int .i64 (sg y), .slice a2 (ln y) c2]] w fun e w' => ∃ a c b d, e = .returned (.tuple #[.agg #[.int .i64 (sg q), .slice a (ln q) c], .agg #[.int .i64 (sg 0), .slice b (ln 0) d], .int .i64 0]) ∧ BD G w' a c q ∧ BD G w' b d 0 ∧ Below w.heap.size w w' := by
 have := rdiv_ok h1 h2 hx hy (by omega)
 have hu := dv_unique (x := x) (y := y) (q := q) (r := 0) (by omega) (.inl ⟨by omega, hy0⟩)
 rwa [hu.1, hu.2] at this
theorem sz_one {n : Nat} : Sz 1 (n + 1) := by
 have : ln 1 = 1 := by decide
 show ln 1 ≤ n + 1
 rw [this]; omega
set_option maxHeartbeats 4000000 in
theorem rnew_pos {x y : Int} {a1 a2 : Option Addr} {c1 c2 : Nat} {w : World} (h1 : BD G w a1 c1 x) (h2 : BD G w a2 c2 y) (hx : Sz x 549755813888) (hy : Sz y 549755813888) (hs : 0 < y) :
    Calls Try.prog 58 #[.agg #[.int .i64 (sg x), .slice a1 (ln x) c1], .agg #[.int .i64 (sg y), .slice a2 (ln y) c2]] w fun e w' => ∃ a c b d, e = .returned (.tuple #[.agg #[.int .i64 (sg (nu (Rat.divInt x y))), .slice a (ln (nu (Rat.divInt x y))) c, .int .i64 (sg (de (Rat.divInt x y))), .slice b (ln (de (Rat.divInt x y))) d], .int .i64 0]) ∧ FD G w' a c b d (Rat.divInt x y) ∧ Below w.heap.size w w' := by
  have HX := Lib.hid hx
  have HY := Lib.hid hy
  have H1 := Lib.hid h1
  have H2 := Lib.hid h2
  have e1 : (sg y == 0) = false := by rw [sg_pos hs]; rfl
  have e2 : decide (sg y < 0) = false := by rw [sg_pos hs]; rfl
  obtain ⟨g, hg0, hg, he1, he2⟩ := new_parts (x := x) hs
  obtain ⟨r, hr⟩ : ∃ r, r = Rat.divInt x y := ⟨_, rfl⟩
  rw [← hr] at he1 he2 ⊢
  have HG := Lib.hid hg
  have HG0 := Lib.hid hg0
  have HE1 := Lib.hid he1
  have HE2 := Lib.hid he2
  have HGS : Hid (Sz g 549755813888) := hy.le (by rw [← hg]; have := Nat.gcd_le_right (m := x.natAbs) (n := y.natAbs) (by omega); omega)
  clear hx hy h1 h2 hg hg0 he1 he2 hr hs

  go_enter Try.func58, Try.ntmps58
  go_wp2_with fail
  refine (rright_ok (x := x) (H1.out.keep (by go_grown)) (HX.out.mono (by omega))).mono ?_
  rintro e w1 ⟨rfl, hb⟩
  have hbx := bx3 w 25 25 27 #[.int .i64 (sg x), .slice a1 (ln x) c1] #[.int .i64 (sg y), .slice a2 (ln y) c2] #[.int .i64 0, .slice none 0 0, .int .i64 0, .slice none 0 0]
  obtain ⟨k0, k1, k2⟩ := hbx
  have K0 := Lib.hid (k0.keep hb)
  have K1 := Lib.hid (k1.keep hb)
  have K2 := Lib.hid (k2.keep hb)
  clear k0 k1 k2
  have hb' : Below w.heap.size w w1 := below_call (by go_grown) hb
  have HB := Lib.hid hb'
  replace H1 := Lib.hid (H1.out.keep hb')
  replace H2 := Lib.hid (H2.out.keep hb')
  clear hb hb'
  refine K0.out.w2 fun p0_0 q0_0 p0_1 q0_1 z0 => ?_
  refine K1.out.w2 fun p1_0 q1_0 p1_1 q1_1 z1 => ?_
  refine K2.out.w4 fun p2_0 q2_0 p2_1 q2_1 p2_2 q2_2 p2_3 q2_3 z2 => ?_
  go_wp2_with fail
  refine (rright_ok (x := y) (H2.out.keep (by go_grown)) (HY.out.mono (by omega))).mono ?_
  rintro e w2 ⟨rfl, hb⟩
  clear p0_0 q0_0 p0_1 q0_1 z0 p1_0 q1_0 p1_1 q1_1 z1 p2_0 q2_0 p2_1 q2_1 p2_2 q2_2 p2_3 q2_3 z2
  have hb' := below_call (w1 := w1) (by go_grown) hb
  replace K0 := Lib.hid (K0.out.keep hb')
  replace K1 := Lib.hid (K1.out.keep hb')
  replace K2 := Lib.hid (K2.out.keep hb')
  replace HB := Lib.hid (below_call HB.out hb')
  replace H1 := Lib.hid (H1.out.keep hb')
  replace H2 := Lib.hid (H2.out.keep hb')
  clear hb hb'
  refine K0.out.w2 fun p0_0 q0_0 p0_1 q0_1 z0 => ?_
  refine K1.out.w2 fun p1_0 q1_0 p1_1 q1_1 z1 => ?_
  refine K2.out.w4 fun p2_0 q2_0 p2_1 q2_1 p2_2 q2_2 p2_3 q2_3 z2 => ?_
  go_wp2_with fail
  refine (rgcd_is (H1.out.keep (by go_grown)) (H2.out.keep (by go_grown)) HX.out HY.out HG.out).mono ?_
  rintro e w3 ⟨a3, c3, rfl, hd3, hb⟩
  clear p0_0 q0_0 p0_1 q0_1 z0 p1_0 q1_0 p1_1 q1_1 z1 p2_0 q2_0 p2_1 q2_1 p2_2 q2_2 p2_3 q2_3 z2
  have hb' := below_call (w1 := w2) (by go_grown) hb
  replace K0 := Lib.hid (K0.out.keep hb')
  replace K1 := Lib.hid (K1.out.keep hb')
  replace K2 := Lib.hid (K2.out.keep hb')
  replace HB := Lib.hid (below_call HB.out hb')
  replace H1 := Lib.hid (H1.out.keep hb')
  replace H2 := Lib.hid (H2.out.keep hb')
  clear hb hb'
  have Hd3 := Lib.hid hd3; clear hd3
  refine K0.out.w2 fun p0_0 q0_0 p0_1 q0_1 z0 => ?_
  refine K1.out.w2 fun p1_0 q1_0 p1_1 q1_1 z1 => ?_
  refine K2.out.w4 fun p2_0 q2_0 p2_1 q2_1 p2_2 q2_2 p2_3 q2_3 z2 => ?_
  go_wp2_with fail
  refine (rdiv_exact (q := nu r) (H1.out.keep (by go_grown)) (Hd3.out.keep (by go_grown)) HX.out HGS.out HG0.out HE1.out).mono ?_
  rintro e w4 ⟨a4, c4, b4, d4, rfl, hd4, -, hb⟩
  clear p0_0 q0_0 p0_1 q0_1 z0 p1_0 q1_0 p1_1 q1_1 z1 p2_0 q2_0 p2_1 q2_1 p2_2 q2_2 p2_3 q2_3 z2
  have hb' := below_call (w1 := w3) (by go_grown) hb
  replace K0 := Lib.hid (K0.out.keep hb')
  replace K1 := Lib.hid (K1.out.keep hb')
  replace K2 := Lib.hid (K2.out.keep hb')
  replace HB := Lib.hid (below_call HB.out hb')
  have K3 := Lib.hid ((Bx.new w3 25 #[.int .i64 (sg g), .slice a3 (ln g) c3]).keep hb)
  replace H1 := Lib.hid (H1.out.keep hb')
  replace H2 := Lib.hid (H2.out.keep hb')
  replace Hd3 := Lib.hid (Hd3.out.keep hb')
  clear hb hb'
  have Hd4 := Lib.hid hd4; clear hd4
  refine K0.out.w2 fun p0_0 q0_0 p0_1 q0_1 z0 => ?_
  refine K1.out.w2 fun p1_0 q1_0 p1_1 q1_1 z1 => ?_
  refine K2.out.w4 fun p2_0 q2_0 p2_1 q2_1 p2_2 q2_2 p2_3 q2_3 z2 => ?_
  refine K3.out.w2 fun p3_0 q3_0 p3_1 q3_1 z3 => ?_
  go_wp2_with fail
  refine (rdiv_exact (q := de r) (H2.out.keep (by go_grown)) (Hd3.out.keep (by go_grown)) HY.out HGS.out HG0.out HE2.out).mono ?_
  rintro e w5 ⟨a5, c5, b5, d5, rfl, hd5, -, hb⟩
  clear p0_0 q0_0 p0_1 q0_1 z0 p1_0 q1_0 p1_1 q1_1 z1 p2_0 q2_0 p2_1 q2_1 p2_2 q2_2 p2_3 q2_3 z2 p3_0 q3_0 p3_1 q3_1 z3
  have hb' := below_call (w1 := w4) (by go_grown) hb
  replace K0 := Lib.hid (K0.out.keep hb')
  replace K1 := Lib.hid (K1.out.keep hb')
  replace K2 := Lib.hid (K2.out.keep hb')
  replace K3 := Lib.hid (K3.out.keep hb')
  replace HB := Lib.hid (below_call HB.out hb')
  have hnb := bx2 w4 25 25 #[.int .i64 (sg (nu r)), .slice a4 (ln (nu r)) c4] #[.int .i64 (sg 0), .slice b4 (ln 0) d4]
  obtain ⟨k4, k5⟩ := hnb
  have K4 := Lib.hid (k4.keep hb)
  have K5 := Lib.hid (k5.keep hb)
  clear k4 k5
  replace H1 := Lib.hid (H1.out.keep hb')
  replace H2 := Lib.hid (H2.out.keep hb')
  replace Hd3 := Lib.hid (Hd3.out.keep hb')
  replace Hd4 := Lib.hid (Hd4.out.keep hb')
  clear hb hb'
  have Hd5 := Lib.hid hd5; clear hd5
  refine K0.out.w2 fun p0_0 q0_0 p0_1 q0_1 z0 => ?_
  refine K1.out.w2 fun p1_0 q1_0 p1_1 q1_1 z1 => ?_
  refine K2.out.w4 fun p2_0 q2_0 p2_1 q2_1 p2_2 q2_2 p2_3 q2_3 z2 => ?_
  refine K3.out.w2 fun p3_0 q3_0 p3_1 q3_1 z3 => ?_
  refine K4.out.w2 fun p4_0 q4_0 p4_1 q4_1 z4 => ?_
  refine K5.out.w2 fun p5_0 q5_0 p5_1 q5_1 z5 => ?_
  go_wp2_with fail
  have HF : Hid (FD G w5 a4 c4 a5 c5 r) := FD.mk Hd4.out Hd5.out
  clear p0_0 q0_0 p0_1 q0_1 z0 p1_0 q1_0 p1_1 q1_1 z1 p2_0 q2_0 p2_1 q2_1 p2_2 q2_2 p2_3 q2_3 z2 p3_0 q3_0 p3_1 q3_1 z3 p4_0 q4_0 p4_1 q4_1 z4 p5_0 q5_0 p5_1 q5_1 z5
  refine bodyPost_ret (results_box2 rfl _ _ (w.heap.size + 1 + 1) 27 _ _ _ rfl (((K2.out.set4 _ _ _ _).keep (below_alloc _ _)).keep (below_alloc _ _)) Try.underlying27 rfl (by kernel_rfl)) rfl ?_
  refine ⟨a4, c4, a5, c5, rfl, ?_, ?_⟩
  · exact (((HF.out.far0 K2.out zb4 (only_setCell (only_setCell (only_setCell (only_setCell (World.grownBy.refl _ _) _) _) _) _)).keep (below_alloc _ _)).keep (below_alloc _ _))
  · exact (Below.alloc (Below.alloc (Below.setCell (Below.setCell (Below.setCell (Below.setCell HB.out (by simp; try omega) _) (by simp; try omega) _) (by simp; try omega) _) (by simp; try omega) _) (by have := HB.out.size; simp [World.setCell]; omega) _) (by have := HB.out.size; simp [World.setCell]; omega) _)
theorem rcompare_one {a1 a2 : Option Addr} {c1 c2 : Nat} {w : World} (h1 : BD G w a1 c1 1) (h2 : BD G w a2 c2 1) :
  Calls Try.prog 79 #[.agg #[.int .i64 (sg 1), .slice a1 (ln 1) c1], .agg #[.int .i64 (sg 1), .slice a2 (ln 1) c2]] w fun e w' => e = .returned (.int .i64 0) ∧ Below w.heap.size w w' := by
 have := rcompare_ok h1 h2 sz_one sz_one
 rwa [ord_eq] at this
set_option maxHeartbeats 4000000 in
theorem rfright_ok {q : Rat} {a1 b1 : Option Addr} {c1 d1 : Nat} {w : World} (h1 : FD G w a1 c1 b1 d1 q) (hx : Fz q 549755813888) :
  Calls Try.prog 55 #[.agg #[.int .i64 (sg (nu q)), .slice a1 (ln (nu q)) c1, .int .i64 (sg (de q)), .slice b1 (ln (de q)) d1]] w fun e w' => e = .returned (.bool true) ∧ Below w.heap.size w w' := by
 have HX := Lib.hid hx
 have H1 := Lib.hid h1
 have e1 : decide (sg (de q) < 1) = false := by rw [sg_de]; rfl
 clear hx h1

 go_enter Try.func55, Try.ntmps55
 go_wp2_with fail
 refine (rright_ok (x := nu q) (H1.out.keep (by go_grown)).n (HX.out.1.mono (by omega))).mono ?_
 rintro e w1 ⟨rfl, hb⟩
 have hbx := bx1 w 27 #[.int .i64 (sg (nu q)), .slice a1 (ln (nu q)) c1, .int .i64 (sg (de q)), .slice b1 (ln (de q)) d1]
 have k0 := hbx; clear hbx
 have K0 := Lib.hid (k0.keep hb)
 clear k0
 have hb' : Below w.heap.size w w1 := below_call (by go_grown) hb
 have HB := Lib.hid hb'
 replace H1 := Lib.hid (H1.out.keep hb')
 clear hb hb'
 refine K0.out.w4 fun p0_0 q0_0 p0_1 q0_1 p0_2 q0_2 p0_3 q0_3 z0 => ?_
 go_wp2_with fail
 refine (rright_ok (x := de q) (H1.out.keep (by go_grown)).d (HX.out.2.mono (by omega))).mono ?_
 rintro e w2 ⟨rfl, hb⟩
 clear p0_0 q0_0 p0_1 q0_1 p0_2 q0_2 p0_3 q0_3 z0
 have hb' := below_call (w1 := w1) (by go_grown) hb
 replace K0 := Lib.hid (K0.out.keep hb')
 replace HB := Lib.hid (below_call HB.out hb')
 replace H1 := Lib.hid (H1.out.keep hb')
 clear hb hb'
 refine K0.out.w4 fun p0_0 q0_0 p0_1 q0_1 p0_2 q0_2 p0_3 q0_3 z0 => ?_
 go_wp2_with fail
 refine (rgcd_is (g := 1) (H1.out.keep (by go_grown)).n (H1.out.keep (by go_grown)).d HX.out.1 HX.out.2 (gcd_one q)).mono ?_
 rintro e w3 ⟨a3, c3, rfl, hd3, hb⟩
 clear p0_0 q0_0 p0_1 q0_1 p0_2 q0_2 p0_3 q0_3 z0
 have hb' := below_call (w1 := w2) (by go_grown) hb
 replace K0 := Lib.hid (K0.out.keep hb')
 replace HB := Lib.hid (below_call HB.out hb')
 replace H1 := Lib.hid (H1.out.keep hb')
 clear hb hb'
 have Hd3 := Lib.hid hd3; clear hd3
 refine K0.out.w4 fun p0_0 q0_0 p0_1 q0_1 p0_2 q0_2 p0_3 q0_3 z0 => ?_
 go_wp2_with fail
 clear p0_0 q0_0 p0_1 q0_1 p0_2 q0_2 p0_3 q0_3 z0
 obtain ⟨w4, hwn⟩ : ∃ x, x = (w3.alloc (.cells #[.int .i64 (sg 1), .slice a3 (ln 1) c3] 25)) := ⟨_, rfl⟩
 rw [← hwn]
 have hbn : Below w3.heap.size w3 w4 := by rw [hwn]; exact (Below.alloc (Below.refl _ _) (by simp) _)
 have K1 : Hid (Bx w4 w3.heap.size 25 #[.int .i64 (sg 1), .slice a3 (ln 1) c3]) := by show Bx _ _ _ _; rw [hwn]; exact bx1 w3 _ _
 replace K0 := Lib.hid (K0.out.keep hbn)
 replace HB := Lib.hid (below_call HB.out hbn)
 replace H1 := Lib.hid (H1.out.keep hbn)
 replace Hd3 := Lib.hid (Hd3.out.keep hbn)
 clear hbn hwn
 refine K0.out.w4 fun p0_0 q0_0 p0_1 q0_1 p0_2 q0_2 p0_3 q0_3 z0 => ?_
 refine K1.out.w2 fun p1_0 q1_0 p1_1 q1_1 z1 => ?_
 clear p0_0 q0_0 p0_1 q0_1 p0_2 q0_2 p0_3 q0_3 z0 p1_0 q1_0 p1_1 q1_1 z1
 have mk : Hid (∀ w', Below w4.heap.size w4 w' → w'.cell? ⟨w.heap.size, 0, none⟩ = some (.int .i64 (sg (nu q))) ∧ w'.cell? ⟨w.heap.size, 1, none⟩ = some (.slice a1 (ln (nu q)) c1) ∧ w'.cell? ⟨w.heap.size, 2, none⟩ = some (.int .i64 (sg (de q))) ∧ w'.cell? ⟨w.heap.size, 3, none⟩ = some (.slice b1 (ln (de q)) d1) ∧ w'.cell? ⟨w3.heap.size, 0, none⟩ = some (.int .i64 (sg 1)) ∧ w'.cell? ⟨w3.heap.size, 1, none⟩ = some (.slice a3 (ln 1) c3) ∧ Below w4.heap.size w4 w') := fun w' h => ((K0.out.keep h).t4 ((K1.out.keep h).t2 (h)))
 have hs0 : Below w4.heap.size w4 w4.drew := (Below.refl _ _).drew
 have HS0 : Hid (Below w4.heap.size w4 w4.drew) := (Below.refl _ _).drew
 have tok0 : True := trivial
 have tok1 : True := trivial
 go_region_held3 (fun w' => w'.cell? ⟨w.heap.size, 0, none⟩ = some (.int .i64 (sg (nu q))) ∧ w'.cell? ⟨w.heap.size, 1, none⟩ = some (.slice a1 (ln (nu q)) c1) ∧ w'.cell? ⟨w.heap.size, 2, none⟩ = some (.int .i64 (sg (de q))) ∧ w'.cell? ⟨w.heap.size, 3, none⟩ = some (.slice b1 (ln (de q)) d1) ∧ w'.cell? ⟨w3.heap.size, 0, none⟩ = some (.int .i64 (sg 1)) ∧ w'.cell? ⟨w3.heap.size, 1, none⟩ = some (.slice a3 (ln 1) c3) ∧ Below w4.heap.size w4 w')
  (first | exact mk.out _ (by assumption) | exact mk.out _ (Below.alloc (by assumption) (Below.size (by assumption)) _))
  (first
   | (go_at_call 80; have _t := tok0; refine (rof_ok (G := G) 1 w4.drew (by decide)).mono ?_; rintro e w5 ⟨a4, c4, rfl, hd4, hb⟩; clear tok0 _t; have hs1 := below_call hs0 hb; have HS1 := Lib.hid (below_call HS0.out hb); clear hb; have Hd4 := Lib.hid hd4; clear hd4)
   | (go_at_call 79; have _t := tok1; refine (rcompare_one (Hd3.out.keep HS1.out) Hd4.out).mono ?_; rintro e w6 ⟨rfl, hb⟩; clear tok1 _t; have hs2 := below_call hs1 hb; have HS2 := Lib.hid (below_call HS1.out hb); have Hd4 := Lib.hid (Hd4.out.keep hb); clear hb))
 replace K0 := Lib.hid (K0.out.keep HS2.out)
 replace K1 := Lib.hid (K1.out.keep HS2.out)
 replace HB := Lib.hid (below_call HB.out HS2.out)
 replace H1 := Lib.hid (H1.out.keep HS2.out)
 replace Hd3 := Lib.hid (Hd3.out.keep HS2.out)
 clear mk hs0 HS0 hs1 HS1 hs2 HS2
 refine K0.out.w4 fun p0_0 q0_0 p0_1 q0_1 p0_2 q0_2 p0_3 q0_3 z0 => ?_
 refine K1.out.w2 fun p1_0 q1_0 p1_1 q1_1 z1 => ?_
 go_wp2_with fail
 go_ret
 exact ⟨rfl, HB.out⟩
end Go.Proofs.Ytlpcblhkddmlnaa
namespace Go.Proofs.Ytlpcblhkddmlnaa
open Go.RowKit
variable {G : Nat}

end Go.Proofs.Ytlpcblhkddmlnaa
