/- Walks of the verifier's reference: fractions: sums, differences, order. -/
import Derived.Test.YtlpcblhkddmlnaaBase
import Derived.Test.YtlpcblhkddmlnaaBigSpec
import Derived.Test.YtlpcblhkddmlnaaBigA
import Derived.Test.YtlpcblhkddmlnaaBigB
import Derived.Test.YtlpcblhkddmlnaaBigD
import Derived.Test.YtlpcblhkddmlnaaBigK
import Derived.Test.YtlpcblhkddmlnaaBigQ
import Derived.Test.YtlpcblhkddmlnaaFd
import Derived.Test.YtlpcblhkddmlnaaFracC
import Derived.Test.YtlpcblhkddmlnaaRefG
import Derived.Test.YtlpcblhkddmlnaaRefK
import Derived.Test.YtlpcblhkddmlnaaProg
import Derived.WalkKit
import Derived.WalkSpells
import Derived.WalkLawsBesides
import Derived.Handy
import Derived.Lib.Hide
import Derived.Lib.Strings
import Derived.Lib.Builder
import Derived.BigQuiet
import Derived.OwnWalk
import Derived.Laws.BitsLemmas
import Derived.WalkSmall
import Derived.Deep.QuietTactic
import Derived.StillTailTactics
import Derived.Maps.AppendAt
import Derived.IntWalk
import Derived.Deep.RegionHeld3
import Derived.Deep.DeepFit
import Derived.Deep.LoopGhost
import Derived.Deep.DeepCutAuto
namespace Go.Proofs.Ytlpcblhkddmlnaa
open Go.RowKit
variable {G : Nat}

theorem sub_parts (q r : Rat) : Rat.divInt (nu q * de r - nu r * de q) (de q * de r) = q - r := by
 have := add_parts q (-r)
 rw [Rat.sub_eq_add_neg, ← this]
 show _ = Rat.divInt (nu q * de r + -nu r * de q) (de q * de r)
 congr 1; rw [Int.neg_mul]; omega
set_option maxHeartbeats 4000000 in
theorem rfsub_ok {q r : Rat} {a1 b1 a2 b2 : Option Addr} {c1 d1 c2 d2 : Nat} {w : World} (h1 : FD G w a1 c1 b1 d1 q) (h2 : FD G w a2 c2 b2 d2 r) (hx : Fz q 137438953472) (hy : Fz r 137438953472) :
    Calls Try.prog 39 #[.agg #[.int .i64 (sg (nu q)), .slice a1 (ln (nu q)) c1, .int .i64 (sg (de q)), .slice b1 (ln (de q)) d1], .agg #[.int .i64 (sg (nu r)), .slice a2 (ln (nu r)) c2, .int .i64 (sg (de r)), .slice b2 (ln (de r)) d2]] w fun e w' => ∃ a c b d, e = .returned (.tuple #[.agg #[.int .i64 (sg (nu (q - r))), .slice a (ln (nu (q - r))) c, .int .i64 (sg (de (q - r))), .slice b (ln (de (q - r))) d], .int .i64 0]) ∧ FD G w' a c b d (q - r) ∧ Below w.heap.size w w' := by
  have HX := Lib.hid hx
  have HY := Lib.hid hy
  have H1 := Lib.hid h1
  have H2 := Lib.hid h2
  have HQR := Lib.hid (sub_parts q r)
  clear hx hy h1 h2

  go_enter Try.func39, Try.ntmps39
  go_wp2_with fail
  refine (rfright_ok (q := q) (H1.out.keep (by go_grown)) (HX.out.mono (by omega))).mono ?_
  rintro e w1 ⟨rfl, hb⟩
  have hbx := bx3 w 27 27 27 #[.int .i64 (sg (nu q)), .slice a1 (ln (nu q)) c1, .int .i64 (sg (de q)), .slice b1 (ln (de q)) d1] #[.int .i64 (sg (nu r)), .slice a2 (ln (nu r)) c2, .int .i64 (sg (de r)), .slice b2 (ln (de r)) d2] #[.int .i64 0, .slice none 0 0, .int .i64 0, .slice none 0 0]
  obtain ⟨k0, k1, k2⟩ := hbx
  have K0 := Lib.hid (k0.keep hb)
  have K1 := Lib.hid (k1.keep hb)
  have K2 := Lib.hid (k2.keep hb)
  clear k0 k1 k2
  have hb' : Below w.heap.size w w1 := below_call (by go_grown) hb
  have HB := Lib.hid hb'
  replace H1 := Lib.hid (H1.out.keep hb')
  replace H2 := Lib.hid (H2.out.keep hb')
  clear hb hb'
  refine K0.out.w4 fun p0_0 q0_0 p0_1 q0_1 p0_2 q0_2 p0_3 q0_3 z0 => ?_
  refine K1.out.w4 fun p1_0 q1_0 p1_1 q1_1 p1_2 q1_2 p1_3 q1_3 z1 => ?_
  refine K2.out.w4 fun p2_0 q2_0 p2_1 q2_1 p2_2 q2_2 p2_3 q2_3 z2 => ?_
  go_wp2_with fail
  refine (rfright_ok (q := r) (H2.out.keep (by go_grown)) (HY.out.mono (by omega))).mono ?_
  rintro e w2 ⟨rfl, hb⟩
  clear p0_0 q0_0 p0_1 q0_1 p0_2 q0_2 p0_3 q0_3 z0 p1_0 q1_0 p1_1 q1_1 p1_2 q1_2 p1_3 q1_3 z1 p2_0 q2_0 p2_1 q2_1 p2_2 q2_2 p2_3 q2_3 z2
  have hb' := below_call (w1 := w1) (by go_grown) hb
  replace K0 := Lib.hid (K0.out.keep hb')
  replace K1 := Lib.hid (K1.out.keep hb')
  replace K2 := Lib.hid (K2.out.keep hb')
  replace HB := Lib.hid (below_call HB.out hb')
  replace H1 := Lib.hid (H1.out.keep hb')
  replace H2 := Lib.hid (H2.out.keep hb')
  clear hb hb'
  refine K0.out.w4 fun p0_0 q0_0 p0_1 q0_1 p0_2 q0_2 p0_3 q0_3 z0 => ?_
  refine K1.out.w4 fun p1_0 q1_0 p1_1 q1_1 p1_2 q1_2 p1_3 q1_3 z1 => ?_
  refine K2.out.w4 fun p2_0 q2_0 p2_1 q2_1 p2_2 q2_2 p2_3 q2_3 z2 => ?_
  go_wp2_with fail
  refine (rmul_ok (x := nu q) (y := de r) (H1.out.keep (by go_grown)).n (H2.out.keep (by go_grown)).d (HX.out.1.mono (by omega)) (HY.out.2.mono (by omega))).mono ?_
  rintro e w3 ⟨a3, c3, rfl, hd3, hb⟩
  clear p0_0 q0_0 p0_1 q0_1 p0_2 q0_2 p0_3 q0_3 z0 p1_0 q1_0 p1_1 q1_1 p1_2 q1_2 p1_3 q1_3 z1 p2_0 q2_0 p2_1 q2_1 p2_2 q2_2 p2_3 q2_3 z2
  have hb' := below_call (w1 := w2) (by go_grown) hb
  replace K0 := Lib.hid (K0.out.keep hb')
  replace K1 := Lib.hid (K1.out.keep hb')
  replace K2 := Lib.hid (K2.out.keep hb')
  replace HB := Lib.hid (below_call HB.out hb')
  replace H1 := Lib.hid (H1.out.keep hb')
  replace H2 := Lib.hid (H2.out.keep hb')
  clear hb hb'
  have Hd3 := Lib.hid hd3; clear hd3
  refine K0.out.w4 fun p0_0 q0_0 p0_1 q0_1 p0_2 q0_2 p0_3 q0_3 z0 => ?_
  refine K1.out.w4 fun p1_0 q1_0 p1_1 q1_1 p1_2 q1_2 p1_3 q1_3 z1 => ?_
  refine K2.out.w4 fun p2_0 q2_0 p2_1 q2_1 p2_2 q2_2 p2_3 q2_3 z2 => ?_
  go_wp2_with fail
  refine (rmul_ok (x := nu r) (y := de q) (H2.out.keep (by go_grown)).n (H1.out.keep (by go_grown)).d (HY.out.1.mono (by omega)) (HX.out.2.mono (by omega))).mono ?_
  rintro e w4 ⟨a4, c4, rfl, hd4, hb⟩
  clear p0_0 q0_0 p0_1 q0_1 p0_2 q0_2 p0_3 q0_3 z0 p1_0 q1_0 p1_1 q1_1 p1_2 q1_2 p1_3 q1_3 z1 p2_0 q2_0 p2_1 q2_1 p2_2 q2_2 p2_3 q2_3 z2
  have hb' := below_call (w1 := w3) (by go_grown) hb
  replace K0 := Lib.hid (K0.out.keep hb')
  replace K1 := Lib.hid (K1.out.keep hb')
  replace K2 := Lib.hid (K2.out.keep hb')
  replace HB := Lib.hid (below_call HB.out hb')
  have K3 := Lib.hid ((Bx.new w3 25 #[.int .i64 (sg (nu q * de r)), .slice a3 (ln (nu q * de r)) c3]).keep hb)
  replace H1 := Lib.hid (H1.out.keep hb')
  replace H2 := Lib.hid (H2.out.keep hb')
  replace Hd3 := Lib.hid (Hd3.out.keep hb')
  clear hb hb'
  have Hd4 := Lib.hid hd4; clear hd4
  refine K0.out.w4 fun p0_0 q0_0 p0_1 q0_1 p0_2 q0_2 p0_3 q0_3 z0 => ?_
  refine K1.out.w4 fun p1_0 q1_0 p1_1 q1_1 p1_2 q1_2 p1_3 q1_3 z1 => ?_
  refine K2.out.w4 fun p2_0 q2_0 p2_1 q2_1 p2_2 q2_2 p2_3 q2_3 z2 => ?_
  refine K3.out.w2 fun p3_0 q3_0 p3_1 q3_1 z3 => ?_
  go_wp2_with fail
  refine (rmul_ok (x := de q) (y := de r) (H1.out.keep (by go_grown)).d (H2.out.keep (by go_grown)).d (HX.out.2.mono (by omega)) (HY.out.2.mono (by omega))).mono ?_
  rintro e w5 ⟨a5, c5, rfl, hd5, hb⟩
  clear p0_0 q0_0 p0_1 q0_1 p0_2 q0_2 p0_3 q0_3 z0 p1_0 q1_0 p1_1 q1_1 p1_2 q1_2 p1_3 q1_3 z1 p2_0 q2_0 p2_1 q2_1 p2_2 q2_2 p2_3 q2_3 z2 p3_0 q3_0 p3_1 q3_1 z3
  have hb' := below_call (w1 := w4) (by go_grown) hb
  replace K0 := Lib.hid (K0.out.keep hb')
  replace K1 := Lib.hid (K1.out.keep hb')
  replace K2 := Lib.hid (K2.out.keep hb')
  replace K3 := Lib.hid (K3.out.keep hb')
  replace HB := Lib.hid (below_call HB.out hb')
  have K4 := Lib.hid ((Bx.new w4 25 #[.int .i64 (sg (nu r * de q)), .slice a4 (ln (nu r * de q)) c4]).keep hb)
  replace H1 := Lib.hid (H1.out.keep hb')
  replace H2 := Lib.hid (H2.out.keep hb')
  replace Hd3 := Lib.hid (Hd3.out.keep hb')
  replace Hd4 := Lib.hid (Hd4.out.keep hb')
  clear hb hb'
  have Hd5 := Lib.hid hd5; clear hd5
  refine K0.out.w4 fun p0_0 q0_0 p0_1 q0_1 p0_2 q0_2 p0_3 q0_3 z0 => ?_
  refine K1.out.w4 fun p1_0 q1_0 p1_1 q1_1 p1_2 q1_2 p1_3 q1_3 z1 => ?_
  refine K2.out.w4 fun p2_0 q2_0 p2_1 q2_1 p2_2 q2_2 p2_3 q2_3 z2 => ?_
  refine K3.out.w2 fun p3_0 q3_0 p3_1 q3_1 z3 => ?_
  refine K4.out.w2 fun p4_0 q4_0 p4_1 q4_1 z4 => ?_
  go_wp2_with fail
  refine (rsub_ok (Hd3.out.keep (by go_grown)) (Hd4.out.keep (by go_grown)) ((HX.out.1.mul HY.out.2).mono (by omega)) ((HY.out.1.mul HX.out.2).mono (by omega))).mono ?_
  rintro e w6 ⟨a6, c6, rfl, hd6, hb⟩
  clear p0_0 q0_0 p0_1 q0_1 p0_2 q0_2 p0_3 q0_3 z0 p1_0 q1_0 p1_1 q1_1 p1_2 q1_2 p1_3 q1_3 z1 p2_0 q2_0 p2_1 q2_1 p2_2 q2_2 p2_3 q2_3 z2 p3_0 q3_0 p3_1 q3_1 z3 p4_0 q4_0 p4_1 q4_1 z4
  have hb' := below_call (w1 := w5) (by go_grown) hb
  replace K0 := Lib.hid (K0.out.keep hb')
  replace K1 := Lib.hid (K1.out.keep hb')
  replace K2 := Lib.hid (K2.out.keep hb')
  replace K3 := Lib.hid (K3.out.keep hb')
  replace K4 := Lib.hid (K4.out.keep hb')
  replace HB := Lib.hid (below_call HB.out hb')
  have K5 := Lib.hid ((Bx.new w5 25 #[.int .i64 (sg (de q * de r)), .slice a5 (ln (de q * de r)) c5]).keep hb)
  replace H1 := Lib.hid (H1.out.keep hb')
  replace H2 := Lib.hid (H2.out.keep hb')
  replace Hd3 := Lib.hid (Hd3.out.keep hb')
  replace Hd4 := Lib.hid (Hd4.out.keep hb')
  replace Hd5 := Lib.hid (Hd5.out.keep hb')
  clear hb hb'
  have Hd6 := Lib.hid hd6; clear hd6
  refine K0.out.w4 fun p0_0 q0_0 p0_1 q0_1 p0_2 q0_2 p0_3 q0_3 z0 => ?_
  refine K1.out.w4 fun p1_0 q1_0 p1_1 q1_1 p1_2 q1_2 p1_3 q1_3 z1 => ?_
  refine K2.out.w4 fun p2_0 q2_0 p2_1 q2_1 p2_2 q2_2 p2_3 q2_3 z2 => ?_
  refine K3.out.w2 fun p3_0 q3_0 p3_1 q3_1 z3 => ?_
  refine K4.out.w2 fun p4_0 q4_0 p4_1 q4_1 z4 => ?_
  refine K5.out.w2 fun p5_0 q5_0 p5_1 q5_1 z5 => ?_
  go_wp2_with fail
  refine (rnew_pos (Hd6.out.keep (by go_grown)) (Hd5.out.keep (by go_grown)) (((HX.out.1.mul HY.out.2).sub ((HY.out.1.mul HX.out.2).mono (by omega))).mono (by omega)) ((HX.out.2.mul HY.out.2).mono (by omega)) (Int.mul_pos (de_pos q) (de_pos r))).mono ?_
  rintro e w7 ⟨a8, c8, b8, d8, rfl, hf8, hb⟩
  clear p0_0 q0_0 p0_1 q0_1 p0_2 q0_2 p0_3 q0_3 z0 p1_0 q1_0 p1_1 q1_1 p1_2 q1_2 p1_3 q1_3 z1 p2_0 q2_0 p2_1 q2_1 p2_2 q2_2 p2_3 q2_3 z2 p3_0 q3_0 p3_1 q3_1 z3 p4_0 q4_0 p4_1 q4_1 z4 p5_0 q5_0 p5_1 q5_1 z5
  have hb' := below_call (w1 := w6) (by go_grown) hb
  replace K0 := Lib.hid (K0.out.keep hb')
  replace K1 := Lib.hid (K1.out.keep hb')
  replace K2 := Lib.hid (K2.out.keep hb')
  replace K3 := Lib.hid (K3.out.keep hb')
  replace K4 := Lib.hid (K4.out.keep hb')
  replace K5 := Lib.hid (K5.out.keep hb')
  replace HB := Lib.hid (below_call HB.out hb')
  have K6 := Lib.hid ((Bx.new w6 25 #[.int .i64 (sg (nu q * de r - nu r * de q)), .slice a6 (ln (nu q * de r - nu r * de q)) c6]).keep hb)
  replace H1 := Lib.hid (H1.out.keep hb')
  replace H2 := Lib.hid (H2.out.keep hb')
  replace Hd3 := Lib.hid (Hd3.out.keep hb')
  replace Hd4 := Lib.hid (Hd4.out.keep hb')
  replace Hd5 := Lib.hid (Hd5.out.keep hb')
  replace Hd6 := Lib.hid (Hd6.out.keep hb')
  clear hb hb'
  have Hf8 := Lib.hid hf8; clear hf8
  refine K0.out.w4 fun p0_0 q0_0 p0_1 q0_1 p0_2 q0_2 p0_3 q0_3 z0 => ?_
  refine K1.out.w4 fun p1_0 q1_0 p1_1 q1_1 p1_2 q1_2 p1_3 q1_3 z1 => ?_
  refine K2.out.w4 fun p2_0 q2_0 p2_1 q2_1 p2_2 q2_2 p2_3 q2_3 z2 => ?_
  refine K3.out.w2 fun p3_0 q3_0 p3_1 q3_1 z3 => ?_
  refine K4.out.w2 fun p4_0 q4_0 p4_1 q4_1 z4 => ?_
  refine K5.out.w2 fun p5_0 q5_0 p5_1 q5_1 z5 => ?_
  refine K6.out.w2 fun p6_0 q6_0 p6_1 q6_1 z6 => ?_
  rw [HQR.out]
  go_wp2_with fail
  rw [HQR.out] at Hf8
  clear p0_0 q0_0 p0_1 q0_1 p0_2 q0_2 p0_3 q0_3 z0 p1_0 q1_0 p1_1 q1_1 p1_2 q1_2 p1_3 q1_3 z1 p2_0 q2_0 p2_1 q2_1 p2_2 q2_2 p2_3 q2_3 z2 p3_0 q3_0 p3_1 q3_1 z3 p4_0 q4_0 p4_1 q4_1 z4 p5_0 q5_0 p5_1 q5_1 z5 p6_0 q6_0 p6_1 q6_1 z6
  refine bodyPost_ret (results_box2 rfl _ _ (w.heap.size + 1 + 1) 27 _ _ _ rfl (K2.out.set4 _ _ _ _) Try.underlying27 rfl (by kernel_rfl)) rfl ?_
  refine ⟨a8, c8, b8, d8, rfl, ?_, ?_⟩
  · exact (Hf8.out.far0 K2.out zb4 (only_setCell (only_setCell (only_setCell (only_setCell (World.grownBy.refl _ _) _) _) _) _))
  · exact (Below.setCell (Below.setCell (Below.setCell (Below.setCell HB.out (by simp; try omega) _) (by simp; try omega) _) (by simp; try omega) _) (by simp; try omega) _)
set_option maxHeartbeats 4000000 in
theorem rfcompare_ok {q r : Rat} {a1 b1 a2 b2 : Option Addr} {c1 d1 c2 d2 : Nat} {w : World} (h1 : FD G w a1 c1 b1 d1 q) (h2 : FD G w a2 c2 b2 d2 r) (hx : Fz q 137438953472) (hy : Fz r 137438953472) :
  Calls Try.prog 75 #[.agg #[.int .i64 (sg (nu q)), .slice a1 (ln (nu q)) c1, .int .i64 (sg (de q)), .slice b1 (ln (de q)) d1], .agg #[.int .i64 (sg (nu r)), .slice a2 (ln (nu r)) c2, .int .i64 (sg (de r)), .slice b2 (ln (de r)) d2]] w fun e w' => e = .returned (.int .i64 (ordQ q r)) ∧ Below w.heap.size w w' := by
 have HX := Lib.hid hx
 have HY := Lib.hid hy
 have H1 := Lib.hid h1
 have H2 := Lib.hid h2
 clear hx hy h1 h2

 go_enter Try.func75, Try.ntmps75
 go_wp2_with fail
 refine (rfright_ok (q := q) (H1.out.keep (by go_grown)) (HX.out.mono (by omega))).mono ?_
 rintro e w1 ⟨rfl, hb⟩
 have hbx := bx2 w 27 27 #[.int .i64 (sg (nu q)), .slice a1 (ln (nu q)) c1, .int .i64 (sg (de q)), .slice b1 (ln (de q)) d1] #[.int .i64 (sg (nu r)), .slice a2 (ln (nu r)) c2, .int .i64 (sg (de r)), .slice b2 (ln (de r)) d2]
 obtain ⟨k0, k1⟩ := hbx
 have K0 := Lib.hid (k0.keep hb)
 have K1 := Lib.hid (k1.keep hb)
 clear k0 k1
 have hb' : Below w.heap.size w w1 := below_call (by go_grown) hb
 have HB := Lib.hid hb'
 replace H1 := Lib.hid (H1.out.keep hb')
 replace H2 := Lib.hid (H2.out.keep hb')
 clear hb hb'
 refine K0.out.w4 fun p0_0 q0_0 p0_1 q0_1 p0_2 q0_2 p0_3 q0_3 z0 => ?_
 refine K1.out.w4 fun p1_0 q1_0 p1_1 q1_1 p1_2 q1_2 p1_3 q1_3 z1 => ?_
 go_wp2_with fail
 refine (rfright_ok (q := r) (H2.out.keep (by go_grown)) (HY.out.mono (by omega))).mono ?_
 rintro e w2 ⟨rfl, hb⟩
 clear p0_0 q0_0 p0_1 q0_1 p0_2 q0_2 p0_3 q0_3 z0 p1_0 q1_0 p1_1 q1_1 p1_2 q1_2 p1_3 q1_3 z1
 have hb' := below_call (w1 := w1) (by go_grown) hb
 replace K0 := Lib.hid (K0.out.keep hb')
 replace K1 := Lib.hid (K1.out.keep hb')
 replace HB := Lib.hid (below_call HB.out hb')
 replace H1 := Lib.hid (H1.out.keep hb')
 replace H2 := Lib.hid (H2.out.keep hb')
 clear hb hb'
 refine K0.out.w4 fun p0_0 q0_0 p0_1 q0_1 p0_2 q0_2 p0_3 q0_3 z0 => ?_
 refine K1.out.w4 fun p1_0 q1_0 p1_1 q1_1 p1_2 q1_2 p1_3 q1_3 z1 => ?_
 go_wp2_with fail
 refine (rmul_ok (x := nu q) (y := de r) (H1.out.keep (by go_grown)).n (H2.out.keep (by go_grown)).d (HX.out.1.mono (by omega)) (HY.out.2.mono (by omega))).mono ?_
 rintro e w3 ⟨a3, c3, rfl, hd3, hb⟩
 clear p0_0 q0_0 p0_1 q0_1 p0_2 q0_2 p0_3 q0_3 z0 p1_0 q1_0 p1_1 q1_1 p1_2 q1_2 p1_3 q1_3 z1
 have hb' := below_call (w1 := w2) (by go_grown) hb
 replace K0 := Lib.hid (K0.out.keep hb')
 replace K1 := Lib.hid (K1.out.keep hb')
 replace HB := Lib.hid (below_call HB.out hb')
 replace H1 := Lib.hid (H1.out.keep hb')
 replace H2 := Lib.hid (H2.out.keep hb')
 clear hb hb'
 have Hd3 := Lib.hid hd3; clear hd3
 refine K0.out.w4 fun p0_0 q0_0 p0_1 q0_1 p0_2 q0_2 p0_3 q0_3 z0 => ?_
 refine K1.out.w4 fun p1_0 q1_0 p1_1 q1_1 p1_2 q1_2 p1_3 q1_3 z1 => ?_
 go_wp2_with fail
 refine (rmul_ok (x := nu r) (y := de q) (H2.out.keep (by go_grown)).n (H1.out.keep (by go_grown)).d (HY.out.1.mono (by omega)) (HX.out.2.mono (by omega))).mono ?_
 rintro e w4 ⟨a4, c4, rfl, hd4, hb⟩
 clear p0_0 q0_0 p0_1 q0_1 p0_2 q0_2 p0_3 q0_3 z0 p1_0 q1_0 p1_1 q1_1 p1_2 q1_2 p1_3 q1_3 z1
 have hb' := below_call (w1 := w3) (by go_grown) hb
 replace K0 := Lib.hid (K0.out.keep hb')
 replace K1 := Lib.hid (K1.out.keep hb')
 replace HB := Lib.hid (below_call HB.out hb')
 have K2 := Lib.hid ((Bx.new w3 25 #[.int .i64 (sg (nu q * de r)), .slice a3 (ln (nu q * de r)) c3]).keep hb)
 replace H1 := Lib.hid (H1.out.keep hb')
 replace H2 := Lib.hid (H2.out.keep hb')
 replace Hd3 := Lib.hid (Hd3.out.keep hb')
 clear hb hb'
 have Hd4 := Lib.hid hd4; clear hd4
 refine K0.out.w4 fun p0_0 q0_0 p0_1 q0_1 p0_2 q0_2 p0_3 q0_3 z0 => ?_
 refine K1.out.w4 fun p1_0 q1_0 p1_1 q1_1 p1_2 q1_2 p1_3 q1_3 z1 => ?_
 refine K2.out.w2 fun p2_0 q2_0 p2_1 q2_1 z2 => ?_
 go_wp2_with fail
 refine (rcompare_ok (Hd3.out.keep (by go_grown)) (Hd4.out.keep (by go_grown)) ((HX.out.1.mul HY.out.2).mono (by omega)) ((HY.out.1.mul HX.out.2).mono (by omega))).mono ?_
 rintro e w5 ⟨rfl, hb⟩
 clear p0_0 q0_0 p0_1 q0_1 p0_2 q0_2 p0_3 q0_3 z0 p1_0 q1_0 p1_1 q1_1 p1_2 q1_2 p1_3 q1_3 z1 p2_0 q2_0 p2_1 q2_1 z2
 have hb' := below_call (w1 := w4) (by go_grown) hb
 replace K0 := Lib.hid (K0.out.keep hb')
 replace K1 := Lib.hid (K1.out.keep hb')
 replace K2 := Lib.hid (K2.out.keep hb')
 replace HB := Lib.hid (below_call HB.out hb')
 have K3 := Lib.hid ((Bx.new w4 25 #[.int .i64 (sg (nu r * de q)), .slice a4 (ln (nu r * de q)) c4]).keep hb)
 replace H1 := Lib.hid (H1.out.keep hb')
 replace H2 := Lib.hid (H2.out.keep hb')
 replace Hd3 := Lib.hid (Hd3.out.keep hb')
 replace Hd4 := Lib.hid (Hd4.out.keep hb')
 clear hb hb'
 refine K0.out.w4 fun p0_0 q0_0 p0_1 q0_1 p0_2 q0_2 p0_3 q0_3 z0 => ?_
 refine K1.out.w4 fun p1_0 q1_0 p1_1 q1_1 p1_2 q1_2 p1_3 q1_3 z1 => ?_
 refine K2.out.w2 fun p2_0 q2_0 p2_1 q2_1 z2 => ?_
 refine K3.out.w2 fun p3_0 q3_0 p3_1 q3_1 z3 => ?_
 go_wp2_with fail
 go_ret
 exact ⟨ret_int (ord_parts q r), HB.out⟩
end Go.Proofs.Ytlpcblhkddmlnaa
