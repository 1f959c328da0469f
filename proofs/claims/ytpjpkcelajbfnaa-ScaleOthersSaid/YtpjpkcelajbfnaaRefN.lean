/- Walks of the verifier's reference: fractions: sums, differences, order. -/
import Derived.Test.YtpjpkcelajbfnaaRefK
namespace Go.Proofs.Ytpjpkcelajbfnaa
open Go.RowKit
variable {G : Nat}

theorem sub_parts (q r : Rat) : Rat.divInt (nu q * de r - nu r * de q) (de q * de r) = q - r := by
  have := add_parts q (-r)
  rw [Rat.sub_eq_add_neg, ← this]
  show _ = Rat.divInt (nu q * de r + -nu r * de q) (de q * de r)
  congr 1; rw [Int.neg_mul]; omega

set_option maxHeartbeats 4000000 in
theorem rfadd_ok {q r : Rat} {a1 b1 a2 b2 : Option Addr} {c1 d1 c2 d2 : Nat} {w : World} (h1 : FD G w a1 c1 b1 d1 q) (h2 : FD G w a2 c2 b2 d2 r) (hx : Fz q 137438953472) (hy : Fz r 137438953472) :
    Calls Try.prog 33 #[.agg #[.int .i64 (sg (nu q)), .slice a1 (ln (nu q)) c1, .int .i64 (sg (de q)), .slice b1 (ln (de q)) d1], .agg #[.int .i64 (sg (nu r)), .slice a2 (ln (nu r)) c2, .int .i64 (sg (de r)), .slice b2 (ln (de r)) d2]] w fun e w' => ∃ a c b d, e = .returned (.tuple #[.agg #[.int .i64 (sg (nu (q + r))), .slice a (ln (nu (q + r))) c, .int .i64 (sg (de (q + r))), .slice b (ln (de (q + r))) d], .int .i64 0]) ∧ FD G w' a c b d (q + r) ∧ Below w.heap.size w w' := by
  have HX := Lib.hid hx
  have HY := Lib.hid hy
  have H1 := Lib.hid h1
  have H2 := Lib.hid h2
  have HQR := Lib.hid (add_parts q r)
  clear hx hy h1 h2

  go_enter Try.func33, Try.ntmps33
  go_wp2_with fail
  refine (rfright_ok (q := q) (H1.out.keep (by go_grown)) (HX.out.mono (by omega))).mono ?_
  rintro e w1 ⟨rfl, hb⟩
  have hbx := bx3 w 34 34 34 #[.int .i64 (sg (nu q)), .slice a1 (ln (nu q)) c1, .int .i64 (sg (de q)), .slice b1 (ln (de q)) d1] #[.int .i64 (sg (nu r)), .slice a2 (ln (nu r)) c2, .int .i64 (sg (de r)), .slice b2 (ln (de r)) d2] #[.int .i64 0, .slice none 0 0, .int .i64 0, .slice none 0 0]
  obtain ⟨k0, k1, k2⟩ := hbx
  have K0 := Lib.hid (k0.keep hb)
  have K1 := Lib.hid (k1.keep hb)
  have K2 := Lib.hid (k2.keep hb)
  clear k0 k1 k2
  have hb' : Below w.heap.size w w1 := below_call (by go_grown) hb
  have HB := Lib.hid hb'
  replace H1 := Lib.hid (H1.out.keep hb')
  replace H2 := Lib.hid (H2.out.keep hb')
  clear hb hb'
  have p0_0 : w1.cell? ⟨w.heap.size, 0, none⟩ = some (.int .i64 (sg (nu q))) := K0.out.at.1 0
  have q0_0 : w1.frozen? ⟨w.heap.size, 0, none⟩ = false := K0.out.at.2 0
  have p0_1 : w1.cell? ⟨w.heap.size, 1, none⟩ = some (.slice a1 (ln (nu q)) c1) := K0.out.at.1 1
  have q0_1 : w1.frozen? ⟨w.heap.size, 1, none⟩ = false := K0.out.at.2 1
  have p0_2 : w1.cell? ⟨w.heap.size, 2, none⟩ = some (.int .i64 (sg (de q))) := K0.out.at.1 2
  have q0_2 : w1.frozen? ⟨w.heap.size, 2, none⟩ = false := K0.out.at.2 2
  have p0_3 : w1.cell? ⟨w.heap.size, 3, none⟩ = some (.slice b1 (ln (de q)) d1) := K0.out.at.1 3
  have q0_3 : w1.frozen? ⟨w.heap.size, 3, none⟩ = false := K0.out.at.2 3
  have z0 : w.heap.size < w1.heap.size := K0.out.lt
  have p1_0 : w1.cell? ⟨w.heap.size + 1, 0, none⟩ = some (.int .i64 (sg (nu r))) := K1.out.at.1 0
  have q1_0 : w1.frozen? ⟨w.heap.size + 1, 0, none⟩ = false := K1.out.at.2 0
  have p1_1 : w1.cell? ⟨w.heap.size + 1, 1, none⟩ = some (.slice a2 (ln (nu r)) c2) := K1.out.at.1 1
  have q1_1 : w1.frozen? ⟨w.heap.size + 1, 1, none⟩ = false := K1.out.at.2 1
  have p1_2 : w1.cell? ⟨w.heap.size + 1, 2, none⟩ = some (.int .i64 (sg (de r))) := K1.out.at.1 2
  have q1_2 : w1.frozen? ⟨w.heap.size + 1, 2, none⟩ = false := K1.out.at.2 2
  have p1_3 : w1.cell? ⟨w.heap.size + 1, 3, none⟩ = some (.slice b2 (ln (de r)) d2) := K1.out.at.1 3
  have q1_3 : w1.frozen? ⟨w.heap.size + 1, 3, none⟩ = false := K1.out.at.2 3
  have z1 : w.heap.size + 1 < w1.heap.size := K1.out.lt
  have p2_0 : w1.cell? ⟨w.heap.size + 1 + 1, 0, none⟩ = some (.int .i64 0) := K2.out.at.1 0
  have q2_0 : w1.frozen? ⟨w.heap.size + 1 + 1, 0, none⟩ = false := K2.out.at.2 0
  have p2_1 : w1.cell? ⟨w.heap.size + 1 + 1, 1, none⟩ = some (.slice none 0 0) := K2.out.at.1 1
  have q2_1 : w1.frozen? ⟨w.heap.size + 1 + 1, 1, none⟩ = false := K2.out.at.2 1
  have p2_2 : w1.cell? ⟨w.heap.size + 1 + 1, 2, none⟩ = some (.int .i64 0) := K2.out.at.1 2
  have q2_2 : w1.frozen? ⟨w.heap.size + 1 + 1, 2, none⟩ = false := K2.out.at.2 2
  have p2_3 : w1.cell? ⟨w.heap.size + 1 + 1, 3, none⟩ = some (.slice none 0 0) := K2.out.at.1 3
  have q2_3 : w1.frozen? ⟨w.heap.size + 1 + 1, 3, none⟩ = false := K2.out.at.2 3
  have z2 : w.heap.size + 1 + 1 < w1.heap.size := K2.out.lt
  go_wp2_with fail
  refine (rfright_ok (q := r) (H2.out.keep (by go_grown)) (HY.out.mono (by omega))).mono ?_
  rintro e w2 ⟨rfl, hb⟩
  clear p0_0 q0_0 p0_1 q0_1 p0_2 q0_2 p0_3 q0_3 z0 p1_0 q1_0 p1_1 q1_1 p1_2 q1_2 p1_3 q1_3 z1 p2_0 q2_0 p2_1 q2_1 p2_2 q2_2 p2_3 q2_3 z2
  have hb' := below_call (w1 := w1) (by go_grown) hb
  replace K0 := Lib.hid (K0.out.keep hb')
  replace K1 := Lib.hid (K1.out.keep hb')
  replace K2 := Lib.hid (K2.out.keep hb')
  replace HB := Lib.hid (below_call HB.out hb')
  replace H1 := Lib.hid (H1.out.keep hb')
  replace H2 := Lib.hid (H2.out.keep hb')
  clear hb hb'
  have p0_0 : w2.cell? ⟨w.heap.size, 0, none⟩ = some (.int .i64 (sg (nu q))) := K0.out.at.1 0
  have q0_0 : w2.frozen? ⟨w.heap.size, 0, none⟩ = false := K0.out.at.2 0
  have p0_1 : w2.cell? ⟨w.heap.size, 1, none⟩ = some (.slice a1 (ln (nu q)) c1) := K0.out.at.1 1
  have q0_1 : w2.frozen? ⟨w.heap.size, 1, none⟩ = false := K0.out.at.2 1
  have p0_2 : w2.cell? ⟨w.heap.size, 2, none⟩ = some (.int .i64 (sg (de q))) := K0.out.at.1 2
  have q0_2 : w2.frozen? ⟨w.heap.size, 2, none⟩ = false := K0.out.at.2 2
  have p0_3 : w2.cell? ⟨w.heap.size, 3, none⟩ = some (.slice b1 (ln (de q)) d1) := K0.out.at.1 3
  have q0_3 : w2.frozen? ⟨w.heap.size, 3, none⟩ = false := K0.out.at.2 3
  have z0 : w.heap.size < w2.heap.size := K0.out.lt
  have p1_0 : w2.cell? ⟨w.heap.size + 1, 0, none⟩ = some (.int .i64 (sg (nu r))) := K1.out.at.1 0
  have q1_0 : w2.frozen? ⟨w.heap.size + 1, 0, none⟩ = false := K1.out.at.2 0
  have p1_1 : w2.cell? ⟨w.heap.size + 1, 1, none⟩ = some (.slice a2 (ln (nu r)) c2) := K1.out.at.1 1
  have q1_1 : w2.frozen? ⟨w.heap.size + 1, 1, none⟩ = false := K1.out.at.2 1
  have p1_2 : w2.cell? ⟨w.heap.size + 1, 2, none⟩ = some (.int .i64 (sg (de r))) := K1.out.at.1 2
  have q1_2 : w2.frozen? ⟨w.heap.size + 1, 2, none⟩ = false := K1.out.at.2 2
  have p1_3 : w2.cell? ⟨w.heap.size + 1, 3, none⟩ = some (.slice b2 (ln (de r)) d2) := K1.out.at.1 3
  have q1_3 : w2.frozen? ⟨w.heap.size + 1, 3, none⟩ = false := K1.out.at.2 3
  have z1 : w.heap.size + 1 < w2.heap.size := K1.out.lt
  have p2_0 : w2.cell? ⟨w.heap.size + 1 + 1, 0, none⟩ = some (.int .i64 0) := K2.out.at.1 0
  have q2_0 : w2.frozen? ⟨w.heap.size + 1 + 1, 0, none⟩ = false := K2.out.at.2 0
  have p2_1 : w2.cell? ⟨w.heap.size + 1 + 1, 1, none⟩ = some (.slice none 0 0) := K2.out.at.1 1
  have q2_1 : w2.frozen? ⟨w.heap.size + 1 + 1, 1, none⟩ = false := K2.out.at.2 1
  have p2_2 : w2.cell? ⟨w.heap.size + 1 + 1, 2, none⟩ = some (.int .i64 0) := K2.out.at.1 2
  have q2_2 : w2.frozen? ⟨w.heap.size + 1 + 1, 2, none⟩ = false := K2.out.at.2 2
  have p2_3 : w2.cell? ⟨w.heap.size + 1 + 1, 3, none⟩ = some (.slice none 0 0) := K2.out.at.1 3
  have q2_3 : w2.frozen? ⟨w.heap.size + 1 + 1, 3, none⟩ = false := K2.out.at.2 3
  have z2 : w.heap.size + 1 + 1 < w2.heap.size := K2.out.lt
  go_wp2_with fail
  refine (rmul_ok (x := nu q) (y := de r) (H1.out.keep (by go_grown)).n (H2.out.keep (by go_grown)).d (HX.out.1.mono (by omega)) (HY.out.2.mono (by omega))).mono ?_
  rintro e w3 ⟨a3, c3, rfl, hd3, hb⟩
  clear p0_0 q0_0 p0_1 q0_1 p0_2 q0_2 p0_3 q0_3 z0 p1_0 q1_0 p1_1 q1_1 p1_2 q1_2 p1_3 q1_3 z1 p2_0 q2_0 p2_1 q2_1 p2_2 q2_2 p2_3 q2_3 z2
  have hb' := below_call (w1 := w2) (by go_grown) hb
  replace K0 := Lib.hid (K0.out.keep hb')
  replace K1 := Lib.hid (K1.out.keep hb')
  replace K2 := Lib.hid (K2.out.keep hb')
  replace HB := Lib.hid (below_call HB.out hb')
  replace H1 := Lib.hid (H1.out.keep hb')
  replace H2 := Lib.hid (H2.out.keep hb')
  clear hb hb'
  have Hd3 := Lib.hid hd3; clear hd3
  have p0_0 : w3.cell? ⟨w.heap.size, 0, none⟩ = some (.int .i64 (sg (nu q))) := K0.out.at.1 0
  have q0_0 : w3.frozen? ⟨w.heap.size, 0, none⟩ = false := K0.out.at.2 0
  have p0_1 : w3.cell? ⟨w.heap.size, 1, none⟩ = some (.slice a1 (ln (nu q)) c1) := K0.out.at.1 1
  have q0_1 : w3.frozen? ⟨w.heap.size, 1, none⟩ = false := K0.out.at.2 1
  have p0_2 : w3.cell? ⟨w.heap.size, 2, none⟩ = some (.int .i64 (sg (de q))) := K0.out.at.1 2
  have q0_2 : w3.frozen? ⟨w.heap.size, 2, none⟩ = false := K0.out.at.2 2
  have p0_3 : w3.cell? ⟨w.heap.size, 3, none⟩ = some (.slice b1 (ln (de q)) d1) := K0.out.at.1 3
  have q0_3 : w3.frozen? ⟨w.heap.size, 3, none⟩ = false := K0.out.at.2 3
  have z0 : w.heap.size < w3.heap.size := K0.out.lt
  have p1_0 : w3.cell? ⟨w.heap.size + 1, 0, none⟩ = some (.int .i64 (sg (nu r))) := K1.out.at.1 0
  have q1_0 : w3.frozen? ⟨w.heap.size + 1, 0, none⟩ = false := K1.out.at.2 0
  have p1_1 : w3.cell? ⟨w.heap.size + 1, 1, none⟩ = some (.slice a2 (ln (nu r)) c2) := K1.out.at.1 1
  have q1_1 : w3.frozen? ⟨w.heap.size + 1, 1, none⟩ = false := K1.out.at.2 1
  have p1_2 : w3.cell? ⟨w.heap.size + 1, 2, none⟩ = some (.int .i64 (sg (de r))) := K1.out.at.1 2
  have q1_2 : w3.frozen? ⟨w.heap.size + 1, 2, none⟩ = false := K1.out.at.2 2
  have p1_3 : w3.cell? ⟨w.heap.size + 1, 3, none⟩ = some (.slice b2 (ln (de r)) d2) := K1.out.at.1 3
  have q1_3 : w3.frozen? ⟨w.heap.size + 1, 3, none⟩ = false := K1.out.at.2 3
  have z1 : w.heap.size + 1 < w3.heap.size := K1.out.lt
  have p2_0 : w3.cell? ⟨w.heap.size + 1 + 1, 0, none⟩ = some (.int .i64 0) := K2.out.at.1 0
  have q2_0 : w3.frozen? ⟨w.heap.size + 1 + 1, 0, none⟩ = false := K2.out.at.2 0
  have p2_1 : w3.cell? ⟨w.heap.size + 1 + 1, 1, none⟩ = some (.slice none 0 0) := K2.out.at.1 1
  have q2_1 : w3.frozen? ⟨w.heap.size + 1 + 1, 1, none⟩ = false := K2.out.at.2 1
  have p2_2 : w3.cell? ⟨w.heap.size + 1 + 1, 2, none⟩ = some (.int .i64 0) := K2.out.at.1 2
  have q2_2 : w3.frozen? ⟨w.heap.size + 1 + 1, 2, none⟩ = false := K2.out.at.2 2
  have p2_3 : w3.cell? ⟨w.heap.size + 1 + 1, 3, none⟩ = some (.slice none 0 0) := K2.out.at.1 3
  have q2_3 : w3.frozen? ⟨w.heap.size + 1 + 1, 3, none⟩ = false := K2.out.at.2 3
  have z2 : w.heap.size + 1 + 1 < w3.heap.size := K2.out.lt
  go_wp2_with fail
  refine (rmul_ok (x := nu r) (y := de q) (H2.out.keep (by go_grown)).n (H1.out.keep (by go_grown)).d (HY.out.1.mono (by omega)) (HX.out.2.mono (by omega))).mono ?_
  rintro e w4 ⟨a4, c4, rfl, hd4, hb⟩
  clear p0_0 q0_0 p0_1 q0_1 p0_2 q0_2 p0_3 q0_3 z0 p1_0 q1_0 p1_1 q1_1 p1_2 q1_2 p1_3 q1_3 z1 p2_0 q2_0 p2_1 q2_1 p2_2 q2_2 p2_3 q2_3 z2
  have hb' := below_call (w1 := w3) (by go_grown) hb
  replace K0 := Lib.hid (K0.out.keep hb')
  replace K1 := Lib.hid (K1.out.keep hb')
  replace K2 := Lib.hid (K2.out.keep hb')
  replace HB := Lib.hid (below_call HB.out hb')
  have K3 := Lib.hid ((Bx.new w3 32 #[.int .i64 (sg (nu q * de r)), .slice a3 (ln (nu q * de r)) c3]).keep hb)
  replace H1 := Lib.hid (H1.out.keep hb')
  replace H2 := Lib.hid (H2.out.keep hb')
  replace Hd3 := Lib.hid (Hd3.out.keep hb')
  clear hb hb'
  have Hd4 := Lib.hid hd4; clear hd4
  have p0_0 : w4.cell? ⟨w.heap.size, 0, none⟩ = some (.int .i64 (sg (nu q))) := K0.out.at.1 0
  have q0_0 : w4.frozen? ⟨w.heap.size, 0, none⟩ = false := K0.out.at.2 0
  have p0_1 : w4.cell? ⟨w.heap.size, 1, none⟩ = some (.slice a1 (ln (nu q)) c1) := K0.out.at.1 1
  have q0_1 : w4.frozen? ⟨w.heap.size, 1, none⟩ = false := K0.out.at.2 1
  have p0_2 : w4.cell? ⟨w.heap.size, 2, none⟩ = some (.int .i64 (sg (de q))) := K0.out.at.1 2
  have q0_2 : w4.frozen? ⟨w.heap.size, 2, none⟩ = false := K0.out.at.2 2
  have p0_3 : w4.cell? ⟨w.heap.size, 3, none⟩ = some (.slice b1 (ln (de q)) d1) := K0.out.at.1 3
  have q0_3 : w4.frozen? ⟨w.heap.size, 3, none⟩ = false := K0.out.at.2 3
  have z0 : w.heap.size < w4.heap.size := K0.out.lt
  have p1_0 : w4.cell? ⟨w.heap.size + 1, 0, none⟩ = some (.int .i64 (sg (nu r))) := K1.out.at.1 0
  have q1_0 : w4.frozen? ⟨w.heap.size + 1, 0, none⟩ = false := K1.out.at.2 0
  have p1_1 : w4.cell? ⟨w.heap.size + 1, 1, none⟩ = some (.slice a2 (ln (nu r)) c2) := K1.out.at.1 1
  have q1_1 : w4.frozen? ⟨w.heap.size + 1, 1, none⟩ = false := K1.out.at.2 1
  have p1_2 : w4.cell? ⟨w.heap.size + 1, 2, none⟩ = some (.int .i64 (sg (de r))) := K1.out.at.1 2
  have q1_2 : w4.frozen? ⟨w.heap.size + 1, 2, none⟩ = false := K1.out.at.2 2
  have p1_3 : w4.cell? ⟨w.heap.size + 1, 3, none⟩ = some (.slice b2 (ln (de r)) d2) := K1.out.at.1 3
  have q1_3 : w4.frozen? ⟨w.heap.size + 1, 3, none⟩ = false := K1.out.at.2 3
  have z1 : w.heap.size + 1 < w4.heap.size := K1.out.lt
  have p2_0 : w4.cell? ⟨w.heap.size + 1 + 1, 0, none⟩ = some (.int .i64 0) := K2.out.at.1 0
  have q2_0 : w4.frozen? ⟨w.heap.size + 1 + 1, 0, none⟩ = false := K2.out.at.2 0
  have p2_1 : w4.cell? ⟨w.heap.size + 1 + 1, 1, none⟩ = some (.slice none 0 0) := K2.out.at.1 1
  have q2_1 : w4.frozen? ⟨w.heap.size + 1 + 1, 1, none⟩ = false := K2.out.at.2 1
  have p2_2 : w4.cell? ⟨w.heap.size + 1 + 1, 2, none⟩ = some (.int .i64 0) := K2.out.at.1 2
  have q2_2 : w4.frozen? ⟨w.heap.size + 1 + 1, 2, none⟩ = false := K2.out.at.2 2
  have p2_3 : w4.cell? ⟨w.heap.size + 1 + 1, 3, none⟩ = some (.slice none 0 0) := K2.out.at.1 3
  have q2_3 : w4.frozen? ⟨w.heap.size + 1 + 1, 3, none⟩ = false := K2.out.at.2 3
  have z2 : w.heap.size + 1 + 1 < w4.heap.size := K2.out.lt
  have p3_0 : w4.cell? ⟨w3.heap.size, 0, none⟩ = some (.int .i64 (sg (nu q * de r))) := K3.out.at.1 0
  have q3_0 : w4.frozen? ⟨w3.heap.size, 0, none⟩ = false := K3.out.at.2 0
  have p3_1 : w4.cell? ⟨w3.heap.size, 1, none⟩ = some (.slice a3 (ln (nu q * de r)) c3) := K3.out.at.1 1
  have q3_1 : w4.frozen? ⟨w3.heap.size, 1, none⟩ = false := K3.out.at.2 1
  have z3 : w3.heap.size < w4.heap.size := K3.out.lt
  go_wp2_with fail
  refine (rmul_ok (x := de q) (y := de r) (H1.out.keep (by go_grown)).d (H2.out.keep (by go_grown)).d (HX.out.2.mono (by omega)) (HY.out.2.mono (by omega))).mono ?_
  rintro e w5 ⟨a5, c5, rfl, hd5, hb⟩
  clear p0_0 q0_0 p0_1 q0_1 p0_2 q0_2 p0_3 q0_3 z0 p1_0 q1_0 p1_1 q1_1 p1_2 q1_2 p1_3 q1_3 z1 p2_0 q2_0 p2_1 q2_1 p2_2 q2_2 p2_3 q2_3 z2 p3_0 q3_0 p3_1 q3_1 z3
  have hb' := below_call (w1 := w4) (by go_grown) hb
  replace K0 := Lib.hid (K0.out.keep hb')
  replace K1 := Lib.hid (K1.out.keep hb')
  replace K2 := Lib.hid (K2.out.keep hb')
  replace K3 := Lib.hid (K3.out.keep hb')
  replace HB := Lib.hid (below_call HB.out hb')
  have K4 := Lib.hid ((Bx.new w4 32 #[.int .i64 (sg (nu r * de q)), .slice a4 (ln (nu r * de q)) c4]).keep hb)
  replace H1 := Lib.hid (H1.out.keep hb')
  replace H2 := Lib.hid (H2.out.keep hb')
  replace Hd3 := Lib.hid (Hd3.out.keep hb')
  replace Hd4 := Lib.hid (Hd4.out.keep hb')
  clear hb hb'
  have Hd5 := Lib.hid hd5; clear hd5
  have p0_0 : w5.cell? ⟨w.heap.size, 0, none⟩ = some (.int .i64 (sg (nu q))) := K0.out.at.1 0
  have q0_0 : w5.frozen? ⟨w.heap.size, 0, none⟩ = false := K0.out.at.2 0
  have p0_1 : w5.cell? ⟨w.heap.size, 1, none⟩ = some (.slice a1 (ln (nu q)) c1) := K0.out.at.1 1
  have q0_1 : w5.frozen? ⟨w.heap.size, 1, none⟩ = false := K0.out.at.2 1
  have p0_2 : w5.cell? ⟨w.heap.size, 2, none⟩ = some (.int .i64 (sg (de q))) := K0.out.at.1 2
  have q0_2 : w5.frozen? ⟨w.heap.size, 2, none⟩ = false := K0.out.at.2 2
  have p0_3 : w5.cell? ⟨w.heap.size, 3, none⟩ = some (.slice b1 (ln (de q)) d1) := K0.out.at.1 3
  have q0_3 : w5.frozen? ⟨w.heap.size, 3, none⟩ = false := K0.out.at.2 3
  have z0 : w.heap.size < w5.heap.size := K0.out.lt
  have p1_0 : w5.cell? ⟨w.heap.size + 1, 0, none⟩ = some (.int .i64 (sg (nu r))) := K1.out.at.1 0
  have q1_0 : w5.frozen? ⟨w.heap.size + 1, 0, none⟩ = false := K1.out.at.2 0
  have p1_1 : w5.cell? ⟨w.heap.size + 1, 1, none⟩ = some (.slice a2 (ln (nu r)) c2) := K1.out.at.1 1
  have q1_1 : w5.frozen? ⟨w.heap.size + 1, 1, none⟩ = false := K1.out.at.2 1
  have p1_2 : w5.cell? ⟨w.heap.size + 1, 2, none⟩ = some (.int .i64 (sg (de r))) := K1.out.at.1 2
  have q1_2 : w5.frozen? ⟨w.heap.size + 1, 2, none⟩ = false := K1.out.at.2 2
  have p1_3 : w5.cell? ⟨w.heap.size + 1, 3, none⟩ = some (.slice b2 (ln (de r)) d2) := K1.out.at.1 3
  have q1_3 : w5.frozen? ⟨w.heap.size + 1, 3, none⟩ = false := K1.out.at.2 3
  have z1 : w.heap.size + 1 < w5.heap.size := K1.out.lt
  have p2_0 : w5.cell? ⟨w.heap.size + 1 + 1, 0, none⟩ = some (.int .i64 0) := K2.out.at.1 0
  have q2_0 : w5.frozen? ⟨w.heap.size + 1 + 1, 0, none⟩ = false := K2.out.at.2 0
  have p2_1 : w5.cell? ⟨w.heap.size + 1 + 1, 1, none⟩ = some (.slice none 0 0) := K2.out.at.1 1
  have q2_1 : w5.frozen? ⟨w.heap.size + 1 + 1, 1, none⟩ = false := K2.out.at.2 1
  have p2_2 : w5.cell? ⟨w.heap.size + 1 + 1, 2, none⟩ = some (.int .i64 0) := K2.out.at.1 2
  have q2_2 : w5.frozen? ⟨w.heap.size + 1 + 1, 2, none⟩ = false := K2.out.at.2 2
  have p2_3 : w5.cell? ⟨w.heap.size + 1 + 1, 3, none⟩ = some (.slice none 0 0) := K2.out.at.1 3
  have q2_3 : w5.frozen? ⟨w.heap.size + 1 + 1, 3, none⟩ = false := K2.out.at.2 3
  have z2 : w.heap.size + 1 + 1 < w5.heap.size := K2.out.lt
  have p3_0 : w5.cell? ⟨w3.heap.size, 0, none⟩ = some (.int .i64 (sg (nu q * de r))) := K3.out.at.1 0
  have q3_0 : w5.frozen? ⟨w3.heap.size, 0, none⟩ = false := K3.out.at.2 0
  have p3_1 : w5.cell? ⟨w3.heap.size, 1, none⟩ = some (.slice a3 (ln (nu q * de r)) c3) := K3.out.at.1 1
  have q3_1 : w5.frozen? ⟨w3.heap.size, 1, none⟩ = false := K3.out.at.2 1
  have z3 : w3.heap.size < w5.heap.size := K3.out.lt
  have p4_0 : w5.cell? ⟨w4.heap.size, 0, none⟩ = some (.int .i64 (sg (nu r * de q))) := K4.out.at.1 0
  have q4_0 : w5.frozen? ⟨w4.heap.size, 0, none⟩ = false := K4.out.at.2 0
  have p4_1 : w5.cell? ⟨w4.heap.size, 1, none⟩ = some (.slice a4 (ln (nu r * de q)) c4) := K4.out.at.1 1
  have q4_1 : w5.frozen? ⟨w4.heap.size, 1, none⟩ = false := K4.out.at.2 1
  have z4 : w4.heap.size < w5.heap.size := K4.out.lt
  go_wp2_with fail
  refine (radd_ok (Hd3.out.keep (by go_grown)) (Hd4.out.keep (by go_grown)) ((HX.out.1.mul HY.out.2).mono (by omega)) ((HY.out.1.mul HX.out.2).mono (by omega))).mono ?_
  rintro e w6 ⟨a6, c6, rfl, hd6, hb⟩
  clear p0_0 q0_0 p0_1 q0_1 p0_2 q0_2 p0_3 q0_3 z0 p1_0 q1_0 p1_1 q1_1 p1_2 q1_2 p1_3 q1_3 z1 p2_0 q2_0 p2_1 q2_1 p2_2 q2_2 p2_3 q2_3 z2 p3_0 q3_0 p3_1 q3_1 z3 p4_0 q4_0 p4_1 q4_1 z4
  have hb' := below_call (w1 := w5) (by go_grown) hb
  replace K0 := Lib.hid (K0.out.keep hb')
  replace K1 := Lib.hid (K1.out.keep hb')
  replace K2 := Lib.hid (K2.out.keep hb')
  replace K3 := Lib.hid (K3.out.keep hb')
  replace K4 := Lib.hid (K4.out.keep hb')
  replace HB := Lib.hid (below_call HB.out hb')
  have K5 := Lib.hid ((Bx.new w5 32 #[.int .i64 (sg (de q * de r)), .slice a5 (ln (de q * de r)) c5]).keep hb)
  replace H1 := Lib.hid (H1.out.keep hb')
  replace H2 := Lib.hid (H2.out.keep hb')
  replace Hd3 := Lib.hid (Hd3.out.keep hb')
  replace Hd4 := Lib.hid (Hd4.out.keep hb')
  replace Hd5 := Lib.hid (Hd5.out.keep hb')
  clear hb hb'
  have Hd6 := Lib.hid hd6; clear hd6
  have p0_0 : w6.cell? ⟨w.heap.size, 0, none⟩ = some (.int .i64 (sg (nu q))) := K0.out.at.1 0
  have q0_0 : w6.frozen? ⟨w.heap.size, 0, none⟩ = false := K0.out.at.2 0
  have p0_1 : w6.cell? ⟨w.heap.size, 1, none⟩ = some (.slice a1 (ln (nu q)) c1) := K0.out.at.1 1
  have q0_1 : w6.frozen? ⟨w.heap.size, 1, none⟩ = false := K0.out.at.2 1
  have p0_2 : w6.cell? ⟨w.heap.size, 2, none⟩ = some (.int .i64 (sg (de q))) := K0.out.at.1 2
  have q0_2 : w6.frozen? ⟨w.heap.size, 2, none⟩ = false := K0.out.at.2 2
  have p0_3 : w6.cell? ⟨w.heap.size, 3, none⟩ = some (.slice b1 (ln (de q)) d1) := K0.out.at.1 3
  have q0_3 : w6.frozen? ⟨w.heap.size, 3, none⟩ = false := K0.out.at.2 3
  have z0 : w.heap.size < w6.heap.size := K0.out.lt
  have p1_0 : w6.cell? ⟨w.heap.size + 1, 0, none⟩ = some (.int .i64 (sg (nu r))) := K1.out.at.1 0
  have q1_0 : w6.frozen? ⟨w.heap.size + 1, 0, none⟩ = false := K1.out.at.2 0
  have p1_1 : w6.cell? ⟨w.heap.size + 1, 1, none⟩ = some (.slice a2 (ln (nu r)) c2) := K1.out.at.1 1
  have q1_1 : w6.frozen? ⟨w.heap.size + 1, 1, none⟩ = false := K1.out.at.2 1
  have p1_2 : w6.cell? ⟨w.heap.size + 1, 2, none⟩ = some (.int .i64 (sg (de r))) := K1.out.at.1 2
  have q1_2 : w6.frozen? ⟨w.heap.size + 1, 2, none⟩ = false := K1.out.at.2 2
  have p1_3 : w6.cell? ⟨w.heap.size + 1, 3, none⟩ = some (.slice b2 (ln (de r)) d2) := K1.out.at.1 3
  have q1_3 : w6.frozen? ⟨w.heap.size + 1, 3, none⟩ = false := K1.out.at.2 3
  have z1 : w.heap.size + 1 < w6.heap.size := K1.out.lt
  have p2_0 : w6.cell? ⟨w.heap.size + 1 + 1, 0, none⟩ = some (.int .i64 0) := K2.out.at.1 0
  have q2_0 : w6.frozen? ⟨w.heap.size + 1 + 1, 0, none⟩ = false := K2.out.at.2 0
  have p2_1 : w6.cell? ⟨w.heap.size + 1 + 1, 1, none⟩ = some (.slice none 0 0) := K2.out.at.1 1
  have q2_1 : w6.frozen? ⟨w.heap.size + 1 + 1, 1, none⟩ = false := K2.out.at.2 1
  have p2_2 : w6.cell? ⟨w.heap.size + 1 + 1, 2, none⟩ = some (.int .i64 0) := K2.out.at.1 2
  have q2_2 : w6.frozen? ⟨w.heap.size + 1 + 1, 2, none⟩ = false := K2.out.at.2 2
  have p2_3 : w6.cell? ⟨w.heap.size + 1 + 1, 3, none⟩ = some (.slice none 0 0) := K2.out.at.1 3
  have q2_3 : w6.frozen? ⟨w.heap.size + 1 + 1, 3, none⟩ = false := K2.out.at.2 3
  have z2 : w.heap.size + 1 + 1 < w6.heap.size := K2.out.lt
  have p3_0 : w6.cell? ⟨w3.heap.size, 0, none⟩ = some (.int .i64 (sg (nu q * de r))) := K3.out.at.1 0
  have q3_0 : w6.frozen? ⟨w3.heap.size, 0, none⟩ = false := K3.out.at.2 0
  have p3_1 : w6.cell? ⟨w3.heap.size, 1, none⟩ = some (.slice a3 (ln (nu q * de r)) c3) := K3.out.at.1 1
  have q3_1 : w6.frozen? ⟨w3.heap.size, 1, none⟩ = false := K3.out.at.2 1
  have z3 : w3.heap.size < w6.heap.size := K3.out.lt
  have p4_0 : w6.cell? ⟨w4.heap.size, 0, none⟩ = some (.int .i64 (sg (nu r * de q))) := K4.out.at.1 0
  have q4_0 : w6.frozen? ⟨w4.heap.size, 0, none⟩ = false := K4.out.at.2 0
  have p4_1 : w6.cell? ⟨w4.heap.size, 1, none⟩ = some (.slice a4 (ln (nu r * de q)) c4) := K4.out.at.1 1
  have q4_1 : w6.frozen? ⟨w4.heap.size, 1, none⟩ = false := K4.out.at.2 1
  have z4 : w4.heap.size < w6.heap.size := K4.out.lt
  have p5_0 : w6.cell? ⟨w5.heap.size, 0, none⟩ = some (.int .i64 (sg (de q * de r))) := K5.out.at.1 0
  have q5_0 : w6.frozen? ⟨w5.heap.size, 0, none⟩ = false := K5.out.at.2 0
  have p5_1 : w6.cell? ⟨w5.heap.size, 1, none⟩ = some (.slice a5 (ln (de q * de r)) c5) := K5.out.at.1 1
  have q5_1 : w6.frozen? ⟨w5.heap.size, 1, none⟩ = false := K5.out.at.2 1
  have z5 : w5.heap.size < w6.heap.size := K5.out.lt
  go_wp2_with fail
  refine (rnew_pos (Hd6.out.keep (by go_grown)) (Hd5.out.keep (by go_grown)) (((HX.out.1.mul HY.out.2).add ((HY.out.1.mul HX.out.2).mono (by omega))).mono (by omega)) ((HX.out.2.mul HY.out.2).mono (by omega)) (Int.mul_pos (de_pos q) (de_pos r))).mono ?_
  rintro e w7 ⟨a8, c8, b8, d8, rfl, hf8, hb⟩
  clear p0_0 q0_0 p0_1 q0_1 p0_2 q0_2 p0_3 q0_3 z0 p1_0 q1_0 p1_1 q1_1 p1_2 q1_2 p1_3 q1_3 z1 p2_0 q2_0 p2_1 q2_1 p2_2 q2_2 p2_3 q2_3 z2 p3_0 q3_0 p3_1 q3_1 z3 p4_0 q4_0 p4_1 q4_1 z4 p5_0 q5_0 p5_1 q5_1 z5
  have hb' := below_call (w1 := w6) (by go_grown) hb
  replace K0 := Lib.hid (K0.out.keep hb')
  replace K1 := Lib.hid (K1.out.keep hb')
  replace K2 := Lib.hid (K2.out.keep hb')
  replace K3 := Lib.hid (K3.out.keep hb')
  replace K4 := Lib.hid (K4.out.keep hb')
  replace K5 := Lib.hid (K5.out.keep hb')
  replace HB := Lib.hid (below_call HB.out hb')
  have K6 := Lib.hid ((Bx.new w6 32 #[.int .i64 (sg (nu q * de r + nu r * de q)), .slice a6 (ln (nu q * de r + nu r * de q)) c6]).keep hb)
  replace H1 := Lib.hid (H1.out.keep hb')
  replace H2 := Lib.hid (H2.out.keep hb')
  replace Hd3 := Lib.hid (Hd3.out.keep hb')
  replace Hd4 := Lib.hid (Hd4.out.keep hb')
  replace Hd5 := Lib.hid (Hd5.out.keep hb')
  replace Hd6 := Lib.hid (Hd6.out.keep hb')
  clear hb hb'
  have Hf8 := Lib.hid hf8; clear hf8
  have p0_0 : w7.cell? ⟨w.heap.size, 0, none⟩ = some (.int .i64 (sg (nu q))) := K0.out.at.1 0
  have q0_0 : w7.frozen? ⟨w.heap.size, 0, none⟩ = false := K0.out.at.2 0
  have p0_1 : w7.cell? ⟨w.heap.size, 1, none⟩ = some (.slice a1 (ln (nu q)) c1) := K0.out.at.1 1
  have q0_1 : w7.frozen? ⟨w.heap.size, 1, none⟩ = false := K0.out.at.2 1
  have p0_2 : w7.cell? ⟨w.heap.size, 2, none⟩ = some (.int .i64 (sg (de q))) := K0.out.at.1 2
  have q0_2 : w7.frozen? ⟨w.heap.size, 2, none⟩ = false := K0.out.at.2 2
  have p0_3 : w7.cell? ⟨w.heap.size, 3, none⟩ = some (.slice b1 (ln (de q)) d1) := K0.out.at.1 3
  have q0_3 : w7.frozen? ⟨w.heap.size, 3, none⟩ = false := K0.out.at.2 3
  have z0 : w.heap.size < w7.heap.size := K0.out.lt
  have p1_0 : w7.cell? ⟨w.heap.size + 1, 0, none⟩ = some (.int .i64 (sg (nu r))) := K1.out.at.1 0
  have q1_0 : w7.frozen? ⟨w.heap.size + 1, 0, none⟩ = false := K1.out.at.2 0
  have p1_1 : w7.cell? ⟨w.heap.size + 1, 1, none⟩ = some (.slice a2 (ln (nu r)) c2) := K1.out.at.1 1
  have q1_1 : w7.frozen? ⟨w.heap.size + 1, 1, none⟩ = false := K1.out.at.2 1
  have p1_2 : w7.cell? ⟨w.heap.size + 1, 2, none⟩ = some (.int .i64 (sg (de r))) := K1.out.at.1 2
  have q1_2 : w7.frozen? ⟨w.heap.size + 1, 2, none⟩ = false := K1.out.at.2 2
  have p1_3 : w7.cell? ⟨w.heap.size + 1, 3, none⟩ = some (.slice b2 (ln (de r)) d2) := K1.out.at.1 3
  have q1_3 : w7.frozen? ⟨w.heap.size + 1, 3, none⟩ = false := K1.out.at.2 3
  have z1 : w.heap.size + 1 < w7.heap.size := K1.out.lt
  have p2_0 : w7.cell? ⟨w.heap.size + 1 + 1, 0, none⟩ = some (.int .i64 0) := K2.out.at.1 0
  have q2_0 : w7.frozen? ⟨w.heap.size + 1 + 1, 0, none⟩ = false := K2.out.at.2 0
  have p2_1 : w7.cell? ⟨w.heap.size + 1 + 1, 1, none⟩ = some (.slice none 0 0) := K2.out.at.1 1
  have q2_1 : w7.frozen? ⟨w.heap.size + 1 + 1, 1, none⟩ = false := K2.out.at.2 1
  have p2_2 : w7.cell? ⟨w.heap.size + 1 + 1, 2, none⟩ = some (.int .i64 0) := K2.out.at.1 2
  have q2_2 : w7.frozen? ⟨w.heap.size + 1 + 1, 2, none⟩ = false := K2.out.at.2 2
  have p2_3 : w7.cell? ⟨w.heap.size + 1 + 1, 3, none⟩ = some (.slice none 0 0) := K2.out.at.1 3
  have q2_3 : w7.frozen? ⟨w.heap.size + 1 + 1, 3, none⟩ = false := K2.out.at.2 3
  have z2 : w.heap.size + 1 + 1 < w7.heap.size := K2.out.lt
  have p3_0 : w7.cell? ⟨w3.heap.size, 0, none⟩ = some (.int .i64 (sg (nu q * de r))) := K3.out.at.1 0
  have q3_0 : w7.frozen? ⟨w3.heap.size, 0, none⟩ = false := K3.out.at.2 0
  have p3_1 : w7.cell? ⟨w3.heap.size, 1, none⟩ = some (.slice a3 (ln (nu q * de r)) c3) := K3.out.at.1 1
  have q3_1 : w7.frozen? ⟨w3.heap.size, 1, none⟩ = false := K3.out.at.2 1
  have z3 : w3.heap.size < w7.heap.size := K3.out.lt
  have p4_0 : w7.cell? ⟨w4.heap.size, 0, none⟩ = some (.int .i64 (sg (nu r * de q))) := K4.out.at.1 0
  have q4_0 : w7.frozen? ⟨w4.heap.size, 0, none⟩ = false := K4.out.at.2 0
  have p4_1 : w7.cell? ⟨w4.heap.size, 1, none⟩ = some (.slice a4 (ln (nu r * de q)) c4) := K4.out.at.1 1
  have q4_1 : w7.frozen? ⟨w4.heap.size, 1, none⟩ = false := K4.out.at.2 1
  have z4 : w4.heap.size < w7.heap.size := K4.out.lt
  have p5_0 : w7.cell? ⟨w5.heap.size, 0, none⟩ = some (.int .i64 (sg (de q * de r))) := K5.out.at.1 0
  have q5_0 : w7.frozen? ⟨w5.heap.size, 0, none⟩ = false := K5.out.at.2 0
  have p5_1 : w7.cell? ⟨w5.heap.size, 1, none⟩ = some (.slice a5 (ln (de q * de r)) c5) := K5.out.at.1 1
  have q5_1 : w7.frozen? ⟨w5.heap.size, 1, none⟩ = false := K5.out.at.2 1
  have z5 : w5.heap.size < w7.heap.size := K5.out.lt
  have p6_0 : w7.cell? ⟨w6.heap.size, 0, none⟩ = some (.int .i64 (sg (nu q * de r + nu r * de q))) := K6.out.at.1 0
  have q6_0 : w7.frozen? ⟨w6.heap.size, 0, none⟩ = false := K6.out.at.2 0
  have p6_1 : w7.cell? ⟨w6.heap.size, 1, none⟩ = some (.slice a6 (ln (nu q * de r + nu r * de q)) c6) := K6.out.at.1 1
  have q6_1 : w7.frozen? ⟨w6.heap.size, 1, none⟩ = false := K6.out.at.2 1
  have z6 : w6.heap.size < w7.heap.size := K6.out.lt
  rw [HQR.out]
  go_wp2_with fail
  rw [HQR.out] at Hf8
  clear p0_0 q0_0 p0_1 q0_1 p0_2 q0_2 p0_3 q0_3 z0 p1_0 q1_0 p1_1 q1_1 p1_2 q1_2 p1_3 q1_3 z1 p2_0 q2_0 p2_1 q2_1 p2_2 q2_2 p2_3 q2_3 z2 p3_0 q3_0 p3_1 q3_1 z3 p4_0 q4_0 p4_1 q4_1 z4 p5_0 q5_0 p5_1 q5_1 z5 p6_0 q6_0 p6_1 q6_1 z6
  refine bodyPost_ret (results_box2 rfl _ _ (w.heap.size + 1 + 1) 34 _ _ _ rfl (K2.out.set4 _ _ _ _) Try.underlying34 rfl (by kernel_rfl)) rfl ?_
  refine ⟨a8, c8, b8, d8, rfl, ?_, ?_⟩
  · exact (Hf8.out.far0 K2.out zb4 (only_setCell (only_setCell (only_setCell (only_setCell (World.grownBy.refl _ _) _) _) _) _))
  · exact (Below.setCell (Below.setCell (Below.setCell (Below.setCell HB.out (by simp; try omega) _) (by simp; try omega) _) (by simp; try omega) _) (by simp; try omega) _)

set_option maxHeartbeats 4000000 in
theorem rfsub_ok {q r : Rat} {a1 b1 a2 b2 : Option Addr} {c1 d1 c2 d2 : Nat} {w : World} (h1 : FD G w a1 c1 b1 d1 q) (h2 : FD G w a2 c2 b2 d2 r) (hx : Fz q 137438953472) (hy : Fz r 137438953472) :
    Calls Try.prog 35 #[.agg #[.int .i64 (sg (nu q)), .slice a1 (ln (nu q)) c1, .int .i64 (sg (de q)), .slice b1 (ln (de q)) d1], .agg #[.int .i64 (sg (nu r)), .slice a2 (ln (nu r)) c2, .int .i64 (sg (de r)), .slice b2 (ln (de r)) d2]] w fun e w' => ∃ a c b d, e = .returned (.tuple #[.agg #[.int .i64 (sg (nu (q - r))), .slice a (ln (nu (q - r))) c, .int .i64 (sg (de (q - r))), .slice b (ln (de (q - r))) d], .int .i64 0]) ∧ FD G w' a c b d (q - r) ∧ Below w.heap.size w w' := by
  have HX := Lib.hid hx
  have HY := Lib.hid hy
  have H1 := Lib.hid h1
  have H2 := Lib.hid h2
  have HQR := Lib.hid (sub_parts q r)
  clear hx hy h1 h2

  go_enter Try.func35, Try.ntmps35
  go_wp2_with fail
  refine (rfright_ok (q := q) (H1.out.keep (by go_grown)) (HX.out.mono (by omega))).mono ?_
  rintro e w1 ⟨rfl, hb⟩
  have hbx := bx3 w 34 34 34 #[.int .i64 (sg (nu q)), .slice a1 (ln (nu q)) c1, .int .i64 (sg (de q)), .slice b1 (ln (de q)) d1] #[.int .i64 (sg (nu r)), .slice a2 (ln (nu r)) c2, .int .i64 (sg (de r)), .slice b2 (ln (de r)) d2] #[.int .i64 0, .slice none 0 0, .int .i64 0, .slice none 0 0]
  obtain ⟨k0, k1, k2⟩ := hbx
  have K0 := Lib.hid (k0.keep hb)
  have K1 := Lib.hid (k1.keep hb)
  have K2 := Lib.hid (k2.keep hb)
  clear k0 k1 k2
  have hb' : Below w.heap.size w w1 := below_call (by go_grown) hb
  have HB := Lib.hid hb'
  replace H1 := Lib.hid (H1.out.keep hb')
  replace H2 := Lib.hid (H2.out.keep hb')
  clear hb hb'
  have p0_0 : w1.cell? ⟨w.heap.size, 0, none⟩ = some (.int .i64 (sg (nu q))) := K0.out.at.1 0
  have q0_0 : w1.frozen? ⟨w.heap.size, 0, none⟩ = false := K0.out.at.2 0
  have p0_1 : w1.cell? ⟨w.heap.size, 1, none⟩ = some (.slice a1 (ln (nu q)) c1) := K0.out.at.1 1
  have q0_1 : w1.frozen? ⟨w.heap.size, 1, none⟩ = false := K0.out.at.2 1
  have p0_2 : w1.cell? ⟨w.heap.size, 2, none⟩ = some (.int .i64 (sg (de q))) := K0.out.at.1 2
  have q0_2 : w1.frozen? ⟨w.heap.size, 2, none⟩ = false := K0.out.at.2 2
  have p0_3 : w1.cell? ⟨w.heap.size, 3, none⟩ = some (.slice b1 (ln (de q)) d1) := K0.out.at.1 3
  have q0_3 : w1.frozen? ⟨w.heap.size, 3, none⟩ = false := K0.out.at.2 3
  have z0 : w.heap.size < w1.heap.size := K0.out.lt
  have p1_0 : w1.cell? ⟨w.heap.size + 1, 0, none⟩ = some (.int .i64 (sg (nu r))) := K1.out.at.1 0
  have q1_0 : w1.frozen? ⟨w.heap.size + 1, 0, none⟩ = false := K1.out.at.2 0
  have p1_1 : w1.cell? ⟨w.heap.size + 1, 1, none⟩ = some (.slice a2 (ln (nu r)) c2) := K1.out.at.1 1
  have q1_1 : w1.frozen? ⟨w.heap.size + 1, 1, none⟩ = false := K1.out.at.2 1
  have p1_2 : w1.cell? ⟨w.heap.size + 1, 2, none⟩ = some (.int .i64 (sg (de r))) := K1.out.at.1 2
  have q1_2 : w1.frozen? ⟨w.heap.size + 1, 2, none⟩ = false := K1.out.at.2 2
  have p1_3 : w1.cell? ⟨w.heap.size + 1, 3, none⟩ = some (.slice b2 (ln (de r)) d2) := K1.out.at.1 3
  have q1_3 : w1.frozen? ⟨w.heap.size + 1, 3, none⟩ = false := K1.out.at.2 3
  have z1 : w.heap.size + 1 < w1.heap.size := K1.out.lt
  have p2_0 : w1.cell? ⟨w.heap.size + 1 + 1, 0, none⟩ = some (.int .i64 0) := K2.out.at.1 0
  have q2_0 : w1.frozen? ⟨w.heap.size + 1 + 1, 0, none⟩ = false := K2.out.at.2 0
  have p2_1 : w1.cell? ⟨w.heap.size + 1 + 1, 1, none⟩ = some (.slice none 0 0) := K2.out.at.1 1
  have q2_1 : w1.frozen? ⟨w.heap.size + 1 + 1, 1, none⟩ = false := K2.out.at.2 1
  have p2_2 : w1.cell? ⟨w.heap.size + 1 + 1, 2, none⟩ = some (.int .i64 0) := K2.out.at.1 2
  have q2_2 : w1.frozen? ⟨w.heap.size + 1 + 1, 2, none⟩ = false := K2.out.at.2 2
  have p2_3 : w1.cell? ⟨w.heap.size + 1 + 1, 3, none⟩ = some (.slice none 0 0) := K2.out.at.1 3
  have q2_3 : w1.frozen? ⟨w.heap.size + 1 + 1, 3, none⟩ = false := K2.out.at.2 3
  have z2 : w.heap.size + 1 + 1 < w1.heap.size := K2.out.lt
  go_wp2_with fail
  refine (rfright_ok (q := r) (H2.out.keep (by go_grown)) (HY.out.mono (by omega))).mono ?_
  rintro e w2 ⟨rfl, hb⟩
  clear p0_0 q0_0 p0_1 q0_1 p0_2 q0_2 p0_3 q0_3 z0 p1_0 q1_0 p1_1 q1_1 p1_2 q1_2 p1_3 q1_3 z1 p2_0 q2_0 p2_1 q2_1 p2_2 q2_2 p2_3 q2_3 z2
  have hb' := below_call (w1 := w1) (by go_grown) hb
  replace K0 := Lib.hid (K0.out.keep hb')
  replace K1 := Lib.hid (K1.out.keep hb')
  replace K2 := Lib.hid (K2.out.keep hb')
  replace HB := Lib.hid (below_call HB.out hb')
  replace H1 := Lib.hid (H1.out.keep hb')
  replace H2 := Lib.hid (H2.out.keep hb')
  clear hb hb'
  have p0_0 : w2.cell? ⟨w.heap.size, 0, none⟩ = some (.int .i64 (sg (nu q))) := K0.out.at.1 0
  have q0_0 : w2.frozen? ⟨w.heap.size, 0, none⟩ = false := K0.out.at.2 0
  have p0_1 : w2.cell? ⟨w.heap.size, 1, none⟩ = some (.slice a1 (ln (nu q)) c1) := K0.out.at.1 1
  have q0_1 : w2.frozen? ⟨w.heap.size, 1, none⟩ = false := K0.out.at.2 1
  have p0_2 : w2.cell? ⟨w.heap.size, 2, none⟩ = some (.int .i64 (sg (de q))) := K0.out.at.1 2
  have q0_2 : w2.frozen? ⟨w.heap.size, 2, none⟩ = false := K0.out.at.2 2
  have p0_3 : w2.cell? ⟨w.heap.size, 3, none⟩ = some (.slice b1 (ln (de q)) d1) := K0.out.at.1 3
  have q0_3 : w2.frozen? ⟨w.heap.size, 3, none⟩ = false := K0.out.at.2 3
  have z0 : w.heap.size < w2.heap.size := K0.out.lt
  have p1_0 : w2.cell? ⟨w.heap.size + 1, 0, none⟩ = some (.int .i64 (sg (nu r))) := K1.out.at.1 0
  have q1_0 : w2.frozen? ⟨w.heap.size + 1, 0, none⟩ = false := K1.out.at.2 0
  have p1_1 : w2.cell? ⟨w.heap.size + 1, 1, none⟩ = some (.slice a2 (ln (nu r)) c2) := K1.out.at.1 1
  have q1_1 : w2.frozen? ⟨w.heap.size + 1, 1, none⟩ = false := K1.out.at.2 1
  have p1_2 : w2.cell? ⟨w.heap.size + 1, 2, none⟩ = some (.int .i64 (sg (de r))) := K1.out.at.1 2
  have q1_2 : w2.frozen? ⟨w.heap.size + 1, 2, none⟩ = false := K1.out.at.2 2
  have p1_3 : w2.cell? ⟨w.heap.size + 1, 3, none⟩ = some (.slice b2 (ln (de r)) d2) := K1.out.at.1 3
  have q1_3 : w2.frozen? ⟨w.heap.size + 1, 3, none⟩ = false := K1.out.at.2 3
  have z1 : w.heap.size + 1 < w2.heap.size := K1.out.lt
  have p2_0 : w2.cell? ⟨w.heap.size + 1 + 1, 0, none⟩ = some (.int .i64 0) := K2.out.at.1 0
  have q2_0 : w2.frozen? ⟨w.heap.size + 1 + 1, 0, none⟩ = false := K2.out.at.2 0
  have p2_1 : w2.cell? ⟨w.heap.size + 1 + 1, 1, none⟩ = some (.slice none 0 0) := K2.out.at.1 1
  have q2_1 : w2.frozen? ⟨w.heap.size + 1 + 1, 1, none⟩ = false := K2.out.at.2 1
  have p2_2 : w2.cell? ⟨w.heap.size + 1 + 1, 2, none⟩ = some (.int .i64 0) := K2.out.at.1 2
  have q2_2 : w2.frozen? ⟨w.heap.size + 1 + 1, 2, none⟩ = false := K2.out.at.2 2
  have p2_3 : w2.cell? ⟨w.heap.size + 1 + 1, 3, none⟩ = some (.slice none 0 0) := K2.out.at.1 3
  have q2_3 : w2.frozen? ⟨w.heap.size + 1 + 1, 3, none⟩ = false := K2.out.at.2 3
  have z2 : w.heap.size + 1 + 1 < w2.heap.size := K2.out.lt
  go_wp2_with fail
  refine (rmul_ok (x := nu q) (y := de r) (H1.out.keep (by go_grown)).n (H2.out.keep (by go_grown)).d (HX.out.1.mono (by omega)) (HY.out.2.mono (by omega))).mono ?_
  rintro e w3 ⟨a3, c3, rfl, hd3, hb⟩
  clear p0_0 q0_0 p0_1 q0_1 p0_2 q0_2 p0_3 q0_3 z0 p1_0 q1_0 p1_1 q1_1 p1_2 q1_2 p1_3 q1_3 z1 p2_0 q2_0 p2_1 q2_1 p2_2 q2_2 p2_3 q2_3 z2
  have hb' := below_call (w1 := w2) (by go_grown) hb
  replace K0 := Lib.hid (K0.out.keep hb')
  replace K1 := Lib.hid (K1.out.keep hb')
  replace K2 := Lib.hid (K2.out.keep hb')
  replace HB := Lib.hid (below_call HB.out hb')
  replace H1 := Lib.hid (H1.out.keep hb')
  replace H2 := Lib.hid (H2.out.keep hb')
  clear hb hb'
  have Hd3 := Lib.hid hd3; clear hd3
  have p0_0 : w3.cell? ⟨w.heap.size, 0, none⟩ = some (.int .i64 (sg (nu q))) := K0.out.at.1 0
  have q0_0 : w3.frozen? ⟨w.heap.size, 0, none⟩ = false := K0.out.at.2 0
  have p0_1 : w3.cell? ⟨w.heap.size, 1, none⟩ = some (.slice a1 (ln (nu q)) c1) := K0.out.at.1 1
  have q0_1 : w3.frozen? ⟨w.heap.size, 1, none⟩ = false := K0.out.at.2 1
  have p0_2 : w3.cell? ⟨w.heap.size, 2, none⟩ = some (.int .i64 (sg (de q))) := K0.out.at.1 2
  have q0_2 : w3.frozen? ⟨w.heap.size, 2, none⟩ = false := K0.out.at.2 2
  have p0_3 : w3.cell? ⟨w.heap.size, 3, none⟩ = some (.slice b1 (ln (de q)) d1) := K0.out.at.1 3
  have q0_3 : w3.frozen? ⟨w.heap.size, 3, none⟩ = false := K0.out.at.2 3
  have z0 : w.heap.size < w3.heap.size := K0.out.lt
  have p1_0 : w3.cell? ⟨w.heap.size + 1, 0, none⟩ = some (.int .i64 (sg (nu r))) := K1.out.at.1 0
  have q1_0 : w3.frozen? ⟨w.heap.size + 1, 0, none⟩ = false := K1.out.at.2 0
  have p1_1 : w3.cell? ⟨w.heap.size + 1, 1, none⟩ = some (.slice a2 (ln (nu r)) c2) := K1.out.at.1 1
  have q1_1 : w3.frozen? ⟨w.heap.size + 1, 1, none⟩ = false := K1.out.at.2 1
  have p1_2 : w3.cell? ⟨w.heap.size + 1, 2, none⟩ = some (.int .i64 (sg (de r))) := K1.out.at.1 2
  have q1_2 : w3.frozen? ⟨w.heap.size + 1, 2, none⟩ = false := K1.out.at.2 2
  have p1_3 : w3.cell? ⟨w.heap.size + 1, 3, none⟩ = some (.slice b2 (ln (de r)) d2) := K1.out.at.1 3
  have q1_3 : w3.frozen? ⟨w.heap.size + 1, 3, none⟩ = false := K1.out.at.2 3
  have z1 : w.heap.size + 1 < w3.heap.size := K1.out.lt
  have p2_0 : w3.cell? ⟨w.heap.size + 1 + 1, 0, none⟩ = some (.int .i64 0) := K2.out.at.1 0
  have q2_0 : w3.frozen? ⟨w.heap.size + 1 + 1, 0, none⟩ = false := K2.out.at.2 0
  have p2_1 : w3.cell? ⟨w.heap.size + 1 + 1, 1, none⟩ = some (.slice none 0 0) := K2.out.at.1 1
  have q2_1 : w3.frozen? ⟨w.heap.size + 1 + 1, 1, none⟩ = false := K2.out.at.2 1
  have p2_2 : w3.cell? ⟨w.heap.size + 1 + 1, 2, none⟩ = some (.int .i64 0) := K2.out.at.1 2
  have q2_2 : w3.frozen? ⟨w.heap.size + 1 + 1, 2, none⟩ = false := K2.out.at.2 2
  have p2_3 : w3.cell? ⟨w.heap.size + 1 + 1, 3, none⟩ = some (.slice none 0 0) := K2.out.at.1 3
  have q2_3 : w3.frozen? ⟨w.heap.size + 1 + 1, 3, none⟩ = false := K2.out.at.2 3
  have z2 : w.heap.size + 1 + 1 < w3.heap.size := K2.out.lt
  go_wp2_with fail
  refine (rmul_ok (x := nu r) (y := de q) (H2.out.keep (by go_grown)).n (H1.out.keep (by go_grown)).d (HY.out.1.mono (by omega)) (HX.out.2.mono (by omega))).mono ?_
  rintro e w4 ⟨a4, c4, rfl, hd4, hb⟩
  clear p0_0 q0_0 p0_1 q0_1 p0_2 q0_2 p0_3 q0_3 z0 p1_0 q1_0 p1_1 q1_1 p1_2 q1_2 p1_3 q1_3 z1 p2_0 q2_0 p2_1 q2_1 p2_2 q2_2 p2_3 q2_3 z2
  have hb' := below_call (w1 := w3) (by go_grown) hb
  replace K0 := Lib.hid (K0.out.keep hb')
  replace K1 := Lib.hid (K1.out.keep hb')
  replace K2 := Lib.hid (K2.out.keep hb')
  replace HB := Lib.hid (below_call HB.out hb')
  have K3 := Lib.hid ((Bx.new w3 32 #[.int .i64 (sg (nu q * de r)), .slice a3 (ln (nu q * de r)) c3]).keep hb)
  replace H1 := Lib.hid (H1.out.keep hb')
  replace H2 := Lib.hid (H2.out.keep hb')
  replace Hd3 := Lib.hid (Hd3.out.keep hb')
  clear hb hb'
  have Hd4 := Lib.hid hd4; clear hd4
  have p0_0 : w4.cell? ⟨w.heap.size, 0, none⟩ = some (.int .i64 (sg (nu q))) := K0.out.at.1 0
  have q0_0 : w4.frozen? ⟨w.heap.size, 0, none⟩ = false := K0.out.at.2 0
  have p0_1 : w4.cell? ⟨w.heap.size, 1, none⟩ = some (.slice a1 (ln (nu q)) c1) := K0.out.at.1 1
  have q0_1 : w4.frozen? ⟨w.heap.size, 1, none⟩ = false := K0.out.at.2 1
  have p0_2 : w4.cell? ⟨w.heap.size, 2, none⟩ = some (.int .i64 (sg (de q))) := K0.out.at.1 2
  have q0_2 : w4.frozen? ⟨w.heap.size, 2, none⟩ = false := K0.out.at.2 2
  have p0_3 : w4.cell? ⟨w.heap.size, 3, none⟩ = some (.slice b1 (ln (de q)) d1) := K0.out.at.1 3
  have q0_3 : w4.frozen? ⟨w.heap.size, 3, none⟩ = false := K0.out.at.2 3
  have z0 : w.heap.size < w4.heap.size := K0.out.lt
  have p1_0 : w4.cell? ⟨w.heap.size + 1, 0, none⟩ = some (.int .i64 (sg (nu r))) := K1.out.at.1 0
  have q1_0 : w4.frozen? ⟨w.heap.size + 1, 0, none⟩ = false := K1.out.at.2 0
  have p1_1 : w4.cell? ⟨w.heap.size + 1, 1, none⟩ = some (.slice a2 (ln (nu r)) c2) := K1.out.at.1 1
  have q1_1 : w4.frozen? ⟨w.heap.size + 1, 1, none⟩ = false := K1.out.at.2 1
  have p1_2 : w4.cell? ⟨w.heap.size + 1, 2, none⟩ = some (.int .i64 (sg (de r))) := K1.out.at.1 2
  have q1_2 : w4.frozen? ⟨w.heap.size + 1, 2, none⟩ = false := K1.out.at.2 2
  have p1_3 : w4.cell? ⟨w.heap.size + 1, 3, none⟩ = some (.slice b2 (ln (de r)) d2) := K1.out.at.1 3
  have q1_3 : w4.frozen? ⟨w.heap.size + 1, 3, none⟩ = false := K1.out.at.2 3
  have z1 : w.heap.size + 1 < w4.heap.size := K1.out.lt
  have p2_0 : w4.cell? ⟨w.heap.size + 1 + 1, 0, none⟩ = some (.int .i64 0) := K2.out.at.1 0
  have q2_0 : w4.frozen? ⟨w.heap.size + 1 + 1, 0, none⟩ = false := K2.out.at.2 0
  have p2_1 : w4.cell? ⟨w.heap.size + 1 + 1, 1, none⟩ = some (.slice none 0 0) := K2.out.at.1 1
  have q2_1 : w4.frozen? ⟨w.heap.size + 1 + 1, 1, none⟩ = false := K2.out.at.2 1
  have p2_2 : w4.cell? ⟨w.heap.size + 1 + 1, 2, none⟩ = some (.int .i64 0) := K2.out.at.1 2
  have q2_2 : w4.frozen? ⟨w.heap.size + 1 + 1, 2, none⟩ = false := K2.out.at.2 2
  have p2_3 : w4.cell? ⟨w.heap.size + 1 + 1, 3, none⟩ = some (.slice none 0 0) := K2.out.at.1 3
  have q2_3 : w4.frozen? ⟨w.heap.size + 1 + 1, 3, none⟩ = false := K2.out.at.2 3
  have z2 : w.heap.size + 1 + 1 < w4.heap.size := K2.out.lt
  have p3_0 : w4.cell? ⟨w3.heap.size, 0, none⟩ = some (.int .i64 (sg (nu q * de r))) := K3.out.at.1 0
  have q3_0 : w4.frozen? ⟨w3.heap.size, 0, none⟩ = false := K3.out.at.2 0
  have p3_1 : w4.cell? ⟨w3.heap.size, 1, none⟩ = some (.slice a3 (ln (nu q * de r)) c3) := K3.out.at.1 1
  have q3_1 : w4.frozen? ⟨w3.heap.size, 1, none⟩ = false := K3.out.at.2 1
  have z3 : w3.heap.size < w4.heap.size := K3.out.lt
  go_wp2_with fail
  refine (rmul_ok (x := de q) (y := de r) (H1.out.keep (by go_grown)).d (H2.out.keep (by go_grown)).d (HX.out.2.mono (by omega)) (HY.out.2.mono (by omega))).mono ?_
  rintro e w5 ⟨a5, c5, rfl, hd5, hb⟩
  clear p0_0 q0_0 p0_1 q0_1 p0_2 q0_2 p0_3 q0_3 z0 p1_0 q1_0 p1_1 q1_1 p1_2 q1_2 p1_3 q1_3 z1 p2_0 q2_0 p2_1 q2_1 p2_2 q2_2 p2_3 q2_3 z2 p3_0 q3_0 p3_1 q3_1 z3
  have hb' := below_call (w1 := w4) (by go_grown) hb
  replace K0 := Lib.hid (K0.out.keep hb')
  replace K1 := Lib.hid (K1.out.keep hb')
  replace K2 := Lib.hid (K2.out.keep hb')
  replace K3 := Lib.hid (K3.out.keep hb')
  replace HB := Lib.hid (below_call HB.out hb')
  have K4 := Lib.hid ((Bx.new w4 32 #[.int .i64 (sg (nu r * de q)), .slice a4 (ln (nu r * de q)) c4]).keep hb)
  replace H1 := Lib.hid (H1.out.keep hb')
  replace H2 := Lib.hid (H2.out.keep hb')
  replace Hd3 := Lib.hid (Hd3.out.keep hb')
  replace Hd4 := Lib.hid (Hd4.out.keep hb')
  clear hb hb'
  have Hd5 := Lib.hid hd5; clear hd5
  have p0_0 : w5.cell? ⟨w.heap.size, 0, none⟩ = some (.int .i64 (sg (nu q))) := K0.out.at.1 0
  have q0_0 : w5.frozen? ⟨w.heap.size, 0, none⟩ = false := K0.out.at.2 0
  have p0_1 : w5.cell? ⟨w.heap.size, 1, none⟩ = some (.slice a1 (ln (nu q)) c1) := K0.out.at.1 1
  have q0_1 : w5.frozen? ⟨w.heap.size, 1, none⟩ = false := K0.out.at.2 1
  have p0_2 : w5.cell? ⟨w.heap.size, 2, none⟩ = some (.int .i64 (sg (de q))) := K0.out.at.1 2
  have q0_2 : w5.frozen? ⟨w.heap.size, 2, none⟩ = false := K0.out.at.2 2
  have p0_3 : w5.cell? ⟨w.heap.size, 3, none⟩ = some (.slice b1 (ln (de q)) d1) := K0.out.at.1 3
  have q0_3 : w5.frozen? ⟨w.heap.size, 3, none⟩ = false := K0.out.at.2 3
  have z0 : w.heap.size < w5.heap.size := K0.out.lt
  have p1_0 : w5.cell? ⟨w.heap.size + 1, 0, none⟩ = some (.int .i64 (sg (nu r))) := K1.out.at.1 0
  have q1_0 : w5.frozen? ⟨w.heap.size + 1, 0, none⟩ = false := K1.out.at.2 0
  have p1_1 : w5.cell? ⟨w.heap.size + 1, 1, none⟩ = some (.slice a2 (ln (nu r)) c2) := K1.out.at.1 1
  have q1_1 : w5.frozen? ⟨w.heap.size + 1, 1, none⟩ = false := K1.out.at.2 1
  have p1_2 : w5.cell? ⟨w.heap.size + 1, 2, none⟩ = some (.int .i64 (sg (de r))) := K1.out.at.1 2
  have q1_2 : w5.frozen? ⟨w.heap.size + 1, 2, none⟩ = false := K1.out.at.2 2
  have p1_3 : w5.cell? ⟨w.heap.size + 1, 3, none⟩ = some (.slice b2 (ln (de r)) d2) := K1.out.at.1 3
  have q1_3 : w5.frozen? ⟨w.heap.size + 1, 3, none⟩ = false := K1.out.at.2 3
  have z1 : w.heap.size + 1 < w5.heap.size := K1.out.lt
  have p2_0 : w5.cell? ⟨w.heap.size + 1 + 1, 0, none⟩ = some (.int .i64 0) := K2.out.at.1 0
  have q2_0 : w5.frozen? ⟨w.heap.size + 1 + 1, 0, none⟩ = false := K2.out.at.2 0
  have p2_1 : w5.cell? ⟨w.heap.size + 1 + 1, 1, none⟩ = some (.slice none 0 0) := K2.out.at.1 1
  have q2_1 : w5.frozen? ⟨w.heap.size + 1 + 1, 1, none⟩ = false := K2.out.at.2 1
  have p2_2 : w5.cell? ⟨w.heap.size + 1 + 1, 2, none⟩ = some (.int .i64 0) := K2.out.at.1 2
  have q2_2 : w5.frozen? ⟨w.heap.size + 1 + 1, 2, none⟩ = false := K2.out.at.2 2
  have p2_3 : w5.cell? ⟨w.heap.size + 1 + 1, 3, none⟩ = some (.slice none 0 0) := K2.out.at.1 3
  have q2_3 : w5.frozen? ⟨w.heap.size + 1 + 1, 3, none⟩ = false := K2.out.at.2 3
  have z2 : w.heap.size + 1 + 1 < w5.heap.size := K2.out.lt
  have p3_0 : w5.cell? ⟨w3.heap.size, 0, none⟩ = some (.int .i64 (sg (nu q * de r))) := K3.out.at.1 0
  have q3_0 : w5.frozen? ⟨w3.heap.size, 0, none⟩ = false := K3.out.at.2 0
  have p3_1 : w5.cell? ⟨w3.heap.size, 1, none⟩ = some (.slice a3 (ln (nu q * de r)) c3) := K3.out.at.1 1
  have q3_1 : w5.frozen? ⟨w3.heap.size, 1, none⟩ = false := K3.out.at.2 1
  have z3 : w3.heap.size < w5.heap.size := K3.out.lt
  have p4_0 : w5.cell? ⟨w4.heap.size, 0, none⟩ = some (.int .i64 (sg (nu r * de q))) := K4.out.at.1 0
  have q4_0 : w5.frozen? ⟨w4.heap.size, 0, none⟩ = false := K4.out.at.2 0
  have p4_1 : w5.cell? ⟨w4.heap.size, 1, none⟩ = some (.slice a4 (ln (nu r * de q)) c4) := K4.out.at.1 1
  have q4_1 : w5.frozen? ⟨w4.heap.size, 1, none⟩ = false := K4.out.at.2 1
  have z4 : w4.heap.size < w5.heap.size := K4.out.lt
  go_wp2_with fail
  refine (rsub_ok (Hd3.out.keep (by go_grown)) (Hd4.out.keep (by go_grown)) ((HX.out.1.mul HY.out.2).mono (by omega)) ((HY.out.1.mul HX.out.2).mono (by omega))).mono ?_
  rintro e w6 ⟨a6, c6, rfl, hd6, hb⟩
  clear p0_0 q0_0 p0_1 q0_1 p0_2 q0_2 p0_3 q0_3 z0 p1_0 q1_0 p1_1 q1_1 p1_2 q1_2 p1_3 q1_3 z1 p2_0 q2_0 p2_1 q2_1 p2_2 q2_2 p2_3 q2_3 z2 p3_0 q3_0 p3_1 q3_1 z3 p4_0 q4_0 p4_1 q4_1 z4
  have hb' := below_call (w1 := w5) (by go_grown) hb
  replace K0 := Lib.hid (K0.out.keep hb')
  replace K1 := Lib.hid (K1.out.keep hb')
  replace K2 := Lib.hid (K2.out.keep hb')
  replace K3 := Lib.hid (K3.out.keep hb')
  replace K4 := Lib.hid (K4.out.keep hb')
  replace HB := Lib.hid (below_call HB.out hb')
  have K5 := Lib.hid ((Bx.new w5 32 #[.int .i64 (sg (de q * de r)), .slice a5 (ln (de q * de r)) c5]).keep hb)
  replace H1 := Lib.hid (H1.out.keep hb')
  replace H2 := Lib.hid (H2.out.keep hb')
  replace Hd3 := Lib.hid (Hd3.out.keep hb')
  replace Hd4 := Lib.hid (Hd4.out.keep hb')
  replace Hd5 := Lib.hid (Hd5.out.keep hb')
  clear hb hb'
  have Hd6 := Lib.hid hd6; clear hd6
  have p0_0 : w6.cell? ⟨w.heap.size, 0, none⟩ = some (.int .i64 (sg (nu q))) := K0.out.at.1 0
  have q0_0 : w6.frozen? ⟨w.heap.size, 0, none⟩ = false := K0.out.at.2 0
  have p0_1 : w6.cell? ⟨w.heap.size, 1, none⟩ = some (.slice a1 (ln (nu q)) c1) := K0.out.at.1 1
  have q0_1 : w6.frozen? ⟨w.heap.size, 1, none⟩ = false := K0.out.at.2 1
  have p0_2 : w6.cell? ⟨w.heap.size, 2, none⟩ = some (.int .i64 (sg (de q))) := K0.out.at.1 2
  have q0_2 : w6.frozen? ⟨w.heap.size, 2, none⟩ = false := K0.out.at.2 2
  have p0_3 : w6.cell? ⟨w.heap.size, 3, none⟩ = some (.slice b1 (ln (de q)) d1) := K0.out.at.1 3
  have q0_3 : w6.frozen? ⟨w.heap.size, 3, none⟩ = false := K0.out.at.2 3
  have z0 : w.heap.size < w6.heap.size := K0.out.lt
  have p1_0 : w6.cell? ⟨w.heap.size + 1, 0, none⟩ = some (.int .i64 (sg (nu r))) := K1.out.at.1 0
  have q1_0 : w6.frozen? ⟨w.heap.size + 1, 0, none⟩ = false := K1.out.at.2 0
  have p1_1 : w6.cell? ⟨w.heap.size + 1, 1, none⟩ = some (.slice a2 (ln (nu r)) c2) := K1.out.at.1 1
  have q1_1 : w6.frozen? ⟨w.heap.size + 1, 1, none⟩ = false := K1.out.at.2 1
  have p1_2 : w6.cell? ⟨w.heap.size + 1, 2, none⟩ = some (.int .i64 (sg (de r))) := K1.out.at.1 2
  have q1_2 : w6.frozen? ⟨w.heap.size + 1, 2, none⟩ = false := K1.out.at.2 2
  have p1_3 : w6.cell? ⟨w.heap.size + 1, 3, none⟩ = some (.slice b2 (ln (de r)) d2) := K1.out.at.1 3
  have q1_3 : w6.frozen? ⟨w.heap.size + 1, 3, none⟩ = false := K1.out.at.2 3
  have z1 : w.heap.size + 1 < w6.heap.size := K1.out.lt
  have p2_0 : w6.cell? ⟨w.heap.size + 1 + 1, 0, none⟩ = some (.int .i64 0) := K2.out.at.1 0
  have q2_0 : w6.frozen? ⟨w.heap.size + 1 + 1, 0, none⟩ = false := K2.out.at.2 0
  have p2_1 : w6.cell? ⟨w.heap.size + 1 + 1, 1, none⟩ = some (.slice none 0 0) := K2.out.at.1 1
  have q2_1 : w6.frozen? ⟨w.heap.size + 1 + 1, 1, none⟩ = false := K2.out.at.2 1
  have p2_2 : w6.cell? ⟨w.heap.size + 1 + 1, 2, none⟩ = some (.int .i64 0) := K2.out.at.1 2
  have q2_2 : w6.frozen? ⟨w.heap.size + 1 + 1, 2, none⟩ = false := K2.out.at.2 2
  have p2_3 : w6.cell? ⟨w.heap.size + 1 + 1, 3, none⟩ = some (.slice none 0 0) := K2.out.at.1 3
  have q2_3 : w6.frozen? ⟨w.heap.size + 1 + 1, 3, none⟩ = false := K2.out.at.2 3
  have z2 : w.heap.size + 1 + 1 < w6.heap.size := K2.out.lt
  have p3_0 : w6.cell? ⟨w3.heap.size, 0, none⟩ = some (.int .i64 (sg (nu q * de r))) := K3.out.at.1 0
  have q3_0 : w6.frozen? ⟨w3.heap.size, 0, none⟩ = false := K3.out.at.2 0
  have p3_1 : w6.cell? ⟨w3.heap.size, 1, none⟩ = some (.slice a3 (ln (nu q * de r)) c3) := K3.out.at.1 1
  have q3_1 : w6.frozen? ⟨w3.heap.size, 1, none⟩ = false := K3.out.at.2 1
  have z3 : w3.heap.size < w6.heap.size := K3.out.lt
  have p4_0 : w6.cell? ⟨w4.heap.size, 0, none⟩ = some (.int .i64 (sg (nu r * de q))) := K4.out.at.1 0
  have q4_0 : w6.frozen? ⟨w4.heap.size, 0, none⟩ = false := K4.out.at.2 0
  have p4_1 : w6.cell? ⟨w4.heap.size, 1, none⟩ = some (.slice a4 (ln (nu r * de q)) c4) := K4.out.at.1 1
  have q4_1 : w6.frozen? ⟨w4.heap.size, 1, none⟩ = false := K4.out.at.2 1
  have z4 : w4.heap.size < w6.heap.size := K4.out.lt
  have p5_0 : w6.cell? ⟨w5.heap.size, 0, none⟩ = some (.int .i64 (sg (de q * de r))) := K5.out.at.1 0
  have q5_0 : w6.frozen? ⟨w5.heap.size, 0, none⟩ = false := K5.out.at.2 0
  have p5_1 : w6.cell? ⟨w5.heap.size, 1, none⟩ = some (.slice a5 (ln (de q * de r)) c5) := K5.out.at.1 1
  have q5_1 : w6.frozen? ⟨w5.heap.size, 1, none⟩ = false := K5.out.at.2 1
  have z5 : w5.heap.size < w6.heap.size := K5.out.lt
  go_wp2_with fail
  refine (rnew_pos (Hd6.out.keep (by go_grown)) (Hd5.out.keep (by go_grown)) (((HX.out.1.mul HY.out.2).sub ((HY.out.1.mul HX.out.2).mono (by omega))).mono (by omega)) ((HX.out.2.mul HY.out.2).mono (by omega)) (Int.mul_pos (de_pos q) (de_pos r))).mono ?_
  rintro e w7 ⟨a8, c8, b8, d8, rfl, hf8, hb⟩
  clear p0_0 q0_0 p0_1 q0_1 p0_2 q0_2 p0_3 q0_3 z0 p1_0 q1_0 p1_1 q1_1 p1_2 q1_2 p1_3 q1_3 z1 p2_0 q2_0 p2_1 q2_1 p2_2 q2_2 p2_3 q2_3 z2 p3_0 q3_0 p3_1 q3_1 z3 p4_0 q4_0 p4_1 q4_1 z4 p5_0 q5_0 p5_1 q5_1 z5
  have hb' := below_call (w1 := w6) (by go_grown) hb
  replace K0 := Lib.hid (K0.out.keep hb')
  replace K1 := Lib.hid (K1.out.keep hb')
  replace K2 := Lib.hid (K2.out.keep hb')
  replace K3 := Lib.hid (K3.out.keep hb')
  replace K4 := Lib.hid (K4.out.keep hb')
  replace K5 := Lib.hid (K5.out.keep hb')
  replace HB := Lib.hid (below_call HB.out hb')
  have K6 := Lib.hid ((Bx.new w6 32 #[.int .i64 (sg (nu q * de r - nu r * de q)), .slice a6 (ln (nu q * de r - nu r * de q)) c6]).keep hb)
  replace H1 := Lib.hid (H1.out.keep hb')
  replace H2 := Lib.hid (H2.out.keep hb')
  replace Hd3 := Lib.hid (Hd3.out.keep hb')
  replace Hd4 := Lib.hid (Hd4.out.keep hb')
  replace Hd5 := Lib.hid (Hd5.out.keep hb')
  replace Hd6 := Lib.hid (Hd6.out.keep hb')
  clear hb hb'
  have Hf8 := Lib.hid hf8; clear hf8
  have p0_0 : w7.cell? ⟨w.heap.size, 0, none⟩ = some (.int .i64 (sg (nu q))) := K0.out.at.1 0
  have q0_0 : w7.frozen? ⟨w.heap.size, 0, none⟩ = false := K0.out.at.2 0
  have p0_1 : w7.cell? ⟨w.heap.size, 1, none⟩ = some (.slice a1 (ln (nu q)) c1) := K0.out.at.1 1
  have q0_1 : w7.frozen? ⟨w.heap.size, 1, none⟩ = false := K0.out.at.2 1
  have p0_2 : w7.cell? ⟨w.heap.size, 2, none⟩ = some (.int .i64 (sg (de q))) := K0.out.at.1 2
  have q0_2 : w7.frozen? ⟨w.heap.size, 2, none⟩ = false := K0.out.at.2 2
  have p0_3 : w7.cell? ⟨w.heap.size, 3, none⟩ = some (.slice b1 (ln (de q)) d1) := K0.out.at.1 3
  have q0_3 : w7.frozen? ⟨w.heap.size, 3, none⟩ = false := K0.out.at.2 3
  have z0 : w.heap.size < w7.heap.size := K0.out.lt
  have p1_0 : w7.cell? ⟨w.heap.size + 1, 0, none⟩ = some (.int .i64 (sg (nu r))) := K1.out.at.1 0
  have q1_0 : w7.frozen? ⟨w.heap.size + 1, 0, none⟩ = false := K1.out.at.2 0
  have p1_1 : w7.cell? ⟨w.heap.size + 1, 1, none⟩ = some (.slice a2 (ln (nu r)) c2) := K1.out.at.1 1
  have q1_1 : w7.frozen? ⟨w.heap.size + 1, 1, none⟩ = false := K1.out.at.2 1
  have p1_2 : w7.cell? ⟨w.heap.size + 1, 2, none⟩ = some (.int .i64 (sg (de r))) := K1.out.at.1 2
  have q1_2 : w7.frozen? ⟨w.heap.size + 1, 2, none⟩ = false := K1.out.at.2 2
  have p1_3 : w7.cell? ⟨w.heap.size + 1, 3, none⟩ = some (.slice b2 (ln (de r)) d2) := K1.out.at.1 3
  have q1_3 : w7.frozen? ⟨w.heap.size + 1, 3, none⟩ = false := K1.out.at.2 3
  have z1 : w.heap.size + 1 < w7.heap.size := K1.out.lt
  have p2_0 : w7.cell? ⟨w.heap.size + 1 + 1, 0, none⟩ = some (.int .i64 0) := K2.out.at.1 0
  have q2_0 : w7.frozen? ⟨w.heap.size + 1 + 1, 0, none⟩ = false := K2.out.at.2 0
  have p2_1 : w7.cell? ⟨w.heap.size + 1 + 1, 1, none⟩ = some (.slice none 0 0) := K2.out.at.1 1
  have q2_1 : w7.frozen? ⟨w.heap.size + 1 + 1, 1, none⟩ = false := K2.out.at.2 1
  have p2_2 : w7.cell? ⟨w.heap.size + 1 + 1, 2, none⟩ = some (.int .i64 0) := K2.out.at.1 2
  have q2_2 : w7.frozen? ⟨w.heap.size + 1 + 1, 2, none⟩ = false := K2.out.at.2 2
  have p2_3 : w7.cell? ⟨w.heap.size + 1 + 1, 3, none⟩ = some (.slice none 0 0) := K2.out.at.1 3
  have q2_3 : w7.frozen? ⟨w.heap.size + 1 + 1, 3, none⟩ = false := K2.out.at.2 3
  have z2 : w.heap.size + 1 + 1 < w7.heap.size := K2.out.lt
  have p3_0 : w7.cell? ⟨w3.heap.size, 0, none⟩ = some (.int .i64 (sg (nu q * de r))) := K3.out.at.1 0
  have q3_0 : w7.frozen? ⟨w3.heap.size, 0, none⟩ = false := K3.out.at.2 0
  have p3_1 : w7.cell? ⟨w3.heap.size, 1, none⟩ = some (.slice a3 (ln (nu q * de r)) c3) := K3.out.at.1 1
  have q3_1 : w7.frozen? ⟨w3.heap.size, 1, none⟩ = false := K3.out.at.2 1
  have z3 : w3.heap.size < w7.heap.size := K3.out.lt
  have p4_0 : w7.cell? ⟨w4.heap.size, 0, none⟩ = some (.int .i64 (sg (nu r * de q))) := K4.out.at.1 0
  have q4_0 : w7.frozen? ⟨w4.heap.size, 0, none⟩ = false := K4.out.at.2 0
  have p4_1 : w7.cell? ⟨w4.heap.size, 1, none⟩ = some (.slice a4 (ln (nu r * de q)) c4) := K4.out.at.1 1
  have q4_1 : w7.frozen? ⟨w4.heap.size, 1, none⟩ = false := K4.out.at.2 1
  have z4 : w4.heap.size < w7.heap.size := K4.out.lt
  have p5_0 : w7.cell? ⟨w5.heap.size, 0, none⟩ = some (.int .i64 (sg (de q * de r))) := K5.out.at.1 0
  have q5_0 : w7.frozen? ⟨w5.heap.size, 0, none⟩ = false := K5.out.at.2 0
  have p5_1 : w7.cell? ⟨w5.heap.size, 1, none⟩ = some (.slice a5 (ln (de q * de r)) c5) := K5.out.at.1 1
  have q5_1 : w7.frozen? ⟨w5.heap.size, 1, none⟩ = false := K5.out.at.2 1
  have z5 : w5.heap.size < w7.heap.size := K5.out.lt
  have p6_0 : w7.cell? ⟨w6.heap.size, 0, none⟩ = some (.int .i64 (sg (nu q * de r - nu r * de q))) := K6.out.at.1 0
  have q6_0 : w7.frozen? ⟨w6.heap.size, 0, none⟩ = false := K6.out.at.2 0
  have p6_1 : w7.cell? ⟨w6.heap.size, 1, none⟩ = some (.slice a6 (ln (nu q * de r - nu r * de q)) c6) := K6.out.at.1 1
  have q6_1 : w7.frozen? ⟨w6.heap.size, 1, none⟩ = false := K6.out.at.2 1
  have z6 : w6.heap.size < w7.heap.size := K6.out.lt
  rw [HQR.out]
  go_wp2_with fail
  rw [HQR.out] at Hf8
  clear p0_0 q0_0 p0_1 q0_1 p0_2 q0_2 p0_3 q0_3 z0 p1_0 q1_0 p1_1 q1_1 p1_2 q1_2 p1_3 q1_3 z1 p2_0 q2_0 p2_1 q2_1 p2_2 q2_2 p2_3 q2_3 z2 p3_0 q3_0 p3_1 q3_1 z3 p4_0 q4_0 p4_1 q4_1 z4 p5_0 q5_0 p5_1 q5_1 z5 p6_0 q6_0 p6_1 q6_1 z6
  refine bodyPost_ret (results_box2 rfl _ _ (w.heap.size + 1 + 1) 34 _ _ _ rfl (K2.out.set4 _ _ _ _) Try.underlying34 rfl (by kernel_rfl)) rfl ?_
  refine ⟨a8, c8, b8, d8, rfl, ?_, ?_⟩
  · exact (Hf8.out.far0 K2.out zb4 (only_setCell (only_setCell (only_setCell (only_setCell (World.grownBy.refl _ _) _) _) _) _))
  · exact (Below.setCell (Below.setCell (Below.setCell (Below.setCell HB.out (by simp; try omega) _) (by simp; try omega) _) (by simp; try omega) _) (by simp; try omega) _)

set_option maxHeartbeats 4000000 in
theorem rfcompare_ok {q r : Rat} {a1 b1 a2 b2 : Option Addr} {c1 d1 c2 d2 : Nat} {w : World} (h1 : FD G w a1 c1 b1 d1 q) (h2 : FD G w a2 c2 b2 d2 r) (hx : Fz q 137438953472) (hy : Fz r 137438953472) :
    Calls Try.prog 23 #[.agg #[.int .i64 (sg (nu q)), .slice a1 (ln (nu q)) c1, .int .i64 (sg (de q)), .slice b1 (ln (de q)) d1], .agg #[.int .i64 (sg (nu r)), .slice a2 (ln (nu r)) c2, .int .i64 (sg (de r)), .slice b2 (ln (de r)) d2]] w fun e w' => e = .returned (.int .i64 (ordQ q r)) ∧ Below w.heap.size w w' := by
  have HX := Lib.hid hx
  have HY := Lib.hid hy
  have H1 := Lib.hid h1
  have H2 := Lib.hid h2
  clear hx hy h1 h2

  go_enter Try.func23, Try.ntmps23
  go_wp2_with fail
  refine (rfright_ok (q := q) (H1.out.keep (by go_grown)) (HX.out.mono (by omega))).mono ?_
  rintro e w1 ⟨rfl, hb⟩
  have hbx := bx2 w 34 34 #[.int .i64 (sg (nu q)), .slice a1 (ln (nu q)) c1, .int .i64 (sg (de q)), .slice b1 (ln (de q)) d1] #[.int .i64 (sg (nu r)), .slice a2 (ln (nu r)) c2, .int .i64 (sg (de r)), .slice b2 (ln (de r)) d2]
  obtain ⟨k0, k1⟩ := hbx
  have K0 := Lib.hid (k0.keep hb)
  have K1 := Lib.hid (k1.keep hb)
  clear k0 k1
  have hb' : Below w.heap.size w w1 := below_call (by go_grown) hb
  have HB := Lib.hid hb'
  replace H1 := Lib.hid (H1.out.keep hb')
  replace H2 := Lib.hid (H2.out.keep hb')
  clear hb hb'
  have p0_0 : w1.cell? ⟨w.heap.size, 0, none⟩ = some (.int .i64 (sg (nu q))) := K0.out.at.1 0
  have q0_0 : w1.frozen? ⟨w.heap.size, 0, none⟩ = false := K0.out.at.2 0
  have p0_1 : w1.cell? ⟨w.heap.size, 1, none⟩ = some (.slice a1 (ln (nu q)) c1) := K0.out.at.1 1
  have q0_1 : w1.frozen? ⟨w.heap.size, 1, none⟩ = false := K0.out.at.2 1
  have p0_2 : w1.cell? ⟨w.heap.size, 2, none⟩ = some (.int .i64 (sg (de q))) := K0.out.at.1 2
  have q0_2 : w1.frozen? ⟨w.heap.size, 2, none⟩ = false := K0.out.at.2 2
  have p0_3 : w1.cell? ⟨w.heap.size, 3, none⟩ = some (.slice b1 (ln (de q)) d1) := K0.out.at.1 3
  have q0_3 : w1.frozen? ⟨w.heap.size, 3, none⟩ = false := K0.out.at.2 3
  have z0 : w.heap.size < w1.heap.size := K0.out.lt
  have p1_0 : w1.cell? ⟨w.heap.size + 1, 0, none⟩ = some (.int .i64 (sg (nu r))) := K1.out.at.1 0
  have q1_0 : w1.frozen? ⟨w.heap.size + 1, 0, none⟩ = false := K1.out.at.2 0
  have p1_1 : w1.cell? ⟨w.heap.size + 1, 1, none⟩ = some (.slice a2 (ln (nu r)) c2) := K1.out.at.1 1
  have q1_1 : w1.frozen? ⟨w.heap.size + 1, 1, none⟩ = false := K1.out.at.2 1
  have p1_2 : w1.cell? ⟨w.heap.size + 1, 2, none⟩ = some (.int .i64 (sg (de r))) := K1.out.at.1 2
  have q1_2 : w1.frozen? ⟨w.heap.size + 1, 2, none⟩ = false := K1.out.at.2 2
  have p1_3 : w1.cell? ⟨w.heap.size + 1, 3, none⟩ = some (.slice b2 (ln (de r)) d2) := K1.out.at.1 3
  have q1_3 : w1.frozen? ⟨w.heap.size + 1, 3, none⟩ = false := K1.out.at.2 3
  have z1 : w.heap.size + 1 < w1.heap.size := K1.out.lt
  go_wp2_with fail
  refine (rfright_ok (q := r) (H2.out.keep (by go_grown)) (HY.out.mono (by omega))).mono ?_
  rintro e w2 ⟨rfl, hb⟩
  clear p0_0 q0_0 p0_1 q0_1 p0_2 q0_2 p0_3 q0_3 z0 p1_0 q1_0 p1_1 q1_1 p1_2 q1_2 p1_3 q1_3 z1
  have hb' := below_call (w1 := w1) (by go_grown) hb
  replace K0 := Lib.hid (K0.out.keep hb')
  replace K1 := Lib.hid (K1.out.keep hb')
  replace HB := Lib.hid (below_call HB.out hb')
  replace H1 := Lib.hid (H1.out.keep hb')
  replace H2 := Lib.hid (H2.out.keep hb')
  clear hb hb'
  have p0_0 : w2.cell? ⟨w.heap.size, 0, none⟩ = some (.int .i64 (sg (nu q))) := K0.out.at.1 0
  have q0_0 : w2.frozen? ⟨w.heap.size, 0, none⟩ = false := K0.out.at.2 0
  have p0_1 : w2.cell? ⟨w.heap.size, 1, none⟩ = some (.slice a1 (ln (nu q)) c1) := K0.out.at.1 1
  have q0_1 : w2.frozen? ⟨w.heap.size, 1, none⟩ = false := K0.out.at.2 1
  have p0_2 : w2.cell? ⟨w.heap.size, 2, none⟩ = some (.int .i64 (sg (de q))) := K0.out.at.1 2
  have q0_2 : w2.frozen? ⟨w.heap.size, 2, none⟩ = false := K0.out.at.2 2
  have p0_3 : w2.cell? ⟨w.heap.size, 3, none⟩ = some (.slice b1 (ln (de q)) d1) := K0.out.at.1 3
  have q0_3 : w2.frozen? ⟨w.heap.size, 3, none⟩ = false := K0.out.at.2 3
  have z0 : w.heap.size < w2.heap.size := K0.out.lt
  have p1_0 : w2.cell? ⟨w.heap.size + 1, 0, none⟩ = some (.int .i64 (sg (nu r))) := K1.out.at.1 0
  have q1_0 : w2.frozen? ⟨w.heap.size + 1, 0, none⟩ = false := K1.out.at.2 0
  have p1_1 : w2.cell? ⟨w.heap.size + 1, 1, none⟩ = some (.slice a2 (ln (nu r)) c2) := K1.out.at.1 1
  have q1_1 : w2.frozen? ⟨w.heap.size + 1, 1, none⟩ = false := K1.out.at.2 1
  have p1_2 : w2.cell? ⟨w.heap.size + 1, 2, none⟩ = some (.int .i64 (sg (de r))) := K1.out.at.1 2
  have q1_2 : w2.frozen? ⟨w.heap.size + 1, 2, none⟩ = false := K1.out.at.2 2
  have p1_3 : w2.cell? ⟨w.heap.size + 1, 3, none⟩ = some (.slice b2 (ln (de r)) d2) := K1.out.at.1 3
  have q1_3 : w2.frozen? ⟨w.heap.size + 1, 3, none⟩ = false := K1.out.at.2 3
  have z1 : w.heap.size + 1 < w2.heap.size := K1.out.lt
  go_wp2_with fail
  refine (rmul_ok (x := nu q) (y := de r) (H1.out.keep (by go_grown)).n (H2.out.keep (by go_grown)).d (HX.out.1.mono (by omega)) (HY.out.2.mono (by omega))).mono ?_
  rintro e w3 ⟨a3, c3, rfl, hd3, hb⟩
  clear p0_0 q0_0 p0_1 q0_1 p0_2 q0_2 p0_3 q0_3 z0 p1_0 q1_0 p1_1 q1_1 p1_2 q1_2 p1_3 q1_3 z1
  have hb' := below_call (w1 := w2) (by go_grown) hb
  replace K0 := Lib.hid (K0.out.keep hb')
  replace K1 := Lib.hid (K1.out.keep hb')
  replace HB := Lib.hid (below_call HB.out hb')
  replace H1 := Lib.hid (H1.out.keep hb')
  replace H2 := Lib.hid (H2.out.keep hb')
  clear hb hb'
  have Hd3 := Lib.hid hd3; clear hd3
  have p0_0 : w3.cell? ⟨w.heap.size, 0, none⟩ = some (.int .i64 (sg (nu q))) := K0.out.at.1 0
  have q0_0 : w3.frozen? ⟨w.heap.size, 0, none⟩ = false := K0.out.at.2 0
  have p0_1 : w3.cell? ⟨w.heap.size, 1, none⟩ = some (.slice a1 (ln (nu q)) c1) := K0.out.at.1 1
  have q0_1 : w3.frozen? ⟨w.heap.size, 1, none⟩ = false := K0.out.at.2 1
  have p0_2 : w3.cell? ⟨w.heap.size, 2, none⟩ = some (.int .i64 (sg (de q))) := K0.out.at.1 2
  have q0_2 : w3.frozen? ⟨w.heap.size, 2, none⟩ = false := K0.out.at.2 2
  have p0_3 : w3.cell? ⟨w.heap.size, 3, none⟩ = some (.slice b1 (ln (de q)) d1) := K0.out.at.1 3
  have q0_3 : w3.frozen? ⟨w.heap.size, 3, none⟩ = false := K0.out.at.2 3
  have z0 : w.heap.size < w3.heap.size := K0.out.lt
  have p1_0 : w3.cell? ⟨w.heap.size + 1, 0, none⟩ = some (.int .i64 (sg (nu r))) := K1.out.at.1 0
  have q1_0 : w3.frozen? ⟨w.heap.size + 1, 0, none⟩ = false := K1.out.at.2 0
  have p1_1 : w3.cell? ⟨w.heap.size + 1, 1, none⟩ = some (.slice a2 (ln (nu r)) c2) := K1.out.at.1 1
  have q1_1 : w3.frozen? ⟨w.heap.size + 1, 1, none⟩ = false := K1.out.at.2 1
  have p1_2 : w3.cell? ⟨w.heap.size + 1, 2, none⟩ = some (.int .i64 (sg (de r))) := K1.out.at.1 2
  have q1_2 : w3.frozen? ⟨w.heap.size + 1, 2, none⟩ = false := K1.out.at.2 2
  have p1_3 : w3.cell? ⟨w.heap.size + 1, 3, none⟩ = some (.slice b2 (ln (de r)) d2) := K1.out.at.1 3
  have q1_3 : w3.frozen? ⟨w.heap.size + 1, 3, none⟩ = false := K1.out.at.2 3
  have z1 : w.heap.size + 1 < w3.heap.size := K1.out.lt
  go_wp2_with fail
  refine (rmul_ok (x := nu r) (y := de q) (H2.out.keep (by go_grown)).n (H1.out.keep (by go_grown)).d (HY.out.1.mono (by omega)) (HX.out.2.mono (by omega))).mono ?_
  rintro e w4 ⟨a4, c4, rfl, hd4, hb⟩
  clear p0_0 q0_0 p0_1 q0_1 p0_2 q0_2 p0_3 q0_3 z0 p1_0 q1_0 p1_1 q1_1 p1_2 q1_2 p1_3 q1_3 z1
  have hb' := below_call (w1 := w3) (by go_grown) hb
  replace K0 := Lib.hid (K0.out.keep hb')
  replace K1 := Lib.hid (K1.out.keep hb')
  replace HB := Lib.hid (below_call HB.out hb')
  have K2 := Lib.hid ((Bx.new w3 32 #[.int .i64 (sg (nu q * de r)), .slice a3 (ln (nu q * de r)) c3]).keep hb)
  replace H1 := Lib.hid (H1.out.keep hb')
  replace H2 := Lib.hid (H2.out.keep hb')
  replace Hd3 := Lib.hid (Hd3.out.keep hb')
  clear hb hb'
  have Hd4 := Lib.hid hd4; clear hd4
  have p0_0 : w4.cell? ⟨w.heap.size, 0, none⟩ = some (.int .i64 (sg (nu q))) := K0.out.at.1 0
  have q0_0 : w4.frozen? ⟨w.heap.size, 0, none⟩ = false := K0.out.at.2 0
  have p0_1 : w4.cell? ⟨w.heap.size, 1, none⟩ = some (.slice a1 (ln (nu q)) c1) := K0.out.at.1 1
  have q0_1 : w4.frozen? ⟨w.heap.size, 1, none⟩ = false := K0.out.at.2 1
  have p0_2 : w4.cell? ⟨w.heap.size, 2, none⟩ = some (.int .i64 (sg (de q))) := K0.out.at.1 2
  have q0_2 : w4.frozen? ⟨w.heap.size, 2, none⟩ = false := K0.out.at.2 2
  have p0_3 : w4.cell? ⟨w.heap.size, 3, none⟩ = some (.slice b1 (ln (de q)) d1) := K0.out.at.1 3
  have q0_3 : w4.frozen? ⟨w.heap.size, 3, none⟩ = false := K0.out.at.2 3
  have z0 : w.heap.size < w4.heap.size := K0.out.lt
  have p1_0 : w4.cell? ⟨w.heap.size + 1, 0, none⟩ = some (.int .i64 (sg (nu r))) := K1.out.at.1 0
  have q1_0 : w4.frozen? ⟨w.heap.size + 1, 0, none⟩ = false := K1.out.at.2 0
  have p1_1 : w4.cell? ⟨w.heap.size + 1, 1, none⟩ = some (.slice a2 (ln (nu r)) c2) := K1.out.at.1 1
  have q1_1 : w4.frozen? ⟨w.heap.size + 1, 1, none⟩ = false := K1.out.at.2 1
  have p1_2 : w4.cell? ⟨w.heap.size + 1, 2, none⟩ = some (.int .i64 (sg (de r))) := K1.out.at.1 2
  have q1_2 : w4.frozen? ⟨w.heap.size + 1, 2, none⟩ = false := K1.out.at.2 2
  have p1_3 : w4.cell? ⟨w.heap.size + 1, 3, none⟩ = some (.slice b2 (ln (de r)) d2) := K1.out.at.1 3
  have q1_3 : w4.frozen? ⟨w.heap.size + 1, 3, none⟩ = false := K1.out.at.2 3
  have z1 : w.heap.size + 1 < w4.heap.size := K1.out.lt
  have p2_0 : w4.cell? ⟨w3.heap.size, 0, none⟩ = some (.int .i64 (sg (nu q * de r))) := K2.out.at.1 0
  have q2_0 : w4.frozen? ⟨w3.heap.size, 0, none⟩ = false := K2.out.at.2 0
  have p2_1 : w4.cell? ⟨w3.heap.size, 1, none⟩ = some (.slice a3 (ln (nu q * de r)) c3) := K2.out.at.1 1
  have q2_1 : w4.frozen? ⟨w3.heap.size, 1, none⟩ = false := K2.out.at.2 1
  have z2 : w3.heap.size < w4.heap.size := K2.out.lt
  go_wp2_with fail
  refine (rcompare_ok (Hd3.out.keep (by go_grown)) (Hd4.out.keep (by go_grown)) ((HX.out.1.mul HY.out.2).mono (by omega)) ((HY.out.1.mul HX.out.2).mono (by omega))).mono ?_
  rintro e w5 ⟨rfl, hb⟩
  clear p0_0 q0_0 p0_1 q0_1 p0_2 q0_2 p0_3 q0_3 z0 p1_0 q1_0 p1_1 q1_1 p1_2 q1_2 p1_3 q1_3 z1 p2_0 q2_0 p2_1 q2_1 z2
  have hb' := below_call (w1 := w4) (by go_grown) hb
  replace K0 := Lib.hid (K0.out.keep hb')
  replace K1 := Lib.hid (K1.out.keep hb')
  replace K2 := Lib.hid (K2.out.keep hb')
  replace HB := Lib.hid (below_call HB.out hb')
  have K3 := Lib.hid ((Bx.new w4 32 #[.int .i64 (sg (nu r * de q)), .slice a4 (ln (nu r * de q)) c4]).keep hb)
  replace H1 := Lib.hid (H1.out.keep hb')
  replace H2 := Lib.hid (H2.out.keep hb')
  replace Hd3 := Lib.hid (Hd3.out.keep hb')
  replace Hd4 := Lib.hid (Hd4.out.keep hb')
  clear hb hb'
  have p0_0 : w5.cell? ⟨w.heap.size, 0, none⟩ = some (.int .i64 (sg (nu q))) := K0.out.at.1 0
  have q0_0 : w5.frozen? ⟨w.heap.size, 0, none⟩ = false := K0.out.at.2 0
  have p0_1 : w5.cell? ⟨w.heap.size, 1, none⟩ = some (.slice a1 (ln (nu q)) c1) := K0.out.at.1 1
  have q0_1 : w5.frozen? ⟨w.heap.size, 1, none⟩ = false := K0.out.at.2 1
  have p0_2 : w5.cell? ⟨w.heap.size, 2, none⟩ = some (.int .i64 (sg (de q))) := K0.out.at.1 2
  have q0_2 : w5.frozen? ⟨w.heap.size, 2, none⟩ = false := K0.out.at.2 2
  have p0_3 : w5.cell? ⟨w.heap.size, 3, none⟩ = some (.slice b1 (ln (de q)) d1) := K0.out.at.1 3
  have q0_3 : w5.frozen? ⟨w.heap.size, 3, none⟩ = false := K0.out.at.2 3
  have z0 : w.heap.size < w5.heap.size := K0.out.lt
  have p1_0 : w5.cell? ⟨w.heap.size + 1, 0, none⟩ = some (.int .i64 (sg (nu r))) := K1.out.at.1 0
  have q1_0 : w5.frozen? ⟨w.heap.size + 1, 0, none⟩ = false := K1.out.at.2 0
  have p1_1 : w5.cell? ⟨w.heap.size + 1, 1, none⟩ = some (.slice a2 (ln (nu r)) c2) := K1.out.at.1 1
  have q1_1 : w5.frozen? ⟨w.heap.size + 1, 1, none⟩ = false := K1.out.at.2 1
  have p1_2 : w5.cell? ⟨w.heap.size + 1, 2, none⟩ = some (.int .i64 (sg (de r))) := K1.out.at.1 2
  have q1_2 : w5.frozen? ⟨w.heap.size + 1, 2, none⟩ = false := K1.out.at.2 2
  have p1_3 : w5.cell? ⟨w.heap.size + 1, 3, none⟩ = some (.slice b2 (ln (de r)) d2) := K1.out.at.1 3
  have q1_3 : w5.frozen? ⟨w.heap.size + 1, 3, none⟩ = false := K1.out.at.2 3
  have z1 : w.heap.size + 1 < w5.heap.size := K1.out.lt
  have p2_0 : w5.cell? ⟨w3.heap.size, 0, none⟩ = some (.int .i64 (sg (nu q * de r))) := K2.out.at.1 0
  have q2_0 : w5.frozen? ⟨w3.heap.size, 0, none⟩ = false := K2.out.at.2 0
  have p2_1 : w5.cell? ⟨w3.heap.size, 1, none⟩ = some (.slice a3 (ln (nu q * de r)) c3) := K2.out.at.1 1
  have q2_1 : w5.frozen? ⟨w3.heap.size, 1, none⟩ = false := K2.out.at.2 1
  have z2 : w3.heap.size < w5.heap.size := K2.out.lt
  have p3_0 : w5.cell? ⟨w4.heap.size, 0, none⟩ = some (.int .i64 (sg (nu r * de q))) := K3.out.at.1 0
  have q3_0 : w5.frozen? ⟨w4.heap.size, 0, none⟩ = false := K3.out.at.2 0
  have p3_1 : w5.cell? ⟨w4.heap.size, 1, none⟩ = some (.slice a4 (ln (nu r * de q)) c4) := K3.out.at.1 1
  have q3_1 : w5.frozen? ⟨w4.heap.size, 1, none⟩ = false := K3.out.at.2 1
  have z3 : w4.heap.size < w5.heap.size := K3.out.lt
  go_wp2_with fail
  go_ret
  exact ⟨ret_int (ord_parts q r), HB.out⟩

end Go.Proofs.Ytpjpkcelajbfnaa
