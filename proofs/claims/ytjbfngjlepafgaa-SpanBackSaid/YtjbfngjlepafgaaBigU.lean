/- Walks: comparing and subtracting big integers. -/
import Derived.Test.YtjbfngjlepafgaaBigK
import Derived.Test.YtjbfngjlepafgaaBigP
import Derived.Test.YtjbfngjlepafgaaFracA
import Derived.Test.YtjbfngjlepafgaaProg
import Derived.WalkKit
import Derived.WalkSpells
import Derived.WalkLawsBesides
import Derived.Handy
import Derived.Lib.Hide
import Derived.Lib.Strings
import Derived.Lib.Builder
import Derived.BigQuiet
import Derived.OwnWalk
import Derived.Laws.BitsLemmas
import Derived.WalkSmall
import Derived.Deep.QuietTactic
import Derived.StillTailTactics
import Derived.Maps.AppendAt
import Derived.IntWalk
import Derived.Deep.RegionHeld3
import Derived.Deep.DeepFit
import Derived.Deep.LoopGhost
import Derived.Deep.DeepCutAuto
namespace Go.Proofs.Ytjbfngjlepafgaa
open Go.RowKit
variable {G : Nat}

theorem divInt_parts (q : Rat) : Rat.divInt (nu q) (de q) = q := Rat.num_divInt_den q
theorem add_parts (q r : Rat) : Rat.divInt (nu q * de r + nu r * de q) (de q * de r) = q + r := by
  have h1 := de_pos q
  have h2 := de_pos r
  conv => rhs; rw [← divInt_parts q, ← divInt_parts r, Rat.divInt_add_divInt _ _ (by omega) (by omega)]
theorem oneB_one : oneB 1 = true := by decide
theorem gcd_one (q : Rat) : ((Nat.gcd (nu q).natAbs (de q).natAbs : Nat) : Int) = 1 := by rw [gcd_parts]; rfl
set_option maxHeartbeats 4000000 in
theorem fracRight_ok {q : Rat} {a1 b1 : Option Addr} {c1 d1 : Nat} {w : World} (h1 : FD G w a1 c1 b1 d1 q) (hx : Fz q 549755813888) :
    Calls Try.prog 41 #[.agg #[.int .i64 (sg (nu q)), .slice a1 (ln (nu q)) c1, .int .i64 (sg (de q)), .slice b1 (ln (de q)) d1]] w fun e w' => e = .returned (.bool true) ∧ Below w.heap.size w w' := by
  have HX := Lib.hid hx
  have H1 := Lib.hid h1
  have e1 : (sg (de q) != 1) = false := by rw [sg_de]; rfl
  clear hx h1

  go_enter Try.func41, Try.ntmps41
  go_wp2_with fail
  refine (bigRight_ok (z := nu q) (H1.out.keep (by go_grown)).n (HX.out.1.mono (by omega))).mono ?_
  rintro e w1 ⟨rfl, hb⟩
  have hbx := bx1 w 26 #[.int .i64 (sg (nu q)), .slice a1 (ln (nu q)) c1, .int .i64 (sg (de q)), .slice b1 (ln (de q)) d1]
  have k0 := hbx; clear hbx
  have K0 := Lib.hid (k0.keep hb)
  clear k0
  have hb' : Below w.heap.size w w1 := below_call (by go_grown) hb
  have HB := Lib.hid hb'
  replace H1 := Lib.hid (H1.out.keep hb')
  clear hb hb'
  have p0_0 : w1.cell? ⟨w.heap.size, 0, none⟩ = some (.int .i64 (sg (nu q))) := K0.out.at.1 0
  have q0_0 : w1.frozen? ⟨w.heap.size, 0, none⟩ = false := K0.out.at.2 0
  have p0_1 : w1.cell? ⟨w.heap.size, 1, none⟩ = some (.slice a1 (ln (nu q)) c1) := K0.out.at.1 1
  have q0_1 : w1.frozen? ⟨w.heap.size, 1, none⟩ = false := K0.out.at.2 1
  have p0_2 : w1.cell? ⟨w.heap.size, 2, none⟩ = some (.int .i64 (sg (de q))) := K0.out.at.1 2
  have q0_2 : w1.frozen? ⟨w.heap.size, 2, none⟩ = false := K0.out.at.2 2
  have p0_3 : w1.cell? ⟨w.heap.size, 3, none⟩ = some (.slice b1 (ln (de q)) d1) := K0.out.at.1 3
  have q0_3 : w1.frozen? ⟨w.heap.size, 3, none⟩ = false := K0.out.at.2 3
  have z0 : w.heap.size < w1.heap.size := K0.out.lt
  go_wp2_with fail
  refine (bigRight_ok (z := de q) (H1.out.keep (by go_grown)).d (HX.out.2.mono (by omega))).mono ?_
  rintro e w2 ⟨rfl, hb⟩
  clear p0_0 q0_0 p0_1 q0_1 p0_2 q0_2 p0_3 q0_3 z0
  have hb' := below_call (w1 := w1) (by go_grown) hb
  replace K0 := Lib.hid (K0.out.keep hb')
  replace HB := Lib.hid (below_call HB.out hb')
  replace H1 := Lib.hid (H1.out.keep hb')
  clear hb hb'
  have p0_0 : w2.cell? ⟨w.heap.size, 0, none⟩ = some (.int .i64 (sg (nu q))) := K0.out.at.1 0
  have q0_0 : w2.frozen? ⟨w.heap.size, 0, none⟩ = false := K0.out.at.2 0
  have p0_1 : w2.cell? ⟨w.heap.size, 1, none⟩ = some (.slice a1 (ln (nu q)) c1) := K0.out.at.1 1
  have q0_1 : w2.frozen? ⟨w.heap.size, 1, none⟩ = false := K0.out.at.2 1
  have p0_2 : w2.cell? ⟨w.heap.size, 2, none⟩ = some (.int .i64 (sg (de q))) := K0.out.at.1 2
  have q0_2 : w2.frozen? ⟨w.heap.size, 2, none⟩ = false := K0.out.at.2 2
  have p0_3 : w2.cell? ⟨w.heap.size, 3, none⟩ = some (.slice b1 (ln (de q)) d1) := K0.out.at.1 3
  have q0_3 : w2.frozen? ⟨w.heap.size, 3, none⟩ = false := K0.out.at.2 3
  have z0 : w.heap.size < w2.heap.size := K0.out.lt
  go_wp2_with fail
  refine (bigGcd_is (g := 1) (H1.out.keep (by go_grown)).n (H1.out.keep (by go_grown)).d HX.out.1 HX.out.2 (gcd_one q)).mono ?_
  rintro e w3 ⟨a3, c3, rfl, hd3, hb⟩
  clear p0_0 q0_0 p0_1 q0_1 p0_2 q0_2 p0_3 q0_3 z0
  have hb' := below_call (w1 := w2) (by go_grown) hb
  replace K0 := Lib.hid (K0.out.keep hb')
  replace HB := Lib.hid (below_call HB.out hb')
  replace H1 := Lib.hid (H1.out.keep hb')
  clear hb hb'
  have Hd3 := Lib.hid hd3; clear hd3
  have p0_0 : w3.cell? ⟨w.heap.size, 0, none⟩ = some (.int .i64 (sg (nu q))) := K0.out.at.1 0
  have q0_0 : w3.frozen? ⟨w.heap.size, 0, none⟩ = false := K0.out.at.2 0
  have p0_1 : w3.cell? ⟨w.heap.size, 1, none⟩ = some (.slice a1 (ln (nu q)) c1) := K0.out.at.1 1
  have q0_1 : w3.frozen? ⟨w.heap.size, 1, none⟩ = false := K0.out.at.2 1
  have p0_2 : w3.cell? ⟨w.heap.size, 2, none⟩ = some (.int .i64 (sg (de q))) := K0.out.at.1 2
  have q0_2 : w3.frozen? ⟨w.heap.size, 2, none⟩ = false := K0.out.at.2 2
  have p0_3 : w3.cell? ⟨w.heap.size, 3, none⟩ = some (.slice b1 (ln (de q)) d1) := K0.out.at.1 3
  have q0_3 : w3.frozen? ⟨w.heap.size, 3, none⟩ = false := K0.out.at.2 3
  have z0 : w.heap.size < w3.heap.size := K0.out.lt
  go_wp2_with fail
  refine (one_ok (Hd3.out.keep (by go_grown)) (by show _ ≤ _; decide)).mono ?_
  rintro e w4 ⟨rfl, hb⟩
  clear p0_0 q0_0 p0_1 q0_1 p0_2 q0_2 p0_3 q0_3 z0
  have hb' := below_call (w1 := w3) (by go_grown) hb
  replace K0 := Lib.hid (K0.out.keep hb')
  replace HB := Lib.hid (below_call HB.out hb')
  have K1 := Lib.hid ((Bx.new w3 24 #[.int .i64 (sg 1), .slice a3 (ln 1) c3]).keep hb)
  replace H1 := Lib.hid (H1.out.keep hb')
  replace Hd3 := Lib.hid (Hd3.out.keep hb')
  clear hb hb'
  have p0_0 : w4.cell? ⟨w.heap.size, 0, none⟩ = some (.int .i64 (sg (nu q))) := K0.out.at.1 0
  have q0_0 : w4.frozen? ⟨w.heap.size, 0, none⟩ = false := K0.out.at.2 0
  have p0_1 : w4.cell? ⟨w.heap.size, 1, none⟩ = some (.slice a1 (ln (nu q)) c1) := K0.out.at.1 1
  have q0_1 : w4.frozen? ⟨w.heap.size, 1, none⟩ = false := K0.out.at.2 1
  have p0_2 : w4.cell? ⟨w.heap.size, 2, none⟩ = some (.int .i64 (sg (de q))) := K0.out.at.1 2
  have q0_2 : w4.frozen? ⟨w.heap.size, 2, none⟩ = false := K0.out.at.2 2
  have p0_3 : w4.cell? ⟨w.heap.size, 3, none⟩ = some (.slice b1 (ln (de q)) d1) := K0.out.at.1 3
  have q0_3 : w4.frozen? ⟨w.heap.size, 3, none⟩ = false := K0.out.at.2 3
  have z0 : w.heap.size < w4.heap.size := K0.out.lt
  have p1_0 : w4.cell? ⟨w3.heap.size, 0, none⟩ = some (.int .i64 (sg 1)) := K1.out.at.1 0
  have q1_0 : w4.frozen? ⟨w3.heap.size, 0, none⟩ = false := K1.out.at.2 0
  have p1_1 : w4.cell? ⟨w3.heap.size, 1, none⟩ = some (.slice a3 (ln 1) c3) := K1.out.at.1 1
  have q1_1 : w4.frozen? ⟨w3.heap.size, 1, none⟩ = false := K1.out.at.2 1
  have z1 : w3.heap.size < w4.heap.size := K1.out.lt
  rw [oneB_one]
  go_wp2_with fail
  go_ret
  exact ⟨rfl, HB.out⟩
theorem sz_int {x : Int} {n : Nat} (h : -9223372036854775808 ≤ x ∧ x ≤ 9223372036854775807) : Sz x (n + 4) := by
  unfold Sz
  have h0 : (1048576 ^ 4 : Nat) = 1208925819614629174706176 := by decide
  have h1 : x.natAbs < 1048576 ^ 4 := by omega
  have := digs_len_of_lt h1
  omega
set_option maxHeartbeats 4000000 in
theorem fracInt_ok (x : Int) (w : World) (hx : -9223372036854775808 ≤ x ∧ x ≤ 9223372036854775807) :
    Calls Try.prog 48 #[.int .i64 x] w fun e w' => ∃ a c b d, e = .returned (.agg #[.int .i64 (sg (nu (x : Rat))), .slice a (ln (nu (x : Rat))) c, .int .i64 (sg (de (x : Rat))), .slice b (ln (de (x : Rat))) d]) ∧ FD G w' a c b d (x : Rat) ∧ Below w.heap.size w w' := by
  have HX := Lib.hid hx
  have HNU : Hid (nu (x : Rat) = x) := rfl
  have HDE : Hid (de (x : Rat) = 1) := rfl
  clear hx

  go_enter Try.func48, Try.ntmps48
  go_wp2_with fail
  refine (bigOf_ok (G := G) x _ HX.out).mono ?_
  rintro e w1 ⟨a1, c1, rfl, hd1, hb⟩
  have hbx := bx1 w 26 #[.int .i64 0, .slice none 0 0, .int .i64 0, .slice none 0 0]
  have k0 := hbx; clear hbx
  have K0 := Lib.hid (k0.keep hb)
  clear k0
  have hb' : Below w.heap.size w w1 := below_call (by go_grown) hb
  have HB := Lib.hid hb'
  clear hb hb'
  have Hd1 := Lib.hid hd1; clear hd1
  have p0_0 : w1.cell? ⟨w.heap.size, 0, none⟩ = some (.int .i64 0) := K0.out.at.1 0
  have q0_0 : w1.frozen? ⟨w.heap.size, 0, none⟩ = false := K0.out.at.2 0
  have p0_1 : w1.cell? ⟨w.heap.size, 1, none⟩ = some (.slice none 0 0) := K0.out.at.1 1
  have q0_1 : w1.frozen? ⟨w.heap.size, 1, none⟩ = false := K0.out.at.2 1
  have p0_2 : w1.cell? ⟨w.heap.size, 2, none⟩ = some (.int .i64 0) := K0.out.at.1 2
  have q0_2 : w1.frozen? ⟨w.heap.size, 2, none⟩ = false := K0.out.at.2 2
  have p0_3 : w1.cell? ⟨w.heap.size, 3, none⟩ = some (.slice none 0 0) := K0.out.at.1 3
  have q0_3 : w1.frozen? ⟨w.heap.size, 3, none⟩ = false := K0.out.at.2 3
  have z0 : w.heap.size < w1.heap.size := K0.out.lt
  go_wp2_with fail
  refine (bigOf_ok (G := G) 1 _ (by decide)).mono ?_
  rintro e w2 ⟨a2, c2, rfl, hd2, hb⟩
  clear p0_0 q0_0 p0_1 q0_1 p0_2 q0_2 p0_3 q0_3 z0
  have hb' := below_call (w1 := w1) (by go_grown) hb
  replace K0 := Lib.hid (K0.out.keep hb')
  replace HB := Lib.hid (below_call HB.out hb')
  replace Hd1 := Lib.hid (Hd1.out.keep hb')
  clear hb hb'
  have Hd2 := Lib.hid hd2; clear hd2
  have p0_0 : w2.cell? ⟨w.heap.size, 0, none⟩ = some (.int .i64 0) := K0.out.at.1 0
  have q0_0 : w2.frozen? ⟨w.heap.size, 0, none⟩ = false := K0.out.at.2 0
  have p0_1 : w2.cell? ⟨w.heap.size, 1, none⟩ = some (.slice none 0 0) := K0.out.at.1 1
  have q0_1 : w2.frozen? ⟨w.heap.size, 1, none⟩ = false := K0.out.at.2 1
  have p0_2 : w2.cell? ⟨w.heap.size, 2, none⟩ = some (.int .i64 0) := K0.out.at.1 2
  have q0_2 : w2.frozen? ⟨w.heap.size, 2, none⟩ = false := K0.out.at.2 2
  have p0_3 : w2.cell? ⟨w.heap.size, 3, none⟩ = some (.slice none 0 0) := K0.out.at.1 3
  have q0_3 : w2.frozen? ⟨w.heap.size, 3, none⟩ = false := K0.out.at.2 3
  have z0 : w.heap.size < w2.heap.size := K0.out.lt
  go_wp2_with fail
  rw [← HNU.out, ← HDE.out]
  have HF : Hid (FD G w2 a1 c1 a2 c2 (x : Rat)) := FD.mk (by rw [HNU.out]; exact Hd1.out) (by rw [HDE.out]; exact Hd2.out)
  clear p0_0 q0_0 p0_1 q0_1 p0_2 q0_2 p0_3 q0_3 z0
  refine bodyPost_ret (results_box1 rfl _ _ w.heap.size 26 _ _ _ rfl (K0.out.set4 _ _ _ _) Try.underlying26 rfl (by kernel_rfl)) rfl ?_
  refine ⟨a1, c1, a2, c2, rfl, ?_, ?_⟩
  · exact (HF.out.far0 K0.out zb4 (only_setCell (only_setCell (only_setCell (only_setCell (World.grownBy.refl _ _) _) _) _) _))
  · exact (Below.setCell (Below.setCell (Below.setCell (Below.setCell HB.out (by simp; try omega) _) (by simp; try omega) _) (by simp; try omega) _) (by simp; try omega) _)
set_option maxHeartbeats 4000000 in
theorem fracAdd_ok {q r : Rat} {a1 b1 a2 b2 : Option Addr} {c1 d1 c2 d2 : Nat} {w : World} (h1 : FD G w a1 c1 b1 d1 q) (h2 : FD G w a2 c2 b2 d2 r) (hx : Fz q 137438953472) (hy : Fz r 137438953472) :
    Calls Try.prog 24 #[.agg #[.int .i64 (sg (nu q)), .slice a1 (ln (nu q)) c1, .int .i64 (sg (de q)), .slice b1 (ln (de q)) d1], .agg #[.int .i64 (sg (nu r)), .slice a2 (ln (nu r)) c2, .int .i64 (sg (de r)), .slice b2 (ln (de r)) d2]] w fun e w' => ∃ a c b d, e = .returned (.tuple #[.agg #[.int .i64 (sg (nu (q + r))), .slice a (ln (nu (q + r))) c, .int .i64 (sg (de (q + r))), .slice b (ln (de (q + r))) d], .int .i64 0]) ∧ FD G w' a c b d (q + r) ∧ Below w.heap.size w w' := by
  have HX := Lib.hid hx
  have HY := Lib.hid hy
  have H1 := Lib.hid h1
  have H2 := Lib.hid h2
  have HQR := Lib.hid (add_parts q r)
  clear hx hy h1 h2

  go_enter Try.func24, Try.ntmps24
  go_wp2_with fail
  refine (fracRight_ok (q := q) (H1.out.keep (by go_grown)) (HX.out.mono (by omega))).mono ?_
  rintro e w1 ⟨rfl, hb⟩
  have hbx := bx3 w 26 26 26 #[.int .i64 (sg (nu q)), .slice a1 (ln (nu q)) c1, .int .i64 (sg (de q)), .slice b1 (ln (de q)) d1] #[.int .i64 (sg (nu r)), .slice a2 (ln (nu r)) c2, .int .i64 (sg (de r)), .slice b2 (ln (de r)) d2] #[.int .i64 0, .slice none 0 0, .int .i64 0, .slice none 0 0]
  obtain ⟨k0, k1, k2⟩ := hbx
  have K0 := Lib.hid (k0.keep hb)
  have K1 := Lib.hid (k1.keep hb)
  have K2 := Lib.hid (k2.keep hb)
  clear k0 k1 k2
  have hb' : Below w.heap.size w w1 := below_call (by go_grown) hb
  have HB := Lib.hid hb'
  replace H1 := Lib.hid (H1.out.keep hb')
  replace H2 := Lib.hid (H2.out.keep hb')
  clear hb hb'
  have p0_0 : w1.cell? ⟨w.heap.size, 0, none⟩ = some (.int .i64 (sg (nu q))) := K0.out.at.1 0
  have q0_0 : w1.frozen? ⟨w.heap.size, 0, none⟩ = false := K0.out.at.2 0
  have p0_1 : w1.cell? ⟨w.heap.size, 1, none⟩ = some (.slice a1 (ln (nu q)) c1) := K0.out.at.1 1
  have q0_1 : w1.frozen? ⟨w.heap.size, 1, none⟩ = false := K0.out.at.2 1
  have p0_2 : w1.cell? ⟨w.heap.size, 2, none⟩ = some (.int .i64 (sg (de q))) := K0.out.at.1 2
  have q0_2 : w1.frozen? ⟨w.heap.size, 2, none⟩ = false := K0.out.at.2 2
  have p0_3 : w1.cell? ⟨w.heap.size, 3, none⟩ = some (.slice b1 (ln (de q)) d1) := K0.out.at.1 3
  have q0_3 : w1.frozen? ⟨w.heap.size, 3, none⟩ = false := K0.out.at.2 3
  have z0 : w.heap.size < w1.heap.size := K0.out.lt
  have p1_0 : w1.cell? ⟨w.heap.size + 1, 0, none⟩ = some (.int .i64 (sg (nu r))) := K1.out.at.1 0
  have q1_0 : w1.frozen? ⟨w.heap.size + 1, 0, none⟩ = false := K1.out.at.2 0
  have p1_1 : w1.cell? ⟨w.heap.size + 1, 1, none⟩ = some (.slice a2 (ln (nu r)) c2) := K1.out.at.1 1
  have q1_1 : w1.frozen? ⟨w.heap.size + 1, 1, none⟩ = false := K1.out.at.2 1
  have p1_2 : w1.cell? ⟨w.heap.size + 1, 2, none⟩ = some (.int .i64 (sg (de r))) := K1.out.at.1 2
  have q1_2 : w1.frozen? ⟨w.heap.size + 1, 2, none⟩ = false := K1.out.at.2 2
  have p1_3 : w1.cell? ⟨w.heap.size + 1, 3, none⟩ = some (.slice b2 (ln (de r)) d2) := K1.out.at.1 3
  have q1_3 : w1.frozen? ⟨w.heap.size + 1, 3, none⟩ = false := K1.out.at.2 3
  have z1 : w.heap.size + 1 < w1.heap.size := K1.out.lt
  have p2_0 : w1.cell? ⟨w.heap.size + 1 + 1, 0, none⟩ = some (.int .i64 0) := K2.out.at.1 0
  have q2_0 : w1.frozen? ⟨w.heap.size + 1 + 1, 0, none⟩ = false := K2.out.at.2 0
  have p2_1 : w1.cell? ⟨w.heap.size + 1 + 1, 1, none⟩ = some (.slice none 0 0) := K2.out.at.1 1
  have q2_1 : w1.frozen? ⟨w.heap.size + 1 + 1, 1, none⟩ = false := K2.out.at.2 1
  have p2_2 : w1.cell? ⟨w.heap.size + 1 + 1, 2, none⟩ = some (.int .i64 0) := K2.out.at.1 2
  have q2_2 : w1.frozen? ⟨w.heap.size + 1 + 1, 2, none⟩ = false := K2.out.at.2 2
  have p2_3 : w1.cell? ⟨w.heap.size + 1 + 1, 3, none⟩ = some (.slice none 0 0) := K2.out.at.1 3
  have q2_3 : w1.frozen? ⟨w.heap.size + 1 + 1, 3, none⟩ = false := K2.out.at.2 3
  have z2 : w.heap.size + 1 + 1 < w1.heap.size := K2.out.lt
  go_wp2_with fail
  refine (fracRight_ok (q := r) (H2.out.keep (by go_grown)) (HY.out.mono (by omega))).mono ?_
  rintro e w2 ⟨rfl, hb⟩
  clear p0_0 q0_0 p0_1 q0_1 p0_2 q0_2 p0_3 q0_3 z0 p1_0 q1_0 p1_1 q1_1 p1_2 q1_2 p1_3 q1_3 z1 p2_0 q2_0 p2_1 q2_1 p2_2 q2_2 p2_3 q2_3 z2
  have hb' := below_call (w1 := w1) (by go_grown) hb
  replace K0 := Lib.hid (K0.out.keep hb')
  replace K1 := Lib.hid (K1.out.keep hb')
  replace K2 := Lib.hid (K2.out.keep hb')
  replace HB := Lib.hid (below_call HB.out hb')
  replace H1 := Lib.hid (H1.out.keep hb')
  replace H2 := Lib.hid (H2.out.keep hb')
  clear hb hb'
  have p0_0 : w2.cell? ⟨w.heap.size, 0, none⟩ = some (.int .i64 (sg (nu q))) := K0.out.at.1 0
  have q0_0 : w2.frozen? ⟨w.heap.size, 0, none⟩ = false := K0.out.at.2 0
  have p0_1 : w2.cell? ⟨w.heap.size, 1, none⟩ = some (.slice a1 (ln (nu q)) c1) := K0.out.at.1 1
  have q0_1 : w2.frozen? ⟨w.heap.size, 1, none⟩ = false := K0.out.at.2 1
  have p0_2 : w2.cell? ⟨w.heap.size, 2, none⟩ = some (.int .i64 (sg (de q))) := K0.out.at.1 2
  have q0_2 : w2.frozen? ⟨w.heap.size, 2, none⟩ = false := K0.out.at.2 2
  have p0_3 : w2.cell? ⟨w.heap.size, 3, none⟩ = some (.slice b1 (ln (de q)) d1) := K0.out.at.1 3
  have q0_3 : w2.frozen? ⟨w.heap.size, 3, none⟩ = false := K0.out.at.2 3
  have z0 : w.heap.size < w2.heap.size := K0.out.lt
  have p1_0 : w2.cell? ⟨w.heap.size + 1, 0, none⟩ = some (.int .i64 (sg (nu r))) := K1.out.at.1 0
  have q1_0 : w2.frozen? ⟨w.heap.size + 1, 0, none⟩ = false := K1.out.at.2 0
  have p1_1 : w2.cell? ⟨w.heap.size + 1, 1, none⟩ = some (.slice a2 (ln (nu r)) c2) := K1.out.at.1 1
  have q1_1 : w2.frozen? ⟨w.heap.size + 1, 1, none⟩ = false := K1.out.at.2 1
  have p1_2 : w2.cell? ⟨w.heap.size + 1, 2, none⟩ = some (.int .i64 (sg (de r))) := K1.out.at.1 2
  have q1_2 : w2.frozen? ⟨w.heap.size + 1, 2, none⟩ = false := K1.out.at.2 2
  have p1_3 : w2.cell? ⟨w.heap.size + 1, 3, none⟩ = some (.slice b2 (ln (de r)) d2) := K1.out.at.1 3
  have q1_3 : w2.frozen? ⟨w.heap.size + 1, 3, none⟩ = false := K1.out.at.2 3
  have z1 : w.heap.size + 1 < w2.heap.size := K1.out.lt
  have p2_0 : w2.cell? ⟨w.heap.size + 1 + 1, 0, none⟩ = some (.int .i64 0) := K2.out.at.1 0
  have q2_0 : w2.frozen? ⟨w.heap.size + 1 + 1, 0, none⟩ = false := K2.out.at.2 0
  have p2_1 : w2.cell? ⟨w.heap.size + 1 + 1, 1, none⟩ = some (.slice none 0 0) := K2.out.at.1 1
  have q2_1 : w2.frozen? ⟨w.heap.size + 1 + 1, 1, none⟩ = false := K2.out.at.2 1
  have p2_2 : w2.cell? ⟨w.heap.size + 1 + 1, 2, none⟩ = some (.int .i64 0) := K2.out.at.1 2
  have q2_2 : w2.frozen? ⟨w.heap.size + 1 + 1, 2, none⟩ = false := K2.out.at.2 2
  have p2_3 : w2.cell? ⟨w.heap.size + 1 + 1, 3, none⟩ = some (.slice none 0 0) := K2.out.at.1 3
  have q2_3 : w2.frozen? ⟨w.heap.size + 1 + 1, 3, none⟩ = false := K2.out.at.2 3
  have z2 : w.heap.size + 1 + 1 < w2.heap.size := K2.out.lt
  go_wp2_with fail
  clear p0_0 q0_0 p0_1 q0_1 p0_2 q0_2 p0_3 q0_3 z0 p1_0 q1_0 p1_1 q1_1 p1_2 q1_2 p1_3 q1_3 z1 p2_0 q2_0 p2_1 q2_1 p2_2 q2_2 p2_3 q2_3 z2
  go_upto_region 3 with fail
  go_cut [6] (fun sA wx => ∃ (A : Nat) (a5 : Option Addr) (c5 : Nat), sA = .pointer (some ⟨A, 0, none⟩) ∧ Hid (Bx wx A 24 #[.int .i64 (sg (nu q * de r + nu r * de q)), .slice a5 (ln (nu q * de r + nu r * de q)) c5]) ∧ Hid (Bx wx w.heap.size 26 #[.int .i64 (sg (nu q)), .slice a1 (ln (nu q)) c1, .int .i64 (sg (de q)), .slice b1 (ln (de q)) d1]) ∧ Hid (Bx wx (w.heap.size + 1) 26 #[.int .i64 (sg (nu r)), .slice a2 (ln (nu r)) c2, .int .i64 (sg (de r)), .slice b2 (ln (de r)) d2]) ∧ Hid (Bx wx (w.heap.size + 1 + 1) 26 #[.int .i64 0, .slice none 0 0, .int .i64 0, .slice none 0 0]) ∧ Hid (BD G wx a5 c5 (nu q * de r + nu r * de q)) ∧ Hid (FD G wx a1 c1 b1 d1 q) ∧ Hid (FD G wx a2 c2 b2 d2 r) ∧ Hid (Below w.heap.size w wx) ∧ w.heap.size + 1 + 1 < A)
  case first =>
    have mk : Hid (∀ w', Below w2.heap.size w2 w' → w'.cell? ⟨w.heap.size, 0, none⟩ = some (.int .i64 (sg (nu q))) ∧ w'.cell? ⟨w.heap.size, 1, none⟩ = some (.slice a1 (ln (nu q)) c1) ∧ w'.cell? ⟨w.heap.size, 2, none⟩ = some (.int .i64 (sg (de q))) ∧ w'.cell? ⟨w.heap.size, 3, none⟩ = some (.slice b1 (ln (de q)) d1) ∧ w'.cell? ⟨w.heap.size + 1, 0, none⟩ = some (.int .i64 (sg (nu r))) ∧ w'.cell? ⟨w.heap.size + 1, 1, none⟩ = some (.slice a2 (ln (nu r)) c2) ∧ w'.cell? ⟨w.heap.size + 1, 2, none⟩ = some (.int .i64 (sg (de r))) ∧ w'.cell? ⟨w.heap.size + 1, 3, none⟩ = some (.slice b2 (ln (de r)) d2) ∧ w'.cell? ⟨w.heap.size + 1 + 1, 0, none⟩ = some (.int .i64 0) ∧ w'.cell? ⟨w.heap.size + 1 + 1, 1, none⟩ = some (.slice none 0 0) ∧ w'.cell? ⟨w.heap.size + 1 + 1, 2, none⟩ = some (.int .i64 0) ∧ w'.cell? ⟨w.heap.size + 1 + 1, 3, none⟩ = some (.slice none 0 0) ∧ Below w2.heap.size w2 w') := fun w' h => ⟨(K0.out.keep h).at.1 0, (K0.out.keep h).at.1 1, (K0.out.keep h).at.1 2, (K0.out.keep h).at.1 3, (K1.out.keep h).at.1 0, (K1.out.keep h).at.1 1, (K1.out.keep h).at.1 2, (K1.out.keep h).at.1 3, (K2.out.keep h).at.1 0, (K2.out.keep h).at.1 1, (K2.out.keep h).at.1 2, (K2.out.keep h).at.1 3, h⟩
    have hs0 : Below w2.heap.size w2 w2.drew := (Below.refl _ _).drew
    have HS0 : Hid (Below w2.heap.size w2 w2.drew) := (Below.refl _ _).drew
    have tok0 : True := trivial
    have tok1 : True := trivial
    have tok2 : True := trivial
    go_region_held3 (fun w' => w'.cell? ⟨w.heap.size, 0, none⟩ = some (.int .i64 (sg (nu q))) ∧ w'.cell? ⟨w.heap.size, 1, none⟩ = some (.slice a1 (ln (nu q)) c1) ∧ w'.cell? ⟨w.heap.size, 2, none⟩ = some (.int .i64 (sg (de q))) ∧ w'.cell? ⟨w.heap.size, 3, none⟩ = some (.slice b1 (ln (de q)) d1) ∧ w'.cell? ⟨w.heap.size + 1, 0, none⟩ = some (.int .i64 (sg (nu r))) ∧ w'.cell? ⟨w.heap.size + 1, 1, none⟩ = some (.slice a2 (ln (nu r)) c2) ∧ w'.cell? ⟨w.heap.size + 1, 2, none⟩ = some (.int .i64 (sg (de r))) ∧ w'.cell? ⟨w.heap.size + 1, 3, none⟩ = some (.slice b2 (ln (de r)) d2) ∧ w'.cell? ⟨w.heap.size + 1 + 1, 0, none⟩ = some (.int .i64 0) ∧ w'.cell? ⟨w.heap.size + 1 + 1, 1, none⟩ = some (.slice none 0 0) ∧ w'.cell? ⟨w.heap.size + 1 + 1, 2, none⟩ = some (.int .i64 0) ∧ w'.cell? ⟨w.heap.size + 1 + 1, 3, none⟩ = some (.slice none 0 0) ∧ Below w2.heap.size w2 w')
      (first | exact mk.out _ (by assumption) | exact mk.out _ (Below.alloc (by assumption) (Below.size (by assumption)) _) | exact mk.out _ (Below.setCell (Below.setCell (by assumption) hlA _) hlA _))
      (first
        | (go_at_call 44; have _t := tok0; refine (times_ok (x := nu q) (y := de r) (H1.out.keep (Below.alloc HS0.out (Below.size HS0.out) _)).n (H2.out.keep (Below.alloc HS0.out (Below.size HS0.out) _)).d (HX.out.1.mono (by omega)) (HY.out.2.mono (by omega))).mono ?_; rintro e w3 ⟨a3, c3, rfl, hd3, hb⟩; clear tok0 _t; have hlA : w2.heap.size ≤ w2.heap.size := HS0.out.size; have KP : Hid (Bx w3 w2.heap.size 24 #[.int .i64 0, .slice none 0 0]) := (Bx.new w2.drew 24 #[.int .i64 0, .slice none 0 0]).keep hb; have ne0 : w.heap.size < w2.heap.size := (K0.out.keep HS0.out).lt; have ne1 : w.heap.size + 1 < w2.heap.size := (K1.out.keep HS0.out).lt; have ne2 : w.heap.size + 1 + 1 < w2.heap.size := (K2.out.keep HS0.out).lt; have hs1 := below_call (Below.alloc hs0 (Below.size hs0) _) hb; have HS1 := Lib.hid (below_call (Below.alloc HS0.out (Below.size HS0.out) _) hb); clear hb; have Hd3 := Lib.hid hd3; clear hd3)
        | (go_at_call 44; have _t := tok0; refine (times_ok (x := nu q) (y := de r) (H1.out.keep HS0.out).n (H2.out.keep HS0.out).d (HX.out.1.mono (by omega)) (HY.out.2.mono (by omega))).mono ?_; rintro e w3 ⟨a3, c3, rfl, hd3, hb⟩; clear tok0 _t; have hs1 := below_call hs0 hb; have HS1 := Lib.hid (below_call HS0.out hb); clear hb; have Hd3 := Lib.hid hd3; clear hd3)
        | (go_at_call 44; have _t := tok1; refine (times_ok (x := nu r) (y := de q) (H2.out.keep (Below.alloc HS1.out (Below.size HS1.out) _)).n (H1.out.keep (Below.alloc HS1.out (Below.size HS1.out) _)).d (HY.out.1.mono (by omega)) (HX.out.2.mono (by omega))).mono ?_; rintro e w4 ⟨a4, c4, rfl, hd4, hb⟩; clear tok1 _t; have hlA : w2.heap.size ≤ w3.heap.size := HS1.out.size; have KP : Hid (Bx w4 w3.heap.size 24 #[.int .i64 0, .slice none 0 0]) := (Bx.new w3 24 #[.int .i64 0, .slice none 0 0]).keep hb; have ne0 : w.heap.size < w3.heap.size := (K0.out.keep HS1.out).lt; have ne1 : w.heap.size + 1 < w3.heap.size := (K1.out.keep HS1.out).lt; have ne2 : w.heap.size + 1 + 1 < w3.heap.size := (K2.out.keep HS1.out).lt; have hs2 := below_call (Below.alloc hs1 (Below.size hs1) _) hb; have HS2 := Lib.hid (below_call (Below.alloc HS1.out (Below.size HS1.out) _) hb); have Hd3 := Lib.hid (Hd3.out.keep (below_call (below_alloc _ _) hb)); clear hb; have Hd4 := Lib.hid hd4; clear hd4)
        | (go_at_call 44; have _t := tok1; refine (times_ok (x := nu r) (y := de q) (H2.out.keep HS1.out).n (H1.out.keep HS1.out).d (HY.out.1.mono (by omega)) (HX.out.2.mono (by omega))).mono ?_; rintro e w4 ⟨a4, c4, rfl, hd4, hb⟩; clear tok1 _t; (try (have KP := Lib.hid (KP.out.keep hb))); have hs2 := below_call hs1 hb; have HS2 := Lib.hid (below_call HS1.out hb); have Hd3 := Lib.hid (Hd3.out.keep hb); clear hb; have Hd4 := Lib.hid hd4; clear hd4)
        | (go_at_call 43; have _t := tok2; refine (bigAdd_ok (Hd3.out.keep (below_alloc _ _)) (Hd4.out.keep (below_alloc _ _)) ((HX.out.1.mul HY.out.2).mono (by omega)) ((HY.out.1.mul HX.out.2).mono (by omega))).mono ?_; rintro e w5 ⟨a5, c5, rfl, hd5, hb⟩; clear tok2 _t; have hlA : w2.heap.size ≤ w4.heap.size := HS2.out.size; have KP : Hid (Bx w5 w4.heap.size 24 #[.int .i64 0, .slice none 0 0]) := (Bx.new w4 24 #[.int .i64 0, .slice none 0 0]).keep hb; have ne0 : w.heap.size < w4.heap.size := (K0.out.keep HS2.out).lt; have ne1 : w.heap.size + 1 < w4.heap.size := (K1.out.keep HS2.out).lt; have ne2 : w.heap.size + 1 + 1 < w4.heap.size := (K2.out.keep HS2.out).lt; (try (obtain ⟨pA, qA⟩ := KP.out.at)); have hs3 := below_call (Below.alloc hs2 (Below.size hs2) _) hb; have HS3 := Lib.hid (below_call (Below.alloc HS2.out (Below.size HS2.out) _) hb); have Hd3 := Lib.hid (Hd3.out.keep (below_call (below_alloc _ _) hb)); have Hd4 := Lib.hid (Hd4.out.keep (below_call (below_alloc _ _) hb)); clear hb; have Hd5 := Lib.hid hd5; clear hd5)
        | (go_at_call 43; have _t := tok2; refine (bigAdd_ok Hd3.out Hd4.out ((HX.out.1.mul HY.out.2).mono (by omega)) ((HY.out.1.mul HX.out.2).mono (by omega))).mono ?_; rintro e w5 ⟨a5, c5, rfl, hd5, hb⟩; clear tok2 _t; (try (have KP := Lib.hid (KP.out.keep hb))); (try (obtain ⟨pA, qA⟩ := KP.out.at)); have hs3 := below_call hs2 hb; have HS3 := Lib.hid (below_call HS2.out hb); have Hd3 := Lib.hid (Hd3.out.keep hb); have Hd4 := Lib.hid (Hd4.out.keep hb); clear hb; have Hd5 := Lib.hid hd5; clear hd5))
    all_goals (go_wp2_with fail)
    all_goals go_meet
    all_goals first
      | (exact ⟨_, a5, c5, rfl, Bx.new _ _ _, (K0.out.keep HS3.out).keep (below_alloc _ _), (K1.out.keep HS3.out).keep (below_alloc _ _), (K2.out.keep HS3.out).keep (below_alloc _ _), Hd5.out.keep (below_alloc _ _), (H1.out.keep HS3.out).keep (below_alloc _ _), (H2.out.keep HS3.out).keep (below_alloc _ _), below_call HB.out (below_call HS3.out (below_alloc _ _)), (K2.out.keep HS3.out).lt⟩)
      | ((have hA : w.heap.size ≤ w2.heap.size := by (have := ne0; omega)); have og := only_setCell (o := 1) (only_setCell (o := 0) (World.grownBy.refl w5 (some w2.heap.size)) (.int .i64 (sg (nu q * de r + nu r * de q)))) (.slice a5 (ln (nu q * de r + nu r * de q)) c5); exact ⟨_, a5, c5, rfl, KP.out.set2 _ _, (K0.out.keep HS3.out).only og (by omega), (K1.out.keep HS3.out).only og (by omega), (K2.out.keep HS3.out).only og (by omega), Hd5.out.far0 KP.out zb2 og, (H1.out.keep HS3.out).far0 KP.out zb2 og, (H2.out.keep HS3.out).far0 KP.out zb2 og, (Below.setCell (Below.setCell (below_call HB.out HS3.out) hA _) hA _), ne2⟩)
      | ((have hA : w.heap.size ≤ w3.heap.size := by (have := ne0; omega)); have og := only_setCell (o := 1) (only_setCell (o := 0) (World.grownBy.refl w5 (some w3.heap.size)) (.int .i64 (sg (nu q * de r + nu r * de q)))) (.slice a5 (ln (nu q * de r + nu r * de q)) c5); exact ⟨_, a5, c5, rfl, KP.out.set2 _ _, (K0.out.keep HS3.out).only og (by omega), (K1.out.keep HS3.out).only og (by omega), (K2.out.keep HS3.out).only og (by omega), Hd5.out.far0 KP.out zb2 og, (H1.out.keep HS3.out).far0 KP.out zb2 og, (H2.out.keep HS3.out).far0 KP.out zb2 og, (Below.setCell (Below.setCell (below_call HB.out HS3.out) hA _) hA _), ne2⟩)
      | ((have hA : w.heap.size ≤ w4.heap.size := by (have := ne0; omega)); have og := only_setCell (o := 1) (only_setCell (o := 0) (World.grownBy.refl w5 (some w4.heap.size)) (.int .i64 (sg (nu q * de r + nu r * de q)))) (.slice a5 (ln (nu q * de r + nu r * de q)) c5); exact ⟨_, a5, c5, rfl, KP.out.set2 _ _, (K0.out.keep HS3.out).only og (by omega), (K1.out.keep HS3.out).only og (by omega), (K2.out.keep HS3.out).only og (by omega), Hd5.out.far0 KP.out zb2 og, (H1.out.keep HS3.out).far0 KP.out zb2 og, (H2.out.keep HS3.out).far0 KP.out zb2 og, (Below.setCell (Below.setCell (below_call HB.out HS3.out) hA _) hA _), ne2⟩)
  case rest =>
    obtain ⟨A, a5, c5, rfl, KA, K0, K1, K2, Hd5, H1, H2, HB, hltA⟩ := hcut
    obtain ⟨w6, rfl⟩ : ∃ x, x = wc := ⟨_, rfl⟩
    have K3 := KA; clear KA
    have p0_0 : w6.cell? ⟨w.heap.size, 0, none⟩ = some (.int .i64 (sg (nu q))) := K0.out.at.1 0
    have q0_0 : w6.frozen? ⟨w.heap.size, 0, none⟩ = false := K0.out.at.2 0
    have p0_1 : w6.cell? ⟨w.heap.size, 1, none⟩ = some (.slice a1 (ln (nu q)) c1) := K0.out.at.1 1
    have q0_1 : w6.frozen? ⟨w.heap.size, 1, none⟩ = false := K0.out.at.2 1
    have p0_2 : w6.cell? ⟨w.heap.size, 2, none⟩ = some (.int .i64 (sg (de q))) := K0.out.at.1 2
    have q0_2 : w6.frozen? ⟨w.heap.size, 2, none⟩ = false := K0.out.at.2 2
    have p0_3 : w6.cell? ⟨w.heap.size, 3, none⟩ = some (.slice b1 (ln (de q)) d1) := K0.out.at.1 3
    have q0_3 : w6.frozen? ⟨w.heap.size, 3, none⟩ = false := K0.out.at.2 3
    have z0 : w.heap.size < w6.heap.size := K0.out.lt
    have p1_0 : w6.cell? ⟨w.heap.size + 1, 0, none⟩ = some (.int .i64 (sg (nu r))) := K1.out.at.1 0
    have q1_0 : w6.frozen? ⟨w.heap.size + 1, 0, none⟩ = false := K1.out.at.2 0
    have p1_1 : w6.cell? ⟨w.heap.size + 1, 1, none⟩ = some (.slice a2 (ln (nu r)) c2) := K1.out.at.1 1
    have q1_1 : w6.frozen? ⟨w.heap.size + 1, 1, none⟩ = false := K1.out.at.2 1
    have p1_2 : w6.cell? ⟨w.heap.size + 1, 2, none⟩ = some (.int .i64 (sg (de r))) := K1.out.at.1 2
    have q1_2 : w6.frozen? ⟨w.heap.size + 1, 2, none⟩ = false := K1.out.at.2 2
    have p1_3 : w6.cell? ⟨w.heap.size + 1, 3, none⟩ = some (.slice b2 (ln (de r)) d2) := K1.out.at.1 3
    have q1_3 : w6.frozen? ⟨w.heap.size + 1, 3, none⟩ = false := K1.out.at.2 3
    have z1 : w.heap.size + 1 < w6.heap.size := K1.out.lt
    have p2_0 : w6.cell? ⟨w.heap.size + 1 + 1, 0, none⟩ = some (.int .i64 0) := K2.out.at.1 0
    have q2_0 : w6.frozen? ⟨w.heap.size + 1 + 1, 0, none⟩ = false := K2.out.at.2 0
    have p2_1 : w6.cell? ⟨w.heap.size + 1 + 1, 1, none⟩ = some (.slice none 0 0) := K2.out.at.1 1
    have q2_1 : w6.frozen? ⟨w.heap.size + 1 + 1, 1, none⟩ = false := K2.out.at.2 1
    have p2_2 : w6.cell? ⟨w.heap.size + 1 + 1, 2, none⟩ = some (.int .i64 0) := K2.out.at.1 2
    have q2_2 : w6.frozen? ⟨w.heap.size + 1 + 1, 2, none⟩ = false := K2.out.at.2 2
    have p2_3 : w6.cell? ⟨w.heap.size + 1 + 1, 3, none⟩ = some (.slice none 0 0) := K2.out.at.1 3
    have q2_3 : w6.frozen? ⟨w.heap.size + 1 + 1, 3, none⟩ = false := K2.out.at.2 3
    have z2 : w.heap.size + 1 + 1 < w6.heap.size := K2.out.lt
    have p3_0 : w6.cell? ⟨A, 0, none⟩ = some (.int .i64 (sg (nu q * de r + nu r * de q))) := K3.out.at.1 0
    have q3_0 : w6.frozen? ⟨A, 0, none⟩ = false := K3.out.at.2 0
    have p3_1 : w6.cell? ⟨A, 1, none⟩ = some (.slice a5 (ln (nu q * de r + nu r * de q)) c5) := K3.out.at.1 1
    have q3_1 : w6.frozen? ⟨A, 1, none⟩ = false := K3.out.at.2 1
    have z3 : A < w6.heap.size := K3.out.lt
    go_wp2_with fail
    clear p0_0 q0_0 p0_1 q0_1 p0_2 q0_2 p0_3 q0_3 z0 p1_0 q1_0 p1_1 q1_1 p1_2 q1_2 p1_3 q1_3 z1 p2_0 q2_0 p2_1 q2_1 p2_2 q2_2 p2_3 q2_3 z2 p3_0 q3_0 p3_1 q3_1 z3
    have mk : Hid (∀ w', w6.grownBy w' (some (w.heap.size + 1 + 1)) → w'.cell? ⟨w.heap.size, 0, none⟩ = some (.int .i64 (sg (nu q))) ∧ w'.cell? ⟨w.heap.size, 1, none⟩ = some (.slice a1 (ln (nu q)) c1) ∧ w'.cell? ⟨w.heap.size, 2, none⟩ = some (.int .i64 (sg (de q))) ∧ w'.cell? ⟨w.heap.size, 3, none⟩ = some (.slice b1 (ln (de q)) d1) ∧ w'.cell? ⟨w.heap.size + 1, 0, none⟩ = some (.int .i64 (sg (nu r))) ∧ w'.cell? ⟨w.heap.size + 1, 1, none⟩ = some (.slice a2 (ln (nu r)) c2) ∧ w'.cell? ⟨w.heap.size + 1, 2, none⟩ = some (.int .i64 (sg (de r))) ∧ w'.cell? ⟨w.heap.size + 1, 3, none⟩ = some (.slice b2 (ln (de r)) d2) ∧ w'.cell? ⟨A, 0, none⟩ = some (.int .i64 (sg (nu q * de r + nu r * de q))) ∧ w'.cell? ⟨A, 1, none⟩ = some (.slice a5 (ln (nu q * de r + nu r * de q)) c5) ∧ w6.grownBy w' (some (w.heap.size + 1 + 1))) := fun w' h => ⟨(K0.out.only h (by omega)).at.1 0, (K0.out.only h (by omega)).at.1 1, (K0.out.only h (by omega)).at.1 2, (K0.out.only h (by omega)).at.1 3, (K1.out.only h (by omega)).at.1 0, (K1.out.only h (by omega)).at.1 1, (K1.out.only h (by omega)).at.1 2, (K1.out.only h (by omega)).at.1 3, (K3.out.only h (by omega)).at.1 0, (K3.out.only h (by omega)).at.1 1, h⟩
    have hs0 : w6.grownBy w6.drew (some (w.heap.size + 1 + 1)) := only_start _ _
    have HS0 : Hid (Below w6.heap.size w6 w6.drew) := (Below.refl _ _).drew
    have tok0 : True := trivial
    have tok1 : True := trivial
    go_region_held3 (fun w' => w'.cell? ⟨w.heap.size, 0, none⟩ = some (.int .i64 (sg (nu q))) ∧ w'.cell? ⟨w.heap.size, 1, none⟩ = some (.slice a1 (ln (nu q)) c1) ∧ w'.cell? ⟨w.heap.size, 2, none⟩ = some (.int .i64 (sg (de q))) ∧ w'.cell? ⟨w.heap.size, 3, none⟩ = some (.slice b1 (ln (de q)) d1) ∧ w'.cell? ⟨w.heap.size + 1, 0, none⟩ = some (.int .i64 (sg (nu r))) ∧ w'.cell? ⟨w.heap.size + 1, 1, none⟩ = some (.slice a2 (ln (nu r)) c2) ∧ w'.cell? ⟨w.heap.size + 1, 2, none⟩ = some (.int .i64 (sg (de r))) ∧ w'.cell? ⟨w.heap.size + 1, 3, none⟩ = some (.slice b2 (ln (de r)) d2) ∧ w'.cell? ⟨A, 0, none⟩ = some (.int .i64 (sg (nu q * de r + nu r * de q))) ∧ w'.cell? ⟨A, 1, none⟩ = some (.slice a5 (ln (nu q * de r + nu r * de q)) c5) ∧ w6.grownBy w' (some (w.heap.size + 1 + 1)))
      (first | exact mk.out _ (by assumption) | exact mk.out _ (only_setCell (only_setCell (only_setCell (only_setCell (by assumption) _) _) _) _) | exact mk.out _ (only_alloc (by assumption) _))
      (first
        | (go_at_call 44; have _t := tok0; refine (times_ok (x := de q) (y := de r) (H1.out.keep HS0.out).d (H2.out.keep HS0.out).d (HX.out.2.mono (by omega)) (HY.out.2.mono (by omega))).mono ?_; rintro e w7 ⟨a7, c7, rfl, hd7, hb⟩; clear tok0 _t; have hs1 := only_call hs0 hb; have HS1 := Lib.hid (below_call HS0.out hb); clear hb; have Hd7 := Lib.hid hd7; clear hd7)
        | (go_at_call 45; have _t := tok1; refine (new_pos (Hd5.out.keep HS1.out) Hd7.out (((HX.out.1.mul HY.out.2).add (((HY.out.1.mul HX.out.2).mono (by omega)))).mono (by omega)) ((HX.out.2.mul HY.out.2).mono (by omega)) (Int.mul_pos (de_pos q) (de_pos r))).mono ?_; rintro e w8 ⟨a8, c8, b8, d8, rfl, hf8, hb⟩; clear tok1 _t; have hs2 := only_call hs1 hb; have HS2 := Lib.hid (below_call HS1.out hb); have Hd7 := Lib.hid (Hd7.out.keep hb); clear hb; have Hf8 := Lib.hid hf8; clear hf8; obtain ⟨p2, q2⟩ := (K2.out.keep HS2.out).at))
    replace K0 := Lib.hid (K0.out.keep HS2.out)
    replace K1 := Lib.hid (K1.out.keep HS2.out)
    replace K2 := Lib.hid (K2.out.keep HS2.out)
    replace K3 := Lib.hid (K3.out.keep HS2.out)
    replace HB := Lib.hid (below_call HB.out HS2.out)
    replace H1 := Lib.hid (H1.out.keep HS2.out)
    replace H2 := Lib.hid (H2.out.keep HS2.out)
    replace Hd5 := Lib.hid (Hd5.out.keep HS2.out)
    clear mk hs0 HS0 hs1 HS1 hs2 HS2  p2 q2
    rw [HQR.out]
    go_wp2_with fail
    rw [HQR.out] at Hf8
    refine bodyPost_ret (results_box2 rfl _ _ (w.heap.size + 1 + 1) 26 _ _ _ rfl (K2.out.set4 _ _ _ _) Try.underlying26 rfl (by kernel_rfl)) rfl ?_
    refine ⟨a8, c8, b8, d8, rfl, ?_, ?_⟩
    · exact (Hf8.out.far0 K2.out zb4 (only_setCell (only_setCell (only_setCell (only_setCell (World.grownBy.refl _ _) _) _) _) _))
    · exact (Below.setCell (Below.setCell (Below.setCell (Below.setCell HB.out (by simp; try omega) _) (by simp; try omega) _) (by simp; try omega) _) (by simp; try omega) _)
end Go.Proofs.Ytjbfngjlepafgaa
namespace Go.Proofs.Ytjbfngjlepafgaa
open Go.RowKit
variable {G : Nat}

theorem fracAdd_neg {q r : Rat} {a1 b1 a2 b2 : Option Addr} {c1 d1 c2 d2 : Nat} {w : World} (h1 : FD G w a1 c1 b1 d1 q) (hn : BD G w a2 c2 (-nu r)) (hd : BD G w b2 d2 (de r)) (hx : Fz q 137438953472) (hy : Fz r 137438953472) :
    Calls Try.prog 24 #[.agg #[.int .i64 (sg (nu q)), .slice a1 (ln (nu q)) c1, .int .i64 (sg (de q)), .slice b1 (ln (de q)) d1], .agg #[.int .i64 (sg (-nu r)), .slice a2 (ln (-nu r)) c2, .int .i64 (sg (de r)), .slice b2 (ln (de r)) d2]] w fun e w' => ∃ a c b d, e = .returned (.tuple #[.agg #[.int .i64 (sg (nu (q - r))), .slice a (ln (nu (q - r))) c, .int .i64 (sg (de (q - r))), .slice b (ln (de (q - r))) d], .int .i64 0]) ∧ FD G w' a c b d (q - r) ∧ Below w.heap.size w w' := by
  rw [Rat.sub_eq_add_neg]
  exact fracAdd_ok (r := -r) h1 ⟨hn, hd⟩ hx ⟨hy.1.neg, hy.2⟩
def ordQ (q r : Rat) : Int := if q < r then -1 else if r < q then 1 else 0
theorem ord_parts (q r : Rat) : ord (nu q * de r) (nu r * de q) = ordQ q r := by
  unfold ord ordQ
  simp only [Rat.lt_iff]
  rfl
set_option maxHeartbeats 4000000 in
theorem fracSub_ok {q r : Rat} {a1 b1 a2 b2 : Option Addr} {c1 d1 c2 d2 : Nat} {w : World} (h1 : FD G w a1 c1 b1 d1 q) (h2 : FD G w a2 c2 b2 d2 r) (hx : Fz q 137438953472) (hy : Fz r 137438953472) :
    Calls Try.prog 46 #[.agg #[.int .i64 (sg (nu q)), .slice a1 (ln (nu q)) c1, .int .i64 (sg (de q)), .slice b1 (ln (de q)) d1], .agg #[.int .i64 (sg (nu r)), .slice a2 (ln (nu r)) c2, .int .i64 (sg (de r)), .slice b2 (ln (de r)) d2]] w fun e w' => ∃ a c b d, e = .returned (.tuple #[.agg #[.int .i64 (sg (nu (q - r))), .slice a (ln (nu (q - r))) c, .int .i64 (sg (de (q - r))), .slice b (ln (de (q - r))) d], .int .i64 0]) ∧ FD G w' a c b d (q - r) ∧ Below w.heap.size w w' := by
  have HX := Lib.hid hx
  have HY := Lib.hid hy
  have H1 := Lib.hid h1
  have H2 := Lib.hid h2
  clear hx hy h1 h2

  go_enter Try.func46, Try.ntmps46
  go_wp2_with fail
  refine (fracRight_ok (q := q) (H1.out.keep (by go_grown)) (HX.out.mono (by omega))).mono ?_
  rintro e w1 ⟨rfl, hb⟩
  have hbx := bx3 w 26 26 26 #[.int .i64 (sg (nu q)), .slice a1 (ln (nu q)) c1, .int .i64 (sg (de q)), .slice b1 (ln (de q)) d1] #[.int .i64 (sg (nu r)), .slice a2 (ln (nu r)) c2, .int .i64 (sg (de r)), .slice b2 (ln (de r)) d2] #[.int .i64 0, .slice none 0 0, .int .i64 0, .slice none 0 0]
  obtain ⟨k0, k1, k2⟩ := hbx
  have K0 := Lib.hid (k0.keep hb)
  have K1 := Lib.hid (k1.keep hb)
  have K2 := Lib.hid (k2.keep hb)
  clear k0 k1 k2
  have hb' : Below w.heap.size w w1 := below_call (by go_grown) hb
  have HB := Lib.hid hb'
  replace H1 := Lib.hid (H1.out.keep hb')
  replace H2 := Lib.hid (H2.out.keep hb')
  clear hb hb'
  have p0_0 : w1.cell? ⟨w.heap.size, 0, none⟩ = some (.int .i64 (sg (nu q))) := K0.out.at.1 0
  have q0_0 : w1.frozen? ⟨w.heap.size, 0, none⟩ = false := K0.out.at.2 0
  have p0_1 : w1.cell? ⟨w.heap.size, 1, none⟩ = some (.slice a1 (ln (nu q)) c1) := K0.out.at.1 1
  have q0_1 : w1.frozen? ⟨w.heap.size, 1, none⟩ = false := K0.out.at.2 1
  have p0_2 : w1.cell? ⟨w.heap.size, 2, none⟩ = some (.int .i64 (sg (de q))) := K0.out.at.1 2
  have q0_2 : w1.frozen? ⟨w.heap.size, 2, none⟩ = false := K0.out.at.2 2
  have p0_3 : w1.cell? ⟨w.heap.size, 3, none⟩ = some (.slice b1 (ln (de q)) d1) := K0.out.at.1 3
  have q0_3 : w1.frozen? ⟨w.heap.size, 3, none⟩ = false := K0.out.at.2 3
  have z0 : w.heap.size < w1.heap.size := K0.out.lt
  have p1_0 : w1.cell? ⟨w.heap.size + 1, 0, none⟩ = some (.int .i64 (sg (nu r))) := K1.out.at.1 0
  have q1_0 : w1.frozen? ⟨w.heap.size + 1, 0, none⟩ = false := K1.out.at.2 0
  have p1_1 : w1.cell? ⟨w.heap.size + 1, 1, none⟩ = some (.slice a2 (ln (nu r)) c2) := K1.out.at.1 1
  have q1_1 : w1.frozen? ⟨w.heap.size + 1, 1, none⟩ = false := K1.out.at.2 1
  have p1_2 : w1.cell? ⟨w.heap.size + 1, 2, none⟩ = some (.int .i64 (sg (de r))) := K1.out.at.1 2
  have q1_2 : w1.frozen? ⟨w.heap.size + 1, 2, none⟩ = false := K1.out.at.2 2
  have p1_3 : w1.cell? ⟨w.heap.size + 1, 3, none⟩ = some (.slice b2 (ln (de r)) d2) := K1.out.at.1 3
  have q1_3 : w1.frozen? ⟨w.heap.size + 1, 3, none⟩ = false := K1.out.at.2 3
  have z1 : w.heap.size + 1 < w1.heap.size := K1.out.lt
  have p2_0 : w1.cell? ⟨w.heap.size + 1 + 1, 0, none⟩ = some (.int .i64 0) := K2.out.at.1 0
  have q2_0 : w1.frozen? ⟨w.heap.size + 1 + 1, 0, none⟩ = false := K2.out.at.2 0
  have p2_1 : w1.cell? ⟨w.heap.size + 1 + 1, 1, none⟩ = some (.slice none 0 0) := K2.out.at.1 1
  have q2_1 : w1.frozen? ⟨w.heap.size + 1 + 1, 1, none⟩ = false := K2.out.at.2 1
  have p2_2 : w1.cell? ⟨w.heap.size + 1 + 1, 2, none⟩ = some (.int .i64 0) := K2.out.at.1 2
  have q2_2 : w1.frozen? ⟨w.heap.size + 1 + 1, 2, none⟩ = false := K2.out.at.2 2
  have p2_3 : w1.cell? ⟨w.heap.size + 1 + 1, 3, none⟩ = some (.slice none 0 0) := K2.out.at.1 3
  have q2_3 : w1.frozen? ⟨w.heap.size + 1 + 1, 3, none⟩ = false := K2.out.at.2 3
  have z2 : w.heap.size + 1 + 1 < w1.heap.size := K2.out.lt
  go_wp2_with fail
  refine (fracRight_ok (q := r) (H2.out.keep (by go_grown)) (HY.out.mono (by omega))).mono ?_
  rintro e w2 ⟨rfl, hb⟩
  clear p0_0 q0_0 p0_1 q0_1 p0_2 q0_2 p0_3 q0_3 z0 p1_0 q1_0 p1_1 q1_1 p1_2 q1_2 p1_3 q1_3 z1 p2_0 q2_0 p2_1 q2_1 p2_2 q2_2 p2_3 q2_3 z2
  have hb' := below_call (w1 := w1) (by go_grown) hb
  replace K0 := Lib.hid (K0.out.keep hb')
  replace K1 := Lib.hid (K1.out.keep hb')
  replace K2 := Lib.hid (K2.out.keep hb')
  replace HB := Lib.hid (below_call HB.out hb')
  replace H1 := Lib.hid (H1.out.keep hb')
  replace H2 := Lib.hid (H2.out.keep hb')
  clear hb hb'
  have p0_0 : w2.cell? ⟨w.heap.size, 0, none⟩ = some (.int .i64 (sg (nu q))) := K0.out.at.1 0
  have q0_0 : w2.frozen? ⟨w.heap.size, 0, none⟩ = false := K0.out.at.2 0
  have p0_1 : w2.cell? ⟨w.heap.size, 1, none⟩ = some (.slice a1 (ln (nu q)) c1) := K0.out.at.1 1
  have q0_1 : w2.frozen? ⟨w.heap.size, 1, none⟩ = false := K0.out.at.2 1
  have p0_2 : w2.cell? ⟨w.heap.size, 2, none⟩ = some (.int .i64 (sg (de q))) := K0.out.at.1 2
  have q0_2 : w2.frozen? ⟨w.heap.size, 2, none⟩ = false := K0.out.at.2 2
  have p0_3 : w2.cell? ⟨w.heap.size, 3, none⟩ = some (.slice b1 (ln (de q)) d1) := K0.out.at.1 3
  have q0_3 : w2.frozen? ⟨w.heap.size, 3, none⟩ = false := K0.out.at.2 3
  have z0 : w.heap.size < w2.heap.size := K0.out.lt
  have p1_0 : w2.cell? ⟨w.heap.size + 1, 0, none⟩ = some (.int .i64 (sg (nu r))) := K1.out.at.1 0
  have q1_0 : w2.frozen? ⟨w.heap.size + 1, 0, none⟩ = false := K1.out.at.2 0
  have p1_1 : w2.cell? ⟨w.heap.size + 1, 1, none⟩ = some (.slice a2 (ln (nu r)) c2) := K1.out.at.1 1
  have q1_1 : w2.frozen? ⟨w.heap.size + 1, 1, none⟩ = false := K1.out.at.2 1
  have p1_2 : w2.cell? ⟨w.heap.size + 1, 2, none⟩ = some (.int .i64 (sg (de r))) := K1.out.at.1 2
  have q1_2 : w2.frozen? ⟨w.heap.size + 1, 2, none⟩ = false := K1.out.at.2 2
  have p1_3 : w2.cell? ⟨w.heap.size + 1, 3, none⟩ = some (.slice b2 (ln (de r)) d2) := K1.out.at.1 3
  have q1_3 : w2.frozen? ⟨w.heap.size + 1, 3, none⟩ = false := K1.out.at.2 3
  have z1 : w.heap.size + 1 < w2.heap.size := K1.out.lt
  have p2_0 : w2.cell? ⟨w.heap.size + 1 + 1, 0, none⟩ = some (.int .i64 0) := K2.out.at.1 0
  have q2_0 : w2.frozen? ⟨w.heap.size + 1 + 1, 0, none⟩ = false := K2.out.at.2 0
  have p2_1 : w2.cell? ⟨w.heap.size + 1 + 1, 1, none⟩ = some (.slice none 0 0) := K2.out.at.1 1
  have q2_1 : w2.frozen? ⟨w.heap.size + 1 + 1, 1, none⟩ = false := K2.out.at.2 1
  have p2_2 : w2.cell? ⟨w.heap.size + 1 + 1, 2, none⟩ = some (.int .i64 0) := K2.out.at.1 2
  have q2_2 : w2.frozen? ⟨w.heap.size + 1 + 1, 2, none⟩ = false := K2.out.at.2 2
  have p2_3 : w2.cell? ⟨w.heap.size + 1 + 1, 3, none⟩ = some (.slice none 0 0) := K2.out.at.1 3
  have q2_3 : w2.frozen? ⟨w.heap.size + 1 + 1, 3, none⟩ = false := K2.out.at.2 3
  have z2 : w.heap.size + 1 + 1 < w2.heap.size := K2.out.lt
  go_wp2_with fail
  clear p0_0 q0_0 p0_1 q0_1 p0_2 q0_2 p0_3 q0_3 z0 p1_0 q1_0 p1_1 q1_1 p1_2 q1_2 p1_3 q1_3 z1 p2_0 q2_0 p2_1 q2_1 p2_2 q2_2 p2_3 q2_3 z2
  have mk : Hid (∀ w', w2.grownBy w' (some (w.heap.size + 1 + 1)) → w'.cell? ⟨w.heap.size, 0, none⟩ = some (.int .i64 (sg (nu q))) ∧ w'.cell? ⟨w.heap.size, 1, none⟩ = some (.slice a1 (ln (nu q)) c1) ∧ w'.cell? ⟨w.heap.size, 2, none⟩ = some (.int .i64 (sg (de q))) ∧ w'.cell? ⟨w.heap.size, 3, none⟩ = some (.slice b1 (ln (de q)) d1) ∧ w'.cell? ⟨w.heap.size + 1, 0, none⟩ = some (.int .i64 (sg (nu r))) ∧ w'.cell? ⟨w.heap.size + 1, 1, none⟩ = some (.slice a2 (ln (nu r)) c2) ∧ w'.cell? ⟨w.heap.size + 1, 2, none⟩ = some (.int .i64 (sg (de r))) ∧ w'.cell? ⟨w.heap.size + 1, 3, none⟩ = some (.slice b2 (ln (de r)) d2) ∧ w2.grownBy w' (some (w.heap.size + 1 + 1))) := fun w' h => ⟨(K0.out.only h (by omega)).at.1 0, (K0.out.only h (by omega)).at.1 1, (K0.out.only h (by omega)).at.1 2, (K0.out.only h (by omega)).at.1 3, (K1.out.only h (by omega)).at.1 0, (K1.out.only h (by omega)).at.1 1, (K1.out.only h (by omega)).at.1 2, (K1.out.only h (by omega)).at.1 3, h⟩
  have hs0 : w2.grownBy w2.drew (some (w.heap.size + 1 + 1)) := only_start _ _
  have HS0 : Hid (Below w2.heap.size w2 w2.drew) := (Below.refl _ _).drew
  have tok0 : True := trivial
  have tok1 : True := trivial
  go_region_held3 (fun w' => w'.cell? ⟨w.heap.size, 0, none⟩ = some (.int .i64 (sg (nu q))) ∧ w'.cell? ⟨w.heap.size, 1, none⟩ = some (.slice a1 (ln (nu q)) c1) ∧ w'.cell? ⟨w.heap.size, 2, none⟩ = some (.int .i64 (sg (de q))) ∧ w'.cell? ⟨w.heap.size, 3, none⟩ = some (.slice b1 (ln (de q)) d1) ∧ w'.cell? ⟨w.heap.size + 1, 0, none⟩ = some (.int .i64 (sg (nu r))) ∧ w'.cell? ⟨w.heap.size + 1, 1, none⟩ = some (.slice a2 (ln (nu r)) c2) ∧ w'.cell? ⟨w.heap.size + 1, 2, none⟩ = some (.int .i64 (sg (de r))) ∧ w'.cell? ⟨w.heap.size + 1, 3, none⟩ = some (.slice b2 (ln (de r)) d2) ∧ w2.grownBy w' (some (w.heap.size + 1 + 1)))
    (first | exact mk.out _ (by assumption) | exact mk.out _ (only_setCell (only_setCell (only_setCell (only_setCell (by assumption) _) _) _) _) | exact mk.out _ (only_alloc (by assumption) _))
    (first
      | (go_at_call 59; have _t := tok0; refine (bigNeg_ok (H2.out.keep HS0.out).n (HY.out.1.mono (by omega))).mono ?_; rintro e w3 ⟨a3, c3, rfl, hd3, hb⟩; clear tok0 _t; have hs1 := only_call hs0 hb; have HS1 := Lib.hid (below_call HS0.out hb); clear hb; have Hd3 := Lib.hid hd3; clear hd3)
      | (go_at_call 24; have _t := tok1; refine (fracAdd_neg (H1.out.keep HS1.out) Hd3.out (H2.out.keep HS1.out).d HX.out HY.out).mono ?_; rintro e w4 ⟨a4, c4, b4, d4, rfl, hf4, hb⟩; clear tok1 _t; have hs2 := only_call hs1 hb; have HS2 := Lib.hid (below_call HS1.out hb); have Hd3 := Lib.hid (Hd3.out.keep hb); clear hb; have Hf4 := Lib.hid hf4; clear hf4; obtain ⟨p2, q2⟩ := (K2.out.keep HS2.out).at))
  replace K0 := Lib.hid (K0.out.keep HS2.out)
  replace K1 := Lib.hid (K1.out.keep HS2.out)
  replace K2 := Lib.hid (K2.out.keep HS2.out)
  replace HB := Lib.hid (below_call HB.out HS2.out)
  replace H1 := Lib.hid (H1.out.keep HS2.out)
  replace H2 := Lib.hid (H2.out.keep HS2.out)
  clear mk hs0 HS0 hs1 HS1 hs2 HS2  p2 q2
  go_wp2_with fail
  refine bodyPost_ret (results_box2 rfl _ _ (w.heap.size + 1 + 1) 26 _ _ _ rfl (K2.out.set4 _ _ _ _) Try.underlying26 rfl (by kernel_rfl)) rfl ?_
  refine ⟨a4, c4, b4, d4, rfl, ?_, ?_⟩
  · exact (Hf4.out.far0 K2.out zb4 (only_setCell (only_setCell (only_setCell (only_setCell (World.grownBy.refl _ _) _) _) _) _))
  · exact (Below.setCell (Below.setCell (Below.setCell (Below.setCell HB.out (by simp; try omega) _) (by simp; try omega) _) (by simp; try omega) _) (by simp; try omega) _)
set_option maxHeartbeats 4000000 in
theorem fracCompare_ok {q r : Rat} {a1 b1 a2 b2 : Option Addr} {c1 d1 c2 d2 : Nat} {w : World} (h1 : FD G w a1 c1 b1 d1 q) (h2 : FD G w a2 c2 b2 d2 r) (hx : Fz q 137438953472) (hy : Fz r 137438953472) :
    Calls Try.prog 37 #[.agg #[.int .i64 (sg (nu q)), .slice a1 (ln (nu q)) c1, .int .i64 (sg (de q)), .slice b1 (ln (de q)) d1], .agg #[.int .i64 (sg (nu r)), .slice a2 (ln (nu r)) c2, .int .i64 (sg (de r)), .slice b2 (ln (de r)) d2]] w fun e w' => e = .returned (.int .i64 (ordQ q r)) ∧ Below w.heap.size w w' := by
  have HX := Lib.hid hx
  have HY := Lib.hid hy
  have H1 := Lib.hid h1
  have H2 := Lib.hid h2
  clear hx hy h1 h2

  go_enter Try.func37, Try.ntmps37
  go_wp2_with fail
  refine (fracRight_ok (q := q) (H1.out.keep (by go_grown)) (HX.out.mono (by omega))).mono ?_
  rintro e w1 ⟨rfl, hb⟩
  have hbx := bx2 w 26 26 #[.int .i64 (sg (nu q)), .slice a1 (ln (nu q)) c1, .int .i64 (sg (de q)), .slice b1 (ln (de q)) d1] #[.int .i64 (sg (nu r)), .slice a2 (ln (nu r)) c2, .int .i64 (sg (de r)), .slice b2 (ln (de r)) d2]
  obtain ⟨k0, k1⟩ := hbx
  have K0 := Lib.hid (k0.keep hb)
  have K1 := Lib.hid (k1.keep hb)
  clear k0 k1
  have hb' : Below w.heap.size w w1 := below_call (by go_grown) hb
  have HB := Lib.hid hb'
  replace H1 := Lib.hid (H1.out.keep hb')
  replace H2 := Lib.hid (H2.out.keep hb')
  clear hb hb'
  have p0_0 : w1.cell? ⟨w.heap.size, 0, none⟩ = some (.int .i64 (sg (nu q))) := K0.out.at.1 0
  have q0_0 : w1.frozen? ⟨w.heap.size, 0, none⟩ = false := K0.out.at.2 0
  have p0_1 : w1.cell? ⟨w.heap.size, 1, none⟩ = some (.slice a1 (ln (nu q)) c1) := K0.out.at.1 1
  have q0_1 : w1.frozen? ⟨w.heap.size, 1, none⟩ = false := K0.out.at.2 1
  have p0_2 : w1.cell? ⟨w.heap.size, 2, none⟩ = some (.int .i64 (sg (de q))) := K0.out.at.1 2
  have q0_2 : w1.frozen? ⟨w.heap.size, 2, none⟩ = false := K0.out.at.2 2
  have p0_3 : w1.cell? ⟨w.heap.size, 3, none⟩ = some (.slice b1 (ln (de q)) d1) := K0.out.at.1 3
  have q0_3 : w1.frozen? ⟨w.heap.size, 3, none⟩ = false := K0.out.at.2 3
  have z0 : w.heap.size < w1.heap.size := K0.out.lt
  have p1_0 : w1.cell? ⟨w.heap.size + 1, 0, none⟩ = some (.int .i64 (sg (nu r))) := K1.out.at.1 0
  have q1_0 : w1.frozen? ⟨w.heap.size + 1, 0, none⟩ = false := K1.out.at.2 0
  have p1_1 : w1.cell? ⟨w.heap.size + 1, 1, none⟩ = some (.slice a2 (ln (nu r)) c2) := K1.out.at.1 1
  have q1_1 : w1.frozen? ⟨w.heap.size + 1, 1, none⟩ = false := K1.out.at.2 1
  have p1_2 : w1.cell? ⟨w.heap.size + 1, 2, none⟩ = some (.int .i64 (sg (de r))) := K1.out.at.1 2
  have q1_2 : w1.frozen? ⟨w.heap.size + 1, 2, none⟩ = false := K1.out.at.2 2
  have p1_3 : w1.cell? ⟨w.heap.size + 1, 3, none⟩ = some (.slice b2 (ln (de r)) d2) := K1.out.at.1 3
  have q1_3 : w1.frozen? ⟨w.heap.size + 1, 3, none⟩ = false := K1.out.at.2 3
  have z1 : w.heap.size + 1 < w1.heap.size := K1.out.lt
  go_wp2_with fail
  refine (fracRight_ok (q := r) (H2.out.keep (by go_grown)) (HY.out.mono (by omega))).mono ?_
  rintro e w2 ⟨rfl, hb⟩
  clear p0_0 q0_0 p0_1 q0_1 p0_2 q0_2 p0_3 q0_3 z0 p1_0 q1_0 p1_1 q1_1 p1_2 q1_2 p1_3 q1_3 z1
  have hb' := below_call (w1 := w1) (by go_grown) hb
  replace K0 := Lib.hid (K0.out.keep hb')
  replace K1 := Lib.hid (K1.out.keep hb')
  replace HB := Lib.hid (below_call HB.out hb')
  replace H1 := Lib.hid (H1.out.keep hb')
  replace H2 := Lib.hid (H2.out.keep hb')
  clear hb hb'
  have p0_0 : w2.cell? ⟨w.heap.size, 0, none⟩ = some (.int .i64 (sg (nu q))) := K0.out.at.1 0
  have q0_0 : w2.frozen? ⟨w.heap.size, 0, none⟩ = false := K0.out.at.2 0
  have p0_1 : w2.cell? ⟨w.heap.size, 1, none⟩ = some (.slice a1 (ln (nu q)) c1) := K0.out.at.1 1
  have q0_1 : w2.frozen? ⟨w.heap.size, 1, none⟩ = false := K0.out.at.2 1
  have p0_2 : w2.cell? ⟨w.heap.size, 2, none⟩ = some (.int .i64 (sg (de q))) := K0.out.at.1 2
  have q0_2 : w2.frozen? ⟨w.heap.size, 2, none⟩ = false := K0.out.at.2 2
  have p0_3 : w2.cell? ⟨w.heap.size, 3, none⟩ = some (.slice b1 (ln (de q)) d1) := K0.out.at.1 3
  have q0_3 : w2.frozen? ⟨w.heap.size, 3, none⟩ = false := K0.out.at.2 3
  have z0 : w.heap.size < w2.heap.size := K0.out.lt
  have p1_0 : w2.cell? ⟨w.heap.size + 1, 0, none⟩ = some (.int .i64 (sg (nu r))) := K1.out.at.1 0
  have q1_0 : w2.frozen? ⟨w.heap.size + 1, 0, none⟩ = false := K1.out.at.2 0
  have p1_1 : w2.cell? ⟨w.heap.size + 1, 1, none⟩ = some (.slice a2 (ln (nu r)) c2) := K1.out.at.1 1
  have q1_1 : w2.frozen? ⟨w.heap.size + 1, 1, none⟩ = false := K1.out.at.2 1
  have p1_2 : w2.cell? ⟨w.heap.size + 1, 2, none⟩ = some (.int .i64 (sg (de r))) := K1.out.at.1 2
  have q1_2 : w2.frozen? ⟨w.heap.size + 1, 2, none⟩ = false := K1.out.at.2 2
  have p1_3 : w2.cell? ⟨w.heap.size + 1, 3, none⟩ = some (.slice b2 (ln (de r)) d2) := K1.out.at.1 3
  have q1_3 : w2.frozen? ⟨w.heap.size + 1, 3, none⟩ = false := K1.out.at.2 3
  have z1 : w.heap.size + 1 < w2.heap.size := K1.out.lt
  go_wp2_with fail
  clear p0_0 q0_0 p0_1 q0_1 p0_2 q0_2 p0_3 q0_3 z0 p1_0 q1_0 p1_1 q1_1 p1_2 q1_2 p1_3 q1_3 z1
  have mk : Hid (∀ w', Below w2.heap.size w2 w' → w'.cell? ⟨w.heap.size, 0, none⟩ = some (.int .i64 (sg (nu q))) ∧ w'.cell? ⟨w.heap.size, 1, none⟩ = some (.slice a1 (ln (nu q)) c1) ∧ w'.cell? ⟨w.heap.size, 2, none⟩ = some (.int .i64 (sg (de q))) ∧ w'.cell? ⟨w.heap.size, 3, none⟩ = some (.slice b1 (ln (de q)) d1) ∧ w'.cell? ⟨w.heap.size + 1, 0, none⟩ = some (.int .i64 (sg (nu r))) ∧ w'.cell? ⟨w.heap.size + 1, 1, none⟩ = some (.slice a2 (ln (nu r)) c2) ∧ w'.cell? ⟨w.heap.size + 1, 2, none⟩ = some (.int .i64 (sg (de r))) ∧ w'.cell? ⟨w.heap.size + 1, 3, none⟩ = some (.slice b2 (ln (de r)) d2) ∧ Below w2.heap.size w2 w') := fun w' h => ⟨(K0.out.keep h).at.1 0, (K0.out.keep h).at.1 1, (K0.out.keep h).at.1 2, (K0.out.keep h).at.1 3, (K1.out.keep h).at.1 0, (K1.out.keep h).at.1 1, (K1.out.keep h).at.1 2, (K1.out.keep h).at.1 3, h⟩
  have hs0 : Below w2.heap.size w2 w2.drew := (Below.refl _ _).drew
  have HS0 : Hid (Below w2.heap.size w2 w2.drew) := (Below.refl _ _).drew
  have tok0 : True := trivial
  have tok1 : True := trivial
  have tok2 : True := trivial
  go_region_held3 (fun w' => w'.cell? ⟨w.heap.size, 0, none⟩ = some (.int .i64 (sg (nu q))) ∧ w'.cell? ⟨w.heap.size, 1, none⟩ = some (.slice a1 (ln (nu q)) c1) ∧ w'.cell? ⟨w.heap.size, 2, none⟩ = some (.int .i64 (sg (de q))) ∧ w'.cell? ⟨w.heap.size, 3, none⟩ = some (.slice b1 (ln (de q)) d1) ∧ w'.cell? ⟨w.heap.size + 1, 0, none⟩ = some (.int .i64 (sg (nu r))) ∧ w'.cell? ⟨w.heap.size + 1, 1, none⟩ = some (.slice a2 (ln (nu r)) c2) ∧ w'.cell? ⟨w.heap.size + 1, 2, none⟩ = some (.int .i64 (sg (de r))) ∧ w'.cell? ⟨w.heap.size + 1, 3, none⟩ = some (.slice b2 (ln (de r)) d2) ∧ Below w2.heap.size w2 w')
    (first | exact mk.out _ (by assumption) | exact mk.out _ (Below.alloc (by assumption) (Below.size (by assumption)) _))
    (first
      | (go_at_call 44; have _t := tok0; refine (times_ok (x := nu q) (y := de r) (H1.out.keep HS0.out).n (H2.out.keep HS0.out).d (HX.out.1.mono (by omega)) (HY.out.2.mono (by omega))).mono ?_; rintro e w3 ⟨a3, c3, rfl, hd3, hb⟩; clear tok0 _t; have hs1 := below_call hs0 hb; have HS1 := Lib.hid (below_call HS0.out hb); clear hb; have Hd3 := Lib.hid hd3; clear hd3)
      | (go_at_call 44; have _t := tok1; refine (times_ok (x := nu r) (y := de q) (H2.out.keep HS1.out).n (H1.out.keep HS1.out).d (HY.out.1.mono (by omega)) (HX.out.2.mono (by omega))).mono ?_; rintro e w4 ⟨a4, c4, rfl, hd4, hb⟩; clear tok1 _t; have hs2 := below_call hs1 hb; have HS2 := Lib.hid (below_call HS1.out hb); have Hd3 := Lib.hid (Hd3.out.keep hb); clear hb; have Hd4 := Lib.hid hd4; clear hd4)
      | (go_at_call 56; have _t := tok2; refine (bigCompare_ok Hd3.out Hd4.out ((HX.out.1.mul HY.out.2).mono (by omega)) ((HY.out.1.mul HX.out.2).mono (by omega))).mono ?_; rintro e w5 ⟨rfl, hb⟩; clear tok2 _t; have hs3 := below_call hs2 hb; have HS3 := Lib.hid (below_call HS2.out hb); have Hd3 := Lib.hid (Hd3.out.keep hb); have Hd4 := Lib.hid (Hd4.out.keep hb); clear hb))
  replace K0 := Lib.hid (K0.out.keep HS3.out)
  replace K1 := Lib.hid (K1.out.keep HS3.out)
  replace HB := Lib.hid (below_call HB.out HS3.out)
  replace H1 := Lib.hid (H1.out.keep HS3.out)
  replace H2 := Lib.hid (H2.out.keep HS3.out)
  clear mk hs0 HS0 hs1 HS1 hs2 HS2 hs3 HS3
  have p0_0 : w5.cell? ⟨w.heap.size, 0, none⟩ = some (.int .i64 (sg (nu q))) := K0.out.at.1 0
  have q0_0 : w5.frozen? ⟨w.heap.size, 0, none⟩ = false := K0.out.at.2 0
  have p0_1 : w5.cell? ⟨w.heap.size, 1, none⟩ = some (.slice a1 (ln (nu q)) c1) := K0.out.at.1 1
  have q0_1 : w5.frozen? ⟨w.heap.size, 1, none⟩ = false := K0.out.at.2 1
  have p0_2 : w5.cell? ⟨w.heap.size, 2, none⟩ = some (.int .i64 (sg (de q))) := K0.out.at.1 2
  have q0_2 : w5.frozen? ⟨w.heap.size, 2, none⟩ = false := K0.out.at.2 2
  have p0_3 : w5.cell? ⟨w.heap.size, 3, none⟩ = some (.slice b1 (ln (de q)) d1) := K0.out.at.1 3
  have q0_3 : w5.frozen? ⟨w.heap.size, 3, none⟩ = false := K0.out.at.2 3
  have z0 : w.heap.size < w5.heap.size := K0.out.lt
  have p1_0 : w5.cell? ⟨w.heap.size + 1, 0, none⟩ = some (.int .i64 (sg (nu r))) := K1.out.at.1 0
  have q1_0 : w5.frozen? ⟨w.heap.size + 1, 0, none⟩ = false := K1.out.at.2 0
  have p1_1 : w5.cell? ⟨w.heap.size + 1, 1, none⟩ = some (.slice a2 (ln (nu r)) c2) := K1.out.at.1 1
  have q1_1 : w5.frozen? ⟨w.heap.size + 1, 1, none⟩ = false := K1.out.at.2 1
  have p1_2 : w5.cell? ⟨w.heap.size + 1, 2, none⟩ = some (.int .i64 (sg (de r))) := K1.out.at.1 2
  have q1_2 : w5.frozen? ⟨w.heap.size + 1, 2, none⟩ = false := K1.out.at.2 2
  have p1_3 : w5.cell? ⟨w.heap.size + 1, 3, none⟩ = some (.slice b2 (ln (de r)) d2) := K1.out.at.1 3
  have q1_3 : w5.frozen? ⟨w.heap.size + 1, 3, none⟩ = false := K1.out.at.2 3
  have z1 : w.heap.size + 1 < w5.heap.size := K1.out.lt
  go_wp2_with fail
  go_ret
  exact ⟨ret_int (ord_parts q r), HB.out⟩
set_option maxHeartbeats 4000000 in
theorem slim_ok {x : Int} {a1 : Option Addr} {c1 : Nat} {w : World} (h1 : BD G w a1 c1 x) (hx : Sz x 549755813888) :
    Calls Try.prog 60 #[.agg #[.int .i64 (sg x), .slice a1 (ln x) c1]] w fun e w' => ∃ a c, e = .returned (.agg #[.int .i64 (sg x), .slice a (ln x) c]) ∧ BD G w' a c x ∧ Below w.heap.size w w' := by
  have HX := Lib.hid hx
  have H1 := Lib.hid h1
  have HN := Lib.hid (Int.neg_neg x)
  clear hx h1

  go_enter Try.func60, Try.ntmps60
  go_wp2_with fail
  refine (bigNeg_ok (H1.out.keep (by go_grown)) HX.out).mono ?_
  rintro e w1 ⟨a3, c3, rfl, hd3, hb⟩
  have hbx := bx2 w 24 24 #[.int .i64 (sg x), .slice a1 (ln x) c1] #[.int .i64 0, .slice none 0 0]
  obtain ⟨k0, k1⟩ := hbx
  have K0 := Lib.hid (k0.keep hb)
  have K1 := Lib.hid (k1.keep hb)
  clear k0 k1
  have hb' : Below w.heap.size w w1 := below_call (by go_grown) hb
  have HB := Lib.hid hb'
  replace H1 := Lib.hid (H1.out.keep hb')
  clear hb hb'
  have Hd3 := Lib.hid hd3; clear hd3
  have p0_0 : w1.cell? ⟨w.heap.size, 0, none⟩ = some (.int .i64 (sg x)) := K0.out.at.1 0
  have q0_0 : w1.frozen? ⟨w.heap.size, 0, none⟩ = false := K0.out.at.2 0
  have p0_1 : w1.cell? ⟨w.heap.size, 1, none⟩ = some (.slice a1 (ln x) c1) := K0.out.at.1 1
  have q0_1 : w1.frozen? ⟨w.heap.size, 1, none⟩ = false := K0.out.at.2 1
  have z0 : w.heap.size < w1.heap.size := K0.out.lt
  have p1_0 : w1.cell? ⟨w.heap.size + 1, 0, none⟩ = some (.int .i64 0) := K1.out.at.1 0
  have q1_0 : w1.frozen? ⟨w.heap.size + 1, 0, none⟩ = false := K1.out.at.2 0
  have p1_1 : w1.cell? ⟨w.heap.size + 1, 1, none⟩ = some (.slice none 0 0) := K1.out.at.1 1
  have q1_1 : w1.frozen? ⟨w.heap.size + 1, 1, none⟩ = false := K1.out.at.2 1
  have z1 : w.heap.size + 1 < w1.heap.size := K1.out.lt
  go_wp2_with fail
  refine (bigNeg_ok (Hd3.out.keep (by go_grown)) HX.out.neg).mono ?_
  rintro e w2 ⟨a4, c4, rfl, hd4, hb⟩
  clear p0_0 q0_0 p0_1 q0_1 z0 p1_0 q1_0 p1_1 q1_1 z1
  have hb' := below_call (w1 := w1) (by go_grown) hb
  replace K0 := Lib.hid (K0.out.keep hb')
  replace K1 := Lib.hid (K1.out.keep hb')
  replace HB := Lib.hid (below_call HB.out hb')
  replace H1 := Lib.hid (H1.out.keep hb')
  replace Hd3 := Lib.hid (Hd3.out.keep hb')
  clear hb hb'
  have Hd4 := Lib.hid hd4; clear hd4
  have p0_0 : w2.cell? ⟨w.heap.size, 0, none⟩ = some (.int .i64 (sg x)) := K0.out.at.1 0
  have q0_0 : w2.frozen? ⟨w.heap.size, 0, none⟩ = false := K0.out.at.2 0
  have p0_1 : w2.cell? ⟨w.heap.size, 1, none⟩ = some (.slice a1 (ln x) c1) := K0.out.at.1 1
  have q0_1 : w2.frozen? ⟨w.heap.size, 1, none⟩ = false := K0.out.at.2 1
  have z0 : w.heap.size < w2.heap.size := K0.out.lt
  have p1_0 : w2.cell? ⟨w.heap.size + 1, 0, none⟩ = some (.int .i64 0) := K1.out.at.1 0
  have q1_0 : w2.frozen? ⟨w.heap.size + 1, 0, none⟩ = false := K1.out.at.2 0
  have p1_1 : w2.cell? ⟨w.heap.size + 1, 1, none⟩ = some (.slice none 0 0) := K1.out.at.1 1
  have q1_1 : w2.frozen? ⟨w.heap.size + 1, 1, none⟩ = false := K1.out.at.2 1
  have z1 : w.heap.size + 1 < w2.heap.size := K1.out.lt
  rw [HN.out] at Hd4 ⊢
  go_wp2_with fail
  clear p0_0 q0_0 p0_1 q0_1 z0 p1_0 q1_0 p1_1 q1_1 z1
  refine bodyPost_ret (results_box1 rfl _ _ (w.heap.size + 1) 24 _ _ _ rfl (K1.out.set2 _ _) Try.underlying24 rfl (by kernel_rfl)) rfl ?_
  refine ⟨a4, c4, rfl, ?_, ?_⟩
  · exact (Hd4.out.far0 K1.out zb2 (only_setCell (only_setCell (World.grownBy.refl _ _) _) _))
  · exact (Below.setCell (Below.setCell HB.out (by simp; try omega) _) (by simp; try omega) _)
def pick (q r : Rat) (s : Int) : Rat := if ordQ q r * s < 0 then r else q
theorem ordQ_cases (q r : Rat) : ordQ q r = 1 ∨ ordQ q r = -1 ∨ ordQ q r = 0 := by unfold ordQ; split <;> (try split) <;> simp
theorem wrap_ordQ (q r : Rat) {s : Int} (h : s = 1 ∨ s = -1) : IntKind.i64.wrap (ordQ q r * s) = ordQ q r * s := by
  rcases ordQ_cases q r with h1 | h1 | h1 <;> rcases h with h2 | h2 <;> rw [h1, h2] <;> rfl
set_option maxHeartbeats 4000000 in
theorem either_fst {q r : Rat} {a1 b1 a2 b2 : Option Addr} {c1 d1 c2 d2 : Nat} {w : World} (h1 : FD G w a1 c1 b1 d1 q) (h2 : FD G w a2 c2 b2 d2 r) (hx : Fz q 137438953472) (hy : Fz r 137438953472) {s : Int} (hs : s = 1 ∨ s = -1) (hp : ¬ ordQ q r * s < 0) :
    Calls Try.prog 73 #[.agg #[.int .i64 (sg (nu q)), .slice a1 (ln (nu q)) c1, .int .i64 (sg (de q)), .slice b1 (ln (de q)) d1], .agg #[.int .i64 (sg (nu r)), .slice a2 (ln (nu r)) c2, .int .i64 (sg (de r)), .slice b2 (ln (de r)) d2], .int .i64 s] w fun e w' => ∃ a c b d, e = .returned (.tuple #[.agg #[.int .i64 (sg (nu q)), .slice a (ln (nu q)) c, .int .i64 (sg (de q)), .slice b (ln (de q)) d], .int .i64 0]) ∧ FD G w' a c b d q ∧ Below w.heap.size w w' := by
  have HX := Lib.hid hx
  have HY := Lib.hid hy
  have H1 := Lib.hid h1
  have H2 := Lib.hid h2
  clear hx hy h1 h2

  have H20 := H2
  have hws := wrap_ordQ q r hs
  have e1 : decide (ordQ q r * s < 0) = false := by rw [decide_eq_false_iff_not]; exact hp
  clear hp hs

  go_enter Try.func73, Try.ntmps73
  go_wp2_with fail
  refine (fracRight_ok (q := q) (H1.out.keep (by go_grown)) (HX.out.mono (by omega))).mono ?_
  rintro e w1 ⟨rfl, hb⟩
  have hbx := bx3 w 26 26 26 #[.int .i64 (sg (nu q)), .slice a1 (ln (nu q)) c1, .int .i64 (sg (de q)), .slice b1 (ln (de q)) d1] #[.int .i64 (sg (nu r)), .slice a2 (ln (nu r)) c2, .int .i64 (sg (de r)), .slice b2 (ln (de r)) d2] #[.int .i64 0, .slice none 0 0, .int .i64 0, .slice none 0 0]
  obtain ⟨k0, k1, k2⟩ := hbx
  have K0 := Lib.hid (k0.keep hb)
  have K1 := Lib.hid (k1.keep hb)
  have K2 := Lib.hid (k2.keep hb)
  clear k0 k1 k2
  have hb' : Below w.heap.size w w1 := below_call (by go_grown) hb
  have HB := Lib.hid hb'
  replace H1 := Lib.hid (H1.out.keep hb')
  replace H2 := Lib.hid (H2.out.keep hb')
  clear hb hb'
  have p0_0 : w1.cell? ⟨w.heap.size, 0, none⟩ = some (.int .i64 (sg (nu q))) := K0.out.at.1 0
  have q0_0 : w1.frozen? ⟨w.heap.size, 0, none⟩ = false := K0.out.at.2 0
  have p0_1 : w1.cell? ⟨w.heap.size, 1, none⟩ = some (.slice a1 (ln (nu q)) c1) := K0.out.at.1 1
  have q0_1 : w1.frozen? ⟨w.heap.size, 1, none⟩ = false := K0.out.at.2 1
  have p0_2 : w1.cell? ⟨w.heap.size, 2, none⟩ = some (.int .i64 (sg (de q))) := K0.out.at.1 2
  have q0_2 : w1.frozen? ⟨w.heap.size, 2, none⟩ = false := K0.out.at.2 2
  have p0_3 : w1.cell? ⟨w.heap.size, 3, none⟩ = some (.slice b1 (ln (de q)) d1) := K0.out.at.1 3
  have q0_3 : w1.frozen? ⟨w.heap.size, 3, none⟩ = false := K0.out.at.2 3
  have z0 : w.heap.size < w1.heap.size := K0.out.lt
  have p1_0 : w1.cell? ⟨w.heap.size + 1, 0, none⟩ = some (.int .i64 (sg (nu r))) := K1.out.at.1 0
  have q1_0 : w1.frozen? ⟨w.heap.size + 1, 0, none⟩ = false := K1.out.at.2 0
  have p1_1 : w1.cell? ⟨w.heap.size + 1, 1, none⟩ = some (.slice a2 (ln (nu r)) c2) := K1.out.at.1 1
  have q1_1 : w1.frozen? ⟨w.heap.size + 1, 1, none⟩ = false := K1.out.at.2 1
  have p1_2 : w1.cell? ⟨w.heap.size + 1, 2, none⟩ = some (.int .i64 (sg (de r))) := K1.out.at.1 2
  have q1_2 : w1.frozen? ⟨w.heap.size + 1, 2, none⟩ = false := K1.out.at.2 2
  have p1_3 : w1.cell? ⟨w.heap.size + 1, 3, none⟩ = some (.slice b2 (ln (de r)) d2) := K1.out.at.1 3
  have q1_3 : w1.frozen? ⟨w.heap.size + 1, 3, none⟩ = false := K1.out.at.2 3
  have z1 : w.heap.size + 1 < w1.heap.size := K1.out.lt
  have p2_0 : w1.cell? ⟨w.heap.size + 1 + 1, 0, none⟩ = some (.int .i64 0) := K2.out.at.1 0
  have q2_0 : w1.frozen? ⟨w.heap.size + 1 + 1, 0, none⟩ = false := K2.out.at.2 0
  have p2_1 : w1.cell? ⟨w.heap.size + 1 + 1, 1, none⟩ = some (.slice none 0 0) := K2.out.at.1 1
  have q2_1 : w1.frozen? ⟨w.heap.size + 1 + 1, 1, none⟩ = false := K2.out.at.2 1
  have p2_2 : w1.cell? ⟨w.heap.size + 1 + 1, 2, none⟩ = some (.int .i64 0) := K2.out.at.1 2
  have q2_2 : w1.frozen? ⟨w.heap.size + 1 + 1, 2, none⟩ = false := K2.out.at.2 2
  have p2_3 : w1.cell? ⟨w.heap.size + 1 + 1, 3, none⟩ = some (.slice none 0 0) := K2.out.at.1 3
  have q2_3 : w1.frozen? ⟨w.heap.size + 1 + 1, 3, none⟩ = false := K2.out.at.2 3
  have z2 : w.heap.size + 1 + 1 < w1.heap.size := K2.out.lt
  go_wp2_with fail
  refine (fracRight_ok (q := r) (H2.out.keep (by go_grown)) (HY.out.mono (by omega))).mono ?_
  rintro e w2 ⟨rfl, hb⟩
  clear p0_0 q0_0 p0_1 q0_1 p0_2 q0_2 p0_3 q0_3 z0 p1_0 q1_0 p1_1 q1_1 p1_2 q1_2 p1_3 q1_3 z1 p2_0 q2_0 p2_1 q2_1 p2_2 q2_2 p2_3 q2_3 z2
  have hb' := below_call (w1 := w1) (by go_grown) hb
  replace K0 := Lib.hid (K0.out.keep hb')
  replace K1 := Lib.hid (K1.out.keep hb')
  replace K2 := Lib.hid (K2.out.keep hb')
  replace HB := Lib.hid (below_call HB.out hb')
  replace H1 := Lib.hid (H1.out.keep hb')
  replace H2 := Lib.hid (H2.out.keep hb')
  clear hb hb'
  have p0_0 : w2.cell? ⟨w.heap.size, 0, none⟩ = some (.int .i64 (sg (nu q))) := K0.out.at.1 0
  have q0_0 : w2.frozen? ⟨w.heap.size, 0, none⟩ = false := K0.out.at.2 0
  have p0_1 : w2.cell? ⟨w.heap.size, 1, none⟩ = some (.slice a1 (ln (nu q)) c1) := K0.out.at.1 1
  have q0_1 : w2.frozen? ⟨w.heap.size, 1, none⟩ = false := K0.out.at.2 1
  have p0_2 : w2.cell? ⟨w.heap.size, 2, none⟩ = some (.int .i64 (sg (de q))) := K0.out.at.1 2
  have q0_2 : w2.frozen? ⟨w.heap.size, 2, none⟩ = false := K0.out.at.2 2
  have p0_3 : w2.cell? ⟨w.heap.size, 3, none⟩ = some (.slice b1 (ln (de q)) d1) := K0.out.at.1 3
  have q0_3 : w2.frozen? ⟨w.heap.size, 3, none⟩ = false := K0.out.at.2 3
  have z0 : w.heap.size < w2.heap.size := K0.out.lt
  have p1_0 : w2.cell? ⟨w.heap.size + 1, 0, none⟩ = some (.int .i64 (sg (nu r))) := K1.out.at.1 0
  have q1_0 : w2.frozen? ⟨w.heap.size + 1, 0, none⟩ = false := K1.out.at.2 0
  have p1_1 : w2.cell? ⟨w.heap.size + 1, 1, none⟩ = some (.slice a2 (ln (nu r)) c2) := K1.out.at.1 1
  have q1_1 : w2.frozen? ⟨w.heap.size + 1, 1, none⟩ = false := K1.out.at.2 1
  have p1_2 : w2.cell? ⟨w.heap.size + 1, 2, none⟩ = some (.int .i64 (sg (de r))) := K1.out.at.1 2
  have q1_2 : w2.frozen? ⟨w.heap.size + 1, 2, none⟩ = false := K1.out.at.2 2
  have p1_3 : w2.cell? ⟨w.heap.size + 1, 3, none⟩ = some (.slice b2 (ln (de r)) d2) := K1.out.at.1 3
  have q1_3 : w2.frozen? ⟨w.heap.size + 1, 3, none⟩ = false := K1.out.at.2 3
  have z1 : w.heap.size + 1 < w2.heap.size := K1.out.lt
  have p2_0 : w2.cell? ⟨w.heap.size + 1 + 1, 0, none⟩ = some (.int .i64 0) := K2.out.at.1 0
  have q2_0 : w2.frozen? ⟨w.heap.size + 1 + 1, 0, none⟩ = false := K2.out.at.2 0
  have p2_1 : w2.cell? ⟨w.heap.size + 1 + 1, 1, none⟩ = some (.slice none 0 0) := K2.out.at.1 1
  have q2_1 : w2.frozen? ⟨w.heap.size + 1 + 1, 1, none⟩ = false := K2.out.at.2 1
  have p2_2 : w2.cell? ⟨w.heap.size + 1 + 1, 2, none⟩ = some (.int .i64 0) := K2.out.at.1 2
  have q2_2 : w2.frozen? ⟨w.heap.size + 1 + 1, 2, none⟩ = false := K2.out.at.2 2
  have p2_3 : w2.cell? ⟨w.heap.size + 1 + 1, 3, none⟩ = some (.slice none 0 0) := K2.out.at.1 3
  have q2_3 : w2.frozen? ⟨w.heap.size + 1 + 1, 3, none⟩ = false := K2.out.at.2 3
  have z2 : w.heap.size + 1 + 1 < w2.heap.size := K2.out.lt
  go_wp2_with fail
  refine (fracCompare_ok (H1.out.keep (by go_grown)) (H2.out.keep (by go_grown)) HX.out HY.out).mono ?_
  rintro e w3 ⟨rfl, hb⟩
  clear p0_0 q0_0 p0_1 q0_1 p0_2 q0_2 p0_3 q0_3 z0 p1_0 q1_0 p1_1 q1_1 p1_2 q1_2 p1_3 q1_3 z1 p2_0 q2_0 p2_1 q2_1 p2_2 q2_2 p2_3 q2_3 z2
  have hb' := below_call (w1 := w2) (by go_grown) hb
  replace K0 := Lib.hid (K0.out.keep hb')
  replace K1 := Lib.hid (K1.out.keep hb')
  replace K2 := Lib.hid (K2.out.keep hb')
  replace HB := Lib.hid (below_call HB.out hb')
  replace H1 := Lib.hid (H1.out.keep hb')
  replace H2 := Lib.hid (H2.out.keep hb')
  clear hb hb'
  have p0_0 : w3.cell? ⟨w.heap.size, 0, none⟩ = some (.int .i64 (sg (nu q))) := K0.out.at.1 0
  have q0_0 : w3.frozen? ⟨w.heap.size, 0, none⟩ = false := K0.out.at.2 0
  have p0_1 : w3.cell? ⟨w.heap.size, 1, none⟩ = some (.slice a1 (ln (nu q)) c1) := K0.out.at.1 1
  have q0_1 : w3.frozen? ⟨w.heap.size, 1, none⟩ = false := K0.out.at.2 1
  have p0_2 : w3.cell? ⟨w.heap.size, 2, none⟩ = some (.int .i64 (sg (de q))) := K0.out.at.1 2
  have q0_2 : w3.frozen? ⟨w.heap.size, 2, none⟩ = false := K0.out.at.2 2
  have p0_3 : w3.cell? ⟨w.heap.size, 3, none⟩ = some (.slice b1 (ln (de q)) d1) := K0.out.at.1 3
  have q0_3 : w3.frozen? ⟨w.heap.size, 3, none⟩ = false := K0.out.at.2 3
  have z0 : w.heap.size < w3.heap.size := K0.out.lt
  have p1_0 : w3.cell? ⟨w.heap.size + 1, 0, none⟩ = some (.int .i64 (sg (nu r))) := K1.out.at.1 0
  have q1_0 : w3.frozen? ⟨w.heap.size + 1, 0, none⟩ = false := K1.out.at.2 0
  have p1_1 : w3.cell? ⟨w.heap.size + 1, 1, none⟩ = some (.slice a2 (ln (nu r)) c2) := K1.out.at.1 1
  have q1_1 : w3.frozen? ⟨w.heap.size + 1, 1, none⟩ = false := K1.out.at.2 1
  have p1_2 : w3.cell? ⟨w.heap.size + 1, 2, none⟩ = some (.int .i64 (sg (de r))) := K1.out.at.1 2
  have q1_2 : w3.frozen? ⟨w.heap.size + 1, 2, none⟩ = false := K1.out.at.2 2
  have p1_3 : w3.cell? ⟨w.heap.size + 1, 3, none⟩ = some (.slice b2 (ln (de r)) d2) := K1.out.at.1 3
  have q1_3 : w3.frozen? ⟨w.heap.size + 1, 3, none⟩ = false := K1.out.at.2 3
  have z1 : w.heap.size + 1 < w3.heap.size := K1.out.lt
  have p2_0 : w3.cell? ⟨w.heap.size + 1 + 1, 0, none⟩ = some (.int .i64 0) := K2.out.at.1 0
  have q2_0 : w3.frozen? ⟨w.heap.size + 1 + 1, 0, none⟩ = false := K2.out.at.2 0
  have p2_1 : w3.cell? ⟨w.heap.size + 1 + 1, 1, none⟩ = some (.slice none 0 0) := K2.out.at.1 1
  have q2_1 : w3.frozen? ⟨w.heap.size + 1 + 1, 1, none⟩ = false := K2.out.at.2 1
  have p2_2 : w3.cell? ⟨w.heap.size + 1 + 1, 2, none⟩ = some (.int .i64 0) := K2.out.at.1 2
  have q2_2 : w3.frozen? ⟨w.heap.size + 1 + 1, 2, none⟩ = false := K2.out.at.2 2
  have p2_3 : w3.cell? ⟨w.heap.size + 1 + 1, 3, none⟩ = some (.slice none 0 0) := K2.out.at.1 3
  have q2_3 : w3.frozen? ⟨w.heap.size + 1 + 1, 3, none⟩ = false := K2.out.at.2 3
  have z2 : w.heap.size + 1 + 1 < w3.heap.size := K2.out.lt
  go_wp2_with fail
  clear p0_0 q0_0 p0_1 q0_1 p0_2 q0_2 p0_3 q0_3 z0 p1_0 q1_0 p1_1 q1_1 p1_2 q1_2 p1_3 q1_3 z1 p2_0 q2_0 p2_1 q2_1 p2_2 q2_2 p2_3 q2_3 z2
  have mk : Hid (∀ w', w3.grownBy w' (some (w.heap.size + 1 + 1)) → w'.cell? ⟨w.heap.size, 0, none⟩ = some (.int .i64 (sg (nu q))) ∧ w'.cell? ⟨w.heap.size, 1, none⟩ = some (.slice a1 (ln (nu q)) c1) ∧ w'.cell? ⟨w.heap.size, 2, none⟩ = some (.int .i64 (sg (de q))) ∧ w'.cell? ⟨w.heap.size, 3, none⟩ = some (.slice b1 (ln (de q)) d1) ∧ w'.cell? ⟨w.heap.size + 1, 0, none⟩ = some (.int .i64 (sg (nu r))) ∧ w'.cell? ⟨w.heap.size + 1, 1, none⟩ = some (.slice a2 (ln (nu r)) c2) ∧ w'.cell? ⟨w.heap.size + 1, 2, none⟩ = some (.int .i64 (sg (de r))) ∧ w'.cell? ⟨w.heap.size + 1, 3, none⟩ = some (.slice b2 (ln (de r)) d2) ∧ w3.grownBy w' (some (w.heap.size + 1 + 1))) := fun w' h => ⟨(K0.out.only h (by omega)).at.1 0, (K0.out.only h (by omega)).at.1 1, (K0.out.only h (by omega)).at.1 2, (K0.out.only h (by omega)).at.1 3, (K1.out.only h (by omega)).at.1 0, (K1.out.only h (by omega)).at.1 1, (K1.out.only h (by omega)).at.1 2, (K1.out.only h (by omega)).at.1 3, h⟩
  have hs0 : w3.grownBy w3.drew (some (w.heap.size + 1 + 1)) := only_start _ _
  have HS0 : Hid (Below w3.heap.size w3 w3.drew) := (Below.refl _ _).drew
  have tok0 : True := trivial
  have tok1 : True := trivial
  go_region_held3 (fun w' => w'.cell? ⟨w.heap.size, 0, none⟩ = some (.int .i64 (sg (nu q))) ∧ w'.cell? ⟨w.heap.size, 1, none⟩ = some (.slice a1 (ln (nu q)) c1) ∧ w'.cell? ⟨w.heap.size, 2, none⟩ = some (.int .i64 (sg (de q))) ∧ w'.cell? ⟨w.heap.size, 3, none⟩ = some (.slice b1 (ln (de q)) d1) ∧ w'.cell? ⟨w.heap.size + 1, 0, none⟩ = some (.int .i64 (sg (nu r))) ∧ w'.cell? ⟨w.heap.size + 1, 1, none⟩ = some (.slice a2 (ln (nu r)) c2) ∧ w'.cell? ⟨w.heap.size + 1, 2, none⟩ = some (.int .i64 (sg (de r))) ∧ w'.cell? ⟨w.heap.size + 1, 3, none⟩ = some (.slice b2 (ln (de r)) d2) ∧ w3.grownBy w' (some (w.heap.size + 1 + 1)))
    (first | exact mk.out _ (by assumption) | exact mk.out _ (only_setCell (only_setCell (only_setCell (only_setCell (by assumption) _) _) _) _) | exact mk.out _ (only_alloc (by assumption) _))
    (first
      | (go_at_call 60; have _t := tok0; refine (slim_ok (x := nu q) (H1.out.keep HS0.out).n (HX.out.1.mono (by omega))).mono ?_; rintro e w4 ⟨a5, c5, rfl, hd5, hb⟩; clear tok0 _t; have hs1 := only_call hs0 hb; have HS1 := Lib.hid (below_call HS0.out hb); clear hb; have Hd5 := Lib.hid hd5; clear hd5)
      | (go_at_call 60; have _t := tok1; refine (slim_ok (x := de q) (H1.out.keep HS1.out).d (HX.out.2.mono (by omega))).mono ?_; rintro e w5 ⟨a6, c6, rfl, hd6, hb⟩; clear tok1 _t; have hs2 := only_call hs1 hb; have HS2 := Lib.hid (below_call HS1.out hb); have Hd5 := Lib.hid (Hd5.out.keep hb); clear hb; have Hd6 := Lib.hid hd6; clear hd6; obtain ⟨p2, q2⟩ := (K2.out.keep HS2.out).at))
  replace K0 := Lib.hid (K0.out.keep HS2.out)
  replace K1 := Lib.hid (K1.out.keep HS2.out)
  replace K2 := Lib.hid (K2.out.keep HS2.out)
  replace HB := Lib.hid (below_call HB.out HS2.out)
  replace H1 := Lib.hid (H1.out.keep HS2.out)
  replace H2 := Lib.hid (H2.out.keep HS2.out)
  clear mk hs0 HS0 hs1 HS1 hs2 HS2  p2 q2
  go_wp2_with fail
  have HF : Hid (FD G w5 a5 c5 a6 c6 q) := FD.mk Hd5.out Hd6.out
  refine bodyPost_ret (results_box2 rfl _ _ (w.heap.size + 1 + 1) 26 _ _ _ rfl (K2.out.set4 _ _ _ _) Try.underlying26 rfl (by kernel_rfl)) rfl ?_
  refine ⟨a5, c5, a6, c6, rfl, ?_, ?_⟩
  · exact (HF.out.far0 K2.out zb4 (only_setCell (only_setCell (only_setCell (only_setCell (World.grownBy.refl _ _) _) _) _) _))
  · exact (Below.setCell (Below.setCell (Below.setCell (Below.setCell HB.out (by simp; try omega) _) (by simp; try omega) _) (by simp; try omega) _) (by simp; try omega) _)
set_option maxHeartbeats 4000000 in
theorem either_snd {q r : Rat} {a1 b1 a2 b2 : Option Addr} {c1 d1 c2 d2 : Nat} {w : World} (h1 : FD G w a1 c1 b1 d1 q) (h2 : FD G w a2 c2 b2 d2 r) (hx : Fz q 137438953472) (hy : Fz r 137438953472) {s : Int} (hs : s = 1 ∨ s = -1) (hp : ordQ q r * s < 0) :
    Calls Try.prog 73 #[.agg #[.int .i64 (sg (nu q)), .slice a1 (ln (nu q)) c1, .int .i64 (sg (de q)), .slice b1 (ln (de q)) d1], .agg #[.int .i64 (sg (nu r)), .slice a2 (ln (nu r)) c2, .int .i64 (sg (de r)), .slice b2 (ln (de r)) d2], .int .i64 s] w fun e w' => ∃ a c b d, e = .returned (.tuple #[.agg #[.int .i64 (sg (nu r)), .slice a (ln (nu r)) c, .int .i64 (sg (de r)), .slice b (ln (de r)) d], .int .i64 0]) ∧ FD G w' a c b d r ∧ Below w.heap.size w w' := by
  have HX := Lib.hid hx
  have HY := Lib.hid hy
  have H1 := Lib.hid h1
  have H2 := Lib.hid h2
  clear hx hy h1 h2

  have H20 := H2
  have hws := wrap_ordQ q r hs
  have e1 : decide (ordQ q r * s < 0) = true := by rw [decide_eq_true_eq]; exact hp
  clear hp hs

  go_enter Try.func73, Try.ntmps73
  go_wp2_with fail
  refine (fracRight_ok (q := q) (H1.out.keep (by go_grown)) (HX.out.mono (by omega))).mono ?_
  rintro e w1 ⟨rfl, hb⟩
  have hbx := bx3 w 26 26 26 #[.int .i64 (sg (nu q)), .slice a1 (ln (nu q)) c1, .int .i64 (sg (de q)), .slice b1 (ln (de q)) d1] #[.int .i64 (sg (nu r)), .slice a2 (ln (nu r)) c2, .int .i64 (sg (de r)), .slice b2 (ln (de r)) d2] #[.int .i64 0, .slice none 0 0, .int .i64 0, .slice none 0 0]
  obtain ⟨k0, k1, k2⟩ := hbx
  have K0 := Lib.hid (k0.keep hb)
  have K1 := Lib.hid (k1.keep hb)
  have K2 := Lib.hid (k2.keep hb)
  clear k0 k1 k2
  have hb' : Below w.heap.size w w1 := below_call (by go_grown) hb
  have HB := Lib.hid hb'
  replace H1 := Lib.hid (H1.out.keep hb')
  replace H2 := Lib.hid (H2.out.keep hb')
  clear hb hb'
  have p0_0 : w1.cell? ⟨w.heap.size, 0, none⟩ = some (.int .i64 (sg (nu q))) := K0.out.at.1 0
  have q0_0 : w1.frozen? ⟨w.heap.size, 0, none⟩ = false := K0.out.at.2 0
  have p0_1 : w1.cell? ⟨w.heap.size, 1, none⟩ = some (.slice a1 (ln (nu q)) c1) := K0.out.at.1 1
  have q0_1 : w1.frozen? ⟨w.heap.size, 1, none⟩ = false := K0.out.at.2 1
  have p0_2 : w1.cell? ⟨w.heap.size, 2, none⟩ = some (.int .i64 (sg (de q))) := K0.out.at.1 2
  have q0_2 : w1.frozen? ⟨w.heap.size, 2, none⟩ = false := K0.out.at.2 2
  have p0_3 : w1.cell? ⟨w.heap.size, 3, none⟩ = some (.slice b1 (ln (de q)) d1) := K0.out.at.1 3
  have q0_3 : w1.frozen? ⟨w.heap.size, 3, none⟩ = false := K0.out.at.2 3
  have z0 : w.heap.size < w1.heap.size := K0.out.lt
  have p1_0 : w1.cell? ⟨w.heap.size + 1, 0, none⟩ = some (.int .i64 (sg (nu r))) := K1.out.at.1 0
  have q1_0 : w1.frozen? ⟨w.heap.size + 1, 0, none⟩ = false := K1.out.at.2 0
  have p1_1 : w1.cell? ⟨w.heap.size + 1, 1, none⟩ = some (.slice a2 (ln (nu r)) c2) := K1.out.at.1 1
  have q1_1 : w1.frozen? ⟨w.heap.size + 1, 1, none⟩ = false := K1.out.at.2 1
  have p1_2 : w1.cell? ⟨w.heap.size + 1, 2, none⟩ = some (.int .i64 (sg (de r))) := K1.out.at.1 2
  have q1_2 : w1.frozen? ⟨w.heap.size + 1, 2, none⟩ = false := K1.out.at.2 2
  have p1_3 : w1.cell? ⟨w.heap.size + 1, 3, none⟩ = some (.slice b2 (ln (de r)) d2) := K1.out.at.1 3
  have q1_3 : w1.frozen? ⟨w.heap.size + 1, 3, none⟩ = false := K1.out.at.2 3
  have z1 : w.heap.size + 1 < w1.heap.size := K1.out.lt
  have p2_0 : w1.cell? ⟨w.heap.size + 1 + 1, 0, none⟩ = some (.int .i64 0) := K2.out.at.1 0
  have q2_0 : w1.frozen? ⟨w.heap.size + 1 + 1, 0, none⟩ = false := K2.out.at.2 0
  have p2_1 : w1.cell? ⟨w.heap.size + 1 + 1, 1, none⟩ = some (.slice none 0 0) := K2.out.at.1 1
  have q2_1 : w1.frozen? ⟨w.heap.size + 1 + 1, 1, none⟩ = false := K2.out.at.2 1
  have p2_2 : w1.cell? ⟨w.heap.size + 1 + 1, 2, none⟩ = some (.int .i64 0) := K2.out.at.1 2
  have q2_2 : w1.frozen? ⟨w.heap.size + 1 + 1, 2, none⟩ = false := K2.out.at.2 2
  have p2_3 : w1.cell? ⟨w.heap.size + 1 + 1, 3, none⟩ = some (.slice none 0 0) := K2.out.at.1 3
  have q2_3 : w1.frozen? ⟨w.heap.size + 1 + 1, 3, none⟩ = false := K2.out.at.2 3
  have z2 : w.heap.size + 1 + 1 < w1.heap.size := K2.out.lt
  go_wp2_with fail
  refine (fracRight_ok (q := r) (H2.out.keep (by go_grown)) (HY.out.mono (by omega))).mono ?_
  rintro e w2 ⟨rfl, hb⟩
  clear p0_0 q0_0 p0_1 q0_1 p0_2 q0_2 p0_3 q0_3 z0 p1_0 q1_0 p1_1 q1_1 p1_2 q1_2 p1_3 q1_3 z1 p2_0 q2_0 p2_1 q2_1 p2_2 q2_2 p2_3 q2_3 z2
  have hb' := below_call (w1 := w1) (by go_grown) hb
  replace K0 := Lib.hid (K0.out.keep hb')
  replace K1 := Lib.hid (K1.out.keep hb')
  replace K2 := Lib.hid (K2.out.keep hb')
  replace HB := Lib.hid (below_call HB.out hb')
  replace H1 := Lib.hid (H1.out.keep hb')
  replace H2 := Lib.hid (H2.out.keep hb')
  clear hb hb'
  have p0_0 : w2.cell? ⟨w.heap.size, 0, none⟩ = some (.int .i64 (sg (nu q))) := K0.out.at.1 0
  have q0_0 : w2.frozen? ⟨w.heap.size, 0, none⟩ = false := K0.out.at.2 0
  have p0_1 : w2.cell? ⟨w.heap.size, 1, none⟩ = some (.slice a1 (ln (nu q)) c1) := K0.out.at.1 1
  have q0_1 : w2.frozen? ⟨w.heap.size, 1, none⟩ = false := K0.out.at.2 1
  have p0_2 : w2.cell? ⟨w.heap.size, 2, none⟩ = some (.int .i64 (sg (de q))) := K0.out.at.1 2
  have q0_2 : w2.frozen? ⟨w.heap.size, 2, none⟩ = false := K0.out.at.2 2
  have p0_3 : w2.cell? ⟨w.heap.size, 3, none⟩ = some (.slice b1 (ln (de q)) d1) := K0.out.at.1 3
  have q0_3 : w2.frozen? ⟨w.heap.size, 3, none⟩ = false := K0.out.at.2 3
  have z0 : w.heap.size < w2.heap.size := K0.out.lt
  have p1_0 : w2.cell? ⟨w.heap.size + 1, 0, none⟩ = some (.int .i64 (sg (nu r))) := K1.out.at.1 0
  have q1_0 : w2.frozen? ⟨w.heap.size + 1, 0, none⟩ = false := K1.out.at.2 0
  have p1_1 : w2.cell? ⟨w.heap.size + 1, 1, none⟩ = some (.slice a2 (ln (nu r)) c2) := K1.out.at.1 1
  have q1_1 : w2.frozen? ⟨w.heap.size + 1, 1, none⟩ = false := K1.out.at.2 1
  have p1_2 : w2.cell? ⟨w.heap.size + 1, 2, none⟩ = some (.int .i64 (sg (de r))) := K1.out.at.1 2
  have q1_2 : w2.frozen? ⟨w.heap.size + 1, 2, none⟩ = false := K1.out.at.2 2
  have p1_3 : w2.cell? ⟨w.heap.size + 1, 3, none⟩ = some (.slice b2 (ln (de r)) d2) := K1.out.at.1 3
  have q1_3 : w2.frozen? ⟨w.heap.size + 1, 3, none⟩ = false := K1.out.at.2 3
  have z1 : w.heap.size + 1 < w2.heap.size := K1.out.lt
  have p2_0 : w2.cell? ⟨w.heap.size + 1 + 1, 0, none⟩ = some (.int .i64 0) := K2.out.at.1 0
  have q2_0 : w2.frozen? ⟨w.heap.size + 1 + 1, 0, none⟩ = false := K2.out.at.2 0
  have p2_1 : w2.cell? ⟨w.heap.size + 1 + 1, 1, none⟩ = some (.slice none 0 0) := K2.out.at.1 1
  have q2_1 : w2.frozen? ⟨w.heap.size + 1 + 1, 1, none⟩ = false := K2.out.at.2 1
  have p2_2 : w2.cell? ⟨w.heap.size + 1 + 1, 2, none⟩ = some (.int .i64 0) := K2.out.at.1 2
  have q2_2 : w2.frozen? ⟨w.heap.size + 1 + 1, 2, none⟩ = false := K2.out.at.2 2
  have p2_3 : w2.cell? ⟨w.heap.size + 1 + 1, 3, none⟩ = some (.slice none 0 0) := K2.out.at.1 3
  have q2_3 : w2.frozen? ⟨w.heap.size + 1 + 1, 3, none⟩ = false := K2.out.at.2 3
  have z2 : w.heap.size + 1 + 1 < w2.heap.size := K2.out.lt
  go_wp2_with fail
  refine (fracCompare_ok (H1.out.keep (by go_grown)) (H2.out.keep (by go_grown)) HX.out HY.out).mono ?_
  rintro e w3 ⟨rfl, hb⟩
  clear p0_0 q0_0 p0_1 q0_1 p0_2 q0_2 p0_3 q0_3 z0 p1_0 q1_0 p1_1 q1_1 p1_2 q1_2 p1_3 q1_3 z1 p2_0 q2_0 p2_1 q2_1 p2_2 q2_2 p2_3 q2_3 z2
  have hb' := below_call (w1 := w2) (by go_grown) hb
  replace K0 := Lib.hid (K0.out.keep hb')
  replace K1 := Lib.hid (K1.out.keep hb')
  replace K2 := Lib.hid (K2.out.keep hb')
  replace HB := Lib.hid (below_call HB.out hb')
  replace H1 := Lib.hid (H1.out.keep hb')
  replace H2 := Lib.hid (H2.out.keep hb')
  clear hb hb'
  have p0_0 : w3.cell? ⟨w.heap.size, 0, none⟩ = some (.int .i64 (sg (nu q))) := K0.out.at.1 0
  have q0_0 : w3.frozen? ⟨w.heap.size, 0, none⟩ = false := K0.out.at.2 0
  have p0_1 : w3.cell? ⟨w.heap.size, 1, none⟩ = some (.slice a1 (ln (nu q)) c1) := K0.out.at.1 1
  have q0_1 : w3.frozen? ⟨w.heap.size, 1, none⟩ = false := K0.out.at.2 1
  have p0_2 : w3.cell? ⟨w.heap.size, 2, none⟩ = some (.int .i64 (sg (de q))) := K0.out.at.1 2
  have q0_2 : w3.frozen? ⟨w.heap.size, 2, none⟩ = false := K0.out.at.2 2
  have p0_3 : w3.cell? ⟨w.heap.size, 3, none⟩ = some (.slice b1 (ln (de q)) d1) := K0.out.at.1 3
  have q0_3 : w3.frozen? ⟨w.heap.size, 3, none⟩ = false := K0.out.at.2 3
  have z0 : w.heap.size < w3.heap.size := K0.out.lt
  have p1_0 : w3.cell? ⟨w.heap.size + 1, 0, none⟩ = some (.int .i64 (sg (nu r))) := K1.out.at.1 0
  have q1_0 : w3.frozen? ⟨w.heap.size + 1, 0, none⟩ = false := K1.out.at.2 0
  have p1_1 : w3.cell? ⟨w.heap.size + 1, 1, none⟩ = some (.slice a2 (ln (nu r)) c2) := K1.out.at.1 1
  have q1_1 : w3.frozen? ⟨w.heap.size + 1, 1, none⟩ = false := K1.out.at.2 1
  have p1_2 : w3.cell? ⟨w.heap.size + 1, 2, none⟩ = some (.int .i64 (sg (de r))) := K1.out.at.1 2
  have q1_2 : w3.frozen? ⟨w.heap.size + 1, 2, none⟩ = false := K1.out.at.2 2
  have p1_3 : w3.cell? ⟨w.heap.size + 1, 3, none⟩ = some (.slice b2 (ln (de r)) d2) := K1.out.at.1 3
  have q1_3 : w3.frozen? ⟨w.heap.size + 1, 3, none⟩ = false := K1.out.at.2 3
  have z1 : w.heap.size + 1 < w3.heap.size := K1.out.lt
  have p2_0 : w3.cell? ⟨w.heap.size + 1 + 1, 0, none⟩ = some (.int .i64 0) := K2.out.at.1 0
  have q2_0 : w3.frozen? ⟨w.heap.size + 1 + 1, 0, none⟩ = false := K2.out.at.2 0
  have p2_1 : w3.cell? ⟨w.heap.size + 1 + 1, 1, none⟩ = some (.slice none 0 0) := K2.out.at.1 1
  have q2_1 : w3.frozen? ⟨w.heap.size + 1 + 1, 1, none⟩ = false := K2.out.at.2 1
  have p2_2 : w3.cell? ⟨w.heap.size + 1 + 1, 2, none⟩ = some (.int .i64 0) := K2.out.at.1 2
  have q2_2 : w3.frozen? ⟨w.heap.size + 1 + 1, 2, none⟩ = false := K2.out.at.2 2
  have p2_3 : w3.cell? ⟨w.heap.size + 1 + 1, 3, none⟩ = some (.slice none 0 0) := K2.out.at.1 3
  have q2_3 : w3.frozen? ⟨w.heap.size + 1 + 1, 3, none⟩ = false := K2.out.at.2 3
  have z2 : w.heap.size + 1 + 1 < w3.heap.size := K2.out.lt
  go_wp2_with fail
  clear p0_0 q0_0 p0_1 q0_1 p0_2 q0_2 p0_3 q0_3 z0 p1_0 q1_0 p1_1 q1_1 p1_2 q1_2 p1_3 q1_3 z1 p2_0 q2_0 p2_1 q2_1 p2_2 q2_2 p2_3 q2_3 z2
  obtain ⟨w4, hwn⟩ : ∃ x, x = ((((w3.setCell ⟨w.heap.size, 0, none⟩ (.int .i64 (sg (nu r)))).setCell ⟨w.heap.size, 1, none⟩ (.slice a2 (ln (nu r)) c2)).setCell ⟨w.heap.size, 2, none⟩ (.int .i64 (sg (de r)))).setCell ⟨w.heap.size, 3, none⟩ (.slice b2 (ln (de r)) d2)) := ⟨_, rfl⟩
  rw [← hwn]
  have og : w3.grownBy w4 (some w.heap.size) := by rw [hwn]; exact (only_setCell (only_setCell (only_setCell (only_setCell (World.grownBy.refl _ _) _) _) _) _)
  replace K1 := Lib.hid (K1.out.only og (by omega))
  replace K2 := Lib.hid (K2.out.only og (by omega))
  replace K0 : Hid (Bx w4 w.heap.size 26 #[.int .i64 (sg (nu r)), .slice a2 (ln (nu r)) c2, .int .i64 (sg (de r)), .slice b2 (ln (de r)) d2]) := by show Bx _ _ _ _; rw [hwn]; exact K0.out.set4 _ _ _ _
  replace HB : Hid (Below w.heap.size w w4) := by show Below _ _ _; rw [hwn]; exact (Below.setCell (Below.setCell (Below.setCell (Below.setCell HB.out (by simp; try omega) _) (by simp; try omega) _) (by simp; try omega) _) (by simp; try omega) _)
  replace H2 := Lib.hid (H20.out.keep HB.out)
  clear og hwn
  have p0_0 : w4.cell? ⟨w.heap.size, 0, none⟩ = some (.int .i64 (sg (nu r))) := K0.out.at.1 0
  have q0_0 : w4.frozen? ⟨w.heap.size, 0, none⟩ = false := K0.out.at.2 0
  have p0_1 : w4.cell? ⟨w.heap.size, 1, none⟩ = some (.slice a2 (ln (nu r)) c2) := K0.out.at.1 1
  have q0_1 : w4.frozen? ⟨w.heap.size, 1, none⟩ = false := K0.out.at.2 1
  have p0_2 : w4.cell? ⟨w.heap.size, 2, none⟩ = some (.int .i64 (sg (de r))) := K0.out.at.1 2
  have q0_2 : w4.frozen? ⟨w.heap.size, 2, none⟩ = false := K0.out.at.2 2
  have p0_3 : w4.cell? ⟨w.heap.size, 3, none⟩ = some (.slice b2 (ln (de r)) d2) := K0.out.at.1 3
  have q0_3 : w4.frozen? ⟨w.heap.size, 3, none⟩ = false := K0.out.at.2 3
  have z0 : w.heap.size < w4.heap.size := K0.out.lt
  have p1_0 : w4.cell? ⟨w.heap.size + 1, 0, none⟩ = some (.int .i64 (sg (nu r))) := K1.out.at.1 0
  have q1_0 : w4.frozen? ⟨w.heap.size + 1, 0, none⟩ = false := K1.out.at.2 0
  have p1_1 : w4.cell? ⟨w.heap.size + 1, 1, none⟩ = some (.slice a2 (ln (nu r)) c2) := K1.out.at.1 1
  have q1_1 : w4.frozen? ⟨w.heap.size + 1, 1, none⟩ = false := K1.out.at.2 1
  have p1_2 : w4.cell? ⟨w.heap.size + 1, 2, none⟩ = some (.int .i64 (sg (de r))) := K1.out.at.1 2
  have q1_2 : w4.frozen? ⟨w.heap.size + 1, 2, none⟩ = false := K1.out.at.2 2
  have p1_3 : w4.cell? ⟨w.heap.size + 1, 3, none⟩ = some (.slice b2 (ln (de r)) d2) := K1.out.at.1 3
  have q1_3 : w4.frozen? ⟨w.heap.size + 1, 3, none⟩ = false := K1.out.at.2 3
  have z1 : w.heap.size + 1 < w4.heap.size := K1.out.lt
  have p2_0 : w4.cell? ⟨w.heap.size + 1 + 1, 0, none⟩ = some (.int .i64 0) := K2.out.at.1 0
  have q2_0 : w4.frozen? ⟨w.heap.size + 1 + 1, 0, none⟩ = false := K2.out.at.2 0
  have p2_1 : w4.cell? ⟨w.heap.size + 1 + 1, 1, none⟩ = some (.slice none 0 0) := K2.out.at.1 1
  have q2_1 : w4.frozen? ⟨w.heap.size + 1 + 1, 1, none⟩ = false := K2.out.at.2 1
  have p2_2 : w4.cell? ⟨w.heap.size + 1 + 1, 2, none⟩ = some (.int .i64 0) := K2.out.at.1 2
  have q2_2 : w4.frozen? ⟨w.heap.size + 1 + 1, 2, none⟩ = false := K2.out.at.2 2
  have p2_3 : w4.cell? ⟨w.heap.size + 1 + 1, 3, none⟩ = some (.slice none 0 0) := K2.out.at.1 3
  have q2_3 : w4.frozen? ⟨w.heap.size + 1 + 1, 3, none⟩ = false := K2.out.at.2 3
  have z2 : w.heap.size + 1 + 1 < w4.heap.size := K2.out.lt
  clear p0_0 q0_0 p0_1 q0_1 p0_2 q0_2 p0_3 q0_3 z0 p1_0 q1_0 p1_1 q1_1 p1_2 q1_2 p1_3 q1_3 z1 p2_0 q2_0 p2_1 q2_1 p2_2 q2_2 p2_3 q2_3 z2
  have mk : Hid (∀ w', w4.grownBy w' (some (w.heap.size + 1 + 1)) → w'.cell? ⟨w.heap.size, 0, none⟩ = some (.int .i64 (sg (nu r))) ∧ w'.cell? ⟨w.heap.size, 1, none⟩ = some (.slice a2 (ln (nu r)) c2) ∧ w'.cell? ⟨w.heap.size, 2, none⟩ = some (.int .i64 (sg (de r))) ∧ w'.cell? ⟨w.heap.size, 3, none⟩ = some (.slice b2 (ln (de r)) d2) ∧ w'.cell? ⟨w.heap.size + 1, 0, none⟩ = some (.int .i64 (sg (nu r))) ∧ w'.cell? ⟨w.heap.size + 1, 1, none⟩ = some (.slice a2 (ln (nu r)) c2) ∧ w'.cell? ⟨w.heap.size + 1, 2, none⟩ = some (.int .i64 (sg (de r))) ∧ w'.cell? ⟨w.heap.size + 1, 3, none⟩ = some (.slice b2 (ln (de r)) d2) ∧ w4.grownBy w' (some (w.heap.size + 1 + 1))) := fun w' h => ⟨(K0.out.only h (by omega)).at.1 0, (K0.out.only h (by omega)).at.1 1, (K0.out.only h (by omega)).at.1 2, (K0.out.only h (by omega)).at.1 3, (K1.out.only h (by omega)).at.1 0, (K1.out.only h (by omega)).at.1 1, (K1.out.only h (by omega)).at.1 2, (K1.out.only h (by omega)).at.1 3, h⟩
  have hs0 : w4.grownBy w4.drew (some (w.heap.size + 1 + 1)) := only_start _ _
  have HS0 : Hid (Below w4.heap.size w4 w4.drew) := (Below.refl _ _).drew
  have tok0 : True := trivial
  have tok1 : True := trivial
  go_region_held3 (fun w' => w'.cell? ⟨w.heap.size, 0, none⟩ = some (.int .i64 (sg (nu r))) ∧ w'.cell? ⟨w.heap.size, 1, none⟩ = some (.slice a2 (ln (nu r)) c2) ∧ w'.cell? ⟨w.heap.size, 2, none⟩ = some (.int .i64 (sg (de r))) ∧ w'.cell? ⟨w.heap.size, 3, none⟩ = some (.slice b2 (ln (de r)) d2) ∧ w'.cell? ⟨w.heap.size + 1, 0, none⟩ = some (.int .i64 (sg (nu r))) ∧ w'.cell? ⟨w.heap.size + 1, 1, none⟩ = some (.slice a2 (ln (nu r)) c2) ∧ w'.cell? ⟨w.heap.size + 1, 2, none⟩ = some (.int .i64 (sg (de r))) ∧ w'.cell? ⟨w.heap.size + 1, 3, none⟩ = some (.slice b2 (ln (de r)) d2) ∧ w4.grownBy w' (some (w.heap.size + 1 + 1)))
    (first | exact mk.out _ (by assumption) | exact mk.out _ (only_setCell (only_setCell (only_setCell (only_setCell (by assumption) _) _) _) _) | exact mk.out _ (only_alloc (by assumption) _))
    (first
      | (go_at_call 60; have _t := tok0; refine (slim_ok (x := nu r) (H2.out.keep HS0.out).n (HY.out.1.mono (by omega))).mono ?_; rintro e w5 ⟨a5, c5, rfl, hd5, hb⟩; clear tok0 _t; have hs1 := only_call hs0 hb; have HS1 := Lib.hid (below_call HS0.out hb); clear hb; have Hd5 := Lib.hid hd5; clear hd5)
      | (go_at_call 60; have _t := tok1; refine (slim_ok (x := de r) (H2.out.keep HS1.out).d (HY.out.2.mono (by omega))).mono ?_; rintro e w6 ⟨a6, c6, rfl, hd6, hb⟩; clear tok1 _t; have hs2 := only_call hs1 hb; have HS2 := Lib.hid (below_call HS1.out hb); have Hd5 := Lib.hid (Hd5.out.keep hb); clear hb; have Hd6 := Lib.hid hd6; clear hd6; obtain ⟨p2, q2⟩ := (K2.out.keep HS2.out).at))
  replace K0 := Lib.hid (K0.out.keep HS2.out)
  replace K1 := Lib.hid (K1.out.keep HS2.out)
  replace K2 := Lib.hid (K2.out.keep HS2.out)
  replace HB := Lib.hid (below_call HB.out HS2.out)
  replace H2 := Lib.hid (H2.out.keep HS2.out)
  clear mk hs0 HS0 hs1 HS1 hs2 HS2  p2 q2
  go_wp2_with fail
  have HF : Hid (FD G w6 a5 c5 a6 c6 r) := FD.mk Hd5.out Hd6.out
  refine bodyPost_ret (results_box2 rfl _ _ (w.heap.size + 1 + 1) 26 _ _ _ rfl (K2.out.set4 _ _ _ _) Try.underlying26 rfl (by kernel_rfl)) rfl ?_
  refine ⟨a5, c5, a6, c6, rfl, ?_, ?_⟩
  · exact (HF.out.far0 K2.out zb4 (only_setCell (only_setCell (only_setCell (only_setCell (World.grownBy.refl _ _) _) _) _) _))
  · exact (Below.setCell (Below.setCell (Below.setCell (Below.setCell HB.out (by simp; try omega) _) (by simp; try omega) _) (by simp; try omega) _) (by simp; try omega) _)
theorem either_ok {q r : Rat} {a1 b1 a2 b2 : Option Addr} {c1 d1 c2 d2 : Nat} {w : World} (h1 : FD G w a1 c1 b1 d1 q) (h2 : FD G w a2 c2 b2 d2 r) (hx : Fz q 137438953472) (hy : Fz r 137438953472) {s : Int} (hs : s = 1 ∨ s = -1) :
    Calls Try.prog 73 #[.agg #[.int .i64 (sg (nu q)), .slice a1 (ln (nu q)) c1, .int .i64 (sg (de q)), .slice b1 (ln (de q)) d1], .agg #[.int .i64 (sg (nu r)), .slice a2 (ln (nu r)) c2, .int .i64 (sg (de r)), .slice b2 (ln (de r)) d2], .int .i64 s] w fun e w' => ∃ a c b d, e = .returned (.tuple #[.agg #[.int .i64 (sg (nu (pick q r s))), .slice a (ln (nu (pick q r s))) c, .int .i64 (sg (de (pick q r s))), .slice b (ln (de (pick q r s))) d], .int .i64 0]) ∧ FD G w' a c b d (pick q r s) ∧ Below w.heap.size w w' := by
  by_cases h : ordQ q r * s < 0
  · have := either_snd h1 h2 hx hy hs h
    rwa [show pick q r s = r by rw [pick, if_pos h]]
  · have := either_fst h1 h2 hx hy hs h
    rwa [show pick q r s = q by rw [pick, if_neg h]]
end Go.Proofs.Ytjbfngjlepafgaa
namespace Go.Proofs.Ytjbfngjlepafgaa
open Go.RowKit

theorem Fz.int {x : Int} {n : Nat} (h : Sz x n) (h1 : 1 ≤ n) : Fz (x : Rat) n := ⟨h, by
  show Sz 1 n
  exact Sz.mono (n := 1) (by unfold Sz; decide) h1⟩
theorem Fz.int64 {x : Int} (h : -9223372036854775808 ≤ x ∧ x ≤ 9223372036854775807) : Fz (x : Rat) 4 := Fz.int (sz_int (n := 0) h) (by omega)
theorem Fz.add {q r : Rat} {n m : Nat} (h : Fz q n) (h' : Fz r m) : Fz (q + r) (n + m + 1) := by
  rw [← add_parts]
  refine new_size (Int.mul_pos (de_pos _) (de_pos _)) ?_ ((h.2.mul h'.2).mono (by omega))
  exact Sz.add (h.1.mul h'.2) ((h'.1.mul h.2).mono (by omega))
theorem nu_neg (q : Rat) : nu (-q) = -nu q := by unfold nu; rfl
theorem de_neg (q : Rat) : de (-q) = de q := by unfold de; rfl
theorem Fz.neg {q : Rat} {n : Nat} (h : Fz q n) : Fz (-q) n := ⟨by rw [nu_neg]; exact h.1.neg, by rw [de_neg]; exact h.2⟩
theorem Fz.sub {q r : Rat} {n m : Nat} (h : Fz q n) (h' : Fz r m) : Fz (q - r) (n + m + 1) := by rw [Rat.sub_eq_add_neg]; exact h.add h'.neg
theorem mul_parts (q r : Rat) : Rat.divInt (nu q * nu r) (de q * de r) = q * r := by
  conv => rhs; rw [← divInt_parts q, ← divInt_parts r]
  rw [Rat.divInt_mul_divInt]
theorem Fz.mul {q r : Rat} {n m : Nat} (h : Fz q n) (h' : Fz r m) : Fz (q * r) (n + m) := by
  rw [← mul_parts]
  exact new_size (Int.mul_pos (de_pos _) (de_pos _)) (h.1.mul h'.1) (h.2.mul h'.2)
/-- The parts of a result that may be missing. -/
def oN : Option Rat → Int | none => 0 | some q => nu q
def oD : Option Rat → Int | none => 0 | some q => de q
end Go.Proofs.Ytjbfngjlepafgaa
namespace Go.Proofs.Ytjbfngjlepafgaa
open Go.RowKit
variable {G : Nat}

def eqZ (x y : Int) : Bool := decide (x = y)
theorem eqZ_sign {x y : Int} (h : sg x ≠ sg y) : eqZ x y = false := by rw [eqZ, decide_eq_false_iff_not]; rintro rfl; exact h rfl
theorem eqZ_len {x y : Int} (h : ln x ≠ ln y) : eqZ x y = false := by rw [eqZ, decide_eq_false_iff_not]; rintro rfl; exact h rfl
theorem eqZ_digit {x y : Int} {k : Nat} (h : (digs x.natAbs)[k]? ≠ (digs y.natAbs)[k]?) : eqZ x y = false := by rw [eqZ, decide_eq_false_iff_not]; rintro rfl; exact h rfl
theorem eqZ_true {x y : Int} (h : sg x = sg y) (h2 : digs x.natAbs = digs y.natAbs) : eqZ x y = true := by
  rw [eqZ, decide_eq_true_eq]
  have h3 := digs_inj h2
  have h4 := abs_sg x
  have h5 := abs_sg y
  rw [h4, h5, h, h3]
end Go.Proofs.Ytjbfngjlepafgaa
namespace Go.Proofs.Ytjbfngjlepafgaa

section
variable {P : Program} {ops : Array Oper} {Q : Exit → Act → World → Prop} {md : Region.Mode} {S : World → Prop}
/-- Operation i may be taken now, ahead of all others. -/
def chk (md : Region.Mode) (ops : Array Oper) (listed : Array Bool) (i : Nat) : Bool := Region.noSelect ops && Region.free md ops listed i && (Region.ready md ops listed).contains i
theorem tk {i : Nat} {oi : Oper} (hi : ops[i]? = some oi) {v : Value} {fuel : Nat} {listed : Array Bool} {a a' : Act} {w : World}
    (h : wpAnyH P md ops Q S fuel (listed.setIfInBounds i true) a' w)
    (hc : chk md ops listed i = true := by kernel_rfl) (hQ : ∀ c a w, Q (.panic c) (a.put oi.dst v) w → Q (.panic c) a w := by exact fun _ _ _ h => h)
    (hw : Region.wanted oi (yielded ops a.tmps) = true := by rfl) (hS : S w := by assumption)
    (hy : ∀ w, S w → (execOp a.eval oi).run P w = .ok (.value v) w := by (intro w hSw; (try dsimp only at hSw); go_simp; try with_reducible rfl))
    (ha : a.put oi.dst v = a' := by (simp only [Act.put, List.setIfInBounds_toArray, List.set_cons_zero, List.set_cons_succ] <;> with_reducible rfl)) :
    wpAnyH P md ops Q S (fuel + 1) listed a w := by
  simp only [chk, Bool.and_eq_true] at hc
  exact wpAnyH_take hi hc.1.1 hc.1.2 hc.2 hQ (.inl ⟨hw, hy⟩) hS (ha ▸ h)
theorem tu {i : Nat} {oi : Oper} (hi : ops[i]? = some oi) {fuel : Nat} {listed : Array Bool} {a a' : Act} {w : World}
    (h : wpAnyH P md ops Q S fuel (listed.setIfInBounds i true) a' w)
    (hc : chk md ops listed i = true := by kernel_rfl) (hQ : ∀ c a w, Q (.panic c) (a.put oi.dst undef) w → Q (.panic c) a w := by exact fun _ _ _ h => h)
    (hw : Region.wanted oi (yielded ops a.tmps) = false := by rfl) (hS : S w := by assumption)
    (ha : a.put oi.dst undef = a' := by (simp only [Act.put, List.setIfInBounds_toArray, List.set_cons_zero, List.set_cons_succ] <;> with_reducible rfl)) :
    wpAnyH P md ops Q S (fuel + 1) listed a w := by
  simp only [chk, Bool.and_eq_true] at hc
  exact wpAnyH_take hi hc.1.1 hc.1.2 hc.2 hQ (.inr ⟨hw, rfl⟩) hS (ha ▸ h)
end

theorem at0 {α : Type} {x0 : α} {r : List α} : (List.toArray (x0 :: r))[0]? = some x0 := rfl
theorem at1 {α : Type} {x0 x1 : α} {r : List α} : (List.toArray (x0 :: x1 :: r))[1]? = some x1 := rfl
theorem at2 {α : Type} {x0 x1 x2 : α} {r : List α} : (List.toArray (x0 :: x1 :: x2 :: r))[2]? = some x2 := rfl
theorem at3 {α : Type} {x0 x1 x2 x3 : α} {r : List α} : (List.toArray (x0 :: x1 :: x2 :: x3 :: r))[3]? = some x3 := rfl
theorem at4 {α : Type} {x0 x1 x2 x3 x4 : α} {r : List α} : (List.toArray (x0 :: x1 :: x2 :: x3 :: x4 :: r))[4]? = some x4 := rfl
theorem at5 {α : Type} {x0 x1 x2 x3 x4 x5 : α} {r : List α} : (List.toArray (x0 :: x1 :: x2 :: x3 :: x4 :: x5 :: r))[5]? = some x5 := rfl
theorem at6 {α : Type} {x0 x1 x2 x3 x4 x5 x6 : α} {r : List α} : (List.toArray (x0 :: x1 :: x2 :: x3 :: x4 :: x5 :: x6 :: r))[6]? = some x6 := rfl
theorem at7 {α : Type} {x0 x1 x2 x3 x4 x5 x6 x7 : α} {r : List α} : (List.toArray (x0 :: x1 :: x2 :: x3 :: x4 :: x5 :: x6 :: x7 :: r))[7]? = some x7 := rfl
theorem at8 {α : Type} {x0 x1 x2 x3 x4 x5 x6 x7 x8 : α} {r : List α} : (List.toArray (x0 :: x1 :: x2 :: x3 :: x4 :: x5 :: x6 :: x7 :: x8 :: r))[8]? = some x8 := rfl
theorem at9 {α : Type} {x0 x1 x2 x3 x4 x5 x6 x7 x8 x9 : α} {r : List α} : (List.toArray (x0 :: x1 :: x2 :: x3 :: x4 :: x5 :: x6 :: x7 :: x8 :: x9 :: r))[9]? = some x9 := rfl
theorem at10 {α : Type} {x0 x1 x2 x3 x4 x5 x6 x7 x8 x9 x10 : α} {r : List α} : (List.toArray (x0 :: x1 :: x2 :: x3 :: x4 :: x5 :: x6 :: x7 :: x8 :: x9 :: x10 :: r))[10]? = some x10 := rfl
theorem at11 {α : Type} {x0 x1 x2 x3 x4 x5 x6 x7 x8 x9 x10 x11 : α} {r : List α} : (List.toArray (x0 :: x1 :: x2 :: x3 :: x4 :: x5 :: x6 :: x7 :: x8 :: x9 :: x10 :: x11 :: r))[11]? = some x11 := rfl
theorem at12 {α : Type} {x0 x1 x2 x3 x4 x5 x6 x7 x8 x9 x10 x11 x12 : α} {r : List α} : (List.toArray (x0 :: x1 :: x2 :: x3 :: x4 :: x5 :: x6 :: x7 :: x8 :: x9 :: x10 :: x11 :: x12 :: r))[12]? = some x12 := rfl
theorem at13 {α : Type} {x0 x1 x2 x3 x4 x5 x6 x7 x8 x9 x10 x11 x12 x13 : α} {r : List α} : (List.toArray (x0 :: x1 :: x2 :: x3 :: x4 :: x5 :: x6 :: x7 :: x8 :: x9 :: x10 :: x11 :: x12 :: x13 :: r))[13]? = some x13 := rfl
theorem at14 {α : Type} {x0 x1 x2 x3 x4 x5 x6 x7 x8 x9 x10 x11 x12 x13 x14 : α} {r : List α} : (List.toArray (x0 :: x1 :: x2 :: x3 :: x4 :: x5 :: x6 :: x7 :: x8 :: x9 :: x10 :: x11 :: x12 :: x13 :: x14 :: r))[14]? = some x14 := rfl
theorem at15 {α : Type} {x0 x1 x2 x3 x4 x5 x6 x7 x8 x9 x10 x11 x12 x13 x14 x15 : α} {r : List α} : (List.toArray (x0 :: x1 :: x2 :: x3 :: x4 :: x5 :: x6 :: x7 :: x8 :: x9 :: x10 :: x11 :: x12 :: x13 :: x14 :: x15 :: r))[15]? = some x15 := rfl
theorem at16 {α : Type} {x0 x1 x2 x3 x4 x5 x6 x7 x8 x9 x10 x11 x12 x13 x14 x15 x16 : α} {r : List α} : (List.toArray (x0 :: x1 :: x2 :: x3 :: x4 :: x5 :: x6 :: x7 :: x8 :: x9 :: x10 :: x11 :: x12 :: x13 :: x14 :: x15 :: x16 :: r))[16]? = some x16 := rfl
theorem at17 {α : Type} {x0 x1 x2 x3 x4 x5 x6 x7 x8 x9 x10 x11 x12 x13 x14 x15 x16 x17 : α} {r : List α} : (List.toArray (x0 :: x1 :: x2 :: x3 :: x4 :: x5 :: x6 :: x7 :: x8 :: x9 :: x10 :: x11 :: x12 :: x13 :: x14 :: x15 :: x16 :: x17 :: r))[17]? = some x17 := rfl
theorem at18 {α : Type} {x0 x1 x2 x3 x4 x5 x6 x7 x8 x9 x10 x11 x12 x13 x14 x15 x16 x17 x18 : α} {r : List α} : (List.toArray (x0 :: x1 :: x2 :: x3 :: x4 :: x5 :: x6 :: x7 :: x8 :: x9 :: x10 :: x11 :: x12 :: x13 :: x14 :: x15 :: x16 :: x17 :: x18 :: r))[18]? = some x18 := rfl
theorem at19 {α : Type} {x0 x1 x2 x3 x4 x5 x6 x7 x8 x9 x10 x11 x12 x13 x14 x15 x16 x17 x18 x19 : α} {r : List α} : (List.toArray (x0 :: x1 :: x2 :: x3 :: x4 :: x5 :: x6 :: x7 :: x8 :: x9 :: x10 :: x11 :: x12 :: x13 :: x14 :: x15 :: x16 :: x17 :: x18 :: x19 :: r))[19]? = some x19 := rfl
theorem at20 {α : Type} {x0 x1 x2 x3 x4 x5 x6 x7 x8 x9 x10 x11 x12 x13 x14 x15 x16 x17 x18 x19 x20 : α} {r : List α} : (List.toArray (x0 :: x1 :: x2 :: x3 :: x4 :: x5 :: x6 :: x7 :: x8 :: x9 :: x10 :: x11 :: x12 :: x13 :: x14 :: x15 :: x16 :: x17 :: x18 :: x19 :: x20 :: r))[20]? = some x20 := rfl
theorem at21 {α : Type} {x0 x1 x2 x3 x4 x5 x6 x7 x8 x9 x10 x11 x12 x13 x14 x15 x16 x17 x18 x19 x20 x21 : α} {r : List α} : (List.toArray (x0 :: x1 :: x2 :: x3 :: x4 :: x5 :: x6 :: x7 :: x8 :: x9 :: x10 :: x11 :: x12 :: x13 :: x14 :: x15 :: x16 :: x17 :: x18 :: x19 :: x20 :: x21 :: r))[21]? = some x21 := rfl
theorem at22 {α : Type} {x0 x1 x2 x3 x4 x5 x6 x7 x8 x9 x10 x11 x12 x13 x14 x15 x16 x17 x18 x19 x20 x21 x22 : α} {r : List α} : (List.toArray (x0 :: x1 :: x2 :: x3 :: x4 :: x5 :: x6 :: x7 :: x8 :: x9 :: x10 :: x11 :: x12 :: x13 :: x14 :: x15 :: x16 :: x17 :: x18 :: x19 :: x20 :: x21 :: x22 :: r))[22]? = some x22 := rfl
theorem at23 {α : Type} {x0 x1 x2 x3 x4 x5 x6 x7 x8 x9 x10 x11 x12 x13 x14 x15 x16 x17 x18 x19 x20 x21 x22 x23 : α} {r : List α} : (List.toArray (x0 :: x1 :: x2 :: x3 :: x4 :: x5 :: x6 :: x7 :: x8 :: x9 :: x10 :: x11 :: x12 :: x13 :: x14 :: x15 :: x16 :: x17 :: x18 :: x19 :: x20 :: x21 :: x22 :: x23 :: r))[23]? = some x23 := rfl
theorem at24 {α : Type} {x0 x1 x2 x3 x4 x5 x6 x7 x8 x9 x10 x11 x12 x13 x14 x15 x16 x17 x18 x19 x20 x21 x22 x23 x24 : α} {r : List α} : (List.toArray (x0 :: x1 :: x2 :: x3 :: x4 :: x5 :: x6 :: x7 :: x8 :: x9 :: x10 :: x11 :: x12 :: x13 :: x14 :: x15 :: x16 :: x17 :: x18 :: x19 :: x20 :: x21 :: x22 :: x23 :: x24 :: r))[24]? = some x24 := rfl
theorem at25 {α : Type} {x0 x1 x2 x3 x4 x5 x6 x7 x8 x9 x10 x11 x12 x13 x14 x15 x16 x17 x18 x19 x20 x21 x22 x23 x24 x25 : α} {r : List α} : (List.toArray (x0 :: x1 :: x2 :: x3 :: x4 :: x5 :: x6 :: x7 :: x8 :: x9 :: x10 :: x11 :: x12 :: x13 :: x14 :: x15 :: x16 :: x17 :: x18 :: x19 :: x20 :: x21 :: x22 :: x23 :: x24 :: x25 :: r))[25]? = some x25 := rfl
theorem at26 {α : Type} {x0 x1 x2 x3 x4 x5 x6 x7 x8 x9 x10 x11 x12 x13 x14 x15 x16 x17 x18 x19 x20 x21 x22 x23 x24 x25 x26 : α} {r : List α} : (List.toArray (x0 :: x1 :: x2 :: x3 :: x4 :: x5 :: x6 :: x7 :: x8 :: x9 :: x10 :: x11 :: x12 :: x13 :: x14 :: x15 :: x16 :: x17 :: x18 :: x19 :: x20 :: x21 :: x22 :: x23 :: x24 :: x25 :: x26 :: r))[26]? = some x26 := rfl
theorem at27 {α : Type} {x0 x1 x2 x3 x4 x5 x6 x7 x8 x9 x10 x11 x12 x13 x14 x15 x16 x17 x18 x19 x20 x21 x22 x23 x24 x25 x26 x27 : α} {r : List α} : (List.toArray (x0 :: x1 :: x2 :: x3 :: x4 :: x5 :: x6 :: x7 :: x8 :: x9 :: x10 :: x11 :: x12 :: x13 :: x14 :: x15 :: x16 :: x17 :: x18 :: x19 :: x20 :: x21 :: x22 :: x23 :: x24 :: x25 :: x26 :: x27 :: r))[27]? = some x27 := rfl
theorem at28 {α : Type} {x0 x1 x2 x3 x4 x5 x6 x7 x8 x9 x10 x11 x12 x13 x14 x15 x16 x17 x18 x19 x20 x21 x22 x23 x24 x25 x26 x27 x28 : α} {r : List α} : (List.toArray (x0 :: x1 :: x2 :: x3 :: x4 :: x5 :: x6 :: x7 :: x8 :: x9 :: x10 :: x11 :: x12 :: x13 :: x14 :: x15 :: x16 :: x17 :: x18 :: x19 :: x20 :: x21 :: x22 :: x23 :: x24 :: x25 :: x26 :: x27 :: x28 :: r))[28]? = some x28 := rfl
theorem at29 {α : Type} {x0 x1 x2 x3 x4 x5 x6 x7 x8 x9 x10 x11 x12 x13 x14 x15 x16 x17 x18 x19 x20 x21 x22 x23 x24 x25 x26 x27 x28 x29 : α} {r : List α} : (List.toArray (x0 :: x1 :: x2 :: x3 :: x4 :: x5 :: x6 :: x7 :: x8 :: x9 :: x10 :: x11 :: x12 :: x13 :: x14 :: x15 :: x16 :: x17 :: x18 :: x19 :: x20 :: x21 :: x22 :: x23 :: x24 :: x25 :: x26 :: x27 :: x28 :: x29 :: r))[29]? = some x29 := rfl
theorem at30 {α : Type} {x0 x1 x2 x3 x4 x5 x6 x7 x8 x9 x10 x11 x12 x13 x14 x15 x16 x17 x18 x19 x20 x21 x22 x23 x24 x25 x26 x27 x28 x29 x30 : α} {r : List α} : (List.toArray (x0 :: x1 :: x2 :: x3 :: x4 :: x5 :: x6 :: x7 :: x8 :: x9 :: x10 :: x11 :: x12 :: x13 :: x14 :: x15 :: x16 :: x17 :: x18 :: x19 :: x20 :: x21 :: x22 :: x23 :: x24 :: x25 :: x26 :: x27 :: x28 :: x29 :: x30 :: r))[30]? = some x30 := rfl
theorem at31 {α : Type} {x0 x1 x2 x3 x4 x5 x6 x7 x8 x9 x10 x11 x12 x13 x14 x15 x16 x17 x18 x19 x20 x21 x22 x23 x24 x25 x26 x27 x28 x29 x30 x31 : α} {r : List α} : (List.toArray (x0 :: x1 :: x2 :: x3 :: x4 :: x5 :: x6 :: x7 :: x8 :: x9 :: x10 :: x11 :: x12 :: x13 :: x14 :: x15 :: x16 :: x17 :: x18 :: x19 :: x20 :: x21 :: x22 :: x23 :: x24 :: x25 :: x26 :: x27 :: x28 :: x29 :: x30 :: x31 :: r))[31]? = some x31 := rfl
theorem at32 {α : Type} {x0 x1 x2 x3 x4 x5 x6 x7 x8 x9 x10 x11 x12 x13 x14 x15 x16 x17 x18 x19 x20 x21 x22 x23 x24 x25 x26 x27 x28 x29 x30 x31 x32 : α} {r : List α} : (List.toArray (x0 :: x1 :: x2 :: x3 :: x4 :: x5 :: x6 :: x7 :: x8 :: x9 :: x10 :: x11 :: x12 :: x13 :: x14 :: x15 :: x16 :: x17 :: x18 :: x19 :: x20 :: x21 :: x22 :: x23 :: x24 :: x25 :: x26 :: x27 :: x28 :: x29 :: x30 :: x31 :: x32 :: r))[32]? = some x32 := rfl
theorem at33 {α : Type} {x0 x1 x2 x3 x4 x5 x6 x7 x8 x9 x10 x11 x12 x13 x14 x15 x16 x17 x18 x19 x20 x21 x22 x23 x24 x25 x26 x27 x28 x29 x30 x31 x32 x33 : α} {r : List α} : (List.toArray (x0 :: x1 :: x2 :: x3 :: x4 :: x5 :: x6 :: x7 :: x8 :: x9 :: x10 :: x11 :: x12 :: x13 :: x14 :: x15 :: x16 :: x17 :: x18 :: x19 :: x20 :: x21 :: x22 :: x23 :: x24 :: x25 :: x26 :: x27 :: x28 :: x29 :: x30 :: x31 :: x32 :: x33 :: r))[33]? = some x33 := rfl
end Go.Proofs.Ytjbfngjlepafgaa
namespace Go.Proofs.Ytjbfngjlepafgaa
open Go.RowKit
variable {G : Nat}

/-- What is known of a world, as it is known of a later one. -/
class Goes (p : Prop) (w w' : World) (q : outParam Prop) : Prop where
  go : p → Below w.heap.size w w' → q
instance {w w' : World} {g : Nat} {T : TypeId} {cs : Array Value} : Goes (Bx w g T cs) w w' (Bx w' g T cs) := ⟨fun h hb => h.keep hb⟩
instance {w w' : World} {a : Option Addr} {c : Nat} {z : Int} : Goes (BD G w a c z) w w' (BD G w' a c z) := ⟨fun h hb => h.keep hb⟩
instance {w w' : World} {a b : Option Addr} {c d : Nat} {q : Rat} : Goes (FD G w a c b d q) w w' (FD G w' a c b d q) := ⟨fun h hb => h.keep hb⟩
instance {w0 w w' : World} : Goes (Below w0.heap.size w0 w) w w' (Below w0.heap.size w0 w') := ⟨fun h hb => below_call h hb⟩
instance {w w' : World} {p q p' q' : Prop} [h1 : Goes p w w' q] [h2 : Goes p' w w' q'] : Goes (p ∧ p') w w' (q ∧ q') := ⟨fun h hb => ⟨h1.go h.1 hb, h2.go h.2 hb⟩⟩
theorem below_drew (w : World) : Below w.heap.size w w.drew := (Below.refl _ _).drew
theorem Bx.c2 {w : World} {g : Nat} {T : TypeId} {u0 u1 : Value} (h : Bx w g T #[u0, u1]) : w.cell? ⟨g, 0, none⟩ = some u0 ∧ w.frozen? ⟨g, 0, none⟩ = false ∧ w.cell? ⟨g, 1, none⟩ = some u1 ∧ w.frozen? ⟨g, 1, none⟩ = false :=
  ⟨h.at.1 0, h.at.2 0, h.at.1 1, h.at.2 1⟩
theorem Bx.c4 {w : World} {g : Nat} {T : TypeId} {u0 u1 u2 u3 : Value} (h : Bx w g T #[u0, u1, u2, u3]) : w.cell? ⟨g, 0, none⟩ = some u0 ∧ w.frozen? ⟨g, 0, none⟩ = false ∧ w.cell? ⟨g, 1, none⟩ = some u1 ∧ w.frozen? ⟨g, 1, none⟩ = false ∧ w.cell? ⟨g, 2, none⟩ = some u2 ∧ w.frozen? ⟨g, 2, none⟩ = false ∧ w.cell? ⟨g, 3, none⟩ = some u3 ∧ w.frozen? ⟨g, 3, none⟩ = false :=
  ⟨h.at.1 0, h.at.2 0, h.at.1 1, h.at.2 1, h.at.1 2, h.at.2 2, h.at.1 3, h.at.2 3⟩
theorem Bx.c8 {w : World} {g : Nat} {T : TypeId} {u0 u1 u2 u3 u4 u5 u6 u7 : Value} (h : Bx w g T #[u0, u1, u2, u3, u4, u5, u6, u7]) : w.cell? ⟨g, 0, none⟩ = some u0 ∧ w.frozen? ⟨g, 0, none⟩ = false ∧ w.cell? ⟨g, 1, none⟩ = some u1 ∧ w.frozen? ⟨g, 1, none⟩ = false ∧ w.cell? ⟨g, 2, none⟩ = some u2 ∧ w.frozen? ⟨g, 2, none⟩ = false ∧ w.cell? ⟨g, 3, none⟩ = some u3 ∧ w.frozen? ⟨g, 3, none⟩ = false ∧ w.cell? ⟨g, 4, none⟩ = some u4 ∧ w.frozen? ⟨g, 4, none⟩ = false ∧ w.cell? ⟨g, 5, none⟩ = some u5 ∧ w.frozen? ⟨g, 5, none⟩ = false ∧ w.cell? ⟨g, 6, none⟩ = some u6 ∧ w.frozen? ⟨g, 6, none⟩ = false ∧ w.cell? ⟨g, 7, none⟩ = some u7 ∧ w.frozen? ⟨g, 7, none⟩ = false :=
  ⟨h.at.1 0, h.at.2 0, h.at.1 1, h.at.2 1, h.at.1 2, h.at.2 2, h.at.1 3, h.at.2 3, h.at.1 4, h.at.2 4, h.at.1 5, h.at.2 5, h.at.1 6, h.at.2 6, h.at.1 7, h.at.2 7⟩
/-- Cells in a row, of memory that was there. -/
def Row (w : World) (b o : Nat) (cs : List Value) : Prop := b < w.heap.size ∧ ∀ j u, cs[j]? = some u → w.cell? ⟨b, o + j, none⟩ = some u
theorem Row.keep {w w' : World} {b o : Nat} {cs : List Value} (h : Row w b o cs) (hb : Below w.heap.size w w') : Row w' b o cs :=
  ⟨Nat.lt_of_lt_of_le h.1 hb.size, fun j u hj => (hb.cell (p := ⟨b, o + j, none⟩) h.1).trans (h.2 j u hj)⟩
theorem Row.far {w w' : World} {b o : Nat} {cs : List Value} {g : Nat} {T : TypeId} {xs : Array Value} (h : Row w b o cs) (_k : Bx w g T xs) (hne : b ≠ g) (hg : w.grownBy w' (some g)) : Row w' b o cs :=
  ⟨Nat.lt_of_lt_of_le h.1 hg.size, fun j u hj => hg.cell (h.2 j u hj) (by simp; exact hne)⟩
instance {w w' : World} {b o : Nat} {cs : List Value} : Goes (Row w b o cs) w w' (Row w' b o cs) := ⟨fun h hb => h.keep hb⟩
theorem Row.c2 {w : World} {b o : Nat} {u0 u1 : Value} (h : Row w b o [u0, u1]) : w.cell? ⟨b, o, none⟩ = some u0 ∧ w.cell? ⟨b, o + 1, none⟩ = some u1 :=
  ⟨h.2 0 _ rfl, h.2 1 _ rfl⟩
theorem Row.c4 {w : World} {b o : Nat} {u0 u1 u2 u3 : Value} (h : Row w b o [u0, u1, u2, u3]) : w.cell? ⟨b, o, none⟩ = some u0 ∧ w.cell? ⟨b, o + 1, none⟩ = some u1 ∧ w.cell? ⟨b, o + 2, none⟩ = some u2 ∧ w.cell? ⟨b, o + 3, none⟩ = some u3 :=
  ⟨h.2 0 _ rfl, h.2 1 _ rfl, h.2 2 _ rfl, h.2 3 _ rfl⟩
theorem Row.c8 {w : World} {b o : Nat} {u0 u1 u2 u3 u4 u5 u6 u7 : Value} (h : Row w b o [u0, u1, u2, u3, u4, u5, u6, u7]) : w.cell? ⟨b, o, none⟩ = some u0 ∧ w.cell? ⟨b, o + 1, none⟩ = some u1 ∧ w.cell? ⟨b, o + 2, none⟩ = some u2 ∧ w.cell? ⟨b, o + 3, none⟩ = some u3 ∧ w.cell? ⟨b, o + 4, none⟩ = some u4 ∧ w.cell? ⟨b, o + 5, none⟩ = some u5 ∧ w.cell? ⟨b, o + 6, none⟩ = some u6 ∧ w.cell? ⟨b, o + 7, none⟩ = some u7 :=
  ⟨h.2 0 _ rfl, h.2 1 _ rfl, h.2 2 _ rfl, h.2 3 _ rfl, h.2 4 _ rfl, h.2 5 _ rfl, h.2 6 _ rfl, h.2 7 _ rfl⟩
end Go.Proofs.Ytjbfngjlepafgaa
namespace Go.Proofs.Ytjbfngjlepafgaa
open Go.RowKit
variable {G : Nat}

/-- Whatever the big integer. -/
theorem bigRight_raw {s : Int} {a : Option Addr} {c : Nat} {l : List Int} {b : Bool} {w : World} (h : RdZ w (.slice a l.length c) l) (hn : l.length ≤ 1099511627776) (hb : rightB s l = b) :
    Calls Try.prog 61 #[.agg #[.int .i64 s, .slice a l.length c]] w fun e w' => e = .returned (.bool b) ∧ Below w.heap.size w w' := by
  rw [← hb]; exact bigRight_any s _ l w h hn
theorem eqZ_of {x y : Int} (h : x = y) : eqZ x y = true := by unfold eqZ; exact decide_eq_true h
/-- A right big integer is an integer's digits. -/
theorem ints_toNat {l : List Int} (h : l.all digitOk = true) : ints (l.map Int.toNat) = l ∧ small (l.map Int.toNat) := by
  have hd : ∀ d ∈ l, 0 ≤ d ∧ d ≤ 1048575 := fun d hd => by
    have := List.all_eq_true.1 h d hd
    simpa [digitOk] using this
  constructor
  · unfold ints
    rw [List.map_map]
    conv => rhs; rw [← List.map_id l]
    exact List.map_congr_left fun d hm => by have := hd d hm; simp; omega
  · intro d hm
    obtain ⟨e, he, rfl⟩ := List.mem_map.1 hm
    have := hd e he; omega
theorem right_parts {s : Int} {l : List Int} (hr : rightB s l = true) : ∃ z : Int, s = sg z ∧ l = ints (digs z.natAbs) := by
  unfold rightB at hr
  rw [Bool.and_eq_true] at hr
  obtain ⟨h1, h2⟩ := hr
  obtain ⟨e1, e2⟩ := ints_toNat h1
  by_cases h0 : l = []
  · subst h0
    rw [if_pos rfl] at h2
    exact ⟨0, by simpa [sg] using h2, rfl⟩
  · rw [if_neg h0, Bool.and_eq_true, Bool.or_eq_true] at h2
    obtain ⟨h3, h4⟩ := h2
    have h4 := of_decide_eq_true h4
    obtain ⟨P, hP⟩ : ∃ P, P = l.map Int.toNat := ⟨_, rfl⟩
    rw [← hP] at e1 e2
    have hc : canon P := by
      refine ⟨e2, fun h => h4 ?_⟩
      rw [← e1]; unfold ints
      rw [List.getLast?_map, h]; rfl
    have hv : val P ≠ 0 := by
      intro h
      have : P = [] := by rw [← digs_val hc, h]; rfl
      rw [this] at e1; exact h0 e1.symm
    have hs : s = 1 ∨ s = -1 := by
      rcases h3 with h | h
      · exact .inl (by simpa using h)
      · exact .inr (by simpa using h)
    refine ⟨s * (val P : Int), ?_, ?_⟩
    · rcases hs with rfl | rfl
      · rw [Int.one_mul]; exact (Int.sign_eq_one_of_pos (by omega)).symm
      · unfold sg; rw [Int.sign_eq_neg_one_of_neg (by omega)]
    · have : (s * (val P : Int)).natAbs = val P := by rcases hs with rfl | rfl <;> omega
      rw [this, digs_val hc, e1]
end Go.Proofs.Ytjbfngjlepafgaa
