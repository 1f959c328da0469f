/- Walks: fractions: differences, order, the greater one. -/
import Derived.Test.YtcfmakpckdicjaaGreatDoorFracB
namespace Go.Proofs.YtcfmakpckdicjaaGreatDoor
open Go.RowKit
variable {G : Nat}

theorem fracAdd_neg {q r : Rat} {a1 b1 a2 b2 : Option Addr} {c1 d1 c2 d2 : Nat} {w : World} (h1 : FD G w a1 c1 b1 d1 q) (hn : BD G w a2 c2 (-nu r)) (hd : BD G w b2 d2 (de r)) (hx : Fz q 137438953472) (hy : Fz r 137438953472) :
    Calls Tryz.prog 10 #[.agg #[.int .i64 (sg (nu q)), .slice a1 (ln (nu q)) c1, .int .i64 (sg (de q)), .slice b1 (ln (de q)) d1], .agg #[.int .i64 (sg (-nu r)), .slice a2 (ln (-nu r)) c2, .int .i64 (sg (de r)), .slice b2 (ln (de r)) d2]] w fun e w' => ∃ a c b d, e = .returned (.tuple #[.agg #[.int .i64 (sg (nu (q - r))), .slice a (ln (nu (q - r))) c, .int .i64 (sg (de (q - r))), .slice b (ln (de (q - r))) d], .int .i64 0]) ∧ FD G w' a c b d (q - r) ∧ Below w.heap.size w w' := by
  rw [Rat.sub_eq_add_neg]
  exact fracAdd_ok (r := -r) h1 ⟨hn, hd⟩ hx ⟨hy.1.neg, hy.2⟩
def ordQ (q r : Rat) : Int := if q < r then -1 else if r < q then 1 else 0
theorem ord_parts (q r : Rat) : ord (nu q * de r) (nu r * de q) = ordQ q r := by
  unfold ord ordQ
  simp only [Rat.lt_iff]
  rfl

set_option maxHeartbeats 4000000 in
theorem fracSub_ok {q r : Rat} {a1 b1 a2 b2 : Option Addr} {c1 d1 c2 d2 : Nat} {w : World} (h1 : FD G w a1 c1 b1 d1 q) (h2 : FD G w a2 c2 b2 d2 r) (hx : Fz q 137438953472) (hy : Fz r 137438953472) :
    Calls Tryz.prog 12 #[.agg #[.int .i64 (sg (nu q)), .slice a1 (ln (nu q)) c1, .int .i64 (sg (de q)), .slice b1 (ln (de q)) d1], .agg #[.int .i64 (sg (nu r)), .slice a2 (ln (nu r)) c2, .int .i64 (sg (de r)), .slice b2 (ln (de r)) d2]] w fun e w' => ∃ a c b d, e = .returned (.tuple #[.agg #[.int .i64 (sg (nu (q - r))), .slice a (ln (nu (q - r))) c, .int .i64 (sg (de (q - r))), .slice b (ln (de (q - r))) d], .int .i64 0]) ∧ FD G w' a c b d (q - r) ∧ Below w.heap.size w w' := by
  have HX := Lib.hid hx
  have HY := Lib.hid hy
  have H1 := Lib.hid h1
  have H2 := Lib.hid h2
  clear hx hy h1 h2

  go_enter Tryz.func12, Tryz.ntmps12
  go_wp2_with fail
  refine (fracRight_ok (q := q) (H1.out.keep (by go_grown)) (HX.out.mono (by omega))).mono ?_
  rintro e w1 ⟨rfl, hb⟩
  have hbx := bx3 w 26 26 26 #[.int .i64 (sg (nu q)), .slice a1 (ln (nu q)) c1, .int .i64 (sg (de q)), .slice b1 (ln (de q)) d1] #[.int .i64 (sg (nu r)), .slice a2 (ln (nu r)) c2, .int .i64 (sg (de r)), .slice b2 (ln (de r)) d2] #[.int .i64 0, .slice none 0 0, .int .i64 0, .slice none 0 0]
  obtain ⟨k0, k1, k2⟩ := hbx
  have K0 := Lib.hid (k0.keep hb)
  have K1 := Lib.hid (k1.keep hb)
  have K2 := Lib.hid (k2.keep hb)
  clear k0 k1 k2
  have hb' : Below w.heap.size w w1 := below_call (by go_grown) hb
  have HB := Lib.hid hb'
  replace H1 := Lib.hid (H1.out.keep hb')
  replace H2 := Lib.hid (H2.out.keep hb')
  clear hb hb'
  have p0_0 : w1.cell? ⟨w.heap.size, 0, none⟩ = some (.int .i64 (sg (nu q))) := K0.out.at.1 0
  have q0_0 : w1.frozen? ⟨w.heap.size, 0, none⟩ = false := K0.out.at.2 0
  have p0_1 : w1.cell? ⟨w.heap.size, 1, none⟩ = some (.slice a1 (ln (nu q)) c1) := K0.out.at.1 1
  have q0_1 : w1.frozen? ⟨w.heap.size, 1, none⟩ = false := K0.out.at.2 1
  have p0_2 : w1.cell? ⟨w.heap.size, 2, none⟩ = some (.int .i64 (sg (de q))) := K0.out.at.1 2
  have q0_2 : w1.frozen? ⟨w.heap.size, 2, none⟩ = false := K0.out.at.2 2
  have p0_3 : w1.cell? ⟨w.heap.size, 3, none⟩ = some (.slice b1 (ln (de q)) d1) := K0.out.at.1 3
  have q0_3 : w1.frozen? ⟨w.heap.size, 3, none⟩ = false := K0.out.at.2 3
  have z0 : w.heap.size < w1.heap.size := K0.out.lt
  have p1_0 : w1.cell? ⟨w.heap.size + 1, 0, none⟩ = some (.int .i64 (sg (nu r))) := K1.out.at.1 0
  have q1_0 : w1.frozen? ⟨w.heap.size + 1, 0, none⟩ = false := K1.out.at.2 0
  have p1_1 : w1.cell? ⟨w.heap.size + 1, 1, none⟩ = some (.slice a2 (ln (nu r)) c2) := K1.out.at.1 1
  have q1_1 : w1.frozen? ⟨w.heap.size + 1, 1, none⟩ = false := K1.out.at.2 1
  have p1_2 : w1.cell? ⟨w.heap.size + 1, 2, none⟩ = some (.int .i64 (sg (de r))) := K1.out.at.1 2
  have q1_2 : w1.frozen? ⟨w.heap.size + 1, 2, none⟩ = false := K1.out.at.2 2
  have p1_3 : w1.cell? ⟨w.heap.size + 1, 3, none⟩ = some (.slice b2 (ln (de r)) d2) := K1.out.at.1 3
  have q1_3 : w1.frozen? ⟨w.heap.size + 1, 3, none⟩ = false := K1.out.at.2 3
  have z1 : w.heap.size + 1 < w1.heap.size := K1.out.lt
  have p2_0 : w1.cell? ⟨w.heap.size + 1 + 1, 0, none⟩ = some (.int .i64 0) := K2.out.at.1 0
  have q2_0 : w1.frozen? ⟨w.heap.size + 1 + 1, 0, none⟩ = false := K2.out.at.2 0
  have p2_1 : w1.cell? ⟨w.heap.size + 1 + 1, 1, none⟩ = some (.slice none 0 0) := K2.out.at.1 1
  have q2_1 : w1.frozen? ⟨w.heap.size + 1 + 1, 1, none⟩ = false := K2.out.at.2 1
  have p2_2 : w1.cell? ⟨w.heap.size + 1 + 1, 2, none⟩ = some (.int .i64 0) := K2.out.at.1 2
  have q2_2 : w1.frozen? ⟨w.heap.size + 1 + 1, 2, none⟩ = false := K2.out.at.2 2
  have p2_3 : w1.cell? ⟨w.heap.size + 1 + 1, 3, none⟩ = some (.slice none 0 0) := K2.out.at.1 3
  have q2_3 : w1.frozen? ⟨w.heap.size + 1 + 1, 3, none⟩ = false := K2.out.at.2 3
  have z2 : w.heap.size + 1 + 1 < w1.heap.size := K2.out.lt
  go_wp2_with fail
  refine (fracRight_ok (q := r) (H2.out.keep (by go_grown)) (HY.out.mono (by omega))).mono ?_
  rintro e w2 ⟨rfl, hb⟩
  clear p0_0 q0_0 p0_1 q0_1 p0_2 q0_2 p0_3 q0_3 z0 p1_0 q1_0 p1_1 q1_1 p1_2 q1_2 p1_3 q1_3 z1 p2_0 q2_0 p2_1 q2_1 p2_2 q2_2 p2_3 q2_3 z2
  have hb' := below_call (w1 := w1) (by go_grown) hb
  replace K0 := Lib.hid (K0.out.keep hb')
  replace K1 := Lib.hid (K1.out.keep hb')
  replace K2 := Lib.hid (K2.out.keep hb')
  replace HB := Lib.hid (below_call HB.out hb')
  replace H1 := Lib.hid (H1.out.keep hb')
  replace H2 := Lib.hid (H2.out.keep hb')
  clear hb hb'
  have p0_0 : w2.cell? ⟨w.heap.size, 0, none⟩ = some (.int .i64 (sg (nu q))) := K0.out.at.1 0
  have q0_0 : w2.frozen? ⟨w.heap.size, 0, none⟩ = false := K0.out.at.2 0
  have p0_1 : w2.cell? ⟨w.heap.size, 1, none⟩ = some (.slice a1 (ln (nu q)) c1) := K0.out.at.1 1
  have q0_1 : w2.frozen? ⟨w.heap.size, 1, none⟩ = false := K0.out.at.2 1
  have p0_2 : w2.cell? ⟨w.heap.size, 2, none⟩ = some (.int .i64 (sg (de q))) := K0.out.at.1 2
  have q0_2 : w2.frozen? ⟨w.heap.size, 2, none⟩ = false := K0.out.at.2 2
  have p0_3 : w2.cell? ⟨w.heap.size, 3, none⟩ = some (.slice b1 (ln (de q)) d1) := K0.out.at.1 3
  have q0_3 : w2.frozen? ⟨w.heap.size, 3, none⟩ = false := K0.out.at.2 3
  have z0 : w.heap.size < w2.heap.size := K0.out.lt
  have p1_0 : w2.cell? ⟨w.heap.size + 1, 0, none⟩ = some (.int .i64 (sg (nu r))) := K1.out.at.1 0
  have q1_0 : w2.frozen? ⟨w.heap.size + 1, 0, none⟩ = false := K1.out.at.2 0
  have p1_1 : w2.cell? ⟨w.heap.size + 1, 1, none⟩ = some (.slice a2 (ln (nu r)) c2) := K1.out.at.1 1
  have q1_1 : w2.frozen? ⟨w.heap.size + 1, 1, none⟩ = false := K1.out.at.2 1
  have p1_2 : w2.cell? ⟨w.heap.size + 1, 2, none⟩ = some (.int .i64 (sg (de r))) := K1.out.at.1 2
  have q1_2 : w2.frozen? ⟨w.heap.size + 1, 2, none⟩ = false := K1.out.at.2 2
  have p1_3 : w2.cell? ⟨w.heap.size + 1, 3, none⟩ = some (.slice b2 (ln (de r)) d2) := K1.out.at.1 3
  have q1_3 : w2.frozen? ⟨w.heap.size + 1, 3, none⟩ = false := K1.out.at.2 3
  have z1 : w.heap.size + 1 < w2.heap.size := K1.out.lt
  have p2_0 : w2.cell? ⟨w.heap.size + 1 + 1, 0, none⟩ = some (.int .i64 0) := K2.out.at.1 0
  have q2_0 : w2.frozen? ⟨w.heap.size + 1 + 1, 0, none⟩ = false := K2.out.at.2 0
  have p2_1 : w2.cell? ⟨w.heap.size + 1 + 1, 1, none⟩ = some (.slice none 0 0) := K2.out.at.1 1
  have q2_1 : w2.frozen? ⟨w.heap.size + 1 + 1, 1, none⟩ = false := K2.out.at.2 1
  have p2_2 : w2.cell? ⟨w.heap.size + 1 + 1, 2, none⟩ = some (.int .i64 0) := K2.out.at.1 2
  have q2_2 : w2.frozen? ⟨w.heap.size + 1 + 1, 2, none⟩ = false := K2.out.at.2 2
  have p2_3 : w2.cell? ⟨w.heap.size + 1 + 1, 3, none⟩ = some (.slice none 0 0) := K2.out.at.1 3
  have q2_3 : w2.frozen? ⟨w.heap.size + 1 + 1, 3, none⟩ = false := K2.out.at.2 3
  have z2 : w.heap.size + 1 + 1 < w2.heap.size := K2.out.lt
  go_wp2_with fail
  clear p0_0 q0_0 p0_1 q0_1 p0_2 q0_2 p0_3 q0_3 z0 p1_0 q1_0 p1_1 q1_1 p1_2 q1_2 p1_3 q1_3 z1 p2_0 q2_0 p2_1 q2_1 p2_2 q2_2 p2_3 q2_3 z2
  have mk : Hid (∀ w', w2.grownBy w' (some (w.heap.size + 1 + 1)) → w'.cell? ⟨w.heap.size, 0, none⟩ = some (.int .i64 (sg (nu q))) ∧ w'.cell? ⟨w.heap.size, 1, none⟩ = some (.slice a1 (ln (nu q)) c1) ∧ w'.cell? ⟨w.heap.size, 2, none⟩ = some (.int .i64 (sg (de q))) ∧ w'.cell? ⟨w.heap.size, 3, none⟩ = some (.slice b1 (ln (de q)) d1) ∧ w'.cell? ⟨w.heap.size + 1, 0, none⟩ = some (.int .i64 (sg (nu r))) ∧ w'.cell? ⟨w.heap.size + 1, 1, none⟩ = some (.slice a2 (ln (nu r)) c2) ∧ w'.cell? ⟨w.heap.size + 1, 2, none⟩ = some (.int .i64 (sg (de r))) ∧ w'.cell? ⟨w.heap.size + 1, 3, none⟩ = some (.slice b2 (ln (de r)) d2) ∧ w2.grownBy w' (some (w.heap.size + 1 + 1))) := fun w' h => ⟨(K0.out.only h (by omega)).at.1 0, (K0.out.only h (by omega)).at.1 1, (K0.out.only h (by omega)).at.1 2, (K0.out.only h (by omega)).at.1 3, (K1.out.only h (by omega)).at.1 0, (K1.out.only h (by omega)).at.1 1, (K1.out.only h (by omega)).at.1 2, (K1.out.only h (by omega)).at.1 3, h⟩
  have hs0 : w2.grownBy w2.drew (some (w.heap.size + 1 + 1)) := only_start _ _
  have HS0 : Hid (Below w2.heap.size w2 w2.drew) := (Below.refl _ _).drew
  have tok0 : True := trivial
  have tok1 : True := trivial
  go_region_held3 (fun w' => w'.cell? ⟨w.heap.size, 0, none⟩ = some (.int .i64 (sg (nu q))) ∧ w'.cell? ⟨w.heap.size, 1, none⟩ = some (.slice a1 (ln (nu q)) c1) ∧ w'.cell? ⟨w.heap.size, 2, none⟩ = some (.int .i64 (sg (de q))) ∧ w'.cell? ⟨w.heap.size, 3, none⟩ = some (.slice b1 (ln (de q)) d1) ∧ w'.cell? ⟨w.heap.size + 1, 0, none⟩ = some (.int .i64 (sg (nu r))) ∧ w'.cell? ⟨w.heap.size + 1, 1, none⟩ = some (.slice a2 (ln (nu r)) c2) ∧ w'.cell? ⟨w.heap.size + 1, 2, none⟩ = some (.int .i64 (sg (de r))) ∧ w'.cell? ⟨w.heap.size + 1, 3, none⟩ = some (.slice b2 (ln (de r)) d2) ∧ w2.grownBy w' (some (w.heap.size + 1 + 1)))
    (first | exact mk.out _ (by assumption) | exact mk.out _ (only_setCell (only_setCell (only_setCell (only_setCell (by assumption) _) _) _) _) | exact mk.out _ (only_alloc (by assumption) _))
    (first
      | (go_at_call 50; have _t := tok0; refine (bigNeg_ok (H2.out.keep HS0.out).n (HY.out.1.mono (by omega))).mono ?_; rintro e w3 ⟨a3, c3, rfl, hd3, hb⟩; clear tok0 _t; have hs1 := only_call hs0 hb; have HS1 := Lib.hid (below_call HS0.out hb); clear hb; have Hd3 := Lib.hid hd3; clear hd3)
      | (go_at_call 10; have _t := tok1; refine (fracAdd_neg (H1.out.keep HS1.out) Hd3.out (H2.out.keep HS1.out).d HX.out HY.out).mono ?_; rintro e w4 ⟨a4, c4, b4, d4, rfl, hf4, hb⟩; clear tok1 _t; have hs2 := only_call hs1 hb; have HS2 := Lib.hid (below_call HS1.out hb); have Hd3 := Lib.hid (Hd3.out.keep hb); clear hb; have Hf4 := Lib.hid hf4; clear hf4; obtain ⟨p2, q2⟩ := (K2.out.keep HS2.out).at))
  replace K0 := Lib.hid (K0.out.keep HS2.out)
  replace K1 := Lib.hid (K1.out.keep HS2.out)
  replace K2 := Lib.hid (K2.out.keep HS2.out)
  replace HB := Lib.hid (below_call HB.out HS2.out)
  replace H1 := Lib.hid (H1.out.keep HS2.out)
  replace H2 := Lib.hid (H2.out.keep HS2.out)
  clear mk hs0 HS0 hs1 HS1 hs2 HS2  p2 q2
  go_wp2_with fail
  refine bodyPost_ret (results_box2 rfl _ _ (w.heap.size + 1 + 1) 26 _ _ _ rfl (K2.out.set4 _ _ _ _) Tryz.underlying26 rfl (by kernel_rfl)) rfl ?_
  refine ⟨a4, c4, b4, d4, rfl, ?_, ?_⟩
  · exact (Hf4.out.far0 K2.out zb4 (only_setCell (only_setCell (only_setCell (only_setCell (World.grownBy.refl _ _) _) _) _) _))
  · exact (Below.setCell (Below.setCell (Below.setCell (Below.setCell HB.out (by simp; try omega) _) (by simp; try omega) _) (by simp; try omega) _) (by simp; try omega) _)

set_option maxHeartbeats 4000000 in
theorem fracCompare_ok {q r : Rat} {a1 b1 a2 b2 : Option Addr} {c1 d1 c2 d2 : Nat} {w : World} (h1 : FD G w a1 c1 b1 d1 q) (h2 : FD G w a2 c2 b2 d2 r) (hx : Fz q 137438953472) (hy : Fz r 137438953472) :
    Calls Tryz.prog 27 #[.agg #[.int .i64 (sg (nu q)), .slice a1 (ln (nu q)) c1, .int .i64 (sg (de q)), .slice b1 (ln (de q)) d1], .agg #[.int .i64 (sg (nu r)), .slice a2 (ln (nu r)) c2, .int .i64 (sg (de r)), .slice b2 (ln (de r)) d2]] w fun e w' => e = .returned (.int .i64 (ordQ q r)) ∧ Below w.heap.size w w' := by
  have HX := Lib.hid hx
  have HY := Lib.hid hy
  have H1 := Lib.hid h1
  have H2 := Lib.hid h2
  clear hx hy h1 h2

  go_enter Tryz.func27, Tryz.ntmps27
  go_wp2_with fail
  refine (fracRight_ok (q := q) (H1.out.keep (by go_grown)) (HX.out.mono (by omega))).mono ?_
  rintro e w1 ⟨rfl, hb⟩
  have hbx := bx2 w 26 26 #[.int .i64 (sg (nu q)), .slice a1 (ln (nu q)) c1, .int .i64 (sg (de q)), .slice b1 (ln (de q)) d1] #[.int .i64 (sg (nu r)), .slice a2 (ln (nu r)) c2, .int .i64 (sg (de r)), .slice b2 (ln (de r)) d2]
  obtain ⟨k0, k1⟩ := hbx
  have K0 := Lib.hid (k0.keep hb)
  have K1 := Lib.hid (k1.keep hb)
  clear k0 k1
  have hb' : Below w.heap.size w w1 := below_call (by go_grown) hb
  have HB := Lib.hid hb'
  replace H1 := Lib.hid (H1.out.keep hb')
  replace H2 := Lib.hid (H2.out.keep hb')
  clear hb hb'
  have p0_0 : w1.cell? ⟨w.heap.size, 0, none⟩ = some (.int .i64 (sg (nu q))) := K0.out.at.1 0
  have q0_0 : w1.frozen? ⟨w.heap.size, 0, none⟩ = false := K0.out.at.2 0
  have p0_1 : w1.cell? ⟨w.heap.size, 1, none⟩ = some (.slice a1 (ln (nu q)) c1) := K0.out.at.1 1
  have q0_1 : w1.frozen? ⟨w.heap.size, 1, none⟩ = false := K0.out.at.2 1
  have p0_2 : w1.cell? ⟨w.heap.size, 2, none⟩ = some (.int .i64 (sg (de q))) := K0.out.at.1 2
  have q0_2 : w1.frozen? ⟨w.heap.size, 2, none⟩ = false := K0.out.at.2 2
  have p0_3 : w1.cell? ⟨w.heap.size, 3, none⟩ = some (.slice b1 (ln (de q)) d1) := K0.out.at.1 3
  have q0_3 : w1.frozen? ⟨w.heap.size, 3, none⟩ = false := K0.out.at.2 3
  have z0 : w.heap.size < w1.heap.size := K0.out.lt
  have p1_0 : w1.cell? ⟨w.heap.size + 1, 0, none⟩ = some (.int .i64 (sg (nu r))) := K1.out.at.1 0
  have q1_0 : w1.frozen? ⟨w.heap.size + 1, 0, none⟩ = false := K1.out.at.2 0
  have p1_1 : w1.cell? ⟨w.heap.size + 1, 1, none⟩ = some (.slice a2 (ln (nu r)) c2) := K1.out.at.1 1
  have q1_1 : w1.frozen? ⟨w.heap.size + 1, 1, none⟩ = false := K1.out.at.2 1
  have p1_2 : w1.cell? ⟨w.heap.size + 1, 2, none⟩ = some (.int .i64 (sg (de r))) := K1.out.at.1 2
  have q1_2 : w1.frozen? ⟨w.heap.size + 1, 2, none⟩ = false := K1.out.at.2 2
  have p1_3 : w1.cell? ⟨w.heap.size + 1, 3, none⟩ = some (.slice b2 (ln (de r)) d2) := K1.out.at.1 3
  have q1_3 : w1.frozen? ⟨w.heap.size + 1, 3, none⟩ = false := K1.out.at.2 3
  have z1 : w.heap.size + 1 < w1.heap.size := K1.out.lt
  go_wp2_with fail
  refine (fracRight_ok (q := r) (H2.out.keep (by go_grown)) (HY.out.mono (by omega))).mono ?_
  rintro e w2 ⟨rfl, hb⟩
  clear p0_0 q0_0 p0_1 q0_1 p0_2 q0_2 p0_3 q0_3 z0 p1_0 q1_0 p1_1 q1_1 p1_2 q1_2 p1_3 q1_3 z1
  have hb' := below_call (w1 := w1) (by go_grown) hb
  replace K0 := Lib.hid (K0.out.keep hb')
  replace K1 := Lib.hid (K1.out.keep hb')
  replace HB := Lib.hid (below_call HB.out hb')
  replace H1 := Lib.hid (H1.out.keep hb')
  replace H2 := Lib.hid (H2.out.keep hb')
  clear hb hb'
  have p0_0 : w2.cell? ⟨w.heap.size, 0, none⟩ = some (.int .i64 (sg (nu q))) := K0.out.at.1 0
  have q0_0 : w2.frozen? ⟨w.heap.size, 0, none⟩ = false := K0.out.at.2 0
  have p0_1 : w2.cell? ⟨w.heap.size, 1, none⟩ = some (.slice a1 (ln (nu q)) c1) := K0.out.at.1 1
  have q0_1 : w2.frozen? ⟨w.heap.size, 1, none⟩ = false := K0.out.at.2 1
  have p0_2 : w2.cell? ⟨w.heap.size, 2, none⟩ = some (.int .i64 (sg (de q))) := K0.out.at.1 2
  have q0_2 : w2.frozen? ⟨w.heap.size, 2, none⟩ = false := K0.out.at.2 2
  have p0_3 : w2.cell? ⟨w.heap.size, 3, none⟩ = some (.slice b1 (ln (de q)) d1) := K0.out.at.1 3
  have q0_3 : w2.frozen? ⟨w.heap.size, 3, none⟩ = false := K0.out.at.2 3
  have z0 : w.heap.size < w2.heap.size := K0.out.lt
  have p1_0 : w2.cell? ⟨w.heap.size + 1, 0, none⟩ = some (.int .i64 (sg (nu r))) := K1.out.at.1 0
  have q1_0 : w2.frozen? ⟨w.heap.size + 1, 0, none⟩ = false := K1.out.at.2 0
  have p1_1 : w2.cell? ⟨w.heap.size + 1, 1, none⟩ = some (.slice a2 (ln (nu r)) c2) := K1.out.at.1 1
  have q1_1 : w2.frozen? ⟨w.heap.size + 1, 1, none⟩ = false := K1.out.at.2 1
  have p1_2 : w2.cell? ⟨w.heap.size + 1, 2, none⟩ = some (.int .i64 (sg (de r))) := K1.out.at.1 2
  have q1_2 : w2.frozen? ⟨w.heap.size + 1, 2, none⟩ = false := K1.out.at.2 2
  have p1_3 : w2.cell? ⟨w.heap.size + 1, 3, none⟩ = some (.slice b2 (ln (de r)) d2) := K1.out.at.1 3
  have q1_3 : w2.frozen? ⟨w.heap.size + 1, 3, none⟩ = false := K1.out.at.2 3
  have z1 : w.heap.size + 1 < w2.heap.size := K1.out.lt
  go_wp2_with fail
  clear p0_0 q0_0 p0_1 q0_1 p0_2 q0_2 p0_3 q0_3 z0 p1_0 q1_0 p1_1 q1_1 p1_2 q1_2 p1_3 q1_3 z1
  have mk : Hid (∀ w', Below w2.heap.size w2 w' → w'.cell? ⟨w.heap.size, 0, none⟩ = some (.int .i64 (sg (nu q))) ∧ w'.cell? ⟨w.heap.size, 1, none⟩ = some (.slice a1 (ln (nu q)) c1) ∧ w'.cell? ⟨w.heap.size, 2, none⟩ = some (.int .i64 (sg (de q))) ∧ w'.cell? ⟨w.heap.size, 3, none⟩ = some (.slice b1 (ln (de q)) d1) ∧ w'.cell? ⟨w.heap.size + 1, 0, none⟩ = some (.int .i64 (sg (nu r))) ∧ w'.cell? ⟨w.heap.size + 1, 1, none⟩ = some (.slice a2 (ln (nu r)) c2) ∧ w'.cell? ⟨w.heap.size + 1, 2, none⟩ = some (.int .i64 (sg (de r))) ∧ w'.cell? ⟨w.heap.size + 1, 3, none⟩ = some (.slice b2 (ln (de r)) d2) ∧ Below w2.heap.size w2 w') := fun w' h => ⟨(K0.out.keep h).at.1 0, (K0.out.keep h).at.1 1, (K0.out.keep h).at.1 2, (K0.out.keep h).at.1 3, (K1.out.keep h).at.1 0, (K1.out.keep h).at.1 1, (K1.out.keep h).at.1 2, (K1.out.keep h).at.1 3, h⟩
  have hs0 : Below w2.heap.size w2 w2.drew := (Below.refl _ _).drew
  have HS0 : Hid (Below w2.heap.size w2 w2.drew) := (Below.refl _ _).drew
  have tok0 : True := trivial
  have tok1 : True := trivial
  have tok2 : True := trivial
  go_region_held3 (fun w' => w'.cell? ⟨w.heap.size, 0, none⟩ = some (.int .i64 (sg (nu q))) ∧ w'.cell? ⟨w.heap.size, 1, none⟩ = some (.slice a1 (ln (nu q)) c1) ∧ w'.cell? ⟨w.heap.size, 2, none⟩ = some (.int .i64 (sg (de q))) ∧ w'.cell? ⟨w.heap.size, 3, none⟩ = some (.slice b1 (ln (de q)) d1) ∧ w'.cell? ⟨w.heap.size + 1, 0, none⟩ = some (.int .i64 (sg (nu r))) ∧ w'.cell? ⟨w.heap.size + 1, 1, none⟩ = some (.slice a2 (ln (nu r)) c2) ∧ w'.cell? ⟨w.heap.size + 1, 2, none⟩ = some (.int .i64 (sg (de r))) ∧ w'.cell? ⟨w.heap.size + 1, 3, none⟩ = some (.slice b2 (ln (de r)) d2) ∧ Below w2.heap.size w2 w')
    (first | exact mk.out _ (by assumption) | exact mk.out _ (Below.alloc (by assumption) (Below.size (by assumption)) _))
    (first
      | (go_at_call 52; have _t := tok0; refine (times_ok (x := nu q) (y := de r) (H1.out.keep HS0.out).n (H2.out.keep HS0.out).d (HX.out.1.mono (by omega)) (HY.out.2.mono (by omega))).mono ?_; rintro e w3 ⟨a3, c3, rfl, hd3, hb⟩; clear tok0 _t; have hs1 := below_call hs0 hb; have HS1 := Lib.hid (below_call HS0.out hb); clear hb; have Hd3 := Lib.hid hd3; clear hd3)
      | (go_at_call 52; have _t := tok1; refine (times_ok (x := nu r) (y := de q) (H2.out.keep HS1.out).n (H1.out.keep HS1.out).d (HY.out.1.mono (by omega)) (HX.out.2.mono (by omega))).mono ?_; rintro e w4 ⟨a4, c4, rfl, hd4, hb⟩; clear tok1 _t; have hs2 := below_call hs1 hb; have HS2 := Lib.hid (below_call HS1.out hb); have Hd3 := Lib.hid (Hd3.out.keep hb); clear hb; have Hd4 := Lib.hid hd4; clear hd4)
      | (go_at_call 69; have _t := tok2; refine (bigCompare_ok Hd3.out Hd4.out ((HX.out.1.mul HY.out.2).mono (by omega)) ((HY.out.1.mul HX.out.2).mono (by omega))).mono ?_; rintro e w5 ⟨rfl, hb⟩; clear tok2 _t; have hs3 := below_call hs2 hb; have HS3 := Lib.hid (below_call HS2.out hb); have Hd3 := Lib.hid (Hd3.out.keep hb); have Hd4 := Lib.hid (Hd4.out.keep hb); clear hb))
  replace K0 := Lib.hid (K0.out.keep HS3.out)
  replace K1 := Lib.hid (K1.out.keep HS3.out)
  replace HB := Lib.hid (below_call HB.out HS3.out)
  replace H1 := Lib.hid (H1.out.keep HS3.out)
  replace H2 := Lib.hid (H2.out.keep HS3.out)
  clear mk hs0 HS0 hs1 HS1 hs2 HS2 hs3 HS3
  have p0_0 : w5.cell? ⟨w.heap.size, 0, none⟩ = some (.int .i64 (sg (nu q))) := K0.out.at.1 0
  have q0_0 : w5.frozen? ⟨w.heap.size, 0, none⟩ = false := K0.out.at.2 0
  have p0_1 : w5.cell? ⟨w.heap.size, 1, none⟩ = some (.slice a1 (ln (nu q)) c1) := K0.out.at.1 1
  have q0_1 : w5.frozen? ⟨w.heap.size, 1, none⟩ = false := K0.out.at.2 1
  have p0_2 : w5.cell? ⟨w.heap.size, 2, none⟩ = some (.int .i64 (sg (de q))) := K0.out.at.1 2
  have q0_2 : w5.frozen? ⟨w.heap.size, 2, none⟩ = false := K0.out.at.2 2
  have p0_3 : w5.cell? ⟨w.heap.size, 3, none⟩ = some (.slice b1 (ln (de q)) d1) := K0.out.at.1 3
  have q0_3 : w5.frozen? ⟨w.heap.size, 3, none⟩ = false := K0.out.at.2 3
  have z0 : w.heap.size < w5.heap.size := K0.out.lt
  have p1_0 : w5.cell? ⟨w.heap.size + 1, 0, none⟩ = some (.int .i64 (sg (nu r))) := K1.out.at.1 0
  have q1_0 : w5.frozen? ⟨w.heap.size + 1, 0, none⟩ = false := K1.out.at.2 0
  have p1_1 : w5.cell? ⟨w.heap.size + 1, 1, none⟩ = some (.slice a2 (ln (nu r)) c2) := K1.out.at.1 1
  have q1_1 : w5.frozen? ⟨w.heap.size + 1, 1, none⟩ = false := K1.out.at.2 1
  have p1_2 : w5.cell? ⟨w.heap.size + 1, 2, none⟩ = some (.int .i64 (sg (de r))) := K1.out.at.1 2
  have q1_2 : w5.frozen? ⟨w.heap.size + 1, 2, none⟩ = false := K1.out.at.2 2
  have p1_3 : w5.cell? ⟨w.heap.size + 1, 3, none⟩ = some (.slice b2 (ln (de r)) d2) := K1.out.at.1 3
  have q1_3 : w5.frozen? ⟨w.heap.size + 1, 3, none⟩ = false := K1.out.at.2 3
  have z1 : w.heap.size + 1 < w5.heap.size := K1.out.lt
  go_wp2_with fail
  go_ret
  exact ⟨ret_int (ord_parts q r), HB.out⟩

set_option maxHeartbeats 4000000 in
theorem slim_ok {x : Int} {a1 : Option Addr} {c1 : Nat} {w : World} (h1 : BD G w a1 c1 x) (hx : Sz x 549755813888) :
    Calls Tryz.prog 72 #[.agg #[.int .i64 (sg x), .slice a1 (ln x) c1]] w fun e w' => ∃ a c, e = .returned (.agg #[.int .i64 (sg x), .slice a (ln x) c]) ∧ BD G w' a c x ∧ Below w.heap.size w w' := by
  have HX := Lib.hid hx
  have H1 := Lib.hid h1
  have HN := Lib.hid (Int.neg_neg x)
  clear hx h1

  go_enter Tryz.func72, Tryz.ntmps72
  go_wp2_with fail
  refine (bigNeg_ok (H1.out.keep (by go_grown)) HX.out).mono ?_
  rintro e w1 ⟨a3, c3, rfl, hd3, hb⟩
  have hbx := bx2 w 24 24 #[.int .i64 (sg x), .slice a1 (ln x) c1] #[.int .i64 0, .slice none 0 0]
  obtain ⟨k0, k1⟩ := hbx
  have K0 := Lib.hid (k0.keep hb)
  have K1 := Lib.hid (k1.keep hb)
  clear k0 k1
  have hb' : Below w.heap.size w w1 := below_call (by go_grown) hb
  have HB := Lib.hid hb'
  replace H1 := Lib.hid (H1.out.keep hb')
  clear hb hb'
  have Hd3 := Lib.hid hd3; clear hd3
  have p0_0 : w1.cell? ⟨w.heap.size, 0, none⟩ = some (.int .i64 (sg x)) := K0.out.at.1 0
  have q0_0 : w1.frozen? ⟨w.heap.size, 0, none⟩ = false := K0.out.at.2 0
  have p0_1 : w1.cell? ⟨w.heap.size, 1, none⟩ = some (.slice a1 (ln x) c1) := K0.out.at.1 1
  have q0_1 : w1.frozen? ⟨w.heap.size, 1, none⟩ = false := K0.out.at.2 1
  have z0 : w.heap.size < w1.heap.size := K0.out.lt
  have p1_0 : w1.cell? ⟨w.heap.size + 1, 0, none⟩ = some (.int .i64 0) := K1.out.at.1 0
  have q1_0 : w1.frozen? ⟨w.heap.size + 1, 0, none⟩ = false := K1.out.at.2 0
  have p1_1 : w1.cell? ⟨w.heap.size + 1, 1, none⟩ = some (.slice none 0 0) := K1.out.at.1 1
  have q1_1 : w1.frozen? ⟨w.heap.size + 1, 1, none⟩ = false := K1.out.at.2 1
  have z1 : w.heap.size + 1 < w1.heap.size := K1.out.lt
  go_wp2_with fail
  refine (bigNeg_ok (Hd3.out.keep (by go_grown)) HX.out.neg).mono ?_
  rintro e w2 ⟨a4, c4, rfl, hd4, hb⟩
  clear p0_0 q0_0 p0_1 q0_1 z0 p1_0 q1_0 p1_1 q1_1 z1
  have hb' := below_call (w1 := w1) (by go_grown) hb
  replace K0 := Lib.hid (K0.out.keep hb')
  replace K1 := Lib.hid (K1.out.keep hb')
  replace HB := Lib.hid (below_call HB.out hb')
  replace H1 := Lib.hid (H1.out.keep hb')
  replace Hd3 := Lib.hid (Hd3.out.keep hb')
  clear hb hb'
  have Hd4 := Lib.hid hd4; clear hd4
  have p0_0 : w2.cell? ⟨w.heap.size, 0, none⟩ = some (.int .i64 (sg x)) := K0.out.at.1 0
  have q0_0 : w2.frozen? ⟨w.heap.size, 0, none⟩ = false := K0.out.at.2 0
  have p0_1 : w2.cell? ⟨w.heap.size, 1, none⟩ = some (.slice a1 (ln x) c1) := K0.out.at.1 1
  have q0_1 : w2.frozen? ⟨w.heap.size, 1, none⟩ = false := K0.out.at.2 1
  have z0 : w.heap.size < w2.heap.size := K0.out.lt
  have p1_0 : w2.cell? ⟨w.heap.size + 1, 0, none⟩ = some (.int .i64 0) := K1.out.at.1 0
  have q1_0 : w2.frozen? ⟨w.heap.size + 1, 0, none⟩ = false := K1.out.at.2 0
  have p1_1 : w2.cell? ⟨w.heap.size + 1, 1, none⟩ = some (.slice none 0 0) := K1.out.at.1 1
  have q1_1 : w2.frozen? ⟨w.heap.size + 1, 1, none⟩ = false := K1.out.at.2 1
  have z1 : w.heap.size + 1 < w2.heap.size := K1.out.lt
  rw [HN.out] at Hd4 ⊢
  go_wp2_with fail
  clear p0_0 q0_0 p0_1 q0_1 z0 p1_0 q1_0 p1_1 q1_1 z1
  refine bodyPost_ret (results_box1 rfl _ _ (w.heap.size + 1) 24 _ _ _ rfl (K1.out.set2 _ _) Tryz.underlying24 rfl (by kernel_rfl)) rfl ?_
  refine ⟨a4, c4, rfl, ?_, ?_⟩
  · exact (Hd4.out.far0 K1.out zb2 (only_setCell (only_setCell (World.grownBy.refl _ _) _) _))
  · exact (Below.setCell (Below.setCell HB.out (by simp; try omega) _) (by simp; try omega) _)

def pick (q r : Rat) (s : Int) : Rat := if ordQ q r * s < 0 then r else q
theorem ordQ_cases (q r : Rat) : ordQ q r = 1 ∨ ordQ q r = -1 ∨ ordQ q r = 0 := by unfold ordQ; split <;> (try split) <;> simp
theorem wrap_ordQ (q r : Rat) {s : Int} (h : s = 1 ∨ s = -1) : IntKind.i64.wrap (ordQ q r * s) = ordQ q r * s := by
  rcases ordQ_cases q r with h1 | h1 | h1 <;> rcases h with h2 | h2 <;> rw [h1, h2] <;> rfl

set_option maxHeartbeats 4000000 in
theorem either_fst {q r : Rat} {a1 b1 a2 b2 : Option Addr} {c1 d1 c2 d2 : Nat} {w : World} (h1 : FD G w a1 c1 b1 d1 q) (h2 : FD G w a2 c2 b2 d2 r) (hx : Fz q 137438953472) (hy : Fz r 137438953472) {s : Int} (hs : s = 1 ∨ s = -1) (hp : ¬ ordQ q r * s < 0) :
    Calls Tryz.prog 71 #[.agg #[.int .i64 (sg (nu q)), .slice a1 (ln (nu q)) c1, .int .i64 (sg (de q)), .slice b1 (ln (de q)) d1], .agg #[.int .i64 (sg (nu r)), .slice a2 (ln (nu r)) c2, .int .i64 (sg (de r)), .slice b2 (ln (de r)) d2], .int .i64 s] w fun e w' => ∃ a c b d, e = .returned (.tuple #[.agg #[.int .i64 (sg (nu q)), .slice a (ln (nu q)) c, .int .i64 (sg (de q)), .slice b (ln (de q)) d], .int .i64 0]) ∧ FD G w' a c b d q ∧ Below w.heap.size w w' := by
  have HX := Lib.hid hx
  have HY := Lib.hid hy
  have H1 := Lib.hid h1
  have H2 := Lib.hid h2
  clear hx hy h1 h2

  have H20 := H2
  have hws := wrap_ordQ q r hs
  have e1 : decide (ordQ q r * s < 0) = false := by rw [decide_eq_false_iff_not]; exact hp
  clear hp hs

  go_enter Tryz.func71, Tryz.ntmps71
  go_wp2_with fail
  refine (fracRight_ok (q := q) (H1.out.keep (by go_grown)) (HX.out.mono (by omega))).mono ?_
  rintro e w1 ⟨rfl, hb⟩
  have hbx := bx3 w 26 26 26 #[.int .i64 (sg (nu q)), .slice a1 (ln (nu q)) c1, .int .i64 (sg (de q)), .slice b1 (ln (de q)) d1] #[.int .i64 (sg (nu r)), .slice a2 (ln (nu r)) c2, .int .i64 (sg (de r)), .slice b2 (ln (de r)) d2] #[.int .i64 0, .slice none 0 0, .int .i64 0, .slice none 0 0]
  obtain ⟨k0, k1, k2⟩ := hbx
  have K0 := Lib.hid (k0.keep hb)
  have K1 := Lib.hid (k1.keep hb)
  have K2 := Lib.hid (k2.keep hb)
  clear k0 k1 k2
  have hb' : Below w.heap.size w w1 := below_call (by go_grown) hb
  have HB := Lib.hid hb'
  replace H1 := Lib.hid (H1.out.keep hb')
  replace H2 := Lib.hid (H2.out.keep hb')
  clear hb hb'
  have p0_0 : w1.cell? ⟨w.heap.size, 0, none⟩ = some (.int .i64 (sg (nu q))) := K0.out.at.1 0
  have q0_0 : w1.frozen? ⟨w.heap.size, 0, none⟩ = false := K0.out.at.2 0
  have p0_1 : w1.cell? ⟨w.heap.size, 1, none⟩ = some (.slice a1 (ln (nu q)) c1) := K0.out.at.1 1
  have q0_1 : w1.frozen? ⟨w.heap.size, 1, none⟩ = false := K0.out.at.2 1
  have p0_2 : w1.cell? ⟨w.heap.size, 2, none⟩ = some (.int .i64 (sg (de q))) := K0.out.at.1 2
  have q0_2 : w1.frozen? ⟨w.heap.size, 2, none⟩ = false := K0.out.at.2 2
  have p0_3 : w1.cell? ⟨w.heap.size, 3, none⟩ = some (.slice b1 (ln (de q)) d1) := K0.out.at.1 3
  have q0_3 : w1.frozen? ⟨w.heap.size, 3, none⟩ = false := K0.out.at.2 3
  have z0 : w.heap.size < w1.heap.size := K0.out.lt
  have p1_0 : w1.cell? ⟨w.heap.size + 1, 0, none⟩ = some (.int .i64 (sg (nu r))) := K1.out.at.1 0
  have q1_0 : w1.frozen? ⟨w.heap.size + 1, 0, none⟩ = false := K1.out.at.2 0
  have p1_1 : w1.cell? ⟨w.heap.size + 1, 1, none⟩ = some (.slice a2 (ln (nu r)) c2) := K1.out.at.1 1
  have q1_1 : w1.frozen? ⟨w.heap.size + 1, 1, none⟩ = false := K1.out.at.2 1
  have p1_2 : w1.cell? ⟨w.heap.size + 1, 2, none⟩ = some (.int .i64 (sg (de r))) := K1.out.at.1 2
  have q1_2 : w1.frozen? ⟨w.heap.size + 1, 2, none⟩ = false := K1.out.at.2 2
  have p1_3 : w1.cell? ⟨w.heap.size + 1, 3, none⟩ = some (.slice b2 (ln (de r)) d2) := K1.out.at.1 3
  have q1_3 : w1.frozen? ⟨w.heap.size + 1, 3, none⟩ = false := K1.out.at.2 3
  have z1 : w.heap.size + 1 < w1.heap.size := K1.out.lt
  have p2_0 : w1.cell? ⟨w.heap.size + 1 + 1, 0, none⟩ = some (.int .i64 0) := K2.out.at.1 0
  have q2_0 : w1.frozen? ⟨w.heap.size + 1 + 1, 0, none⟩ = false := K2.out.at.2 0
  have p2_1 : w1.cell? ⟨w.heap.size + 1 + 1, 1, none⟩ = some (.slice none 0 0) := K2.out.at.1 1
  have q2_1 : w1.frozen? ⟨w.heap.size + 1 + 1, 1, none⟩ = false := K2.out.at.2 1
  have p2_2 : w1.cell? ⟨w.heap.size + 1 + 1, 2, none⟩ = some (.int .i64 0) := K2.out.at.1 2
  have q2_2 : w1.frozen? ⟨w.heap.size + 1 + 1, 2, none⟩ = false := K2.out.at.2 2
  have p2_3 : w1.cell? ⟨w.heap.size + 1 + 1, 3, none⟩ = some (.slice none 0 0) := K2.out.at.1 3
  have q2_3 : w1.frozen? ⟨w.heap.size + 1 + 1, 3, none⟩ = false := K2.out.at.2 3
  have z2 : w.heap.size + 1 + 1 < w1.heap.size := K2.out.lt
  go_wp2_with fail
  refine (fracRight_ok (q := r) (H2.out.keep (by go_grown)) (HY.out.mono (by omega))).mono ?_
  rintro e w2 ⟨rfl, hb⟩
  clear p0_0 q0_0 p0_1 q0_1 p0_2 q0_2 p0_3 q0_3 z0 p1_0 q1_0 p1_1 q1_1 p1_2 q1_2 p1_3 q1_3 z1 p2_0 q2_0 p2_1 q2_1 p2_2 q2_2 p2_3 q2_3 z2
  have hb' := below_call (w1 := w1) (by go_grown) hb
  replace K0 := Lib.hid (K0.out.keep hb')
  replace K1 := Lib.hid (K1.out.keep hb')
  replace K2 := Lib.hid (K2.out.keep hb')
  replace HB := Lib.hid (below_call HB.out hb')
  replace H1 := Lib.hid (H1.out.keep hb')
  replace H2 := Lib.hid (H2.out.keep hb')
  clear hb hb'
  have p0_0 : w2.cell? ⟨w.heap.size, 0, none⟩ = some (.int .i64 (sg (nu q))) := K0.out.at.1 0
  have q0_0 : w2.frozen? ⟨w.heap.size, 0, none⟩ = false := K0.out.at.2 0
  have p0_1 : w2.cell? ⟨w.heap.size, 1, none⟩ = some (.slice a1 (ln (nu q)) c1) := K0.out.at.1 1
  have q0_1 : w2.frozen? ⟨w.heap.size, 1, none⟩ = false := K0.out.at.2 1
  have p0_2 : w2.cell? ⟨w.heap.size, 2, none⟩ = some (.int .i64 (sg (de q))) := K0.out.at.1 2
  have q0_2 : w2.frozen? ⟨w.heap.size, 2, none⟩ = false := K0.out.at.2 2
  have p0_3 : w2.cell? ⟨w.heap.size, 3, none⟩ = some (.slice b1 (ln (de q)) d1) := K0.out.at.1 3
  have q0_3 : w2.frozen? ⟨w.heap.size, 3, none⟩ = false := K0.out.at.2 3
  have z0 : w.heap.size < w2.heap.size := K0.out.lt
  have p1_0 : w2.cell? ⟨w.heap.size + 1, 0, none⟩ = some (.int .i64 (sg (nu r))) := K1.out.at.1 0
  have q1_0 : w2.frozen? ⟨w.heap.size + 1, 0, none⟩ = false := K1.out.at.2 0
  have p1_1 : w2.cell? ⟨w.heap.size + 1, 1, none⟩ = some (.slice a2 (ln (nu r)) c2) := K1.out.at.1 1
  have q1_1 : w2.frozen? ⟨w.heap.size + 1, 1, none⟩ = false := K1.out.at.2 1
  have p1_2 : w2.cell? ⟨w.heap.size + 1, 2, none⟩ = some (.int .i64 (sg (de r))) := K1.out.at.1 2
  have q1_2 : w2.frozen? ⟨w.heap.size + 1, 2, none⟩ = false := K1.out.at.2 2
  have p1_3 : w2.cell? ⟨w.heap.size + 1, 3, none⟩ = some (.slice b2 (ln (de r)) d2) := K1.out.at.1 3
  have q1_3 : w2.frozen? ⟨w.heap.size + 1, 3, none⟩ = false := K1.out.at.2 3
  have z1 : w.heap.size + 1 < w2.heap.size := K1.out.lt
  have p2_0 : w2.cell? ⟨w.heap.size + 1 + 1, 0, none⟩ = some (.int .i64 0) := K2.out.at.1 0
  have q2_0 : w2.frozen? ⟨w.heap.size + 1 + 1, 0, none⟩ = false := K2.out.at.2 0
  have p2_1 : w2.cell? ⟨w.heap.size + 1 + 1, 1, none⟩ = some (.slice none 0 0) := K2.out.at.1 1
  have q2_1 : w2.frozen? ⟨w.heap.size + 1 + 1, 1, none⟩ = false := K2.out.at.2 1
  have p2_2 : w2.cell? ⟨w.heap.size + 1 + 1, 2, none⟩ = some (.int .i64 0) := K2.out.at.1 2
  have q2_2 : w2.frozen? ⟨w.heap.size + 1 + 1, 2, none⟩ = false := K2.out.at.2 2
  have p2_3 : w2.cell? ⟨w.heap.size + 1 + 1, 3, none⟩ = some (.slice none 0 0) := K2.out.at.1 3
  have q2_3 : w2.frozen? ⟨w.heap.size + 1 + 1, 3, none⟩ = false := K2.out.at.2 3
  have z2 : w.heap.size + 1 + 1 < w2.heap.size := K2.out.lt
  go_wp2_with fail
  refine (fracCompare_ok (H1.out.keep (by go_grown)) (H2.out.keep (by go_grown)) HX.out HY.out).mono ?_
  rintro e w3 ⟨rfl, hb⟩
  clear p0_0 q0_0 p0_1 q0_1 p0_2 q0_2 p0_3 q0_3 z0 p1_0 q1_0 p1_1 q1_1 p1_2 q1_2 p1_3 q1_3 z1 p2_0 q2_0 p2_1 q2_1 p2_2 q2_2 p2_3 q2_3 z2
  have hb' := below_call (w1 := w2) (by go_grown) hb
  replace K0 := Lib.hid (K0.out.keep hb')
  replace K1 := Lib.hid (K1.out.keep hb')
  replace K2 := Lib.hid (K2.out.keep hb')
  replace HB := Lib.hid (below_call HB.out hb')
  replace H1 := Lib.hid (H1.out.keep hb')
  replace H2 := Lib.hid (H2.out.keep hb')
  clear hb hb'
  have p0_0 : w3.cell? ⟨w.heap.size, 0, none⟩ = some (.int .i64 (sg (nu q))) := K0.out.at.1 0
  have q0_0 : w3.frozen? ⟨w.heap.size, 0, none⟩ = false := K0.out.at.2 0
  have p0_1 : w3.cell? ⟨w.heap.size, 1, none⟩ = some (.slice a1 (ln (nu q)) c1) := K0.out.at.1 1
  have q0_1 : w3.frozen? ⟨w.heap.size, 1, none⟩ = false := K0.out.at.2 1
  have p0_2 : w3.cell? ⟨w.heap.size, 2, none⟩ = some (.int .i64 (sg (de q))) := K0.out.at.1 2
  have q0_2 : w3.frozen? ⟨w.heap.size, 2, none⟩ = false := K0.out.at.2 2
  have p0_3 : w3.cell? ⟨w.heap.size, 3, none⟩ = some (.slice b1 (ln (de q)) d1) := K0.out.at.1 3
  have q0_3 : w3.frozen? ⟨w.heap.size, 3, none⟩ = false := K0.out.at.2 3
  have z0 : w.heap.size < w3.heap.size := K0.out.lt
  have p1_0 : w3.cell? ⟨w.heap.size + 1, 0, none⟩ = some (.int .i64 (sg (nu r))) := K1.out.at.1 0
  have q1_0 : w3.frozen? ⟨w.heap.size + 1, 0, none⟩ = false := K1.out.at.2 0
  have p1_1 : w3.cell? ⟨w.heap.size + 1, 1, none⟩ = some (.slice a2 (ln (nu r)) c2) := K1.out.at.1 1
  have q1_1 : w3.frozen? ⟨w.heap.size + 1, 1, none⟩ = false := K1.out.at.2 1
  have p1_2 : w3.cell? ⟨w.heap.size + 1, 2, none⟩ = some (.int .i64 (sg (de r))) := K1.out.at.1 2
  have q1_2 : w3.frozen? ⟨w.heap.size + 1, 2, none⟩ = false := K1.out.at.2 2
  have p1_3 : w3.cell? ⟨w.heap.size + 1, 3, none⟩ = some (.slice b2 (ln (de r)) d2) := K1.out.at.1 3
  have q1_3 : w3.frozen? ⟨w.heap.size + 1, 3, none⟩ = false := K1.out.at.2 3
  have z1 : w.heap.size + 1 < w3.heap.size := K1.out.lt
  have p2_0 : w3.cell? ⟨w.heap.size + 1 + 1, 0, none⟩ = some (.int .i64 0) := K2.out.at.1 0
  have q2_0 : w3.frozen? ⟨w.heap.size + 1 + 1, 0, none⟩ = false := K2.out.at.2 0
  have p2_1 : w3.cell? ⟨w.heap.size + 1 + 1, 1, none⟩ = some (.slice none 0 0) := K2.out.at.1 1
  have q2_1 : w3.frozen? ⟨w.heap.size + 1 + 1, 1, none⟩ = false := K2.out.at.2 1
  have p2_2 : w3.cell? ⟨w.heap.size + 1 + 1, 2, none⟩ = some (.int .i64 0) := K2.out.at.1 2
  have q2_2 : w3.frozen? ⟨w.heap.size + 1 + 1, 2, none⟩ = false := K2.out.at.2 2
  have p2_3 : w3.cell? ⟨w.heap.size + 1 + 1, 3, none⟩ = some (.slice none 0 0) := K2.out.at.1 3
  have q2_3 : w3.frozen? ⟨w.heap.size + 1 + 1, 3, none⟩ = false := K2.out.at.2 3
  have z2 : w.heap.size + 1 + 1 < w3.heap.size := K2.out.lt
  go_wp2_with fail
  clear p0_0 q0_0 p0_1 q0_1 p0_2 q0_2 p0_3 q0_3 z0 p1_0 q1_0 p1_1 q1_1 p1_2 q1_2 p1_3 q1_3 z1 p2_0 q2_0 p2_1 q2_1 p2_2 q2_2 p2_3 q2_3 z2
  have mk : Hid (∀ w', w3.grownBy w' (some (w.heap.size + 1 + 1)) → w'.cell? ⟨w.heap.size, 0, none⟩ = some (.int .i64 (sg (nu q))) ∧ w'.cell? ⟨w.heap.size, 1, none⟩ = some (.slice a1 (ln (nu q)) c1) ∧ w'.cell? ⟨w.heap.size, 2, none⟩ = some (.int .i64 (sg (de q))) ∧ w'.cell? ⟨w.heap.size, 3, none⟩ = some (.slice b1 (ln (de q)) d1) ∧ w'.cell? ⟨w.heap.size + 1, 0, none⟩ = some (.int .i64 (sg (nu r))) ∧ w'.cell? ⟨w.heap.size + 1, 1, none⟩ = some (.slice a2 (ln (nu r)) c2) ∧ w'.cell? ⟨w.heap.size + 1, 2, none⟩ = some (.int .i64 (sg (de r))) ∧ w'.cell? ⟨w.heap.size + 1, 3, none⟩ = some (.slice b2 (ln (de r)) d2) ∧ w3.grownBy w' (some (w.heap.size + 1 + 1))) := fun w' h => ⟨(K0.out.only h (by omega)).at.1 0, (K0.out.only h (by omega)).at.1 1, (K0.out.only h (by omega)).at.1 2, (K0.out.only h (by omega)).at.1 3, (K1.out.only h (by omega)).at.1 0, (K1.out.only h (by omega)).at.1 1, (K1.out.only h (by omega)).at.1 2, (K1.out.only h (by omega)).at.1 3, h⟩
  have hs0 : w3.grownBy w3.drew (some (w.heap.size + 1 + 1)) := only_start _ _
  have HS0 : Hid (Below w3.heap.size w3 w3.drew) := (Below.refl _ _).drew
  have tok0 : True := trivial
  have tok1 : True := trivial
  go_region_held3 (fun w' => w'.cell? ⟨w.heap.size, 0, none⟩ = some (.int .i64 (sg (nu q))) ∧ w'.cell? ⟨w.heap.size, 1, none⟩ = some (.slice a1 (ln (nu q)) c1) ∧ w'.cell? ⟨w.heap.size, 2, none⟩ = some (.int .i64 (sg (de q))) ∧ w'.cell? ⟨w.heap.size, 3, none⟩ = some (.slice b1 (ln (de q)) d1) ∧ w'.cell? ⟨w.heap.size + 1, 0, none⟩ = some (.int .i64 (sg (nu r))) ∧ w'.cell? ⟨w.heap.size + 1, 1, none⟩ = some (.slice a2 (ln (nu r)) c2) ∧ w'.cell? ⟨w.heap.size + 1, 2, none⟩ = some (.int .i64 (sg (de r))) ∧ w'.cell? ⟨w.heap.size + 1, 3, none⟩ = some (.slice b2 (ln (de r)) d2) ∧ w3.grownBy w' (some (w.heap.size + 1 + 1)))
    (first | exact mk.out _ (by assumption) | exact mk.out _ (only_setCell (only_setCell (only_setCell (only_setCell (by assumption) _) _) _) _) | exact mk.out _ (only_alloc (by assumption) _))
    (first
      | (go_at_call 72; have _t := tok0; refine (slim_ok (x := nu q) (H1.out.keep HS0.out).n (HX.out.1.mono (by omega))).mono ?_; rintro e w4 ⟨a5, c5, rfl, hd5, hb⟩; clear tok0 _t; have hs1 := only_call hs0 hb; have HS1 := Lib.hid (below_call HS0.out hb); clear hb; have Hd5 := Lib.hid hd5; clear hd5)
      | (go_at_call 72; have _t := tok1; refine (slim_ok (x := de q) (H1.out.keep HS1.out).d (HX.out.2.mono (by omega))).mono ?_; rintro e w5 ⟨a6, c6, rfl, hd6, hb⟩; clear tok1 _t; have hs2 := only_call hs1 hb; have HS2 := Lib.hid (below_call HS1.out hb); have Hd5 := Lib.hid (Hd5.out.keep hb); clear hb; have Hd6 := Lib.hid hd6; clear hd6; obtain ⟨p2, q2⟩ := (K2.out.keep HS2.out).at))
  replace K0 := Lib.hid (K0.out.keep HS2.out)
  replace K1 := Lib.hid (K1.out.keep HS2.out)
  replace K2 := Lib.hid (K2.out.keep HS2.out)
  replace HB := Lib.hid (below_call HB.out HS2.out)
  replace H1 := Lib.hid (H1.out.keep HS2.out)
  replace H2 := Lib.hid (H2.out.keep HS2.out)
  clear mk hs0 HS0 hs1 HS1 hs2 HS2  p2 q2
  go_wp2_with fail
  have HF : Hid (FD G w5 a5 c5 a6 c6 q) := FD.mk Hd5.out Hd6.out
  refine bodyPost_ret (results_box2 rfl _ _ (w.heap.size + 1 + 1) 26 _ _ _ rfl (K2.out.set4 _ _ _ _) Tryz.underlying26 rfl (by kernel_rfl)) rfl ?_
  refine ⟨a5, c5, a6, c6, rfl, ?_, ?_⟩
  · exact (HF.out.far0 K2.out zb4 (only_setCell (only_setCell (only_setCell (only_setCell (World.grownBy.refl _ _) _) _) _) _))
  · exact (Below.setCell (Below.setCell (Below.setCell (Below.setCell HB.out (by simp; try omega) _) (by simp; try omega) _) (by simp; try omega) _) (by simp; try omega) _)

set_option maxHeartbeats 4000000 in
theorem either_snd {q r : Rat} {a1 b1 a2 b2 : Option Addr} {c1 d1 c2 d2 : Nat} {w : World} (h1 : FD G w a1 c1 b1 d1 q) (h2 : FD G w a2 c2 b2 d2 r) (hx : Fz q 137438953472) (hy : Fz r 137438953472) {s : Int} (hs : s = 1 ∨ s = -1) (hp : ordQ q r * s < 0) :
    Calls Tryz.prog 71 #[.agg #[.int .i64 (sg (nu q)), .slice a1 (ln (nu q)) c1, .int .i64 (sg (de q)), .slice b1 (ln (de q)) d1], .agg #[.int .i64 (sg (nu r)), .slice a2 (ln (nu r)) c2, .int .i64 (sg (de r)), .slice b2 (ln (de r)) d2], .int .i64 s] w fun e w' => ∃ a c b d, e = .returned (.tuple #[.agg #[.int .i64 (sg (nu r)), .slice a (ln (nu r)) c, .int .i64 (sg (de r)), .slice b (ln (de r)) d], .int .i64 0]) ∧ FD G w' a c b d r ∧ Below w.heap.size w w' := by
  have HX := Lib.hid hx
  have HY := Lib.hid hy
  have H1 := Lib.hid h1
  have H2 := Lib.hid h2
  clear hx hy h1 h2

  have H20 := H2
  have hws := wrap_ordQ q r hs
  have e1 : decide (ordQ q r * s < 0) = true := by rw [decide_eq_true_eq]; exact hp
  clear hp hs

  go_enter Tryz.func71, Tryz.ntmps71
  go_wp2_with fail
  refine (fracRight_ok (q := q) (H1.out.keep (by go_grown)) (HX.out.mono (by omega))).mono ?_
  rintro e w1 ⟨rfl, hb⟩
  have hbx := bx3 w 26 26 26 #[.int .i64 (sg (nu q)), .slice a1 (ln (nu q)) c1, .int .i64 (sg (de q)), .slice b1 (ln (de q)) d1] #[.int .i64 (sg (nu r)), .slice a2 (ln (nu r)) c2, .int .i64 (sg (de r)), .slice b2 (ln (de r)) d2] #[.int .i64 0, .slice none 0 0, .int .i64 0, .slice none 0 0]
  obtain ⟨k0, k1, k2⟩ := hbx
  have K0 := Lib.hid (k0.keep hb)
  have K1 := Lib.hid (k1.keep hb)
  have K2 := Lib.hid (k2.keep hb)
  clear k0 k1 k2
  have hb' : Below w.heap.size w w1 := below_call (by go_grown) hb
  have HB := Lib.hid hb'
  replace H1 := Lib.hid (H1.out.keep hb')
  replace H2 := Lib.hid (H2.out.keep hb')
  clear hb hb'
  have p0_0 : w1.cell? ⟨w.heap.size, 0, none⟩ = some (.int .i64 (sg (nu q))) := K0.out.at.1 0
  have q0_0 : w1.frozen? ⟨w.heap.size, 0, none⟩ = false := K0.out.at.2 0
  have p0_1 : w1.cell? ⟨w.heap.size, 1, none⟩ = some (.slice a1 (ln (nu q)) c1) := K0.out.at.1 1
  have q0_1 : w1.frozen? ⟨w.heap.size, 1, none⟩ = false := K0.out.at.2 1
  have p0_2 : w1.cell? ⟨w.heap.size, 2, none⟩ = some (.int .i64 (sg (de q))) := K0.out.at.1 2
  have q0_2 : w1.frozen? ⟨w.heap.size, 2, none⟩ = false := K0.out.at.2 2
  have p0_3 : w1.cell? ⟨w.heap.size, 3, none⟩ = some (.slice b1 (ln (de q)) d1) := K0.out.at.1 3
  have q0_3 : w1.frozen? ⟨w.heap.size, 3, none⟩ = false := K0.out.at.2 3
  have z0 : w.heap.size < w1.heap.size := K0.out.lt
  have p1_0 : w1.cell? ⟨w.heap.size + 1, 0, none⟩ = some (.int .i64 (sg (nu r))) := K1.out.at.1 0
  have q1_0 : w1.frozen? ⟨w.heap.size + 1, 0, none⟩ = false := K1.out.at.2 0
  have p1_1 : w1.cell? ⟨w.heap.size + 1, 1, none⟩ = some (.slice a2 (ln (nu r)) c2) := K1.out.at.1 1
  have q1_1 : w1.frozen? ⟨w.heap.size + 1, 1, none⟩ = false := K1.out.at.2 1
  have p1_2 : w1.cell? ⟨w.heap.size + 1, 2, none⟩ = some (.int .i64 (sg (de r))) := K1.out.at.1 2
  have q1_2 : w1.frozen? ⟨w.heap.size + 1, 2, none⟩ = false := K1.out.at.2 2
  have p1_3 : w1.cell? ⟨w.heap.size + 1, 3, none⟩ = some (.slice b2 (ln (de r)) d2) := K1.out.at.1 3
  have q1_3 : w1.frozen? ⟨w.heap.size + 1, 3, none⟩ = false := K1.out.at.2 3
  have z1 : w.heap.size + 1 < w1.heap.size := K1.out.lt
  have p2_0 : w1.cell? ⟨w.heap.size + 1 + 1, 0, none⟩ = some (.int .i64 0) := K2.out.at.1 0
  have q2_0 : w1.frozen? ⟨w.heap.size + 1 + 1, 0, none⟩ = false := K2.out.at.2 0
  have p2_1 : w1.cell? ⟨w.heap.size + 1 + 1, 1, none⟩ = some (.slice none 0 0) := K2.out.at.1 1
  have q2_1 : w1.frozen? ⟨w.heap.size + 1 + 1, 1, none⟩ = false := K2.out.at.2 1
  have p2_2 : w1.cell? ⟨w.heap.size + 1 + 1, 2, none⟩ = some (.int .i64 0) := K2.out.at.1 2
  have q2_2 : w1.frozen? ⟨w.heap.size + 1 + 1, 2, none⟩ = false := K2.out.at.2 2
  have p2_3 : w1.cell? ⟨w.heap.size + 1 + 1, 3, none⟩ = some (.slice none 0 0) := K2.out.at.1 3
  have q2_3 : w1.frozen? ⟨w.heap.size + 1 + 1, 3, none⟩ = false := K2.out.at.2 3
  have z2 : w.heap.size + 1 + 1 < w1.heap.size := K2.out.lt
  go_wp2_with fail
  refine (fracRight_ok (q := r) (H2.out.keep (by go_grown)) (HY.out.mono (by omega))).mono ?_
  rintro e w2 ⟨rfl, hb⟩
  clear p0_0 q0_0 p0_1 q0_1 p0_2 q0_2 p0_3 q0_3 z0 p1_0 q1_0 p1_1 q1_1 p1_2 q1_2 p1_3 q1_3 z1 p2_0 q2_0 p2_1 q2_1 p2_2 q2_2 p2_3 q2_3 z2
  have hb' := below_call (w1 := w1) (by go_grown) hb
  replace K0 := Lib.hid (K0.out.keep hb')
  replace K1 := Lib.hid (K1.out.keep hb')
  replace K2 := Lib.hid (K2.out.keep hb')
  replace HB := Lib.hid (below_call HB.out hb')
  replace H1 := Lib.hid (H1.out.keep hb')
  replace H2 := Lib.hid (H2.out.keep hb')
  clear hb hb'
  have p0_0 : w2.cell? ⟨w.heap.size, 0, none⟩ = some (.int .i64 (sg (nu q))) := K0.out.at.1 0
  have q0_0 : w2.frozen? ⟨w.heap.size, 0, none⟩ = false := K0.out.at.2 0
  have p0_1 : w2.cell? ⟨w.heap.size, 1, none⟩ = some (.slice a1 (ln (nu q)) c1) := K0.out.at.1 1
  have q0_1 : w2.frozen? ⟨w.heap.size, 1, none⟩ = false := K0.out.at.2 1
  have p0_2 : w2.cell? ⟨w.heap.size, 2, none⟩ = some (.int .i64 (sg (de q))) := K0.out.at.1 2
  have q0_2 : w2.frozen? ⟨w.heap.size, 2, none⟩ = false := K0.out.at.2 2
  have p0_3 : w2.cell? ⟨w.heap.size, 3, none⟩ = some (.slice b1 (ln (de q)) d1) := K0.out.at.1 3
  have q0_3 : w2.frozen? ⟨w.heap.size, 3, none⟩ = false := K0.out.at.2 3
  have z0 : w.heap.size < w2.heap.size := K0.out.lt
  have p1_0 : w2.cell? ⟨w.heap.size + 1, 0, none⟩ = some (.int .i64 (sg (nu r))) := K1.out.at.1 0
  have q1_0 : w2.frozen? ⟨w.heap.size + 1, 0, none⟩ = false := K1.out.at.2 0
  have p1_1 : w2.cell? ⟨w.heap.size + 1, 1, none⟩ = some (.slice a2 (ln (nu r)) c2) := K1.out.at.1 1
  have q1_1 : w2.frozen? ⟨w.heap.size + 1, 1, none⟩ = false := K1.out.at.2 1
  have p1_2 : w2.cell? ⟨w.heap.size + 1, 2, none⟩ = some (.int .i64 (sg (de r))) := K1.out.at.1 2
  have q1_2 : w2.frozen? ⟨w.heap.size + 1, 2, none⟩ = false := K1.out.at.2 2
  have p1_3 : w2.cell? ⟨w.heap.size + 1, 3, none⟩ = some (.slice b2 (ln (de r)) d2) := K1.out.at.1 3
  have q1_3 : w2.frozen? ⟨w.heap.size + 1, 3, none⟩ = false := K1.out.at.2 3
  have z1 : w.heap.size + 1 < w2.heap.size := K1.out.lt
  have p2_0 : w2.cell? ⟨w.heap.size + 1 + 1, 0, none⟩ = some (.int .i64 0) := K2.out.at.1 0
  have q2_0 : w2.frozen? ⟨w.heap.size + 1 + 1, 0, none⟩ = false := K2.out.at.2 0
  have p2_1 : w2.cell? ⟨w.heap.size + 1 + 1, 1, none⟩ = some (.slice none 0 0) := K2.out.at.1 1
  have q2_1 : w2.frozen? ⟨w.heap.size + 1 + 1, 1, none⟩ = false := K2.out.at.2 1
  have p2_2 : w2.cell? ⟨w.heap.size + 1 + 1, 2, none⟩ = some (.int .i64 0) := K2.out.at.1 2
  have q2_2 : w2.frozen? ⟨w.heap.size + 1 + 1, 2, none⟩ = false := K2.out.at.2 2
  have p2_3 : w2.cell? ⟨w.heap.size + 1 + 1, 3, none⟩ = some (.slice none 0 0) := K2.out.at.1 3
  have q2_3 : w2.frozen? ⟨w.heap.size + 1 + 1, 3, none⟩ = false := K2.out.at.2 3
  have z2 : w.heap.size + 1 + 1 < w2.heap.size := K2.out.lt
  go_wp2_with fail
  refine (fracCompare_ok (H1.out.keep (by go_grown)) (H2.out.keep (by go_grown)) HX.out HY.out).mono ?_
  rintro e w3 ⟨rfl, hb⟩
  clear p0_0 q0_0 p0_1 q0_1 p0_2 q0_2 p0_3 q0_3 z0 p1_0 q1_0 p1_1 q1_1 p1_2 q1_2 p1_3 q1_3 z1 p2_0 q2_0 p2_1 q2_1 p2_2 q2_2 p2_3 q2_3 z2
  have hb' := below_call (w1 := w2) (by go_grown) hb
  replace K0 := Lib.hid (K0.out.keep hb')
  replace K1 := Lib.hid (K1.out.keep hb')
  replace K2 := Lib.hid (K2.out.keep hb')
  replace HB := Lib.hid (below_call HB.out hb')
  replace H1 := Lib.hid (H1.out.keep hb')
  replace H2 := Lib.hid (H2.out.keep hb')
  clear hb hb'
  have p0_0 : w3.cell? ⟨w.heap.size, 0, none⟩ = some (.int .i64 (sg (nu q))) := K0.out.at.1 0
  have q0_0 : w3.frozen? ⟨w.heap.size, 0, none⟩ = false := K0.out.at.2 0
  have p0_1 : w3.cell? ⟨w.heap.size, 1, none⟩ = some (.slice a1 (ln (nu q)) c1) := K0.out.at.1 1
  have q0_1 : w3.frozen? ⟨w.heap.size, 1, none⟩ = false := K0.out.at.2 1
  have p0_2 : w3.cell? ⟨w.heap.size, 2, none⟩ = some (.int .i64 (sg (de q))) := K0.out.at.1 2
  have q0_2 : w3.frozen? ⟨w.heap.size, 2, none⟩ = false := K0.out.at.2 2
  have p0_3 : w3.cell? ⟨w.heap.size, 3, none⟩ = some (.slice b1 (ln (de q)) d1) := K0.out.at.1 3
  have q0_3 : w3.frozen? ⟨w.heap.size, 3, none⟩ = false := K0.out.at.2 3
  have z0 : w.heap.size < w3.heap.size := K0.out.lt
  have p1_0 : w3.cell? ⟨w.heap.size + 1, 0, none⟩ = some (.int .i64 (sg (nu r))) := K1.out.at.1 0
  have q1_0 : w3.frozen? ⟨w.heap.size + 1, 0, none⟩ = false := K1.out.at.2 0
  have p1_1 : w3.cell? ⟨w.heap.size + 1, 1, none⟩ = some (.slice a2 (ln (nu r)) c2) := K1.out.at.1 1
  have q1_1 : w3.frozen? ⟨w.heap.size + 1, 1, none⟩ = false := K1.out.at.2 1
  have p1_2 : w3.cell? ⟨w.heap.size + 1, 2, none⟩ = some (.int .i64 (sg (de r))) := K1.out.at.1 2
  have q1_2 : w3.frozen? ⟨w.heap.size + 1, 2, none⟩ = false := K1.out.at.2 2
  have p1_3 : w3.cell? ⟨w.heap.size + 1, 3, none⟩ = some (.slice b2 (ln (de r)) d2) := K1.out.at.1 3
  have q1_3 : w3.frozen? ⟨w.heap.size + 1, 3, none⟩ = false := K1.out.at.2 3
  have z1 : w.heap.size + 1 < w3.heap.size := K1.out.lt
  have p2_0 : w3.cell? ⟨w.heap.size + 1 + 1, 0, none⟩ = some (.int .i64 0) := K2.out.at.1 0
  have q2_0 : w3.frozen? ⟨w.heap.size + 1 + 1, 0, none⟩ = false := K2.out.at.2 0
  have p2_1 : w3.cell? ⟨w.heap.size + 1 + 1, 1, none⟩ = some (.slice none 0 0) := K2.out.at.1 1
  have q2_1 : w3.frozen? ⟨w.heap.size + 1 + 1, 1, none⟩ = false := K2.out.at.2 1
  have p2_2 : w3.cell? ⟨w.heap.size + 1 + 1, 2, none⟩ = some (.int .i64 0) := K2.out.at.1 2
  have q2_2 : w3.frozen? ⟨w.heap.size + 1 + 1, 2, none⟩ = false := K2.out.at.2 2
  have p2_3 : w3.cell? ⟨w.heap.size + 1 + 1, 3, none⟩ = some (.slice none 0 0) := K2.out.at.1 3
  have q2_3 : w3.frozen? ⟨w.heap.size + 1 + 1, 3, none⟩ = false := K2.out.at.2 3
  have z2 : w.heap.size + 1 + 1 < w3.heap.size := K2.out.lt
  go_wp2_with fail
  clear p0_0 q0_0 p0_1 q0_1 p0_2 q0_2 p0_3 q0_3 z0 p1_0 q1_0 p1_1 q1_1 p1_2 q1_2 p1_3 q1_3 z1 p2_0 q2_0 p2_1 q2_1 p2_2 q2_2 p2_3 q2_3 z2
  obtain ⟨w4, hwn⟩ : ∃ x, x = ((((w3.setCell ⟨w.heap.size, 0, none⟩ (.int .i64 (sg (nu r)))).setCell ⟨w.heap.size, 1, none⟩ (.slice a2 (ln (nu r)) c2)).setCell ⟨w.heap.size, 2, none⟩ (.int .i64 (sg (de r)))).setCell ⟨w.heap.size, 3, none⟩ (.slice b2 (ln (de r)) d2)) := ⟨_, rfl⟩
  rw [← hwn]
  have og : w3.grownBy w4 (some w.heap.size) := by rw [hwn]; exact (only_setCell (only_setCell (only_setCell (only_setCell (World.grownBy.refl _ _) _) _) _) _)
  replace K1 := Lib.hid (K1.out.only og (by omega))
  replace K2 := Lib.hid (K2.out.only og (by omega))
  replace K0 : Hid (Bx w4 w.heap.size 26 #[.int .i64 (sg (nu r)), .slice a2 (ln (nu r)) c2, .int .i64 (sg (de r)), .slice b2 (ln (de r)) d2]) := by show Bx _ _ _ _; rw [hwn]; exact K0.out.set4 _ _ _ _
  replace HB : Hid (Below w.heap.size w w4) := by show Below _ _ _; rw [hwn]; exact (Below.setCell (Below.setCell (Below.setCell (Below.setCell HB.out (by simp; try omega) _) (by simp; try omega) _) (by simp; try omega) _) (by simp; try omega) _)
  replace H2 := Lib.hid (H20.out.keep HB.out)
  clear og hwn
  have p0_0 : w4.cell? ⟨w.heap.size, 0, none⟩ = some (.int .i64 (sg (nu r))) := K0.out.at.1 0
  have q0_0 : w4.frozen? ⟨w.heap.size, 0, none⟩ = false := K0.out.at.2 0
  have p0_1 : w4.cell? ⟨w.heap.size, 1, none⟩ = some (.slice a2 (ln (nu r)) c2) := K0.out.at.1 1
  have q0_1 : w4.frozen? ⟨w.heap.size, 1, none⟩ = false := K0.out.at.2 1
  have p0_2 : w4.cell? ⟨w.heap.size, 2, none⟩ = some (.int .i64 (sg (de r))) := K0.out.at.1 2
  have q0_2 : w4.frozen? ⟨w.heap.size, 2, none⟩ = false := K0.out.at.2 2
  have p0_3 : w4.cell? ⟨w.heap.size, 3, none⟩ = some (.slice b2 (ln (de r)) d2) := K0.out.at.1 3
  have q0_3 : w4.frozen? ⟨w.heap.size, 3, none⟩ = false := K0.out.at.2 3
  have z0 : w.heap.size < w4.heap.size := K0.out.lt
  have p1_0 : w4.cell? ⟨w.heap.size + 1, 0, none⟩ = some (.int .i64 (sg (nu r))) := K1.out.at.1 0
  have q1_0 : w4.frozen? ⟨w.heap.size + 1, 0, none⟩ = false := K1.out.at.2 0
  have p1_1 : w4.cell? ⟨w.heap.size + 1, 1, none⟩ = some (.slice a2 (ln (nu r)) c2) := K1.out.at.1 1
  have q1_1 : w4.frozen? ⟨w.heap.size + 1, 1, none⟩ = false := K1.out.at.2 1
  have p1_2 : w4.cell? ⟨w.heap.size + 1, 2, none⟩ = some (.int .i64 (sg (de r))) := K1.out.at.1 2
  have q1_2 : w4.frozen? ⟨w.heap.size + 1, 2, none⟩ = false := K1.out.at.2 2
  have p1_3 : w4.cell? ⟨w.heap.size + 1, 3, none⟩ = some (.slice b2 (ln (de r)) d2) := K1.out.at.1 3
  have q1_3 : w4.frozen? ⟨w.heap.size + 1, 3, none⟩ = false := K1.out.at.2 3
  have z1 : w.heap.size + 1 < w4.heap.size := K1.out.lt
  have p2_0 : w4.cell? ⟨w.heap.size + 1 + 1, 0, none⟩ = some (.int .i64 0) := K2.out.at.1 0
  have q2_0 : w4.frozen? ⟨w.heap.size + 1 + 1, 0, none⟩ = false := K2.out.at.2 0
  have p2_1 : w4.cell? ⟨w.heap.size + 1 + 1, 1, none⟩ = some (.slice none 0 0) := K2.out.at.1 1
  have q2_1 : w4.frozen? ⟨w.heap.size + 1 + 1, 1, none⟩ = false := K2.out.at.2 1
  have p2_2 : w4.cell? ⟨w.heap.size + 1 + 1, 2, none⟩ = some (.int .i64 0) := K2.out.at.1 2
  have q2_2 : w4.frozen? ⟨w.heap.size + 1 + 1, 2, none⟩ = false := K2.out.at.2 2
  have p2_3 : w4.cell? ⟨w.heap.size + 1 + 1, 3, none⟩ = some (.slice none 0 0) := K2.out.at.1 3
  have q2_3 : w4.frozen? ⟨w.heap.size + 1 + 1, 3, none⟩ = false := K2.out.at.2 3
  have z2 : w.heap.size + 1 + 1 < w4.heap.size := K2.out.lt
  clear p0_0 q0_0 p0_1 q0_1 p0_2 q0_2 p0_3 q0_3 z0 p1_0 q1_0 p1_1 q1_1 p1_2 q1_2 p1_3 q1_3 z1 p2_0 q2_0 p2_1 q2_1 p2_2 q2_2 p2_3 q2_3 z2
  have mk : Hid (∀ w', w4.grownBy w' (some (w.heap.size + 1 + 1)) → w'.cell? ⟨w.heap.size, 0, none⟩ = some (.int .i64 (sg (nu r))) ∧ w'.cell? ⟨w.heap.size, 1, none⟩ = some (.slice a2 (ln (nu r)) c2) ∧ w'.cell? ⟨w.heap.size, 2, none⟩ = some (.int .i64 (sg (de r))) ∧ w'.cell? ⟨w.heap.size, 3, none⟩ = some (.slice b2 (ln (de r)) d2) ∧ w'.cell? ⟨w.heap.size + 1, 0, none⟩ = some (.int .i64 (sg (nu r))) ∧ w'.cell? ⟨w.heap.size + 1, 1, none⟩ = some (.slice a2 (ln (nu r)) c2) ∧ w'.cell? ⟨w.heap.size + 1, 2, none⟩ = some (.int .i64 (sg (de r))) ∧ w'.cell? ⟨w.heap.size + 1, 3, none⟩ = some (.slice b2 (ln (de r)) d2) ∧ w4.grownBy w' (some (w.heap.size + 1 + 1))) := fun w' h => ⟨(K0.out.only h (by omega)).at.1 0, (K0.out.only h (by omega)).at.1 1, (K0.out.only h (by omega)).at.1 2, (K0.out.only h (by omega)).at.1 3, (K1.out.only h (by omega)).at.1 0, (K1.out.only h (by omega)).at.1 1, (K1.out.only h (by omega)).at.1 2, (K1.out.only h (by omega)).at.1 3, h⟩
  have hs0 : w4.grownBy w4.drew (some (w.heap.size + 1 + 1)) := only_start _ _
  have HS0 : Hid (Below w4.heap.size w4 w4.drew) := (Below.refl _ _).drew
  have tok0 : True := trivial
  have tok1 : True := trivial
  go_region_held3 (fun w' => w'.cell? ⟨w.heap.size, 0, none⟩ = some (.int .i64 (sg (nu r))) ∧ w'.cell? ⟨w.heap.size, 1, none⟩ = some (.slice a2 (ln (nu r)) c2) ∧ w'.cell? ⟨w.heap.size, 2, none⟩ = some (.int .i64 (sg (de r))) ∧ w'.cell? ⟨w.heap.size, 3, none⟩ = some (.slice b2 (ln (de r)) d2) ∧ w'.cell? ⟨w.heap.size + 1, 0, none⟩ = some (.int .i64 (sg (nu r))) ∧ w'.cell? ⟨w.heap.size + 1, 1, none⟩ = some (.slice a2 (ln (nu r)) c2) ∧ w'.cell? ⟨w.heap.size + 1, 2, none⟩ = some (.int .i64 (sg (de r))) ∧ w'.cell? ⟨w.heap.size + 1, 3, none⟩ = some (.slice b2 (ln (de r)) d2) ∧ w4.grownBy w' (some (w.heap.size + 1 + 1)))
    (first | exact mk.out _ (by assumption) | exact mk.out _ (only_setCell (only_setCell (only_setCell (only_setCell (by assumption) _) _) _) _) | exact mk.out _ (only_alloc (by assumption) _))
    (first
      | (go_at_call 72; have _t := tok0; refine (slim_ok (x := nu r) (H2.out.keep HS0.out).n (HY.out.1.mono (by omega))).mono ?_; rintro e w5 ⟨a5, c5, rfl, hd5, hb⟩; clear tok0 _t; have hs1 := only_call hs0 hb; have HS1 := Lib.hid (below_call HS0.out hb); clear hb; have Hd5 := Lib.hid hd5; clear hd5)
      | (go_at_call 72; have _t := tok1; refine (slim_ok (x := de r) (H2.out.keep HS1.out).d (HY.out.2.mono (by omega))).mono ?_; rintro e w6 ⟨a6, c6, rfl, hd6, hb⟩; clear tok1 _t; have hs2 := only_call hs1 hb; have HS2 := Lib.hid (below_call HS1.out hb); have Hd5 := Lib.hid (Hd5.out.keep hb); clear hb; have Hd6 := Lib.hid hd6; clear hd6; obtain ⟨p2, q2⟩ := (K2.out.keep HS2.out).at))
  replace K0 := Lib.hid (K0.out.keep HS2.out)
  replace K1 := Lib.hid (K1.out.keep HS2.out)
  replace K2 := Lib.hid (K2.out.keep HS2.out)
  replace HB := Lib.hid (below_call HB.out HS2.out)
  replace H2 := Lib.hid (H2.out.keep HS2.out)
  clear mk hs0 HS0 hs1 HS1 hs2 HS2  p2 q2
  go_wp2_with fail
  have HF : Hid (FD G w6 a5 c5 a6 c6 r) := FD.mk Hd5.out Hd6.out
  refine bodyPost_ret (results_box2 rfl _ _ (w.heap.size + 1 + 1) 26 _ _ _ rfl (K2.out.set4 _ _ _ _) Tryz.underlying26 rfl (by kernel_rfl)) rfl ?_
  refine ⟨a5, c5, a6, c6, rfl, ?_, ?_⟩
  · exact (HF.out.far0 K2.out zb4 (only_setCell (only_setCell (only_setCell (only_setCell (World.grownBy.refl _ _) _) _) _) _))
  · exact (Below.setCell (Below.setCell (Below.setCell (Below.setCell HB.out (by simp; try omega) _) (by simp; try omega) _) (by simp; try omega) _) (by simp; try omega) _)

theorem either_ok {q r : Rat} {a1 b1 a2 b2 : Option Addr} {c1 d1 c2 d2 : Nat} {w : World} (h1 : FD G w a1 c1 b1 d1 q) (h2 : FD G w a2 c2 b2 d2 r) (hx : Fz q 137438953472) (hy : Fz r 137438953472) {s : Int} (hs : s = 1 ∨ s = -1) :
    Calls Tryz.prog 71 #[.agg #[.int .i64 (sg (nu q)), .slice a1 (ln (nu q)) c1, .int .i64 (sg (de q)), .slice b1 (ln (de q)) d1], .agg #[.int .i64 (sg (nu r)), .slice a2 (ln (nu r)) c2, .int .i64 (sg (de r)), .slice b2 (ln (de r)) d2], .int .i64 s] w fun e w' => ∃ a c b d, e = .returned (.tuple #[.agg #[.int .i64 (sg (nu (pick q r s))), .slice a (ln (nu (pick q r s))) c, .int .i64 (sg (de (pick q r s))), .slice b (ln (de (pick q r s))) d], .int .i64 0]) ∧ FD G w' a c b d (pick q r s) ∧ Below w.heap.size w w' := by
  by_cases h : ordQ q r * s < 0
  · have := either_snd h1 h2 hx hy hs h
    rwa [show pick q r s = r by rw [pick, if_pos h]]
  · have := either_fst h1 h2 hx hy hs h
    rwa [show pick q r s = q by rw [pick, if_neg h]]

set_option maxHeartbeats 4000000 in
theorem fracMax_ok {q r : Rat} {a1 b1 a2 b2 : Option Addr} {c1 d1 c2 d2 : Nat} {w : World} (h1 : FD G w a1 c1 b1 d1 q) (h2 : FD G w a2 c2 b2 d2 r) (hx : Fz q 137438953472) (hy : Fz r 137438953472) :
    Calls Tryz.prog 32 #[.agg #[.int .i64 (sg (nu q)), .slice a1 (ln (nu q)) c1, .int .i64 (sg (de q)), .slice b1 (ln (de q)) d1], .agg #[.int .i64 (sg (nu r)), .slice a2 (ln (nu r)) c2, .int .i64 (sg (de r)), .slice b2 (ln (de r)) d2]] w fun e w' => ∃ a c b d, e = .returned (.tuple #[.agg #[.int .i64 (sg (nu (pick q r (1)))), .slice a (ln (nu (pick q r (1)))) c, .int .i64 (sg (de (pick q r (1)))), .slice b (ln (de (pick q r (1)))) d], .int .i64 0]) ∧ FD G w' a c b d (pick q r (1)) ∧ Below w.heap.size w w' := by
  have HX := Lib.hid hx
  have HY := Lib.hid hy
  have H1 := Lib.hid h1
  have H2 := Lib.hid h2
  clear hx hy h1 h2

  go_enter Tryz.func32, Tryz.ntmps32
  go_wp2_with fail
  refine (either_ok (H1.out.keep (by go_grown)) (H2.out.keep (by go_grown)) HX.out HY.out (s := 1) (by simp)).mono ?_
  rintro e w1 ⟨a5, c5, b5, d5, rfl, hf5, hb⟩
  have hbx := bx3 w 26 26 26 #[.int .i64 (sg (nu q)), .slice a1 (ln (nu q)) c1, .int .i64 (sg (de q)), .slice b1 (ln (de q)) d1] #[.int .i64 (sg (nu r)), .slice a2 (ln (nu r)) c2, .int .i64 (sg (de r)), .slice b2 (ln (de r)) d2] #[.int .i64 0, .slice none 0 0, .int .i64 0, .slice none 0 0]
  obtain ⟨k0, k1, k2⟩ := hbx
  have K0 := Lib.hid (k0.keep hb)
  have K1 := Lib.hid (k1.keep hb)
  have K2 := Lib.hid (k2.keep hb)
  clear k0 k1 k2
  have hb' : Below w.heap.size w w1 := below_call (by go_grown) hb
  have HB := Lib.hid hb'
  replace H1 := Lib.hid (H1.out.keep hb')
  replace H2 := Lib.hid (H2.out.keep hb')
  clear hb hb'
  have Hf5 := Lib.hid hf5; clear hf5
  have p0_0 : w1.cell? ⟨w.heap.size, 0, none⟩ = some (.int .i64 (sg (nu q))) := K0.out.at.1 0
  have q0_0 : w1.frozen? ⟨w.heap.size, 0, none⟩ = false := K0.out.at.2 0
  have p0_1 : w1.cell? ⟨w.heap.size, 1, none⟩ = some (.slice a1 (ln (nu q)) c1) := K0.out.at.1 1
  have q0_1 : w1.frozen? ⟨w.heap.size, 1, none⟩ = false := K0.out.at.2 1
  have p0_2 : w1.cell? ⟨w.heap.size, 2, none⟩ = some (.int .i64 (sg (de q))) := K0.out.at.1 2
  have q0_2 : w1.frozen? ⟨w.heap.size, 2, none⟩ = false := K0.out.at.2 2
  have p0_3 : w1.cell? ⟨w.heap.size, 3, none⟩ = some (.slice b1 (ln (de q)) d1) := K0.out.at.1 3
  have q0_3 : w1.frozen? ⟨w.heap.size, 3, none⟩ = false := K0.out.at.2 3
  have z0 : w.heap.size < w1.heap.size := K0.out.lt
  have p1_0 : w1.cell? ⟨w.heap.size + 1, 0, none⟩ = some (.int .i64 (sg (nu r))) := K1.out.at.1 0
  have q1_0 : w1.frozen? ⟨w.heap.size + 1, 0, none⟩ = false := K1.out.at.2 0
  have p1_1 : w1.cell? ⟨w.heap.size + 1, 1, none⟩ = some (.slice a2 (ln (nu r)) c2) := K1.out.at.1 1
  have q1_1 : w1.frozen? ⟨w.heap.size + 1, 1, none⟩ = false := K1.out.at.2 1
  have p1_2 : w1.cell? ⟨w.heap.size + 1, 2, none⟩ = some (.int .i64 (sg (de r))) := K1.out.at.1 2
  have q1_2 : w1.frozen? ⟨w.heap.size + 1, 2, none⟩ = false := K1.out.at.2 2
  have p1_3 : w1.cell? ⟨w.heap.size + 1, 3, none⟩ = some (.slice b2 (ln (de r)) d2) := K1.out.at.1 3
  have q1_3 : w1.frozen? ⟨w.heap.size + 1, 3, none⟩ = false := K1.out.at.2 3
  have z1 : w.heap.size + 1 < w1.heap.size := K1.out.lt
  have p2_0 : w1.cell? ⟨w.heap.size + 1 + 1, 0, none⟩ = some (.int .i64 0) := K2.out.at.1 0
  have q2_0 : w1.frozen? ⟨w.heap.size + 1 + 1, 0, none⟩ = false := K2.out.at.2 0
  have p2_1 : w1.cell? ⟨w.heap.size + 1 + 1, 1, none⟩ = some (.slice none 0 0) := K2.out.at.1 1
  have q2_1 : w1.frozen? ⟨w.heap.size + 1 + 1, 1, none⟩ = false := K2.out.at.2 1
  have p2_2 : w1.cell? ⟨w.heap.size + 1 + 1, 2, none⟩ = some (.int .i64 0) := K2.out.at.1 2
  have q2_2 : w1.frozen? ⟨w.heap.size + 1 + 1, 2, none⟩ = false := K2.out.at.2 2
  have p2_3 : w1.cell? ⟨w.heap.size + 1 + 1, 3, none⟩ = some (.slice none 0 0) := K2.out.at.1 3
  have q2_3 : w1.frozen? ⟨w.heap.size + 1 + 1, 3, none⟩ = false := K2.out.at.2 3
  have z2 : w.heap.size + 1 + 1 < w1.heap.size := K2.out.lt
  go_wp2_with fail
  clear p0_0 q0_0 p0_1 q0_1 p0_2 q0_2 p0_3 q0_3 z0 p1_0 q1_0 p1_1 q1_1 p1_2 q1_2 p1_3 q1_3 z1 p2_0 q2_0 p2_1 q2_1 p2_2 q2_2 p2_3 q2_3 z2
  refine bodyPost_ret (results_box2 rfl _ _ (w.heap.size + 1 + 1) 26 _ _ _ rfl (K2.out.set4 _ _ _ _) Tryz.underlying26 rfl (by kernel_rfl)) rfl ?_
  refine ⟨a5, c5, b5, d5, rfl, ?_, ?_⟩
  · exact (Hf5.out.far0 K2.out zb4 (only_setCell (only_setCell (only_setCell (only_setCell (World.grownBy.refl _ _) _) _) _) _))
  · exact (Below.setCell (Below.setCell (Below.setCell (Below.setCell HB.out (by simp; try omega) _) (by simp; try omega) _) (by simp; try omega) _) (by simp; try omega) _)

end Go.Proofs.YtcfmakpckdicjaaGreatDoor
