/- Walks of the verifier's reference: big integers: opposites, products, sums. -/
import Derived.Test.YtpjpkcelajbfnaaRefF
namespace Go.Proofs.Ytpjpkcelajbfnaa
open Go.RowKit
variable {G : Nat}

theorem own_slice {P : Program} {f : FuncId} {args : Array Value} {w : World} {n : Nat} (h : Calls P f args w fun e w' => ∃ v, e = .returned v ∧ OwnN w' w.heap.size v (digs n) ∧ Below w.heap.size w w') :
    Calls P f args w fun e w' => ∃ a c, e = .returned (.slice a (lnN n) c) ∧ OwnN w' w.heap.size (.slice a (lnN n) c) (digs n) ∧ Below w.heap.size w w' :=
  h.mono fun e w' ⟨v, he, ho, hb⟩ => by
    obtain ⟨a, c, rfl⟩ := ho.slice
    exact ⟨a, c, he, ho, hb⟩
theorem rtimes_is {x y : Int} {a1 a2 : Option Addr} {c1 c2 : Nat} {w : World} (h1 : BD G w a1 c1 x) (h2 : BD G w a2 c2 y) (hx : Sz x 549755813888) (hy : Sz y 549755813888) :
    Calls Try.prog 62 #[.slice a1 (ln x) c1, .slice a2 (ln y) c2] w fun e w' => ∃ a c, e = .returned (.slice a (lnN (x.natAbs * y.natAbs)) c) ∧ OwnN w' w.heap.size (.slice a (lnN (x.natAbs * y.natAbs)) c) (digs (x.natAbs * y.natAbs)) ∧ Below w.heap.size w w' := by
  have := rtimes_ok _ _ _ _ w h1.rd h2.rd (digs_small _) (digs_small _) (by unfold Sz at hx; omega) (by unfold Sz at hy; omega)
  rw [val_digs, val_digs] at this
  exact own_slice this
theorem plus_is {x y : Int} {a1 a2 : Option Addr} {c1 c2 : Nat} {w : World} (h1 : BD G w a1 c1 x) (h2 : BD G w a2 c2 y) (hx : Sz x 549755813888) (hy : Sz y 549755813888) :
    Calls Try.prog 74 #[.slice a1 (ln x) c1, .slice a2 (ln y) c2] w fun e w' => ∃ a c, e = .returned (.slice a (lnN (x.natAbs + y.natAbs)) c) ∧ OwnN w' w.heap.size (.slice a (lnN (x.natAbs + y.natAbs)) c) (digs (x.natAbs + y.natAbs)) ∧ Below w.heap.size w w' := by
  have := plus_ok _ _ _ _ w h1.rd h2.rd (digs_small _) (digs_small _) (by unfold Sz at hx; omega) (by unfold Sz at hy; omega)
  rw [val_digs, val_digs] at this
  exact own_slice this
theorem minus_is {x y : Int} {a1 a2 : Option Addr} {c1 c2 : Nat} {w : World} (h1 : BD G w a1 c1 x) (h2 : BD G w a2 c2 y) (hx : Sz x 549755813888) (hle : y.natAbs ≤ x.natAbs) :
    Calls Try.prog 75 #[.slice a1 (ln x) c1, .slice a2 (ln y) c2] w fun e w' => ∃ a c, e = .returned (.slice a (lnN (x.natAbs - y.natAbs)) c) ∧ OwnN w' w.heap.size (.slice a (lnN (x.natAbs - y.natAbs)) c) (digs (x.natAbs - y.natAbs)) ∧ Below w.heap.size w w' := by
  have := minus_ok _ _ _ _ w h1.rd h2.rd (digs_small _) (digs_small _) (by rw [val_digs, val_digs]; exact hle) (digs_len_mono hle) (by unfold Sz at hx; omega)
  rw [val_digs, val_digs] at this
  exact own_slice this
def lessZ (x y : Int) : Bool := decide (x.natAbs < y.natAbs)
theorem less_is {x y : Int} {a1 a2 : Option Addr} {c1 c2 : Nat} {w : World} (h1 : BD G w a1 c1 x) (h2 : BD G w a2 c2 y) (hx : Sz x 549755813888) (hy : Sz y 549755813888) :
    Calls Try.prog 64 #[.slice a1 (ln x) c1, .slice a2 (ln y) c2] w fun e w' => e = .returned (.bool (lessZ x y)) ∧ Below w.heap.size w w' := by
  have := less_ok _ _ _ _ w h1.rd h2.rd (digs_small _) (digs_small _) (by unfold Sz at hx; omega) (by unfold Sz at hy; omega)
  rwa [lessB, val_digs, val_digs] at this
theorem or_signs {x y : Int} (h : 0 ≤ sg x * sg y) : bits .or .i64 (sg x) (sg y) = orS (sg x) (sg y) := by
  rcases sg_cases x with h1 | h1 | h1 <;> rcases sg_cases y with h2 | h2 | h2 <;> rw [h1, h2] at h ⊢ <;> first | (exfalso; omega) | decide

set_option maxHeartbeats 4000000 in
theorem rneg_ok {x : Int} {a1 : Option Addr} {c1 : Nat} {w : World} (h1 : BD G w a1 c1 x) (hx : Sz x 549755813888) :
    Calls Try.prog 65 #[.agg #[.int .i64 (sg x), .slice a1 (ln x) c1]] w fun e w' => ∃ a c, e = .returned (.agg #[.int .i64 (sg (-x)), .slice a (ln (-x)) c]) ∧ BD G w' a c (-x) ∧ Below w.heap.size w w' := by
  have HX := Lib.hid hx
  have H1 := Lib.hid h1
  have HM1 : Hid (-(sg x) * (x.natAbs : Int) = -x) := by show _ = _; rw [sg, Int.neg_mul, sign_mul_abs]
  have HM2 : Hid (x.natAbs ≠ 0 → -(sg x) = 1 ∨ -(sg x) = -1) := by
    intro h
    have := sg_ne (x := x) (by omega)
    omega
  have hw : IntKind.i64.wrap (-(sg x)) = -(sg x) := by rcases sg_cases x with h | h | h <;> rw [h] <;> rfl
  clear hx h1

  go_enter Try.func65, Try.ntmps65
  go_wp2_with fail
  refine (rright_ok (x := x) (H1.out.keep (by go_grown)) (HX.out.mono (by omega))).mono ?_
  rintro e w1 ⟨rfl, hb⟩
  have hbx := bx2 w 32 32 #[.int .i64 (sg x), .slice a1 (ln x) c1] #[.int .i64 0, .slice none 0 0]
  obtain ⟨k0, k1⟩ := hbx
  have K0 := Lib.hid (k0.keep hb)
  have K1 := Lib.hid (k1.keep hb)
  clear k0 k1
  have hb' : Below w.heap.size w w1 := below_call (by go_grown) hb
  have HB := Lib.hid hb'
  replace H1 := Lib.hid (H1.out.keep hb')
  clear hb hb'
  have p0_0 : w1.cell? ⟨w.heap.size, 0, none⟩ = some (.int .i64 (sg x)) := K0.out.at.1 0
  have q0_0 : w1.frozen? ⟨w.heap.size, 0, none⟩ = false := K0.out.at.2 0
  have p0_1 : w1.cell? ⟨w.heap.size, 1, none⟩ = some (.slice a1 (ln x) c1) := K0.out.at.1 1
  have q0_1 : w1.frozen? ⟨w.heap.size, 1, none⟩ = false := K0.out.at.2 1
  have z0 : w.heap.size < w1.heap.size := K0.out.lt
  have p1_0 : w1.cell? ⟨w.heap.size + 1, 0, none⟩ = some (.int .i64 0) := K1.out.at.1 0
  have q1_0 : w1.frozen? ⟨w.heap.size + 1, 0, none⟩ = false := K1.out.at.2 0
  have p1_1 : w1.cell? ⟨w.heap.size + 1, 1, none⟩ = some (.slice none 0 0) := K1.out.at.1 1
  have q1_1 : w1.frozen? ⟨w.heap.size + 1, 1, none⟩ = false := K1.out.at.2 1
  have z1 : w.heap.size + 1 < w1.heap.size := K1.out.lt
  go_wp2_with fail
  refine (made_bd (z := -x) (H1.out.keep (by go_grown)) (HX.out.mono (by omega)) HM1.out HM2.out).mono ?_
  rintro e w2 ⟨a3, c3, rfl, hd3, hb⟩
  clear p0_0 q0_0 p0_1 q0_1 z0 p1_0 q1_0 p1_1 q1_1 z1
  have hb' := below_call (w1 := w1) (by go_grown) hb
  replace K0 := Lib.hid (K0.out.keep hb')
  replace K1 := Lib.hid (K1.out.keep hb')
  replace HB := Lib.hid (below_call HB.out hb')
  replace H1 := Lib.hid (H1.out.keep hb')
  clear hb hb'
  have Hd3 := Lib.hid hd3; clear hd3
  have p0_0 : w2.cell? ⟨w.heap.size, 0, none⟩ = some (.int .i64 (sg x)) := K0.out.at.1 0
  have q0_0 : w2.frozen? ⟨w.heap.size, 0, none⟩ = false := K0.out.at.2 0
  have p0_1 : w2.cell? ⟨w.heap.size, 1, none⟩ = some (.slice a1 (ln x) c1) := K0.out.at.1 1
  have q0_1 : w2.frozen? ⟨w.heap.size, 1, none⟩ = false := K0.out.at.2 1
  have z0 : w.heap.size < w2.heap.size := K0.out.lt
  have p1_0 : w2.cell? ⟨w.heap.size + 1, 0, none⟩ = some (.int .i64 0) := K1.out.at.1 0
  have q1_0 : w2.frozen? ⟨w.heap.size + 1, 0, none⟩ = false := K1.out.at.2 0
  have p1_1 : w2.cell? ⟨w.heap.size + 1, 1, none⟩ = some (.slice none 0 0) := K1.out.at.1 1
  have q1_1 : w2.frozen? ⟨w.heap.size + 1, 1, none⟩ = false := K1.out.at.2 1
  have z1 : w.heap.size + 1 < w2.heap.size := K1.out.lt
  go_wp2_with fail
  clear p0_0 q0_0 p0_1 q0_1 z0 p1_0 q1_0 p1_1 q1_1 z1
  refine bodyPost_ret (results_box1 rfl _ _ (w.heap.size + 1) 32 _ _ _ rfl (K1.out.set2 _ _) Try.underlying32 rfl (by kernel_rfl)) rfl ?_
  refine ⟨a3, c3, rfl, ?_, ?_⟩
  · exact (Hd3.out.far0 K1.out zb2 (only_setCell (only_setCell (World.grownBy.refl _ _) _) _))
  · exact (Below.setCell (Below.setCell HB.out (by simp; try omega) _) (by simp; try omega) _)

set_option maxHeartbeats 4000000 in
theorem rmul_ok {x y : Int} {a1 a2 : Option Addr} {c1 c2 : Nat} {w : World} (h1 : BD G w a1 c1 x) (h2 : BD G w a2 c2 y) (hx : Sz x 549755813888) (hy : Sz y 549755813888) :
    Calls Try.prog 42 #[.agg #[.int .i64 (sg x), .slice a1 (ln x) c1], .agg #[.int .i64 (sg y), .slice a2 (ln y) c2]] w fun e w' => ∃ a c, e = .returned (.tuple #[.agg #[.int .i64 (sg (x * y)), .slice a (ln (x * y)) c], .int .i64 0]) ∧ BD G w' a c (x * y) ∧ Below w.heap.size w w' := by
  have HX := Lib.hid hx
  have H1 := Lib.hid h1
  have HY := Lib.hid hy
  have H2 := Lib.hid h2
  have HM1 := Lib.hid (mul_signs x y)
  have HM2 := Lib.hid (mul_sign_one x y)
  have hws := wrap_signs x y
  have HM0 : Hid (lnN (x.natAbs * y.natAbs) ≤ 8796093022208) := mul_room hx hy
  clear hx h1 hy h2

  go_enter Try.func42, Try.ntmps42
  go_wp2_with fail
  refine (rright_ok (x := x) (H1.out.keep (by go_grown)) (HX.out.mono (by omega))).mono ?_
  rintro e w1 ⟨rfl, hb⟩
  have hbx := bx3 w 32 32 32 #[.int .i64 (sg x), .slice a1 (ln x) c1] #[.int .i64 (sg y), .slice a2 (ln y) c2] #[.int .i64 0, .slice none 0 0]
  obtain ⟨k0, k1, k2⟩ := hbx
  have K0 := Lib.hid (k0.keep hb)
  have K1 := Lib.hid (k1.keep hb)
  have K2 := Lib.hid (k2.keep hb)
  clear k0 k1 k2
  have hb' : Below w.heap.size w w1 := below_call (by go_grown) hb
  have HB := Lib.hid hb'
  replace H1 := Lib.hid (H1.out.keep hb')
  replace H2 := Lib.hid (H2.out.keep hb')
  clear hb hb'
  have p0_0 : w1.cell? ⟨w.heap.size, 0, none⟩ = some (.int .i64 (sg x)) := K0.out.at.1 0
  have q0_0 : w1.frozen? ⟨w.heap.size, 0, none⟩ = false := K0.out.at.2 0
  have p0_1 : w1.cell? ⟨w.heap.size, 1, none⟩ = some (.slice a1 (ln x) c1) := K0.out.at.1 1
  have q0_1 : w1.frozen? ⟨w.heap.size, 1, none⟩ = false := K0.out.at.2 1
  have z0 : w.heap.size < w1.heap.size := K0.out.lt
  have p1_0 : w1.cell? ⟨w.heap.size + 1, 0, none⟩ = some (.int .i64 (sg y)) := K1.out.at.1 0
  have q1_0 : w1.frozen? ⟨w.heap.size + 1, 0, none⟩ = false := K1.out.at.2 0
  have p1_1 : w1.cell? ⟨w.heap.size + 1, 1, none⟩ = some (.slice a2 (ln y) c2) := K1.out.at.1 1
  have q1_1 : w1.frozen? ⟨w.heap.size + 1, 1, none⟩ = false := K1.out.at.2 1
  have z1 : w.heap.size + 1 < w1.heap.size := K1.out.lt
  have p2_0 : w1.cell? ⟨w.heap.size + 1 + 1, 0, none⟩ = some (.int .i64 0) := K2.out.at.1 0
  have q2_0 : w1.frozen? ⟨w.heap.size + 1 + 1, 0, none⟩ = false := K2.out.at.2 0
  have p2_1 : w1.cell? ⟨w.heap.size + 1 + 1, 1, none⟩ = some (.slice none 0 0) := K2.out.at.1 1
  have q2_1 : w1.frozen? ⟨w.heap.size + 1 + 1, 1, none⟩ = false := K2.out.at.2 1
  have z2 : w.heap.size + 1 + 1 < w1.heap.size := K2.out.lt
  go_wp2_with fail
  refine (rright_ok (x := y) (H2.out.keep (by go_grown)) (HY.out.mono (by omega))).mono ?_
  rintro e w2 ⟨rfl, hb⟩
  clear p0_0 q0_0 p0_1 q0_1 z0 p1_0 q1_0 p1_1 q1_1 z1 p2_0 q2_0 p2_1 q2_1 z2
  have hb' := below_call (w1 := w1) (by go_grown) hb
  replace K0 := Lib.hid (K0.out.keep hb')
  replace K1 := Lib.hid (K1.out.keep hb')
  replace K2 := Lib.hid (K2.out.keep hb')
  replace HB := Lib.hid (below_call HB.out hb')
  replace H1 := Lib.hid (H1.out.keep hb')
  replace H2 := Lib.hid (H2.out.keep hb')
  clear hb hb'
  have p0_0 : w2.cell? ⟨w.heap.size, 0, none⟩ = some (.int .i64 (sg x)) := K0.out.at.1 0
  have q0_0 : w2.frozen? ⟨w.heap.size, 0, none⟩ = false := K0.out.at.2 0
  have p0_1 : w2.cell? ⟨w.heap.size, 1, none⟩ = some (.slice a1 (ln x) c1) := K0.out.at.1 1
  have q0_1 : w2.frozen? ⟨w.heap.size, 1, none⟩ = false := K0.out.at.2 1
  have z0 : w.heap.size < w2.heap.size := K0.out.lt
  have p1_0 : w2.cell? ⟨w.heap.size + 1, 0, none⟩ = some (.int .i64 (sg y)) := K1.out.at.1 0
  have q1_0 : w2.frozen? ⟨w.heap.size + 1, 0, none⟩ = false := K1.out.at.2 0
  have p1_1 : w2.cell? ⟨w.heap.size + 1, 1, none⟩ = some (.slice a2 (ln y) c2) := K1.out.at.1 1
  have q1_1 : w2.frozen? ⟨w.heap.size + 1, 1, none⟩ = false := K1.out.at.2 1
  have z1 : w.heap.size + 1 < w2.heap.size := K1.out.lt
  have p2_0 : w2.cell? ⟨w.heap.size + 1 + 1, 0, none⟩ = some (.int .i64 0) := K2.out.at.1 0
  have q2_0 : w2.frozen? ⟨w.heap.size + 1 + 1, 0, none⟩ = false := K2.out.at.2 0
  have p2_1 : w2.cell? ⟨w.heap.size + 1 + 1, 1, none⟩ = some (.slice none 0 0) := K2.out.at.1 1
  have q2_1 : w2.frozen? ⟨w.heap.size + 1 + 1, 1, none⟩ = false := K2.out.at.2 1
  have z2 : w.heap.size + 1 + 1 < w2.heap.size := K2.out.lt
  go_wp2_with fail
  clear p0_0 q0_0 p0_1 q0_1 z0 p1_0 q1_0 p1_1 q1_1 z1 p2_0 q2_0 p2_1 q2_1 z2
  have mk : Hid (∀ w', w2.grownBy w' (some (w.heap.size + 1 + 1)) → w'.cell? ⟨w.heap.size, 0, none⟩ = some (.int .i64 (sg x)) ∧ w'.cell? ⟨w.heap.size, 1, none⟩ = some (.slice a1 (ln x) c1) ∧ w'.cell? ⟨w.heap.size + 1, 0, none⟩ = some (.int .i64 (sg y)) ∧ w'.cell? ⟨w.heap.size + 1, 1, none⟩ = some (.slice a2 (ln y) c2) ∧ w2.grownBy w' (some (w.heap.size + 1 + 1))) := fun w' h => ⟨(K0.out.only h (by omega)).at.1 0, (K0.out.only h (by omega)).at.1 1, (K1.out.only h (by omega)).at.1 0, (K1.out.only h (by omega)).at.1 1, h⟩
  have hs0 : w2.grownBy w2.drew (some (w.heap.size + 1 + 1)) := only_start _ _
  have HS0 : Hid (Below w2.heap.size w2 w2.drew) := (Below.refl _ _).drew
  have tok0 : True := trivial
  have tok1 : True := trivial
  go_region_held3 (fun w' => w'.cell? ⟨w.heap.size, 0, none⟩ = some (.int .i64 (sg x)) ∧ w'.cell? ⟨w.heap.size, 1, none⟩ = some (.slice a1 (ln x) c1) ∧ w'.cell? ⟨w.heap.size + 1, 0, none⟩ = some (.int .i64 (sg y)) ∧ w'.cell? ⟨w.heap.size + 1, 1, none⟩ = some (.slice a2 (ln y) c2) ∧ w2.grownBy w' (some (w.heap.size + 1 + 1)))
    (first | exact mk.out _ (by assumption) | exact mk.out _ (only_setCell (only_setCell (by assumption) _) _) | exact mk.out _ (only_alloc (by assumption) _))
    (first
      | (go_at_call 62; have _t := tok0; refine (rtimes_is (H1.out.keep HS0.out) (H2.out.keep HS0.out) HX.out HY.out).mono ?_; rintro e w3 ⟨a3, c3, rfl, ho3, hb⟩; clear tok0 _t; have hs1 := only_call hs0 hb; have HS1 := Lib.hid (below_call HS0.out hb); clear hb; have Ho3 := Lib.hid ho3; clear ho3)
      | (go_at_call 61; have _t := tok1; refine (made_own (G := G) (z := x * y) Ho3.out HM0.out HM1.out HM2.out).mono ?_; rintro e w4 ⟨a4, c4, rfl, hd4, hb⟩; clear tok1 _t; have hs2 := only_call hs1 hb; have HS2 := Lib.hid (below_call HS1.out hb); have Ho3 := Lib.hid (Ho3.out.keep hb); clear hb; have Hd4 := Lib.hid hd4; clear hd4; obtain ⟨p2, q2⟩ := (K2.out.keep HS2.out).at))
  replace K0 := Lib.hid (K0.out.keep HS2.out)
  replace K1 := Lib.hid (K1.out.keep HS2.out)
  replace K2 := Lib.hid (K2.out.keep HS2.out)
  replace HB := Lib.hid (below_call HB.out HS2.out)
  replace H1 := Lib.hid (H1.out.keep HS2.out)
  replace H2 := Lib.hid (H2.out.keep HS2.out)
  clear mk hs0 HS0 hs1 HS1 hs2 HS2  p2 q2
  go_wp2_with fail
  refine bodyPost_ret (results_box2 rfl _ _ (w.heap.size + 1 + 1) 32 _ _ _ rfl (K2.out.set2 _ _) Try.underlying32 rfl (by kernel_rfl)) rfl ?_
  refine ⟨a4, c4, rfl, ?_, ?_⟩
  · exact (Hd4.out.far0 K2.out zb2 (only_setCell (only_setCell (World.grownBy.refl _ _) _) _))
  · exact (Below.setCell (Below.setCell HB.out (by simp; try omega) _) (by simp; try omega) _)

set_option maxHeartbeats 4000000 in
theorem radd_x0 {x y : Int} {a1 a2 : Option Addr} {c1 c2 : Nat} {w : World} (h1 : BD G w a1 c1 x) (h2 : BD G w a2 c2 y) (hx : Sz x 549755813888) (hy : Sz y 549755813888) (hc : sg x = 0) :
    Calls Try.prog 50 #[.agg #[.int .i64 (sg x), .slice a1 (ln x) c1], .agg #[.int .i64 (sg y), .slice a2 (ln y) c2]] w fun e w' => ∃ a c, e = .returned (.tuple #[.agg #[.int .i64 (sg (x + y)), .slice a (ln (x + y)) c], .int .i64 0]) ∧ BD G w' a c (x + y) ∧ Below w.heap.size w w' := by
  have HX := Lib.hid hx
  have H1 := Lib.hid h1
  have HY := Lib.hid hy
  have H2 := Lib.hid h2
  have hlk : 0 ≤ sg x * sg y := by rw [hc]; simp
  have HM := Lib.hid (add_signs hlk)
  have HM0 : Hid (lnN (x.natAbs + y.natAbs) ≤ 8796093022208) := add_room hx hy
  have hor := or_signs hlk
  have t1 : (sg x == 0) = true := by rw [hc]; rfl
  clear hlk hc
  clear hx h1 hy h2

  go_enter Try.func50, Try.ntmps50
  go_wp2_with fail
  refine (rright_ok (x := x) (H1.out.keep (by go_grown)) (HX.out.mono (by omega))).mono ?_
  rintro e w1 ⟨rfl, hb⟩
  have hbx := bx3 w 32 32 32 #[.int .i64 (sg x), .slice a1 (ln x) c1] #[.int .i64 (sg y), .slice a2 (ln y) c2] #[.int .i64 0, .slice none 0 0]
  obtain ⟨k0, k1, k2⟩ := hbx
  have K0 := Lib.hid (k0.keep hb)
  have K1 := Lib.hid (k1.keep hb)
  have K2 := Lib.hid (k2.keep hb)
  clear k0 k1 k2
  have hb' : Below w.heap.size w w1 := below_call (by go_grown) hb
  have HB := Lib.hid hb'
  replace H1 := Lib.hid (H1.out.keep hb')
  replace H2 := Lib.hid (H2.out.keep hb')
  clear hb hb'
  have p0_0 : w1.cell? ⟨w.heap.size, 0, none⟩ = some (.int .i64 (sg x)) := K0.out.at.1 0
  have q0_0 : w1.frozen? ⟨w.heap.size, 0, none⟩ = false := K0.out.at.2 0
  have p0_1 : w1.cell? ⟨w.heap.size, 1, none⟩ = some (.slice a1 (ln x) c1) := K0.out.at.1 1
  have q0_1 : w1.frozen? ⟨w.heap.size, 1, none⟩ = false := K0.out.at.2 1
  have z0 : w.heap.size < w1.heap.size := K0.out.lt
  have p1_0 : w1.cell? ⟨w.heap.size + 1, 0, none⟩ = some (.int .i64 (sg y)) := K1.out.at.1 0
  have q1_0 : w1.frozen? ⟨w.heap.size + 1, 0, none⟩ = false := K1.out.at.2 0
  have p1_1 : w1.cell? ⟨w.heap.size + 1, 1, none⟩ = some (.slice a2 (ln y) c2) := K1.out.at.1 1
  have q1_1 : w1.frozen? ⟨w.heap.size + 1, 1, none⟩ = false := K1.out.at.2 1
  have z1 : w.heap.size + 1 < w1.heap.size := K1.out.lt
  have p2_0 : w1.cell? ⟨w.heap.size + 1 + 1, 0, none⟩ = some (.int .i64 0) := K2.out.at.1 0
  have q2_0 : w1.frozen? ⟨w.heap.size + 1 + 1, 0, none⟩ = false := K2.out.at.2 0
  have p2_1 : w1.cell? ⟨w.heap.size + 1 + 1, 1, none⟩ = some (.slice none 0 0) := K2.out.at.1 1
  have q2_1 : w1.frozen? ⟨w.heap.size + 1 + 1, 1, none⟩ = false := K2.out.at.2 1
  have z2 : w.heap.size + 1 + 1 < w1.heap.size := K2.out.lt
  go_wp2_with fail
  refine (rright_ok (x := y) (H2.out.keep (by go_grown)) (HY.out.mono (by omega))).mono ?_
  rintro e w2 ⟨rfl, hb⟩
  clear p0_0 q0_0 p0_1 q0_1 z0 p1_0 q1_0 p1_1 q1_1 z1 p2_0 q2_0 p2_1 q2_1 z2
  have hb' := below_call (w1 := w1) (by go_grown) hb
  replace K0 := Lib.hid (K0.out.keep hb')
  replace K1 := Lib.hid (K1.out.keep hb')
  replace K2 := Lib.hid (K2.out.keep hb')
  replace HB := Lib.hid (below_call HB.out hb')
  replace H1 := Lib.hid (H1.out.keep hb')
  replace H2 := Lib.hid (H2.out.keep hb')
  clear hb hb'
  have p0_0 : w2.cell? ⟨w.heap.size, 0, none⟩ = some (.int .i64 (sg x)) := K0.out.at.1 0
  have q0_0 : w2.frozen? ⟨w.heap.size, 0, none⟩ = false := K0.out.at.2 0
  have p0_1 : w2.cell? ⟨w.heap.size, 1, none⟩ = some (.slice a1 (ln x) c1) := K0.out.at.1 1
  have q0_1 : w2.frozen? ⟨w.heap.size, 1, none⟩ = false := K0.out.at.2 1
  have z0 : w.heap.size < w2.heap.size := K0.out.lt
  have p1_0 : w2.cell? ⟨w.heap.size + 1, 0, none⟩ = some (.int .i64 (sg y)) := K1.out.at.1 0
  have q1_0 : w2.frozen? ⟨w.heap.size + 1, 0, none⟩ = false := K1.out.at.2 0
  have p1_1 : w2.cell? ⟨w.heap.size + 1, 1, none⟩ = some (.slice a2 (ln y) c2) := K1.out.at.1 1
  have q1_1 : w2.frozen? ⟨w.heap.size + 1, 1, none⟩ = false := K1.out.at.2 1
  have z1 : w.heap.size + 1 < w2.heap.size := K1.out.lt
  have p2_0 : w2.cell? ⟨w.heap.size + 1 + 1, 0, none⟩ = some (.int .i64 0) := K2.out.at.1 0
  have q2_0 : w2.frozen? ⟨w.heap.size + 1 + 1, 0, none⟩ = false := K2.out.at.2 0
  have p2_1 : w2.cell? ⟨w.heap.size + 1 + 1, 1, none⟩ = some (.slice none 0 0) := K2.out.at.1 1
  have q2_1 : w2.frozen? ⟨w.heap.size + 1 + 1, 1, none⟩ = false := K2.out.at.2 1
  have z2 : w.heap.size + 1 + 1 < w2.heap.size := K2.out.lt
  go_wp2_with fail
  clear p0_0 q0_0 p0_1 q0_1 z0 p1_0 q1_0 p1_1 q1_1 z1 p2_0 q2_0 p2_1 q2_1 z2
  have mk : Hid (∀ w', w2.grownBy w' (some (w.heap.size + 1 + 1)) → w'.cell? ⟨w.heap.size, 0, none⟩ = some (.int .i64 (sg x)) ∧ w'.cell? ⟨w.heap.size, 1, none⟩ = some (.slice a1 (ln x) c1) ∧ w'.cell? ⟨w.heap.size + 1, 0, none⟩ = some (.int .i64 (sg y)) ∧ w'.cell? ⟨w.heap.size + 1, 1, none⟩ = some (.slice a2 (ln y) c2) ∧ w2.grownBy w' (some (w.heap.size + 1 + 1))) := fun w' h => ⟨(K0.out.only h (by omega)).at.1 0, (K0.out.only h (by omega)).at.1 1, (K1.out.only h (by omega)).at.1 0, (K1.out.only h (by omega)).at.1 1, h⟩
  have hs0 : w2.grownBy w2.drew (some (w.heap.size + 1 + 1)) := only_start _ _
  have HS0 : Hid (Below w2.heap.size w2 w2.drew) := (Below.refl _ _).drew
  have tok0 : True := trivial
  have tok1 : True := trivial
  go_region_held3 (fun w' => w'.cell? ⟨w.heap.size, 0, none⟩ = some (.int .i64 (sg x)) ∧ w'.cell? ⟨w.heap.size, 1, none⟩ = some (.slice a1 (ln x) c1) ∧ w'.cell? ⟨w.heap.size + 1, 0, none⟩ = some (.int .i64 (sg y)) ∧ w'.cell? ⟨w.heap.size + 1, 1, none⟩ = some (.slice a2 (ln y) c2) ∧ w2.grownBy w' (some (w.heap.size + 1 + 1)))
    (first | exact mk.out _ (by assumption) | exact mk.out _ (only_setCell (only_setCell (by assumption) _) _) | exact mk.out _ (only_alloc (by assumption) _))
    (first
      | (go_at_call 74; have _t := tok0; refine (plus_is (H1.out.keep HS0.out) (H2.out.keep HS0.out) HX.out HY.out).mono ?_; rintro e w3 ⟨a3, c3, rfl, ho3, hb⟩; clear tok0 _t; have hs1 := only_call hs0 hb; have HS1 := Lib.hid (below_call HS0.out hb); clear hb; have Ho3 := Lib.hid ho3; clear ho3)
      | (go_at_call 61; have _t := tok1; refine (made_own (G := G) (z := x + y) Ho3.out HM0.out HM.out.1 HM.out.2).mono ?_; rintro e w4 ⟨a4, c4, rfl, hd4, hb⟩; clear tok1 _t; have hs2 := only_call hs1 hb; have HS2 := Lib.hid (below_call HS1.out hb); have Ho3 := Lib.hid (Ho3.out.keep hb); clear hb; have Hd4 := Lib.hid hd4; clear hd4; obtain ⟨p2, q2⟩ := (K2.out.keep HS2.out).at))
  replace K0 := Lib.hid (K0.out.keep HS2.out)
  replace K1 := Lib.hid (K1.out.keep HS2.out)
  replace K2 := Lib.hid (K2.out.keep HS2.out)
  replace HB := Lib.hid (below_call HB.out HS2.out)
  replace H1 := Lib.hid (H1.out.keep HS2.out)
  replace H2 := Lib.hid (H2.out.keep HS2.out)
  clear mk hs0 HS0 hs1 HS1 hs2 HS2  p2 q2
  go_wp2_with fail
  refine bodyPost_ret (results_box2 rfl _ _ (w.heap.size + 1 + 1) 32 _ _ _ rfl (K2.out.set2 _ _) Try.underlying32 rfl (by kernel_rfl)) rfl ?_
  refine ⟨a4, c4, rfl, ?_, ?_⟩
  · exact (Hd4.out.far0 K2.out zb2 (only_setCell (only_setCell (World.grownBy.refl _ _) _) _))
  · exact (Below.setCell (Below.setCell HB.out (by simp; try omega) _) (by simp; try omega) _)

set_option maxHeartbeats 4000000 in
theorem radd_y0 {x y : Int} {a1 a2 : Option Addr} {c1 c2 : Nat} {w : World} (h1 : BD G w a1 c1 x) (h2 : BD G w a2 c2 y) (hx : Sz x 549755813888) (hy : Sz y 549755813888) (hc : sg x ≠ 0 ∧ sg y = 0) :
    Calls Try.prog 50 #[.agg #[.int .i64 (sg x), .slice a1 (ln x) c1], .agg #[.int .i64 (sg y), .slice a2 (ln y) c2]] w fun e w' => ∃ a c, e = .returned (.tuple #[.agg #[.int .i64 (sg (x + y)), .slice a (ln (x + y)) c], .int .i64 0]) ∧ BD G w' a c (x + y) ∧ Below w.heap.size w w' := by
  have HX := Lib.hid hx
  have H1 := Lib.hid h1
  have HY := Lib.hid hy
  have H2 := Lib.hid h2
  have hlk : 0 ≤ sg x * sg y := by rw [hc.2]; simp
  have HM := Lib.hid (add_signs hlk)
  have HM0 : Hid (lnN (x.natAbs + y.natAbs) ≤ 8796093022208) := add_room hx hy
  have hor := or_signs hlk
  have t1 : (sg x == 0) = false := by rw [beq_eq_false_iff_ne]; exact hc.1
  have t2 : (sg y == 0) = true := by rw [hc.2]; rfl
  clear hlk hc
  clear hx h1 hy h2

  go_enter Try.func50, Try.ntmps50
  go_wp2_with fail
  refine (rright_ok (x := x) (H1.out.keep (by go_grown)) (HX.out.mono (by omega))).mono ?_
  rintro e w1 ⟨rfl, hb⟩
  have hbx := bx3 w 32 32 32 #[.int .i64 (sg x), .slice a1 (ln x) c1] #[.int .i64 (sg y), .slice a2 (ln y) c2] #[.int .i64 0, .slice none 0 0]
  obtain ⟨k0, k1, k2⟩ := hbx
  have K0 := Lib.hid (k0.keep hb)
  have K1 := Lib.hid (k1.keep hb)
  have K2 := Lib.hid (k2.keep hb)
  clear k0 k1 k2
  have hb' : Below w.heap.size w w1 := below_call (by go_grown) hb
  have HB := Lib.hid hb'
  replace H1 := Lib.hid (H1.out.keep hb')
  replace H2 := Lib.hid (H2.out.keep hb')
  clear hb hb'
  have p0_0 : w1.cell? ⟨w.heap.size, 0, none⟩ = some (.int .i64 (sg x)) := K0.out.at.1 0
  have q0_0 : w1.frozen? ⟨w.heap.size, 0, none⟩ = false := K0.out.at.2 0
  have p0_1 : w1.cell? ⟨w.heap.size, 1, none⟩ = some (.slice a1 (ln x) c1) := K0.out.at.1 1
  have q0_1 : w1.frozen? ⟨w.heap.size, 1, none⟩ = false := K0.out.at.2 1
  have z0 : w.heap.size < w1.heap.size := K0.out.lt
  have p1_0 : w1.cell? ⟨w.heap.size + 1, 0, none⟩ = some (.int .i64 (sg y)) := K1.out.at.1 0
  have q1_0 : w1.frozen? ⟨w.heap.size + 1, 0, none⟩ = false := K1.out.at.2 0
  have p1_1 : w1.cell? ⟨w.heap.size + 1, 1, none⟩ = some (.slice a2 (ln y) c2) := K1.out.at.1 1
  have q1_1 : w1.frozen? ⟨w.heap.size + 1, 1, none⟩ = false := K1.out.at.2 1
  have z1 : w.heap.size + 1 < w1.heap.size := K1.out.lt
  have p2_0 : w1.cell? ⟨w.heap.size + 1 + 1, 0, none⟩ = some (.int .i64 0) := K2.out.at.1 0
  have q2_0 : w1.frozen? ⟨w.heap.size + 1 + 1, 0, none⟩ = false := K2.out.at.2 0
  have p2_1 : w1.cell? ⟨w.heap.size + 1 + 1, 1, none⟩ = some (.slice none 0 0) := K2.out.at.1 1
  have q2_1 : w1.frozen? ⟨w.heap.size + 1 + 1, 1, none⟩ = false := K2.out.at.2 1
  have z2 : w.heap.size + 1 + 1 < w1.heap.size := K2.out.lt
  go_wp2_with fail
  refine (rright_ok (x := y) (H2.out.keep (by go_grown)) (HY.out.mono (by omega))).mono ?_
  rintro e w2 ⟨rfl, hb⟩
  clear p0_0 q0_0 p0_1 q0_1 z0 p1_0 q1_0 p1_1 q1_1 z1 p2_0 q2_0 p2_1 q2_1 z2
  have hb' := below_call (w1 := w1) (by go_grown) hb
  replace K0 := Lib.hid (K0.out.keep hb')
  replace K1 := Lib.hid (K1.out.keep hb')
  replace K2 := Lib.hid (K2.out.keep hb')
  replace HB := Lib.hid (below_call HB.out hb')
  replace H1 := Lib.hid (H1.out.keep hb')
  replace H2 := Lib.hid (H2.out.keep hb')
  clear hb hb'
  have p0_0 : w2.cell? ⟨w.heap.size, 0, none⟩ = some (.int .i64 (sg x)) := K0.out.at.1 0
  have q0_0 : w2.frozen? ⟨w.heap.size, 0, none⟩ = false := K0.out.at.2 0
  have p0_1 : w2.cell? ⟨w.heap.size, 1, none⟩ = some (.slice a1 (ln x) c1) := K0.out.at.1 1
  have q0_1 : w2.frozen? ⟨w.heap.size, 1, none⟩ = false := K0.out.at.2 1
  have z0 : w.heap.size < w2.heap.size := K0.out.lt
  have p1_0 : w2.cell? ⟨w.heap.size + 1, 0, none⟩ = some (.int .i64 (sg y)) := K1.out.at.1 0
  have q1_0 : w2.frozen? ⟨w.heap.size + 1, 0, none⟩ = false := K1.out.at.2 0
  have p1_1 : w2.cell? ⟨w.heap.size + 1, 1, none⟩ = some (.slice a2 (ln y) c2) := K1.out.at.1 1
  have q1_1 : w2.frozen? ⟨w.heap.size + 1, 1, none⟩ = false := K1.out.at.2 1
  have z1 : w.heap.size + 1 < w2.heap.size := K1.out.lt
  have p2_0 : w2.cell? ⟨w.heap.size + 1 + 1, 0, none⟩ = some (.int .i64 0) := K2.out.at.1 0
  have q2_0 : w2.frozen? ⟨w.heap.size + 1 + 1, 0, none⟩ = false := K2.out.at.2 0
  have p2_1 : w2.cell? ⟨w.heap.size + 1 + 1, 1, none⟩ = some (.slice none 0 0) := K2.out.at.1 1
  have q2_1 : w2.frozen? ⟨w.heap.size + 1 + 1, 1, none⟩ = false := K2.out.at.2 1
  have z2 : w.heap.size + 1 + 1 < w2.heap.size := K2.out.lt
  go_wp2_with fail
  clear p0_0 q0_0 p0_1 q0_1 z0 p1_0 q1_0 p1_1 q1_1 z1 p2_0 q2_0 p2_1 q2_1 z2
  have mk : Hid (∀ w', w2.grownBy w' (some (w.heap.size + 1 + 1)) → w'.cell? ⟨w.heap.size, 0, none⟩ = some (.int .i64 (sg x)) ∧ w'.cell? ⟨w.heap.size, 1, none⟩ = some (.slice a1 (ln x) c1) ∧ w'.cell? ⟨w.heap.size + 1, 0, none⟩ = some (.int .i64 (sg y)) ∧ w'.cell? ⟨w.heap.size + 1, 1, none⟩ = some (.slice a2 (ln y) c2) ∧ w2.grownBy w' (some (w.heap.size + 1 + 1))) := fun w' h => ⟨(K0.out.only h (by omega)).at.1 0, (K0.out.only h (by omega)).at.1 1, (K1.out.only h (by omega)).at.1 0, (K1.out.only h (by omega)).at.1 1, h⟩
  have hs0 : w2.grownBy w2.drew (some (w.heap.size + 1 + 1)) := only_start _ _
  have HS0 : Hid (Below w2.heap.size w2 w2.drew) := (Below.refl _ _).drew
  have tok0 : True := trivial
  have tok1 : True := trivial
  go_region_held3 (fun w' => w'.cell? ⟨w.heap.size, 0, none⟩ = some (.int .i64 (sg x)) ∧ w'.cell? ⟨w.heap.size, 1, none⟩ = some (.slice a1 (ln x) c1) ∧ w'.cell? ⟨w.heap.size + 1, 0, none⟩ = some (.int .i64 (sg y)) ∧ w'.cell? ⟨w.heap.size + 1, 1, none⟩ = some (.slice a2 (ln y) c2) ∧ w2.grownBy w' (some (w.heap.size + 1 + 1)))
    (first | exact mk.out _ (by assumption) | exact mk.out _ (only_setCell (only_setCell (by assumption) _) _) | exact mk.out _ (only_alloc (by assumption) _))
    (first
      | (go_at_call 74; have _t := tok0; refine (plus_is (H1.out.keep HS0.out) (H2.out.keep HS0.out) HX.out HY.out).mono ?_; rintro e w3 ⟨a3, c3, rfl, ho3, hb⟩; clear tok0 _t; have hs1 := only_call hs0 hb; have HS1 := Lib.hid (below_call HS0.out hb); clear hb; have Ho3 := Lib.hid ho3; clear ho3)
      | (go_at_call 61; have _t := tok1; refine (made_own (G := G) (z := x + y) Ho3.out HM0.out HM.out.1 HM.out.2).mono ?_; rintro e w4 ⟨a4, c4, rfl, hd4, hb⟩; clear tok1 _t; have hs2 := only_call hs1 hb; have HS2 := Lib.hid (below_call HS1.out hb); have Ho3 := Lib.hid (Ho3.out.keep hb); clear hb; have Hd4 := Lib.hid hd4; clear hd4; obtain ⟨p2, q2⟩ := (K2.out.keep HS2.out).at))
  replace K0 := Lib.hid (K0.out.keep HS2.out)
  replace K1 := Lib.hid (K1.out.keep HS2.out)
  replace K2 := Lib.hid (K2.out.keep HS2.out)
  replace HB := Lib.hid (below_call HB.out HS2.out)
  replace H1 := Lib.hid (H1.out.keep HS2.out)
  replace H2 := Lib.hid (H2.out.keep HS2.out)
  clear mk hs0 HS0 hs1 HS1 hs2 HS2  p2 q2
  go_wp2_with fail
  refine bodyPost_ret (results_box2 rfl _ _ (w.heap.size + 1 + 1) 32 _ _ _ rfl (K2.out.set2 _ _) Try.underlying32 rfl (by kernel_rfl)) rfl ?_
  refine ⟨a4, c4, rfl, ?_, ?_⟩
  · exact (Hd4.out.far0 K2.out zb2 (only_setCell (only_setCell (World.grownBy.refl _ _) _) _))
  · exact (Below.setCell (Below.setCell HB.out (by simp; try omega) _) (by simp; try omega) _)

set_option maxHeartbeats 4000000 in
theorem radd_eq {x y : Int} {a1 a2 : Option Addr} {c1 c2 : Nat} {w : World} (h1 : BD G w a1 c1 x) (h2 : BD G w a2 c2 y) (hx : Sz x 549755813888) (hy : Sz y 549755813888) (hc : sg x ≠ 0 ∧ sg y ≠ 0 ∧ sg x = sg y) :
    Calls Try.prog 50 #[.agg #[.int .i64 (sg x), .slice a1 (ln x) c1], .agg #[.int .i64 (sg y), .slice a2 (ln y) c2]] w fun e w' => ∃ a c, e = .returned (.tuple #[.agg #[.int .i64 (sg (x + y)), .slice a (ln (x + y)) c], .int .i64 0]) ∧ BD G w' a c (x + y) ∧ Below w.heap.size w w' := by
  have HX := Lib.hid hx
  have H1 := Lib.hid h1
  have HY := Lib.hid hy
  have H2 := Lib.hid h2
  have hlk : 0 ≤ sg x * sg y := by rw [hc.2.2]; rcases sg_cases y with h | h | h <;> rw [h] <;> decide
  have HM := Lib.hid (add_signs hlk)
  have HM0 : Hid (lnN (x.natAbs + y.natAbs) ≤ 8796093022208) := add_room hx hy
  have hor := or_signs hlk
  have t1 : (sg x == 0) = false := by rw [beq_eq_false_iff_ne]; exact hc.1
  have t2 : (sg y == 0) = false := by rw [beq_eq_false_iff_ne]; exact hc.2.1
  have t3 : (sg x == sg y) = true := by rw [beq_iff_eq]; exact hc.2.2
  clear hlk hc
  clear hx h1 hy h2

  go_enter Try.func50, Try.ntmps50
  go_wp2_with fail
  refine (rright_ok (x := x) (H1.out.keep (by go_grown)) (HX.out.mono (by omega))).mono ?_
  rintro e w1 ⟨rfl, hb⟩
  have hbx := bx3 w 32 32 32 #[.int .i64 (sg x), .slice a1 (ln x) c1] #[.int .i64 (sg y), .slice a2 (ln y) c2] #[.int .i64 0, .slice none 0 0]
  obtain ⟨k0, k1, k2⟩ := hbx
  have K0 := Lib.hid (k0.keep hb)
  have K1 := Lib.hid (k1.keep hb)
  have K2 := Lib.hid (k2.keep hb)
  clear k0 k1 k2
  have hb' : Below w.heap.size w w1 := below_call (by go_grown) hb
  have HB := Lib.hid hb'
  replace H1 := Lib.hid (H1.out.keep hb')
  replace H2 := Lib.hid (H2.out.keep hb')
  clear hb hb'
  have p0_0 : w1.cell? ⟨w.heap.size, 0, none⟩ = some (.int .i64 (sg x)) := K0.out.at.1 0
  have q0_0 : w1.frozen? ⟨w.heap.size, 0, none⟩ = false := K0.out.at.2 0
  have p0_1 : w1.cell? ⟨w.heap.size, 1, none⟩ = some (.slice a1 (ln x) c1) := K0.out.at.1 1
  have q0_1 : w1.frozen? ⟨w.heap.size, 1, none⟩ = false := K0.out.at.2 1
  have z0 : w.heap.size < w1.heap.size := K0.out.lt
  have p1_0 : w1.cell? ⟨w.heap.size + 1, 0, none⟩ = some (.int .i64 (sg y)) := K1.out.at.1 0
  have q1_0 : w1.frozen? ⟨w.heap.size + 1, 0, none⟩ = false := K1.out.at.2 0
  have p1_1 : w1.cell? ⟨w.heap.size + 1, 1, none⟩ = some (.slice a2 (ln y) c2) := K1.out.at.1 1
  have q1_1 : w1.frozen? ⟨w.heap.size + 1, 1, none⟩ = false := K1.out.at.2 1
  have z1 : w.heap.size + 1 < w1.heap.size := K1.out.lt
  have p2_0 : w1.cell? ⟨w.heap.size + 1 + 1, 0, none⟩ = some (.int .i64 0) := K2.out.at.1 0
  have q2_0 : w1.frozen? ⟨w.heap.size + 1 + 1, 0, none⟩ = false := K2.out.at.2 0
  have p2_1 : w1.cell? ⟨w.heap.size + 1 + 1, 1, none⟩ = some (.slice none 0 0) := K2.out.at.1 1
  have q2_1 : w1.frozen? ⟨w.heap.size + 1 + 1, 1, none⟩ = false := K2.out.at.2 1
  have z2 : w.heap.size + 1 + 1 < w1.heap.size := K2.out.lt
  go_wp2_with fail
  refine (rright_ok (x := y) (H2.out.keep (by go_grown)) (HY.out.mono (by omega))).mono ?_
  rintro e w2 ⟨rfl, hb⟩
  clear p0_0 q0_0 p0_1 q0_1 z0 p1_0 q1_0 p1_1 q1_1 z1 p2_0 q2_0 p2_1 q2_1 z2
  have hb' := below_call (w1 := w1) (by go_grown) hb
  replace K0 := Lib.hid (K0.out.keep hb')
  replace K1 := Lib.hid (K1.out.keep hb')
  replace K2 := Lib.hid (K2.out.keep hb')
  replace HB := Lib.hid (below_call HB.out hb')
  replace H1 := Lib.hid (H1.out.keep hb')
  replace H2 := Lib.hid (H2.out.keep hb')
  clear hb hb'
  have p0_0 : w2.cell? ⟨w.heap.size, 0, none⟩ = some (.int .i64 (sg x)) := K0.out.at.1 0
  have q0_0 : w2.frozen? ⟨w.heap.size, 0, none⟩ = false := K0.out.at.2 0
  have p0_1 : w2.cell? ⟨w.heap.size, 1, none⟩ = some (.slice a1 (ln x) c1) := K0.out.at.1 1
  have q0_1 : w2.frozen? ⟨w.heap.size, 1, none⟩ = false := K0.out.at.2 1
  have z0 : w.heap.size < w2.heap.size := K0.out.lt
  have p1_0 : w2.cell? ⟨w.heap.size + 1, 0, none⟩ = some (.int .i64 (sg y)) := K1.out.at.1 0
  have q1_0 : w2.frozen? ⟨w.heap.size + 1, 0, none⟩ = false := K1.out.at.2 0
  have p1_1 : w2.cell? ⟨w.heap.size + 1, 1, none⟩ = some (.slice a2 (ln y) c2) := K1.out.at.1 1
  have q1_1 : w2.frozen? ⟨w.heap.size + 1, 1, none⟩ = false := K1.out.at.2 1
  have z1 : w.heap.size + 1 < w2.heap.size := K1.out.lt
  have p2_0 : w2.cell? ⟨w.heap.size + 1 + 1, 0, none⟩ = some (.int .i64 0) := K2.out.at.1 0
  have q2_0 : w2.frozen? ⟨w.heap.size + 1 + 1, 0, none⟩ = false := K2.out.at.2 0
  have p2_1 : w2.cell? ⟨w.heap.size + 1 + 1, 1, none⟩ = some (.slice none 0 0) := K2.out.at.1 1
  have q2_1 : w2.frozen? ⟨w.heap.size + 1 + 1, 1, none⟩ = false := K2.out.at.2 1
  have z2 : w.heap.size + 1 + 1 < w2.heap.size := K2.out.lt
  go_wp2_with fail
  clear p0_0 q0_0 p0_1 q0_1 z0 p1_0 q1_0 p1_1 q1_1 z1 p2_0 q2_0 p2_1 q2_1 z2
  have mk : Hid (∀ w', w2.grownBy w' (some (w.heap.size + 1 + 1)) → w'.cell? ⟨w.heap.size, 0, none⟩ = some (.int .i64 (sg x)) ∧ w'.cell? ⟨w.heap.size, 1, none⟩ = some (.slice a1 (ln x) c1) ∧ w'.cell? ⟨w.heap.size + 1, 0, none⟩ = some (.int .i64 (sg y)) ∧ w'.cell? ⟨w.heap.size + 1, 1, none⟩ = some (.slice a2 (ln y) c2) ∧ w2.grownBy w' (some (w.heap.size + 1 + 1))) := fun w' h => ⟨(K0.out.only h (by omega)).at.1 0, (K0.out.only h (by omega)).at.1 1, (K1.out.only h (by omega)).at.1 0, (K1.out.only h (by omega)).at.1 1, h⟩
  have hs0 : w2.grownBy w2.drew (some (w.heap.size + 1 + 1)) := only_start _ _
  have HS0 : Hid (Below w2.heap.size w2 w2.drew) := (Below.refl _ _).drew
  have tok0 : True := trivial
  have tok1 : True := trivial
  go_region_held3 (fun w' => w'.cell? ⟨w.heap.size, 0, none⟩ = some (.int .i64 (sg x)) ∧ w'.cell? ⟨w.heap.size, 1, none⟩ = some (.slice a1 (ln x) c1) ∧ w'.cell? ⟨w.heap.size + 1, 0, none⟩ = some (.int .i64 (sg y)) ∧ w'.cell? ⟨w.heap.size + 1, 1, none⟩ = some (.slice a2 (ln y) c2) ∧ w2.grownBy w' (some (w.heap.size + 1 + 1)))
    (first | exact mk.out _ (by assumption) | exact mk.out _ (only_setCell (only_setCell (by assumption) _) _) | exact mk.out _ (only_alloc (by assumption) _))
    (first
      | (go_at_call 74; have _t := tok0; refine (plus_is (H1.out.keep HS0.out) (H2.out.keep HS0.out) HX.out HY.out).mono ?_; rintro e w3 ⟨a3, c3, rfl, ho3, hb⟩; clear tok0 _t; have hs1 := only_call hs0 hb; have HS1 := Lib.hid (below_call HS0.out hb); clear hb; have Ho3 := Lib.hid ho3; clear ho3)
      | (go_at_call 61; have _t := tok1; refine (made_own (G := G) (z := x + y) Ho3.out HM0.out HM.out.1 HM.out.2).mono ?_; rintro e w4 ⟨a4, c4, rfl, hd4, hb⟩; clear tok1 _t; have hs2 := only_call hs1 hb; have HS2 := Lib.hid (below_call HS1.out hb); have Ho3 := Lib.hid (Ho3.out.keep hb); clear hb; have Hd4 := Lib.hid hd4; clear hd4; obtain ⟨p2, q2⟩ := (K2.out.keep HS2.out).at))
  replace K0 := Lib.hid (K0.out.keep HS2.out)
  replace K1 := Lib.hid (K1.out.keep HS2.out)
  replace K2 := Lib.hid (K2.out.keep HS2.out)
  replace HB := Lib.hid (below_call HB.out HS2.out)
  replace H1 := Lib.hid (H1.out.keep HS2.out)
  replace H2 := Lib.hid (H2.out.keep HS2.out)
  clear mk hs0 HS0 hs1 HS1 hs2 HS2  p2 q2
  go_wp2_with fail
  refine bodyPost_ret (results_box2 rfl _ _ (w.heap.size + 1 + 1) 32 _ _ _ rfl (K2.out.set2 _ _) Try.underlying32 rfl (by kernel_rfl)) rfl ?_
  refine ⟨a4, c4, rfl, ?_, ?_⟩
  · exact (Hd4.out.far0 K2.out zb2 (only_setCell (only_setCell (World.grownBy.refl _ _) _) _))
  · exact (Below.setCell (Below.setCell HB.out (by simp; try omega) _) (by simp; try omega) _)

set_option maxHeartbeats 4000000 in
theorem radd_lt {x y : Int} {a1 a2 : Option Addr} {c1 c2 : Nat} {w : World} (h1 : BD G w a1 c1 x) (h2 : BD G w a2 c2 y) (hx : Sz x 549755813888) (hy : Sz y 549755813888) (hs : sg x * sg y < 0) (hle : x.natAbs < y.natAbs) :
    Calls Try.prog 50 #[.agg #[.int .i64 (sg x), .slice a1 (ln x) c1], .agg #[.int .i64 (sg y), .slice a2 (ln y) c2]] w fun e w' => ∃ a c, e = .returned (.tuple #[.agg #[.int .i64 (sg (x + y)), .slice a (ln (x + y)) c], .int .i64 0]) ∧ BD G w' a c (x + y) ∧ Below w.heap.size w w' := by
  have HX := Lib.hid hx
  have H1 := Lib.hid h1
  have HY := Lib.hid hy
  have H2 := Lib.hid h2
  have hx0 : sg x ≠ 0 := by intro h; rw [h] at hs; simp at hs
  have hy0 : sg y ≠ 0 := by intro h; rw [h] at hs; simp at hs
  have hxy : sg x ≠ sg y := by intro h; rw [h] at hs; rcases sg_cases y with h' | h' | h' <;> rw [h'] at hs <;> simp at hs
  have t1 : (sg x == 0) = false := by rw [beq_eq_false_iff_ne]; exact hx0
  have t2 : (sg y == 0) = false := by rw [beq_eq_false_iff_ne]; exact hy0
  have t3 : (sg x == sg y) = false := by rw [beq_eq_false_iff_ne]; exact hxy
  have HLS : Hid (lessZ x y = true) := by show _ = _; rw [lessZ]; rw [decide_eq_true_eq]; exact hle
  have HLE : Hid (x.natAbs ≤ y.natAbs) := by show _ ≤ _; omega
  have HM0 : Hid (lnN (y.natAbs - x.natAbs) ≤ 8796093022208) := by show _ ≤ _; have := digs_len_mono (Nat.sub_le y.natAbs x.natAbs); unfold Sz at hx hy; unfold lnN; omega
  have hsg := sub_signs (x := y) (y := x) (by rw [Int.mul_comm]; exact hs) (by omega)
  have HM1 : Hid (sg y * ((y.natAbs - x.natAbs : Nat) : Int) = x + y) := hsg.1.trans (Int.add_comm _ _)
  have HM2 := Lib.hid hsg.2
  clear hx0 hy0 hxy hs hle hsg
  clear hx h1 hy h2

  go_enter Try.func50, Try.ntmps50
  go_wp2_with fail
  refine (rright_ok (x := x) (H1.out.keep (by go_grown)) (HX.out.mono (by omega))).mono ?_
  rintro e w1 ⟨rfl, hb⟩
  have hbx := bx3 w 32 32 32 #[.int .i64 (sg x), .slice a1 (ln x) c1] #[.int .i64 (sg y), .slice a2 (ln y) c2] #[.int .i64 0, .slice none 0 0]
  obtain ⟨k0, k1, k2⟩ := hbx
  have K0 := Lib.hid (k0.keep hb)
  have K1 := Lib.hid (k1.keep hb)
  have K2 := Lib.hid (k2.keep hb)
  clear k0 k1 k2
  have hb' : Below w.heap.size w w1 := below_call (by go_grown) hb
  have HB := Lib.hid hb'
  replace H1 := Lib.hid (H1.out.keep hb')
  replace H2 := Lib.hid (H2.out.keep hb')
  clear hb hb'
  have p0_0 : w1.cell? ⟨w.heap.size, 0, none⟩ = some (.int .i64 (sg x)) := K0.out.at.1 0
  have q0_0 : w1.frozen? ⟨w.heap.size, 0, none⟩ = false := K0.out.at.2 0
  have p0_1 : w1.cell? ⟨w.heap.size, 1, none⟩ = some (.slice a1 (ln x) c1) := K0.out.at.1 1
  have q0_1 : w1.frozen? ⟨w.heap.size, 1, none⟩ = false := K0.out.at.2 1
  have z0 : w.heap.size < w1.heap.size := K0.out.lt
  have p1_0 : w1.cell? ⟨w.heap.size + 1, 0, none⟩ = some (.int .i64 (sg y)) := K1.out.at.1 0
  have q1_0 : w1.frozen? ⟨w.heap.size + 1, 0, none⟩ = false := K1.out.at.2 0
  have p1_1 : w1.cell? ⟨w.heap.size + 1, 1, none⟩ = some (.slice a2 (ln y) c2) := K1.out.at.1 1
  have q1_1 : w1.frozen? ⟨w.heap.size + 1, 1, none⟩ = false := K1.out.at.2 1
  have z1 : w.heap.size + 1 < w1.heap.size := K1.out.lt
  have p2_0 : w1.cell? ⟨w.heap.size + 1 + 1, 0, none⟩ = some (.int .i64 0) := K2.out.at.1 0
  have q2_0 : w1.frozen? ⟨w.heap.size + 1 + 1, 0, none⟩ = false := K2.out.at.2 0
  have p2_1 : w1.cell? ⟨w.heap.size + 1 + 1, 1, none⟩ = some (.slice none 0 0) := K2.out.at.1 1
  have q2_1 : w1.frozen? ⟨w.heap.size + 1 + 1, 1, none⟩ = false := K2.out.at.2 1
  have z2 : w.heap.size + 1 + 1 < w1.heap.size := K2.out.lt
  go_wp2_with fail
  refine (rright_ok (x := y) (H2.out.keep (by go_grown)) (HY.out.mono (by omega))).mono ?_
  rintro e w2 ⟨rfl, hb⟩
  clear p0_0 q0_0 p0_1 q0_1 z0 p1_0 q1_0 p1_1 q1_1 z1 p2_0 q2_0 p2_1 q2_1 z2
  have hb' := below_call (w1 := w1) (by go_grown) hb
  replace K0 := Lib.hid (K0.out.keep hb')
  replace K1 := Lib.hid (K1.out.keep hb')
  replace K2 := Lib.hid (K2.out.keep hb')
  replace HB := Lib.hid (below_call HB.out hb')
  replace H1 := Lib.hid (H1.out.keep hb')
  replace H2 := Lib.hid (H2.out.keep hb')
  clear hb hb'
  have p0_0 : w2.cell? ⟨w.heap.size, 0, none⟩ = some (.int .i64 (sg x)) := K0.out.at.1 0
  have q0_0 : w2.frozen? ⟨w.heap.size, 0, none⟩ = false := K0.out.at.2 0
  have p0_1 : w2.cell? ⟨w.heap.size, 1, none⟩ = some (.slice a1 (ln x) c1) := K0.out.at.1 1
  have q0_1 : w2.frozen? ⟨w.heap.size, 1, none⟩ = false := K0.out.at.2 1
  have z0 : w.heap.size < w2.heap.size := K0.out.lt
  have p1_0 : w2.cell? ⟨w.heap.size + 1, 0, none⟩ = some (.int .i64 (sg y)) := K1.out.at.1 0
  have q1_0 : w2.frozen? ⟨w.heap.size + 1, 0, none⟩ = false := K1.out.at.2 0
  have p1_1 : w2.cell? ⟨w.heap.size + 1, 1, none⟩ = some (.slice a2 (ln y) c2) := K1.out.at.1 1
  have q1_1 : w2.frozen? ⟨w.heap.size + 1, 1, none⟩ = false := K1.out.at.2 1
  have z1 : w.heap.size + 1 < w2.heap.size := K1.out.lt
  have p2_0 : w2.cell? ⟨w.heap.size + 1 + 1, 0, none⟩ = some (.int .i64 0) := K2.out.at.1 0
  have q2_0 : w2.frozen? ⟨w.heap.size + 1 + 1, 0, none⟩ = false := K2.out.at.2 0
  have p2_1 : w2.cell? ⟨w.heap.size + 1 + 1, 1, none⟩ = some (.slice none 0 0) := K2.out.at.1 1
  have q2_1 : w2.frozen? ⟨w.heap.size + 1 + 1, 1, none⟩ = false := K2.out.at.2 1
  have z2 : w.heap.size + 1 + 1 < w2.heap.size := K2.out.lt
  go_wp2_with fail
  refine (less_is (H1.out.keep (by go_grown)) (H2.out.keep (by go_grown)) HX.out HY.out).mono ?_
  rintro e w3 ⟨rfl, hb⟩
  clear p0_0 q0_0 p0_1 q0_1 z0 p1_0 q1_0 p1_1 q1_1 z1 p2_0 q2_0 p2_1 q2_1 z2
  have hb' := below_call (w1 := w2) (by go_grown) hb
  replace K0 := Lib.hid (K0.out.keep hb')
  replace K1 := Lib.hid (K1.out.keep hb')
  replace K2 := Lib.hid (K2.out.keep hb')
  replace HB := Lib.hid (below_call HB.out hb')
  replace H1 := Lib.hid (H1.out.keep hb')
  replace H2 := Lib.hid (H2.out.keep hb')
  clear hb hb'
  have p0_0 : w3.cell? ⟨w.heap.size, 0, none⟩ = some (.int .i64 (sg x)) := K0.out.at.1 0
  have q0_0 : w3.frozen? ⟨w.heap.size, 0, none⟩ = false := K0.out.at.2 0
  have p0_1 : w3.cell? ⟨w.heap.size, 1, none⟩ = some (.slice a1 (ln x) c1) := K0.out.at.1 1
  have q0_1 : w3.frozen? ⟨w.heap.size, 1, none⟩ = false := K0.out.at.2 1
  have z0 : w.heap.size < w3.heap.size := K0.out.lt
  have p1_0 : w3.cell? ⟨w.heap.size + 1, 0, none⟩ = some (.int .i64 (sg y)) := K1.out.at.1 0
  have q1_0 : w3.frozen? ⟨w.heap.size + 1, 0, none⟩ = false := K1.out.at.2 0
  have p1_1 : w3.cell? ⟨w.heap.size + 1, 1, none⟩ = some (.slice a2 (ln y) c2) := K1.out.at.1 1
  have q1_1 : w3.frozen? ⟨w.heap.size + 1, 1, none⟩ = false := K1.out.at.2 1
  have z1 : w.heap.size + 1 < w3.heap.size := K1.out.lt
  have p2_0 : w3.cell? ⟨w.heap.size + 1 + 1, 0, none⟩ = some (.int .i64 0) := K2.out.at.1 0
  have q2_0 : w3.frozen? ⟨w.heap.size + 1 + 1, 0, none⟩ = false := K2.out.at.2 0
  have p2_1 : w3.cell? ⟨w.heap.size + 1 + 1, 1, none⟩ = some (.slice none 0 0) := K2.out.at.1 1
  have q2_1 : w3.frozen? ⟨w.heap.size + 1 + 1, 1, none⟩ = false := K2.out.at.2 1
  have z2 : w.heap.size + 1 + 1 < w3.heap.size := K2.out.lt
  rw [HLS.out]
  go_wp2_with fail
  clear p0_0 q0_0 p0_1 q0_1 z0 p1_0 q1_0 p1_1 q1_1 z1 p2_0 q2_0 p2_1 q2_1 z2
  have mk : Hid (∀ w', w3.grownBy w' (some (w.heap.size + 1 + 1)) → w'.cell? ⟨w.heap.size, 0, none⟩ = some (.int .i64 (sg x)) ∧ w'.cell? ⟨w.heap.size, 1, none⟩ = some (.slice a1 (ln x) c1) ∧ w'.cell? ⟨w.heap.size + 1, 0, none⟩ = some (.int .i64 (sg y)) ∧ w'.cell? ⟨w.heap.size + 1, 1, none⟩ = some (.slice a2 (ln y) c2) ∧ w3.grownBy w' (some (w.heap.size + 1 + 1))) := fun w' h => ⟨(K0.out.only h (by omega)).at.1 0, (K0.out.only h (by omega)).at.1 1, (K1.out.only h (by omega)).at.1 0, (K1.out.only h (by omega)).at.1 1, h⟩
  have hs0 : w3.grownBy w3.drew (some (w.heap.size + 1 + 1)) := only_start _ _
  have HS0 : Hid (Below w3.heap.size w3 w3.drew) := (Below.refl _ _).drew
  have tok0 : True := trivial
  have tok1 : True := trivial
  go_region_held3 (fun w' => w'.cell? ⟨w.heap.size, 0, none⟩ = some (.int .i64 (sg x)) ∧ w'.cell? ⟨w.heap.size, 1, none⟩ = some (.slice a1 (ln x) c1) ∧ w'.cell? ⟨w.heap.size + 1, 0, none⟩ = some (.int .i64 (sg y)) ∧ w'.cell? ⟨w.heap.size + 1, 1, none⟩ = some (.slice a2 (ln y) c2) ∧ w3.grownBy w' (some (w.heap.size + 1 + 1)))
    (first | exact mk.out _ (by assumption) | exact mk.out _ (only_setCell (only_setCell (by assumption) _) _) | exact mk.out _ (only_alloc (by assumption) _))
    (first
      | (go_at_call 75; have _t := tok0; refine (minus_is (H2.out.keep HS0.out) (H1.out.keep HS0.out) HY.out HLE.out).mono ?_; rintro e w4 ⟨a3, c3, rfl, ho3, hb⟩; clear tok0 _t; have hs1 := only_call hs0 hb; have HS1 := Lib.hid (below_call HS0.out hb); clear hb; have Ho3 := Lib.hid ho3; clear ho3)
      | (go_at_call 61; have _t := tok1; refine (made_own (G := G) (z := x + y) Ho3.out HM0.out HM1.out (fun _ => HM2.out)).mono ?_; rintro e w5 ⟨a4, c4, rfl, hd4, hb⟩; clear tok1 _t; have hs2 := only_call hs1 hb; have HS2 := Lib.hid (below_call HS1.out hb); have Ho3 := Lib.hid (Ho3.out.keep hb); clear hb; have Hd4 := Lib.hid hd4; clear hd4; obtain ⟨p2, q2⟩ := (K2.out.keep HS2.out).at))
  replace K0 := Lib.hid (K0.out.keep HS2.out)
  replace K1 := Lib.hid (K1.out.keep HS2.out)
  replace K2 := Lib.hid (K2.out.keep HS2.out)
  replace HB := Lib.hid (below_call HB.out HS2.out)
  replace H1 := Lib.hid (H1.out.keep HS2.out)
  replace H2 := Lib.hid (H2.out.keep HS2.out)
  clear mk hs0 HS0 hs1 HS1 hs2 HS2  p2 q2
  go_wp2_with fail
  refine bodyPost_ret (results_box2 rfl _ _ (w.heap.size + 1 + 1) 32 _ _ _ rfl (K2.out.set2 _ _) Try.underlying32 rfl (by kernel_rfl)) rfl ?_
  refine ⟨a4, c4, rfl, ?_, ?_⟩
  · exact (Hd4.out.far0 K2.out zb2 (only_setCell (only_setCell (World.grownBy.refl _ _) _) _))
  · exact (Below.setCell (Below.setCell HB.out (by simp; try omega) _) (by simp; try omega) _)

set_option maxHeartbeats 4000000 in
theorem radd_ge {x y : Int} {a1 a2 : Option Addr} {c1 c2 : Nat} {w : World} (h1 : BD G w a1 c1 x) (h2 : BD G w a2 c2 y) (hx : Sz x 549755813888) (hy : Sz y 549755813888) (hs : sg x * sg y < 0) (hle : y.natAbs ≤ x.natAbs) :
    Calls Try.prog 50 #[.agg #[.int .i64 (sg x), .slice a1 (ln x) c1], .agg #[.int .i64 (sg y), .slice a2 (ln y) c2]] w fun e w' => ∃ a c, e = .returned (.tuple #[.agg #[.int .i64 (sg (x + y)), .slice a (ln (x + y)) c], .int .i64 0]) ∧ BD G w' a c (x + y) ∧ Below w.heap.size w w' := by
  have HX := Lib.hid hx
  have H1 := Lib.hid h1
  have HY := Lib.hid hy
  have H2 := Lib.hid h2
  have hx0 : sg x ≠ 0 := by intro h; rw [h] at hs; simp at hs
  have hy0 : sg y ≠ 0 := by intro h; rw [h] at hs; simp at hs
  have hxy : sg x ≠ sg y := by intro h; rw [h] at hs; rcases sg_cases y with h' | h' | h' <;> rw [h'] at hs <;> simp at hs
  have t1 : (sg x == 0) = false := by rw [beq_eq_false_iff_ne]; exact hx0
  have t2 : (sg y == 0) = false := by rw [beq_eq_false_iff_ne]; exact hy0
  have t3 : (sg x == sg y) = false := by rw [beq_eq_false_iff_ne]; exact hxy
  have HLS : Hid (lessZ x y = false) := by show _ = _; rw [lessZ]; rw [decide_eq_false_iff_not]; omega
  have HLE : Hid (y.natAbs ≤ x.natAbs) := by show _ ≤ _; omega
  have HM0 : Hid (lnN (x.natAbs - y.natAbs) ≤ 8796093022208) := by show _ ≤ _; have := digs_len_mono (Nat.sub_le x.natAbs y.natAbs); unfold Sz at hx hy; unfold lnN; omega
  have hsg := sub_signs hs hle
  have HM1 : Hid (sg x * ((x.natAbs - y.natAbs : Nat) : Int) = x + y) := hsg.1
  have HM2 := Lib.hid hsg.2
  clear hx0 hy0 hxy hs hle hsg
  clear hx h1 hy h2

  go_enter Try.func50, Try.ntmps50
  go_wp2_with fail
  refine (rright_ok (x := x) (H1.out.keep (by go_grown)) (HX.out.mono (by omega))).mono ?_
  rintro e w1 ⟨rfl, hb⟩
  have hbx := bx3 w 32 32 32 #[.int .i64 (sg x), .slice a1 (ln x) c1] #[.int .i64 (sg y), .slice a2 (ln y) c2] #[.int .i64 0, .slice none 0 0]
  obtain ⟨k0, k1, k2⟩ := hbx
  have K0 := Lib.hid (k0.keep hb)
  have K1 := Lib.hid (k1.keep hb)
  have K2 := Lib.hid (k2.keep hb)
  clear k0 k1 k2
  have hb' : Below w.heap.size w w1 := below_call (by go_grown) hb
  have HB := Lib.hid hb'
  replace H1 := Lib.hid (H1.out.keep hb')
  replace H2 := Lib.hid (H2.out.keep hb')
  clear hb hb'
  have p0_0 : w1.cell? ⟨w.heap.size, 0, none⟩ = some (.int .i64 (sg x)) := K0.out.at.1 0
  have q0_0 : w1.frozen? ⟨w.heap.size, 0, none⟩ = false := K0.out.at.2 0
  have p0_1 : w1.cell? ⟨w.heap.size, 1, none⟩ = some (.slice a1 (ln x) c1) := K0.out.at.1 1
  have q0_1 : w1.frozen? ⟨w.heap.size, 1, none⟩ = false := K0.out.at.2 1
  have z0 : w.heap.size < w1.heap.size := K0.out.lt
  have p1_0 : w1.cell? ⟨w.heap.size + 1, 0, none⟩ = some (.int .i64 (sg y)) := K1.out.at.1 0
  have q1_0 : w1.frozen? ⟨w.heap.size + 1, 0, none⟩ = false := K1.out.at.2 0
  have p1_1 : w1.cell? ⟨w.heap.size + 1, 1, none⟩ = some (.slice a2 (ln y) c2) := K1.out.at.1 1
  have q1_1 : w1.frozen? ⟨w.heap.size + 1, 1, none⟩ = false := K1.out.at.2 1
  have z1 : w.heap.size + 1 < w1.heap.size := K1.out.lt
  have p2_0 : w1.cell? ⟨w.heap.size + 1 + 1, 0, none⟩ = some (.int .i64 0) := K2.out.at.1 0
  have q2_0 : w1.frozen? ⟨w.heap.size + 1 + 1, 0, none⟩ = false := K2.out.at.2 0
  have p2_1 : w1.cell? ⟨w.heap.size + 1 + 1, 1, none⟩ = some (.slice none 0 0) := K2.out.at.1 1
  have q2_1 : w1.frozen? ⟨w.heap.size + 1 + 1, 1, none⟩ = false := K2.out.at.2 1
  have z2 : w.heap.size + 1 + 1 < w1.heap.size := K2.out.lt
  go_wp2_with fail
  refine (rright_ok (x := y) (H2.out.keep (by go_grown)) (HY.out.mono (by omega))).mono ?_
  rintro e w2 ⟨rfl, hb⟩
  clear p0_0 q0_0 p0_1 q0_1 z0 p1_0 q1_0 p1_1 q1_1 z1 p2_0 q2_0 p2_1 q2_1 z2
  have hb' := below_call (w1 := w1) (by go_grown) hb
  replace K0 := Lib.hid (K0.out.keep hb')
  replace K1 := Lib.hid (K1.out.keep hb')
  replace K2 := Lib.hid (K2.out.keep hb')
  replace HB := Lib.hid (below_call HB.out hb')
  replace H1 := Lib.hid (H1.out.keep hb')
  replace H2 := Lib.hid (H2.out.keep hb')
  clear hb hb'
  have p0_0 : w2.cell? ⟨w.heap.size, 0, none⟩ = some (.int .i64 (sg x)) := K0.out.at.1 0
  have q0_0 : w2.frozen? ⟨w.heap.size, 0, none⟩ = false := K0.out.at.2 0
  have p0_1 : w2.cell? ⟨w.heap.size, 1, none⟩ = some (.slice a1 (ln x) c1) := K0.out.at.1 1
  have q0_1 : w2.frozen? ⟨w.heap.size, 1, none⟩ = false := K0.out.at.2 1
  have z0 : w.heap.size < w2.heap.size := K0.out.lt
  have p1_0 : w2.cell? ⟨w.heap.size + 1, 0, none⟩ = some (.int .i64 (sg y)) := K1.out.at.1 0
  have q1_0 : w2.frozen? ⟨w.heap.size + 1, 0, none⟩ = false := K1.out.at.2 0
  have p1_1 : w2.cell? ⟨w.heap.size + 1, 1, none⟩ = some (.slice a2 (ln y) c2) := K1.out.at.1 1
  have q1_1 : w2.frozen? ⟨w.heap.size + 1, 1, none⟩ = false := K1.out.at.2 1
  have z1 : w.heap.size + 1 < w2.heap.size := K1.out.lt
  have p2_0 : w2.cell? ⟨w.heap.size + 1 + 1, 0, none⟩ = some (.int .i64 0) := K2.out.at.1 0
  have q2_0 : w2.frozen? ⟨w.heap.size + 1 + 1, 0, none⟩ = false := K2.out.at.2 0
  have p2_1 : w2.cell? ⟨w.heap.size + 1 + 1, 1, none⟩ = some (.slice none 0 0) := K2.out.at.1 1
  have q2_1 : w2.frozen? ⟨w.heap.size + 1 + 1, 1, none⟩ = false := K2.out.at.2 1
  have z2 : w.heap.size + 1 + 1 < w2.heap.size := K2.out.lt
  go_wp2_with fail
  refine (less_is (H1.out.keep (by go_grown)) (H2.out.keep (by go_grown)) HX.out HY.out).mono ?_
  rintro e w3 ⟨rfl, hb⟩
  clear p0_0 q0_0 p0_1 q0_1 z0 p1_0 q1_0 p1_1 q1_1 z1 p2_0 q2_0 p2_1 q2_1 z2
  have hb' := below_call (w1 := w2) (by go_grown) hb
  replace K0 := Lib.hid (K0.out.keep hb')
  replace K1 := Lib.hid (K1.out.keep hb')
  replace K2 := Lib.hid (K2.out.keep hb')
  replace HB := Lib.hid (below_call HB.out hb')
  replace H1 := Lib.hid (H1.out.keep hb')
  replace H2 := Lib.hid (H2.out.keep hb')
  clear hb hb'
  have p0_0 : w3.cell? ⟨w.heap.size, 0, none⟩ = some (.int .i64 (sg x)) := K0.out.at.1 0
  have q0_0 : w3.frozen? ⟨w.heap.size, 0, none⟩ = false := K0.out.at.2 0
  have p0_1 : w3.cell? ⟨w.heap.size, 1, none⟩ = some (.slice a1 (ln x) c1) := K0.out.at.1 1
  have q0_1 : w3.frozen? ⟨w.heap.size, 1, none⟩ = false := K0.out.at.2 1
  have z0 : w.heap.size < w3.heap.size := K0.out.lt
  have p1_0 : w3.cell? ⟨w.heap.size + 1, 0, none⟩ = some (.int .i64 (sg y)) := K1.out.at.1 0
  have q1_0 : w3.frozen? ⟨w.heap.size + 1, 0, none⟩ = false := K1.out.at.2 0
  have p1_1 : w3.cell? ⟨w.heap.size + 1, 1, none⟩ = some (.slice a2 (ln y) c2) := K1.out.at.1 1
  have q1_1 : w3.frozen? ⟨w.heap.size + 1, 1, none⟩ = false := K1.out.at.2 1
  have z1 : w.heap.size + 1 < w3.heap.size := K1.out.lt
  have p2_0 : w3.cell? ⟨w.heap.size + 1 + 1, 0, none⟩ = some (.int .i64 0) := K2.out.at.1 0
  have q2_0 : w3.frozen? ⟨w.heap.size + 1 + 1, 0, none⟩ = false := K2.out.at.2 0
  have p2_1 : w3.cell? ⟨w.heap.size + 1 + 1, 1, none⟩ = some (.slice none 0 0) := K2.out.at.1 1
  have q2_1 : w3.frozen? ⟨w.heap.size + 1 + 1, 1, none⟩ = false := K2.out.at.2 1
  have z2 : w.heap.size + 1 + 1 < w3.heap.size := K2.out.lt
  rw [HLS.out]
  go_wp2_with fail
  clear p0_0 q0_0 p0_1 q0_1 z0 p1_0 q1_0 p1_1 q1_1 z1 p2_0 q2_0 p2_1 q2_1 z2
  have mk : Hid (∀ w', w3.grownBy w' (some (w.heap.size + 1 + 1)) → w'.cell? ⟨w.heap.size, 0, none⟩ = some (.int .i64 (sg x)) ∧ w'.cell? ⟨w.heap.size, 1, none⟩ = some (.slice a1 (ln x) c1) ∧ w'.cell? ⟨w.heap.size + 1, 0, none⟩ = some (.int .i64 (sg y)) ∧ w'.cell? ⟨w.heap.size + 1, 1, none⟩ = some (.slice a2 (ln y) c2) ∧ w3.grownBy w' (some (w.heap.size + 1 + 1))) := fun w' h => ⟨(K0.out.only h (by omega)).at.1 0, (K0.out.only h (by omega)).at.1 1, (K1.out.only h (by omega)).at.1 0, (K1.out.only h (by omega)).at.1 1, h⟩
  have hs0 : w3.grownBy w3.drew (some (w.heap.size + 1 + 1)) := only_start _ _
  have HS0 : Hid (Below w3.heap.size w3 w3.drew) := (Below.refl _ _).drew
  have tok0 : True := trivial
  have tok1 : True := trivial
  go_region_held3 (fun w' => w'.cell? ⟨w.heap.size, 0, none⟩ = some (.int .i64 (sg x)) ∧ w'.cell? ⟨w.heap.size, 1, none⟩ = some (.slice a1 (ln x) c1) ∧ w'.cell? ⟨w.heap.size + 1, 0, none⟩ = some (.int .i64 (sg y)) ∧ w'.cell? ⟨w.heap.size + 1, 1, none⟩ = some (.slice a2 (ln y) c2) ∧ w3.grownBy w' (some (w.heap.size + 1 + 1)))
    (first | exact mk.out _ (by assumption) | exact mk.out _ (only_setCell (only_setCell (by assumption) _) _) | exact mk.out _ (only_alloc (by assumption) _))
    (first
      | (go_at_call 75; have _t := tok0; refine (minus_is (H1.out.keep HS0.out) (H2.out.keep HS0.out) HX.out HLE.out).mono ?_; rintro e w4 ⟨a3, c3, rfl, ho3, hb⟩; clear tok0 _t; have hs1 := only_call hs0 hb; have HS1 := Lib.hid (below_call HS0.out hb); clear hb; have Ho3 := Lib.hid ho3; clear ho3)
      | (go_at_call 61; have _t := tok1; refine (made_own (G := G) (z := x + y) Ho3.out HM0.out HM1.out (fun _ => HM2.out)).mono ?_; rintro e w5 ⟨a4, c4, rfl, hd4, hb⟩; clear tok1 _t; have hs2 := only_call hs1 hb; have HS2 := Lib.hid (below_call HS1.out hb); have Ho3 := Lib.hid (Ho3.out.keep hb); clear hb; have Hd4 := Lib.hid hd4; clear hd4; obtain ⟨p2, q2⟩ := (K2.out.keep HS2.out).at))
  replace K0 := Lib.hid (K0.out.keep HS2.out)
  replace K1 := Lib.hid (K1.out.keep HS2.out)
  replace K2 := Lib.hid (K2.out.keep HS2.out)
  replace HB := Lib.hid (below_call HB.out HS2.out)
  replace H1 := Lib.hid (H1.out.keep HS2.out)
  replace H2 := Lib.hid (H2.out.keep HS2.out)
  clear mk hs0 HS0 hs1 HS1 hs2 HS2  p2 q2
  go_wp2_with fail
  refine bodyPost_ret (results_box2 rfl _ _ (w.heap.size + 1 + 1) 32 _ _ _ rfl (K2.out.set2 _ _) Try.underlying32 rfl (by kernel_rfl)) rfl ?_
  refine ⟨a4, c4, rfl, ?_, ?_⟩
  · exact (Hd4.out.far0 K2.out zb2 (only_setCell (only_setCell (World.grownBy.refl _ _) _) _))
  · exact (Below.setCell (Below.setCell HB.out (by simp; try omega) _) (by simp; try omega) _)

theorem radd_ok {x y : Int} {a1 a2 : Option Addr} {c1 c2 : Nat} {w : World} (h1 : BD G w a1 c1 x) (h2 : BD G w a2 c2 y) (hx : Sz x 549755813888) (hy : Sz y 549755813888) :
    Calls Try.prog 50 #[.agg #[.int .i64 (sg x), .slice a1 (ln x) c1], .agg #[.int .i64 (sg y), .slice a2 (ln y) c2]] w fun e w' => ∃ a c, e = .returned (.tuple #[.agg #[.int .i64 (sg (x + y)), .slice a (ln (x + y)) c], .int .i64 0]) ∧ BD G w' a c (x + y) ∧ Below w.heap.size w w' := by
  by_cases h : sg x * sg y < 0
  · rcases Nat.lt_or_ge x.natAbs y.natAbs with h' | h'
    · exact radd_lt h1 h2 hx hy h h'
    · exact radd_ge h1 h2 hx hy h h'
  · by_cases hx0 : sg x = 0
    · exact radd_x0 h1 h2 hx hy hx0
    · by_cases hy0 : sg y = 0
      · exact radd_y0 h1 h2 hx hy ⟨hx0, hy0⟩
      · refine radd_eq h1 h2 hx hy ⟨hx0, hy0, ?_⟩
        rcases sg_cases x with h3 | h3 | h3 <;> rcases sg_cases y with h4 | h4 | h4 <;> rw [h3, h4] at h <;> omega

end Go.Proofs.Ytpjpkcelajbfnaa
