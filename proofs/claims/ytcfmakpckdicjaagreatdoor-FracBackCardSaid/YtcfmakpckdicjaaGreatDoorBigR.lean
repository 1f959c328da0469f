/- Walks: the greatest common divisor; ints. -/
import Derived.Test.YtcfmakpckdicjaaGreatDoorBigQ
import Derived.Deep.LoopGhost
namespace Go.Proofs.YtcfmakpckdicjaaGreatDoor
open Go.RowKit
variable {G : Nat}

theorem bigdiv_nat {m n : Nat} {a1 a2 : Option Addr} {c1 c2 : Nat} {w : World} (h1 : RdN w (.slice a1 (lnN m) c1) (digs m)) (h2 : RdN w (.slice a2 (lnN n) c2) (digs n)) (hm : lnN m ≤ 549755813888) (hn : lnN n ≤ 549755813888) (h0 : n ≠ 0) {q r : Nat} (hq : m / n = q) (hr : m % n = r) :
    Calls Tryz.prog 93 #[.slice a1 (lnN m) c1, .slice a2 (lnN n) c2] w fun e w' => ∃ a c b d, e = .returned (.tuple #[.slice a (lnN q) c, .slice b (lnN r) d]) ∧ OwnN w' w.heap.size (.slice a (lnN q) c) (digs q) ∧ OwnN w' w.heap.size (.slice b (lnN r) d) (digs r) ∧ Below w.heap.size w w' :=
  (bigDiv_any _ _ _ _ w h1 h2 (by omega) (by unfold lnN at hm; omega) (by unfold lnN at hn; omega)).mono fun e w' ⟨v, r', he, h3, h4, hb⟩ => by
    rw [hq] at h3
    rw [hr] at h4
    obtain ⟨a, c, rfl⟩ := h3.slice
    obtain ⟨b, d, rfl⟩ := h4.slice
    exact ⟨a, c, b, d, he, h3, h4, hb⟩
theorem clone_is {n : Nat} {a : Option Addr} {c : Nat} {w : World} (h : RdN w (.slice a (lnN n) c) (digs n)) (hn : lnN n ≤ 549755813888) :
    Calls Tryz.prog 82 #[.slice a (lnN n) c] w fun e w' => ∃ b d, e = .returned (.slice b (lnN n) d) ∧ OwnN w' w.heap.size (.slice b (lnN n) d) (digs n) ∧ Below w.heap.size w w' :=
  (clone_any _ _ w h (by unfold lnN at hn; omega)).mono fun e w' ⟨v, he, ho, hb⟩ => by
    obtain ⟨b, d, rfl⟩ := ho.slice
    exact ⟨b, d, he, ho, hb⟩
theorem ln_eq (x : Int) : ln x = lnN x.natAbs := rfl

set_option maxHeartbeats 4000000 in
theorem bigGcd_ok {x y : Int} {a1 a2 : Option Addr} {c1 c2 : Nat} {w : World} (h1 : BD G w a1 c1 x) (h2 : BD G w a2 c2 y) (hx : Sz x 549755813888) (hy : Sz y 549755813888) :
    Calls Tryz.prog 61 #[.agg #[.int .i64 (sg x), .slice a1 (ln x) c1], .agg #[.int .i64 (sg y), .slice a2 (ln y) c2]] w fun e w' => ∃ a c, e = .returned (.tuple #[.agg #[.int .i64 (sg (Nat.gcd x.natAbs y.natAbs)), .slice a (ln (Nat.gcd x.natAbs y.natAbs)) c], .int .i64 0]) ∧ BD G w' a c (Nat.gcd x.natAbs y.natAbs) ∧ Below w.heap.size w w' := by
  have HX := Lib.hid hx
  have HY := Lib.hid hy
  have H1 := Lib.hid h1
  have H2 := Lib.hid h2
  clear hx hy h1 h2

  go_enter Tryz.func61, Tryz.ntmps61
  go_wp2_with fail
  refine (bigRight_ok (z := x) (H1.out.keep (by go_grown)) (HX.out.mono (by omega))).mono ?_
  rintro e w1 ⟨rfl, hb⟩
  have hbx := bx3 w 24 24 24 #[.int .i64 (sg x), .slice a1 (ln x) c1] #[.int .i64 (sg y), .slice a2 (ln y) c2] #[.int .i64 0, .slice none 0 0]
  obtain ⟨k0, k1, k2⟩ := hbx
  have K0 := Lib.hid (k0.keep hb)
  have K1 := Lib.hid (k1.keep hb)
  have K2 := Lib.hid (k2.keep hb)
  clear k0 k1 k2
  have hb' : Below w.heap.size w w1 := below_call (by go_grown) hb
  have HB := Lib.hid hb'
  replace H1 := Lib.hid (H1.out.keep hb')
  replace H2 := Lib.hid (H2.out.keep hb')
  clear hb hb'
  have p0_0 : w1.cell? ⟨w.heap.size, 0, none⟩ = some (.int .i64 (sg x)) := K0.out.at.1 0
  have q0_0 : w1.frozen? ⟨w.heap.size, 0, none⟩ = false := K0.out.at.2 0
  have p0_1 : w1.cell? ⟨w.heap.size, 1, none⟩ = some (.slice a1 (ln x) c1) := K0.out.at.1 1
  have q0_1 : w1.frozen? ⟨w.heap.size, 1, none⟩ = false := K0.out.at.2 1
  have z0 : w.heap.size < w1.heap.size := K0.out.lt
  have p1_0 : w1.cell? ⟨w.heap.size + 1, 0, none⟩ = some (.int .i64 (sg y)) := K1.out.at.1 0
  have q1_0 : w1.frozen? ⟨w.heap.size + 1, 0, none⟩ = false := K1.out.at.2 0
  have p1_1 : w1.cell? ⟨w.heap.size + 1, 1, none⟩ = some (.slice a2 (ln y) c2) := K1.out.at.1 1
  have q1_1 : w1.frozen? ⟨w.heap.size + 1, 1, none⟩ = false := K1.out.at.2 1
  have z1 : w.heap.size + 1 < w1.heap.size := K1.out.lt
  have p2_0 : w1.cell? ⟨w.heap.size + 1 + 1, 0, none⟩ = some (.int .i64 0) := K2.out.at.1 0
  have q2_0 : w1.frozen? ⟨w.heap.size + 1 + 1, 0, none⟩ = false := K2.out.at.2 0
  have p2_1 : w1.cell? ⟨w.heap.size + 1 + 1, 1, none⟩ = some (.slice none 0 0) := K2.out.at.1 1
  have q2_1 : w1.frozen? ⟨w.heap.size + 1 + 1, 1, none⟩ = false := K2.out.at.2 1
  have z2 : w.heap.size + 1 + 1 < w1.heap.size := K2.out.lt
  go_wp2_with fail
  refine (bigRight_ok (z := y) (H2.out.keep (by go_grown)) (HY.out.mono (by omega))).mono ?_
  rintro e w2 ⟨rfl, hb⟩
  clear p0_0 q0_0 p0_1 q0_1 z0 p1_0 q1_0 p1_1 q1_1 z1 p2_0 q2_0 p2_1 q2_1 z2
  have hb' := below_call (w1 := w1) (by go_grown) hb
  replace K0 := Lib.hid (K0.out.keep hb')
  replace K1 := Lib.hid (K1.out.keep hb')
  replace K2 := Lib.hid (K2.out.keep hb')
  replace HB := Lib.hid (below_call HB.out hb')
  replace H1 := Lib.hid (H1.out.keep hb')
  replace H2 := Lib.hid (H2.out.keep hb')
  clear hb hb'
  have p0_0 : w2.cell? ⟨w.heap.size, 0, none⟩ = some (.int .i64 (sg x)) := K0.out.at.1 0
  have q0_0 : w2.frozen? ⟨w.heap.size, 0, none⟩ = false := K0.out.at.2 0
  have p0_1 : w2.cell? ⟨w.heap.size, 1, none⟩ = some (.slice a1 (ln x) c1) := K0.out.at.1 1
  have q0_1 : w2.frozen? ⟨w.heap.size, 1, none⟩ = false := K0.out.at.2 1
  have z0 : w.heap.size < w2.heap.size := K0.out.lt
  have p1_0 : w2.cell? ⟨w.heap.size + 1, 0, none⟩ = some (.int .i64 (sg y)) := K1.out.at.1 0
  have q1_0 : w2.frozen? ⟨w.heap.size + 1, 0, none⟩ = false := K1.out.at.2 0
  have p1_1 : w2.cell? ⟨w.heap.size + 1, 1, none⟩ = some (.slice a2 (ln y) c2) := K1.out.at.1 1
  have q1_1 : w2.frozen? ⟨w.heap.size + 1, 1, none⟩ = false := K1.out.at.2 1
  have z1 : w.heap.size + 1 < w2.heap.size := K1.out.lt
  have p2_0 : w2.cell? ⟨w.heap.size + 1 + 1, 0, none⟩ = some (.int .i64 0) := K2.out.at.1 0
  have q2_0 : w2.frozen? ⟨w.heap.size + 1 + 1, 0, none⟩ = false := K2.out.at.2 0
  have p2_1 : w2.cell? ⟨w.heap.size + 1 + 1, 1, none⟩ = some (.slice none 0 0) := K2.out.at.1 1
  have q2_1 : w2.frozen? ⟨w.heap.size + 1 + 1, 1, none⟩ = false := K2.out.at.2 1
  have z2 : w.heap.size + 1 + 1 < w2.heap.size := K2.out.lt
  go_wp2_with fail
  clear p0_0 q0_0 p0_1 q0_1 z0 p1_0 q1_0 p1_1 q1_1 z1 p2_0 q2_0 p2_1 q2_1 z2
  have mk : Hid (∀ w', Below w2.heap.size w2 w' → w'.cell? ⟨w.heap.size, 0, none⟩ = some (.int .i64 (sg x)) ∧ w'.cell? ⟨w.heap.size, 1, none⟩ = some (.slice a1 (ln x) c1) ∧ w'.cell? ⟨w.heap.size + 1, 0, none⟩ = some (.int .i64 (sg y)) ∧ w'.cell? ⟨w.heap.size + 1, 1, none⟩ = some (.slice a2 (ln y) c2) ∧ Below w2.heap.size w2 w') := fun w' h => ⟨(K0.out.keep h).at.1 0, (K0.out.keep h).at.1 1, (K1.out.keep h).at.1 0, (K1.out.keep h).at.1 1, h⟩
  have hs0 : Below w2.heap.size w2 w2.drew := (Below.refl _ _).drew
  have HS0 : Hid (Below w2.heap.size w2 w2.drew) := (Below.refl _ _).drew
  have tok0 : True := trivial
  go_region_held3 (fun w' => w'.cell? ⟨w.heap.size, 0, none⟩ = some (.int .i64 (sg x)) ∧ w'.cell? ⟨w.heap.size, 1, none⟩ = some (.slice a1 (ln x) c1) ∧ w'.cell? ⟨w.heap.size + 1, 0, none⟩ = some (.int .i64 (sg y)) ∧ w'.cell? ⟨w.heap.size + 1, 1, none⟩ = some (.slice a2 (ln y) c2) ∧ Below w2.heap.size w2 w')
    (first | exact mk.out _ (by assumption) | exact mk.out _ (Below.alloc (by assumption) (Below.size (by assumption)) _))
    (first
      | (go_at_call 82; have _t := tok0; refine (clone_is (n := x.natAbs) (H1.out.keep HS0.out).rd HX.out).mono ?_; rintro e w3 ⟨a3, c3, rfl, ho3, hb⟩; clear tok0 _t; have hs1 := below_call hs0 hb; have HS1 := Lib.hid (below_call HS0.out hb); clear hb; have Ho3 := Lib.hid ho3; clear ho3))
  replace K0 := Lib.hid (K0.out.keep HS1.out)
  replace K1 := Lib.hid (K1.out.keep HS1.out)
  replace K2 := Lib.hid (K2.out.keep HS1.out)
  replace HB := Lib.hid (below_call HB.out HS1.out)
  replace H1 := Lib.hid (H1.out.keep HS1.out)
  replace H2 := Lib.hid (H2.out.keep HS1.out)
  clear mk hs0 HS0 hs1 HS1
  have p0_0 : w3.cell? ⟨w.heap.size, 0, none⟩ = some (.int .i64 (sg x)) := K0.out.at.1 0
  have q0_0 : w3.frozen? ⟨w.heap.size, 0, none⟩ = false := K0.out.at.2 0
  have p0_1 : w3.cell? ⟨w.heap.size, 1, none⟩ = some (.slice a1 (ln x) c1) := K0.out.at.1 1
  have q0_1 : w3.frozen? ⟨w.heap.size, 1, none⟩ = false := K0.out.at.2 1
  have z0 : w.heap.size < w3.heap.size := K0.out.lt
  have p1_0 : w3.cell? ⟨w.heap.size + 1, 0, none⟩ = some (.int .i64 (sg y)) := K1.out.at.1 0
  have q1_0 : w3.frozen? ⟨w.heap.size + 1, 0, none⟩ = false := K1.out.at.2 0
  have p1_1 : w3.cell? ⟨w.heap.size + 1, 1, none⟩ = some (.slice a2 (ln y) c2) := K1.out.at.1 1
  have q1_1 : w3.frozen? ⟨w.heap.size + 1, 1, none⟩ = false := K1.out.at.2 1
  have z1 : w.heap.size + 1 < w3.heap.size := K1.out.lt
  have p2_0 : w3.cell? ⟨w.heap.size + 1 + 1, 0, none⟩ = some (.int .i64 0) := K2.out.at.1 0
  have q2_0 : w3.frozen? ⟨w.heap.size + 1 + 1, 0, none⟩ = false := K2.out.at.2 0
  have p2_1 : w3.cell? ⟨w.heap.size + 1 + 1, 1, none⟩ = some (.slice none 0 0) := K2.out.at.1 1
  have q2_1 : w3.frozen? ⟨w.heap.size + 1 + 1, 1, none⟩ = false := K2.out.at.2 1
  have z2 : w.heap.size + 1 + 1 < w3.heap.size := K2.out.lt
  go_wp2_with fail
  clear p0_0 q0_0 p0_1 q0_1 z0 p1_0 q1_0 p1_1 q1_1 z1 p2_0 q2_0 p2_1 q2_1 z2
  rw [ln_eq y]
  go_loopg [6, 7] y.natAbs (fun k v6 v7 wr => ∃ (m : Nat) (ax : Option Addr) (cx : Nat) (ay : Option Addr) (cy : Nat), v6 = .slice ax (lnN m) cx ∧ v7 = .slice ay (lnN k) cy ∧ Hid (Nat.gcd m k = Nat.gcd x.natAbs y.natAbs) ∧ Hid (RdN wr (.slice ax (lnN m) cx) (digs m)) ∧ Hid (RdN wr (.slice ay (lnN k) cy) (digs k)) ∧ Hid (lnN m ≤ 549755813888 ∧ lnN k ≤ 549755813888) ∧ Hid (Below w3.heap.size w3 wr))
  case atStart => exact ⟨x.natAbs, _, _, _, _, rfl, rfl, rfl, Ho3.out.rd, H2.out.rd, ⟨HX.out, HY.out⟩, Below.refl _ _⟩
  case round =>
    obtain ⟨m, ax, cx, ay, cy, rfl, rfl, HG, HA, HC, HL, HW⟩ := hrel
    by_cases h0 : gk = 0
    · have e1 : decide (0 < lnN gk) = false := by rw [h0]; rfl
      have HM : Hid (m = Nat.gcd x.natAbs y.natAbs) := by show _ = _; rw [← HG.out, h0, Nat.gcd_zero_right]
      clear h0
      go_wp2_with fail
      replace K0 := Lib.hid (K0.out.keep HW.out)
      replace K1 := Lib.hid (K1.out.keep HW.out)
      replace K2 := Lib.hid (K2.out.keep HW.out)
      replace HB := Lib.hid (below_call HB.out HW.out)
      have p0_0 : wr.cell? ⟨w.heap.size, 0, none⟩ = some (.int .i64 (sg x)) := K0.out.at.1 0
      have q0_0 : wr.frozen? ⟨w.heap.size, 0, none⟩ = false := K0.out.at.2 0
      have p0_1 : wr.cell? ⟨w.heap.size, 1, none⟩ = some (.slice a1 (ln x) c1) := K0.out.at.1 1
      have q0_1 : wr.frozen? ⟨w.heap.size, 1, none⟩ = false := K0.out.at.2 1
      have z0 : w.heap.size < wr.heap.size := K0.out.lt
      have p1_0 : wr.cell? ⟨w.heap.size + 1, 0, none⟩ = some (.int .i64 (sg y)) := K1.out.at.1 0
      have q1_0 : wr.frozen? ⟨w.heap.size + 1, 0, none⟩ = false := K1.out.at.2 0
      have p1_1 : wr.cell? ⟨w.heap.size + 1, 1, none⟩ = some (.slice a2 (ln y) c2) := K1.out.at.1 1
      have q1_1 : wr.frozen? ⟨w.heap.size + 1, 1, none⟩ = false := K1.out.at.2 1
      have z1 : w.heap.size + 1 < wr.heap.size := K1.out.lt
      have p2_0 : wr.cell? ⟨w.heap.size + 1 + 1, 0, none⟩ = some (.int .i64 0) := K2.out.at.1 0
      have q2_0 : wr.frozen? ⟨w.heap.size + 1 + 1, 0, none⟩ = false := K2.out.at.2 0
      have p2_1 : wr.cell? ⟨w.heap.size + 1 + 1, 1, none⟩ = some (.slice none 0 0) := K2.out.at.1 1
      have q2_1 : wr.frozen? ⟨w.heap.size + 1 + 1, 1, none⟩ = false := K2.out.at.2 1
      have z2 : w.heap.size + 1 + 1 < wr.heap.size := K2.out.lt
      refine (clone_is (n := m) (HA.out.keep (by go_grown)) HL.out.1).mono ?_
      rintro e w4 ⟨a5, c5, rfl, ho5, hb⟩
      clear p0_0 q0_0 p0_1 q0_1 z0 p1_0 q1_0 p1_1 q1_1 z1 p2_0 q2_0 p2_1 q2_1 z2
      have hb' := below_call (w1 := wr) (by go_grown) hb
      replace K0 := Lib.hid (K0.out.keep hb')
      replace K1 := Lib.hid (K1.out.keep hb')
      replace K2 := Lib.hid (K2.out.keep hb')
      replace HB := Lib.hid (below_call HB.out hb')
      replace HA := Lib.hid (HA.out.keep hb')
      clear hb hb'
      have Ho5 := Lib.hid ho5; clear ho5
      have p0_0 : w4.cell? ⟨w.heap.size, 0, none⟩ = some (.int .i64 (sg x)) := K0.out.at.1 0
      have q0_0 : w4.frozen? ⟨w.heap.size, 0, none⟩ = false := K0.out.at.2 0
      have p0_1 : w4.cell? ⟨w.heap.size, 1, none⟩ = some (.slice a1 (ln x) c1) := K0.out.at.1 1
      have q0_1 : w4.frozen? ⟨w.heap.size, 1, none⟩ = false := K0.out.at.2 1
      have z0 : w.heap.size < w4.heap.size := K0.out.lt
      have p1_0 : w4.cell? ⟨w.heap.size + 1, 0, none⟩ = some (.int .i64 (sg y)) := K1.out.at.1 0
      have q1_0 : w4.frozen? ⟨w.heap.size + 1, 0, none⟩ = false := K1.out.at.2 0
      have p1_1 : w4.cell? ⟨w.heap.size + 1, 1, none⟩ = some (.slice a2 (ln y) c2) := K1.out.at.1 1
      have q1_1 : w4.frozen? ⟨w.heap.size + 1, 1, none⟩ = false := K1.out.at.2 1
      have z1 : w.heap.size + 1 < w4.heap.size := K1.out.lt
      have p2_0 : w4.cell? ⟨w.heap.size + 1 + 1, 0, none⟩ = some (.int .i64 0) := K2.out.at.1 0
      have q2_0 : w4.frozen? ⟨w.heap.size + 1 + 1, 0, none⟩ = false := K2.out.at.2 0
      have p2_1 : w4.cell? ⟨w.heap.size + 1 + 1, 1, none⟩ = some (.slice none 0 0) := K2.out.at.1 1
      have q2_1 : w4.frozen? ⟨w.heap.size + 1 + 1, 1, none⟩ = false := K2.out.at.2 1
      have z2 : w.heap.size + 1 + 1 < w4.heap.size := K2.out.lt
      go_wp2_with fail
      refine (signed_is (G := G) (z := (m : Int)) (n := m) (Ho5.out.keep (by go_grown)) (by have := HL.out.1; unfold lnN at this; omega) (Int.one_mul _) (fun _ => .inl rfl)).mono ?_
      rintro e w5 ⟨a6, c6, rfl, hd6, hb⟩
      clear p0_0 q0_0 p0_1 q0_1 z0 p1_0 q1_0 p1_1 q1_1 z1 p2_0 q2_0 p2_1 q2_1 z2
      have hb' := below_call (w1 := w4) (by go_grown) hb
      replace K0 := Lib.hid (K0.out.keep hb')
      replace K1 := Lib.hid (K1.out.keep hb')
      replace K2 := Lib.hid (K2.out.keep hb')
      replace HB := Lib.hid (below_call HB.out hb')
      replace HA := Lib.hid (HA.out.keep hb')
      replace Ho5 := Lib.hid (Ho5.out.keep hb')
      clear hb hb'
      have Hd6 := Lib.hid hd6; clear hd6
      have p0_0 : w5.cell? ⟨w.heap.size, 0, none⟩ = some (.int .i64 (sg x)) := K0.out.at.1 0
      have q0_0 : w5.frozen? ⟨w.heap.size, 0, none⟩ = false := K0.out.at.2 0
      have p0_1 : w5.cell? ⟨w.heap.size, 1, none⟩ = some (.slice a1 (ln x) c1) := K0.out.at.1 1
      have q0_1 : w5.frozen? ⟨w.heap.size, 1, none⟩ = false := K0.out.at.2 1
      have z0 : w.heap.size < w5.heap.size := K0.out.lt
      have p1_0 : w5.cell? ⟨w.heap.size + 1, 0, none⟩ = some (.int .i64 (sg y)) := K1.out.at.1 0
      have q1_0 : w5.frozen? ⟨w.heap.size + 1, 0, none⟩ = false := K1.out.at.2 0
      have p1_1 : w5.cell? ⟨w.heap.size + 1, 1, none⟩ = some (.slice a2 (ln y) c2) := K1.out.at.1 1
      have q1_1 : w5.frozen? ⟨w.heap.size + 1, 1, none⟩ = false := K1.out.at.2 1
      have z1 : w.heap.size + 1 < w5.heap.size := K1.out.lt
      have p2_0 : w5.cell? ⟨w.heap.size + 1 + 1, 0, none⟩ = some (.int .i64 0) := K2.out.at.1 0
      have q2_0 : w5.frozen? ⟨w.heap.size + 1 + 1, 0, none⟩ = false := K2.out.at.2 0
      have p2_1 : w5.cell? ⟨w.heap.size + 1 + 1, 1, none⟩ = some (.slice none 0 0) := K2.out.at.1 1
      have q2_1 : w5.frozen? ⟨w.heap.size + 1 + 1, 1, none⟩ = false := K2.out.at.2 1
      have z2 : w.heap.size + 1 + 1 < w5.heap.size := K2.out.lt
      go_wp2_with fail
      refine (checked_yes _).mono ?_
      rintro e w6 ⟨rfl, hb⟩
      clear p0_0 q0_0 p0_1 q0_1 z0 p1_0 q1_0 p1_1 q1_1 z1 p2_0 q2_0 p2_1 q2_1 z2
      have hb' := below_call (w1 := w5) (by go_grown) hb
      replace K0 := Lib.hid (K0.out.keep hb')
      replace K1 := Lib.hid (K1.out.keep hb')
      replace K2 := Lib.hid (K2.out.keep hb')
      replace HB := Lib.hid (below_call HB.out hb')
      replace HA := Lib.hid (HA.out.keep hb')
      replace Ho5 := Lib.hid (Ho5.out.keep hb')
      replace Hd6 := Lib.hid (Hd6.out.keep hb')
      clear hb hb'
      have p0_0 : w6.cell? ⟨w.heap.size, 0, none⟩ = some (.int .i64 (sg x)) := K0.out.at.1 0
      have q0_0 : w6.frozen? ⟨w.heap.size, 0, none⟩ = false := K0.out.at.2 0
      have p0_1 : w6.cell? ⟨w.heap.size, 1, none⟩ = some (.slice a1 (ln x) c1) := K0.out.at.1 1
      have q0_1 : w6.frozen? ⟨w.heap.size, 1, none⟩ = false := K0.out.at.2 1
      have z0 : w.heap.size < w6.heap.size := K0.out.lt
      have p1_0 : w6.cell? ⟨w.heap.size + 1, 0, none⟩ = some (.int .i64 (sg y)) := K1.out.at.1 0
      have q1_0 : w6.frozen? ⟨w.heap.size + 1, 0, none⟩ = false := K1.out.at.2 0
      have p1_1 : w6.cell? ⟨w.heap.size + 1, 1, none⟩ = some (.slice a2 (ln y) c2) := K1.out.at.1 1
      have q1_1 : w6.frozen? ⟨w.heap.size + 1, 1, none⟩ = false := K1.out.at.2 1
      have z1 : w.heap.size + 1 < w6.heap.size := K1.out.lt
      have p2_0 : w6.cell? ⟨w.heap.size + 1 + 1, 0, none⟩ = some (.int .i64 0) := K2.out.at.1 0
      have q2_0 : w6.frozen? ⟨w.heap.size + 1 + 1, 0, none⟩ = false := K2.out.at.2 0
      have p2_1 : w6.cell? ⟨w.heap.size + 1 + 1, 1, none⟩ = some (.slice none 0 0) := K2.out.at.1 1
      have q2_1 : w6.frozen? ⟨w.heap.size + 1 + 1, 1, none⟩ = false := K2.out.at.2 1
      have z2 : w.heap.size + 1 + 1 < w6.heap.size := K2.out.lt
      go_wp2_with fail
      refine bodyPost_ret (results_box2 rfl _ _ (w.heap.size + 1 + 1) 24 _ _ _ rfl (K2.out.set2 _ _) Tryz.underlying24 rfl (by kernel_rfl)) rfl ?_
      rw [← HM.out]
      refine ⟨a6, c6, rfl, ?_, ?_⟩
      · exact Hd6.out.far0 K2.out zb2 (only_setCell (only_setCell (World.grownBy.refl _ _) _) _)
      · exact (HB.out.setCell (by simp; omega) _).setCell (by simp; omega) _
    · have hp := lnN_pos h0
      have e1 : decide (0 < lnN gk) = true := by rw [decide_eq_true_eq]; exact hp
      have HH := Lib.hid h0
      clear h0 hp
      go_wp2_with fail
      refine (bigdiv_nat (q := m / gk) (r := m % gk) HA.out HC.out HL.out.1 HL.out.2 HH.out rfl rfl).mono ?_
      rintro e w4 ⟨aq, cq, ar, cr, rfl, hq4, hr4, hb⟩
      have HR4 := Lib.hid hr4
      have HB4 := Lib.hid hb
      clear hq4 hr4 hb
      go_wp2_with fail
      go_roundg (m % gk)
      case measure => exact Nat.mod_lt _ (Nat.pos_of_ne_zero HH.out)
      case rel => exact ⟨gk, _, _, _, _, rfl, rfl, by show _ = _; rw [← HG.out, Nat.gcd_comm m gk, Nat.gcd_rec gk m, Nat.gcd_comm], HC.out.keep HB4.out, HR4.out.rd, ⟨HL.out.2, Nat.le_trans (digs_len_mono (Nat.mod_le _ _)) HL.out.1⟩, below_call HW.out HB4.out⟩

end Go.Proofs.YtcfmakpckdicjaaGreatDoor
