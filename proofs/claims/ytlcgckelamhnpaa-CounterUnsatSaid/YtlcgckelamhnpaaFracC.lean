/- Walks: fractions: differences, order, the greater one. -/
import Derived.Test.YtlcgckelamhnpaaBase
import Derived.Test.YtlcgckelamhnpaaBigSpec
import Derived.Test.YtlcgckelamhnpaaBigA
import Derived.Test.YtlcgckelamhnpaaBigB
import Derived.Test.YtlcgckelamhnpaaBigC
import Derived.Test.YtlcgckelamhnpaaBigD
import Derived.Test.YtlcgckelamhnpaaBigK
import Derived.Test.YtlcgckelamhnpaaBigL
import Derived.Test.YtlcgckelamhnpaaBigQ
import Derived.Test.YtlcgckelamhnpaaFd
import Derived.Test.YtlcgckelamhnpaaFracA
import Derived.Test.YtlcgckelamhnpaaProg
import Derived.WalkKit
import Derived.WalkSpells
import Derived.WalkLawsBesides
import Derived.Handy
import Derived.Lib.Hide
import Derived.Lib.Strings
import Derived.Lib.Builder
import Derived.BigQuiet
import Derived.OwnWalk
import Derived.Laws.BitsLemmas
import Derived.WalkSmall
import Derived.Deep.QuietTactic
import Derived.StillTailTactics
import Derived.Maps.AppendAt
import Derived.IntWalk
import Derived.Deep.RegionHeld3
import Derived.Deep.DeepFit
import Derived.Deep.LoopGhost
import Derived.Deep.DeepCutAuto
namespace Go.Proofs.Ytlcgckelamhnpaa
open Go.RowKit
variable {G : Nat}

theorem divInt_parts (q : Rat) : Rat.divInt (nu q) (de q) = q := Rat.num_divInt_den q
theorem add_parts (q r : Rat) : Rat.divInt (nu q * de r + nu r * de q) (de q * de r) = q + r := by
 have h1 := de_pos q
 have h2 := de_pos r
 conv => rhs; rw [← divInt_parts q, ← divInt_parts r, Rat.divInt_add_divInt _ _ (by omega) (by omega)]
theorem oneB_one : oneB 1 = true := by decide
theorem gcd_one (q : Rat) : ((Nat.gcd (nu q).natAbs (de q).natAbs : Nat) : Int) = 1 := by rw [gcd_parts]; rfl
set_option maxRecDepth 100000 in
set_option maxHeartbeats 4000000 in
theorem fracRight_ok {q : Rat} {a1 b1 : Option Addr} {c1 d1 : Nat} {w : World} (h1 : FD G w a1 c1 b1 d1 q) (hx : Fz q 549755813888) :
  Calls Try.prog 35 #[.agg #[.int .i64 (sg (nu q)), .slice a1 (ln (nu q)) c1, .int .i64 (sg (de q)), .slice b1 (ln (de q)) d1]] w fun e w' => e = .returned (.bool true) ∧ Below w.heap.size w w' := by
 have HX := Lib.hid hx
 have H1 := Lib.hid h1
 have e1 : (sg (de q) != 1) = false := by rw [sg_de]; rfl
 clear hx h1

 go_enter Try.func35, Try.ntmps35
 go_wp2_with fail
 refine (bigRight_ok (z := nu q) (H1.out.keep (by go_grown)).n (HX.out.1.mono (by omega))).mono ?_
 rintro e w1 ⟨rfl, hb⟩
 have hbx := bx1 w 38 #[.int .i64 (sg (nu q)), .slice a1 (ln (nu q)) c1, .int .i64 (sg (de q)), .slice b1 (ln (de q)) d1]
 have k0 := hbx; clear hbx
 have K0 := Lib.hid (k0.keep hb)
 clear k0
 have hb' : Below w.heap.size w w1 := below_call (by go_grown) hb
 have HB := Lib.hid hb'
 replace H1 := Lib.hid (H1.out.keep hb')
 clear hb hb'
 refine K0.out.w4 fun aa ab ac ad ae af ag ah z0 => ?_
 go_wp2_with fail
 refine (bigRight_ok (z := de q) (H1.out.keep (by go_grown)).d (HX.out.2.mono (by omega))).mono ?_
 rintro e w2 ⟨rfl, hb⟩
 clear aa ab ac ad ae af ag ah z0
 have hb' := below_call (w1 := w1) (by go_grown) hb
 replace K0 := Lib.hid (K0.out.keep hb')
 replace HB := Lib.hid (below_call HB.out hb')
 replace H1 := Lib.hid (H1.out.keep hb')
 clear hb hb'
 refine K0.out.w4 fun aa ab ac ad ae af ag ah z0 => ?_
 go_wp2_with fail
 refine (bigGcd_is (g := 1) (H1.out.keep (by go_grown)).n (H1.out.keep (by go_grown)).d HX.out.1 HX.out.2 (gcd_one q)).mono ?_
 rintro e w3 ⟨a3, c3, rfl, hd3, hb⟩
 clear aa ab ac ad ae af ag ah z0
 have hb' := below_call (w1 := w2) (by go_grown) hb
 replace K0 := Lib.hid (K0.out.keep hb')
 replace HB := Lib.hid (below_call HB.out hb')
 replace H1 := Lib.hid (H1.out.keep hb')
 clear hb hb'
 have Hd3 := Lib.hid hd3; clear hd3
 refine K0.out.w4 fun aa ab ac ad ae af ag ah z0 => ?_
 go_wp2_with fail
 refine (one_ok (Hd3.out.keep (by go_grown)) (by show _ ≤ _; decide)).mono ?_
 rintro e w4 ⟨rfl, hb⟩
 clear aa ab ac ad ae af ag ah z0
 have hb' := below_call (w1 := w3) (by go_grown) hb
 replace K0 := Lib.hid (K0.out.keep hb')
 replace HB := Lib.hid (below_call HB.out hb')
 have K1 := Lib.hid ((Bx.new w3 36 #[.int .i64 (sg 1), .slice a3 (ln 1) c3]).keep hb)
 replace H1 := Lib.hid (H1.out.keep hb')
 replace Hd3 := Lib.hid (Hd3.out.keep hb')
 clear hb hb'
 refine K0.out.w4 fun aa ab ac ad ae af ag ah z0 => ?_
 refine K1.out.w2 fun ai aj ak al z1 => ?_
 rw [oneB_one]
 go_wp2_with fail
 go_ret
 exact ⟨rfl, HB.out⟩
theorem sz_int {x : Int} {n : Nat} (h : -9223372036854775808 ≤ x ∧ x ≤ 9223372036854775807) : Sz x (n + 4) := by
 unfold Sz
 have h0 : (1048576 ^ 4 : Nat) = 1208925819614629174706176 := by decide
 have h1 : x.natAbs < 1048576 ^ 4 := by omega
 have := digs_len_of_lt h1
 omega
set_option maxRecDepth 100000 in
set_option maxHeartbeats 4000000 in
theorem fracOf_pos (x y : Int) (w : World) (hx : -9223372036854775808 ≤ x ∧ x ≤ 9223372036854775807) (hy : -9223372036854775808 ≤ y ∧ y ≤ 9223372036854775807) (hp : 0 < y) :
    Calls Try.prog 72 #[.int .i64 x, .int .i64 y] w fun e w' => ∃ a c b d, e = .returned (.tuple #[.agg #[.int .i64 (sg (nu (Rat.divInt x y))), .slice a (ln (nu (Rat.divInt x y))) c, .int .i64 (sg (de (Rat.divInt x y))), .slice b (ln (de (Rat.divInt x y))) d], .int .i64 0]) ∧ FD G w' a c b d (Rat.divInt x y) ∧ Below w.heap.size w w' := by
  have HX := Lib.hid hx
  have HY := Lib.hid hy
  have HP := Lib.hid hp
  clear hx hy hp

  go_enter Try.func72, Try.ntmps72
  go_wp2_with fail
  refine (bigOf_ok (G := G) x _ HX.out).mono ?_
  rintro e w1 ⟨a1, c1, rfl, hd1, hb⟩
  have hbx := bx1 w 38 #[.int .i64 0, .slice none 0 0, .int .i64 0, .slice none 0 0]
  have k0 := hbx; clear hbx
  have K0 := Lib.hid (k0.keep hb)
  clear k0
  have hb' : Below w.heap.size w w1 := below_call (by go_grown) hb
  have HB := Lib.hid hb'
  clear hb hb'
  have Hd1 := Lib.hid hd1; clear hd1
  refine K0.out.w4 fun aa ab ac ad ae af ag ah z0 => ?_
  go_wp2_with fail
  refine (bigOf_ok (G := G) y _ HY.out).mono ?_
  rintro e w2 ⟨a2, c2, rfl, hd2, hb⟩
  clear aa ab ac ad ae af ag ah z0
  have hb' := below_call (w1 := w1) (by go_grown) hb
  replace K0 := Lib.hid (K0.out.keep hb')
  replace HB := Lib.hid (below_call HB.out hb')
  replace Hd1 := Lib.hid (Hd1.out.keep hb')
  clear hb hb'
  have Hd2 := Lib.hid hd2; clear hd2
  refine K0.out.w4 fun aa ab ac ad ae af ag ah z0 => ?_
  go_wp2_with fail
  refine (new_pos (Hd1.out.keep (by go_grown)) (Hd2.out.keep (by go_grown)) (sz_int HX.out) (sz_int HY.out) HP.out).mono ?_
  rintro e w3 ⟨a3, c3, b3, d3, rfl, hf3, hb⟩
  clear aa ab ac ad ae af ag ah z0
  have hb' := below_call (w1 := w2) (by go_grown) hb
  replace K0 := Lib.hid (K0.out.keep hb')
  replace HB := Lib.hid (below_call HB.out hb')
  replace Hd1 := Lib.hid (Hd1.out.keep hb')
  replace Hd2 := Lib.hid (Hd2.out.keep hb')
  clear hb hb'
  have Hf3 := Lib.hid hf3; clear hf3
  refine K0.out.w4 fun aa ab ac ad ae af ag ah z0 => ?_
  go_wp2_with fail
  clear aa ab ac ad ae af ag ah z0
  refine bodyPost_ret (results_box2 rfl _ _ w.heap.size 38 _ _ _ rfl (K0.out.set4 _ _ _ _) Try.underlying38 rfl (by kernel_rfl)) rfl ?_
  refine ⟨a3, c3, b3, d3, rfl, ?_, ?_⟩
  · exact (Hf3.out.far0 K0.out zb4 (only_setCell (only_setCell (only_setCell (only_setCell (World.grownBy.refl _ _) _) _) _) _))
  · exact (Below.setCell (Below.setCell (Below.setCell (Below.setCell HB.out (by simp; try omega) _) (by simp; try omega) _) (by simp; try omega) _) (by simp; try omega) _)
set_option maxRecDepth 100000 in
set_option maxHeartbeats 4000000 in
theorem fracInt_ok (x : Int) (w : World) (hx : -9223372036854775808 ≤ x ∧ x ≤ 9223372036854775807) :
    Calls Try.prog 14 #[.int .i64 x] w fun e w' => ∃ a c b d, e = .returned (.agg #[.int .i64 (sg (nu (x : Rat))), .slice a (ln (nu (x : Rat))) c, .int .i64 (sg (de (x : Rat))), .slice b (ln (de (x : Rat))) d]) ∧ FD G w' a c b d (x : Rat) ∧ Below w.heap.size w w' := by
  have HX := Lib.hid hx
  have HNU : Hid (nu (x : Rat) = x) := rfl
  have HDE : Hid (de (x : Rat) = 1) := rfl
  clear hx

  go_enter Try.func14, Try.ntmps14
  go_wp2_with fail
  refine (bigOf_ok (G := G) x _ HX.out).mono ?_
  rintro e w1 ⟨a1, c1, rfl, hd1, hb⟩
  have hbx := bx1 w 38 #[.int .i64 0, .slice none 0 0, .int .i64 0, .slice none 0 0]
  have k0 := hbx; clear hbx
  have K0 := Lib.hid (k0.keep hb)
  clear k0
  have hb' : Below w.heap.size w w1 := below_call (by go_grown) hb
  have HB := Lib.hid hb'
  clear hb hb'
  have Hd1 := Lib.hid hd1; clear hd1
  refine K0.out.w4 fun aa ab ac ad ae af ag ah z0 => ?_
  go_wp2_with fail
  refine (bigOf_ok (G := G) 1 _ (by decide)).mono ?_
  rintro e w2 ⟨a2, c2, rfl, hd2, hb⟩
  clear aa ab ac ad ae af ag ah z0
  have hb' := below_call (w1 := w1) (by go_grown) hb
  replace K0 := Lib.hid (K0.out.keep hb')
  replace HB := Lib.hid (below_call HB.out hb')
  replace Hd1 := Lib.hid (Hd1.out.keep hb')
  clear hb hb'
  have Hd2 := Lib.hid hd2; clear hd2
  refine K0.out.w4 fun aa ab ac ad ae af ag ah z0 => ?_
  go_wp2_with fail
  rw [← HNU.out, ← HDE.out]
  have HF : Hid (FD G w2 a1 c1 a2 c2 (x : Rat)) := FD.mk (by rw [HNU.out]; exact Hd1.out) (by rw [HDE.out]; exact Hd2.out)
  clear aa ab ac ad ae af ag ah z0
  refine bodyPost_ret (results_box1 rfl _ _ w.heap.size 38 _ _ _ rfl (K0.out.set4 _ _ _ _) Try.underlying38 rfl (by kernel_rfl)) rfl ?_
  refine ⟨a1, c1, a2, c2, rfl, ?_, ?_⟩
  · exact (HF.out.far0 K0.out zb4 (only_setCell (only_setCell (only_setCell (only_setCell (World.grownBy.refl _ _) _) _) _) _))
  · exact (Below.setCell (Below.setCell (Below.setCell (Below.setCell HB.out (by simp; try omega) _) (by simp; try omega) _) (by simp; try omega) _) (by simp; try omega) _)
set_option maxRecDepth 100000 in
set_option maxHeartbeats 4000000 in
theorem fracAdd_ok {q r : Rat} {a1 b1 a2 b2 : Option Addr} {c1 d1 c2 d2 : Nat} {w : World} (h1 : FD G w a1 c1 b1 d1 q) (h2 : FD G w a2 c2 b2 d2 r) (hx : Fz q 137438953472) (hy : Fz r 137438953472) :
    Calls Try.prog 38 #[.agg #[.int .i64 (sg (nu q)), .slice a1 (ln (nu q)) c1, .int .i64 (sg (de q)), .slice b1 (ln (de q)) d1], .agg #[.int .i64 (sg (nu r)), .slice a2 (ln (nu r)) c2, .int .i64 (sg (de r)), .slice b2 (ln (de r)) d2]] w fun e w' => ∃ a c b d, e = .returned (.tuple #[.agg #[.int .i64 (sg (nu (q + r))), .slice a (ln (nu (q + r))) c, .int .i64 (sg (de (q + r))), .slice b (ln (de (q + r))) d], .int .i64 0]) ∧ FD G w' a c b d (q + r) ∧ Below w.heap.size w w' := by
  have HX := Lib.hid hx
  have HY := Lib.hid hy
  have H1 := Lib.hid h1
  have H2 := Lib.hid h2
  have HQR := Lib.hid (add_parts q r)
  clear hx hy h1 h2

  go_enter Try.func38, Try.ntmps38
  go_wp2_with fail
  refine (fracRight_ok (q := q) (H1.out.keep (by go_grown)) (HX.out.mono (by omega))).mono ?_
  rintro e w1 ⟨rfl, hb⟩
  have hbx := bx3 w 38 38 38 #[.int .i64 (sg (nu q)), .slice a1 (ln (nu q)) c1, .int .i64 (sg (de q)), .slice b1 (ln (de q)) d1] #[.int .i64 (sg (nu r)), .slice a2 (ln (nu r)) c2, .int .i64 (sg (de r)), .slice b2 (ln (de r)) d2] #[.int .i64 0, .slice none 0 0, .int .i64 0, .slice none 0 0]
  obtain ⟨k0, k1, k2⟩ := hbx
  have K0 := Lib.hid (k0.keep hb)
  have K1 := Lib.hid (k1.keep hb)
  have K2 := Lib.hid (k2.keep hb)
  clear k0 k1 k2
  have hb' : Below w.heap.size w w1 := below_call (by go_grown) hb
  have HB := Lib.hid hb'
  replace H1 := Lib.hid (H1.out.keep hb')
  replace H2 := Lib.hid (H2.out.keep hb')
  clear hb hb'
  refine K0.out.w4 fun aa ab ac ad ae af ag ah z0 => ?_
  refine K1.out.w4 fun ai aj ak al am ao ap aq z1 => ?_
  refine K2.out.w4 fun ar au av aw ax ay az ba z2 => ?_
  go_wp2_with fail
  refine (fracRight_ok (q := r) (H2.out.keep (by go_grown)) (HY.out.mono (by omega))).mono ?_
  rintro e w2 ⟨rfl, hb⟩
  clear aa ab ac ad ae af ag ah z0 ai aj ak al am ao ap aq z1 ar au av aw ax ay az ba z2
  have hb' := below_call (w1 := w1) (by go_grown) hb
  replace K0 := Lib.hid (K0.out.keep hb')
  replace K1 := Lib.hid (K1.out.keep hb')
  replace K2 := Lib.hid (K2.out.keep hb')
  replace HB := Lib.hid (below_call HB.out hb')
  replace H1 := Lib.hid (H1.out.keep hb')
  replace H2 := Lib.hid (H2.out.keep hb')
  clear hb hb'
  refine K0.out.w4 fun aa ab ac ad ae af ag ah z0 => ?_
  refine K1.out.w4 fun ai aj ak al am ao ap aq z1 => ?_
  refine K2.out.w4 fun ar au av aw ax ay az ba z2 => ?_
  go_wp2_with fail
  clear aa ab ac ad ae af ag ah z0 ai aj ak al am ao ap aq z1 ar au av aw ax ay az ba z2
  go_upto_region 3 with fail
  go_cut [6] (fun sA wx => ∃ (A : Nat) (a5 : Option Addr) (c5 : Nat), sA = .pointer (some ⟨A, 0, none⟩) ∧ Hid (Bx wx A 36 #[.int .i64 (sg (nu q * de r + nu r * de q)), .slice a5 (ln (nu q * de r + nu r * de q)) c5]) ∧ Hid (Bx wx w.heap.size 38 #[.int .i64 (sg (nu q)), .slice a1 (ln (nu q)) c1, .int .i64 (sg (de q)), .slice b1 (ln (de q)) d1]) ∧ Hid (Bx wx (w.heap.size + 1) 38 #[.int .i64 (sg (nu r)), .slice a2 (ln (nu r)) c2, .int .i64 (sg (de r)), .slice b2 (ln (de r)) d2]) ∧ Hid (Bx wx (w.heap.size + 1 + 1) 38 #[.int .i64 0, .slice none 0 0, .int .i64 0, .slice none 0 0]) ∧ Hid (BD G wx a5 c5 (nu q * de r + nu r * de q)) ∧ Hid (FD G wx a1 c1 b1 d1 q) ∧ Hid (FD G wx a2 c2 b2 d2 r) ∧ Hid (Below w.heap.size w wx) ∧ w.heap.size + 1 + 1 < A)
  case first =>
    have mk : Hid (∀ w', Below w2.heap.size w2 w' → w'.cell? ⟨w.heap.size, 0, none⟩ = some (.int .i64 (sg (nu q))) ∧ w'.cell? ⟨w.heap.size, 1, none⟩ = some (.slice a1 (ln (nu q)) c1) ∧ w'.cell? ⟨w.heap.size, 2, none⟩ = some (.int .i64 (sg (de q))) ∧ w'.cell? ⟨w.heap.size, 3, none⟩ = some (.slice b1 (ln (de q)) d1) ∧ w'.cell? ⟨w.heap.size + 1, 0, none⟩ = some (.int .i64 (sg (nu r))) ∧ w'.cell? ⟨w.heap.size + 1, 1, none⟩ = some (.slice a2 (ln (nu r)) c2) ∧ w'.cell? ⟨w.heap.size + 1, 2, none⟩ = some (.int .i64 (sg (de r))) ∧ w'.cell? ⟨w.heap.size + 1, 3, none⟩ = some (.slice b2 (ln (de r)) d2) ∧ w'.cell? ⟨w.heap.size + 1 + 1, 0, none⟩ = some (.int .i64 0) ∧ w'.cell? ⟨w.heap.size + 1 + 1, 1, none⟩ = some (.slice none 0 0) ∧ w'.cell? ⟨w.heap.size + 1 + 1, 2, none⟩ = some (.int .i64 0) ∧ w'.cell? ⟨w.heap.size + 1 + 1, 3, none⟩ = some (.slice none 0 0) ∧ Below w2.heap.size w2 w') := fun w' h => ((K0.out.keep h).t4 ((K1.out.keep h).t4 ((K2.out.keep h).t4 (h))))
    have hs0 : Below w2.heap.size w2 w2.drew := (Below.refl _ _).drew
    have HS0 : Hid (Below w2.heap.size w2 w2.drew) := (Below.refl _ _).drew
    have tok0 : True := trivial
    have tok1 : True := trivial
    have tok2 : True := trivial
    go_region_held3 (fun w' => w'.cell? ⟨w.heap.size, 0, none⟩ = some (.int .i64 (sg (nu q))) ∧ w'.cell? ⟨w.heap.size, 1, none⟩ = some (.slice a1 (ln (nu q)) c1) ∧ w'.cell? ⟨w.heap.size, 2, none⟩ = some (.int .i64 (sg (de q))) ∧ w'.cell? ⟨w.heap.size, 3, none⟩ = some (.slice b1 (ln (de q)) d1) ∧ w'.cell? ⟨w.heap.size + 1, 0, none⟩ = some (.int .i64 (sg (nu r))) ∧ w'.cell? ⟨w.heap.size + 1, 1, none⟩ = some (.slice a2 (ln (nu r)) c2) ∧ w'.cell? ⟨w.heap.size + 1, 2, none⟩ = some (.int .i64 (sg (de r))) ∧ w'.cell? ⟨w.heap.size + 1, 3, none⟩ = some (.slice b2 (ln (de r)) d2) ∧ w'.cell? ⟨w.heap.size + 1 + 1, 0, none⟩ = some (.int .i64 0) ∧ w'.cell? ⟨w.heap.size + 1 + 1, 1, none⟩ = some (.slice none 0 0) ∧ w'.cell? ⟨w.heap.size + 1 + 1, 2, none⟩ = some (.int .i64 0) ∧ w'.cell? ⟨w.heap.size + 1 + 1, 3, none⟩ = some (.slice none 0 0) ∧ Below w2.heap.size w2 w')
      (first | exact mk.out _ (by assumption) | exact mk.out _ (Below.alloc (by assumption) (Below.size (by assumption)) _) | exact mk.out _ (Below.setCell (Below.setCell (by assumption) hlA _) hlA _))
      (first
        | (go_at_call 44; have _t := tok0; refine (times_ok (x := nu q) (y := de r) (H1.out.keep (Below.alloc HS0.out (Below.size HS0.out) _)).n (H2.out.keep (Below.alloc HS0.out (Below.size HS0.out) _)).d (HX.out.1.mono (by omega)) (HY.out.2.mono (by omega))).mono ?_; rintro e w3 ⟨a3, c3, rfl, hd3, hb⟩; clear tok0 _t; have hlA : w2.heap.size ≤ w2.heap.size := HS0.out.size; have KP : Hid (Bx w3 w2.heap.size 36 #[.int .i64 0, .slice none 0 0]) := (Bx.new w2.drew 36 #[.int .i64 0, .slice none 0 0]).keep hb; have ne0 : w.heap.size < w2.heap.size := (K0.out.keep HS0.out).lt; have ne1 : w.heap.size + 1 < w2.heap.size := (K1.out.keep HS0.out).lt; have ne2 : w.heap.size + 1 + 1 < w2.heap.size := (K2.out.keep HS0.out).lt; have hs1 := below_call (Below.alloc hs0 (Below.size hs0) _) hb; have HS1 := Lib.hid (below_call (Below.alloc HS0.out (Below.size HS0.out) _) hb); clear hb; have Hd3 := Lib.hid hd3; clear hd3)
        | (go_at_call 44; have _t := tok0; refine (times_ok (x := nu q) (y := de r) (H1.out.keep HS0.out).n (H2.out.keep HS0.out).d (HX.out.1.mono (by omega)) (HY.out.2.mono (by omega))).mono ?_; rintro e w3 ⟨a3, c3, rfl, hd3, hb⟩; clear tok0 _t; have hs1 := below_call hs0 hb; have HS1 := Lib.hid (below_call HS0.out hb); clear hb; have Hd3 := Lib.hid hd3; clear hd3)
        | (go_at_call 44; have _t := tok1; refine (times_ok (x := nu r) (y := de q) (H2.out.keep (Below.alloc HS1.out (Below.size HS1.out) _)).n (H1.out.keep (Below.alloc HS1.out (Below.size HS1.out) _)).d (HY.out.1.mono (by omega)) (HX.out.2.mono (by omega))).mono ?_; rintro e w4 ⟨a4, c4, rfl, hd4, hb⟩; clear tok1 _t; have hlA : w2.heap.size ≤ w3.heap.size := HS1.out.size; have KP : Hid (Bx w4 w3.heap.size 36 #[.int .i64 0, .slice none 0 0]) := (Bx.new w3 36 #[.int .i64 0, .slice none 0 0]).keep hb; have ne0 : w.heap.size < w3.heap.size := (K0.out.keep HS1.out).lt; have ne1 : w.heap.size + 1 < w3.heap.size := (K1.out.keep HS1.out).lt; have ne2 : w.heap.size + 1 + 1 < w3.heap.size := (K2.out.keep HS1.out).lt; have hs2 := below_call (Below.alloc hs1 (Below.size hs1) _) hb; have HS2 := Lib.hid (below_call (Below.alloc HS1.out (Below.size HS1.out) _) hb); have Hd3 := Lib.hid (Hd3.out.keep (below_call (below_alloc _ _) hb)); clear hb; have Hd4 := Lib.hid hd4; clear hd4)
        | (go_at_call 44; have _t := tok1; refine (times_ok (x := nu r) (y := de q) (H2.out.keep HS1.out).n (H1.out.keep HS1.out).d (HY.out.1.mono (by omega)) (HX.out.2.mono (by omega))).mono ?_; rintro e w4 ⟨a4, c4, rfl, hd4, hb⟩; clear tok1 _t; (try (have KP := Lib.hid (KP.out.keep hb))); have hs2 := below_call hs1 hb; have HS2 := Lib.hid (below_call HS1.out hb); have Hd3 := Lib.hid (Hd3.out.keep hb); clear hb; have Hd4 := Lib.hid hd4; clear hd4)
        | (go_at_call 62; have _t := tok2; refine (bigAdd_ok (Hd3.out.keep (below_alloc _ _)) (Hd4.out.keep (below_alloc _ _)) ((HX.out.1.mul HY.out.2).mono (by omega)) ((HY.out.1.mul HX.out.2).mono (by omega))).mono ?_; rintro e w5 ⟨a5, c5, rfl, hd5, hb⟩; clear tok2 _t; have hlA : w2.heap.size ≤ w4.heap.size := HS2.out.size; have KP : Hid (Bx w5 w4.heap.size 36 #[.int .i64 0, .slice none 0 0]) := (Bx.new w4 36 #[.int .i64 0, .slice none 0 0]).keep hb; have ne0 : w.heap.size < w4.heap.size := (K0.out.keep HS2.out).lt; have ne1 : w.heap.size + 1 < w4.heap.size := (K1.out.keep HS2.out).lt; have ne2 : w.heap.size + 1 + 1 < w4.heap.size := (K2.out.keep HS2.out).lt; (try (obtain ⟨pA, qA⟩ := KP.out.at)); have hs3 := below_call (Below.alloc hs2 (Below.size hs2) _) hb; have HS3 := Lib.hid (below_call (Below.alloc HS2.out (Below.size HS2.out) _) hb); have Hd3 := Lib.hid (Hd3.out.keep (below_call (below_alloc _ _) hb)); have Hd4 := Lib.hid (Hd4.out.keep (below_call (below_alloc _ _) hb)); clear hb; have Hd5 := Lib.hid hd5; clear hd5)
        | (go_at_call 62; have _t := tok2; refine (bigAdd_ok Hd3.out Hd4.out ((HX.out.1.mul HY.out.2).mono (by omega)) ((HY.out.1.mul HX.out.2).mono (by omega))).mono ?_; rintro e w5 ⟨a5, c5, rfl, hd5, hb⟩; clear tok2 _t; (try (have KP := Lib.hid (KP.out.keep hb))); (try (obtain ⟨pA, qA⟩ := KP.out.at)); have hs3 := below_call hs2 hb; have HS3 := Lib.hid (below_call HS2.out hb); have Hd3 := Lib.hid (Hd3.out.keep hb); have Hd4 := Lib.hid (Hd4.out.keep hb); clear hb; have Hd5 := Lib.hid hd5; clear hd5))
    all_goals (go_wp2_with fail)
    all_goals go_meet
    all_goals first
      | (exact ⟨_, a5, c5, rfl, Bx.new _ _ _, (K0.out.keep HS3.out).keep (below_alloc _ _), (K1.out.keep HS3.out).keep (below_alloc _ _), (K2.out.keep HS3.out).keep (below_alloc _ _), Hd5.out.keep (below_alloc _ _), (H1.out.keep HS3.out).keep (below_alloc _ _), (H2.out.keep HS3.out).keep (below_alloc _ _), below_call HB.out (below_call HS3.out (below_alloc _ _)), (K2.out.keep HS3.out).lt⟩)
      | ((have hA : w.heap.size ≤ w2.heap.size := by (have := ne0; omega)); have og := only_setCell (o := 1) (only_setCell (o := 0) (World.grownBy.refl w5 (some w2.heap.size)) (.int .i64 (sg (nu q * de r + nu r * de q)))) (.slice a5 (ln (nu q * de r + nu r * de q)) c5); exact ⟨_, a5, c5, rfl, KP.out.set2 _ _, (K0.out.keep HS3.out).only og (by omega), (K1.out.keep HS3.out).only og (by omega), (K2.out.keep HS3.out).only og (by omega), Hd5.out.far0 KP.out zb2 og, (H1.out.keep HS3.out).far0 KP.out zb2 og, (H2.out.keep HS3.out).far0 KP.out zb2 og, (Below.setCell (Below.setCell (below_call HB.out HS3.out) hA _) hA _), ne2⟩)
      | ((have hA : w.heap.size ≤ w3.heap.size := by (have := ne0; omega)); have og := only_setCell (o := 1) (only_setCell (o := 0) (World.grownBy.refl w5 (some w3.heap.size)) (.int .i64 (sg (nu q * de r + nu r * de q)))) (.slice a5 (ln (nu q * de r + nu r * de q)) c5); exact ⟨_, a5, c5, rfl, KP.out.set2 _ _, (K0.out.keep HS3.out).only og (by omega), (K1.out.keep HS3.out).only og (by omega), (K2.out.keep HS3.out).only og (by omega), Hd5.out.far0 KP.out zb2 og, (H1.out.keep HS3.out).far0 KP.out zb2 og, (H2.out.keep HS3.out).far0 KP.out zb2 og, (Below.setCell (Below.setCell (below_call HB.out HS3.out) hA _) hA _), ne2⟩)
      | ((have hA : w.heap.size ≤ w4.heap.size := by (have := ne0; omega)); have og := only_setCell (o := 1) (only_setCell (o := 0) (World.grownBy.refl w5 (some w4.heap.size)) (.int .i64 (sg (nu q * de r + nu r * de q)))) (.slice a5 (ln (nu q * de r + nu r * de q)) c5); exact ⟨_, a5, c5, rfl, KP.out.set2 _ _, (K0.out.keep HS3.out).only og (by omega), (K1.out.keep HS3.out).only og (by omega), (K2.out.keep HS3.out).only og (by omega), Hd5.out.far0 KP.out zb2 og, (H1.out.keep HS3.out).far0 KP.out zb2 og, (H2.out.keep HS3.out).far0 KP.out zb2 og, (Below.setCell (Below.setCell (below_call HB.out HS3.out) hA _) hA _), ne2⟩)
  case rest =>
    obtain ⟨A, a5, c5, rfl, KA, K0, K1, K2, Hd5, H1, H2, HB, hltA⟩ := hcut
    obtain ⟨w6, rfl⟩ : ∃ x, x = wc := ⟨_, rfl⟩
    have K3 := KA; clear KA
    refine K0.out.w4 fun aa ab ac ad ae af ag ah z0 => ?_
    refine K1.out.w4 fun ai aj ak al am ao ap aq z1 => ?_
    refine K2.out.w4 fun ar au av aw ax ay az ba z2 => ?_
    refine K3.out.w2 fun bb bc bd bf z3 => ?_
    go_wp2_with fail
    clear aa ab ac ad ae af ag ah z0 ai aj ak al am ao ap aq z1 ar au av aw ax ay az ba z2 bb bc bd bf z3
    have mk : Hid (∀ w', w6.grownBy w' (some (w.heap.size + 1 + 1)) → w'.cell? ⟨w.heap.size, 0, none⟩ = some (.int .i64 (sg (nu q))) ∧ w'.cell? ⟨w.heap.size, 1, none⟩ = some (.slice a1 (ln (nu q)) c1) ∧ w'.cell? ⟨w.heap.size, 2, none⟩ = some (.int .i64 (sg (de q))) ∧ w'.cell? ⟨w.heap.size, 3, none⟩ = some (.slice b1 (ln (de q)) d1) ∧ w'.cell? ⟨w.heap.size + 1, 0, none⟩ = some (.int .i64 (sg (nu r))) ∧ w'.cell? ⟨w.heap.size + 1, 1, none⟩ = some (.slice a2 (ln (nu r)) c2) ∧ w'.cell? ⟨w.heap.size + 1, 2, none⟩ = some (.int .i64 (sg (de r))) ∧ w'.cell? ⟨w.heap.size + 1, 3, none⟩ = some (.slice b2 (ln (de r)) d2) ∧ w'.cell? ⟨A, 0, none⟩ = some (.int .i64 (sg (nu q * de r + nu r * de q))) ∧ w'.cell? ⟨A, 1, none⟩ = some (.slice a5 (ln (nu q * de r + nu r * de q)) c5) ∧ w6.grownBy w' (some (w.heap.size + 1 + 1))) := fun w' h => ((K0.out.only h (by omega)).t4 ((K1.out.only h (by omega)).t4 ((K3.out.only h (by omega)).t2 (h))))
    have hs0 : w6.grownBy w6.drew (some (w.heap.size + 1 + 1)) := only_start _ _
    have HS0 : Hid (Below w6.heap.size w6 w6.drew) := (Below.refl _ _).drew
    have tok0 : True := trivial
    have tok1 : True := trivial
    go_region_held3 (fun w' => w'.cell? ⟨w.heap.size, 0, none⟩ = some (.int .i64 (sg (nu q))) ∧ w'.cell? ⟨w.heap.size, 1, none⟩ = some (.slice a1 (ln (nu q)) c1) ∧ w'.cell? ⟨w.heap.size, 2, none⟩ = some (.int .i64 (sg (de q))) ∧ w'.cell? ⟨w.heap.size, 3, none⟩ = some (.slice b1 (ln (de q)) d1) ∧ w'.cell? ⟨w.heap.size + 1, 0, none⟩ = some (.int .i64 (sg (nu r))) ∧ w'.cell? ⟨w.heap.size + 1, 1, none⟩ = some (.slice a2 (ln (nu r)) c2) ∧ w'.cell? ⟨w.heap.size + 1, 2, none⟩ = some (.int .i64 (sg (de r))) ∧ w'.cell? ⟨w.heap.size + 1, 3, none⟩ = some (.slice b2 (ln (de r)) d2) ∧ w'.cell? ⟨A, 0, none⟩ = some (.int .i64 (sg (nu q * de r + nu r * de q))) ∧ w'.cell? ⟨A, 1, none⟩ = some (.slice a5 (ln (nu q * de r + nu r * de q)) c5) ∧ w6.grownBy w' (some (w.heap.size + 1 + 1)))
      (first | exact mk.out _ (by assumption) | exact mk.out _ (only_setCell (only_setCell (only_setCell (only_setCell (by assumption) _) _) _) _) | exact mk.out _ (only_alloc (by assumption) _))
      (first
        | (go_at_call 44; have _t := tok0; refine (times_ok (x := de q) (y := de r) (H1.out.keep HS0.out).d (H2.out.keep HS0.out).d (HX.out.2.mono (by omega)) (HY.out.2.mono (by omega))).mono ?_; rintro e w7 ⟨a7, c7, rfl, hd7, hb⟩; clear tok0 _t; have hs1 := only_call hs0 hb; have HS1 := Lib.hid (below_call HS0.out hb); clear hb; have Hd7 := Lib.hid hd7; clear hd7)
        | (go_at_call 63; have _t := tok1; refine (new_pos (Hd5.out.keep HS1.out) Hd7.out (((HX.out.1.mul HY.out.2).add (((HY.out.1.mul HX.out.2).mono (by omega)))).mono (by omega)) ((HX.out.2.mul HY.out.2).mono (by omega)) (Int.mul_pos (de_pos q) (de_pos r))).mono ?_; rintro e w8 ⟨a8, c8, b8, d8, rfl, hf8, hb⟩; clear tok1 _t; have hs2 := only_call hs1 hb; have HS2 := Lib.hid (below_call HS1.out hb); have Hd7 := Lib.hid (Hd7.out.keep hb); clear hb; have Hf8 := Lib.hid hf8; clear hf8; obtain ⟨p2, q2⟩ := (K2.out.keep HS2.out).at))
    replace K0 := Lib.hid (K0.out.keep HS2.out)
    replace K1 := Lib.hid (K1.out.keep HS2.out)
    replace K2 := Lib.hid (K2.out.keep HS2.out)
    replace K3 := Lib.hid (K3.out.keep HS2.out)
    replace HB := Lib.hid (below_call HB.out HS2.out)
    replace H1 := Lib.hid (H1.out.keep HS2.out)
    replace H2 := Lib.hid (H2.out.keep HS2.out)
    replace Hd5 := Lib.hid (Hd5.out.keep HS2.out)
    clear mk hs0 HS0 hs1 HS1 hs2 HS2  p2 q2
    rw [HQR.out]
    go_wp2_with fail
    rw [HQR.out] at Hf8
    refine bodyPost_ret (results_box2 rfl _ _ (w.heap.size + 1 + 1) 38 _ _ _ rfl (K2.out.set4 _ _ _ _) Try.underlying38 rfl (by kernel_rfl)) rfl ?_
    refine ⟨a8, c8, b8, d8, rfl, ?_, ?_⟩
    · exact (Hf8.out.far0 K2.out zb4 (only_setCell (only_setCell (only_setCell (only_setCell (World.grownBy.refl _ _) _) _) _) _))
    · exact (Below.setCell (Below.setCell (Below.setCell (Below.setCell HB.out (by simp; try omega) _) (by simp; try omega) _) (by simp; try omega) _) (by simp; try omega) _)
end Go.Proofs.Ytlcgckelamhnpaa
namespace Go.Proofs.Ytlcgckelamhnpaa
open Go.RowKit
variable {G : Nat}

theorem fracAdd_neg {q r : Rat} {a1 b1 a2 b2 : Option Addr} {c1 d1 c2 d2 : Nat} {w : World} (h1 : FD G w a1 c1 b1 d1 q) (hn : BD G w a2 c2 (-nu r)) (hd : BD G w b2 d2 (de r)) (hx : Fz q 137438953472) (hy : Fz r 137438953472) :
  Calls Try.prog 38 #[.agg #[.int .i64 (sg (nu q)), .slice a1 (ln (nu q)) c1, .int .i64 (sg (de q)), .slice b1 (ln (de q)) d1], .agg #[.int .i64 (sg (-nu r)), .slice a2 (ln (-nu r)) c2, .int .i64 (sg (de r)), .slice b2 (ln (de r)) d2]] w fun e w' => ∃ a c b d, e = .returned (.tuple #[.agg #[.int .i64 (sg (nu (q - r))), .slice a (ln (nu (q - r))) c, .int .i64 (sg (de (q - r))), .slice b (ln (de (q - r))) d], .int .i64 0]) ∧ FD G w' a c b d (q - r) ∧ Below w.heap.size w w' := by
 rw [Rat.sub_eq_add_neg]
 exact fracAdd_ok (r := -r) h1 ⟨hn, hd⟩ hx ⟨hy.1.neg, hy.2⟩
def ordQ (q r : Rat) : Int := if q < r then -1 else if r < q then 1 else 0
theorem ord_parts (q r : Rat) : ord (nu q * de r) (nu r * de q) = ordQ q r := by
 unfold ord ordQ
 simp only [Rat.lt_iff]
 rfl
set_option maxRecDepth 100000 in
set_option maxHeartbeats 4000000 in
theorem fracSub_ok {q r : Rat} {a1 b1 a2 b2 : Option Addr} {c1 d1 c2 d2 : Nat} {w : World} (h1 : FD G w a1 c1 b1 d1 q) (h2 : FD G w a2 c2 b2 d2 r) (hx : Fz q 137438953472) (hy : Fz r 137438953472) :
    Calls Try.prog 41 #[.agg #[.int .i64 (sg (nu q)), .slice a1 (ln (nu q)) c1, .int .i64 (sg (de q)), .slice b1 (ln (de q)) d1], .agg #[.int .i64 (sg (nu r)), .slice a2 (ln (nu r)) c2, .int .i64 (sg (de r)), .slice b2 (ln (de r)) d2]] w fun e w' => ∃ a c b d, e = .returned (.tuple #[.agg #[.int .i64 (sg (nu (q - r))), .slice a (ln (nu (q - r))) c, .int .i64 (sg (de (q - r))), .slice b (ln (de (q - r))) d], .int .i64 0]) ∧ FD G w' a c b d (q - r) ∧ Below w.heap.size w w' := by
  have HX := Lib.hid hx
  have HY := Lib.hid hy
  have H1 := Lib.hid h1
  have H2 := Lib.hid h2
  clear hx hy h1 h2

  go_enter Try.func41, Try.ntmps41
  go_wp2_with fail
  refine (fracRight_ok (q := q) (H1.out.keep (by go_grown)) (HX.out.mono (by omega))).mono ?_
  rintro e w1 ⟨rfl, hb⟩
  have hbx := bx3 w 38 38 38 #[.int .i64 (sg (nu q)), .slice a1 (ln (nu q)) c1, .int .i64 (sg (de q)), .slice b1 (ln (de q)) d1] #[.int .i64 (sg (nu r)), .slice a2 (ln (nu r)) c2, .int .i64 (sg (de r)), .slice b2 (ln (de r)) d2] #[.int .i64 0, .slice none 0 0, .int .i64 0, .slice none 0 0]
  obtain ⟨k0, k1, k2⟩ := hbx
  have K0 := Lib.hid (k0.keep hb)
  have K1 := Lib.hid (k1.keep hb)
  have K2 := Lib.hid (k2.keep hb)
  clear k0 k1 k2
  have hb' : Below w.heap.size w w1 := below_call (by go_grown) hb
  have HB := Lib.hid hb'
  replace H1 := Lib.hid (H1.out.keep hb')
  replace H2 := Lib.hid (H2.out.keep hb')
  clear hb hb'
  refine K0.out.w4 fun aa ab ac ad ae af ag ah z0 => ?_
  refine K1.out.w4 fun ai aj ak al am ao ap aq z1 => ?_
  refine K2.out.w4 fun ar au av aw ax ay az ba z2 => ?_
  go_wp2_with fail
  refine (fracRight_ok (q := r) (H2.out.keep (by go_grown)) (HY.out.mono (by omega))).mono ?_
  rintro e w2 ⟨rfl, hb⟩
  clear aa ab ac ad ae af ag ah z0 ai aj ak al am ao ap aq z1 ar au av aw ax ay az ba z2
  have hb' := below_call (w1 := w1) (by go_grown) hb
  replace K0 := Lib.hid (K0.out.keep hb')
  replace K1 := Lib.hid (K1.out.keep hb')
  replace K2 := Lib.hid (K2.out.keep hb')
  replace HB := Lib.hid (below_call HB.out hb')
  replace H1 := Lib.hid (H1.out.keep hb')
  replace H2 := Lib.hid (H2.out.keep hb')
  clear hb hb'
  refine K0.out.w4 fun aa ab ac ad ae af ag ah z0 => ?_
  refine K1.out.w4 fun ai aj ak al am ao ap aq z1 => ?_
  refine K2.out.w4 fun ar au av aw ax ay az ba z2 => ?_
  go_wp2_with fail
  clear aa ab ac ad ae af ag ah z0 ai aj ak al am ao ap aq z1 ar au av aw ax ay az ba z2
  have mk : Hid (∀ w', w2.grownBy w' (some (w.heap.size + 1 + 1)) → w'.cell? ⟨w.heap.size, 0, none⟩ = some (.int .i64 (sg (nu q))) ∧ w'.cell? ⟨w.heap.size, 1, none⟩ = some (.slice a1 (ln (nu q)) c1) ∧ w'.cell? ⟨w.heap.size, 2, none⟩ = some (.int .i64 (sg (de q))) ∧ w'.cell? ⟨w.heap.size, 3, none⟩ = some (.slice b1 (ln (de q)) d1) ∧ w'.cell? ⟨w.heap.size + 1, 0, none⟩ = some (.int .i64 (sg (nu r))) ∧ w'.cell? ⟨w.heap.size + 1, 1, none⟩ = some (.slice a2 (ln (nu r)) c2) ∧ w'.cell? ⟨w.heap.size + 1, 2, none⟩ = some (.int .i64 (sg (de r))) ∧ w'.cell? ⟨w.heap.size + 1, 3, none⟩ = some (.slice b2 (ln (de r)) d2) ∧ w2.grownBy w' (some (w.heap.size + 1 + 1))) := fun w' h => ((K0.out.only h (by omega)).t4 ((K1.out.only h (by omega)).t4 (h)))
  have hs0 : w2.grownBy w2.drew (some (w.heap.size + 1 + 1)) := only_start _ _
  have HS0 : Hid (Below w2.heap.size w2 w2.drew) := (Below.refl _ _).drew
  have tok0 : True := trivial
  have tok1 : True := trivial
  go_region_held3 (fun w' => w'.cell? ⟨w.heap.size, 0, none⟩ = some (.int .i64 (sg (nu q))) ∧ w'.cell? ⟨w.heap.size, 1, none⟩ = some (.slice a1 (ln (nu q)) c1) ∧ w'.cell? ⟨w.heap.size, 2, none⟩ = some (.int .i64 (sg (de q))) ∧ w'.cell? ⟨w.heap.size, 3, none⟩ = some (.slice b1 (ln (de q)) d1) ∧ w'.cell? ⟨w.heap.size + 1, 0, none⟩ = some (.int .i64 (sg (nu r))) ∧ w'.cell? ⟨w.heap.size + 1, 1, none⟩ = some (.slice a2 (ln (nu r)) c2) ∧ w'.cell? ⟨w.heap.size + 1, 2, none⟩ = some (.int .i64 (sg (de r))) ∧ w'.cell? ⟨w.heap.size + 1, 3, none⟩ = some (.slice b2 (ln (de r)) d2) ∧ w2.grownBy w' (some (w.heap.size + 1 + 1)))
    (first | exact mk.out _ (by assumption) | exact mk.out _ (only_setCell (only_setCell (only_setCell (only_setCell (by assumption) _) _) _) _) | exact mk.out _ (only_alloc (by assumption) _))
    (first
      | (go_at_call 64; have _t := tok0; refine (bigNeg_ok (H2.out.keep HS0.out).n (HY.out.1.mono (by omega))).mono ?_; rintro e w3 ⟨a3, c3, rfl, hd3, hb⟩; clear tok0 _t; have hs1 := only_call hs0 hb; have HS1 := Lib.hid (below_call HS0.out hb); clear hb; have Hd3 := Lib.hid hd3; clear hd3)
      | (go_at_call 38; have _t := tok1; refine (fracAdd_neg (H1.out.keep HS1.out) Hd3.out (H2.out.keep HS1.out).d HX.out HY.out).mono ?_; rintro e w4 ⟨a4, c4, b4, d4, rfl, hf4, hb⟩; clear tok1 _t; have hs2 := only_call hs1 hb; have HS2 := Lib.hid (below_call HS1.out hb); have Hd3 := Lib.hid (Hd3.out.keep hb); clear hb; have Hf4 := Lib.hid hf4; clear hf4; obtain ⟨p2, q2⟩ := (K2.out.keep HS2.out).at))
  replace K0 := Lib.hid (K0.out.keep HS2.out)
  replace K1 := Lib.hid (K1.out.keep HS2.out)
  replace K2 := Lib.hid (K2.out.keep HS2.out)
  replace HB := Lib.hid (below_call HB.out HS2.out)
  replace H1 := Lib.hid (H1.out.keep HS2.out)
  replace H2 := Lib.hid (H2.out.keep HS2.out)
  clear mk hs0 HS0 hs1 HS1 hs2 HS2  p2 q2
  go_wp2_with fail
  refine bodyPost_ret (results_box2 rfl _ _ (w.heap.size + 1 + 1) 38 _ _ _ rfl (K2.out.set4 _ _ _ _) Try.underlying38 rfl (by kernel_rfl)) rfl ?_
  refine ⟨a4, c4, b4, d4, rfl, ?_, ?_⟩
  · exact (Hf4.out.far0 K2.out zb4 (only_setCell (only_setCell (only_setCell (only_setCell (World.grownBy.refl _ _) _) _) _) _))
  · exact (Below.setCell (Below.setCell (Below.setCell (Below.setCell HB.out (by simp; try omega) _) (by simp; try omega) _) (by simp; try omega) _) (by simp; try omega) _)
set_option maxRecDepth 100000 in
set_option maxHeartbeats 4000000 in
theorem fracCompare_ok {q r : Rat} {a1 b1 a2 b2 : Option Addr} {c1 d1 c2 d2 : Nat} {w : World} (h1 : FD G w a1 c1 b1 d1 q) (h2 : FD G w a2 c2 b2 d2 r) (hx : Fz q 137438953472) (hy : Fz r 137438953472) :
  Calls Try.prog 24 #[.agg #[.int .i64 (sg (nu q)), .slice a1 (ln (nu q)) c1, .int .i64 (sg (de q)), .slice b1 (ln (de q)) d1], .agg #[.int .i64 (sg (nu r)), .slice a2 (ln (nu r)) c2, .int .i64 (sg (de r)), .slice b2 (ln (de r)) d2]] w fun e w' => e = .returned (.int .i64 (ordQ q r)) ∧ Below w.heap.size w w' := by
 have HX := Lib.hid hx
 have HY := Lib.hid hy
 have H1 := Lib.hid h1
 have H2 := Lib.hid h2
 clear hx hy h1 h2

 go_enter Try.func24, Try.ntmps24
 go_wp2_with fail
 refine (fracRight_ok (q := q) (H1.out.keep (by go_grown)) (HX.out.mono (by omega))).mono ?_
 rintro e w1 ⟨rfl, hb⟩
 have hbx := bx2 w 38 38 #[.int .i64 (sg (nu q)), .slice a1 (ln (nu q)) c1, .int .i64 (sg (de q)), .slice b1 (ln (de q)) d1] #[.int .i64 (sg (nu r)), .slice a2 (ln (nu r)) c2, .int .i64 (sg (de r)), .slice b2 (ln (de r)) d2]
 obtain ⟨k0, k1⟩ := hbx
 have K0 := Lib.hid (k0.keep hb)
 have K1 := Lib.hid (k1.keep hb)
 clear k0 k1
 have hb' : Below w.heap.size w w1 := below_call (by go_grown) hb
 have HB := Lib.hid hb'
 replace H1 := Lib.hid (H1.out.keep hb')
 replace H2 := Lib.hid (H2.out.keep hb')
 clear hb hb'
 refine K0.out.w4 fun aa ab ac ad ae af ag ah z0 => ?_
 refine K1.out.w4 fun ai aj ak al am ao ap aq z1 => ?_
 go_wp2_with fail
 refine (fracRight_ok (q := r) (H2.out.keep (by go_grown)) (HY.out.mono (by omega))).mono ?_
 rintro e w2 ⟨rfl, hb⟩
 clear aa ab ac ad ae af ag ah z0 ai aj ak al am ao ap aq z1
 have hb' := below_call (w1 := w1) (by go_grown) hb
 replace K0 := Lib.hid (K0.out.keep hb')
 replace K1 := Lib.hid (K1.out.keep hb')
 replace HB := Lib.hid (below_call HB.out hb')
 replace H1 := Lib.hid (H1.out.keep hb')
 replace H2 := Lib.hid (H2.out.keep hb')
 clear hb hb'
 refine K0.out.w4 fun aa ab ac ad ae af ag ah z0 => ?_
 refine K1.out.w4 fun ai aj ak al am ao ap aq z1 => ?_
 go_wp2_with fail
 clear aa ab ac ad ae af ag ah z0 ai aj ak al am ao ap aq z1
 have mk : Hid (∀ w', Below w2.heap.size w2 w' → w'.cell? ⟨w.heap.size, 0, none⟩ = some (.int .i64 (sg (nu q))) ∧ w'.cell? ⟨w.heap.size, 1, none⟩ = some (.slice a1 (ln (nu q)) c1) ∧ w'.cell? ⟨w.heap.size, 2, none⟩ = some (.int .i64 (sg (de q))) ∧ w'.cell? ⟨w.heap.size, 3, none⟩ = some (.slice b1 (ln (de q)) d1) ∧ w'.cell? ⟨w.heap.size + 1, 0, none⟩ = some (.int .i64 (sg (nu r))) ∧ w'.cell? ⟨w.heap.size + 1, 1, none⟩ = some (.slice a2 (ln (nu r)) c2) ∧ w'.cell? ⟨w.heap.size + 1, 2, none⟩ = some (.int .i64 (sg (de r))) ∧ w'.cell? ⟨w.heap.size + 1, 3, none⟩ = some (.slice b2 (ln (de r)) d2) ∧ Below w2.heap.size w2 w') := fun w' h => ((K0.out.keep h).t4 ((K1.out.keep h).t4 (h)))
 have hs0 : Below w2.heap.size w2 w2.drew := (Below.refl _ _).drew
 have HS0 : Hid (Below w2.heap.size w2 w2.drew) := (Below.refl _ _).drew
 have tok0 : True := trivial
 have tok1 : True := trivial
 have tok2 : True := trivial
 go_region_held3 (fun w' => w'.cell? ⟨w.heap.size, 0, none⟩ = some (.int .i64 (sg (nu q))) ∧ w'.cell? ⟨w.heap.size, 1, none⟩ = some (.slice a1 (ln (nu q)) c1) ∧ w'.cell? ⟨w.heap.size, 2, none⟩ = some (.int .i64 (sg (de q))) ∧ w'.cell? ⟨w.heap.size, 3, none⟩ = some (.slice b1 (ln (de q)) d1) ∧ w'.cell? ⟨w.heap.size + 1, 0, none⟩ = some (.int .i64 (sg (nu r))) ∧ w'.cell? ⟨w.heap.size + 1, 1, none⟩ = some (.slice a2 (ln (nu r)) c2) ∧ w'.cell? ⟨w.heap.size + 1, 2, none⟩ = some (.int .i64 (sg (de r))) ∧ w'.cell? ⟨w.heap.size + 1, 3, none⟩ = some (.slice b2 (ln (de r)) d2) ∧ Below w2.heap.size w2 w')
  (first | exact mk.out _ (by assumption) | exact mk.out _ (Below.alloc (by assumption) (Below.size (by assumption)) _))
  (first
   | (go_at_call 44; have _t := tok0; refine (times_ok (x := nu q) (y := de r) (H1.out.keep HS0.out).n (H2.out.keep HS0.out).d (HX.out.1.mono (by omega)) (HY.out.2.mono (by omega))).mono ?_; rintro e w3 ⟨a3, c3, rfl, hd3, hb⟩; clear tok0 _t; have hs1 := below_call hs0 hb; have HS1 := Lib.hid (below_call HS0.out hb); clear hb; have Hd3 := Lib.hid hd3; clear hd3)
   | (go_at_call 44; have _t := tok1; refine (times_ok (x := nu r) (y := de q) (H2.out.keep HS1.out).n (H1.out.keep HS1.out).d (HY.out.1.mono (by omega)) (HX.out.2.mono (by omega))).mono ?_; rintro e w4 ⟨a4, c4, rfl, hd4, hb⟩; clear tok1 _t; have hs2 := below_call hs1 hb; have HS2 := Lib.hid (below_call HS1.out hb); have Hd3 := Lib.hid (Hd3.out.keep hb); clear hb; have Hd4 := Lib.hid hd4; clear hd4)
   | (go_at_call 43; have _t := tok2; refine (bigCompare_ok Hd3.out Hd4.out ((HX.out.1.mul HY.out.2).mono (by omega)) ((HY.out.1.mul HX.out.2).mono (by omega))).mono ?_; rintro e w5 ⟨rfl, hb⟩; clear tok2 _t; have hs3 := below_call hs2 hb; have HS3 := Lib.hid (below_call HS2.out hb); have Hd3 := Lib.hid (Hd3.out.keep hb); have Hd4 := Lib.hid (Hd4.out.keep hb); clear hb))
 replace K0 := Lib.hid (K0.out.keep HS3.out)
 replace K1 := Lib.hid (K1.out.keep HS3.out)
 replace HB := Lib.hid (below_call HB.out HS3.out)
 replace H1 := Lib.hid (H1.out.keep HS3.out)
 replace H2 := Lib.hid (H2.out.keep HS3.out)
 clear mk hs0 HS0 hs1 HS1 hs2 HS2 hs3 HS3
 refine K0.out.w4 fun aa ab ac ad ae af ag ah z0 => ?_
 refine K1.out.w4 fun ai aj ak al am ao ap aq z1 => ?_
 go_wp2_with fail
 go_ret
 exact ⟨ret_int (ord_parts q r), HB.out⟩
set_option maxRecDepth 100000 in
set_option maxHeartbeats 4000000 in
theorem slim_ok {x : Int} {a1 : Option Addr} {c1 : Nat} {w : World} (h1 : BD G w a1 c1 x) (hx : Sz x 549755813888) :
    Calls Try.prog 89 #[.agg #[.int .i64 (sg x), .slice a1 (ln x) c1]] w fun e w' => ∃ a c, e = .returned (.agg #[.int .i64 (sg x), .slice a (ln x) c]) ∧ BD G w' a c x ∧ Below w.heap.size w w' := by
  have HX := Lib.hid hx
  have H1 := Lib.hid h1
  have HN := Lib.hid (Int.neg_neg x)
  clear hx h1

  go_enter Try.func89, Try.ntmps89
  go_wp2_with fail
  refine (bigNeg_ok (H1.out.keep (by go_grown)) HX.out).mono ?_
  rintro e w1 ⟨a3, c3, rfl, hd3, hb⟩
  have hbx := bx2 w 36 36 #[.int .i64 (sg x), .slice a1 (ln x) c1] #[.int .i64 0, .slice none 0 0]
  obtain ⟨k0, k1⟩ := hbx
  have K0 := Lib.hid (k0.keep hb)
  have K1 := Lib.hid (k1.keep hb)
  clear k0 k1
  have hb' : Below w.heap.size w w1 := below_call (by go_grown) hb
  have HB := Lib.hid hb'
  replace H1 := Lib.hid (H1.out.keep hb')
  clear hb hb'
  have Hd3 := Lib.hid hd3; clear hd3
  refine K0.out.w2 fun aa ab ac ad z0 => ?_
  refine K1.out.w2 fun ae af ag ah z1 => ?_
  go_wp2_with fail
  refine (bigNeg_ok (Hd3.out.keep (by go_grown)) HX.out.neg).mono ?_
  rintro e w2 ⟨a4, c4, rfl, hd4, hb⟩
  clear aa ab ac ad z0 ae af ag ah z1
  have hb' := below_call (w1 := w1) (by go_grown) hb
  replace K0 := Lib.hid (K0.out.keep hb')
  replace K1 := Lib.hid (K1.out.keep hb')
  replace HB := Lib.hid (below_call HB.out hb')
  replace H1 := Lib.hid (H1.out.keep hb')
  replace Hd3 := Lib.hid (Hd3.out.keep hb')
  clear hb hb'
  have Hd4 := Lib.hid hd4; clear hd4
  refine K0.out.w2 fun aa ab ac ad z0 => ?_
  refine K1.out.w2 fun ae af ag ah z1 => ?_
  rw [HN.out] at Hd4 ⊢
  go_wp2_with fail
  clear aa ab ac ad z0 ae af ag ah z1
  refine bodyPost_ret (results_box1 rfl _ _ (w.heap.size + 1) 36 _ _ _ rfl (K1.out.set2 _ _) Try.underlying36 rfl (by kernel_rfl)) rfl ?_
  refine ⟨a4, c4, rfl, ?_, ?_⟩
  · exact (Hd4.out.far0 K1.out zb2 (only_setCell (only_setCell (World.grownBy.refl _ _) _) _))
  · exact (Below.setCell (Below.setCell HB.out (by simp; try omega) _) (by simp; try omega) _)
def pick (q r : Rat) (s : Int) : Rat := if ordQ q r * s < 0 then r else q
theorem ordQ_cases (q r : Rat) : ordQ q r = 1 ∨ ordQ q r = -1 ∨ ordQ q r = 0 := by unfold ordQ; split <;> (try split) <;> simp
theorem wrap_ordQ (q r : Rat) {s : Int} (h : s = 1 ∨ s = -1) : IntKind.i64.wrap (ordQ q r * s) = ordQ q r * s := by
 rcases ordQ_cases q r with h1 | h1 | h1 <;> rcases h with h2 | h2 <;> rw [h1, h2] <;> rfl
set_option maxRecDepth 100000 in
set_option maxHeartbeats 4000000 in
theorem either_fst {q r : Rat} {a1 b1 a2 b2 : Option Addr} {c1 d1 c2 d2 : Nat} {w : World} (h1 : FD G w a1 c1 b1 d1 q) (h2 : FD G w a2 c2 b2 d2 r) (hx : Fz q 137438953472) (hy : Fz r 137438953472) {s : Int} (hs : s = 1 ∨ s = -1) (hp : ¬ ordQ q r * s < 0) :
    Calls Try.prog 73 #[.agg #[.int .i64 (sg (nu q)), .slice a1 (ln (nu q)) c1, .int .i64 (sg (de q)), .slice b1 (ln (de q)) d1], .agg #[.int .i64 (sg (nu r)), .slice a2 (ln (nu r)) c2, .int .i64 (sg (de r)), .slice b2 (ln (de r)) d2], .int .i64 s] w fun e w' => ∃ a c b d, e = .returned (.tuple #[.agg #[.int .i64 (sg (nu q)), .slice a (ln (nu q)) c, .int .i64 (sg (de q)), .slice b (ln (de q)) d], .int .i64 0]) ∧ FD G w' a c b d q ∧ Below w.heap.size w w' := by
  have HX := Lib.hid hx
  have HY := Lib.hid hy
  have H1 := Lib.hid h1
  have H2 := Lib.hid h2
  clear hx hy h1 h2

  have H20 := H2
  have hws := wrap_ordQ q r hs
  have e1 : decide (ordQ q r * s < 0) = false := by rw [decide_eq_false_iff_not]; exact hp
  clear hp hs

  go_enter Try.func73, Try.ntmps73
  go_wp2_with fail
  refine (fracRight_ok (q := q) (H1.out.keep (by go_grown)) (HX.out.mono (by omega))).mono ?_
  rintro e w1 ⟨rfl, hb⟩
  have hbx := bx3 w 38 38 38 #[.int .i64 (sg (nu q)), .slice a1 (ln (nu q)) c1, .int .i64 (sg (de q)), .slice b1 (ln (de q)) d1] #[.int .i64 (sg (nu r)), .slice a2 (ln (nu r)) c2, .int .i64 (sg (de r)), .slice b2 (ln (de r)) d2] #[.int .i64 0, .slice none 0 0, .int .i64 0, .slice none 0 0]
  obtain ⟨k0, k1, k2⟩ := hbx
  have K0 := Lib.hid (k0.keep hb)
  have K1 := Lib.hid (k1.keep hb)
  have K2 := Lib.hid (k2.keep hb)
  clear k0 k1 k2
  have hb' : Below w.heap.size w w1 := below_call (by go_grown) hb
  have HB := Lib.hid hb'
  replace H1 := Lib.hid (H1.out.keep hb')
  replace H2 := Lib.hid (H2.out.keep hb')
  clear hb hb'
  refine K0.out.w4 fun aa ab ac ad ae af ag ah z0 => ?_
  refine K1.out.w4 fun ai aj ak al am ao ap aq z1 => ?_
  refine K2.out.w4 fun ar au av aw ax ay az ba z2 => ?_
  go_wp2_with fail
  refine (fracRight_ok (q := r) (H2.out.keep (by go_grown)) (HY.out.mono (by omega))).mono ?_
  rintro e w2 ⟨rfl, hb⟩
  clear aa ab ac ad ae af ag ah z0 ai aj ak al am ao ap aq z1 ar au av aw ax ay az ba z2
  have hb' := below_call (w1 := w1) (by go_grown) hb
  replace K0 := Lib.hid (K0.out.keep hb')
  replace K1 := Lib.hid (K1.out.keep hb')
  replace K2 := Lib.hid (K2.out.keep hb')
  replace HB := Lib.hid (below_call HB.out hb')
  replace H1 := Lib.hid (H1.out.keep hb')
  replace H2 := Lib.hid (H2.out.keep hb')
  clear hb hb'
  refine K0.out.w4 fun aa ab ac ad ae af ag ah z0 => ?_
  refine K1.out.w4 fun ai aj ak al am ao ap aq z1 => ?_
  refine K2.out.w4 fun ar au av aw ax ay az ba z2 => ?_
  go_wp2_with fail
  refine (fracCompare_ok (H1.out.keep (by go_grown)) (H2.out.keep (by go_grown)) HX.out HY.out).mono ?_
  rintro e w3 ⟨rfl, hb⟩
  clear aa ab ac ad ae af ag ah z0 ai aj ak al am ao ap aq z1 ar au av aw ax ay az ba z2
  have hb' := below_call (w1 := w2) (by go_grown) hb
  replace K0 := Lib.hid (K0.out.keep hb')
  replace K1 := Lib.hid (K1.out.keep hb')
  replace K2 := Lib.hid (K2.out.keep hb')
  replace HB := Lib.hid (below_call HB.out hb')
  replace H1 := Lib.hid (H1.out.keep hb')
  replace H2 := Lib.hid (H2.out.keep hb')
  clear hb hb'
  refine K0.out.w4 fun aa ab ac ad ae af ag ah z0 => ?_
  refine K1.out.w4 fun ai aj ak al am ao ap aq z1 => ?_
  refine K2.out.w4 fun ar au av aw ax ay az ba z2 => ?_
  go_wp2_with fail
  clear aa ab ac ad ae af ag ah z0 ai aj ak al am ao ap aq z1 ar au av aw ax ay az ba z2
  have mk : Hid (∀ w', w3.grownBy w' (some (w.heap.size + 1 + 1)) → w'.cell? ⟨w.heap.size, 0, none⟩ = some (.int .i64 (sg (nu q))) ∧ w'.cell? ⟨w.heap.size, 1, none⟩ = some (.slice a1 (ln (nu q)) c1) ∧ w'.cell? ⟨w.heap.size, 2, none⟩ = some (.int .i64 (sg (de q))) ∧ w'.cell? ⟨w.heap.size, 3, none⟩ = some (.slice b1 (ln (de q)) d1) ∧ w'.cell? ⟨w.heap.size + 1, 0, none⟩ = some (.int .i64 (sg (nu r))) ∧ w'.cell? ⟨w.heap.size + 1, 1, none⟩ = some (.slice a2 (ln (nu r)) c2) ∧ w'.cell? ⟨w.heap.size + 1, 2, none⟩ = some (.int .i64 (sg (de r))) ∧ w'.cell? ⟨w.heap.size + 1, 3, none⟩ = some (.slice b2 (ln (de r)) d2) ∧ w3.grownBy w' (some (w.heap.size + 1 + 1))) := fun w' h => ((K0.out.only h (by omega)).t4 ((K1.out.only h (by omega)).t4 (h)))
  have hs0 : w3.grownBy w3.drew (some (w.heap.size + 1 + 1)) := only_start _ _
  have HS0 : Hid (Below w3.heap.size w3 w3.drew) := (Below.refl _ _).drew
  have tok0 : True := trivial
  have tok1 : True := trivial
  go_region_held3 (fun w' => w'.cell? ⟨w.heap.size, 0, none⟩ = some (.int .i64 (sg (nu q))) ∧ w'.cell? ⟨w.heap.size, 1, none⟩ = some (.slice a1 (ln (nu q)) c1) ∧ w'.cell? ⟨w.heap.size, 2, none⟩ = some (.int .i64 (sg (de q))) ∧ w'.cell? ⟨w.heap.size, 3, none⟩ = some (.slice b1 (ln (de q)) d1) ∧ w'.cell? ⟨w.heap.size + 1, 0, none⟩ = some (.int .i64 (sg (nu r))) ∧ w'.cell? ⟨w.heap.size + 1, 1, none⟩ = some (.slice a2 (ln (nu r)) c2) ∧ w'.cell? ⟨w.heap.size + 1, 2, none⟩ = some (.int .i64 (sg (de r))) ∧ w'.cell? ⟨w.heap.size + 1, 3, none⟩ = some (.slice b2 (ln (de r)) d2) ∧ w3.grownBy w' (some (w.heap.size + 1 + 1)))
    (first | exact mk.out _ (by assumption) | exact mk.out _ (only_setCell (only_setCell (only_setCell (only_setCell (by assumption) _) _) _) _) | exact mk.out _ (only_alloc (by assumption) _))
    (first
      | (go_at_call 89; have _t := tok0; refine (slim_ok (x := nu q) (H1.out.keep HS0.out).n (HX.out.1.mono (by omega))).mono ?_; rintro e w4 ⟨a5, c5, rfl, hd5, hb⟩; clear tok0 _t; have hs1 := only_call hs0 hb; have HS1 := Lib.hid (below_call HS0.out hb); clear hb; have Hd5 := Lib.hid hd5; clear hd5)
      | (go_at_call 89; have _t := tok1; refine (slim_ok (x := de q) (H1.out.keep HS1.out).d (HX.out.2.mono (by omega))).mono ?_; rintro e w5 ⟨a6, c6, rfl, hd6, hb⟩; clear tok1 _t; have hs2 := only_call hs1 hb; have HS2 := Lib.hid (below_call HS1.out hb); have Hd5 := Lib.hid (Hd5.out.keep hb); clear hb; have Hd6 := Lib.hid hd6; clear hd6; obtain ⟨p2, q2⟩ := (K2.out.keep HS2.out).at))
  replace K0 := Lib.hid (K0.out.keep HS2.out)
  replace K1 := Lib.hid (K1.out.keep HS2.out)
  replace K2 := Lib.hid (K2.out.keep HS2.out)
  replace HB := Lib.hid (below_call HB.out HS2.out)
  replace H1 := Lib.hid (H1.out.keep HS2.out)
  replace H2 := Lib.hid (H2.out.keep HS2.out)
  clear mk hs0 HS0 hs1 HS1 hs2 HS2  p2 q2
  go_wp2_with fail
  have HF : Hid (FD G w5 a5 c5 a6 c6 q) := FD.mk Hd5.out Hd6.out
  refine bodyPost_ret (results_box2 rfl _ _ (w.heap.size + 1 + 1) 38 _ _ _ rfl (K2.out.set4 _ _ _ _) Try.underlying38 rfl (by kernel_rfl)) rfl ?_
  refine ⟨a5, c5, a6, c6, rfl, ?_, ?_⟩
  · exact (HF.out.far0 K2.out zb4 (only_setCell (only_setCell (only_setCell (only_setCell (World.grownBy.refl _ _) _) _) _) _))
  · exact (Below.setCell (Below.setCell (Below.setCell (Below.setCell HB.out (by simp; try omega) _) (by simp; try omega) _) (by simp; try omega) _) (by simp; try omega) _)
set_option maxRecDepth 100000 in
set_option maxHeartbeats 4000000 in
theorem either_snd {q r : Rat} {a1 b1 a2 b2 : Option Addr} {c1 d1 c2 d2 : Nat} {w : World} (h1 : FD G w a1 c1 b1 d1 q) (h2 : FD G w a2 c2 b2 d2 r) (hx : Fz q 137438953472) (hy : Fz r 137438953472) {s : Int} (hs : s = 1 ∨ s = -1) (hp : ordQ q r * s < 0) :
    Calls Try.prog 73 #[.agg #[.int .i64 (sg (nu q)), .slice a1 (ln (nu q)) c1, .int .i64 (sg (de q)), .slice b1 (ln (de q)) d1], .agg #[.int .i64 (sg (nu r)), .slice a2 (ln (nu r)) c2, .int .i64 (sg (de r)), .slice b2 (ln (de r)) d2], .int .i64 s] w fun e w' => ∃ a c b d, e = .returned (.tuple #[.agg #[.int .i64 (sg (nu r)), .slice a (ln (nu r)) c, .int .i64 (sg (de r)), .slice b (ln (de r)) d], .int .i64 0]) ∧ FD G w' a c b d r ∧ Below w.heap.size w w' := by
  have HX := Lib.hid hx
  have HY := Lib.hid hy
  have H1 := Lib.hid h1
  have H2 := Lib.hid h2
  clear hx hy h1 h2

  have H20 := H2
  have hws := wrap_ordQ q r hs
  have e1 : decide (ordQ q r * s < 0) = true := by rw [decide_eq_true_eq]; exact hp
  clear hp hs

  go_enter Try.func73, Try.ntmps73
  go_wp2_with fail
  refine (fracRight_ok (q := q) (H1.out.keep (by go_grown)) (HX.out.mono (by omega))).mono ?_
  rintro e w1 ⟨rfl, hb⟩
  have hbx := bx3 w 38 38 38 #[.int .i64 (sg (nu q)), .slice a1 (ln (nu q)) c1, .int .i64 (sg (de q)), .slice b1 (ln (de q)) d1] #[.int .i64 (sg (nu r)), .slice a2 (ln (nu r)) c2, .int .i64 (sg (de r)), .slice b2 (ln (de r)) d2] #[.int .i64 0, .slice none 0 0, .int .i64 0, .slice none 0 0]
  obtain ⟨k0, k1, k2⟩ := hbx
  have K0 := Lib.hid (k0.keep hb)
  have K1 := Lib.hid (k1.keep hb)
  have K2 := Lib.hid (k2.keep hb)
  clear k0 k1 k2
  have hb' : Below w.heap.size w w1 := below_call (by go_grown) hb
  have HB := Lib.hid hb'
  replace H1 := Lib.hid (H1.out.keep hb')
  replace H2 := Lib.hid (H2.out.keep hb')
  clear hb hb'
  refine K0.out.w4 fun aa ab ac ad ae af ag ah z0 => ?_
  refine K1.out.w4 fun ai aj ak al am ao ap aq z1 => ?_
  refine K2.out.w4 fun ar au av aw ax ay az ba z2 => ?_
  go_wp2_with fail
  refine (fracRight_ok (q := r) (H2.out.keep (by go_grown)) (HY.out.mono (by omega))).mono ?_
  rintro e w2 ⟨rfl, hb⟩
  clear aa ab ac ad ae af ag ah z0 ai aj ak al am ao ap aq z1 ar au av aw ax ay az ba z2
  have hb' := below_call (w1 := w1) (by go_grown) hb
  replace K0 := Lib.hid (K0.out.keep hb')
  replace K1 := Lib.hid (K1.out.keep hb')
  replace K2 := Lib.hid (K2.out.keep hb')
  replace HB := Lib.hid (below_call HB.out hb')
  replace H1 := Lib.hid (H1.out.keep hb')
  replace H2 := Lib.hid (H2.out.keep hb')
  clear hb hb'
  refine K0.out.w4 fun aa ab ac ad ae af ag ah z0 => ?_
  refine K1.out.w4 fun ai aj ak al am ao ap aq z1 => ?_
  refine K2.out.w4 fun ar au av aw ax ay az ba z2 => ?_
  go_wp2_with fail
  refine (fracCompare_ok (H1.out.keep (by go_grown)) (H2.out.keep (by go_grown)) HX.out HY.out).mono ?_
  rintro e w3 ⟨rfl, hb⟩
  clear aa ab ac ad ae af ag ah z0 ai aj ak al am ao ap aq z1 ar au av aw ax ay az ba z2
  have hb' := below_call (w1 := w2) (by go_grown) hb
  replace K0 := Lib.hid (K0.out.keep hb')
  replace K1 := Lib.hid (K1.out.keep hb')
  replace K2 := Lib.hid (K2.out.keep hb')
  replace HB := Lib.hid (below_call HB.out hb')
  replace H1 := Lib.hid (H1.out.keep hb')
  replace H2 := Lib.hid (H2.out.keep hb')
  clear hb hb'
  refine K0.out.w4 fun aa ab ac ad ae af ag ah z0 => ?_
  refine K1.out.w4 fun ai aj ak al am ao ap aq z1 => ?_
  refine K2.out.w4 fun ar au av aw ax ay az ba z2 => ?_
  go_wp2_with fail
  clear aa ab ac ad ae af ag ah z0 ai aj ak al am ao ap aq z1 ar au av aw ax ay az ba z2
  obtain ⟨w4, hwn⟩ : ∃ x, x = ((((w3.setCell ⟨w.heap.size, 0, none⟩ (.int .i64 (sg (nu r)))).setCell ⟨w.heap.size, 1, none⟩ (.slice a2 (ln (nu r)) c2)).setCell ⟨w.heap.size, 2, none⟩ (.int .i64 (sg (de r)))).setCell ⟨w.heap.size, 3, none⟩ (.slice b2 (ln (de r)) d2)) := ⟨_, rfl⟩
  rw [← hwn]
  have og : w3.grownBy w4 (some w.heap.size) := by rw [hwn]; exact (only_setCell (only_setCell (only_setCell (only_setCell (World.grownBy.refl _ _) _) _) _) _)
  replace K1 := Lib.hid (K1.out.only og (by omega))
  replace K2 := Lib.hid (K2.out.only og (by omega))
  replace K0 : Hid (Bx w4 w.heap.size 38 #[.int .i64 (sg (nu r)), .slice a2 (ln (nu r)) c2, .int .i64 (sg (de r)), .slice b2 (ln (de r)) d2]) := by show Bx _ _ _ _; rw [hwn]; exact K0.out.set4 _ _ _ _
  replace HB : Hid (Below w.heap.size w w4) := by show Below _ _ _; rw [hwn]; exact (Below.setCell (Below.setCell (Below.setCell (Below.setCell HB.out (by simp; try omega) _) (by simp; try omega) _) (by simp; try omega) _) (by simp; try omega) _)
  replace H2 := Lib.hid (H20.out.keep HB.out)
  clear og hwn
  refine K0.out.w4 fun aa ab ac ad ae af ag ah z0 => ?_
  refine K1.out.w4 fun ai aj ak al am ao ap aq z1 => ?_
  refine K2.out.w4 fun ar au av aw ax ay az ba z2 => ?_
  clear aa ab ac ad ae af ag ah z0 ai aj ak al am ao ap aq z1 ar au av aw ax ay az ba z2
  have mk : Hid (∀ w', w4.grownBy w' (some (w.heap.size + 1 + 1)) → w'.cell? ⟨w.heap.size, 0, none⟩ = some (.int .i64 (sg (nu r))) ∧ w'.cell? ⟨w.heap.size, 1, none⟩ = some (.slice a2 (ln (nu r)) c2) ∧ w'.cell? ⟨w.heap.size, 2, none⟩ = some (.int .i64 (sg (de r))) ∧ w'.cell? ⟨w.heap.size, 3, none⟩ = some (.slice b2 (ln (de r)) d2) ∧ w'.cell? ⟨w.heap.size + 1, 0, none⟩ = some (.int .i64 (sg (nu r))) ∧ w'.cell? ⟨w.heap.size + 1, 1, none⟩ = some (.slice a2 (ln (nu r)) c2) ∧ w'.cell? ⟨w.heap.size + 1, 2, none⟩ = some (.int .i64 (sg (de r))) ∧ w'.cell? ⟨w.heap.size + 1, 3, none⟩ = some (.slice b2 (ln (de r)) d2) ∧ w4.grownBy w' (some (w.heap.size + 1 + 1))) := fun w' h => ((K0.out.only h (by omega)).t4 ((K1.out.only h (by omega)).t4 (h)))
  have hs0 : w4.grownBy w4.drew (some (w.heap.size + 1 + 1)) := only_start _ _
  have HS0 : Hid (Below w4.heap.size w4 w4.drew) := (Below.refl _ _).drew
  have tok0 : True := trivial
  have tok1 : True := trivial
  go_region_held3 (fun w' => w'.cell? ⟨w.heap.size, 0, none⟩ = some (.int .i64 (sg (nu r))) ∧ w'.cell? ⟨w.heap.size, 1, none⟩ = some (.slice a2 (ln (nu r)) c2) ∧ w'.cell? ⟨w.heap.size, 2, none⟩ = some (.int .i64 (sg (de r))) ∧ w'.cell? ⟨w.heap.size, 3, none⟩ = some (.slice b2 (ln (de r)) d2) ∧ w'.cell? ⟨w.heap.size + 1, 0, none⟩ = some (.int .i64 (sg (nu r))) ∧ w'.cell? ⟨w.heap.size + 1, 1, none⟩ = some (.slice a2 (ln (nu r)) c2) ∧ w'.cell? ⟨w.heap.size + 1, 2, none⟩ = some (.int .i64 (sg (de r))) ∧ w'.cell? ⟨w.heap.size + 1, 3, none⟩ = some (.slice b2 (ln (de r)) d2) ∧ w4.grownBy w' (some (w.heap.size + 1 + 1)))
    (first | exact mk.out _ (by assumption) | exact mk.out _ (only_setCell (only_setCell (only_setCell (only_setCell (by assumption) _) _) _) _) | exact mk.out _ (only_alloc (by assumption) _))
    (first
      | (go_at_call 89; have _t := tok0; refine (slim_ok (x := nu r) (H2.out.keep HS0.out).n (HY.out.1.mono (by omega))).mono ?_; rintro e w5 ⟨a5, c5, rfl, hd5, hb⟩; clear tok0 _t; have hs1 := only_call hs0 hb; have HS1 := Lib.hid (below_call HS0.out hb); clear hb; have Hd5 := Lib.hid hd5; clear hd5)
      | (go_at_call 89; have _t := tok1; refine (slim_ok (x := de r) (H2.out.keep HS1.out).d (HY.out.2.mono (by omega))).mono ?_; rintro e w6 ⟨a6, c6, rfl, hd6, hb⟩; clear tok1 _t; have hs2 := only_call hs1 hb; have HS2 := Lib.hid (below_call HS1.out hb); have Hd5 := Lib.hid (Hd5.out.keep hb); clear hb; have Hd6 := Lib.hid hd6; clear hd6; obtain ⟨p2, q2⟩ := (K2.out.keep HS2.out).at))
  replace K0 := Lib.hid (K0.out.keep HS2.out)
  replace K1 := Lib.hid (K1.out.keep HS2.out)
  replace K2 := Lib.hid (K2.out.keep HS2.out)
  replace HB := Lib.hid (below_call HB.out HS2.out)
  replace H2 := Lib.hid (H2.out.keep HS2.out)
  clear mk hs0 HS0 hs1 HS1 hs2 HS2  p2 q2
  go_wp2_with fail
  have HF : Hid (FD G w6 a5 c5 a6 c6 r) := FD.mk Hd5.out Hd6.out
  refine bodyPost_ret (results_box2 rfl _ _ (w.heap.size + 1 + 1) 38 _ _ _ rfl (K2.out.set4 _ _ _ _) Try.underlying38 rfl (by kernel_rfl)) rfl ?_
  refine ⟨a5, c5, a6, c6, rfl, ?_, ?_⟩
  · exact (HF.out.far0 K2.out zb4 (only_setCell (only_setCell (only_setCell (only_setCell (World.grownBy.refl _ _) _) _) _) _))
  · exact (Below.setCell (Below.setCell (Below.setCell (Below.setCell HB.out (by simp; try omega) _) (by simp; try omega) _) (by simp; try omega) _) (by simp; try omega) _)
theorem either_ok {q r : Rat} {a1 b1 a2 b2 : Option Addr} {c1 d1 c2 d2 : Nat} {w : World} (h1 : FD G w a1 c1 b1 d1 q) (h2 : FD G w a2 c2 b2 d2 r) (hx : Fz q 137438953472) (hy : Fz r 137438953472) {s : Int} (hs : s = 1 ∨ s = -1) :
    Calls Try.prog 73 #[.agg #[.int .i64 (sg (nu q)), .slice a1 (ln (nu q)) c1, .int .i64 (sg (de q)), .slice b1 (ln (de q)) d1], .agg #[.int .i64 (sg (nu r)), .slice a2 (ln (nu r)) c2, .int .i64 (sg (de r)), .slice b2 (ln (de r)) d2], .int .i64 s] w fun e w' => ∃ a c b d, e = .returned (.tuple #[.agg #[.int .i64 (sg (nu (pick q r s))), .slice a (ln (nu (pick q r s))) c, .int .i64 (sg (de (pick q r s))), .slice b (ln (de (pick q r s))) d], .int .i64 0]) ∧ FD G w' a c b d (pick q r s) ∧ Below w.heap.size w w' := by
  by_cases h : ordQ q r * s < 0
  · have := either_snd h1 h2 hx hy hs h
    rwa [show pick q r s = r by rw [pick, if_pos h]]
  · have := either_fst h1 h2 hx hy hs h
    rwa [show pick q r s = q by rw [pick, if_neg h]]
set_option maxRecDepth 100000 in
set_option maxHeartbeats 4000000 in
theorem fracMax_ok {q r : Rat} {a1 b1 a2 b2 : Option Addr} {c1 d1 c2 d2 : Nat} {w : World} (h1 : FD G w a1 c1 b1 d1 q) (h2 : FD G w a2 c2 b2 d2 r) (hx : Fz q 137438953472) (hy : Fz r 137438953472) :
    Calls Try.prog 48 #[.agg #[.int .i64 (sg (nu q)), .slice a1 (ln (nu q)) c1, .int .i64 (sg (de q)), .slice b1 (ln (de q)) d1], .agg #[.int .i64 (sg (nu r)), .slice a2 (ln (nu r)) c2, .int .i64 (sg (de r)), .slice b2 (ln (de r)) d2]] w fun e w' => ∃ a c b d, e = .returned (.tuple #[.agg #[.int .i64 (sg (nu (pick q r (1)))), .slice a (ln (nu (pick q r (1)))) c, .int .i64 (sg (de (pick q r (1)))), .slice b (ln (de (pick q r (1)))) d], .int .i64 0]) ∧ FD G w' a c b d (pick q r (1)) ∧ Below w.heap.size w w' := by
  have HX := Lib.hid hx
  have HY := Lib.hid hy
  have H1 := Lib.hid h1
  have H2 := Lib.hid h2
  clear hx hy h1 h2

  go_enter Try.func48, Try.ntmps48
  go_wp2_with fail
  refine (either_ok (H1.out.keep (by go_grown)) (H2.out.keep (by go_grown)) HX.out HY.out (s := 1) (by simp)).mono ?_
  rintro e w1 ⟨a5, c5, b5, d5, rfl, hf5, hb⟩
  have hbx := bx3 w 38 38 38 #[.int .i64 (sg (nu q)), .slice a1 (ln (nu q)) c1, .int .i64 (sg (de q)), .slice b1 (ln (de q)) d1] #[.int .i64 (sg (nu r)), .slice a2 (ln (nu r)) c2, .int .i64 (sg (de r)), .slice b2 (ln (de r)) d2] #[.int .i64 0, .slice none 0 0, .int .i64 0, .slice none 0 0]
  obtain ⟨k0, k1, k2⟩ := hbx
  have K0 := Lib.hid (k0.keep hb)
  have K1 := Lib.hid (k1.keep hb)
  have K2 := Lib.hid (k2.keep hb)
  clear k0 k1 k2
  have hb' : Below w.heap.size w w1 := below_call (by go_grown) hb
  have HB := Lib.hid hb'
  replace H1 := Lib.hid (H1.out.keep hb')
  replace H2 := Lib.hid (H2.out.keep hb')
  clear hb hb'
  have Hf5 := Lib.hid hf5; clear hf5
  refine K0.out.w4 fun aa ab ac ad ae af ag ah z0 => ?_
  refine K1.out.w4 fun ai aj ak al am ao ap aq z1 => ?_
  refine K2.out.w4 fun ar au av aw ax ay az ba z2 => ?_
  go_wp2_with fail
  clear aa ab ac ad ae af ag ah z0 ai aj ak al am ao ap aq z1 ar au av aw ax ay az ba z2
  refine bodyPost_ret (results_box2 rfl _ _ (w.heap.size + 1 + 1) 38 _ _ _ rfl (K2.out.set4 _ _ _ _) Try.underlying38 rfl (by kernel_rfl)) rfl ?_
  refine ⟨a5, c5, b5, d5, rfl, ?_, ?_⟩
  · exact (Hf5.out.far0 K2.out zb4 (only_setCell (only_setCell (only_setCell (only_setCell (World.grownBy.refl _ _) _) _) _) _))
  · exact (Below.setCell (Below.setCell (Below.setCell (Below.setCell HB.out (by simp; try omega) _) (by simp; try omega) _) (by simp; try omega) _) (by simp; try omega) _)
end Go.Proofs.Ytlcgckelamhnpaa
