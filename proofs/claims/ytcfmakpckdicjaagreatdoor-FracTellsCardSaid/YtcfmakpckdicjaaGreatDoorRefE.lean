/- Walks of the verifier's reference: digits divided by digits. -/
import Derived.Test.YtcfmakpckdicjaaGreatDoorBase
import Derived.Test.YtcfmakpckdicjaaGreatDoorBigSpec
import Derived.Test.YtcfmakpckdicjaaGreatDoorBigA
import Derived.Test.YtcfmakpckdicjaaGreatDoorBigB
import Derived.Test.YtcfmakpckdicjaaGreatDoorBigC
import Derived.Test.YtcfmakpckdicjaaGreatDoorBigD
import Derived.Test.YtcfmakpckdicjaaGreatDoorBigH
import Derived.Test.YtcfmakpckdicjaaGreatDoorBigK
import Derived.Test.YtcfmakpckdicjaaGreatDoorBigL
import Derived.Test.YtcfmakpckdicjaaGreatDoorBigQ
import Derived.Test.YtcfmakpckdicjaaGreatDoorFracA
import Derived.Test.YtcfmakpckdicjaaGreatDoorProg
import Derived.WalkKit
import Derived.WalkSpells
import Derived.WalkLawsBesides
import Derived.Handy
import Derived.Lib.Hide
import Derived.Lib.Strings
import Derived.Lib.Builder
import Derived.BigQuiet
import Derived.OwnWalk
import Derived.Laws.BitsLemmas
import Derived.WalkSmall
import Derived.Deep.QuietTactic
import Derived.StillTailTactics
import Derived.Maps.AppendAt
import Derived.IntWalk
import Derived.Deep.RegionHeld3
import Derived.Deep.DeepFit
import Derived.Deep.LoopGhost
import Derived.Deep.DeepCutAuto
namespace Go.Proofs.YtcfmakpckdicjaaGreatDoor
open Go.RowKit
variable {G : Nat}

theorem divInt_parts (q : Rat) : Rat.divInt (nu q) (de q) = q := Rat.num_divInt_den q
theorem add_parts (q r : Rat) : Rat.divInt (nu q * de r + nu r * de q) (de q * de r) = q + r := by
 have h1 := de_pos q
 have h2 := de_pos r
 conv => rhs; rw [← divInt_parts q, ← divInt_parts r, Rat.divInt_add_divInt _ _ (by omega) (by omega)]
theorem oneB_one : oneB 1 = true := by decide
theorem gcd_one (q : Rat) : ((Nat.gcd (nu q).natAbs (de q).natAbs : Nat) : Int) = 1 := by rw [gcd_parts]; rfl
set_option maxRecDepth 100000 in
set_option maxHeartbeats 4000000 in
theorem fracRight_ok {q : Rat} {a1 b1 : Option Addr} {c1 d1 : Nat} {w : World} (h1 : FD G w a1 c1 b1 d1 q) (hx : Fz q 549755813888) :
  Calls Tryz.prog 25 #[.agg #[.int .i64 (sg (nu q)), .slice a1 (ln (nu q)) c1, .int .i64 (sg (de q)), .slice b1 (ln (de q)) d1]] w fun e w' => e = .returned (.bool true) ∧ Below w.heap.size w w' := by
 have HX := Lib.hid hx
 have H1 := Lib.hid h1
 have e1 : (sg (de q) != 1) = false := by rw [sg_de]; rfl
 clear hx h1

 go_enter Tryz.func25, Tryz.ntmps25
 go_wp2_with fail
 refine (bigRight_ok (z := nu q) (H1.out.keep (by go_grown)).n (HX.out.1.mono (by omega))).mono ?_
 rintro e w1 ⟨rfl, hb⟩
 have hbx := bx1 w 26 #[.int .i64 (sg (nu q)), .slice a1 (ln (nu q)) c1, .int .i64 (sg (de q)), .slice b1 (ln (de q)) d1]
 have k0 := hbx; clear hbx
 have K0 := Lib.hid (k0.keep hb)
 clear k0
 have hb' : Below w.heap.size w w1 := below_call (by go_grown) hb
 have HB := Lib.hid hb'
 replace H1 := Lib.hid (H1.out.keep hb')
 clear hb hb'
 refine K0.out.w4 fun aa ab ac ad ae af ag ah z0 => ?_
 go_wp2_with fail
 refine (bigRight_ok (z := de q) (H1.out.keep (by go_grown)).d (HX.out.2.mono (by omega))).mono ?_
 rintro e w2 ⟨rfl, hb⟩
 clear aa ab ac ad ae af ag ah z0
 have hb' := below_call (w1 := w1) (by go_grown) hb
 replace K0 := Lib.hid (K0.out.keep hb')
 replace HB := Lib.hid (below_call HB.out hb')
 replace H1 := Lib.hid (H1.out.keep hb')
 clear hb hb'
 refine K0.out.w4 fun aa ab ac ad ae af ag ah z0 => ?_
 go_wp2_with fail
 refine (bigGcd_is (g := 1) (H1.out.keep (by go_grown)).n (H1.out.keep (by go_grown)).d HX.out.1 HX.out.2 (gcd_one q)).mono ?_
 rintro e w3 ⟨a3, c3, rfl, hd3, hb⟩
 clear aa ab ac ad ae af ag ah z0
 have hb' := below_call (w1 := w2) (by go_grown) hb
 replace K0 := Lib.hid (K0.out.keep hb')
 replace HB := Lib.hid (below_call HB.out hb')
 replace H1 := Lib.hid (H1.out.keep hb')
 clear hb hb'
 have Hd3 := Lib.hid hd3; clear hd3
 refine K0.out.w4 fun aa ab ac ad ae af ag ah z0 => ?_
 go_wp2_with fail
 refine (one_ok (Hd3.out.keep (by go_grown)) (by show _ ≤ _; decide)).mono ?_
 rintro e w4 ⟨rfl, hb⟩
 clear aa ab ac ad ae af ag ah z0
 have hb' := below_call (w1 := w3) (by go_grown) hb
 replace K0 := Lib.hid (K0.out.keep hb')
 replace HB := Lib.hid (below_call HB.out hb')
 have K1 := Lib.hid ((Bx.new w3 24 #[.int .i64 (sg 1), .slice a3 (ln 1) c3]).keep hb)
 replace H1 := Lib.hid (H1.out.keep hb')
 replace Hd3 := Lib.hid (Hd3.out.keep hb')
 clear hb hb'
 refine K0.out.w4 fun aa ab ac ad ae af ag ah z0 => ?_
 refine K1.out.w2 fun ai aj ak al z1 => ?_
 rw [oneB_one]
 go_wp2_with fail
 go_ret
 exact ⟨rfl, HB.out⟩
theorem sz_int {x : Int} {n : Nat} (h : -9223372036854775808 ≤ x ∧ x ≤ 9223372036854775807) : Sz x (n + 4) := by
 unfold Sz
 have h0 : (1048576 ^ 4 : Nat) = 1208925819614629174706176 := by decide
 have h1 : x.natAbs < 1048576 ^ 4 := by omega
 have := digs_len_of_lt h1
 omega
set_option maxRecDepth 100000 in
set_option maxHeartbeats 4000000 in
theorem fracInt_ok (x : Int) (w : World) (hx : -9223372036854775808 ≤ x ∧ x ≤ 9223372036854775807) :
    Calls Tryz.prog 38 #[.int .i64 x] w fun e w' => ∃ a c b d, e = .returned (.agg #[.int .i64 (sg (nu (x : Rat))), .slice a (ln (nu (x : Rat))) c, .int .i64 (sg (de (x : Rat))), .slice b (ln (de (x : Rat))) d]) ∧ FD G w' a c b d (x : Rat) ∧ Below w.heap.size w w' := by
  have HX := Lib.hid hx
  have HNU : Hid (nu (x : Rat) = x) := rfl
  have HDE : Hid (de (x : Rat) = 1) := rfl
  clear hx

  go_enter Tryz.func38, Tryz.ntmps38
  go_wp2_with fail
  refine (bigOf_ok (G := G) x _ HX.out).mono ?_
  rintro e w1 ⟨a1, c1, rfl, hd1, hb⟩
  have hbx := bx1 w 26 #[.int .i64 0, .slice none 0 0, .int .i64 0, .slice none 0 0]
  have k0 := hbx; clear hbx
  have K0 := Lib.hid (k0.keep hb)
  clear k0
  have hb' : Below w.heap.size w w1 := below_call (by go_grown) hb
  have HB := Lib.hid hb'
  clear hb hb'
  have Hd1 := Lib.hid hd1; clear hd1
  refine K0.out.w4 fun aa ab ac ad ae af ag ah z0 => ?_
  go_wp2_with fail
  refine (bigOf_ok (G := G) 1 _ (by decide)).mono ?_
  rintro e w2 ⟨a2, c2, rfl, hd2, hb⟩
  clear aa ab ac ad ae af ag ah z0
  have hb' := below_call (w1 := w1) (by go_grown) hb
  replace K0 := Lib.hid (K0.out.keep hb')
  replace HB := Lib.hid (below_call HB.out hb')
  replace Hd1 := Lib.hid (Hd1.out.keep hb')
  clear hb hb'
  have Hd2 := Lib.hid hd2; clear hd2
  refine K0.out.w4 fun aa ab ac ad ae af ag ah z0 => ?_
  go_wp2_with fail
  rw [← HNU.out, ← HDE.out]
  have HF : Hid (FD G w2 a1 c1 a2 c2 (x : Rat)) := FD.mk (by rw [HNU.out]; exact Hd1.out) (by rw [HDE.out]; exact Hd2.out)
  clear aa ab ac ad ae af ag ah z0
  refine bodyPost_ret (results_box1 rfl _ _ w.heap.size 26 _ _ _ rfl (K0.out.set4 _ _ _ _) Tryz.underlying26 rfl (by kernel_rfl)) rfl ?_
  refine ⟨a1, c1, a2, c2, rfl, ?_, ?_⟩
  · exact (HF.out.far0 K0.out zb4 (only_setCell (only_setCell (only_setCell (only_setCell (World.grownBy.refl _ _) _) _) _) _))
  · exact (Below.setCell (Below.setCell (Below.setCell (Below.setCell HB.out (by simp; try omega) _) (by simp; try omega) _) (by simp; try omega) _) (by simp; try omega) _)
set_option maxRecDepth 100000 in
set_option maxHeartbeats 4000000 in
theorem fracAdd_ok {q r : Rat} {a1 b1 a2 b2 : Option Addr} {c1 d1 c2 d2 : Nat} {w : World} (h1 : FD G w a1 c1 b1 d1 q) (h2 : FD G w a2 c2 b2 d2 r) (hx : Fz q 137438953472) (hy : Fz r 137438953472) :
    Calls Tryz.prog 10 #[.agg #[.int .i64 (sg (nu q)), .slice a1 (ln (nu q)) c1, .int .i64 (sg (de q)), .slice b1 (ln (de q)) d1], .agg #[.int .i64 (sg (nu r)), .slice a2 (ln (nu r)) c2, .int .i64 (sg (de r)), .slice b2 (ln (de r)) d2]] w fun e w' => ∃ a c b d, e = .returned (.tuple #[.agg #[.int .i64 (sg (nu (q + r))), .slice a (ln (nu (q + r))) c, .int .i64 (sg (de (q + r))), .slice b (ln (de (q + r))) d], .int .i64 0]) ∧ FD G w' a c b d (q + r) ∧ Below w.heap.size w w' := by
  have HX := Lib.hid hx
  have HY := Lib.hid hy
  have H1 := Lib.hid h1
  have H2 := Lib.hid h2
  have HQR := Lib.hid (add_parts q r)
  clear hx hy h1 h2

  go_enter Tryz.func10, Tryz.ntmps10
  go_wp2_with fail
  refine (fracRight_ok (q := q) (H1.out.keep (by go_grown)) (HX.out.mono (by omega))).mono ?_
  rintro e w1 ⟨rfl, hb⟩
  have hbx := bx3 w 26 26 26 #[.int .i64 (sg (nu q)), .slice a1 (ln (nu q)) c1, .int .i64 (sg (de q)), .slice b1 (ln (de q)) d1] #[.int .i64 (sg (nu r)), .slice a2 (ln (nu r)) c2, .int .i64 (sg (de r)), .slice b2 (ln (de r)) d2] #[.int .i64 0, .slice none 0 0, .int .i64 0, .slice none 0 0]
  obtain ⟨k0, k1, k2⟩ := hbx
  have K0 := Lib.hid (k0.keep hb)
  have K1 := Lib.hid (k1.keep hb)
  have K2 := Lib.hid (k2.keep hb)
  clear k0 k1 k2
  have hb' : Below w.heap.size w w1 := below_call (by go_grown) hb
  have HB := Lib.hid hb'
  replace H1 := Lib.hid (H1.out.keep hb')
  replace H2 := Lib.hid (H2.out.keep hb')
  clear hb hb'
  refine K0.out.w4 fun aa ab ac ad ae af ag ah z0 => ?_
  refine K1.out.w4 fun ai aj ak al am ao ap aq z1 => ?_
  refine K2.out.w4 fun ar au av aw ax ay az ba z2 => ?_
  go_wp2_with fail
  refine (fracRight_ok (q := r) (H2.out.keep (by go_grown)) (HY.out.mono (by omega))).mono ?_
  rintro e w2 ⟨rfl, hb⟩
  clear aa ab ac ad ae af ag ah z0 ai aj ak al am ao ap aq z1 ar au av aw ax ay az ba z2
  have hb' := below_call (w1 := w1) (by go_grown) hb
  replace K0 := Lib.hid (K0.out.keep hb')
  replace K1 := Lib.hid (K1.out.keep hb')
  replace K2 := Lib.hid (K2.out.keep hb')
  replace HB := Lib.hid (below_call HB.out hb')
  replace H1 := Lib.hid (H1.out.keep hb')
  replace H2 := Lib.hid (H2.out.keep hb')
  clear hb hb'
  refine K0.out.w4 fun aa ab ac ad ae af ag ah z0 => ?_
  refine K1.out.w4 fun ai aj ak al am ao ap aq z1 => ?_
  refine K2.out.w4 fun ar au av aw ax ay az ba z2 => ?_
  go_wp2_with fail
  clear aa ab ac ad ae af ag ah z0 ai aj ak al am ao ap aq z1 ar au av aw ax ay az ba z2
  go_upto_region 3 with fail
  go_cut [6] (fun sA wx => ∃ (A : Nat) (a5 : Option Addr) (c5 : Nat), sA = .pointer (some ⟨A, 0, none⟩) ∧ Hid (Bx wx A 24 #[.int .i64 (sg (nu q * de r + nu r * de q)), .slice a5 (ln (nu q * de r + nu r * de q)) c5]) ∧ Hid (Bx wx w.heap.size 26 #[.int .i64 (sg (nu q)), .slice a1 (ln (nu q)) c1, .int .i64 (sg (de q)), .slice b1 (ln (de q)) d1]) ∧ Hid (Bx wx (w.heap.size + 1) 26 #[.int .i64 (sg (nu r)), .slice a2 (ln (nu r)) c2, .int .i64 (sg (de r)), .slice b2 (ln (de r)) d2]) ∧ Hid (Bx wx (w.heap.size + 1 + 1) 26 #[.int .i64 0, .slice none 0 0, .int .i64 0, .slice none 0 0]) ∧ Hid (BD G wx a5 c5 (nu q * de r + nu r * de q)) ∧ Hid (FD G wx a1 c1 b1 d1 q) ∧ Hid (FD G wx a2 c2 b2 d2 r) ∧ Hid (Below w.heap.size w wx) ∧ w.heap.size + 1 + 1 < A)
  case first =>
    have mk : Hid (∀ w', Below w2.heap.size w2 w' → w'.cell? ⟨w.heap.size, 0, none⟩ = some (.int .i64 (sg (nu q))) ∧ w'.cell? ⟨w.heap.size, 1, none⟩ = some (.slice a1 (ln (nu q)) c1) ∧ w'.cell? ⟨w.heap.size, 2, none⟩ = some (.int .i64 (sg (de q))) ∧ w'.cell? ⟨w.heap.size, 3, none⟩ = some (.slice b1 (ln (de q)) d1) ∧ w'.cell? ⟨w.heap.size + 1, 0, none⟩ = some (.int .i64 (sg (nu r))) ∧ w'.cell? ⟨w.heap.size + 1, 1, none⟩ = some (.slice a2 (ln (nu r)) c2) ∧ w'.cell? ⟨w.heap.size + 1, 2, none⟩ = some (.int .i64 (sg (de r))) ∧ w'.cell? ⟨w.heap.size + 1, 3, none⟩ = some (.slice b2 (ln (de r)) d2) ∧ w'.cell? ⟨w.heap.size + 1 + 1, 0, none⟩ = some (.int .i64 0) ∧ w'.cell? ⟨w.heap.size + 1 + 1, 1, none⟩ = some (.slice none 0 0) ∧ w'.cell? ⟨w.heap.size + 1 + 1, 2, none⟩ = some (.int .i64 0) ∧ w'.cell? ⟨w.heap.size + 1 + 1, 3, none⟩ = some (.slice none 0 0) ∧ Below w2.heap.size w2 w') := fun w' h => ((K0.out.keep h).t4 ((K1.out.keep h).t4 ((K2.out.keep h).t4 (h))))
    have hs0 : Below w2.heap.size w2 w2.drew := (Below.refl _ _).drew
    have HS0 : Hid (Below w2.heap.size w2 w2.drew) := (Below.refl _ _).drew
    have tok0 : True := trivial
    have tok1 : True := trivial
    have tok2 : True := trivial
    go_region_held3 (fun w' => w'.cell? ⟨w.heap.size, 0, none⟩ = some (.int .i64 (sg (nu q))) ∧ w'.cell? ⟨w.heap.size, 1, none⟩ = some (.slice a1 (ln (nu q)) c1) ∧ w'.cell? ⟨w.heap.size, 2, none⟩ = some (.int .i64 (sg (de q))) ∧ w'.cell? ⟨w.heap.size, 3, none⟩ = some (.slice b1 (ln (de q)) d1) ∧ w'.cell? ⟨w.heap.size + 1, 0, none⟩ = some (.int .i64 (sg (nu r))) ∧ w'.cell? ⟨w.heap.size + 1, 1, none⟩ = some (.slice a2 (ln (nu r)) c2) ∧ w'.cell? ⟨w.heap.size + 1, 2, none⟩ = some (.int .i64 (sg (de r))) ∧ w'.cell? ⟨w.heap.size + 1, 3, none⟩ = some (.slice b2 (ln (de r)) d2) ∧ w'.cell? ⟨w.heap.size + 1 + 1, 0, none⟩ = some (.int .i64 0) ∧ w'.cell? ⟨w.heap.size + 1 + 1, 1, none⟩ = some (.slice none 0 0) ∧ w'.cell? ⟨w.heap.size + 1 + 1, 2, none⟩ = some (.int .i64 0) ∧ w'.cell? ⟨w.heap.size + 1 + 1, 3, none⟩ = some (.slice none 0 0) ∧ Below w2.heap.size w2 w')
      (first | exact mk.out _ (by assumption) | exact mk.out _ (Below.alloc (by assumption) (Below.size (by assumption)) _) | exact mk.out _ (Below.setCell (Below.setCell (by assumption) hlA _) hlA _))
      (first
        | (go_at_call 52; have _t := tok0; refine (times_ok (x := nu q) (y := de r) (H1.out.keep (Below.alloc HS0.out (Below.size HS0.out) _)).n (H2.out.keep (Below.alloc HS0.out (Below.size HS0.out) _)).d (HX.out.1.mono (by omega)) (HY.out.2.mono (by omega))).mono ?_; rintro e w3 ⟨a3, c3, rfl, hd3, hb⟩; clear tok0 _t; have hlA : w2.heap.size ≤ w2.heap.size := HS0.out.size; have KP : Hid (Bx w3 w2.heap.size 24 #[.int .i64 0, .slice none 0 0]) := (Bx.new w2.drew 24 #[.int .i64 0, .slice none 0 0]).keep hb; have ne0 : w.heap.size < w2.heap.size := (K0.out.keep HS0.out).lt; have ne1 : w.heap.size + 1 < w2.heap.size := (K1.out.keep HS0.out).lt; have ne2 : w.heap.size + 1 + 1 < w2.heap.size := (K2.out.keep HS0.out).lt; have hs1 := below_call (Below.alloc hs0 (Below.size hs0) _) hb; have HS1 := Lib.hid (below_call (Below.alloc HS0.out (Below.size HS0.out) _) hb); clear hb; have Hd3 := Lib.hid hd3; clear hd3)
        | (go_at_call 52; have _t := tok0; refine (times_ok (x := nu q) (y := de r) (H1.out.keep HS0.out).n (H2.out.keep HS0.out).d (HX.out.1.mono (by omega)) (HY.out.2.mono (by omega))).mono ?_; rintro e w3 ⟨a3, c3, rfl, hd3, hb⟩; clear tok0 _t; have hs1 := below_call hs0 hb; have HS1 := Lib.hid (below_call HS0.out hb); clear hb; have Hd3 := Lib.hid hd3; clear hd3)
        | (go_at_call 52; have _t := tok1; refine (times_ok (x := nu r) (y := de q) (H2.out.keep (Below.alloc HS1.out (Below.size HS1.out) _)).n (H1.out.keep (Below.alloc HS1.out (Below.size HS1.out) _)).d (HY.out.1.mono (by omega)) (HX.out.2.mono (by omega))).mono ?_; rintro e w4 ⟨a4, c4, rfl, hd4, hb⟩; clear tok1 _t; have hlA : w2.heap.size ≤ w3.heap.size := HS1.out.size; have KP : Hid (Bx w4 w3.heap.size 24 #[.int .i64 0, .slice none 0 0]) := (Bx.new w3 24 #[.int .i64 0, .slice none 0 0]).keep hb; have ne0 : w.heap.size < w3.heap.size := (K0.out.keep HS1.out).lt; have ne1 : w.heap.size + 1 < w3.heap.size := (K1.out.keep HS1.out).lt; have ne2 : w.heap.size + 1 + 1 < w3.heap.size := (K2.out.keep HS1.out).lt; have hs2 := below_call (Below.alloc hs1 (Below.size hs1) _) hb; have HS2 := Lib.hid (below_call (Below.alloc HS1.out (Below.size HS1.out) _) hb); have Hd3 := Lib.hid (Hd3.out.keep (below_call (below_alloc _ _) hb)); clear hb; have Hd4 := Lib.hid hd4; clear hd4)
        | (go_at_call 52; have _t := tok1; refine (times_ok (x := nu r) (y := de q) (H2.out.keep HS1.out).n (H1.out.keep HS1.out).d (HY.out.1.mono (by omega)) (HX.out.2.mono (by omega))).mono ?_; rintro e w4 ⟨a4, c4, rfl, hd4, hb⟩; clear tok1 _t; (try (have KP := Lib.hid (KP.out.keep hb))); have hs2 := below_call hs1 hb; have HS2 := Lib.hid (below_call HS1.out hb); have Hd3 := Lib.hid (Hd3.out.keep hb); clear hb; have Hd4 := Lib.hid hd4; clear hd4)
        | (go_at_call 49; have _t := tok2; refine (bigAdd_ok (Hd3.out.keep (below_alloc _ _)) (Hd4.out.keep (below_alloc _ _)) ((HX.out.1.mul HY.out.2).mono (by omega)) ((HY.out.1.mul HX.out.2).mono (by omega))).mono ?_; rintro e w5 ⟨a5, c5, rfl, hd5, hb⟩; clear tok2 _t; have hlA : w2.heap.size ≤ w4.heap.size := HS2.out.size; have KP : Hid (Bx w5 w4.heap.size 24 #[.int .i64 0, .slice none 0 0]) := (Bx.new w4 24 #[.int .i64 0, .slice none 0 0]).keep hb; have ne0 : w.heap.size < w4.heap.size := (K0.out.keep HS2.out).lt; have ne1 : w.heap.size + 1 < w4.heap.size := (K1.out.keep HS2.out).lt; have ne2 : w.heap.size + 1 + 1 < w4.heap.size := (K2.out.keep HS2.out).lt; (try (obtain ⟨pA, qA⟩ := KP.out.at)); have hs3 := below_call (Below.alloc hs2 (Below.size hs2) _) hb; have HS3 := Lib.hid (below_call (Below.alloc HS2.out (Below.size HS2.out) _) hb); have Hd3 := Lib.hid (Hd3.out.keep (below_call (below_alloc _ _) hb)); have Hd4 := Lib.hid (Hd4.out.keep (below_call (below_alloc _ _) hb)); clear hb; have Hd5 := Lib.hid hd5; clear hd5)
        | (go_at_call 49; have _t := tok2; refine (bigAdd_ok Hd3.out Hd4.out ((HX.out.1.mul HY.out.2).mono (by omega)) ((HY.out.1.mul HX.out.2).mono (by omega))).mono ?_; rintro e w5 ⟨a5, c5, rfl, hd5, hb⟩; clear tok2 _t; (try (have KP := Lib.hid (KP.out.keep hb))); (try (obtain ⟨pA, qA⟩ := KP.out.at)); have hs3 := below_call hs2 hb; have HS3 := Lib.hid (below_call HS2.out hb); have Hd3 := Lib.hid (Hd3.out.keep hb); have Hd4 := Lib.hid (Hd4.out.keep hb); clear hb; have Hd5 := Lib.hid hd5; clear hd5))
    all_goals (go_wp2_with fail)
    all_goals go_meet
    all_goals first
      | (exact ⟨_, a5, c5, rfl, Bx.new _ _ _, (K0.out.keep HS3.out).keep (below_alloc _ _), (K1.out.keep HS3.out).keep (below_alloc _ _), (K2.out.keep HS3.out).keep (below_alloc _ _), Hd5.out.keep (below_alloc _ _), (H1.out.keep HS3.out).keep (below_alloc _ _), (H2.out.keep HS3.out).keep (below_alloc _ _), below_call HB.out (below_call HS3.out (below_alloc _ _)), (K2.out.keep HS3.out).lt⟩)
      | ((have hA : w.heap.size ≤ w2.heap.size := by (have := ne0; omega)); have og := only_setCell (o := 1) (only_setCell (o := 0) (World.grownBy.refl w5 (some w2.heap.size)) (.int .i64 (sg (nu q * de r + nu r * de q)))) (.slice a5 (ln (nu q * de r + nu r * de q)) c5); exact ⟨_, a5, c5, rfl, KP.out.set2 _ _, (K0.out.keep HS3.out).only og (by omega), (K1.out.keep HS3.out).only og (by omega), (K2.out.keep HS3.out).only og (by omega), Hd5.out.far0 KP.out zb2 og, (H1.out.keep HS3.out).far0 KP.out zb2 og, (H2.out.keep HS3.out).far0 KP.out zb2 og, (Below.setCell (Below.setCell (below_call HB.out HS3.out) hA _) hA _), ne2⟩)
      | ((have hA : w.heap.size ≤ w3.heap.size := by (have := ne0; omega)); have og := only_setCell (o := 1) (only_setCell (o := 0) (World.grownBy.refl w5 (some w3.heap.size)) (.int .i64 (sg (nu q * de r + nu r * de q)))) (.slice a5 (ln (nu q * de r + nu r * de q)) c5); exact ⟨_, a5, c5, rfl, KP.out.set2 _ _, (K0.out.keep HS3.out).only og (by omega), (K1.out.keep HS3.out).only og (by omega), (K2.out.keep HS3.out).only og (by omega), Hd5.out.far0 KP.out zb2 og, (H1.out.keep HS3.out).far0 KP.out zb2 og, (H2.out.keep HS3.out).far0 KP.out zb2 og, (Below.setCell (Below.setCell (below_call HB.out HS3.out) hA _) hA _), ne2⟩)
      | ((have hA : w.heap.size ≤ w4.heap.size := by (have := ne0; omega)); have og := only_setCell (o := 1) (only_setCell (o := 0) (World.grownBy.refl w5 (some w4.heap.size)) (.int .i64 (sg (nu q * de r + nu r * de q)))) (.slice a5 (ln (nu q * de r + nu r * de q)) c5); exact ⟨_, a5, c5, rfl, KP.out.set2 _ _, (K0.out.keep HS3.out).only og (by omega), (K1.out.keep HS3.out).only og (by omega), (K2.out.keep HS3.out).only og (by omega), Hd5.out.far0 KP.out zb2 og, (H1.out.keep HS3.out).far0 KP.out zb2 og, (H2.out.keep HS3.out).far0 KP.out zb2 og, (Below.setCell (Below.setCell (below_call HB.out HS3.out) hA _) hA _), ne2⟩)
  case rest =>
    obtain ⟨A, a5, c5, rfl, KA, K0, K1, K2, Hd5, H1, H2, HB, hltA⟩ := hcut
    obtain ⟨w6, rfl⟩ : ∃ x, x = wc := ⟨_, rfl⟩
    have K3 := KA; clear KA
    refine K0.out.w4 fun aa ab ac ad ae af ag ah z0 => ?_
    refine K1.out.w4 fun ai aj ak al am ao ap aq z1 => ?_
    refine K2.out.w4 fun ar au av aw ax ay az ba z2 => ?_
    refine K3.out.w2 fun bb bc bd bf z3 => ?_
    go_wp2_with fail
    clear aa ab ac ad ae af ag ah z0 ai aj ak al am ao ap aq z1 ar au av aw ax ay az ba z2 bb bc bd bf z3
    have mk : Hid (∀ w', w6.grownBy w' (some (w.heap.size + 1 + 1)) → w'.cell? ⟨w.heap.size, 0, none⟩ = some (.int .i64 (sg (nu q))) ∧ w'.cell? ⟨w.heap.size, 1, none⟩ = some (.slice a1 (ln (nu q)) c1) ∧ w'.cell? ⟨w.heap.size, 2, none⟩ = some (.int .i64 (sg (de q))) ∧ w'.cell? ⟨w.heap.size, 3, none⟩ = some (.slice b1 (ln (de q)) d1) ∧ w'.cell? ⟨w.heap.size + 1, 0, none⟩ = some (.int .i64 (sg (nu r))) ∧ w'.cell? ⟨w.heap.size + 1, 1, none⟩ = some (.slice a2 (ln (nu r)) c2) ∧ w'.cell? ⟨w.heap.size + 1, 2, none⟩ = some (.int .i64 (sg (de r))) ∧ w'.cell? ⟨w.heap.size + 1, 3, none⟩ = some (.slice b2 (ln (de r)) d2) ∧ w'.cell? ⟨A, 0, none⟩ = some (.int .i64 (sg (nu q * de r + nu r * de q))) ∧ w'.cell? ⟨A, 1, none⟩ = some (.slice a5 (ln (nu q * de r + nu r * de q)) c5) ∧ w6.grownBy w' (some (w.heap.size + 1 + 1))) := fun w' h => ((K0.out.only h (by omega)).t4 ((K1.out.only h (by omega)).t4 ((K3.out.only h (by omega)).t2 (h))))
    have hs0 : w6.grownBy w6.drew (some (w.heap.size + 1 + 1)) := only_start _ _
    have HS0 : Hid (Below w6.heap.size w6 w6.drew) := (Below.refl _ _).drew
    have tok0 : True := trivial
    have tok1 : True := trivial
    go_region_held3 (fun w' => w'.cell? ⟨w.heap.size, 0, none⟩ = some (.int .i64 (sg (nu q))) ∧ w'.cell? ⟨w.heap.size, 1, none⟩ = some (.slice a1 (ln (nu q)) c1) ∧ w'.cell? ⟨w.heap.size, 2, none⟩ = some (.int .i64 (sg (de q))) ∧ w'.cell? ⟨w.heap.size, 3, none⟩ = some (.slice b1 (ln (de q)) d1) ∧ w'.cell? ⟨w.heap.size + 1, 0, none⟩ = some (.int .i64 (sg (nu r))) ∧ w'.cell? ⟨w.heap.size + 1, 1, none⟩ = some (.slice a2 (ln (nu r)) c2) ∧ w'.cell? ⟨w.heap.size + 1, 2, none⟩ = some (.int .i64 (sg (de r))) ∧ w'.cell? ⟨w.heap.size + 1, 3, none⟩ = some (.slice b2 (ln (de r)) d2) ∧ w'.cell? ⟨A, 0, none⟩ = some (.int .i64 (sg (nu q * de r + nu r * de q))) ∧ w'.cell? ⟨A, 1, none⟩ = some (.slice a5 (ln (nu q * de r + nu r * de q)) c5) ∧ w6.grownBy w' (some (w.heap.size + 1 + 1)))
      (first | exact mk.out _ (by assumption) | exact mk.out _ (only_setCell (only_setCell (only_setCell (only_setCell (by assumption) _) _) _) _) | exact mk.out _ (only_alloc (by assumption) _))
      (first
        | (go_at_call 52; have _t := tok0; refine (times_ok (x := de q) (y := de r) (H1.out.keep HS0.out).d (H2.out.keep HS0.out).d (HX.out.2.mono (by omega)) (HY.out.2.mono (by omega))).mono ?_; rintro e w7 ⟨a7, c7, rfl, hd7, hb⟩; clear tok0 _t; have hs1 := only_call hs0 hb; have HS1 := Lib.hid (below_call HS0.out hb); clear hb; have Hd7 := Lib.hid hd7; clear hd7)
        | (go_at_call 23; have _t := tok1; refine (new_pos (Hd5.out.keep HS1.out) Hd7.out (((HX.out.1.mul HY.out.2).add (((HY.out.1.mul HX.out.2).mono (by omega)))).mono (by omega)) ((HX.out.2.mul HY.out.2).mono (by omega)) (Int.mul_pos (de_pos q) (de_pos r))).mono ?_; rintro e w8 ⟨a8, c8, b8, d8, rfl, hf8, hb⟩; clear tok1 _t; have hs2 := only_call hs1 hb; have HS2 := Lib.hid (below_call HS1.out hb); have Hd7 := Lib.hid (Hd7.out.keep hb); clear hb; have Hf8 := Lib.hid hf8; clear hf8; obtain ⟨p2, q2⟩ := (K2.out.keep HS2.out).at))
    replace K0 := Lib.hid (K0.out.keep HS2.out)
    replace K1 := Lib.hid (K1.out.keep HS2.out)
    replace K2 := Lib.hid (K2.out.keep HS2.out)
    replace K3 := Lib.hid (K3.out.keep HS2.out)
    replace HB := Lib.hid (below_call HB.out HS2.out)
    replace H1 := Lib.hid (H1.out.keep HS2.out)
    replace H2 := Lib.hid (H2.out.keep HS2.out)
    replace Hd5 := Lib.hid (Hd5.out.keep HS2.out)
    clear mk hs0 HS0 hs1 HS1 hs2 HS2  p2 q2
    rw [HQR.out]
    go_wp2_with fail
    rw [HQR.out] at Hf8
    refine bodyPost_ret (results_box2 rfl _ _ (w.heap.size + 1 + 1) 26 _ _ _ rfl (K2.out.set4 _ _ _ _) Tryz.underlying26 rfl (by kernel_rfl)) rfl ?_
    refine ⟨a8, c8, b8, d8, rfl, ?_, ?_⟩
    · exact (Hf8.out.far0 K2.out zb4 (only_setCell (only_setCell (only_setCell (only_setCell (World.grownBy.refl _ _) _) _) _) _))
    · exact (Below.setCell (Below.setCell (Below.setCell (Below.setCell HB.out (by simp; try omega) _) (by simp; try omega) _) (by simp; try omega) _) (by simp; try omega) _)
end Go.Proofs.YtcfmakpckdicjaaGreatDoor
namespace Go.Proofs.YtcfmakpckdicjaaGreatDoor
open Go.RowKit
variable {G : Nat}

theorem fracAdd_neg {q r : Rat} {a1 b1 a2 b2 : Option Addr} {c1 d1 c2 d2 : Nat} {w : World} (h1 : FD G w a1 c1 b1 d1 q) (hn : BD G w a2 c2 (-nu r)) (hd : BD G w b2 d2 (de r)) (hx : Fz q 137438953472) (hy : Fz r 137438953472) :
  Calls Tryz.prog 10 #[.agg #[.int .i64 (sg (nu q)), .slice a1 (ln (nu q)) c1, .int .i64 (sg (de q)), .slice b1 (ln (de q)) d1], .agg #[.int .i64 (sg (-nu r)), .slice a2 (ln (-nu r)) c2, .int .i64 (sg (de r)), .slice b2 (ln (de r)) d2]] w fun e w' => ∃ a c b d, e = .returned (.tuple #[.agg #[.int .i64 (sg (nu (q - r))), .slice a (ln (nu (q - r))) c, .int .i64 (sg (de (q - r))), .slice b (ln (de (q - r))) d], .int .i64 0]) ∧ FD G w' a c b d (q - r) ∧ Below w.heap.size w w' := by
 rw [Rat.sub_eq_add_neg]
 exact fracAdd_ok (r := -r) h1 ⟨hn, hd⟩ hx ⟨hy.1.neg, hy.2⟩
def ordQ (q r : Rat) : Int := if q < r then -1 else if r < q then 1 else 0
theorem ord_parts (q r : Rat) : ord (nu q * de r) (nu r * de q) = ordQ q r := by
 unfold ord ordQ
 simp only [Rat.lt_iff]
 rfl
set_option maxRecDepth 100000 in
set_option maxHeartbeats 4000000 in
theorem fracSub_ok {q r : Rat} {a1 b1 a2 b2 : Option Addr} {c1 d1 c2 d2 : Nat} {w : World} (h1 : FD G w a1 c1 b1 d1 q) (h2 : FD G w a2 c2 b2 d2 r) (hx : Fz q 137438953472) (hy : Fz r 137438953472) :
    Calls Tryz.prog 12 #[.agg #[.int .i64 (sg (nu q)), .slice a1 (ln (nu q)) c1, .int .i64 (sg (de q)), .slice b1 (ln (de q)) d1], .agg #[.int .i64 (sg (nu r)), .slice a2 (ln (nu r)) c2, .int .i64 (sg (de r)), .slice b2 (ln (de r)) d2]] w fun e w' => ∃ a c b d, e = .returned (.tuple #[.agg #[.int .i64 (sg (nu (q - r))), .slice a (ln (nu (q - r))) c, .int .i64 (sg (de (q - r))), .slice b (ln (de (q - r))) d], .int .i64 0]) ∧ FD G w' a c b d (q - r) ∧ Below w.heap.size w w' := by
  have HX := Lib.hid hx
  have HY := Lib.hid hy
  have H1 := Lib.hid h1
  have H2 := Lib.hid h2
  clear hx hy h1 h2

  go_enter Tryz.func12, Tryz.ntmps12
  go_wp2_with fail
  refine (fracRight_ok (q := q) (H1.out.keep (by go_grown)) (HX.out.mono (by omega))).mono ?_
  rintro e w1 ⟨rfl, hb⟩
  have hbx := bx3 w 26 26 26 #[.int .i64 (sg (nu q)), .slice a1 (ln (nu q)) c1, .int .i64 (sg (de q)), .slice b1 (ln (de q)) d1] #[.int .i64 (sg (nu r)), .slice a2 (ln (nu r)) c2, .int .i64 (sg (de r)), .slice b2 (ln (de r)) d2] #[.int .i64 0, .slice none 0 0, .int .i64 0, .slice none 0 0]
  obtain ⟨k0, k1, k2⟩ := hbx
  have K0 := Lib.hid (k0.keep hb)
  have K1 := Lib.hid (k1.keep hb)
  have K2 := Lib.hid (k2.keep hb)
  clear k0 k1 k2
  have hb' : Below w.heap.size w w1 := below_call (by go_grown) hb
  have HB := Lib.hid hb'
  replace H1 := Lib.hid (H1.out.keep hb')
  replace H2 := Lib.hid (H2.out.keep hb')
  clear hb hb'
  refine K0.out.w4 fun aa ab ac ad ae af ag ah z0 => ?_
  refine K1.out.w4 fun ai aj ak al am ao ap aq z1 => ?_
  refine K2.out.w4 fun ar au av aw ax ay az ba z2 => ?_
  go_wp2_with fail
  refine (fracRight_ok (q := r) (H2.out.keep (by go_grown)) (HY.out.mono (by omega))).mono ?_
  rintro e w2 ⟨rfl, hb⟩
  clear aa ab ac ad ae af ag ah z0 ai aj ak al am ao ap aq z1 ar au av aw ax ay az ba z2
  have hb' := below_call (w1 := w1) (by go_grown) hb
  replace K0 := Lib.hid (K0.out.keep hb')
  replace K1 := Lib.hid (K1.out.keep hb')
  replace K2 := Lib.hid (K2.out.keep hb')
  replace HB := Lib.hid (below_call HB.out hb')
  replace H1 := Lib.hid (H1.out.keep hb')
  replace H2 := Lib.hid (H2.out.keep hb')
  clear hb hb'
  refine K0.out.w4 fun aa ab ac ad ae af ag ah z0 => ?_
  refine K1.out.w4 fun ai aj ak al am ao ap aq z1 => ?_
  refine K2.out.w4 fun ar au av aw ax ay az ba z2 => ?_
  go_wp2_with fail
  clear aa ab ac ad ae af ag ah z0 ai aj ak al am ao ap aq z1 ar au av aw ax ay az ba z2
  have mk : Hid (∀ w', w2.grownBy w' (some (w.heap.size + 1 + 1)) → w'.cell? ⟨w.heap.size, 0, none⟩ = some (.int .i64 (sg (nu q))) ∧ w'.cell? ⟨w.heap.size, 1, none⟩ = some (.slice a1 (ln (nu q)) c1) ∧ w'.cell? ⟨w.heap.size, 2, none⟩ = some (.int .i64 (sg (de q))) ∧ w'.cell? ⟨w.heap.size, 3, none⟩ = some (.slice b1 (ln (de q)) d1) ∧ w'.cell? ⟨w.heap.size + 1, 0, none⟩ = some (.int .i64 (sg (nu r))) ∧ w'.cell? ⟨w.heap.size + 1, 1, none⟩ = some (.slice a2 (ln (nu r)) c2) ∧ w'.cell? ⟨w.heap.size + 1, 2, none⟩ = some (.int .i64 (sg (de r))) ∧ w'.cell? ⟨w.heap.size + 1, 3, none⟩ = some (.slice b2 (ln (de r)) d2) ∧ w2.grownBy w' (some (w.heap.size + 1 + 1))) := fun w' h => ((K0.out.only h (by omega)).t4 ((K1.out.only h (by omega)).t4 (h)))
  have hs0 : w2.grownBy w2.drew (some (w.heap.size + 1 + 1)) := only_start _ _
  have HS0 : Hid (Below w2.heap.size w2 w2.drew) := (Below.refl _ _).drew
  have tok0 : True := trivial
  have tok1 : True := trivial
  go_region_held3 (fun w' => w'.cell? ⟨w.heap.size, 0, none⟩ = some (.int .i64 (sg (nu q))) ∧ w'.cell? ⟨w.heap.size, 1, none⟩ = some (.slice a1 (ln (nu q)) c1) ∧ w'.cell? ⟨w.heap.size, 2, none⟩ = some (.int .i64 (sg (de q))) ∧ w'.cell? ⟨w.heap.size, 3, none⟩ = some (.slice b1 (ln (de q)) d1) ∧ w'.cell? ⟨w.heap.size + 1, 0, none⟩ = some (.int .i64 (sg (nu r))) ∧ w'.cell? ⟨w.heap.size + 1, 1, none⟩ = some (.slice a2 (ln (nu r)) c2) ∧ w'.cell? ⟨w.heap.size + 1, 2, none⟩ = some (.int .i64 (sg (de r))) ∧ w'.cell? ⟨w.heap.size + 1, 3, none⟩ = some (.slice b2 (ln (de r)) d2) ∧ w2.grownBy w' (some (w.heap.size + 1 + 1)))
    (first | exact mk.out _ (by assumption) | exact mk.out _ (only_setCell (only_setCell (only_setCell (only_setCell (by assumption) _) _) _) _) | exact mk.out _ (only_alloc (by assumption) _))
    (first
      | (go_at_call 50; have _t := tok0; refine (bigNeg_ok (H2.out.keep HS0.out).n (HY.out.1.mono (by omega))).mono ?_; rintro e w3 ⟨a3, c3, rfl, hd3, hb⟩; clear tok0 _t; have hs1 := only_call hs0 hb; have HS1 := Lib.hid (below_call HS0.out hb); clear hb; have Hd3 := Lib.hid hd3; clear hd3)
      | (go_at_call 10; have _t := tok1; refine (fracAdd_neg (H1.out.keep HS1.out) Hd3.out (H2.out.keep HS1.out).d HX.out HY.out).mono ?_; rintro e w4 ⟨a4, c4, b4, d4, rfl, hf4, hb⟩; clear tok1 _t; have hs2 := only_call hs1 hb; have HS2 := Lib.hid (below_call HS1.out hb); have Hd3 := Lib.hid (Hd3.out.keep hb); clear hb; have Hf4 := Lib.hid hf4; clear hf4; obtain ⟨p2, q2⟩ := (K2.out.keep HS2.out).at))
  replace K0 := Lib.hid (K0.out.keep HS2.out)
  replace K1 := Lib.hid (K1.out.keep HS2.out)
  replace K2 := Lib.hid (K2.out.keep HS2.out)
  replace HB := Lib.hid (below_call HB.out HS2.out)
  replace H1 := Lib.hid (H1.out.keep HS2.out)
  replace H2 := Lib.hid (H2.out.keep HS2.out)
  clear mk hs0 HS0 hs1 HS1 hs2 HS2  p2 q2
  go_wp2_with fail
  refine bodyPost_ret (results_box2 rfl _ _ (w.heap.size + 1 + 1) 26 _ _ _ rfl (K2.out.set4 _ _ _ _) Tryz.underlying26 rfl (by kernel_rfl)) rfl ?_
  refine ⟨a4, c4, b4, d4, rfl, ?_, ?_⟩
  · exact (Hf4.out.far0 K2.out zb4 (only_setCell (only_setCell (only_setCell (only_setCell (World.grownBy.refl _ _) _) _) _) _))
  · exact (Below.setCell (Below.setCell (Below.setCell (Below.setCell HB.out (by simp; try omega) _) (by simp; try omega) _) (by simp; try omega) _) (by simp; try omega) _)
set_option maxRecDepth 100000 in
set_option maxHeartbeats 4000000 in
theorem fracCompare_ok {q r : Rat} {a1 b1 a2 b2 : Option Addr} {c1 d1 c2 d2 : Nat} {w : World} (h1 : FD G w a1 c1 b1 d1 q) (h2 : FD G w a2 c2 b2 d2 r) (hx : Fz q 137438953472) (hy : Fz r 137438953472) :
  Calls Tryz.prog 27 #[.agg #[.int .i64 (sg (nu q)), .slice a1 (ln (nu q)) c1, .int .i64 (sg (de q)), .slice b1 (ln (de q)) d1], .agg #[.int .i64 (sg (nu r)), .slice a2 (ln (nu r)) c2, .int .i64 (sg (de r)), .slice b2 (ln (de r)) d2]] w fun e w' => e = .returned (.int .i64 (ordQ q r)) ∧ Below w.heap.size w w' := by
 have HX := Lib.hid hx
 have HY := Lib.hid hy
 have H1 := Lib.hid h1
 have H2 := Lib.hid h2
 clear hx hy h1 h2

 go_enter Tryz.func27, Tryz.ntmps27
 go_wp2_with fail
 refine (fracRight_ok (q := q) (H1.out.keep (by go_grown)) (HX.out.mono (by omega))).mono ?_
 rintro e w1 ⟨rfl, hb⟩
 have hbx := bx2 w 26 26 #[.int .i64 (sg (nu q)), .slice a1 (ln (nu q)) c1, .int .i64 (sg (de q)), .slice b1 (ln (de q)) d1] #[.int .i64 (sg (nu r)), .slice a2 (ln (nu r)) c2, .int .i64 (sg (de r)), .slice b2 (ln (de r)) d2]
 obtain ⟨k0, k1⟩ := hbx
 have K0 := Lib.hid (k0.keep hb)
 have K1 := Lib.hid (k1.keep hb)
 clear k0 k1
 have hb' : Below w.heap.size w w1 := below_call (by go_grown) hb
 have HB := Lib.hid hb'
 replace H1 := Lib.hid (H1.out.keep hb')
 replace H2 := Lib.hid (H2.out.keep hb')
 clear hb hb'
 refine K0.out.w4 fun aa ab ac ad ae af ag ah z0 => ?_
 refine K1.out.w4 fun ai aj ak al am ao ap aq z1 => ?_
 go_wp2_with fail
 refine (fracRight_ok (q := r) (H2.out.keep (by go_grown)) (HY.out.mono (by omega))).mono ?_
 rintro e w2 ⟨rfl, hb⟩
 clear aa ab ac ad ae af ag ah z0 ai aj ak al am ao ap aq z1
 have hb' := below_call (w1 := w1) (by go_grown) hb
 replace K0 := Lib.hid (K0.out.keep hb')
 replace K1 := Lib.hid (K1.out.keep hb')
 replace HB := Lib.hid (below_call HB.out hb')
 replace H1 := Lib.hid (H1.out.keep hb')
 replace H2 := Lib.hid (H2.out.keep hb')
 clear hb hb'
 refine K0.out.w4 fun aa ab ac ad ae af ag ah z0 => ?_
 refine K1.out.w4 fun ai aj ak al am ao ap aq z1 => ?_
 go_wp2_with fail
 clear aa ab ac ad ae af ag ah z0 ai aj ak al am ao ap aq z1
 have mk : Hid (∀ w', Below w2.heap.size w2 w' → w'.cell? ⟨w.heap.size, 0, none⟩ = some (.int .i64 (sg (nu q))) ∧ w'.cell? ⟨w.heap.size, 1, none⟩ = some (.slice a1 (ln (nu q)) c1) ∧ w'.cell? ⟨w.heap.size, 2, none⟩ = some (.int .i64 (sg (de q))) ∧ w'.cell? ⟨w.heap.size, 3, none⟩ = some (.slice b1 (ln (de q)) d1) ∧ w'.cell? ⟨w.heap.size + 1, 0, none⟩ = some (.int .i64 (sg (nu r))) ∧ w'.cell? ⟨w.heap.size + 1, 1, none⟩ = some (.slice a2 (ln (nu r)) c2) ∧ w'.cell? ⟨w.heap.size + 1, 2, none⟩ = some (.int .i64 (sg (de r))) ∧ w'.cell? ⟨w.heap.size + 1, 3, none⟩ = some (.slice b2 (ln (de r)) d2) ∧ Below w2.heap.size w2 w') := fun w' h => ((K0.out.keep h).t4 ((K1.out.keep h).t4 (h)))
 have hs0 : Below w2.heap.size w2 w2.drew := (Below.refl _ _).drew
 have HS0 : Hid (Below w2.heap.size w2 w2.drew) := (Below.refl _ _).drew
 have tok0 : True := trivial
 have tok1 : True := trivial
 have tok2 : True := trivial
 go_region_held3 (fun w' => w'.cell? ⟨w.heap.size, 0, none⟩ = some (.int .i64 (sg (nu q))) ∧ w'.cell? ⟨w.heap.size, 1, none⟩ = some (.slice a1 (ln (nu q)) c1) ∧ w'.cell? ⟨w.heap.size, 2, none⟩ = some (.int .i64 (sg (de q))) ∧ w'.cell? ⟨w.heap.size, 3, none⟩ = some (.slice b1 (ln (de q)) d1) ∧ w'.cell? ⟨w.heap.size + 1, 0, none⟩ = some (.int .i64 (sg (nu r))) ∧ w'.cell? ⟨w.heap.size + 1, 1, none⟩ = some (.slice a2 (ln (nu r)) c2) ∧ w'.cell? ⟨w.heap.size + 1, 2, none⟩ = some (.int .i64 (sg (de r))) ∧ w'.cell? ⟨w.heap.size + 1, 3, none⟩ = some (.slice b2 (ln (de r)) d2) ∧ Below w2.heap.size w2 w')
  (first | exact mk.out _ (by assumption) | exact mk.out _ (Below.alloc (by assumption) (Below.size (by assumption)) _))
  (first
   | (go_at_call 52; have _t := tok0; refine (times_ok (x := nu q) (y := de r) (H1.out.keep HS0.out).n (H2.out.keep HS0.out).d (HX.out.1.mono (by omega)) (HY.out.2.mono (by omega))).mono ?_; rintro e w3 ⟨a3, c3, rfl, hd3, hb⟩; clear tok0 _t; have hs1 := below_call hs0 hb; have HS1 := Lib.hid (below_call HS0.out hb); clear hb; have Hd3 := Lib.hid hd3; clear hd3)
   | (go_at_call 52; have _t := tok1; refine (times_ok (x := nu r) (y := de q) (H2.out.keep HS1.out).n (H1.out.keep HS1.out).d (HY.out.1.mono (by omega)) (HX.out.2.mono (by omega))).mono ?_; rintro e w4 ⟨a4, c4, rfl, hd4, hb⟩; clear tok1 _t; have hs2 := below_call hs1 hb; have HS2 := Lib.hid (below_call HS1.out hb); have Hd3 := Lib.hid (Hd3.out.keep hb); clear hb; have Hd4 := Lib.hid hd4; clear hd4)
   | (go_at_call 69; have _t := tok2; refine (bigCompare_ok Hd3.out Hd4.out ((HX.out.1.mul HY.out.2).mono (by omega)) ((HY.out.1.mul HX.out.2).mono (by omega))).mono ?_; rintro e w5 ⟨rfl, hb⟩; clear tok2 _t; have hs3 := below_call hs2 hb; have HS3 := Lib.hid (below_call HS2.out hb); have Hd3 := Lib.hid (Hd3.out.keep hb); have Hd4 := Lib.hid (Hd4.out.keep hb); clear hb))
 replace K0 := Lib.hid (K0.out.keep HS3.out)
 replace K1 := Lib.hid (K1.out.keep HS3.out)
 replace HB := Lib.hid (below_call HB.out HS3.out)
 replace H1 := Lib.hid (H1.out.keep HS3.out)
 replace H2 := Lib.hid (H2.out.keep HS3.out)
 clear mk hs0 HS0 hs1 HS1 hs2 HS2 hs3 HS3
 refine K0.out.w4 fun aa ab ac ad ae af ag ah z0 => ?_
 refine K1.out.w4 fun ai aj ak al am ao ap aq z1 => ?_
 go_wp2_with fail
 go_ret
 exact ⟨ret_int (ord_parts q r), HB.out⟩
set_option maxRecDepth 100000 in
set_option maxHeartbeats 4000000 in
theorem slim_ok {x : Int} {a1 : Option Addr} {c1 : Nat} {w : World} (h1 : BD G w a1 c1 x) (hx : Sz x 549755813888) :
    Calls Tryz.prog 72 #[.agg #[.int .i64 (sg x), .slice a1 (ln x) c1]] w fun e w' => ∃ a c, e = .returned (.agg #[.int .i64 (sg x), .slice a (ln x) c]) ∧ BD G w' a c x ∧ Below w.heap.size w w' := by
  have HX := Lib.hid hx
  have H1 := Lib.hid h1
  have HN := Lib.hid (Int.neg_neg x)
  clear hx h1

  go_enter Tryz.func72, Tryz.ntmps72
  go_wp2_with fail
  refine (bigNeg_ok (H1.out.keep (by go_grown)) HX.out).mono ?_
  rintro e w1 ⟨a3, c3, rfl, hd3, hb⟩
  have hbx := bx2 w 24 24 #[.int .i64 (sg x), .slice a1 (ln x) c1] #[.int .i64 0, .slice none 0 0]
  obtain ⟨k0, k1⟩ := hbx
  have K0 := Lib.hid (k0.keep hb)
  have K1 := Lib.hid (k1.keep hb)
  clear k0 k1
  have hb' : Below w.heap.size w w1 := below_call (by go_grown) hb
  have HB := Lib.hid hb'
  replace H1 := Lib.hid (H1.out.keep hb')
  clear hb hb'
  have Hd3 := Lib.hid hd3; clear hd3
  refine K0.out.w2 fun aa ab ac ad z0 => ?_
  refine K1.out.w2 fun ae af ag ah z1 => ?_
  go_wp2_with fail
  refine (bigNeg_ok (Hd3.out.keep (by go_grown)) HX.out.neg).mono ?_
  rintro e w2 ⟨a4, c4, rfl, hd4, hb⟩
  clear aa ab ac ad z0 ae af ag ah z1
  have hb' := below_call (w1 := w1) (by go_grown) hb
  replace K0 := Lib.hid (K0.out.keep hb')
  replace K1 := Lib.hid (K1.out.keep hb')
  replace HB := Lib.hid (below_call HB.out hb')
  replace H1 := Lib.hid (H1.out.keep hb')
  replace Hd3 := Lib.hid (Hd3.out.keep hb')
  clear hb hb'
  have Hd4 := Lib.hid hd4; clear hd4
  refine K0.out.w2 fun aa ab ac ad z0 => ?_
  refine K1.out.w2 fun ae af ag ah z1 => ?_
  rw [HN.out] at Hd4 ⊢
  go_wp2_with fail
  clear aa ab ac ad z0 ae af ag ah z1
  refine bodyPost_ret (results_box1 rfl _ _ (w.heap.size + 1) 24 _ _ _ rfl (K1.out.set2 _ _) Tryz.underlying24 rfl (by kernel_rfl)) rfl ?_
  refine ⟨a4, c4, rfl, ?_, ?_⟩
  · exact (Hd4.out.far0 K1.out zb2 (only_setCell (only_setCell (World.grownBy.refl _ _) _) _))
  · exact (Below.setCell (Below.setCell HB.out (by simp; try omega) _) (by simp; try omega) _)
def pick (q r : Rat) (s : Int) : Rat := if ordQ q r * s < 0 then r else q
theorem ordQ_cases (q r : Rat) : ordQ q r = 1 ∨ ordQ q r = -1 ∨ ordQ q r = 0 := by unfold ordQ; split <;> (try split) <;> simp
theorem wrap_ordQ (q r : Rat) {s : Int} (h : s = 1 ∨ s = -1) : IntKind.i64.wrap (ordQ q r * s) = ordQ q r * s := by
 rcases ordQ_cases q r with h1 | h1 | h1 <;> rcases h with h2 | h2 <;> rw [h1, h2] <;> rfl
set_option maxRecDepth 100000 in
set_option maxHeartbeats 4000000 in
theorem either_fst {q r : Rat} {a1 b1 a2 b2 : Option Addr} {c1 d1 c2 d2 : Nat} {w : World} (h1 : FD G w a1 c1 b1 d1 q) (h2 : FD G w a2 c2 b2 d2 r) (hx : Fz q 137438953472) (hy : Fz r 137438953472) {s : Int} (hs : s = 1 ∨ s = -1) (hp : ¬ ordQ q r * s < 0) :
    Calls Tryz.prog 71 #[.agg #[.int .i64 (sg (nu q)), .slice a1 (ln (nu q)) c1, .int .i64 (sg (de q)), .slice b1 (ln (de q)) d1], .agg #[.int .i64 (sg (nu r)), .slice a2 (ln (nu r)) c2, .int .i64 (sg (de r)), .slice b2 (ln (de r)) d2], .int .i64 s] w fun e w' => ∃ a c b d, e = .returned (.tuple #[.agg #[.int .i64 (sg (nu q)), .slice a (ln (nu q)) c, .int .i64 (sg (de q)), .slice b (ln (de q)) d], .int .i64 0]) ∧ FD G w' a c b d q ∧ Below w.heap.size w w' := by
  have HX := Lib.hid hx
  have HY := Lib.hid hy
  have H1 := Lib.hid h1
  have H2 := Lib.hid h2
  clear hx hy h1 h2

  have H20 := H2
  have hws := wrap_ordQ q r hs
  have e1 : decide (ordQ q r * s < 0) = false := by rw [decide_eq_false_iff_not]; exact hp
  clear hp hs

  go_enter Tryz.func71, Tryz.ntmps71
  go_wp2_with fail
  refine (fracRight_ok (q := q) (H1.out.keep (by go_grown)) (HX.out.mono (by omega))).mono ?_
  rintro e w1 ⟨rfl, hb⟩
  have hbx := bx3 w 26 26 26 #[.int .i64 (sg (nu q)), .slice a1 (ln (nu q)) c1, .int .i64 (sg (de q)), .slice b1 (ln (de q)) d1] #[.int .i64 (sg (nu r)), .slice a2 (ln (nu r)) c2, .int .i64 (sg (de r)), .slice b2 (ln (de r)) d2] #[.int .i64 0, .slice none 0 0, .int .i64 0, .slice none 0 0]
  obtain ⟨k0, k1, k2⟩ := hbx
  have K0 := Lib.hid (k0.keep hb)
  have K1 := Lib.hid (k1.keep hb)
  have K2 := Lib.hid (k2.keep hb)
  clear k0 k1 k2
  have hb' : Below w.heap.size w w1 := below_call (by go_grown) hb
  have HB := Lib.hid hb'
  replace H1 := Lib.hid (H1.out.keep hb')
  replace H2 := Lib.hid (H2.out.keep hb')
  clear hb hb'
  refine K0.out.w4 fun aa ab ac ad ae af ag ah z0 => ?_
  refine K1.out.w4 fun ai aj ak al am ao ap aq z1 => ?_
  refine K2.out.w4 fun ar au av aw ax ay az ba z2 => ?_
  go_wp2_with fail
  refine (fracRight_ok (q := r) (H2.out.keep (by go_grown)) (HY.out.mono (by omega))).mono ?_
  rintro e w2 ⟨rfl, hb⟩
  clear aa ab ac ad ae af ag ah z0 ai aj ak al am ao ap aq z1 ar au av aw ax ay az ba z2
  have hb' := below_call (w1 := w1) (by go_grown) hb
  replace K0 := Lib.hid (K0.out.keep hb')
  replace K1 := Lib.hid (K1.out.keep hb')
  replace K2 := Lib.hid (K2.out.keep hb')
  replace HB := Lib.hid (below_call HB.out hb')
  replace H1 := Lib.hid (H1.out.keep hb')
  replace H2 := Lib.hid (H2.out.keep hb')
  clear hb hb'
  refine K0.out.w4 fun aa ab ac ad ae af ag ah z0 => ?_
  refine K1.out.w4 fun ai aj ak al am ao ap aq z1 => ?_
  refine K2.out.w4 fun ar au av aw ax ay az ba z2 => ?_
  go_wp2_with fail
  refine (fracCompare_ok (H1.out.keep (by go_grown)) (H2.out.keep (by go_grown)) HX.out HY.out).mono ?_
  rintro e w3 ⟨rfl, hb⟩
  clear aa ab ac ad ae af ag ah z0 ai aj ak al am ao ap aq z1 ar au av aw ax ay az ba z2
  have hb' := below_call (w1 := w2) (by go_grown) hb
  replace K0 := Lib.hid (K0.out.keep hb')
  replace K1 := Lib.hid (K1.out.keep hb')
  replace K2 := Lib.hid (K2.out.keep hb')
  replace HB := Lib.hid (below_call HB.out hb')
  replace H1 := Lib.hid (H1.out.keep hb')
  replace H2 := Lib.hid (H2.out.keep hb')
  clear hb hb'
  refine K0.out.w4 fun aa ab ac ad ae af ag ah z0 => ?_
  refine K1.out.w4 fun ai aj ak al am ao ap aq z1 => ?_
  refine K2.out.w4 fun ar au av aw ax ay az ba z2 => ?_
  go_wp2_with fail
  clear aa ab ac ad ae af ag ah z0 ai aj ak al am ao ap aq z1 ar au av aw ax ay az ba z2
  have mk : Hid (∀ w', w3.grownBy w' (some (w.heap.size + 1 + 1)) → w'.cell? ⟨w.heap.size, 0, none⟩ = some (.int .i64 (sg (nu q))) ∧ w'.cell? ⟨w.heap.size, 1, none⟩ = some (.slice a1 (ln (nu q)) c1) ∧ w'.cell? ⟨w.heap.size, 2, none⟩ = some (.int .i64 (sg (de q))) ∧ w'.cell? ⟨w.heap.size, 3, none⟩ = some (.slice b1 (ln (de q)) d1) ∧ w'.cell? ⟨w.heap.size + 1, 0, none⟩ = some (.int .i64 (sg (nu r))) ∧ w'.cell? ⟨w.heap.size + 1, 1, none⟩ = some (.slice a2 (ln (nu r)) c2) ∧ w'.cell? ⟨w.heap.size + 1, 2, none⟩ = some (.int .i64 (sg (de r))) ∧ w'.cell? ⟨w.heap.size + 1, 3, none⟩ = some (.slice b2 (ln (de r)) d2) ∧ w3.grownBy w' (some (w.heap.size + 1 + 1))) := fun w' h => ((K0.out.only h (by omega)).t4 ((K1.out.only h (by omega)).t4 (h)))
  have hs0 : w3.grownBy w3.drew (some (w.heap.size + 1 + 1)) := only_start _ _
  have HS0 : Hid (Below w3.heap.size w3 w3.drew) := (Below.refl _ _).drew
  have tok0 : True := trivial
  have tok1 : True := trivial
  go_region_held3 (fun w' => w'.cell? ⟨w.heap.size, 0, none⟩ = some (.int .i64 (sg (nu q))) ∧ w'.cell? ⟨w.heap.size, 1, none⟩ = some (.slice a1 (ln (nu q)) c1) ∧ w'.cell? ⟨w.heap.size, 2, none⟩ = some (.int .i64 (sg (de q))) ∧ w'.cell? ⟨w.heap.size, 3, none⟩ = some (.slice b1 (ln (de q)) d1) ∧ w'.cell? ⟨w.heap.size + 1, 0, none⟩ = some (.int .i64 (sg (nu r))) ∧ w'.cell? ⟨w.heap.size + 1, 1, none⟩ = some (.slice a2 (ln (nu r)) c2) ∧ w'.cell? ⟨w.heap.size + 1, 2, none⟩ = some (.int .i64 (sg (de r))) ∧ w'.cell? ⟨w.heap.size + 1, 3, none⟩ = some (.slice b2 (ln (de r)) d2) ∧ w3.grownBy w' (some (w.heap.size + 1 + 1)))
    (first | exact mk.out _ (by assumption) | exact mk.out _ (only_setCell (only_setCell (only_setCell (only_setCell (by assumption) _) _) _) _) | exact mk.out _ (only_alloc (by assumption) _))
    (first
      | (go_at_call 72; have _t := tok0; refine (slim_ok (x := nu q) (H1.out.keep HS0.out).n (HX.out.1.mono (by omega))).mono ?_; rintro e w4 ⟨a5, c5, rfl, hd5, hb⟩; clear tok0 _t; have hs1 := only_call hs0 hb; have HS1 := Lib.hid (below_call HS0.out hb); clear hb; have Hd5 := Lib.hid hd5; clear hd5)
      | (go_at_call 72; have _t := tok1; refine (slim_ok (x := de q) (H1.out.keep HS1.out).d (HX.out.2.mono (by omega))).mono ?_; rintro e w5 ⟨a6, c6, rfl, hd6, hb⟩; clear tok1 _t; have hs2 := only_call hs1 hb; have HS2 := Lib.hid (below_call HS1.out hb); have Hd5 := Lib.hid (Hd5.out.keep hb); clear hb; have Hd6 := Lib.hid hd6; clear hd6; obtain ⟨p2, q2⟩ := (K2.out.keep HS2.out).at))
  replace K0 := Lib.hid (K0.out.keep HS2.out)
  replace K1 := Lib.hid (K1.out.keep HS2.out)
  replace K2 := Lib.hid (K2.out.keep HS2.out)
  replace HB := Lib.hid (below_call HB.out HS2.out)
  replace H1 := Lib.hid (H1.out.keep HS2.out)
  replace H2 := Lib.hid (H2.out.keep HS2.out)
  clear mk hs0 HS0 hs1 HS1 hs2 HS2  p2 q2
  go_wp2_with fail
  have HF : Hid (FD G w5 a5 c5 a6 c6 q) := FD.mk Hd5.out Hd6.out
  refine bodyPost_ret (results_box2 rfl _ _ (w.heap.size + 1 + 1) 26 _ _ _ rfl (K2.out.set4 _ _ _ _) Tryz.underlying26 rfl (by kernel_rfl)) rfl ?_
  refine ⟨a5, c5, a6, c6, rfl, ?_, ?_⟩
  · exact (HF.out.far0 K2.out zb4 (only_setCell (only_setCell (only_setCell (only_setCell (World.grownBy.refl _ _) _) _) _) _))
  · exact (Below.setCell (Below.setCell (Below.setCell (Below.setCell HB.out (by simp; try omega) _) (by simp; try omega) _) (by simp; try omega) _) (by simp; try omega) _)
set_option maxRecDepth 100000 in
set_option maxHeartbeats 4000000 in
theorem either_snd {q r : Rat} {a1 b1 a2 b2 : Option Addr} {c1 d1 c2 d2 : Nat} {w : World} (h1 : FD G w a1 c1 b1 d1 q) (h2 : FD G w a2 c2 b2 d2 r) (hx : Fz q 137438953472) (hy : Fz r 137438953472) {s : Int} (hs : s = 1 ∨ s = -1) (hp : ordQ q r * s < 0) :
    Calls Tryz.prog 71 #[.agg #[.int .i64 (sg (nu q)), .slice a1 (ln (nu q)) c1, .int .i64 (sg (de q)), .slice b1 (ln (de q)) d1], .agg #[.int .i64 (sg (nu r)), .slice a2 (ln (nu r)) c2, .int .i64 (sg (de r)), .slice b2 (ln (de r)) d2], .int .i64 s] w fun e w' => ∃ a c b d, e = .returned (.tuple #[.agg #[.int .i64 (sg (nu r)), .slice a (ln (nu r)) c, .int .i64 (sg (de r)), .slice b (ln (de r)) d], .int .i64 0]) ∧ FD G w' a c b d r ∧ Below w.heap.size w w' := by
  have HX := Lib.hid hx
  have HY := Lib.hid hy
  have H1 := Lib.hid h1
  have H2 := Lib.hid h2
  clear hx hy h1 h2

  have H20 := H2
  have hws := wrap_ordQ q r hs
  have e1 : decide (ordQ q r * s < 0) = true := by rw [decide_eq_true_eq]; exact hp
  clear hp hs

  go_enter Tryz.func71, Tryz.ntmps71
  go_wp2_with fail
  refine (fracRight_ok (q := q) (H1.out.keep (by go_grown)) (HX.out.mono (by omega))).mono ?_
  rintro e w1 ⟨rfl, hb⟩
  have hbx := bx3 w 26 26 26 #[.int .i64 (sg (nu q)), .slice a1 (ln (nu q)) c1, .int .i64 (sg (de q)), .slice b1 (ln (de q)) d1] #[.int .i64 (sg (nu r)), .slice a2 (ln (nu r)) c2, .int .i64 (sg (de r)), .slice b2 (ln (de r)) d2] #[.int .i64 0, .slice none 0 0, .int .i64 0, .slice none 0 0]
  obtain ⟨k0, k1, k2⟩ := hbx
  have K0 := Lib.hid (k0.keep hb)
  have K1 := Lib.hid (k1.keep hb)
  have K2 := Lib.hid (k2.keep hb)
  clear k0 k1 k2
  have hb' : Below w.heap.size w w1 := below_call (by go_grown) hb
  have HB := Lib.hid hb'
  replace H1 := Lib.hid (H1.out.keep hb')
  replace H2 := Lib.hid (H2.out.keep hb')
  clear hb hb'
  refine K0.out.w4 fun aa ab ac ad ae af ag ah z0 => ?_
  refine K1.out.w4 fun ai aj ak al am ao ap aq z1 => ?_
  refine K2.out.w4 fun ar au av aw ax ay az ba z2 => ?_
  go_wp2_with fail
  refine (fracRight_ok (q := r) (H2.out.keep (by go_grown)) (HY.out.mono (by omega))).mono ?_
  rintro e w2 ⟨rfl, hb⟩
  clear aa ab ac ad ae af ag ah z0 ai aj ak al am ao ap aq z1 ar au av aw ax ay az ba z2
  have hb' := below_call (w1 := w1) (by go_grown) hb
  replace K0 := Lib.hid (K0.out.keep hb')
  replace K1 := Lib.hid (K1.out.keep hb')
  replace K2 := Lib.hid (K2.out.keep hb')
  replace HB := Lib.hid (below_call HB.out hb')
  replace H1 := Lib.hid (H1.out.keep hb')
  replace H2 := Lib.hid (H2.out.keep hb')
  clear hb hb'
  refine K0.out.w4 fun aa ab ac ad ae af ag ah z0 => ?_
  refine K1.out.w4 fun ai aj ak al am ao ap aq z1 => ?_
  refine K2.out.w4 fun ar au av aw ax ay az ba z2 => ?_
  go_wp2_with fail
  refine (fracCompare_ok (H1.out.keep (by go_grown)) (H2.out.keep (by go_grown)) HX.out HY.out).mono ?_
  rintro e w3 ⟨rfl, hb⟩
  clear aa ab ac ad ae af ag ah z0 ai aj ak al am ao ap aq z1 ar au av aw ax ay az ba z2
  have hb' := below_call (w1 := w2) (by go_grown) hb
  replace K0 := Lib.hid (K0.out.keep hb')
  replace K1 := Lib.hid (K1.out.keep hb')
  replace K2 := Lib.hid (K2.out.keep hb')
  replace HB := Lib.hid (below_call HB.out hb')
  replace H1 := Lib.hid (H1.out.keep hb')
  replace H2 := Lib.hid (H2.out.keep hb')
  clear hb hb'
  refine K0.out.w4 fun aa ab ac ad ae af ag ah z0 => ?_
  refine K1.out.w4 fun ai aj ak al am ao ap aq z1 => ?_
  refine K2.out.w4 fun ar au av aw ax ay az ba z2 => ?_
  go_wp2_with fail
  clear aa ab ac ad ae af ag ah z0 ai aj ak al am ao ap aq z1 ar au av aw ax ay az ba z2
  obtain ⟨w4, hwn⟩ : ∃ x, x = ((((w3.setCell ⟨w.heap.size, 0, none⟩ (.int .i64 (sg (nu r)))).setCell ⟨w.heap.size, 1, none⟩ (.slice a2 (ln (nu r)) c2)).setCell ⟨w.heap.size, 2, none⟩ (.int .i64 (sg (de r)))).setCell ⟨w.heap.size, 3, none⟩ (.slice b2 (ln (de r)) d2)) := ⟨_, rfl⟩
  rw [← hwn]
  have og : w3.grownBy w4 (some w.heap.size) := by rw [hwn]; exact (only_setCell (only_setCell (only_setCell (only_setCell (World.grownBy.refl _ _) _) _) _) _)
  replace K1 := Lib.hid (K1.out.only og (by omega))
  replace K2 := Lib.hid (K2.out.only og (by omega))
  replace K0 : Hid (Bx w4 w.heap.size 26 #[.int .i64 (sg (nu r)), .slice a2 (ln (nu r)) c2, .int .i64 (sg (de r)), .slice b2 (ln (de r)) d2]) := by show Bx _ _ _ _; rw [hwn]; exact K0.out.set4 _ _ _ _
  replace HB : Hid (Below w.heap.size w w4) := by show Below _ _ _; rw [hwn]; exact (Below.setCell (Below.setCell (Below.setCell (Below.setCell HB.out (by simp; try omega) _) (by simp; try omega) _) (by simp; try omega) _) (by simp; try omega) _)
  replace H2 := Lib.hid (H20.out.keep HB.out)
  clear og hwn
  refine K0.out.w4 fun aa ab ac ad ae af ag ah z0 => ?_
  refine K1.out.w4 fun ai aj ak al am ao ap aq z1 => ?_
  refine K2.out.w4 fun ar au av aw ax ay az ba z2 => ?_
  clear aa ab ac ad ae af ag ah z0 ai aj ak al am ao ap aq z1 ar au av aw ax ay az ba z2
  have mk : Hid (∀ w', w4.grownBy w' (some (w.heap.size + 1 + 1)) → w'.cell? ⟨w.heap.size, 0, none⟩ = some (.int .i64 (sg (nu r))) ∧ w'.cell? ⟨w.heap.size, 1, none⟩ = some (.slice a2 (ln (nu r)) c2) ∧ w'.cell? ⟨w.heap.size, 2, none⟩ = some (.int .i64 (sg (de r))) ∧ w'.cell? ⟨w.heap.size, 3, none⟩ = some (.slice b2 (ln (de r)) d2) ∧ w'.cell? ⟨w.heap.size + 1, 0, none⟩ = some (.int .i64 (sg (nu r))) ∧ w'.cell? ⟨w.heap.size + 1, 1, none⟩ = some (.slice a2 (ln (nu r)) c2) ∧ w'.cell? ⟨w.heap.size + 1, 2, none⟩ = some (.int .i64 (sg (de r))) ∧ w'.cell? ⟨w.heap.size + 1, 3, none⟩ = some (.slice b2 (ln (de r)) d2) ∧ w4.grownBy w' (some (w.heap.size + 1 + 1))) := fun w' h => ((K0.out.only h (by omega)).t4 ((K1.out.only h (by omega)).t4 (h)))
  have hs0 : w4.grownBy w4.drew (some (w.heap.size + 1 + 1)) := only_start _ _
  have HS0 : Hid (Below w4.heap.size w4 w4.drew) := (Below.refl _ _).drew
  have tok0 : True := trivial
  have tok1 : True := trivial
  go_region_held3 (fun w' => w'.cell? ⟨w.heap.size, 0, none⟩ = some (.int .i64 (sg (nu r))) ∧ w'.cell? ⟨w.heap.size, 1, none⟩ = some (.slice a2 (ln (nu r)) c2) ∧ w'.cell? ⟨w.heap.size, 2, none⟩ = some (.int .i64 (sg (de r))) ∧ w'.cell? ⟨w.heap.size, 3, none⟩ = some (.slice b2 (ln (de r)) d2) ∧ w'.cell? ⟨w.heap.size + 1, 0, none⟩ = some (.int .i64 (sg (nu r))) ∧ w'.cell? ⟨w.heap.size + 1, 1, none⟩ = some (.slice a2 (ln (nu r)) c2) ∧ w'.cell? ⟨w.heap.size + 1, 2, none⟩ = some (.int .i64 (sg (de r))) ∧ w'.cell? ⟨w.heap.size + 1, 3, none⟩ = some (.slice b2 (ln (de r)) d2) ∧ w4.grownBy w' (some (w.heap.size + 1 + 1)))
    (first | exact mk.out _ (by assumption) | exact mk.out _ (only_setCell (only_setCell (only_setCell (only_setCell (by assumption) _) _) _) _) | exact mk.out _ (only_alloc (by assumption) _))
    (first
      | (go_at_call 72; have _t := tok0; refine (slim_ok (x := nu r) (H2.out.keep HS0.out).n (HY.out.1.mono (by omega))).mono ?_; rintro e w5 ⟨a5, c5, rfl, hd5, hb⟩; clear tok0 _t; have hs1 := only_call hs0 hb; have HS1 := Lib.hid (below_call HS0.out hb); clear hb; have Hd5 := Lib.hid hd5; clear hd5)
      | (go_at_call 72; have _t := tok1; refine (slim_ok (x := de r) (H2.out.keep HS1.out).d (HY.out.2.mono (by omega))).mono ?_; rintro e w6 ⟨a6, c6, rfl, hd6, hb⟩; clear tok1 _t; have hs2 := only_call hs1 hb; have HS2 := Lib.hid (below_call HS1.out hb); have Hd5 := Lib.hid (Hd5.out.keep hb); clear hb; have Hd6 := Lib.hid hd6; clear hd6; obtain ⟨p2, q2⟩ := (K2.out.keep HS2.out).at))
  replace K0 := Lib.hid (K0.out.keep HS2.out)
  replace K1 := Lib.hid (K1.out.keep HS2.out)
  replace K2 := Lib.hid (K2.out.keep HS2.out)
  replace HB := Lib.hid (below_call HB.out HS2.out)
  replace H2 := Lib.hid (H2.out.keep HS2.out)
  clear mk hs0 HS0 hs1 HS1 hs2 HS2  p2 q2
  go_wp2_with fail
  have HF : Hid (FD G w6 a5 c5 a6 c6 r) := FD.mk Hd5.out Hd6.out
  refine bodyPost_ret (results_box2 rfl _ _ (w.heap.size + 1 + 1) 26 _ _ _ rfl (K2.out.set4 _ _ _ _) Tryz.underlying26 rfl (by kernel_rfl)) rfl ?_
  refine ⟨a5, c5, a6, c6, rfl, ?_, ?_⟩
  · exact (HF.out.far0 K2.out zb4 (only_setCell (only_setCell (only_setCell (only_setCell (World.grownBy.refl _ _) _) _) _) _))
  · exact (Below.setCell (Below.setCell (Below.setCell (Below.setCell HB.out (by simp; try omega) _) (by simp; try omega) _) (by simp; try omega) _) (by simp; try omega) _)
theorem either_ok {q r : Rat} {a1 b1 a2 b2 : Option Addr} {c1 d1 c2 d2 : Nat} {w : World} (h1 : FD G w a1 c1 b1 d1 q) (h2 : FD G w a2 c2 b2 d2 r) (hx : Fz q 137438953472) (hy : Fz r 137438953472) {s : Int} (hs : s = 1 ∨ s = -1) :
    Calls Tryz.prog 71 #[.agg #[.int .i64 (sg (nu q)), .slice a1 (ln (nu q)) c1, .int .i64 (sg (de q)), .slice b1 (ln (de q)) d1], .agg #[.int .i64 (sg (nu r)), .slice a2 (ln (nu r)) c2, .int .i64 (sg (de r)), .slice b2 (ln (de r)) d2], .int .i64 s] w fun e w' => ∃ a c b d, e = .returned (.tuple #[.agg #[.int .i64 (sg (nu (pick q r s))), .slice a (ln (nu (pick q r s))) c, .int .i64 (sg (de (pick q r s))), .slice b (ln (de (pick q r s))) d], .int .i64 0]) ∧ FD G w' a c b d (pick q r s) ∧ Below w.heap.size w w' := by
  by_cases h : ordQ q r * s < 0
  · have := either_snd h1 h2 hx hy hs h
    rwa [show pick q r s = r by rw [pick, if_pos h]]
  · have := either_fst h1 h2 hx hy hs h
    rwa [show pick q r s = q by rw [pick, if_neg h]]
end Go.Proofs.YtcfmakpckdicjaaGreatDoor
namespace Go.Proofs.YtcfmakpckdicjaaGreatDoor
open Go.RowKit

def dg (l : Digs) (i : Nat) : Nat := l.getD i 0
theorem dg_lt {l : Digs} {i : Nat} (h : i < l.length) : dg l i = l[i] := by simp [dg, h]
theorem dg_ge {l : Digs} {i : Nat} (h : l.length ≤ i) : dg l i = 0 := by simp [dg, h]
theorem dg_small {l : Digs} (h : small l) (i : Nat) : dg l i < 1048576 := by
  rcases Nat.lt_or_ge i l.length with h' | h'
  · rw [dg_lt h']; exact small_get h i h'
  · rw [dg_ge h']; omega
theorem val_drop_step (l : Digs) (k : Nat) : val (l.drop k) = dg l k + 1048576 * val (l.drop (k + 1)) := by
  rcases Nat.lt_or_ge k l.length with h | h
  · rw [List.drop_eq_getElem_cons h, val, dg_lt h]
  · rw [List.drop_of_length_le h, List.drop_of_length_le (by omega), dg_ge h]; rfl
theorem val_take_step (l : Digs) (k : Nat) : val (l.take (k + 1)) = val (l.take k) + 1048576 ^ k * dg l k := by
  rcases Nat.lt_or_ge k l.length with h | h
  · rw [val_take_succ l k h, dg_lt h]
  · rw [val_take_all (by omega), val_take_all h, dg_ge h]; simp
theorem val_split' (l : Digs) (k : Nat) : val l = val (l.take k) + 1048576 ^ k * val (l.drop k) := by
  rcases Nat.lt_or_ge k l.length with h | h
  · exact val_split l k (by omega)
  · rw [val_take_all h, List.drop_of_length_le h]; simp [val]
theorem val_take_lt {l : Digs} (h : small l) (k : Nat) : val (l.take k) < 1048576 ^ k :=
 Nat.lt_of_lt_of_le (val_lt (small_take h k)) (Nat.pow_le_pow_right (by omega) (by rw [List.length_take]; omega))
theorem digit_ok (v : Value) (L : Digs) (i : Nat) (w : World) (h : RdN w v L) (_hn : L.length ≤ 1099511627776) (_hi : i ≤ 4398046511104) :
    Calls Tryz.prog 105 #[v, .int .i64 i] w fun e w' => e = .returned (.int .i64 (dg L i : Nat)) ∧ w = w' := by
  obtain ⟨a, cap, rfl⟩ := h.shape
  by_cases hlt : i < L.length
  · obtain ⟨b, off, rfl, hb, hcell⟩ := h.at hlt
    have HD := Lib.hid (dg_lt hlt)
    obtain ⟨d, hd⟩ : ∃ d, d = L[i] := ⟨_, rfl⟩
    rw [← hd] at hcell HD
    clear hd h
    go_enter Tryz.func105, Tryz.ntmps105
    go_wp2_with fail
    go_ret
    exact ⟨ret_int (by rw [HD.out]), rfl⟩
  · have HD := Lib.hid (dg_ge (l := L) (i := i) (by omega))
    clear h
    go_enter Tryz.func105, Tryz.ntmps105
    go_wp2_with fail
    go_ret
    exact ⟨ret_int (by rw [HD.out]; rfl), rfl⟩
def lessB (A B : Digs) : Bool := decide (val A < val B)
theorem less_at {A B : Digs} (sA : small A) (sB : small B) {k : Nat} (hd : val (A.drop (k + 1)) = val (B.drop (k + 1))) (hne : dg A k ≠ dg B k) : lessB A B = decide (dg A k < dg B k) := by
  have a1 := val_split' A k
  have b1 := val_split' B k
  rw [val_drop_step, hd] at a1
  rw [val_drop_step] at b1
  have a2 := val_take_lt sA k
  have b2 := val_take_lt sB k
  generalize val (B.drop (k + 1)) = t at *
  generalize 1048576 ^ k = e at *
  rw [lessB, decide_eq_decide]
  constructor
  · intro h
    rcases Nat.lt_or_ge (dg A k) (dg B k) with h' | h'
    · exact h'
    · exfalso
      have h3 := Nat.mul_le_mul_left e (show dg B k + 1 + 1048576 * t ≤ dg A k + 1048576 * t by omega)
      rw [show dg B k + 1 + 1048576 * t = (dg B k + 1048576 * t) + 1 by omega, Nat.mul_add] at h3
      omega
  · intro h
    have h3 := Nat.mul_le_mul_left e (show dg A k + 1 + 1048576 * t ≤ dg B k + 1048576 * t by omega)
    rw [show dg A k + 1 + 1048576 * t = (dg A k + 1048576 * t) + 1 by omega, Nat.mul_add] at h3
    omega
set_option maxRecDepth 100000 in
set_option maxHeartbeats 4000000 in
theorem less_ok (p q : Value) (A B : Digs) (w : World) (hp : RdN w p A) (hq : RdN w q B) (sA : small A) (sB : small B) (hn : A.length ≤ 1099511627776) (hm : B.length ≤ 1099511627776) :
    Calls Tryz.prog 86 #[p, q] w fun e w' => e = .returned (.bool (lessB A B)) ∧ Below w.heap.size w w' := by
  have HP := Lib.hid hp
  have HQ := Lib.hid hq
  obtain ⟨a1, cap1, rfl⟩ := hp.shape
  obtain ⟨a2, cap2, rfl⟩ := hq.shape
  clear hp hq
  by_cases hab : A.length < B.length
  · have HM1 : Hid (A.length ≤ B.length ∧ B.length ≤ B.length) := ⟨by omega, by omega⟩
    go_enter Tryz.func86, Tryz.ntmps86
    go_wp2_with fail
    go_loopw [5] (fun i wr => ∃ k : Nat, k ≤ B.length ∧ i = .int .i64 ((k : Int) - 1) ∧ Hid (val (A.drop k) = val (B.drop k)) ∧ Hid (Below w.heap.size w wr)) (fun i _ => (intOf i + 1).toNat)
    case atStart => exact ⟨B.length, Nat.le_refl _, rfl, by show _ = _; rw [List.drop_of_length_le HM1.out.1, List.drop_of_length_le HM1.out.2], Below.refl _ _⟩
    case round =>
      obtain ⟨k, hk, rfl, HD, HB⟩ := hrel
      by_cases h0 : 0 < k
      · obtain ⟨m, rfl⟩ : ∃ m, k = m + 1 := ⟨k - 1, by omega⟩
        have em : (((m + 1 : Nat) : Int) - 1) = (m : Int) := by omega
        rw [em]; clear em
        have hmb : m ≤ 4398046511104 := by omega
        obtain ⟨x, hx⟩ : ∃ x, x = dg A m := ⟨_, rfl⟩
        obtain ⟨y, hy⟩ : ∃ y, y = dg B m := ⟨_, rfl⟩
        have HX := Lib.hid hx
        have HY := Lib.hid hy
        clear hx hy
        by_cases hxy : x = y
        · have e1 : ((x : Int) != (y : Int)) = false := by simp [hxy]
          have HD2 : Hid (val (A.drop m) = val (B.drop m)) := by show _ = _; rw [val_drop_step, val_drop_step B, HD.out, ← HX.out, ← HY.out, hxy]
          clear hxy
          go_wp2_with (first | (go_at_call_of 105 (Value.slice a1 A.length cap1); refine (digit_ok _ A m _ (HP.out.keep HB.out) hn hmb).mono ?_; rintro e w' ⟨rfl, rfl⟩; rw [← HX.out]) | (go_at_call 105; refine (digit_ok _ B m _ (HQ.out.keep HB.out) hm hmb).mono ?_; rintro e w' ⟨rfl, rfl⟩; rw [← HY.out]))
          go_roundw
          case rel => exact ⟨m, by omega, rfl, HD2, HB⟩
          case measure => simp [intOf]
        · have e1 : ((x : Int) != (y : Int)) = true := by simp; omega
          have HR : Hid (lessB A B = decide (x < y)) := by show _ = _; rw [HX.out, HY.out]; exact less_at sA sB HD.out (by rw [← HX.out, ← HY.out]; exact hxy)
          clear hxy
          go_wp2_with (first | (go_at_call_of 105 (Value.slice a1 A.length cap1); refine (digit_ok _ A m _ (HP.out.keep HB.out) hn hmb).mono ?_; rintro e w' ⟨rfl, rfl⟩; rw [← HX.out]) | (go_at_call 105; refine (digit_ok _ B m _ (HQ.out.keep HB.out) hm hmb).mono ?_; rintro e w' ⟨rfl, rfl⟩; rw [← HY.out]))
          go_ret
          exact ⟨ret_bool (by rw [HR.out]), HB.out⟩
      · obtain rfl : k = 0 := by omega
        have em : ((0 : Nat) : Int) - 1 = -1 := rfl
        rw [em]; clear em
        have HR : Hid (lessB A B = false) := by
          show _ = _
          have := HD.out
          rw [List.drop_zero, List.drop_zero] at this
          rw [lessB, decide_eq_false_iff_not]; omega
        go_wp2_with fail
        go_ret
        exact ⟨ret_bool HR.out.symm, HB.out⟩
  · have HM1 : Hid (A.length ≤ A.length ∧ B.length ≤ A.length) := ⟨by omega, by omega⟩
    go_enter Tryz.func86, Tryz.ntmps86
    go_wp2_with fail
    go_loopw [5] (fun i wr => ∃ k : Nat, k ≤ A.length ∧ i = .int .i64 ((k : Int) - 1) ∧ Hid (val (A.drop k) = val (B.drop k)) ∧ Hid (Below w.heap.size w wr)) (fun i _ => (intOf i + 1).toNat)
    case atStart => exact ⟨A.length, Nat.le_refl _, rfl, by show _ = _; rw [List.drop_of_length_le HM1.out.1, List.drop_of_length_le HM1.out.2], Below.refl _ _⟩
    case round =>
      obtain ⟨k, hk, rfl, HD, HB⟩ := hrel
      by_cases h0 : 0 < k
      · obtain ⟨m, rfl⟩ : ∃ m, k = m + 1 := ⟨k - 1, by omega⟩
        have em : (((m + 1 : Nat) : Int) - 1) = (m : Int) := by omega
        rw [em]; clear em
        have hmb : m ≤ 4398046511104 := by omega
        obtain ⟨x, hx⟩ : ∃ x, x = dg A m := ⟨_, rfl⟩
        obtain ⟨y, hy⟩ : ∃ y, y = dg B m := ⟨_, rfl⟩
        have HX := Lib.hid hx
        have HY := Lib.hid hy
        clear hx hy
        by_cases hxy : x = y
        · have e1 : ((x : Int) != (y : Int)) = false := by simp [hxy]
          have HD2 : Hid (val (A.drop m) = val (B.drop m)) := by show _ = _; rw [val_drop_step, val_drop_step B, HD.out, ← HX.out, ← HY.out, hxy]
          clear hxy
          go_wp2_with (first | (go_at_call_of 105 (Value.slice a1 A.length cap1); refine (digit_ok _ A m _ (HP.out.keep HB.out) hn hmb).mono ?_; rintro e w' ⟨rfl, rfl⟩; rw [← HX.out]) | (go_at_call 105; refine (digit_ok _ B m _ (HQ.out.keep HB.out) hm hmb).mono ?_; rintro e w' ⟨rfl, rfl⟩; rw [← HY.out]))
          go_roundw
          case rel => exact ⟨m, by omega, rfl, HD2, HB⟩
          case measure => simp [intOf]
        · have e1 : ((x : Int) != (y : Int)) = true := by simp; omega
          have HR : Hid (lessB A B = decide (x < y)) := by show _ = _; rw [HX.out, HY.out]; exact less_at sA sB HD.out (by rw [← HX.out, ← HY.out]; exact hxy)
          clear hxy
          go_wp2_with (first | (go_at_call_of 105 (Value.slice a1 A.length cap1); refine (digit_ok _ A m _ (HP.out.keep HB.out) hn hmb).mono ?_; rintro e w' ⟨rfl, rfl⟩; rw [← HX.out]) | (go_at_call 105; refine (digit_ok _ B m _ (HQ.out.keep HB.out) hm hmb).mono ?_; rintro e w' ⟨rfl, rfl⟩; rw [← HY.out]))
          go_ret
          exact ⟨ret_bool (by rw [HR.out]), HB.out⟩
      · obtain rfl : k = 0 := by omega
        have em : ((0 : Nat) : Int) - 1 = -1 := rfl
        rw [em]; clear em
        have HR : Hid (lessB A B = false) := by
          show _ = _
          have := HD.out
          rw [List.drop_zero, List.drop_zero] at this
          rw [lessB, decide_eq_false_iff_not]; omega
        go_wp2_with fail
        go_ret
        exact ⟨ret_bool HR.out.symm, HB.out⟩
/-- append(own digits, nothing...). -/
theorem wpList_appendNil {ops : Array Oper} {rest : List Oper} {o : Oper} {a : Act} {Q : Exit → Act → World → Prop} (hgd : o.guard = none) (s x : Operand)
    (ho : o.op = .call { callee := .builtin .append, args := #[s, x], argTypes := #[22, 22] }) (w : World) (B : Nat) (v : Value) (l : Digs) (hs : a.eval s = v) (hown : OwnN w B v l) (c : Nat) (hx : a.eval x = .slice none 0 c)
    (h : wpList Tryz.prog ops Q rest (a.put o.dst v) w) : wpList Tryz.prog ops Q (o :: rest) a w := by
  refine wpList_plain hgd fun K hK => ?_
  obtain ⟨i0, hi, -, -, -⟩ := info_parts elemInt.info
  have hrun : (Builtin.append_ #[22, 22] o.type #[v, .slice none 0 c]).run Tryz.prog w = .ok v w := by
    rcases hown.2 with ⟨rfl, h0⟩ | ⟨g, cap, cur, rfl, _, _, hnc, _⟩
    · simp [Builtin.append_, run_underlying elemInt.under, sizeOf, typeInfo, hi, Builtin.lenOf, Builtin.firstCells]
    · simp [Builtin.append_, run_underlying elemInt.under, sizeOf, typeInfo, hi, Builtin.lenOf, Builtin.firstCells, hnc, storeCells]
  unfold Oper.wp execOp
  simp only [ho, resolve, invoke, builtin, Sem.run_bind, Sem.run_pure, Result.andThen_ok, List.map_toArray, List.map_cons, List.map_nil, hs, hx, hrun]
  exact hK _ _ h
theorem nil_of_none {w : World} {n c : Nat} {l : Digs} (h : RdN w (.slice none n c) l) : l = [] := by
 cases l with
 | nil => rfl
 | cons d r => obtain ⟨b, off, ha, -⟩ := h.at (k := 0) (by simp); cases ha
set_option maxRecDepth 100000 in
set_option maxHeartbeats 4000000 in
theorem refTrim_ok (a : Option Addr) (cap : Nat) (l : Digs) (w : World) (h : RdN w (.slice a l.length cap) l) (hs : small l) (hn : l.length ≤ 8796093022208) (hcp : l.length ≤ cap) :
    Calls Tryz.prog 92 #[.slice a l.length cap] w fun e w' => ∃ v', e = .returned v' ∧ OwnN w' w.heap.size v' (digs (val l)) ∧ Below w.heap.size w w' := by
  have h0 : OwnN (w.alloc (.cells #[] 3)) w.heap.size (.slice (some ⟨w.heap.size, 0, none⟩) 0 0) [] := World.ownsRow_lit w #[] 0 (Nat.le_refl _) (by unfold maxLen; omega) rfl
  have H0 := Lib.hid h0; clear h0
  have HB := Lib.hid ((Below.refl w.heap.size w).alloc (Nat.le_refl _) (.cells #[] 3))
  cases a with
  | none =>
    have hl := nil_of_none h
    subst hl
    clear h
    go_enter Tryz.func92, Tryz.ntmps92
    go_wp2_with fail
    go_loop [3] (fun i => i = .int .i64 0) (fun _ => 0)
    case atStart => rfl
    case round =>
      obtain rfl := hrel
      go_wp2_with (at_builtin; go_must (refine wpList_appendNil rfl _ _ rfl (w.alloc (.cells #[] 3)) w.heap.size (.slice (some ⟨w.heap.size, 0, none⟩) 0 0) [] rfl H0.out cap rfl ?_))
      go_ret
      exact ⟨_, rfl, H0.out, HB.out⟩
  | some ad =>
    have HR := Lib.hid h; clear h
    go_enter Tryz.func92, Tryz.ntmps92
    go_wp2_with fail
    go_loop [3] (fun i => ∃ k : Nat, k ≤ l.length ∧ i = .int .i64 k ∧ Hid (∀ j (h : j < l.length), k ≤ j → l[j] = 0)) (fun i => (intOf i).toNat)
    case atStart => exact ⟨l.length, Nat.le_refl _, rfl, fun j h hj => by omega⟩
    case round =>
      obtain ⟨k, hk, rfl, HZ⟩ := hrel
      by_cases h0 : 0 < k
      · have hk1 : k - 1 < l.length := by omega
        obtain ⟨b, off, ha, hb, hcell⟩ := HR.out.at hk1
        obtain ⟨d, hd⟩ : ∃ d, d = l[k - 1] := ⟨_, rfl⟩
        rw [← hd] at hcell
        obtain ⟨m, rfl⟩ : ∃ m, k = m + 1 := ⟨k - 1, by omega⟩
        rw [Nat.add_sub_cancel] at hcell
        have hd' : d = l[m] := hd
        have HD := Lib.hid hd'
        clear hd hd'
        have had : ad = ⟨b, off, none⟩ := by cases ha; rfl
        subst had
        clear ha
        by_cases hd0 : d = 0
        · have e1 : ((d : Int) == 0) = true := by rw [beq_iff_eq]; omega
          have H1 := Lib.hid hd0; clear hd0
          go_wp2_with fail
          go_round
          case rel => exact ⟨m, by omega, by go_num, fun j hj hjm => by
            rcases Nat.lt_or_ge m j with h' | h'
            · exact HZ.out j hj (by omega)
            · obtain rfl : j = m := by omega
              rw [← HD.out]; exact H1.out⟩
          case measure => simp [intOf]
        · have e1 : ((d : Int) == 0) = false := by rw [beq_eq_false_iff_ne]; omega
          have H1 := Lib.hid hd0; clear hd0
          have ht := Lib.hid (trim_take hs hk HZ.out (.inr ⟨by simpa using hk1, by simp only [Nat.add_sub_cancel]; rw [← HD.out]; exact H1.out⟩))
          go_wp2_with (at_builtin; go_must (refine wpList_appendN rfl _ _ rfl (w.alloc (.cells #[] 3)) w.heap.size (.slice (some ⟨w.heap.size, 0, none⟩) 0 0) [] rfl H0.out ⟨b, off, none⟩ (m + 1) cap (l.take (m + 1)) rfl (by rw [List.length_take]; omega) ((HR.out.keep HB.out).take hk) (by simp; omega) (by simp) ?_; intro v' w1 ho hg hb))
          go_ret
          exact ⟨v', rfl, by rw [← ht.out]; exact ho, HB.out.trans hb⟩
      · obtain rfl : k = 0 := by omega
        have ht := Lib.hid (trim_take hs hk HZ.out (.inl rfl))
        go_wp2_with (at_builtin; go_must (refine wpList_appendN rfl _ _ rfl (w.alloc (.cells #[] 3)) w.heap.size (.slice (some ⟨w.heap.size, 0, none⟩) 0 0) [] rfl H0.out ad 0 cap (l.take 0) rfl (by simp) ((HR.out.keep HB.out).take hk) (by simp) (by simp) ?_; intro v' w1 ho hg hb))
        go_ret
        exact ⟨v', rfl, by rw [← ht.out]; exact ho, HB.out.trans hb⟩
end Go.Proofs.YtcfmakpckdicjaaGreatDoor
namespace Go.Proofs.YtcfmakpckdicjaaGreatDoor
open Go.RowKit

theorem OwnN.sl {w : World} {B : Nat} {v : Value} {l : Digs} (h : OwnN w B v l) : ∃ a c, v = .slice a l.length c ∧ l.length ≤ c := by
  rcases h.shape with ⟨h1, h2⟩ | ⟨g, cap, h1, -, -, h3⟩
  · subst h2; exact ⟨none, 0, h1, Nat.le_refl _⟩
  · exact ⟨_, _, h1, h3⟩
theorem refTrim_own {w : World} {B : Nat} {v : Value} {l : Digs} (h : OwnN w B v l) (hs : small l) (hn : l.length ≤ 8796093022208) :
  Calls Tryz.prog 92 #[v] w fun e w' => ∃ v', e = .returned v' ∧ OwnN w' w.heap.size v' (digs (val l)) ∧ Below w.heap.size w w' := by
 obtain ⟨a, c, rfl, hc⟩ := h.sl
 exact refTrim_ok a c l w h.rd hs hn hc
theorem plus_step {v a b e x y cy m c : Nat} (h : v + e * cy = a + b) (h2 : m + 1048576 * c = x + y + cy) : v + e * m + e * 1048576 * c = (a + e * x) + (b + e * y) := by grind
set_option maxRecDepth 100000 in
set_option maxHeartbeats 4000000 in
theorem plus_ok (p q : Value) (A B : Digs) (w : World) (hp : RdN w p A) (hq : RdN w q B) (sA : small A) (sB : small B) (hn : A.length ≤ 1099511627776) (hm : B.length ≤ 1099511627776) :
    Calls Tryz.prog 85 #[p, q] w fun e w' => ∃ v, e = .returned v ∧ OwnN w' w.heap.size v (digs (val A + val B)) ∧ Below w.heap.size w w' := by
  have HP := Lib.hid hp
  have HQ := Lib.hid hq
  obtain ⟨a1, cap1, rfl⟩ := hp.shape
  obtain ⟨a2, cap2, rfl⟩ := hq.shape
  clear hp hq
  go_enter Tryz.func85, Tryz.ntmps85
  go_wp2_with fail
  go_slots
  go_loopw [5, 6, 7] (fun v c i wr => ∃ (k cy : Nat) (os : Digs), k ≤ A.length + B.length + 1 ∧ (k ≤ A.length ∨ k ≤ B.length ∨ cy = 0) ∧ cy ≤ 1 ∧ os.length = k ∧ c = .int .i64 cy ∧ i = .int .i64 k ∧ Hid (small os) ∧ Hid (val os + 1048576 ^ k * cy = val (A.take k) + val (B.take k)) ∧ Hid (OwnN wr w.heap.size v os) ∧ Hid (Below w.heap.size w wr)) (fun _ c i _ => 2 * (A.length + B.length - (intOf i).toNat) + (intOf c).toNat)
  case atStart => exact ⟨0, 0, [], by omega, .inr (.inr rfl), by omega, rfl, rfl, rfl, small_nil, by show _ = _; simp [val], ownN_nil _ _, Below.refl _ _⟩
  case round =>
    obtain ⟨k, cy, os, hk, hkc, hcy, hlo, rfl, rfl, HS, HE, HW, HB⟩ := hrel
    obtain ⟨x, hx⟩ : ∃ x, x = dg A k := ⟨_, rfl⟩
    obtain ⟨y, hy⟩ : ∃ y, y = dg B k := ⟨_, rfl⟩
    have hxs : x < 1048576 := by rw [hx]; exact dg_small sA k
    have hys : y < 1048576 := by rw [hy]; exact dg_small sB k
    have hkb : k ≤ 4398046511104 := by omega
    obtain ⟨m, hm1⟩ : ∃ m : Nat, m = (x + y + cy) % 1048576 := ⟨_, rfl⟩
    obtain ⟨c, hc1⟩ : ∃ c : Nat, c = (x + y + cy) / 1048576 := ⟨_, rfl⟩
    have hmod : ((x : Int) + y + cy) % 1048576 = (m : Int) := by omega
    have hdiv : ((x : Int) + y + cy) / 1048576 = (c : Int) := by omega
    have hms : m < 1048576 := by omega
    have hcs : c ≤ 1 := by omega
    have HE2 : Hid (val (os ++ [m]) + 1048576 ^ (k + 1) * c = val (A.take (k + 1)) + val (B.take (k + 1))) := by
      show _ = _
      rw [val_snoc, hlo, val_take_step, val_take_step, ← hx, ← hy, Nat.pow_succ]
      exact plus_step HE.out (by omega)
    have HX := Lib.hid hx
    have HY := Lib.hid hy
    have HLo := Lib.hid hlo
    have HA1 : Hid (OwnN (wr.alloc (.cells #[.int .i64 (m : Int)] 3)) w.heap.size u5 os) := HW.out.keep (below_alloc _ _)
    have HL1 : Hid (RdN (wr.alloc (.cells #[.int .i64 (m : Int)] 3)) (.slice (some ⟨wr.heap.size, 0, none⟩) 1 1) [m]) := (own_lit1 wr wr.heap.size m (Nat.le_refl _)).rd
    have hsz : w.heap.size ≤ wr.heap.size := HB.out.size
    have HC0 : Hid (A.length ≤ k → B.length ≤ k → c = 0) := by
      intro h1 h2
      rw [dg_ge h1] at hx
      rw [dg_ge h2] at hy
      omega
    have HM := Lib.hid hm1
    have HCc := Lib.hid hc1
    clear hx hy hm1 hc1

    by_cases h1 : k < A.length
    · have e1 : decide ((k : Int) < (A.length : Int)) = true := by rw [decide_eq_true_eq]; omega
      clear hlo
      go_wp2_with (first | (go_at_call_of 105 (Value.slice a1 A.length cap1); refine (digit_ok _ A k _ (HP.out.keep HB.out) hn hkb).mono ?_; rintro e w' ⟨rfl, rfl⟩; rw [← HX.out]) | (go_at_call 105; refine (digit_ok _ B k _ (HQ.out.keep HB.out) hm hkb).mono ?_; rintro e w' ⟨rfl, rfl⟩; rw [← HY.out]) | (at_builtin; go_must (refine wpList_appendN rfl _ _ rfl (wr.alloc (.cells #[.int .i64 (m : Int)] 3)) w.heap.size u5 os rfl HA1.out ⟨wr.heap.size, 0, none⟩ 1 1 [m] rfl rfl HL1.out (by have := HLo.out; simp; omega) (by simp; omega) ?_; intro v' w1 ho hg hb)))
      have HO2 := Lib.hid ho
      have HB2 : Hid (Below w.heap.size w w1) := (HB.out.alloc hsz _).trans hb
      clear ho hg hb
      go_roundw
      case rel => exact ⟨k + 1, c, os ++ [m], by omega, .inl (by omega), hcs, by rw [List.length_append, HLo.out]; rfl, by first | rfl | rw [hdiv], by go_num, small_append HS.out (small_one hms), HE2, HO2.out, HB2.out⟩
      case measure => simp [intOf]; omega
    · have e1 : decide ((k : Int) < (A.length : Int)) = false := by rw [decide_eq_false_iff_not]; omega
      by_cases h2 : k < B.length
      · have e2 : decide ((k : Int) < (B.length : Int)) = true := by rw [decide_eq_true_eq]; omega
        clear hlo
        go_wp2_with (first | (go_at_call_of 105 (Value.slice a1 A.length cap1); refine (digit_ok _ A k _ (HP.out.keep HB.out) hn hkb).mono ?_; rintro e w' ⟨rfl, rfl⟩; rw [← HX.out]) | (go_at_call 105; refine (digit_ok _ B k _ (HQ.out.keep HB.out) hm hkb).mono ?_; rintro e w' ⟨rfl, rfl⟩; rw [← HY.out]) | (at_builtin; go_must (refine wpList_appendN rfl _ _ rfl (wr.alloc (.cells #[.int .i64 (m : Int)] 3)) w.heap.size u5 os rfl HA1.out ⟨wr.heap.size, 0, none⟩ 1 1 [m] rfl rfl HL1.out (by have := HLo.out; simp; omega) (by simp; omega) ?_; intro v' w1 ho hg hb)))
        have HO2 := Lib.hid ho
        have HB2 : Hid (Below w.heap.size w w1) := (HB.out.alloc hsz _).trans hb
        clear ho hg hb
        go_roundw
        case rel => exact ⟨k + 1, c, os ++ [m], by omega, .inr (.inl (by omega)), hcs, by rw [List.length_append, HLo.out]; rfl, by first | rfl | rw [hdiv], by go_num, small_append HS.out (small_one hms), HE2, HO2.out, HB2.out⟩
        case measure => simp [intOf]; omega
      · have e2 : decide ((k : Int) < (B.length : Int)) = false := by rw [decide_eq_false_iff_not]; omega
        by_cases h3 : 0 < cy
        · have e3 : decide ((0 : Int) < (cy : Int)) = true := by rw [decide_eq_true_eq]; omega
          have e4 : decide (0 < cy) = true := by rw [decide_eq_true_eq]; omega
          clear hlo
          go_wp2_with (first | (go_at_call_of 105 (Value.slice a1 A.length cap1); refine (digit_ok _ A k _ (HP.out.keep HB.out) hn hkb).mono ?_; rintro e w' ⟨rfl, rfl⟩; rw [← HX.out]) | (go_at_call 105; refine (digit_ok _ B k _ (HQ.out.keep HB.out) hm hkb).mono ?_; rintro e w' ⟨rfl, rfl⟩; rw [← HY.out]) | (at_builtin; go_must (refine wpList_appendN rfl _ _ rfl (wr.alloc (.cells #[.int .i64 (m : Int)] 3)) w.heap.size u5 os rfl HA1.out ⟨wr.heap.size, 0, none⟩ 1 1 [m] rfl rfl HL1.out (by have := HLo.out; simp; omega) (by simp; omega) ?_; intro v' w1 ho hg hb)))
          have HO2 := Lib.hid ho
          have HB2 : Hid (Below w.heap.size w w1) := (HB.out.alloc hsz _).trans hb
          clear ho hg hb
          go_roundw
          case rel => exact ⟨k + 1, c, os ++ [m], by omega, .inr (.inr (HC0.out (by omega) (by omega))), hcs, by rw [List.length_append, HLo.out]; rfl, by first | rfl | rw [hdiv], by go_num, small_append HS.out (small_one hms), HE2, HO2.out, HB2.out⟩
          case measure => have := HC0.out (by omega) (by omega); simp [intOf]; omega
        · have e3 : decide ((0 : Int) < (cy : Int)) = false := by rw [decide_eq_false_iff_not]; omega
          have e4 : decide (0 < cy) = false := by rw [decide_eq_false_iff_not]; omega
          have HV : Hid (val os = val A + val B) := by
            show _ = _
            have h4 := HE.out
            obtain rfl : cy = 0 := by omega
            rw [val_take_all (by omega), val_take_all (l := B) (by omega), Nat.mul_zero, Nat.add_zero] at h4
            exact h4
          have HLn : Hid (os.length ≤ 8796093022208) := by show _ ≤ _; omega
          clear hlo
          go_wp2_with fail
          refine (refTrim_own HW.out HS.out HLn.out).mono ?_
          rintro e w2 ⟨v2, rfl, ho, hb⟩
          rw [HV.out] at ho
          have HO2 := Lib.hid (ho.mono HB.out.size)
          have HB2 : Hid (Below w.heap.size w w2) := HB.out.trans (hb.mono HB.out.size)
          clear ho hb
          go_wp2_with fail
          go_ret
          exact ⟨v2, rfl, HO2.out, HB2.out⟩
end Go.Proofs.YtcfmakpckdicjaaGreatDoor
namespace Go.Proofs.YtcfmakpckdicjaaGreatDoor
open Go.RowKit

theorem minus_step {p v q b bw x y m c : Nat} (h : p + b * bw = v + q) (hm : x + 1048576 * c = m + bw + y) : (p + b * x) + (b * 1048576) * c = (v + b * m) + (q + b * y) := by grind
set_option maxRecDepth 100000 in
set_option maxHeartbeats 4000000 in
theorem minus_ok (p q : Value) (A B : Digs) (w : World) (hp : RdN w p A) (hq : RdN w q B) (sA : small A) (sB : small B) (hle : val B ≤ val A) (hl : B.length ≤ A.length) (hn : A.length ≤ 1099511627776) :
    Calls Tryz.prog 87 #[p, q] w fun e w' => ∃ v, e = .returned v ∧ OwnN w' w.heap.size v (digs (val A - val B)) ∧ Below w.heap.size w w' := by
  have HP := Lib.hid hp
  have HQ := Lib.hid hq
  obtain ⟨a1, cap1, rfl⟩ := hp.shape
  obtain ⟨a2, cap2, rfl⟩ := hq.shape
  have hm : B.length ≤ 1099511627776 := by omega
  have HL := Lib.hid hl
  have HLE := Lib.hid hle
  clear hp hq hl hle
  go_enter Tryz.func87, Tryz.ntmps87
  go_wp2_with fail
  go_loopw [5, 6, 7] (fun v b i wr => ∃ (k bw : Nat) (os : Digs), k ≤ A.length ∧ bw ≤ 1 ∧ os.length = k ∧ b = .int .i64 bw ∧ i = .int .i64 k ∧ Hid (small os) ∧ Hid (val (A.take k) + 1048576 ^ k * bw = val os + val (B.take k)) ∧ Hid (OwnN wr w.heap.size v os) ∧ Hid (Below w.heap.size w wr)) (fun _ _ i _ => A.length - (intOf i).toNat)
  case atStart => exact ⟨0, 0, [], by omega, by omega, rfl, rfl, rfl, small_nil, by show _ = _; simp [val], ownN_nil _ _, Below.refl _ _⟩
  case round =>
    obtain ⟨k, bw, os, hk, hbw, hlo, rfl, rfl, HS, HE, HW, HB⟩ := hrel
    by_cases h1 : k < A.length
    · obtain ⟨b, off, rfl, hb, hcell⟩ := (HP.out.keep HB.out).at h1
      obtain ⟨x, hx⟩ : ∃ x, x = A[k] := ⟨_, rfl⟩
      rw [← hx] at hcell
      obtain ⟨y, hy⟩ : ∃ y, y = dg B k := ⟨_, rfl⟩
      have hxs : x < 1048576 := by rw [hx]; exact small_get sA k h1
      have hys : y < 1048576 := by rw [hy]; exact dg_small sB k
      have hkb : k ≤ 4398046511104 := by omega
      obtain ⟨m, hm1⟩ : ∃ m : Nat, (m : Int) = ((x : Int) - y - bw) % 1048576 := ⟨(((x : Int) - y - bw) % 1048576).toNat, by omega⟩
      obtain ⟨c, hc1⟩ : ∃ c : Nat, c = if (x : Int) - y - bw < 0 then 1 else 0 := ⟨_, rfl⟩
      have hsum : x + 1048576 * c = m + bw + y := by rw [hc1]; split <;> omega
      have hms : m < 1048576 := by omega
      have HE2 : Hid (val (A.take (k + 1)) + 1048576 ^ (k + 1) * c = val (os ++ [m]) + val (B.take (k + 1))) := by
        show _ = _
        rw [val_snoc, hlo, val_take_succ A k h1, val_take_step, ← hx, ← hy, Nat.pow_succ]
        exact minus_step HE.out hsum
      have HX := Lib.hid hx
      have HY := Lib.hid hy
      have HLo := Lib.hid hlo
      have hki : (k : Int) < (A.length : Int) := by omega
      clear hx hy hlo
      by_cases hneg : (x : Int) - y - bw < 0
      · have e1 : decide ((x : Int) - y - bw < 0) = true := by rw [decide_eq_true_eq]; exact hneg
        have HC1 : Hid (c = 1) := by show _ = _; rw [hc1, if_pos hneg]
        have hfin : (x : Int) - y - bw + 1048576 = (m : Int) := by omega
        have HX := Lib.hid hm1; clear hm1 hc1 hneg hsum
        have wn1 : IntKind.i64.wrap ((x : Int) - (y : Int)) = (x : Int) - (y : Int) := IntWalk.i64_in _ (by omega)
        have wn2 : IntKind.i64.wrap ((x : Int) - (y : Int) - (bw : Int)) = (x : Int) - (y : Int) - (bw : Int) := IntWalk.i64_in _ (by omega)
        go_wp2_with fail
        go_quiet ((go_at_call 105; refine quiet_same (v := .int .i64 (y : Int)) ?_; rw [HY.out]; exact digit_ok _ B k _ (HQ.out.keep (below_drewN HB.out _)) hm hkb))
        rename_i nq
        clear wn1 wn2
        have HA1 : Hid (OwnN ((wr.drewN nq).alloc (.cells #[.int .i64 (m : Int)] 3)) w.heap.size u5 os) := (ownN_drewN HW.out nq).keep (below_alloc _ _)
        have HL1 : Hid (RdN ((wr.drewN nq).alloc (.cells #[.int .i64 (m : Int)] 3)) (.slice (some ⟨(wr.drewN nq).heap.size, 0, none⟩) 1 1) [m]) := (own_lit1 (wr.drewN nq) (wr.drewN nq).heap.size m (Nat.le_refl _)).rd
        have hsz : w.heap.size ≤ wr.heap.size := HB.out.size
        go_wp2_with (at_builtin; go_must (refine wpList_appendN rfl _ _ rfl ((wr.drewN nq).alloc (.cells #[.int .i64 (m : Int)] 3)) w.heap.size u5 os rfl HA1.out ⟨(wr.drewN nq).heap.size, 0, none⟩ 1 1 [m] rfl rfl HL1.out (by have := HLo.out; simp; omega) (by simp; omega) ?_; intro v' w1 ho hg hb))
        have HO2 := Lib.hid ho
        have HB2 : Hid (Below w.heap.size w w1) := ((below_drewN HB.out nq).alloc hsz _).trans hb
        clear ho hg hb
        go_roundw
        case rel => exact ⟨k + 1, c, os ++ [m], by omega, by rw [HC1.out]; omega, by rw [List.length_append, HLo.out]; rfl, by rw [HC1.out]; rfl, by go_num, small_append HS.out (small_one hms), HE2, HO2.out, HB2.out⟩
        case measure => simp [intOf]; omega
      · have e1 : decide ((x : Int) - y - bw < 0) = false := by rw [decide_eq_false_iff_not]; exact hneg
        have HC1 : Hid (c = 0) := by show _ = _; rw [hc1, if_neg hneg]
        have hfin : (x : Int) - y - bw = (m : Int) := by omega
        have HX := Lib.hid hm1; clear hm1 hc1 hneg hsum
        have wn1 : IntKind.i64.wrap ((x : Int) - (y : Int)) = (x : Int) - (y : Int) := IntWalk.i64_in _ (by omega)
        have wn2 : IntKind.i64.wrap ((x : Int) - (y : Int) - (bw : Int)) = (x : Int) - (y : Int) - (bw : Int) := IntWalk.i64_in _ (by omega)
        go_wp2_with fail
        go_quiet ((go_at_call 105; refine quiet_same (v := .int .i64 (y : Int)) ?_; rw [HY.out]; exact digit_ok _ B k _ (HQ.out.keep (below_drewN HB.out _)) hm hkb))
        rename_i nq
        clear wn1 wn2
        have HA1 : Hid (OwnN ((wr.drewN nq).alloc (.cells #[.int .i64 (m : Int)] 3)) w.heap.size u5 os) := (ownN_drewN HW.out nq).keep (below_alloc _ _)
        have HL1 : Hid (RdN ((wr.drewN nq).alloc (.cells #[.int .i64 (m : Int)] 3)) (.slice (some ⟨(wr.drewN nq).heap.size, 0, none⟩) 1 1) [m]) := (own_lit1 (wr.drewN nq) (wr.drewN nq).heap.size m (Nat.le_refl _)).rd
        have hsz : w.heap.size ≤ wr.heap.size := HB.out.size
        go_wp2_with (at_builtin; go_must (refine wpList_appendN rfl _ _ rfl ((wr.drewN nq).alloc (.cells #[.int .i64 (m : Int)] 3)) w.heap.size u5 os rfl HA1.out ⟨(wr.drewN nq).heap.size, 0, none⟩ 1 1 [m] rfl rfl HL1.out (by have := HLo.out; simp; omega) (by simp; omega) ?_; intro v' w1 ho hg hb))
        have HO2 := Lib.hid ho
        have HB2 : Hid (Below w.heap.size w w1) := ((below_drewN HB.out nq).alloc hsz _).trans hb
        clear ho hg hb
        go_roundw
        case rel => exact ⟨k + 1, c, os ++ [m], by omega, by rw [HC1.out]; omega, by rw [List.length_append, HLo.out]; rfl, by rw [HC1.out]; rfl, by go_num, small_append HS.out (small_one hms), HE2, HO2.out, HB2.out⟩
        case measure => simp [intOf]; omega
    · obtain rfl : k = A.length := by omega
      have HV : Hid (val os = val A - val B) := by
        show _ = _
        have h4 := HE.out
        rw [List.take_of_length_le (Nat.le_refl _), val_take_all HL.out] at h4
        have h5 := val_lt HS.out
        rw [hlo] at h5
        exact sub_end h4 h5 HLE.out hbw
      have HLn : Hid (os.length ≤ 8796093022208) := by show _ ≤ _; omega
      clear hlo
      go_wp2_with fail
      refine (refTrim_own HW.out HS.out HLn.out).mono ?_
      rintro e w2 ⟨v2, rfl, ho, hb⟩
      rw [HV.out] at ho
      have HO2 := Lib.hid (ho.mono HB.out.size)
      have HB2 : Hid (Below w.heap.size w w2) := HB.out.trans (hb.mono HB.out.size)
      clear ho hb
      go_wp2_with fail
      go_ret
      exact ⟨v2, rfl, HO2.out, HB2.out⟩
end Go.Proofs.YtcfmakpckdicjaaGreatDoor
namespace Go.Proofs.YtcfmakpckdicjaaGreatDoor
open Go.RowKit

def flag (n : Int) : Nat := if n = 0 then 0 else 1
theorem flag_le (n : Int) : flag n ≤ 1 := by unfold flag; split <;> omega
theorem flag_pos {n : Int} (h : n ≠ 0) : flag n = 1 := by rw [flag, if_neg h]
set_option maxRecDepth 100000 in
set_option maxHeartbeats 8000000 in
theorem rtimes_ok (p q : Value) (P Q : Digs) (w : World) (hp : RdN w p P) (hq : RdN w q Q) (sp : small P) (sq : small Q) (hn : P.length ≤ 1099511627776) (hm : Q.length ≤ 1099511627776) :
    Calls Tryz.prog 84 #[p, q] w fun e w' => ∃ v, e = .returned v ∧ OwnN w' w.heap.size v (digs (val P * val Q)) ∧ Below w.heap.size w w' := by
  obtain ⟨a1, cap1, rfl⟩ := hp.shape
  obtain ⟨a2, cap2, rfl⟩ := hq.shape
  have HP := Lib.hid hp; clear hp
  have HQ := Lib.hid hq; clear hq
  go_enter Tryz.func84, Tryz.ntmps84
  go_wp2_with (at_make; go_must (refine wpList_mkints rfl _ _ rfl w w.heap.size (P.length + Q.length) _ _ rfl rfl (by simp) (by simp) (by omega) (Nat.le_refl _) ?_; intro w1 ho hb))
  have HO := Lib.hid ho; clear ho
  have HB0 := Lib.hid hb; clear hb
  go_loopw [6] (fun i wr => ∃ (k : Nat) (os : Digs), k ≤ P.length ∧ os.length = P.length + Q.length ∧ i = .int .i64 k ∧ Hid (small os) ∧ Hid (zerosFrom os (k + Q.length)) ∧ Hid (val os = val (P.take k) * val Q) ∧ Hid (OwnN wr w.heap.size (.slice (some ⟨w.heap.size, 0, none⟩) (P.length + Q.length) (P.length + Q.length)) os) ∧ Hid (Below w.heap.size w wr)) (fun i _ => P.length - (intOf i).toNat)
  case atStart => exact ⟨0, List.replicate (P.length + Q.length) 0, Nat.zero_le _, by simp, rfl, small_replicate _, by show zerosFrom _ _; intro j h _; simp, by show _ = _; rw [val_zeros (by simp)]; simp [val], HO, HB0⟩
  case round =>
    obtain ⟨k, os, hk, hlo, rfl, HSm, HZ, HE, HW, HB⟩ := hrel
    have HLo := Lib.hid hlo
    by_cases hlt : k < P.length
    · obtain ⟨x, hx⟩ : ∃ x, x = P[k] := ⟨_, rfl⟩
      have hxs : x < 1048576 := by rw [hx]; exact small_get sp k hlt
      have HX := Lib.hid hx
      clear hx hlo
      go_wp2_with fail
      obtain ⟨wo, rfl⟩ : ∃ wo : World, wo = wr := ⟨_, rfl⟩
      go_loopw [7, 8] (fun c i wr => ∃ (j cy : Nat) (ot : Digs), j ≤ Q.length + 1 ∧ (j ≤ Q.length ∨ cy = 0) ∧ cy < 1048576 ∧ ot.length = P.length + Q.length ∧ c = .int .i64 cy ∧ i = .int .i64 j ∧ Hid (small ot) ∧ Hid (j ≤ Q.length → zerosFrom ot (k + Q.length)) ∧ Hid (zerosFrom ot (k + 1 + Q.length)) ∧ Hid (val ot + 1048576 ^ (k + j) * cy = val os + 1048576 ^ k * (x * val (Q.take j))) ∧ Hid (OwnN wr w.heap.size (.slice (some ⟨w.heap.size, 0, none⟩) (P.length + Q.length) (P.length + Q.length)) ot) ∧ Hid (Below w.heap.size w wr)) (fun c i _ => 2 * (Q.length + 1 - (intOf i).toNat) + flag (intOf c))
      case atStart => exact ⟨0, 0, os, Nat.zero_le _, .inl (Nat.zero_le _), by omega, HLo.out, rfl, rfl, HSm, fun _ => HZ.out, zerosFrom_mono HZ.out (by omega), by show _ = _; simp [val], HW, HB⟩
      case round =>
        obtain ⟨j, cy, ot, hj, hjc, hcy, hlt2, rfl, rfl, HSm2, HZ2, HZ3, HE2, HW2, HB2⟩ := hrel
        have HLt := Lib.hid hlt2

        by_cases hjl : j < Q.length
        · have e1 : decide ((j : Int) < (Q.length : Int)) = true := by rw [decide_eq_true_eq]; omega
          obtain ⟨b1, off1, rfl, hb1, hcell⟩ := (HP.out.keep HB2.out).at hlt
          rw [← HX.out] at hcell
          obtain ⟨y, hy⟩ : ∃ y, y = dg Q j := ⟨_, rfl⟩
          have hys : y < 1048576 := by rw [hy]; exact dg_small sq j
          have hkj : k + j < ot.length := by omega
          have hold := HW2.out.cell hkj
          obtain ⟨o, ho⟩ : ∃ o, o = ot[k + j] := ⟨_, rfl⟩
          rw [← ho] at hold
          have hos : o < 1048576 := by rw [ho]; exact small_get HSm2.out _ hkj
          have hfr := HW2.out.live (k + j)
          obtain ⟨z, hz⟩ : ∃ z : Nat, z = x * y := ⟨_, rfl⟩
          have hzb : z ≤ 1099509530625 := by rw [hz]; exact Nat.mul_le_mul (show x ≤ 1048575 by omega) (show y ≤ 1048575 by omega)
          have hzi : ((x : Int) * (y : Int)) = (z : Int) := by rw [hz]; simp
          obtain ⟨m, hm1⟩ : ∃ m : Nat, m = (o + z + cy) % 1048576 := ⟨_, rfl⟩
          obtain ⟨c, hc1⟩ : ∃ c : Nat, c = (o + z + cy) / 1048576 := ⟨_, rfl⟩
          have hmod : ((o : Int) + z + cy) % 1048576 = (m : Int) := by omega
          have hdiv : ((o : Int) + z + cy) / 1048576 = (c : Int) := by omega
          have hsum : m + 1048576 * c = o + z + cy := by omega
          have hms : m < 1048576 := by omega
          have hcs : c < 1048576 := by omega
          have HE3 : Hid (val (ot.set (k + j) m) + 1048576 ^ (k + (j + 1)) * c = val os + 1048576 ^ k * (x * val (Q.take (j + 1)))) := by
            show _ = _
            rw [val_take_step Q j, ← hy]
            have h1 := val_set ot (k + j) m hkj
            rw [← ho] at h1
            exact mul_step h1 HE2.out hsum hz
          have HZ4 : Hid (zerosFrom (ot.set (k + j) m) (k + Q.length)) := zerosFrom_set (HZ2.out (by omega)) (by omega)
          have HY := Lib.hid hy
          obtain ⟨s, hs⟩ : ∃ s, s = k + j := ⟨_, rfl⟩
          rw [← hs] at hold hfr
          have his : (k : Int) + (j : Int) = (s : Int) := by omega
          have wis : IntKind.i64.wrap ((k : Int) + (j : Int)) = (s : Int) := by rw [his]; exact IntWalk.i64_in _ (by omega)
          have hsl : (s : Int) < (P.length : Int) + (Q.length : Int) := by omega
          have hsl2 : (s : Int) < ((P.length + Q.length : Nat) : Int) := by omega
          have hki : (k : Int) < (P.length : Int) := by omega
          have hjb : j ≤ 4398046511104 := by omega
          have wz : IntKind.i64.wrap (z : Int) = (z : Int) := IntWalk.i64_in _ (by omega)
          have wo1 : IntKind.i64.wrap ((o : Int) + (z : Int)) = (o : Int) + (z : Int) := IntWalk.i64_in _ (by omega)
          have wo2 : IntKind.i64.wrap ((o : Int) + (z : Int) + (cy : Int)) = (o : Int) + (z : Int) + (cy : Int) := IntWalk.i64_in _ (by omega)
          have HSS := Lib.hid hs
          clear hy ho hlt2 hz hm1 hc1 hs hsum hkj
          go_wp2_with fail
          go_quiet ((go_at_call 105; refine quiet_same (v := .int .i64 (y : Int)) ?_; rw [HY.out]; exact digit_ok _ Q j _ (HQ.out.keep (below_drewN HB2.out _)) hm hjb))
          clear wis wz wo1 wo2
          go_wp2_with fail
          rename_i nq
          have HE4 : Hid (val (ot.set s m) + 1048576 ^ (k + (j + 1)) * c = val os + 1048576 ^ k * (x * val (Q.take (j + 1)))) := by show _ = _; rw [HSS.out]; exact HE3.out
          have HZ5 : Hid (j + 1 ≤ Q.length → zerosFrom (ot.set s m) (k + Q.length)) := by intro h; rw [HSS.out]; exact HZ4.out
          have HZ6 : Hid (zerosFrom (ot.set s m) (k + 1 + Q.length)) := by rw [HSS.out]; exact zerosFrom_set HZ3.out (by omega)
          go_roundw
          case rel => exact ⟨j + 1, c, ot.set s m, by omega, .inl (by omega), hcs, by rw [List.length_set]; exact HLt.out, by first | rfl | rw [hdiv], by go_num, small_set HSm2.out hms, HZ5, HZ6, HE4, (ownN_drewN HW2.out nq).set s m, (below_drewN HB2.out nq).setCell (Nat.le_refl _) _⟩
          case measure => rw [hdiv]; show 2 * (Q.length + 1 - ((j : Int) + 1).toNat) + flag (c : Int) < 2 * (Q.length + 1 - (j : Int).toNat) + flag (cy : Int); have := flag_le (c : Int); omega
        · have e1 : decide ((j : Int) < (Q.length : Int)) = false := by rw [decide_eq_false_iff_not]; omega
          by_cases hc0 : 0 < cy
          · have e2 : decide ((0 : Int) < (cy : Int)) = true := by rw [decide_eq_true_eq]; omega
            have e3 : decide (0 < cy) = true := by rw [decide_eq_true_eq]; omega
            obtain ⟨b1, off1, rfl, hb1, hcell⟩ := (HP.out.keep HB2.out).at hlt
            rw [← HX.out] at hcell
            obtain ⟨y, hy⟩ : ∃ y, y = dg Q j := ⟨_, rfl⟩
            have hys : y < 1048576 := by rw [hy]; exact dg_small sq j
            have hkj : k + j < ot.length := by omega
            have hold := HW2.out.cell hkj
            obtain ⟨o, ho⟩ : ∃ o, o = ot[k + j] := ⟨_, rfl⟩
            rw [← ho] at hold
            have hos : o < 1048576 := by rw [ho]; exact small_get HSm2.out _ hkj
            have hfr := HW2.out.live (k + j)
            obtain ⟨z, hz⟩ : ∃ z : Nat, z = x * y := ⟨_, rfl⟩
            have hzb : z ≤ 1099509530625 := by rw [hz]; exact Nat.mul_le_mul (show x ≤ 1048575 by omega) (show y ≤ 1048575 by omega)
            have hzi : ((x : Int) * (y : Int)) = (z : Int) := by rw [hz]; simp
            obtain ⟨m, hm1⟩ : ∃ m : Nat, m = (o + z + cy) % 1048576 := ⟨_, rfl⟩
            obtain ⟨c, hc1⟩ : ∃ c : Nat, c = (o + z + cy) / 1048576 := ⟨_, rfl⟩
            have hmod : ((o : Int) + z + cy) % 1048576 = (m : Int) := by omega
            have hdiv : ((o : Int) + z + cy) / 1048576 = (c : Int) := by omega
            have hsum : m + 1048576 * c = o + z + cy := by omega
            have hms : m < 1048576 := by omega
            have hcs : c < 1048576 := by omega
            have HE3 : Hid (val (ot.set (k + j) m) + 1048576 ^ (k + (j + 1)) * c = val os + 1048576 ^ k * (x * val (Q.take (j + 1)))) := by
              show _ = _
              rw [val_take_step Q j, ← hy]
              have h1 := val_set ot (k + j) m hkj
              rw [← ho] at h1
              exact mul_step h1 HE2.out hsum hz
            have hc00 : c = 0 := by (have h1 := dg_ge (l := Q) (i := j) (by omega); have h2 := HZ2.out (by omega) (k + j) hkj (by omega); rw [← hy] at h1; rw [← ho] at h2; rw [h1, Nat.mul_zero] at hz; omega)
            have HY := Lib.hid hy
            obtain ⟨s, hs⟩ : ∃ s, s = k + j := ⟨_, rfl⟩
            rw [← hs] at hold hfr
            have his : (k : Int) + (j : Int) = (s : Int) := by omega
            have wis : IntKind.i64.wrap ((k : Int) + (j : Int)) = (s : Int) := by rw [his]; exact IntWalk.i64_in _ (by omega)
            have hsl : (s : Int) < (P.length : Int) + (Q.length : Int) := by omega
            have hsl2 : (s : Int) < ((P.length + Q.length : Nat) : Int) := by omega
            have hki : (k : Int) < (P.length : Int) := by omega
            have hjb : j ≤ 4398046511104 := by omega
            have wz : IntKind.i64.wrap (z : Int) = (z : Int) := IntWalk.i64_in _ (by omega)
            have wo1 : IntKind.i64.wrap ((o : Int) + (z : Int)) = (o : Int) + (z : Int) := IntWalk.i64_in _ (by omega)
            have wo2 : IntKind.i64.wrap ((o : Int) + (z : Int) + (cy : Int)) = (o : Int) + (z : Int) + (cy : Int) := IntWalk.i64_in _ (by omega)
            have HSS := Lib.hid hs
            clear hy ho hlt2 hz hm1 hc1 hs hsum hkj
            go_wp2_with fail
            go_quiet ((go_at_call 105; refine quiet_same (v := .int .i64 (y : Int)) ?_; rw [HY.out]; exact digit_ok _ Q j _ (HQ.out.keep (below_drewN HB2.out _)) hm hjb))
            clear wis wz wo1 wo2
            go_wp2_with fail
            rename_i nq
            have HE4 : Hid (val (ot.set s m) + 1048576 ^ (k + (j + 1)) * c = val os + 1048576 ^ k * (x * val (Q.take (j + 1)))) := by show _ = _; rw [HSS.out]; exact HE3.out
            have HZ5 : Hid (j + 1 ≤ Q.length → zerosFrom (ot.set s m) (k + Q.length)) := by intro h; rw [HSS.out]; omega
            have HZ6 : Hid (zerosFrom (ot.set s m) (k + 1 + Q.length)) := by rw [HSS.out]; exact zerosFrom_set HZ3.out (by omega)
            go_roundw
            case rel => exact ⟨j + 1, c, ot.set s m, by omega, .inr hc00, hcs, by rw [List.length_set]; exact HLt.out, by first | rfl | rw [hdiv], by go_num, small_set HSm2.out hms, HZ5, HZ6, HE4, (ownN_drewN HW2.out nq).set s m, (below_drewN HB2.out nq).setCell (Nat.le_refl _) _⟩
            case measure => rw [hdiv]; show 2 * (Q.length + 1 - ((j : Int) + 1).toNat) + flag (c : Int) < 2 * (Q.length + 1 - (j : Int).toNat) + flag (cy : Int); rw [hc00, show flag ((0 : Nat) : Int) = 0 from rfl, flag_pos (show (cy : Int) ≠ 0 by omega)]; omega
          · have e2 : decide ((0 : Int) < (cy : Int)) = false := by rw [decide_eq_false_iff_not]; omega
            have e3 : decide (0 < cy) = false := by rw [decide_eq_false_iff_not]; omega
            have HE5 : Hid (val ot = val (P.take (k + 1)) * val Q) := by
              show _ = _
              have h1 := HE2.out
              obtain rfl : cy = 0 := by omega
              rw [Nat.mul_zero, Nat.add_zero, val_take_all (l := Q) (by omega)] at h1
              rw [h1, HE.out, val_take_succ P k hlt, ← HX.out, Nat.add_mul, Nat.mul_assoc]
            clear hlt2
            go_wp2_with fail
            go_roundw
            case rel => exact ⟨k + 1, ot, by omega, HLt.out, by go_num, HSm2, HZ3, HE5, HW2, HB2⟩
            case measure => simp [intOf]; omega
    · obtain rfl : k = P.length := by omega
      have HV : Hid (val os = val P * val Q) := by show _ = _; rw [HE.out, List.take_of_length_le (Nat.le_refl _)]
      have HLn : Hid (os.length ≤ 8796093022208) := by show _ ≤ _; omega
      clear hlo hlt
      go_wp2_with fail
      refine (refTrim_own HW.out HSm.out HLn.out).mono ?_
      rintro e w2 ⟨v2, rfl, ho, hb⟩
      rw [HV.out] at ho
      have HO2 := Lib.hid (ho.mono HB.out.size)
      have HB2 : Hid (Below w.heap.size w w2) := HB.out.trans (hb.mono HB.out.size)
      clear ho hb
      go_wp2_with fail
      go_ret
      exact ⟨v2, rfl, HO2.out, HB2.out⟩
end Go.Proofs.YtcfmakpckdicjaaGreatDoor
namespace Go.Proofs.YtcfmakpckdicjaaGreatDoor
open Go.RowKit

theorem wpList_appendAny {ops : Array Oper} {rest : List Oper} {o : Oper} {a : Act} {Q : Exit → Act → World → Prop} (hgd : o.guard = none) (s x : Operand)
    (ho : o.op = .call { callee := .builtin .append, args := #[s, x], argTypes := #[22, 22] }) (w : World) (B : Nat) (v : Value) (l : Digs) (hs : a.eval s = v) (hown : OwnN w B v l)
    (sv : Value) (k : Digs) (hx : a.eval x = sv) (hk : RdN w sv k) (hn : l.length + k.length ≤ 17592186044416) (hB : B ≤ w.heap.size)
    (h : ∀ v' w', OwnN w' B v' (l ++ k) → Below B w w' → wpList Tryz.prog ops Q rest (a.put o.dst v') w') :
    wpList Tryz.prog ops Q (o :: rest) a w := by
  obtain ⟨A, c, rfl⟩ := hk.shape
  cases A with
  | none =>
    have := nil_of_none hk
    subst this
    refine wpList_appendNil hgd s x ho w B v l hs hown c hx (h v w (by rw [List.append_nil]; exact hown) (Below.refl _ _))
  | some ad => exact wpList_appendN hgd s x ho w B v l hs hown ad k.length c k hx rfl hk hn hB (fun v' w' h1 _ h3 => h v' w' h1 h3)
theorem OwnN.away {w w' : World} {B g : Nat} {v : Value} {l : Digs} (h : OwnN w B v l) (hg : w.grownBy w' (some g)) (hlt : g < B) : OwnN w' B v l := by
  rcases h.shape with ⟨rfl, rfl⟩ | ⟨gv, cap, rfl, hge, -, -⟩
  · exact ownN_nil _ _
  · exact h.far hg (by omega)
theorem OwnN.blw {w w' : World} {B n cap : Nat} {l : Digs} {g B' : Nat} (h : OwnN w B (.slice (some ⟨g, 0, none⟩) n cap) l) (hb : Below B' w w') (hg : g < B' := by omega) : OwnN w' B (.slice (some ⟨g, 0, none⟩) n cap) l := by
  refine ⟨h.1, ?_⟩
  rcases h.2 with h2 | ⟨g', cap', cur, hv, hg', hh, r⟩
  · exact .inl h2
  · have : g' = g := by simp only [Value.slice.injEq, Option.some.injEq, Addr.mk.injEq, and_true] at hv; exact hv.1.symm
    subst this
    exact .inr ⟨g', cap', cur, hv, hg', by rw [hb.block g' hg]; exact hh, r⟩
/-- Where the reference's division stands. -/
structure OverAt (P : Digs) (b : Nat) (qs : Digs) (R k : Nat) : Prop where
 sq : small qs
 len : qs.length = P.length
 sum : val (P.drop k) = val (qs.drop k) * b + R
 lt : R < b
theorem over_start {P : Digs} {b : Nat} (h : 0 < b) : OverAt P b (List.replicate P.length 0) 0 P.length :=
 ⟨small_replicate _, by simp, by rw [List.drop_of_length_le (Nat.le_refl _), List.drop_of_length_le (by simp)]; simp [val], h⟩
theorem over_sum {x B R S b lo v : Nat} (h : v = S * b + R) (h1 : lo * b ≤ x + B * R) : x + B * v = (lo + B * S) * b + (x + B * R - lo * b) := by
 subst h
 have e1 : x + B * (S * b + R) = (x + B * R) + B * S * b := by grind
 have e2 : (lo + B * S) * b = lo * b + B * S * b := by grind
 omega
theorem over_next {P qs : Digs} {b R m lo : Nat} (h : OverAt P b qs R (m + 1)) (hm : m < P.length) (hl : lo < 1048576) (h1 : lo * b ≤ P[m] + 1048576 * R) (h2 : P[m] + 1048576 * R < lo * b + b) :
  OverAt P b (qs.set m lo) (P[m] + 1048576 * R - lo * b) m := by
 have hmq : m < qs.length := by rw [h.len]; exact hm
 refine ⟨small_set h.sq hl, by rw [List.length_set]; exact h.len, ?_, by omega⟩
 rw [List.drop_eq_getElem_cons hm, val, List.drop_eq_getElem_cons (l := qs.set m lo) (by rw [List.length_set]; exact hmq), List.getElem_set_self, drop_set_succ, val]
 exact over_sum h.sum h1
theorem over_end {P qs : Digs} {b R : Nat} (h : OverAt P b qs R 0) : val qs = val P / b ∧ R = val P % b := by
 have h1 := h.sum
 have h2 := h.lt
 rw [List.drop_zero, List.drop_zero] at h1
 rw [h1, Nat.mul_comm]
 exact ⟨by rw [Nat.mul_add_div (by omega), Nat.div_eq_of_lt h2, Nat.add_zero], by rw [Nat.mul_add_mod, Nat.mod_eq_of_lt h2]⟩
set_option maxRecDepth 100000 in
set_option maxHeartbeats 8000000 in
theorem over_ok (p q : Value) (P : Digs) (b : Nat) (w : World) (hp : RdN w p P) (hq : RdN w q (digs b)) (sP : small P) (hb0 : 0 < b) (hn : P.length ≤ 549755813888) (hm : (digs b).length ≤ 549755813888) :
    Calls Tryz.prog 94 #[p, q] w fun e w' => ∃ v r, e = .returned (.tuple #[v, r]) ∧ OwnN w' w.heap.size v (digs (val P / b)) ∧ OwnN w' w.heap.size r (digs (val P % b)) ∧ Below w.heap.size w w' := by
  obtain ⟨a1, cap1, rfl⟩ := hp.shape
  have HP := Lib.hid hp; clear hp
  have HQ := Lib.hid hq; clear hq
  go_enter Tryz.func94, Tryz.ntmps94
  go_wp2_with (at_make; go_must (refine wpList_mkints rfl _ _ rfl w w.heap.size P.length _ _ rfl rfl (by simp) (by simp) (by omega) (Nat.le_refl _) ?_; intro w1 ho hb))
  have HO := Lib.hid ho
  have HB0 := Lib.hid hb
  have hlt1 : w.heap.size + 1 ≤ w1.heap.size := by
    rcases ho.shape with ⟨h1, -⟩ | ⟨g, cap, h1, -, h2, -⟩
    · cases h1
    · simp only [Value.slice.injEq, Option.some.injEq, Addr.mk.injEq, and_true] at h1
      rw [h1.1]; exact h2
  clear ho hb
  go_loopw [7, 8] (fun rv i wr => ∃ (k R : Nat) (qs : Digs), k ≤ P.length ∧ i = .int .i64 ((k : Int) - 1) ∧ Hid (OverAt P b qs R k) ∧ Hid (OwnN wr (w.heap.size + 1) rv (digs R)) ∧ Hid (OwnN wr w.heap.size (.slice (some ⟨w.heap.size, 0, none⟩) P.length P.length) qs) ∧ Hid (Below w.heap.size w wr) ∧ w.heap.size + 1 ≤ wr.heap.size) (fun _ i _ => (intOf i + 1).toNat)
  case atStart => exact ⟨P.length, 0, List.replicate P.length 0, Nat.le_refl _, rfl, over_start hb0, ownN_nil _ _, HO, HB0, hlt1⟩
  case round =>
    obtain ⟨k, R, qs, hk, rfl, HV, HR, HW, HB, hsz⟩ := hrel
    by_cases h0 : 0 < k
    · obtain ⟨m, rfl⟩ : ∃ m, k = m + 1 := ⟨k - 1, by omega⟩
      have em : (((m + 1 : Nat) : Int) - 1) = (m : Int) := by omega
      rw [em]; clear em
      have hm1 : m < P.length := by omega
      obtain ⟨b1, off1, rfl, hb1, hcell⟩ := (HP.out.keep HB.out).at hm1
      obtain ⟨x, hx⟩ : ∃ x, x = P[m] := ⟨_, rfl⟩
      rw [← hx] at hcell
      have hxs : x < 1048576 := by rw [hx]; exact small_get sP m hm1
      have HRb : Hid ((digs R).length ≤ 549755813888) := Nat.le_trans (digs_len_mono (Nat.le_of_lt HV.out.lt)) hm
      have HN : Hid (∀ lo, lo < 1048576 → lo * b ≤ x + 1048576 * R → x + 1048576 * R < lo * b + b → OverAt P b (qs.set m lo) (x + 1048576 * R - lo * b) m) := by
        intro lo h1 h2 h3
        rw [hx] at h2 h3 ⊢
        exact over_next HV.out hm1 h1 h2 h3
      have HTop : Hid (x + 1048576 * R < 1048576 * b) := by show _ < _; have := HV.out.lt; omega
      obtain ⟨T, hT⟩ : ∃ T, T = x + 1048576 * R := ⟨_, rfl⟩
      rw [← hT] at HN HTop
      have HTT := Lib.hid hT
      have HA1 : Hid (OwnN (wr.alloc (.cells #[.int .i64 (x : Int)] 3)) (w.heap.size + 1) (.slice (some ⟨wr.heap.size, 0, none⟩) 1 1) [x]) := own_lit1 wr _ x hsz
      have HA2 : Hid (RdN (wr.alloc (.cells #[.int .i64 (x : Int)] 3)) u7 (digs R)) := (HR.out.keep (below_alloc _ _)).rd
      have HTb : Hid ((digs T).length ≤ 1099511627776) := by
        show _ ≤ _
        have h1 := digs_len_mono (Nat.le_of_lt HTop.out)
        have h2 := digs_len_mul b 1048576
        have h3 : (digs 1048576).length = 2 := by decide
        rw [Nat.mul_comm] at h1
        omega
      clear hx hT
      go_wp2_with (at_builtin; go_must (refine wpList_appendAny rfl _ _ rfl (wr.alloc (.cells #[.int .i64 (x : Int)] 3)) (w.heap.size + 1) (.slice (some ⟨wr.heap.size, 0, none⟩) 1 1) [x] rfl HA1.out u7 (digs R) rfl HA2.out (by have := HRb.out; simp; omega) (by simp; omega) ?_; intro v' w2 ho hb))
      have HB2 : Hid (Below w.heap.size w w2) := (HB.out.alloc HB.out.size _).trans (hb.mono (by omega))
      have hsz2 : w.heap.size + 1 ≤ w2.heap.size := by have := hb.size; simp at this; omega
      have HW2 : Hid (OwnN w2 w.heap.size (.slice (some ⟨w.heap.size, 0, none⟩) P.length P.length) qs) := (HW.out.keep (below_alloc _ _)).blw hb
      have HO2 := Lib.hid ho
      clear ho hb
      go_wp2_with fail
      refine (refTrim_own HO2.out (small_append (small_one hxs) (digs_small _)) (by have := HRb.out; simp; omega)).mono ?_
      rintro e w3 ⟨v3, rfl, ho, hb⟩
      have hv3 : val ([x] ++ digs R) = T := by rw [HTT.out]; simp [val, val_digs]
      rw [hv3] at ho
      have HO3 := Lib.hid (ho.mono (B' := w.heap.size + 1) hsz2)
      have HB3 : Hid (Below w.heap.size w w3) := HB2.out.trans (hb.mono (by omega))
      have HW3 := Lib.hid (HW2.out.keep hb)
      have hsz3 : w.heap.size + 1 ≤ w3.heap.size := by have := hb.size; omega
      clear ho hb hv3
      go_wp2_with fail
      go_loopw [9, 10] (fun lv hv wr => ∃ lo hi : Nat, lo < hi ∧ hi ≤ 1048576 ∧ lv = .int .i64 lo ∧ hv = .int .i64 hi ∧ Hid (lo * b ≤ T ∧ T < hi * b) ∧ Hid (Below w3.heap.size w3 wr)) (fun lv hv _ => (intOf hv - intOf lv).toNat)
      case atStart => exact ⟨0, 1048576, by omega, by omega, rfl, rfl, ⟨by omega, HTop.out⟩, Below.refl _ _⟩
      case round =>
        obtain ⟨lo, hi, hlh, hhi, rfl, rfl, HLH, HB4⟩ := hrel
        by_cases hd : 1 < hi - lo
        · have e1 : decide ((1 : Int) < (hi : Int) - (lo : Int)) = true := by rw [decide_eq_true_eq]; omega
          obtain ⟨mid, hmid⟩ : ∃ mid, mid = (lo + hi) / 2 := ⟨_, rfl⟩
          have hmi : ((lo : Int) + (hi : Int)) / 2 = (mid : Int) := by omega
          have hm1' : mid < 1048576 := by omega
          have hm2 : lo < mid := by omega
          have hm3 : mid < hi := by omega
          clear hmid
          have HB5 : Hid (Below w.heap.size w wr) := HB3.out.trans (HB4.out.mono (by omega))
          have hsz4 : w3.heap.size ≤ wr.heap.size := HB4.out.size
          go_wp2_with fail
          refine (rtimes_ok q _ (digs b) [mid] _ (HQ.out.keep (HB5.out.alloc HB5.out.size _)) (own_lit1 wr wr.heap.size mid (Nat.le_refl _)).rd (digs_small _) (small_one hm1') (by omega) (by simp)).mono ?_
          rintro e w5 ⟨v5, rfl, ho, hb⟩
          have hv5 : val (digs b) * val [mid] = mid * b := by rw [val_digs, Nat.mul_comm]; simp [val]
          rw [hv5] at ho
          have HO5 := Lib.hid ho
          have HB6 : Hid (Below wr.heap.size wr w5) := below_call (below_alloc _ _) hb
          have HR5 := Lib.hid ((HO3.out.keep HB4.out).keep HB6.out)
          have HTm : Hid ((digs (mid * b)).length ≤ 1099511627776) := by
            show _ ≤ _
            have h1 := digs_len_mul_one (a := b) (b := mid) hm1'
            rw [Nat.mul_comm] at h1; omega
          clear ho hb hv5
          by_cases hc : T < mid * b
          · have HL : Hid (lessB (digs T) (digs (mid * b)) = true) := by show _ = _; rw [lessB, val_digs, val_digs, decide_eq_true_eq]; exact hc
            go_wp2_with fail
            refine (less_ok _ _ (digs T) (digs (mid * b)) w5 HR5.out.rd HO5.out.rd (digs_small _) (digs_small _) HTb.out HTm.out).mono ?_
            rintro e w6 ⟨rfl, hb⟩
            rw [HL.out]
            have HB7 : Hid (Below w3.heap.size w3 w6) := below_call (below_call HB4.out HB6.out) hb
            clear hb
            go_wp2_with fail
            go_roundw
            case rel => exact ⟨lo, mid, hm2, by omega, rfl, by first | rfl | rw [hmi], ⟨HLH.out.1, hc⟩, HB7.out⟩
            case measure => simp [intOf]; omega
          · have HL : Hid (lessB (digs T) (digs (mid * b)) = false) := by show _ = _; rw [lessB, val_digs, val_digs, decide_eq_false_iff_not]; exact hc
            go_wp2_with fail
            refine (less_ok _ _ (digs T) (digs (mid * b)) w5 HR5.out.rd HO5.out.rd (digs_small _) (digs_small _) HTb.out HTm.out).mono ?_
            rintro e w6 ⟨rfl, hb⟩
            rw [HL.out]
            have HB7 : Hid (Below w3.heap.size w3 w6) := below_call (below_call HB4.out HB6.out) hb
            clear hb
            go_wp2_with fail
            go_roundw
            case rel => exact ⟨mid, hi, hm3, hhi, by first | rfl | rw [hmi], rfl, ⟨by omega, HLH.out.2⟩, HB7.out⟩
            case measure => simp [intOf]; omega
        · have e1 : decide ((1 : Int) < (hi : Int) - (lo : Int)) = false := by rw [decide_eq_false_iff_not]; omega
          obtain rfl : hi = lo + 1 := by omega
          have hlo2 : lo < 1048576 := by omega
          have HLE : Hid (lo * b ≤ T ∧ T < lo * b + b) := ⟨HLH.out.1, by have := HLH.out.2; rw [Nat.add_mul, Nat.one_mul] at this; exact this⟩
          have HB5 : Hid (Below w.heap.size w wr) := HB3.out.trans (HB4.out.mono (by omega))
          have hsz4 : w3.heap.size ≤ wr.heap.size := HB4.out.size
          have HW4 := Lib.hid (HW3.out.keep HB4.out)
          have HR4 := Lib.hid (HO3.out.keep HB4.out)
          have hmq : m < qs.length := by rw [HV.out.len]; exact hm1
          have hold := HW4.out.cell hmq
          have hfr := HW4.out.live m
          have hmi2 : (m : Int) < (P.length : Int) := by omega
          go_wp2_with fail
          obtain ⟨ws, hws⟩ : ∃ ws, ws = wr.setCell ⟨w.heap.size, m, none⟩ (.int .i64 (lo : Int)) := ⟨_, rfl⟩
          have hz : ws.heap.size = wr.heap.size := by rw [hws]; simp [World.setCell]
          have HWs : Hid (OwnN ws w.heap.size (.slice (some ⟨w.heap.size, 0, none⟩) P.length P.length) (qs.set m lo)) := by rw [hws]; exact HW4.out.set m lo
          have HRs : Hid (OwnN ws (w.heap.size + 1) v3 (digs T)) := by rw [hws]; exact HR4.out.away (only_setCell (World.grownBy.refl _ _) _) (by omega)
          have HBs : Hid (Below w.heap.size w ws) := by show Below _ _ _; rw [hws]; exact HB5.out.setCell (Nat.le_refl _) _
          rw [← hws, ← hz]
          have hsz5 : w.heap.size + 1 ≤ ws.heap.size := by omega
          clear hws hz hold hfr
          refine (refTrim_ok _ 1 [lo] _ (own_lit1 ws ws.heap.size lo (Nat.le_refl _)).rd (small_one hlo2) (by simp) (by simp)).mono ?_
          rintro e w7 ⟨v7, rfl, ho, hb⟩
          have hv7 : val [lo] = lo := by simp [val]
          rw [hv7] at ho
          have HO7 := Lib.hid ho
          have hb7 : Below ws.heap.size ws w7 := below_call (below_alloc _ _) hb
          have HW7 := Lib.hid (HWs.out.keep hb7)
          have HR7 := Lib.hid (HRs.out.keep hb7)
          have HB7 := Lib.hid (below_call HBs.out hb7)
          have hsz7 : w.heap.size + 1 ≤ w7.heap.size := by have := hb7.size; omega
          clear ho hb hb7 hv7
          go_wp2_with fail
          refine (rtimes_ok q v7 (digs b) (digs lo) w7 (HQ.out.keep HB7.out) HO7.out.rd (digs_small _) (digs_small _) (by omega) (by have := digs_len_of_lt (n := lo) (k := 1) (by rw [Nat.pow_one]; exact hlo2); omega)).mono ?_
          rintro e w8 ⟨v8, rfl, ho, hb⟩
          have hv8 : val (digs b) * val (digs lo) = lo * b := by rw [val_digs, val_digs, Nat.mul_comm]
          rw [hv8] at ho
          have HO8 := Lib.hid ho
          have HW8 := Lib.hid (HW7.out.keep hb)
          have HR8 := Lib.hid (HR7.out.keep hb)
          have HB8 := Lib.hid (below_call HB7.out hb)
          have hsz8 : w.heap.size + 1 ≤ w8.heap.size := by have := hb.size; omega
          clear ho hb hv8
          go_wp2_with fail
          refine (minus_ok v3 v8 (digs T) (digs (lo * b)) w8 HR8.out.rd HO8.out.rd (digs_small _) (digs_small _) (by rw [val_digs, val_digs]; exact HLE.out.1) (digs_len_mono HLE.out.1) HTb.out).mono ?_
          rintro e w9 ⟨v9, rfl, ho, hb⟩
          rw [val_digs, val_digs] at ho
          have HO9 := Lib.hid (ho.mono hsz8)
          have HW9 := Lib.hid (HW8.out.keep hb)
          have HB9 := Lib.hid (below_call HB8.out hb)
          have hsz9 : w.heap.size + 1 ≤ w9.heap.size := by have := hb.size; omega
          clear ho hb
          have HNV := Lib.hid (HN.out lo hlo2 HLE.out.1 HLE.out.2)
          go_wp2_with fail
          go_roundw
          case rel => exact ⟨m, T - lo * b, qs.set m lo, by omega, rfl, HNV, HO9, HW9, HB9, hsz9⟩
          case measure => simp [intOf]
    · obtain rfl : k = 0 := by omega
      have em : ((0 : Nat) : Int) - 1 = -1 := rfl
      rw [em]; clear em
      have HE := Lib.hid (over_end HV.out)
      have HLn : Hid (qs.length ≤ 8796093022208) := by show _ ≤ _; rw [HV.out.len]; omega
      go_wp2_with fail
      refine (refTrim_own (l := qs) HW.out HV.out.sq HLn.out).mono ?_
      rintro e w2 ⟨v2, rfl, ho, hb⟩
      rw [HE.out.1] at ho
      have HO2 := Lib.hid (ho.mono HB.out.size)
      have HR2 : Hid (OwnN w2 w.heap.size u7 (digs (val P % b))) := by rw [← HE.out.2]; exact (HR.out.keep hb).mono (by omega)
      have HB2 := Lib.hid (below_call HB.out hb)
      clear ho hb
      go_wp2_with fail
      go_ret2
      exact ⟨v2, u7, rfl, HO2.out, HR2.out, HB2.out⟩
end Go.Proofs.YtcfmakpckdicjaaGreatDoor
