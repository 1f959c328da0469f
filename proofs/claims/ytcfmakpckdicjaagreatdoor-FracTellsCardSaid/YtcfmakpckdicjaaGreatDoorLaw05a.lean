/- Walks: the examples of the documentation of fractions. -/
import Derived.Test.YtcfmakpckdicjaaGreatDoorBase
import Derived.Test.YtcfmakpckdicjaaGreatDoorBigSpec
import Derived.Test.YtcfmakpckdicjaaGreatDoorBigB
import Derived.Test.YtcfmakpckdicjaaGreatDoorBigC
import Derived.Test.YtcfmakpckdicjaaGreatDoorBigD
import Derived.Test.YtcfmakpckdicjaaGreatDoorBigK
import Derived.Test.YtcfmakpckdicjaaGreatDoorBigQ
import Derived.Test.YtcfmakpckdicjaaGreatDoorFracA
import Derived.Test.YtcfmakpckdicjaaGreatDoorRefE
import Derived.Test.YtcfmakpckdicjaaGreatDoorRefB5
import Derived.Test.YtcfmakpckdicjaaGreatDoorFz
import Derived.Test.YtcfmakpckdicjaaGreatDoorHeld
import Derived.Test.YtcfmakpckdicjaaGreatDoorAw
import Derived.Test.YtcfmakpckdicjaaGreatDoorFracD
import Derived.Test.YtcfmakpckdicjaaGreatDoorBigRead
import Derived.Test.YtcfmakpckdicjaaGreatDoorRefO
import Derived.Test.YtcfmakpckdicjaaGreatDoorProg
import Derived.Test.YtcfmakpckdicjaaGreatDoorShelf
import Derived.WalkKit
import Derived.WalkSpells
import Derived.WalkLawsBesides
import Derived.Handy
import Derived.Lib.Hide
import Derived.Lib.Strings
import Derived.Lib.Builder
import Derived.BigQuiet
import Derived.OwnWalk
import Derived.Laws.BitsLemmas
import Derived.WalkSmall
import Derived.Deep.QuietTactic
import Derived.StillTailTactics
import Derived.Maps.AppendAt
import Derived.IntWalk
import Derived.Deep.RegionHeld3
import Derived.Deep.DeepFit
import Derived.Deep.LoopGhost
import Derived.Deep.DeepCutAuto
import Derived.Lib.ItoaNum
import Derived.Lib.Repeat
import Derived.Lib.AppendIntMem
import Derived.Sort.OwnSorted
import Derived.Shelf.Strings.SlTrimAscii
import Derived.Lib.ConvBytes
import Derived.Lib.CutLaws
namespace Go.Proofs.YtcfmakpckdicjaaGreatDoor
open Go.RowKit Go.Lib
variable {G : Nat}

set_option maxRecDepth 100000 in
set_option maxHeartbeats 4000000 in
theorem of_is {x y : Int} {q : Rat} {w : World} (hG : G ≤ w.heap.size) (hx : -9223372036854775808 ≤ x ∧ x ≤ 9223372036854775807) (hy : -9223372036854775808 ≤ y ∧ y ≤ 9223372036854775807) (hs : y ≠ 0) (hq : Rat.divInt x y = q) :
  Calls Tryz.prog 46 #[.int .i64 x, .int .i64 y] w fun e w' => ∃ a c b d, e = .returned (.agg #[.int .i64 (sg (nu q)), .slice a (ln (nu q)) c, .int .i64 (sg (de q)), .slice b (ln (de q)) d]) ∧ FD G w' a c b d q ∧ Below w.heap.size w w' := by
 have HX := Lib.hid hx; have HY := Lib.hid hy; have HS := Lib.hid hs; have HQ := Lib.hid hq; clear hx hy hs hq
 have M : Hid (Below w.heap.size w w) := Below.refl _ _
 go_enter Tryz.func46, Tryz.ntmps46
 go_upto_region 1 with fail
 refine nmW (w.alloc (.cells #[.int .i64 0, .slice none 0 0, .int .i64 0, .slice none 0 0] 26)) fun w1 hv => ?_
 rw [← hv]
 replace M := alM hv M
 clear hv
 go_wp2_with fail
 refine (fracOf_is (G := G) (x := x) (y := y) (q := q) (Nat.le_trans hG (J1 M).size) HX.out HY.out HS.out HQ.out).mono ?_
 rintro e w2 ⟨a_1, c_2, b_3, d_4, rfl, hd5, hb⟩
 replace M := adM hd5 hb M
 clear hb hd5
 go_upto_region 2 with fail
 refine nmW (w2.alloc (.cells #[.int .i64 (sg (nu q)), .slice a_1 (ln (nu q)) c_2, .int .i64 (sg (de q)), .slice b_3 (ln (de q)) d_4] 26)) fun w3 hv => ?_
 rw [← hv]
 have o1 : w.heap.size < w2.heap.size := ((J1 M).1).lt
 replace M := alM hv M
 clear hv
 obtain ⟨aa, ab, ac, ad, ae, af, ag, ah⟩ := (M.out.1).c4
 obtain ⟨ai, aj, ak, al, am, ao, ap, aq⟩ := (J2 M).1.c4
 go_wp2_with fail
 clear aa ab ac ad ae af ag ah ai aj ak al am ao ap aq
 have hz : w.heap.size ≤ w.heap.size := by exact Nat.le_refl _
 refine st4W (.int .i64 (sg (nu q))) (.slice a_1 (ln (nu q)) c_2) (.int .i64 (sg (de q))) (.slice b_3 (ln (de q)) d_4) (J2 M).1 (J3 M) hz fun w4 hv og hk hbw => ?_
 rw [← hv]
 replace M := Lib.hid (aI ((M.out.1).only og (by omega)) (aI ((J1 M).1.far (J2 M).1 (by rfl) (by omega) og) (aI hk hbw)))
 clear hk hbw og hv hz
 refine bodyPost_ret (results_box1 rfl _ _ w.heap.size 26 _ _ _ rfl (J2 M).1 Tryz.underlying26 rfl (by kernel_rfl)) rfl ?_
 exact ⟨a_1, c_2, b_3, d_4, rfl, (J1 M).1, (J3 M)⟩
set_option maxRecDepth 100000 in
set_option maxHeartbeats 4000000 in
theorem least_ok {q r : Rat} {a1 b1 a2 b2 : Option Addr} {c1 d1 c2 d2 : Nat} {w : World} (hG : G ≤ w.heap.size) (h1 : FD G w a1 c1 b1 d1 q) (h2 : FD G w a2 c2 b2 d2 r) (hq : q = Rat.divInt (-1) 2) (hr : r = Rat.divInt 1 3) :
  Calls Tryz.prog 51 #[.agg #[.int .i64 (sg (nu q)), .slice a1 (ln (nu q)) c1, .int .i64 (sg (de q)), .slice b1 (ln (de q)) d1], .agg #[.int .i64 (sg (nu r)), .slice a2 (ln (nu r)) c2, .int .i64 (sg (de r)), .slice b2 (ln (de r)) d2]] w fun e w' => e = .returned (.bool true) ∧ Below w.heap.size w w' := by
 have HQ := Lib.hid hq; have HR := Lib.hid hr; clear hq hr
 have H1 : Hid (FD G w a1 c1 b1 d1 q) := h1
 have H2 : Hid (FD G w a2 c2 b2 d2 r) := h2
 clear h1 h2
 have M : Hid (Below w.heap.size w w) := Below.refl _ _
 go_enter Tryz.func51, Tryz.ntmps51
 go_upto_region 1 with fail
 refine nmW ((w.alloc (.cells #[.int .i64 (sg (nu q)), .slice a1 (ln (nu q)) c1, .int .i64 (sg (de q)), .slice b1 (ln (de q)) d1] 26)).alloc (.cells #[.int .i64 (sg (nu r)), .slice a2 (ln (nu r)) c2, .int .i64 (sg (de r)), .slice b2 (ln (de r)) d2] 26)) fun w1 hv => ?_
 rw [← hv]
 replace M := al2W hv M
 clear hv
 obtain ⟨aa, ab, ac, ad, ae, af, ag, ah⟩ := (J1 M).1.c4
 obtain ⟨ai, aj, ak, al, am, ao, ap, aq⟩ := (M.out.1).c4
 go_wp2_with fail
 clear aa ab ac ad ae af ag ah ai aj ak al am ao ap aq
 refine (fracMin_is (G := G) (q := q) (r := r) (m := q) (Nat.le_trans hG (J2 M).size) (H1.out.keep (J2 M)) (H2.out.keep (J2 M)) (Fz.mono (fz_lit HQ.out (by unfold Sz; decide) (by unfold Sz; decide) (by decide)) (by omega)) (Fz.mono (fz_lit HR.out (by unfold Sz; decide) (by unfold Sz; decide) (by decide)) (by omega)) (by first | done | (rw [HQ.out, HR.out]; decide +kernel) | (rw [HQ.out]; decide +kernel) | (rw [HR.out]; decide +kernel) | decide | rfl)).mono ?_
 rintro e w2 ⟨a_1, c_2, b_3, d_4, rfl, hd5, hb⟩
 replace M := adM hd5 hb M
 clear hb hd5
 go_upto_region 2 with fail
 refine nmW (w2.alloc (.cells #[.int .i64 (sg (nu q)), .slice a_1 (ln (nu q)) c_2, .int .i64 (sg (de q)), .slice b_3 (ln (de q)) d_4] 26)) fun w3 hv => ?_
 rw [← hv]
 have o2 : w.heap.size + 1 < w2.heap.size := ((J1 M).1).lt
 replace M := alM hv M
 clear hv
 obtain ⟨aa, ab, ac, ad, ae, af, ag, ah⟩ := (J3 M).1.c4
 obtain ⟨ai, aj, ak, al, am, ao, ap, aq⟩ := (J2 M).1.c4
 go_wp2_with fail
 clear aa ab ac ad ae af ag ah ai aj ak al am ao ap aq
 refine (fracMax_is (G := G) (q := q) (r := r) (m := r) (Nat.le_trans hG (J4 M).size) (H1.out.keep (J4 M)) (H2.out.keep (J4 M)) (Fz.mono (fz_lit HQ.out (by unfold Sz; decide) (by unfold Sz; decide) (by decide)) (by omega)) (Fz.mono (fz_lit HR.out (by unfold Sz; decide) (by unfold Sz; decide) (by decide)) (by omega)) (by first | done | (rw [HQ.out, HR.out]; decide +kernel) | (rw [HQ.out]; decide +kernel) | (rw [HR.out]; decide +kernel) | decide | rfl)).mono ?_
 rintro e w4 ⟨a_6, c_7, b_8, d_9, rfl, hd10, hb⟩
 replace M := adM hd10 hb M
 clear hb hd10
 go_upto_region 3 with fail
 refine nmW (w4.alloc (.cells #[.int .i64 (sg (nu r)), .slice a_6 (ln (nu r)) c_7, .int .i64 (sg (de r)), .slice b_8 (ln (de r)) d_9] 26)) fun w5 hv => ?_
 rw [← hv]
 have o3 : w2.heap.size < w4.heap.size := ((J1 M).1).lt
 replace M := alM hv M
 clear hv
 obtain ⟨ar, au, av, aw, ax, ay, az, ba⟩ := (J2 M).1.c4
 obtain ⟨aa, ab, ac, ad, ae, af, ag, ah⟩ := (J5 M).1.c4
 go_wp2_with fail
 clear ar au av aw ax ay az ba aa ab ac ad ae af ag ah
 refine (fracSame_q (G := G) (q := q) (r := q) (J3 M).1 (H1.out.keep (J6 M)) (Fz.mono (fz_lit HQ.out (by unfold Sz; decide) (by unfold Sz; decide) (by decide)) (by omega)) (Fz.mono (fz_lit HQ.out (by unfold Sz; decide) (by unfold Sz; decide) (by decide)) (by omega)) (by first | done | (rw [HQ.out, HR.out]; decide +kernel) | (rw [HQ.out]; decide +kernel) | (rw [HR.out]; decide +kernel) | decide | rfl)).mono ?_
 rintro e w6 ⟨rfl, hb⟩
 replace M := gnM hb M
 clear hb
 obtain ⟨bb, bc, bd, bf, bg, bh, bi, bj⟩ := (M.out.1).c4
 obtain ⟨ai, aj, ak, al, am, ao, ap, aq⟩ := (J4 M).1.c4
 go_wp2_with fail
 clear bb bc bd bf bg bh bi bj ai aj ak al am ao ap aq
 refine (fracSame_q (G := G) (q := r) (r := r) (J1 M).1 (H2.out.keep (J6 M)) (Fz.mono (fz_lit HR.out (by unfold Sz; decide) (by unfold Sz; decide) (by decide)) (by omega)) (Fz.mono (fz_lit HR.out (by unfold Sz; decide) (by unfold Sz; decide) (by decide)) (by omega)) (by first | done | (rw [HQ.out, HR.out]; decide +kernel) | (rw [HQ.out]; decide +kernel) | (rw [HR.out]; decide +kernel) | decide | rfl)).mono ?_
 rintro e w7 ⟨rfl, hb⟩
 replace M := gnM hb M
 clear hb
 obtain ⟨aa, ab, ac, ad, ae, af, ag, ah⟩ := (J5 M).1.c4
 go_wp2_with fail
 clear aa ab ac ad ae af ag ah
 refine (fracSign_is (G := G) (q := q) (k := (-1)) (Nat.le_trans hG (J6 M).size) (H1.out.keep (J6 M)) (Fz.mono (fz_lit HQ.out (by unfold Sz; decide) (by unfold Sz; decide) (by decide)) (by omega)) (by first | done | (rw [HQ.out, HR.out]; decide +kernel) | (rw [HQ.out]; decide +kernel) | (rw [HR.out]; decide +kernel) | decide | rfl)).mono ?_
 rintro e w8 ⟨rfl, hb⟩
 replace M := gnM hb M
 clear hb
 obtain ⟨aa, ab, ac, ad, ae, af, ag, ah⟩ := (J5 M).1.c4
 go_wp2_with fail
 clear aa ab ac ad ae af ag ah
 refine nmW (α := Rat) (-q) fun q15 eq15 => ?_
 refine (fracNeg_ok (G := G) (q := q) (Nat.le_trans hG (J6 M).size) (H1.out.keep (J6 M)) (Fz.mono (fz_lit HQ.out (by unfold Sz; decide) (by unfold Sz; decide) (by decide)) (by omega))).mono ?_
 rintro e w9 ⟨a_11, c_12, b_13, d_14, rfl, hd16, hb⟩
 rw [← eq15] at hd16 ⊢
 have Sq15 : Hid (Fz q15 10) := by show Fz q15 10; rw [eq15]; exact (Fz.neg (fz_lit HQ.out (by unfold Sz; decide) (by unfold Sz; decide) (by decide)))
 have Eq15 := Lib.hid eq15; clear eq15
 replace M := adM hd16 hb M
 clear hb hd16
 go_wp2_with fail
 refine (fracSign_is (G := G) (q := q15) (k := 1) (Nat.le_trans hG (J7 M).size) (M.out.1) (Fz.mono Sq15.out (by omega)) (by rw [Eq15.out]; first | done | (rw [HQ.out, HR.out]; decide +kernel) | (rw [HQ.out]; decide +kernel) | (rw [HR.out]; decide +kernel) | decide | rfl)).mono ?_
 rintro e w10 ⟨rfl, hb⟩
 replace M := gnM hb M
 clear hb
 obtain ⟨aa, ab, ac, ad, ae, af, ag, ah⟩ := (J6 M).1.c4
 go_wp2_with fail
 clear aa ab ac ad ae af ag ah
 refine nmW (α := Rat) (-q) fun q21 eq21 => ?_
 refine (fracNeg_ok (G := G) (q := q) (Nat.le_trans hG (J7 M).size) (H1.out.keep (J7 M)) (Fz.mono (fz_lit HQ.out (by unfold Sz; decide) (by unfold Sz; decide) (by decide)) (by omega))).mono ?_
 rintro e w11 ⟨a_17, c_18, b_19, d_20, rfl, hd22, hb⟩
 rw [← eq21] at hd22 ⊢
 have Sq21 : Hid (Fz q21 10) := by show Fz q21 10; rw [eq21]; exact (Fz.neg (fz_lit HQ.out (by unfold Sz; decide) (by unfold Sz; decide) (by decide)))
 have Eq21 := Lib.hid eq21; clear eq21
 replace M := adM hd22 hb M
 clear hb hd22
 go_wp2_with fail
 refine (of_is (G := G) (x := 1) (y := 2) (q := (Rat.divInt 1 2)) (Nat.le_trans hG (J8 M).size) (by omega) (by omega) (by omega) (by first | done | decide +kernel)).mono ?_
 rintro e w12 ⟨a_23, c_24, b_25, d_26, rfl, hd27, hb⟩
 replace M := adM hd27 hb M
 clear hb hd27
 go_wp2_with fail
 refine (fracSame_q (G := G) (q := q21) (r := (Rat.divInt 1 2)) (J1 M).1 (M.out.1) (Fz.mono Sq21.out (by omega)) (Fz.mono (fz_lit (q := (Rat.divInt 1 2)) rfl (by unfold Sz; decide) (by unfold Sz; decide) (by decide)) (by omega)) (by rw [Eq21.out]; first | done | (rw [HQ.out, HR.out]; decide +kernel) | (rw [HQ.out]; decide +kernel) | (rw [HR.out]; decide +kernel) | decide | rfl)).mono ?_
 rintro e w13 ⟨rfl, hb⟩
 replace M := gnM hb M
 clear hb
 go_wp2_with fail
 refine nmW (α := Rat) ((-2 : Int) : Rat) fun q32 eq32 => ?_
 refine (fracInt_ok (G := G) (-2) _ (by omega)).mono ?_
 rintro e w14 ⟨a_28, c_29, b_30, d_31, rfl, hd33, hb⟩
 rw [← eq32] at hd33 ⊢
 have Sq32 : Hid (Fz q32 4) := by show Fz q32 4; rw [eq32]; exact (Fz.int64 (by decide))
 have Eq32 := Lib.hid eq32; clear eq32
 replace M := adM hd33 hb M
 clear hb hd33
 go_wp2_with fail
 refine (of_is (G := G) (x := 4) (y := (-2)) (q := (Rat.divInt 4 (-2))) (Nat.le_trans hG (J10 M).size) (by omega) (by omega) (by omega) (by first | done | decide +kernel)).mono ?_
 rintro e w15 ⟨a_34, c_35, b_36, d_37, rfl, hd38, hb⟩
 replace M := adM hd38 hb M
 clear hb hd38
 go_wp2_with fail
 refine (fracSame_q (G := G) (q := q32) (r := (Rat.divInt 4 (-2))) (J1 M).1 (M.out.1) (Fz.mono Sq32.out (by omega)) (Fz.mono (fz_lit (q := (Rat.divInt 4 (-2))) rfl (by unfold Sz; decide) (by unfold Sz; decide) (by decide)) (by omega)) (by rw [Eq32.out]; first | done | decide +kernel)).mono ?_
 rintro e w16 ⟨rfl, hb⟩
 replace M := gnM hb M
 clear hb
 go_wp2_with fail
 go_ret
 exact ⟨rfl, (J11 M)⟩
set_option maxRecDepth 100000 in
set_option maxHeartbeats 16000000 in
theorem small_ok {w : World} (hG : G ≤ w.heap.size) (ht : Tab w) (hm : Mx w) :
    Calls Tryz.prog 8 #[] w fun e w' => e = .returned (.bool true) ∧ Below w.heap.size w w' := by
  have HT : Hid (Tab w) := ht
  have HM : Hid (Mx w) := hm
  clear ht hm
  have M : Hid (Below w.heap.size w w) := Below.refl _ _
  go_enter Tryz.func8, Tryz.ntmps8
  go_wp2_with fail
  refine (of_is (G := G) (x := 1) (y := 2) (q := (Rat.divInt 1 2)) (Nat.le_trans hG M.out.size) (by omega) (by omega) (by omega) (by first | done | decide +kernel)).mono ?_
  rintro e w1 ⟨a_1, c_2, b_3, d_4, rfl, hd5, hb⟩
  replace M := adM hd5 hb M
  clear hb hd5
  go_upto_region 2 with fail
  refine nmW (w1.alloc (.cells #[.int .i64 (sg (nu (Rat.divInt 1 2))), .slice a_1 (ln (nu (Rat.divInt 1 2))) c_2, .int .i64 (sg (de (Rat.divInt 1 2))), .slice b_3 (ln (de (Rat.divInt 1 2))) d_4] 26)) fun w2 hv => ?_
  rw [← hv]
  have o0 : w.heap.size ≤ w1.heap.size := ((J1 M)).size
  replace M := alM hv M
  clear hv
  go_wp2_with fail
  refine (of_is (G := G) (x := 1) (y := 3) (q := (Rat.divInt 1 3)) (Nat.le_trans hG (J2 M).size) (by omega) (by omega) (by omega) (by first | done | decide +kernel)).mono ?_
  rintro e w3 ⟨a_6, c_7, b_8, d_9, rfl, hd10, hb⟩
  replace M := adM hd10 hb M
  clear hb hd10
  go_upto_region 3 with fail
  refine nmW (w3.alloc (.cells #[.int .i64 (sg (nu (Rat.divInt 1 3))), .slice a_6 (ln (nu (Rat.divInt 1 3))) c_7, .int .i64 (sg (de (Rat.divInt 1 3))), .slice b_8 (ln (de (Rat.divInt 1 3))) d_9] 26)) fun w4 hv => ?_
  rw [← hv]
  have o1 : w1.heap.size < w3.heap.size := ((J1 M).1).lt
  replace M := alM hv M
  clear hv
  go_wp2_with fail
  refine (fracOf_zero (G := G) (x := 1) (y := 0) (Nat.le_trans hG (J4 M).size) (by omega) (by omega) (by first | done | decide +kernel)).mono ?_
  rintro e w5 ⟨rfl, hb⟩
  replace M := gnM hb M
  clear hb
  go_upto_region 4 with fail
  refine nmW (w5.alloc (.cells #[.int .i64 0, .slice none 0 0, .int .i64 0, .slice none 0 0] 26)) fun w6 hv => ?_
  rw [← hv]
  have o2 : w3.heap.size < w5.heap.size := ((M.out.1)).lt
  replace M := alM hv M
  clear hv
  obtain ⟨aa, ab, ac, ad, ae, af, ag, ah⟩ := (J3 M).1.c4
  obtain ⟨ai, aj, ak, al, am, ao, ap, aq⟩ := (J1 M).1.c4
  go_wp2_with fail
  clear aa ab ac ad ae af ag ah ai aj ak al am ao ap aq
  refine nmW (α := Rat) ((Rat.divInt 1 2) + (Rat.divInt 1 3)) fun q15 eq15 => ?_
  refine (fracAdd_ok (G := G) (q := (Rat.divInt 1 2)) (r := (Rat.divInt 1 3)) (J4 M).1 (J2 M).1 (Fz.mono (fz_lit (q := (Rat.divInt 1 2)) rfl (by unfold Sz; decide) (by unfold Sz; decide) (by decide)) (by omega)) (Fz.mono (fz_lit (q := (Rat.divInt 1 3)) rfl (by unfold Sz; decide) (by unfold Sz; decide) (by decide)) (by omega))).mono ?_
  rintro e w7 ⟨a_11, c_12, b_13, d_14, rfl, hd16, hb⟩
  rw [← eq15] at hd16 ⊢
  have Sq15 : Hid (Fz q15 21) := by show Fz q15 21; rw [eq15]; exact (Fz.add (fz_lit (q := (Rat.divInt 1 2)) rfl (by unfold Sz; decide) (by unfold Sz; decide) (by decide)) (fz_lit (q := (Rat.divInt 1 3)) rfl (by unfold Sz; decide) (by unfold Sz; decide) (by decide)))
  have Eq15 := Lib.hid eq15; clear eq15
  replace M := adM hd16 hb M
  clear hb hd16
  go_upto_region 5 with fail
  refine nmW (w7.alloc (.cells #[.int .i64 (sg (nu q15)), .slice a_11 (ln (nu q15)) c_12, .int .i64 (sg (de q15)), .slice b_13 (ln (de q15)) d_14] 26)) fun w8 hv => ?_
  rw [← hv]
  have o3 : w5.heap.size < w7.heap.size := ((J1 M).1).lt
  replace M := alM hv M
  clear hv
  obtain ⟨aa, ab, ac, ad, ae, af, ag, ah⟩ := (J5 M).1.c4
  obtain ⟨ai, aj, ak, al, am, ao, ap, aq⟩ := (J3 M).1.c4
  go_wp2_with fail
  clear aa ab ac ad ae af ag ah ai aj ak al am ao ap aq
  refine nmW (α := Rat) ((Rat.divInt 1 2) - (Rat.divInt 1 3)) fun q21 eq21 => ?_
  refine (fracSub_ok (G := G) (q := (Rat.divInt 1 2)) (r := (Rat.divInt 1 3)) (J6 M).1 (J4 M).1 (Fz.mono (fz_lit (q := (Rat.divInt 1 2)) rfl (by unfold Sz; decide) (by unfold Sz; decide) (by decide)) (by omega)) (Fz.mono (fz_lit (q := (Rat.divInt 1 3)) rfl (by unfold Sz; decide) (by unfold Sz; decide) (by decide)) (by omega))).mono ?_
  rintro e w9 ⟨a_17, c_18, b_19, d_20, rfl, hd22, hb⟩
  rw [← eq21] at hd22 ⊢
  have Sq21 : Hid (Fz q21 21) := by show Fz q21 21; rw [eq21]; exact (Fz.sub (fz_lit (q := (Rat.divInt 1 2)) rfl (by unfold Sz; decide) (by unfold Sz; decide) (by decide)) (fz_lit (q := (Rat.divInt 1 3)) rfl (by unfold Sz; decide) (by unfold Sz; decide) (by decide)))
  have Eq21 := Lib.hid eq21; clear eq21
  replace M := adM hd22 hb M
  clear hb hd22
  go_upto_region 6 with fail
  refine nmW (w9.alloc (.cells #[.int .i64 (sg (nu q21)), .slice a_17 (ln (nu q21)) c_18, .int .i64 (sg (de q21)), .slice b_19 (ln (de q21)) d_20] 26)) fun w10 hv => ?_
  rw [← hv]
  have o4 : w7.heap.size < w9.heap.size := ((J1 M).1).lt
  replace M := alM hv M
  clear hv
  obtain ⟨aa, ab, ac, ad, ae, af, ag, ah⟩ := (J7 M).1.c4
  obtain ⟨ai, aj, ak, al, am, ao, ap, aq⟩ := (J5 M).1.c4
  go_wp2_with fail
  clear aa ab ac ad ae af ag ah ai aj ak al am ao ap aq
  refine nmW (α := Rat) ((Rat.divInt 1 2) * (Rat.divInt 1 3)) fun q27 eq27 => ?_
  refine (fracMul_ok (G := G) (q := (Rat.divInt 1 2)) (r := (Rat.divInt 1 3)) (Nat.le_trans hG (J9 M).size) (J8 M).1 (J6 M).1 (Fz.mono (fz_lit (q := (Rat.divInt 1 2)) rfl (by unfold Sz; decide) (by unfold Sz; decide) (by decide)) (by omega)) (Fz.mono (fz_lit (q := (Rat.divInt 1 3)) rfl (by unfold Sz; decide) (by unfold Sz; decide) (by decide)) (by omega))).mono ?_
  rintro e w11 ⟨a_23, c_24, b_25, d_26, rfl, hd28, hb⟩
  rw [← eq27] at hd28 ⊢
  have Sq27 : Hid (Fz q27 20) := by show Fz q27 20; rw [eq27]; exact (Fz.mul (fz_lit (q := (Rat.divInt 1 2)) rfl (by unfold Sz; decide) (by unfold Sz; decide) (by decide)) (fz_lit (q := (Rat.divInt 1 3)) rfl (by unfold Sz; decide) (by unfold Sz; decide) (by decide)))
  have Eq27 := Lib.hid eq27; clear eq27
  replace M := adM hd28 hb M
  clear hb hd28
  go_upto_region 7 with fail
  refine nmW (w11.alloc (.cells #[.int .i64 (sg (nu q27)), .slice a_23 (ln (nu q27)) c_24, .int .i64 (sg (de q27)), .slice b_25 (ln (de q27)) d_26] 26)) fun w12 hv => ?_
  rw [← hv]
  have o5 : w9.heap.size < w11.heap.size := ((J1 M).1).lt
  replace M := alM hv M
  clear hv
  obtain ⟨aa, ab, ac, ad, ae, af, ag, ah⟩ := (J9 M).1.c4
  obtain ⟨ai, aj, ak, al, am, ao, ap, aq⟩ := (J7 M).1.c4
  go_wp2_with fail
  clear aa ab ac ad ae af ag ah ai aj ak al am ao ap aq
  refine nmW (α := Rat) ((Rat.divInt 1 2) / (Rat.divInt 1 3)) fun q33 eq33 => ?_
  refine (fracDiv_ok (G := G) (q := (Rat.divInt 1 2)) (r := (Rat.divInt 1 3)) (Nat.le_trans hG (J11 M).size) (J10 M).1 (J8 M).1 (Fz.mono (fz_lit (q := (Rat.divInt 1 2)) rfl (by unfold Sz; decide) (by unfold Sz; decide) (by decide)) (by omega)) (Fz.mono (fz_lit (q := (Rat.divInt 1 3)) rfl (by unfold Sz; decide) (by unfold Sz; decide) (by decide)) (by omega)) (by first | done | decide +kernel)).mono ?_
  rintro e w13 ⟨a_29, c_30, b_31, d_32, rfl, hd34, hb⟩
  rw [← eq33] at hd34 ⊢
  have Sq33 : Hid (Fz q33 20) := by show Fz q33 20; rw [eq33]; exact (Fz.div (fz_lit (q := (Rat.divInt 1 2)) rfl (by unfold Sz; decide) (by unfold Sz; decide) (by decide)) (fz_lit (q := (Rat.divInt 1 3)) rfl (by unfold Sz; decide) (by unfold Sz; decide) (by decide)) (by first | done | decide +kernel))
  have Eq33 := Lib.hid eq33; clear eq33
  replace M := adM hd34 hb M
  clear hb hd34
  go_upto_region 8 with fail
  refine nmW (w13.alloc (.cells #[.int .i64 (sg (nu q33)), .slice a_29 (ln (nu q33)) c_30, .int .i64 (sg (de q33)), .slice b_31 (ln (de q33)) d_32] 26)) fun w14 hv => ?_
  rw [← hv]
  have o6 : w11.heap.size < w13.heap.size := ((J1 M).1).lt
  replace M := alM hv M
  clear hv
  go_wp2_with fail
  obtain ⟨z39, ez39⟩ : ∃ v_ : Int, v_ = (oN none) := ⟨_, rfl⟩
  obtain ⟨z40, ez40⟩ : ∃ v_ : Int, v_ = (oD none) := ⟨_, rfl⟩
  refine (fracRead_v (G := G) (S := ({data := #[50, 47, 52]})) (l := ([50, 47, 52])) (o := none) (er := 2) (Nat.le_trans hG (J13 M).size) (HT.out.keep (J13 M)) (HM.out.keep (J13 M)) (by first | done | decide +kernel) (by decide) (by rfl) (by rfl)).mono ?_
  rintro e w15 ⟨a_35, c_36, b_37, d_38, rfl, hd41, hd42, hb⟩
  rw [← ez39] at hd41 ⊢
  have Sz39 : Hid (Sz z39 20) := by show Sz z39 20; rw [ez39]; exact (show Sz (oN none) 20 from by unfold Sz; decide)
  have Ez39 := Lib.hid ez39; clear ez39
  rw [← ez40] at hd42 ⊢
  have Sz40 : Hid (Sz z40 20) := by show Sz z40 20; rw [ez40]; exact (show Sz (oD none) 20 from by unfold Sz; decide)
  have Ez40 := Lib.hid ez40; clear ez40
  replace M := ad2M hd41 hd42 hb M
  clear hb hd41 hd42
  go_upto_region 9 with fail
  refine nmW (w15.alloc (.cells #[.int .i64 (sg z39), .slice a_35 (ln z39) c_36, .int .i64 (sg z40), .slice b_37 (ln z40) d_38] 26)) fun w16 hv => ?_
  rw [← hv]
  have o7 : w13.heap.size < w15.heap.size := ((J2 M).1).lt
  replace M := alM hv M
  clear hv
  go_wp2_with fail
  obtain ⟨z47, ez47⟩ : ∃ v_ : Int, v_ = (oN (some (Rat.divInt (-3) 2))) := ⟨_, rfl⟩
  obtain ⟨z48, ez48⟩ : ∃ v_ : Int, v_ = (oD (some (Rat.divInt (-3) 2))) := ⟨_, rfl⟩
  refine (fracRead_v (G := G) (S := ({data := #[45, 51, 47, 50]})) (l := ([45, 51, 47, 50])) (o := (some (Rat.divInt (-3) 2))) (er := 0) (Nat.le_trans hG (J16 M).size) (HT.out.keep (J16 M)) (HM.out.keep (J16 M)) (by first | done | decide +kernel) (by decide) (readF_lit (l1 := [45, 51]) (l2 := [50]) (by decide) (by decide) (by decide) (by decide)) (by show rfE ([45, 51] ++ 47 :: [50]) = 0; unfold rfE; rw [readF_lit (l1 := [45, 51]) (l2 := [50]) (q := Rat.divInt (-3) 2) (by decide) (by decide) (by decide) (by decide)]; rfl)).mono ?_
  rintro e w17 ⟨a_43, c_44, b_45, d_46, rfl, hd49, hd50, hb⟩
  rw [← ez47] at hd49 ⊢
  have Sz47 : Hid (Sz z47 20) := by show Sz z47 20; rw [ez47]; exact (show Sz (oN (some (Rat.divInt (-3) 2))) 20 from by unfold Sz; decide)
  have Ez47 := Lib.hid ez47; clear ez47
  rw [← ez48] at hd50 ⊢
  have Sz48 : Hid (Sz z48 20) := by show Sz z48 20; rw [ez48]; exact (show Sz (oD (some (Rat.divInt (-3) 2))) 20 from by unfold Sz; decide)
  have Ez48 := Lib.hid ez48; clear ez48
  replace M := ad2M hd49 hd50 hb M
  clear hb hd49 hd50
  go_upto_region 10 with fail
  refine nmW (w17.alloc (.cells #[.int .i64 (sg z47), .slice a_43 (ln z47) c_44, .int .i64 (sg z48), .slice b_45 (ln z48) d_46] 26)) fun w18 hv => ?_
  rw [← hv]
  have o8 : w15.heap.size < w17.heap.size := ((J2 M).1).lt
  replace M := alM hv M
  clear hv
  go_wp2_with fail
  refine (of_is (G := G) (x := 6) (y := (-4)) (q := (Rat.divInt 6 (-4))) (Nat.le_trans hG (J19 M).size) (by omega) (by omega) (by omega) (by first | done | decide +kernel)).mono ?_
  rintro e w19 ⟨a_51, c_52, b_53, d_54, rfl, hd55, hb⟩
  replace M := adM hd55 hb M
  clear hb hd55
  go_wp2_with fail
  refine (fracText_lit (G := G) (q := (Rat.divInt 6 (-4))) (s := ({data := #[45, 51, 47, 50]})) (M.out.1) (Fz.mono (fz_lit (q := (Rat.divInt 6 (-4))) rfl (by unfold Sz; decide) (by unfold Sz; decide) (by decide)) (by omega)) (HT.out.keep (J20 M)) (by rw [textF_lit (l1 := [45, 51]) (l2 := [50]) (by decide) (by decide) (by decide +kernel) (by decide +kernel)]; rfl)).mono ?_
  rintro e w20 ⟨rfl, hb⟩
  replace M := gnM hb M
  clear hb
  go_wp2_with fail
  refine (of_is (G := G) (x := 0) (y := 7) (q := (Rat.divInt 0 7)) (Nat.le_trans hG (J20 M).size) (by omega) (by omega) (by omega) (by first | done | decide +kernel)).mono ?_
  rintro e w21 ⟨a_56, c_57, b_58, d_59, rfl, hd60, hb⟩
  replace M := adM hd60 hb M
  clear hb hd60
  go_wp2_with fail
  refine (fracText_lit (G := G) (q := (Rat.divInt 0 7)) (s := ({data := #[48, 47, 49]})) (M.out.1) (Fz.mono (fz_lit (q := (Rat.divInt 0 7)) rfl (by unfold Sz; decide) (by unfold Sz; decide) (by decide)) (by omega)) (HT.out.keep (J21 M)) (by rw [textF_lit (l1 := [48]) (l2 := [49]) (by decide) (by decide) (by decide +kernel) (by decide +kernel)]; rfl)).mono ?_
  rintro e w22 ⟨rfl, hb⟩
  replace M := gnM hb M
  clear hb
  obtain ⟨ar, au, av, aw, ax, ay, az, ba⟩ := (J14 M).1.c4
  go_wp2_with fail
  clear ar au av aw ax ay az ba
  refine (fracText_lit (G := G) (q := q15) (s := ({data := #[53, 47, 54]})) (J15 M).1 (Fz.mono Sq15.out (by omega)) (HT.out.keep (J21 M)) (by rw [textF_lit (l1 := [53]) (l2 := [54]) (by decide) (by decide) (by rw [Eq15.out]; decide +kernel) (by rw [Eq15.out]; decide +kernel)]; rfl)).mono ?_
  rintro e w23 ⟨rfl, hb⟩
  replace M := gnM hb M
  clear hb
  obtain ⟨bb, bc, bd, bf, bg, bh, bi, bj⟩ := (J12 M).1.c4
  go_wp2_with fail
  clear bb bc bd bf bg bh bi bj
  refine (fracText_lit (G := G) (q := q21) (s := ({data := #[49, 47, 54]})) (J13 M).1 (Fz.mono Sq21.out (by omega)) (HT.out.keep (J21 M)) (by rw [textF_lit (l1 := [49]) (l2 := [54]) (by decide) (by decide) (by rw [Eq21.out]; decide +kernel) (by rw [Eq21.out]; decide +kernel)]; rfl)).mono ?_
  rintro e w24 ⟨rfl, hb⟩
  replace M := gnM hb M
  clear hb
  obtain ⟨bk, bl, bm, bn, bo, bp, bq, br⟩ := (J10 M).1.c4
  go_wp2_with fail
  clear bk bl bm bn bo bp bq br
  refine (fracText_lit (G := G) (q := q27) (s := ({data := #[49, 47, 54]})) (J11 M).1 (Fz.mono Sq27.out (by omega)) (HT.out.keep (J21 M)) (by rw [textF_lit (l1 := [49]) (l2 := [54]) (by decide) (by decide) (by rw [Eq27.out]; decide +kernel) (by rw [Eq27.out]; decide +kernel)]; rfl)).mono ?_
  rintro e w25 ⟨rfl, hb⟩
  replace M := gnM hb M
  clear hb
  obtain ⟨bs, bt, bu, bv, bw, bx, bz, ca⟩ := (J8 M).1.c4
  go_wp2_with fail
  clear bs bt bu bv bw bx bz ca
  refine (fracText_lit (G := G) (q := q33) (s := ({data := #[51, 47, 50]})) (J9 M).1 (Fz.mono Sq33.out (by omega)) (HT.out.keep (J21 M)) (by rw [textF_lit (l1 := [51]) (l2 := [50]) (by decide) (by decide) (by rw [Eq33.out]; decide +kernel) (by rw [Eq33.out]; decide +kernel)]; rfl)).mono ?_
  rintro e w26 ⟨rfl, hb⟩
  replace M := gnM hb M
  clear hb
  go_wp2_with fail
  refine nmW w26.drew fun w27 hv => ?_
  replace M := drM hv M
  refine wp_region_held_drew (S := (fun w' => w'.cell? ⟨w1.heap.size, 0, none⟩ = some (.int .i64 (sg (nu (Rat.divInt 1 2)))) ∧ w'.cell? ⟨w1.heap.size, 1, none⟩ = some (.slice a_1 (ln (nu (Rat.divInt 1 2))) c_2) ∧ w'.cell? ⟨w1.heap.size, 2, none⟩ = some (.int .i64 (sg (de (Rat.divInt 1 2)))) ∧ w'.cell? ⟨w1.heap.size, 3, none⟩ = some (.slice b_3 (ln (de (Rat.divInt 1 2))) d_4) ∧ w'.cell? ⟨w3.heap.size, 0, none⟩ = some (.int .i64 (sg (nu (Rat.divInt 1 3)))) ∧ w'.cell? ⟨w3.heap.size, 1, none⟩ = some (.slice a_6 (ln (nu (Rat.divInt 1 3))) c_7) ∧ w'.cell? ⟨w3.heap.size, 2, none⟩ = some (.int .i64 (sg (de (Rat.divInt 1 3)))) ∧ w'.cell? ⟨w3.heap.size, 3, none⟩ = some (.slice b_8 (ln (de (Rat.divInt 1 3))) d_9) ∧ w'.cell? ⟨w17.heap.size, 0, none⟩ = some (.int .i64 (sg z47)) ∧ w'.cell? ⟨w17.heap.size, 1, none⟩ = some (.slice a_43 (ln z47) c_44) ∧ w'.cell? ⟨w17.heap.size, 2, none⟩ = some (.int .i64 (sg z48)) ∧ w'.cell? ⟨w17.heap.size, 3, none⟩ = some (.slice b_45 (ln z48) d_46))) (by kernel_rfl) (by rw [← hv]; exact ((J19 M).1.t4 ((J17 M).1.t4 ((J2 M).1.d4)))) (fun hH93 => ?_)
  rw [← hv] at hH93 ⊢
  clear hv
  refine tk at0 ?_
  refine tk at1 ?_
  refine wpAnyH_ready (rs := [2]) (by kernel_rfl) (by simp) ?_
  refine AllReadyH.cons at2 (fun K hK => ?_) AllReadyH.nil
  go_simp
  refine (of_is (G := G) (x := (-1)) (y := 2) (q := (Rat.divInt (-1) 2)) (Nat.le_trans hG (J21 M).size) (by omega) (by omega) (by omega) (by first | done | decide +kernel)).mono ?_
  rintro e w28 ⟨a_94, c_95, b_96, d_97, rfl, hd98, hb⟩
  replace M := adM hd98 hb M
  clear hb hd98
  (try go_wp2_with fail)
  refine hK.out _ _ (((J20 M).1.t4 ((J18 M).1.t4 ((J3 M).1.d4)))) (fun hH99 => ?_)
  clear hK K hH93
  (try simp only [Act.put, List.setIfInBounds_toArray, List.set_cons_zero, List.set_cons_succ])
  refine wpAnyH_ready (rs := [3]) (by kernel_rfl) (by simp) ?_
  refine AllReadyH.cons at3 (fun K hK => ?_) AllReadyH.nil
  go_simp
  refine (of_is (G := G) (x := (-1)) (y := 3) (q := (Rat.divInt (-1) 3)) (Nat.le_trans hG (J22 M).size) (by omega) (by omega) (by omega) (by first | done | decide +kernel)).mono ?_
  rintro e w29 ⟨a_100, c_101, b_102, d_103, rfl, hd104, hb⟩
  replace M := adM hd104 hb M
  clear hb hd104
  (try go_wp2_with fail)
  refine hK.out _ _ (((J21 M).1.t4 ((J19 M).1.t4 ((J4 M).1.d4)))) (fun hH105 => ?_)
  clear hK K hH99
  (try simp only [Act.put, List.setIfInBounds_toArray, List.set_cons_zero, List.set_cons_succ])
  refine wpAnyH_ready (rs := [4]) (by kernel_rfl) (by simp) ?_
  refine AllReadyH.cons at4 (fun K hK => ?_) AllReadyH.nil
  go_simp
  refine (fracCompare_is (G := G) (q := (Rat.divInt (-1) 2)) (r := (Rat.divInt (-1) 3)) (k := (-1)) (J1 M).1 (M.out.1) (Fz.mono (fz_lit (q := (Rat.divInt (-1) 2)) rfl (by unfold Sz; decide) (by unfold Sz; decide) (by decide)) (by omega)) (Fz.mono (fz_lit (q := (Rat.divInt (-1) 3)) rfl (by unfold Sz; decide) (by unfold Sz; decide) (by decide)) (by omega)) (by first | done | decide +kernel)).mono ?_
  rintro e w30 ⟨rfl, hb⟩
  replace M := gnM hb M
  clear hb
  (try go_wp2_with fail)
  refine hK.out _ _ (((J21 M).1.t4 ((J19 M).1.t4 ((J4 M).1.d4)))) (fun hH106 => ?_)
  clear hK K hH105
  (try simp only [Act.put, List.setIfInBounds_toArray, List.set_cons_zero, List.set_cons_succ])
  refine tk at5 ?_
  refine tk at6 ?_
  refine tk at7 ?_
  refine wpAnyH_ready (rs := [8]) (by kernel_rfl) (by simp) ?_
  refine AllReadyH.cons at8 (fun K hK => ?_) AllReadyH.nil
  go_simp
  refine (of_is (G := G) (x := (-3)) (y := 2) (q := (Rat.divInt (-3) 2)) (Nat.le_trans hG (J23 M).size) (by omega) (by omega) (by omega) (by first | done | decide +kernel)).mono ?_
  rintro e w31 ⟨a_107, c_108, b_109, d_110, rfl, hd111, hb⟩
  replace M := adM hd111 hb M
  clear hb hd111
  (try go_wp2_with fail)
  refine hK.out _ _ (((J22 M).1.t4 ((J20 M).1.t4 ((J5 M).1.d4)))) (fun hH112 => ?_)
  clear hK K hH106
  (try simp only [Act.put, List.setIfInBounds_toArray, List.set_cons_zero, List.set_cons_succ])
  refine wpAnyH_ready (rs := [9]) (by kernel_rfl) (by simp) ?_
  refine AllReadyH.cons at9 (fun K hK => ?_) AllReadyH.nil
  go_simp
  obtain ⟨z115, ez115⟩ : ∃ v_ : Int, v_ = (flo (Rat.divInt (-3) 2)) := ⟨_, rfl⟩
  refine (fracFloor_ok (G := G) (q := (Rat.divInt (-3) 2)) (Nat.le_trans hG (J24 M).size) (M.out.1) (Fz.mono (fz_lit (q := (Rat.divInt (-3) 2)) rfl (by unfold Sz; decide) (by unfold Sz; decide) (by decide)) (by omega))).mono ?_
  rintro e w32 ⟨a_113, c_114, rfl, hd116, hb⟩
  rw [← ez115] at hd116 ⊢
  have Sz115 : Hid (Sz z115 20) := by show Sz z115 20; rw [ez115]; exact (show Sz (flo (Rat.divInt (-3) 2)) 20 from by unfold Sz; decide)
  have Ez115 := Lib.hid ez115; clear ez115
  replace M := adM hd116 hb M
  clear hb hd116
  (try go_wp2_with fail)
  refine hK.out _ _ (((J23 M).1.t4 ((J21 M).1.t4 ((J6 M).1.d4)))) (fun hH117 => ?_)
  clear hK K hH112
  (try simp only [Act.put, List.setIfInBounds_toArray, List.set_cons_zero, List.set_cons_succ])
  refine wpAnyH_ready (rs := [10]) (by kernel_rfl) (by simp) ?_
  refine AllReadyH.cons at10 (fun K hK => ?_) AllReadyH.nil
  go_simp
  refine (bigOf_ok (G := G) (-2) _ (by omega)).mono ?_
  rintro e w33 ⟨a_118, c_119, rfl, hd120, hb⟩
  replace M := adM hd120 hb M
  clear hb hd120
  (try go_wp2_with fail)
  refine hK.out _ _ (((J24 M).1.t4 ((J22 M).1.t4 ((J7 M).1.d4)))) (fun hH121 => ?_)
  clear hK K hH117
  (try simp only [Act.put, List.setIfInBounds_toArray, List.set_cons_zero, List.set_cons_succ])
  refine wpAnyH_ready (rs := [11]) (by kernel_rfl) (by simp) ?_
  refine AllReadyH.cons at11 (fun K hK => ?_) AllReadyH.nil
  go_simp
  refine (samebig_is (G := G) (x := z115) (y := (-2)) (b := true) (J1 M).1 (M.out.1) (Sz.mono Sz115.out (by omega)) (Sz.mono (show Sz (-2) 1 from by unfold Sz; decide) (by omega)) (by rw [Ez115.out]; first | done | decide +kernel)).mono ?_
  rintro e w34 ⟨rfl, hb⟩
  replace M := gnM hb M
  clear hb
  (try go_wp2_with fail)
  refine hK.out _ _ (((J24 M).1.t4 ((J22 M).1.t4 ((J7 M).1.d4)))) (fun hH122 => ?_)
  clear hK K hH121
  (try simp only [Act.put, List.setIfInBounds_toArray, List.set_cons_zero, List.set_cons_succ])
  refine tk at12 ?_
  refine tk at13 ?_
  refine tk at14 ?_
  refine tk at15 ?_
  refine tk at16 ?_
  refine tk at17 ?_
  refine tk at18 ?_
  refine tk at19 ?_
  refine tk at20 ?_
  refine tk at21 ?_
  refine tk at22 ?_
  refine wpAnyH_ready (rs := [23]) (by kernel_rfl) (by simp) ?_
  refine AllReadyH.cons at23 (fun K hK => ?_) AllReadyH.nil
  go_simp
  refine (of_is (G := G) (x := (-3)) (y := 2) (q := (Rat.divInt (-3) 2)) (Nat.le_trans hG (J26 M).size) (by omega) (by omega) (by omega) (by first | done | decide +kernel)).mono ?_
  rintro e w35 ⟨a_123, c_124, b_125, d_126, rfl, hd127, hb⟩
  replace M := adM hd127 hb M
  clear hb hd127
  (try go_wp2_with fail)
  refine hK.out _ _ (((J25 M).1.t4 ((J23 M).1.t4 ((J8 M).1.d4)))) (fun hH128 => ?_)
  clear hK K hH122
  (try simp only [Act.put, List.setIfInBounds_toArray, List.set_cons_zero, List.set_cons_succ])
  refine wpAnyH_ready (rs := [24]) (by kernel_rfl) (by simp) ?_
  refine AllReadyH.cons at24 (fun K hK => ?_) AllReadyH.nil
  go_simp
  refine (rfsame_two (G := G) (x := z47) (y := z48) (u := (nu (Rat.divInt (-3) 2))) (v := (de (Rat.divInt (-3) 2))) (J9 M).1 (J10 M).1 (M.out.1).n (M.out.1).d (Sz.mono Sz47.out (by omega)) (Sz.mono Sz48.out (by omega)) (by rw [Ez47.out]; first | done | decide +kernel) (by rw [Ez48.out]; first | done | decide +kernel)).mono ?_
  rintro e w36 ⟨rfl, hb⟩
  replace M := gnM hb M
  clear hb
  (try go_wp2_with fail)
  refine hK.out _ _ (((J25 M).1.t4 ((J23 M).1.t4 ((J8 M).1.d4)))) (fun hH129 => ?_)
  clear hK K hH128
  (try simp only [Act.put, List.setIfInBounds_toArray, List.set_cons_zero, List.set_cons_succ])
  refine tk at25 ?_
  refine tk at26 ?_
  refine tk at27 ?_
  refine wpAnyH_ready (rs := [28]) (by kernel_rfl) (by simp) ?_
  refine AllReadyH.cons at28 (fun K hK => ?_) AllReadyH.nil
  go_simp
  refine (fracRight_ok (G := G) (q := (Rat.divInt 1 2)) (J26 M).1 (Fz.mono (fz_lit (q := (Rat.divInt 1 2)) rfl (by unfold Sz; decide) (by unfold Sz; decide) (by decide)) (by omega))).mono ?_
  rintro e w37 ⟨rfl, hb⟩
  replace M := gnM hb M
  clear hb
  (try go_wp2_with fail)
  refine hK.out _ _ (((J25 M).1.t4 ((J23 M).1.t4 ((J8 M).1.d4)))) (fun hH130 => ?_)
  clear hK K hH129
  (try simp only [Act.put, List.setIfInBounds_toArray, List.set_cons_zero, List.set_cons_succ])
  refine tk at29 ?_
  refine tk at30 ?_
  refine tk at31 ?_
  refine wpAnyH_ready (rs := [32]) (by kernel_rfl) (by simp) ?_
  refine AllReadyH.cons at32 (fun K hK => ?_) AllReadyH.nil
  go_simp
  refine (fracRight_bd (G := G) (x := 0) (y := 0) (b_ := false) (bd_zero _ _ _) (bd_zero _ _ _) (Sz.mono (show Sz (0) 0 from by unfold Sz; decide) (by omega)) (Sz.mono (show Sz (0) 0 from by unfold Sz; decide) (by omega)) (by decide)).mono ?_
  rintro e w38 ⟨rfl, hb⟩
  replace M := gnM hb M
  clear hb
  (try go_wp2_with fail)
  refine hK.out _ _ (((J25 M).1.t4 ((J23 M).1.t4 ((J8 M).1.d4)))) (fun hH131 => ?_)
  clear hK K hH130
  (try simp only [Act.put, List.setIfInBounds_toArray, List.set_cons_zero, List.set_cons_succ])
  refine tk at33 ?_
  refine tk at34 ?_
  refine tk at35 ?_
  refine tk at37 ?_
  refine wpAnyH_ready (rs := [36]) (by kernel_rfl) (by simp) ?_
  refine AllReadyH.cons at36 (fun K hK => ?_) AllReadyH.nil
  go_simp
  refine (of_is (G := G) (x := (-1)) (y := 2) (q := (Rat.divInt (-1) 2)) (Nat.le_trans hG (J27 M).size) (by omega) (by omega) (by omega) (by first | done | decide +kernel)).mono ?_
  rintro e w39 ⟨a_132, c_133, b_134, d_135, rfl, hd136, hb⟩
  replace M := adM hd136 hb M
  clear hb hd136
  (try go_wp2_with fail)
  refine hK.out _ _ (((J26 M).1.t4 ((J24 M).1.t4 ((J9 M).1.d4)))) (fun hH137 => ?_)
  clear hK K hH131
  (try simp only [Act.put, List.setIfInBounds_toArray, List.set_cons_zero, List.set_cons_succ])
  refine wpAnyH_ready (rs := [38]) (by kernel_rfl) (by simp) ?_
  refine AllReadyH.cons at38 (fun K hK => ?_) AllReadyH.nil
  go_simp
  refine (least_ok (G := G) (q := (Rat.divInt (-1) 2)) (r := (Rat.divInt 1 3)) (Nat.le_trans hG (J28 M).size) (M.out.1) (J25 M).1 (by first | done | decide +kernel) (by first | done | decide +kernel)).mono ?_
  rintro e w40 ⟨rfl, hb⟩
  replace M := gnM hb M
  clear hb
  (try go_wp2_with fail)
  refine hK.out _ _ (((J26 M).1.t4 ((J24 M).1.t4 ((J9 M).1.d4)))) (fun hH138 => ?_)
  clear hK K hH137
  (try simp only [Act.put, List.setIfInBounds_toArray, List.set_cons_zero, List.set_cons_succ])
  refine tk at39 ?_
  refine tk at40 ?_
  refine wpAnyH_done (by kernel_rfl) ?_ _
  clear hH138
  go_wp2_with fail
  go_ret
  exact ⟨rfl, (J28 M)⟩
end Go.Proofs.YtcfmakpckdicjaaGreatDoor
