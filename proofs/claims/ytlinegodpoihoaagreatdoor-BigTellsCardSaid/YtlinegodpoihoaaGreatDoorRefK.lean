/- Walks of the verifier's reference: a big integer of an int. -/
import Derived.Test.YtlinegodpoihoaaGreatDoorBase
import Derived.Test.YtlinegodpoihoaaGreatDoorBigSpec
import Derived.Test.YtlinegodpoihoaaGreatDoorBigB
import Derived.Test.YtlinegodpoihoaaGreatDoorBigC
import Derived.Test.YtlinegodpoihoaaGreatDoorBigD
import Derived.Test.YtlinegodpoihoaaGreatDoorBigK
import Derived.Test.YtlinegodpoihoaaGreatDoorBigQ
import Derived.Test.YtlinegodpoihoaaGreatDoorRefS
import Derived.Test.YtlinegodpoihoaaGreatDoorRefR4
import Derived.Test.YtlinegodpoihoaaGreatDoorRefH
import Derived.Test.YtlinegodpoihoaaGreatDoorProg
import Derived.WalkKit
import Derived.WalkSpells
import Derived.WalkLawsBesides
import Derived.Handy
import Derived.Lib.Hide
import Derived.Lib.Strings
import Derived.Lib.Builder
import Derived.BigQuiet
import Derived.OwnWalk
import Derived.Laws.BitsLemmas
import Derived.WalkSmall
import Derived.Deep.QuietTactic
import Derived.StillTailTactics
import Derived.Maps.AppendAt
import Derived.IntWalk
import Derived.Deep.RegionHeld3
import Derived.Deep.DeepFit
import Derived.Deep.LoopGhost
import Derived.Deep.DeepCutAuto
namespace Go.Proofs.YtlinegodpoihoaaGreatDoor
open Go.RowKit
variable {G : Nat}

theorem over_is {x y : Int} {a1 a2 : Option Addr} {c1 c2 : Nat} {w : World} (h1 : BD G w a1 c1 x) (h2 : BD G w a2 c2 y) (hx : Sz x 549755813888) (hy : Sz y 549755813888) (h0 : y ≠ 0) {q r : Nat} (hq : x.natAbs / y.natAbs = q) (hr : x.natAbs % y.natAbs = r) :
  Calls Tryz.prog 46 #[.slice a1 (ln x) c1, .slice a2 (ln y) c2] w fun e w' => ∃ a c b d, e = .returned (.tuple #[.slice a (lnN q) c, .slice b (lnN r) d]) ∧ OwnN w' w.heap.size (.slice a (lnN q) c) (digs q) ∧ OwnN w' w.heap.size (.slice b (lnN r) d) (digs r) ∧ Below w.heap.size w w' := by
 rw [ln_eq, ln_eq]
 exact over_nat h1.rd h2.rd (by unfold Sz at hx; exact hx) (by unfold Sz at hy; exact hy) (by omega) hq hr
theorem minus_nat {y : Int} {r : Nat} {a2 b : Option Addr} {c2 d B : Nat} {w : World} (h2 : BD G w a2 c2 y) (h : OwnN w B (.slice b (lnN r) d) (digs r)) (hy : Sz y 549755813888) (hle : r ≤ y.natAbs) :
  Calls Tryz.prog 42 #[.slice a2 (ln y) c2, .slice b (lnN r) d] w fun e w' => ∃ a c, e = .returned (.slice a (lnN (y.natAbs - r)) c) ∧ OwnN w' w.heap.size (.slice a (lnN (y.natAbs - r)) c) (digs (y.natAbs - r)) ∧ Below w.heap.size w w' := by
 have := minus_ok _ _ _ _ w h2.rd h.rd (digs_small _) (digs_small _) (by rw [val_digs, val_digs]; exact hle) (digs_len_mono hle) (by unfold Sz at hy; omega)
 rw [val_digs, val_digs] at this
 exact own_slice this
theorem plus_one {q : Nat} {a : Option Addr} {c B : Nat} {w : World} (h : OwnN (w.alloc (.cells #[.int .i64 1] 3)) B (.slice a (lnN q) c) (digs q)) (hq : lnN q ≤ 549755813888) :
  Calls Tryz.prog 40 #[.slice a (lnN q) c, .slice (some ⟨w.heap.size, 0, none⟩) 1 1] (w.alloc (.cells #[.int .i64 1] 3)) fun e w' => ∃ a c, e = .returned (.slice a (lnN (q + 1)) c) ∧ OwnN w' (w.alloc (.cells #[.int .i64 1] 3)).heap.size (.slice a (lnN (q + 1)) c) (digs (q + 1)) ∧ Below (w.alloc (.cells #[.int .i64 1] 3)).heap.size (w.alloc (.cells #[.int .i64 1] 3)) w' := by
 have := plus_ok _ _ _ _ _ h.rd (own_lit1 w w.heap.size 1 (Nat.le_refl _)).rd (digs_small _) (small_one (by omega)) (by unfold lnN at hq; omega) (by simp)
 rw [val_digs] at this
 exact own_slice this
set_option maxRecDepth 100000 in
set_option maxHeartbeats 4000000 in
theorem rdiv_unlike {x y : Int} {a1 a2 : Option Addr} {c1 c2 : Nat} {w : World} (h1 : BD G w a1 c1 x) (h2 : BD G w a2 c2 y) (hx : Sz x 549755813888) (hy : Sz y 549755813888) (hy0 : y ≠ 0) (hs : sg x * sg y < 0 ∧ x.natAbs % y.natAbs ≠ 0) :
    Calls Tryz.prog 14 #[.agg #[.int .i64 (sg x), .slice a1 (ln x) c1], .agg #[.int .i64 (sg y), .slice a2 (ln y) c2]] w fun e w' => ∃ a c b d, e = .returned (.tuple #[.agg #[.int .i64 (sg (dv x y)), .slice a (ln (dv x y)) c], .agg #[.int .i64 (sg (md x y)), .slice b (ln (md x y)) d], .int .i64 0]) ∧ BD G w' a c (dv x y) ∧ BD G w' b d (md x y) ∧ Below w.heap.size w w' := by
  have HX := Lib.hid hx
  have HY := Lib.hid hy
  have H1 := Lib.hid h1
  have H2 := Lib.hid h2
  have hws := wrap_signs x y
  have e0 : (sg y == 0) = false := by rw [beq_eq_false_iff_ne]; rcases sg_ne hy0 with h | h <;> rw [h] <;> decide
  obtain ⟨q, hq⟩ : ∃ q, x.natAbs / y.natAbs = q := ⟨_, rfl⟩
  obtain ⟨r, hr⟩ : ∃ r, x.natAbs % y.natAbs = r := ⟨_, rfl⟩
  have hrm := tail_room (y := y) hx
  have hm1 := div_unlike hs.1 hs.2
  have hry := Nat.mod_lt x.natAbs (show 0 < y.natAbs by omega)
  rw [hq, hr] at hm1
  rw [hr] at hry
  have HM1 := Lib.hid hm1
  have HRY : Hid (r ≤ y.natAbs) := by show _ ≤ _; omega
  have e1 : decide (0 ≤ sg x * sg y) = false := by rw [decide_eq_false_iff_not]; omega
  have hrp := lnN_pos hs.2
  rw [hr] at hrp
  have e2 : (lnN r == 0) = false := by rw [beq_eq_false_iff_ne]; omega
  have e3 : ((lnN r : Int) == 0) = false := by rw [beq_eq_false_iff_ne]; omega
  have HM0 : Hid ((digs (q + 1)).length ≤ 8796093022208) := by
    show _ ≤ _
    have h1 := digs_len_add q 1
    have h2 : (digs 1).length = 1 := rfl
    have h3 := hrm.1
    rw [hq, lnN] at h3; omega
  have HM4 : Hid ((digs (y.natAbs - r)).length ≤ 8796093022208) := by show _ ≤ _; have := digs_len_mono (Nat.sub_le y.natAbs r); unfold Sz at hy; omega
  clear hm1 hry hrp
  rw [hq, hr] at hrm
  have HRM := Lib.hid hrm
  have HQ := Lib.hid hq
  have HR := Lib.hid hr
  clear hx hy h1 h2 hs hq hr hrm

  go_enter Tryz.func14, Tryz.ntmps14
  go_wp2_with fail
  refine (rright_ok (x := x) (H1.out.keep (by go_grown)) (HX.out.mono (by omega))).mono ?_
  rintro e w1 ⟨rfl, hb⟩
  have hbx := bx4 w 24 24 24 24 #[.int .i64 (sg x), .slice a1 (ln x) c1] #[.int .i64 (sg y), .slice a2 (ln y) c2] #[.int .i64 0, .slice none 0 0] #[.int .i64 0, .slice none 0 0]
  obtain ⟨k0, k1, k2, k3⟩ := hbx
  have K0 := Lib.hid (k0.keep hb)
  have K1 := Lib.hid (k1.keep hb)
  have K2 := Lib.hid (k2.keep hb)
  have K3 := Lib.hid (k3.keep hb)
  clear k0 k1 k2 k3
  have hb' : Below w.heap.size w w1 := below_call (by go_grown) hb
  have HB := Lib.hid hb'
  replace H1 := Lib.hid (H1.out.keep hb')
  replace H2 := Lib.hid (H2.out.keep hb')
  clear hb hb'
  refine K0.out.w2 fun aa ab ac ad z0 => ?_
  refine K1.out.w2 fun ae af ag ah z1 => ?_
  refine K2.out.w2 fun ai aj ak al z2 => ?_
  refine K3.out.w2 fun am ao ap au z3 => ?_
  go_wp2_with fail
  refine (rright_ok (x := y) (H2.out.keep (by go_grown)) (HY.out.mono (by omega))).mono ?_
  rintro e w2 ⟨rfl, hb⟩
  clear aa ab ac ad z0 ae af ag ah z1 ai aj ak al z2 am ao ap au z3
  have hb' := below_call (w1 := w1) (by go_grown) hb
  replace K0 := Lib.hid (K0.out.keep hb')
  replace K1 := Lib.hid (K1.out.keep hb')
  replace K2 := Lib.hid (K2.out.keep hb')
  replace K3 := Lib.hid (K3.out.keep hb')
  replace HB := Lib.hid (below_call HB.out hb')
  replace H1 := Lib.hid (H1.out.keep hb')
  replace H2 := Lib.hid (H2.out.keep hb')
  clear hb hb'
  refine K0.out.w2 fun aa ab ac ad z0 => ?_
  refine K1.out.w2 fun ae af ag ah z1 => ?_
  refine K2.out.w2 fun ai aj ak al z2 => ?_
  refine K3.out.w2 fun am ao ap au z3 => ?_
  go_wp2_with fail
  refine (over_is (q := q) (r := r) (H1.out.keep (by go_grown)) (H2.out.keep (by go_grown)) (HX.out.mono (by omega)) (HY.out.mono (by omega)) hy0 HQ.out HR.out).mono ?_
  rintro e w3 ⟨aq, cq, ar, cr, rfl, hq3, hr3, hb⟩
  clear aa ab ac ad z0 ae af ag ah z1 ai aj ak al z2 am ao ap au z3
  have hb' := below_call (w1 := w2) (by go_grown) hb
  replace K0 := Lib.hid (K0.out.keep hb')
  replace K1 := Lib.hid (K1.out.keep hb')
  replace K2 := Lib.hid (K2.out.keep hb')
  replace K3 := Lib.hid (K3.out.keep hb')
  replace HB := Lib.hid (below_call HB.out hb')
  replace H1 := Lib.hid (H1.out.keep hb')
  replace H2 := Lib.hid (H2.out.keep hb')
  clear hb hb'
  have Hq3 := Lib.hid hq3; clear hq3
  have Hr3 := Lib.hid hr3; clear hr3
  refine K0.out.w2 fun aa ab ac ad z0 => ?_
  refine K1.out.w2 fun ae af ag ah z1 => ?_
  refine K2.out.w2 fun ai aj ak al z2 => ?_
  refine K3.out.w2 fun am ao ap au z3 => ?_
  go_wp2_with fail
  clear aa ab ac ad z0 ae af ag ah z1 ai aj ak al z2 am ao ap au z3
  have mk : Hid (∀ w', Out w3 w' (w.heap.size + 1 + 1) (w.heap.size + 1 + 1 + 1) → w'.cell? ⟨w.heap.size, 0, none⟩ = some (.int .i64 (sg x)) ∧ w'.cell? ⟨w.heap.size, 1, none⟩ = some (.slice a1 (ln x) c1) ∧ w'.cell? ⟨w.heap.size + 1, 0, none⟩ = some (.int .i64 (sg y)) ∧ w'.cell? ⟨w.heap.size + 1, 1, none⟩ = some (.slice a2 (ln y) c2) ∧ Out w3 w' (w.heap.size + 1 + 1) (w.heap.size + 1 + 1 + 1)) := fun w' h => ((K0.out.outside h (by omega)).t2 ((K1.out.outside h (by omega)).t2 (h)))
  have hs0 : Out w3 w3.drew (w.heap.size + 1 + 1) (w.heap.size + 1 + 1 + 1) := out_start _ _ _
  have HS0 : Hid (Below w3.heap.size w3 w3.drew) := (Below.refl _ _).drew
  have tok0 : True := trivial
  have tok1 : True := trivial
  have tok2 : True := trivial
  have tok3 : True := trivial
  go_region_held3 (fun w' => w'.cell? ⟨w.heap.size, 0, none⟩ = some (.int .i64 (sg x)) ∧ w'.cell? ⟨w.heap.size, 1, none⟩ = some (.slice a1 (ln x) c1) ∧ w'.cell? ⟨w.heap.size + 1, 0, none⟩ = some (.int .i64 (sg y)) ∧ w'.cell? ⟨w.heap.size + 1, 1, none⟩ = some (.slice a2 (ln y) c2) ∧ Out w3 w' (w.heap.size + 1 + 1) (w.heap.size + 1 + 1 + 1))
    (first | exact mk.out _ (by assumption) | exact mk.out _ (out_alloc (by assumption) _) | (go_split_ands; exact mk.out _ (out_set (out_set (by assumption) (by omega) _) (by omega) _)))
    (first
      | (go_at_call 40; have _t := tok0; refine (plus_one (w := w3.drew) (Hq3.out.keep (Below.alloc HS0.out (Below.size HS0.out) _)) (by have := HRM.out.1; omega)).mono ?_; rintro e w4 ⟨a4, c4, rfl, ho4, hb⟩; clear tok0 _t; have hs1 := out_call (out_alloc hs0 _) hb; have HS1 := Lib.hid (below_call (Below.alloc HS0.out (Below.size HS0.out) _) hb); clear hb; have Ho4 := Lib.hid ho4; clear ho4)
      | (go_at_call 39; have _t := tok1; refine (made_own (G := G) (z := dv x y) Ho4.out HM0.out HM1.out.1 (fun _ => .inr rfl)).mono ?_; rintro e w5 ⟨a5, c5, rfl, hd5, hb⟩; clear tok1 _t; have hs2 := out_call hs1 hb; have HS2 := Lib.hid (below_call HS1.out hb); have Ho4 := Lib.hid (Ho4.out.keep hb); clear hb; have Hd5 := Lib.hid hd5; clear hd5)
      | (go_at_call 42; have _t := tok2; refine (minus_nat (H2.out.keep HS2.out) (Hr3.out.keep HS2.out) (HY.out.mono (by omega)) HRY.out).mono ?_; rintro e w6 ⟨a6, c6, rfl, ho6, hb⟩; clear tok2 _t; have hs3 := out_call hs2 hb; have HS3 := Lib.hid (below_call HS2.out hb); have Ho4 := Lib.hid (Ho4.out.keep hb); have Hd5 := Lib.hid (Hd5.out.keep hb); clear hb; have Ho6 := Lib.hid ho6; clear ho6)
      | (go_at_call 39; have _t := tok3; refine (made_own (G := G) (z := md x y) Ho6.out HM4.out HM1.out.2.1 (fun _ => HM1.out.2.2)).mono ?_; rintro e w7 ⟨a7, c7, rfl, hd7, hb⟩; clear tok3 _t; have hs4 := out_call hs3 hb; have HS4 := Lib.hid (below_call HS3.out hb); have Ho4 := Lib.hid (Ho4.out.keep hb); have Hd5 := Lib.hid (Hd5.out.keep hb); have Ho6 := Lib.hid (Ho6.out.keep hb); clear hb; have Hd7 := Lib.hid hd7; clear hd7; obtain ⟨p2, q2⟩ := (K2.out.keep HS4.out).at; obtain ⟨p3, q3⟩ := (K3.out.keep HS4.out).at))
  replace K0 := Lib.hid (K0.out.keep HS4.out)
  replace K1 := Lib.hid (K1.out.keep HS4.out)
  replace K2 := Lib.hid (K2.out.keep HS4.out)
  replace K3 := Lib.hid (K3.out.keep HS4.out)
  replace HB := Lib.hid (below_call HB.out HS4.out)
  replace H1 := Lib.hid (H1.out.keep HS4.out)
  replace H2 := Lib.hid (H2.out.keep HS4.out)
  replace Hq3 := Lib.hid (Hq3.out.keep HS4.out)
  replace Hr3 := Lib.hid (Hr3.out.keep HS4.out)
  clear mk hs0 HS0 hs1 HS1 hs2 HS2 hs3 HS3 hs4 HS4  p2 q2 p3 q3
  go_wp2_with fail
  have hst2 := only_setCell (g := w.heap.size + 1 + 1) (o := 1) (only_setCell (o := 0) (World.grownBy.refl w7 (some (w.heap.size + 1 + 1))) (.int .i64 (sg (dv x y)))) (.slice a5 (ln (dv x y)) c5)
  have k3 := K3.out.only hst2 (by omega)
  refine bodyPost_ret (results_box2t rfl _ _ (w.heap.size + 1 + 1) (w.heap.size + 1 + 1 + 1) 24 24 _ _ _ _ _ _ rfl ((K2.out.set2 _ _).only (only_setCell (only_setCell (World.grownBy.refl _ _) _) _) (by omega)) Tryz.underlying24 rfl (by kernel_rfl) rfl (k3.set2 _ _) Tryz.underlying24 rfl (by kernel_rfl)) rfl ⟨a5, c5, a7, c7, rfl, ?_, ?_, ?_⟩
  · exact (Hd5.out.far0 K2.out zb2 hst2).far0 k3 zb2 (only_setCell (only_setCell (World.grownBy.refl _ _) _) _)
  · exact (Hd7.out.far0 K2.out zb2 hst2).far0 k3 zb2 (only_setCell (only_setCell (World.grownBy.refl _ _) _) _)
  · exact (((HB.out.setCell (by simp; omega) _).setCell (by simp; omega) _).setCell (by simp; omega) _).setCell (by simp; omega) _
set_option maxRecDepth 100000 in
set_option maxHeartbeats 4000000 in
theorem rdiv_like {x y : Int} {a1 a2 : Option Addr} {c1 c2 : Nat} {w : World} (h1 : BD G w a1 c1 x) (h2 : BD G w a2 c2 y) (hx : Sz x 549755813888) (hy : Sz y 549755813888) (hy0 : y ≠ 0) (hs : 0 ≤ sg x * sg y) :
    Calls Tryz.prog 14 #[.agg #[.int .i64 (sg x), .slice a1 (ln x) c1], .agg #[.int .i64 (sg y), .slice a2 (ln y) c2]] w fun e w' => ∃ a c b d, e = .returned (.tuple #[.agg #[.int .i64 (sg (dv x y)), .slice a (ln (dv x y)) c], .agg #[.int .i64 (sg (md x y)), .slice b (ln (md x y)) d], .int .i64 0]) ∧ BD G w' a c (dv x y) ∧ BD G w' b d (md x y) ∧ Below w.heap.size w w' := by
  have HX := Lib.hid hx
  have HY := Lib.hid hy
  have H1 := Lib.hid h1
  have H2 := Lib.hid h2
  have hws := wrap_signs x y
  have e0 : (sg y == 0) = false := by rw [beq_eq_false_iff_ne]; rcases sg_ne hy0 with h | h <;> rw [h] <;> decide
  obtain ⟨q, hq⟩ : ∃ q, x.natAbs / y.natAbs = q := ⟨_, rfl⟩
  obtain ⟨r, hr⟩ : ∃ r, x.natAbs % y.natAbs = r := ⟨_, rfl⟩
  have hrm := tail_room (y := y) hx
  have hm1 := div_like hy0 (.inl hs)
  have e1 : decide (0 ≤ sg x * sg y) = true := by rw [decide_eq_true_eq]; exact hs

  rw [hq, hr] at hm1
  have HM1 := Lib.hid hm1
  have HM0 : Hid ((digs q).length ≤ 8796093022208) := by show _ ≤ _; have h3 := hrm.1; rw [hq, lnN] at h3; omega
  have HM4 : Hid ((digs r).length ≤ 8796093022208) := by show _ ≤ _; have h3 := hrm.2; rw [hr, lnN] at h3; omega
  have HM5 : Hid (q ≠ 0 → sg x * sg y = 1 ∨ sg x * sg y = -1) := fun h => sgs_ne (by rintro rfl; rw [← hq] at h; simp at h) hy0
  have HM6 : Hid (r ≠ 0 → sg x = 1 ∨ sg x = -1) := fun h => sg_ne (by rintro rfl; rw [← hr] at h; simp at h)
  clear hm1
  rw [hq, hr] at hrm
  have HRM := Lib.hid hrm
  have HQ := Lib.hid hq
  have HR := Lib.hid hr
  clear hx hy h1 h2 hs hq hr hrm

  go_enter Tryz.func14, Tryz.ntmps14
  go_wp2_with fail
  refine (rright_ok (x := x) (H1.out.keep (by go_grown)) (HX.out.mono (by omega))).mono ?_
  rintro e w1 ⟨rfl, hb⟩
  have hbx := bx4 w 24 24 24 24 #[.int .i64 (sg x), .slice a1 (ln x) c1] #[.int .i64 (sg y), .slice a2 (ln y) c2] #[.int .i64 0, .slice none 0 0] #[.int .i64 0, .slice none 0 0]
  obtain ⟨k0, k1, k2, k3⟩ := hbx
  have K0 := Lib.hid (k0.keep hb)
  have K1 := Lib.hid (k1.keep hb)
  have K2 := Lib.hid (k2.keep hb)
  have K3 := Lib.hid (k3.keep hb)
  clear k0 k1 k2 k3
  have hb' : Below w.heap.size w w1 := below_call (by go_grown) hb
  have HB := Lib.hid hb'
  replace H1 := Lib.hid (H1.out.keep hb')
  replace H2 := Lib.hid (H2.out.keep hb')
  clear hb hb'
  refine K0.out.w2 fun aa ab ac ad z0 => ?_
  refine K1.out.w2 fun ae af ag ah z1 => ?_
  refine K2.out.w2 fun ai aj ak al z2 => ?_
  refine K3.out.w2 fun am ao ap au z3 => ?_
  go_wp2_with fail
  refine (rright_ok (x := y) (H2.out.keep (by go_grown)) (HY.out.mono (by omega))).mono ?_
  rintro e w2 ⟨rfl, hb⟩
  clear aa ab ac ad z0 ae af ag ah z1 ai aj ak al z2 am ao ap au z3
  have hb' := below_call (w1 := w1) (by go_grown) hb
  replace K0 := Lib.hid (K0.out.keep hb')
  replace K1 := Lib.hid (K1.out.keep hb')
  replace K2 := Lib.hid (K2.out.keep hb')
  replace K3 := Lib.hid (K3.out.keep hb')
  replace HB := Lib.hid (below_call HB.out hb')
  replace H1 := Lib.hid (H1.out.keep hb')
  replace H2 := Lib.hid (H2.out.keep hb')
  clear hb hb'
  refine K0.out.w2 fun aa ab ac ad z0 => ?_
  refine K1.out.w2 fun ae af ag ah z1 => ?_
  refine K2.out.w2 fun ai aj ak al z2 => ?_
  refine K3.out.w2 fun am ao ap au z3 => ?_
  go_wp2_with fail
  refine (over_is (q := q) (r := r) (H1.out.keep (by go_grown)) (H2.out.keep (by go_grown)) (HX.out.mono (by omega)) (HY.out.mono (by omega)) hy0 HQ.out HR.out).mono ?_
  rintro e w3 ⟨aq, cq, ar, cr, rfl, hq3, hr3, hb⟩
  clear aa ab ac ad z0 ae af ag ah z1 ai aj ak al z2 am ao ap au z3
  have hb' := below_call (w1 := w2) (by go_grown) hb
  replace K0 := Lib.hid (K0.out.keep hb')
  replace K1 := Lib.hid (K1.out.keep hb')
  replace K2 := Lib.hid (K2.out.keep hb')
  replace K3 := Lib.hid (K3.out.keep hb')
  replace HB := Lib.hid (below_call HB.out hb')
  replace H1 := Lib.hid (H1.out.keep hb')
  replace H2 := Lib.hid (H2.out.keep hb')
  clear hb hb'
  have Hq3 := Lib.hid hq3; clear hq3
  have Hr3 := Lib.hid hr3; clear hr3
  refine K0.out.w2 fun aa ab ac ad z0 => ?_
  refine K1.out.w2 fun ae af ag ah z1 => ?_
  refine K2.out.w2 fun ai aj ak al z2 => ?_
  refine K3.out.w2 fun am ao ap au z3 => ?_
  go_wp2_with fail
  clear aa ab ac ad z0 ae af ag ah z1 ai aj ak al z2 am ao ap au z3
  have mk : Hid (∀ w', Out w3 w' (w.heap.size + 1 + 1) (w.heap.size + 1 + 1 + 1) → w'.cell? ⟨w.heap.size, 0, none⟩ = some (.int .i64 (sg x)) ∧ w'.cell? ⟨w.heap.size, 1, none⟩ = some (.slice a1 (ln x) c1) ∧ w'.cell? ⟨w.heap.size + 1, 0, none⟩ = some (.int .i64 (sg y)) ∧ w'.cell? ⟨w.heap.size + 1, 1, none⟩ = some (.slice a2 (ln y) c2) ∧ Out w3 w' (w.heap.size + 1 + 1) (w.heap.size + 1 + 1 + 1)) := fun w' h => ((K0.out.outside h (by omega)).t2 ((K1.out.outside h (by omega)).t2 (h)))
  have hs0 : Out w3 w3.drew (w.heap.size + 1 + 1) (w.heap.size + 1 + 1 + 1) := out_start _ _ _
  have HS0 : Hid (Below w3.heap.size w3 w3.drew) := (Below.refl _ _).drew
  have tok0 : True := trivial
  have tok1 : True := trivial
  go_region_held3 (fun w' => w'.cell? ⟨w.heap.size, 0, none⟩ = some (.int .i64 (sg x)) ∧ w'.cell? ⟨w.heap.size, 1, none⟩ = some (.slice a1 (ln x) c1) ∧ w'.cell? ⟨w.heap.size + 1, 0, none⟩ = some (.int .i64 (sg y)) ∧ w'.cell? ⟨w.heap.size + 1, 1, none⟩ = some (.slice a2 (ln y) c2) ∧ Out w3 w' (w.heap.size + 1 + 1) (w.heap.size + 1 + 1 + 1))
    (first | exact mk.out _ (by assumption) | exact mk.out _ (out_alloc (by assumption) _) | (go_split_ands; exact mk.out _ (out_set (out_set (by assumption) (by omega) _) (by omega) _)))
    (first
      | (go_at_call 39; have _t := tok0; refine (made_own (G := G) (z := dv x y) (Hq3.out.keep HS0.out) HM0.out HM1.out.1 HM5.out).mono ?_; rintro e w4 ⟨a4, c4, rfl, hd4, hb⟩; clear tok0 _t; have hs1 := out_call hs0 hb; have HS1 := Lib.hid (below_call HS0.out hb); clear hb; have Hd4 := Lib.hid hd4; clear hd4)
      | (go_at_call 39; have _t := tok1; refine (made_own (G := G) (z := md x y) (Hr3.out.keep HS1.out) HM4.out HM1.out.2 HM6.out).mono ?_; rintro e w5 ⟨a5, c5, rfl, hd5, hb⟩; clear tok1 _t; have hs2 := out_call hs1 hb; have HS2 := Lib.hid (below_call HS1.out hb); have Hd4 := Lib.hid (Hd4.out.keep hb); clear hb; have Hd5 := Lib.hid hd5; clear hd5; obtain ⟨p2, q2⟩ := (K2.out.keep HS2.out).at; obtain ⟨p3, q3⟩ := (K3.out.keep HS2.out).at))
  replace K0 := Lib.hid (K0.out.keep HS2.out)
  replace K1 := Lib.hid (K1.out.keep HS2.out)
  replace K2 := Lib.hid (K2.out.keep HS2.out)
  replace K3 := Lib.hid (K3.out.keep HS2.out)
  replace HB := Lib.hid (below_call HB.out HS2.out)
  replace H1 := Lib.hid (H1.out.keep HS2.out)
  replace H2 := Lib.hid (H2.out.keep HS2.out)
  replace Hq3 := Lib.hid (Hq3.out.keep HS2.out)
  replace Hr3 := Lib.hid (Hr3.out.keep HS2.out)
  clear mk hs0 HS0 hs1 HS1 hs2 HS2  p2 q2 p3 q3
  go_wp2_with fail
  have hst2 := only_setCell (g := w.heap.size + 1 + 1) (o := 1) (only_setCell (o := 0) (World.grownBy.refl w5 (some (w.heap.size + 1 + 1))) (.int .i64 (sg (dv x y)))) (.slice a4 (ln (dv x y)) c4)
  have k3 := K3.out.only hst2 (by omega)
  refine bodyPost_ret (results_box2t rfl _ _ (w.heap.size + 1 + 1) (w.heap.size + 1 + 1 + 1) 24 24 _ _ _ _ _ _ rfl ((K2.out.set2 _ _).only (only_setCell (only_setCell (World.grownBy.refl _ _) _) _) (by omega)) Tryz.underlying24 rfl (by kernel_rfl) rfl (k3.set2 _ _) Tryz.underlying24 rfl (by kernel_rfl)) rfl ⟨a4, c4, a5, c5, rfl, ?_, ?_, ?_⟩
  · exact (Hd4.out.far0 K2.out zb2 hst2).far0 k3 zb2 (only_setCell (only_setCell (World.grownBy.refl _ _) _) _)
  · exact (Hd5.out.far0 K2.out zb2 hst2).far0 k3 zb2 (only_setCell (only_setCell (World.grownBy.refl _ _) _) _)
  · exact (((HB.out.setCell (by simp; omega) _).setCell (by simp; omega) _).setCell (by simp; omega) _).setCell (by simp; omega) _
set_option maxRecDepth 100000 in
set_option maxHeartbeats 4000000 in
theorem rdiv_none {x y : Int} {a1 a2 : Option Addr} {c1 c2 : Nat} {w : World} (h1 : BD G w a1 c1 x) (h2 : BD G w a2 c2 y) (hx : Sz x 549755813888) (hy : Sz y 549755813888) (hy0 : y ≠ 0) (hs : sg x * sg y < 0 ∧ x.natAbs % y.natAbs = 0) :
    Calls Tryz.prog 14 #[.agg #[.int .i64 (sg x), .slice a1 (ln x) c1], .agg #[.int .i64 (sg y), .slice a2 (ln y) c2]] w fun e w' => ∃ a c b d, e = .returned (.tuple #[.agg #[.int .i64 (sg (dv x y)), .slice a (ln (dv x y)) c], .agg #[.int .i64 (sg (md x y)), .slice b (ln (md x y)) d], .int .i64 0]) ∧ BD G w' a c (dv x y) ∧ BD G w' b d (md x y) ∧ Below w.heap.size w w' := by
  have HX := Lib.hid hx
  have HY := Lib.hid hy
  have H1 := Lib.hid h1
  have H2 := Lib.hid h2
  have hws := wrap_signs x y
  have e0 : (sg y == 0) = false := by rw [beq_eq_false_iff_ne]; rcases sg_ne hy0 with h | h <;> rw [h] <;> decide
  obtain ⟨q, hq⟩ : ∃ q, x.natAbs / y.natAbs = q := ⟨_, rfl⟩
  obtain ⟨r, hr⟩ : ∃ r, x.natAbs % y.natAbs = r := ⟨_, rfl⟩
  have hrm := tail_room (y := y) hx
  have hm1 := div_like hy0 (.inr hs.2)
  have e1 : decide (0 ≤ sg x * sg y) = false := by rw [decide_eq_false_iff_not]; omega
  have e2 : (lnN r == 0) = true := by rw [← hr, hs.2]; rfl
  have e3 : ((lnN r : Int) == 0) = true := by rw [← hr, hs.2]; rfl

  rw [hq, hr] at hm1
  have HM1 := Lib.hid hm1
  have HM0 : Hid ((digs q).length ≤ 8796093022208) := by show _ ≤ _; have h3 := hrm.1; rw [hq, lnN] at h3; omega
  have HM4 : Hid ((digs r).length ≤ 8796093022208) := by show _ ≤ _; have h3 := hrm.2; rw [hr, lnN] at h3; omega
  have HM5 : Hid (q ≠ 0 → sg x * sg y = 1 ∨ sg x * sg y = -1) := fun h => sgs_ne (by rintro rfl; rw [← hq] at h; simp at h) hy0
  have HM6 : Hid (r ≠ 0 → sg x = 1 ∨ sg x = -1) := fun h => sg_ne (by rintro rfl; rw [← hr] at h; simp at h)
  clear hm1
  rw [hq, hr] at hrm
  have HRM := Lib.hid hrm
  have HQ := Lib.hid hq
  have HR := Lib.hid hr
  clear hx hy h1 h2 hs hq hr hrm

  go_enter Tryz.func14, Tryz.ntmps14
  go_wp2_with fail
  refine (rright_ok (x := x) (H1.out.keep (by go_grown)) (HX.out.mono (by omega))).mono ?_
  rintro e w1 ⟨rfl, hb⟩
  have hbx := bx4 w 24 24 24 24 #[.int .i64 (sg x), .slice a1 (ln x) c1] #[.int .i64 (sg y), .slice a2 (ln y) c2] #[.int .i64 0, .slice none 0 0] #[.int .i64 0, .slice none 0 0]
  obtain ⟨k0, k1, k2, k3⟩ := hbx
  have K0 := Lib.hid (k0.keep hb)
  have K1 := Lib.hid (k1.keep hb)
  have K2 := Lib.hid (k2.keep hb)
  have K3 := Lib.hid (k3.keep hb)
  clear k0 k1 k2 k3
  have hb' : Below w.heap.size w w1 := below_call (by go_grown) hb
  have HB := Lib.hid hb'
  replace H1 := Lib.hid (H1.out.keep hb')
  replace H2 := Lib.hid (H2.out.keep hb')
  clear hb hb'
  refine K0.out.w2 fun aa ab ac ad z0 => ?_
  refine K1.out.w2 fun ae af ag ah z1 => ?_
  refine K2.out.w2 fun ai aj ak al z2 => ?_
  refine K3.out.w2 fun am ao ap au z3 => ?_
  go_wp2_with fail
  refine (rright_ok (x := y) (H2.out.keep (by go_grown)) (HY.out.mono (by omega))).mono ?_
  rintro e w2 ⟨rfl, hb⟩
  clear aa ab ac ad z0 ae af ag ah z1 ai aj ak al z2 am ao ap au z3
  have hb' := below_call (w1 := w1) (by go_grown) hb
  replace K0 := Lib.hid (K0.out.keep hb')
  replace K1 := Lib.hid (K1.out.keep hb')
  replace K2 := Lib.hid (K2.out.keep hb')
  replace K3 := Lib.hid (K3.out.keep hb')
  replace HB := Lib.hid (below_call HB.out hb')
  replace H1 := Lib.hid (H1.out.keep hb')
  replace H2 := Lib.hid (H2.out.keep hb')
  clear hb hb'
  refine K0.out.w2 fun aa ab ac ad z0 => ?_
  refine K1.out.w2 fun ae af ag ah z1 => ?_
  refine K2.out.w2 fun ai aj ak al z2 => ?_
  refine K3.out.w2 fun am ao ap au z3 => ?_
  go_wp2_with fail
  refine (over_is (q := q) (r := r) (H1.out.keep (by go_grown)) (H2.out.keep (by go_grown)) (HX.out.mono (by omega)) (HY.out.mono (by omega)) hy0 HQ.out HR.out).mono ?_
  rintro e w3 ⟨aq, cq, ar, cr, rfl, hq3, hr3, hb⟩
  clear aa ab ac ad z0 ae af ag ah z1 ai aj ak al z2 am ao ap au z3
  have hb' := below_call (w1 := w2) (by go_grown) hb
  replace K0 := Lib.hid (K0.out.keep hb')
  replace K1 := Lib.hid (K1.out.keep hb')
  replace K2 := Lib.hid (K2.out.keep hb')
  replace K3 := Lib.hid (K3.out.keep hb')
  replace HB := Lib.hid (below_call HB.out hb')
  replace H1 := Lib.hid (H1.out.keep hb')
  replace H2 := Lib.hid (H2.out.keep hb')
  clear hb hb'
  have Hq3 := Lib.hid hq3; clear hq3
  have Hr3 := Lib.hid hr3; clear hr3
  refine K0.out.w2 fun aa ab ac ad z0 => ?_
  refine K1.out.w2 fun ae af ag ah z1 => ?_
  refine K2.out.w2 fun ai aj ak al z2 => ?_
  refine K3.out.w2 fun am ao ap au z3 => ?_
  go_wp2_with fail
  clear aa ab ac ad z0 ae af ag ah z1 ai aj ak al z2 am ao ap au z3
  have mk : Hid (∀ w', Out w3 w' (w.heap.size + 1 + 1) (w.heap.size + 1 + 1 + 1) → w'.cell? ⟨w.heap.size, 0, none⟩ = some (.int .i64 (sg x)) ∧ w'.cell? ⟨w.heap.size, 1, none⟩ = some (.slice a1 (ln x) c1) ∧ w'.cell? ⟨w.heap.size + 1, 0, none⟩ = some (.int .i64 (sg y)) ∧ w'.cell? ⟨w.heap.size + 1, 1, none⟩ = some (.slice a2 (ln y) c2) ∧ Out w3 w' (w.heap.size + 1 + 1) (w.heap.size + 1 + 1 + 1)) := fun w' h => ((K0.out.outside h (by omega)).t2 ((K1.out.outside h (by omega)).t2 (h)))
  have hs0 : Out w3 w3.drew (w.heap.size + 1 + 1) (w.heap.size + 1 + 1 + 1) := out_start _ _ _
  have HS0 : Hid (Below w3.heap.size w3 w3.drew) := (Below.refl _ _).drew
  have tok0 : True := trivial
  have tok1 : True := trivial
  go_region_held3 (fun w' => w'.cell? ⟨w.heap.size, 0, none⟩ = some (.int .i64 (sg x)) ∧ w'.cell? ⟨w.heap.size, 1, none⟩ = some (.slice a1 (ln x) c1) ∧ w'.cell? ⟨w.heap.size + 1, 0, none⟩ = some (.int .i64 (sg y)) ∧ w'.cell? ⟨w.heap.size + 1, 1, none⟩ = some (.slice a2 (ln y) c2) ∧ Out w3 w' (w.heap.size + 1 + 1) (w.heap.size + 1 + 1 + 1))
    (first | exact mk.out _ (by assumption) | exact mk.out _ (out_alloc (by assumption) _) | (go_split_ands; exact mk.out _ (out_set (out_set (by assumption) (by omega) _) (by omega) _)))
    (first
      | (go_at_call 39; have _t := tok0; refine (made_own (G := G) (z := dv x y) (Hq3.out.keep HS0.out) HM0.out HM1.out.1 HM5.out).mono ?_; rintro e w4 ⟨a4, c4, rfl, hd4, hb⟩; clear tok0 _t; have hs1 := out_call hs0 hb; have HS1 := Lib.hid (below_call HS0.out hb); clear hb; have Hd4 := Lib.hid hd4; clear hd4)
      | (go_at_call 39; have _t := tok1; refine (made_own (G := G) (z := md x y) (Hr3.out.keep HS1.out) HM4.out HM1.out.2 HM6.out).mono ?_; rintro e w5 ⟨a5, c5, rfl, hd5, hb⟩; clear tok1 _t; have hs2 := out_call hs1 hb; have HS2 := Lib.hid (below_call HS1.out hb); have Hd4 := Lib.hid (Hd4.out.keep hb); clear hb; have Hd5 := Lib.hid hd5; clear hd5; obtain ⟨p2, q2⟩ := (K2.out.keep HS2.out).at; obtain ⟨p3, q3⟩ := (K3.out.keep HS2.out).at))
  replace K0 := Lib.hid (K0.out.keep HS2.out)
  replace K1 := Lib.hid (K1.out.keep HS2.out)
  replace K2 := Lib.hid (K2.out.keep HS2.out)
  replace K3 := Lib.hid (K3.out.keep HS2.out)
  replace HB := Lib.hid (below_call HB.out HS2.out)
  replace H1 := Lib.hid (H1.out.keep HS2.out)
  replace H2 := Lib.hid (H2.out.keep HS2.out)
  replace Hq3 := Lib.hid (Hq3.out.keep HS2.out)
  replace Hr3 := Lib.hid (Hr3.out.keep HS2.out)
  clear mk hs0 HS0 hs1 HS1 hs2 HS2  p2 q2 p3 q3
  go_wp2_with fail
  have hst2 := only_setCell (g := w.heap.size + 1 + 1) (o := 1) (only_setCell (o := 0) (World.grownBy.refl w5 (some (w.heap.size + 1 + 1))) (.int .i64 (sg (dv x y)))) (.slice a4 (ln (dv x y)) c4)
  have k3 := K3.out.only hst2 (by omega)
  refine bodyPost_ret (results_box2t rfl _ _ (w.heap.size + 1 + 1) (w.heap.size + 1 + 1 + 1) 24 24 _ _ _ _ _ _ rfl ((K2.out.set2 _ _).only (only_setCell (only_setCell (World.grownBy.refl _ _) _) _) (by omega)) Tryz.underlying24 rfl (by kernel_rfl) rfl (k3.set2 _ _) Tryz.underlying24 rfl (by kernel_rfl)) rfl ⟨a4, c4, a5, c5, rfl, ?_, ?_, ?_⟩
  · exact (Hd4.out.far0 K2.out zb2 hst2).far0 k3 zb2 (only_setCell (only_setCell (World.grownBy.refl _ _) _) _)
  · exact (Hd5.out.far0 K2.out zb2 hst2).far0 k3 zb2 (only_setCell (only_setCell (World.grownBy.refl _ _) _) _)
  · exact (((HB.out.setCell (by simp; omega) _).setCell (by simp; omega) _).setCell (by simp; omega) _).setCell (by simp; omega) _
theorem rdiv_ok {x y : Int} {a1 a2 : Option Addr} {c1 c2 : Nat} {w : World} (h1 : BD G w a1 c1 x) (h2 : BD G w a2 c2 y) (hx : Sz x 549755813888) (hy : Sz y 549755813888) (hy0 : y ≠ 0) :
    Calls Tryz.prog 14 #[.agg #[.int .i64 (sg x), .slice a1 (ln x) c1], .agg #[.int .i64 (sg y), .slice a2 (ln y) c2]] w fun e w' => ∃ a c b d, e = .returned (.tuple #[.agg #[.int .i64 (sg (dv x y)), .slice a (ln (dv x y)) c], .agg #[.int .i64 (sg (md x y)), .slice b (ln (md x y)) d], .int .i64 0]) ∧ BD G w' a c (dv x y) ∧ BD G w' b d (md x y) ∧ Below w.heap.size w w' := by
  by_cases hs : sg x * sg y < 0
  · by_cases hr : x.natAbs % y.natAbs = 0
    · exact rdiv_none h1 h2 hx hy hy0 ⟨hs, hr⟩
    · exact rdiv_unlike h1 h2 hx hy hy0 ⟨hs, hr⟩
  · exact rdiv_like h1 h2 hx hy hy0 (by omega)
end Go.Proofs.YtlinegodpoihoaaGreatDoor
namespace Go.Proofs.YtlinegodpoihoaaGreatDoor
open Go.RowKit
variable {G : Nat}

theorem made_own_any {s z : Int} {v : Value} {l : Digs} {n B : Nat} {w : World} (h : OwnN w B v l) (hs : small l) (hn : l.length ≤ 8796093022208) (hv : val l = n) (hz : s * n = z) (h1 : n ≠ 0 → s = 1 ∨ s = -1) :
  Calls Tryz.prog 39 #[.int .i64 s, v] w fun e w' => ∃ a c, e = .returned (.agg #[.int .i64 (sg z), .slice a (ln z) c]) ∧ BD G w' a c z ∧ Below w.heap.size w w' := by
 obtain ⟨a, c, rfl, hc⟩ := h.sl
 exact made_ok (G := G) h.rd hs hn hc hv hz h1
set_option maxHeartbeats 8000000 in
set_option maxRecDepth 100000 in
theorem rof_pos (x : Int) (w : World) (hx : -9223372036854775808 ≤ x ∧ x ≤ 9223372036854775807) (hs : 0 < x) :
    Calls Tryz.prog 31 #[.int .i64 x] w fun e w' => ∃ a c, e = .returned (.agg #[.int .i64 (sg x), .slice a (ln x) c]) ∧ BD G w' a c x ∧ Below w.heap.size w w' := by
  obtain ⟨n, hn⟩ : ∃ n, n = x.natAbs := ⟨_, rfl⟩
  have hnb : n ≤ 9223372036854775808 := by omega
  have e0 : (x == 0) = false := by rw [beq_eq_false_iff_ne]; omega
  have e1 : decide (x < 0) = false := by rw [decide_eq_false_iff_not]; omega
  have HNX := Lib.hid hn
  have HX := Lib.hid hs
  have HSt : Hid (x = n) := by show _ = _; omega
  clear hn hs
  go_enter Tryz.func31, Tryz.ntmps31
  go_wp2_with fail
  obtain ⟨w0, hw0⟩ : ∃ w0, w0 = w.alloc (.cells #[.int .i64 0, .slice none 0 0] 24) := ⟨_, rfl⟩
  rw [← hw0]
  have K0 : Hid (Bx w0 w.heap.size 24 #[.int .i64 0, .slice none 0 0]) := by rw [hw0]; exact bx1 w _ _
  have HB0 : Hid (Below w.heap.size w w0) := by rw [hw0]; exact below_alloc _ _
  clear hw0
  go_loopw [0, 4] (fun i v wr => ∃ (l : Digs) (u : Nat), u ≤ n ∧ l.length ≤ 4 ∧ i = .int .i64 u ∧ Hid (small l) ∧ Hid (val l + 1048576 ^ l.length * u = n) ∧ Hid (OwnN wr w0.heap.size v l) ∧ Hid (Below w0.heap.size w0 wr)) (fun i _ _ => (intOf i).natAbs)
  case atStart => exact ⟨[], n, Nat.le_refl _, by simp, by rw [HSt.out], small_nil, by show _ = _; simp [val], ownN_nil _ _, Below.refl _ _⟩
  case round =>
    obtain ⟨l, u, hu, hll, rfl, HS, HE, HO, HB⟩ := hrel
    have hl4 : u ≠ 0 → l.length < 4 := fun h => of_room hnb HE.out h
    by_cases h0 : u = 0
    · have e2 : (u != 0) = false := by rw [h0]; rfl
      have e3 : ((u : Int) != 0) = false := by rw [h0]; rfl
      have HV : Hid (val l = n) := by show _ = _; have := HE.out; rw [h0, Nat.mul_zero] at this; omega
      have HL : Hid (l.length ≤ 8796093022208) := by show _ ≤ _; omega
      have HZ : Hid (1 * (n : Int) = x) := by show _ = _; rw [HNX.out]; have := HX.out; omega
      clear h0 hl4
      go_wp2_with fail
      refine (made_own_any (G := G) HO.out HS.out HL.out HV.out HZ.out (fun _ => .inl rfl)).mono ?_
      rintro e w2 ⟨a, c, rfl, hd, hb⟩
      have K2 := Lib.hid ((K0.out.keep HB.out).keep hb)
      have HB2 := Lib.hid (below_call HB0.out (below_call HB.out hb))
      have HD := Lib.hid hd
      clear hb hd
      obtain ⟨p0, q0⟩ := K2.out.at
      go_wp2_with fail
      refine bodyPost_ret (results_box1 rfl _ _ w.heap.size 24 _ _ _ rfl (K2.out.set2 _ _) Tryz.underlying24 rfl (by kernel_rfl)) rfl ⟨a, c, rfl, ?_, ?_⟩
      · exact HD.out.far0 K2.out zb2 (only_setCell (only_setCell (World.grownBy.refl _ _) _) _)
      · exact (HB2.out.setCell (Nat.le_refl _) _).setCell (Nat.le_refl _) _
    · have hl3 := hl4 h0
      have e2 : (u != 0) = true := by rw [bne_iff_ne]; exact h0
      have e3 : ((u : Int) != 0) = true := by rw [bne_iff_ne]; omega
      obtain ⟨d, hd⟩ : ∃ d, d = u % 1048576 := ⟨_, rfl⟩
      obtain ⟨m, hm⟩ : ∃ m, m = u / 1048576 := ⟨_, rfl⟩
      have hds : d < 1048576 := by omega
      have hmod : (u : Int) % 1048576 = (d : Int) := by omega
      have hdiv : (u : Int) / 1048576 = (m : Int) := by omega
      have hmu : m < u := by omega
      have hum : u ≤ 9223372036854775808 := by omega
      have HE2 : Hid (val (l ++ [d]) + 1048576 ^ (l ++ [d]).length * m = n) := by show _ = _; rw [val_snoc_digs, show d + 1048576 * m = u by omega]; exact HE.out
      have HA : Hid (OwnN (wr.alloc (.cells #[.int .i64 (d : Int)] 3)) w0.heap.size u4 l) := HO.out.keep (below_alloc _ _)
      have HL1 : Hid (RdN (wr.alloc (.cells #[.int .i64 (d : Int)] 3)) (.slice (some ⟨wr.heap.size, 0, none⟩) 1 1) [d]) := (own_lit1 wr wr.heap.size d (Nat.le_refl _)).rd
      have hsz : w0.heap.size ≤ wr.heap.size := HB.out.size
      clear hd hm h0 hl4
      go_wp2_with (at_builtin; go_must (refine wpList_appendN rfl _ _ rfl (wr.alloc (.cells #[.int .i64 (d : Int)] 3)) w0.heap.size u4 l rfl HA.out ⟨wr.heap.size, 0, none⟩ 1 1 [d] rfl rfl HL1.out (by simp; omega) (by simp; omega) ?_; intro v' w1 ho hg hb))
      have HO2 := Lib.hid ho
      have HB2 : Hid (Below w0.heap.size w0 w1) := (HB.out.alloc hsz _).trans hb
      clear ho hg hb
      go_roundw
      case rel => exact ⟨l ++ [d], m, by omega, by simp; omega, by first | rfl | rw [hdiv], small_append HS.out (small_one hds), HE2, HO2.out, HB2.out⟩
      case measure => simp [intOf]; omega
set_option maxHeartbeats 8000000 in
set_option maxRecDepth 100000 in
theorem rof_neg (x : Int) (w : World) (hx : -9223372036854775808 ≤ x ∧ x ≤ 9223372036854775807) (hs : x < 0) :
    Calls Tryz.prog 31 #[.int .i64 x] w fun e w' => ∃ a c, e = .returned (.agg #[.int .i64 (sg x), .slice a (ln x) c]) ∧ BD G w' a c x ∧ Below w.heap.size w w' := by
  obtain ⟨n, hn⟩ : ∃ n, n = x.natAbs := ⟨_, rfl⟩
  have hnb : n ≤ 9223372036854775808 := by omega
  have e0 : (x == 0) = false := by rw [beq_eq_false_iff_ne]; omega
  have e1 : decide (x < 0) = true := by rw [decide_eq_true_eq]; omega
  have HNX := Lib.hid hn
  have HX := Lib.hid hs
  have HSt : Hid (x = -(n : Int)) := by show _ = _; omega
  clear hn hs
  go_enter Tryz.func31, Tryz.ntmps31
  go_wp2_with fail
  obtain ⟨w0, hw0⟩ : ∃ w0, w0 = w.alloc (.cells #[.int .i64 0, .slice none 0 0] 24) := ⟨_, rfl⟩
  rw [← hw0]
  have K0 : Hid (Bx w0 w.heap.size 24 #[.int .i64 0, .slice none 0 0]) := by rw [hw0]; exact bx1 w _ _
  have HB0 : Hid (Below w.heap.size w w0) := by rw [hw0]; exact below_alloc _ _
  clear hw0
  go_loopw [0, 4] (fun i v wr => ∃ (l : Digs) (u : Nat), u ≤ n ∧ l.length ≤ 4 ∧ i = .int .i64 (-(u : Int)) ∧ Hid (small l) ∧ Hid (val l + 1048576 ^ l.length * u = n) ∧ Hid (OwnN wr w0.heap.size v l) ∧ Hid (Below w0.heap.size w0 wr)) (fun i _ _ => (intOf i).natAbs)
  case atStart => exact ⟨[], n, Nat.le_refl _, by simp, by rw [HSt.out], small_nil, by show _ = _; simp [val], ownN_nil _ _, Below.refl _ _⟩
  case round =>
    obtain ⟨l, u, hu, hll, rfl, HS, HE, HO, HB⟩ := hrel
    have hl4 : u ≠ 0 → l.length < 4 := fun h => of_room hnb HE.out h
    by_cases h0 : u = 0
    · have e2 : (u != 0) = false := by rw [h0]; rfl
      have e3 : ((-(u : Int)) != 0) = false := by rw [h0]; rfl
      have HV : Hid (val l = n) := by show _ = _; have := HE.out; rw [h0, Nat.mul_zero] at this; omega
      have HL : Hid (l.length ≤ 8796093022208) := by show _ ≤ _; omega
      have HZ : Hid ((-1) * (n : Int) = x) := by show _ = _; rw [HNX.out]; have := HX.out; omega
      clear h0 hl4
      go_wp2_with fail
      refine (made_own_any (G := G) HO.out HS.out HL.out HV.out HZ.out (fun _ => .inr rfl)).mono ?_
      rintro e w2 ⟨a, c, rfl, hd, hb⟩
      have K2 := Lib.hid ((K0.out.keep HB.out).keep hb)
      have HB2 := Lib.hid (below_call HB0.out (below_call HB.out hb))
      have HD := Lib.hid hd
      clear hb hd
      obtain ⟨p0, q0⟩ := K2.out.at
      go_wp2_with fail
      refine bodyPost_ret (results_box1 rfl _ _ w.heap.size 24 _ _ _ rfl (K2.out.set2 _ _) Tryz.underlying24 rfl (by kernel_rfl)) rfl ⟨a, c, rfl, ?_, ?_⟩
      · exact HD.out.far0 K2.out zb2 (only_setCell (only_setCell (World.grownBy.refl _ _) _) _)
      · exact (HB2.out.setCell (Nat.le_refl _) _).setCell (Nat.le_refl _) _
    · have hl3 := hl4 h0
      have e2 : (u != 0) = true := by rw [bne_iff_ne]; exact h0
      have e3 : ((-(u : Int)) != 0) = true := by rw [bne_iff_ne]; omega
      obtain ⟨d, hd⟩ : ∃ d, d = u % 1048576 := ⟨_, rfl⟩
      obtain ⟨m, hm⟩ : ∃ m, m = u / 1048576 := ⟨_, rfl⟩
      have hds : d < 1048576 := by omega
      have hmod : Int.tmod (-(u : Int)) 1048576 = -(d : Int) := by
        rw [Int.neg_tmod]
        have : Int.tmod (u : Int) 1048576 = (d : Int) := by (rw [Int.tmod_eq_emod_of_nonneg (by omega)]; omega)
        omega
      have hdiv : Int.tdiv (-(u : Int)) 1048576 = -(m : Int) := by
        rw [Int.neg_tdiv]
        have : Int.tdiv (u : Int) 1048576 = (m : Int) := by (rw [Int.tdiv_eq_ediv_of_nonneg (by omega)]; omega)
        omega
      have hmu : m < u := by omega
      have hum : u ≤ 9223372036854775808 := by omega
      have HE2 : Hid (val (l ++ [d]) + 1048576 ^ (l ++ [d]).length * m = n) := by show _ = _; rw [val_snoc_digs, show d + 1048576 * m = u by omega]; exact HE.out
      have HA : Hid (OwnN (wr.alloc (.cells #[.int .i64 (d : Int)] 3)) w0.heap.size u4 l) := HO.out.keep (below_alloc _ _)
      have HL1 : Hid (RdN (wr.alloc (.cells #[.int .i64 (d : Int)] 3)) (.slice (some ⟨wr.heap.size, 0, none⟩) 1 1) [d]) := (own_lit1 wr wr.heap.size d (Nat.le_refl _)).rd
      have hsz : w0.heap.size ≤ wr.heap.size := HB.out.size
      clear hd hm h0 hl4
      by_cases hd0 : d = 0
      · subst hd0
        have HA : Hid (OwnN (wr.alloc (.cells #[.int .i64 0] 3)) w0.heap.size u4 l) := HA.out
        have HL1 : Hid (RdN (wr.alloc (.cells #[.int .i64 0] 3)) (.slice (some ⟨wr.heap.size, 0, none⟩) 1 1) [0]) := HL1.out
        have hmod : Int.tmod (-(u : Int)) 1048576 = 0 := hmod
        go_wp2_with (at_builtin; go_must (refine wpList_appendN rfl _ _ rfl (wr.alloc (.cells #[.int .i64 0] 3)) w0.heap.size u4 l rfl HA.out ⟨wr.heap.size, 0, none⟩ 1 1 [0] rfl rfl HL1.out (by simp; omega) (by simp; omega) ?_; intro v' w1 ho hg hb))
        have HO2 := Lib.hid ho
        have HB2 : Hid (Below w0.heap.size w0 w1) := (HB.out.alloc hsz _).trans hb
        clear ho hg hb
        go_roundw
        case rel => exact ⟨l ++ [0], m, by omega, by simp; omega, by first | rfl | rw [hdiv], small_append HS.out (small_one hds), HE2, HO2.out, HB2.out⟩
        case measure => simp [intOf]; omega
      · have t4 : decide (-(d : Int) < 0) = true := by rw [decide_eq_true_eq]; omega
        go_wp2_with (at_builtin; go_must (refine wpList_appendN rfl _ _ rfl (wr.alloc (.cells #[.int .i64 (d : Int)] 3)) w0.heap.size u4 l rfl HA.out ⟨wr.heap.size, 0, none⟩ 1 1 [d] rfl rfl HL1.out (by simp; omega) (by simp; omega) ?_; intro v' w1 ho hg hb))
        have HO2 := Lib.hid ho
        have HB2 : Hid (Below w0.heap.size w0 w1) := (HB.out.alloc hsz _).trans hb
        clear ho hg hb
        go_roundw
        case rel => exact ⟨l ++ [d], m, by omega, by simp; omega, by first | rfl | rw [hdiv], small_append HS.out (small_one hds), HE2, HO2.out, HB2.out⟩
        case measure => simp [intOf]; omega
set_option maxRecDepth 100000 in
set_option maxHeartbeats 8000000 in
theorem rof_zero (w : World) :
    Calls Tryz.prog 31 #[.int .i64 0] w fun e w' => ∃ a c, e = .returned (.agg #[.int .i64 (sg 0), .slice a (ln 0) c]) ∧ BD G w' a c 0 ∧ Below w.heap.size w w' := by
  go_enter Tryz.func31, Tryz.ntmps31
  go_wp2_with fail
  refine bodyPost_ret (results_box1 rfl _ _ w.heap.size 24 _ _ _ rfl (bx1 w _ #[.int .i64 0, .slice none 0 0]) Tryz.underlying24 rfl (by kernel_rfl)) rfl ⟨none, 0, rfl, ?_, ?_⟩
  · exact bd_zero _ _ _
  · exact below_alloc _ _
theorem rof_ok (x : Int) (w : World) (hx : -9223372036854775808 ≤ x ∧ x ≤ 9223372036854775807) :
    Calls Tryz.prog 31 #[.int .i64 x] w fun e w' => ∃ a c, e = .returned (.agg #[.int .i64 (sg x), .slice a (ln x) c]) ∧ BD G w' a c x ∧ Below w.heap.size w w' := by
  rcases Int.lt_trichotomy x 0 with h | h | h
  · exact rof_neg (G := G) x w hx h
  · rw [h]; exact rof_zero (G := G) w
  · exact rof_pos (G := G) x w hx h
end Go.Proofs.YtlinegodpoihoaaGreatDoor
namespace Go.Proofs.YtlinegodpoihoaaGreatDoor
open Go.RowKit
variable {G : Nat}

end Go.Proofs.YtlinegodpoihoaaGreatDoor
namespace Go.Proofs.YtlinegodpoihoaaGreatDoor
open Go.RowKit
variable {G : Nat}

end Go.Proofs.YtlinegodpoihoaaGreatDoor
