/- Walks: subtracting big integers; few digits. -/
import Derived.Test.YtlinegodpoihoaaGreatDoorBase
import Derived.Test.YtlinegodpoihoaaGreatDoorBigSpec
import Derived.Test.YtlinegodpoihoaaGreatDoorBigB
import Derived.Test.YtlinegodpoihoaaGreatDoorBigC
import Derived.Test.YtlinegodpoihoaaGreatDoorBigD
import Derived.Test.YtlinegodpoihoaaGreatDoorBigK
import Derived.Test.YtlinegodpoihoaaGreatDoorBigQ
import Derived.Test.YtlinegodpoihoaaGreatDoorHeld
import Derived.Test.YtlinegodpoihoaaGreatDoorAw
import Derived.Test.YtlinegodpoihoaaGreatDoorProg
import Derived.Test.YtlinegodpoihoaaGreatDoorShelf
import Derived.WalkKit
import Derived.WalkSpells
import Derived.WalkLawsBesides
import Derived.Handy
import Derived.Lib.Hide
import Derived.Lib.Strings
import Derived.Lib.Builder
import Derived.BigQuiet
import Derived.OwnWalk
import Derived.Laws.BitsLemmas
import Derived.WalkSmall
import Derived.Deep.QuietTactic
import Derived.StillTailTactics
import Derived.Maps.AppendAt
import Derived.IntWalk
import Derived.Deep.RegionHeld3
import Derived.Deep.DeepFit
import Derived.Deep.LoopGhost
import Derived.Deep.DeepCutAuto
namespace Go.Proofs.YtlinegodpoihoaaGreatDoor
open Go.RowKit
variable {G : Nat}

set_option maxRecDepth 100000 in
set_option maxHeartbeats 4000000 in
theorem bigSub_ok {x y : Int} {a1 a2 : Option Addr} {c1 c2 : Nat} {w : World} (h1 : BD G w a1 c1 x) (h2 : BD G w a2 c2 y) (hG : G ≤ w.heap.size) (hx : Sz x 549755813888) (hy : Sz y 549755813888) :
  Calls Tryz.prog 8 #[.agg #[.int .i64 (sg x), .slice a1 (ln x) c1], .agg #[.int .i64 (sg y), .slice a2 (ln y) c2]] w fun e w' => ∃ a c, e = .returned (.tuple #[.agg #[.int .i64 (sg (x - y)), .slice a (ln (x - y)) c], .int .i64 0]) ∧ BD G w' a c (x - y) ∧ Below w.heap.size w w' := by
 have HX := Lib.hid hx; have HY := Lib.hid hy; clear hx hy
 have H1 : Hid (BD G w a1 c1 x) := h1
 have H2 : Hid (BD G w a2 c2 y) := h2
 clear h1 h2
 have M : Hid (Below w.heap.size w w) := Below.refl _ _
 go_enter Tryz.func8, Tryz.ntmps8
 go_upto_region 1 with fail
 refine nmW (((w.alloc (.cells #[.int .i64 (sg x), .slice a1 (ln x) c1] 24)).alloc (.cells #[.int .i64 (sg y), .slice a2 (ln y) c2] 24)).alloc (.cells #[.int .i64 0, .slice none 0 0] 24)) fun w1 hv => ?_
 rw [← hv]
 replace M := al3W hv M
 clear hv
 obtain ⟨aa, ab, ac, ad⟩ := (J1 M).1.c2
 go_wp2_with fail
 clear aa ab ac ad
 refine (bigRight_ok (G := G) (z := y) (H2.out.keep (J3 M)) (Sz.mono HY.out (by omega))).mono ?_
 rintro e w2 ⟨rfl, hb⟩
 replace M := gnM hb M
 clear hb
 go_wp2_with fail
 refine nmW w2.drew fun w3 hv => ?_
 replace M := drM hv M
 refine wp_region_held_drew (S := (fun w' => w'.cell? ⟨w.heap.size, 0, none⟩ = some (.int .i64 (sg x)) ∧ w'.cell? ⟨w.heap.size, 1, none⟩ = some (.slice a1 (ln x) c1) ∧ w'.cell? ⟨w.heap.size + 1, 0, none⟩ = some (.int .i64 (sg y)) ∧ w'.cell? ⟨w.heap.size + 1, 1, none⟩ = some (.slice a2 (ln y) c2))) (by kernel_rfl) (by rw [← hv]; exact ((J2 M).1.t2 ((J1 M).1.d2))) (fun hH9 => ?_)
 rw [← hv] at hH9 ⊢
 clear hv
 refine tk at0 ?_
 refine tk at1 ?_
 refine wpAnyH_ready (rs := [2]) (by kernel_rfl) (by simp) ?_
 refine AllReadyH.cons at2 (fun K hK => ?_) AllReadyH.nil
 go_simp
 obtain ⟨z12, ez12⟩ : ∃ v_ : Int, v_ = (-y) := ⟨_, rfl⟩
 refine (bigNeg_ok (G := G) (x := y) (H2.out.keep (J3 M)) HY.out).mono ?_
 rintro e w4 ⟨a_10, c_11, rfl, hd13, hb⟩
 rw [← ez12] at hd13 ⊢
 have Sz12 : Hid (Sz z12 549755813888) := by show Sz z12 549755813888; rw [ez12]; exact (Sz.neg HY.out)
 have Ez12 := Lib.hid ez12; clear ez12
 replace M := adM hd13 hb M
 clear hb hd13
 (try go_wp2_with fail)
 refine hK.out _ _ (((J3 M).1.t2 ((J2 M).1.d2))) (fun hH14 => ?_)
 clear hK K hH9
 (try simp only [Act.put, List.setIfInBounds_toArray, List.set_cons_zero, List.set_cons_succ])
 refine wpAnyH_ready (rs := [3]) (by kernel_rfl) (by simp) ?_
 refine AllReadyH.cons at3 (fun K hK => ?_) AllReadyH.nil
 go_simp
 obtain ⟨z17, ez17⟩ : ∃ v_ : Int, v_ = (x + z12) := ⟨_, rfl⟩
 refine (bigAdd_ok (G := G) (x := x) (y := z12) (H1.out.keep (J4 M)) (M.out.1) HX.out Sz12.out).mono ?_
 rintro e w5 ⟨a_15, c_16, rfl, hd18, hb⟩
 rw [← ez17] at hd18 ⊢
 have Sz17 : Hid (Sz z17 549755813889) := by show Sz z17 549755813889; rw [ez17]; exact (Sz.add HX.out Sz12.out)
 have Ez17 := Lib.hid ez17; clear ez17
 replace M := adM hd18 hb M
 clear hb hd18
 (try go_wp2_with fail)
 refine hK.out _ _ (((J4 M).1.t2 ((J3 M).1.d2))) (fun hH19 => ?_)
 clear hK K hH14
 (try simp only [Act.put, List.setIfInBounds_toArray, List.set_cons_zero, List.set_cons_succ])
 refine tk at4 ?_
 refine tk at5 ?_
 refine wpAnyH_ready (rs := [6]) (by kernel_rfl) (by simp) ?_
 refine AllReadyH.cons at6 (fun K hK => ?_) AllReadyH.nil
 obtain ⟨ae, af, ag, ah⟩ := (J2 M).1.c2
 go_simp
 clear ae af ag ah
 have hz : w.heap.size ≤ w.heap.size + 1 + 1 := by omega
 refine st2W (.int .i64 (sg z17)) (.slice a_15 (ln z17) c_16) (J2 M).1 (J5 M) hz fun w6 hv og hk hbw => ?_
 rw [← hv]
 replace M := Lib.hid (aI ((M.out.1).far (J2 M).1 (by rfl) (by omega) og) (aI ((J1 M).1.far (J2 M).1 (by rfl) (by omega) og) (aI hk (aI ((J3 M).1.only og (by omega)) (aI ((J4 M).1.only og (by omega)) hbw)))))
 clear hk hbw og hv hz
 refine hK.out _ _ (((J4 M).1.t2 ((J3 M).1.d2))) (fun hH20 => ?_)
 clear hK K hH19
 (try simp only [Act.put, List.setIfInBounds_toArray, List.set_cons_zero, List.set_cons_succ])
 refine tk at7 ?_
 refine wpAnyH_done (by kernel_rfl) ?_ _
 clear hH20
 go_wp2_with fail
 have HR : x - y = z17 := by rw [Ez17.out, Ez12.out]; omega
 rw [HR]
 refine bodyPost_ret (results_box2 rfl _ _ (w.heap.size + 1 + 1) 24 _ _ _ rfl (J2 M).1 Tryz.underlying24 rfl (by kernel_rfl)) rfl ?_
 exact ⟨_, _, rfl, (M.out.1), (J5 M)⟩
set_option maxRecDepth 100000 in
set_option maxHeartbeats 4000000 in
theorem bigFew_ok {s m : Int} {n : Nat} {a : Option Addr} {c : Nat} {b : Bool} {w : World} (hb : decide ((n : Int) ≤ m) = b) :
  Calls Tryz.prog 5 #[.agg #[.int .i64 s, .slice a n c], .int .i64 m] w fun e w' => e = .returned (.bool b) ∧ Below w.heap.size w w' := by
 have M : Hid (Below w.heap.size w w) := Below.refl _ _
 go_enter Tryz.func5, Tryz.ntmps5
 go_upto_region 1 with fail
 refine nmW (w.alloc (.cells #[.int .i64 s, .slice a n c] 24)) fun w1 hv => ?_
 rw [← hv]
 replace M := alM hv M
 clear hv
 obtain ⟨aa, ab, ac, ad⟩ := (M.out.1).c2
 go_wp2_with fail
 clear aa ab ac ad
 go_ret
 exact ⟨rfl, (J1 M)⟩
end Go.Proofs.YtlinegodpoihoaaGreatDoor
