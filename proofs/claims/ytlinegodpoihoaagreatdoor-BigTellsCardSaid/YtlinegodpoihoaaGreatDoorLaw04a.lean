/- Walks: the examples of the documentation of big integers. -/
import Derived.Test.YtlinegodpoihoaaGreatDoorBase
import Derived.Test.YtlinegodpoihoaaGreatDoorBigSpec
import Derived.Test.YtlinegodpoihoaaGreatDoorBigB
import Derived.Test.YtlinegodpoihoaaGreatDoorBigC
import Derived.Test.YtlinegodpoihoaaGreatDoorBigD
import Derived.Test.YtlinegodpoihoaaGreatDoorBigK
import Derived.Test.YtlinegodpoihoaaGreatDoorBigQ
import Derived.Test.YtlinegodpoihoaaGreatDoorRefS
import Derived.Test.YtlinegodpoihoaaGreatDoorHeld
import Derived.Test.YtlinegodpoihoaaGreatDoorAw
import Derived.Test.YtlinegodpoihoaaGreatDoorBigU
import Derived.Test.YtlinegodpoihoaaGreatDoorBigDec
import Derived.Test.YtlinegodpoihoaaGreatDoorBigRead
import Derived.Test.YtlinegodpoihoaaGreatDoorProg
import Derived.Test.YtlinegodpoihoaaGreatDoorShelf
import Derived.WalkKit
import Derived.WalkSpells
import Derived.WalkLawsBesides
import Derived.Handy
import Derived.Lib.Hide
import Derived.Lib.Strings
import Derived.Lib.Builder
import Derived.BigQuiet
import Derived.OwnWalk
import Derived.Laws.BitsLemmas
import Derived.WalkSmall
import Derived.Deep.QuietTactic
import Derived.StillTailTactics
import Derived.Maps.AppendAt
import Derived.IntWalk
import Derived.Deep.RegionHeld3
import Derived.Deep.DeepFit
import Derived.Deep.LoopGhost
import Derived.Deep.DeepCutAuto
import Derived.Lib.ItoaNum
import Derived.Lib.Repeat
import Derived.Lib.AppendIntMem
import Derived.Sort.OwnSorted
namespace Go.Proofs.YtlinegodpoihoaaGreatDoor
open Go.RowKit Go.Lib
variable {G : Nat}

theorem bigGcd_is {x y g : Int} {a1 a2 : Option Addr} {c1 c2 : Nat} {w : World} (h1 : BD G w a1 c1 x) (h2 : BD G w a2 c2 y) (hx : Sz x 549755813888) (hy : Sz y 549755813888) (hg : ((Nat.gcd x.natAbs y.natAbs : Nat) : Int) = g) :
  Calls Tryz.prog 19 #[.agg #[.int .i64 (sg x), .slice a1 (ln x) c1], .agg #[.int .i64 (sg y), .slice a2 (ln y) c2]] w fun e w' => ∃ a c, e = .returned (.tuple #[.agg #[.int .i64 (sg g), .slice a (ln g) c], .int .i64 0]) ∧ BD G w' a c g ∧ Below w.heap.size w w' := by
 subst hg; exact bigGcd_ok h1 h2 hx hy
theorem bigInt_is {x : Int} {a1 : Option Addr} {c1 : Nat} {w : World} (h1 : BD G w a1 c1 x) (hX : Sz x 1099511627776) (hr : -9223372036854775808 ≤ x ∧ x ≤ 9223372036854775807) :
  Calls Tryz.prog 15 #[.agg #[.int .i64 (sg x), .slice a1 (ln x) c1]] w fun e w' => e = .returned (.tuple #[.int .i64 x, .bool true]) ∧ Below w.heap.size w w' := by
 have := bigInt_ok h1 hX; rw [intRes_yes hr] at this; exact this
theorem bigText_lit {x : Int} {s : ByteArray} {a1 : Option Addr} {c1 : Nat} {w : World} (h1 : BD G w a1 c1 x) (hX : Sz x 1073741824) (ht : Tab w) (hs : (⟨(textZ x).toArray⟩ : ByteArray) = s) :
  Calls Tryz.prog 26 #[.agg #[.int .i64 (sg x), .slice a1 (ln x) c1]] w fun e w' => e = .returned (.string s) ∧ Below w.heap.size w w' := by
 subst hs; exact bigText_ok h1 hX ht
/-- A literal's digits. -/
theorem bd_lit {A : Nat} {w : World} {l : Digs} {n : Nat} (hc : canon l) (hv : val l = n) (h : Bx w A 3 (cellsN l).toArray) : BD G w (some ⟨A, 0, none⟩) l.length (n : Int) ∧ ln (n : Int) = l.length := by
  subst hv
  have hd : digs ((val l : Nat) : Int).natAbs = l := by rw [Int.natAbs_natCast, digs_val hc]
  have hl : ln ((val l : Nat) : Int) = l.length := by unfold ln; rw [hd]
  refine ⟨⟨?_, by omega, .inr fun b off hb => .inr ?_⟩, hl⟩
  · rw [hd, hl]
    refine ⟨_, _, by rw [ints_len], fun k hk => ⟨A, 0, rfl, h.lt, fun j u hj => ?_⟩⟩
    rw [ints_len] at hk
    have hki : k < (ints l).length := by rw [ints_len]; exact hk
    dsimp only at hj
    rw [List.getElem?_eq_getElem hki] at hj
    have hj0 : j = 0 := by
      rcases Nat.eq_zero_or_pos j with h0 | h0
      · exact h0
      · have : ([Value.int .i64 (ints l)[k]] : List Value)[j]? = some u := hj
        rw [List.getElem?_eq_none (by simp; omega)] at this; cases this
    subst hj0
    have hu : Value.int .i64 (ints l)[k] = u := by simpa using hj
    rw [Nat.mul_one, Nat.zero_add, Nat.add_zero, h.at.1, ← hu]
    unfold cellsN cellsZ
    simp [List.getElem?_eq_getElem hki]
  · cases hb; exact ⟨_, _, h⟩
theorem two_bd {A : Nat} {w : World} (h : Bx w A 3 #[.int .i64 0, .int .i64 0, .int .i64 0, .int .i64 8]) : BD G w (some ⟨A, 0, none⟩) 4 9223372036854775808 ∧ ln 9223372036854775808 = 4 :=
 bd_lit (l := [0, 0, 0, 8]) (n := 9223372036854775808) ⟨by intro d hd; simp at hd; omega, by simp⟩ (by decide) h
theorem one_bd {A : Nat} {w : World} (h : Bx w A 3 #[.int .i64 1, .int .i64 1]) : BD G w (some ⟨A, 0, none⟩) 2 1048577 ∧ ln 1048577 = 2 :=
 bd_lit (l := [1, 1]) (n := 1048577) ⟨by intro d hd; simp at hd; omega, by simp⟩ (by decide) h
theorem Sz.i64 {x : Int} (h : -9223372036854775808 ≤ x ∧ x ≤ 9223372036854775807) : Sz x 4 := digs_len_of_lt (show x.natAbs < 1048576 ^ 4 by omega)
theorem sz_two : Sz 9223372036854775808 4 := by unfold Sz; decide
theorem int_two {A : Nat} {w : World} (h : Bx w A 3 #[.int .i64 0, .int .i64 0, .int .i64 0, .int .i64 8]) :
  Calls Tryz.prog 15 #[.agg #[.int .i64 1, .slice (some ⟨A, 0, none⟩) 4 4]] w fun e w' => e = .returned (.tuple #[.int .i64 0, .bool false]) ∧ Below w.heap.size w w' := by
 have h2 := two_bd (G := 0) h
 have := bigInt_ok h2.1 (sz_two.mono (by omega))
 rw [h2.2, sg_pos (by decide), intRes_no (by omega)] at this
 exact this
theorem neg_two {A : Nat} {w : World} (h : Bx w A 3 #[.int .i64 0, .int .i64 0, .int .i64 0, .int .i64 8]) :
  Calls Tryz.prog 28 #[.agg #[.int .i64 1, .slice (some ⟨A, 0, none⟩) 4 4]] w fun e w' => ∃ a c, e = .returned (.agg #[.int .i64 (sg (-9223372036854775808)), .slice a (ln (-9223372036854775808)) c]) ∧ BD G w' a c (-9223372036854775808) ∧ Below w.heap.size w w' := by
 have h2 := two_bd (G := G) h
 have := bigNeg_ok h2.1 (sz_two.mono (by omega))
 rw [h2.2, sg_pos (by decide)] at this
 exact this
theorem same_lit {A : Nat} {a1 : Option Addr} {c1 : Nat} {w : World} (h1 : BD G w a1 c1 1048577) (h : Bx w A 3 #[.int .i64 1, .int .i64 1]) :
  Calls Tryz.prog 12 #[.agg #[.int .i64 (sg 1048577), .slice a1 (ln 1048577) c1], .agg #[.int .i64 1, .slice (some ⟨A, 0, none⟩) 2 2]] w fun e w' => e = .returned (.bool true) ∧ Below w.heap.size w w' := by
 have h2 := one_bd (G := G) h
 have := rsame_ok h1 h2.1 (show Sz _ _ by unfold Sz; decide) (show Sz _ _ by unfold Sz; decide)
 rw [show eqZ 1048577 1048577 = true by decide] at this
 rw [show ln 1048577 = 2 by decide] at this ⊢
 rw [show (1 : Int) = sg 1048577 by decide]
 exact this
theorem text_p : (⟨(textZ (-99999999999 * 99999999999)).toArray⟩ : ByteArray) = {data := #[45, 57, 57, 57, 57, 57, 57, 57, 57, 57, 57, 56, 48, 48, 48, 48, 48, 48, 48, 48, 48, 48, 49]} := by
  have h := dec_decVal (l := [57, 57, 57, 57, 57, 57, 57, 57, 57, 57, 56, 48, 48, 48, 48, 48, 48, 48, 48, 48, 48, 49]) (by decide) (by decide) (by decide)
  have hv : decVal [57, 57, 57, 57, 57, 57, 57, 57, 57, 57, 56, 48, 48, 48, 48, 48, 48, 48, 48, 48, 48, 49] = (-99999999999 * 99999999999 : Int).natAbs := by decide
  rw [hv] at h
  have : textZ (-99999999999 * 99999999999) = [45, 57, 57, 57, 57, 57, 57, 57, 57, 57, 57, 56, 48, 48, 48, 48, 48, 48, 48, 48, 48, 48, 49] := by unfold textZ; rw [if_pos (by decide), h]
  rw [this]
theorem read_0 {w : World} :
    Calls Tryz.prog 17 #[.string {data := #[48, 48, 55]}] w fun e w' => e = .returned (.tuple #[.agg #[.int .i64 0, .slice none 0 0], .int .i64 2]) ∧ Below w.heap.size w w' :=
  bigRead_bad (s := [48, 48, 55]) rfl (by decide) (.inr ⟨_, rfl⟩)
theorem read_1 {w : World} :
    Calls Tryz.prog 17 #[.string {data := #[45, 48]}] w fun e w' => e = .returned (.tuple #[.agg #[.int .i64 0, .slice none 0 0], .int .i64 2]) ∧ Below w.heap.size w w' :=
  bigRead_bad (s := [45, 48]) rfl (by decide) (.inr ⟨_, rfl⟩)
theorem read_2 {w : World} :
    Calls Tryz.prog 17 #[.string {data := #[]}] w fun e w' => e = .returned (.tuple #[.agg #[.int .i64 0, .slice none 0 0], .int .i64 2]) ∧ Below w.heap.size w w' :=
  bigRead_bad (s := []) rfl (by decide) (.inl rfl)
set_option maxRecDepth 100000 in
set_option maxHeartbeats 4000000 in
theorem pair_ok {x y q r : Int} {a1 a2 : Option Addr} {c1 c2 : Nat} {w : World} (h1 : BD G w a1 c1 x) (h2 : BD G w a2 c2 y) (hx : Sz x 1099511627776) (hy : Sz y 1099511627776) (hq : x = q) (hr : y = r) (bq : -9223372036854775808 ≤ q ∧ q ≤ 9223372036854775807) (br : -9223372036854775808 ≤ r ∧ r ≤ 9223372036854775807) :
  Calls Tryz.prog 32 #[.agg #[.int .i64 (sg x), .slice a1 (ln x) c1], .agg #[.int .i64 (sg y), .slice a2 (ln y) c2], .int .i64 0, .int .i64 q, .int .i64 r] w fun e w' => e = .returned (.bool true) ∧ Below w.heap.size w w' := by
 have HQ := Lib.hid hq; have HR := Lib.hid hr; have HBQ := Lib.hid bq; have HBR := Lib.hid br; have HX := Lib.hid hx; have HY := Lib.hid hy; clear hq hr bq br hx hy
 have H1 : Hid (BD G w a1 c1 x) := h1
 have H2 : Hid (BD G w a2 c2 y) := h2
 clear h1 h2
 have M : Hid (Below w.heap.size w w) := Below.refl _ _
 go_enter Tryz.func32, Tryz.ntmps32
 go_wp2_with fail
 refine nmW ((w.alloc (.cells #[.int .i64 (sg x), .slice a1 (ln x) c1] 24)).alloc (.cells #[.int .i64 (sg y), .slice a2 (ln y) c2] 24)) fun w1 hv => ?_
 rw [← hv]
 replace M := al2W hv M
 clear hv
 refine nmW w1.drew fun w2 hv => ?_
 replace M := drM hv M
 refine wp_region_held_drew (S := (fun w' => w'.cell? ⟨w.heap.size, 0, none⟩ = some (.int .i64 (sg x)) ∧ w'.cell? ⟨w.heap.size, 1, none⟩ = some (.slice a1 (ln x) c1) ∧ w'.cell? ⟨w.heap.size + 1, 0, none⟩ = some (.int .i64 (sg y)) ∧ w'.cell? ⟨w.heap.size + 1, 1, none⟩ = some (.slice a2 (ln y) c2))) (by kernel_rfl) (by rw [← hv]; exact ((J1 M).1.t2 ((M.out.1).d2))) (fun hH7 => ?_)
 rw [← hv] at hH7 ⊢
 clear hv
 refine tk at0 ?_
 refine tk at1 ?_
 refine tk at2 ?_
 refine tk at3 ?_
 refine tk at4 ?_
 refine wpAnyH_ready (rs := [5]) (by kernel_rfl) (by simp) ?_
 refine AllReadyH.cons at5 (fun K hK => ?_) AllReadyH.nil
 go_simp
 refine (bigOf_ok (G := G) q _ HBQ.out).mono ?_
 rintro e w3 ⟨a_8, c_9, rfl, hd10, hb⟩
 replace M := adM hd10 hb M
 clear hb hd10
 (try go_wp2_with fail)
 refine hK.out _ _ (((J2 M).1.t2 ((J1 M).1.d2))) (fun hH11 => ?_)
 clear hK K hH7
 (try simp only [Act.put, List.setIfInBounds_toArray, List.set_cons_zero, List.set_cons_succ])
 refine wpAnyH_ready (rs := [6]) (by kernel_rfl) (by simp) ?_
 refine AllReadyH.cons at6 (fun K hK => ?_) AllReadyH.nil
 go_simp
 refine (bigSame_is (G := G) (x := x) (y := q) (b := true) (H1.out.keep (J3 M)) (M.out.1) HX.out (Sz.mono (Sz.i64 HBQ.out) (by omega)) (eqZ_of HQ.out)).mono ?_
 rintro e w4 ⟨rfl, hb⟩
 replace M := gnM hb M
 clear hb
 (try go_wp2_with fail)
 refine hK.out _ _ (((J2 M).1.t2 ((J1 M).1.d2))) (fun hH12 => ?_)
 clear hK K hH11
 (try simp only [Act.put, List.setIfInBounds_toArray, List.set_cons_zero, List.set_cons_succ])
 refine tk at7 ?_
 refine tk at8 ?_
 refine tk at9 ?_
 refine tk at10 ?_
 refine wpAnyH_ready (rs := [11]) (by kernel_rfl) (by simp) ?_
 refine AllReadyH.cons at11 (fun K hK => ?_) AllReadyH.nil
 go_simp
 refine (bigOf_ok (G := G) r _ HBR.out).mono ?_
 rintro e w5 ⟨a_13, c_14, rfl, hd15, hb⟩
 replace M := adM hd15 hb M
 clear hb hd15
 (try go_wp2_with fail)
 refine hK.out _ _ (((J3 M).1.t2 ((J2 M).1.d2))) (fun hH16 => ?_)
 clear hK K hH12
 (try simp only [Act.put, List.setIfInBounds_toArray, List.set_cons_zero, List.set_cons_succ])
 refine wpAnyH_ready (rs := [12]) (by kernel_rfl) (by simp) ?_
 refine AllReadyH.cons at12 (fun K hK => ?_) AllReadyH.nil
 go_simp
 refine (bigSame_is (G := G) (x := y) (y := r) (b := true) (H2.out.keep (J4 M)) (M.out.1) HY.out (Sz.mono (Sz.i64 HBR.out) (by omega)) (eqZ_of HR.out)).mono ?_
 rintro e w6 ⟨rfl, hb⟩
 replace M := gnM hb M
 clear hb
 (try go_wp2_with fail)
 refine hK.out _ _ (((J3 M).1.t2 ((J2 M).1.d2))) (fun hH17 => ?_)
 clear hK K hH16
 (try simp only [Act.put, List.setIfInBounds_toArray, List.set_cons_zero, List.set_cons_succ])
 refine tk at13 ?_
 refine tk at14 ?_
 refine wpAnyH_done (by kernel_rfl) ?_ _
 clear hH17
 go_wp2_with fail
 go_ret
 exact ⟨rfl, (J4 M)⟩
set_option maxRecDepth 100000 in
set_option maxHeartbeats 4000000 in
theorem small_ok {w : World} (_hG : G ≤ w.heap.size) (ht : Tab w) :
    Calls Tryz.prog 4 #[] w fun e w' => e = .returned (.bool true) ∧ Below w.heap.size w w' := by
  have HT : Hid (Tab w) := ht
  clear ht
  have M : Hid (Below w.heap.size w w) := Below.refl _ _
  go_enter Tryz.func4, Tryz.ntmps4
  go_wp2_with fail
  refine (bigOf_ok (G := G) 1048577 _ (by omega)).mono ?_
  rintro e w1 ⟨a_1, c_2, rfl, hd3, hb⟩
  replace M := adM hd3 hb M
  clear hb hd3
  go_upto_region 2 with fail
  refine nmW (w1.alloc (.cells #[.int .i64 (sg 1048577), .slice a_1 (ln 1048577) c_2] 24)) fun w2 hv => ?_
  rw [← hv]
  have o0 : w.heap.size ≤ w1.heap.size := ((J1 M)).size
  replace M := alM hv M
  clear hv
  go_wp2_with fail
  refine (bigOf_ok (G := G) (-99999999999) _ (by omega)).mono ?_
  rintro e w3 ⟨a_4, c_5, rfl, hd6, hb⟩
  replace M := adM hd6 hb M
  clear hb hd6
  go_wp2_with fail
  refine (bigOf_ok (G := G) 99999999999 _ (by omega)).mono ?_
  rintro e w4 ⟨a_7, c_8, rfl, hd9, hb⟩
  replace M := adM hd9 hb M
  clear hb hd9
  go_wp2_with fail
  obtain ⟨z12, ez12⟩ : ∃ v_ : Int, v_ = ((-99999999999) * 99999999999) := ⟨_, rfl⟩
  refine (bigMul_ok (G := G) (x := (-99999999999)) (y := 99999999999) (J1 M).1 (M.out.1) (Sz.mono (show Sz (-99999999999) 2 from by unfold Sz; decide) (by omega)) (Sz.mono (show Sz (99999999999) 2 from by unfold Sz; decide) (by omega))).mono ?_
  rintro e w5 ⟨a_10, c_11, rfl, hd13, hb⟩
  rw [← ez12] at hd13 ⊢
  have Sz12 : Hid (Sz z12 4) := by show Sz z12 4; rw [ez12]; exact (Sz.mul (show Sz (-99999999999) 2 from by unfold Sz; decide) (show Sz (99999999999) 2 from by unfold Sz; decide))
  have Ez12 := Lib.hid ez12; clear ez12
  replace M := adM hd13 hb M
  clear hb hd13
  go_upto_region 3 with fail
  refine nmW (w5.alloc (.cells #[.int .i64 (sg z12), .slice a_10 (ln z12) c_11] 24)) fun w6 hv => ?_
  rw [← hv]
  have o1 : w1.heap.size < w5.heap.size := ((J3 M).1).lt
  replace M := alM hv M
  clear hv
  go_wp2_with fail
  refine (bigOf_ok (G := G) (-7) _ (by omega)).mono ?_
  rintro e w7 ⟨a_14, c_15, rfl, hd16, hb⟩
  replace M := adM hd16 hb M
  clear hb hd16
  go_wp2_with fail
  refine (bigOf_ok (G := G) 2 _ (by omega)).mono ?_
  rintro e w8 ⟨a_17, c_18, rfl, hd19, hb⟩
  replace M := adM hd19 hb M
  clear hb hd19
  go_wp2_with fail
  obtain ⟨z24, ez24⟩ : ∃ v_ : Int, v_ = (dv (-7) 2) := ⟨_, rfl⟩
  obtain ⟨z25, ez25⟩ : ∃ v_ : Int, v_ = (md (-7) 2) := ⟨_, rfl⟩
  refine (bigDiv_ok (G := G) (x := (-7)) (y := 2) (J1 M).1 (M.out.1) (Sz.mono (show Sz (-7) 1 from by unfold Sz; decide) (by omega)) (Sz.mono (show Sz (2) 1 from by unfold Sz; decide) (by omega)) (by decide)).mono ?_
  rintro e w9 ⟨a_20, c_21, b_22, d_23, rfl, hd26, hd27, hb⟩
  rw [← ez24] at hd26 ⊢
  have Sz24 : Hid (Sz z24 8) := by show Sz z24 8; rw [ez24]; exact (show Sz ((dv (-7) 2)) 8 from by unfold Sz; decide)
  have Ez24 := Lib.hid ez24; clear ez24
  rw [← ez25] at hd27 ⊢
  have Sz25 : Hid (Sz z25 8) := by show Sz z25 8; rw [ez25]; exact (show Sz ((md (-7) 2)) 8 from by unfold Sz; decide)
  have Ez25 := Lib.hid ez25; clear ez25
  replace M := ad2M hd26 hd27 hb M
  clear hb hd26 hd27
  go_upto_region 4 with fail
  refine nmW ((w9.alloc (.cells #[.int .i64 (sg z24), .slice a_20 (ln z24) c_21] 24)).alloc (.cells #[.int .i64 (sg z25), .slice b_22 (ln z25) d_23] 24)) fun w10 hv => ?_
  rw [← hv]
  have o2 : w5.heap.size < w9.heap.size := ((J4 M).1).lt
  replace M := al2W hv M
  clear hv
  go_wp2_with fail
  refine (bigOf_ok (G := G) 7 _ (by omega)).mono ?_
  rintro e w11 ⟨a_28, c_29, rfl, hd30, hb⟩
  replace M := adM hd30 hb M
  clear hb hd30
  go_wp2_with fail
  refine (bigOf_ok (G := G) (-2) _ (by omega)).mono ?_
  rintro e w12 ⟨a_31, c_32, rfl, hd33, hb⟩
  replace M := adM hd33 hb M
  clear hb hd33
  go_wp2_with fail
  obtain ⟨z38, ez38⟩ : ∃ v_ : Int, v_ = (dv 7 (-2)) := ⟨_, rfl⟩
  obtain ⟨z39, ez39⟩ : ∃ v_ : Int, v_ = (md 7 (-2)) := ⟨_, rfl⟩
  refine (bigDiv_ok (G := G) (x := 7) (y := (-2)) (J1 M).1 (M.out.1) (Sz.mono (show Sz (7) 1 from by unfold Sz; decide) (by omega)) (Sz.mono (show Sz (-2) 1 from by unfold Sz; decide) (by omega)) (by decide)).mono ?_
  rintro e w13 ⟨a_34, c_35, b_36, d_37, rfl, hd40, hd41, hb⟩
  rw [← ez38] at hd40 ⊢
  have Sz38 : Hid (Sz z38 8) := by show Sz z38 8; rw [ez38]; exact (show Sz ((dv 7 (-2))) 8 from by unfold Sz; decide)
  have Ez38 := Lib.hid ez38; clear ez38
  rw [← ez39] at hd41 ⊢
  have Sz39 : Hid (Sz z39 8) := by show Sz z39 8; rw [ez39]; exact (show Sz ((md 7 (-2))) 8 from by unfold Sz; decide)
  have Ez39 := Lib.hid ez39; clear ez39
  replace M := ad2M hd40 hd41 hb M
  clear hb hd40 hd41
  go_upto_region 5 with fail
  refine nmW ((w13.alloc (.cells #[.int .i64 (sg z38), .slice a_34 (ln z38) c_35] 24)).alloc (.cells #[.int .i64 (sg z39), .slice b_36 (ln z39) d_37] 24)) fun w14 hv => ?_
  rw [← hv]
  have o4 : w9.heap.size + 1 < w13.heap.size := ((J4 M).1).lt
  replace M := al2W hv M
  clear hv
  go_wp2_with fail
  refine (bigOf_ok (G := G) (-7) _ (by omega)).mono ?_
  rintro e w15 ⟨a_42, c_43, rfl, hd44, hb⟩
  replace M := adM hd44 hb M
  clear hb hd44
  go_wp2_with fail
  refine (bigOf_ok (G := G) (-2) _ (by omega)).mono ?_
  rintro e w16 ⟨a_45, c_46, rfl, hd47, hb⟩
  replace M := adM hd47 hb M
  clear hb hd47
  go_wp2_with fail
  obtain ⟨z52, ez52⟩ : ∃ v_ : Int, v_ = (dv (-7) (-2)) := ⟨_, rfl⟩
  obtain ⟨z53, ez53⟩ : ∃ v_ : Int, v_ = (md (-7) (-2)) := ⟨_, rfl⟩
  refine (bigDiv_ok (G := G) (x := (-7)) (y := (-2)) (J1 M).1 (M.out.1) (Sz.mono (show Sz (-7) 1 from by unfold Sz; decide) (by omega)) (Sz.mono (show Sz (-2) 1 from by unfold Sz; decide) (by omega)) (by decide)).mono ?_
  rintro e w17 ⟨a_48, c_49, b_50, d_51, rfl, hd54, hd55, hb⟩
  rw [← ez52] at hd54 ⊢
  have Sz52 : Hid (Sz z52 8) := by show Sz z52 8; rw [ez52]; exact (show Sz ((dv (-7) (-2))) 8 from by unfold Sz; decide)
  have Ez52 := Lib.hid ez52; clear ez52
  rw [← ez53] at hd55 ⊢
  have Sz53 : Hid (Sz z53 8) := by show Sz z53 8; rw [ez53]; exact (show Sz ((md (-7) (-2))) 8 from by unfold Sz; decide)
  have Ez53 := Lib.hid ez53; clear ez53
  replace M := ad2M hd54 hd55 hb M
  clear hb hd54 hd55
  go_upto_region 6 with fail
  refine nmW ((w17.alloc (.cells #[.int .i64 (sg z52), .slice a_48 (ln z52) c_49] 24)).alloc (.cells #[.int .i64 (sg z53), .slice b_50 (ln z53) d_51] 24)) fun w18 hv => ?_
  rw [← hv]
  have o6 : w13.heap.size + 1 < w17.heap.size := ((J4 M).1).lt
  replace M := al2W hv M
  clear hv
  go_wp2_with fail
  refine (bigOf_ok (G := G) (-12) _ (by omega)).mono ?_
  rintro e w19 ⟨a_56, c_57, rfl, hd58, hb⟩
  replace M := adM hd58 hb M
  clear hb hd58
  go_wp2_with fail
  refine (bigOf_ok (G := G) 18 _ (by omega)).mono ?_
  rintro e w20 ⟨a_59, c_60, rfl, hd61, hb⟩
  replace M := adM hd61 hb M
  clear hb hd61
  go_wp2_with fail
  refine (bigGcd_is (G := G) (x := (-12)) (y := 18) (g := 6) (J1 M).1 (M.out.1) (Sz.mono (show Sz (-12) 1 from by unfold Sz; decide) (by omega)) (Sz.mono (show Sz (18) 1 from by unfold Sz; decide) (by omega)) (by decide)).mono ?_
  rintro e w21 ⟨a_62, c_63, rfl, hd64, hb⟩
  replace M := adM hd64 hb M
  clear hb hd64
  go_upto_region 7 with fail
  refine nmW (w21.alloc (.cells #[.int .i64 (sg 6), .slice a_62 (ln 6) c_63] 24)) fun w22 hv => ?_
  rw [← hv]
  have o8 : w17.heap.size + 1 < w21.heap.size := ((J3 M).1).lt
  replace M := alM hv M
  clear hv
  go_wp2_with fail
  refine (bigOf_ok (G := G) 0 _ (by omega)).mono ?_
  rintro e w23 ⟨a_65, c_66, rfl, hd67, hb⟩
  replace M := adM hd67 hb M
  clear hb hd67
  go_wp2_with fail
  refine (bigOf_ok (G := G) (-5) _ (by omega)).mono ?_
  rintro e w24 ⟨a_68, c_69, rfl, hd70, hb⟩
  replace M := adM hd70 hb M
  clear hb hd70
  go_wp2_with fail
  refine (bigGcd_is (G := G) (x := 0) (y := (-5)) (g := 5) (J1 M).1 (M.out.1) (Sz.mono (show Sz (0) 0 from by unfold Sz; decide) (by omega)) (Sz.mono (show Sz (-5) 1 from by unfold Sz; decide) (by omega)) (by decide)).mono ?_
  rintro e w25 ⟨a_71, c_72, rfl, hd73, hb⟩
  replace M := adM hd73 hb M
  clear hb hd73
  go_upto_region 8 with fail
  refine nmW (w25.alloc (.cells #[.int .i64 (sg 5), .slice a_71 (ln 5) c_72] 24)) fun w26 hv => ?_
  rw [← hv]
  have o9 : w21.heap.size < w25.heap.size := ((J3 M).1).lt
  replace M := alM hv M
  clear hv
  go_wp2_with fail
  refine (read_0).mono ?_
  rintro e w27 ⟨rfl, hb⟩
  replace M := gnM hb M
  clear hb
  go_upto_region 9 with fail
  refine nmW (w27.alloc (.cells #[.int .i64 0, .slice none 0 0] 24)) fun w28 hv => ?_
  rw [← hv]
  have o10 : w25.heap.size < w27.heap.size := ((M.out.1)).lt
  replace M := alM hv M
  clear hv
  go_wp2_with fail
  refine (read_1).mono ?_
  rintro e w29 ⟨rfl, hb⟩
  replace M := gnM hb M
  clear hb
  go_upto_region 10 with fail
  refine nmW (w29.alloc (.cells #[.int .i64 0, .slice none 0 0] 24)) fun w30 hv => ?_
  rw [← hv]
  have o11 : w27.heap.size < w29.heap.size := ((M.out.1)).lt
  replace M := alM hv M
  clear hv
  go_wp2_with fail
  refine (read_2).mono ?_
  rintro e w31 ⟨rfl, hb⟩
  replace M := gnM hb M
  clear hb
  go_upto_region 11 with fail
  refine nmW (w31.alloc (.cells #[.int .i64 0, .slice none 0 0] 24)) fun w32 hv => ?_
  rw [← hv]
  have o12 : w29.heap.size < w31.heap.size := ((M.out.1)).lt
  replace M := alM hv M
  clear hv
  go_upto_region 12 with fail
  refine nmW ((w32.alloc (.cells #[.int .i64 0, .int .i64 0, .int .i64 0, .int .i64 8] 3)).alloc (.cells #[.int .i64 1, .slice (some ⟨w32.heap.size, 0, none⟩) 4 4] 24)) fun w33 hv => ?_
  rw [← hv]
  have o13 : w31.heap.size < w32.heap.size := ((M.out.1)).lt
  replace M := al2W hv M
  clear hv
  obtain ⟨aa, ab, ac, ad⟩ := (M.out.1).c2
  go_wp2_with fail
  clear aa ab ac ad
  refine (int_two (J1 M).1).mono ?_
  rintro e w34 ⟨rfl, hb⟩
  replace M := gnM hb M
  clear hb
  obtain ⟨aa, ab, ac, ad⟩ := (M.out.1).c2
  go_wp2_with fail
  clear aa ab ac ad
  refine (neg_two (G := G) (J1 M).1).mono ?_
  rintro e w35 ⟨a_74, c_75, rfl, hd76, hb⟩
  replace M := adM hd76 hb M
  clear hb hd76
  go_wp2_with fail
  refine (bigInt_is (G := G) (x := (-9223372036854775808)) (M.out.1) (Sz.mono (show Sz (-9223372036854775808) 4 from by unfold Sz; decide) (by omega)) (by omega)).mono ?_
  rintro e w36 ⟨rfl, hb⟩
  replace M := gnM hb M
  clear hb
  obtain ⟨ae, af, ag, ah⟩ := (J36 M).1.c2
  have z0 : w1.heap.size < w36.heap.size := (J36 M).1.lt
  go_wp2_with fail
  clear ae af ag ah z0
  refine nmW (w36.alloc (.cells #[.int .i64 1, .int .i64 1] 3)) fun w37 hv => ?_
  rw [← hv]
  have o15 : w32.heap.size + 1 < w36.heap.size := ((J1 M).1).lt
  replace M := alM hv M
  clear hv
  refine (same_lit (J38 M).1 (M.out.1)).mono ?_
  rintro e w38 ⟨rfl, hb⟩
  replace M := gnM hb M
  clear hb
  obtain ⟨ai, aj, ak, al⟩ := (J33 M).1.c2
  go_wp2_with fail
  clear ai aj ak al
  refine (bigText_lit (G := G) (x := z12) (s := ({data := #[45, 57, 57, 57, 57, 57, 57, 57, 57, 57, 57, 56, 48, 48, 48, 48, 48, 48, 48, 48, 48, 48, 49]})) (J34 M).1 (Sz.mono Sz12.out (by omega)) (HT.out.keep (J39 M)) (by rw [Ez12.out]; exact text_p)).mono ?_
  rintro e w39 ⟨rfl, hb⟩
  replace M := gnM hb M
  clear hb
  obtain ⟨am, ao, ap, aq⟩ := (J28 M).1.c2
  obtain ⟨ar, au, av, aw⟩ := (J27 M).1.c2
  go_wp2_with fail
  clear am ao ap aq ar au av aw
  refine (pair_ok (G := G) (x := z24) (y := z25) (q := (-4)) (r := 1) (J29 M).1 (J30 M).1 (Sz.mono Sz24.out (by omega)) (Sz.mono Sz25.out (by omega)) (by rw [Ez24.out]; decide) (by rw [Ez25.out]; decide) (by omega) (by omega)).mono ?_
  rintro e w40 ⟨rfl, hb⟩
  replace M := gnM hb M
  clear hb
  obtain ⟨ax, ay, az, ba⟩ := (J22 M).1.c2
  obtain ⟨bb, bc, bd, bf⟩ := (J21 M).1.c2
  go_wp2_with fail
  clear ax ay az ba bb bc bd bf
  refine (pair_ok (G := G) (x := z38) (y := z39) (q := (-4)) (r := (-1)) (J23 M).1 (J24 M).1 (Sz.mono Sz38.out (by omega)) (Sz.mono Sz39.out (by omega)) (by rw [Ez38.out]; decide) (by rw [Ez39.out]; decide) (by omega) (by omega)).mono ?_
  rintro e w41 ⟨rfl, hb⟩
  replace M := gnM hb M
  clear hb
  obtain ⟨bg, bh, bi, bj⟩ := (J16 M).1.c2
  obtain ⟨bk, bl, bm, bn⟩ := (J15 M).1.c2
  go_wp2_with fail
  clear bg bh bi bj bk bl bm bn
  refine (pair_ok (G := G) (x := z52) (y := z53) (q := 3) (r := (-1)) (J17 M).1 (J18 M).1 (Sz.mono Sz52.out (by omega)) (Sz.mono Sz53.out (by omega)) (by rw [Ez52.out]; decide) (by rw [Ez53.out]; decide) (by omega) (by omega)).mono ?_
  rintro e w42 ⟨rfl, hb⟩
  replace M := gnM hb M
  clear hb
  go_wp2_with fail
  refine nmW w42.drew fun w43 hv => ?_
  replace M := drM hv M
  refine wp_region_held_drew (S := (fun w' => w'.cell? ⟨w21.heap.size, 0, none⟩ = some (.int .i64 (sg 6)) ∧ w'.cell? ⟨w21.heap.size, 1, none⟩ = some (.slice a_62 (ln 6) c_63) ∧ w'.cell? ⟨w25.heap.size, 0, none⟩ = some (.int .i64 (sg 5)) ∧ w'.cell? ⟨w25.heap.size, 1, none⟩ = some (.slice a_71 (ln 5) c_72))) (by kernel_rfl) (by rw [← hv]; exact ((J11 M).1.t2 ((J7 M).1.d2))) (fun hH83 => ?_)
  rw [← hv] at hH83 ⊢
  clear hv
  refine tk at0 ?_
  refine tk at1 ?_
  refine tk at2 ?_
  refine tk at3 ?_
  refine tk at4 ?_
  refine tk at5 ?_
  refine tk at6 ?_
  refine wpAnyH_ready (rs := [7]) (by kernel_rfl) (by simp) ?_
  refine AllReadyH.cons at7 (fun K hK => ?_) AllReadyH.nil
  go_simp
  refine (bigOf_ok (G := G) 6 _ (by omega)).mono ?_
  rintro e w44 ⟨a_84, c_85, rfl, hd86, hb⟩
  replace M := adM hd86 hb M
  clear hb hd86
  (try go_wp2_with fail)
  refine hK.out _ _ (((J12 M).1.t2 ((J8 M).1.d2))) (fun hH87 => ?_)
  clear hK K hH83
  (try simp only [Act.put, List.setIfInBounds_toArray, List.set_cons_zero, List.set_cons_succ])
  refine wpAnyH_ready (rs := [8]) (by kernel_rfl) (by simp) ?_
  refine AllReadyH.cons at8 (fun K hK => ?_) AllReadyH.nil
  go_simp
  refine (bigSame_is (G := G) (x := 6) (y := 6) (b := true) (J13 M).1 (M.out.1) (Sz.mono (show Sz (6) 1 from by unfold Sz; decide) (by omega)) (Sz.mono (show Sz (6) 1 from by unfold Sz; decide) (by omega)) (eqZ_of (by decide))).mono ?_
  rintro e w45 ⟨rfl, hb⟩
  replace M := gnM hb M
  clear hb
  (try go_wp2_with fail)
  refine hK.out _ _ (((J12 M).1.t2 ((J8 M).1.d2))) (fun hH88 => ?_)
  clear hK K hH87
  (try simp only [Act.put, List.setIfInBounds_toArray, List.set_cons_zero, List.set_cons_succ])
  refine tk at9 ?_
  refine tk at10 ?_
  refine tk at11 ?_
  refine tk at12 ?_
  refine tk at13 ?_
  refine tk at14 ?_
  refine tk at15 ?_
  refine wpAnyH_ready (rs := [16]) (by kernel_rfl) (by simp) ?_
  refine AllReadyH.cons at16 (fun K hK => ?_) AllReadyH.nil
  go_simp
  refine (bigOf_ok (G := G) 5 _ (by omega)).mono ?_
  rintro e w46 ⟨a_89, c_90, rfl, hd91, hb⟩
  replace M := adM hd91 hb M
  clear hb hd91
  (try go_wp2_with fail)
  refine hK.out _ _ (((J13 M).1.t2 ((J9 M).1.d2))) (fun hH92 => ?_)
  clear hK K hH88
  (try simp only [Act.put, List.setIfInBounds_toArray, List.set_cons_zero, List.set_cons_succ])
  refine wpAnyH_ready (rs := [17]) (by kernel_rfl) (by simp) ?_
  refine AllReadyH.cons at17 (fun K hK => ?_) AllReadyH.nil
  go_simp
  refine (bigSame_is (G := G) (x := 5) (y := 5) (b := true) (J10 M).1 (M.out.1) (Sz.mono (show Sz (5) 1 from by unfold Sz; decide) (by omega)) (Sz.mono (show Sz (5) 1 from by unfold Sz; decide) (by omega)) (eqZ_of (by decide))).mono ?_
  rintro e w47 ⟨rfl, hb⟩
  replace M := gnM hb M
  clear hb
  (try go_wp2_with fail)
  refine hK.out _ _ (((J13 M).1.t2 ((J9 M).1.d2))) (fun hH93 => ?_)
  clear hK K hH92
  (try simp only [Act.put, List.setIfInBounds_toArray, List.set_cons_zero, List.set_cons_succ])
  refine tk at18 ?_
  refine tk at19 ?_
  refine tk at20 ?_
  refine tk at21 ?_
  refine tk at22 ?_
  refine tk at23 ?_
  refine tk at24 ?_
  refine tk at25 ?_
  refine tk at26 ?_
  refine tk at27 ?_
  refine tk at28 ?_
  refine tk at29 ?_
  refine tk at30 ?_
  refine tk at31 ?_
  refine tk at32 ?_
  refine tk at33 ?_
  refine tk at34 ?_
  refine tk at35 ?_
  refine tk at36 ?_
  refine tk at37 ?_
  refine tk at38 ?_
  refine tk at39 ?_
  refine tk at40 ?_
  refine tk at41 ?_
  refine tk at42 ?_
  refine wpAnyH_done (by kernel_rfl) ?_ _
  clear hH93
  go_wp2_with fail
  go_ret
  exact ⟨rfl, (M.out.2.2.2.2.2.2.2.2.2.2.2.2.2.2.2.2.2.2.2.2.2.2.2.2.2.2.2.2.2.2.2.2.2.2.2.2.2.2.2.2.2)⟩
end Go.Proofs.YtlinegodpoihoaaGreatDoor
