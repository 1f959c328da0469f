/- The walk of BigDivides: whatever the arguments, it returns true. -/
import Derived.Test.YtlinegodpoihoaaDoorLaw04c
namespace Go.Proofs.YtlinegodpoihoaaDoor
open Go.RowKit Go.Lib
variable {G : Nat}

theorem md_pos {x y : Int} (h : 0 < y) : 0 ≤ md x y ∧ md x y < y := by
  unfold md; rw [Int.fmod_eq_emod_of_nonneg x (by omega)]
  exact ⟨Int.emod_nonneg x (by omega), Int.emod_lt_of_pos x h⟩
theorem md_neg {x y : Int} (h : y < 0) : y < md x y ∧ md x y ≤ 0 := by
  have := md_pos (x := -x) (y := -y) (by omega)
  have e : md (-x) (-y) = -md x y := by unfold md; rw [Int.neg_fmod_neg]
  rw [e] at this; omega
theorem dv_md (x y : Int) : dv x y * y + md x y = x := by
  unfold dv md; rw [Int.mul_comm]; exact Int.mul_fdiv_add_fmod x y
theorem dv_le (x y : Int) : (dv x y).natAbs ≤ x.natAbs := by
  rcases Int.lt_trichotomy y 0 with h | h | h
  · have : dv x y = (-x) / (-y) := by unfold dv; rw [← Int.neg_fdiv_neg, Int.fdiv_eq_ediv_of_nonneg _ (by omega)]
    rw [this]; have := Int.natAbs_ediv_le_natAbs (-x) (-y); omega
  · subst h; unfold dv; rw [Int.fdiv_zero]; omega
  · unfold dv; rw [Int.fdiv_eq_ediv_of_nonneg _ (by omega)]; exact Int.natAbs_ediv_le_natAbs x y
theorem md_le {x y : Int} (h : y ≠ 0) : (md x y).natAbs ≤ y.natAbs := by
  rcases Int.lt_or_gt_of_ne h with h' | h'
  · have := md_neg (x := x) h'; omega
  · have := md_pos (x := x) h'; omega
theorem bigDiv_r {x y q r : Int} {a1 a2 : Option Addr} {c1 c2 : Nat} {w : World} (h1 : BD G w a1 c1 x) (h2 : BD G w a2 c2 y) (hx : Sz x 549755813888) (hy : Sz y 549755813888) (hy0 : y ≠ 0) (hq : dv x y = q) (hr : md x y = r) :
    Calls Tryd.prog 15 #[.agg #[.int .i64 (sg x), .slice a1 (ln x) c1], .agg #[.int .i64 (sg y), .slice a2 (ln y) c2]] w fun e w' => ∃ a c b d, e = .returned (.tuple #[.agg #[.int .i64 (sg q), .slice a (ln q) c], .agg #[.int .i64 (sg r), .slice b (ln r) d], .int .i64 0]) ∧ BD G w' a c q ∧ BD G w' b d r ∧ Below w.heap.size w w' := by
  subst hq hr; exact bigDiv_ok h1 h2 hx hy hy0

set_option maxRecDepth 100000 in
set_option maxHeartbeats 4000000 in
theorem bigDiv_zero {x y : Int} {a1 a2 : Option Addr} {c1 c2 : Nat} {w : World} (h1 : BD G w a1 c1 x) (h2 : BD G w a2 c2 y) (hx : Sz x 549755813888) (hy : Sz y 549755813888) (hy0 : y = 0) :
    Calls Tryd.prog 15 #[.agg #[.int .i64 (sg x), .slice a1 (ln x) c1], .agg #[.int .i64 (sg y), .slice a2 (ln y) c2]] w fun e w' => e = .returned (.tuple #[.agg #[.int .i64 0, .slice none 0 0], .agg #[.int .i64 0, .slice none 0 0], .int .i64 15]) ∧ Below w.heap.size w w' := by
  have e0 : (sg y == 0) = true := by rw [hy0]; rfl
  have HX := Lib.hid hx
  have HY := Lib.hid hy
  have H1 := Lib.hid h1
  have H2 := Lib.hid h2
  clear hx hy h1 h2 hy0
  go_enter Tryd.func15, Tryd.ntmps15
  go_wp2_with fail
  refine (bigRight_ok (z := x) (H1.out.keep (by go_grown)) (HX.out.mono (by omega))).mono ?_
  rintro e w1 ⟨rfl, hb⟩
  have hbx := bx4 w 24 24 24 24 #[.int .i64 (sg x), .slice a1 (ln x) c1] #[.int .i64 (sg y), .slice a2 (ln y) c2] #[.int .i64 0, .slice none 0 0] #[.int .i64 0, .slice none 0 0]
  obtain ⟨k0, k1, k2, k3⟩ := hbx
  have K0 := Lib.hid (k0.keep hb)
  have K1 := Lib.hid (k1.keep hb)
  have K2 := Lib.hid (k2.keep hb)
  have K3 := Lib.hid (k3.keep hb)
  clear k0 k1 k2 k3
  have hb' : Below w.heap.size w w1 := below_call (by go_grown) hb
  have HB := Lib.hid hb'
  replace H2 := Lib.hid (H2.out.keep hb')
  clear hb hb'
  obtain ⟨p1_0, q1_0, p1_1, q1_1⟩ := K1.out.c2
  go_wp2_with fail
  clear p1_0 q1_0 p1_1 q1_1
  refine (bigRight_ok (z := y) H2.out (HY.out.mono (by omega))).mono ?_
  rintro e w2 ⟨rfl, hb⟩
  replace K1 := Lib.hid (K1.out.keep hb)
  replace K2 := Lib.hid (K2.out.keep hb)
  replace K3 := Lib.hid (K3.out.keep hb)
  replace HB := Lib.hid (below_call HB.out hb)
  clear hb
  obtain ⟨p1_0, q1_0, p1_1, q1_1⟩ := K1.out.c2
  obtain ⟨p2_0, q2_0, p2_1, q2_1⟩ := K2.out.c2
  obtain ⟨p3_0, q3_0, p3_1, q3_1⟩ := K3.out.c2
  go_wp2_with fail
  refine bodyPost_ret (results_box2t rfl _ _ (w.heap.size + 1 + 1) (w.heap.size + 1 + 1 + 1) 24 24 _ _ _ _ _ _ rfl ((K2.out.set2 _ _).only (only_setCell (only_setCell (World.grownBy.refl _ _) _) _) (by omega)) Tryd.underlying24 rfl (by kernel_rfl) rfl ((K3.out.only (only_setCell (only_setCell (World.grownBy.refl _ _) _) _) (by omega)).set2 _ _) Tryd.underlying24 rfl (by kernel_rfl)) rfl ?_
  exact ⟨rfl, (((HB.out.setCell (by simp <;> omega) _).setCell (by simp <;> omega) _).setCell (by simp <;> omega) _).setCell (by simp <;> omega) _⟩

set_option maxRecDepth 100000 in
set_option maxHeartbeats 4000000 in
theorem divides_not {sa sb : Int} {la lb : List Int} {a1 a2 : Option Addr} {c1 c2 : Nat} {w : World} (hG : G ≤ w.heap.size) (ht : Tab w) (h1 : RdZ w (.slice a1 la.length c1) la) (h2 : RdZ w (.slice a2 lb.length c2) lb) (hn : (decide ((la.length : Int) ≤ 40) && (decide ((lb.length : Int) ≤ 40) && (rightB sa la && rightB sb lb))) = false) :
    Calls Tryd.prog 6 #[.agg #[.int .i64 sa, .slice a1 la.length c1], .agg #[.int .i64 sb, .slice a2 lb.length c2]] w fun e w' => e = .returned (.bool true) ∧ Below w.heap.size w w' := by
  obtain ⟨fa, hfa⟩ : ∃ b, decide ((la.length : Int) ≤ 40) = b := ⟨_, rfl⟩
  obtain ⟨fb, hfb⟩ : ∃ b, decide ((lb.length : Int) ≤ 40) = b := ⟨_, rfl⟩
  obtain ⟨ra, hra⟩ : ∃ b, rightB sa la = b := ⟨_, rfl⟩
  obtain ⟨rb, hrb⟩ : ∃ b, rightB sb lb = b := ⟨_, rfl⟩
  rw [hfa, hfb, hra, hrb] at hn
  have HFa := Lib.hid hfa; have HFb := Lib.hid hfb; have HRa := Lib.hid hra; have HRb := Lib.hid hrb; have HN := Lib.hid hn
  clear hn hfa hfb hra hrb
  have HT : Hid (Tab w) := ht
  have H1 : Hid (RdZ w (.slice a1 la.length c1) la) := h1
  have H2 : Hid (RdZ w (.slice a2 lb.length c2) lb) := h2
  clear ht h1 h2
  have M : Hid (Below w.heap.size w w) := Below.refl _ _
  go_enter Tryd.func6, Tryd.ntmps6
  go_upto_region 1 with fail
  obtain ⟨w1, hv⟩ : ∃ w_ : World, w_ = ((w.alloc (.cells #[.int .i64 sa, .slice a1 la.length c1] 24)).alloc (.cells #[.int .i64 sb, .slice a2 lb.length c2] 24)) := ⟨_, rfl⟩
  rw [← hv]
  have hbx := bx2 w 24 24 #[.int .i64 sa, .slice a1 la.length c1] #[.int .i64 sb, .slice a2 lb.length c2]
  rw [← hv] at hbx
  have hbn : Below w.heap.size w w1 := by rw [hv]; exact (Below.alloc (Below.alloc (Below.refl _ _) (by simp <;> omega) _) (by simp <;> omega) _)
  replace M := Lib.hid (And.intro hbx.2 (And.intro hbx.1 (Goes.go M.out hbn)))
  clear hbx hbn
  clear hv
  go_wp2_with fail
  refine (small_ok (G := G) (Nat.le_trans hG (M.out.2.2).size) (HT.out.keep (M.out.2.2))).mono ?_
  rintro e w2 ⟨rfl, hb⟩
  replace M := Lib.hid (Goes.go M.out hb)
  clear hb
  obtain ⟨p0_0, q0_0, p0_1, q0_1⟩ := (M.out.2.1).c2
  go_wp2_with fail
  clear p0_0 q0_0 p0_1 q0_1
  refine (bigFew_ok (s := sa) (m := 40) (b := fa) HFa.out).mono ?_
  rintro e w3 ⟨rfl, hb⟩
  replace M := Lib.hid (Goes.go M.out hb)
  clear hb
  cases fa with
  | false =>
    go_wp2_with fail
    go_ret
    exact ⟨rfl, (M.out.2.2)⟩
  | true =>
    obtain ⟨p1_0, q1_0, p1_1, q1_1⟩ := (M.out.1).c2
    go_wp2_with fail
    clear p1_0 q1_0 p1_1 q1_1
    refine (bigFew_ok (s := sb) (m := 40) (b := fb) HFb.out).mono ?_
    rintro e w4 ⟨rfl, hb⟩
    replace M := Lib.hid (Goes.go M.out hb)
    clear hb
    cases fb with
    | false =>
      go_wp2_with fail
      go_ret
      exact ⟨rfl, (M.out.2.2)⟩
    | true =>
      obtain ⟨p0_0, q0_0, p0_1, q0_1⟩ := (M.out.2.1).c2
      go_wp2_with fail
      clear p0_0 q0_0 p0_1 q0_1
      refine (bigRight_len (s := sa) (b := ra) (H1.out.keep (M.out.2.2)) (len_of HFa.out (by decide)) HRa.out).mono ?_
      rintro e w5 ⟨rfl, hb⟩
      replace M := Lib.hid (Goes.go M.out hb)
      clear hb
      cases ra with
      | false =>
        go_wp2_with fail
        go_ret
        exact ⟨rfl, (M.out.2.2)⟩
      | true =>
        obtain ⟨p1_0, q1_0, p1_1, q1_1⟩ := (M.out.1).c2
        go_wp2_with fail
        clear p1_0 q1_0 p1_1 q1_1
        refine (bigRight_len (s := sb) (b := rb) (H2.out.keep (M.out.2.2)) (len_of HFb.out (by decide)) HRb.out).mono ?_
        rintro e w6 ⟨rfl, hb⟩
        replace M := Lib.hid (Goes.go M.out hb)
        clear hb
        cases rb with
        | false =>
          go_wp2_with fail
          go_ret
          exact ⟨rfl, (M.out.2.2)⟩
        | true =>
          go_upto_region 4 with fail
          exact absurd HN.out (by decide)

set_option maxRecDepth 100000 in
set_option maxHeartbeats 4000000 in
theorem divides_zero {x y : Int} {a1 a2 : Option Addr} {c1 c2 : Nat} {w : World} (hG : G ≤ w.heap.size) (ht : Tab w) (h1 : BD G w a1 c1 x) (h2 : BD G w a2 c2 y) (hx : Sz x 40) (hy : Sz y 40) (hy0 : y = 0)  :
    Calls Tryd.prog 6 #[.agg #[.int .i64 (sg x), .slice a1 (ln x) c1], .agg #[.int .i64 (sg y), .slice a2 (ln y) c2]] w fun e w' => e = .returned (.bool true) ∧ Below w.heap.size w w' := by
  have e0 : (sg y == 0) = true := by rw [hy0]; rfl
  have HY0 := Lib.hid hy0; clear hy0
  have HX := Lib.hid hx; have HY := Lib.hid hy
  clear hx hy
  have HT : Hid (Tab w) := ht
  have H1 : Hid (BD G w a1 c1 x) := h1
  have H2 : Hid (BD G w a2 c2 y) := h2
  clear ht h1 h2
  have M : Hid (Below w.heap.size w w) := Below.refl _ _
  go_enter Tryd.func6, Tryd.ntmps6
  go_upto_region 1 with fail
  obtain ⟨w1, hv⟩ : ∃ w_ : World, w_ = ((w.alloc (.cells #[.int .i64 (sg x), .slice a1 (ln x) c1] 24)).alloc (.cells #[.int .i64 (sg y), .slice a2 (ln y) c2] 24)) := ⟨_, rfl⟩
  rw [← hv]
  have hbx := bx2 w 24 24 #[.int .i64 (sg x), .slice a1 (ln x) c1] #[.int .i64 (sg y), .slice a2 (ln y) c2]
  rw [← hv] at hbx
  have hbn : Below w.heap.size w w1 := by rw [hv]; exact (Below.alloc (Below.alloc (Below.refl _ _) (by simp <;> omega) _) (by simp <;> omega) _)
  replace M := Lib.hid (And.intro hbx.2 (And.intro hbx.1 (Goes.go M.out hbn)))
  clear hbx hbn
  clear hv
  go_wp2_with fail
  refine (small_ok (G := G) (Nat.le_trans hG (M.out.2.2).size) (HT.out.keep (M.out.2.2))).mono ?_
  rintro e w2 ⟨rfl, hb⟩
  replace M := Lib.hid (Goes.go M.out hb)
  clear hb
  obtain ⟨p0_0, q0_0, p0_1, q0_1⟩ := (M.out.2.1).c2
  go_wp2_with fail
  clear p0_0 q0_0 p0_1 q0_1
  refine (bigFew_ok (s := (sg x)) (m := 40) (b := true) (few_sz HX.out rfl)).mono ?_
  rintro e w3 ⟨rfl, hb⟩
  replace M := Lib.hid (Goes.go M.out hb)
  clear hb
  obtain ⟨p1_0, q1_0, p1_1, q1_1⟩ := (M.out.1).c2
  go_wp2_with fail
  clear p1_0 q1_0 p1_1 q1_1
  refine (bigFew_ok (s := (sg y)) (m := 40) (b := true) (few_sz HY.out rfl)).mono ?_
  rintro e w4 ⟨rfl, hb⟩
  replace M := Lib.hid (Goes.go M.out hb)
  clear hb
  obtain ⟨p0_0, q0_0, p0_1, q0_1⟩ := (M.out.2.1).c2
  go_wp2_with fail
  clear p0_0 q0_0 p0_1 q0_1
  refine (bigRight_ok (G := G) (z := x) (H1.out.keep (M.out.2.2)) (Sz.mono HX.out (by omega))).mono ?_
  rintro e w5 ⟨rfl, hb⟩
  replace M := Lib.hid (Goes.go M.out hb)
  clear hb
  obtain ⟨p1_0, q1_0, p1_1, q1_1⟩ := (M.out.1).c2
  go_wp2_with fail
  clear p1_0 q1_0 p1_1 q1_1
  refine (bigRight_ok (G := G) (z := y) (H2.out.keep (M.out.2.2)) (Sz.mono HY.out (by omega))).mono ?_
  rintro e w6 ⟨rfl, hb⟩
  replace M := Lib.hid (Goes.go M.out hb)
  clear hb
  obtain ⟨p0_0, q0_0, p0_1, q0_1⟩ := (M.out.2.1).c2
  obtain ⟨p1_0, q1_0, p1_1, q1_1⟩ := (M.out.1).c2
  go_wp2_with fail
  clear p0_0 q0_0 p0_1 q0_1 p1_0 q1_0 p1_1 q1_1
  refine (bigDiv_zero (G := G) (x := x) (y := y) (H1.out.keep (M.out.2.2)) (H2.out.keep (M.out.2.2)) (Sz.mono HX.out (by omega)) (Sz.mono HY.out (by omega)) HY0.out).mono ?_
  rintro e w7 ⟨rfl, hb⟩
  replace M := Lib.hid (Goes.go M.out hb)
  clear hb
  go_upto_region 5 with fail
  obtain ⟨w8, hv⟩ : ∃ w_ : World, w_ = ((w7.alloc (.cells #[.int .i64 0, .slice none 0 0] 24)).alloc (.cells #[.int .i64 0, .slice none 0 0] 24)) := ⟨_, rfl⟩
  rw [← hv]
  have o2 : w.heap.size + 1 < w7.heap.size := ((M.out.1)).lt
  have hbx := bx2 w7 24 24 #[.int .i64 0, .slice none 0 0] #[.int .i64 0, .slice none 0 0]
  rw [← hv] at hbx
  have hbn : Below w7.heap.size w7 w8 := by rw [hv]; exact (Below.alloc (Below.alloc (Below.refl _ _) (by simp <;> omega) _) (by simp <;> omega) _)
  replace M := Lib.hid (And.intro hbx.2 (And.intro hbx.1 (Goes.go M.out hbn)))
  clear hbx hbn
  clear hv
  obtain ⟨p1_0, q1_0, p1_1, q1_1⟩ := (M.out.2.2.1).c2
  obtain ⟨p2_0, q2_0, p2_1, q2_1⟩ := (M.out.2.1).c2
  go_wp2_with fail
  clear p1_0 q1_0 p1_1 q1_1 p2_0 q2_0 p2_1 q2_1
  refine (bigSame_is (G := G) (x := 0) (y := 0) (b := true) (bd_zero _ _ _) (bd_zero _ _ _) (Sz.mono (show Sz (0) 0 from by unfold Sz; decide) (by omega)) (Sz.mono (show Sz (0) 0 from by unfold Sz; decide) (by omega)) (eqZ_of (by grind))).mono ?_
  rintro e w9 ⟨rfl, hb⟩
  replace M := Lib.hid (Goes.go M.out hb)
  clear hb
  obtain ⟨p3_0, q3_0, p3_1, q3_1⟩ := (M.out.1).c2
  go_wp2_with fail
  clear p3_0 q3_0 p3_1 q3_1
  refine (bigSame_is (G := G) (x := 0) (y := 0) (b := true) (bd_zero _ _ _) (bd_zero _ _ _) (Sz.mono (show Sz (0) 0 from by unfold Sz; decide) (by omega)) (Sz.mono (show Sz (0) 0 from by unfold Sz; decide) (by omega)) (eqZ_of (by grind))).mono ?_
  rintro e w10 ⟨rfl, hb⟩
  replace M := Lib.hid (Goes.go M.out hb)
  clear hb
  go_wp2_with fail
  go_ret
  exact ⟨rfl, (M.out.2.2.2.2)⟩

set_option maxRecDepth 100000 in
set_option maxHeartbeats 4000000 in
theorem divides_pos {x y : Int} {a1 a2 : Option Addr} {c1 c2 : Nat} {w : World} (hG : G ≤ w.heap.size) (ht : Tab w) (h1 : BD G w a1 c1 x) (h2 : BD G w a2 c2 y) (hx : Sz x 40) (hy : Sz y 40) (hys : 0 < y)  :
    Calls Tryd.prog 6 #[.agg #[.int .i64 (sg x), .slice a1 (ln x) c1], .agg #[.int .i64 (sg y), .slice a2 (ln y) c2]] w fun e w' => e = .returned (.bool true) ∧ Below w.heap.size w w' := by
  have hy0 : y ≠ 0 := by omega
  have hmd := md_pos (x := x) hys
  obtain ⟨q, hq⟩ : ∃ q, dv x y = q := ⟨_, rfl⟩
  obtain ⟨r, hr⟩ : ∃ r, md x y = r := ⟨_, rfl⟩
  have hid := dv_md x y
  have HSQ : Hid (Sz q 40) := by show Sz _ _; rw [← hq]; exact hx.le (dv_le _ _)
  have HSR : Hid (Sz r 40) := by show Sz _ _; rw [← hr]; exact hy.le (md_le hy0)
  rw [hq, hr] at hid
  rw [hr] at hmd
  have e0 : (sg y == 0) = false := by rw [beq_eq_false_iff_ne]; intro h; exact hy0 (by have := abs_sg y; rw [h, Int.zero_mul] at this; exact this)
  have e1 : decide (sg y < 0) = false := by rw [sg_pos hys]; rfl
  obtain ⟨b0, hb0⟩ : ∃ b, (sg r == 0) = b := ⟨_, rfl⟩
  obtain ⟨b1, hb1⟩ : ∃ b, (sg r == sg y) = b := ⟨_, rfl⟩
  have HB : Hid (b0 = false → b1 = true) := by
    show _ → _
    intro h
    rw [← hb0, beq_eq_false_iff_ne] at h
    rw [← hb1, beq_iff_eq, sg_pos hys]
    have : r ≠ 0 := fun h0 => h (by rw [h0]; rfl)
    exact sg_pos (by omega)
  have HO : Hid (ord r y = -1) := by show _ = _; unfold ord; rw [if_pos (by omega)]
  have HID := Lib.hid hid
  have HY0 := Lib.hid hy0; have HQ := Lib.hid hq; have HR := Lib.hid hr
  clear hy0 hq hr hmd hys hid
  have HX := Lib.hid hx; have HY := Lib.hid hy
  clear hx hy
  have HT : Hid (Tab w) := ht
  have H1 : Hid (BD G w a1 c1 x) := h1
  have H2 : Hid (BD G w a2 c2 y) := h2
  clear ht h1 h2
  have M : Hid (Below w.heap.size w w) := Below.refl _ _
  go_enter Tryd.func6, Tryd.ntmps6
  go_upto_region 1 with fail
  obtain ⟨w1, hv⟩ : ∃ w_ : World, w_ = ((w.alloc (.cells #[.int .i64 (sg x), .slice a1 (ln x) c1] 24)).alloc (.cells #[.int .i64 (sg y), .slice a2 (ln y) c2] 24)) := ⟨_, rfl⟩
  rw [← hv]
  have hbx := bx2 w 24 24 #[.int .i64 (sg x), .slice a1 (ln x) c1] #[.int .i64 (sg y), .slice a2 (ln y) c2]
  rw [← hv] at hbx
  have hbn : Below w.heap.size w w1 := by rw [hv]; exact (Below.alloc (Below.alloc (Below.refl _ _) (by simp <;> omega) _) (by simp <;> omega) _)
  replace M := Lib.hid (And.intro hbx.2 (And.intro hbx.1 (Goes.go M.out hbn)))
  clear hbx hbn
  clear hv
  go_wp2_with fail
  refine (small_ok (G := G) (Nat.le_trans hG (M.out.2.2).size) (HT.out.keep (M.out.2.2))).mono ?_
  rintro e w2 ⟨rfl, hb⟩
  replace M := Lib.hid (Goes.go M.out hb)
  clear hb
  obtain ⟨p0_0, q0_0, p0_1, q0_1⟩ := (M.out.2.1).c2
  go_wp2_with fail
  clear p0_0 q0_0 p0_1 q0_1
  refine (bigFew_ok (s := (sg x)) (m := 40) (b := true) (few_sz HX.out rfl)).mono ?_
  rintro e w3 ⟨rfl, hb⟩
  replace M := Lib.hid (Goes.go M.out hb)
  clear hb
  obtain ⟨p1_0, q1_0, p1_1, q1_1⟩ := (M.out.1).c2
  go_wp2_with fail
  clear p1_0 q1_0 p1_1 q1_1
  refine (bigFew_ok (s := (sg y)) (m := 40) (b := true) (few_sz HY.out rfl)).mono ?_
  rintro e w4 ⟨rfl, hb⟩
  replace M := Lib.hid (Goes.go M.out hb)
  clear hb
  obtain ⟨p0_0, q0_0, p0_1, q0_1⟩ := (M.out.2.1).c2
  go_wp2_with fail
  clear p0_0 q0_0 p0_1 q0_1
  refine (bigRight_ok (G := G) (z := x) (H1.out.keep (M.out.2.2)) (Sz.mono HX.out (by omega))).mono ?_
  rintro e w5 ⟨rfl, hb⟩
  replace M := Lib.hid (Goes.go M.out hb)
  clear hb
  obtain ⟨p1_0, q1_0, p1_1, q1_1⟩ := (M.out.1).c2
  go_wp2_with fail
  clear p1_0 q1_0 p1_1 q1_1
  refine (bigRight_ok (G := G) (z := y) (H2.out.keep (M.out.2.2)) (Sz.mono HY.out (by omega))).mono ?_
  rintro e w6 ⟨rfl, hb⟩
  replace M := Lib.hid (Goes.go M.out hb)
  clear hb
  obtain ⟨p0_0, q0_0, p0_1, q0_1⟩ := (M.out.2.1).c2
  obtain ⟨p1_0, q1_0, p1_1, q1_1⟩ := (M.out.1).c2
  go_wp2_with fail
  clear p0_0 q0_0 p0_1 q0_1 p1_0 q1_0 p1_1 q1_1
  refine (bigDiv_r (G := G) (x := x) (y := y) (q := q) (r := r) (H1.out.keep (M.out.2.2)) (H2.out.keep (M.out.2.2)) (Sz.mono HX.out (by omega)) (Sz.mono HY.out (by omega)) HY0.out HQ.out HR.out).mono ?_
  rintro e w7 ⟨a_1, c_2, b_3, d_4, rfl, hd5, hd6, hb⟩
  replace M := Lib.hid (And.intro hd5 (And.intro hd6 (Goes.go M.out hb)))
  clear hb hd5 hd6
  go_upto_region 5 with fail
  obtain ⟨w8, hv⟩ : ∃ w_ : World, w_ = ((w7.alloc (.cells #[.int .i64 (sg q), .slice a_1 (ln q) c_2] 24)).alloc (.cells #[.int .i64 (sg r), .slice b_3 (ln r) d_4] 24)) := ⟨_, rfl⟩
  rw [← hv]
  have o2 : w.heap.size + 1 < w7.heap.size := ((M.out.2.2.1)).lt
  have hbx := bx2 w7 24 24 #[.int .i64 (sg q), .slice a_1 (ln q) c_2] #[.int .i64 (sg r), .slice b_3 (ln r) d_4]
  rw [← hv] at hbx
  have hbn : Below w7.heap.size w7 w8 := by rw [hv]; exact (Below.alloc (Below.alloc (Below.refl _ _) (by simp <;> omega) _) (by simp <;> omega) _)
  replace M := Lib.hid (And.intro hbx.2 (And.intro hbx.1 (Goes.go M.out hbn)))
  clear hbx hbn
  clear hv
  obtain ⟨p1_0, q1_0, p1_1, q1_1⟩ := (M.out.2.2.2.2.1).c2
  obtain ⟨p2_0, q2_0, p2_1, q2_1⟩ := (M.out.2.1).c2
  go_wp2_with fail
  clear p1_0 q1_0 p1_1 q1_1 p2_0 q2_0 p2_1 q2_1
  obtain ⟨z9, ez9⟩ : ∃ v_ : Int, v_ = (q * y) := ⟨_, rfl⟩
  refine (bigMul_ok (G := G) (x := q) (y := y) (M.out.2.2.1) (H2.out.keep (M.out.2.2.2.2.2.2)) (Sz.mono HSQ.out (by omega)) (Sz.mono HY.out (by omega))).mono ?_
  rintro e w9 ⟨a_7, c_8, rfl, hd10, hb⟩
  rw [← ez9] at hd10 ⊢
  have Sz9 : Hid (Sz z9 80) := by show Sz z9 80; rw [ez9]; exact (Sz.mul HSQ.out HY.out)
  have Ez9 := Lib.hid ez9; clear ez9
  replace M := Lib.hid (And.intro hd10 (Goes.go M.out hb))
  clear hb hd10
  go_upto_region 8 with fail
  obtain ⟨w10, hv⟩ : ∃ w_ : World, w_ = (w9.alloc (.cells #[.int .i64 (sg z9), .slice a_7 (ln z9) c_8] 24)) := ⟨_, rfl⟩
  rw [← hv]
  have o4 : w7.heap.size + 1 < w9.heap.size := ((M.out.2.1)).lt
  replace M := Lib.hid (And.intro (hv ▸ bx1 w9 24 #[.int .i64 (sg z9), .slice a_7 (ln z9) c_8]) (Goes.go M.out (hv ▸ below_alloc _ _ : Below w9.heap.size w9 w10)))
  clear hv
  obtain ⟨p4_0, q4_0, p4_1, q4_1⟩ := (M.out.1).c2
  obtain ⟨p3_0, q3_0, p3_1, q3_1⟩ := (M.out.2.2.1).c2
  go_wp2_with fail
  clear p4_0 q4_0 p4_1 q4_1 p3_0 q3_0 p3_1 q3_1
  obtain ⟨z13, ez13⟩ : ∃ v_ : Int, v_ = (z9 + r) := ⟨_, rfl⟩
  refine (bigAdd_ok (G := G) (x := z9) (y := r) (M.out.2.1) (M.out.2.2.2.2.2.1) (Sz.mono Sz9.out (by omega)) (Sz.mono HSR.out (by omega))).mono ?_
  rintro e w11 ⟨a_11, c_12, rfl, hd14, hb⟩
  rw [← ez13] at hd14 ⊢
  have Sz13 : Hid (Sz z13 81) := by show Sz z13 81; rw [ez13]; exact (Sz.add Sz9.out (Sz.mono HSR.out (by omega)))
  have Ez13 := Lib.hid ez13; clear ez13
  replace M := Lib.hid (And.intro hd14 (Goes.go M.out hb))
  clear hb hd14
  go_upto_region 9 with fail
  obtain ⟨w12, hv⟩ : ∃ w_ : World, w_ = (w11.alloc (.cells #[.int .i64 (sg z13), .slice a_11 (ln z13) c_12] 24)) := ⟨_, rfl⟩
  rw [← hv]
  have o5 : w9.heap.size < w11.heap.size := ((M.out.2.1)).lt
  replace M := Lib.hid (And.intro (hv ▸ bx1 w11 24 #[.int .i64 (sg z13), .slice a_11 (ln z13) c_12]) (Goes.go M.out (hv ▸ below_alloc _ _ : Below w11.heap.size w11 w12)))
  clear hv
  obtain ⟨p2_0, q2_0, p2_1, q2_1⟩ := (M.out.2.2.2.2.2.1).c2
  go_wp2_with fail
  clear p2_0 q2_0 p2_1 q2_1
  refine (bigRight_ok (G := G) (z := q) (M.out.2.2.2.2.2.2.1) (Sz.mono HSQ.out (by omega))).mono ?_
  rintro e w13 ⟨rfl, hb⟩
  replace M := Lib.hid (Goes.go M.out hb)
  clear hb
  obtain ⟨p3_0, q3_0, p3_1, q3_1⟩ := (M.out.2.2.2.2.1).c2
  go_wp2_with fail
  clear p3_0 q3_0 p3_1 q3_1
  replace M := Lib.hid (And.intro (M.out.1) (And.intro (M.out.2.1) (And.intro (M.out.2.2.2.2.1) (And.intro (M.out.2.2.2.2.2.2.2.1) (And.intro (M.out.2.2.2.2.2.2.2.2.1) (And.intro (M.out.2.2.2.2.2.2.2.2.2.1) (M.out.2.2.2.2.2.2.2.2.2.2)))))))
  refine (bigRight_ok (G := G) (z := r) (M.out.2.2.2.1) (Sz.mono HSR.out (by omega))).mono ?_
  rintro e w14 ⟨rfl, hb⟩
  replace M := Lib.hid (Goes.go M.out hb)
  clear hb
  obtain ⟨p5_0, q5_0, p5_1, q5_1⟩ := (M.out.1).c2
  obtain ⟨p0_0, q0_0, p0_1, q0_1⟩ := (M.out.2.2.2.2.2.1).c2
  go_wp2_with fail
  clear p5_0 q5_0 p5_1 q5_1 p0_0 q0_0 p0_1 q0_1
  refine (bigSame_is (G := G) (x := z13) (y := x) (b := true) (M.out.2.1) (H1.out.keep (M.out.2.2.2.2.2.2)) (Sz.mono Sz13.out (by omega)) (Sz.mono HX.out (by omega)) (eqZ_of (by rw [Ez13.out, Ez9.out]; exact HID.out))).mono ?_
  rintro e w15 ⟨rfl, hb⟩
  replace M := Lib.hid (Goes.go M.out hb)
  clear hb
  obtain ⟨p3_0, q3_0, p3_1, q3_1⟩ := (M.out.2.2.1).c2
  obtain ⟨p1_0, q1_0, p1_1, q1_1⟩ := (M.out.2.2.2.2.1).c2
  go_wp2_with fail
  clear p3_0 q3_0 p3_1 q3_1 p1_0 q1_0 p1_1 q1_1
  refine (bigCompare_is (G := G) (x := r) (y := y) (k := (-1)) (M.out.2.2.2.1) (H2.out.keep (M.out.2.2.2.2.2.2)) (Sz.mono HSR.out (by omega)) (Sz.mono HY.out (by omega)) HO.out).mono ?_
  rintro e w16 ⟨rfl, hb⟩
  replace M := Lib.hid (Goes.go M.out hb)
  clear hb
  cases b0 with
  | false =>
    cases b1 with
    | false =>
      obtain ⟨p1_0, q1_0, p1_1, q1_1⟩ := (M.out.2.2.2.2.1).c2
      obtain ⟨p3_0, q3_0, p3_1, q3_1⟩ := (M.out.2.2.1).c2
      go_wp2_with fail
      clear p1_0 q1_0 p1_1 q1_1 p3_0 q3_0 p3_1 q3_1
      go_ret
      exact ⟨ret_bool (HB.out (by trivial)), (M.out.2.2.2.2.2.2)⟩
    | true =>
      obtain ⟨p1_0, q1_0, p1_1, q1_1⟩ := (M.out.2.2.2.2.1).c2
      obtain ⟨p3_0, q3_0, p3_1, q3_1⟩ := (M.out.2.2.1).c2
      go_wp2_with fail
      clear p1_0 q1_0 p1_1 q1_1 p3_0 q3_0 p3_1 q3_1
      go_ret
      exact ⟨rfl, (M.out.2.2.2.2.2.2)⟩
  | true =>
    obtain ⟨p1_0, q1_0, p1_1, q1_1⟩ := (M.out.2.2.2.2.1).c2
    obtain ⟨p3_0, q3_0, p3_1, q3_1⟩ := (M.out.2.2.1).c2
    go_wp2_with fail
    clear p1_0 q1_0 p1_1 q1_1 p3_0 q3_0 p3_1 q3_1
    go_ret
    exact ⟨rfl, (M.out.2.2.2.2.2.2)⟩

set_option maxRecDepth 100000 in
set_option maxHeartbeats 4000000 in
theorem divides_neg {x y : Int} {a1 a2 : Option Addr} {c1 c2 : Nat} {w : World} (hG : G ≤ w.heap.size) (ht : Tab w) (h1 : BD G w a1 c1 x) (h2 : BD G w a2 c2 y) (hx : Sz x 40) (hy : Sz y 40) (hys : y < 0)  :
    Calls Tryd.prog 6 #[.agg #[.int .i64 (sg x), .slice a1 (ln x) c1], .agg #[.int .i64 (sg y), .slice a2 (ln y) c2]] w fun e w' => e = .returned (.bool true) ∧ Below w.heap.size w w' := by
  have hy0 : y ≠ 0 := by omega
  have hmd := md_neg (x := x) hys
  obtain ⟨q, hq⟩ : ∃ q, dv x y = q := ⟨_, rfl⟩
  obtain ⟨r, hr⟩ : ∃ r, md x y = r := ⟨_, rfl⟩
  have hid := dv_md x y
  have HSQ : Hid (Sz q 40) := by show Sz _ _; rw [← hq]; exact hx.le (dv_le _ _)
  have HSR : Hid (Sz r 40) := by show Sz _ _; rw [← hr]; exact hy.le (md_le hy0)
  rw [hq, hr] at hid
  rw [hr] at hmd
  have e0 : (sg y == 0) = false := by rw [beq_eq_false_iff_ne]; intro h; exact hy0 (by have := abs_sg y; rw [h, Int.zero_mul] at this; exact this)
  have e1 : decide (sg y < 0) = true := by rw [sg_neg hys]; rfl
  obtain ⟨b0, hb0⟩ : ∃ b, (sg r == 0) = b := ⟨_, rfl⟩
  obtain ⟨b1, hb1⟩ : ∃ b, (sg r == sg y) = b := ⟨_, rfl⟩
  have HB : Hid (b0 = false → b1 = true) := by
    show _ → _
    intro h
    rw [← hb0, beq_eq_false_iff_ne] at h
    rw [← hb1, beq_iff_eq, sg_neg hys]
    have : r ≠ 0 := fun h0 => h (by rw [h0]; rfl)
    exact sg_neg (by omega)
  have HO : Hid (ord r y = 1) := by show _ = _; unfold ord; rw [if_neg (by omega), if_pos (by omega)]
  have HID := Lib.hid hid
  have HY0 := Lib.hid hy0; have HQ := Lib.hid hq; have HR := Lib.hid hr
  clear hy0 hq hr hmd hys hid
  have HX := Lib.hid hx; have HY := Lib.hid hy
  clear hx hy
  have HT : Hid (Tab w) := ht
  have H1 : Hid (BD G w a1 c1 x) := h1
  have H2 : Hid (BD G w a2 c2 y) := h2
  clear ht h1 h2
  have M : Hid (Below w.heap.size w w) := Below.refl _ _
  go_enter Tryd.func6, Tryd.ntmps6
  go_upto_region 1 with fail
  obtain ⟨w1, hv⟩ : ∃ w_ : World, w_ = ((w.alloc (.cells #[.int .i64 (sg x), .slice a1 (ln x) c1] 24)).alloc (.cells #[.int .i64 (sg y), .slice a2 (ln y) c2] 24)) := ⟨_, rfl⟩
  rw [← hv]
  have hbx := bx2 w 24 24 #[.int .i64 (sg x), .slice a1 (ln x) c1] #[.int .i64 (sg y), .slice a2 (ln y) c2]
  rw [← hv] at hbx
  have hbn : Below w.heap.size w w1 := by rw [hv]; exact (Below.alloc (Below.alloc (Below.refl _ _) (by simp <;> omega) _) (by simp <;> omega) _)
  replace M := Lib.hid (And.intro hbx.2 (And.intro hbx.1 (Goes.go M.out hbn)))
  clear hbx hbn
  clear hv
  go_wp2_with fail
  refine (small_ok (G := G) (Nat.le_trans hG (M.out.2.2).size) (HT.out.keep (M.out.2.2))).mono ?_
  rintro e w2 ⟨rfl, hb⟩
  replace M := Lib.hid (Goes.go M.out hb)
  clear hb
  obtain ⟨p0_0, q0_0, p0_1, q0_1⟩ := (M.out.2.1).c2
  go_wp2_with fail
  clear p0_0 q0_0 p0_1 q0_1
  refine (bigFew_ok (s := (sg x)) (m := 40) (b := true) (few_sz HX.out rfl)).mono ?_
  rintro e w3 ⟨rfl, hb⟩
  replace M := Lib.hid (Goes.go M.out hb)
  clear hb
  obtain ⟨p1_0, q1_0, p1_1, q1_1⟩ := (M.out.1).c2
  go_wp2_with fail
  clear p1_0 q1_0 p1_1 q1_1
  refine (bigFew_ok (s := (sg y)) (m := 40) (b := true) (few_sz HY.out rfl)).mono ?_
  rintro e w4 ⟨rfl, hb⟩
  replace M := Lib.hid (Goes.go M.out hb)
  clear hb
  obtain ⟨p0_0, q0_0, p0_1, q0_1⟩ := (M.out.2.1).c2
  go_wp2_with fail
  clear p0_0 q0_0 p0_1 q0_1
  refine (bigRight_ok (G := G) (z := x) (H1.out.keep (M.out.2.2)) (Sz.mono HX.out (by omega))).mono ?_
  rintro e w5 ⟨rfl, hb⟩
  replace M := Lib.hid (Goes.go M.out hb)
  clear hb
  obtain ⟨p1_0, q1_0, p1_1, q1_1⟩ := (M.out.1).c2
  go_wp2_with fail
  clear p1_0 q1_0 p1_1 q1_1
  refine (bigRight_ok (G := G) (z := y) (H2.out.keep (M.out.2.2)) (Sz.mono HY.out (by omega))).mono ?_
  rintro e w6 ⟨rfl, hb⟩
  replace M := Lib.hid (Goes.go M.out hb)
  clear hb
  obtain ⟨p0_0, q0_0, p0_1, q0_1⟩ := (M.out.2.1).c2
  obtain ⟨p1_0, q1_0, p1_1, q1_1⟩ := (M.out.1).c2
  go_wp2_with fail
  clear p0_0 q0_0 p0_1 q0_1 p1_0 q1_0 p1_1 q1_1
  refine (bigDiv_r (G := G) (x := x) (y := y) (q := q) (r := r) (H1.out.keep (M.out.2.2)) (H2.out.keep (M.out.2.2)) (Sz.mono HX.out (by omega)) (Sz.mono HY.out (by omega)) HY0.out HQ.out HR.out).mono ?_
  rintro e w7 ⟨a_1, c_2, b_3, d_4, rfl, hd5, hd6, hb⟩
  replace M := Lib.hid (And.intro hd5 (And.intro hd6 (Goes.go M.out hb)))
  clear hb hd5 hd6
  go_upto_region 5 with fail
  obtain ⟨w8, hv⟩ : ∃ w_ : World, w_ = ((w7.alloc (.cells #[.int .i64 (sg q), .slice a_1 (ln q) c_2] 24)).alloc (.cells #[.int .i64 (sg r), .slice b_3 (ln r) d_4] 24)) := ⟨_, rfl⟩
  rw [← hv]
  have o2 : w.heap.size + 1 < w7.heap.size := ((M.out.2.2.1)).lt
  have hbx := bx2 w7 24 24 #[.int .i64 (sg q), .slice a_1 (ln q) c_2] #[.int .i64 (sg r), .slice b_3 (ln r) d_4]
  rw [← hv] at hbx
  have hbn : Below w7.heap.size w7 w8 := by rw [hv]; exact (Below.alloc (Below.alloc (Below.refl _ _) (by simp <;> omega) _) (by simp <;> omega) _)
  replace M := Lib.hid (And.intro hbx.2 (And.intro hbx.1 (Goes.go M.out hbn)))
  clear hbx hbn
  clear hv
  obtain ⟨p1_0, q1_0, p1_1, q1_1⟩ := (M.out.2.2.2.2.1).c2
  obtain ⟨p2_0, q2_0, p2_1, q2_1⟩ := (M.out.2.1).c2
  go_wp2_with fail
  clear p1_0 q1_0 p1_1 q1_1 p2_0 q2_0 p2_1 q2_1
  obtain ⟨z9, ez9⟩ : ∃ v_ : Int, v_ = (q * y) := ⟨_, rfl⟩
  refine (bigMul_ok (G := G) (x := q) (y := y) (M.out.2.2.1) (H2.out.keep (M.out.2.2.2.2.2.2)) (Sz.mono HSQ.out (by omega)) (Sz.mono HY.out (by omega))).mono ?_
  rintro e w9 ⟨a_7, c_8, rfl, hd10, hb⟩
  rw [← ez9] at hd10 ⊢
  have Sz9 : Hid (Sz z9 80) := by show Sz z9 80; rw [ez9]; exact (Sz.mul HSQ.out HY.out)
  have Ez9 := Lib.hid ez9; clear ez9
  replace M := Lib.hid (And.intro hd10 (Goes.go M.out hb))
  clear hb hd10
  go_upto_region 8 with fail
  obtain ⟨w10, hv⟩ : ∃ w_ : World, w_ = (w9.alloc (.cells #[.int .i64 (sg z9), .slice a_7 (ln z9) c_8] 24)) := ⟨_, rfl⟩
  rw [← hv]
  have o4 : w7.heap.size + 1 < w9.heap.size := ((M.out.2.1)).lt
  replace M := Lib.hid (And.intro (hv ▸ bx1 w9 24 #[.int .i64 (sg z9), .slice a_7 (ln z9) c_8]) (Goes.go M.out (hv ▸ below_alloc _ _ : Below w9.heap.size w9 w10)))
  clear hv
  obtain ⟨p4_0, q4_0, p4_1, q4_1⟩ := (M.out.1).c2
  obtain ⟨p3_0, q3_0, p3_1, q3_1⟩ := (M.out.2.2.1).c2
  go_wp2_with fail
  clear p4_0 q4_0 p4_1 q4_1 p3_0 q3_0 p3_1 q3_1
  obtain ⟨z13, ez13⟩ : ∃ v_ : Int, v_ = (z9 + r) := ⟨_, rfl⟩
  refine (bigAdd_ok (G := G) (x := z9) (y := r) (M.out.2.1) (M.out.2.2.2.2.2.1) (Sz.mono Sz9.out (by omega)) (Sz.mono HSR.out (by omega))).mono ?_
  rintro e w11 ⟨a_11, c_12, rfl, hd14, hb⟩
  rw [← ez13] at hd14 ⊢
  have Sz13 : Hid (Sz z13 81) := by show Sz z13 81; rw [ez13]; exact (Sz.add Sz9.out (Sz.mono HSR.out (by omega)))
  have Ez13 := Lib.hid ez13; clear ez13
  replace M := Lib.hid (And.intro hd14 (Goes.go M.out hb))
  clear hb hd14
  go_upto_region 9 with fail
  obtain ⟨w12, hv⟩ : ∃ w_ : World, w_ = (w11.alloc (.cells #[.int .i64 (sg z13), .slice a_11 (ln z13) c_12] 24)) := ⟨_, rfl⟩
  rw [← hv]
  have o5 : w9.heap.size < w11.heap.size := ((M.out.2.1)).lt
  replace M := Lib.hid (And.intro (hv ▸ bx1 w11 24 #[.int .i64 (sg z13), .slice a_11 (ln z13) c_12]) (Goes.go M.out (hv ▸ below_alloc _ _ : Below w11.heap.size w11 w12)))
  clear hv
  obtain ⟨p2_0, q2_0, p2_1, q2_1⟩ := (M.out.2.2.2.2.2.1).c2
  go_wp2_with fail
  clear p2_0 q2_0 p2_1 q2_1
  refine (bigRight_ok (G := G) (z := q) (M.out.2.2.2.2.2.2.1) (Sz.mono HSQ.out (by omega))).mono ?_
  rintro e w13 ⟨rfl, hb⟩
  replace M := Lib.hid (Goes.go M.out hb)
  clear hb
  obtain ⟨p3_0, q3_0, p3_1, q3_1⟩ := (M.out.2.2.2.2.1).c2
  go_wp2_with fail
  clear p3_0 q3_0 p3_1 q3_1
  replace M := Lib.hid (And.intro (M.out.1) (And.intro (M.out.2.1) (And.intro (M.out.2.2.2.2.1) (And.intro (M.out.2.2.2.2.2.2.2.1) (And.intro (M.out.2.2.2.2.2.2.2.2.1) (And.intro (M.out.2.2.2.2.2.2.2.2.2.1) (M.out.2.2.2.2.2.2.2.2.2.2)))))))
  refine (bigRight_ok (G := G) (z := r) (M.out.2.2.2.1) (Sz.mono HSR.out (by omega))).mono ?_
  rintro e w14 ⟨rfl, hb⟩
  replace M := Lib.hid (Goes.go M.out hb)
  clear hb
  obtain ⟨p5_0, q5_0, p5_1, q5_1⟩ := (M.out.1).c2
  obtain ⟨p0_0, q0_0, p0_1, q0_1⟩ := (M.out.2.2.2.2.2.1).c2
  go_wp2_with fail
  clear p5_0 q5_0 p5_1 q5_1 p0_0 q0_0 p0_1 q0_1
  refine (bigSame_is (G := G) (x := z13) (y := x) (b := true) (M.out.2.1) (H1.out.keep (M.out.2.2.2.2.2.2)) (Sz.mono Sz13.out (by omega)) (Sz.mono HX.out (by omega)) (eqZ_of (by rw [Ez13.out, Ez9.out]; exact HID.out))).mono ?_
  rintro e w15 ⟨rfl, hb⟩
  replace M := Lib.hid (Goes.go M.out hb)
  clear hb
  obtain ⟨p3_0, q3_0, p3_1, q3_1⟩ := (M.out.2.2.1).c2
  obtain ⟨p1_0, q1_0, p1_1, q1_1⟩ := (M.out.2.2.2.2.1).c2
  go_wp2_with fail
  clear p3_0 q3_0 p3_1 q3_1 p1_0 q1_0 p1_1 q1_1
  refine (bigCompare_is (G := G) (x := r) (y := y) (k := 1) (M.out.2.2.2.1) (H2.out.keep (M.out.2.2.2.2.2.2)) (Sz.mono HSR.out (by omega)) (Sz.mono HY.out (by omega)) HO.out).mono ?_
  rintro e w16 ⟨rfl, hb⟩
  replace M := Lib.hid (Goes.go M.out hb)
  clear hb
  obtain ⟨p1_0, q1_0, p1_1, q1_1⟩ := (M.out.2.2.2.2.1).c2
  obtain ⟨p3_0, q3_0, p3_1, q3_1⟩ := (M.out.2.2.1).c2
  go_wp2_with fail
  clear p1_0 q1_0 p1_1 q1_1 p3_0 q3_0 p3_1 q3_1
  refine (bigCompare_is (G := G) (x := r) (y := y) (k := 1) (M.out.2.2.2.1) (H2.out.keep (M.out.2.2.2.2.2.2)) (Sz.mono HSR.out (by omega)) (Sz.mono HY.out (by omega)) HO.out).mono ?_
  rintro e w17 ⟨rfl, hb⟩
  replace M := Lib.hid (Goes.go M.out hb)
  clear hb
  cases b0 with
  | false =>
    cases b1 with
    | false =>
      obtain ⟨p3_0, q3_0, p3_1, q3_1⟩ := (M.out.2.2.1).c2
      obtain ⟨p1_0, q1_0, p1_1, q1_1⟩ := (M.out.2.2.2.2.1).c2
      go_wp2_with fail
      clear p3_0 q3_0 p3_1 q3_1 p1_0 q1_0 p1_1 q1_1
      go_ret
      exact ⟨ret_bool (HB.out (by trivial)), (M.out.2.2.2.2.2.2)⟩
    | true =>
      obtain ⟨p3_0, q3_0, p3_1, q3_1⟩ := (M.out.2.2.1).c2
      obtain ⟨p1_0, q1_0, p1_1, q1_1⟩ := (M.out.2.2.2.2.1).c2
      go_wp2_with fail
      clear p3_0 q3_0 p3_1 q3_1 p1_0 q1_0 p1_1 q1_1
      go_ret
      exact ⟨rfl, (M.out.2.2.2.2.2.2)⟩
  | true =>
    obtain ⟨p3_0, q3_0, p3_1, q3_1⟩ := (M.out.2.2.1).c2
    go_wp2_with fail
    clear p3_0 q3_0 p3_1 q3_1
    go_ret
    exact ⟨rfl, (M.out.2.2.2.2.2.2)⟩

theorem divides_all {x y : Int} {a1 a2 : Option Addr} {c1 c2 : Nat} {w : World} (hG : G ≤ w.heap.size) (ht : Tab w) (h1 : BD G w a1 c1 x) (h2 : BD G w a2 c2 y) (hx : Sz x 40) (hy : Sz y 40) :
    Calls Tryd.prog 6 #[.agg #[.int .i64 (sg x), .slice a1 (ln x) c1], .agg #[.int .i64 (sg y), .slice a2 (ln y) c2]] w fun e w' => e = .returned (.bool true) ∧ Below w.heap.size w w' := by
  rcases Int.lt_trichotomy y 0 with h | h | h
  · exact divides_neg hG ht h1 h2 hx hy h
  · exact divides_zero hG ht h1 h2 hx hy h
  · exact divides_pos hG ht h1 h2 hx hy h

theorem divides_walk {sa sb : Int} {la lb : List Int} {a1 a2 : Option Addr} {c1 c2 : Nat} {w : World} (ht : Tab w) (h1 : RdZ w (.slice a1 la.length c1) la) (k1 : la.length ≤ c1) (h2 : RdZ w (.slice a2 lb.length c2) lb) (k2 : lb.length ≤ c2) :
    Calls Tryd.prog 6 #[.agg #[.int .i64 sa, .slice a1 la.length c1], .agg #[.int .i64 sb, .slice a2 lb.length c2]] w fun e w' => e = .returned (.bool true) ∧ Below w.heap.size w w' := by
  cases hn : (decide ((la.length : Int) ≤ 40) && (decide ((lb.length : Int) ≤ 40) && (rightB sa la && rightB sb lb))) with
  | false => exact divides_not (G := w.heap.size) (Nat.le_refl _) ht h1 h2 hn
  | true =>
    simp only [Bool.and_eq_true] at hn
    obtain ⟨fa, fb, ra, rb⟩ := hn
    obtain ⟨x, ea, la_, ba⟩ := bd_of_right h1 k1 ra
    rw [la_] at fa
    rw [la_, ea]
    obtain ⟨y, eb, lb_, bb⟩ := bd_of_right h2 k2 rb
    rw [lb_] at fb
    rw [lb_, eb]
    exact divides_all (G := w.heap.size) (Nat.le_refl _) ht ba bb (few_sz_of fa rfl) (few_sz_of fb rfl)

end Go.Proofs.YtlinegodpoihoaaDoor
