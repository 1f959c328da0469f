/- The walk of BigRing: whatever the arguments, it returns true. -/
import Derived.Test.YtlinegodpoihoaaDoorLawRingN
namespace Go.Proofs.YtlinegodpoihoaaDoor
open Go.RowKit Go.Lib
variable {G : Nat}

set_option maxRecDepth 100000 in
set_option maxHeartbeats 16000000 in
theorem ring_all {x y z : Int} {a1 a2 a3 : Option Addr} {c1 c2 c3 : Nat} {w : World} (hG : G ≤ w.heap.size) (ht : Tab w) (h1 : BD G w a1 c1 x) (h2 : BD G w a2 c2 y) (h3 : BD G w a3 c3 z) (hx : Sz x 25) (hy : Sz y 25) (hz : Sz z 25)  :
    Calls Tryd.prog 5 #[.agg #[.int .i64 (sg x), .slice a1 (ln x) c1], .agg #[.int .i64 (sg y), .slice a2 (ln y) c2], .agg #[.int .i64 (sg z), .slice a3 (ln z) c3]] w fun e w' => e = .returned (.bool true) ∧ Below w.heap.size w w' := by
  have HX := Lib.hid hx; have HY := Lib.hid hy; have HZ := Lib.hid hz
  clear hx hy hz
  have HT : Hid (Tab w) := ht
  have H1 : Hid (BD G w a1 c1 x) := h1
  have H2 : Hid (BD G w a2 c2 y) := h2
  have H3 : Hid (BD G w a3 c3 z) := h3
  clear ht h1 h2 h3
  have M : Hid (Below w.heap.size w w) := Below.refl _ _
  go_enter Tryd.func5, Tryd.ntmps5
  go_upto_region 1 with fail
  obtain ⟨w1, hv⟩ : ∃ w_ : World, w_ = (((w.alloc (.cells #[.int .i64 (sg x), .slice a1 (ln x) c1] 24)).alloc (.cells #[.int .i64 (sg y), .slice a2 (ln y) c2] 24)).alloc (.cells #[.int .i64 (sg z), .slice a3 (ln z) c3] 24)) := ⟨_, rfl⟩
  rw [← hv]
  have hbx := bx3 w 24 24 24 #[.int .i64 (sg x), .slice a1 (ln x) c1] #[.int .i64 (sg y), .slice a2 (ln y) c2] #[.int .i64 (sg z), .slice a3 (ln z) c3]
  rw [← hv] at hbx
  have hbn : Below w.heap.size w w1 := by rw [hv]; exact (Below.alloc (Below.alloc (Below.alloc (Below.refl _ _) (by simp <;> omega) _) (by simp <;> omega) _) (by simp <;> omega) _)
  replace M := Lib.hid (And.intro hbx.2.2 (And.intro hbx.2.1 (And.intro hbx.1 (Goes.go M.out hbn))))
  clear hbx hbn
  clear hv
  go_wp2_with fail
  refine (small_ok (G := G) (Nat.le_trans hG (M.out.2.2.2).size) (HT.out.keep (M.out.2.2.2))).mono ?_
  rintro e w2 ⟨rfl, hb⟩
  replace M := Lib.hid (Goes.go M.out hb)
  clear hb
  obtain ⟨p0_0, q0_0, p0_1, q0_1⟩ := (M.out.2.2.1).c2
  go_wp2_with fail
  clear p0_0 q0_0 p0_1 q0_1
  refine (bigFew_ok (s := (sg x)) (m := 25) (b := true) (few_sz HX.out rfl)).mono ?_
  rintro e w3 ⟨rfl, hb⟩
  replace M := Lib.hid (Goes.go M.out hb)
  clear hb
  obtain ⟨p1_0, q1_0, p1_1, q1_1⟩ := (M.out.2.1).c2
  go_wp2_with fail
  clear p1_0 q1_0 p1_1 q1_1
  refine (bigFew_ok (s := (sg y)) (m := 25) (b := true) (few_sz HY.out rfl)).mono ?_
  rintro e w4 ⟨rfl, hb⟩
  replace M := Lib.hid (Goes.go M.out hb)
  clear hb
  obtain ⟨p2_0, q2_0, p2_1, q2_1⟩ := (M.out.1).c2
  go_wp2_with fail
  clear p2_0 q2_0 p2_1 q2_1
  refine (bigFew_ok (s := (sg z)) (m := 25) (b := true) (few_sz HZ.out rfl)).mono ?_
  rintro e w5 ⟨rfl, hb⟩
  replace M := Lib.hid (Goes.go M.out hb)
  clear hb
  obtain ⟨p0_0, q0_0, p0_1, q0_1⟩ := (M.out.2.2.1).c2
  go_wp2_with fail
  clear p0_0 q0_0 p0_1 q0_1
  refine (bigRight_ok (G := G) (z := x) (H1.out.keep (M.out.2.2.2)) (Sz.mono HX.out (by omega))).mono ?_
  rintro e w6 ⟨rfl, hb⟩
  replace M := Lib.hid (Goes.go M.out hb)
  clear hb
  obtain ⟨p1_0, q1_0, p1_1, q1_1⟩ := (M.out.2.1).c2
  go_wp2_with fail
  clear p1_0 q1_0 p1_1 q1_1
  refine (bigRight_ok (G := G) (z := y) (H2.out.keep (M.out.2.2.2)) (Sz.mono HY.out (by omega))).mono ?_
  rintro e w7 ⟨rfl, hb⟩
  replace M := Lib.hid (Goes.go M.out hb)
  clear hb
  obtain ⟨p2_0, q2_0, p2_1, q2_1⟩ := (M.out.1).c2
  go_wp2_with fail
  clear p2_0 q2_0 p2_1 q2_1
  refine (bigRight_ok (G := G) (z := z) (H3.out.keep (M.out.2.2.2)) (Sz.mono HZ.out (by omega))).mono ?_
  rintro e w8 ⟨rfl, hb⟩
  replace M := Lib.hid (Goes.go M.out hb)
  clear hb
  obtain ⟨p0_0, q0_0, p0_1, q0_1⟩ := (M.out.2.2.1).c2
  obtain ⟨p1_0, q1_0, p1_1, q1_1⟩ := (M.out.2.1).c2
  go_wp2_with fail
  clear p0_0 q0_0 p0_1 q0_1 p1_0 q1_0 p1_1 q1_1
  obtain ⟨z3, ez3⟩ : ∃ v_ : Int, v_ = (x + y) := ⟨_, rfl⟩
  refine (bigAdd_ok (G := G) (x := x) (y := y) (H1.out.keep (M.out.2.2.2)) (H2.out.keep (M.out.2.2.2)) (Sz.mono HX.out (by omega)) (Sz.mono HY.out (by omega))).mono ?_
  rintro e w9 ⟨a_1, c_2, rfl, hd4, hb⟩
  rw [← ez3] at hd4 ⊢
  have Sz3 : Hid (Sz z3 26) := by show Sz z3 26; rw [ez3]; exact (Sz.add HX.out HY.out)
  have Ez3 := Lib.hid ez3; clear ez3
  replace M := Lib.hid (And.intro hd4 (Goes.go M.out hb))
  clear hb hd4
  go_upto_region 5 with fail
  obtain ⟨w10, hv⟩ : ∃ w_ : World, w_ = (w9.alloc (.cells #[.int .i64 (sg z3), .slice a_1 (ln z3) c_2] 24)) := ⟨_, rfl⟩
  rw [← hv]
  have o3 : w.heap.size + 1 + 1 < w9.heap.size := ((M.out.2.1)).lt
  replace M := Lib.hid (And.intro (hv ▸ bx1 w9 24 #[.int .i64 (sg z3), .slice a_1 (ln z3) c_2]) (Goes.go M.out (hv ▸ below_alloc _ _ : Below w9.heap.size w9 w10)))
  clear hv
  obtain ⟨p1_0, q1_0, p1_1, q1_1⟩ := (M.out.2.2.2.1).c2
  obtain ⟨p0_0, q0_0, p0_1, q0_1⟩ := (M.out.2.2.2.2.1).c2
  go_wp2_with fail
  clear p1_0 q1_0 p1_1 q1_1 p0_0 q0_0 p0_1 q0_1
  obtain ⟨z7, ez7⟩ : ∃ v_ : Int, v_ = (y + x) := ⟨_, rfl⟩
  refine (bigAdd_ok (G := G) (x := y) (y := x) (H2.out.keep (M.out.2.2.2.2.2)) (H1.out.keep (M.out.2.2.2.2.2)) (Sz.mono HY.out (by omega)) (Sz.mono HX.out (by omega))).mono ?_
  rintro e w11 ⟨a_5, c_6, rfl, hd8, hb⟩
  rw [← ez7] at hd8 ⊢
  have Sz7 : Hid (Sz z7 26) := by show Sz z7 26; rw [ez7]; exact (Sz.add HY.out HX.out)
  have Ez7 := Lib.hid ez7; clear ez7
  replace M := Lib.hid (And.intro hd8 (Goes.go M.out hb))
  clear hb hd8
  go_upto_region 6 with fail
  obtain ⟨w12, hv⟩ : ∃ w_ : World, w_ = (w11.alloc (.cells #[.int .i64 (sg z7), .slice a_5 (ln z7) c_6] 24)) := ⟨_, rfl⟩
  rw [← hv]
  have o4 : w9.heap.size < w11.heap.size := ((M.out.2.1)).lt
  replace M := Lib.hid (And.intro (hv ▸ bx1 w11 24 #[.int .i64 (sg z7), .slice a_5 (ln z7) c_6]) (Goes.go M.out (hv ▸ below_alloc _ _ : Below w11.heap.size w11 w12)))
  clear hv
  as_aux_lemma =>
   obtain ⟨p1_0, q1_0, p1_1, q1_1⟩ := (M.out.2.2.2.2.2.1).c2
   obtain ⟨p2_0, q2_0, p2_1, q2_1⟩ := (M.out.2.2.2.2.1).c2
   go_wp2_with fail
   clear p1_0 q1_0 p1_1 q1_1 p2_0 q2_0 p2_1 q2_1
   obtain ⟨z11, ez11⟩ : ∃ v_ : Int, v_ = (y + z) := ⟨_, rfl⟩
   refine (bigAdd_ok (G := G) (x := y) (y := z) (H2.out.keep (M.out.2.2.2.2.2.2.2)) (H3.out.keep (M.out.2.2.2.2.2.2.2)) (Sz.mono HY.out (by omega)) (Sz.mono HZ.out (by omega))).mono ?_
   rintro e w13 ⟨a_9, c_10, rfl, hd12, hb⟩
   rw [← ez11] at hd12 ⊢
   have Sz11 : Hid (Sz z11 26) := by show Sz z11 26; rw [ez11]; exact (Sz.add HY.out HZ.out)
   have Ez11 := Lib.hid ez11; clear ez11
   replace M := Lib.hid (And.intro hd12 (Goes.go M.out hb))
   clear hb hd12
   go_upto_region 7 with fail
   obtain ⟨w14, hv⟩ : ∃ w_ : World, w_ = (w13.alloc (.cells #[.int .i64 (sg z11), .slice a_9 (ln z11) c_10] 24)) := ⟨_, rfl⟩
   rw [← hv]
   have o5 : w11.heap.size < w13.heap.size := ((M.out.2.1)).lt
   replace M := Lib.hid (And.intro (hv ▸ bx1 w13 24 #[.int .i64 (sg z11), .slice a_9 (ln z11) c_10]) (Goes.go M.out (hv ▸ below_alloc _ _ : Below w13.heap.size w13 w14)))
   clear hv
   obtain ⟨p3_0, q3_0, p3_1, q3_1⟩ := (M.out.2.2.2.2.1).c2
   obtain ⟨p2_0, q2_0, p2_1, q2_1⟩ := (M.out.2.2.2.2.2.2.1).c2
   go_wp2_with fail
   clear p3_0 q3_0 p3_1 q3_1 p2_0 q2_0 p2_1 q2_1
   obtain ⟨z15, ez15⟩ : ∃ v_ : Int, v_ = (z3 + z) := ⟨_, rfl⟩
   refine (bigAdd_ok (G := G) (x := z3) (y := z) (M.out.2.2.2.2.2.1) (H3.out.keep (M.out.2.2.2.2.2.2.2.2.2)) (Sz.mono Sz3.out (by omega)) (Sz.mono HZ.out (by omega))).mono ?_
   rintro e w15 ⟨a_13, c_14, rfl, hd16, hb⟩
   rw [← ez15] at hd16 ⊢
   have Sz15 : Hid (Sz z15 27) := by show Sz z15 27; rw [ez15]; exact (Sz.add Sz3.out (Sz.mono HZ.out (by omega)))
   have Ez15 := Lib.hid ez15; clear ez15
   replace M := Lib.hid (And.intro hd16 (Goes.go M.out hb))
   clear hb hd16
   go_upto_region 8 with fail
   obtain ⟨w16, hv⟩ : ∃ w_ : World, w_ = (w15.alloc (.cells #[.int .i64 (sg z15), .slice a_13 (ln z15) c_14] 24)) := ⟨_, rfl⟩
   rw [← hv]
   have o6 : w13.heap.size < w15.heap.size := ((M.out.2.1)).lt
   replace M := Lib.hid (And.intro (hv ▸ bx1 w15 24 #[.int .i64 (sg z15), .slice a_13 (ln z15) c_14]) (Goes.go M.out (hv ▸ below_alloc _ _ : Below w15.heap.size w15 w16)))
   clear hv
   as_aux_lemma =>
    obtain ⟨p0_0, q0_0, p0_1, q0_1⟩ := (M.out.2.2.2.2.2.2.2.2.2.2.1).c2
    obtain ⟨p5_0, q5_0, p5_1, q5_1⟩ := (M.out.2.2.1).c2
    go_wp2_with fail
    clear p0_0 q0_0 p0_1 q0_1 p5_0 q5_0 p5_1 q5_1
    obtain ⟨z19, ez19⟩ : ∃ v_ : Int, v_ = (x + z11) := ⟨_, rfl⟩
    refine (bigAdd_ok (G := G) (x := x) (y := z11) (H1.out.keep (M.out.2.2.2.2.2.2.2.2.2.2.2)) (M.out.2.2.2.1) (Sz.mono HX.out (by omega)) (Sz.mono Sz11.out (by omega))).mono ?_
    rintro e w17 ⟨a_17, c_18, rfl, hd20, hb⟩
    rw [← ez19] at hd20 ⊢
    have Sz19 : Hid (Sz z19 27) := by show Sz z19 27; rw [ez19]; exact (Sz.add (Sz.mono HX.out (by omega)) Sz11.out)
    have Ez19 := Lib.hid ez19; clear ez19
    replace M := Lib.hid (And.intro hd20 (Goes.go M.out hb))
    clear hb hd20
    go_upto_region 9 with fail
    obtain ⟨w18, hv⟩ : ∃ w_ : World, w_ = (w17.alloc (.cells #[.int .i64 (sg z19), .slice a_17 (ln z19) c_18] 24)) := ⟨_, rfl⟩
    rw [← hv]
    have o7 : w15.heap.size < w17.heap.size := ((M.out.2.1)).lt
    replace M := Lib.hid (And.intro (hv ▸ bx1 w17 24 #[.int .i64 (sg z19), .slice a_17 (ln z19) c_18]) (Goes.go M.out (hv ▸ below_alloc _ _ : Below w17.heap.size w17 w18)))
    clear hv
    obtain ⟨p3_0, q3_0, p3_1, q3_1⟩ := (M.out.2.2.2.2.2.2.2.2.1).c2
    obtain ⟨p4_0, q4_0, p4_1, q4_1⟩ := (M.out.2.2.2.2.2.2.1).c2
    go_wp2_with fail
    clear p3_0 q3_0 p3_1 q3_1 p4_0 q4_0 p4_1 q4_1
    refine (rsame_is (G := G) (x := z3) (y := z7) (b := true) (M.out.2.2.2.2.2.2.2.2.2.1) (M.out.2.2.2.2.2.2.2.1) (Sz.mono Sz3.out (by omega)) (Sz.mono Sz7.out (by omega)) (eqZ_of (by rw [Ez7.out, Ez3.out] <;> grind))).mono ?_
    rintro e w19 ⟨rfl, hb⟩
    replace M := Lib.hid (Goes.go M.out hb)
    clear hb
    obtain ⟨p6_0, q6_0, p6_1, q6_1⟩ := (M.out.2.2.1).c2
    obtain ⟨p7_0, q7_0, p7_1, q7_1⟩ := (M.out.1).c2
    go_wp2_with fail
    clear p6_0 q6_0 p6_1 q6_1 p7_0 q7_0 p7_1 q7_1
    replace M := Lib.hid (And.intro (M.out.1) (And.intro (M.out.2.1) (And.intro (M.out.2.2.1) (And.intro (M.out.2.2.2.1) (And.intro (M.out.2.2.2.2.1) (And.intro (M.out.2.2.2.2.2.1) (And.intro (M.out.2.2.2.2.2.2.2.2.2.2.1) (And.intro (M.out.2.2.2.2.2.2.2.2.2.2.2.1) (And.intro (M.out.2.2.2.2.2.2.2.2.2.2.2.2.1) (M.out.2.2.2.2.2.2.2.2.2.2.2.2.2))))))))))
    refine (rsame_is (G := G) (x := z15) (y := z19) (b := true) (M.out.2.2.2.1) (M.out.2.1) (Sz.mono Sz15.out (by omega)) (Sz.mono Sz19.out (by omega)) (eqZ_of (by rw [Ez19.out, Ez15.out, Ez11.out, Ez3.out] <;> grind))).mono ?_
    rintro e w20 ⟨rfl, hb⟩
    replace M := Lib.hid (Goes.go M.out hb)
    clear hb
    go_upto_region 11 with fail
    as_aux_lemma =>
     obtain ⟨p0_0, q0_0, p0_1, q0_1⟩ := (M.out.2.2.2.2.2.2.2.2.1).c2
     obtain ⟨p1_0, q1_0, p1_1, q1_1⟩ := (M.out.2.2.2.2.2.2.2.1).c2
     go_wp2_with fail
     clear p0_0 q0_0 p0_1 q0_1 p1_0 q1_0 p1_1 q1_1
     obtain ⟨z23, ez23⟩ : ∃ v_ : Int, v_ = (x * y) := ⟨_, rfl⟩
     refine (bigMul_ok (G := G) (x := x) (y := y) (H1.out.keep (M.out.2.2.2.2.2.2.2.2.2)) (H2.out.keep (M.out.2.2.2.2.2.2.2.2.2)) (Sz.mono HX.out (by omega)) (Sz.mono HY.out (by omega))).mono ?_
     rintro e w21 ⟨a_21, c_22, rfl, hd24, hb⟩
     rw [← ez23] at hd24 ⊢
     have Sz23 : Hid (Sz z23 50) := by show Sz z23 50; rw [ez23]; exact (Sz.mul HX.out HY.out)
     have Ez23 := Lib.hid ez23; clear ez23
     replace M := Lib.hid (And.intro hd24 (Goes.go M.out hb))
     clear hb hd24
     go_upto_region 12 with fail
     obtain ⟨w22, hv⟩ : ∃ w_ : World, w_ = (w21.alloc (.cells #[.int .i64 (sg z23), .slice a_21 (ln z23) c_22] 24)) := ⟨_, rfl⟩
     rw [← hv]
     have o8 : w17.heap.size < w21.heap.size := ((M.out.2.1)).lt
     replace M := Lib.hid (And.intro (hv ▸ bx1 w21 24 #[.int .i64 (sg z23), .slice a_21 (ln z23) c_22]) (Goes.go M.out (hv ▸ below_alloc _ _ : Below w21.heap.size w21 w22)))
     clear hv
     obtain ⟨p1_0, q1_0, p1_1, q1_1⟩ := (M.out.2.2.2.2.2.2.2.2.2.1).c2
     obtain ⟨p0_0, q0_0, p0_1, q0_1⟩ := (M.out.2.2.2.2.2.2.2.2.2.2.1).c2
     go_wp2_with fail
     clear p1_0 q1_0 p1_1 q1_1 p0_0 q0_0 p0_1 q0_1
     obtain ⟨z27, ez27⟩ : ∃ v_ : Int, v_ = (y * x) := ⟨_, rfl⟩
     refine (bigMul_ok (G := G) (x := y) (y := x) (H2.out.keep (M.out.2.2.2.2.2.2.2.2.2.2.2)) (H1.out.keep (M.out.2.2.2.2.2.2.2.2.2.2.2)) (Sz.mono HY.out (by omega)) (Sz.mono HX.out (by omega))).mono ?_
     rintro e w23 ⟨a_25, c_26, rfl, hd28, hb⟩
     rw [← ez27] at hd28 ⊢
     have Sz27 : Hid (Sz z27 50) := by show Sz z27 50; rw [ez27]; exact (Sz.mul HY.out HX.out)
     have Ez27 := Lib.hid ez27; clear ez27
     replace M := Lib.hid (And.intro hd28 (Goes.go M.out hb))
     clear hb hd28
     go_upto_region 13 with fail
     obtain ⟨w24, hv⟩ : ∃ w_ : World, w_ = (w23.alloc (.cells #[.int .i64 (sg z27), .slice a_25 (ln z27) c_26] 24)) := ⟨_, rfl⟩
     rw [← hv]
     have o9 : w21.heap.size < w23.heap.size := ((M.out.2.1)).lt
     replace M := Lib.hid (And.intro (hv ▸ bx1 w23 24 #[.int .i64 (sg z27), .slice a_25 (ln z27) c_26]) (Goes.go M.out (hv ▸ below_alloc _ _ : Below w23.heap.size w23 w24)))
     clear hv
     as_aux_lemma =>
      obtain ⟨p1_0, q1_0, p1_1, q1_1⟩ := (M.out.2.2.2.2.2.2.2.2.2.2.2.1).c2
      obtain ⟨p2_0, q2_0, p2_1, q2_1⟩ := (M.out.2.2.2.2.2.2.2.2.2.2.1).c2
      go_wp2_with fail
      clear p1_0 q1_0 p1_1 q1_1 p2_0 q2_0 p2_1 q2_1
      obtain ⟨z31, ez31⟩ : ∃ v_ : Int, v_ = (y * z) := ⟨_, rfl⟩
      refine (bigMul_ok (G := G) (x := y) (y := z) (H2.out.keep (M.out.2.2.2.2.2.2.2.2.2.2.2.2.2)) (H3.out.keep (M.out.2.2.2.2.2.2.2.2.2.2.2.2.2)) (Sz.mono HY.out (by omega)) (Sz.mono HZ.out (by omega))).mono ?_
      rintro e w25 ⟨a_29, c_30, rfl, hd32, hb⟩
      rw [← ez31] at hd32 ⊢
      have Sz31 : Hid (Sz z31 50) := by show Sz z31 50; rw [ez31]; exact (Sz.mul HY.out HZ.out)
      have Ez31 := Lib.hid ez31; clear ez31
      replace M := Lib.hid (And.intro hd32 (Goes.go M.out hb))
      clear hb hd32
      go_upto_region 14 with fail
      obtain ⟨w26, hv⟩ : ∃ w_ : World, w_ = (w25.alloc (.cells #[.int .i64 (sg z31), .slice a_29 (ln z31) c_30] 24)) := ⟨_, rfl⟩
      rw [← hv]
      have o10 : w23.heap.size < w25.heap.size := ((M.out.2.1)).lt
      replace M := Lib.hid (And.intro (hv ▸ bx1 w25 24 #[.int .i64 (sg z31), .slice a_29 (ln z31) c_30]) (Goes.go M.out (hv ▸ below_alloc _ _ : Below w25.heap.size w25 w26)))
      clear hv
      as_aux_lemma =>
       obtain ⟨p8_0, q8_0, p8_1, q8_1⟩ := (M.out.2.2.2.2.1).c2
       obtain ⟨p2_0, q2_0, p2_1, q2_1⟩ := (M.out.2.2.2.2.2.2.2.2.2.2.2.2.1).c2
       go_wp2_with fail
       clear p8_0 q8_0 p8_1 q8_1 p2_0 q2_0 p2_1 q2_1
       obtain ⟨z35, ez35⟩ : ∃ v_ : Int, v_ = (z23 * z) := ⟨_, rfl⟩
       refine (bigMul_ok (G := G) (x := z23) (y := z) (M.out.2.2.2.2.2.1) (H3.out.keep (M.out.2.2.2.2.2.2.2.2.2.2.2.2.2.2.2)) (Sz.mono Sz23.out (by omega)) (Sz.mono HZ.out (by omega))).mono ?_
       rintro e w27 ⟨a_33, c_34, rfl, hd36, hb⟩
       rw [← ez35] at hd36 ⊢
       have Sz35 : Hid (Sz z35 75) := by show Sz z35 75; rw [ez35]; exact (Sz.mul Sz23.out HZ.out)
       have Ez35 := Lib.hid ez35; clear ez35
       replace M := Lib.hid (And.intro hd36 (Goes.go M.out hb))
       clear hb hd36
       obtain ⟨p6_0, q6_0, p6_1, q6_1⟩ := (M.out.2.2.2.2.2.2.2.2.2.1).c2
       go_upto_region 15 with fail
       clear p6_0 q6_0 p6_1 q6_1
       obtain ⟨w28, hv⟩ : ∃ w_ : World, w_ = ((w27.setCell ⟨w15.heap.size, 0, none⟩ (.int .i64 (sg z35))).setCell ⟨w15.heap.size, 1, none⟩ (.slice a_33 (ln z35) c_34)) := ⟨_, rfl⟩
       rw [← hv]
       have og : w27.grownBy w28 (some w15.heap.size) := by rw [hv]; exact (only_setCell (only_setCell (World.grownBy.refl _ _) _) _)
       have hz : w.heap.size ≤ w15.heap.size := by omega
       have hk : Bx w28 w15.heap.size 24 #[.int .i64 (sg z35), .slice a_33 (ln z35) c_34] := by rw [hv]; exact (((M.out.2.2.2.2.2.2.2.2.2.1).set 0 _).set 1 _)
       have hbw : Below w.heap.size w w28 := by rw [hv]; exact (Below.setCell (Below.setCell (M.out.2.2.2.2.2.2.2.2.2.2.2.2.2.2.2.2) (by omega) _) (by omega) _)
       replace M := Lib.hid (And.intro ((M.out.1).far (M.out.2.2.2.2.2.2.2.2.2.1) (by rfl) (by omega) og) (And.intro ((M.out.2.1).only og (by omega)) (And.intro ((M.out.2.2.1).far (M.out.2.2.2.2.2.2.2.2.2.1) (by rfl) (by omega) og) (And.intro ((M.out.2.2.2.1).only og (by omega)) (And.intro ((M.out.2.2.2.2.1).far (M.out.2.2.2.2.2.2.2.2.2.1) (by rfl) (by omega) og) (And.intro ((M.out.2.2.2.2.2.1).only og (by omega)) (And.intro ((M.out.2.2.2.2.2.2.1).far (M.out.2.2.2.2.2.2.2.2.2.1) (by rfl) (by omega) og) (And.intro ((M.out.2.2.2.2.2.2.2.1).only og (by omega)) (And.intro ((M.out.2.2.2.2.2.2.2.2.1).far (M.out.2.2.2.2.2.2.2.2.2.1) (by rfl) (by omega) og) (And.intro hk (And.intro ((M.out.2.2.2.2.2.2.2.2.2.2.1).far (M.out.2.2.2.2.2.2.2.2.2.1) (by rfl) (by omega) og) (And.intro ((M.out.2.2.2.2.2.2.2.2.2.2.2.1).only og (by omega)) (And.intro ((M.out.2.2.2.2.2.2.2.2.2.2.2.2.1).far (M.out.2.2.2.2.2.2.2.2.2.1) (by rfl) (by omega) og) (And.intro ((M.out.2.2.2.2.2.2.2.2.2.2.2.2.2.1).only og (by omega)) (And.intro ((M.out.2.2.2.2.2.2.2.2.2.2.2.2.2.2.1).only og (by omega)) (And.intro ((M.out.2.2.2.2.2.2.2.2.2.2.2.2.2.2.2.1).only og (by omega)) hbw))))))))))))))))
       clear hk hbw og hv hz
       as_aux_lemma =>
        obtain ⟨p0_0, q0_0, p0_1, q0_1⟩ := (M.out.2.2.2.2.2.2.2.2.2.2.2.2.2.2.2.1).c2
        obtain ⟨p10_0, q10_0, p10_1, q10_1⟩ := (M.out.2.1).c2
        go_wp2_with fail
        clear p0_0 q0_0 p0_1 q0_1 p10_0 q10_0 p10_1 q10_1
        obtain ⟨z39, ez39⟩ : ∃ v_ : Int, v_ = (x * z31) := ⟨_, rfl⟩
        refine (bigMul_ok (G := G) (x := x) (y := z31) (H1.out.keep (M.out.2.2.2.2.2.2.2.2.2.2.2.2.2.2.2.2)) (M.out.2.2.1) (Sz.mono HX.out (by omega)) (Sz.mono Sz31.out (by omega))).mono ?_
        rintro e w29 ⟨a_37, c_38, rfl, hd40, hb⟩
        rw [← ez39] at hd40 ⊢
        have Sz39 : Hid (Sz z39 75) := by show Sz z39 75; rw [ez39]; exact (Sz.mul HX.out Sz31.out)
        have Ez39 := Lib.hid ez39; clear ez39
        replace M := Lib.hid (And.intro hd40 (Goes.go M.out hb))
        clear hb hd40
        obtain ⟨p7_0, q7_0, p7_1, q7_1⟩ := (M.out.2.2.2.2.2.2.2.2.1).c2
        go_upto_region 16 with fail
        clear p7_0 q7_0 p7_1 q7_1
        obtain ⟨w30, hv⟩ : ∃ w_ : World, w_ = ((w29.setCell ⟨w17.heap.size, 0, none⟩ (.int .i64 (sg z39))).setCell ⟨w17.heap.size, 1, none⟩ (.slice a_37 (ln z39) c_38)) := ⟨_, rfl⟩
        rw [← hv]
        have og : w29.grownBy w30 (some w17.heap.size) := by rw [hv]; exact (only_setCell (only_setCell (World.grownBy.refl _ _) _) _)
        have hz : w.heap.size ≤ w17.heap.size := by omega
        have hk : Bx w30 w17.heap.size 24 #[.int .i64 (sg z39), .slice a_37 (ln z39) c_38] := by rw [hv]; exact (((M.out.2.2.2.2.2.2.2.2.1).set 0 _).set 1 _)
        have hbw : Below w.heap.size w w30 := by rw [hv]; exact (Below.setCell (Below.setCell (M.out.2.2.2.2.2.2.2.2.2.2.2.2.2.2.2.2.2) (by omega) _) (by omega) _)
        replace M := Lib.hid (And.intro ((M.out.1).far (M.out.2.2.2.2.2.2.2.2.1) (by rfl) (by omega) og) (And.intro ((M.out.2.1).far (M.out.2.2.2.2.2.2.2.2.1) (by rfl) (by omega) og) (And.intro ((M.out.2.2.1).only og (by omega)) (And.intro ((M.out.2.2.2.1).far (M.out.2.2.2.2.2.2.2.2.1) (by rfl) (by omega) og) (And.intro ((M.out.2.2.2.2.1).only og (by omega)) (And.intro ((M.out.2.2.2.2.2.1).far (M.out.2.2.2.2.2.2.2.2.1) (by rfl) (by omega) og) (And.intro ((M.out.2.2.2.2.2.2.1).only og (by omega)) (And.intro ((M.out.2.2.2.2.2.2.2.1).far (M.out.2.2.2.2.2.2.2.2.1) (by rfl) (by omega) og) (And.intro hk (And.intro ((M.out.2.2.2.2.2.2.2.2.2.1).far (M.out.2.2.2.2.2.2.2.2.1) (by rfl) (by omega) og) (And.intro ((M.out.2.2.2.2.2.2.2.2.2.2.1).only og (by omega)) (And.intro ((M.out.2.2.2.2.2.2.2.2.2.2.2.1).far (M.out.2.2.2.2.2.2.2.2.1) (by rfl) (by omega) og) (And.intro ((M.out.2.2.2.2.2.2.2.2.2.2.2.2.1).only og (by omega)) (And.intro ((M.out.2.2.2.2.2.2.2.2.2.2.2.2.2.1).far (M.out.2.2.2.2.2.2.2.2.1) (by rfl) (by omega) og) (And.intro ((M.out.2.2.2.2.2.2.2.2.2.2.2.2.2.2.1).only og (by omega)) (And.intro ((M.out.2.2.2.2.2.2.2.2.2.2.2.2.2.2.2.1).only og (by omega)) (And.intro ((M.out.2.2.2.2.2.2.2.2.2.2.2.2.2.2.2.2.1).only og (by omega)) hbw)))))))))))))))))
        clear hk hbw og hv hz
        as_aux_lemma =>
         obtain ⟨p8_0, q8_0, p8_1, q8_1⟩ := (M.out.2.2.2.2.2.2.1).c2
         obtain ⟨p9_0, q9_0, p9_1, q9_1⟩ := (M.out.2.2.2.2.1).c2
         go_wp2_with fail
         clear p8_0 q8_0 p8_1 q8_1 p9_0 q9_0 p9_1 q9_1
         replace M := Lib.hid (And.intro (M.out.1) (And.intro (M.out.2.1) (And.intro (M.out.2.2.2.2.2.1) (And.intro (M.out.2.2.2.2.2.2.1) (And.intro (M.out.2.2.2.2.2.2.2.1) (And.intro (M.out.2.2.2.2.2.2.2.2.1) (And.intro (M.out.2.2.2.2.2.2.2.2.2.2.1) (And.intro (M.out.2.2.2.2.2.2.2.2.2.2.2.2.1) (And.intro (M.out.2.2.2.2.2.2.2.2.2.2.2.2.2.1) (And.intro (M.out.2.2.2.2.2.2.2.2.2.2.2.2.2.2.1) (And.intro (M.out.2.2.2.2.2.2.2.2.2.2.2.2.2.2.2.1) (And.intro (M.out.2.2.2.2.2.2.2.2.2.2.2.2.2.2.2.2.1) (M.out.2.2.2.2.2.2.2.2.2.2.2.2.2.2.2.2.2)))))))))))))
         refine (rsame_is (G := G) (x := z23) (y := z27) (b := true) (M.out.2.2.2.2.1) (M.out.2.2.1) (Sz.mono Sz23.out (by omega)) (Sz.mono Sz27.out (by omega)) (eqZ_of (by rw [Ez27.out, Ez23.out] <;> grind))).mono ?_
         rintro e w31 ⟨rfl, hb⟩
         replace M := Lib.hid (Goes.go M.out hb)
         clear hb
         obtain ⟨p6_0, q6_0, p6_1, q6_1⟩ := (M.out.2.2.2.2.2.2.1).c2
         obtain ⟨p7_0, q7_0, p7_1, q7_1⟩ := (M.out.2.2.2.2.2.1).c2
         go_wp2_with fail
         clear p6_0 q6_0 p6_1 q6_1 p7_0 q7_0 p7_1 q7_1
         refine (rsame_is (G := G) (x := z35) (y := z39) (b := true) (M.out.2.1) (M.out.1) (Sz.mono Sz35.out (by omega)) (Sz.mono Sz39.out (by omega)) (eqZ_of (by rw [Ez39.out, Ez35.out, Ez31.out, Ez23.out] <;> grind))).mono ?_
         rintro e w32 ⟨rfl, hb⟩
         replace M := Lib.hid (Goes.go M.out hb)
         clear hb
         obtain ⟨p0_0, q0_0, p0_1, q0_1⟩ := (M.out.2.2.2.2.2.2.2.2.2.2.2.1).c2
         obtain ⟨p5_0, q5_0, p5_1, q5_1⟩ := (M.out.2.2.2.2.2.2.2.1).c2
         go_wp2_with fail
         clear p0_0 q0_0 p0_1 q0_1 p5_0 q5_0 p5_1 q5_1
         replace M := Lib.hid (And.intro (M.out.2.2.2.1) (And.intro (M.out.2.2.2.2.1) (And.intro (M.out.2.2.2.2.2.2.2.2.1) (And.intro (M.out.2.2.2.2.2.2.2.2.2.1) (And.intro (M.out.2.2.2.2.2.2.2.2.2.2.1) (And.intro (M.out.2.2.2.2.2.2.2.2.2.2.2.1) (M.out.2.2.2.2.2.2.2.2.2.2.2.2)))))))
         obtain ⟨z43, ez43⟩ : ∃ v_ : Int, v_ = (x * z11) := ⟨_, rfl⟩
         refine (bigMul_ok (G := G) (x := x) (y := z11) (H1.out.keep (M.out.2.2.2.2.2.2)) (M.out.2.2.1) (Sz.mono HX.out (by omega)) (Sz.mono Sz11.out (by omega))).mono ?_
         rintro e w33 ⟨a_41, c_42, rfl, hd44, hb⟩
         rw [← ez43] at hd44 ⊢
         have Sz43 : Hid (Sz z43 51) := by show Sz z43 51; rw [ez43]; exact (Sz.mul HX.out Sz11.out)
         have Ez43 := Lib.hid ez43; clear ez43
         replace M := Lib.hid (And.intro hd44 (Goes.go M.out hb))
         clear hb hd44
         go_upto_region 19 with fail
         obtain ⟨w34, hv⟩ : ∃ w_ : World, w_ = (w33.alloc (.cells #[.int .i64 (sg z43), .slice a_41 (ln z43) c_42] 24)) := ⟨_, rfl⟩
         rw [← hv]
         have o11 : w21.heap.size < w33.heap.size := ((M.out.2.1)).lt
         replace M := Lib.hid (And.intro (hv ▸ bx1 w33 24 #[.int .i64 (sg z43), .slice a_41 (ln z43) c_42]) (Goes.go M.out (hv ▸ below_alloc _ _ : Below w33.heap.size w33 w34)))
         clear hv
         as_aux_lemma =>
          obtain ⟨p0_0, q0_0, p0_1, q0_1⟩ := (M.out.2.2.2.2.2.2.2.1).c2
          obtain ⟨p2_0, q2_0, p2_1, q2_1⟩ := (M.out.2.2.2.2.2.1).c2
          go_wp2_with fail
          clear p0_0 q0_0 p0_1 q0_1 p2_0 q2_0 p2_1 q2_1
          obtain ⟨z47, ez47⟩ : ∃ v_ : Int, v_ = (x * z) := ⟨_, rfl⟩
          refine (bigMul_ok (G := G) (x := x) (y := z) (H1.out.keep (M.out.2.2.2.2.2.2.2.2)) (H3.out.keep (M.out.2.2.2.2.2.2.2.2)) (Sz.mono HX.out (by omega)) (Sz.mono HZ.out (by omega))).mono ?_
          rintro e w35 ⟨a_45, c_46, rfl, hd48, hb⟩
          rw [← ez47] at hd48 ⊢
          have Sz47 : Hid (Sz z47 50) := by show Sz z47 50; rw [ez47]; exact (Sz.mul HX.out HZ.out)
          have Ez47 := Lib.hid ez47; clear ez47
          replace M := Lib.hid (And.intro hd48 (Goes.go M.out hb))
          clear hb hd48
          go_upto_region 20 with fail
          obtain ⟨w36, hv⟩ : ∃ w_ : World, w_ = (w35.alloc (.cells #[.int .i64 (sg z47), .slice a_45 (ln z47) c_46] 24)) := ⟨_, rfl⟩
          rw [← hv]
          have o12 : w33.heap.size < w35.heap.size := ((M.out.2.1)).lt
          replace M := Lib.hid (And.intro (hv ▸ bx1 w35 24 #[.int .i64 (sg z47), .slice a_45 (ln z47) c_46]) (Goes.go M.out (hv ▸ below_alloc _ _ : Below w35.heap.size w35 w36)))
          clear hv
          as_aux_lemma =>
           obtain ⟨p8_0, q8_0, p8_1, q8_1⟩ := (M.out.2.2.2.2.1).c2
           obtain ⟨p12_0, q12_0, p12_1, q12_1⟩ := (M.out.1).c2
           go_wp2_with fail
           clear p8_0 q8_0 p8_1 q8_1 p12_0 q12_0 p12_1 q12_1
           replace M := Lib.hid (And.intro (M.out.2.1) (And.intro (M.out.2.2.1) (And.intro (M.out.2.2.2.1) (And.intro (M.out.2.2.2.2.2.1) (And.intro (M.out.2.2.2.2.2.2.2.2.1) (And.intro (M.out.2.2.2.2.2.2.2.2.2.1) (M.out.2.2.2.2.2.2.2.2.2.2)))))))
           obtain ⟨z51, ez51⟩ : ∃ v_ : Int, v_ = (z23 + z47) := ⟨_, rfl⟩
           refine (bigAdd_ok (G := G) (x := z23) (y := z47) (M.out.2.2.2.1) (M.out.1) (Sz.mono Sz23.out (by omega)) (Sz.mono Sz47.out (by omega))).mono ?_
           rintro e w37 ⟨a_49, c_50, rfl, hd52, hb⟩
           rw [← ez51] at hd52 ⊢
           have Sz51 : Hid (Sz z51 51) := by show Sz z51 51; rw [ez51]; exact (Sz.add Sz23.out Sz47.out)
           have Ez51 := Lib.hid ez51; clear ez51
           replace M := Lib.hid (And.intro hd52 (Goes.go M.out hb))
           clear hb hd52
           go_upto_region 21 with fail
           obtain ⟨w38, hv⟩ : ∃ w_ : World, w_ = (w37.alloc (.cells #[.int .i64 (sg z51), .slice a_49 (ln z51) c_50] 24)) := ⟨_, rfl⟩
           rw [← hv]
           have o13 : w33.heap.size < w37.heap.size := ((M.out.2.2.1)).lt
           replace M := Lib.hid (And.intro (hv ▸ bx1 w37 24 #[.int .i64 (sg z51), .slice a_49 (ln z51) c_50]) (Goes.go M.out (hv ▸ below_alloc _ _ : Below w37.heap.size w37 w38)))
           clear hv
           as_aux_lemma =>
            obtain ⟨p0_0, q0_0, p0_1, q0_1⟩ := (M.out.2.2.2.2.2.2.2.1).c2
            obtain ⟨p1_0, q1_0, p1_1, q1_1⟩ := (M.out.2.2.2.2.2.2.1).c2
            go_wp2_with fail
            clear p0_0 q0_0 p0_1 q0_1 p1_0 q1_0 p1_1 q1_1
            obtain ⟨z55, ez55⟩ : ∃ v_ : Int, v_ = (x - y) := ⟨_, rfl⟩
            refine (bigSub_ok (G := G) (x := x) (y := y) (H1.out.keep (M.out.2.2.2.2.2.2.2.2)) (H2.out.keep (M.out.2.2.2.2.2.2.2.2)) (Nat.le_trans hG (M.out.2.2.2.2.2.2.2.2).size) (Sz.mono HX.out (by omega)) (Sz.mono HY.out (by omega))).mono ?_
            rintro e w39 ⟨a_53, c_54, rfl, hd56, hb⟩
            rw [← ez55] at hd56 ⊢
            have Sz55 : Hid (Sz z55 26) := by show Sz z55 26; rw [ez55]; exact (Sz.sub HX.out HY.out)
            have Ez55 := Lib.hid ez55; clear ez55
            replace M := Lib.hid (And.intro hd56 (Goes.go M.out hb))
            clear hb hd56
            go_upto_region 22 with fail
            obtain ⟨w40, hv⟩ : ∃ w_ : World, w_ = (w39.alloc (.cells #[.int .i64 (sg z55), .slice a_53 (ln z55) c_54] 24)) := ⟨_, rfl⟩
            rw [← hv]
            have o14 : w37.heap.size < w39.heap.size := ((M.out.2.1)).lt
            replace M := Lib.hid (And.intro (hv ▸ bx1 w39 24 #[.int .i64 (sg z55), .slice a_53 (ln z55) c_54]) (Goes.go M.out (hv ▸ below_alloc _ _ : Below w39.heap.size w39 w40)))
            clear hv
            as_aux_lemma =>
             obtain ⟨p14_0, q14_0, p14_1, q14_1⟩ := (M.out.1).c2
             obtain ⟨p1_0, q1_0, p1_1, q1_1⟩ := (M.out.2.2.2.2.2.2.2.2.1).c2
             go_wp2_with fail
             clear p14_0 q14_0 p14_1 q14_1 p1_0 q1_0 p1_1 q1_1
             replace M := Lib.hid (And.intro (M.out.2.1) (And.intro (M.out.2.2.1) (And.intro (M.out.2.2.2.1) (And.intro (M.out.2.2.2.2.2.1) (And.intro (M.out.2.2.2.2.2.2.1) (And.intro (M.out.2.2.2.2.2.2.2.2.2.1) (M.out.2.2.2.2.2.2.2.2.2.2)))))))
             obtain ⟨z59, ez59⟩ : ∃ v_ : Int, v_ = (z55 + y) := ⟨_, rfl⟩
             refine (bigAdd_ok (G := G) (x := z55) (y := y) (M.out.1) (H2.out.keep (M.out.2.2.2.2.2.2)) (Sz.mono Sz55.out (by omega)) (Sz.mono HY.out (by omega))).mono ?_
             rintro e w41 ⟨a_57, c_58, rfl, hd60, hb⟩
             rw [← ez59] at hd60 ⊢
             have Sz59 : Hid (Sz z59 27) := by show Sz z59 27; rw [ez59]; exact (Sz.add Sz55.out (Sz.mono HY.out (by omega)))
             have Ez59 := Lib.hid ez59; clear ez59
             replace M := Lib.hid (And.intro hd60 (Goes.go M.out hb))
             clear hb hd60
             go_upto_region 23 with fail
             obtain ⟨w42, hv⟩ : ∃ w_ : World, w_ = (w41.alloc (.cells #[.int .i64 (sg z59), .slice a_57 (ln z59) c_58] 24)) := ⟨_, rfl⟩
             rw [← hv]
             have o15 : w37.heap.size < w41.heap.size := ((M.out.2.2.1)).lt
             replace M := Lib.hid (And.intro (hv ▸ bx1 w41 24 #[.int .i64 (sg z59), .slice a_57 (ln z59) c_58]) (Goes.go M.out (hv ▸ below_alloc _ _ : Below w41.heap.size w41 w42)))
             clear hv
             obtain ⟨p11_0, q11_0, p11_1, q11_1⟩ := (M.out.2.2.2.2.2.1).c2
             obtain ⟨p13_0, q13_0, p13_1, q13_1⟩ := (M.out.2.2.2.1).c2
             go_wp2_with fail
             clear p11_0 q11_0 p11_1 q11_1 p13_0 q13_0 p13_1 q13_1
             refine (rsame_is (G := G) (x := z43) (y := z51) (b := true) (M.out.2.2.2.2.2.2.1) (M.out.2.2.2.2.1) (Sz.mono Sz43.out (by omega)) (Sz.mono Sz51.out (by omega)) (eqZ_of (by rw [Ez51.out, Ez47.out, Ez43.out, Ez23.out, Ez11.out] <;> grind))).mono ?_
             rintro e w43 ⟨rfl, hb⟩
             replace M := Lib.hid (Goes.go M.out hb)
             clear hb
             obtain ⟨p15_0, q15_0, p15_1, q15_1⟩ := (M.out.1).c2
             obtain ⟨p0_0, q0_0, p0_1, q0_1⟩ := (M.out.2.2.2.2.2.2.2.1).c2
             go_wp2_with fail
             clear p15_0 q15_0 p15_1 q15_1 p0_0 q0_0 p0_1 q0_1
             replace M := Lib.hid (And.intro (M.out.2.1) (And.intro (M.out.2.2.2.2.2.2.2.1) (M.out.2.2.2.2.2.2.2.2)))
             refine (rsame_is (G := G) (x := z59) (y := x) (b := true) (M.out.1) (H1.out.keep (M.out.2.2)) (Sz.mono Sz59.out (by omega)) (Sz.mono HX.out (by omega)) (eqZ_of (by rw [Ez59.out, Ez55.out] <;> grind))).mono ?_
             rintro e w44 ⟨rfl, hb⟩
             replace M := Lib.hid (Goes.go M.out hb)
             clear hb
             go_wp2_with fail
             obtain ⟨w45, hv⟩ : ∃ w_ : World, w_ = w44.drew := ⟨_, rfl⟩
             replace M := Lib.hid (Goes.go M.out (hv ▸ below_drew _ : Below w44.heap.size w44 w45))
             refine wp_region_held_drew (S := (fun w' => w'.cell? ⟨w.heap.size, 0, none⟩ = some (.int .i64 (sg x)) ∧ w'.cell? ⟨w.heap.size, 1, none⟩ = some (.slice a1 (ln x) c1))) (by kernel_rfl) (by rw [← hv]; exact ⟨(M.out.2.1).at.1 0, (M.out.2.1).at.1 1⟩) (fun hH68 => ?_)
             rw [← hv] at hH68 ⊢
             clear hv
             refine tk at0 ?_
             refine wpAnyH_ready (rs := [1, 6]) (by kernel_rfl) (by simp) ?_
             refine AllReadyH.cons at1 (fun K hK => ?_) ?_
             ·
               go_simp
               refine (bigOf_ok (G := G) 0 _ (by omega)).mono ?_
               rintro e w46 ⟨a_69, c_70, rfl, hd71, hb⟩
               replace M := Lib.hid (And.intro hd71 (Goes.go M.out hb))
               clear hb hd71
               (try go_wp2_with fail)
               refine hK.out _ _ (⟨(M.out.2.2.1).at.1 0, (M.out.2.2.1).at.1 1⟩) (fun hH72 => ?_)
               clear hK K hH68
               (try simp only [Act.put, List.setIfInBounds_toArray, List.set_cons_zero, List.set_cons_succ])
               refine wpAnyH_ready (rs := [2, 6]) (by kernel_rfl) (by simp) ?_
               refine AllReadyH.cons at2 (fun K hK => ?_) ?_
               ·
                 go_simp
                 obtain ⟨z75, ez75⟩ : ∃ v_ : Int, v_ = (x + 0) := ⟨_, rfl⟩
                 refine (bigAdd_ok (G := G) (x := x) (y := 0) (H1.out.keep (M.out.2.2.2)) (M.out.1) (Sz.mono HX.out (by omega)) (Sz.mono (show Sz (0) 0 from by unfold Sz; decide) (by omega))).mono ?_
                 rintro e w47 ⟨a_73, c_74, rfl, hd76, hb⟩
                 rw [← ez75] at hd76 ⊢
                 have Sz75 : Hid (Sz z75 26) := by show Sz z75 26; rw [ez75]; exact (Sz.add HX.out (Sz.mono (show Sz (0) 0 from by unfold Sz; decide) (by omega)))
                 have Ez75 := Lib.hid ez75; clear ez75
                 replace M := Lib.hid (And.intro hd76 (Goes.go M.out hb))
                 clear hb hd76
                 (try go_wp2_with fail)
                 refine hK.out _ _ (⟨(M.out.2.2.2.1).at.1 0, (M.out.2.2.2.1).at.1 1⟩) (fun hH77 => ?_)
                 clear hK K hH72
                 (try simp only [Act.put, List.setIfInBounds_toArray, List.set_cons_zero, List.set_cons_succ])
                 refine tk at3 ?_
                 refine tk at4 ?_
                 refine tk at5 ?_
                 refine wpAnyH_ready (rs := [6]) (by kernel_rfl) (by simp) ?_
                 refine AllReadyH.cons at6 (fun K hK => ?_) AllReadyH.nil
                 go_simp
                 obtain ⟨w48, hv⟩ : ∃ w_ : World, w_ = (w47.alloc (.cells #[.int .i64 0, .slice none 0 0] 24)) := ⟨_, rfl⟩
                 rw [← hv]
                 have o16 : w.heap.size < w47.heap.size := ((M.out.2.2.2.1)).lt
                 replace M := Lib.hid (And.intro (hv ▸ bx1 w47 24 #[.int .i64 0, .slice none 0 0]) (Goes.go M.out (hv ▸ below_alloc _ _ : Below w47.heap.size w47 w48)))
                 clear hv
                 refine hK.out _ _ (⟨(M.out.2.2.2.2.1).at.1 0, (M.out.2.2.2.2.1).at.1 1⟩) (fun hH78 => ?_)
                 clear hK K hH77
                 (try simp only [Act.put, List.setIfInBounds_toArray, List.set_cons_zero, List.set_cons_succ])
                 refine wpAnyH_ready (rs := [7]) (by kernel_rfl) (by simp) ?_
                 refine AllReadyH.cons at7 (fun K hK => ?_) AllReadyH.nil
                 obtain ⟨p16_0, q16_0, p16_1, q16_1⟩ := (M.out.1).c2
                 go_simp
                 clear p16_0 q16_0 p16_1 q16_1
                 obtain ⟨w49, hv⟩ : ∃ w_ : World, w_ = ((w48.setCell ⟨w47.heap.size, 0, none⟩ (.int .i64 (sg z75))).setCell ⟨w47.heap.size, 1, none⟩ (.slice a_73 (ln z75) c_74)) := ⟨_, rfl⟩
                 rw [← hv]
                 have og : w48.grownBy w49 (some w47.heap.size) := by rw [hv]; exact (only_setCell (only_setCell (World.grownBy.refl _ _) _) _)
                 have hz : w.heap.size ≤ w47.heap.size := by omega
                 have hk : Bx w49 w47.heap.size 24 #[.int .i64 (sg z75), .slice a_73 (ln z75) c_74] := by rw [hv]; exact (((M.out.1).set 0 _).set 1 _)
                 have hbw : Below w.heap.size w w49 := by rw [hv]; exact (Below.setCell (Below.setCell (M.out.2.2.2.2.2) (by omega) _) (by omega) _)
                 replace M := Lib.hid (And.intro hk (And.intro ((M.out.2.1).far (M.out.1) (by rfl) (by omega) og) (And.intro ((M.out.2.2.1).far (M.out.1) (by rfl) (by omega) og) (And.intro ((M.out.2.2.2.1).far (M.out.1) (by rfl) (by omega) og) (And.intro ((M.out.2.2.2.2.1).only og (by omega)) hbw)))))
                 clear hk hbw og hv hz
                 refine hK.out _ _ (⟨(M.out.2.2.2.2.1).at.1 0, (M.out.2.2.2.2.1).at.1 1⟩) (fun hH79 => ?_)
                 clear hK K hH78
                 (try simp only [Act.put, List.setIfInBounds_toArray, List.set_cons_zero, List.set_cons_succ])
                 refine tk at8 ?_
                 refine wpAnyH_done (by kernel_rfl) ?_ _
                 clear hH79
                 go_upto_region 26 with fail
                 as_aux_lemma =>
                  go_wp2_with fail
                  obtain ⟨w50, hv⟩ : ∃ w_ : World, w_ = w49.drew := ⟨_, rfl⟩
                  replace M := Lib.hid (Goes.go M.out (hv ▸ below_drew _ : Below w49.heap.size w49 w50))
                  refine wp_region_held_drew (S := (fun w' => w'.cell? ⟨w.heap.size, 0, none⟩ = some (.int .i64 (sg x)) ∧ w'.cell? ⟨w.heap.size, 1, none⟩ = some (.slice a1 (ln x) c1))) (by kernel_rfl) (by rw [← hv]; exact ⟨(M.out.2.2.2.2.1).at.1 0, (M.out.2.2.2.2.1).at.1 1⟩) (fun hH87 => ?_)
                  rw [← hv] at hH87 ⊢
                  clear hv
                  refine tk at0 ?_
                  refine wpAnyH_ready (rs := [1, 6]) (by kernel_rfl) (by simp) ?_
                  refine AllReadyH.cons at1 (fun K hK => ?_) ?_
                  ·
                    go_simp
                    refine (bigOf_ok (G := G) 1 _ (by omega)).mono ?_
                    rintro e w51 ⟨a_88, c_89, rfl, hd90, hb⟩
                    replace M := Lib.hid (And.intro hd90 (Goes.go M.out hb))
                    clear hb hd90
                    (try go_wp2_with fail)
                    refine hK.out _ _ (⟨(M.out.2.2.2.2.2.1).at.1 0, (M.out.2.2.2.2.2.1).at.1 1⟩) (fun hH91 => ?_)
                    clear hK K hH87
                    (try simp only [Act.put, List.setIfInBounds_toArray, List.set_cons_zero, List.set_cons_succ])
                    refine wpAnyH_ready (rs := [2, 6]) (by kernel_rfl) (by simp) ?_
                    refine AllReadyH.cons at2 (fun K hK => ?_) ?_
                    ·
                      go_simp
                      obtain ⟨z94, ez94⟩ : ∃ v_ : Int, v_ = (x * 1) := ⟨_, rfl⟩
                      refine (bigMul_ok (G := G) (x := x) (y := 1) (H1.out.keep (M.out.2.2.2.2.2.2)) (M.out.1) (Sz.mono HX.out (by omega)) (Sz.mono (show Sz (1) 1 from by unfold Sz; decide) (by omega))).mono ?_
                      rintro e w52 ⟨a_92, c_93, rfl, hd95, hb⟩
                      rw [← ez94] at hd95 ⊢
                      have Sz94 : Hid (Sz z94 26) := by show Sz z94 26; rw [ez94]; exact (Sz.mul HX.out (show Sz (1) 1 from by unfold Sz; decide))
                      have Ez94 := Lib.hid ez94; clear ez94
                      replace M := Lib.hid (And.intro hd95 (Goes.go M.out hb))
                      clear hb hd95
                      (try go_wp2_with fail)
                      refine hK.out _ _ (⟨(M.out.2.2.2.2.2.2.1).at.1 0, (M.out.2.2.2.2.2.2.1).at.1 1⟩) (fun hH96 => ?_)
                      clear hK K hH91
                      (try simp only [Act.put, List.setIfInBounds_toArray, List.set_cons_zero, List.set_cons_succ])
                      refine tk at3 ?_
                      refine tk at4 ?_
                      refine tk at5 ?_
                      refine wpAnyH_ready (rs := [6]) (by kernel_rfl) (by simp) ?_
                      refine AllReadyH.cons at6 (fun K hK => ?_) AllReadyH.nil
                      go_simp
                      obtain ⟨w53, hv⟩ : ∃ w_ : World, w_ = (w52.alloc (.cells #[.int .i64 0, .slice none 0 0] 24)) := ⟨_, rfl⟩
                      rw [← hv]
                      have o17 : w47.heap.size < w52.heap.size := ((M.out.2.2.1)).lt
                      replace M := Lib.hid (And.intro (hv ▸ bx1 w52 24 #[.int .i64 0, .slice none 0 0]) (Goes.go M.out (hv ▸ below_alloc _ _ : Below w52.heap.size w52 w53)))
                      clear hv
                      refine hK.out _ _ (⟨(M.out.2.2.2.2.2.2.2.1).at.1 0, (M.out.2.2.2.2.2.2.2.1).at.1 1⟩) (fun hH97 => ?_)
                      clear hK K hH96
                      (try simp only [Act.put, List.setIfInBounds_toArray, List.set_cons_zero, List.set_cons_succ])
                      refine wpAnyH_ready (rs := [7]) (by kernel_rfl) (by simp) ?_
                      refine AllReadyH.cons at7 (fun K hK => ?_) AllReadyH.nil
                      obtain ⟨p17_0, q17_0, p17_1, q17_1⟩ := (M.out.1).c2
                      go_simp
                      clear p17_0 q17_0 p17_1 q17_1
                      obtain ⟨w54, hv⟩ : ∃ w_ : World, w_ = ((w53.setCell ⟨w52.heap.size, 0, none⟩ (.int .i64 (sg z94))).setCell ⟨w52.heap.size, 1, none⟩ (.slice a_92 (ln z94) c_93)) := ⟨_, rfl⟩
                      rw [← hv]
                      have og : w53.grownBy w54 (some w52.heap.size) := by rw [hv]; exact (only_setCell (only_setCell (World.grownBy.refl _ _) _) _)
                      have hz : w.heap.size ≤ w52.heap.size := by omega
                      have hk : Bx w54 w52.heap.size 24 #[.int .i64 (sg z94), .slice a_92 (ln z94) c_93] := by rw [hv]; exact (((M.out.1).set 0 _).set 1 _)
                      have hbw : Below w.heap.size w w54 := by rw [hv]; exact (Below.setCell (Below.setCell (M.out.2.2.2.2.2.2.2.2) (by omega) _) (by omega) _)
                      replace M := Lib.hid (And.intro hk (And.intro ((M.out.2.1).far (M.out.1) (by rfl) (by omega) og) (And.intro ((M.out.2.2.1).far (M.out.1) (by rfl) (by omega) og) (And.intro ((M.out.2.2.2.1).only og (by omega)) (And.intro ((M.out.2.2.2.2.1).far (M.out.1) (by rfl) (by omega) og) (And.intro ((M.out.2.2.2.2.2.1).far (M.out.1) (by rfl) (by omega) og) (And.intro ((M.out.2.2.2.2.2.2.1).far (M.out.1) (by rfl) (by omega) og) (And.intro ((M.out.2.2.2.2.2.2.2.1).only og (by omega)) hbw))))))))
                      clear hk hbw og hv hz
                      refine hK.out _ _ (⟨(M.out.2.2.2.2.2.2.2.1).at.1 0, (M.out.2.2.2.2.2.2.2.1).at.1 1⟩) (fun hH98 => ?_)
                      clear hK K hH97
                      (try simp only [Act.put, List.setIfInBounds_toArray, List.set_cons_zero, List.set_cons_succ])
                      refine tk at8 ?_
                      refine wpAnyH_done (by kernel_rfl) ?_ _
                      clear hH98
                      go_wp2_with fail
                      obtain ⟨w55, hv⟩ : ∃ w_ : World, w_ = w54.drew := ⟨_, rfl⟩
                      replace M := Lib.hid (Goes.go M.out (hv ▸ below_drew _ : Below w54.heap.size w54 w55))
                      refine wp_region_held_drew (S := (fun w' => w'.cell? ⟨w.heap.size, 0, none⟩ = some (.int .i64 (sg x)) ∧ w'.cell? ⟨w.heap.size, 1, none⟩ = some (.slice a1 (ln x) c1))) (by kernel_rfl) (by rw [← hv]; exact ⟨(M.out.2.2.2.2.2.2.2.1).at.1 0, (M.out.2.2.2.2.2.2.2.1).at.1 1⟩) (fun hH106 => ?_)
                      rw [← hv] at hH106 ⊢
                      clear hv
                      refine tk at0 ?_
                      refine wpAnyH_ready (rs := [1, 6]) (by kernel_rfl) (by simp) ?_
                      refine AllReadyH.cons at1 (fun K hK => ?_) ?_
                      ·
                        go_simp
                        refine (bigOf_ok (G := G) 0 _ (by omega)).mono ?_
                        rintro e w56 ⟨a_107, c_108, rfl, hd109, hb⟩
                        replace M := Lib.hid (And.intro hd109 (Goes.go M.out hb))
                        clear hb hd109
                        (try go_wp2_with fail)
                        refine hK.out _ _ (⟨(M.out.2.2.2.2.2.2.2.2.1).at.1 0, (M.out.2.2.2.2.2.2.2.2.1).at.1 1⟩) (fun hH110 => ?_)
                        clear hK K hH106
                        (try simp only [Act.put, List.setIfInBounds_toArray, List.set_cons_zero, List.set_cons_succ])
                        refine wpAnyH_ready (rs := [2, 6]) (by kernel_rfl) (by simp) ?_
                        refine AllReadyH.cons at2 (fun K hK => ?_) ?_
                        ·
                          go_simp
                          obtain ⟨z113, ez113⟩ : ∃ v_ : Int, v_ = (x * 0) := ⟨_, rfl⟩
                          refine (bigMul_ok (G := G) (x := x) (y := 0) (H1.out.keep (M.out.2.2.2.2.2.2.2.2.2)) (M.out.1) (Sz.mono HX.out (by omega)) (Sz.mono (show Sz (0) 0 from by unfold Sz; decide) (by omega))).mono ?_
                          rintro e w57 ⟨a_111, c_112, rfl, hd114, hb⟩
                          rw [← ez113] at hd114 ⊢
                          have Sz113 : Hid (Sz z113 25) := by show Sz z113 25; rw [ez113]; exact (Sz.mul HX.out (show Sz (0) 0 from by unfold Sz; decide))
                          have Ez113 := Lib.hid ez113; clear ez113
                          replace M := Lib.hid (And.intro hd114 (Goes.go M.out hb))
                          clear hb hd114
                          (try go_wp2_with fail)
                          refine hK.out _ _ (⟨(M.out.2.2.2.2.2.2.2.2.2.1).at.1 0, (M.out.2.2.2.2.2.2.2.2.2.1).at.1 1⟩) (fun hH115 => ?_)
                          clear hK K hH110
                          (try simp only [Act.put, List.setIfInBounds_toArray, List.set_cons_zero, List.set_cons_succ])
                          refine tk at3 ?_
                          refine tk at4 ?_
                          refine tk at5 ?_
                          refine wpAnyH_ready (rs := [6]) (by kernel_rfl) (by simp) ?_
                          refine AllReadyH.cons at6 (fun K hK => ?_) AllReadyH.nil
                          go_simp
                          obtain ⟨w58, hv⟩ : ∃ w_ : World, w_ = (w57.alloc (.cells #[.int .i64 0, .slice none 0 0] 24)) := ⟨_, rfl⟩
                          rw [← hv]
                          have o18 : w52.heap.size < w57.heap.size := ((M.out.2.2.1)).lt
                          replace M := Lib.hid (And.intro (hv ▸ bx1 w57 24 #[.int .i64 0, .slice none 0 0]) (Goes.go M.out (hv ▸ below_alloc _ _ : Below w57.heap.size w57 w58)))
                          clear hv
                          refine hK.out _ _ (⟨(M.out.2.2.2.2.2.2.2.2.2.2.1).at.1 0, (M.out.2.2.2.2.2.2.2.2.2.2.1).at.1 1⟩) (fun hH116 => ?_)
                          clear hK K hH115
                          (try simp only [Act.put, List.setIfInBounds_toArray, List.set_cons_zero, List.set_cons_succ])
                          refine wpAnyH_ready (rs := [7]) (by kernel_rfl) (by simp) ?_
                          refine AllReadyH.cons at7 (fun K hK => ?_) AllReadyH.nil
                          obtain ⟨p18_0, q18_0, p18_1, q18_1⟩ := (M.out.1).c2
                          go_simp
                          clear p18_0 q18_0 p18_1 q18_1
                          obtain ⟨w59, hv⟩ : ∃ w_ : World, w_ = ((w58.setCell ⟨w57.heap.size, 0, none⟩ (.int .i64 (sg z113))).setCell ⟨w57.heap.size, 1, none⟩ (.slice a_111 (ln z113) c_112)) := ⟨_, rfl⟩
                          rw [← hv]
                          have og : w58.grownBy w59 (some w57.heap.size) := by rw [hv]; exact (only_setCell (only_setCell (World.grownBy.refl _ _) _) _)
                          have hz : w.heap.size ≤ w57.heap.size := by omega
                          have hk : Bx w59 w57.heap.size 24 #[.int .i64 (sg z113), .slice a_111 (ln z113) c_112] := by rw [hv]; exact (((M.out.1).set 0 _).set 1 _)
                          have hbw : Below w.heap.size w w59 := by rw [hv]; exact (Below.setCell (Below.setCell (M.out.2.2.2.2.2.2.2.2.2.2.2) (by omega) _) (by omega) _)
                          replace M := Lib.hid (And.intro hk (And.intro ((M.out.2.1).far (M.out.1) (by rfl) (by omega) og) (And.intro ((M.out.2.2.1).far (M.out.1) (by rfl) (by omega) og) (And.intro ((M.out.2.2.2.1).only og (by omega)) (And.intro ((M.out.2.2.2.2.1).far (M.out.1) (by rfl) (by omega) og) (And.intro ((M.out.2.2.2.2.2.1).far (M.out.1) (by rfl) (by omega) og) (And.intro ((M.out.2.2.2.2.2.2.1).only og (by omega)) (And.intro ((M.out.2.2.2.2.2.2.2.1).far (M.out.1) (by rfl) (by omega) og) (And.intro ((M.out.2.2.2.2.2.2.2.2.1).far (M.out.1) (by rfl) (by omega) og) (And.intro ((M.out.2.2.2.2.2.2.2.2.2.1).far (M.out.1) (by rfl) (by omega) og) (And.intro ((M.out.2.2.2.2.2.2.2.2.2.2.1).only og (by omega)) hbw)))))))))))
                          clear hk hbw og hv hz
                          refine hK.out _ _ (⟨(M.out.2.2.2.2.2.2.2.2.2.2.1).at.1 0, (M.out.2.2.2.2.2.2.2.2.2.2.1).at.1 1⟩) (fun hH117 => ?_)
                          clear hK K hH116
                          (try simp only [Act.put, List.setIfInBounds_toArray, List.set_cons_zero, List.set_cons_succ])
                          refine tk at8 ?_
                          refine wpAnyH_done (by kernel_rfl) ?_ _
                          clear hH117
                          obtain ⟨p16_0, q16_0, p16_1, q16_1⟩ := (M.out.2.2.2.2.2.2.1).c2
                          obtain ⟨p0_0, q0_0, p0_1, q0_1⟩ := (M.out.2.2.2.2.2.2.2.2.2.2.1).c2
                          go_wp2_with fail
                          clear p16_0 q16_0 p16_1 q16_1 p0_0 q0_0 p0_1 q0_1
                          replace M := Lib.hid (And.intro (M.out.1) (And.intro (M.out.2.1) (And.intro (M.out.2.2.2.1) (And.intro (M.out.2.2.2.2.1) (And.intro (M.out.2.2.2.2.2.2.2.1) (And.intro (M.out.2.2.2.2.2.2.2.2.2.2.1) (M.out.2.2.2.2.2.2.2.2.2.2.2)))))))
                          refine (rsame_is (G := G) (x := z75) (y := x) (b := true) (M.out.2.2.2.2.1) (H1.out.keep (M.out.2.2.2.2.2.2)) (Sz.mono Sz75.out (by omega)) (Sz.mono HX.out (by omega)) (eqZ_of (by rw [Ez75.out] <;> grind))).mono ?_
                          rintro e w60 ⟨rfl, hb⟩
                          replace M := Lib.hid (Goes.go M.out hb)
                          clear hb
                          obtain ⟨p17_0, q17_0, p17_1, q17_1⟩ := (M.out.2.2.1).c2
                          obtain ⟨p0_0, q0_0, p0_1, q0_1⟩ := (M.out.2.2.2.2.2.1).c2
                          go_wp2_with fail
                          clear p17_0 q17_0 p17_1 q17_1 p0_0 q0_0 p0_1 q0_1
                          refine (rsame_is (G := G) (x := z94) (y := x) (b := true) (M.out.2.2.2.1) (H1.out.keep (M.out.2.2.2.2.2.2)) (Sz.mono Sz94.out (by omega)) (Sz.mono HX.out (by omega)) (eqZ_of (by rw [Ez94.out] <;> grind))).mono ?_
                          rintro e w61 ⟨rfl, hb⟩
                          replace M := Lib.hid (Goes.go M.out hb)
                          clear hb
                          obtain ⟨p18_0, q18_0, p18_1, q18_1⟩ := (M.out.1).c2
                          go_wp2_with fail
                          clear p18_0 q18_0 p18_1 q18_1
                          replace M := Lib.hid (And.intro (M.out.2.1) (M.out.2.2.2.2.2.2))
                          refine (rsame_is (G := G) (x := z113) (y := 0) (b := true) (M.out.1) (bd_zero _ _ _) (Sz.mono Sz113.out (by omega)) (Sz.mono (show Sz (0) 0 from by unfold Sz; decide) (by omega)) (eqZ_of (by rw [Ez113.out] <;> grind))).mono ?_
                          rintro e w62 ⟨rfl, hb⟩
                          replace M := Lib.hid (Goes.go M.out hb)
                          clear hb
                          go_wp2_with fail
                          go_ret
                          exact ⟨rfl, (M.out.2)⟩
                        refine AllReadyH.cons at6 (fun K hK => ?_) AllReadyH.nil
                        go_simp
                        obtain ⟨w57, hv⟩ : ∃ w_ : World, w_ = (w56.alloc (.cells #[.int .i64 0, .slice none 0 0] 24)) := ⟨_, rfl⟩
                        rw [← hv]
                        have o18 : w52.heap.size < w56.heap.size := ((M.out.2.1)).lt
                        replace M := Lib.hid (And.intro (hv ▸ bx1 w56 24 #[.int .i64 0, .slice none 0 0]) (Goes.go M.out (hv ▸ below_alloc _ _ : Below w56.heap.size w56 w57)))
                        clear hv
                        refine hK.out _ _ (⟨(M.out.2.2.2.2.2.2.2.2.2.1).at.1 0, (M.out.2.2.2.2.2.2.2.2.2.1).at.1 1⟩) (fun hH118 => ?_)
                        clear hK K hH110
                        (try simp only [Act.put, List.setIfInBounds_toArray, List.set_cons_zero, List.set_cons_succ])
                        refine wpAnyH_ready (rs := [2]) (by kernel_rfl) (by simp) ?_
                        refine AllReadyH.cons at2 (fun K hK => ?_) AllReadyH.nil
                        go_simp
                        obtain ⟨z121, ez121⟩ : ∃ v_ : Int, v_ = (x * 0) := ⟨_, rfl⟩
                        refine (bigMul_ok (G := G) (x := x) (y := 0) (H1.out.keep (M.out.2.2.2.2.2.2.2.2.2.2)) (M.out.2.1) (Sz.mono HX.out (by omega)) (Sz.mono (show Sz (0) 0 from by unfold Sz; decide) (by omega))).mono ?_
                        rintro e w58 ⟨a_119, c_120, rfl, hd122, hb⟩
                        rw [← ez121] at hd122 ⊢
                        have Sz121 : Hid (Sz z121 25) := by show Sz z121 25; rw [ez121]; exact (Sz.mul HX.out (show Sz (0) 0 from by unfold Sz; decide))
                        have Ez121 := Lib.hid ez121; clear ez121
                        replace M := Lib.hid (And.intro hd122 (Goes.go M.out hb))
                        clear hb hd122
                        (try go_wp2_with fail)
                        refine hK.out _ _ (⟨(M.out.2.2.2.2.2.2.2.2.2.2.1).at.1 0, (M.out.2.2.2.2.2.2.2.2.2.2.1).at.1 1⟩) (fun hH123 => ?_)
                        clear hK K hH118
                        (try simp only [Act.put, List.setIfInBounds_toArray, List.set_cons_zero, List.set_cons_succ])
                        refine tk at3 ?_
                        refine tk at4 ?_
                        refine tk at5 ?_
                        refine wpAnyH_ready (rs := [7]) (by kernel_rfl) (by simp) ?_
                        refine AllReadyH.cons at7 (fun K hK => ?_) AllReadyH.nil
                        obtain ⟨p18_0, q18_0, p18_1, q18_1⟩ := (M.out.2.1).c2
                        go_simp
                        clear p18_0 q18_0 p18_1 q18_1
                        obtain ⟨w59, hv⟩ : ∃ w_ : World, w_ = ((w58.setCell ⟨w56.heap.size, 0, none⟩ (.int .i64 (sg z121))).setCell ⟨w56.heap.size, 1, none⟩ (.slice a_119 (ln z121) c_120)) := ⟨_, rfl⟩
                        rw [← hv]
                        have og : w58.grownBy w59 (some w56.heap.size) := by rw [hv]; exact (only_setCell (only_setCell (World.grownBy.refl _ _) _) _)
                        have hz : w.heap.size ≤ w56.heap.size := by omega
                        have hk : Bx w59 w56.heap.size 24 #[.int .i64 (sg z121), .slice a_119 (ln z121) c_120] := by rw [hv]; exact (((M.out.2.1).set 0 _).set 1 _)
                        have hbw : Below w.heap.size w w59 := by rw [hv]; exact (Below.setCell (Below.setCell (M.out.2.2.2.2.2.2.2.2.2.2.2) (by omega) _) (by omega) _)
                        replace M := Lib.hid (And.intro ((M.out.1).far (M.out.2.1) (by rfl) (by omega) og) (And.intro hk (And.intro ((M.out.2.2.1).far (M.out.2.1) (by rfl) (by omega) og) (And.intro ((M.out.2.2.2.1).only og (by omega)) (And.intro ((M.out.2.2.2.2.1).far (M.out.2.1) (by rfl) (by omega) og) (And.intro ((M.out.2.2.2.2.2.1).far (M.out.2.1) (by rfl) (by omega) og) (And.intro ((M.out.2.2.2.2.2.2.1).only og (by omega)) (And.intro ((M.out.2.2.2.2.2.2.2.1).far (M.out.2.1) (by rfl) (by omega) og) (And.intro ((M.out.2.2.2.2.2.2.2.2.1).far (M.out.2.1) (by rfl) (by omega) og) (And.intro ((M.out.2.2.2.2.2.2.2.2.2.1).far (M.out.2.1) (by rfl) (by omega) og) (And.intro ((M.out.2.2.2.2.2.2.2.2.2.2.1).only og (by omega)) hbw)))))))))))
                        clear hk hbw og hv hz
                        refine hK.out _ _ (⟨(M.out.2.2.2.2.2.2.2.2.2.2.1).at.1 0, (M.out.2.2.2.2.2.2.2.2.2.2.1).at.1 1⟩) (fun hH124 => ?_)
                        clear hK K hH123
                        (try simp only [Act.put, List.setIfInBounds_toArray, List.set_cons_zero, List.set_cons_succ])
                        refine tk at8 ?_
                        refine wpAnyH_done (by kernel_rfl) ?_ _
                        clear hH124
                        obtain ⟨p16_0, q16_0, p16_1, q16_1⟩ := (M.out.2.2.2.2.2.2.1).c2
                        obtain ⟨p0_0, q0_0, p0_1, q0_1⟩ := (M.out.2.2.2.2.2.2.2.2.2.2.1).c2
                        go_wp2_with fail
                        clear p16_0 q16_0 p16_1 q16_1 p0_0 q0_0 p0_1 q0_1
                        replace M := Lib.hid (And.intro (M.out.1) (And.intro (M.out.2.1) (And.intro (M.out.2.2.2.1) (And.intro (M.out.2.2.2.2.1) (And.intro (M.out.2.2.2.2.2.2.2.1) (And.intro (M.out.2.2.2.2.2.2.2.2.2.2.1) (M.out.2.2.2.2.2.2.2.2.2.2.2)))))))
                        refine (rsame_is (G := G) (x := z75) (y := x) (b := true) (M.out.2.2.2.2.1) (H1.out.keep (M.out.2.2.2.2.2.2)) (Sz.mono Sz75.out (by omega)) (Sz.mono HX.out (by omega)) (eqZ_of (by rw [Ez75.out] <;> grind))).mono ?_
                        rintro e w60 ⟨rfl, hb⟩
                        replace M := Lib.hid (Goes.go M.out hb)
                        clear hb
                        obtain ⟨p17_0, q17_0, p17_1, q17_1⟩ := (M.out.2.2.1).c2
                        obtain ⟨p0_0, q0_0, p0_1, q0_1⟩ := (M.out.2.2.2.2.2.1).c2
                        go_wp2_with fail
                        clear p17_0 q17_0 p17_1 q17_1 p0_0 q0_0 p0_1 q0_1
                        refine (rsame_is (G := G) (x := z94) (y := x) (b := true) (M.out.2.2.2.1) (H1.out.keep (M.out.2.2.2.2.2.2)) (Sz.mono Sz94.out (by omega)) (Sz.mono HX.out (by omega)) (eqZ_of (by rw [Ez94.out] <;> grind))).mono ?_
                        rintro e w61 ⟨rfl, hb⟩
                        replace M := Lib.hid (Goes.go M.out hb)
                        clear hb
                        obtain ⟨p18_0, q18_0, p18_1, q18_1⟩ := (M.out.2.1).c2
                        go_wp2_with fail
                        clear p18_0 q18_0 p18_1 q18_1
                        replace M := Lib.hid (And.intro (M.out.1) (M.out.2.2.2.2.2.2))
                        refine (rsame_is (G := G) (x := z121) (y := 0) (b := true) (M.out.1) (bd_zero _ _ _) (Sz.mono Sz121.out (by omega)) (Sz.mono (show Sz (0) 0 from by unfold Sz; decide) (by omega)) (eqZ_of (by rw [Ez121.out] <;> grind))).mono ?_
                        rintro e w62 ⟨rfl, hb⟩
                        replace M := Lib.hid (Goes.go M.out hb)
                        clear hb
                        go_wp2_with fail
                        go_ret
                        exact ⟨rfl, (M.out.2)⟩
                      refine AllReadyH.cons at6 (fun K hK => ?_) AllReadyH.nil
                      go_simp
                      obtain ⟨w56, hv⟩ : ∃ w_ : World, w_ = (w55.alloc (.cells #[.int .i64 0, .slice none 0 0] 24)) := ⟨_, rfl⟩
                      rw [← hv]
                      have o18 : w52.heap.size < w55.heap.size := ((M.out.1)).lt
                      replace M := Lib.hid (And.intro (hv ▸ bx1 w55 24 #[.int .i64 0, .slice none 0 0]) (Goes.go M.out (hv ▸ below_alloc _ _ : Below w55.heap.size w55 w56)))
                      clear hv
                      refine hK.out _ _ (⟨(M.out.2.2.2.2.2.2.2.2.1).at.1 0, (M.out.2.2.2.2.2.2.2.2.1).at.1 1⟩) (fun hH125 => ?_)
                      clear hK K hH106
                      (try simp only [Act.put, List.setIfInBounds_toArray, List.set_cons_zero, List.set_cons_succ])
                      refine wpAnyH_ready (rs := [1]) (by kernel_rfl) (by simp) ?_
                      refine AllReadyH.cons at1 (fun K hK => ?_) AllReadyH.nil
                      go_simp
                      refine (bigOf_ok (G := G) 0 _ (by omega)).mono ?_
                      rintro e w57 ⟨a_126, c_127, rfl, hd128, hb⟩
                      replace M := Lib.hid (And.intro hd128 (Goes.go M.out hb))
                      clear hb hd128
                      (try go_wp2_with fail)
                      refine hK.out _ _ (⟨(M.out.2.2.2.2.2.2.2.2.2.1).at.1 0, (M.out.2.2.2.2.2.2.2.2.2.1).at.1 1⟩) (fun hH129 => ?_)
                      clear hK K hH125
                      (try simp only [Act.put, List.setIfInBounds_toArray, List.set_cons_zero, List.set_cons_succ])
                      refine wpAnyH_ready (rs := [2]) (by kernel_rfl) (by simp) ?_
                      refine AllReadyH.cons at2 (fun K hK => ?_) AllReadyH.nil
                      go_simp
                      obtain ⟨z132, ez132⟩ : ∃ v_ : Int, v_ = (x * 0) := ⟨_, rfl⟩
                      refine (bigMul_ok (G := G) (x := x) (y := 0) (H1.out.keep (M.out.2.2.2.2.2.2.2.2.2.2)) (M.out.1) (Sz.mono HX.out (by omega)) (Sz.mono (show Sz (0) 0 from by unfold Sz; decide) (by omega))).mono ?_
                      rintro e w58 ⟨a_130, c_131, rfl, hd133, hb⟩
                      rw [← ez132] at hd133 ⊢
                      have Sz132 : Hid (Sz z132 25) := by show Sz z132 25; rw [ez132]; exact (Sz.mul HX.out (show Sz (0) 0 from by unfold Sz; decide))
                      have Ez132 := Lib.hid ez132; clear ez132
                      replace M := Lib.hid (And.intro hd133 (Goes.go M.out hb))
                      clear hb hd133
                      (try go_wp2_with fail)
                      refine hK.out _ _ (⟨(M.out.2.2.2.2.2.2.2.2.2.2.1).at.1 0, (M.out.2.2.2.2.2.2.2.2.2.2.1).at.1 1⟩) (fun hH134 => ?_)
                      clear hK K hH129
                      (try simp only [Act.put, List.setIfInBounds_toArray, List.set_cons_zero, List.set_cons_succ])
                      refine tk at3 ?_
                      refine tk at4 ?_
                      refine tk at5 ?_
                      refine wpAnyH_ready (rs := [7]) (by kernel_rfl) (by simp) ?_
                      refine AllReadyH.cons at7 (fun K hK => ?_) AllReadyH.nil
                      obtain ⟨p18_0, q18_0, p18_1, q18_1⟩ := (M.out.2.2.1).c2
                      go_simp
                      clear p18_0 q18_0 p18_1 q18_1
                      obtain ⟨w59, hv⟩ : ∃ w_ : World, w_ = ((w58.setCell ⟨w55.heap.size, 0, none⟩ (.int .i64 (sg z132))).setCell ⟨w55.heap.size, 1, none⟩ (.slice a_130 (ln z132) c_131)) := ⟨_, rfl⟩
                      rw [← hv]
                      have og : w58.grownBy w59 (some w55.heap.size) := by rw [hv]; exact (only_setCell (only_setCell (World.grownBy.refl _ _) _) _)
                      have hz : w.heap.size ≤ w55.heap.size := by omega
                      have hk : Bx w59 w55.heap.size 24 #[.int .i64 (sg z132), .slice a_130 (ln z132) c_131] := by rw [hv]; exact (((M.out.2.2.1).set 0 _).set 1 _)
                      have hbw : Below w.heap.size w w59 := by rw [hv]; exact (Below.setCell (Below.setCell (M.out.2.2.2.2.2.2.2.2.2.2.2) (by omega) _) (by omega) _)
                      replace M := Lib.hid (And.intro ((M.out.1).far (M.out.2.2.1) (by rfl) (by omega) og) (And.intro ((M.out.2.1).far (M.out.2.2.1) (by rfl) (by omega) og) (And.intro hk (And.intro ((M.out.2.2.2.1).only og (by omega)) (And.intro ((M.out.2.2.2.2.1).far (M.out.2.2.1) (by rfl) (by omega) og) (And.intro ((M.out.2.2.2.2.2.1).far (M.out.2.2.1) (by rfl) (by omega) og) (And.intro ((M.out.2.2.2.2.2.2.1).only og (by omega)) (And.intro ((M.out.2.2.2.2.2.2.2.1).far (M.out.2.2.1) (by rfl) (by omega) og) (And.intro ((M.out.2.2.2.2.2.2.2.2.1).far (M.out.2.2.1) (by rfl) (by omega) og) (And.intro ((M.out.2.2.2.2.2.2.2.2.2.1).far (M.out.2.2.1) (by rfl) (by omega) og) (And.intro ((M.out.2.2.2.2.2.2.2.2.2.2.1).only og (by omega)) hbw)))))))))))
                      clear hk hbw og hv hz
                      refine hK.out _ _ (⟨(M.out.2.2.2.2.2.2.2.2.2.2.1).at.1 0, (M.out.2.2.2.2.2.2.2.2.2.2.1).at.1 1⟩) (fun hH135 => ?_)
                      clear hK K hH134
                      (try simp only [Act.put, List.setIfInBounds_toArray, List.set_cons_zero, List.set_cons_succ])
                      refine tk at8 ?_
                      refine wpAnyH_done (by kernel_rfl) ?_ _
                      clear hH135
                      obtain ⟨p16_0, q16_0, p16_1, q16_1⟩ := (M.out.2.2.2.2.2.2.1).c2
                      obtain ⟨p0_0, q0_0, p0_1, q0_1⟩ := (M.out.2.2.2.2.2.2.2.2.2.2.1).c2
                      go_wp2_with fail
                      clear p16_0 q16_0 p16_1 q16_1 p0_0 q0_0 p0_1 q0_1
                      replace M := Lib.hid (And.intro (M.out.1) (And.intro (M.out.2.2.1) (And.intro (M.out.2.2.2.1) (And.intro (M.out.2.2.2.2.1) (And.intro (M.out.2.2.2.2.2.2.2.1) (And.intro (M.out.2.2.2.2.2.2.2.2.2.2.1) (M.out.2.2.2.2.2.2.2.2.2.2.2)))))))
                      refine (rsame_is (G := G) (x := z75) (y := x) (b := true) (M.out.2.2.2.2.1) (H1.out.keep (M.out.2.2.2.2.2.2)) (Sz.mono Sz75.out (by omega)) (Sz.mono HX.out (by omega)) (eqZ_of (by rw [Ez75.out] <;> grind))).mono ?_
                      rintro e w60 ⟨rfl, hb⟩
                      replace M := Lib.hid (Goes.go M.out hb)
                      clear hb
                      obtain ⟨p17_0, q17_0, p17_1, q17_1⟩ := (M.out.2.2.1).c2
                      obtain ⟨p0_0, q0_0, p0_1, q0_1⟩ := (M.out.2.2.2.2.2.1).c2
                      go_wp2_with fail
                      clear p17_0 q17_0 p17_1 q17_1 p0_0 q0_0 p0_1 q0_1
                      refine (rsame_is (G := G) (x := z94) (y := x) (b := true) (M.out.2.2.2.1) (H1.out.keep (M.out.2.2.2.2.2.2)) (Sz.mono Sz94.out (by omega)) (Sz.mono HX.out (by omega)) (eqZ_of (by rw [Ez94.out] <;> grind))).mono ?_
                      rintro e w61 ⟨rfl, hb⟩
                      replace M := Lib.hid (Goes.go M.out hb)
                      clear hb
                      obtain ⟨p18_0, q18_0, p18_1, q18_1⟩ := (M.out.2.1).c2
                      go_wp2_with fail
                      clear p18_0 q18_0 p18_1 q18_1
                      replace M := Lib.hid (And.intro (M.out.1) (M.out.2.2.2.2.2.2))
                      refine (rsame_is (G := G) (x := z132) (y := 0) (b := true) (M.out.1) (bd_zero _ _ _) (Sz.mono Sz132.out (by omega)) (Sz.mono (show Sz (0) 0 from by unfold Sz; decide) (by omega)) (eqZ_of (by rw [Ez132.out] <;> grind))).mono ?_
                      rintro e w62 ⟨rfl, hb⟩
                      replace M := Lib.hid (Goes.go M.out hb)
                      clear hb
                      go_wp2_with fail
                      go_ret
                      exact ⟨rfl, (M.out.2)⟩
                    refine AllReadyH.cons at6 (fun K hK => ?_) AllReadyH.nil
                    go_simp
                    obtain ⟨w52, hv⟩ : ∃ w_ : World, w_ = (w51.alloc (.cells #[.int .i64 0, .slice none 0 0] 24)) := ⟨_, rfl⟩
                    rw [← hv]
                    have o17 : w47.heap.size < w51.heap.size := ((M.out.2.1)).lt
                    replace M := Lib.hid (And.intro (hv ▸ bx1 w51 24 #[.int .i64 0, .slice none 0 0]) (Goes.go M.out (hv ▸ below_alloc _ _ : Below w51.heap.size w51 w52)))
                    clear hv
                    refine hK.out _ _ (⟨(M.out.2.2.2.2.2.2.1).at.1 0, (M.out.2.2.2.2.2.2.1).at.1 1⟩) (fun hH136 => ?_)
                    clear hK K hH91
                    (try simp only [Act.put, List.setIfInBounds_toArray, List.set_cons_zero, List.set_cons_succ])
                    refine wpAnyH_ready (rs := [2]) (by kernel_rfl) (by simp) ?_
                    refine AllReadyH.cons at2 (fun K hK => ?_) AllReadyH.nil
                    go_simp
                    obtain ⟨z139, ez139⟩ : ∃ v_ : Int, v_ = (x * 1) := ⟨_, rfl⟩
                    refine (bigMul_ok (G := G) (x := x) (y := 1) (H1.out.keep (M.out.2.2.2.2.2.2.2)) (M.out.2.1) (Sz.mono HX.out (by omega)) (Sz.mono (show Sz (1) 1 from by unfold Sz; decide) (by omega))).mono ?_
                    rintro e w53 ⟨a_137, c_138, rfl, hd140, hb⟩
                    rw [← ez139] at hd140 ⊢
                    have Sz139 : Hid (Sz z139 26) := by show Sz z139 26; rw [ez139]; exact (Sz.mul HX.out (show Sz (1) 1 from by unfold Sz; decide))
                    have Ez139 := Lib.hid ez139; clear ez139
                    replace M := Lib.hid (And.intro hd140 (Goes.go M.out hb))
                    clear hb hd140
                    (try go_wp2_with fail)
                    refine hK.out _ _ (⟨(M.out.2.2.2.2.2.2.2.1).at.1 0, (M.out.2.2.2.2.2.2.2.1).at.1 1⟩) (fun hH141 => ?_)
                    clear hK K hH136
                    (try simp only [Act.put, List.setIfInBounds_toArray, List.set_cons_zero, List.set_cons_succ])
                    refine tk at3 ?_
                    refine tk at4 ?_
                    refine tk at5 ?_
                    refine wpAnyH_ready (rs := [7]) (by kernel_rfl) (by simp) ?_
                    refine AllReadyH.cons at7 (fun K hK => ?_) AllReadyH.nil
                    obtain ⟨p17_0, q17_0, p17_1, q17_1⟩ := (M.out.2.1).c2
                    go_simp
                    clear p17_0 q17_0 p17_1 q17_1
                    obtain ⟨w54, hv⟩ : ∃ w_ : World, w_ = ((w53.setCell ⟨w51.heap.size, 0, none⟩ (.int .i64 (sg z139))).setCell ⟨w51.heap.size, 1, none⟩ (.slice a_137 (ln z139) c_138)) := ⟨_, rfl⟩
                    rw [← hv]
                    have og : w53.grownBy w54 (some w51.heap.size) := by rw [hv]; exact (only_setCell (only_setCell (World.grownBy.refl _ _) _) _)
                    have hz : w.heap.size ≤ w51.heap.size := by omega
                    have hk : Bx w54 w51.heap.size 24 #[.int .i64 (sg z139), .slice a_137 (ln z139) c_138] := by rw [hv]; exact (((M.out.2.1).set 0 _).set 1 _)
                    have hbw : Below w.heap.size w w54 := by rw [hv]; exact (Below.setCell (Below.setCell (M.out.2.2.2.2.2.2.2.2) (by omega) _) (by omega) _)
                    replace M := Lib.hid (And.intro ((M.out.1).far (M.out.2.1) (by rfl) (by omega) og) (And.intro hk (And.intro ((M.out.2.2.1).far (M.out.2.1) (by rfl) (by omega) og) (And.intro ((M.out.2.2.2.1).only og (by omega)) (And.intro ((M.out.2.2.2.2.1).far (M.out.2.1) (by rfl) (by omega) og) (And.intro ((M.out.2.2.2.2.2.1).far (M.out.2.1) (by rfl) (by omega) og) (And.intro ((M.out.2.2.2.2.2.2.1).far (M.out.2.1) (by rfl) (by omega) og) (And.intro ((M.out.2.2.2.2.2.2.2.1).only og (by omega)) hbw))))))))
                    clear hk hbw og hv hz
                    refine hK.out _ _ (⟨(M.out.2.2.2.2.2.2.2.1).at.1 0, (M.out.2.2.2.2.2.2.2.1).at.1 1⟩) (fun hH142 => ?_)
                    clear hK K hH141
                    (try simp only [Act.put, List.setIfInBounds_toArray, List.set_cons_zero, List.set_cons_succ])
                    refine tk at8 ?_
                    refine wpAnyH_done (by kernel_rfl) ?_ _
                    clear hH142
                    go_wp2_with fail
                    obtain ⟨w55, hv⟩ : ∃ w_ : World, w_ = w54.drew := ⟨_, rfl⟩
                    replace M := Lib.hid (Goes.go M.out (hv ▸ below_drew _ : Below w54.heap.size w54 w55))
                    refine wp_region_held_drew (S := (fun w' => w'.cell? ⟨w.heap.size, 0, none⟩ = some (.int .i64 (sg x)) ∧ w'.cell? ⟨w.heap.size, 1, none⟩ = some (.slice a1 (ln x) c1))) (by kernel_rfl) (by rw [← hv]; exact ⟨(M.out.2.2.2.2.2.2.2.1).at.1 0, (M.out.2.2.2.2.2.2.2.1).at.1 1⟩) (fun hH150 => ?_)
                    rw [← hv] at hH150 ⊢
                    clear hv
                    refine tk at0 ?_
                    refine wpAnyH_ready (rs := [1, 6]) (by kernel_rfl) (by simp) ?_
                    refine AllReadyH.cons at1 (fun K hK => ?_) ?_
                    ·
                      go_simp
                      refine (bigOf_ok (G := G) 0 _ (by omega)).mono ?_
                      rintro e w56 ⟨a_151, c_152, rfl, hd153, hb⟩
                      replace M := Lib.hid (And.intro hd153 (Goes.go M.out hb))
                      clear hb hd153
                      (try go_wp2_with fail)
                      refine hK.out _ _ (⟨(M.out.2.2.2.2.2.2.2.2.1).at.1 0, (M.out.2.2.2.2.2.2.2.2.1).at.1 1⟩) (fun hH154 => ?_)
                      clear hK K hH150
                      (try simp only [Act.put, List.setIfInBounds_toArray, List.set_cons_zero, List.set_cons_succ])
                      refine wpAnyH_ready (rs := [2, 6]) (by kernel_rfl) (by simp) ?_
                      refine AllReadyH.cons at2 (fun K hK => ?_) ?_
                      ·
                        go_simp
                        obtain ⟨z157, ez157⟩ : ∃ v_ : Int, v_ = (x * 0) := ⟨_, rfl⟩
                        refine (bigMul_ok (G := G) (x := x) (y := 0) (H1.out.keep (M.out.2.2.2.2.2.2.2.2.2)) (M.out.1) (Sz.mono HX.out (by omega)) (Sz.mono (show Sz (0) 0 from by unfold Sz; decide) (by omega))).mono ?_
                        rintro e w57 ⟨a_155, c_156, rfl, hd158, hb⟩
                        rw [← ez157] at hd158 ⊢
                        have Sz157 : Hid (Sz z157 25) := by show Sz z157 25; rw [ez157]; exact (Sz.mul HX.out (show Sz (0) 0 from by unfold Sz; decide))
                        have Ez157 := Lib.hid ez157; clear ez157
                        replace M := Lib.hid (And.intro hd158 (Goes.go M.out hb))
                        clear hb hd158
                        (try go_wp2_with fail)
                        refine hK.out _ _ (⟨(M.out.2.2.2.2.2.2.2.2.2.1).at.1 0, (M.out.2.2.2.2.2.2.2.2.2.1).at.1 1⟩) (fun hH159 => ?_)
                        clear hK K hH154
                        (try simp only [Act.put, List.setIfInBounds_toArray, List.set_cons_zero, List.set_cons_succ])
                        refine tk at3 ?_
                        refine tk at4 ?_
                        refine tk at5 ?_
                        refine wpAnyH_ready (rs := [6]) (by kernel_rfl) (by simp) ?_
                        refine AllReadyH.cons at6 (fun K hK => ?_) AllReadyH.nil
                        go_simp
                        obtain ⟨w58, hv⟩ : ∃ w_ : World, w_ = (w57.alloc (.cells #[.int .i64 0, .slice none 0 0] 24)) := ⟨_, rfl⟩
                        rw [← hv]
                        have o18 : w51.heap.size < w57.heap.size := ((M.out.2.2.2.1)).lt
                        replace M := Lib.hid (And.intro (hv ▸ bx1 w57 24 #[.int .i64 0, .slice none 0 0]) (Goes.go M.out (hv ▸ below_alloc _ _ : Below w57.heap.size w57 w58)))
                        clear hv
                        refine hK.out _ _ (⟨(M.out.2.2.2.2.2.2.2.2.2.2.1).at.1 0, (M.out.2.2.2.2.2.2.2.2.2.2.1).at.1 1⟩) (fun hH160 => ?_)
                        clear hK K hH159
                        (try simp only [Act.put, List.setIfInBounds_toArray, List.set_cons_zero, List.set_cons_succ])
                        refine wpAnyH_ready (rs := [7]) (by kernel_rfl) (by simp) ?_
                        refine AllReadyH.cons at7 (fun K hK => ?_) AllReadyH.nil
                        obtain ⟨p18_0, q18_0, p18_1, q18_1⟩ := (M.out.1).c2
                        go_simp
                        clear p18_0 q18_0 p18_1 q18_1
                        obtain ⟨w59, hv⟩ : ∃ w_ : World, w_ = ((w58.setCell ⟨w57.heap.size, 0, none⟩ (.int .i64 (sg z157))).setCell ⟨w57.heap.size, 1, none⟩ (.slice a_155 (ln z157) c_156)) := ⟨_, rfl⟩
                        rw [← hv]
                        have og : w58.grownBy w59 (some w57.heap.size) := by rw [hv]; exact (only_setCell (only_setCell (World.grownBy.refl _ _) _) _)
                        have hz : w.heap.size ≤ w57.heap.size := by omega
                        have hk : Bx w59 w57.heap.size 24 #[.int .i64 (sg z157), .slice a_155 (ln z157) c_156] := by rw [hv]; exact (((M.out.1).set 0 _).set 1 _)
                        have hbw : Below w.heap.size w w59 := by rw [hv]; exact (Below.setCell (Below.setCell (M.out.2.2.2.2.2.2.2.2.2.2.2) (by omega) _) (by omega) _)
                        replace M := Lib.hid (And.intro hk (And.intro ((M.out.2.1).far (M.out.1) (by rfl) (by omega) og) (And.intro ((M.out.2.2.1).far (M.out.1) (by rfl) (by omega) og) (And.intro ((M.out.2.2.2.1).far (M.out.1) (by rfl) (by omega) og) (And.intro ((M.out.2.2.2.2.1).only og (by omega)) (And.intro ((M.out.2.2.2.2.2.1).far (M.out.1) (by rfl) (by omega) og) (And.intro ((M.out.2.2.2.2.2.2.1).only og (by omega)) (And.intro ((M.out.2.2.2.2.2.2.2.1).far (M.out.1) (by rfl) (by omega) og) (And.intro ((M.out.2.2.2.2.2.2.2.2.1).far (M.out.1) (by rfl) (by omega) og) (And.intro ((M.out.2.2.2.2.2.2.2.2.2.1).far (M.out.1) (by rfl) (by omega) og) (And.intro ((M.out.2.2.2.2.2.2.2.2.2.2.1).only og (by omega)) hbw)))))))))))
                        clear hk hbw og hv hz
                        refine hK.out _ _ (⟨(M.out.2.2.2.2.2.2.2.2.2.2.1).at.1 0, (M.out.2.2.2.2.2.2.2.2.2.2.1).at.1 1⟩) (fun hH161 => ?_)
                        clear hK K hH160
                        (try simp only [Act.put, List.setIfInBounds_toArray, List.set_cons_zero, List.set_cons_succ])
                        refine tk at8 ?_
                        refine wpAnyH_done (by kernel_rfl) ?_ _
                        clear hH161
                        obtain ⟨p16_0, q16_0, p16_1, q16_1⟩ := (M.out.2.2.2.2.2.2.1).c2
                        obtain ⟨p0_0, q0_0, p0_1, q0_1⟩ := (M.out.2.2.2.2.2.2.2.2.2.2.1).c2
                        go_wp2_with fail
                        clear p16_0 q16_0 p16_1 q16_1 p0_0 q0_0 p0_1 q0_1
                        replace M := Lib.hid (And.intro (M.out.1) (And.intro (M.out.2.1) (And.intro (M.out.2.2.2.1) (And.intro (M.out.2.2.2.2.1) (And.intro (M.out.2.2.2.2.2.2.2.1) (And.intro (M.out.2.2.2.2.2.2.2.2.2.2.1) (M.out.2.2.2.2.2.2.2.2.2.2.2)))))))
                        refine (rsame_is (G := G) (x := z75) (y := x) (b := true) (M.out.2.2.2.2.1) (H1.out.keep (M.out.2.2.2.2.2.2)) (Sz.mono Sz75.out (by omega)) (Sz.mono HX.out (by omega)) (eqZ_of (by rw [Ez75.out] <;> grind))).mono ?_
                        rintro e w60 ⟨rfl, hb⟩
                        replace M := Lib.hid (Goes.go M.out hb)
                        clear hb
                        obtain ⟨p17_0, q17_0, p17_1, q17_1⟩ := (M.out.2.2.2.1).c2
                        obtain ⟨p0_0, q0_0, p0_1, q0_1⟩ := (M.out.2.2.2.2.2.1).c2
                        go_wp2_with fail
                        clear p17_0 q17_0 p17_1 q17_1 p0_0 q0_0 p0_1 q0_1
                        refine (rsame_is (G := G) (x := z139) (y := x) (b := true) (M.out.2.2.1) (H1.out.keep (M.out.2.2.2.2.2.2)) (Sz.mono Sz139.out (by omega)) (Sz.mono HX.out (by omega)) (eqZ_of (by rw [Ez139.out] <;> grind))).mono ?_
                        rintro e w61 ⟨rfl, hb⟩
                        replace M := Lib.hid (Goes.go M.out hb)
                        clear hb
                        obtain ⟨p18_0, q18_0, p18_1, q18_1⟩ := (M.out.1).c2
                        go_wp2_with fail
                        clear p18_0 q18_0 p18_1 q18_1
                        replace M := Lib.hid (And.intro (M.out.2.1) (M.out.2.2.2.2.2.2))
                        refine (rsame_is (G := G) (x := z157) (y := 0) (b := true) (M.out.1) (bd_zero _ _ _) (Sz.mono Sz157.out (by omega)) (Sz.mono (show Sz (0) 0 from by unfold Sz; decide) (by omega)) (eqZ_of (by rw [Ez157.out] <;> grind))).mono ?_
                        rintro e w62 ⟨rfl, hb⟩
                        replace M := Lib.hid (Goes.go M.out hb)
                        clear hb
                        go_wp2_with fail
                        go_ret
                        exact ⟨rfl, (M.out.2)⟩
                      refine AllReadyH.cons at6 (fun K hK => ?_) AllReadyH.nil
                      go_simp
                      obtain ⟨w57, hv⟩ : ∃ w_ : World, w_ = (w56.alloc (.cells #[.int .i64 0, .slice none 0 0] 24)) := ⟨_, rfl⟩
                      rw [← hv]
                      have o18 : w51.heap.size < w56.heap.size := ((M.out.2.2.1)).lt
                      replace M := Lib.hid (And.intro (hv ▸ bx1 w56 24 #[.int .i64 0, .slice none 0 0]) (Goes.go M.out (hv ▸ below_alloc _ _ : Below w56.heap.size w56 w57)))
                      clear hv
                      refine hK.out _ _ (⟨(M.out.2.2.2.2.2.2.2.2.2.1).at.1 0, (M.out.2.2.2.2.2.2.2.2.2.1).at.1 1⟩) (fun hH162 => ?_)
                      clear hK K hH154
                      (try simp only [Act.put, List.setIfInBounds_toArray, List.set_cons_zero, List.set_cons_succ])
                      refine wpAnyH_ready (rs := [2]) (by kernel_rfl) (by simp) ?_
                      refine AllReadyH.cons at2 (fun K hK => ?_) AllReadyH.nil
                      go_simp
                      obtain ⟨z165, ez165⟩ : ∃ v_ : Int, v_ = (x * 0) := ⟨_, rfl⟩
                      refine (bigMul_ok (G := G) (x := x) (y := 0) (H1.out.keep (M.out.2.2.2.2.2.2.2.2.2.2)) (M.out.2.1) (Sz.mono HX.out (by omega)) (Sz.mono (show Sz (0) 0 from by unfold Sz; decide) (by omega))).mono ?_
                      rintro e w58 ⟨a_163, c_164, rfl, hd166, hb⟩
                      rw [← ez165] at hd166 ⊢
                      have Sz165 : Hid (Sz z165 25) := by show Sz z165 25; rw [ez165]; exact (Sz.mul HX.out (show Sz (0) 0 from by unfold Sz; decide))
                      have Ez165 := Lib.hid ez165; clear ez165
                      replace M := Lib.hid (And.intro hd166 (Goes.go M.out hb))
                      clear hb hd166
                      (try go_wp2_with fail)
                      refine hK.out _ _ (⟨(M.out.2.2.2.2.2.2.2.2.2.2.1).at.1 0, (M.out.2.2.2.2.2.2.2.2.2.2.1).at.1 1⟩) (fun hH167 => ?_)
                      clear hK K hH162
                      (try simp only [Act.put, List.setIfInBounds_toArray, List.set_cons_zero, List.set_cons_succ])
                      refine tk at3 ?_
                      refine tk at4 ?_
                      refine tk at5 ?_
                      refine wpAnyH_ready (rs := [7]) (by kernel_rfl) (by simp) ?_
                      refine AllReadyH.cons at7 (fun K hK => ?_) AllReadyH.nil
                      obtain ⟨p18_0, q18_0, p18_1, q18_1⟩ := (M.out.2.1).c2
                      go_simp
                      clear p18_0 q18_0 p18_1 q18_1
                      obtain ⟨w59, hv⟩ : ∃ w_ : World, w_ = ((w58.setCell ⟨w56.heap.size, 0, none⟩ (.int .i64 (sg z165))).setCell ⟨w56.heap.size, 1, none⟩ (.slice a_163 (ln z165) c_164)) := ⟨_, rfl⟩
                      rw [← hv]
                      have og : w58.grownBy w59 (some w56.heap.size) := by rw [hv]; exact (only_setCell (only_setCell (World.grownBy.refl _ _) _) _)
                      have hz : w.heap.size ≤ w56.heap.size := by omega
                      have hk : Bx w59 w56.heap.size 24 #[.int .i64 (sg z165), .slice a_163 (ln z165) c_164] := by rw [hv]; exact (((M.out.2.1).set 0 _).set 1 _)
                      have hbw : Below w.heap.size w w59 := by rw [hv]; exact (Below.setCell (Below.setCell (M.out.2.2.2.2.2.2.2.2.2.2.2) (by omega) _) (by omega) _)
                      replace M := Lib.hid (And.intro ((M.out.1).far (M.out.2.1) (by rfl) (by omega) og) (And.intro hk (And.intro ((M.out.2.2.1).far (M.out.2.1) (by rfl) (by omega) og) (And.intro ((M.out.2.2.2.1).far (M.out.2.1) (by rfl) (by omega) og) (And.intro ((M.out.2.2.2.2.1).only og (by omega)) (And.intro ((M.out.2.2.2.2.2.1).far (M.out.2.1) (by rfl) (by omega) og) (And.intro ((M.out.2.2.2.2.2.2.1).only og (by omega)) (And.intro ((M.out.2.2.2.2.2.2.2.1).far (M.out.2.1) (by rfl) (by omega) og) (And.intro ((M.out.2.2.2.2.2.2.2.2.1).far (M.out.2.1) (by rfl) (by omega) og) (And.intro ((M.out.2.2.2.2.2.2.2.2.2.1).far (M.out.2.1) (by rfl) (by omega) og) (And.intro ((M.out.2.2.2.2.2.2.2.2.2.2.1).only og (by omega)) hbw)))))))))))
                      clear hk hbw og hv hz
                      refine hK.out _ _ (⟨(M.out.2.2.2.2.2.2.2.2.2.2.1).at.1 0, (M.out.2.2.2.2.2.2.2.2.2.2.1).at.1 1⟩) (fun hH168 => ?_)
                      clear hK K hH167
                      (try simp only [Act.put, List.setIfInBounds_toArray, List.set_cons_zero, List.set_cons_succ])
                      refine tk at8 ?_
                      refine wpAnyH_done (by kernel_rfl) ?_ _
                      clear hH168
                      obtain ⟨p16_0, q16_0, p16_1, q16_1⟩ := (M.out.2.2.2.2.2.2.1).c2
                      obtain ⟨p0_0, q0_0, p0_1, q0_1⟩ := (M.out.2.2.2.2.2.2.2.2.2.2.1).c2
                      go_wp2_with fail
                      clear p16_0 q16_0 p16_1 q16_1 p0_0 q0_0 p0_1 q0_1
                      replace M := Lib.hid (And.intro (M.out.1) (And.intro (M.out.2.1) (And.intro (M.out.2.2.2.1) (And.intro (M.out.2.2.2.2.1) (And.intro (M.out.2.2.2.2.2.2.2.1) (And.intro (M.out.2.2.2.2.2.2.2.2.2.2.1) (M.out.2.2.2.2.2.2.2.2.2.2.2)))))))
                      refine (rsame_is (G := G) (x := z75) (y := x) (b := true) (M.out.2.2.2.2.1) (H1.out.keep (M.out.2.2.2.2.2.2)) (Sz.mono Sz75.out (by omega)) (Sz.mono HX.out (by omega)) (eqZ_of (by rw [Ez75.out] <;> grind))).mono ?_
                      rintro e w60 ⟨rfl, hb⟩
                      replace M := Lib.hid (Goes.go M.out hb)
                      clear hb
                      obtain ⟨p17_0, q17_0, p17_1, q17_1⟩ := (M.out.2.2.2.1).c2
                      obtain ⟨p0_0, q0_0, p0_1, q0_1⟩ := (M.out.2.2.2.2.2.1).c2
                      go_wp2_with fail
                      clear p17_0 q17_0 p17_1 q17_1 p0_0 q0_0 p0_1 q0_1
                      refine (rsame_is (G := G) (x := z139) (y := x) (b := true) (M.out.2.2.1) (H1.out.keep (M.out.2.2.2.2.2.2)) (Sz.mono Sz139.out (by omega)) (Sz.mono HX.out (by omega)) (eqZ_of (by rw [Ez139.out] <;> grind))).mono ?_
                      rintro e w61 ⟨rfl, hb⟩
                      replace M := Lib.hid (Goes.go M.out hb)
                      clear hb
                      obtain ⟨p18_0, q18_0, p18_1, q18_1⟩ := (M.out.2.1).c2
                      go_wp2_with fail
                      clear p18_0 q18_0 p18_1 q18_1
                      replace M := Lib.hid (And.intro (M.out.1) (M.out.2.2.2.2.2.2))
                      refine (rsame_is (G := G) (x := z165) (y := 0) (b := true) (M.out.1) (bd_zero _ _ _) (Sz.mono Sz165.out (by omega)) (Sz.mono (show Sz (0) 0 from by unfold Sz; decide) (by omega)) (eqZ_of (by rw [Ez165.out] <;> grind))).mono ?_
                      rintro e w62 ⟨rfl, hb⟩
                      replace M := Lib.hid (Goes.go M.out hb)
                      clear hb
                      go_wp2_with fail
                      go_ret
                      exact ⟨rfl, (M.out.2)⟩
                    refine AllReadyH.cons at6 (fun K hK => ?_) AllReadyH.nil
                    go_simp
                    obtain ⟨w56, hv⟩ : ∃ w_ : World, w_ = (w55.alloc (.cells #[.int .i64 0, .slice none 0 0] 24)) := ⟨_, rfl⟩
                    rw [← hv]
                    have o18 : w51.heap.size < w55.heap.size := ((M.out.2.1)).lt
                    replace M := Lib.hid (And.intro (hv ▸ bx1 w55 24 #[.int .i64 0, .slice none 0 0]) (Goes.go M.out (hv ▸ below_alloc _ _ : Below w55.heap.size w55 w56)))
                    clear hv
                    refine hK.out _ _ (⟨(M.out.2.2.2.2.2.2.2.2.1).at.1 0, (M.out.2.2.2.2.2.2.2.2.1).at.1 1⟩) (fun hH169 => ?_)
                    clear hK K hH150
                    (try simp only [Act.put, List.setIfInBounds_toArray, List.set_cons_zero, List.set_cons_succ])
                    refine wpAnyH_ready (rs := [1]) (by kernel_rfl) (by simp) ?_
                    refine AllReadyH.cons at1 (fun K hK => ?_) AllReadyH.nil
                    go_simp
                    refine (bigOf_ok (G := G) 0 _ (by omega)).mono ?_
                    rintro e w57 ⟨a_170, c_171, rfl, hd172, hb⟩
                    replace M := Lib.hid (And.intro hd172 (Goes.go M.out hb))
                    clear hb hd172
                    (try go_wp2_with fail)
                    refine hK.out _ _ (⟨(M.out.2.2.2.2.2.2.2.2.2.1).at.1 0, (M.out.2.2.2.2.2.2.2.2.2.1).at.1 1⟩) (fun hH173 => ?_)
                    clear hK K hH169
                    (try simp only [Act.put, List.setIfInBounds_toArray, List.set_cons_zero, List.set_cons_succ])
                    refine wpAnyH_ready (rs := [2]) (by kernel_rfl) (by simp) ?_
                    refine AllReadyH.cons at2 (fun K hK => ?_) AllReadyH.nil
                    go_simp
                    obtain ⟨z176, ez176⟩ : ∃ v_ : Int, v_ = (x * 0) := ⟨_, rfl⟩
                    refine (bigMul_ok (G := G) (x := x) (y := 0) (H1.out.keep (M.out.2.2.2.2.2.2.2.2.2.2)) (M.out.1) (Sz.mono HX.out (by omega)) (Sz.mono (show Sz (0) 0 from by unfold Sz; decide) (by omega))).mono ?_
                    rintro e w58 ⟨a_174, c_175, rfl, hd177, hb⟩
                    rw [← ez176] at hd177 ⊢
                    have Sz176 : Hid (Sz z176 25) := by show Sz z176 25; rw [ez176]; exact (Sz.mul HX.out (show Sz (0) 0 from by unfold Sz; decide))
                    have Ez176 := Lib.hid ez176; clear ez176
                    replace M := Lib.hid (And.intro hd177 (Goes.go M.out hb))
                    clear hb hd177
                    (try go_wp2_with fail)
                    refine hK.out _ _ (⟨(M.out.2.2.2.2.2.2.2.2.2.2.1).at.1 0, (M.out.2.2.2.2.2.2.2.2.2.2.1).at.1 1⟩) (fun hH178 => ?_)
                    clear hK K hH173
                    (try simp only [Act.put, List.setIfInBounds_toArray, List.set_cons_zero, List.set_cons_succ])
                    refine tk at3 ?_
                    refine tk at4 ?_
                    refine tk at5 ?_
                    refine wpAnyH_ready (rs := [7]) (by kernel_rfl) (by simp) ?_
                    refine AllReadyH.cons at7 (fun K hK => ?_) AllReadyH.nil
                    obtain ⟨p18_0, q18_0, p18_1, q18_1⟩ := (M.out.2.2.1).c2
                    go_simp
                    clear p18_0 q18_0 p18_1 q18_1
                    obtain ⟨w59, hv⟩ : ∃ w_ : World, w_ = ((w58.setCell ⟨w55.heap.size, 0, none⟩ (.int .i64 (sg z176))).setCell ⟨w55.heap.size, 1, none⟩ (.slice a_174 (ln z176) c_175)) := ⟨_, rfl⟩
                    rw [← hv]
                    have og : w58.grownBy w59 (some w55.heap.size) := by rw [hv]; exact (only_setCell (only_setCell (World.grownBy.refl _ _) _) _)
                    have hz : w.heap.size ≤ w55.heap.size := by omega
                    have hk : Bx w59 w55.heap.size 24 #[.int .i64 (sg z176), .slice a_174 (ln z176) c_175] := by rw [hv]; exact (((M.out.2.2.1).set 0 _).set 1 _)
                    have hbw : Below w.heap.size w w59 := by rw [hv]; exact (Below.setCell (Below.setCell (M.out.2.2.2.2.2.2.2.2.2.2.2) (by omega) _) (by omega) _)
                    replace M := Lib.hid (And.intro ((M.out.1).far (M.out.2.2.1) (by rfl) (by omega) og) (And.intro ((M.out.2.1).far (M.out.2.2.1) (by rfl) (by omega) og) (And.intro hk (And.intro ((M.out.2.2.2.1).far (M.out.2.2.1) (by rfl) (by omega) og) (And.intro ((M.out.2.2.2.2.1).only og (by omega)) (And.intro ((M.out.2.2.2.2.2.1).far (M.out.2.2.1) (by rfl) (by omega) og) (And.intro ((M.out.2.2.2.2.2.2.1).only og (by omega)) (And.intro ((M.out.2.2.2.2.2.2.2.1).far (M.out.2.2.1) (by rfl) (by omega) og) (And.intro ((M.out.2.2.2.2.2.2.2.2.1).far (M.out.2.2.1) (by rfl) (by omega) og) (And.intro ((M.out.2.2.2.2.2.2.2.2.2.1).far (M.out.2.2.1) (by rfl) (by omega) og) (And.intro ((M.out.2.2.2.2.2.2.2.2.2.2.1).only og (by omega)) hbw)))))))))))
                    clear hk hbw og hv hz
                    refine hK.out _ _ (⟨(M.out.2.2.2.2.2.2.2.2.2.2.1).at.1 0, (M.out.2.2.2.2.2.2.2.2.2.2.1).at.1 1⟩) (fun hH179 => ?_)
                    clear hK K hH178
                    (try simp only [Act.put, List.setIfInBounds_toArray, List.set_cons_zero, List.set_cons_succ])
                    refine tk at8 ?_
                    refine wpAnyH_done (by kernel_rfl) ?_ _
                    clear hH179
                    obtain ⟨p16_0, q16_0, p16_1, q16_1⟩ := (M.out.2.2.2.2.2.2.1).c2
                    obtain ⟨p0_0, q0_0, p0_1, q0_1⟩ := (M.out.2.2.2.2.2.2.2.2.2.2.1).c2
                    go_wp2_with fail
                    clear p16_0 q16_0 p16_1 q16_1 p0_0 q0_0 p0_1 q0_1
                    replace M := Lib.hid (And.intro (M.out.1) (And.intro (M.out.2.2.1) (And.intro (M.out.2.2.2.1) (And.intro (M.out.2.2.2.2.1) (And.intro (M.out.2.2.2.2.2.2.2.1) (And.intro (M.out.2.2.2.2.2.2.2.2.2.2.1) (M.out.2.2.2.2.2.2.2.2.2.2.2)))))))
                    refine (rsame_is (G := G) (x := z75) (y := x) (b := true) (M.out.2.2.2.2.1) (H1.out.keep (M.out.2.2.2.2.2.2)) (Sz.mono Sz75.out (by omega)) (Sz.mono HX.out (by omega)) (eqZ_of (by rw [Ez75.out] <;> grind))).mono ?_
                    rintro e w60 ⟨rfl, hb⟩
                    replace M := Lib.hid (Goes.go M.out hb)
                    clear hb
                    obtain ⟨p17_0, q17_0, p17_1, q17_1⟩ := (M.out.2.2.2.1).c2
                    obtain ⟨p0_0, q0_0, p0_1, q0_1⟩ := (M.out.2.2.2.2.2.1).c2
                    go_wp2_with fail
                    clear p17_0 q17_0 p17_1 q17_1 p0_0 q0_0 p0_1 q0_1
                    refine (rsame_is (G := G) (x := z139) (y := x) (b := true) (M.out.2.2.1) (H1.out.keep (M.out.2.2.2.2.2.2)) (Sz.mono Sz139.out (by omega)) (Sz.mono HX.out (by omega)) (eqZ_of (by rw [Ez139.out] <;> grind))).mono ?_
                    rintro e w61 ⟨rfl, hb⟩
                    replace M := Lib.hid (Goes.go M.out hb)
                    clear hb
                    obtain ⟨p18_0, q18_0, p18_1, q18_1⟩ := (M.out.2.1).c2
                    go_wp2_with fail
                    clear p18_0 q18_0 p18_1 q18_1
                    replace M := Lib.hid (And.intro (M.out.1) (M.out.2.2.2.2.2.2))
                    refine (rsame_is (G := G) (x := z176) (y := 0) (b := true) (M.out.1) (bd_zero _ _ _) (Sz.mono Sz176.out (by omega)) (Sz.mono (show Sz (0) 0 from by unfold Sz; decide) (by omega)) (eqZ_of (by rw [Ez176.out] <;> grind))).mono ?_
                    rintro e w62 ⟨rfl, hb⟩
                    replace M := Lib.hid (Goes.go M.out hb)
                    clear hb
                    go_wp2_with fail
                    go_ret
                    exact ⟨rfl, (M.out.2)⟩
                  refine AllReadyH.cons at6 (fun K hK => ?_) AllReadyH.nil
                  go_simp
                  obtain ⟨w51, hv⟩ : ∃ w_ : World, w_ = (w50.alloc (.cells #[.int .i64 0, .slice none 0 0] 24)) := ⟨_, rfl⟩
                  rw [← hv]
                  have o17 : w47.heap.size < w50.heap.size := ((M.out.1)).lt
                  replace M := Lib.hid (And.intro (hv ▸ bx1 w50 24 #[.int .i64 0, .slice none 0 0]) (Goes.go M.out (hv ▸ below_alloc _ _ : Below w50.heap.size w50 w51)))
                  clear hv
                  refine hK.out _ _ (⟨(M.out.2.2.2.2.2.1).at.1 0, (M.out.2.2.2.2.2.1).at.1 1⟩) (fun hH180 => ?_)
                  clear hK K hH87
                  (try simp only [Act.put, List.setIfInBounds_toArray, List.set_cons_zero, List.set_cons_succ])
                  refine wpAnyH_ready (rs := [1]) (by kernel_rfl) (by simp) ?_
                  refine AllReadyH.cons at1 (fun K hK => ?_) AllReadyH.nil
                  go_simp
                  refine (bigOf_ok (G := G) 1 _ (by omega)).mono ?_
                  rintro e w52 ⟨a_181, c_182, rfl, hd183, hb⟩
                  replace M := Lib.hid (And.intro hd183 (Goes.go M.out hb))
                  clear hb hd183
                  (try go_wp2_with fail)
                  refine hK.out _ _ (⟨(M.out.2.2.2.2.2.2.1).at.1 0, (M.out.2.2.2.2.2.2.1).at.1 1⟩) (fun hH184 => ?_)
                  clear hK K hH180
                  (try simp only [Act.put, List.setIfInBounds_toArray, List.set_cons_zero, List.set_cons_succ])
                  refine wpAnyH_ready (rs := [2]) (by kernel_rfl) (by simp) ?_
                  refine AllReadyH.cons at2 (fun K hK => ?_) AllReadyH.nil
                  go_simp
                  obtain ⟨z187, ez187⟩ : ∃ v_ : Int, v_ = (x * 1) := ⟨_, rfl⟩
                  refine (bigMul_ok (G := G) (x := x) (y := 1) (H1.out.keep (M.out.2.2.2.2.2.2.2)) (M.out.1) (Sz.mono HX.out (by omega)) (Sz.mono (show Sz (1) 1 from by unfold Sz; decide) (by omega))).mono ?_
                  rintro e w53 ⟨a_185, c_186, rfl, hd188, hb⟩
                  rw [← ez187] at hd188 ⊢
                  have Sz187 : Hid (Sz z187 26) := by show Sz z187 26; rw [ez187]; exact (Sz.mul HX.out (show Sz (1) 1 from by unfold Sz; decide))
                  have Ez187 := Lib.hid ez187; clear ez187
                  replace M := Lib.hid (And.intro hd188 (Goes.go M.out hb))
                  clear hb hd188
                  (try go_wp2_with fail)
                  refine hK.out _ _ (⟨(M.out.2.2.2.2.2.2.2.1).at.1 0, (M.out.2.2.2.2.2.2.2.1).at.1 1⟩) (fun hH189 => ?_)
                  clear hK K hH184
                  (try simp only [Act.put, List.setIfInBounds_toArray, List.set_cons_zero, List.set_cons_succ])
                  refine tk at3 ?_
                  refine tk at4 ?_
                  refine tk at5 ?_
                  refine wpAnyH_ready (rs := [7]) (by kernel_rfl) (by simp) ?_
                  refine AllReadyH.cons at7 (fun K hK => ?_) AllReadyH.nil
                  obtain ⟨p17_0, q17_0, p17_1, q17_1⟩ := (M.out.2.2.1).c2
                  go_simp
                  clear p17_0 q17_0 p17_1 q17_1
                  obtain ⟨w54, hv⟩ : ∃ w_ : World, w_ = ((w53.setCell ⟨w50.heap.size, 0, none⟩ (.int .i64 (sg z187))).setCell ⟨w50.heap.size, 1, none⟩ (.slice a_185 (ln z187) c_186)) := ⟨_, rfl⟩
                  rw [← hv]
                  have og : w53.grownBy w54 (some w50.heap.size) := by rw [hv]; exact (only_setCell (only_setCell (World.grownBy.refl _ _) _) _)
                  have hz : w.heap.size ≤ w50.heap.size := by omega
                  have hk : Bx w54 w50.heap.size 24 #[.int .i64 (sg z187), .slice a_185 (ln z187) c_186] := by rw [hv]; exact (((M.out.2.2.1).set 0 _).set 1 _)
                  have hbw : Below w.heap.size w w54 := by rw [hv]; exact (Below.setCell (Below.setCell (M.out.2.2.2.2.2.2.2.2) (by omega) _) (by omega) _)
                  replace M := Lib.hid (And.intro ((M.out.1).far (M.out.2.2.1) (by rfl) (by omega) og) (And.intro ((M.out.2.1).far (M.out.2.2.1) (by rfl) (by omega) og) (And.intro hk (And.intro ((M.out.2.2.2.1).only og (by omega)) (And.intro ((M.out.2.2.2.2.1).far (M.out.2.2.1) (by rfl) (by omega) og) (And.intro ((M.out.2.2.2.2.2.1).far (M.out.2.2.1) (by rfl) (by omega) og) (And.intro ((M.out.2.2.2.2.2.2.1).far (M.out.2.2.1) (by rfl) (by omega) og) (And.intro ((M.out.2.2.2.2.2.2.2.1).only og (by omega)) hbw))))))))
                  clear hk hbw og hv hz
                  refine hK.out _ _ (⟨(M.out.2.2.2.2.2.2.2.1).at.1 0, (M.out.2.2.2.2.2.2.2.1).at.1 1⟩) (fun hH190 => ?_)
                  clear hK K hH189
                  (try simp only [Act.put, List.setIfInBounds_toArray, List.set_cons_zero, List.set_cons_succ])
                  refine tk at8 ?_
                  refine wpAnyH_done (by kernel_rfl) ?_ _
                  clear hH190
                  go_wp2_with fail
                  obtain ⟨w55, hv⟩ : ∃ w_ : World, w_ = w54.drew := ⟨_, rfl⟩
                  replace M := Lib.hid (Goes.go M.out (hv ▸ below_drew _ : Below w54.heap.size w54 w55))
                  refine wp_region_held_drew (S := (fun w' => w'.cell? ⟨w.heap.size, 0, none⟩ = some (.int .i64 (sg x)) ∧ w'.cell? ⟨w.heap.size, 1, none⟩ = some (.slice a1 (ln x) c1))) (by kernel_rfl) (by rw [← hv]; exact ⟨(M.out.2.2.2.2.2.2.2.1).at.1 0, (M.out.2.2.2.2.2.2.2.1).at.1 1⟩) (fun hH198 => ?_)
                  rw [← hv] at hH198 ⊢
                  clear hv
                  refine tk at0 ?_
                  refine wpAnyH_ready (rs := [1, 6]) (by kernel_rfl) (by simp) ?_
                  refine AllReadyH.cons at1 (fun K hK => ?_) ?_
                  ·
                    go_simp
                    refine (bigOf_ok (G := G) 0 _ (by omega)).mono ?_
                    rintro e w56 ⟨a_199, c_200, rfl, hd201, hb⟩
                    replace M := Lib.hid (And.intro hd201 (Goes.go M.out hb))
                    clear hb hd201
                    (try go_wp2_with fail)
                    refine hK.out _ _ (⟨(M.out.2.2.2.2.2.2.2.2.1).at.1 0, (M.out.2.2.2.2.2.2.2.2.1).at.1 1⟩) (fun hH202 => ?_)
                    clear hK K hH198
                    (try simp only [Act.put, List.setIfInBounds_toArray, List.set_cons_zero, List.set_cons_succ])
                    refine wpAnyH_ready (rs := [2, 6]) (by kernel_rfl) (by simp) ?_
                    refine AllReadyH.cons at2 (fun K hK => ?_) ?_
                    ·
                      go_simp
                      obtain ⟨z205, ez205⟩ : ∃ v_ : Int, v_ = (x * 0) := ⟨_, rfl⟩
                      refine (bigMul_ok (G := G) (x := x) (y := 0) (H1.out.keep (M.out.2.2.2.2.2.2.2.2.2)) (M.out.1) (Sz.mono HX.out (by omega)) (Sz.mono (show Sz (0) 0 from by unfold Sz; decide) (by omega))).mono ?_
                      rintro e w57 ⟨a_203, c_204, rfl, hd206, hb⟩
                      rw [← ez205] at hd206 ⊢
                      have Sz205 : Hid (Sz z205 25) := by show Sz z205 25; rw [ez205]; exact (Sz.mul HX.out (show Sz (0) 0 from by unfold Sz; decide))
                      have Ez205 := Lib.hid ez205; clear ez205
                      replace M := Lib.hid (And.intro hd206 (Goes.go M.out hb))
                      clear hb hd206
                      (try go_wp2_with fail)
                      refine hK.out _ _ (⟨(M.out.2.2.2.2.2.2.2.2.2.1).at.1 0, (M.out.2.2.2.2.2.2.2.2.2.1).at.1 1⟩) (fun hH207 => ?_)
                      clear hK K hH202
                      (try simp only [Act.put, List.setIfInBounds_toArray, List.set_cons_zero, List.set_cons_succ])
                      refine tk at3 ?_
                      refine tk at4 ?_
                      refine tk at5 ?_
                      refine wpAnyH_ready (rs := [6]) (by kernel_rfl) (by simp) ?_
                      refine AllReadyH.cons at6 (fun K hK => ?_) AllReadyH.nil
                      go_simp
                      obtain ⟨w58, hv⟩ : ∃ w_ : World, w_ = (w57.alloc (.cells #[.int .i64 0, .slice none 0 0] 24)) := ⟨_, rfl⟩
                      rw [← hv]
                      have o18 : w50.heap.size < w57.heap.size := ((M.out.2.2.2.2.1)).lt
                      replace M := Lib.hid (And.intro (hv ▸ bx1 w57 24 #[.int .i64 0, .slice none 0 0]) (Goes.go M.out (hv ▸ below_alloc _ _ : Below w57.heap.size w57 w58)))
                      clear hv
                      refine hK.out _ _ (⟨(M.out.2.2.2.2.2.2.2.2.2.2.1).at.1 0, (M.out.2.2.2.2.2.2.2.2.2.2.1).at.1 1⟩) (fun hH208 => ?_)
                      clear hK K hH207
                      (try simp only [Act.put, List.setIfInBounds_toArray, List.set_cons_zero, List.set_cons_succ])
                      refine wpAnyH_ready (rs := [7]) (by kernel_rfl) (by simp) ?_
                      refine AllReadyH.cons at7 (fun K hK => ?_) AllReadyH.nil
                      obtain ⟨p18_0, q18_0, p18_1, q18_1⟩ := (M.out.1).c2
                      go_simp
                      clear p18_0 q18_0 p18_1 q18_1
                      obtain ⟨w59, hv⟩ : ∃ w_ : World, w_ = ((w58.setCell ⟨w57.heap.size, 0, none⟩ (.int .i64 (sg z205))).setCell ⟨w57.heap.size, 1, none⟩ (.slice a_203 (ln z205) c_204)) := ⟨_, rfl⟩
                      rw [← hv]
                      have og : w58.grownBy w59 (some w57.heap.size) := by rw [hv]; exact (only_setCell (only_setCell (World.grownBy.refl _ _) _) _)
                      have hz : w.heap.size ≤ w57.heap.size := by omega
                      have hk : Bx w59 w57.heap.size 24 #[.int .i64 (sg z205), .slice a_203 (ln z205) c_204] := by rw [hv]; exact (((M.out.1).set 0 _).set 1 _)
                      have hbw : Below w.heap.size w w59 := by rw [hv]; exact (Below.setCell (Below.setCell (M.out.2.2.2.2.2.2.2.2.2.2.2) (by omega) _) (by omega) _)
                      replace M := Lib.hid (And.intro hk (And.intro ((M.out.2.1).far (M.out.1) (by rfl) (by omega) og) (And.intro ((M.out.2.2.1).far (M.out.1) (by rfl) (by omega) og) (And.intro ((M.out.2.2.2.1).far (M.out.1) (by rfl) (by omega) og) (And.intro ((M.out.2.2.2.2.1).far (M.out.1) (by rfl) (by omega) og) (And.intro ((M.out.2.2.2.2.2.1).only og (by omega)) (And.intro ((M.out.2.2.2.2.2.2.1).only og (by omega)) (And.intro ((M.out.2.2.2.2.2.2.2.1).far (M.out.1) (by rfl) (by omega) og) (And.intro ((M.out.2.2.2.2.2.2.2.2.1).far (M.out.1) (by rfl) (by omega) og) (And.intro ((M.out.2.2.2.2.2.2.2.2.2.1).far (M.out.1) (by rfl) (by omega) og) (And.intro ((M.out.2.2.2.2.2.2.2.2.2.2.1).only og (by omega)) hbw)))))))))))
                      clear hk hbw og hv hz
                      refine hK.out _ _ (⟨(M.out.2.2.2.2.2.2.2.2.2.2.1).at.1 0, (M.out.2.2.2.2.2.2.2.2.2.2.1).at.1 1⟩) (fun hH209 => ?_)
                      clear hK K hH208
                      (try simp only [Act.put, List.setIfInBounds_toArray, List.set_cons_zero, List.set_cons_succ])
                      refine tk at8 ?_
                      refine wpAnyH_done (by kernel_rfl) ?_ _
                      clear hH209
                      obtain ⟨p16_0, q16_0, p16_1, q16_1⟩ := (M.out.2.2.2.2.2.2.1).c2
                      obtain ⟨p0_0, q0_0, p0_1, q0_1⟩ := (M.out.2.2.2.2.2.2.2.2.2.2.1).c2
                      go_wp2_with fail
                      clear p16_0 q16_0 p16_1 q16_1 p0_0 q0_0 p0_1 q0_1
                      replace M := Lib.hid (And.intro (M.out.1) (And.intro (M.out.2.1) (And.intro (M.out.2.2.2.1) (And.intro (M.out.2.2.2.2.2.1) (And.intro (M.out.2.2.2.2.2.2.2.1) (And.intro (M.out.2.2.2.2.2.2.2.2.2.2.1) (M.out.2.2.2.2.2.2.2.2.2.2.2)))))))
                      refine (rsame_is (G := G) (x := z75) (y := x) (b := true) (M.out.2.2.2.2.1) (H1.out.keep (M.out.2.2.2.2.2.2)) (Sz.mono Sz75.out (by omega)) (Sz.mono HX.out (by omega)) (eqZ_of (by rw [Ez75.out] <;> grind))).mono ?_
                      rintro e w60 ⟨rfl, hb⟩
                      replace M := Lib.hid (Goes.go M.out hb)
                      clear hb
                      obtain ⟨p17_0, q17_0, p17_1, q17_1⟩ := (M.out.2.2.2.1).c2
                      obtain ⟨p0_0, q0_0, p0_1, q0_1⟩ := (M.out.2.2.2.2.2.1).c2
                      go_wp2_with fail
                      clear p17_0 q17_0 p17_1 q17_1 p0_0 q0_0 p0_1 q0_1
                      refine (rsame_is (G := G) (x := z187) (y := x) (b := true) (M.out.2.2.1) (H1.out.keep (M.out.2.2.2.2.2.2)) (Sz.mono Sz187.out (by omega)) (Sz.mono HX.out (by omega)) (eqZ_of (by rw [Ez187.out] <;> grind))).mono ?_
                      rintro e w61 ⟨rfl, hb⟩
                      replace M := Lib.hid (Goes.go M.out hb)
                      clear hb
                      obtain ⟨p18_0, q18_0, p18_1, q18_1⟩ := (M.out.1).c2
                      go_wp2_with fail
                      clear p18_0 q18_0 p18_1 q18_1
                      replace M := Lib.hid (And.intro (M.out.2.1) (M.out.2.2.2.2.2.2))
                      refine (rsame_is (G := G) (x := z205) (y := 0) (b := true) (M.out.1) (bd_zero _ _ _) (Sz.mono Sz205.out (by omega)) (Sz.mono (show Sz (0) 0 from by unfold Sz; decide) (by omega)) (eqZ_of (by rw [Ez205.out] <;> grind))).mono ?_
                      rintro e w62 ⟨rfl, hb⟩
                      replace M := Lib.hid (Goes.go M.out hb)
                      clear hb
                      go_wp2_with fail
                      go_ret
                      exact ⟨rfl, (M.out.2)⟩
                    refine AllReadyH.cons at6 (fun K hK => ?_) AllReadyH.nil
                    go_simp
                    obtain ⟨w57, hv⟩ : ∃ w_ : World, w_ = (w56.alloc (.cells #[.int .i64 0, .slice none 0 0] 24)) := ⟨_, rfl⟩
                    rw [← hv]
                    have o18 : w50.heap.size < w56.heap.size := ((M.out.2.2.2.1)).lt
                    replace M := Lib.hid (And.intro (hv ▸ bx1 w56 24 #[.int .i64 0, .slice none 0 0]) (Goes.go M.out (hv ▸ below_alloc _ _ : Below w56.heap.size w56 w57)))
                    clear hv
                    refine hK.out _ _ (⟨(M.out.2.2.2.2.2.2.2.2.2.1).at.1 0, (M.out.2.2.2.2.2.2.2.2.2.1).at.1 1⟩) (fun hH210 => ?_)
                    clear hK K hH202
                    (try simp only [Act.put, List.setIfInBounds_toArray, List.set_cons_zero, List.set_cons_succ])
                    refine wpAnyH_ready (rs := [2]) (by kernel_rfl) (by simp) ?_
                    refine AllReadyH.cons at2 (fun K hK => ?_) AllReadyH.nil
                    go_simp
                    obtain ⟨z213, ez213⟩ : ∃ v_ : Int, v_ = (x * 0) := ⟨_, rfl⟩
                    refine (bigMul_ok (G := G) (x := x) (y := 0) (H1.out.keep (M.out.2.2.2.2.2.2.2.2.2.2)) (M.out.2.1) (Sz.mono HX.out (by omega)) (Sz.mono (show Sz (0) 0 from by unfold Sz; decide) (by omega))).mono ?_
                    rintro e w58 ⟨a_211, c_212, rfl, hd214, hb⟩
                    rw [← ez213] at hd214 ⊢
                    have Sz213 : Hid (Sz z213 25) := by show Sz z213 25; rw [ez213]; exact (Sz.mul HX.out (show Sz (0) 0 from by unfold Sz; decide))
                    have Ez213 := Lib.hid ez213; clear ez213
                    replace M := Lib.hid (And.intro hd214 (Goes.go M.out hb))
                    clear hb hd214
                    (try go_wp2_with fail)
                    refine hK.out _ _ (⟨(M.out.2.2.2.2.2.2.2.2.2.2.1).at.1 0, (M.out.2.2.2.2.2.2.2.2.2.2.1).at.1 1⟩) (fun hH215 => ?_)
                    clear hK K hH210
                    (try simp only [Act.put, List.setIfInBounds_toArray, List.set_cons_zero, List.set_cons_succ])
                    refine tk at3 ?_
                    refine tk at4 ?_
                    refine tk at5 ?_
                    refine wpAnyH_ready (rs := [7]) (by kernel_rfl) (by simp) ?_
                    refine AllReadyH.cons at7 (fun K hK => ?_) AllReadyH.nil
                    obtain ⟨p18_0, q18_0, p18_1, q18_1⟩ := (M.out.2.1).c2
                    go_simp
                    clear p18_0 q18_0 p18_1 q18_1
                    obtain ⟨w59, hv⟩ : ∃ w_ : World, w_ = ((w58.setCell ⟨w56.heap.size, 0, none⟩ (.int .i64 (sg z213))).setCell ⟨w56.heap.size, 1, none⟩ (.slice a_211 (ln z213) c_212)) := ⟨_, rfl⟩
                    rw [← hv]
                    have og : w58.grownBy w59 (some w56.heap.size) := by rw [hv]; exact (only_setCell (only_setCell (World.grownBy.refl _ _) _) _)
                    have hz : w.heap.size ≤ w56.heap.size := by omega
                    have hk : Bx w59 w56.heap.size 24 #[.int .i64 (sg z213), .slice a_211 (ln z213) c_212] := by rw [hv]; exact (((M.out.2.1).set 0 _).set 1 _)
                    have hbw : Below w.heap.size w w59 := by rw [hv]; exact (Below.setCell (Below.setCell (M.out.2.2.2.2.2.2.2.2.2.2.2) (by omega) _) (by omega) _)
                    replace M := Lib.hid (And.intro ((M.out.1).far (M.out.2.1) (by rfl) (by omega) og) (And.intro hk (And.intro ((M.out.2.2.1).far (M.out.2.1) (by rfl) (by omega) og) (And.intro ((M.out.2.2.2.1).far (M.out.2.1) (by rfl) (by omega) og) (And.intro ((M.out.2.2.2.2.1).far (M.out.2.1) (by rfl) (by omega) og) (And.intro ((M.out.2.2.2.2.2.1).only og (by omega)) (And.intro ((M.out.2.2.2.2.2.2.1).only og (by omega)) (And.intro ((M.out.2.2.2.2.2.2.2.1).far (M.out.2.1) (by rfl) (by omega) og) (And.intro ((M.out.2.2.2.2.2.2.2.2.1).far (M.out.2.1) (by rfl) (by omega) og) (And.intro ((M.out.2.2.2.2.2.2.2.2.2.1).far (M.out.2.1) (by rfl) (by omega) og) (And.intro ((M.out.2.2.2.2.2.2.2.2.2.2.1).only og (by omega)) hbw)))))))))))
                    clear hk hbw og hv hz
                    refine hK.out _ _ (⟨(M.out.2.2.2.2.2.2.2.2.2.2.1).at.1 0, (M.out.2.2.2.2.2.2.2.2.2.2.1).at.1 1⟩) (fun hH216 => ?_)
                    clear hK K hH215
                    (try simp only [Act.put, List.setIfInBounds_toArray, List.set_cons_zero, List.set_cons_succ])
                    refine tk at8 ?_
                    refine wpAnyH_done (by kernel_rfl) ?_ _
                    clear hH216
                    obtain ⟨p16_0, q16_0, p16_1, q16_1⟩ := (M.out.2.2.2.2.2.2.1).c2
                    obtain ⟨p0_0, q0_0, p0_1, q0_1⟩ := (M.out.2.2.2.2.2.2.2.2.2.2.1).c2
                    go_wp2_with fail
                    clear p16_0 q16_0 p16_1 q16_1 p0_0 q0_0 p0_1 q0_1
                    replace M := Lib.hid (And.intro (M.out.1) (And.intro (M.out.2.1) (And.intro (M.out.2.2.2.1) (And.intro (M.out.2.2.2.2.2.1) (And.intro (M.out.2.2.2.2.2.2.2.1) (And.intro (M.out.2.2.2.2.2.2.2.2.2.2.1) (M.out.2.2.2.2.2.2.2.2.2.2.2)))))))
                    refine (rsame_is (G := G) (x := z75) (y := x) (b := true) (M.out.2.2.2.2.1) (H1.out.keep (M.out.2.2.2.2.2.2)) (Sz.mono Sz75.out (by omega)) (Sz.mono HX.out (by omega)) (eqZ_of (by rw [Ez75.out] <;> grind))).mono ?_
                    rintro e w60 ⟨rfl, hb⟩
                    replace M := Lib.hid (Goes.go M.out hb)
                    clear hb
                    obtain ⟨p17_0, q17_0, p17_1, q17_1⟩ := (M.out.2.2.2.1).c2
                    obtain ⟨p0_0, q0_0, p0_1, q0_1⟩ := (M.out.2.2.2.2.2.1).c2
                    go_wp2_with fail
                    clear p17_0 q17_0 p17_1 q17_1 p0_0 q0_0 p0_1 q0_1
                    refine (rsame_is (G := G) (x := z187) (y := x) (b := true) (M.out.2.2.1) (H1.out.keep (M.out.2.2.2.2.2.2)) (Sz.mono Sz187.out (by omega)) (Sz.mono HX.out (by omega)) (eqZ_of (by rw [Ez187.out] <;> grind))).mono ?_
                    rintro e w61 ⟨rfl, hb⟩
                    replace M := Lib.hid (Goes.go M.out hb)
                    clear hb
                    obtain ⟨p18_0, q18_0, p18_1, q18_1⟩ := (M.out.2.1).c2
                    go_wp2_with fail
                    clear p18_0 q18_0 p18_1 q18_1
                    replace M := Lib.hid (And.intro (M.out.1) (M.out.2.2.2.2.2.2))
                    refine (rsame_is (G := G) (x := z213) (y := 0) (b := true) (M.out.1) (bd_zero _ _ _) (Sz.mono Sz213.out (by omega)) (Sz.mono (show Sz (0) 0 from by unfold Sz; decide) (by omega)) (eqZ_of (by rw [Ez213.out] <;> grind))).mono ?_
                    rintro e w62 ⟨rfl, hb⟩
                    replace M := Lib.hid (Goes.go M.out hb)
                    clear hb
                    go_wp2_with fail
                    go_ret
                    exact ⟨rfl, (M.out.2)⟩
                  refine AllReadyH.cons at6 (fun K hK => ?_) AllReadyH.nil
                  go_simp
                  obtain ⟨w56, hv⟩ : ∃ w_ : World, w_ = (w55.alloc (.cells #[.int .i64 0, .slice none 0 0] 24)) := ⟨_, rfl⟩
                  rw [← hv]
                  have o18 : w50.heap.size < w55.heap.size := ((M.out.2.2.1)).lt
                  replace M := Lib.hid (And.intro (hv ▸ bx1 w55 24 #[.int .i64 0, .slice none 0 0]) (Goes.go M.out (hv ▸ below_alloc _ _ : Below w55.heap.size w55 w56)))
                  clear hv
                  refine hK.out _ _ (⟨(M.out.2.2.2.2.2.2.2.2.1).at.1 0, (M.out.2.2.2.2.2.2.2.2.1).at.1 1⟩) (fun hH217 => ?_)
                  clear hK K hH198
                  (try simp only [Act.put, List.setIfInBounds_toArray, List.set_cons_zero, List.set_cons_succ])
                  refine wpAnyH_ready (rs := [1]) (by kernel_rfl) (by simp) ?_
                  refine AllReadyH.cons at1 (fun K hK => ?_) AllReadyH.nil
                  go_simp
                  refine (bigOf_ok (G := G) 0 _ (by omega)).mono ?_
                  rintro e w57 ⟨a_218, c_219, rfl, hd220, hb⟩
                  replace M := Lib.hid (And.intro hd220 (Goes.go M.out hb))
                  clear hb hd220
                  (try go_wp2_with fail)
                  refine hK.out _ _ (⟨(M.out.2.2.2.2.2.2.2.2.2.1).at.1 0, (M.out.2.2.2.2.2.2.2.2.2.1).at.1 1⟩) (fun hH221 => ?_)
                  clear hK K hH217
                  (try simp only [Act.put, List.setIfInBounds_toArray, List.set_cons_zero, List.set_cons_succ])
                  refine wpAnyH_ready (rs := [2]) (by kernel_rfl) (by simp) ?_
                  refine AllReadyH.cons at2 (fun K hK => ?_) AllReadyH.nil
                  go_simp
                  obtain ⟨z224, ez224⟩ : ∃ v_ : Int, v_ = (x * 0) := ⟨_, rfl⟩
                  refine (bigMul_ok (G := G) (x := x) (y := 0) (H1.out.keep (M.out.2.2.2.2.2.2.2.2.2.2)) (M.out.1) (Sz.mono HX.out (by omega)) (Sz.mono (show Sz (0) 0 from by unfold Sz; decide) (by omega))).mono ?_
                  rintro e w58 ⟨a_222, c_223, rfl, hd225, hb⟩
                  rw [← ez224] at hd225 ⊢
                  have Sz224 : Hid (Sz z224 25) := by show Sz z224 25; rw [ez224]; exact (Sz.mul HX.out (show Sz (0) 0 from by unfold Sz; decide))
                  have Ez224 := Lib.hid ez224; clear ez224
                  replace M := Lib.hid (And.intro hd225 (Goes.go M.out hb))
                  clear hb hd225
                  (try go_wp2_with fail)
                  refine hK.out _ _ (⟨(M.out.2.2.2.2.2.2.2.2.2.2.1).at.1 0, (M.out.2.2.2.2.2.2.2.2.2.2.1).at.1 1⟩) (fun hH226 => ?_)
                  clear hK K hH221
                  (try simp only [Act.put, List.setIfInBounds_toArray, List.set_cons_zero, List.set_cons_succ])
                  refine tk at3 ?_
                  refine tk at4 ?_
                  refine tk at5 ?_
                  refine wpAnyH_ready (rs := [7]) (by kernel_rfl) (by simp) ?_
                  refine AllReadyH.cons at7 (fun K hK => ?_) AllReadyH.nil
                  obtain ⟨p18_0, q18_0, p18_1, q18_1⟩ := (M.out.2.2.1).c2
                  go_simp
                  clear p18_0 q18_0 p18_1 q18_1
                  obtain ⟨w59, hv⟩ : ∃ w_ : World, w_ = ((w58.setCell ⟨w55.heap.size, 0, none⟩ (.int .i64 (sg z224))).setCell ⟨w55.heap.size, 1, none⟩ (.slice a_222 (ln z224) c_223)) := ⟨_, rfl⟩
                  rw [← hv]
                  have og : w58.grownBy w59 (some w55.heap.size) := by rw [hv]; exact (only_setCell (only_setCell (World.grownBy.refl _ _) _) _)
                  have hz : w.heap.size ≤ w55.heap.size := by omega
                  have hk : Bx w59 w55.heap.size 24 #[.int .i64 (sg z224), .slice a_222 (ln z224) c_223] := by rw [hv]; exact (((M.out.2.2.1).set 0 _).set 1 _)
                  have hbw : Below w.heap.size w w59 := by rw [hv]; exact (Below.setCell (Below.setCell (M.out.2.2.2.2.2.2.2.2.2.2.2) (by omega) _) (by omega) _)
                  replace M := Lib.hid (And.intro ((M.out.1).far (M.out.2.2.1) (by rfl) (by omega) og) (And.intro ((M.out.2.1).far (M.out.2.2.1) (by rfl) (by omega) og) (And.intro hk (And.intro ((M.out.2.2.2.1).far (M.out.2.2.1) (by rfl) (by omega) og) (And.intro ((M.out.2.2.2.2.1).far (M.out.2.2.1) (by rfl) (by omega) og) (And.intro ((M.out.2.2.2.2.2.1).only og (by omega)) (And.intro ((M.out.2.2.2.2.2.2.1).only og (by omega)) (And.intro ((M.out.2.2.2.2.2.2.2.1).far (M.out.2.2.1) (by rfl) (by omega) og) (And.intro ((M.out.2.2.2.2.2.2.2.2.1).far (M.out.2.2.1) (by rfl) (by omega) og) (And.intro ((M.out.2.2.2.2.2.2.2.2.2.1).far (M.out.2.2.1) (by rfl) (by omega) og) (And.intro ((M.out.2.2.2.2.2.2.2.2.2.2.1).only og (by omega)) hbw)))))))))))
                  clear hk hbw og hv hz
                  refine hK.out _ _ (⟨(M.out.2.2.2.2.2.2.2.2.2.2.1).at.1 0, (M.out.2.2.2.2.2.2.2.2.2.2.1).at.1 1⟩) (fun hH227 => ?_)
                  clear hK K hH226
                  (try simp only [Act.put, List.setIfInBounds_toArray, List.set_cons_zero, List.set_cons_succ])
                  refine tk at8 ?_
                  refine wpAnyH_done (by kernel_rfl) ?_ _
                  clear hH227
                  obtain ⟨p16_0, q16_0, p16_1, q16_1⟩ := (M.out.2.2.2.2.2.2.1).c2
                  obtain ⟨p0_0, q0_0, p0_1, q0_1⟩ := (M.out.2.2.2.2.2.2.2.2.2.2.1).c2
                  go_wp2_with fail
                  clear p16_0 q16_0 p16_1 q16_1 p0_0 q0_0 p0_1 q0_1
                  replace M := Lib.hid (And.intro (M.out.1) (And.intro (M.out.2.2.1) (And.intro (M.out.2.2.2.1) (And.intro (M.out.2.2.2.2.2.1) (And.intro (M.out.2.2.2.2.2.2.2.1) (And.intro (M.out.2.2.2.2.2.2.2.2.2.2.1) (M.out.2.2.2.2.2.2.2.2.2.2.2)))))))
                  refine (rsame_is (G := G) (x := z75) (y := x) (b := true) (M.out.2.2.2.2.1) (H1.out.keep (M.out.2.2.2.2.2.2)) (Sz.mono Sz75.out (by omega)) (Sz.mono HX.out (by omega)) (eqZ_of (by rw [Ez75.out] <;> grind))).mono ?_
                  rintro e w60 ⟨rfl, hb⟩
                  replace M := Lib.hid (Goes.go M.out hb)
                  clear hb
                  obtain ⟨p17_0, q17_0, p17_1, q17_1⟩ := (M.out.2.2.2.1).c2
                  obtain ⟨p0_0, q0_0, p0_1, q0_1⟩ := (M.out.2.2.2.2.2.1).c2
                  go_wp2_with fail
                  clear p17_0 q17_0 p17_1 q17_1 p0_0 q0_0 p0_1 q0_1
                  refine (rsame_is (G := G) (x := z187) (y := x) (b := true) (M.out.2.2.1) (H1.out.keep (M.out.2.2.2.2.2.2)) (Sz.mono Sz187.out (by omega)) (Sz.mono HX.out (by omega)) (eqZ_of (by rw [Ez187.out] <;> grind))).mono ?_
                  rintro e w61 ⟨rfl, hb⟩
                  replace M := Lib.hid (Goes.go M.out hb)
                  clear hb
                  obtain ⟨p18_0, q18_0, p18_1, q18_1⟩ := (M.out.2.1).c2
                  go_wp2_with fail
                  clear p18_0 q18_0 p18_1 q18_1
                  replace M := Lib.hid (And.intro (M.out.1) (M.out.2.2.2.2.2.2))
                  refine (rsame_is (G := G) (x := z224) (y := 0) (b := true) (M.out.1) (bd_zero _ _ _) (Sz.mono Sz224.out (by omega)) (Sz.mono (show Sz (0) 0 from by unfold Sz; decide) (by omega)) (eqZ_of (by rw [Ez224.out] <;> grind))).mono ?_
                  rintro e w62 ⟨rfl, hb⟩
                  replace M := Lib.hid (Goes.go M.out hb)
                  clear hb
                  go_wp2_with fail
                  go_ret
                  exact ⟨rfl, (M.out.2)⟩
               refine AllReadyH.cons at6 (fun K hK => ?_) AllReadyH.nil
               go_simp
               obtain ⟨w47, hv⟩ : ∃ w_ : World, w_ = (w46.alloc (.cells #[.int .i64 0, .slice none 0 0] 24)) := ⟨_, rfl⟩
               rw [← hv]
               have o16 : w.heap.size < w46.heap.size := ((M.out.2.2.1)).lt
               replace M := Lib.hid (And.intro (hv ▸ bx1 w46 24 #[.int .i64 0, .slice none 0 0]) (Goes.go M.out (hv ▸ below_alloc _ _ : Below w46.heap.size w46 w47)))
               clear hv
               refine hK.out _ _ (⟨(M.out.2.2.2.1).at.1 0, (M.out.2.2.2.1).at.1 1⟩) (fun hH228 => ?_)
               clear hK K hH72
               (try simp only [Act.put, List.setIfInBounds_toArray, List.set_cons_zero, List.set_cons_succ])
               refine wpAnyH_ready (rs := [2]) (by kernel_rfl) (by simp) ?_
               refine AllReadyH.cons at2 (fun K hK => ?_) AllReadyH.nil
               go_simp
               obtain ⟨z231, ez231⟩ : ∃ v_ : Int, v_ = (x + 0) := ⟨_, rfl⟩
               refine (bigAdd_ok (G := G) (x := x) (y := 0) (H1.out.keep (M.out.2.2.2.2)) (M.out.2.1) (Sz.mono HX.out (by omega)) (Sz.mono (show Sz (0) 0 from by unfold Sz; decide) (by omega))).mono ?_
               rintro e w48 ⟨a_229, c_230, rfl, hd232, hb⟩
               rw [← ez231] at hd232 ⊢
               have Sz231 : Hid (Sz z231 26) := by show Sz z231 26; rw [ez231]; exact (Sz.add HX.out (Sz.mono (show Sz (0) 0 from by unfold Sz; decide) (by omega)))
               have Ez231 := Lib.hid ez231; clear ez231
               replace M := Lib.hid (And.intro hd232 (Goes.go M.out hb))
               clear hb hd232
               (try go_wp2_with fail)
               refine hK.out _ _ (⟨(M.out.2.2.2.2.1).at.1 0, (M.out.2.2.2.2.1).at.1 1⟩) (fun hH233 => ?_)
               clear hK K hH228
               (try simp only [Act.put, List.setIfInBounds_toArray, List.set_cons_zero, List.set_cons_succ])
               refine tk at3 ?_
               refine tk at4 ?_
               refine tk at5 ?_
               refine wpAnyH_ready (rs := [7]) (by kernel_rfl) (by simp) ?_
               refine AllReadyH.cons at7 (fun K hK => ?_) AllReadyH.nil
               obtain ⟨p16_0, q16_0, p16_1, q16_1⟩ := (M.out.2.1).c2
               go_simp
               clear p16_0 q16_0 p16_1 q16_1
               obtain ⟨w49, hv⟩ : ∃ w_ : World, w_ = ((w48.setCell ⟨w46.heap.size, 0, none⟩ (.int .i64 (sg z231))).setCell ⟨w46.heap.size, 1, none⟩ (.slice a_229 (ln z231) c_230)) := ⟨_, rfl⟩
               rw [← hv]
               have og : w48.grownBy w49 (some w46.heap.size) := by rw [hv]; exact (only_setCell (only_setCell (World.grownBy.refl _ _) _) _)
               have hz : w.heap.size ≤ w46.heap.size := by omega
               have hk : Bx w49 w46.heap.size 24 #[.int .i64 (sg z231), .slice a_229 (ln z231) c_230] := by rw [hv]; exact (((M.out.2.1).set 0 _).set 1 _)
               have hbw : Below w.heap.size w w49 := by rw [hv]; exact (Below.setCell (Below.setCell (M.out.2.2.2.2.2) (by omega) _) (by omega) _)
               replace M := Lib.hid (And.intro ((M.out.1).far (M.out.2.1) (by rfl) (by omega) og) (And.intro hk (And.intro ((M.out.2.2.1).far (M.out.2.1) (by rfl) (by omega) og) (And.intro ((M.out.2.2.2.1).far (M.out.2.1) (by rfl) (by omega) og) (And.intro ((M.out.2.2.2.2.1).only og (by omega)) hbw)))))
               clear hk hbw og hv hz
               refine hK.out _ _ (⟨(M.out.2.2.2.2.1).at.1 0, (M.out.2.2.2.2.1).at.1 1⟩) (fun hH234 => ?_)
               clear hK K hH233
               (try simp only [Act.put, List.setIfInBounds_toArray, List.set_cons_zero, List.set_cons_succ])
               refine tk at8 ?_
               refine wpAnyH_done (by kernel_rfl) ?_ _
               clear hH234
               go_upto_region 26 with fail
               as_aux_lemma =>
                go_wp2_with fail
                obtain ⟨w50, hv⟩ : ∃ w_ : World, w_ = w49.drew := ⟨_, rfl⟩
                replace M := Lib.hid (Goes.go M.out (hv ▸ below_drew _ : Below w49.heap.size w49 w50))
                refine wp_region_held_drew (S := (fun w' => w'.cell? ⟨w.heap.size, 0, none⟩ = some (.int .i64 (sg x)) ∧ w'.cell? ⟨w.heap.size, 1, none⟩ = some (.slice a1 (ln x) c1))) (by kernel_rfl) (by rw [← hv]; exact ⟨(M.out.2.2.2.2.1).at.1 0, (M.out.2.2.2.2.1).at.1 1⟩) (fun hH242 => ?_)
                rw [← hv] at hH242 ⊢
                clear hv
                refine tk at0 ?_
                refine wpAnyH_ready (rs := [1, 6]) (by kernel_rfl) (by simp) ?_
                refine AllReadyH.cons at1 (fun K hK => ?_) ?_
                ·
                  go_simp
                  refine (bigOf_ok (G := G) 1 _ (by omega)).mono ?_
                  rintro e w51 ⟨a_243, c_244, rfl, hd245, hb⟩
                  replace M := Lib.hid (And.intro hd245 (Goes.go M.out hb))
                  clear hb hd245
                  (try go_wp2_with fail)
                  refine hK.out _ _ (⟨(M.out.2.2.2.2.2.1).at.1 0, (M.out.2.2.2.2.2.1).at.1 1⟩) (fun hH246 => ?_)
                  clear hK K hH242
                  (try simp only [Act.put, List.setIfInBounds_toArray, List.set_cons_zero, List.set_cons_succ])
                  refine wpAnyH_ready (rs := [2, 6]) (by kernel_rfl) (by simp) ?_
                  refine AllReadyH.cons at2 (fun K hK => ?_) ?_
                  ·
                    go_simp
                    obtain ⟨z249, ez249⟩ : ∃ v_ : Int, v_ = (x * 1) := ⟨_, rfl⟩
                    refine (bigMul_ok (G := G) (x := x) (y := 1) (H1.out.keep (M.out.2.2.2.2.2.2)) (M.out.1) (Sz.mono HX.out (by omega)) (Sz.mono (show Sz (1) 1 from by unfold Sz; decide) (by omega))).mono ?_
                    rintro e w52 ⟨a_247, c_248, rfl, hd250, hb⟩
                    rw [← ez249] at hd250 ⊢
                    have Sz249 : Hid (Sz z249 26) := by show Sz z249 26; rw [ez249]; exact (Sz.mul HX.out (show Sz (1) 1 from by unfold Sz; decide))
                    have Ez249 := Lib.hid ez249; clear ez249
                    replace M := Lib.hid (And.intro hd250 (Goes.go M.out hb))
                    clear hb hd250
                    (try go_wp2_with fail)
                    refine hK.out _ _ (⟨(M.out.2.2.2.2.2.2.1).at.1 0, (M.out.2.2.2.2.2.2.1).at.1 1⟩) (fun hH251 => ?_)
                    clear hK K hH246
                    (try simp only [Act.put, List.setIfInBounds_toArray, List.set_cons_zero, List.set_cons_succ])
                    refine tk at3 ?_
                    refine tk at4 ?_
                    refine tk at5 ?_
                    refine wpAnyH_ready (rs := [6]) (by kernel_rfl) (by simp) ?_
                    refine AllReadyH.cons at6 (fun K hK => ?_) AllReadyH.nil
                    go_simp
                    obtain ⟨w53, hv⟩ : ∃ w_ : World, w_ = (w52.alloc (.cells #[.int .i64 0, .slice none 0 0] 24)) := ⟨_, rfl⟩
                    rw [← hv]
                    have o17 : w46.heap.size < w52.heap.size := ((M.out.2.2.2.1)).lt
                    replace M := Lib.hid (And.intro (hv ▸ bx1 w52 24 #[.int .i64 0, .slice none 0 0]) (Goes.go M.out (hv ▸ below_alloc _ _ : Below w52.heap.size w52 w53)))
                    clear hv
                    refine hK.out _ _ (⟨(M.out.2.2.2.2.2.2.2.1).at.1 0, (M.out.2.2.2.2.2.2.2.1).at.1 1⟩) (fun hH252 => ?_)
                    clear hK K hH251
                    (try simp only [Act.put, List.setIfInBounds_toArray, List.set_cons_zero, List.set_cons_succ])
                    refine wpAnyH_ready (rs := [7]) (by kernel_rfl) (by simp) ?_
                    refine AllReadyH.cons at7 (fun K hK => ?_) AllReadyH.nil
                    obtain ⟨p17_0, q17_0, p17_1, q17_1⟩ := (M.out.1).c2
                    go_simp
                    clear p17_0 q17_0 p17_1 q17_1
                    obtain ⟨w54, hv⟩ : ∃ w_ : World, w_ = ((w53.setCell ⟨w52.heap.size, 0, none⟩ (.int .i64 (sg z249))).setCell ⟨w52.heap.size, 1, none⟩ (.slice a_247 (ln z249) c_248)) := ⟨_, rfl⟩
                    rw [← hv]
                    have og : w53.grownBy w54 (some w52.heap.size) := by rw [hv]; exact (only_setCell (only_setCell (World.grownBy.refl _ _) _) _)
                    have hz : w.heap.size ≤ w52.heap.size := by omega
                    have hk : Bx w54 w52.heap.size 24 #[.int .i64 (sg z249), .slice a_247 (ln z249) c_248] := by rw [hv]; exact (((M.out.1).set 0 _).set 1 _)
                    have hbw : Below w.heap.size w w54 := by rw [hv]; exact (Below.setCell (Below.setCell (M.out.2.2.2.2.2.2.2.2) (by omega) _) (by omega) _)
                    replace M := Lib.hid (And.intro hk (And.intro ((M.out.2.1).far (M.out.1) (by rfl) (by omega) og) (And.intro ((M.out.2.2.1).far (M.out.1) (by rfl) (by omega) og) (And.intro ((M.out.2.2.2.1).far (M.out.1) (by rfl) (by omega) og) (And.intro ((M.out.2.2.2.2.1).only og (by omega)) (And.intro ((M.out.2.2.2.2.2.1).far (M.out.1) (by rfl) (by omega) og) (And.intro ((M.out.2.2.2.2.2.2.1).far (M.out.1) (by rfl) (by omega) og) (And.intro ((M.out.2.2.2.2.2.2.2.1).only og (by omega)) hbw))))))))
                    clear hk hbw og hv hz
                    refine hK.out _ _ (⟨(M.out.2.2.2.2.2.2.2.1).at.1 0, (M.out.2.2.2.2.2.2.2.1).at.1 1⟩) (fun hH253 => ?_)
                    clear hK K hH252
                    (try simp only [Act.put, List.setIfInBounds_toArray, List.set_cons_zero, List.set_cons_succ])
                    refine tk at8 ?_
                    refine wpAnyH_done (by kernel_rfl) ?_ _
                    clear hH253
                    go_wp2_with fail
                    obtain ⟨w55, hv⟩ : ∃ w_ : World, w_ = w54.drew := ⟨_, rfl⟩
                    replace M := Lib.hid (Goes.go M.out (hv ▸ below_drew _ : Below w54.heap.size w54 w55))
                    refine wp_region_held_drew (S := (fun w' => w'.cell? ⟨w.heap.size, 0, none⟩ = some (.int .i64 (sg x)) ∧ w'.cell? ⟨w.heap.size, 1, none⟩ = some (.slice a1 (ln x) c1))) (by kernel_rfl) (by rw [← hv]; exact ⟨(M.out.2.2.2.2.2.2.2.1).at.1 0, (M.out.2.2.2.2.2.2.2.1).at.1 1⟩) (fun hH261 => ?_)
                    rw [← hv] at hH261 ⊢
                    clear hv
                    refine tk at0 ?_
                    refine wpAnyH_ready (rs := [1, 6]) (by kernel_rfl) (by simp) ?_
                    refine AllReadyH.cons at1 (fun K hK => ?_) ?_
                    ·
                      go_simp
                      refine (bigOf_ok (G := G) 0 _ (by omega)).mono ?_
                      rintro e w56 ⟨a_262, c_263, rfl, hd264, hb⟩
                      replace M := Lib.hid (And.intro hd264 (Goes.go M.out hb))
                      clear hb hd264
                      (try go_wp2_with fail)
                      refine hK.out _ _ (⟨(M.out.2.2.2.2.2.2.2.2.1).at.1 0, (M.out.2.2.2.2.2.2.2.2.1).at.1 1⟩) (fun hH265 => ?_)
                      clear hK K hH261
                      (try simp only [Act.put, List.setIfInBounds_toArray, List.set_cons_zero, List.set_cons_succ])
                      refine wpAnyH_ready (rs := [2, 6]) (by kernel_rfl) (by simp) ?_
                      refine AllReadyH.cons at2 (fun K hK => ?_) ?_
                      ·
                        go_simp
                        obtain ⟨z268, ez268⟩ : ∃ v_ : Int, v_ = (x * 0) := ⟨_, rfl⟩
                        refine (bigMul_ok (G := G) (x := x) (y := 0) (H1.out.keep (M.out.2.2.2.2.2.2.2.2.2)) (M.out.1) (Sz.mono HX.out (by omega)) (Sz.mono (show Sz (0) 0 from by unfold Sz; decide) (by omega))).mono ?_
                        rintro e w57 ⟨a_266, c_267, rfl, hd269, hb⟩
                        rw [← ez268] at hd269 ⊢
                        have Sz268 : Hid (Sz z268 25) := by show Sz z268 25; rw [ez268]; exact (Sz.mul HX.out (show Sz (0) 0 from by unfold Sz; decide))
                        have Ez268 := Lib.hid ez268; clear ez268
                        replace M := Lib.hid (And.intro hd269 (Goes.go M.out hb))
                        clear hb hd269
                        (try go_wp2_with fail)
                        refine hK.out _ _ (⟨(M.out.2.2.2.2.2.2.2.2.2.1).at.1 0, (M.out.2.2.2.2.2.2.2.2.2.1).at.1 1⟩) (fun hH270 => ?_)
                        clear hK K hH265
                        (try simp only [Act.put, List.setIfInBounds_toArray, List.set_cons_zero, List.set_cons_succ])
                        refine tk at3 ?_
                        refine tk at4 ?_
                        refine tk at5 ?_
                        refine wpAnyH_ready (rs := [6]) (by kernel_rfl) (by simp) ?_
                        refine AllReadyH.cons at6 (fun K hK => ?_) AllReadyH.nil
                        go_simp
                        obtain ⟨w58, hv⟩ : ∃ w_ : World, w_ = (w57.alloc (.cells #[.int .i64 0, .slice none 0 0] 24)) := ⟨_, rfl⟩
                        rw [← hv]
                        have o18 : w52.heap.size < w57.heap.size := ((M.out.2.2.1)).lt
                        replace M := Lib.hid (And.intro (hv ▸ bx1 w57 24 #[.int .i64 0, .slice none 0 0]) (Goes.go M.out (hv ▸ below_alloc _ _ : Below w57.heap.size w57 w58)))
                        clear hv
                        refine hK.out _ _ (⟨(M.out.2.2.2.2.2.2.2.2.2.2.1).at.1 0, (M.out.2.2.2.2.2.2.2.2.2.2.1).at.1 1⟩) (fun hH271 => ?_)
                        clear hK K hH270
                        (try simp only [Act.put, List.setIfInBounds_toArray, List.set_cons_zero, List.set_cons_succ])
                        refine wpAnyH_ready (rs := [7]) (by kernel_rfl) (by simp) ?_
                        refine AllReadyH.cons at7 (fun K hK => ?_) AllReadyH.nil
                        obtain ⟨p18_0, q18_0, p18_1, q18_1⟩ := (M.out.1).c2
                        go_simp
                        clear p18_0 q18_0 p18_1 q18_1
                        obtain ⟨w59, hv⟩ : ∃ w_ : World, w_ = ((w58.setCell ⟨w57.heap.size, 0, none⟩ (.int .i64 (sg z268))).setCell ⟨w57.heap.size, 1, none⟩ (.slice a_266 (ln z268) c_267)) := ⟨_, rfl⟩
                        rw [← hv]
                        have og : w58.grownBy w59 (some w57.heap.size) := by rw [hv]; exact (only_setCell (only_setCell (World.grownBy.refl _ _) _) _)
                        have hz : w.heap.size ≤ w57.heap.size := by omega
                        have hk : Bx w59 w57.heap.size 24 #[.int .i64 (sg z268), .slice a_266 (ln z268) c_267] := by rw [hv]; exact (((M.out.1).set 0 _).set 1 _)
                        have hbw : Below w.heap.size w w59 := by rw [hv]; exact (Below.setCell (Below.setCell (M.out.2.2.2.2.2.2.2.2.2.2.2) (by omega) _) (by omega) _)
                        replace M := Lib.hid (And.intro hk (And.intro ((M.out.2.1).far (M.out.1) (by rfl) (by omega) og) (And.intro ((M.out.2.2.1).far (M.out.1) (by rfl) (by omega) og) (And.intro ((M.out.2.2.2.1).only og (by omega)) (And.intro ((M.out.2.2.2.2.1).far (M.out.1) (by rfl) (by omega) og) (And.intro ((M.out.2.2.2.2.2.1).far (M.out.1) (by rfl) (by omega) og) (And.intro ((M.out.2.2.2.2.2.2.1).far (M.out.1) (by rfl) (by omega) og) (And.intro ((M.out.2.2.2.2.2.2.2.1).only og (by omega)) (And.intro ((M.out.2.2.2.2.2.2.2.2.1).far (M.out.1) (by rfl) (by omega) og) (And.intro ((M.out.2.2.2.2.2.2.2.2.2.1).far (M.out.1) (by rfl) (by omega) og) (And.intro ((M.out.2.2.2.2.2.2.2.2.2.2.1).only og (by omega)) hbw)))))))))))
                        clear hk hbw og hv hz
                        refine hK.out _ _ (⟨(M.out.2.2.2.2.2.2.2.2.2.2.1).at.1 0, (M.out.2.2.2.2.2.2.2.2.2.2.1).at.1 1⟩) (fun hH272 => ?_)
                        clear hK K hH271
                        (try simp only [Act.put, List.setIfInBounds_toArray, List.set_cons_zero, List.set_cons_succ])
                        refine tk at8 ?_
                        refine wpAnyH_done (by kernel_rfl) ?_ _
                        clear hH272
                        obtain ⟨p16_0, q16_0, p16_1, q16_1⟩ := (M.out.2.2.2.2.2.2.2.1).c2
                        obtain ⟨p0_0, q0_0, p0_1, q0_1⟩ := (M.out.2.2.2.2.2.2.2.2.2.2.1).c2
                        go_wp2_with fail
                        clear p16_0 q16_0 p16_1 q16_1 p0_0 q0_0 p0_1 q0_1
                        replace M := Lib.hid (And.intro (M.out.1) (And.intro (M.out.2.1) (And.intro (M.out.2.2.2.1) (And.intro (M.out.2.2.2.2.1) (And.intro (M.out.2.2.2.2.2.2.1) (And.intro (M.out.2.2.2.2.2.2.2.2.2.2.1) (M.out.2.2.2.2.2.2.2.2.2.2.2)))))))
                        refine (rsame_is (G := G) (x := z231) (y := x) (b := true) (M.out.2.2.2.2.1) (H1.out.keep (M.out.2.2.2.2.2.2)) (Sz.mono Sz231.out (by omega)) (Sz.mono HX.out (by omega)) (eqZ_of (by rw [Ez231.out] <;> grind))).mono ?_
                        rintro e w60 ⟨rfl, hb⟩
                        replace M := Lib.hid (Goes.go M.out hb)
                        clear hb
                        obtain ⟨p17_0, q17_0, p17_1, q17_1⟩ := (M.out.2.2.1).c2
                        obtain ⟨p0_0, q0_0, p0_1, q0_1⟩ := (M.out.2.2.2.2.2.1).c2
                        go_wp2_with fail
                        clear p17_0 q17_0 p17_1 q17_1 p0_0 q0_0 p0_1 q0_1
                        refine (rsame_is (G := G) (x := z249) (y := x) (b := true) (M.out.2.2.2.1) (H1.out.keep (M.out.2.2.2.2.2.2)) (Sz.mono Sz249.out (by omega)) (Sz.mono HX.out (by omega)) (eqZ_of (by rw [Ez249.out] <;> grind))).mono ?_
                        rintro e w61 ⟨rfl, hb⟩
                        replace M := Lib.hid (Goes.go M.out hb)
                        clear hb
                        obtain ⟨p18_0, q18_0, p18_1, q18_1⟩ := (M.out.1).c2
                        go_wp2_with fail
                        clear p18_0 q18_0 p18_1 q18_1
                        replace M := Lib.hid (And.intro (M.out.2.1) (M.out.2.2.2.2.2.2))
                        refine (rsame_is (G := G) (x := z268) (y := 0) (b := true) (M.out.1) (bd_zero _ _ _) (Sz.mono Sz268.out (by omega)) (Sz.mono (show Sz (0) 0 from by unfold Sz; decide) (by omega)) (eqZ_of (by rw [Ez268.out] <;> grind))).mono ?_
                        rintro e w62 ⟨rfl, hb⟩
                        replace M := Lib.hid (Goes.go M.out hb)
                        clear hb
                        go_wp2_with fail
                        go_ret
                        exact ⟨rfl, (M.out.2)⟩
                      refine AllReadyH.cons at6 (fun K hK => ?_) AllReadyH.nil
                      go_simp
                      obtain ⟨w57, hv⟩ : ∃ w_ : World, w_ = (w56.alloc (.cells #[.int .i64 0, .slice none 0 0] 24)) := ⟨_, rfl⟩
                      rw [← hv]
                      have o18 : w52.heap.size < w56.heap.size := ((M.out.2.1)).lt
                      replace M := Lib.hid (And.intro (hv ▸ bx1 w56 24 #[.int .i64 0, .slice none 0 0]) (Goes.go M.out (hv ▸ below_alloc _ _ : Below w56.heap.size w56 w57)))
                      clear hv
                      refine hK.out _ _ (⟨(M.out.2.2.2.2.2.2.2.2.2.1).at.1 0, (M.out.2.2.2.2.2.2.2.2.2.1).at.1 1⟩) (fun hH273 => ?_)
                      clear hK K hH265
                      (try simp only [Act.put, List.setIfInBounds_toArray, List.set_cons_zero, List.set_cons_succ])
                      refine wpAnyH_ready (rs := [2]) (by kernel_rfl) (by simp) ?_
                      refine AllReadyH.cons at2 (fun K hK => ?_) AllReadyH.nil
                      go_simp
                      obtain ⟨z276, ez276⟩ : ∃ v_ : Int, v_ = (x * 0) := ⟨_, rfl⟩
                      refine (bigMul_ok (G := G) (x := x) (y := 0) (H1.out.keep (M.out.2.2.2.2.2.2.2.2.2.2)) (M.out.2.1) (Sz.mono HX.out (by omega)) (Sz.mono (show Sz (0) 0 from by unfold Sz; decide) (by omega))).mono ?_
                      rintro e w58 ⟨a_274, c_275, rfl, hd277, hb⟩
                      rw [← ez276] at hd277 ⊢
                      have Sz276 : Hid (Sz z276 25) := by show Sz z276 25; rw [ez276]; exact (Sz.mul HX.out (show Sz (0) 0 from by unfold Sz; decide))
                      have Ez276 := Lib.hid ez276; clear ez276
                      replace M := Lib.hid (And.intro hd277 (Goes.go M.out hb))
                      clear hb hd277
                      (try go_wp2_with fail)
                      refine hK.out _ _ (⟨(M.out.2.2.2.2.2.2.2.2.2.2.1).at.1 0, (M.out.2.2.2.2.2.2.2.2.2.2.1).at.1 1⟩) (fun hH278 => ?_)
                      clear hK K hH273
                      (try simp only [Act.put, List.setIfInBounds_toArray, List.set_cons_zero, List.set_cons_succ])
                      refine tk at3 ?_
                      refine tk at4 ?_
                      refine tk at5 ?_
                      refine wpAnyH_ready (rs := [7]) (by kernel_rfl) (by simp) ?_
                      refine AllReadyH.cons at7 (fun K hK => ?_) AllReadyH.nil
                      obtain ⟨p18_0, q18_0, p18_1, q18_1⟩ := (M.out.2.1).c2
                      go_simp
                      clear p18_0 q18_0 p18_1 q18_1
                      obtain ⟨w59, hv⟩ : ∃ w_ : World, w_ = ((w58.setCell ⟨w56.heap.size, 0, none⟩ (.int .i64 (sg z276))).setCell ⟨w56.heap.size, 1, none⟩ (.slice a_274 (ln z276) c_275)) := ⟨_, rfl⟩
                      rw [← hv]
                      have og : w58.grownBy w59 (some w56.heap.size) := by rw [hv]; exact (only_setCell (only_setCell (World.grownBy.refl _ _) _) _)
                      have hz : w.heap.size ≤ w56.heap.size := by omega
                      have hk : Bx w59 w56.heap.size 24 #[.int .i64 (sg z276), .slice a_274 (ln z276) c_275] := by rw [hv]; exact (((M.out.2.1).set 0 _).set 1 _)
                      have hbw : Below w.heap.size w w59 := by rw [hv]; exact (Below.setCell (Below.setCell (M.out.2.2.2.2.2.2.2.2.2.2.2) (by omega) _) (by omega) _)
                      replace M := Lib.hid (And.intro ((M.out.1).far (M.out.2.1) (by rfl) (by omega) og) (And.intro hk (And.intro ((M.out.2.2.1).far (M.out.2.1) (by rfl) (by omega) og) (And.intro ((M.out.2.2.2.1).only og (by omega)) (And.intro ((M.out.2.2.2.2.1).far (M.out.2.1) (by rfl) (by omega) og) (And.intro ((M.out.2.2.2.2.2.1).far (M.out.2.1) (by rfl) (by omega) og) (And.intro ((M.out.2.2.2.2.2.2.1).far (M.out.2.1) (by rfl) (by omega) og) (And.intro ((M.out.2.2.2.2.2.2.2.1).only og (by omega)) (And.intro ((M.out.2.2.2.2.2.2.2.2.1).far (M.out.2.1) (by rfl) (by omega) og) (And.intro ((M.out.2.2.2.2.2.2.2.2.2.1).far (M.out.2.1) (by rfl) (by omega) og) (And.intro ((M.out.2.2.2.2.2.2.2.2.2.2.1).only og (by omega)) hbw)))))))))))
                      clear hk hbw og hv hz
                      refine hK.out _ _ (⟨(M.out.2.2.2.2.2.2.2.2.2.2.1).at.1 0, (M.out.2.2.2.2.2.2.2.2.2.2.1).at.1 1⟩) (fun hH279 => ?_)
                      clear hK K hH278
                      (try simp only [Act.put, List.setIfInBounds_toArray, List.set_cons_zero, List.set_cons_succ])
                      refine tk at8 ?_
                      refine wpAnyH_done (by kernel_rfl) ?_ _
                      clear hH279
                      obtain ⟨p16_0, q16_0, p16_1, q16_1⟩ := (M.out.2.2.2.2.2.2.2.1).c2
                      obtain ⟨p0_0, q0_0, p0_1, q0_1⟩ := (M.out.2.2.2.2.2.2.2.2.2.2.1).c2
                      go_wp2_with fail
                      clear p16_0 q16_0 p16_1 q16_1 p0_0 q0_0 p0_1 q0_1
                      replace M := Lib.hid (And.intro (M.out.1) (And.intro (M.out.2.1) (And.intro (M.out.2.2.2.1) (And.intro (M.out.2.2.2.2.1) (And.intro (M.out.2.2.2.2.2.2.1) (And.intro (M.out.2.2.2.2.2.2.2.2.2.2.1) (M.out.2.2.2.2.2.2.2.2.2.2.2)))))))
                      refine (rsame_is (G := G) (x := z231) (y := x) (b := true) (M.out.2.2.2.2.1) (H1.out.keep (M.out.2.2.2.2.2.2)) (Sz.mono Sz231.out (by omega)) (Sz.mono HX.out (by omega)) (eqZ_of (by rw [Ez231.out] <;> grind))).mono ?_
                      rintro e w60 ⟨rfl, hb⟩
                      replace M := Lib.hid (Goes.go M.out hb)
                      clear hb
                      obtain ⟨p17_0, q17_0, p17_1, q17_1⟩ := (M.out.2.2.1).c2
                      obtain ⟨p0_0, q0_0, p0_1, q0_1⟩ := (M.out.2.2.2.2.2.1).c2
                      go_wp2_with fail
                      clear p17_0 q17_0 p17_1 q17_1 p0_0 q0_0 p0_1 q0_1
                      refine (rsame_is (G := G) (x := z249) (y := x) (b := true) (M.out.2.2.2.1) (H1.out.keep (M.out.2.2.2.2.2.2)) (Sz.mono Sz249.out (by omega)) (Sz.mono HX.out (by omega)) (eqZ_of (by rw [Ez249.out] <;> grind))).mono ?_
                      rintro e w61 ⟨rfl, hb⟩
                      replace M := Lib.hid (Goes.go M.out hb)
                      clear hb
                      obtain ⟨p18_0, q18_0, p18_1, q18_1⟩ := (M.out.2.1).c2
                      go_wp2_with fail
                      clear p18_0 q18_0 p18_1 q18_1
                      replace M := Lib.hid (And.intro (M.out.1) (M.out.2.2.2.2.2.2))
                      refine (rsame_is (G := G) (x := z276) (y := 0) (b := true) (M.out.1) (bd_zero _ _ _) (Sz.mono Sz276.out (by omega)) (Sz.mono (show Sz (0) 0 from by unfold Sz; decide) (by omega)) (eqZ_of (by rw [Ez276.out] <;> grind))).mono ?_
                      rintro e w62 ⟨rfl, hb⟩
                      replace M := Lib.hid (Goes.go M.out hb)
                      clear hb
                      go_wp2_with fail
                      go_ret
                      exact ⟨rfl, (M.out.2)⟩
                    refine AllReadyH.cons at6 (fun K hK => ?_) AllReadyH.nil
                    go_simp
                    obtain ⟨w56, hv⟩ : ∃ w_ : World, w_ = (w55.alloc (.cells #[.int .i64 0, .slice none 0 0] 24)) := ⟨_, rfl⟩
                    rw [← hv]
                    have o18 : w52.heap.size < w55.heap.size := ((M.out.1)).lt
                    replace M := Lib.hid (And.intro (hv ▸ bx1 w55 24 #[.int .i64 0, .slice none 0 0]) (Goes.go M.out (hv ▸ below_alloc _ _ : Below w55.heap.size w55 w56)))
                    clear hv
                    refine hK.out _ _ (⟨(M.out.2.2.2.2.2.2.2.2.1).at.1 0, (M.out.2.2.2.2.2.2.2.2.1).at.1 1⟩) (fun hH280 => ?_)
                    clear hK K hH261
                    (try simp only [Act.put, List.setIfInBounds_toArray, List.set_cons_zero, List.set_cons_succ])
                    refine wpAnyH_ready (rs := [1]) (by kernel_rfl) (by simp) ?_
                    refine AllReadyH.cons at1 (fun K hK => ?_) AllReadyH.nil
                    go_simp
                    refine (bigOf_ok (G := G) 0 _ (by omega)).mono ?_
                    rintro e w57 ⟨a_281, c_282, rfl, hd283, hb⟩
                    replace M := Lib.hid (And.intro hd283 (Goes.go M.out hb))
                    clear hb hd283
                    (try go_wp2_with fail)
                    refine hK.out _ _ (⟨(M.out.2.2.2.2.2.2.2.2.2.1).at.1 0, (M.out.2.2.2.2.2.2.2.2.2.1).at.1 1⟩) (fun hH284 => ?_)
                    clear hK K hH280
                    (try simp only [Act.put, List.setIfInBounds_toArray, List.set_cons_zero, List.set_cons_succ])
                    refine wpAnyH_ready (rs := [2]) (by kernel_rfl) (by simp) ?_
                    refine AllReadyH.cons at2 (fun K hK => ?_) AllReadyH.nil
                    go_simp
                    obtain ⟨z287, ez287⟩ : ∃ v_ : Int, v_ = (x * 0) := ⟨_, rfl⟩
                    refine (bigMul_ok (G := G) (x := x) (y := 0) (H1.out.keep (M.out.2.2.2.2.2.2.2.2.2.2)) (M.out.1) (Sz.mono HX.out (by omega)) (Sz.mono (show Sz (0) 0 from by unfold Sz; decide) (by omega))).mono ?_
                    rintro e w58 ⟨a_285, c_286, rfl, hd288, hb⟩
                    rw [← ez287] at hd288 ⊢
                    have Sz287 : Hid (Sz z287 25) := by show Sz z287 25; rw [ez287]; exact (Sz.mul HX.out (show Sz (0) 0 from by unfold Sz; decide))
                    have Ez287 := Lib.hid ez287; clear ez287
                    replace M := Lib.hid (And.intro hd288 (Goes.go M.out hb))
                    clear hb hd288
                    (try go_wp2_with fail)
                    refine hK.out _ _ (⟨(M.out.2.2.2.2.2.2.2.2.2.2.1).at.1 0, (M.out.2.2.2.2.2.2.2.2.2.2.1).at.1 1⟩) (fun hH289 => ?_)
                    clear hK K hH284
                    (try simp only [Act.put, List.setIfInBounds_toArray, List.set_cons_zero, List.set_cons_succ])
                    refine tk at3 ?_
                    refine tk at4 ?_
                    refine tk at5 ?_
                    refine wpAnyH_ready (rs := [7]) (by kernel_rfl) (by simp) ?_
                    refine AllReadyH.cons at7 (fun K hK => ?_) AllReadyH.nil
                    obtain ⟨p18_0, q18_0, p18_1, q18_1⟩ := (M.out.2.2.1).c2
                    go_simp
                    clear p18_0 q18_0 p18_1 q18_1
                    obtain ⟨w59, hv⟩ : ∃ w_ : World, w_ = ((w58.setCell ⟨w55.heap.size, 0, none⟩ (.int .i64 (sg z287))).setCell ⟨w55.heap.size, 1, none⟩ (.slice a_285 (ln z287) c_286)) := ⟨_, rfl⟩
                    rw [← hv]
                    have og : w58.grownBy w59 (some w55.heap.size) := by rw [hv]; exact (only_setCell (only_setCell (World.grownBy.refl _ _) _) _)
                    have hz : w.heap.size ≤ w55.heap.size := by omega
                    have hk : Bx w59 w55.heap.size 24 #[.int .i64 (sg z287), .slice a_285 (ln z287) c_286] := by rw [hv]; exact (((M.out.2.2.1).set 0 _).set 1 _)
                    have hbw : Below w.heap.size w w59 := by rw [hv]; exact (Below.setCell (Below.setCell (M.out.2.2.2.2.2.2.2.2.2.2.2) (by omega) _) (by omega) _)
                    replace M := Lib.hid (And.intro ((M.out.1).far (M.out.2.2.1) (by rfl) (by omega) og) (And.intro ((M.out.2.1).far (M.out.2.2.1) (by rfl) (by omega) og) (And.intro hk (And.intro ((M.out.2.2.2.1).only og (by omega)) (And.intro ((M.out.2.2.2.2.1).far (M.out.2.2.1) (by rfl) (by omega) og) (And.intro ((M.out.2.2.2.2.2.1).far (M.out.2.2.1) (by rfl) (by omega) og) (And.intro ((M.out.2.2.2.2.2.2.1).far (M.out.2.2.1) (by rfl) (by omega) og) (And.intro ((M.out.2.2.2.2.2.2.2.1).only og (by omega)) (And.intro ((M.out.2.2.2.2.2.2.2.2.1).far (M.out.2.2.1) (by rfl) (by omega) og) (And.intro ((M.out.2.2.2.2.2.2.2.2.2.1).far (M.out.2.2.1) (by rfl) (by omega) og) (And.intro ((M.out.2.2.2.2.2.2.2.2.2.2.1).only og (by omega)) hbw)))))))))))
                    clear hk hbw og hv hz
                    refine hK.out _ _ (⟨(M.out.2.2.2.2.2.2.2.2.2.2.1).at.1 0, (M.out.2.2.2.2.2.2.2.2.2.2.1).at.1 1⟩) (fun hH290 => ?_)
                    clear hK K hH289
                    (try simp only [Act.put, List.setIfInBounds_toArray, List.set_cons_zero, List.set_cons_succ])
                    refine tk at8 ?_
                    refine wpAnyH_done (by kernel_rfl) ?_ _
                    clear hH290
                    obtain ⟨p16_0, q16_0, p16_1, q16_1⟩ := (M.out.2.2.2.2.2.2.2.1).c2
                    obtain ⟨p0_0, q0_0, p0_1, q0_1⟩ := (M.out.2.2.2.2.2.2.2.2.2.2.1).c2
                    go_wp2_with fail
                    clear p16_0 q16_0 p16_1 q16_1 p0_0 q0_0 p0_1 q0_1
                    replace M := Lib.hid (And.intro (M.out.1) (And.intro (M.out.2.2.1) (And.intro (M.out.2.2.2.1) (And.intro (M.out.2.2.2.2.1) (And.intro (M.out.2.2.2.2.2.2.1) (And.intro (M.out.2.2.2.2.2.2.2.2.2.2.1) (M.out.2.2.2.2.2.2.2.2.2.2.2)))))))
                    refine (rsame_is (G := G) (x := z231) (y := x) (b := true) (M.out.2.2.2.2.1) (H1.out.keep (M.out.2.2.2.2.2.2)) (Sz.mono Sz231.out (by omega)) (Sz.mono HX.out (by omega)) (eqZ_of (by rw [Ez231.out] <;> grind))).mono ?_
                    rintro e w60 ⟨rfl, hb⟩
                    replace M := Lib.hid (Goes.go M.out hb)
                    clear hb
                    obtain ⟨p17_0, q17_0, p17_1, q17_1⟩ := (M.out.2.2.1).c2
                    obtain ⟨p0_0, q0_0, p0_1, q0_1⟩ := (M.out.2.2.2.2.2.1).c2
                    go_wp2_with fail
                    clear p17_0 q17_0 p17_1 q17_1 p0_0 q0_0 p0_1 q0_1
                    refine (rsame_is (G := G) (x := z249) (y := x) (b := true) (M.out.2.2.2.1) (H1.out.keep (M.out.2.2.2.2.2.2)) (Sz.mono Sz249.out (by omega)) (Sz.mono HX.out (by omega)) (eqZ_of (by rw [Ez249.out] <;> grind))).mono ?_
                    rintro e w61 ⟨rfl, hb⟩
                    replace M := Lib.hid (Goes.go M.out hb)
                    clear hb
                    obtain ⟨p18_0, q18_0, p18_1, q18_1⟩ := (M.out.2.1).c2
                    go_wp2_with fail
                    clear p18_0 q18_0 p18_1 q18_1
                    replace M := Lib.hid (And.intro (M.out.1) (M.out.2.2.2.2.2.2))
                    refine (rsame_is (G := G) (x := z287) (y := 0) (b := true) (M.out.1) (bd_zero _ _ _) (Sz.mono Sz287.out (by omega)) (Sz.mono (show Sz (0) 0 from by unfold Sz; decide) (by omega)) (eqZ_of (by rw [Ez287.out] <;> grind))).mono ?_
                    rintro e w62 ⟨rfl, hb⟩
                    replace M := Lib.hid (Goes.go M.out hb)
                    clear hb
                    go_wp2_with fail
                    go_ret
                    exact ⟨rfl, (M.out.2)⟩
                  refine AllReadyH.cons at6 (fun K hK => ?_) AllReadyH.nil
                  go_simp
                  obtain ⟨w52, hv⟩ : ∃ w_ : World, w_ = (w51.alloc (.cells #[.int .i64 0, .slice none 0 0] 24)) := ⟨_, rfl⟩
                  rw [← hv]
                  have o17 : w46.heap.size < w51.heap.size := ((M.out.2.2.1)).lt
                  replace M := Lib.hid (And.intro (hv ▸ bx1 w51 24 #[.int .i64 0, .slice none 0 0]) (Goes.go M.out (hv ▸ below_alloc _ _ : Below w51.heap.size w51 w52)))
                  clear hv
                  refine hK.out _ _ (⟨(M.out.2.2.2.2.2.2.1).at.1 0, (M.out.2.2.2.2.2.2.1).at.1 1⟩) (fun hH291 => ?_)
                  clear hK K hH246
                  (try simp only [Act.put, List.setIfInBounds_toArray, List.set_cons_zero, List.set_cons_succ])
                  refine wpAnyH_ready (rs := [2]) (by kernel_rfl) (by simp) ?_
                  refine AllReadyH.cons at2 (fun K hK => ?_) AllReadyH.nil
                  go_simp
                  obtain ⟨z294, ez294⟩ : ∃ v_ : Int, v_ = (x * 1) := ⟨_, rfl⟩
                  refine (bigMul_ok (G := G) (x := x) (y := 1) (H1.out.keep (M.out.2.2.2.2.2.2.2)) (M.out.2.1) (Sz.mono HX.out (by omega)) (Sz.mono (show Sz (1) 1 from by unfold Sz; decide) (by omega))).mono ?_
                  rintro e w53 ⟨a_292, c_293, rfl, hd295, hb⟩
                  rw [← ez294] at hd295 ⊢
                  have Sz294 : Hid (Sz z294 26) := by show Sz z294 26; rw [ez294]; exact (Sz.mul HX.out (show Sz (1) 1 from by unfold Sz; decide))
                  have Ez294 := Lib.hid ez294; clear ez294
                  replace M := Lib.hid (And.intro hd295 (Goes.go M.out hb))
                  clear hb hd295
                  (try go_wp2_with fail)
                  refine hK.out _ _ (⟨(M.out.2.2.2.2.2.2.2.1).at.1 0, (M.out.2.2.2.2.2.2.2.1).at.1 1⟩) (fun hH296 => ?_)
                  clear hK K hH291
                  (try simp only [Act.put, List.setIfInBounds_toArray, List.set_cons_zero, List.set_cons_succ])
                  refine tk at3 ?_
                  refine tk at4 ?_
                  refine tk at5 ?_
                  refine wpAnyH_ready (rs := [7]) (by kernel_rfl) (by simp) ?_
                  refine AllReadyH.cons at7 (fun K hK => ?_) AllReadyH.nil
                  obtain ⟨p17_0, q17_0, p17_1, q17_1⟩ := (M.out.2.1).c2
                  go_simp
                  clear p17_0 q17_0 p17_1 q17_1
                  obtain ⟨w54, hv⟩ : ∃ w_ : World, w_ = ((w53.setCell ⟨w51.heap.size, 0, none⟩ (.int .i64 (sg z294))).setCell ⟨w51.heap.size, 1, none⟩ (.slice a_292 (ln z294) c_293)) := ⟨_, rfl⟩
                  rw [← hv]
                  have og : w53.grownBy w54 (some w51.heap.size) := by rw [hv]; exact (only_setCell (only_setCell (World.grownBy.refl _ _) _) _)
                  have hz : w.heap.size ≤ w51.heap.size := by omega
                  have hk : Bx w54 w51.heap.size 24 #[.int .i64 (sg z294), .slice a_292 (ln z294) c_293] := by rw [hv]; exact (((M.out.2.1).set 0 _).set 1 _)
                  have hbw : Below w.heap.size w w54 := by rw [hv]; exact (Below.setCell (Below.setCell (M.out.2.2.2.2.2.2.2.2) (by omega) _) (by omega) _)
                  replace M := Lib.hid (And.intro ((M.out.1).far (M.out.2.1) (by rfl) (by omega) og) (And.intro hk (And.intro ((M.out.2.2.1).far (M.out.2.1) (by rfl) (by omega) og) (And.intro ((M.out.2.2.2.1).far (M.out.2.1) (by rfl) (by omega) og) (And.intro ((M.out.2.2.2.2.1).only og (by omega)) (And.intro ((M.out.2.2.2.2.2.1).far (M.out.2.1) (by rfl) (by omega) og) (And.intro ((M.out.2.2.2.2.2.2.1).far (M.out.2.1) (by rfl) (by omega) og) (And.intro ((M.out.2.2.2.2.2.2.2.1).only og (by omega)) hbw))))))))
                  clear hk hbw og hv hz
                  refine hK.out _ _ (⟨(M.out.2.2.2.2.2.2.2.1).at.1 0, (M.out.2.2.2.2.2.2.2.1).at.1 1⟩) (fun hH297 => ?_)
                  clear hK K hH296
                  (try simp only [Act.put, List.setIfInBounds_toArray, List.set_cons_zero, List.set_cons_succ])
                  refine tk at8 ?_
                  refine wpAnyH_done (by kernel_rfl) ?_ _
                  clear hH297
                  go_wp2_with fail
                  obtain ⟨w55, hv⟩ : ∃ w_ : World, w_ = w54.drew := ⟨_, rfl⟩
                  replace M := Lib.hid (Goes.go M.out (hv ▸ below_drew _ : Below w54.heap.size w54 w55))
                  refine wp_region_held_drew (S := (fun w' => w'.cell? ⟨w.heap.size, 0, none⟩ = some (.int .i64 (sg x)) ∧ w'.cell? ⟨w.heap.size, 1, none⟩ = some (.slice a1 (ln x) c1))) (by kernel_rfl) (by rw [← hv]; exact ⟨(M.out.2.2.2.2.2.2.2.1).at.1 0, (M.out.2.2.2.2.2.2.2.1).at.1 1⟩) (fun hH305 => ?_)
                  rw [← hv] at hH305 ⊢
                  clear hv
                  refine tk at0 ?_
                  refine wpAnyH_ready (rs := [1, 6]) (by kernel_rfl) (by simp) ?_
                  refine AllReadyH.cons at1 (fun K hK => ?_) ?_
                  ·
                    go_simp
                    refine (bigOf_ok (G := G) 0 _ (by omega)).mono ?_
                    rintro e w56 ⟨a_306, c_307, rfl, hd308, hb⟩
                    replace M := Lib.hid (And.intro hd308 (Goes.go M.out hb))
                    clear hb hd308
                    (try go_wp2_with fail)
                    refine hK.out _ _ (⟨(M.out.2.2.2.2.2.2.2.2.1).at.1 0, (M.out.2.2.2.2.2.2.2.2.1).at.1 1⟩) (fun hH309 => ?_)
                    clear hK K hH305
                    (try simp only [Act.put, List.setIfInBounds_toArray, List.set_cons_zero, List.set_cons_succ])
                    refine wpAnyH_ready (rs := [2, 6]) (by kernel_rfl) (by simp) ?_
                    refine AllReadyH.cons at2 (fun K hK => ?_) ?_
                    ·
                      go_simp
                      obtain ⟨z312, ez312⟩ : ∃ v_ : Int, v_ = (x * 0) := ⟨_, rfl⟩
                      refine (bigMul_ok (G := G) (x := x) (y := 0) (H1.out.keep (M.out.2.2.2.2.2.2.2.2.2)) (M.out.1) (Sz.mono HX.out (by omega)) (Sz.mono (show Sz (0) 0 from by unfold Sz; decide) (by omega))).mono ?_
                      rintro e w57 ⟨a_310, c_311, rfl, hd313, hb⟩
                      rw [← ez312] at hd313 ⊢
                      have Sz312 : Hid (Sz z312 25) := by show Sz z312 25; rw [ez312]; exact (Sz.mul HX.out (show Sz (0) 0 from by unfold Sz; decide))
                      have Ez312 := Lib.hid ez312; clear ez312
                      replace M := Lib.hid (And.intro hd313 (Goes.go M.out hb))
                      clear hb hd313
                      (try go_wp2_with fail)
                      refine hK.out _ _ (⟨(M.out.2.2.2.2.2.2.2.2.2.1).at.1 0, (M.out.2.2.2.2.2.2.2.2.2.1).at.1 1⟩) (fun hH314 => ?_)
                      clear hK K hH309
                      (try simp only [Act.put, List.setIfInBounds_toArray, List.set_cons_zero, List.set_cons_succ])
                      refine tk at3 ?_
                      refine tk at4 ?_
                      refine tk at5 ?_
                      refine wpAnyH_ready (rs := [6]) (by kernel_rfl) (by simp) ?_
                      refine AllReadyH.cons at6 (fun K hK => ?_) AllReadyH.nil
                      go_simp
                      obtain ⟨w58, hv⟩ : ∃ w_ : World, w_ = (w57.alloc (.cells #[.int .i64 0, .slice none 0 0] 24)) := ⟨_, rfl⟩
                      rw [← hv]
                      have o18 : w51.heap.size < w57.heap.size := ((M.out.2.2.2.1)).lt
                      replace M := Lib.hid (And.intro (hv ▸ bx1 w57 24 #[.int .i64 0, .slice none 0 0]) (Goes.go M.out (hv ▸ below_alloc _ _ : Below w57.heap.size w57 w58)))
                      clear hv
                      refine hK.out _ _ (⟨(M.out.2.2.2.2.2.2.2.2.2.2.1).at.1 0, (M.out.2.2.2.2.2.2.2.2.2.2.1).at.1 1⟩) (fun hH315 => ?_)
                      clear hK K hH314
                      (try simp only [Act.put, List.setIfInBounds_toArray, List.set_cons_zero, List.set_cons_succ])
                      refine wpAnyH_ready (rs := [7]) (by kernel_rfl) (by simp) ?_
                      refine AllReadyH.cons at7 (fun K hK => ?_) AllReadyH.nil
                      obtain ⟨p18_0, q18_0, p18_1, q18_1⟩ := (M.out.1).c2
                      go_simp
                      clear p18_0 q18_0 p18_1 q18_1
                      obtain ⟨w59, hv⟩ : ∃ w_ : World, w_ = ((w58.setCell ⟨w57.heap.size, 0, none⟩ (.int .i64 (sg z312))).setCell ⟨w57.heap.size, 1, none⟩ (.slice a_310 (ln z312) c_311)) := ⟨_, rfl⟩
                      rw [← hv]
                      have og : w58.grownBy w59 (some w57.heap.size) := by rw [hv]; exact (only_setCell (only_setCell (World.grownBy.refl _ _) _) _)
                      have hz : w.heap.size ≤ w57.heap.size := by omega
                      have hk : Bx w59 w57.heap.size 24 #[.int .i64 (sg z312), .slice a_310 (ln z312) c_311] := by rw [hv]; exact (((M.out.1).set 0 _).set 1 _)
                      have hbw : Below w.heap.size w w59 := by rw [hv]; exact (Below.setCell (Below.setCell (M.out.2.2.2.2.2.2.2.2.2.2.2) (by omega) _) (by omega) _)
                      replace M := Lib.hid (And.intro hk (And.intro ((M.out.2.1).far (M.out.1) (by rfl) (by omega) og) (And.intro ((M.out.2.2.1).far (M.out.1) (by rfl) (by omega) og) (And.intro ((M.out.2.2.2.1).far (M.out.1) (by rfl) (by omega) og) (And.intro ((M.out.2.2.2.2.1).only og (by omega)) (And.intro ((M.out.2.2.2.2.2.1).far (M.out.1) (by rfl) (by omega) og) (And.intro ((M.out.2.2.2.2.2.2.1).far (M.out.1) (by rfl) (by omega) og) (And.intro ((M.out.2.2.2.2.2.2.2.1).only og (by omega)) (And.intro ((M.out.2.2.2.2.2.2.2.2.1).far (M.out.1) (by rfl) (by omega) og) (And.intro ((M.out.2.2.2.2.2.2.2.2.2.1).far (M.out.1) (by rfl) (by omega) og) (And.intro ((M.out.2.2.2.2.2.2.2.2.2.2.1).only og (by omega)) hbw)))))))))))
                      clear hk hbw og hv hz
                      refine hK.out _ _ (⟨(M.out.2.2.2.2.2.2.2.2.2.2.1).at.1 0, (M.out.2.2.2.2.2.2.2.2.2.2.1).at.1 1⟩) (fun hH316 => ?_)
                      clear hK K hH315
                      (try simp only [Act.put, List.setIfInBounds_toArray, List.set_cons_zero, List.set_cons_succ])
                      refine tk at8 ?_
                      refine wpAnyH_done (by kernel_rfl) ?_ _
                      clear hH316
                      obtain ⟨p16_0, q16_0, p16_1, q16_1⟩ := (M.out.2.2.2.2.2.2.2.1).c2
                      obtain ⟨p0_0, q0_0, p0_1, q0_1⟩ := (M.out.2.2.2.2.2.2.2.2.2.2.1).c2
                      go_wp2_with fail
                      clear p16_0 q16_0 p16_1 q16_1 p0_0 q0_0 p0_1 q0_1
                      replace M := Lib.hid (And.intro (M.out.1) (And.intro (M.out.2.1) (And.intro (M.out.2.2.2.1) (And.intro (M.out.2.2.2.2.1) (And.intro (M.out.2.2.2.2.2.2.1) (And.intro (M.out.2.2.2.2.2.2.2.2.2.2.1) (M.out.2.2.2.2.2.2.2.2.2.2.2)))))))
                      refine (rsame_is (G := G) (x := z231) (y := x) (b := true) (M.out.2.2.2.2.1) (H1.out.keep (M.out.2.2.2.2.2.2)) (Sz.mono Sz231.out (by omega)) (Sz.mono HX.out (by omega)) (eqZ_of (by rw [Ez231.out] <;> grind))).mono ?_
                      rintro e w60 ⟨rfl, hb⟩
                      replace M := Lib.hid (Goes.go M.out hb)
                      clear hb
                      obtain ⟨p17_0, q17_0, p17_1, q17_1⟩ := (M.out.2.2.2.1).c2
                      obtain ⟨p0_0, q0_0, p0_1, q0_1⟩ := (M.out.2.2.2.2.2.1).c2
                      go_wp2_with fail
                      clear p17_0 q17_0 p17_1 q17_1 p0_0 q0_0 p0_1 q0_1
                      refine (rsame_is (G := G) (x := z294) (y := x) (b := true) (M.out.2.2.1) (H1.out.keep (M.out.2.2.2.2.2.2)) (Sz.mono Sz294.out (by omega)) (Sz.mono HX.out (by omega)) (eqZ_of (by rw [Ez294.out] <;> grind))).mono ?_
                      rintro e w61 ⟨rfl, hb⟩
                      replace M := Lib.hid (Goes.go M.out hb)
                      clear hb
                      obtain ⟨p18_0, q18_0, p18_1, q18_1⟩ := (M.out.1).c2
                      go_wp2_with fail
                      clear p18_0 q18_0 p18_1 q18_1
                      replace M := Lib.hid (And.intro (M.out.2.1) (M.out.2.2.2.2.2.2))
                      refine (rsame_is (G := G) (x := z312) (y := 0) (b := true) (M.out.1) (bd_zero _ _ _) (Sz.mono Sz312.out (by omega)) (Sz.mono (show Sz (0) 0 from by unfold Sz; decide) (by omega)) (eqZ_of (by rw [Ez312.out] <;> grind))).mono ?_
                      rintro e w62 ⟨rfl, hb⟩
                      replace M := Lib.hid (Goes.go M.out hb)
                      clear hb
                      go_wp2_with fail
                      go_ret
                      exact ⟨rfl, (M.out.2)⟩
                    refine AllReadyH.cons at6 (fun K hK => ?_) AllReadyH.nil
                    go_simp
                    obtain ⟨w57, hv⟩ : ∃ w_ : World, w_ = (w56.alloc (.cells #[.int .i64 0, .slice none 0 0] 24)) := ⟨_, rfl⟩
                    rw [← hv]
                    have o18 : w51.heap.size < w56.heap.size := ((M.out.2.2.1)).lt
                    replace M := Lib.hid (And.intro (hv ▸ bx1 w56 24 #[.int .i64 0, .slice none 0 0]) (Goes.go M.out (hv ▸ below_alloc _ _ : Below w56.heap.size w56 w57)))
                    clear hv
                    refine hK.out _ _ (⟨(M.out.2.2.2.2.2.2.2.2.2.1).at.1 0, (M.out.2.2.2.2.2.2.2.2.2.1).at.1 1⟩) (fun hH317 => ?_)
                    clear hK K hH309
                    (try simp only [Act.put, List.setIfInBounds_toArray, List.set_cons_zero, List.set_cons_succ])
                    refine wpAnyH_ready (rs := [2]) (by kernel_rfl) (by simp) ?_
                    refine AllReadyH.cons at2 (fun K hK => ?_) AllReadyH.nil
                    go_simp
                    obtain ⟨z320, ez320⟩ : ∃ v_ : Int, v_ = (x * 0) := ⟨_, rfl⟩
                    refine (bigMul_ok (G := G) (x := x) (y := 0) (H1.out.keep (M.out.2.2.2.2.2.2.2.2.2.2)) (M.out.2.1) (Sz.mono HX.out (by omega)) (Sz.mono (show Sz (0) 0 from by unfold Sz; decide) (by omega))).mono ?_
                    rintro e w58 ⟨a_318, c_319, rfl, hd321, hb⟩
                    rw [← ez320] at hd321 ⊢
                    have Sz320 : Hid (Sz z320 25) := by show Sz z320 25; rw [ez320]; exact (Sz.mul HX.out (show Sz (0) 0 from by unfold Sz; decide))
                    have Ez320 := Lib.hid ez320; clear ez320
                    replace M := Lib.hid (And.intro hd321 (Goes.go M.out hb))
                    clear hb hd321
                    (try go_wp2_with fail)
                    refine hK.out _ _ (⟨(M.out.2.2.2.2.2.2.2.2.2.2.1).at.1 0, (M.out.2.2.2.2.2.2.2.2.2.2.1).at.1 1⟩) (fun hH322 => ?_)
                    clear hK K hH317
                    (try simp only [Act.put, List.setIfInBounds_toArray, List.set_cons_zero, List.set_cons_succ])
                    refine tk at3 ?_
                    refine tk at4 ?_
                    refine tk at5 ?_
                    refine wpAnyH_ready (rs := [7]) (by kernel_rfl) (by simp) ?_
                    refine AllReadyH.cons at7 (fun K hK => ?_) AllReadyH.nil
                    obtain ⟨p18_0, q18_0, p18_1, q18_1⟩ := (M.out.2.1).c2
                    go_simp
                    clear p18_0 q18_0 p18_1 q18_1
                    obtain ⟨w59, hv⟩ : ∃ w_ : World, w_ = ((w58.setCell ⟨w56.heap.size, 0, none⟩ (.int .i64 (sg z320))).setCell ⟨w56.heap.size, 1, none⟩ (.slice a_318 (ln z320) c_319)) := ⟨_, rfl⟩
                    rw [← hv]
                    have og : w58.grownBy w59 (some w56.heap.size) := by rw [hv]; exact (only_setCell (only_setCell (World.grownBy.refl _ _) _) _)
                    have hz : w.heap.size ≤ w56.heap.size := by omega
                    have hk : Bx w59 w56.heap.size 24 #[.int .i64 (sg z320), .slice a_318 (ln z320) c_319] := by rw [hv]; exact (((M.out.2.1).set 0 _).set 1 _)
                    have hbw : Below w.heap.size w w59 := by rw [hv]; exact (Below.setCell (Below.setCell (M.out.2.2.2.2.2.2.2.2.2.2.2) (by omega) _) (by omega) _)
                    replace M := Lib.hid (And.intro ((M.out.1).far (M.out.2.1) (by rfl) (by omega) og) (And.intro hk (And.intro ((M.out.2.2.1).far (M.out.2.1) (by rfl) (by omega) og) (And.intro ((M.out.2.2.2.1).far (M.out.2.1) (by rfl) (by omega) og) (And.intro ((M.out.2.2.2.2.1).only og (by omega)) (And.intro ((M.out.2.2.2.2.2.1).far (M.out.2.1) (by rfl) (by omega) og) (And.intro ((M.out.2.2.2.2.2.2.1).far (M.out.2.1) (by rfl) (by omega) og) (And.intro ((M.out.2.2.2.2.2.2.2.1).only og (by omega)) (And.intro ((M.out.2.2.2.2.2.2.2.2.1).far (M.out.2.1) (by rfl) (by omega) og) (And.intro ((M.out.2.2.2.2.2.2.2.2.2.1).far (M.out.2.1) (by rfl) (by omega) og) (And.intro ((M.out.2.2.2.2.2.2.2.2.2.2.1).only og (by omega)) hbw)))))))))))
                    clear hk hbw og hv hz
                    refine hK.out _ _ (⟨(M.out.2.2.2.2.2.2.2.2.2.2.1).at.1 0, (M.out.2.2.2.2.2.2.2.2.2.2.1).at.1 1⟩) (fun hH323 => ?_)
                    clear hK K hH322
                    (try simp only [Act.put, List.setIfInBounds_toArray, List.set_cons_zero, List.set_cons_succ])
                    refine tk at8 ?_
                    refine wpAnyH_done (by kernel_rfl) ?_ _
                    clear hH323
                    obtain ⟨p16_0, q16_0, p16_1, q16_1⟩ := (M.out.2.2.2.2.2.2.2.1).c2
                    obtain ⟨p0_0, q0_0, p0_1, q0_1⟩ := (M.out.2.2.2.2.2.2.2.2.2.2.1).c2
                    go_wp2_with fail
                    clear p16_0 q16_0 p16_1 q16_1 p0_0 q0_0 p0_1 q0_1
                    replace M := Lib.hid (And.intro (M.out.1) (And.intro (M.out.2.1) (And.intro (M.out.2.2.2.1) (And.intro (M.out.2.2.2.2.1) (And.intro (M.out.2.2.2.2.2.2.1) (And.intro (M.out.2.2.2.2.2.2.2.2.2.2.1) (M.out.2.2.2.2.2.2.2.2.2.2.2)))))))
                    refine (rsame_is (G := G) (x := z231) (y := x) (b := true) (M.out.2.2.2.2.1) (H1.out.keep (M.out.2.2.2.2.2.2)) (Sz.mono Sz231.out (by omega)) (Sz.mono HX.out (by omega)) (eqZ_of (by rw [Ez231.out] <;> grind))).mono ?_
                    rintro e w60 ⟨rfl, hb⟩
                    replace M := Lib.hid (Goes.go M.out hb)
                    clear hb
                    obtain ⟨p17_0, q17_0, p17_1, q17_1⟩ := (M.out.2.2.2.1).c2
                    obtain ⟨p0_0, q0_0, p0_1, q0_1⟩ := (M.out.2.2.2.2.2.1).c2
                    go_wp2_with fail
                    clear p17_0 q17_0 p17_1 q17_1 p0_0 q0_0 p0_1 q0_1
                    refine (rsame_is (G := G) (x := z294) (y := x) (b := true) (M.out.2.2.1) (H1.out.keep (M.out.2.2.2.2.2.2)) (Sz.mono Sz294.out (by omega)) (Sz.mono HX.out (by omega)) (eqZ_of (by rw [Ez294.out] <;> grind))).mono ?_
                    rintro e w61 ⟨rfl, hb⟩
                    replace M := Lib.hid (Goes.go M.out hb)
                    clear hb
                    obtain ⟨p18_0, q18_0, p18_1, q18_1⟩ := (M.out.2.1).c2
                    go_wp2_with fail
                    clear p18_0 q18_0 p18_1 q18_1
                    replace M := Lib.hid (And.intro (M.out.1) (M.out.2.2.2.2.2.2))
                    refine (rsame_is (G := G) (x := z320) (y := 0) (b := true) (M.out.1) (bd_zero _ _ _) (Sz.mono Sz320.out (by omega)) (Sz.mono (show Sz (0) 0 from by unfold Sz; decide) (by omega)) (eqZ_of (by rw [Ez320.out] <;> grind))).mono ?_
                    rintro e w62 ⟨rfl, hb⟩
                    replace M := Lib.hid (Goes.go M.out hb)
                    clear hb
                    go_wp2_with fail
                    go_ret
                    exact ⟨rfl, (M.out.2)⟩
                  refine AllReadyH.cons at6 (fun K hK => ?_) AllReadyH.nil
                  go_simp
                  obtain ⟨w56, hv⟩ : ∃ w_ : World, w_ = (w55.alloc (.cells #[.int .i64 0, .slice none 0 0] 24)) := ⟨_, rfl⟩
                  rw [← hv]
                  have o18 : w51.heap.size < w55.heap.size := ((M.out.2.1)).lt
                  replace M := Lib.hid (And.intro (hv ▸ bx1 w55 24 #[.int .i64 0, .slice none 0 0]) (Goes.go M.out (hv ▸ below_alloc _ _ : Below w55.heap.size w55 w56)))
                  clear hv
                  refine hK.out _ _ (⟨(M.out.2.2.2.2.2.2.2.2.1).at.1 0, (M.out.2.2.2.2.2.2.2.2.1).at.1 1⟩) (fun hH324 => ?_)
                  clear hK K hH305
                  (try simp only [Act.put, List.setIfInBounds_toArray, List.set_cons_zero, List.set_cons_succ])
                  refine wpAnyH_ready (rs := [1]) (by kernel_rfl) (by simp) ?_
                  refine AllReadyH.cons at1 (fun K hK => ?_) AllReadyH.nil
                  go_simp
                  refine (bigOf_ok (G := G) 0 _ (by omega)).mono ?_
                  rintro e w57 ⟨a_325, c_326, rfl, hd327, hb⟩
                  replace M := Lib.hid (And.intro hd327 (Goes.go M.out hb))
                  clear hb hd327
                  (try go_wp2_with fail)
                  refine hK.out _ _ (⟨(M.out.2.2.2.2.2.2.2.2.2.1).at.1 0, (M.out.2.2.2.2.2.2.2.2.2.1).at.1 1⟩) (fun hH328 => ?_)
                  clear hK K hH324
                  (try simp only [Act.put, List.setIfInBounds_toArray, List.set_cons_zero, List.set_cons_succ])
                  refine wpAnyH_ready (rs := [2]) (by kernel_rfl) (by simp) ?_
                  refine AllReadyH.cons at2 (fun K hK => ?_) AllReadyH.nil
                  go_simp
                  obtain ⟨z331, ez331⟩ : ∃ v_ : Int, v_ = (x * 0) := ⟨_, rfl⟩
                  refine (bigMul_ok (G := G) (x := x) (y := 0) (H1.out.keep (M.out.2.2.2.2.2.2.2.2.2.2)) (M.out.1) (Sz.mono HX.out (by omega)) (Sz.mono (show Sz (0) 0 from by unfold Sz; decide) (by omega))).mono ?_
                  rintro e w58 ⟨a_329, c_330, rfl, hd332, hb⟩
                  rw [← ez331] at hd332 ⊢
                  have Sz331 : Hid (Sz z331 25) := by show Sz z331 25; rw [ez331]; exact (Sz.mul HX.out (show Sz (0) 0 from by unfold Sz; decide))
                  have Ez331 := Lib.hid ez331; clear ez331
                  replace M := Lib.hid (And.intro hd332 (Goes.go M.out hb))
                  clear hb hd332
                  (try go_wp2_with fail)
                  refine hK.out _ _ (⟨(M.out.2.2.2.2.2.2.2.2.2.2.1).at.1 0, (M.out.2.2.2.2.2.2.2.2.2.2.1).at.1 1⟩) (fun hH333 => ?_)
                  clear hK K hH328
                  (try simp only [Act.put, List.setIfInBounds_toArray, List.set_cons_zero, List.set_cons_succ])
                  refine tk at3 ?_
                  refine tk at4 ?_
                  refine tk at5 ?_
                  refine wpAnyH_ready (rs := [7]) (by kernel_rfl) (by simp) ?_
                  refine AllReadyH.cons at7 (fun K hK => ?_) AllReadyH.nil
                  obtain ⟨p18_0, q18_0, p18_1, q18_1⟩ := (M.out.2.2.1).c2
                  go_simp
                  clear p18_0 q18_0 p18_1 q18_1
                  obtain ⟨w59, hv⟩ : ∃ w_ : World, w_ = ((w58.setCell ⟨w55.heap.size, 0, none⟩ (.int .i64 (sg z331))).setCell ⟨w55.heap.size, 1, none⟩ (.slice a_329 (ln z331) c_330)) := ⟨_, rfl⟩
                  rw [← hv]
                  have og : w58.grownBy w59 (some w55.heap.size) := by rw [hv]; exact (only_setCell (only_setCell (World.grownBy.refl _ _) _) _)
                  have hz : w.heap.size ≤ w55.heap.size := by omega
                  have hk : Bx w59 w55.heap.size 24 #[.int .i64 (sg z331), .slice a_329 (ln z331) c_330] := by rw [hv]; exact (((M.out.2.2.1).set 0 _).set 1 _)
                  have hbw : Below w.heap.size w w59 := by rw [hv]; exact (Below.setCell (Below.setCell (M.out.2.2.2.2.2.2.2.2.2.2.2) (by omega) _) (by omega) _)
                  replace M := Lib.hid (And.intro ((M.out.1).far (M.out.2.2.1) (by rfl) (by omega) og) (And.intro ((M.out.2.1).far (M.out.2.2.1) (by rfl) (by omega) og) (And.intro hk (And.intro ((M.out.2.2.2.1).far (M.out.2.2.1) (by rfl) (by omega) og) (And.intro ((M.out.2.2.2.2.1).only og (by omega)) (And.intro ((M.out.2.2.2.2.2.1).far (M.out.2.2.1) (by rfl) (by omega) og) (And.intro ((M.out.2.2.2.2.2.2.1).far (M.out.2.2.1) (by rfl) (by omega) og) (And.intro ((M.out.2.2.2.2.2.2.2.1).only og (by omega)) (And.intro ((M.out.2.2.2.2.2.2.2.2.1).far (M.out.2.2.1) (by rfl) (by omega) og) (And.intro ((M.out.2.2.2.2.2.2.2.2.2.1).far (M.out.2.2.1) (by rfl) (by omega) og) (And.intro ((M.out.2.2.2.2.2.2.2.2.2.2.1).only og (by omega)) hbw)))))))))))
                  clear hk hbw og hv hz
                  refine hK.out _ _ (⟨(M.out.2.2.2.2.2.2.2.2.2.2.1).at.1 0, (M.out.2.2.2.2.2.2.2.2.2.2.1).at.1 1⟩) (fun hH334 => ?_)
                  clear hK K hH333
                  (try simp only [Act.put, List.setIfInBounds_toArray, List.set_cons_zero, List.set_cons_succ])
                  refine tk at8 ?_
                  refine wpAnyH_done (by kernel_rfl) ?_ _
                  clear hH334
                  obtain ⟨p16_0, q16_0, p16_1, q16_1⟩ := (M.out.2.2.2.2.2.2.2.1).c2
                  obtain ⟨p0_0, q0_0, p0_1, q0_1⟩ := (M.out.2.2.2.2.2.2.2.2.2.2.1).c2
                  go_wp2_with fail
                  clear p16_0 q16_0 p16_1 q16_1 p0_0 q0_0 p0_1 q0_1
                  replace M := Lib.hid (And.intro (M.out.1) (And.intro (M.out.2.2.1) (And.intro (M.out.2.2.2.1) (And.intro (M.out.2.2.2.2.1) (And.intro (M.out.2.2.2.2.2.2.1) (And.intro (M.out.2.2.2.2.2.2.2.2.2.2.1) (M.out.2.2.2.2.2.2.2.2.2.2.2)))))))
                  refine (rsame_is (G := G) (x := z231) (y := x) (b := true) (M.out.2.2.2.2.1) (H1.out.keep (M.out.2.2.2.2.2.2)) (Sz.mono Sz231.out (by omega)) (Sz.mono HX.out (by omega)) (eqZ_of (by rw [Ez231.out] <;> grind))).mono ?_
                  rintro e w60 ⟨rfl, hb⟩
                  replace M := Lib.hid (Goes.go M.out hb)
                  clear hb
                  obtain ⟨p17_0, q17_0, p17_1, q17_1⟩ := (M.out.2.2.2.1).c2
                  obtain ⟨p0_0, q0_0, p0_1, q0_1⟩ := (M.out.2.2.2.2.2.1).c2
                  go_wp2_with fail
                  clear p17_0 q17_0 p17_1 q17_1 p0_0 q0_0 p0_1 q0_1
                  refine (rsame_is (G := G) (x := z294) (y := x) (b := true) (M.out.2.2.1) (H1.out.keep (M.out.2.2.2.2.2.2)) (Sz.mono Sz294.out (by omega)) (Sz.mono HX.out (by omega)) (eqZ_of (by rw [Ez294.out] <;> grind))).mono ?_
                  rintro e w61 ⟨rfl, hb⟩
                  replace M := Lib.hid (Goes.go M.out hb)
                  clear hb
                  obtain ⟨p18_0, q18_0, p18_1, q18_1⟩ := (M.out.2.1).c2
                  go_wp2_with fail
                  clear p18_0 q18_0 p18_1 q18_1
                  replace M := Lib.hid (And.intro (M.out.1) (M.out.2.2.2.2.2.2))
                  refine (rsame_is (G := G) (x := z331) (y := 0) (b := true) (M.out.1) (bd_zero _ _ _) (Sz.mono Sz331.out (by omega)) (Sz.mono (show Sz (0) 0 from by unfold Sz; decide) (by omega)) (eqZ_of (by rw [Ez331.out] <;> grind))).mono ?_
                  rintro e w62 ⟨rfl, hb⟩
                  replace M := Lib.hid (Goes.go M.out hb)
                  clear hb
                  go_wp2_with fail
                  go_ret
                  exact ⟨rfl, (M.out.2)⟩
                refine AllReadyH.cons at6 (fun K hK => ?_) AllReadyH.nil
                go_simp
                obtain ⟨w51, hv⟩ : ∃ w_ : World, w_ = (w50.alloc (.cells #[.int .i64 0, .slice none 0 0] 24)) := ⟨_, rfl⟩
                rw [← hv]
                have o17 : w46.heap.size < w50.heap.size := ((M.out.2.1)).lt
                replace M := Lib.hid (And.intro (hv ▸ bx1 w50 24 #[.int .i64 0, .slice none 0 0]) (Goes.go M.out (hv ▸ below_alloc _ _ : Below w50.heap.size w50 w51)))
                clear hv
                refine hK.out _ _ (⟨(M.out.2.2.2.2.2.1).at.1 0, (M.out.2.2.2.2.2.1).at.1 1⟩) (fun hH335 => ?_)
                clear hK K hH242
                (try simp only [Act.put, List.setIfInBounds_toArray, List.set_cons_zero, List.set_cons_succ])
                refine wpAnyH_ready (rs := [1]) (by kernel_rfl) (by simp) ?_
                refine AllReadyH.cons at1 (fun K hK => ?_) AllReadyH.nil
                go_simp
                refine (bigOf_ok (G := G) 1 _ (by omega)).mono ?_
                rintro e w52 ⟨a_336, c_337, rfl, hd338, hb⟩
                replace M := Lib.hid (And.intro hd338 (Goes.go M.out hb))
                clear hb hd338
                (try go_wp2_with fail)
                refine hK.out _ _ (⟨(M.out.2.2.2.2.2.2.1).at.1 0, (M.out.2.2.2.2.2.2.1).at.1 1⟩) (fun hH339 => ?_)
                clear hK K hH335
                (try simp only [Act.put, List.setIfInBounds_toArray, List.set_cons_zero, List.set_cons_succ])
                refine wpAnyH_ready (rs := [2]) (by kernel_rfl) (by simp) ?_
                refine AllReadyH.cons at2 (fun K hK => ?_) AllReadyH.nil
                go_simp
                obtain ⟨z342, ez342⟩ : ∃ v_ : Int, v_ = (x * 1) := ⟨_, rfl⟩
                refine (bigMul_ok (G := G) (x := x) (y := 1) (H1.out.keep (M.out.2.2.2.2.2.2.2)) (M.out.1) (Sz.mono HX.out (by omega)) (Sz.mono (show Sz (1) 1 from by unfold Sz; decide) (by omega))).mono ?_
                rintro e w53 ⟨a_340, c_341, rfl, hd343, hb⟩
                rw [← ez342] at hd343 ⊢
                have Sz342 : Hid (Sz z342 26) := by show Sz z342 26; rw [ez342]; exact (Sz.mul HX.out (show Sz (1) 1 from by unfold Sz; decide))
                have Ez342 := Lib.hid ez342; clear ez342
                replace M := Lib.hid (And.intro hd343 (Goes.go M.out hb))
                clear hb hd343
                (try go_wp2_with fail)
                refine hK.out _ _ (⟨(M.out.2.2.2.2.2.2.2.1).at.1 0, (M.out.2.2.2.2.2.2.2.1).at.1 1⟩) (fun hH344 => ?_)
                clear hK K hH339
                (try simp only [Act.put, List.setIfInBounds_toArray, List.set_cons_zero, List.set_cons_succ])
                refine tk at3 ?_
                refine tk at4 ?_
                refine tk at5 ?_
                refine wpAnyH_ready (rs := [7]) (by kernel_rfl) (by simp) ?_
                refine AllReadyH.cons at7 (fun K hK => ?_) AllReadyH.nil
                obtain ⟨p17_0, q17_0, p17_1, q17_1⟩ := (M.out.2.2.1).c2
                go_simp
                clear p17_0 q17_0 p17_1 q17_1
                obtain ⟨w54, hv⟩ : ∃ w_ : World, w_ = ((w53.setCell ⟨w50.heap.size, 0, none⟩ (.int .i64 (sg z342))).setCell ⟨w50.heap.size, 1, none⟩ (.slice a_340 (ln z342) c_341)) := ⟨_, rfl⟩
                rw [← hv]
                have og : w53.grownBy w54 (some w50.heap.size) := by rw [hv]; exact (only_setCell (only_setCell (World.grownBy.refl _ _) _) _)
                have hz : w.heap.size ≤ w50.heap.size := by omega
                have hk : Bx w54 w50.heap.size 24 #[.int .i64 (sg z342), .slice a_340 (ln z342) c_341] := by rw [hv]; exact (((M.out.2.2.1).set 0 _).set 1 _)
                have hbw : Below w.heap.size w w54 := by rw [hv]; exact (Below.setCell (Below.setCell (M.out.2.2.2.2.2.2.2.2) (by omega) _) (by omega) _)
                replace M := Lib.hid (And.intro ((M.out.1).far (M.out.2.2.1) (by rfl) (by omega) og) (And.intro ((M.out.2.1).far (M.out.2.2.1) (by rfl) (by omega) og) (And.intro hk (And.intro ((M.out.2.2.2.1).far (M.out.2.2.1) (by rfl) (by omega) og) (And.intro ((M.out.2.2.2.2.1).only og (by omega)) (And.intro ((M.out.2.2.2.2.2.1).far (M.out.2.2.1) (by rfl) (by omega) og) (And.intro ((M.out.2.2.2.2.2.2.1).far (M.out.2.2.1) (by rfl) (by omega) og) (And.intro ((M.out.2.2.2.2.2.2.2.1).only og (by omega)) hbw))))))))
                clear hk hbw og hv hz
                refine hK.out _ _ (⟨(M.out.2.2.2.2.2.2.2.1).at.1 0, (M.out.2.2.2.2.2.2.2.1).at.1 1⟩) (fun hH345 => ?_)
                clear hK K hH344
                (try simp only [Act.put, List.setIfInBounds_toArray, List.set_cons_zero, List.set_cons_succ])
                refine tk at8 ?_
                refine wpAnyH_done (by kernel_rfl) ?_ _
                clear hH345
                go_wp2_with fail
                obtain ⟨w55, hv⟩ : ∃ w_ : World, w_ = w54.drew := ⟨_, rfl⟩
                replace M := Lib.hid (Goes.go M.out (hv ▸ below_drew _ : Below w54.heap.size w54 w55))
                refine wp_region_held_drew (S := (fun w' => w'.cell? ⟨w.heap.size, 0, none⟩ = some (.int .i64 (sg x)) ∧ w'.cell? ⟨w.heap.size, 1, none⟩ = some (.slice a1 (ln x) c1))) (by kernel_rfl) (by rw [← hv]; exact ⟨(M.out.2.2.2.2.2.2.2.1).at.1 0, (M.out.2.2.2.2.2.2.2.1).at.1 1⟩) (fun hH353 => ?_)
                rw [← hv] at hH353 ⊢
                clear hv
                refine tk at0 ?_
                refine wpAnyH_ready (rs := [1, 6]) (by kernel_rfl) (by simp) ?_
                refine AllReadyH.cons at1 (fun K hK => ?_) ?_
                ·
                  go_simp
                  refine (bigOf_ok (G := G) 0 _ (by omega)).mono ?_
                  rintro e w56 ⟨a_354, c_355, rfl, hd356, hb⟩
                  replace M := Lib.hid (And.intro hd356 (Goes.go M.out hb))
                  clear hb hd356
                  (try go_wp2_with fail)
                  refine hK.out _ _ (⟨(M.out.2.2.2.2.2.2.2.2.1).at.1 0, (M.out.2.2.2.2.2.2.2.2.1).at.1 1⟩) (fun hH357 => ?_)
                  clear hK K hH353
                  (try simp only [Act.put, List.setIfInBounds_toArray, List.set_cons_zero, List.set_cons_succ])
                  refine wpAnyH_ready (rs := [2, 6]) (by kernel_rfl) (by simp) ?_
                  refine AllReadyH.cons at2 (fun K hK => ?_) ?_
                  ·
                    go_simp
                    obtain ⟨z360, ez360⟩ : ∃ v_ : Int, v_ = (x * 0) := ⟨_, rfl⟩
                    refine (bigMul_ok (G := G) (x := x) (y := 0) (H1.out.keep (M.out.2.2.2.2.2.2.2.2.2)) (M.out.1) (Sz.mono HX.out (by omega)) (Sz.mono (show Sz (0) 0 from by unfold Sz; decide) (by omega))).mono ?_
                    rintro e w57 ⟨a_358, c_359, rfl, hd361, hb⟩
                    rw [← ez360] at hd361 ⊢
                    have Sz360 : Hid (Sz z360 25) := by show Sz z360 25; rw [ez360]; exact (Sz.mul HX.out (show Sz (0) 0 from by unfold Sz; decide))
                    have Ez360 := Lib.hid ez360; clear ez360
                    replace M := Lib.hid (And.intro hd361 (Goes.go M.out hb))
                    clear hb hd361
                    (try go_wp2_with fail)
                    refine hK.out _ _ (⟨(M.out.2.2.2.2.2.2.2.2.2.1).at.1 0, (M.out.2.2.2.2.2.2.2.2.2.1).at.1 1⟩) (fun hH362 => ?_)
                    clear hK K hH357
                    (try simp only [Act.put, List.setIfInBounds_toArray, List.set_cons_zero, List.set_cons_succ])
                    refine tk at3 ?_
                    refine tk at4 ?_
                    refine tk at5 ?_
                    refine wpAnyH_ready (rs := [6]) (by kernel_rfl) (by simp) ?_
                    refine AllReadyH.cons at6 (fun K hK => ?_) AllReadyH.nil
                    go_simp
                    obtain ⟨w58, hv⟩ : ∃ w_ : World, w_ = (w57.alloc (.cells #[.int .i64 0, .slice none 0 0] 24)) := ⟨_, rfl⟩
                    rw [← hv]
                    have o18 : w50.heap.size < w57.heap.size := ((M.out.2.2.2.2.1)).lt
                    replace M := Lib.hid (And.intro (hv ▸ bx1 w57 24 #[.int .i64 0, .slice none 0 0]) (Goes.go M.out (hv ▸ below_alloc _ _ : Below w57.heap.size w57 w58)))
                    clear hv
                    refine hK.out _ _ (⟨(M.out.2.2.2.2.2.2.2.2.2.2.1).at.1 0, (M.out.2.2.2.2.2.2.2.2.2.2.1).at.1 1⟩) (fun hH363 => ?_)
                    clear hK K hH362
                    (try simp only [Act.put, List.setIfInBounds_toArray, List.set_cons_zero, List.set_cons_succ])
                    refine wpAnyH_ready (rs := [7]) (by kernel_rfl) (by simp) ?_
                    refine AllReadyH.cons at7 (fun K hK => ?_) AllReadyH.nil
                    obtain ⟨p18_0, q18_0, p18_1, q18_1⟩ := (M.out.1).c2
                    go_simp
                    clear p18_0 q18_0 p18_1 q18_1
                    obtain ⟨w59, hv⟩ : ∃ w_ : World, w_ = ((w58.setCell ⟨w57.heap.size, 0, none⟩ (.int .i64 (sg z360))).setCell ⟨w57.heap.size, 1, none⟩ (.slice a_358 (ln z360) c_359)) := ⟨_, rfl⟩
                    rw [← hv]
                    have og : w58.grownBy w59 (some w57.heap.size) := by rw [hv]; exact (only_setCell (only_setCell (World.grownBy.refl _ _) _) _)
                    have hz : w.heap.size ≤ w57.heap.size := by omega
                    have hk : Bx w59 w57.heap.size 24 #[.int .i64 (sg z360), .slice a_358 (ln z360) c_359] := by rw [hv]; exact (((M.out.1).set 0 _).set 1 _)
                    have hbw : Below w.heap.size w w59 := by rw [hv]; exact (Below.setCell (Below.setCell (M.out.2.2.2.2.2.2.2.2.2.2.2) (by omega) _) (by omega) _)
                    replace M := Lib.hid (And.intro hk (And.intro ((M.out.2.1).far (M.out.1) (by rfl) (by omega) og) (And.intro ((M.out.2.2.1).far (M.out.1) (by rfl) (by omega) og) (And.intro ((M.out.2.2.2.1).far (M.out.1) (by rfl) (by omega) og) (And.intro ((M.out.2.2.2.2.1).far (M.out.1) (by rfl) (by omega) og) (And.intro ((M.out.2.2.2.2.2.1).only og (by omega)) (And.intro ((M.out.2.2.2.2.2.2.1).far (M.out.1) (by rfl) (by omega) og) (And.intro ((M.out.2.2.2.2.2.2.2.1).only og (by omega)) (And.intro ((M.out.2.2.2.2.2.2.2.2.1).far (M.out.1) (by rfl) (by omega) og) (And.intro ((M.out.2.2.2.2.2.2.2.2.2.1).far (M.out.1) (by rfl) (by omega) og) (And.intro ((M.out.2.2.2.2.2.2.2.2.2.2.1).only og (by omega)) hbw)))))))))))
                    clear hk hbw og hv hz
                    refine hK.out _ _ (⟨(M.out.2.2.2.2.2.2.2.2.2.2.1).at.1 0, (M.out.2.2.2.2.2.2.2.2.2.2.1).at.1 1⟩) (fun hH364 => ?_)
                    clear hK K hH363
                    (try simp only [Act.put, List.setIfInBounds_toArray, List.set_cons_zero, List.set_cons_succ])
                    refine tk at8 ?_
                    refine wpAnyH_done (by kernel_rfl) ?_ _
                    clear hH364
                    obtain ⟨p16_0, q16_0, p16_1, q16_1⟩ := (M.out.2.2.2.2.2.2.2.1).c2
                    obtain ⟨p0_0, q0_0, p0_1, q0_1⟩ := (M.out.2.2.2.2.2.2.2.2.2.2.1).c2
                    go_wp2_with fail
                    clear p16_0 q16_0 p16_1 q16_1 p0_0 q0_0 p0_1 q0_1
                    replace M := Lib.hid (And.intro (M.out.1) (And.intro (M.out.2.1) (And.intro (M.out.2.2.2.1) (And.intro (M.out.2.2.2.2.2.1) (And.intro (M.out.2.2.2.2.2.2.1) (And.intro (M.out.2.2.2.2.2.2.2.2.2.2.1) (M.out.2.2.2.2.2.2.2.2.2.2.2)))))))
                    refine (rsame_is (G := G) (x := z231) (y := x) (b := true) (M.out.2.2.2.2.1) (H1.out.keep (M.out.2.2.2.2.2.2)) (Sz.mono Sz231.out (by omega)) (Sz.mono HX.out (by omega)) (eqZ_of (by rw [Ez231.out] <;> grind))).mono ?_
                    rintro e w60 ⟨rfl, hb⟩
                    replace M := Lib.hid (Goes.go M.out hb)
                    clear hb
                    obtain ⟨p17_0, q17_0, p17_1, q17_1⟩ := (M.out.2.2.2.1).c2
                    obtain ⟨p0_0, q0_0, p0_1, q0_1⟩ := (M.out.2.2.2.2.2.1).c2
                    go_wp2_with fail
                    clear p17_0 q17_0 p17_1 q17_1 p0_0 q0_0 p0_1 q0_1
                    refine (rsame_is (G := G) (x := z342) (y := x) (b := true) (M.out.2.2.1) (H1.out.keep (M.out.2.2.2.2.2.2)) (Sz.mono Sz342.out (by omega)) (Sz.mono HX.out (by omega)) (eqZ_of (by rw [Ez342.out] <;> grind))).mono ?_
                    rintro e w61 ⟨rfl, hb⟩
                    replace M := Lib.hid (Goes.go M.out hb)
                    clear hb
                    obtain ⟨p18_0, q18_0, p18_1, q18_1⟩ := (M.out.1).c2
                    go_wp2_with fail
                    clear p18_0 q18_0 p18_1 q18_1
                    replace M := Lib.hid (And.intro (M.out.2.1) (M.out.2.2.2.2.2.2))
                    refine (rsame_is (G := G) (x := z360) (y := 0) (b := true) (M.out.1) (bd_zero _ _ _) (Sz.mono Sz360.out (by omega)) (Sz.mono (show Sz (0) 0 from by unfold Sz; decide) (by omega)) (eqZ_of (by rw [Ez360.out] <;> grind))).mono ?_
                    rintro e w62 ⟨rfl, hb⟩
                    replace M := Lib.hid (Goes.go M.out hb)
                    clear hb
                    go_wp2_with fail
                    go_ret
                    exact ⟨rfl, (M.out.2)⟩
                  refine AllReadyH.cons at6 (fun K hK => ?_) AllReadyH.nil
                  go_simp
                  obtain ⟨w57, hv⟩ : ∃ w_ : World, w_ = (w56.alloc (.cells #[.int .i64 0, .slice none 0 0] 24)) := ⟨_, rfl⟩
                  rw [← hv]
                  have o18 : w50.heap.size < w56.heap.size := ((M.out.2.2.2.1)).lt
                  replace M := Lib.hid (And.intro (hv ▸ bx1 w56 24 #[.int .i64 0, .slice none 0 0]) (Goes.go M.out (hv ▸ below_alloc _ _ : Below w56.heap.size w56 w57)))
                  clear hv
                  refine hK.out _ _ (⟨(M.out.2.2.2.2.2.2.2.2.2.1).at.1 0, (M.out.2.2.2.2.2.2.2.2.2.1).at.1 1⟩) (fun hH365 => ?_)
                  clear hK K hH357
                  (try simp only [Act.put, List.setIfInBounds_toArray, List.set_cons_zero, List.set_cons_succ])
                  refine wpAnyH_ready (rs := [2]) (by kernel_rfl) (by simp) ?_
                  refine AllReadyH.cons at2 (fun K hK => ?_) AllReadyH.nil
                  go_simp
                  obtain ⟨z368, ez368⟩ : ∃ v_ : Int, v_ = (x * 0) := ⟨_, rfl⟩
                  refine (bigMul_ok (G := G) (x := x) (y := 0) (H1.out.keep (M.out.2.2.2.2.2.2.2.2.2.2)) (M.out.2.1) (Sz.mono HX.out (by omega)) (Sz.mono (show Sz (0) 0 from by unfold Sz; decide) (by omega))).mono ?_
                  rintro e w58 ⟨a_366, c_367, rfl, hd369, hb⟩
                  rw [← ez368] at hd369 ⊢
                  have Sz368 : Hid (Sz z368 25) := by show Sz z368 25; rw [ez368]; exact (Sz.mul HX.out (show Sz (0) 0 from by unfold Sz; decide))
                  have Ez368 := Lib.hid ez368; clear ez368
                  replace M := Lib.hid (And.intro hd369 (Goes.go M.out hb))
                  clear hb hd369
                  (try go_wp2_with fail)
                  refine hK.out _ _ (⟨(M.out.2.2.2.2.2.2.2.2.2.2.1).at.1 0, (M.out.2.2.2.2.2.2.2.2.2.2.1).at.1 1⟩) (fun hH370 => ?_)
                  clear hK K hH365
                  (try simp only [Act.put, List.setIfInBounds_toArray, List.set_cons_zero, List.set_cons_succ])
                  refine tk at3 ?_
                  refine tk at4 ?_
                  refine tk at5 ?_
                  refine wpAnyH_ready (rs := [7]) (by kernel_rfl) (by simp) ?_
                  refine AllReadyH.cons at7 (fun K hK => ?_) AllReadyH.nil
                  obtain ⟨p18_0, q18_0, p18_1, q18_1⟩ := (M.out.2.1).c2
                  go_simp
                  clear p18_0 q18_0 p18_1 q18_1
                  obtain ⟨w59, hv⟩ : ∃ w_ : World, w_ = ((w58.setCell ⟨w56.heap.size, 0, none⟩ (.int .i64 (sg z368))).setCell ⟨w56.heap.size, 1, none⟩ (.slice a_366 (ln z368) c_367)) := ⟨_, rfl⟩
                  rw [← hv]
                  have og : w58.grownBy w59 (some w56.heap.size) := by rw [hv]; exact (only_setCell (only_setCell (World.grownBy.refl _ _) _) _)
                  have hz : w.heap.size ≤ w56.heap.size := by omega
                  have hk : Bx w59 w56.heap.size 24 #[.int .i64 (sg z368), .slice a_366 (ln z368) c_367] := by rw [hv]; exact (((M.out.2.1).set 0 _).set 1 _)
                  have hbw : Below w.heap.size w w59 := by rw [hv]; exact (Below.setCell (Below.setCell (M.out.2.2.2.2.2.2.2.2.2.2.2) (by omega) _) (by omega) _)
                  replace M := Lib.hid (And.intro ((M.out.1).far (M.out.2.1) (by rfl) (by omega) og) (And.intro hk (And.intro ((M.out.2.2.1).far (M.out.2.1) (by rfl) (by omega) og) (And.intro ((M.out.2.2.2.1).far (M.out.2.1) (by rfl) (by omega) og) (And.intro ((M.out.2.2.2.2.1).far (M.out.2.1) (by rfl) (by omega) og) (And.intro ((M.out.2.2.2.2.2.1).only og (by omega)) (And.intro ((M.out.2.2.2.2.2.2.1).far (M.out.2.1) (by rfl) (by omega) og) (And.intro ((M.out.2.2.2.2.2.2.2.1).only og (by omega)) (And.intro ((M.out.2.2.2.2.2.2.2.2.1).far (M.out.2.1) (by rfl) (by omega) og) (And.intro ((M.out.2.2.2.2.2.2.2.2.2.1).far (M.out.2.1) (by rfl) (by omega) og) (And.intro ((M.out.2.2.2.2.2.2.2.2.2.2.1).only og (by omega)) hbw)))))))))))
                  clear hk hbw og hv hz
                  refine hK.out _ _ (⟨(M.out.2.2.2.2.2.2.2.2.2.2.1).at.1 0, (M.out.2.2.2.2.2.2.2.2.2.2.1).at.1 1⟩) (fun hH371 => ?_)
                  clear hK K hH370
                  (try simp only [Act.put, List.setIfInBounds_toArray, List.set_cons_zero, List.set_cons_succ])
                  refine tk at8 ?_
                  refine wpAnyH_done (by kernel_rfl) ?_ _
                  clear hH371
                  obtain ⟨p16_0, q16_0, p16_1, q16_1⟩ := (M.out.2.2.2.2.2.2.2.1).c2
                  obtain ⟨p0_0, q0_0, p0_1, q0_1⟩ := (M.out.2.2.2.2.2.2.2.2.2.2.1).c2
                  go_wp2_with fail
                  clear p16_0 q16_0 p16_1 q16_1 p0_0 q0_0 p0_1 q0_1
                  replace M := Lib.hid (And.intro (M.out.1) (And.intro (M.out.2.1) (And.intro (M.out.2.2.2.1) (And.intro (M.out.2.2.2.2.2.1) (And.intro (M.out.2.2.2.2.2.2.1) (And.intro (M.out.2.2.2.2.2.2.2.2.2.2.1) (M.out.2.2.2.2.2.2.2.2.2.2.2)))))))
                  refine (rsame_is (G := G) (x := z231) (y := x) (b := true) (M.out.2.2.2.2.1) (H1.out.keep (M.out.2.2.2.2.2.2)) (Sz.mono Sz231.out (by omega)) (Sz.mono HX.out (by omega)) (eqZ_of (by rw [Ez231.out] <;> grind))).mono ?_
                  rintro e w60 ⟨rfl, hb⟩
                  replace M := Lib.hid (Goes.go M.out hb)
                  clear hb
                  obtain ⟨p17_0, q17_0, p17_1, q17_1⟩ := (M.out.2.2.2.1).c2
                  obtain ⟨p0_0, q0_0, p0_1, q0_1⟩ := (M.out.2.2.2.2.2.1).c2
                  go_wp2_with fail
                  clear p17_0 q17_0 p17_1 q17_1 p0_0 q0_0 p0_1 q0_1
                  refine (rsame_is (G := G) (x := z342) (y := x) (b := true) (M.out.2.2.1) (H1.out.keep (M.out.2.2.2.2.2.2)) (Sz.mono Sz342.out (by omega)) (Sz.mono HX.out (by omega)) (eqZ_of (by rw [Ez342.out] <;> grind))).mono ?_
                  rintro e w61 ⟨rfl, hb⟩
                  replace M := Lib.hid (Goes.go M.out hb)
                  clear hb
                  obtain ⟨p18_0, q18_0, p18_1, q18_1⟩ := (M.out.2.1).c2
                  go_wp2_with fail
                  clear p18_0 q18_0 p18_1 q18_1
                  replace M := Lib.hid (And.intro (M.out.1) (M.out.2.2.2.2.2.2))
                  refine (rsame_is (G := G) (x := z368) (y := 0) (b := true) (M.out.1) (bd_zero _ _ _) (Sz.mono Sz368.out (by omega)) (Sz.mono (show Sz (0) 0 from by unfold Sz; decide) (by omega)) (eqZ_of (by rw [Ez368.out] <;> grind))).mono ?_
                  rintro e w62 ⟨rfl, hb⟩
                  replace M := Lib.hid (Goes.go M.out hb)
                  clear hb
                  go_wp2_with fail
                  go_ret
                  exact ⟨rfl, (M.out.2)⟩
                refine AllReadyH.cons at6 (fun K hK => ?_) AllReadyH.nil
                go_simp
                obtain ⟨w56, hv⟩ : ∃ w_ : World, w_ = (w55.alloc (.cells #[.int .i64 0, .slice none 0 0] 24)) := ⟨_, rfl⟩
                rw [← hv]
                have o18 : w50.heap.size < w55.heap.size := ((M.out.2.2.1)).lt
                replace M := Lib.hid (And.intro (hv ▸ bx1 w55 24 #[.int .i64 0, .slice none 0 0]) (Goes.go M.out (hv ▸ below_alloc _ _ : Below w55.heap.size w55 w56)))
                clear hv
                refine hK.out _ _ (⟨(M.out.2.2.2.2.2.2.2.2.1).at.1 0, (M.out.2.2.2.2.2.2.2.2.1).at.1 1⟩) (fun hH372 => ?_)
                clear hK K hH353
                (try simp only [Act.put, List.setIfInBounds_toArray, List.set_cons_zero, List.set_cons_succ])
                refine wpAnyH_ready (rs := [1]) (by kernel_rfl) (by simp) ?_
                refine AllReadyH.cons at1 (fun K hK => ?_) AllReadyH.nil
                go_simp
                refine (bigOf_ok (G := G) 0 _ (by omega)).mono ?_
                rintro e w57 ⟨a_373, c_374, rfl, hd375, hb⟩
                replace M := Lib.hid (And.intro hd375 (Goes.go M.out hb))
                clear hb hd375
                (try go_wp2_with fail)
                refine hK.out _ _ (⟨(M.out.2.2.2.2.2.2.2.2.2.1).at.1 0, (M.out.2.2.2.2.2.2.2.2.2.1).at.1 1⟩) (fun hH376 => ?_)
                clear hK K hH372
                (try simp only [Act.put, List.setIfInBounds_toArray, List.set_cons_zero, List.set_cons_succ])
                refine wpAnyH_ready (rs := [2]) (by kernel_rfl) (by simp) ?_
                refine AllReadyH.cons at2 (fun K hK => ?_) AllReadyH.nil
                go_simp
                obtain ⟨z379, ez379⟩ : ∃ v_ : Int, v_ = (x * 0) := ⟨_, rfl⟩
                refine (bigMul_ok (G := G) (x := x) (y := 0) (H1.out.keep (M.out.2.2.2.2.2.2.2.2.2.2)) (M.out.1) (Sz.mono HX.out (by omega)) (Sz.mono (show Sz (0) 0 from by unfold Sz; decide) (by omega))).mono ?_
                rintro e w58 ⟨a_377, c_378, rfl, hd380, hb⟩
                rw [← ez379] at hd380 ⊢
                have Sz379 : Hid (Sz z379 25) := by show Sz z379 25; rw [ez379]; exact (Sz.mul HX.out (show Sz (0) 0 from by unfold Sz; decide))
                have Ez379 := Lib.hid ez379; clear ez379
                replace M := Lib.hid (And.intro hd380 (Goes.go M.out hb))
                clear hb hd380
                (try go_wp2_with fail)
                refine hK.out _ _ (⟨(M.out.2.2.2.2.2.2.2.2.2.2.1).at.1 0, (M.out.2.2.2.2.2.2.2.2.2.2.1).at.1 1⟩) (fun hH381 => ?_)
                clear hK K hH376
                (try simp only [Act.put, List.setIfInBounds_toArray, List.set_cons_zero, List.set_cons_succ])
                refine tk at3 ?_
                refine tk at4 ?_
                refine tk at5 ?_
                refine wpAnyH_ready (rs := [7]) (by kernel_rfl) (by simp) ?_
                refine AllReadyH.cons at7 (fun K hK => ?_) AllReadyH.nil
                obtain ⟨p18_0, q18_0, p18_1, q18_1⟩ := (M.out.2.2.1).c2
                go_simp
                clear p18_0 q18_0 p18_1 q18_1
                obtain ⟨w59, hv⟩ : ∃ w_ : World, w_ = ((w58.setCell ⟨w55.heap.size, 0, none⟩ (.int .i64 (sg z379))).setCell ⟨w55.heap.size, 1, none⟩ (.slice a_377 (ln z379) c_378)) := ⟨_, rfl⟩
                rw [← hv]
                have og : w58.grownBy w59 (some w55.heap.size) := by rw [hv]; exact (only_setCell (only_setCell (World.grownBy.refl _ _) _) _)
                have hz : w.heap.size ≤ w55.heap.size := by omega
                have hk : Bx w59 w55.heap.size 24 #[.int .i64 (sg z379), .slice a_377 (ln z379) c_378] := by rw [hv]; exact (((M.out.2.2.1).set 0 _).set 1 _)
                have hbw : Below w.heap.size w w59 := by rw [hv]; exact (Below.setCell (Below.setCell (M.out.2.2.2.2.2.2.2.2.2.2.2) (by omega) _) (by omega) _)
                replace M := Lib.hid (And.intro ((M.out.1).far (M.out.2.2.1) (by rfl) (by omega) og) (And.intro ((M.out.2.1).far (M.out.2.2.1) (by rfl) (by omega) og) (And.intro hk (And.intro ((M.out.2.2.2.1).far (M.out.2.2.1) (by rfl) (by omega) og) (And.intro ((M.out.2.2.2.2.1).far (M.out.2.2.1) (by rfl) (by omega) og) (And.intro ((M.out.2.2.2.2.2.1).only og (by omega)) (And.intro ((M.out.2.2.2.2.2.2.1).far (M.out.2.2.1) (by rfl) (by omega) og) (And.intro ((M.out.2.2.2.2.2.2.2.1).only og (by omega)) (And.intro ((M.out.2.2.2.2.2.2.2.2.1).far (M.out.2.2.1) (by rfl) (by omega) og) (And.intro ((M.out.2.2.2.2.2.2.2.2.2.1).far (M.out.2.2.1) (by rfl) (by omega) og) (And.intro ((M.out.2.2.2.2.2.2.2.2.2.2.1).only og (by omega)) hbw)))))))))))
                clear hk hbw og hv hz
                refine hK.out _ _ (⟨(M.out.2.2.2.2.2.2.2.2.2.2.1).at.1 0, (M.out.2.2.2.2.2.2.2.2.2.2.1).at.1 1⟩) (fun hH382 => ?_)
                clear hK K hH381
                (try simp only [Act.put, List.setIfInBounds_toArray, List.set_cons_zero, List.set_cons_succ])
                refine tk at8 ?_
                refine wpAnyH_done (by kernel_rfl) ?_ _
                clear hH382
                obtain ⟨p16_0, q16_0, p16_1, q16_1⟩ := (M.out.2.2.2.2.2.2.2.1).c2
                obtain ⟨p0_0, q0_0, p0_1, q0_1⟩ := (M.out.2.2.2.2.2.2.2.2.2.2.1).c2
                go_wp2_with fail
                clear p16_0 q16_0 p16_1 q16_1 p0_0 q0_0 p0_1 q0_1
                replace M := Lib.hid (And.intro (M.out.1) (And.intro (M.out.2.2.1) (And.intro (M.out.2.2.2.1) (And.intro (M.out.2.2.2.2.2.1) (And.intro (M.out.2.2.2.2.2.2.1) (And.intro (M.out.2.2.2.2.2.2.2.2.2.2.1) (M.out.2.2.2.2.2.2.2.2.2.2.2)))))))
                refine (rsame_is (G := G) (x := z231) (y := x) (b := true) (M.out.2.2.2.2.1) (H1.out.keep (M.out.2.2.2.2.2.2)) (Sz.mono Sz231.out (by omega)) (Sz.mono HX.out (by omega)) (eqZ_of (by rw [Ez231.out] <;> grind))).mono ?_
                rintro e w60 ⟨rfl, hb⟩
                replace M := Lib.hid (Goes.go M.out hb)
                clear hb
                obtain ⟨p17_0, q17_0, p17_1, q17_1⟩ := (M.out.2.2.2.1).c2
                obtain ⟨p0_0, q0_0, p0_1, q0_1⟩ := (M.out.2.2.2.2.2.1).c2
                go_wp2_with fail
                clear p17_0 q17_0 p17_1 q17_1 p0_0 q0_0 p0_1 q0_1
                refine (rsame_is (G := G) (x := z342) (y := x) (b := true) (M.out.2.2.1) (H1.out.keep (M.out.2.2.2.2.2.2)) (Sz.mono Sz342.out (by omega)) (Sz.mono HX.out (by omega)) (eqZ_of (by rw [Ez342.out] <;> grind))).mono ?_
                rintro e w61 ⟨rfl, hb⟩
                replace M := Lib.hid (Goes.go M.out hb)
                clear hb
                obtain ⟨p18_0, q18_0, p18_1, q18_1⟩ := (M.out.2.1).c2
                go_wp2_with fail
                clear p18_0 q18_0 p18_1 q18_1
                replace M := Lib.hid (And.intro (M.out.1) (M.out.2.2.2.2.2.2))
                refine (rsame_is (G := G) (x := z379) (y := 0) (b := true) (M.out.1) (bd_zero _ _ _) (Sz.mono Sz379.out (by omega)) (Sz.mono (show Sz (0) 0 from by unfold Sz; decide) (by omega)) (eqZ_of (by rw [Ez379.out] <;> grind))).mono ?_
                rintro e w62 ⟨rfl, hb⟩
                replace M := Lib.hid (Goes.go M.out hb)
                clear hb
                go_wp2_with fail
                go_ret
                exact ⟨rfl, (M.out.2)⟩
             refine AllReadyH.cons at6 (fun K hK => ?_) AllReadyH.nil
             go_simp
             obtain ⟨w46, hv⟩ : ∃ w_ : World, w_ = (w45.alloc (.cells #[.int .i64 0, .slice none 0 0] 24)) := ⟨_, rfl⟩
             rw [← hv]
             have o16 : w.heap.size < w45.heap.size := ((M.out.2.1)).lt
             replace M := Lib.hid (And.intro (hv ▸ bx1 w45 24 #[.int .i64 0, .slice none 0 0]) (Goes.go M.out (hv ▸ below_alloc _ _ : Below w45.heap.size w45 w46)))
             clear hv
             refine hK.out _ _ (⟨(M.out.2.2.1).at.1 0, (M.out.2.2.1).at.1 1⟩) (fun hH383 => ?_)
             clear hK K hH68
             (try simp only [Act.put, List.setIfInBounds_toArray, List.set_cons_zero, List.set_cons_succ])
             refine wpAnyH_ready (rs := [1]) (by kernel_rfl) (by simp) ?_
             refine AllReadyH.cons at1 (fun K hK => ?_) AllReadyH.nil
             go_simp
             refine (bigOf_ok (G := G) 0 _ (by omega)).mono ?_
             rintro e w47 ⟨a_384, c_385, rfl, hd386, hb⟩
             replace M := Lib.hid (And.intro hd386 (Goes.go M.out hb))
             clear hb hd386
             (try go_wp2_with fail)
             refine hK.out _ _ (⟨(M.out.2.2.2.1).at.1 0, (M.out.2.2.2.1).at.1 1⟩) (fun hH387 => ?_)
             clear hK K hH383
             (try simp only [Act.put, List.setIfInBounds_toArray, List.set_cons_zero, List.set_cons_succ])
             refine wpAnyH_ready (rs := [2]) (by kernel_rfl) (by simp) ?_
             refine AllReadyH.cons at2 (fun K hK => ?_) AllReadyH.nil
             go_simp
             obtain ⟨z390, ez390⟩ : ∃ v_ : Int, v_ = (x + 0) := ⟨_, rfl⟩
             refine (bigAdd_ok (G := G) (x := x) (y := 0) (H1.out.keep (M.out.2.2.2.2)) (M.out.1) (Sz.mono HX.out (by omega)) (Sz.mono (show Sz (0) 0 from by unfold Sz; decide) (by omega))).mono ?_
             rintro e w48 ⟨a_388, c_389, rfl, hd391, hb⟩
             rw [← ez390] at hd391 ⊢
             have Sz390 : Hid (Sz z390 26) := by show Sz z390 26; rw [ez390]; exact (Sz.add HX.out (Sz.mono (show Sz (0) 0 from by unfold Sz; decide) (by omega)))
             have Ez390 := Lib.hid ez390; clear ez390
             replace M := Lib.hid (And.intro hd391 (Goes.go M.out hb))
             clear hb hd391
             (try go_wp2_with fail)
             refine hK.out _ _ (⟨(M.out.2.2.2.2.1).at.1 0, (M.out.2.2.2.2.1).at.1 1⟩) (fun hH392 => ?_)
             clear hK K hH387
             (try simp only [Act.put, List.setIfInBounds_toArray, List.set_cons_zero, List.set_cons_succ])
             refine tk at3 ?_
             refine tk at4 ?_
             refine tk at5 ?_
             refine wpAnyH_ready (rs := [7]) (by kernel_rfl) (by simp) ?_
             refine AllReadyH.cons at7 (fun K hK => ?_) AllReadyH.nil
             obtain ⟨p16_0, q16_0, p16_1, q16_1⟩ := (M.out.2.2.1).c2
             go_simp
             clear p16_0 q16_0 p16_1 q16_1
             obtain ⟨w49, hv⟩ : ∃ w_ : World, w_ = ((w48.setCell ⟨w45.heap.size, 0, none⟩ (.int .i64 (sg z390))).setCell ⟨w45.heap.size, 1, none⟩ (.slice a_388 (ln z390) c_389)) := ⟨_, rfl⟩
             rw [← hv]
             have og : w48.grownBy w49 (some w45.heap.size) := by rw [hv]; exact (only_setCell (only_setCell (World.grownBy.refl _ _) _) _)
             have hz : w.heap.size ≤ w45.heap.size := by omega
             have hk : Bx w49 w45.heap.size 24 #[.int .i64 (sg z390), .slice a_388 (ln z390) c_389] := by rw [hv]; exact (((M.out.2.2.1).set 0 _).set 1 _)
             have hbw : Below w.heap.size w w49 := by rw [hv]; exact (Below.setCell (Below.setCell (M.out.2.2.2.2.2) (by omega) _) (by omega) _)
             replace M := Lib.hid (And.intro ((M.out.1).far (M.out.2.2.1) (by rfl) (by omega) og) (And.intro ((M.out.2.1).far (M.out.2.2.1) (by rfl) (by omega) og) (And.intro hk (And.intro ((M.out.2.2.2.1).far (M.out.2.2.1) (by rfl) (by omega) og) (And.intro ((M.out.2.2.2.2.1).only og (by omega)) hbw)))))
             clear hk hbw og hv hz
             refine hK.out _ _ (⟨(M.out.2.2.2.2.1).at.1 0, (M.out.2.2.2.2.1).at.1 1⟩) (fun hH393 => ?_)
             clear hK K hH392
             (try simp only [Act.put, List.setIfInBounds_toArray, List.set_cons_zero, List.set_cons_succ])
             refine tk at8 ?_
             refine wpAnyH_done (by kernel_rfl) ?_ _
             clear hH393
             go_upto_region 26 with fail
             as_aux_lemma =>
              go_wp2_with fail
              obtain ⟨w50, hv⟩ : ∃ w_ : World, w_ = w49.drew := ⟨_, rfl⟩
              replace M := Lib.hid (Goes.go M.out (hv ▸ below_drew _ : Below w49.heap.size w49 w50))
              refine wp_region_held_drew (S := (fun w' => w'.cell? ⟨w.heap.size, 0, none⟩ = some (.int .i64 (sg x)) ∧ w'.cell? ⟨w.heap.size, 1, none⟩ = some (.slice a1 (ln x) c1))) (by kernel_rfl) (by rw [← hv]; exact ⟨(M.out.2.2.2.2.1).at.1 0, (M.out.2.2.2.2.1).at.1 1⟩) (fun hH401 => ?_)
              rw [← hv] at hH401 ⊢
              clear hv
              refine tk at0 ?_
              refine wpAnyH_ready (rs := [1, 6]) (by kernel_rfl) (by simp) ?_
              refine AllReadyH.cons at1 (fun K hK => ?_) ?_
              ·
                go_simp
                refine (bigOf_ok (G := G) 1 _ (by omega)).mono ?_
                rintro e w51 ⟨a_402, c_403, rfl, hd404, hb⟩
                replace M := Lib.hid (And.intro hd404 (Goes.go M.out hb))
                clear hb hd404
                (try go_wp2_with fail)
                refine hK.out _ _ (⟨(M.out.2.2.2.2.2.1).at.1 0, (M.out.2.2.2.2.2.1).at.1 1⟩) (fun hH405 => ?_)
                clear hK K hH401
                (try simp only [Act.put, List.setIfInBounds_toArray, List.set_cons_zero, List.set_cons_succ])
                refine wpAnyH_ready (rs := [2, 6]) (by kernel_rfl) (by simp) ?_
                refine AllReadyH.cons at2 (fun K hK => ?_) ?_
                ·
                  go_simp
                  obtain ⟨z408, ez408⟩ : ∃ v_ : Int, v_ = (x * 1) := ⟨_, rfl⟩
                  refine (bigMul_ok (G := G) (x := x) (y := 1) (H1.out.keep (M.out.2.2.2.2.2.2)) (M.out.1) (Sz.mono HX.out (by omega)) (Sz.mono (show Sz (1) 1 from by unfold Sz; decide) (by omega))).mono ?_
                  rintro e w52 ⟨a_406, c_407, rfl, hd409, hb⟩
                  rw [← ez408] at hd409 ⊢
                  have Sz408 : Hid (Sz z408 26) := by show Sz z408 26; rw [ez408]; exact (Sz.mul HX.out (show Sz (1) 1 from by unfold Sz; decide))
                  have Ez408 := Lib.hid ez408; clear ez408
                  replace M := Lib.hid (And.intro hd409 (Goes.go M.out hb))
                  clear hb hd409
                  (try go_wp2_with fail)
                  refine hK.out _ _ (⟨(M.out.2.2.2.2.2.2.1).at.1 0, (M.out.2.2.2.2.2.2.1).at.1 1⟩) (fun hH410 => ?_)
                  clear hK K hH405
                  (try simp only [Act.put, List.setIfInBounds_toArray, List.set_cons_zero, List.set_cons_succ])
                  refine tk at3 ?_
                  refine tk at4 ?_
                  refine tk at5 ?_
                  refine wpAnyH_ready (rs := [6]) (by kernel_rfl) (by simp) ?_
                  refine AllReadyH.cons at6 (fun K hK => ?_) AllReadyH.nil
                  go_simp
                  obtain ⟨w53, hv⟩ : ∃ w_ : World, w_ = (w52.alloc (.cells #[.int .i64 0, .slice none 0 0] 24)) := ⟨_, rfl⟩
                  rw [← hv]
                  have o17 : w45.heap.size < w52.heap.size := ((M.out.2.2.2.2.1)).lt
                  replace M := Lib.hid (And.intro (hv ▸ bx1 w52 24 #[.int .i64 0, .slice none 0 0]) (Goes.go M.out (hv ▸ below_alloc _ _ : Below w52.heap.size w52 w53)))
                  clear hv
                  refine hK.out _ _ (⟨(M.out.2.2.2.2.2.2.2.1).at.1 0, (M.out.2.2.2.2.2.2.2.1).at.1 1⟩) (fun hH411 => ?_)
                  clear hK K hH410
                  (try simp only [Act.put, List.setIfInBounds_toArray, List.set_cons_zero, List.set_cons_succ])
                  refine wpAnyH_ready (rs := [7]) (by kernel_rfl) (by simp) ?_
                  refine AllReadyH.cons at7 (fun K hK => ?_) AllReadyH.nil
                  obtain ⟨p17_0, q17_0, p17_1, q17_1⟩ := (M.out.1).c2
                  go_simp
                  clear p17_0 q17_0 p17_1 q17_1
                  obtain ⟨w54, hv⟩ : ∃ w_ : World, w_ = ((w53.setCell ⟨w52.heap.size, 0, none⟩ (.int .i64 (sg z408))).setCell ⟨w52.heap.size, 1, none⟩ (.slice a_406 (ln z408) c_407)) := ⟨_, rfl⟩
                  rw [← hv]
                  have og : w53.grownBy w54 (some w52.heap.size) := by rw [hv]; exact (only_setCell (only_setCell (World.grownBy.refl _ _) _) _)
                  have hz : w.heap.size ≤ w52.heap.size := by omega
                  have hk : Bx w54 w52.heap.size 24 #[.int .i64 (sg z408), .slice a_406 (ln z408) c_407] := by rw [hv]; exact (((M.out.1).set 0 _).set 1 _)
                  have hbw : Below w.heap.size w w54 := by rw [hv]; exact (Below.setCell (Below.setCell (M.out.2.2.2.2.2.2.2.2) (by omega) _) (by omega) _)
                  replace M := Lib.hid (And.intro hk (And.intro ((M.out.2.1).far (M.out.1) (by rfl) (by omega) og) (And.intro ((M.out.2.2.1).far (M.out.1) (by rfl) (by omega) og) (And.intro ((M.out.2.2.2.1).far (M.out.1) (by rfl) (by omega) og) (And.intro ((M.out.2.2.2.2.1).far (M.out.1) (by rfl) (by omega) og) (And.intro ((M.out.2.2.2.2.2.1).only og (by omega)) (And.intro ((M.out.2.2.2.2.2.2.1).far (M.out.1) (by rfl) (by omega) og) (And.intro ((M.out.2.2.2.2.2.2.2.1).only og (by omega)) hbw))))))))
                  clear hk hbw og hv hz
                  refine hK.out _ _ (⟨(M.out.2.2.2.2.2.2.2.1).at.1 0, (M.out.2.2.2.2.2.2.2.1).at.1 1⟩) (fun hH412 => ?_)
                  clear hK K hH411
                  (try simp only [Act.put, List.setIfInBounds_toArray, List.set_cons_zero, List.set_cons_succ])
                  refine tk at8 ?_
                  refine wpAnyH_done (by kernel_rfl) ?_ _
                  clear hH412
                  go_wp2_with fail
                  obtain ⟨w55, hv⟩ : ∃ w_ : World, w_ = w54.drew := ⟨_, rfl⟩
                  replace M := Lib.hid (Goes.go M.out (hv ▸ below_drew _ : Below w54.heap.size w54 w55))
                  refine wp_region_held_drew (S := (fun w' => w'.cell? ⟨w.heap.size, 0, none⟩ = some (.int .i64 (sg x)) ∧ w'.cell? ⟨w.heap.size, 1, none⟩ = some (.slice a1 (ln x) c1))) (by kernel_rfl) (by rw [← hv]; exact ⟨(M.out.2.2.2.2.2.2.2.1).at.1 0, (M.out.2.2.2.2.2.2.2.1).at.1 1⟩) (fun hH420 => ?_)
                  rw [← hv] at hH420 ⊢
                  clear hv
                  refine tk at0 ?_
                  refine wpAnyH_ready (rs := [1, 6]) (by kernel_rfl) (by simp) ?_
                  refine AllReadyH.cons at1 (fun K hK => ?_) ?_
                  ·
                    go_simp
                    refine (bigOf_ok (G := G) 0 _ (by omega)).mono ?_
                    rintro e w56 ⟨a_421, c_422, rfl, hd423, hb⟩
                    replace M := Lib.hid (And.intro hd423 (Goes.go M.out hb))
                    clear hb hd423
                    (try go_wp2_with fail)
                    refine hK.out _ _ (⟨(M.out.2.2.2.2.2.2.2.2.1).at.1 0, (M.out.2.2.2.2.2.2.2.2.1).at.1 1⟩) (fun hH424 => ?_)
                    clear hK K hH420
                    (try simp only [Act.put, List.setIfInBounds_toArray, List.set_cons_zero, List.set_cons_succ])
                    refine wpAnyH_ready (rs := [2, 6]) (by kernel_rfl) (by simp) ?_
                    refine AllReadyH.cons at2 (fun K hK => ?_) ?_
                    ·
                      go_simp
                      obtain ⟨z427, ez427⟩ : ∃ v_ : Int, v_ = (x * 0) := ⟨_, rfl⟩
                      refine (bigMul_ok (G := G) (x := x) (y := 0) (H1.out.keep (M.out.2.2.2.2.2.2.2.2.2)) (M.out.1) (Sz.mono HX.out (by omega)) (Sz.mono (show Sz (0) 0 from by unfold Sz; decide) (by omega))).mono ?_
                      rintro e w57 ⟨a_425, c_426, rfl, hd428, hb⟩
                      rw [← ez427] at hd428 ⊢
                      have Sz427 : Hid (Sz z427 25) := by show Sz z427 25; rw [ez427]; exact (Sz.mul HX.out (show Sz (0) 0 from by unfold Sz; decide))
                      have Ez427 := Lib.hid ez427; clear ez427
                      replace M := Lib.hid (And.intro hd428 (Goes.go M.out hb))
                      clear hb hd428
                      (try go_wp2_with fail)
                      refine hK.out _ _ (⟨(M.out.2.2.2.2.2.2.2.2.2.1).at.1 0, (M.out.2.2.2.2.2.2.2.2.2.1).at.1 1⟩) (fun hH429 => ?_)
                      clear hK K hH424
                      (try simp only [Act.put, List.setIfInBounds_toArray, List.set_cons_zero, List.set_cons_succ])
                      refine tk at3 ?_
                      refine tk at4 ?_
                      refine tk at5 ?_
                      refine wpAnyH_ready (rs := [6]) (by kernel_rfl) (by simp) ?_
                      refine AllReadyH.cons at6 (fun K hK => ?_) AllReadyH.nil
                      go_simp
                      obtain ⟨w58, hv⟩ : ∃ w_ : World, w_ = (w57.alloc (.cells #[.int .i64 0, .slice none 0 0] 24)) := ⟨_, rfl⟩
                      rw [← hv]
                      have o18 : w52.heap.size < w57.heap.size := ((M.out.2.2.1)).lt
                      replace M := Lib.hid (And.intro (hv ▸ bx1 w57 24 #[.int .i64 0, .slice none 0 0]) (Goes.go M.out (hv ▸ below_alloc _ _ : Below w57.heap.size w57 w58)))
                      clear hv
                      refine hK.out _ _ (⟨(M.out.2.2.2.2.2.2.2.2.2.2.1).at.1 0, (M.out.2.2.2.2.2.2.2.2.2.2.1).at.1 1⟩) (fun hH430 => ?_)
                      clear hK K hH429
                      (try simp only [Act.put, List.setIfInBounds_toArray, List.set_cons_zero, List.set_cons_succ])
                      refine wpAnyH_ready (rs := [7]) (by kernel_rfl) (by simp) ?_
                      refine AllReadyH.cons at7 (fun K hK => ?_) AllReadyH.nil
                      obtain ⟨p18_0, q18_0, p18_1, q18_1⟩ := (M.out.1).c2
                      go_simp
                      clear p18_0 q18_0 p18_1 q18_1
                      obtain ⟨w59, hv⟩ : ∃ w_ : World, w_ = ((w58.setCell ⟨w57.heap.size, 0, none⟩ (.int .i64 (sg z427))).setCell ⟨w57.heap.size, 1, none⟩ (.slice a_425 (ln z427) c_426)) := ⟨_, rfl⟩
                      rw [← hv]
                      have og : w58.grownBy w59 (some w57.heap.size) := by rw [hv]; exact (only_setCell (only_setCell (World.grownBy.refl _ _) _) _)
                      have hz : w.heap.size ≤ w57.heap.size := by omega
                      have hk : Bx w59 w57.heap.size 24 #[.int .i64 (sg z427), .slice a_425 (ln z427) c_426] := by rw [hv]; exact (((M.out.1).set 0 _).set 1 _)
                      have hbw : Below w.heap.size w w59 := by rw [hv]; exact (Below.setCell (Below.setCell (M.out.2.2.2.2.2.2.2.2.2.2.2) (by omega) _) (by omega) _)
                      replace M := Lib.hid (And.intro hk (And.intro ((M.out.2.1).far (M.out.1) (by rfl) (by omega) og) (And.intro ((M.out.2.2.1).far (M.out.1) (by rfl) (by omega) og) (And.intro ((M.out.2.2.2.1).only og (by omega)) (And.intro ((M.out.2.2.2.2.1).far (M.out.1) (by rfl) (by omega) og) (And.intro ((M.out.2.2.2.2.2.1).far (M.out.1) (by rfl) (by omega) og) (And.intro ((M.out.2.2.2.2.2.2.1).far (M.out.1) (by rfl) (by omega) og) (And.intro ((M.out.2.2.2.2.2.2.2.1).far (M.out.1) (by rfl) (by omega) og) (And.intro ((M.out.2.2.2.2.2.2.2.2.1).only og (by omega)) (And.intro ((M.out.2.2.2.2.2.2.2.2.2.1).far (M.out.1) (by rfl) (by omega) og) (And.intro ((M.out.2.2.2.2.2.2.2.2.2.2.1).only og (by omega)) hbw)))))))))))
                      clear hk hbw og hv hz
                      refine hK.out _ _ (⟨(M.out.2.2.2.2.2.2.2.2.2.2.1).at.1 0, (M.out.2.2.2.2.2.2.2.2.2.2.1).at.1 1⟩) (fun hH431 => ?_)
                      clear hK K hH430
                      (try simp only [Act.put, List.setIfInBounds_toArray, List.set_cons_zero, List.set_cons_succ])
                      refine tk at8 ?_
                      refine wpAnyH_done (by kernel_rfl) ?_ _
                      clear hH431
                      obtain ⟨p16_0, q16_0, p16_1, q16_1⟩ := (M.out.2.2.2.2.2.2.2.2.1).c2
                      obtain ⟨p0_0, q0_0, p0_1, q0_1⟩ := (M.out.2.2.2.2.2.2.2.2.2.2.1).c2
                      go_wp2_with fail
                      clear p16_0 q16_0 p16_1 q16_1 p0_0 q0_0 p0_1 q0_1
                      replace M := Lib.hid (And.intro (M.out.1) (And.intro (M.out.2.1) (And.intro (M.out.2.2.2.1) (And.intro (M.out.2.2.2.2.1) (And.intro (M.out.2.2.2.2.2.2.1) (And.intro (M.out.2.2.2.2.2.2.2.2.2.2.1) (M.out.2.2.2.2.2.2.2.2.2.2.2)))))))
                      refine (rsame_is (G := G) (x := z390) (y := x) (b := true) (M.out.2.2.2.2.1) (H1.out.keep (M.out.2.2.2.2.2.2)) (Sz.mono Sz390.out (by omega)) (Sz.mono HX.out (by omega)) (eqZ_of (by rw [Ez390.out] <;> grind))).mono ?_
                      rintro e w60 ⟨rfl, hb⟩
                      replace M := Lib.hid (Goes.go M.out hb)
                      clear hb
                      obtain ⟨p17_0, q17_0, p17_1, q17_1⟩ := (M.out.2.2.1).c2
                      obtain ⟨p0_0, q0_0, p0_1, q0_1⟩ := (M.out.2.2.2.2.2.1).c2
                      go_wp2_with fail
                      clear p17_0 q17_0 p17_1 q17_1 p0_0 q0_0 p0_1 q0_1
                      refine (rsame_is (G := G) (x := z408) (y := x) (b := true) (M.out.2.2.2.1) (H1.out.keep (M.out.2.2.2.2.2.2)) (Sz.mono Sz408.out (by omega)) (Sz.mono HX.out (by omega)) (eqZ_of (by rw [Ez408.out] <;> grind))).mono ?_
                      rintro e w61 ⟨rfl, hb⟩
                      replace M := Lib.hid (Goes.go M.out hb)
                      clear hb
                      obtain ⟨p18_0, q18_0, p18_1, q18_1⟩ := (M.out.1).c2
                      go_wp2_with fail
                      clear p18_0 q18_0 p18_1 q18_1
                      replace M := Lib.hid (And.intro (M.out.2.1) (M.out.2.2.2.2.2.2))
                      refine (rsame_is (G := G) (x := z427) (y := 0) (b := true) (M.out.1) (bd_zero _ _ _) (Sz.mono Sz427.out (by omega)) (Sz.mono (show Sz (0) 0 from by unfold Sz; decide) (by omega)) (eqZ_of (by rw [Ez427.out] <;> grind))).mono ?_
                      rintro e w62 ⟨rfl, hb⟩
                      replace M := Lib.hid (Goes.go M.out hb)
                      clear hb
                      go_wp2_with fail
                      go_ret
                      exact ⟨rfl, (M.out.2)⟩
                    refine AllReadyH.cons at6 (fun K hK => ?_) AllReadyH.nil
                    go_simp
                    obtain ⟨w57, hv⟩ : ∃ w_ : World, w_ = (w56.alloc (.cells #[.int .i64 0, .slice none 0 0] 24)) := ⟨_, rfl⟩
                    rw [← hv]
                    have o18 : w52.heap.size < w56.heap.size := ((M.out.2.1)).lt
                    replace M := Lib.hid (And.intro (hv ▸ bx1 w56 24 #[.int .i64 0, .slice none 0 0]) (Goes.go M.out (hv ▸ below_alloc _ _ : Below w56.heap.size w56 w57)))
                    clear hv
                    refine hK.out _ _ (⟨(M.out.2.2.2.2.2.2.2.2.2.1).at.1 0, (M.out.2.2.2.2.2.2.2.2.2.1).at.1 1⟩) (fun hH432 => ?_)
                    clear hK K hH424
                    (try simp only [Act.put, List.setIfInBounds_toArray, List.set_cons_zero, List.set_cons_succ])
                    refine wpAnyH_ready (rs := [2]) (by kernel_rfl) (by simp) ?_
                    refine AllReadyH.cons at2 (fun K hK => ?_) AllReadyH.nil
                    go_simp
                    obtain ⟨z435, ez435⟩ : ∃ v_ : Int, v_ = (x * 0) := ⟨_, rfl⟩
                    refine (bigMul_ok (G := G) (x := x) (y := 0) (H1.out.keep (M.out.2.2.2.2.2.2.2.2.2.2)) (M.out.2.1) (Sz.mono HX.out (by omega)) (Sz.mono (show Sz (0) 0 from by unfold Sz; decide) (by omega))).mono ?_
                    rintro e w58 ⟨a_433, c_434, rfl, hd436, hb⟩
                    rw [← ez435] at hd436 ⊢
                    have Sz435 : Hid (Sz z435 25) := by show Sz z435 25; rw [ez435]; exact (Sz.mul HX.out (show Sz (0) 0 from by unfold Sz; decide))
                    have Ez435 := Lib.hid ez435; clear ez435
                    replace M := Lib.hid (And.intro hd436 (Goes.go M.out hb))
                    clear hb hd436
                    (try go_wp2_with fail)
                    refine hK.out _ _ (⟨(M.out.2.2.2.2.2.2.2.2.2.2.1).at.1 0, (M.out.2.2.2.2.2.2.2.2.2.2.1).at.1 1⟩) (fun hH437 => ?_)
                    clear hK K hH432
                    (try simp only [Act.put, List.setIfInBounds_toArray, List.set_cons_zero, List.set_cons_succ])
                    refine tk at3 ?_
                    refine tk at4 ?_
                    refine tk at5 ?_
                    refine wpAnyH_ready (rs := [7]) (by kernel_rfl) (by simp) ?_
                    refine AllReadyH.cons at7 (fun K hK => ?_) AllReadyH.nil
                    obtain ⟨p18_0, q18_0, p18_1, q18_1⟩ := (M.out.2.1).c2
                    go_simp
                    clear p18_0 q18_0 p18_1 q18_1
                    obtain ⟨w59, hv⟩ : ∃ w_ : World, w_ = ((w58.setCell ⟨w56.heap.size, 0, none⟩ (.int .i64 (sg z435))).setCell ⟨w56.heap.size, 1, none⟩ (.slice a_433 (ln z435) c_434)) := ⟨_, rfl⟩
                    rw [← hv]
                    have og : w58.grownBy w59 (some w56.heap.size) := by rw [hv]; exact (only_setCell (only_setCell (World.grownBy.refl _ _) _) _)
                    have hz : w.heap.size ≤ w56.heap.size := by omega
                    have hk : Bx w59 w56.heap.size 24 #[.int .i64 (sg z435), .slice a_433 (ln z435) c_434] := by rw [hv]; exact (((M.out.2.1).set 0 _).set 1 _)
                    have hbw : Below w.heap.size w w59 := by rw [hv]; exact (Below.setCell (Below.setCell (M.out.2.2.2.2.2.2.2.2.2.2.2) (by omega) _) (by omega) _)
                    replace M := Lib.hid (And.intro ((M.out.1).far (M.out.2.1) (by rfl) (by omega) og) (And.intro hk (And.intro ((M.out.2.2.1).far (M.out.2.1) (by rfl) (by omega) og) (And.intro ((M.out.2.2.2.1).only og (by omega)) (And.intro ((M.out.2.2.2.2.1).far (M.out.2.1) (by rfl) (by omega) og) (And.intro ((M.out.2.2.2.2.2.1).far (M.out.2.1) (by rfl) (by omega) og) (And.intro ((M.out.2.2.2.2.2.2.1).far (M.out.2.1) (by rfl) (by omega) og) (And.intro ((M.out.2.2.2.2.2.2.2.1).far (M.out.2.1) (by rfl) (by omega) og) (And.intro ((M.out.2.2.2.2.2.2.2.2.1).only og (by omega)) (And.intro ((M.out.2.2.2.2.2.2.2.2.2.1).far (M.out.2.1) (by rfl) (by omega) og) (And.intro ((M.out.2.2.2.2.2.2.2.2.2.2.1).only og (by omega)) hbw)))))))))))
                    clear hk hbw og hv hz
                    refine hK.out _ _ (⟨(M.out.2.2.2.2.2.2.2.2.2.2.1).at.1 0, (M.out.2.2.2.2.2.2.2.2.2.2.1).at.1 1⟩) (fun hH438 => ?_)
                    clear hK K hH437
                    (try simp only [Act.put, List.setIfInBounds_toArray, List.set_cons_zero, List.set_cons_succ])
                    refine tk at8 ?_
                    refine wpAnyH_done (by kernel_rfl) ?_ _
                    clear hH438
                    obtain ⟨p16_0, q16_0, p16_1, q16_1⟩ := (M.out.2.2.2.2.2.2.2.2.1).c2
                    obtain ⟨p0_0, q0_0, p0_1, q0_1⟩ := (M.out.2.2.2.2.2.2.2.2.2.2.1).c2
                    go_wp2_with fail
                    clear p16_0 q16_0 p16_1 q16_1 p0_0 q0_0 p0_1 q0_1
                    replace M := Lib.hid (And.intro (M.out.1) (And.intro (M.out.2.1) (And.intro (M.out.2.2.2.1) (And.intro (M.out.2.2.2.2.1) (And.intro (M.out.2.2.2.2.2.2.1) (And.intro (M.out.2.2.2.2.2.2.2.2.2.2.1) (M.out.2.2.2.2.2.2.2.2.2.2.2)))))))
                    refine (rsame_is (G := G) (x := z390) (y := x) (b := true) (M.out.2.2.2.2.1) (H1.out.keep (M.out.2.2.2.2.2.2)) (Sz.mono Sz390.out (by omega)) (Sz.mono HX.out (by omega)) (eqZ_of (by rw [Ez390.out] <;> grind))).mono ?_
                    rintro e w60 ⟨rfl, hb⟩
                    replace M := Lib.hid (Goes.go M.out hb)
                    clear hb
                    obtain ⟨p17_0, q17_0, p17_1, q17_1⟩ := (M.out.2.2.1).c2
                    obtain ⟨p0_0, q0_0, p0_1, q0_1⟩ := (M.out.2.2.2.2.2.1).c2
                    go_wp2_with fail
                    clear p17_0 q17_0 p17_1 q17_1 p0_0 q0_0 p0_1 q0_1
                    refine (rsame_is (G := G) (x := z408) (y := x) (b := true) (M.out.2.2.2.1) (H1.out.keep (M.out.2.2.2.2.2.2)) (Sz.mono Sz408.out (by omega)) (Sz.mono HX.out (by omega)) (eqZ_of (by rw [Ez408.out] <;> grind))).mono ?_
                    rintro e w61 ⟨rfl, hb⟩
                    replace M := Lib.hid (Goes.go M.out hb)
                    clear hb
                    obtain ⟨p18_0, q18_0, p18_1, q18_1⟩ := (M.out.2.1).c2
                    go_wp2_with fail
                    clear p18_0 q18_0 p18_1 q18_1
                    replace M := Lib.hid (And.intro (M.out.1) (M.out.2.2.2.2.2.2))
                    refine (rsame_is (G := G) (x := z435) (y := 0) (b := true) (M.out.1) (bd_zero _ _ _) (Sz.mono Sz435.out (by omega)) (Sz.mono (show Sz (0) 0 from by unfold Sz; decide) (by omega)) (eqZ_of (by rw [Ez435.out] <;> grind))).mono ?_
                    rintro e w62 ⟨rfl, hb⟩
                    replace M := Lib.hid (Goes.go M.out hb)
                    clear hb
                    go_wp2_with fail
                    go_ret
                    exact ⟨rfl, (M.out.2)⟩
                  refine AllReadyH.cons at6 (fun K hK => ?_) AllReadyH.nil
                  go_simp
                  obtain ⟨w56, hv⟩ : ∃ w_ : World, w_ = (w55.alloc (.cells #[.int .i64 0, .slice none 0 0] 24)) := ⟨_, rfl⟩
                  rw [← hv]
                  have o18 : w52.heap.size < w55.heap.size := ((M.out.1)).lt
                  replace M := Lib.hid (And.intro (hv ▸ bx1 w55 24 #[.int .i64 0, .slice none 0 0]) (Goes.go M.out (hv ▸ below_alloc _ _ : Below w55.heap.size w55 w56)))
                  clear hv
                  refine hK.out _ _ (⟨(M.out.2.2.2.2.2.2.2.2.1).at.1 0, (M.out.2.2.2.2.2.2.2.2.1).at.1 1⟩) (fun hH439 => ?_)
                  clear hK K hH420
                  (try simp only [Act.put, List.setIfInBounds_toArray, List.set_cons_zero, List.set_cons_succ])
                  refine wpAnyH_ready (rs := [1]) (by kernel_rfl) (by simp) ?_
                  refine AllReadyH.cons at1 (fun K hK => ?_) AllReadyH.nil
                  go_simp
                  refine (bigOf_ok (G := G) 0 _ (by omega)).mono ?_
                  rintro e w57 ⟨a_440, c_441, rfl, hd442, hb⟩
                  replace M := Lib.hid (And.intro hd442 (Goes.go M.out hb))
                  clear hb hd442
                  (try go_wp2_with fail)
                  refine hK.out _ _ (⟨(M.out.2.2.2.2.2.2.2.2.2.1).at.1 0, (M.out.2.2.2.2.2.2.2.2.2.1).at.1 1⟩) (fun hH443 => ?_)
                  clear hK K hH439
                  (try simp only [Act.put, List.setIfInBounds_toArray, List.set_cons_zero, List.set_cons_succ])
                  refine wpAnyH_ready (rs := [2]) (by kernel_rfl) (by simp) ?_
                  refine AllReadyH.cons at2 (fun K hK => ?_) AllReadyH.nil
                  go_simp
                  obtain ⟨z446, ez446⟩ : ∃ v_ : Int, v_ = (x * 0) := ⟨_, rfl⟩
                  refine (bigMul_ok (G := G) (x := x) (y := 0) (H1.out.keep (M.out.2.2.2.2.2.2.2.2.2.2)) (M.out.1) (Sz.mono HX.out (by omega)) (Sz.mono (show Sz (0) 0 from by unfold Sz; decide) (by omega))).mono ?_
                  rintro e w58 ⟨a_444, c_445, rfl, hd447, hb⟩
                  rw [← ez446] at hd447 ⊢
                  have Sz446 : Hid (Sz z446 25) := by show Sz z446 25; rw [ez446]; exact (Sz.mul HX.out (show Sz (0) 0 from by unfold Sz; decide))
                  have Ez446 := Lib.hid ez446; clear ez446
                  replace M := Lib.hid (And.intro hd447 (Goes.go M.out hb))
                  clear hb hd447
                  (try go_wp2_with fail)
                  refine hK.out _ _ (⟨(M.out.2.2.2.2.2.2.2.2.2.2.1).at.1 0, (M.out.2.2.2.2.2.2.2.2.2.2.1).at.1 1⟩) (fun hH448 => ?_)
                  clear hK K hH443
                  (try simp only [Act.put, List.setIfInBounds_toArray, List.set_cons_zero, List.set_cons_succ])
                  refine tk at3 ?_
                  refine tk at4 ?_
                  refine tk at5 ?_
                  refine wpAnyH_ready (rs := [7]) (by kernel_rfl) (by simp) ?_
                  refine AllReadyH.cons at7 (fun K hK => ?_) AllReadyH.nil
                  obtain ⟨p18_0, q18_0, p18_1, q18_1⟩ := (M.out.2.2.1).c2
                  go_simp
                  clear p18_0 q18_0 p18_1 q18_1
                  obtain ⟨w59, hv⟩ : ∃ w_ : World, w_ = ((w58.setCell ⟨w55.heap.size, 0, none⟩ (.int .i64 (sg z446))).setCell ⟨w55.heap.size, 1, none⟩ (.slice a_444 (ln z446) c_445)) := ⟨_, rfl⟩
                  rw [← hv]
                  have og : w58.grownBy w59 (some w55.heap.size) := by rw [hv]; exact (only_setCell (only_setCell (World.grownBy.refl _ _) _) _)
                  have hz : w.heap.size ≤ w55.heap.size := by omega
                  have hk : Bx w59 w55.heap.size 24 #[.int .i64 (sg z446), .slice a_444 (ln z446) c_445] := by rw [hv]; exact (((M.out.2.2.1).set 0 _).set 1 _)
                  have hbw : Below w.heap.size w w59 := by rw [hv]; exact (Below.setCell (Below.setCell (M.out.2.2.2.2.2.2.2.2.2.2.2) (by omega) _) (by omega) _)
                  replace M := Lib.hid (And.intro ((M.out.1).far (M.out.2.2.1) (by rfl) (by omega) og) (And.intro ((M.out.2.1).far (M.out.2.2.1) (by rfl) (by omega) og) (And.intro hk (And.intro ((M.out.2.2.2.1).only og (by omega)) (And.intro ((M.out.2.2.2.2.1).far (M.out.2.2.1) (by rfl) (by omega) og) (And.intro ((M.out.2.2.2.2.2.1).far (M.out.2.2.1) (by rfl) (by omega) og) (And.intro ((M.out.2.2.2.2.2.2.1).far (M.out.2.2.1) (by rfl) (by omega) og) (And.intro ((M.out.2.2.2.2.2.2.2.1).far (M.out.2.2.1) (by rfl) (by omega) og) (And.intro ((M.out.2.2.2.2.2.2.2.2.1).only og (by omega)) (And.intro ((M.out.2.2.2.2.2.2.2.2.2.1).far (M.out.2.2.1) (by rfl) (by omega) og) (And.intro ((M.out.2.2.2.2.2.2.2.2.2.2.1).only og (by omega)) hbw)))))))))))
                  clear hk hbw og hv hz
                  refine hK.out _ _ (⟨(M.out.2.2.2.2.2.2.2.2.2.2.1).at.1 0, (M.out.2.2.2.2.2.2.2.2.2.2.1).at.1 1⟩) (fun hH449 => ?_)
                  clear hK K hH448
                  (try simp only [Act.put, List.setIfInBounds_toArray, List.set_cons_zero, List.set_cons_succ])
                  refine tk at8 ?_
                  refine wpAnyH_done (by kernel_rfl) ?_ _
                  clear hH449
                  obtain ⟨p16_0, q16_0, p16_1, q16_1⟩ := (M.out.2.2.2.2.2.2.2.2.1).c2
                  obtain ⟨p0_0, q0_0, p0_1, q0_1⟩ := (M.out.2.2.2.2.2.2.2.2.2.2.1).c2
                  go_wp2_with fail
                  clear p16_0 q16_0 p16_1 q16_1 p0_0 q0_0 p0_1 q0_1
                  replace M := Lib.hid (And.intro (M.out.1) (And.intro (M.out.2.2.1) (And.intro (M.out.2.2.2.1) (And.intro (M.out.2.2.2.2.1) (And.intro (M.out.2.2.2.2.2.2.1) (And.intro (M.out.2.2.2.2.2.2.2.2.2.2.1) (M.out.2.2.2.2.2.2.2.2.2.2.2)))))))
                  refine (rsame_is (G := G) (x := z390) (y := x) (b := true) (M.out.2.2.2.2.1) (H1.out.keep (M.out.2.2.2.2.2.2)) (Sz.mono Sz390.out (by omega)) (Sz.mono HX.out (by omega)) (eqZ_of (by rw [Ez390.out] <;> grind))).mono ?_
                  rintro e w60 ⟨rfl, hb⟩
                  replace M := Lib.hid (Goes.go M.out hb)
                  clear hb
                  obtain ⟨p17_0, q17_0, p17_1, q17_1⟩ := (M.out.2.2.1).c2
                  obtain ⟨p0_0, q0_0, p0_1, q0_1⟩ := (M.out.2.2.2.2.2.1).c2
                  go_wp2_with fail
                  clear p17_0 q17_0 p17_1 q17_1 p0_0 q0_0 p0_1 q0_1
                  refine (rsame_is (G := G) (x := z408) (y := x) (b := true) (M.out.2.2.2.1) (H1.out.keep (M.out.2.2.2.2.2.2)) (Sz.mono Sz408.out (by omega)) (Sz.mono HX.out (by omega)) (eqZ_of (by rw [Ez408.out] <;> grind))).mono ?_
                  rintro e w61 ⟨rfl, hb⟩
                  replace M := Lib.hid (Goes.go M.out hb)
                  clear hb
                  obtain ⟨p18_0, q18_0, p18_1, q18_1⟩ := (M.out.2.1).c2
                  go_wp2_with fail
                  clear p18_0 q18_0 p18_1 q18_1
                  replace M := Lib.hid (And.intro (M.out.1) (M.out.2.2.2.2.2.2))
                  refine (rsame_is (G := G) (x := z446) (y := 0) (b := true) (M.out.1) (bd_zero _ _ _) (Sz.mono Sz446.out (by omega)) (Sz.mono (show Sz (0) 0 from by unfold Sz; decide) (by omega)) (eqZ_of (by rw [Ez446.out] <;> grind))).mono ?_
                  rintro e w62 ⟨rfl, hb⟩
                  replace M := Lib.hid (Goes.go M.out hb)
                  clear hb
                  go_wp2_with fail
                  go_ret
                  exact ⟨rfl, (M.out.2)⟩
                refine AllReadyH.cons at6 (fun K hK => ?_) AllReadyH.nil
                go_simp
                obtain ⟨w52, hv⟩ : ∃ w_ : World, w_ = (w51.alloc (.cells #[.int .i64 0, .slice none 0 0] 24)) := ⟨_, rfl⟩
                rw [← hv]
                have o17 : w45.heap.size < w51.heap.size := ((M.out.2.2.2.1)).lt
                replace M := Lib.hid (And.intro (hv ▸ bx1 w51 24 #[.int .i64 0, .slice none 0 0]) (Goes.go M.out (hv ▸ below_alloc _ _ : Below w51.heap.size w51 w52)))
                clear hv
                refine hK.out _ _ (⟨(M.out.2.2.2.2.2.2.1).at.1 0, (M.out.2.2.2.2.2.2.1).at.1 1⟩) (fun hH450 => ?_)
                clear hK K hH405
                (try simp only [Act.put, List.setIfInBounds_toArray, List.set_cons_zero, List.set_cons_succ])
                refine wpAnyH_ready (rs := [2]) (by kernel_rfl) (by simp) ?_
                refine AllReadyH.cons at2 (fun K hK => ?_) AllReadyH.nil
                go_simp
                obtain ⟨z453, ez453⟩ : ∃ v_ : Int, v_ = (x * 1) := ⟨_, rfl⟩
                refine (bigMul_ok (G := G) (x := x) (y := 1) (H1.out.keep (M.out.2.2.2.2.2.2.2)) (M.out.2.1) (Sz.mono HX.out (by omega)) (Sz.mono (show Sz (1) 1 from by unfold Sz; decide) (by omega))).mono ?_
                rintro e w53 ⟨a_451, c_452, rfl, hd454, hb⟩
                rw [← ez453] at hd454 ⊢
                have Sz453 : Hid (Sz z453 26) := by show Sz z453 26; rw [ez453]; exact (Sz.mul HX.out (show Sz (1) 1 from by unfold Sz; decide))
                have Ez453 := Lib.hid ez453; clear ez453
                replace M := Lib.hid (And.intro hd454 (Goes.go M.out hb))
                clear hb hd454
                (try go_wp2_with fail)
                refine hK.out _ _ (⟨(M.out.2.2.2.2.2.2.2.1).at.1 0, (M.out.2.2.2.2.2.2.2.1).at.1 1⟩) (fun hH455 => ?_)
                clear hK K hH450
                (try simp only [Act.put, List.setIfInBounds_toArray, List.set_cons_zero, List.set_cons_succ])
                refine tk at3 ?_
                refine tk at4 ?_
                refine tk at5 ?_
                refine wpAnyH_ready (rs := [7]) (by kernel_rfl) (by simp) ?_
                refine AllReadyH.cons at7 (fun K hK => ?_) AllReadyH.nil
                obtain ⟨p17_0, q17_0, p17_1, q17_1⟩ := (M.out.2.1).c2
                go_simp
                clear p17_0 q17_0 p17_1 q17_1
                obtain ⟨w54, hv⟩ : ∃ w_ : World, w_ = ((w53.setCell ⟨w51.heap.size, 0, none⟩ (.int .i64 (sg z453))).setCell ⟨w51.heap.size, 1, none⟩ (.slice a_451 (ln z453) c_452)) := ⟨_, rfl⟩
                rw [← hv]
                have og : w53.grownBy w54 (some w51.heap.size) := by rw [hv]; exact (only_setCell (only_setCell (World.grownBy.refl _ _) _) _)
                have hz : w.heap.size ≤ w51.heap.size := by omega
                have hk : Bx w54 w51.heap.size 24 #[.int .i64 (sg z453), .slice a_451 (ln z453) c_452] := by rw [hv]; exact (((M.out.2.1).set 0 _).set 1 _)
                have hbw : Below w.heap.size w w54 := by rw [hv]; exact (Below.setCell (Below.setCell (M.out.2.2.2.2.2.2.2.2) (by omega) _) (by omega) _)
                replace M := Lib.hid (And.intro ((M.out.1).far (M.out.2.1) (by rfl) (by omega) og) (And.intro hk (And.intro ((M.out.2.2.1).far (M.out.2.1) (by rfl) (by omega) og) (And.intro ((M.out.2.2.2.1).far (M.out.2.1) (by rfl) (by omega) og) (And.intro ((M.out.2.2.2.2.1).far (M.out.2.1) (by rfl) (by omega) og) (And.intro ((M.out.2.2.2.2.2.1).only og (by omega)) (And.intro ((M.out.2.2.2.2.2.2.1).far (M.out.2.1) (by rfl) (by omega) og) (And.intro ((M.out.2.2.2.2.2.2.2.1).only og (by omega)) hbw))))))))
                clear hk hbw og hv hz
                refine hK.out _ _ (⟨(M.out.2.2.2.2.2.2.2.1).at.1 0, (M.out.2.2.2.2.2.2.2.1).at.1 1⟩) (fun hH456 => ?_)
                clear hK K hH455
                (try simp only [Act.put, List.setIfInBounds_toArray, List.set_cons_zero, List.set_cons_succ])
                refine tk at8 ?_
                refine wpAnyH_done (by kernel_rfl) ?_ _
                clear hH456
                go_wp2_with fail
                obtain ⟨w55, hv⟩ : ∃ w_ : World, w_ = w54.drew := ⟨_, rfl⟩
                replace M := Lib.hid (Goes.go M.out (hv ▸ below_drew _ : Below w54.heap.size w54 w55))
                refine wp_region_held_drew (S := (fun w' => w'.cell? ⟨w.heap.size, 0, none⟩ = some (.int .i64 (sg x)) ∧ w'.cell? ⟨w.heap.size, 1, none⟩ = some (.slice a1 (ln x) c1))) (by kernel_rfl) (by rw [← hv]; exact ⟨(M.out.2.2.2.2.2.2.2.1).at.1 0, (M.out.2.2.2.2.2.2.2.1).at.1 1⟩) (fun hH464 => ?_)
                rw [← hv] at hH464 ⊢
                clear hv
                refine tk at0 ?_
                refine wpAnyH_ready (rs := [1, 6]) (by kernel_rfl) (by simp) ?_
                refine AllReadyH.cons at1 (fun K hK => ?_) ?_
                ·
                  go_simp
                  refine (bigOf_ok (G := G) 0 _ (by omega)).mono ?_
                  rintro e w56 ⟨a_465, c_466, rfl, hd467, hb⟩
                  replace M := Lib.hid (And.intro hd467 (Goes.go M.out hb))
                  clear hb hd467
                  (try go_wp2_with fail)
                  refine hK.out _ _ (⟨(M.out.2.2.2.2.2.2.2.2.1).at.1 0, (M.out.2.2.2.2.2.2.2.2.1).at.1 1⟩) (fun hH468 => ?_)
                  clear hK K hH464
                  (try simp only [Act.put, List.setIfInBounds_toArray, List.set_cons_zero, List.set_cons_succ])
                  refine wpAnyH_ready (rs := [2, 6]) (by kernel_rfl) (by simp) ?_
                  refine AllReadyH.cons at2 (fun K hK => ?_) ?_
                  ·
                    go_simp
                    obtain ⟨z471, ez471⟩ : ∃ v_ : Int, v_ = (x * 0) := ⟨_, rfl⟩
                    refine (bigMul_ok (G := G) (x := x) (y := 0) (H1.out.keep (M.out.2.2.2.2.2.2.2.2.2)) (M.out.1) (Sz.mono HX.out (by omega)) (Sz.mono (show Sz (0) 0 from by unfold Sz; decide) (by omega))).mono ?_
                    rintro e w57 ⟨a_469, c_470, rfl, hd472, hb⟩
                    rw [← ez471] at hd472 ⊢
                    have Sz471 : Hid (Sz z471 25) := by show Sz z471 25; rw [ez471]; exact (Sz.mul HX.out (show Sz (0) 0 from by unfold Sz; decide))
                    have Ez471 := Lib.hid ez471; clear ez471
                    replace M := Lib.hid (And.intro hd472 (Goes.go M.out hb))
                    clear hb hd472
                    (try go_wp2_with fail)
                    refine hK.out _ _ (⟨(M.out.2.2.2.2.2.2.2.2.2.1).at.1 0, (M.out.2.2.2.2.2.2.2.2.2.1).at.1 1⟩) (fun hH473 => ?_)
                    clear hK K hH468
                    (try simp only [Act.put, List.setIfInBounds_toArray, List.set_cons_zero, List.set_cons_succ])
                    refine tk at3 ?_
                    refine tk at4 ?_
                    refine tk at5 ?_
                    refine wpAnyH_ready (rs := [6]) (by kernel_rfl) (by simp) ?_
                    refine AllReadyH.cons at6 (fun K hK => ?_) AllReadyH.nil
                    go_simp
                    obtain ⟨w58, hv⟩ : ∃ w_ : World, w_ = (w57.alloc (.cells #[.int .i64 0, .slice none 0 0] 24)) := ⟨_, rfl⟩
                    rw [← hv]
                    have o18 : w51.heap.size < w57.heap.size := ((M.out.2.2.2.1)).lt
                    replace M := Lib.hid (And.intro (hv ▸ bx1 w57 24 #[.int .i64 0, .slice none 0 0]) (Goes.go M.out (hv ▸ below_alloc _ _ : Below w57.heap.size w57 w58)))
                    clear hv
                    refine hK.out _ _ (⟨(M.out.2.2.2.2.2.2.2.2.2.2.1).at.1 0, (M.out.2.2.2.2.2.2.2.2.2.2.1).at.1 1⟩) (fun hH474 => ?_)
                    clear hK K hH473
                    (try simp only [Act.put, List.setIfInBounds_toArray, List.set_cons_zero, List.set_cons_succ])
                    refine wpAnyH_ready (rs := [7]) (by kernel_rfl) (by simp) ?_
                    refine AllReadyH.cons at7 (fun K hK => ?_) AllReadyH.nil
                    obtain ⟨p18_0, q18_0, p18_1, q18_1⟩ := (M.out.1).c2
                    go_simp
                    clear p18_0 q18_0 p18_1 q18_1
                    obtain ⟨w59, hv⟩ : ∃ w_ : World, w_ = ((w58.setCell ⟨w57.heap.size, 0, none⟩ (.int .i64 (sg z471))).setCell ⟨w57.heap.size, 1, none⟩ (.slice a_469 (ln z471) c_470)) := ⟨_, rfl⟩
                    rw [← hv]
                    have og : w58.grownBy w59 (some w57.heap.size) := by rw [hv]; exact (only_setCell (only_setCell (World.grownBy.refl _ _) _) _)
                    have hz : w.heap.size ≤ w57.heap.size := by omega
                    have hk : Bx w59 w57.heap.size 24 #[.int .i64 (sg z471), .slice a_469 (ln z471) c_470] := by rw [hv]; exact (((M.out.1).set 0 _).set 1 _)
                    have hbw : Below w.heap.size w w59 := by rw [hv]; exact (Below.setCell (Below.setCell (M.out.2.2.2.2.2.2.2.2.2.2.2) (by omega) _) (by omega) _)
                    replace M := Lib.hid (And.intro hk (And.intro ((M.out.2.1).far (M.out.1) (by rfl) (by omega) og) (And.intro ((M.out.2.2.1).far (M.out.1) (by rfl) (by omega) og) (And.intro ((M.out.2.2.2.1).far (M.out.1) (by rfl) (by omega) og) (And.intro ((M.out.2.2.2.2.1).only og (by omega)) (And.intro ((M.out.2.2.2.2.2.1).far (M.out.1) (by rfl) (by omega) og) (And.intro ((M.out.2.2.2.2.2.2.1).far (M.out.1) (by rfl) (by omega) og) (And.intro ((M.out.2.2.2.2.2.2.2.1).far (M.out.1) (by rfl) (by omega) og) (And.intro ((M.out.2.2.2.2.2.2.2.2.1).only og (by omega)) (And.intro ((M.out.2.2.2.2.2.2.2.2.2.1).far (M.out.1) (by rfl) (by omega) og) (And.intro ((M.out.2.2.2.2.2.2.2.2.2.2.1).only og (by omega)) hbw)))))))))))
                    clear hk hbw og hv hz
                    refine hK.out _ _ (⟨(M.out.2.2.2.2.2.2.2.2.2.2.1).at.1 0, (M.out.2.2.2.2.2.2.2.2.2.2.1).at.1 1⟩) (fun hH475 => ?_)
                    clear hK K hH474
                    (try simp only [Act.put, List.setIfInBounds_toArray, List.set_cons_zero, List.set_cons_succ])
                    refine tk at8 ?_
                    refine wpAnyH_done (by kernel_rfl) ?_ _
                    clear hH475
                    obtain ⟨p16_0, q16_0, p16_1, q16_1⟩ := (M.out.2.2.2.2.2.2.2.2.1).c2
                    obtain ⟨p0_0, q0_0, p0_1, q0_1⟩ := (M.out.2.2.2.2.2.2.2.2.2.2.1).c2
                    go_wp2_with fail
                    clear p16_0 q16_0 p16_1 q16_1 p0_0 q0_0 p0_1 q0_1
                    replace M := Lib.hid (And.intro (M.out.1) (And.intro (M.out.2.1) (And.intro (M.out.2.2.2.1) (And.intro (M.out.2.2.2.2.1) (And.intro (M.out.2.2.2.2.2.2.1) (And.intro (M.out.2.2.2.2.2.2.2.2.2.2.1) (M.out.2.2.2.2.2.2.2.2.2.2.2)))))))
                    refine (rsame_is (G := G) (x := z390) (y := x) (b := true) (M.out.2.2.2.2.1) (H1.out.keep (M.out.2.2.2.2.2.2)) (Sz.mono Sz390.out (by omega)) (Sz.mono HX.out (by omega)) (eqZ_of (by rw [Ez390.out] <;> grind))).mono ?_
                    rintro e w60 ⟨rfl, hb⟩
                    replace M := Lib.hid (Goes.go M.out hb)
                    clear hb
                    obtain ⟨p17_0, q17_0, p17_1, q17_1⟩ := (M.out.2.2.2.1).c2
                    obtain ⟨p0_0, q0_0, p0_1, q0_1⟩ := (M.out.2.2.2.2.2.1).c2
                    go_wp2_with fail
                    clear p17_0 q17_0 p17_1 q17_1 p0_0 q0_0 p0_1 q0_1
                    refine (rsame_is (G := G) (x := z453) (y := x) (b := true) (M.out.2.2.1) (H1.out.keep (M.out.2.2.2.2.2.2)) (Sz.mono Sz453.out (by omega)) (Sz.mono HX.out (by omega)) (eqZ_of (by rw [Ez453.out] <;> grind))).mono ?_
                    rintro e w61 ⟨rfl, hb⟩
                    replace M := Lib.hid (Goes.go M.out hb)
                    clear hb
                    obtain ⟨p18_0, q18_0, p18_1, q18_1⟩ := (M.out.1).c2
                    go_wp2_with fail
                    clear p18_0 q18_0 p18_1 q18_1
                    replace M := Lib.hid (And.intro (M.out.2.1) (M.out.2.2.2.2.2.2))
                    refine (rsame_is (G := G) (x := z471) (y := 0) (b := true) (M.out.1) (bd_zero _ _ _) (Sz.mono Sz471.out (by omega)) (Sz.mono (show Sz (0) 0 from by unfold Sz; decide) (by omega)) (eqZ_of (by rw [Ez471.out] <;> grind))).mono ?_
                    rintro e w62 ⟨rfl, hb⟩
                    replace M := Lib.hid (Goes.go M.out hb)
                    clear hb
                    go_wp2_with fail
                    go_ret
                    exact ⟨rfl, (M.out.2)⟩
                  refine AllReadyH.cons at6 (fun K hK => ?_) AllReadyH.nil
                  go_simp
                  obtain ⟨w57, hv⟩ : ∃ w_ : World, w_ = (w56.alloc (.cells #[.int .i64 0, .slice none 0 0] 24)) := ⟨_, rfl⟩
                  rw [← hv]
                  have o18 : w51.heap.size < w56.heap.size := ((M.out.2.2.1)).lt
                  replace M := Lib.hid (And.intro (hv ▸ bx1 w56 24 #[.int .i64 0, .slice none 0 0]) (Goes.go M.out (hv ▸ below_alloc _ _ : Below w56.heap.size w56 w57)))
                  clear hv
                  refine hK.out _ _ (⟨(M.out.2.2.2.2.2.2.2.2.2.1).at.1 0, (M.out.2.2.2.2.2.2.2.2.2.1).at.1 1⟩) (fun hH476 => ?_)
                  clear hK K hH468
                  (try simp only [Act.put, List.setIfInBounds_toArray, List.set_cons_zero, List.set_cons_succ])
                  refine wpAnyH_ready (rs := [2]) (by kernel_rfl) (by simp) ?_
                  refine AllReadyH.cons at2 (fun K hK => ?_) AllReadyH.nil
                  go_simp
                  obtain ⟨z479, ez479⟩ : ∃ v_ : Int, v_ = (x * 0) := ⟨_, rfl⟩
                  refine (bigMul_ok (G := G) (x := x) (y := 0) (H1.out.keep (M.out.2.2.2.2.2.2.2.2.2.2)) (M.out.2.1) (Sz.mono HX.out (by omega)) (Sz.mono (show Sz (0) 0 from by unfold Sz; decide) (by omega))).mono ?_
                  rintro e w58 ⟨a_477, c_478, rfl, hd480, hb⟩
                  rw [← ez479] at hd480 ⊢
                  have Sz479 : Hid (Sz z479 25) := by show Sz z479 25; rw [ez479]; exact (Sz.mul HX.out (show Sz (0) 0 from by unfold Sz; decide))
                  have Ez479 := Lib.hid ez479; clear ez479
                  replace M := Lib.hid (And.intro hd480 (Goes.go M.out hb))
                  clear hb hd480
                  (try go_wp2_with fail)
                  refine hK.out _ _ (⟨(M.out.2.2.2.2.2.2.2.2.2.2.1).at.1 0, (M.out.2.2.2.2.2.2.2.2.2.2.1).at.1 1⟩) (fun hH481 => ?_)
                  clear hK K hH476
                  (try simp only [Act.put, List.setIfInBounds_toArray, List.set_cons_zero, List.set_cons_succ])
                  refine tk at3 ?_
                  refine tk at4 ?_
                  refine tk at5 ?_
                  refine wpAnyH_ready (rs := [7]) (by kernel_rfl) (by simp) ?_
                  refine AllReadyH.cons at7 (fun K hK => ?_) AllReadyH.nil
                  obtain ⟨p18_0, q18_0, p18_1, q18_1⟩ := (M.out.2.1).c2
                  go_simp
                  clear p18_0 q18_0 p18_1 q18_1
                  obtain ⟨w59, hv⟩ : ∃ w_ : World, w_ = ((w58.setCell ⟨w56.heap.size, 0, none⟩ (.int .i64 (sg z479))).setCell ⟨w56.heap.size, 1, none⟩ (.slice a_477 (ln z479) c_478)) := ⟨_, rfl⟩
                  rw [← hv]
                  have og : w58.grownBy w59 (some w56.heap.size) := by rw [hv]; exact (only_setCell (only_setCell (World.grownBy.refl _ _) _) _)
                  have hz : w.heap.size ≤ w56.heap.size := by omega
                  have hk : Bx w59 w56.heap.size 24 #[.int .i64 (sg z479), .slice a_477 (ln z479) c_478] := by rw [hv]; exact (((M.out.2.1).set 0 _).set 1 _)
                  have hbw : Below w.heap.size w w59 := by rw [hv]; exact (Below.setCell (Below.setCell (M.out.2.2.2.2.2.2.2.2.2.2.2) (by omega) _) (by omega) _)
                  replace M := Lib.hid (And.intro ((M.out.1).far (M.out.2.1) (by rfl) (by omega) og) (And.intro hk (And.intro ((M.out.2.2.1).far (M.out.2.1) (by rfl) (by omega) og) (And.intro ((M.out.2.2.2.1).far (M.out.2.1) (by rfl) (by omega) og) (And.intro ((M.out.2.2.2.2.1).only og (by omega)) (And.intro ((M.out.2.2.2.2.2.1).far (M.out.2.1) (by rfl) (by omega) og) (And.intro ((M.out.2.2.2.2.2.2.1).far (M.out.2.1) (by rfl) (by omega) og) (And.intro ((M.out.2.2.2.2.2.2.2.1).far (M.out.2.1) (by rfl) (by omega) og) (And.intro ((M.out.2.2.2.2.2.2.2.2.1).only og (by omega)) (And.intro ((M.out.2.2.2.2.2.2.2.2.2.1).far (M.out.2.1) (by rfl) (by omega) og) (And.intro ((M.out.2.2.2.2.2.2.2.2.2.2.1).only og (by omega)) hbw)))))))))))
                  clear hk hbw og hv hz
                  refine hK.out _ _ (⟨(M.out.2.2.2.2.2.2.2.2.2.2.1).at.1 0, (M.out.2.2.2.2.2.2.2.2.2.2.1).at.1 1⟩) (fun hH482 => ?_)
                  clear hK K hH481
                  (try simp only [Act.put, List.setIfInBounds_toArray, List.set_cons_zero, List.set_cons_succ])
                  refine tk at8 ?_
                  refine wpAnyH_done (by kernel_rfl) ?_ _
                  clear hH482
                  obtain ⟨p16_0, q16_0, p16_1, q16_1⟩ := (M.out.2.2.2.2.2.2.2.2.1).c2
                  obtain ⟨p0_0, q0_0, p0_1, q0_1⟩ := (M.out.2.2.2.2.2.2.2.2.2.2.1).c2
                  go_wp2_with fail
                  clear p16_0 q16_0 p16_1 q16_1 p0_0 q0_0 p0_1 q0_1
                  replace M := Lib.hid (And.intro (M.out.1) (And.intro (M.out.2.1) (And.intro (M.out.2.2.2.1) (And.intro (M.out.2.2.2.2.1) (And.intro (M.out.2.2.2.2.2.2.1) (And.intro (M.out.2.2.2.2.2.2.2.2.2.2.1) (M.out.2.2.2.2.2.2.2.2.2.2.2)))))))
                  refine (rsame_is (G := G) (x := z390) (y := x) (b := true) (M.out.2.2.2.2.1) (H1.out.keep (M.out.2.2.2.2.2.2)) (Sz.mono Sz390.out (by omega)) (Sz.mono HX.out (by omega)) (eqZ_of (by rw [Ez390.out] <;> grind))).mono ?_
                  rintro e w60 ⟨rfl, hb⟩
                  replace M := Lib.hid (Goes.go M.out hb)
                  clear hb
                  obtain ⟨p17_0, q17_0, p17_1, q17_1⟩ := (M.out.2.2.2.1).c2
                  obtain ⟨p0_0, q0_0, p0_1, q0_1⟩ := (M.out.2.2.2.2.2.1).c2
                  go_wp2_with fail
                  clear p17_0 q17_0 p17_1 q17_1 p0_0 q0_0 p0_1 q0_1
                  refine (rsame_is (G := G) (x := z453) (y := x) (b := true) (M.out.2.2.1) (H1.out.keep (M.out.2.2.2.2.2.2)) (Sz.mono Sz453.out (by omega)) (Sz.mono HX.out (by omega)) (eqZ_of (by rw [Ez453.out] <;> grind))).mono ?_
                  rintro e w61 ⟨rfl, hb⟩
                  replace M := Lib.hid (Goes.go M.out hb)
                  clear hb
                  obtain ⟨p18_0, q18_0, p18_1, q18_1⟩ := (M.out.2.1).c2
                  go_wp2_with fail
                  clear p18_0 q18_0 p18_1 q18_1
                  replace M := Lib.hid (And.intro (M.out.1) (M.out.2.2.2.2.2.2))
                  refine (rsame_is (G := G) (x := z479) (y := 0) (b := true) (M.out.1) (bd_zero _ _ _) (Sz.mono Sz479.out (by omega)) (Sz.mono (show Sz (0) 0 from by unfold Sz; decide) (by omega)) (eqZ_of (by rw [Ez479.out] <;> grind))).mono ?_
                  rintro e w62 ⟨rfl, hb⟩
                  replace M := Lib.hid (Goes.go M.out hb)
                  clear hb
                  go_wp2_with fail
                  go_ret
                  exact ⟨rfl, (M.out.2)⟩
                refine AllReadyH.cons at6 (fun K hK => ?_) AllReadyH.nil
                go_simp
                obtain ⟨w56, hv⟩ : ∃ w_ : World, w_ = (w55.alloc (.cells #[.int .i64 0, .slice none 0 0] 24)) := ⟨_, rfl⟩
                rw [← hv]
                have o18 : w51.heap.size < w55.heap.size := ((M.out.2.1)).lt
                replace M := Lib.hid (And.intro (hv ▸ bx1 w55 24 #[.int .i64 0, .slice none 0 0]) (Goes.go M.out (hv ▸ below_alloc _ _ : Below w55.heap.size w55 w56)))
                clear hv
                refine hK.out _ _ (⟨(M.out.2.2.2.2.2.2.2.2.1).at.1 0, (M.out.2.2.2.2.2.2.2.2.1).at.1 1⟩) (fun hH483 => ?_)
                clear hK K hH464
                (try simp only [Act.put, List.setIfInBounds_toArray, List.set_cons_zero, List.set_cons_succ])
                refine wpAnyH_ready (rs := [1]) (by kernel_rfl) (by simp) ?_
                refine AllReadyH.cons at1 (fun K hK => ?_) AllReadyH.nil
                go_simp
                refine (bigOf_ok (G := G) 0 _ (by omega)).mono ?_
                rintro e w57 ⟨a_484, c_485, rfl, hd486, hb⟩
                replace M := Lib.hid (And.intro hd486 (Goes.go M.out hb))
                clear hb hd486
                (try go_wp2_with fail)
                refine hK.out _ _ (⟨(M.out.2.2.2.2.2.2.2.2.2.1).at.1 0, (M.out.2.2.2.2.2.2.2.2.2.1).at.1 1⟩) (fun hH487 => ?_)
                clear hK K hH483
                (try simp only [Act.put, List.setIfInBounds_toArray, List.set_cons_zero, List.set_cons_succ])
                refine wpAnyH_ready (rs := [2]) (by kernel_rfl) (by simp) ?_
                refine AllReadyH.cons at2 (fun K hK => ?_) AllReadyH.nil
                go_simp
                obtain ⟨z490, ez490⟩ : ∃ v_ : Int, v_ = (x * 0) := ⟨_, rfl⟩
                refine (bigMul_ok (G := G) (x := x) (y := 0) (H1.out.keep (M.out.2.2.2.2.2.2.2.2.2.2)) (M.out.1) (Sz.mono HX.out (by omega)) (Sz.mono (show Sz (0) 0 from by unfold Sz; decide) (by omega))).mono ?_
                rintro e w58 ⟨a_488, c_489, rfl, hd491, hb⟩
                rw [← ez490] at hd491 ⊢
                have Sz490 : Hid (Sz z490 25) := by show Sz z490 25; rw [ez490]; exact (Sz.mul HX.out (show Sz (0) 0 from by unfold Sz; decide))
                have Ez490 := Lib.hid ez490; clear ez490
                replace M := Lib.hid (And.intro hd491 (Goes.go M.out hb))
                clear hb hd491
                (try go_wp2_with fail)
                refine hK.out _ _ (⟨(M.out.2.2.2.2.2.2.2.2.2.2.1).at.1 0, (M.out.2.2.2.2.2.2.2.2.2.2.1).at.1 1⟩) (fun hH492 => ?_)
                clear hK K hH487
                (try simp only [Act.put, List.setIfInBounds_toArray, List.set_cons_zero, List.set_cons_succ])
                refine tk at3 ?_
                refine tk at4 ?_
                refine tk at5 ?_
                refine wpAnyH_ready (rs := [7]) (by kernel_rfl) (by simp) ?_
                refine AllReadyH.cons at7 (fun K hK => ?_) AllReadyH.nil
                obtain ⟨p18_0, q18_0, p18_1, q18_1⟩ := (M.out.2.2.1).c2
                go_simp
                clear p18_0 q18_0 p18_1 q18_1
                obtain ⟨w59, hv⟩ : ∃ w_ : World, w_ = ((w58.setCell ⟨w55.heap.size, 0, none⟩ (.int .i64 (sg z490))).setCell ⟨w55.heap.size, 1, none⟩ (.slice a_488 (ln z490) c_489)) := ⟨_, rfl⟩
                rw [← hv]
                have og : w58.grownBy w59 (some w55.heap.size) := by rw [hv]; exact (only_setCell (only_setCell (World.grownBy.refl _ _) _) _)
                have hz : w.heap.size ≤ w55.heap.size := by omega
                have hk : Bx w59 w55.heap.size 24 #[.int .i64 (sg z490), .slice a_488 (ln z490) c_489] := by rw [hv]; exact (((M.out.2.2.1).set 0 _).set 1 _)
                have hbw : Below w.heap.size w w59 := by rw [hv]; exact (Below.setCell (Below.setCell (M.out.2.2.2.2.2.2.2.2.2.2.2) (by omega) _) (by omega) _)
                replace M := Lib.hid (And.intro ((M.out.1).far (M.out.2.2.1) (by rfl) (by omega) og) (And.intro ((M.out.2.1).far (M.out.2.2.1) (by rfl) (by omega) og) (And.intro hk (And.intro ((M.out.2.2.2.1).far (M.out.2.2.1) (by rfl) (by omega) og) (And.intro ((M.out.2.2.2.2.1).only og (by omega)) (And.intro ((M.out.2.2.2.2.2.1).far (M.out.2.2.1) (by rfl) (by omega) og) (And.intro ((M.out.2.2.2.2.2.2.1).far (M.out.2.2.1) (by rfl) (by omega) og) (And.intro ((M.out.2.2.2.2.2.2.2.1).far (M.out.2.2.1) (by rfl) (by omega) og) (And.intro ((M.out.2.2.2.2.2.2.2.2.1).only og (by omega)) (And.intro ((M.out.2.2.2.2.2.2.2.2.2.1).far (M.out.2.2.1) (by rfl) (by omega) og) (And.intro ((M.out.2.2.2.2.2.2.2.2.2.2.1).only og (by omega)) hbw)))))))))))
                clear hk hbw og hv hz
                refine hK.out _ _ (⟨(M.out.2.2.2.2.2.2.2.2.2.2.1).at.1 0, (M.out.2.2.2.2.2.2.2.2.2.2.1).at.1 1⟩) (fun hH493 => ?_)
                clear hK K hH492
                (try simp only [Act.put, List.setIfInBounds_toArray, List.set_cons_zero, List.set_cons_succ])
                refine tk at8 ?_
                refine wpAnyH_done (by kernel_rfl) ?_ _
                clear hH493
                obtain ⟨p16_0, q16_0, p16_1, q16_1⟩ := (M.out.2.2.2.2.2.2.2.2.1).c2
                obtain ⟨p0_0, q0_0, p0_1, q0_1⟩ := (M.out.2.2.2.2.2.2.2.2.2.2.1).c2
                go_wp2_with fail
                clear p16_0 q16_0 p16_1 q16_1 p0_0 q0_0 p0_1 q0_1
                replace M := Lib.hid (And.intro (M.out.1) (And.intro (M.out.2.2.1) (And.intro (M.out.2.2.2.1) (And.intro (M.out.2.2.2.2.1) (And.intro (M.out.2.2.2.2.2.2.1) (And.intro (M.out.2.2.2.2.2.2.2.2.2.2.1) (M.out.2.2.2.2.2.2.2.2.2.2.2)))))))
                refine (rsame_is (G := G) (x := z390) (y := x) (b := true) (M.out.2.2.2.2.1) (H1.out.keep (M.out.2.2.2.2.2.2)) (Sz.mono Sz390.out (by omega)) (Sz.mono HX.out (by omega)) (eqZ_of (by rw [Ez390.out] <;> grind))).mono ?_
                rintro e w60 ⟨rfl, hb⟩
                replace M := Lib.hid (Goes.go M.out hb)
                clear hb
                obtain ⟨p17_0, q17_0, p17_1, q17_1⟩ := (M.out.2.2.2.1).c2
                obtain ⟨p0_0, q0_0, p0_1, q0_1⟩ := (M.out.2.2.2.2.2.1).c2
                go_wp2_with fail
                clear p17_0 q17_0 p17_1 q17_1 p0_0 q0_0 p0_1 q0_1
                refine (rsame_is (G := G) (x := z453) (y := x) (b := true) (M.out.2.2.1) (H1.out.keep (M.out.2.2.2.2.2.2)) (Sz.mono Sz453.out (by omega)) (Sz.mono HX.out (by omega)) (eqZ_of (by rw [Ez453.out] <;> grind))).mono ?_
                rintro e w61 ⟨rfl, hb⟩
                replace M := Lib.hid (Goes.go M.out hb)
                clear hb
                obtain ⟨p18_0, q18_0, p18_1, q18_1⟩ := (M.out.2.1).c2
                go_wp2_with fail
                clear p18_0 q18_0 p18_1 q18_1
                replace M := Lib.hid (And.intro (M.out.1) (M.out.2.2.2.2.2.2))
                refine (rsame_is (G := G) (x := z490) (y := 0) (b := true) (M.out.1) (bd_zero _ _ _) (Sz.mono Sz490.out (by omega)) (Sz.mono (show Sz (0) 0 from by unfold Sz; decide) (by omega)) (eqZ_of (by rw [Ez490.out] <;> grind))).mono ?_
                rintro e w62 ⟨rfl, hb⟩
                replace M := Lib.hid (Goes.go M.out hb)
                clear hb
                go_wp2_with fail
                go_ret
                exact ⟨rfl, (M.out.2)⟩
              refine AllReadyH.cons at6 (fun K hK => ?_) AllReadyH.nil
              go_simp
              obtain ⟨w51, hv⟩ : ∃ w_ : World, w_ = (w50.alloc (.cells #[.int .i64 0, .slice none 0 0] 24)) := ⟨_, rfl⟩
              rw [← hv]
              have o17 : w45.heap.size < w50.heap.size := ((M.out.2.2.1)).lt
              replace M := Lib.hid (And.intro (hv ▸ bx1 w50 24 #[.int .i64 0, .slice none 0 0]) (Goes.go M.out (hv ▸ below_alloc _ _ : Below w50.heap.size w50 w51)))
              clear hv
              refine hK.out _ _ (⟨(M.out.2.2.2.2.2.1).at.1 0, (M.out.2.2.2.2.2.1).at.1 1⟩) (fun hH494 => ?_)
              clear hK K hH401
              (try simp only [Act.put, List.setIfInBounds_toArray, List.set_cons_zero, List.set_cons_succ])
              refine wpAnyH_ready (rs := [1]) (by kernel_rfl) (by simp) ?_
              refine AllReadyH.cons at1 (fun K hK => ?_) AllReadyH.nil
              go_simp
              refine (bigOf_ok (G := G) 1 _ (by omega)).mono ?_
              rintro e w52 ⟨a_495, c_496, rfl, hd497, hb⟩
              replace M := Lib.hid (And.intro hd497 (Goes.go M.out hb))
              clear hb hd497
              (try go_wp2_with fail)
              refine hK.out _ _ (⟨(M.out.2.2.2.2.2.2.1).at.1 0, (M.out.2.2.2.2.2.2.1).at.1 1⟩) (fun hH498 => ?_)
              clear hK K hH494
              (try simp only [Act.put, List.setIfInBounds_toArray, List.set_cons_zero, List.set_cons_succ])
              refine wpAnyH_ready (rs := [2]) (by kernel_rfl) (by simp) ?_
              refine AllReadyH.cons at2 (fun K hK => ?_) AllReadyH.nil
              go_simp
              obtain ⟨z501, ez501⟩ : ∃ v_ : Int, v_ = (x * 1) := ⟨_, rfl⟩
              refine (bigMul_ok (G := G) (x := x) (y := 1) (H1.out.keep (M.out.2.2.2.2.2.2.2)) (M.out.1) (Sz.mono HX.out (by omega)) (Sz.mono (show Sz (1) 1 from by unfold Sz; decide) (by omega))).mono ?_
              rintro e w53 ⟨a_499, c_500, rfl, hd502, hb⟩
              rw [← ez501] at hd502 ⊢
              have Sz501 : Hid (Sz z501 26) := by show Sz z501 26; rw [ez501]; exact (Sz.mul HX.out (show Sz (1) 1 from by unfold Sz; decide))
              have Ez501 := Lib.hid ez501; clear ez501
              replace M := Lib.hid (And.intro hd502 (Goes.go M.out hb))
              clear hb hd502
              (try go_wp2_with fail)
              refine hK.out _ _ (⟨(M.out.2.2.2.2.2.2.2.1).at.1 0, (M.out.2.2.2.2.2.2.2.1).at.1 1⟩) (fun hH503 => ?_)
              clear hK K hH498
              (try simp only [Act.put, List.setIfInBounds_toArray, List.set_cons_zero, List.set_cons_succ])
              refine tk at3 ?_
              refine tk at4 ?_
              refine tk at5 ?_
              refine wpAnyH_ready (rs := [7]) (by kernel_rfl) (by simp) ?_
              refine AllReadyH.cons at7 (fun K hK => ?_) AllReadyH.nil
              obtain ⟨p17_0, q17_0, p17_1, q17_1⟩ := (M.out.2.2.1).c2
              go_simp
              clear p17_0 q17_0 p17_1 q17_1
              obtain ⟨w54, hv⟩ : ∃ w_ : World, w_ = ((w53.setCell ⟨w50.heap.size, 0, none⟩ (.int .i64 (sg z501))).setCell ⟨w50.heap.size, 1, none⟩ (.slice a_499 (ln z501) c_500)) := ⟨_, rfl⟩
              rw [← hv]
              have og : w53.grownBy w54 (some w50.heap.size) := by rw [hv]; exact (only_setCell (only_setCell (World.grownBy.refl _ _) _) _)
              have hz : w.heap.size ≤ w50.heap.size := by omega
              have hk : Bx w54 w50.heap.size 24 #[.int .i64 (sg z501), .slice a_499 (ln z501) c_500] := by rw [hv]; exact (((M.out.2.2.1).set 0 _).set 1 _)
              have hbw : Below w.heap.size w w54 := by rw [hv]; exact (Below.setCell (Below.setCell (M.out.2.2.2.2.2.2.2.2) (by omega) _) (by omega) _)
              replace M := Lib.hid (And.intro ((M.out.1).far (M.out.2.2.1) (by rfl) (by omega) og) (And.intro ((M.out.2.1).far (M.out.2.2.1) (by rfl) (by omega) og) (And.intro hk (And.intro ((M.out.2.2.2.1).far (M.out.2.2.1) (by rfl) (by omega) og) (And.intro ((M.out.2.2.2.2.1).far (M.out.2.2.1) (by rfl) (by omega) og) (And.intro ((M.out.2.2.2.2.2.1).only og (by omega)) (And.intro ((M.out.2.2.2.2.2.2.1).far (M.out.2.2.1) (by rfl) (by omega) og) (And.intro ((M.out.2.2.2.2.2.2.2.1).only og (by omega)) hbw))))))))
              clear hk hbw og hv hz
              refine hK.out _ _ (⟨(M.out.2.2.2.2.2.2.2.1).at.1 0, (M.out.2.2.2.2.2.2.2.1).at.1 1⟩) (fun hH504 => ?_)
              clear hK K hH503
              (try simp only [Act.put, List.setIfInBounds_toArray, List.set_cons_zero, List.set_cons_succ])
              refine tk at8 ?_
              refine wpAnyH_done (by kernel_rfl) ?_ _
              clear hH504
              go_wp2_with fail
              obtain ⟨w55, hv⟩ : ∃ w_ : World, w_ = w54.drew := ⟨_, rfl⟩
              replace M := Lib.hid (Goes.go M.out (hv ▸ below_drew _ : Below w54.heap.size w54 w55))
              refine wp_region_held_drew (S := (fun w' => w'.cell? ⟨w.heap.size, 0, none⟩ = some (.int .i64 (sg x)) ∧ w'.cell? ⟨w.heap.size, 1, none⟩ = some (.slice a1 (ln x) c1))) (by kernel_rfl) (by rw [← hv]; exact ⟨(M.out.2.2.2.2.2.2.2.1).at.1 0, (M.out.2.2.2.2.2.2.2.1).at.1 1⟩) (fun hH512 => ?_)
              rw [← hv] at hH512 ⊢
              clear hv
              refine tk at0 ?_
              refine wpAnyH_ready (rs := [1, 6]) (by kernel_rfl) (by simp) ?_
              refine AllReadyH.cons at1 (fun K hK => ?_) ?_
              ·
                go_simp
                refine (bigOf_ok (G := G) 0 _ (by omega)).mono ?_
                rintro e w56 ⟨a_513, c_514, rfl, hd515, hb⟩
                replace M := Lib.hid (And.intro hd515 (Goes.go M.out hb))
                clear hb hd515
                (try go_wp2_with fail)
                refine hK.out _ _ (⟨(M.out.2.2.2.2.2.2.2.2.1).at.1 0, (M.out.2.2.2.2.2.2.2.2.1).at.1 1⟩) (fun hH516 => ?_)
                clear hK K hH512
                (try simp only [Act.put, List.setIfInBounds_toArray, List.set_cons_zero, List.set_cons_succ])
                refine wpAnyH_ready (rs := [2, 6]) (by kernel_rfl) (by simp) ?_
                refine AllReadyH.cons at2 (fun K hK => ?_) ?_
                ·
                  go_simp
                  obtain ⟨z519, ez519⟩ : ∃ v_ : Int, v_ = (x * 0) := ⟨_, rfl⟩
                  refine (bigMul_ok (G := G) (x := x) (y := 0) (H1.out.keep (M.out.2.2.2.2.2.2.2.2.2)) (M.out.1) (Sz.mono HX.out (by omega)) (Sz.mono (show Sz (0) 0 from by unfold Sz; decide) (by omega))).mono ?_
                  rintro e w57 ⟨a_517, c_518, rfl, hd520, hb⟩
                  rw [← ez519] at hd520 ⊢
                  have Sz519 : Hid (Sz z519 25) := by show Sz z519 25; rw [ez519]; exact (Sz.mul HX.out (show Sz (0) 0 from by unfold Sz; decide))
                  have Ez519 := Lib.hid ez519; clear ez519
                  replace M := Lib.hid (And.intro hd520 (Goes.go M.out hb))
                  clear hb hd520
                  (try go_wp2_with fail)
                  refine hK.out _ _ (⟨(M.out.2.2.2.2.2.2.2.2.2.1).at.1 0, (M.out.2.2.2.2.2.2.2.2.2.1).at.1 1⟩) (fun hH521 => ?_)
                  clear hK K hH516
                  (try simp only [Act.put, List.setIfInBounds_toArray, List.set_cons_zero, List.set_cons_succ])
                  refine tk at3 ?_
                  refine tk at4 ?_
                  refine tk at5 ?_
                  refine wpAnyH_ready (rs := [6]) (by kernel_rfl) (by simp) ?_
                  refine AllReadyH.cons at6 (fun K hK => ?_) AllReadyH.nil
                  go_simp
                  obtain ⟨w58, hv⟩ : ∃ w_ : World, w_ = (w57.alloc (.cells #[.int .i64 0, .slice none 0 0] 24)) := ⟨_, rfl⟩
                  rw [← hv]
                  have o18 : w50.heap.size < w57.heap.size := ((M.out.2.2.2.2.1)).lt
                  replace M := Lib.hid (And.intro (hv ▸ bx1 w57 24 #[.int .i64 0, .slice none 0 0]) (Goes.go M.out (hv ▸ below_alloc _ _ : Below w57.heap.size w57 w58)))
                  clear hv
                  refine hK.out _ _ (⟨(M.out.2.2.2.2.2.2.2.2.2.2.1).at.1 0, (M.out.2.2.2.2.2.2.2.2.2.2.1).at.1 1⟩) (fun hH522 => ?_)
                  clear hK K hH521
                  (try simp only [Act.put, List.setIfInBounds_toArray, List.set_cons_zero, List.set_cons_succ])
                  refine wpAnyH_ready (rs := [7]) (by kernel_rfl) (by simp) ?_
                  refine AllReadyH.cons at7 (fun K hK => ?_) AllReadyH.nil
                  obtain ⟨p18_0, q18_0, p18_1, q18_1⟩ := (M.out.1).c2
                  go_simp
                  clear p18_0 q18_0 p18_1 q18_1
                  obtain ⟨w59, hv⟩ : ∃ w_ : World, w_ = ((w58.setCell ⟨w57.heap.size, 0, none⟩ (.int .i64 (sg z519))).setCell ⟨w57.heap.size, 1, none⟩ (.slice a_517 (ln z519) c_518)) := ⟨_, rfl⟩
                  rw [← hv]
                  have og : w58.grownBy w59 (some w57.heap.size) := by rw [hv]; exact (only_setCell (only_setCell (World.grownBy.refl _ _) _) _)
                  have hz : w.heap.size ≤ w57.heap.size := by omega
                  have hk : Bx w59 w57.heap.size 24 #[.int .i64 (sg z519), .slice a_517 (ln z519) c_518] := by rw [hv]; exact (((M.out.1).set 0 _).set 1 _)
                  have hbw : Below w.heap.size w w59 := by rw [hv]; exact (Below.setCell (Below.setCell (M.out.2.2.2.2.2.2.2.2.2.2.2) (by omega) _) (by omega) _)
                  replace M := Lib.hid (And.intro hk (And.intro ((M.out.2.1).far (M.out.1) (by rfl) (by omega) og) (And.intro ((M.out.2.2.1).far (M.out.1) (by rfl) (by omega) og) (And.intro ((M.out.2.2.2.1).far (M.out.1) (by rfl) (by omega) og) (And.intro ((M.out.2.2.2.2.1).far (M.out.1) (by rfl) (by omega) og) (And.intro ((M.out.2.2.2.2.2.1).only og (by omega)) (And.intro ((M.out.2.2.2.2.2.2.1).far (M.out.1) (by rfl) (by omega) og) (And.intro ((M.out.2.2.2.2.2.2.2.1).far (M.out.1) (by rfl) (by omega) og) (And.intro ((M.out.2.2.2.2.2.2.2.2.1).only og (by omega)) (And.intro ((M.out.2.2.2.2.2.2.2.2.2.1).far (M.out.1) (by rfl) (by omega) og) (And.intro ((M.out.2.2.2.2.2.2.2.2.2.2.1).only og (by omega)) hbw)))))))))))
                  clear hk hbw og hv hz
                  refine hK.out _ _ (⟨(M.out.2.2.2.2.2.2.2.2.2.2.1).at.1 0, (M.out.2.2.2.2.2.2.2.2.2.2.1).at.1 1⟩) (fun hH523 => ?_)
                  clear hK K hH522
                  (try simp only [Act.put, List.setIfInBounds_toArray, List.set_cons_zero, List.set_cons_succ])
                  refine tk at8 ?_
                  refine wpAnyH_done (by kernel_rfl) ?_ _
                  clear hH523
                  obtain ⟨p16_0, q16_0, p16_1, q16_1⟩ := (M.out.2.2.2.2.2.2.2.2.1).c2
                  obtain ⟨p0_0, q0_0, p0_1, q0_1⟩ := (M.out.2.2.2.2.2.2.2.2.2.2.1).c2
                  go_wp2_with fail
                  clear p16_0 q16_0 p16_1 q16_1 p0_0 q0_0 p0_1 q0_1
                  replace M := Lib.hid (And.intro (M.out.1) (And.intro (M.out.2.1) (And.intro (M.out.2.2.2.1) (And.intro (M.out.2.2.2.2.2.1) (And.intro (M.out.2.2.2.2.2.2.1) (And.intro (M.out.2.2.2.2.2.2.2.2.2.2.1) (M.out.2.2.2.2.2.2.2.2.2.2.2)))))))
                  refine (rsame_is (G := G) (x := z390) (y := x) (b := true) (M.out.2.2.2.2.1) (H1.out.keep (M.out.2.2.2.2.2.2)) (Sz.mono Sz390.out (by omega)) (Sz.mono HX.out (by omega)) (eqZ_of (by rw [Ez390.out] <;> grind))).mono ?_
                  rintro e w60 ⟨rfl, hb⟩
                  replace M := Lib.hid (Goes.go M.out hb)
                  clear hb
                  obtain ⟨p17_0, q17_0, p17_1, q17_1⟩ := (M.out.2.2.2.1).c2
                  obtain ⟨p0_0, q0_0, p0_1, q0_1⟩ := (M.out.2.2.2.2.2.1).c2
                  go_wp2_with fail
                  clear p17_0 q17_0 p17_1 q17_1 p0_0 q0_0 p0_1 q0_1
                  refine (rsame_is (G := G) (x := z501) (y := x) (b := true) (M.out.2.2.1) (H1.out.keep (M.out.2.2.2.2.2.2)) (Sz.mono Sz501.out (by omega)) (Sz.mono HX.out (by omega)) (eqZ_of (by rw [Ez501.out] <;> grind))).mono ?_
                  rintro e w61 ⟨rfl, hb⟩
                  replace M := Lib.hid (Goes.go M.out hb)
                  clear hb
                  obtain ⟨p18_0, q18_0, p18_1, q18_1⟩ := (M.out.1).c2
                  go_wp2_with fail
                  clear p18_0 q18_0 p18_1 q18_1
                  replace M := Lib.hid (And.intro (M.out.2.1) (M.out.2.2.2.2.2.2))
                  refine (rsame_is (G := G) (x := z519) (y := 0) (b := true) (M.out.1) (bd_zero _ _ _) (Sz.mono Sz519.out (by omega)) (Sz.mono (show Sz (0) 0 from by unfold Sz; decide) (by omega)) (eqZ_of (by rw [Ez519.out] <;> grind))).mono ?_
                  rintro e w62 ⟨rfl, hb⟩
                  replace M := Lib.hid (Goes.go M.out hb)
                  clear hb
                  go_wp2_with fail
                  go_ret
                  exact ⟨rfl, (M.out.2)⟩
                refine AllReadyH.cons at6 (fun K hK => ?_) AllReadyH.nil
                go_simp
                obtain ⟨w57, hv⟩ : ∃ w_ : World, w_ = (w56.alloc (.cells #[.int .i64 0, .slice none 0 0] 24)) := ⟨_, rfl⟩
                rw [← hv]
                have o18 : w50.heap.size < w56.heap.size := ((M.out.2.2.2.1)).lt
                replace M := Lib.hid (And.intro (hv ▸ bx1 w56 24 #[.int .i64 0, .slice none 0 0]) (Goes.go M.out (hv ▸ below_alloc _ _ : Below w56.heap.size w56 w57)))
                clear hv
                refine hK.out _ _ (⟨(M.out.2.2.2.2.2.2.2.2.2.1).at.1 0, (M.out.2.2.2.2.2.2.2.2.2.1).at.1 1⟩) (fun hH524 => ?_)
                clear hK K hH516
                (try simp only [Act.put, List.setIfInBounds_toArray, List.set_cons_zero, List.set_cons_succ])
                refine wpAnyH_ready (rs := [2]) (by kernel_rfl) (by simp) ?_
                refine AllReadyH.cons at2 (fun K hK => ?_) AllReadyH.nil
                go_simp
                obtain ⟨z527, ez527⟩ : ∃ v_ : Int, v_ = (x * 0) := ⟨_, rfl⟩
                refine (bigMul_ok (G := G) (x := x) (y := 0) (H1.out.keep (M.out.2.2.2.2.2.2.2.2.2.2)) (M.out.2.1) (Sz.mono HX.out (by omega)) (Sz.mono (show Sz (0) 0 from by unfold Sz; decide) (by omega))).mono ?_
                rintro e w58 ⟨a_525, c_526, rfl, hd528, hb⟩
                rw [← ez527] at hd528 ⊢
                have Sz527 : Hid (Sz z527 25) := by show Sz z527 25; rw [ez527]; exact (Sz.mul HX.out (show Sz (0) 0 from by unfold Sz; decide))
                have Ez527 := Lib.hid ez527; clear ez527
                replace M := Lib.hid (And.intro hd528 (Goes.go M.out hb))
                clear hb hd528
                (try go_wp2_with fail)
                refine hK.out _ _ (⟨(M.out.2.2.2.2.2.2.2.2.2.2.1).at.1 0, (M.out.2.2.2.2.2.2.2.2.2.2.1).at.1 1⟩) (fun hH529 => ?_)
                clear hK K hH524
                (try simp only [Act.put, List.setIfInBounds_toArray, List.set_cons_zero, List.set_cons_succ])
                refine tk at3 ?_
                refine tk at4 ?_
                refine tk at5 ?_
                refine wpAnyH_ready (rs := [7]) (by kernel_rfl) (by simp) ?_
                refine AllReadyH.cons at7 (fun K hK => ?_) AllReadyH.nil
                obtain ⟨p18_0, q18_0, p18_1, q18_1⟩ := (M.out.2.1).c2
                go_simp
                clear p18_0 q18_0 p18_1 q18_1
                obtain ⟨w59, hv⟩ : ∃ w_ : World, w_ = ((w58.setCell ⟨w56.heap.size, 0, none⟩ (.int .i64 (sg z527))).setCell ⟨w56.heap.size, 1, none⟩ (.slice a_525 (ln z527) c_526)) := ⟨_, rfl⟩
                rw [← hv]
                have og : w58.grownBy w59 (some w56.heap.size) := by rw [hv]; exact (only_setCell (only_setCell (World.grownBy.refl _ _) _) _)
                have hz : w.heap.size ≤ w56.heap.size := by omega
                have hk : Bx w59 w56.heap.size 24 #[.int .i64 (sg z527), .slice a_525 (ln z527) c_526] := by rw [hv]; exact (((M.out.2.1).set 0 _).set 1 _)
                have hbw : Below w.heap.size w w59 := by rw [hv]; exact (Below.setCell (Below.setCell (M.out.2.2.2.2.2.2.2.2.2.2.2) (by omega) _) (by omega) _)
                replace M := Lib.hid (And.intro ((M.out.1).far (M.out.2.1) (by rfl) (by omega) og) (And.intro hk (And.intro ((M.out.2.2.1).far (M.out.2.1) (by rfl) (by omega) og) (And.intro ((M.out.2.2.2.1).far (M.out.2.1) (by rfl) (by omega) og) (And.intro ((M.out.2.2.2.2.1).far (M.out.2.1) (by rfl) (by omega) og) (And.intro ((M.out.2.2.2.2.2.1).only og (by omega)) (And.intro ((M.out.2.2.2.2.2.2.1).far (M.out.2.1) (by rfl) (by omega) og) (And.intro ((M.out.2.2.2.2.2.2.2.1).far (M.out.2.1) (by rfl) (by omega) og) (And.intro ((M.out.2.2.2.2.2.2.2.2.1).only og (by omega)) (And.intro ((M.out.2.2.2.2.2.2.2.2.2.1).far (M.out.2.1) (by rfl) (by omega) og) (And.intro ((M.out.2.2.2.2.2.2.2.2.2.2.1).only og (by omega)) hbw)))))))))))
                clear hk hbw og hv hz
                refine hK.out _ _ (⟨(M.out.2.2.2.2.2.2.2.2.2.2.1).at.1 0, (M.out.2.2.2.2.2.2.2.2.2.2.1).at.1 1⟩) (fun hH530 => ?_)
                clear hK K hH529
                (try simp only [Act.put, List.setIfInBounds_toArray, List.set_cons_zero, List.set_cons_succ])
                refine tk at8 ?_
                refine wpAnyH_done (by kernel_rfl) ?_ _
                clear hH530
                obtain ⟨p16_0, q16_0, p16_1, q16_1⟩ := (M.out.2.2.2.2.2.2.2.2.1).c2
                obtain ⟨p0_0, q0_0, p0_1, q0_1⟩ := (M.out.2.2.2.2.2.2.2.2.2.2.1).c2
                go_wp2_with fail
                clear p16_0 q16_0 p16_1 q16_1 p0_0 q0_0 p0_1 q0_1
                replace M := Lib.hid (And.intro (M.out.1) (And.intro (M.out.2.1) (And.intro (M.out.2.2.2.1) (And.intro (M.out.2.2.2.2.2.1) (And.intro (M.out.2.2.2.2.2.2.1) (And.intro (M.out.2.2.2.2.2.2.2.2.2.2.1) (M.out.2.2.2.2.2.2.2.2.2.2.2)))))))
                refine (rsame_is (G := G) (x := z390) (y := x) (b := true) (M.out.2.2.2.2.1) (H1.out.keep (M.out.2.2.2.2.2.2)) (Sz.mono Sz390.out (by omega)) (Sz.mono HX.out (by omega)) (eqZ_of (by rw [Ez390.out] <;> grind))).mono ?_
                rintro e w60 ⟨rfl, hb⟩
                replace M := Lib.hid (Goes.go M.out hb)
                clear hb
                obtain ⟨p17_0, q17_0, p17_1, q17_1⟩ := (M.out.2.2.2.1).c2
                obtain ⟨p0_0, q0_0, p0_1, q0_1⟩ := (M.out.2.2.2.2.2.1).c2
                go_wp2_with fail
                clear p17_0 q17_0 p17_1 q17_1 p0_0 q0_0 p0_1 q0_1
                refine (rsame_is (G := G) (x := z501) (y := x) (b := true) (M.out.2.2.1) (H1.out.keep (M.out.2.2.2.2.2.2)) (Sz.mono Sz501.out (by omega)) (Sz.mono HX.out (by omega)) (eqZ_of (by rw [Ez501.out] <;> grind))).mono ?_
                rintro e w61 ⟨rfl, hb⟩
                replace M := Lib.hid (Goes.go M.out hb)
                clear hb
                obtain ⟨p18_0, q18_0, p18_1, q18_1⟩ := (M.out.2.1).c2
                go_wp2_with fail
                clear p18_0 q18_0 p18_1 q18_1
                replace M := Lib.hid (And.intro (M.out.1) (M.out.2.2.2.2.2.2))
                refine (rsame_is (G := G) (x := z527) (y := 0) (b := true) (M.out.1) (bd_zero _ _ _) (Sz.mono Sz527.out (by omega)) (Sz.mono (show Sz (0) 0 from by unfold Sz; decide) (by omega)) (eqZ_of (by rw [Ez527.out] <;> grind))).mono ?_
                rintro e w62 ⟨rfl, hb⟩
                replace M := Lib.hid (Goes.go M.out hb)
                clear hb
                go_wp2_with fail
                go_ret
                exact ⟨rfl, (M.out.2)⟩
              refine AllReadyH.cons at6 (fun K hK => ?_) AllReadyH.nil
              go_simp
              obtain ⟨w56, hv⟩ : ∃ w_ : World, w_ = (w55.alloc (.cells #[.int .i64 0, .slice none 0 0] 24)) := ⟨_, rfl⟩
              rw [← hv]
              have o18 : w50.heap.size < w55.heap.size := ((M.out.2.2.1)).lt
              replace M := Lib.hid (And.intro (hv ▸ bx1 w55 24 #[.int .i64 0, .slice none 0 0]) (Goes.go M.out (hv ▸ below_alloc _ _ : Below w55.heap.size w55 w56)))
              clear hv
              refine hK.out _ _ (⟨(M.out.2.2.2.2.2.2.2.2.1).at.1 0, (M.out.2.2.2.2.2.2.2.2.1).at.1 1⟩) (fun hH531 => ?_)
              clear hK K hH512
              (try simp only [Act.put, List.setIfInBounds_toArray, List.set_cons_zero, List.set_cons_succ])
              refine wpAnyH_ready (rs := [1]) (by kernel_rfl) (by simp) ?_
              refine AllReadyH.cons at1 (fun K hK => ?_) AllReadyH.nil
              go_simp
              refine (bigOf_ok (G := G) 0 _ (by omega)).mono ?_
              rintro e w57 ⟨a_532, c_533, rfl, hd534, hb⟩
              replace M := Lib.hid (And.intro hd534 (Goes.go M.out hb))
              clear hb hd534
              (try go_wp2_with fail)
              refine hK.out _ _ (⟨(M.out.2.2.2.2.2.2.2.2.2.1).at.1 0, (M.out.2.2.2.2.2.2.2.2.2.1).at.1 1⟩) (fun hH535 => ?_)
              clear hK K hH531
              (try simp only [Act.put, List.setIfInBounds_toArray, List.set_cons_zero, List.set_cons_succ])
              refine wpAnyH_ready (rs := [2]) (by kernel_rfl) (by simp) ?_
              refine AllReadyH.cons at2 (fun K hK => ?_) AllReadyH.nil
              go_simp
              obtain ⟨z538, ez538⟩ : ∃ v_ : Int, v_ = (x * 0) := ⟨_, rfl⟩
              refine (bigMul_ok (G := G) (x := x) (y := 0) (H1.out.keep (M.out.2.2.2.2.2.2.2.2.2.2)) (M.out.1) (Sz.mono HX.out (by omega)) (Sz.mono (show Sz (0) 0 from by unfold Sz; decide) (by omega))).mono ?_
              rintro e w58 ⟨a_536, c_537, rfl, hd539, hb⟩
              rw [← ez538] at hd539 ⊢
              have Sz538 : Hid (Sz z538 25) := by show Sz z538 25; rw [ez538]; exact (Sz.mul HX.out (show Sz (0) 0 from by unfold Sz; decide))
              have Ez538 := Lib.hid ez538; clear ez538
              replace M := Lib.hid (And.intro hd539 (Goes.go M.out hb))
              clear hb hd539
              (try go_wp2_with fail)
              refine hK.out _ _ (⟨(M.out.2.2.2.2.2.2.2.2.2.2.1).at.1 0, (M.out.2.2.2.2.2.2.2.2.2.2.1).at.1 1⟩) (fun hH540 => ?_)
              clear hK K hH535
              (try simp only [Act.put, List.setIfInBounds_toArray, List.set_cons_zero, List.set_cons_succ])
              refine tk at3 ?_
              refine tk at4 ?_
              refine tk at5 ?_
              refine wpAnyH_ready (rs := [7]) (by kernel_rfl) (by simp) ?_
              refine AllReadyH.cons at7 (fun K hK => ?_) AllReadyH.nil
              obtain ⟨p18_0, q18_0, p18_1, q18_1⟩ := (M.out.2.2.1).c2
              go_simp
              clear p18_0 q18_0 p18_1 q18_1
              obtain ⟨w59, hv⟩ : ∃ w_ : World, w_ = ((w58.setCell ⟨w55.heap.size, 0, none⟩ (.int .i64 (sg z538))).setCell ⟨w55.heap.size, 1, none⟩ (.slice a_536 (ln z538) c_537)) := ⟨_, rfl⟩
              rw [← hv]
              have og : w58.grownBy w59 (some w55.heap.size) := by rw [hv]; exact (only_setCell (only_setCell (World.grownBy.refl _ _) _) _)
              have hz : w.heap.size ≤ w55.heap.size := by omega
              have hk : Bx w59 w55.heap.size 24 #[.int .i64 (sg z538), .slice a_536 (ln z538) c_537] := by rw [hv]; exact (((M.out.2.2.1).set 0 _).set 1 _)
              have hbw : Below w.heap.size w w59 := by rw [hv]; exact (Below.setCell (Below.setCell (M.out.2.2.2.2.2.2.2.2.2.2.2) (by omega) _) (by omega) _)
              replace M := Lib.hid (And.intro ((M.out.1).far (M.out.2.2.1) (by rfl) (by omega) og) (And.intro ((M.out.2.1).far (M.out.2.2.1) (by rfl) (by omega) og) (And.intro hk (And.intro ((M.out.2.2.2.1).far (M.out.2.2.1) (by rfl) (by omega) og) (And.intro ((M.out.2.2.2.2.1).far (M.out.2.2.1) (by rfl) (by omega) og) (And.intro ((M.out.2.2.2.2.2.1).only og (by omega)) (And.intro ((M.out.2.2.2.2.2.2.1).far (M.out.2.2.1) (by rfl) (by omega) og) (And.intro ((M.out.2.2.2.2.2.2.2.1).far (M.out.2.2.1) (by rfl) (by omega) og) (And.intro ((M.out.2.2.2.2.2.2.2.2.1).only og (by omega)) (And.intro ((M.out.2.2.2.2.2.2.2.2.2.1).far (M.out.2.2.1) (by rfl) (by omega) og) (And.intro ((M.out.2.2.2.2.2.2.2.2.2.2.1).only og (by omega)) hbw)))))))))))
              clear hk hbw og hv hz
              refine hK.out _ _ (⟨(M.out.2.2.2.2.2.2.2.2.2.2.1).at.1 0, (M.out.2.2.2.2.2.2.2.2.2.2.1).at.1 1⟩) (fun hH541 => ?_)
              clear hK K hH540
              (try simp only [Act.put, List.setIfInBounds_toArray, List.set_cons_zero, List.set_cons_succ])
              refine tk at8 ?_
              refine wpAnyH_done (by kernel_rfl) ?_ _
              clear hH541
              obtain ⟨p16_0, q16_0, p16_1, q16_1⟩ := (M.out.2.2.2.2.2.2.2.2.1).c2
              obtain ⟨p0_0, q0_0, p0_1, q0_1⟩ := (M.out.2.2.2.2.2.2.2.2.2.2.1).c2
              go_wp2_with fail
              clear p16_0 q16_0 p16_1 q16_1 p0_0 q0_0 p0_1 q0_1
              replace M := Lib.hid (And.intro (M.out.1) (And.intro (M.out.2.2.1) (And.intro (M.out.2.2.2.1) (And.intro (M.out.2.2.2.2.2.1) (And.intro (M.out.2.2.2.2.2.2.1) (And.intro (M.out.2.2.2.2.2.2.2.2.2.2.1) (M.out.2.2.2.2.2.2.2.2.2.2.2)))))))
              refine (rsame_is (G := G) (x := z390) (y := x) (b := true) (M.out.2.2.2.2.1) (H1.out.keep (M.out.2.2.2.2.2.2)) (Sz.mono Sz390.out (by omega)) (Sz.mono HX.out (by omega)) (eqZ_of (by rw [Ez390.out] <;> grind))).mono ?_
              rintro e w60 ⟨rfl, hb⟩
              replace M := Lib.hid (Goes.go M.out hb)
              clear hb
              obtain ⟨p17_0, q17_0, p17_1, q17_1⟩ := (M.out.2.2.2.1).c2
              obtain ⟨p0_0, q0_0, p0_1, q0_1⟩ := (M.out.2.2.2.2.2.1).c2
              go_wp2_with fail
              clear p17_0 q17_0 p17_1 q17_1 p0_0 q0_0 p0_1 q0_1
              refine (rsame_is (G := G) (x := z501) (y := x) (b := true) (M.out.2.2.1) (H1.out.keep (M.out.2.2.2.2.2.2)) (Sz.mono Sz501.out (by omega)) (Sz.mono HX.out (by omega)) (eqZ_of (by rw [Ez501.out] <;> grind))).mono ?_
              rintro e w61 ⟨rfl, hb⟩
              replace M := Lib.hid (Goes.go M.out hb)
              clear hb
              obtain ⟨p18_0, q18_0, p18_1, q18_1⟩ := (M.out.2.1).c2
              go_wp2_with fail
              clear p18_0 q18_0 p18_1 q18_1
              replace M := Lib.hid (And.intro (M.out.1) (M.out.2.2.2.2.2.2))
              refine (rsame_is (G := G) (x := z538) (y := 0) (b := true) (M.out.1) (bd_zero _ _ _) (Sz.mono Sz538.out (by omega)) (Sz.mono (show Sz (0) 0 from by unfold Sz; decide) (by omega)) (eqZ_of (by rw [Ez538.out] <;> grind))).mono ?_
              rintro e w62 ⟨rfl, hb⟩
              replace M := Lib.hid (Goes.go M.out hb)
              clear hb
              go_wp2_with fail
              go_ret
              exact ⟨rfl, (M.out.2)⟩

theorem ring_walk {sa sb sc : Int} {la lb lc : List Int} {a1 a2 a3 : Option Addr} {c1 c2 c3 : Nat} {w : World} (ht : Tab w) (h1 : RdZ w (.slice a1 la.length c1) la) (k1 : la.length ≤ c1) (h2 : RdZ w (.slice a2 lb.length c2) lb) (k2 : lb.length ≤ c2) (h3 : RdZ w (.slice a3 lc.length c3) lc) (k3 : lc.length ≤ c3) :
    Calls Tryd.prog 5 #[.agg #[.int .i64 sa, .slice a1 la.length c1], .agg #[.int .i64 sb, .slice a2 lb.length c2], .agg #[.int .i64 sc, .slice a3 lc.length c3]] w fun e w' => e = .returned (.bool true) ∧ Below w.heap.size w w' := by
  cases hn : (decide ((la.length : Int) ≤ 25) && (decide ((lb.length : Int) ≤ 25) && (decide ((lc.length : Int) ≤ 25) && (rightB sa la && (rightB sb lb && rightB sc lc))))) with
  | false => exact ring_not (G := w.heap.size) (Nat.le_refl _) ht h1 h2 h3 hn
  | true =>
    simp only [Bool.and_eq_true] at hn
    obtain ⟨fa, fb, fc, ra, rb, rc⟩ := hn
    obtain ⟨x, ea, la_, ba⟩ := bd_of_right h1 k1 ra
    rw [la_] at fa
    rw [la_, ea]
    obtain ⟨y, eb, lb_, bb⟩ := bd_of_right h2 k2 rb
    rw [lb_] at fb
    rw [lb_, eb]
    obtain ⟨z, ec, lc_, bc⟩ := bd_of_right h3 k3 rc
    rw [lc_] at fc
    rw [lc_, ec]
    exact ring_all (G := w.heap.size) (Nat.le_refl _) ht ba bb bc (few_sz_of fa rfl) (few_sz_of fb rfl) (few_sz_of fc rfl)

end Go.Proofs.YtlinegodpoihoaaDoor
