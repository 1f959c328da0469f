/- The walk of ScaleHolds: whatever the arguments, it returns true. -/
import Derived.Test.YtpjpkcelajbfnaaScaleP
namespace Go.Proofs.Ytpjpkcelajbfnaa
open Go.RowKit
variable {G : Nat}

set_option maxRecDepth 100000 in
set_option maxHeartbeats 4000000 in
theorem holds_few {cs : List Ct} {rs : List Rc} {sc rd day : Int} {a1 a2 : Option Addr} {cap1 cap2 : Nat} {w : World} (hG : G ≤ w.heap.size) (h1 : CtIn w (.slice a1 cs.length cap1) cs) (h2 : RcIn w (.slice a2 rs.length cap2) rs) (hf : fewB cs.length rs.length = false) :
    Calls Try.prog 4 #[.slice a1 cs.length cap1, .slice a2 rs.length cap2, .int .i64 sc, .int .i64 rd, .int .i64 day] w fun e w' => e = .returned (.bool true) ∧ Below w.heap.size w w' := by
  have HF := Lib.hid hf; clear hf
  have H1 : Hid (CtIn w (.slice a1 cs.length cap1) cs) := h1
  have H2 : Hid (RcIn w (.slice a2 rs.length cap2) rs) := h2
  clear h1 h2
  have M : Hid (Below w.heap.size w w) := Below.refl _ _
  go_enter Try.func4, Try.ntmps4
  go_wp2_with fail
  refine (sane_ok (G := G) _ (Nat.le_trans hG M.out.size)).mono ?_
  rintro e w1 ⟨rfl, hb⟩
  replace M := Lib.hid (Goes.go M.out hb)
  clear hb
  go_wp2_with fail
  refine (few_is (b := false) (H1.out.keep M.out) (H2.out.keep M.out) HF.out).mono ?_
  rintro e _ ⟨rfl, rfl⟩
  go_wp2_with fail
  go_ret
  exact ⟨rfl, M.out⟩

set_option maxRecDepth 100000 in
set_option maxHeartbeats 4000000 in
theorem holds_no1 {cs : List Ct} {rs : List Rc} {sc rd day : Int} {a1 a2 : Option Addr} {cap1 cap2 : Nat} {w : World} (hG : G ≤ w.heap.size) (h1 : CtIn w (.slice a1 cs.length cap1) cs) (h2 : RcIn w (.slice a2 rs.length cap2) rs) (hf : fewB cs.length rs.length = true) (hd : findC cs sc day = none) :
    Calls Try.prog 4 #[.slice a1 cs.length cap1, .slice a2 rs.length cap2, .int .i64 sc, .int .i64 rd, .int .i64 day] w fun e w' => e = .returned (.bool true) ∧ Below w.heap.size w w' := by
  have hl := few_len hf
  have HF := Lib.hid hf; clear hf
  have HIV := Lib.hid (ivl_no_found (rs := rs) (rd := rd) hd)
  have HFD := Lib.hid hd; clear hd
  have H1 : Hid (CtIn w (.slice a1 cs.length cap1) cs) := h1
  have H2 : Hid (RcIn w (.slice a2 rs.length cap2) rs) := h2
  clear h1 h2
  have M : Hid (Below w.heap.size w w) := Below.refl _ _
  go_enter Try.func4, Try.ntmps4
  go_wp2_with fail
  refine (sane_ok (G := G) _ (Nat.le_trans hG M.out.size)).mono ?_
  rintro e w1 ⟨rfl, hb⟩
  replace M := Lib.hid (Goes.go M.out hb)
  clear hb
  go_wp2_with fail
  refine (few_is (b := true) (H1.out.keep M.out) (H2.out.keep M.out) HF.out).mono ?_
  rintro e _ ⟨rfl, rfl⟩
  go_wp2_with fail
  refine (scFind_none (sc := sc) (day := day) (H1.out.keep M.out) (by omega) HFD.out).mono ?_
  rintro e w2 ⟨rfl, hb⟩
  replace M := Lib.hid (Goes.go M.out hb)
  clear hb
  go_wp2_with fail
  refine (scInterval_not (sc := sc) (rd := rd) (day := day) HIV.out (H1.out.keep M.out) (H2.out.keep M.out) (by omega) (by omega)).mono ?_
  rintro e w3 ⟨rfl, hb⟩
  replace M := Lib.hid (Goes.go M.out hb)
  clear hb
  go_upto_region 6 with fail
  obtain ⟨w4, hv⟩ : ∃ x, x = ((w3.alloc (.cells #[.int .i64 0, .slice none 0 0, .int .i64 0, .slice none 0 0] 34)).alloc (.cells #[.int .i64 0, .slice none 0 0, .int .i64 0, .slice none 0 0] 34)) := ⟨_, rfl⟩
  rw [← hv]
  have o0 : w.heap.size ≤ w3.heap.size := (M.out).size
  have hbx := bx2 w3 34 34 #[.int .i64 0, .slice none 0 0, .int .i64 0, .slice none 0 0] #[.int .i64 0, .slice none 0 0, .int .i64 0, .slice none 0 0]
  rw [← hv] at hbx
  have hbn : Below w3.heap.size w3 w4 := by rw [hv]; exact (Below.alloc (Below.alloc (Below.refl _ _) (by simp) _) (by simp) _)
  replace M := Lib.hid (And.intro hbx.2 (And.intro hbx.1 (Goes.go M.out hbn)))
  clear hbx hbn
  clear hv
  obtain ⟨p0_0, q0_0, p0_1, q0_1, p0_2, q0_2, p0_3, q0_3⟩ := (M.out.2.1).c4
  go_wp2_with fail
  clear p0_0 q0_0 p0_1 q0_1 p0_2 q0_2 p0_3 q0_3
  refine (rfsame_two (G := G) (x := 0) (y := 0) (u := 0) (v := 0) (bd_zero _ _ _) (bd_zero _ _ _) (bd_zero _ _ _) (bd_zero _ _ _) (Sz.mono (show Sz (0) 0 from by unfold Sz; decide) (by omega)) (Sz.mono (show Sz (0) 0 from by unfold Sz; decide) (by omega)) rfl rfl).mono ?_
  rintro e w5 ⟨rfl, hb⟩
  replace M := Lib.hid (Goes.go M.out hb)
  clear hb
  obtain ⟨p1_0, q1_0, p1_1, q1_1, p1_2, q1_2, p1_3, q1_3⟩ := (M.out.1).c4
  go_wp2_with fail
  clear p1_0 q1_0 p1_1 q1_1 p1_2 q1_2 p1_3 q1_3
  refine (rfsame_two (G := G) (x := 0) (y := 0) (u := 0) (v := 0) (bd_zero _ _ _) (bd_zero _ _ _) (bd_zero _ _ _) (bd_zero _ _ _) (Sz.mono (show Sz (0) 0 from by unfold Sz; decide) (by omega)) (Sz.mono (show Sz (0) 0 from by unfold Sz; decide) (by omega)) rfl rfl).mono ?_
  rintro e w6 ⟨rfl, hb⟩
  replace M := Lib.hid (Goes.go M.out hb)
  clear hb
  go_wp2_with fail
  go_ret
  exact ⟨rfl, (M.out.2.2)⟩

set_option maxRecDepth 100000 in
set_option maxHeartbeats 4000000 in
theorem holds_no2 {cs : List Ct} {rs : List Rc} {sc rd day : Int} {a1 a2 : Option Addr} {cap1 cap2 : Nat} {w : World} (hG : G ≤ w.heap.size) (h1 : CtIn w (.slice a1 cs.length cap1) cs) (h2 : RcIn w (.slice a2 rs.length cap2) rs) (hf : fewB cs.length rs.length = true) {g : Nat} (hd : findC cs sc day = some g) (hr : rd < 0) :
    Calls Try.prog 4 #[.slice a1 cs.length cap1, .slice a2 rs.length cap2, .int .i64 sc, .int .i64 rd, .int .i64 day] w fun e w' => e = .returned (.bool true) ∧ Below w.heap.size w w' := by
  have hl := few_len hf
  have HF := Lib.hid hf; clear hf
  obtain ⟨hgl, -, -⟩ := findC_is hd
  have hI2 : (g : Int) < (cs.length : Int) := by omega
  have e1 : decide (0 ≤ rd) = false := decide_eq_false (by omega)
  have HIV := Lib.hid (ivl_no_range (rs := rs) hd (in_no (m := 1099511627776) (.inl hr)))
  have HFD := Lib.hid hd; clear hd
  have H1 : Hid (CtIn w (.slice a1 cs.length cap1) cs) := h1
  have H2 : Hid (RcIn w (.slice a2 rs.length cap2) rs) := h2
  clear h1 h2
  have M : Hid (Below w.heap.size w w) := Below.refl _ _
  go_enter Try.func4, Try.ntmps4
  go_wp2_with fail
  refine (sane_ok (G := G) _ (Nat.le_trans hG M.out.size)).mono ?_
  rintro e w1 ⟨rfl, hb⟩
  replace M := Lib.hid (Goes.go M.out hb)
  clear hb
  go_wp2_with fail
  refine (few_is (b := true) (H1.out.keep M.out) (H2.out.keep M.out) HF.out).mono ?_
  rintro e _ ⟨rfl, rfl⟩
  go_wp2_with fail
  refine (scFind_some (sc := sc) (day := day) (H1.out.keep M.out) (by omega) HFD.out).mono ?_
  rintro e w2 ⟨rfl, hb⟩
  replace M := Lib.hid (Goes.go M.out hb)
  clear hb
  go_wp2_with fail
  refine (scInterval_not (sc := sc) (rd := rd) (day := day) HIV.out (H1.out.keep M.out) (H2.out.keep M.out) (by omega) (by omega)).mono ?_
  rintro e w3 ⟨rfl, hb⟩
  replace M := Lib.hid (Goes.go M.out hb)
  clear hb
  go_upto_region 6 with fail
  obtain ⟨w4, hv⟩ : ∃ x, x = ((w3.alloc (.cells #[.int .i64 0, .slice none 0 0, .int .i64 0, .slice none 0 0] 34)).alloc (.cells #[.int .i64 0, .slice none 0 0, .int .i64 0, .slice none 0 0] 34)) := ⟨_, rfl⟩
  rw [← hv]
  have o0 : w.heap.size ≤ w3.heap.size := (M.out).size
  have hbx := bx2 w3 34 34 #[.int .i64 0, .slice none 0 0, .int .i64 0, .slice none 0 0] #[.int .i64 0, .slice none 0 0, .int .i64 0, .slice none 0 0]
  rw [← hv] at hbx
  have hbn : Below w3.heap.size w3 w4 := by rw [hv]; exact (Below.alloc (Below.alloc (Below.refl _ _) (by simp) _) (by simp) _)
  replace M := Lib.hid (And.intro hbx.2 (And.intro hbx.1 (Goes.go M.out hbn)))
  clear hbx hbn
  clear hv
  obtain ⟨p0_0, q0_0, p0_1, q0_1, p0_2, q0_2, p0_3, q0_3⟩ := (M.out.2.1).c4
  go_wp2_with fail
  clear p0_0 q0_0 p0_1 q0_1 p0_2 q0_2 p0_3 q0_3
  refine (rfsame_two (G := G) (x := 0) (y := 0) (u := 0) (v := 0) (bd_zero _ _ _) (bd_zero _ _ _) (bd_zero _ _ _) (bd_zero _ _ _) (Sz.mono (show Sz (0) 0 from by unfold Sz; decide) (by omega)) (Sz.mono (show Sz (0) 0 from by unfold Sz; decide) (by omega)) rfl rfl).mono ?_
  rintro e w5 ⟨rfl, hb⟩
  replace M := Lib.hid (Goes.go M.out hb)
  clear hb
  obtain ⟨p1_0, q1_0, p1_1, q1_1, p1_2, q1_2, p1_3, q1_3⟩ := (M.out.1).c4
  go_wp2_with fail
  clear p1_0 q1_0 p1_1 q1_1 p1_2 q1_2 p1_3 q1_3
  refine (rfsame_two (G := G) (x := 0) (y := 0) (u := 0) (v := 0) (bd_zero _ _ _) (bd_zero _ _ _) (bd_zero _ _ _) (bd_zero _ _ _) (Sz.mono (show Sz (0) 0 from by unfold Sz; decide) (by omega)) (Sz.mono (show Sz (0) 0 from by unfold Sz; decide) (by omega)) rfl rfl).mono ?_
  rintro e w6 ⟨rfl, hb⟩
  replace M := Lib.hid (Goes.go M.out hb)
  clear hb
  go_wp2_with fail
  go_ret
  exact ⟨rfl, (M.out.2.2)⟩

set_option maxRecDepth 100000 in
set_option maxHeartbeats 4000000 in
theorem holds_no3 {cs : List Ct} {rs : List Rc} {sc rd day : Int} {a1 a2 : Option Addr} {cap1 cap2 : Nat} {w : World} (hG : G ≤ w.heap.size) (h1 : CtIn w (.slice a1 cs.length cap1) cs) (h2 : RcIn w (.slice a2 rs.length cap2) rs) (hf : fewB cs.length rs.length = true) {g : Nat} (hd : findC cs sc day = some g) (hr0 : 0 ≤ rd) (hr : 1099511627776 < rd) :
    Calls Try.prog 4 #[.slice a1 cs.length cap1, .slice a2 rs.length cap2, .int .i64 sc, .int .i64 rd, .int .i64 day] w fun e w' => e = .returned (.bool true) ∧ Below w.heap.size w w' := by
  have hl := few_len hf
  have HF := Lib.hid hf; clear hf
  obtain ⟨hgl, -, -⟩ := findC_is hd
  have hI2 : (g : Int) < (cs.length : Int) := by omega
  have e1 : decide (0 ≤ rd) = true := decide_eq_true hr0
  have e2 : decide (rd ≤ 1099511627776) = false := decide_eq_false (by omega)
  have HIV := Lib.hid (ivl_no_range (rs := rs) hd (in_no (m := 1099511627776) (.inr hr)))
  have HFD := Lib.hid hd; clear hd
  have H1 : Hid (CtIn w (.slice a1 cs.length cap1) cs) := h1
  have H2 : Hid (RcIn w (.slice a2 rs.length cap2) rs) := h2
  clear h1 h2
  have M : Hid (Below w.heap.size w w) := Below.refl _ _
  go_enter Try.func4, Try.ntmps4
  go_wp2_with fail
  refine (sane_ok (G := G) _ (Nat.le_trans hG M.out.size)).mono ?_
  rintro e w1 ⟨rfl, hb⟩
  replace M := Lib.hid (Goes.go M.out hb)
  clear hb
  go_wp2_with fail
  refine (few_is (b := true) (H1.out.keep M.out) (H2.out.keep M.out) HF.out).mono ?_
  rintro e _ ⟨rfl, rfl⟩
  go_wp2_with fail
  refine (scFind_some (sc := sc) (day := day) (H1.out.keep M.out) (by omega) HFD.out).mono ?_
  rintro e w2 ⟨rfl, hb⟩
  replace M := Lib.hid (Goes.go M.out hb)
  clear hb
  go_wp2_with fail
  refine (scInterval_not (sc := sc) (rd := rd) (day := day) HIV.out (H1.out.keep M.out) (H2.out.keep M.out) (by omega) (by omega)).mono ?_
  rintro e w3 ⟨rfl, hb⟩
  replace M := Lib.hid (Goes.go M.out hb)
  clear hb
  go_upto_region 6 with fail
  obtain ⟨w4, hv⟩ : ∃ x, x = ((w3.alloc (.cells #[.int .i64 0, .slice none 0 0, .int .i64 0, .slice none 0 0] 34)).alloc (.cells #[.int .i64 0, .slice none 0 0, .int .i64 0, .slice none 0 0] 34)) := ⟨_, rfl⟩
  rw [← hv]
  have o0 : w.heap.size ≤ w3.heap.size := (M.out).size
  have hbx := bx2 w3 34 34 #[.int .i64 0, .slice none 0 0, .int .i64 0, .slice none 0 0] #[.int .i64 0, .slice none 0 0, .int .i64 0, .slice none 0 0]
  rw [← hv] at hbx
  have hbn : Below w3.heap.size w3 w4 := by rw [hv]; exact (Below.alloc (Below.alloc (Below.refl _ _) (by simp) _) (by simp) _)
  replace M := Lib.hid (And.intro hbx.2 (And.intro hbx.1 (Goes.go M.out hbn)))
  clear hbx hbn
  clear hv
  obtain ⟨p0_0, q0_0, p0_1, q0_1, p0_2, q0_2, p0_3, q0_3⟩ := (M.out.2.1).c4
  go_wp2_with fail
  clear p0_0 q0_0 p0_1 q0_1 p0_2 q0_2 p0_3 q0_3
  refine (rfsame_two (G := G) (x := 0) (y := 0) (u := 0) (v := 0) (bd_zero _ _ _) (bd_zero _ _ _) (bd_zero _ _ _) (bd_zero _ _ _) (Sz.mono (show Sz (0) 0 from by unfold Sz; decide) (by omega)) (Sz.mono (show Sz (0) 0 from by unfold Sz; decide) (by omega)) rfl rfl).mono ?_
  rintro e w5 ⟨rfl, hb⟩
  replace M := Lib.hid (Goes.go M.out hb)
  clear hb
  obtain ⟨p1_0, q1_0, p1_1, q1_1, p1_2, q1_2, p1_3, q1_3⟩ := (M.out.1).c4
  go_wp2_with fail
  clear p1_0 q1_0 p1_1 q1_1 p1_2 q1_2 p1_3 q1_3
  refine (rfsame_two (G := G) (x := 0) (y := 0) (u := 0) (v := 0) (bd_zero _ _ _) (bd_zero _ _ _) (bd_zero _ _ _) (bd_zero _ _ _) (Sz.mono (show Sz (0) 0 from by unfold Sz; decide) (by omega)) (Sz.mono (show Sz (0) 0 from by unfold Sz; decide) (by omega)) rfl rfl).mono ?_
  rintro e w6 ⟨rfl, hb⟩
  replace M := Lib.hid (Goes.go M.out hb)
  clear hb
  go_wp2_with fail
  go_ret
  exact ⟨rfl, (M.out.2.2)⟩

set_option maxRecDepth 100000 in
set_option maxHeartbeats 4000000 in
theorem holds_no4 {cs : List Ct} {rs : List Rc} {sc rd day : Int} {a1 a2 : Option Addr} {cap1 cap2 : Nat} {w : World} (hG : G ≤ w.heap.size) (h1 : CtIn w (.slice a1 cs.length cap1) cs) (h2 : RcIn w (.slice a2 rs.length cap2) rs) (hf : fewB cs.length rs.length = true) {g : Nat} (hd : findC cs sc day = some g) (hr0 : 0 ≤ rd) (hr : rd ≤ 1099511627776) (hc : recalledB rs sc day = true) :
    Calls Try.prog 4 #[.slice a1 cs.length cap1, .slice a2 rs.length cap2, .int .i64 sc, .int .i64 rd, .int .i64 day] w fun e w' => e = .returned (.bool true) ∧ Below w.heap.size w w' := by
  have hl := few_len hf
  have HF := Lib.hid hf; clear hf
  obtain ⟨hgl, -, -⟩ := findC_is hd
  have hI2 : (g : Int) < (cs.length : Int) := by omega
  have e1 : decide (0 ≤ rd) = true := decide_eq_true hr0
  have e2 : decide (rd ≤ 1099511627776) = true := decide_eq_true hr
  have HIV := Lib.hid (ivl_no_rec (rd := rd) hd hc)
  have HRC := Lib.hid hc; clear hc
  have HFD := Lib.hid hd; clear hd
  have H1 : Hid (CtIn w (.slice a1 cs.length cap1) cs) := h1
  have H2 : Hid (RcIn w (.slice a2 rs.length cap2) rs) := h2
  clear h1 h2
  have M : Hid (Below w.heap.size w w) := Below.refl _ _
  go_enter Try.func4, Try.ntmps4
  go_wp2_with fail
  refine (sane_ok (G := G) _ (Nat.le_trans hG M.out.size)).mono ?_
  rintro e w1 ⟨rfl, hb⟩
  replace M := Lib.hid (Goes.go M.out hb)
  clear hb
  go_wp2_with fail
  refine (few_is (b := true) (H1.out.keep M.out) (H2.out.keep M.out) HF.out).mono ?_
  rintro e _ ⟨rfl, rfl⟩
  go_wp2_with fail
  refine (scFind_some (sc := sc) (day := day) (H1.out.keep M.out) (by omega) HFD.out).mono ?_
  rintro e w2 ⟨rfl, hb⟩
  replace M := Lib.hid (Goes.go M.out hb)
  clear hb
  go_wp2_with fail
  refine (scInterval_not (sc := sc) (rd := rd) (day := day) HIV.out (H1.out.keep M.out) (H2.out.keep M.out) (by omega) (by omega)).mono ?_
  rintro e w3 ⟨rfl, hb⟩
  replace M := Lib.hid (Goes.go M.out hb)
  clear hb
  go_upto_region 6 with fail
  obtain ⟨w4, hv⟩ : ∃ x, x = ((w3.alloc (.cells #[.int .i64 0, .slice none 0 0, .int .i64 0, .slice none 0 0] 34)).alloc (.cells #[.int .i64 0, .slice none 0 0, .int .i64 0, .slice none 0 0] 34)) := ⟨_, rfl⟩
  rw [← hv]
  have o0 : w.heap.size ≤ w3.heap.size := (M.out).size
  have hbx := bx2 w3 34 34 #[.int .i64 0, .slice none 0 0, .int .i64 0, .slice none 0 0] #[.int .i64 0, .slice none 0 0, .int .i64 0, .slice none 0 0]
  rw [← hv] at hbx
  have hbn : Below w3.heap.size w3 w4 := by rw [hv]; exact (Below.alloc (Below.alloc (Below.refl _ _) (by simp) _) (by simp) _)
  replace M := Lib.hid (And.intro hbx.2 (And.intro hbx.1 (Goes.go M.out hbn)))
  clear hbx hbn
  clear hv
  go_wp2_with fail
  refine (scRec_at (sc := sc) (day := day) (b := true) (H2.out.keep (M.out.2.2)) (by omega) HRC.out).mono ?_
  rintro e w5 ⟨rfl, hb⟩
  replace M := Lib.hid (Goes.go M.out hb)
  clear hb
  obtain ⟨p0_0, q0_0, p0_1, q0_1, p0_2, q0_2, p0_3, q0_3⟩ := (M.out.2.1).c4
  go_wp2_with fail
  clear p0_0 q0_0 p0_1 q0_1 p0_2 q0_2 p0_3 q0_3
  refine (rfsame_two (G := G) (x := 0) (y := 0) (u := 0) (v := 0) (bd_zero _ _ _) (bd_zero _ _ _) (bd_zero _ _ _) (bd_zero _ _ _) (Sz.mono (show Sz (0) 0 from by unfold Sz; decide) (by omega)) (Sz.mono (show Sz (0) 0 from by unfold Sz; decide) (by omega)) rfl rfl).mono ?_
  rintro e w6 ⟨rfl, hb⟩
  replace M := Lib.hid (Goes.go M.out hb)
  clear hb
  obtain ⟨p1_0, q1_0, p1_1, q1_1, p1_2, q1_2, p1_3, q1_3⟩ := (M.out.1).c4
  go_wp2_with fail
  clear p1_0 q1_0 p1_1 q1_1 p1_2 q1_2 p1_3 q1_3
  refine (rfsame_two (G := G) (x := 0) (y := 0) (u := 0) (v := 0) (bd_zero _ _ _) (bd_zero _ _ _) (bd_zero _ _ _) (bd_zero _ _ _) (Sz.mono (show Sz (0) 0 from by unfold Sz; decide) (by omega)) (Sz.mono (show Sz (0) 0 from by unfold Sz; decide) (by omega)) rfl rfl).mono ?_
  rintro e w7 ⟨rfl, hb⟩
  replace M := Lib.hid (Goes.go M.out hb)
  clear hb
  go_wp2_with fail
  go_ret
  exact ⟨rfl, (M.out.2.2)⟩

set_option maxRecDepth 100000 in
set_option maxHeartbeats 4000000 in
theorem holds_big {cs : List Ct} {rs : List Rc} {sc rd day : Int} {a1 a2 : Option Addr} {cap1 cap2 : Nat} {w : World} (hG : G ≤ w.heap.size) (h1 : CtIn w (.slice a1 cs.length cap1) cs) (h2 : RcIn w (.slice a2 rs.length cap2) rs) (hf : fewB cs.length rs.length = true) {ct : Ct} {g : Nat} {hgl : g < cs.length} (hct : ct = cs[g]) (hd : findC cs sc day = some g) (hrc : recalledB rs sc day = false) (hr0 : 0 ≤ rd) (hr : rd ≤ 1099511627776) (hle : errQ ct rd day ≤ (rd : Rat)) :
    Calls Try.prog 4 #[.slice a1 cs.length cap1, .slice a2 rs.length cap2, .int .i64 sc, .int .i64 rd, .int .i64 day] w fun e w' => e = .returned (.bool true) ∧ Below w.heap.size w w' := by
  have hl := few_len hf
  have HF := Lib.hid hf; clear hf
  obtain ⟨hgl', -, hc⟩ := findC_is hd
  have hin : inR rd 0 1099511627776 = true := by simp [inR, hr0, hr]
  have hiv := ivl_yes (rs := rs) hgl hd hrc hin
  obtain ⟨b, off, rfl, hb, hcell⟩ := h1.at hgl
  obtain ⟨s, f, u, n, p, d⟩ := ct
  rw [← hct] at hc hcell hiv
  have hI2 : (g : Int) < (cs.length : Int) := by omega
  have hen := errQ_nonneg hc hin
  have hfe := errQ_size hc hin
  obtain ⟨ql, hql⟩ : ∃ x, x = loQ (errQ ⟨s, f, u, n, p, d⟩ rd day) rd := ⟨_, rfl⟩
  obtain ⟨qh, hqh⟩ : ∃ x, x = hiQ (errQ ⟨s, f, u, n, p, d⟩ rd day) rd := ⟨_, rfl⟩
  rw [← hql, ← hqh] at hiv
  have HS := Lib.hid (ivl_size hiv)
  have HIV := Lib.hid hiv
  have HC := Lib.hid hc
  have HFD := Lib.hid hd
  have HRC := Lib.hid hrc
  have HIN := Lib.hid hin
  obtain ⟨qe, hqe⟩ : ∃ x, x = errQ ⟨s, f, u, n, p, d⟩ rd day := ⟨_, rfl⟩
  rw [← hqe] at hen hql hqh hle
  obtain ⟨qr, hqr⟩ : ∃ x : Rat, x = (rd : Rat) := ⟨_, rfl⟩
  obtain ⟨k1, hk1⟩ : ∃ k, ordQ ql qr = k := ⟨_, rfl⟩
  obtain ⟨k2, hk2⟩ : ∃ k, ordQ qr qh = k := ⟨_, rfl⟩
  obtain ⟨k3, hk3⟩ : ∃ k, sg (nu ql) = k := ⟨_, rfl⟩
  have hp1 : k1 ≤ 0 := by rw [← hk1, hql, hqr]; exact ordQ_le (lo_le hen hr0)
  have hp2 : k2 ≤ 0 := by rw [← hk2, hqh, hqr]; exact ordQ_le (by unfold hiQ; grind)
  have hp3 : 0 ≤ k3 := by rw [← hk3, hql]; exact sgq_nonneg lo_nonneg
  have e1 : decide (0 ≤ rd) = true := decide_eq_true hr0
  have e2 : decide (rd ≤ 1099511627776) = true := decide_eq_true hr
  have HUP : Hid (qh - qr = qe) := by show _ = _; rw [hqh, hqr]; exact hi_up _ _
  have HDN : Hid (qr - ql = qe) := by show _ = _; rw [hql, hqr, lo_big hle]; grind
  have HQL := Lib.hid hql; have HQH := Lib.hid hqh; have HQE := Lib.hid hqe; have HQR := Lib.hid hqr; have HK1 := Lib.hid hk1; have HK2 := Lib.hid hk2; have HK3 := Lib.hid hk3
  clear hen hfe hql hqh hiv hc hd hrc hin hqe hqr hk1 hk2 hk3 hct hle
  have H1 : Hid (CtIn w (.slice (some ⟨b, off, none⟩) cs.length cap1) cs) := h1
  have H2 : Hid (RcIn w (.slice a2 rs.length cap2) rs) := h2
  have HROW : Hid (Row w b (off + g * 6) [.int .i64 s, .int .i64 f, .int .i64 u, .int .i64 n, .int .i64 p, .int .i64 d]) := ⟨hb, hcell⟩
  clear h1 h2 hcell
  have M : Hid (Below w.heap.size w w) := Below.refl _ _
  go_enter Try.func4, Try.ntmps4
  go_wp2_with fail
  refine (sane_ok (G := G) _ (Nat.le_trans hG M.out.size)).mono ?_
  rintro e w1 ⟨rfl, hb⟩
  replace M := Lib.hid (Goes.go M.out hb)
  clear hb
  go_wp2_with fail
  refine (few_is (b := true) (H1.out.keep M.out) (H2.out.keep M.out) HF.out).mono ?_
  rintro e _ ⟨rfl, rfl⟩
  go_wp2_with fail
  refine (scFind_some (sc := sc) (day := day) (H1.out.keep M.out) (by omega) HFD.out).mono ?_
  rintro e w2 ⟨rfl, hb⟩
  replace M := Lib.hid (Goes.go M.out hb)
  clear hb
  go_wp2_with fail
  refine (scInterval_at (G := G) (sc := sc) (rd := rd) (day := day) (l := ql) (h := qh) HIV.out (H1.out.keep M.out) (H2.out.keep M.out) (by omega) (by omega) (Nat.le_trans hG M.out.size)).mono ?_
  rintro e w3 ⟨a_1, c_2, b_3, d_4, a_5, c_6, b_7, d_8, rfl, hd9, hd10, hb⟩
  replace M := Lib.hid (And.intro hd9 (And.intro hd10 (Goes.go M.out hb)))
  clear hb hd9 hd10
  go_upto_region 6 with fail
  obtain ⟨w4, hv⟩ : ∃ x, x = ((w3.alloc (.cells #[.int .i64 (sg (nu ql)), .slice a_1 (ln (nu ql)) c_2, .int .i64 (sg (de ql)), .slice b_3 (ln (de ql)) d_4] 34)).alloc (.cells #[.int .i64 (sg (nu qh)), .slice a_5 (ln (nu qh)) c_6, .int .i64 (sg (de qh)), .slice b_7 (ln (de qh)) d_8] 34)) := ⟨_, rfl⟩
  rw [← hv]
  have o0 : w.heap.size ≤ w3.heap.size := ((M.out.2.2)).size
  have hbx := bx2 w3 34 34 #[.int .i64 (sg (nu ql)), .slice a_1 (ln (nu ql)) c_2, .int .i64 (sg (de ql)), .slice b_3 (ln (de ql)) d_4] #[.int .i64 (sg (nu qh)), .slice a_5 (ln (nu qh)) c_6, .int .i64 (sg (de qh)), .slice b_7 (ln (de qh)) d_8]
  rw [← hv] at hbx
  have hbn : Below w3.heap.size w3 w4 := by rw [hv]; exact (Below.alloc (Below.alloc (Below.refl _ _) (by simp) _) (by simp) _)
  replace M := Lib.hid (And.intro hbx.2 (And.intro hbx.1 (Goes.go M.out hbn)))
  clear hbx hbn
  clear hv
  go_wp2_with fail
  refine (scRec_at (sc := sc) (day := day) (b := false) (H2.out.keep (M.out.2.2.2.2)) (by omega) HRC.out).mono ?_
  rintro e w5 ⟨rfl, hb⟩
  replace M := Lib.hid (Goes.go M.out hb)
  clear hb
  obtain ⟨r0_0, r0_1, r0_2, r0_3, r0_4, r0_5⟩ := (HROW.out.keep (M.out.2.2.2.2)).c6
  go_wp2_with fail
  clear r0_0 r0_1 r0_2 r0_3 r0_4 r0_5
  obtain ⟨q15, eq15⟩ : ∃ x : Rat, x = (errQ ⟨s, f, u, n, p, d⟩ rd day) := ⟨_, rfl⟩
  refine (scError_yes (G := G) (s := s) (f := f) (u := u) (n := n) (p := p) (d := d) (rd := rd) (day := day) (Nat.le_trans hG (M.out.2.2.2.2).size) HC.out HIN.out).mono ?_
  rintro e w6 ⟨a_11, c_12, b_13, d_14, rfl, hd16, hb⟩
  rw [← eq15] at hd16 ⊢
  have Sq15 : Hid (Fz q15 9) := by show Fz q15 9; rw [eq15]; exact (errQ_size HC.out HIN.out)
  have Eq15 := Lib.hid eq15; clear eq15
  replace M := Lib.hid (And.intro hd16 (Goes.go M.out hb))
  clear hb hd16
  go_upto_region 12 with fail
  obtain ⟨w7, hv⟩ : ∃ x, x = (w6.alloc (.cells #[.int .i64 (sg (nu q15)), .slice a_11 (ln (nu q15)) c_12, .int .i64 (sg (de q15)), .slice b_13 (ln (de q15)) d_14] 34)) := ⟨_, rfl⟩
  rw [← hv]
  have o2 : w3.heap.size + 1 < w6.heap.size := ((M.out.2.1)).lt
  replace M := Lib.hid (And.intro (hv ▸ bx1 w6 34 #[.int .i64 (sg (nu q15)), .slice a_11 (ln (nu q15)) c_12, .int .i64 (sg (de q15)), .slice b_13 (ln (de q15)) d_14]) (Goes.go M.out (hv ▸ below_alloc _ _ : Below w6.heap.size w6 w7)))
  clear hv
  go_wp2_with fail
  obtain ⟨q21, eq21⟩ : ∃ x : Rat, x = (rd : Rat) := ⟨_, rfl⟩
  refine (rfint_ok (G := G) rd _ (by omega)).mono ?_
  rintro e w8 ⟨a_17, c_18, b_19, d_20, rfl, hd22, hb⟩
  rw [← eq21] at hd22 ⊢
  have Sq21 : Hid (Fz q21 4) := by show Fz q21 4; rw [eq21]; exact (Fz.int64 (by omega))
  have Eq21 := Lib.hid eq21; clear eq21
  replace M := Lib.hid (And.intro hd22 (Goes.go M.out hb))
  clear hb hd22
  go_upto_region 13 with fail
  obtain ⟨w9, hv⟩ : ∃ x, x = (w8.alloc (.cells #[.int .i64 (sg (nu q21)), .slice a_17 (ln (nu q21)) c_18, .int .i64 (sg (de q21)), .slice b_19 (ln (de q21)) d_20] 34)) := ⟨_, rfl⟩
  rw [← hv]
  have o3 : w6.heap.size < w8.heap.size := ((M.out.2.1)).lt
  replace M := Lib.hid (And.intro (hv ▸ bx1 w8 34 #[.int .i64 (sg (nu q21)), .slice a_17 (ln (nu q21)) c_18, .int .i64 (sg (de q21)), .slice b_19 (ln (de q21)) d_20]) (Goes.go M.out (hv ▸ below_alloc _ _ : Below w8.heap.size w8 w9)))
  clear hv
  obtain ⟨p1_0, q1_0, p1_1, q1_1, p1_2, q1_2, p1_3, q1_3⟩ := (M.out.2.2.2.2.1).c4
  obtain ⟨p3_0, q3_0, p3_1, q3_1, p3_2, q3_2, p3_3, q3_3⟩ := (M.out.1).c4
  go_wp2_with fail
  clear p1_0 q1_0 p1_1 q1_1 p1_2 q1_2 p1_3 q1_3 p3_0 q3_0 p3_1 q3_1 p3_2 q3_2 p3_3 q3_3
  obtain ⟨q27, eq27⟩ : ∃ x : Rat, x = (qh - q21) := ⟨_, rfl⟩
  refine (fracSub_ok (G := G) (q := qh) (r := q21) (M.out.2.2.2.2.2.2.2.1) (M.out.2.1) (Fz.mono HS.out.2 (by omega)) (Fz.mono Sq21.out (by omega))).mono ?_
  rintro e w10 ⟨a_23, c_24, b_25, d_26, rfl, hd28, hb⟩
  rw [← eq27] at hd28 ⊢
  have Sq27 : Hid (Fz q27 19) := by show Fz q27 19; rw [eq27]; exact (Fz.sub HS.out.2 Sq21.out)
  have Eq27 := Lib.hid eq27; clear eq27
  replace M := Lib.hid (And.intro hd28 (Goes.go M.out hb))
  clear hb hd28
  go_upto_region 14 with fail
  obtain ⟨w11, hv⟩ : ∃ x, x = (w10.alloc (.cells #[.int .i64 (sg (nu q27)), .slice a_23 (ln (nu q27)) c_24, .int .i64 (sg (de q27)), .slice b_25 (ln (de q27)) d_26] 34)) := ⟨_, rfl⟩
  rw [← hv]
  have o4 : w8.heap.size < w10.heap.size := ((M.out.2.1)).lt
  replace M := Lib.hid (And.intro (hv ▸ bx1 w10 34 #[.int .i64 (sg (nu q27)), .slice a_23 (ln (nu q27)) c_24, .int .i64 (sg (de q27)), .slice b_25 (ln (de q27)) d_26]) (Goes.go M.out (hv ▸ below_alloc _ _ : Below w10.heap.size w10 w11)))
  clear hv
  obtain ⟨p3_0, q3_0, p3_1, q3_1, p3_2, q3_2, p3_3, q3_3⟩ := (M.out.2.2.1).c4
  obtain ⟨p0_0, q0_0, p0_1, q0_1, p0_2, q0_2, p0_3, q0_3⟩ := (M.out.2.2.2.2.2.2.2.1).c4
  go_wp2_with fail
  clear p3_0 q3_0 p3_1 q3_1 p3_2 q3_2 p3_3 q3_3 p0_0 q0_0 p0_1 q0_1 p0_2 q0_2 p0_3 q0_3
  obtain ⟨q33, eq33⟩ : ∃ x : Rat, x = (q21 - ql) := ⟨_, rfl⟩
  refine (fracSub_ok (G := G) (q := q21) (r := ql) (M.out.2.2.2.1) (M.out.2.2.2.2.2.2.2.2.1) (Fz.mono Sq21.out (by omega)) (Fz.mono HS.out.1 (by omega))).mono ?_
  rintro e w12 ⟨a_29, c_30, b_31, d_32, rfl, hd34, hb⟩
  rw [← eq33] at hd34 ⊢
  have Sq33 : Hid (Fz q33 19) := by show Fz q33 19; rw [eq33]; exact (Fz.sub Sq21.out HS.out.1)
  have Eq33 := Lib.hid eq33; clear eq33
  replace M := Lib.hid (And.intro hd34 (Goes.go M.out hb))
  clear hb hd34
  go_upto_region 15 with fail
  obtain ⟨w13, hv⟩ : ∃ x, x = (w12.alloc (.cells #[.int .i64 (sg (nu q33)), .slice a_29 (ln (nu q33)) c_30, .int .i64 (sg (de q33)), .slice b_31 (ln (de q33)) d_32] 34)) := ⟨_, rfl⟩
  rw [← hv]
  have o5 : w10.heap.size < w12.heap.size := ((M.out.2.1)).lt
  replace M := Lib.hid (And.intro (hv ▸ bx1 w12 34 #[.int .i64 (sg (nu q33)), .slice a_29 (ln (nu q33)) c_30, .int .i64 (sg (de q33)), .slice b_31 (ln (de q33)) d_32]) (Goes.go M.out (hv ▸ below_alloc _ _ : Below w12.heap.size w12 w13)))
  clear hv
  obtain ⟨p4_0, q4_0, p4_1, q4_1, p4_2, q4_2, p4_3, q4_3⟩ := (M.out.2.2.1).c4
  obtain ⟨p2_0, q2_0, p2_1, q2_1, p2_2, q2_2, p2_3, q2_3⟩ := (M.out.2.2.2.2.2.2.1).c4
  go_wp2_with fail
  clear p4_0 q4_0 p4_1 q4_1 p4_2 q4_2 p4_3 q4_3 p2_0 q2_0 p2_1 q2_1 p2_2 q2_2 p2_3 q2_3
  refine (rfsame_q (G := G) (q := q27) (r := q15) (M.out.2.2.2.1) (M.out.2.2.2.2.2.2.2.1) (Fz.mono Sq27.out (by omega)) (by rw [Eq27.out, show q21 = qr from (Eq21.out.trans HQR.out.symm)]; exact HUP.out.trans (Eq15.out.trans HQE.out.symm).symm)).mono ?_
  rintro e w14 ⟨rfl, hb⟩
  replace M := Lib.hid (Goes.go M.out hb)
  clear hb
  obtain ⟨p0_0, q0_0, p0_1, q0_1, p0_2, q0_2, p0_3, q0_3⟩ := (M.out.2.2.2.2.2.2.2.2.2.1).c4
  obtain ⟨p3_0, q3_0, p3_1, q3_1, p3_2, q3_2, p3_3, q3_3⟩ := (M.out.2.2.2.2.1).c4
  go_wp2_with fail
  clear p0_0 q0_0 p0_1 q0_1 p0_2 q0_2 p0_3 q0_3 p3_0 q3_0 p3_1 q3_1 p3_2 q3_2 p3_3 q3_3
  refine (rfcompare_is (G := G) (q := ql) (r := q21) (k := k1) (M.out.2.2.2.2.2.2.2.2.2.2.1) (M.out.2.2.2.2.2.1) (Fz.mono HS.out.1 (by omega)) (Fz.mono Sq21.out (by omega)) (by rw [show q21 = qr from (Eq21.out.trans HQR.out.symm)]; exact HK1.out)).mono ?_
  rintro e w15 ⟨rfl, hb⟩
  replace M := Lib.hid (Goes.go M.out hb)
  clear hb
  obtain ⟨p3_0, q3_0, p3_1, q3_1, p3_2, q3_2, p3_3, q3_3⟩ := (M.out.2.2.2.2.1).c4
  obtain ⟨p1_0, q1_0, p1_1, q1_1, p1_2, q1_2, p1_3, q1_3⟩ := (M.out.2.2.2.2.2.2.2.2.1).c4
  go_wp2_with fail
  clear p3_0 q3_0 p3_1 q3_1 p3_2 q3_2 p3_3 q3_3 p1_0 q1_0 p1_1 q1_1 p1_2 q1_2 p1_3 q1_3
  refine (rfcompare_is (G := G) (q := q21) (r := qh) (k := k2) (M.out.2.2.2.2.2.1) (M.out.2.2.2.2.2.2.2.2.2.2.2.1) (Fz.mono Sq21.out (by omega)) (Fz.mono HS.out.2 (by omega)) (by rw [show q21 = qr from (Eq21.out.trans HQR.out.symm)]; exact HK2.out)).mono ?_
  rintro e w16 ⟨rfl, hb⟩
  replace M := Lib.hid (Goes.go M.out hb)
  clear hb
  obtain ⟨p0_0, q0_0, p0_1, q0_1, p0_2, q0_2, p0_3, q0_3⟩ := (M.out.2.2.2.2.2.2.2.2.2.1).c4
  go_wp2_with fail
  clear p0_0 q0_0 p0_1 q0_1 p0_2 q0_2 p0_3 q0_3
  refine (rfsign_is (G := G) (q := ql) (k := k3) (M.out.2.2.2.2.2.2.2.2.2.2.1) (Fz.mono HS.out.1 (by omega)) HK3.out).mono ?_
  rintro e w17 ⟨rfl, hb⟩
  replace M := Lib.hid (Goes.go M.out hb)
  clear hb
  obtain ⟨p5_0, q5_0, p5_1, q5_1, p5_2, q5_2, p5_3, q5_3⟩ := (M.out.1).c4
  obtain ⟨p2_0, q2_0, p2_1, q2_1, p2_2, q2_2, p2_3, q2_3⟩ := (M.out.2.2.2.2.2.2.1).c4
  go_wp2_with fail
  clear p5_0 q5_0 p5_1 q5_1 p5_2 q5_2 p5_3 q5_3 p2_0 q2_0 p2_1 q2_1 p2_2 q2_2 p2_3 q2_3
  refine (rfsame_q (G := G) (q := q33) (r := q15) (M.out.2.1) (M.out.2.2.2.2.2.2.2.1) (Fz.mono Sq33.out (by omega)) (by rw [Eq33.out, show q21 = qr from (Eq21.out.trans HQR.out.symm), show q15 = qe from (Eq15.out.trans HQE.out.symm)]; exact HDN.out)).mono ?_
  rintro e w18 ⟨rfl, hb⟩
  replace M := Lib.hid (Goes.go M.out hb)
  clear hb
  go_wp2_with fail
  go_ret
  exact ⟨rfl, (M.out.2.2.2.2.2.2.2.2.2.2.2.2)⟩

set_option maxRecDepth 100000 in
set_option maxHeartbeats 4000000 in
theorem holds_small {cs : List Ct} {rs : List Rc} {sc rd day : Int} {a1 a2 : Option Addr} {cap1 cap2 : Nat} {w : World} (hG : G ≤ w.heap.size) (h1 : CtIn w (.slice a1 cs.length cap1) cs) (h2 : RcIn w (.slice a2 rs.length cap2) rs) (hf : fewB cs.length rs.length = true) {ct : Ct} {g : Nat} {hgl : g < cs.length} (hct : ct = cs[g]) (hd : findC cs sc day = some g) (hrc : recalledB rs sc day = false) (hr0 : 0 ≤ rd) (hr : rd ≤ 1099511627776) (hle : (rd : Rat) < errQ ct rd day) :
    Calls Try.prog 4 #[.slice a1 cs.length cap1, .slice a2 rs.length cap2, .int .i64 sc, .int .i64 rd, .int .i64 day] w fun e w' => e = .returned (.bool true) ∧ Below w.heap.size w w' := by
  have hl := few_len hf
  have HF := Lib.hid hf; clear hf
  obtain ⟨hgl', -, hc⟩ := findC_is hd
  have hin : inR rd 0 1099511627776 = true := by simp [inR, hr0, hr]
  have hiv := ivl_yes (rs := rs) hgl hd hrc hin
  obtain ⟨b, off, rfl, hb, hcell⟩ := h1.at hgl
  obtain ⟨s, f, u, n, p, d⟩ := ct
  rw [← hct] at hc hcell hiv
  have hI2 : (g : Int) < (cs.length : Int) := by omega
  have hen := errQ_nonneg hc hin
  have hfe := errQ_size hc hin
  obtain ⟨ql, hql⟩ : ∃ x, x = loQ (errQ ⟨s, f, u, n, p, d⟩ rd day) rd := ⟨_, rfl⟩
  obtain ⟨qh, hqh⟩ : ∃ x, x = hiQ (errQ ⟨s, f, u, n, p, d⟩ rd day) rd := ⟨_, rfl⟩
  rw [← hql, ← hqh] at hiv
  have HS := Lib.hid (ivl_size hiv)
  have HIV := Lib.hid hiv
  have HC := Lib.hid hc
  have HFD := Lib.hid hd
  have HRC := Lib.hid hrc
  have HIN := Lib.hid hin
  obtain ⟨qe, hqe⟩ : ∃ x, x = errQ ⟨s, f, u, n, p, d⟩ rd day := ⟨_, rfl⟩
  rw [← hqe] at hen hql hqh hle
  obtain ⟨qr, hqr⟩ : ∃ x : Rat, x = (rd : Rat) := ⟨_, rfl⟩
  obtain ⟨k1, hk1⟩ : ∃ k, ordQ ql qr = k := ⟨_, rfl⟩
  obtain ⟨k2, hk2⟩ : ∃ k, ordQ qr qh = k := ⟨_, rfl⟩
  obtain ⟨k3, hk3⟩ : ∃ k, sg (nu ql) = k := ⟨_, rfl⟩
  have hp1 : k1 ≤ 0 := by rw [← hk1, hql, hqr]; exact ordQ_le (lo_le hen hr0)
  have hp2 : k2 ≤ 0 := by rw [← hk2, hqh, hqr]; exact ordQ_le (by unfold hiQ; grind)
  have hp3 : 0 ≤ k3 := by rw [← hk3, hql]; exact sgq_nonneg lo_nonneg
  have e1 : decide (0 ≤ rd) = true := decide_eq_true hr0
  have e2 : decide (rd ≤ 1099511627776) = true := decide_eq_true hr
  have HUP : Hid (qh - qr = qe) := by show _ = _; rw [hqh, hqr]; exact hi_up _ _
  have hz : ql = 0 := by rw [hql]; exact lo_small hle
  have hk30 : k3 = 0 := by rw [← hk3, hz]; rfl
  have e30 : (k3 == 0) = true := by rw [hk30]; rfl
  have HDN : Hid (qr - ql ≠ qe) := by show _ ≠ _; rw [hz, hqr]; grind
  have HLT : Hid (ordQ (qr - ql) qe = -1) := by show _ = _; rw [hz, hqr]; exact ordQ_lt (by grind)
  clear hk30 hz
  have HQL := Lib.hid hql; have HQH := Lib.hid hqh; have HQE := Lib.hid hqe; have HQR := Lib.hid hqr; have HK1 := Lib.hid hk1; have HK2 := Lib.hid hk2; have HK3 := Lib.hid hk3
  clear hen hfe hql hqh hiv hc hd hrc hin hqe hqr hk1 hk2 hk3 hct hle
  have H1 : Hid (CtIn w (.slice (some ⟨b, off, none⟩) cs.length cap1) cs) := h1
  have H2 : Hid (RcIn w (.slice a2 rs.length cap2) rs) := h2
  have HROW : Hid (Row w b (off + g * 6) [.int .i64 s, .int .i64 f, .int .i64 u, .int .i64 n, .int .i64 p, .int .i64 d]) := ⟨hb, hcell⟩
  clear h1 h2 hcell
  have M : Hid (Below w.heap.size w w) := Below.refl _ _
  go_enter Try.func4, Try.ntmps4
  go_wp2_with fail
  refine (sane_ok (G := G) _ (Nat.le_trans hG M.out.size)).mono ?_
  rintro e w1 ⟨rfl, hb⟩
  replace M := Lib.hid (Goes.go M.out hb)
  clear hb
  go_wp2_with fail
  refine (few_is (b := true) (H1.out.keep M.out) (H2.out.keep M.out) HF.out).mono ?_
  rintro e _ ⟨rfl, rfl⟩
  go_wp2_with fail
  refine (scFind_some (sc := sc) (day := day) (H1.out.keep M.out) (by omega) HFD.out).mono ?_
  rintro e w2 ⟨rfl, hb⟩
  replace M := Lib.hid (Goes.go M.out hb)
  clear hb
  go_wp2_with fail
  refine (scInterval_at (G := G) (sc := sc) (rd := rd) (day := day) (l := ql) (h := qh) HIV.out (H1.out.keep M.out) (H2.out.keep M.out) (by omega) (by omega) (Nat.le_trans hG M.out.size)).mono ?_
  rintro e w3 ⟨a_1, c_2, b_3, d_4, a_5, c_6, b_7, d_8, rfl, hd9, hd10, hb⟩
  replace M := Lib.hid (And.intro hd9 (And.intro hd10 (Goes.go M.out hb)))
  clear hb hd9 hd10
  go_upto_region 6 with fail
  obtain ⟨w4, hv⟩ : ∃ x, x = ((w3.alloc (.cells #[.int .i64 (sg (nu ql)), .slice a_1 (ln (nu ql)) c_2, .int .i64 (sg (de ql)), .slice b_3 (ln (de ql)) d_4] 34)).alloc (.cells #[.int .i64 (sg (nu qh)), .slice a_5 (ln (nu qh)) c_6, .int .i64 (sg (de qh)), .slice b_7 (ln (de qh)) d_8] 34)) := ⟨_, rfl⟩
  rw [← hv]
  have o0 : w.heap.size ≤ w3.heap.size := ((M.out.2.2)).size
  have hbx := bx2 w3 34 34 #[.int .i64 (sg (nu ql)), .slice a_1 (ln (nu ql)) c_2, .int .i64 (sg (de ql)), .slice b_3 (ln (de ql)) d_4] #[.int .i64 (sg (nu qh)), .slice a_5 (ln (nu qh)) c_6, .int .i64 (sg (de qh)), .slice b_7 (ln (de qh)) d_8]
  rw [← hv] at hbx
  have hbn : Below w3.heap.size w3 w4 := by rw [hv]; exact (Below.alloc (Below.alloc (Below.refl _ _) (by simp) _) (by simp) _)
  replace M := Lib.hid (And.intro hbx.2 (And.intro hbx.1 (Goes.go M.out hbn)))
  clear hbx hbn
  clear hv
  go_wp2_with fail
  refine (scRec_at (sc := sc) (day := day) (b := false) (H2.out.keep (M.out.2.2.2.2)) (by omega) HRC.out).mono ?_
  rintro e w5 ⟨rfl, hb⟩
  replace M := Lib.hid (Goes.go M.out hb)
  clear hb
  obtain ⟨r0_0, r0_1, r0_2, r0_3, r0_4, r0_5⟩ := (HROW.out.keep (M.out.2.2.2.2)).c6
  go_wp2_with fail
  clear r0_0 r0_1 r0_2 r0_3 r0_4 r0_5
  obtain ⟨q15, eq15⟩ : ∃ x : Rat, x = (errQ ⟨s, f, u, n, p, d⟩ rd day) := ⟨_, rfl⟩
  refine (scError_yes (G := G) (s := s) (f := f) (u := u) (n := n) (p := p) (d := d) (rd := rd) (day := day) (Nat.le_trans hG (M.out.2.2.2.2).size) HC.out HIN.out).mono ?_
  rintro e w6 ⟨a_11, c_12, b_13, d_14, rfl, hd16, hb⟩
  rw [← eq15] at hd16 ⊢
  have Sq15 : Hid (Fz q15 9) := by show Fz q15 9; rw [eq15]; exact (errQ_size HC.out HIN.out)
  have Eq15 := Lib.hid eq15; clear eq15
  replace M := Lib.hid (And.intro hd16 (Goes.go M.out hb))
  clear hb hd16
  go_upto_region 12 with fail
  obtain ⟨w7, hv⟩ : ∃ x, x = (w6.alloc (.cells #[.int .i64 (sg (nu q15)), .slice a_11 (ln (nu q15)) c_12, .int .i64 (sg (de q15)), .slice b_13 (ln (de q15)) d_14] 34)) := ⟨_, rfl⟩
  rw [← hv]
  have o2 : w3.heap.size + 1 < w6.heap.size := ((M.out.2.1)).lt
  replace M := Lib.hid (And.intro (hv ▸ bx1 w6 34 #[.int .i64 (sg (nu q15)), .slice a_11 (ln (nu q15)) c_12, .int .i64 (sg (de q15)), .slice b_13 (ln (de q15)) d_14]) (Goes.go M.out (hv ▸ below_alloc _ _ : Below w6.heap.size w6 w7)))
  clear hv
  go_wp2_with fail
  obtain ⟨q21, eq21⟩ : ∃ x : Rat, x = (rd : Rat) := ⟨_, rfl⟩
  refine (rfint_ok (G := G) rd _ (by omega)).mono ?_
  rintro e w8 ⟨a_17, c_18, b_19, d_20, rfl, hd22, hb⟩
  rw [← eq21] at hd22 ⊢
  have Sq21 : Hid (Fz q21 4) := by show Fz q21 4; rw [eq21]; exact (Fz.int64 (by omega))
  have Eq21 := Lib.hid eq21; clear eq21
  replace M := Lib.hid (And.intro hd22 (Goes.go M.out hb))
  clear hb hd22
  go_upto_region 13 with fail
  obtain ⟨w9, hv⟩ : ∃ x, x = (w8.alloc (.cells #[.int .i64 (sg (nu q21)), .slice a_17 (ln (nu q21)) c_18, .int .i64 (sg (de q21)), .slice b_19 (ln (de q21)) d_20] 34)) := ⟨_, rfl⟩
  rw [← hv]
  have o3 : w6.heap.size < w8.heap.size := ((M.out.2.1)).lt
  replace M := Lib.hid (And.intro (hv ▸ bx1 w8 34 #[.int .i64 (sg (nu q21)), .slice a_17 (ln (nu q21)) c_18, .int .i64 (sg (de q21)), .slice b_19 (ln (de q21)) d_20]) (Goes.go M.out (hv ▸ below_alloc _ _ : Below w8.heap.size w8 w9)))
  clear hv
  obtain ⟨p1_0, q1_0, p1_1, q1_1, p1_2, q1_2, p1_3, q1_3⟩ := (M.out.2.2.2.2.1).c4
  obtain ⟨p3_0, q3_0, p3_1, q3_1, p3_2, q3_2, p3_3, q3_3⟩ := (M.out.1).c4
  go_wp2_with fail
  clear p1_0 q1_0 p1_1 q1_1 p1_2 q1_2 p1_3 q1_3 p3_0 q3_0 p3_1 q3_1 p3_2 q3_2 p3_3 q3_3
  obtain ⟨q27, eq27⟩ : ∃ x : Rat, x = (qh - q21) := ⟨_, rfl⟩
  refine (fracSub_ok (G := G) (q := qh) (r := q21) (M.out.2.2.2.2.2.2.2.1) (M.out.2.1) (Fz.mono HS.out.2 (by omega)) (Fz.mono Sq21.out (by omega))).mono ?_
  rintro e w10 ⟨a_23, c_24, b_25, d_26, rfl, hd28, hb⟩
  rw [← eq27] at hd28 ⊢
  have Sq27 : Hid (Fz q27 19) := by show Fz q27 19; rw [eq27]; exact (Fz.sub HS.out.2 Sq21.out)
  have Eq27 := Lib.hid eq27; clear eq27
  replace M := Lib.hid (And.intro hd28 (Goes.go M.out hb))
  clear hb hd28
  go_upto_region 14 with fail
  obtain ⟨w11, hv⟩ : ∃ x, x = (w10.alloc (.cells #[.int .i64 (sg (nu q27)), .slice a_23 (ln (nu q27)) c_24, .int .i64 (sg (de q27)), .slice b_25 (ln (de q27)) d_26] 34)) := ⟨_, rfl⟩
  rw [← hv]
  have o4 : w8.heap.size < w10.heap.size := ((M.out.2.1)).lt
  replace M := Lib.hid (And.intro (hv ▸ bx1 w10 34 #[.int .i64 (sg (nu q27)), .slice a_23 (ln (nu q27)) c_24, .int .i64 (sg (de q27)), .slice b_25 (ln (de q27)) d_26]) (Goes.go M.out (hv ▸ below_alloc _ _ : Below w10.heap.size w10 w11)))
  clear hv
  obtain ⟨p3_0, q3_0, p3_1, q3_1, p3_2, q3_2, p3_3, q3_3⟩ := (M.out.2.2.1).c4
  obtain ⟨p0_0, q0_0, p0_1, q0_1, p0_2, q0_2, p0_3, q0_3⟩ := (M.out.2.2.2.2.2.2.2.1).c4
  go_wp2_with fail
  clear p3_0 q3_0 p3_1 q3_1 p3_2 q3_2 p3_3 q3_3 p0_0 q0_0 p0_1 q0_1 p0_2 q0_2 p0_3 q0_3
  obtain ⟨q33, eq33⟩ : ∃ x : Rat, x = (q21 - ql) := ⟨_, rfl⟩
  refine (fracSub_ok (G := G) (q := q21) (r := ql) (M.out.2.2.2.1) (M.out.2.2.2.2.2.2.2.2.1) (Fz.mono Sq21.out (by omega)) (Fz.mono HS.out.1 (by omega))).mono ?_
  rintro e w12 ⟨a_29, c_30, b_31, d_32, rfl, hd34, hb⟩
  rw [← eq33] at hd34 ⊢
  have Sq33 : Hid (Fz q33 19) := by show Fz q33 19; rw [eq33]; exact (Fz.sub Sq21.out HS.out.1)
  have Eq33 := Lib.hid eq33; clear eq33
  replace M := Lib.hid (And.intro hd34 (Goes.go M.out hb))
  clear hb hd34
  go_upto_region 15 with fail
  obtain ⟨w13, hv⟩ : ∃ x, x = (w12.alloc (.cells #[.int .i64 (sg (nu q33)), .slice a_29 (ln (nu q33)) c_30, .int .i64 (sg (de q33)), .slice b_31 (ln (de q33)) d_32] 34)) := ⟨_, rfl⟩
  rw [← hv]
  have o5 : w10.heap.size < w12.heap.size := ((M.out.2.1)).lt
  replace M := Lib.hid (And.intro (hv ▸ bx1 w12 34 #[.int .i64 (sg (nu q33)), .slice a_29 (ln (nu q33)) c_30, .int .i64 (sg (de q33)), .slice b_31 (ln (de q33)) d_32]) (Goes.go M.out (hv ▸ below_alloc _ _ : Below w12.heap.size w12 w13)))
  clear hv
  obtain ⟨p4_0, q4_0, p4_1, q4_1, p4_2, q4_2, p4_3, q4_3⟩ := (M.out.2.2.1).c4
  obtain ⟨p2_0, q2_0, p2_1, q2_1, p2_2, q2_2, p2_3, q2_3⟩ := (M.out.2.2.2.2.2.2.1).c4
  go_wp2_with fail
  clear p4_0 q4_0 p4_1 q4_1 p4_2 q4_2 p4_3 q4_3 p2_0 q2_0 p2_1 q2_1 p2_2 q2_2 p2_3 q2_3
  refine (rfsame_q (G := G) (q := q27) (r := q15) (M.out.2.2.2.1) (M.out.2.2.2.2.2.2.2.1) (Fz.mono Sq27.out (by omega)) (by rw [Eq27.out, show q21 = qr from (Eq21.out.trans HQR.out.symm)]; exact HUP.out.trans (Eq15.out.trans HQE.out.symm).symm)).mono ?_
  rintro e w14 ⟨rfl, hb⟩
  replace M := Lib.hid (Goes.go M.out hb)
  clear hb
  obtain ⟨p0_0, q0_0, p0_1, q0_1, p0_2, q0_2, p0_3, q0_3⟩ := (M.out.2.2.2.2.2.2.2.2.2.1).c4
  obtain ⟨p3_0, q3_0, p3_1, q3_1, p3_2, q3_2, p3_3, q3_3⟩ := (M.out.2.2.2.2.1).c4
  go_wp2_with fail
  clear p0_0 q0_0 p0_1 q0_1 p0_2 q0_2 p0_3 q0_3 p3_0 q3_0 p3_1 q3_1 p3_2 q3_2 p3_3 q3_3
  refine (rfcompare_is (G := G) (q := ql) (r := q21) (k := k1) (M.out.2.2.2.2.2.2.2.2.2.2.1) (M.out.2.2.2.2.2.1) (Fz.mono HS.out.1 (by omega)) (Fz.mono Sq21.out (by omega)) (by rw [show q21 = qr from (Eq21.out.trans HQR.out.symm)]; exact HK1.out)).mono ?_
  rintro e w15 ⟨rfl, hb⟩
  replace M := Lib.hid (Goes.go M.out hb)
  clear hb
  obtain ⟨p3_0, q3_0, p3_1, q3_1, p3_2, q3_2, p3_3, q3_3⟩ := (M.out.2.2.2.2.1).c4
  obtain ⟨p1_0, q1_0, p1_1, q1_1, p1_2, q1_2, p1_3, q1_3⟩ := (M.out.2.2.2.2.2.2.2.2.1).c4
  go_wp2_with fail
  clear p3_0 q3_0 p3_1 q3_1 p3_2 q3_2 p3_3 q3_3 p1_0 q1_0 p1_1 q1_1 p1_2 q1_2 p1_3 q1_3
  refine (rfcompare_is (G := G) (q := q21) (r := qh) (k := k2) (M.out.2.2.2.2.2.1) (M.out.2.2.2.2.2.2.2.2.2.2.2.1) (Fz.mono Sq21.out (by omega)) (Fz.mono HS.out.2 (by omega)) (by rw [show q21 = qr from (Eq21.out.trans HQR.out.symm)]; exact HK2.out)).mono ?_
  rintro e w16 ⟨rfl, hb⟩
  replace M := Lib.hid (Goes.go M.out hb)
  clear hb
  obtain ⟨p0_0, q0_0, p0_1, q0_1, p0_2, q0_2, p0_3, q0_3⟩ := (M.out.2.2.2.2.2.2.2.2.2.1).c4
  go_wp2_with fail
  clear p0_0 q0_0 p0_1 q0_1 p0_2 q0_2 p0_3 q0_3
  refine (rfsign_is (G := G) (q := ql) (k := k3) (M.out.2.2.2.2.2.2.2.2.2.2.1) (Fz.mono HS.out.1 (by omega)) HK3.out).mono ?_
  rintro e w17 ⟨rfl, hb⟩
  replace M := Lib.hid (Goes.go M.out hb)
  clear hb
  obtain ⟨p5_0, q5_0, p5_1, q5_1, p5_2, q5_2, p5_3, q5_3⟩ := (M.out.1).c4
  obtain ⟨p2_0, q2_0, p2_1, q2_1, p2_2, q2_2, p2_3, q2_3⟩ := (M.out.2.2.2.2.2.2.1).c4
  go_wp2_with fail
  clear p5_0 q5_0 p5_1 q5_1 p5_2 q5_2 p5_3 q5_3 p2_0 q2_0 p2_1 q2_1 p2_2 q2_2 p2_3 q2_3
  refine (rfsame_not (G := G) (q := q33) (r := q15) (M.out.2.1) (M.out.2.2.2.2.2.2.2.1) (Fz.mono Sq33.out (by omega)) (Fz.mono Sq15.out (by omega)) (by rw [Eq33.out, show q21 = qr from (Eq21.out.trans HQR.out.symm), show q15 = qe from (Eq15.out.trans HQE.out.symm)]; exact HDN.out)).mono ?_
  rintro e w18 ⟨rfl, hb⟩
  replace M := Lib.hid (Goes.go M.out hb)
  clear hb
  obtain ⟨p0_0, q0_0, p0_1, q0_1, p0_2, q0_2, p0_3, q0_3⟩ := (M.out.2.2.2.2.2.2.2.2.2.1).c4
  go_wp2_with fail
  clear p0_0 q0_0 p0_1 q0_1 p0_2 q0_2 p0_3 q0_3
  refine (rfsign_is (G := G) (q := ql) (k := k3) (M.out.2.2.2.2.2.2.2.2.2.2.1) (Fz.mono HS.out.1 (by omega)) HK3.out).mono ?_
  rintro e w19 ⟨rfl, hb⟩
  replace M := Lib.hid (Goes.go M.out hb)
  clear hb
  obtain ⟨p5_0, q5_0, p5_1, q5_1, p5_2, q5_2, p5_3, q5_3⟩ := (M.out.1).c4
  obtain ⟨p2_0, q2_0, p2_1, q2_1, p2_2, q2_2, p2_3, q2_3⟩ := (M.out.2.2.2.2.2.2.1).c4
  go_wp2_with fail
  clear p5_0 q5_0 p5_1 q5_1 p5_2 q5_2 p5_3 q5_3 p2_0 q2_0 p2_1 q2_1 p2_2 q2_2 p2_3 q2_3
  refine (rfcompare_is (G := G) (q := q33) (r := q15) (k := (-1)) (M.out.2.1) (M.out.2.2.2.2.2.2.2.1) (Fz.mono Sq33.out (by omega)) (Fz.mono Sq15.out (by omega)) (by rw [Eq33.out, show q21 = qr from (Eq21.out.trans HQR.out.symm), show q15 = qe from (Eq15.out.trans HQE.out.symm)]; exact HLT.out)).mono ?_
  rintro e w20 ⟨rfl, hb⟩
  replace M := Lib.hid (Goes.go M.out hb)
  clear hb
  go_wp2_with fail
  go_ret
  exact ⟨rfl, (M.out.2.2.2.2.2.2.2.2.2.2.2.2)⟩

theorem holds_walk {v1 v2 : Value} {cs : List Ct} {rs : List Rc} {sc rd day : Int} {w : World} (h1 : CtIn w v1 cs) (h2 : RcIn w v2 rs) :
    Calls Try.prog 4 #[v1, v2, .int .i64 sc, .int .i64 rd, .int .i64 day] w fun e w' => e = .returned (.bool true) ∧ Below w.heap.size w w' := by
  obtain ⟨a1, cap1, rfl⟩ := h1.shape
  obtain ⟨a2, cap2, rfl⟩ := h2.shape
  cases hf : fewB cs.length rs.length with
  | false => exact holds_few (G := 0) (Nat.zero_le _) h1 h2 hf
  | true =>
    cases hd : findC cs sc day with
    | none => exact holds_no1 (G := 0) (Nat.zero_le _) h1 h2 hf hd
    | some g =>
      obtain ⟨hgl, -, -⟩ := findC_is hd
      by_cases hr0 : 0 ≤ rd
      · by_cases hr : rd ≤ 1099511627776
        · cases hrc : recalledB rs sc day with
          | true => exact holds_no4 (G := 0) (Nat.zero_le _) h1 h2 hf hd hr0 hr hrc
          | false =>
            by_cases hle : errQ cs[g] rd day ≤ (rd : Rat)
            · exact holds_big (G := 0) (Nat.zero_le _) h1 h2 hf (hgl := hgl) rfl hd hrc hr0 hr hle
            · exact holds_small (G := 0) (Nat.zero_le _) h1 h2 hf (hgl := hgl) rfl hd hrc hr0 hr (by grind)
        · exact holds_no3 (G := 0) (Nat.zero_le _) h1 h2 hf hd hr0 (by omega)
      · exact holds_no2 (G := 0) (Nat.zero_le _) h1 h2 hf hd (by omega)

end Go.Proofs.Ytpjpkcelajbfnaa
