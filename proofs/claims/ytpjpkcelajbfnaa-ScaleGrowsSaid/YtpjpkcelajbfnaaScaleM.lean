/- The walk of ScaleGrows: whatever the arguments, it returns true. -/
import Derived.Test.YtpjpkcelajbfnaaScaleP
namespace Go.Proofs.Ytpjpkcelajbfnaa
open Go.RowKit
variable {G : Nat}

theorem divInt_frac (x : Int) : Rat.divInt x 1000 = (x : Rat) / 1000 := by rw [Rat.divInt_eq_div]; rfl
theorem cast_le {x y : Int} (h : x ≤ y) : (x : Rat) ≤ (y : Rat) := Rat.intCast_le_intCast.2 h
theorem err_mono {c : Ct} {rd more day : Int} (h : coversC c day = true) (hm : rd ≤ more) : errQ c rd day ≤ errQ c more day := by
  have hb := covers_bounds h
  have h1 : ((c.p * rd : Int) : Rat) ≤ ((c.p * more : Int) : Rat) := cast_le (Int.mul_le_mul_of_nonneg_left hm hb.2.2.2.2.2.1)
  unfold errQ
  rw [divInt_frac, divInt_frac]; grind
/-- The error grows less than the reading. -/
theorem err_slow {c : Ct} {rd more day : Int} (h : coversC c day = true) (hm : rd ≤ more) : (rd : Rat) - errQ c rd day ≤ (more : Rat) - errQ c more day := by
  have hb := covers_bounds h
  have h0 : c.p * (more - rd) ≤ 1000 * (more - rd) := Int.mul_le_mul_of_nonneg_right hb.2.2.2.2.2.2.1 (by omega)
  have h1 : ((c.p * more - c.p * rd : Int) : Rat) ≤ ((1000 * more - 1000 * rd : Int) : Rat) := cast_le (by rw [← Int.mul_sub, ← Int.mul_sub]; exact h0)
  rw [Rat.intCast_sub, Rat.intCast_sub, Rat.intCast_mul 1000, Rat.intCast_mul 1000] at h1
  have h2 : ((1000 : Int) : Rat) = 1000 := rfl
  rw [h2] at h1
  unfold errQ
  rw [divInt_frac, divInt_frac]; grind
theorem lo_mono {e e' : Rat} {rd more : Int} (h : (rd : Rat) - e ≤ (more : Rat) - e') : loQ e rd ≤ loQ e' more := by
  by_cases h1 : e ≤ (rd : Rat)
  · rw [lo_big h1, lo_big (by grind)]; exact h
  · rw [lo_small (by grind), zero_cast]; exact lo_nonneg
theorem hi_mono {e e' : Rat} {rd more : Int} (h : e ≤ e') (hm : rd ≤ more) : hiQ e rd ≤ hiQ e' more := by
  have := cast_le hm
  unfold hiQ; grind
theorem err_later {c : Ct} {rd day later : Int} : errQ c rd later - errQ c rd day = ((c.d * (later - day) : Int) : Rat) := by
  unfold errQ
  have h : ((c.n + c.d * (later - c.f) : Int) : Rat) - ((c.n + c.d * (day - c.f) : Int) : Rat) = ((c.d * (later - day) : Int) : Rat) := by
    rw [← Rat.intCast_sub]; congr 1
    rw [Int.mul_sub, Int.mul_sub, Int.mul_sub]; omega
  rw [← h]; grind
theorem not_covers {c : Ct} {day later : Int} (h : coversC c day = true) (h' : coversC c later = false) : later < c.f ∨ c.u < later := by
  have h1 := (covers_two h).1
  unfold coversC at h'
  rw [h1] at h'
  simp at h'
  omega
theorem hasE_no {c : Ct} {rd day : Int} (h : hasE c rd day = false) (h' : inR rd 0 1099511627776 = true) : coversC c day = false := by
  unfold hasE at h; rw [h', Bool.and_true] at h; exact h
theorem hasE_yes {c : Ct} {rd day : Int} (h : hasE c rd day = true) : coversC c day = true ∧ inR rd 0 1099511627776 = true := by
  unfold hasE at h; simpa using h
theorem mul_bounds {c : Ct} {day later : Int} (h : coversC c day = true) (h' : coversC c later = true) : -1000000000000 ≤ c.d * (later - day) ∧ c.d * (later - day) ≤ 1000000000000 := by
  have hb := covers_bounds h
  have hb' := covers_bounds h'
  constructor
  · have := Int.mul_le_mul (show c.d ≤ 10000000 by omega) (show day - later ≤ 100000 by omega)
    rcases Int.le_total 0 (day - later) with h1 | h1
    · have := Int.mul_le_mul (show c.d ≤ 10000000 by omega) (show day - later ≤ 100000 by omega) h1 (by omega)
      have e : c.d * (later - day) = -(c.d * (day - later)) := by rw [← Int.mul_neg]; congr 1; omega
      omega
    · have := Int.mul_nonneg hb.2.2.2.2.2.2.2.1 (show 0 ≤ later - day by omega); omega
  · rcases Int.le_total 0 (later - day) with h1 | h1
    · have := Int.mul_le_mul (show c.d ≤ 10000000 by omega) (show later - day ≤ 100000 by omega) h1 (by omega); omega
    · have := Int.mul_nonneg hb.2.2.2.2.2.2.2.1 (show 0 ≤ day - later by omega)
      have e : c.d * (later - day) = -(c.d * (day - later)) := by rw [← Int.mul_neg]; congr 1; omega
      omega

set_option maxRecDepth 100000 in
set_option maxHeartbeats 4000000 in
theorem grows_few {cs : List Ct} {rs : List Rc} {sc rd more day later : Int} {a1 a2 : Option Addr} {cap1 cap2 : Nat} {w : World} (hG : G ≤ w.heap.size) (h1 : CtIn w (.slice a1 cs.length cap1) cs) (h2 : RcIn w (.slice a2 rs.length cap2) rs) (hf : fewB cs.length rs.length = false) :
    Calls Try.prog 5 #[.slice a1 cs.length cap1, .slice a2 rs.length cap2, .int .i64 sc, .int .i64 rd, .int .i64 more, .int .i64 day, .int .i64 later] w fun e w' => e = .returned (.bool true) ∧ Below w.heap.size w w' := by
  have HF := Lib.hid hf; clear hf
  have H1 : Hid (CtIn w (.slice a1 cs.length cap1) cs) := h1
  have H2 : Hid (RcIn w (.slice a2 rs.length cap2) rs) := h2
  clear h1 h2
  have M : Hid (Below w.heap.size w w) := Below.refl _ _
  go_enter Try.func5, Try.ntmps5
  go_wp2_with fail
  refine (sane_ok (G := G) _ (Nat.le_trans hG M.out.size)).mono ?_
  rintro e w1 ⟨rfl, hb⟩
  replace M := Lib.hid (Goes.go M.out hb)
  clear hb
  go_wp2_with fail
  refine (few_is (b := false) (H1.out.keep M.out) (H2.out.keep M.out) HF.out).mono ?_
  rintro e _ ⟨rfl, rfl⟩
  go_wp2_with fail
  go_ret
  exact ⟨rfl, M.out⟩

set_option maxRecDepth 100000 in
set_option maxHeartbeats 4000000 in
theorem grows_less {cs : List Ct} {rs : List Rc} {sc rd more day later : Int} {a1 a2 : Option Addr} {cap1 cap2 : Nat} {w : World} (hG : G ≤ w.heap.size) (h1 : CtIn w (.slice a1 cs.length cap1) cs) (h2 : RcIn w (.slice a2 rs.length cap2) rs) (hf : fewB cs.length rs.length = true) (hm : more < rd) :
    Calls Try.prog 5 #[.slice a1 cs.length cap1, .slice a2 rs.length cap2, .int .i64 sc, .int .i64 rd, .int .i64 more, .int .i64 day, .int .i64 later] w fun e w' => e = .returned (.bool true) ∧ Below w.heap.size w w' := by
  have hl := few_len hf
  have HF := Lib.hid hf; clear hf
  have H1 : Hid (CtIn w (.slice a1 cs.length cap1) cs) := h1
  have H2 : Hid (RcIn w (.slice a2 rs.length cap2) rs) := h2
  clear h1 h2
  have M : Hid (Below w.heap.size w w) := Below.refl _ _
  go_enter Try.func5, Try.ntmps5
  go_wp2_with fail
  refine (sane_ok (G := G) _ (Nat.le_trans hG M.out.size)).mono ?_
  rintro e w1 ⟨rfl, hb⟩
  replace M := Lib.hid (Goes.go M.out hb)
  clear hb
  go_wp2_with fail
  refine (few_is (b := true) (H1.out.keep M.out) (H2.out.keep M.out) HF.out).mono ?_
  rintro e _ ⟨rfl, rfl⟩
  go_wp2_with fail
  go_ret
  exact ⟨rfl, M.out⟩

set_option maxRecDepth 100000 in
set_option maxHeartbeats 4000000 in
theorem grows_no1 {cs : List Ct} {rs : List Rc} {sc rd more day later : Int} {a1 a2 : Option Addr} {cap1 cap2 : Nat} {w : World} (hG : G ≤ w.heap.size) (h1 : CtIn w (.slice a1 cs.length cap1) cs) (h2 : RcIn w (.slice a2 rs.length cap2) rs) (hf : fewB cs.length rs.length = true) (hm : rd ≤ more) {b : Bool} (hi : hasI cs rs sc rd day = false) (hj : hasI cs rs sc more day = b) :
    Calls Try.prog 5 #[.slice a1 cs.length cap1, .slice a2 rs.length cap2, .int .i64 sc, .int .i64 rd, .int .i64 more, .int .i64 day, .int .i64 later] w fun e w' => e = .returned (.bool true) ∧ Below w.heap.size w w' := by
  have hl := few_len hf
  have HF := Lib.hid hf; clear hf
  have HIV := Lib.hid hi; have HIM := Lib.hid hj; clear hi hj
  have H1 : Hid (CtIn w (.slice a1 cs.length cap1) cs) := h1
  have H2 : Hid (RcIn w (.slice a2 rs.length cap2) rs) := h2
  clear h1 h2
  have M : Hid (Below w.heap.size w w) := Below.refl _ _
  go_enter Try.func5, Try.ntmps5
  go_wp2_with fail
  refine (sane_ok (G := G) _ (Nat.le_trans hG M.out.size)).mono ?_
  rintro e w1 ⟨rfl, hb⟩
  replace M := Lib.hid (Goes.go M.out hb)
  clear hb
  go_wp2_with fail
  refine (few_is (b := true) (H1.out.keep M.out) (H2.out.keep M.out) HF.out).mono ?_
  rintro e _ ⟨rfl, rfl⟩
  go_wp2_with fail
  obtain ⟨z9, ez9⟩ : ∃ x : Int, x = (oN (loO cs rs sc rd day)) := ⟨_, rfl⟩
  obtain ⟨z10, ez10⟩ : ∃ x : Int, x = (oD (loO cs rs sc rd day)) := ⟨_, rfl⟩
  obtain ⟨z11, ez11⟩ : ∃ x : Int, x = (oN (hiO cs rs sc rd day)) := ⟨_, rfl⟩
  obtain ⟨z12, ez12⟩ : ∃ x : Int, x = (oD (hiO cs rs sc rd day)) := ⟨_, rfl⟩
  refine (scInterval_v (G := G) (sc := sc) (rd := rd) (day := day) (b_ := false) (H1.out.keep M.out) (H2.out.keep M.out) (by omega) (by omega) (Nat.le_trans hG M.out.size) HIV.out).mono ?_
  rintro e w2 ⟨a_1, c_2, b_3, d_4, a_5, c_6, b_7, d_8, rfl, hd13, hd14, hd15, hd16, hb⟩
  rw [← ez9] at hd13 ⊢
  have Sz9 : Hid (Sz z9 14) := by show Sz z9 14; rw [ez9]; exact (lo_sizes _ _ _ _ _).1
  have Ez9 := Lib.hid ez9; clear ez9
  rw [← ez10] at hd14 ⊢
  have Sz10 : Hid (Sz z10 14) := by show Sz z10 14; rw [ez10]; exact (lo_sizes _ _ _ _ _).2
  have Ez10 := Lib.hid ez10; clear ez10
  rw [← ez11] at hd15 ⊢
  have Sz11 : Hid (Sz z11 14) := by show Sz z11 14; rw [ez11]; exact (hi_sizes _ _ _ _ _).1
  have Ez11 := Lib.hid ez11; clear ez11
  rw [← ez12] at hd16 ⊢
  have Sz12 : Hid (Sz z12 14) := by show Sz z12 14; rw [ez12]; exact (hi_sizes _ _ _ _ _).2
  have Ez12 := Lib.hid ez12; clear ez12
  replace M := Lib.hid (And.intro hd13 (And.intro hd14 (And.intro hd15 (And.intro hd16 (Goes.go M.out hb)))))
  clear hb hd13 hd14 hd15 hd16
  go_upto_region 5 with fail
  obtain ⟨w3, hv⟩ : ∃ x, x = ((w2.alloc (.cells #[.int .i64 (sg z9), .slice a_1 (ln z9) c_2, .int .i64 (sg z10), .slice b_3 (ln z10) d_4] 34)).alloc (.cells #[.int .i64 (sg z11), .slice a_5 (ln z11) c_6, .int .i64 (sg z12), .slice b_7 (ln z12) d_8] 34)) := ⟨_, rfl⟩
  rw [← hv]
  have o0 : w.heap.size ≤ w2.heap.size := ((M.out.2.2.2.2)).size
  have hbx := bx2 w2 34 34 #[.int .i64 (sg z9), .slice a_1 (ln z9) c_2, .int .i64 (sg z10), .slice b_3 (ln z10) d_4] #[.int .i64 (sg z11), .slice a_5 (ln z11) c_6, .int .i64 (sg z12), .slice b_7 (ln z12) d_8]
  rw [← hv] at hbx
  have hbn : Below w2.heap.size w2 w3 := by rw [hv]; exact (Below.alloc (Below.alloc (Below.refl _ _) (by simp) _) (by simp) _)
  replace M := Lib.hid (And.intro hbx.2 (And.intro hbx.1 (Goes.go M.out hbn)))
  clear hbx hbn
  clear hv
  go_wp2_with fail
  obtain ⟨z25, ez25⟩ : ∃ x : Int, x = (oN (loO cs rs sc more day)) := ⟨_, rfl⟩
  obtain ⟨z26, ez26⟩ : ∃ x : Int, x = (oD (loO cs rs sc more day)) := ⟨_, rfl⟩
  obtain ⟨z27, ez27⟩ : ∃ x : Int, x = (oN (hiO cs rs sc more day)) := ⟨_, rfl⟩
  obtain ⟨z28, ez28⟩ : ∃ x : Int, x = (oD (hiO cs rs sc more day)) := ⟨_, rfl⟩
  refine (scInterval_v (G := G) (sc := sc) (rd := more) (day := day) (b_ := b) (H1.out.keep (M.out.2.2.2.2.2.2)) (H2.out.keep (M.out.2.2.2.2.2.2)) (by omega) (by omega) (Nat.le_trans hG (M.out.2.2.2.2.2.2).size) HIM.out).mono ?_
  rintro e w4 ⟨a_17, c_18, b_19, d_20, a_21, c_22, b_23, d_24, rfl, hd29, hd30, hd31, hd32, hb⟩
  rw [← ez25] at hd29 ⊢
  have Sz25 : Hid (Sz z25 14) := by show Sz z25 14; rw [ez25]; exact (lo_sizes _ _ _ _ _).1
  have Ez25 := Lib.hid ez25; clear ez25
  rw [← ez26] at hd30 ⊢
  have Sz26 : Hid (Sz z26 14) := by show Sz z26 14; rw [ez26]; exact (lo_sizes _ _ _ _ _).2
  have Ez26 := Lib.hid ez26; clear ez26
  rw [← ez27] at hd31 ⊢
  have Sz27 : Hid (Sz z27 14) := by show Sz z27 14; rw [ez27]; exact (hi_sizes _ _ _ _ _).1
  have Ez27 := Lib.hid ez27; clear ez27
  rw [← ez28] at hd32 ⊢
  have Sz28 : Hid (Sz z28 14) := by show Sz z28 14; rw [ez28]; exact (hi_sizes _ _ _ _ _).2
  have Ez28 := Lib.hid ez28; clear ez28
  replace M := Lib.hid (And.intro hd29 (And.intro hd30 (And.intro hd31 (And.intro hd32 (Goes.go M.out hb)))))
  clear hb hd29 hd30 hd31 hd32
  go_upto_region 6 with fail
  obtain ⟨w5, hv⟩ : ∃ x, x = ((w4.alloc (.cells #[.int .i64 (sg z25), .slice a_17 (ln z25) c_18, .int .i64 (sg z26), .slice b_19 (ln z26) d_20] 34)).alloc (.cells #[.int .i64 (sg z27), .slice a_21 (ln z27) c_22, .int .i64 (sg z28), .slice b_23 (ln z28) d_24] 34)) := ⟨_, rfl⟩
  rw [← hv]
  have o2 : w2.heap.size + 1 < w4.heap.size := ((M.out.2.2.2.2.1)).lt
  have hbx := bx2 w4 34 34 #[.int .i64 (sg z25), .slice a_17 (ln z25) c_18, .int .i64 (sg z26), .slice b_19 (ln z26) d_20] #[.int .i64 (sg z27), .slice a_21 (ln z27) c_22, .int .i64 (sg z28), .slice b_23 (ln z28) d_24]
  rw [← hv] at hbx
  have hbn : Below w4.heap.size w4 w5 := by rw [hv]; exact (Below.alloc (Below.alloc (Below.refl _ _) (by simp) _) (by simp) _)
  replace M := Lib.hid (And.intro hbx.2 (And.intro hbx.1 (Goes.go M.out hbn)))
  clear hbx hbn
  clear hv
  go_wp2_with fail
  go_ret
  exact ⟨rfl, (M.out.2.2.2.2.2.2.2.2.2.2.2.2)⟩

set_option maxRecDepth 100000 in
set_option maxHeartbeats 4000000 in
theorem grows_no2 {cs : List Ct} {rs : List Rc} {sc rd more day later : Int} {a1 a2 : Option Addr} {cap1 cap2 : Nat} {w : World} (hG : G ≤ w.heap.size) (h1 : CtIn w (.slice a1 cs.length cap1) cs) (h2 : RcIn w (.slice a2 rs.length cap2) rs) (hf : fewB cs.length rs.length = true) (hm : rd ≤ more) (hi : hasI cs rs sc rd day = true) (hj : hasI cs rs sc more day = false) :
    Calls Try.prog 5 #[.slice a1 cs.length cap1, .slice a2 rs.length cap2, .int .i64 sc, .int .i64 rd, .int .i64 more, .int .i64 day, .int .i64 later] w fun e w' => e = .returned (.bool true) ∧ Below w.heap.size w w' := by
  have hl := few_len hf
  have HF := Lib.hid hf; clear hf
  have HIV := Lib.hid hi; have HIM := Lib.hid hj; clear hi hj
  have H1 : Hid (CtIn w (.slice a1 cs.length cap1) cs) := h1
  have H2 : Hid (RcIn w (.slice a2 rs.length cap2) rs) := h2
  clear h1 h2
  have M : Hid (Below w.heap.size w w) := Below.refl _ _
  go_enter Try.func5, Try.ntmps5
  go_wp2_with fail
  refine (sane_ok (G := G) _ (Nat.le_trans hG M.out.size)).mono ?_
  rintro e w1 ⟨rfl, hb⟩
  replace M := Lib.hid (Goes.go M.out hb)
  clear hb
  go_wp2_with fail
  refine (few_is (b := true) (H1.out.keep M.out) (H2.out.keep M.out) HF.out).mono ?_
  rintro e _ ⟨rfl, rfl⟩
  go_wp2_with fail
  obtain ⟨z9, ez9⟩ : ∃ x : Int, x = (oN (loO cs rs sc rd day)) := ⟨_, rfl⟩
  obtain ⟨z10, ez10⟩ : ∃ x : Int, x = (oD (loO cs rs sc rd day)) := ⟨_, rfl⟩
  obtain ⟨z11, ez11⟩ : ∃ x : Int, x = (oN (hiO cs rs sc rd day)) := ⟨_, rfl⟩
  obtain ⟨z12, ez12⟩ : ∃ x : Int, x = (oD (hiO cs rs sc rd day)) := ⟨_, rfl⟩
  refine (scInterval_v (G := G) (sc := sc) (rd := rd) (day := day) (b_ := true) (H1.out.keep M.out) (H2.out.keep M.out) (by omega) (by omega) (Nat.le_trans hG M.out.size) HIV.out).mono ?_
  rintro e w2 ⟨a_1, c_2, b_3, d_4, a_5, c_6, b_7, d_8, rfl, hd13, hd14, hd15, hd16, hb⟩
  rw [← ez9] at hd13 ⊢
  have Sz9 : Hid (Sz z9 14) := by show Sz z9 14; rw [ez9]; exact (lo_sizes _ _ _ _ _).1
  have Ez9 := Lib.hid ez9; clear ez9
  rw [← ez10] at hd14 ⊢
  have Sz10 : Hid (Sz z10 14) := by show Sz z10 14; rw [ez10]; exact (lo_sizes _ _ _ _ _).2
  have Ez10 := Lib.hid ez10; clear ez10
  rw [← ez11] at hd15 ⊢
  have Sz11 : Hid (Sz z11 14) := by show Sz z11 14; rw [ez11]; exact (hi_sizes _ _ _ _ _).1
  have Ez11 := Lib.hid ez11; clear ez11
  rw [← ez12] at hd16 ⊢
  have Sz12 : Hid (Sz z12 14) := by show Sz z12 14; rw [ez12]; exact (hi_sizes _ _ _ _ _).2
  have Ez12 := Lib.hid ez12; clear ez12
  replace M := Lib.hid (And.intro hd13 (And.intro hd14 (And.intro hd15 (And.intro hd16 (Goes.go M.out hb)))))
  clear hb hd13 hd14 hd15 hd16
  go_upto_region 5 with fail
  obtain ⟨w3, hv⟩ : ∃ x, x = ((w2.alloc (.cells #[.int .i64 (sg z9), .slice a_1 (ln z9) c_2, .int .i64 (sg z10), .slice b_3 (ln z10) d_4] 34)).alloc (.cells #[.int .i64 (sg z11), .slice a_5 (ln z11) c_6, .int .i64 (sg z12), .slice b_7 (ln z12) d_8] 34)) := ⟨_, rfl⟩
  rw [← hv]
  have o0 : w.heap.size ≤ w2.heap.size := ((M.out.2.2.2.2)).size
  have hbx := bx2 w2 34 34 #[.int .i64 (sg z9), .slice a_1 (ln z9) c_2, .int .i64 (sg z10), .slice b_3 (ln z10) d_4] #[.int .i64 (sg z11), .slice a_5 (ln z11) c_6, .int .i64 (sg z12), .slice b_7 (ln z12) d_8]
  rw [← hv] at hbx
  have hbn : Below w2.heap.size w2 w3 := by rw [hv]; exact (Below.alloc (Below.alloc (Below.refl _ _) (by simp) _) (by simp) _)
  replace M := Lib.hid (And.intro hbx.2 (And.intro hbx.1 (Goes.go M.out hbn)))
  clear hbx hbn
  clear hv
  go_wp2_with fail
  obtain ⟨z25, ez25⟩ : ∃ x : Int, x = (oN (loO cs rs sc more day)) := ⟨_, rfl⟩
  obtain ⟨z26, ez26⟩ : ∃ x : Int, x = (oD (loO cs rs sc more day)) := ⟨_, rfl⟩
  obtain ⟨z27, ez27⟩ : ∃ x : Int, x = (oN (hiO cs rs sc more day)) := ⟨_, rfl⟩
  obtain ⟨z28, ez28⟩ : ∃ x : Int, x = (oD (hiO cs rs sc more day)) := ⟨_, rfl⟩
  refine (scInterval_v (G := G) (sc := sc) (rd := more) (day := day) (b_ := false) (H1.out.keep (M.out.2.2.2.2.2.2)) (H2.out.keep (M.out.2.2.2.2.2.2)) (by omega) (by omega) (Nat.le_trans hG (M.out.2.2.2.2.2.2).size) HIM.out).mono ?_
  rintro e w4 ⟨a_17, c_18, b_19, d_20, a_21, c_22, b_23, d_24, rfl, hd29, hd30, hd31, hd32, hb⟩
  rw [← ez25] at hd29 ⊢
  have Sz25 : Hid (Sz z25 14) := by show Sz z25 14; rw [ez25]; exact (lo_sizes _ _ _ _ _).1
  have Ez25 := Lib.hid ez25; clear ez25
  rw [← ez26] at hd30 ⊢
  have Sz26 : Hid (Sz z26 14) := by show Sz z26 14; rw [ez26]; exact (lo_sizes _ _ _ _ _).2
  have Ez26 := Lib.hid ez26; clear ez26
  rw [← ez27] at hd31 ⊢
  have Sz27 : Hid (Sz z27 14) := by show Sz z27 14; rw [ez27]; exact (hi_sizes _ _ _ _ _).1
  have Ez27 := Lib.hid ez27; clear ez27
  rw [← ez28] at hd32 ⊢
  have Sz28 : Hid (Sz z28 14) := by show Sz z28 14; rw [ez28]; exact (hi_sizes _ _ _ _ _).2
  have Ez28 := Lib.hid ez28; clear ez28
  replace M := Lib.hid (And.intro hd29 (And.intro hd30 (And.intro hd31 (And.intro hd32 (Goes.go M.out hb)))))
  clear hb hd29 hd30 hd31 hd32
  go_upto_region 6 with fail
  obtain ⟨w5, hv⟩ : ∃ x, x = ((w4.alloc (.cells #[.int .i64 (sg z25), .slice a_17 (ln z25) c_18, .int .i64 (sg z26), .slice b_19 (ln z26) d_20] 34)).alloc (.cells #[.int .i64 (sg z27), .slice a_21 (ln z27) c_22, .int .i64 (sg z28), .slice b_23 (ln z28) d_24] 34)) := ⟨_, rfl⟩
  rw [← hv]
  have o2 : w2.heap.size + 1 < w4.heap.size := ((M.out.2.2.2.2.1)).lt
  have hbx := bx2 w4 34 34 #[.int .i64 (sg z25), .slice a_17 (ln z25) c_18, .int .i64 (sg z26), .slice b_19 (ln z26) d_20] #[.int .i64 (sg z27), .slice a_21 (ln z27) c_22, .int .i64 (sg z28), .slice b_23 (ln z28) d_24]
  rw [← hv] at hbx
  have hbn : Below w4.heap.size w4 w5 := by rw [hv]; exact (Below.alloc (Below.alloc (Below.refl _ _) (by simp) _) (by simp) _)
  replace M := Lib.hid (And.intro hbx.2 (And.intro hbx.1 (Goes.go M.out hbn)))
  clear hbx hbn
  clear hv
  go_wp2_with fail
  go_ret
  exact ⟨rfl, (M.out.2.2.2.2.2.2.2.2.2.2.2.2)⟩

set_option maxRecDepth 100000 in
set_option maxHeartbeats 4000000 in
theorem grows_still {cs : List Ct} {rs : List Rc} {sc rd more day later : Int} {a1 a2 : Option Addr} {cap1 cap2 : Nat} {w : World} (hG : G ≤ w.heap.size) (h1 : CtIn w (.slice a1 cs.length cap1) cs) (h2 : RcIn w (.slice a2 rs.length cap2) rs) (hf : fewB cs.length rs.length = true) {ct : Ct} {g : Nat} {hgl : g < cs.length} (hct : ct = cs[g]) (hm : rd ≤ more) (hd : findC cs sc day = some g) (hrc : recalledB rs sc day = false) (hin : inR rd 0 1099511627776 = true) (hinm : inR more 0 1099511627776 = true)  :
    Calls Try.prog 5 #[.slice a1 cs.length cap1, .slice a2 rs.length cap2, .int .i64 sc, .int .i64 rd, .int .i64 more, .int .i64 day, .int .i64 later] w fun e w' => e = .returned (.bool true) ∧ Below w.heap.size w w' := by
  have hl := few_len hf
  have HF := Lib.hid hf; clear hf
  obtain ⟨hgl', -, hc⟩ := findC_is hd
  have hiv := ivl_yes (rs := rs) hgl hd hrc hin
  have him := ivl_yes (rs := rs) hgl hd hrc hinm
  obtain ⟨b, off, rfl, hb, hcell⟩ := h1.at hgl
  obtain ⟨s, f, u, n, p, d⟩ := ct
  rw [← hct] at hc hcell hiv him
  have hI2 : (g : Int) < (cs.length : Int) := by omega
  have hbi := in_bounds hin
  have hbm := in_bounds hinm
  have hs1 := err_slow hc hm
  have hs2 := err_mono hc hm
  
  obtain ⟨qa, hqa⟩ : ∃ x, x = loQ (errQ ⟨s, f, u, n, p, d⟩ rd day) rd := ⟨_, rfl⟩
  obtain ⟨qb, hqb⟩ : ∃ x, x = hiQ (errQ ⟨s, f, u, n, p, d⟩ rd day) rd := ⟨_, rfl⟩
  obtain ⟨qc, hqc⟩ : ∃ x, x = loQ (errQ ⟨s, f, u, n, p, d⟩ more day) more := ⟨_, rfl⟩
  obtain ⟨qd, hqd⟩ : ∃ x, x = hiQ (errQ ⟨s, f, u, n, p, d⟩ more day) more := ⟨_, rfl⟩
  rw [← hqa, ← hqb] at hiv
  rw [← hqc, ← hqd] at him
  have HS := Lib.hid (ivl_size hiv)
  have HT := Lib.hid (ivl_size him)
  have HIV := Lib.hid hiv
  have HIM := Lib.hid him
  have HC := Lib.hid hc
  have HFD := Lib.hid hd
  obtain ⟨k1, hk1⟩ : ∃ k, ordQ qa qc = k := ⟨_, rfl⟩
  obtain ⟨k2, hk2⟩ : ∃ k, ordQ qb qd = k := ⟨_, rfl⟩
  obtain ⟨k3, hk3⟩ : ∃ k, ordQ (qb - (rd : Rat)) (qd - (more : Rat)) = k := ⟨_, rfl⟩
  have hp1 : k1 ≤ 0 := by rw [← hk1, hqa, hqc]; exact ordQ_le (lo_mono hs1)
  have hp2 : k2 ≤ 0 := by rw [← hk2, hqb, hqd]; exact ordQ_le (hi_mono hs2 hm)
  have hp3 : k3 ≤ 0 := by rw [← hk3, hqb, hqd, hi_up, hi_up]; exact ordQ_le hs2
  have HIN := Lib.hid hin
  have HQB := Lib.hid hqb
  obtain ⟨eb, hst⟩ : ∃ x, coversC ⟨s, f, u, n, p, d⟩ later = x := ⟨_, rfl⟩
  have HST := Lib.hid hst
  obtain ⟨bl, hbl⟩ : ∃ x, decide (later < f) = x := ⟨_, rfl⟩
  obtain ⟨bu, hbu⟩ : ∃ x, decide (u < later) = x := ⟨_, rfl⟩
  have HK1 := Lib.hid hk1; have HK2 := Lib.hid hk2; have HK3 := Lib.hid hk3
  clear hqa hqb hqc hqd hiv him hc hd hrc hin hinm hk1 hk2 hk3 hct hs1 hs2 hst
  have H1 : Hid (CtIn w (.slice (some ⟨b, off, none⟩) cs.length cap1) cs) := h1
  have H2 : Hid (RcIn w (.slice a2 rs.length cap2) rs) := h2
  have HROW : Hid (Row w b (off + g * 6) [.int .i64 s, .int .i64 f, .int .i64 u, .int .i64 n, .int .i64 p, .int .i64 d]) := ⟨hb, hcell⟩
  clear h1 h2 hcell
  have M : Hid (Below w.heap.size w w) := Below.refl _ _
  go_enter Try.func5, Try.ntmps5
  go_wp2_with fail
  refine (sane_ok (G := G) _ (Nat.le_trans hG M.out.size)).mono ?_
  rintro e w1 ⟨rfl, hb⟩
  replace M := Lib.hid (Goes.go M.out hb)
  clear hb
  go_wp2_with fail
  refine (few_is (b := true) (H1.out.keep M.out) (H2.out.keep M.out) HF.out).mono ?_
  rintro e _ ⟨rfl, rfl⟩
  go_wp2_with fail
  refine (scInterval_at (G := G) (sc := sc) (rd := rd) (day := day) (l := qa) (h := qb) HIV.out (H1.out.keep M.out) (H2.out.keep M.out) (by omega) (by omega) (Nat.le_trans hG M.out.size)).mono ?_
  rintro e w2 ⟨a_1, c_2, b_3, d_4, a_5, c_6, b_7, d_8, rfl, hd9, hd10, hb⟩
  replace M := Lib.hid (And.intro hd9 (And.intro hd10 (Goes.go M.out hb)))
  clear hb hd9 hd10
  go_upto_region 5 with fail
  obtain ⟨w3, hv⟩ : ∃ x, x = ((w2.alloc (.cells #[.int .i64 (sg (nu qa)), .slice a_1 (ln (nu qa)) c_2, .int .i64 (sg (de qa)), .slice b_3 (ln (de qa)) d_4] 34)).alloc (.cells #[.int .i64 (sg (nu qb)), .slice a_5 (ln (nu qb)) c_6, .int .i64 (sg (de qb)), .slice b_7 (ln (de qb)) d_8] 34)) := ⟨_, rfl⟩
  rw [← hv]
  have o0 : w.heap.size ≤ w2.heap.size := ((M.out.2.2)).size
  have hbx := bx2 w2 34 34 #[.int .i64 (sg (nu qa)), .slice a_1 (ln (nu qa)) c_2, .int .i64 (sg (de qa)), .slice b_3 (ln (de qa)) d_4] #[.int .i64 (sg (nu qb)), .slice a_5 (ln (nu qb)) c_6, .int .i64 (sg (de qb)), .slice b_7 (ln (de qb)) d_8]
  rw [← hv] at hbx
  have hbn : Below w2.heap.size w2 w3 := by rw [hv]; exact (Below.alloc (Below.alloc (Below.refl _ _) (by simp) _) (by simp) _)
  replace M := Lib.hid (And.intro hbx.2 (And.intro hbx.1 (Goes.go M.out hbn)))
  clear hbx hbn
  clear hv
  go_wp2_with fail
  refine (scInterval_at (G := G) (sc := sc) (rd := more) (day := day) (l := qc) (h := qd) HIM.out (H1.out.keep (M.out.2.2.2.2)) (H2.out.keep (M.out.2.2.2.2)) (by omega) (by omega) (Nat.le_trans hG (M.out.2.2.2.2).size)).mono ?_
  rintro e w4 ⟨a_11, c_12, b_13, d_14, a_15, c_16, b_17, d_18, rfl, hd19, hd20, hb⟩
  replace M := Lib.hid (And.intro hd19 (And.intro hd20 (Goes.go M.out hb)))
  clear hb hd19 hd20
  go_upto_region 6 with fail
  obtain ⟨w5, hv⟩ : ∃ x, x = ((w4.alloc (.cells #[.int .i64 (sg (nu qc)), .slice a_11 (ln (nu qc)) c_12, .int .i64 (sg (de qc)), .slice b_13 (ln (de qc)) d_14] 34)).alloc (.cells #[.int .i64 (sg (nu qd)), .slice a_15 (ln (nu qd)) c_16, .int .i64 (sg (de qd)), .slice b_17 (ln (de qd)) d_18] 34)) := ⟨_, rfl⟩
  rw [← hv]
  have o2 : w2.heap.size + 1 < w4.heap.size := ((M.out.2.2.1)).lt
  have hbx := bx2 w4 34 34 #[.int .i64 (sg (nu qc)), .slice a_11 (ln (nu qc)) c_12, .int .i64 (sg (de qc)), .slice b_13 (ln (de qc)) d_14] #[.int .i64 (sg (nu qd)), .slice a_15 (ln (nu qd)) c_16, .int .i64 (sg (de qd)), .slice b_17 (ln (de qd)) d_18]
  rw [← hv] at hbx
  have hbn : Below w4.heap.size w4 w5 := by rw [hv]; exact (Below.alloc (Below.alloc (Below.refl _ _) (by simp) _) (by simp) _)
  replace M := Lib.hid (And.intro hbx.2 (And.intro hbx.1 (Goes.go M.out hbn)))
  clear hbx hbn
  clear hv
  go_upto_region 8 with fail
  go_cut [22, 23] (fun s22 s23 wx => ∃ (A33 : Nat), ∃ (a_21 : Option Addr), ∃ (c_22 : Nat), ∃ (b_23 : Option Addr), ∃ (d_24 : Nat), ∃ (q25 : Rat), ∃ (a_27 : Option Addr), ∃ (c_28 : Nat), ∃ (b_29 : Option Addr), ∃ (d_30 : Nat), ∃ (q31 : Rat), s22 = .pointer (some ⟨A33, 0, none⟩) ∧ s23 = .int .i64 0 ∧ Hid (q25 = (rd : Rat)) ∧ Hid (q31 = (qb - q25)) ∧ Hid (Fz q25 4) ∧ Hid (Fz q31 19) ∧ w4.heap.size + 1 < A33 ∧ Hid (Bx wx A33 34 #[.int .i64 (sg (nu q31)), .slice a_27 (ln (nu q31)) c_28, .int .i64 (sg (de q31)), .slice b_29 (ln (de q31)) d_30] ∧ FD G wx a_27 c_28 b_29 d_30 q31 ∧ FD G wx a_21 c_22 b_23 d_24 q25 ∧ FD G wx a_11 c_12 b_13 d_14 qc ∧ FD G wx a_15 c_16 b_17 d_18 qd ∧ FD G wx a_1 c_2 b_3 d_4 qa ∧ FD G wx a_5 c_6 b_7 d_8 qb ∧ Bx wx w2.heap.size 34 #[.int .i64 (sg (nu qa)), .slice a_1 (ln (nu qa)) c_2, .int .i64 (sg (de qa)), .slice b_3 (ln (de qa)) d_4] ∧ Bx wx (w2.heap.size + 1) 34 #[.int .i64 (sg (nu qb)), .slice a_5 (ln (nu qb)) c_6, .int .i64 (sg (de qb)), .slice b_7 (ln (de qb)) d_8] ∧ Bx wx w4.heap.size 34 #[.int .i64 (sg (nu qc)), .slice a_11 (ln (nu qc)) c_12, .int .i64 (sg (de qc)), .slice b_13 (ln (de qc)) d_14] ∧ Bx wx (w4.heap.size + 1) 34 #[.int .i64 (sg (nu qd)), .slice a_15 (ln (nu qd)) c_16, .int .i64 (sg (de qd)), .slice b_17 (ln (de qd)) d_18] ∧ Below w.heap.size w wx))
  case first =>
    obtain ⟨w6, hv⟩ : ∃ x, x = w5.drew := ⟨_, rfl⟩
    replace M := Lib.hid (Goes.go M.out (hv ▸ below_drew _ : Below w5.heap.size w5 w6))
    refine wp_region_held_drew (S := (fun w' => w'.cell? ⟨w2.heap.size + 1, 0, none⟩ = some (.int .i64 (sg (nu qb))) ∧ w'.cell? ⟨w2.heap.size + 1, 1, none⟩ = some (.slice a_5 (ln (nu qb)) c_6) ∧ w'.cell? ⟨w2.heap.size + 1, 2, none⟩ = some (.int .i64 (sg (de qb))) ∧ w'.cell? ⟨w2.heap.size + 1, 3, none⟩ = some (.slice b_7 (ln (de qb)) d_8))) (by kernel_rfl) (by rw [← hv]; exact ⟨(M.out.2.2.2.2.1).at.1 0, (M.out.2.2.2.2.1).at.1 1, (M.out.2.2.2.2.1).at.1 2, (M.out.2.2.2.2.1).at.1 3⟩) (fun hH34 => ?_)
    rw [← hv] at hH34 ⊢
    clear hv
    refine tk at0 ?_
    refine tk at1 ?_
    refine wpAnyH_ready (rs := [2, 7]) (by kernel_rfl) (by simp) ?_
    refine AllReadyH.cons at2 (fun K hK => ?_) ?_
    ·
      go_simp
      obtain ⟨q39, eq39⟩ : ∃ x : Rat, x = (rd : Rat) := ⟨_, rfl⟩
      refine (rfint_ok (G := G) rd _ (by omega)).mono ?_
      rintro e w7 ⟨a_35, c_36, b_37, d_38, rfl, hd40, hb⟩
      rw [← eq39] at hd40 ⊢
      have Sq39 : Hid (Fz q39 4) := by show Fz q39 4; rw [eq39]; exact (Fz.int64 (by omega))
      have Eq39 := Lib.hid eq39; clear eq39
      replace M := Lib.hid (And.intro hd40 (Goes.go M.out hb))
      clear hb hd40
      (try go_wp2_with fail)
      refine hK.out _ _ (⟨(M.out.2.2.2.2.2.1).at.1 0, (M.out.2.2.2.2.2.1).at.1 1, (M.out.2.2.2.2.2.1).at.1 2, (M.out.2.2.2.2.2.1).at.1 3⟩) (fun hH41 => ?_)
      clear hK K hH34
      (try simp only [Act.put, List.setIfInBounds_toArray, List.set_cons_zero, List.set_cons_succ])
      refine wpAnyH_ready (rs := [3, 7]) (by kernel_rfl) (by simp) ?_
      refine AllReadyH.cons at3 (fun K hK => ?_) ?_
      ·
        go_simp
        obtain ⟨q46, eq46⟩ : ∃ x : Rat, x = (qb - q39) := ⟨_, rfl⟩
        refine (fracSub_ok (G := G) (q := qb) (r := q39) (M.out.2.2.2.2.2.2.2.2.1) (M.out.1) (Fz.mono HS.out.2 (by omega)) (Fz.mono Sq39.out (by omega))).mono ?_
        rintro e w8 ⟨a_42, c_43, b_44, d_45, rfl, hd47, hb⟩
        rw [← eq46] at hd47 ⊢
        have Sq46 : Hid (Fz q46 19) := by show Fz q46 19; rw [eq46]; exact (Fz.sub HS.out.2 Sq39.out)
        have Eq46 := Lib.hid eq46; clear eq46
        replace M := Lib.hid (And.intro hd47 (Goes.go M.out hb))
        clear hb hd47
        (try go_wp2_with fail)
        refine hK.out _ _ (⟨(M.out.2.2.2.2.2.2.1).at.1 0, (M.out.2.2.2.2.2.2.1).at.1 1, (M.out.2.2.2.2.2.2.1).at.1 2, (M.out.2.2.2.2.2.2.1).at.1 3⟩) (fun hH48 => ?_)
        clear hK K hH41
        (try simp only [Act.put, List.setIfInBounds_toArray, List.set_cons_zero, List.set_cons_succ])
        refine tk at4 ?_
        refine tk at5 ?_
        refine tk at6 ?_
        refine wpAnyH_ready (rs := [7]) (by kernel_rfl) (by simp) ?_
        refine AllReadyH.cons at7 (fun K hK => ?_) AllReadyH.nil
        go_simp
        obtain ⟨w9, hv⟩ : ∃ x, x = (w8.alloc (.cells #[.int .i64 0, .slice none 0 0, .int .i64 0, .slice none 0 0] 34)) := ⟨_, rfl⟩
        rw [← hv]
        have o4 : w4.heap.size + 1 < w8.heap.size := ((M.out.2.2.1)).lt
        replace M := Lib.hid (And.intro (hv ▸ bx1 w8 34 #[.int .i64 0, .slice none 0 0, .int .i64 0, .slice none 0 0]) (Goes.go M.out (hv ▸ below_alloc _ _ : Below w8.heap.size w8 w9)))
        clear hv
        refine hK.out _ _ (⟨(M.out.2.2.2.2.2.2.2.1).at.1 0, (M.out.2.2.2.2.2.2.2.1).at.1 1, (M.out.2.2.2.2.2.2.2.1).at.1 2, (M.out.2.2.2.2.2.2.2.1).at.1 3⟩) (fun hH49 => ?_)
        clear hK K hH48
        (try simp only [Act.put, List.setIfInBounds_toArray, List.set_cons_zero, List.set_cons_succ])
        refine wpAnyH_ready (rs := [8]) (by kernel_rfl) (by simp) ?_
        refine AllReadyH.cons at8 (fun K hK => ?_) AllReadyH.nil
        obtain ⟨p4_0, q4_0, p4_1, q4_1, p4_2, q4_2, p4_3, q4_3⟩ := (M.out.1).c4
        go_simp
        clear p4_0 q4_0 p4_1 q4_1 p4_2 q4_2 p4_3 q4_3
        obtain ⟨w10, hv⟩ : ∃ x, x = ((((w9.setCell ⟨w8.heap.size, 0, none⟩ (.int .i64 (sg (nu q46)))).setCell ⟨w8.heap.size, 1, none⟩ (.slice a_42 (ln (nu q46)) c_43)).setCell ⟨w8.heap.size, 2, none⟩ (.int .i64 (sg (de q46)))).setCell ⟨w8.heap.size, 3, none⟩ (.slice b_44 (ln (de q46)) d_45)) := ⟨_, rfl⟩
        rw [← hv]
        have og : w9.grownBy w10 (some w8.heap.size) := by rw [hv]; exact (only_setCell (only_setCell (only_setCell (only_setCell (World.grownBy.refl _ _) _) _) _) _)
        have hz : w.heap.size ≤ w8.heap.size := by omega
        have hk : Bx w10 w8.heap.size 34 #[.int .i64 (sg (nu q46)), .slice a_42 (ln (nu q46)) c_43, .int .i64 (sg (de q46)), .slice b_44 (ln (de q46)) d_45] := by rw [hv]; exact (((((M.out.1).set 0 _).set 1 _).set 2 _).set 3 _)
        have hbw : Below w.heap.size w w10 := by rw [hv]; exact (Below.setCell (Below.setCell (Below.setCell (Below.setCell (M.out.2.2.2.2.2.2.2.2.2.2.2) (by omega) _) (by omega) _) (by omega) _) (by omega) _)
        replace M := Lib.hid (And.intro hk (And.intro ((M.out.2.1).far (M.out.1) (by rfl) (by omega) og) (And.intro ((M.out.2.2.1).far (M.out.1) (by rfl) (by omega) og) (And.intro ((M.out.2.2.2.1).only og (by omega)) (And.intro ((M.out.2.2.2.2.1).only og (by omega)) (And.intro ((M.out.2.2.2.2.2.1).far (M.out.1) (by rfl) (by omega) og) (And.intro ((M.out.2.2.2.2.2.2.1).far (M.out.1) (by rfl) (by omega) og) (And.intro ((M.out.2.2.2.2.2.2.2.1).only og (by omega)) (And.intro ((M.out.2.2.2.2.2.2.2.2.1).only og (by omega)) (And.intro ((M.out.2.2.2.2.2.2.2.2.2.1).far (M.out.1) (by rfl) (by omega) og) (And.intro ((M.out.2.2.2.2.2.2.2.2.2.2.1).far (M.out.1) (by rfl) (by omega) og) hbw)))))))))))
        clear hk hbw og hv hz
        refine hK.out _ _ (⟨(M.out.2.2.2.2.2.2.2.1).at.1 0, (M.out.2.2.2.2.2.2.2.1).at.1 1, (M.out.2.2.2.2.2.2.2.1).at.1 2, (M.out.2.2.2.2.2.2.2.1).at.1 3⟩) (fun hH50 => ?_)
        clear hK K hH49
        (try simp only [Act.put, List.setIfInBounds_toArray, List.set_cons_zero, List.set_cons_succ])
        refine tk at9 ?_
        refine wpAnyH_done (by kernel_rfl) ?_ _
        clear hH50
        go_wp2_with fail
        go_meet
        exact ⟨w8.heap.size, a_35, c_36, b_37, d_38, q39, a_42, c_43, b_44, d_45, q46, rfl, rfl, Eq39, Eq46, Sq39, Sq46, (by omega), (M.out.1), (M.out.2.1), (M.out.2.2.1), (M.out.2.2.2.2.2.1), (M.out.2.2.2.2.2.2.1), (M.out.2.2.2.2.2.2.2.2.2.1), (M.out.2.2.2.2.2.2.2.2.2.2.1), (M.out.2.2.2.2.2.2.2.2.1), (M.out.2.2.2.2.2.2.2.1), (M.out.2.2.2.2.1), (M.out.2.2.2.1), (M.out.2.2.2.2.2.2.2.2.2.2.2)⟩
      refine AllReadyH.cons at7 (fun K hK => ?_) AllReadyH.nil
      go_simp
      obtain ⟨w8, hv⟩ : ∃ x, x = (w7.alloc (.cells #[.int .i64 0, .slice none 0 0, .int .i64 0, .slice none 0 0] 34)) := ⟨_, rfl⟩
      rw [← hv]
      have o4 : w4.heap.size + 1 < w7.heap.size := ((M.out.2.1)).lt
      replace M := Lib.hid (And.intro (hv ▸ bx1 w7 34 #[.int .i64 0, .slice none 0 0, .int .i64 0, .slice none 0 0]) (Goes.go M.out (hv ▸ below_alloc _ _ : Below w7.heap.size w7 w8)))
      clear hv
      refine hK.out _ _ (⟨(M.out.2.2.2.2.2.2.1).at.1 0, (M.out.2.2.2.2.2.2.1).at.1 1, (M.out.2.2.2.2.2.2.1).at.1 2, (M.out.2.2.2.2.2.2.1).at.1 3⟩) (fun hH51 => ?_)
      clear hK K hH41
      (try simp only [Act.put, List.setIfInBounds_toArray, List.set_cons_zero, List.set_cons_succ])
      refine wpAnyH_ready (rs := [3]) (by kernel_rfl) (by simp) ?_
      refine AllReadyH.cons at3 (fun K hK => ?_) AllReadyH.nil
      go_simp
      obtain ⟨q56, eq56⟩ : ∃ x : Rat, x = (qb - q39) := ⟨_, rfl⟩
      refine (fracSub_ok (G := G) (q := qb) (r := q39) (M.out.2.2.2.2.2.2.2.2.2.1) (M.out.2.1) (Fz.mono HS.out.2 (by omega)) (Fz.mono Sq39.out (by omega))).mono ?_
      rintro e w9 ⟨a_52, c_53, b_54, d_55, rfl, hd57, hb⟩
      rw [← eq56] at hd57 ⊢
      have Sq56 : Hid (Fz q56 19) := by show Fz q56 19; rw [eq56]; exact (Fz.sub HS.out.2 Sq39.out)
      have Eq56 := Lib.hid eq56; clear eq56
      replace M := Lib.hid (And.intro hd57 (Goes.go M.out hb))
      clear hb hd57
      (try go_wp2_with fail)
      refine hK.out _ _ (⟨(M.out.2.2.2.2.2.2.2.1).at.1 0, (M.out.2.2.2.2.2.2.2.1).at.1 1, (M.out.2.2.2.2.2.2.2.1).at.1 2, (M.out.2.2.2.2.2.2.2.1).at.1 3⟩) (fun hH58 => ?_)
      clear hK K hH51
      (try simp only [Act.put, List.setIfInBounds_toArray, List.set_cons_zero, List.set_cons_succ])
      refine tk at4 ?_
      refine tk at5 ?_
      refine tk at6 ?_
      refine wpAnyH_ready (rs := [8]) (by kernel_rfl) (by simp) ?_
      refine AllReadyH.cons at8 (fun K hK => ?_) AllReadyH.nil
      obtain ⟨p4_0, q4_0, p4_1, q4_1, p4_2, q4_2, p4_3, q4_3⟩ := (M.out.2.1).c4
      go_simp
      clear p4_0 q4_0 p4_1 q4_1 p4_2 q4_2 p4_3 q4_3
      obtain ⟨w10, hv⟩ : ∃ x, x = ((((w9.setCell ⟨w7.heap.size, 0, none⟩ (.int .i64 (sg (nu q56)))).setCell ⟨w7.heap.size, 1, none⟩ (.slice a_52 (ln (nu q56)) c_53)).setCell ⟨w7.heap.size, 2, none⟩ (.int .i64 (sg (de q56)))).setCell ⟨w7.heap.size, 3, none⟩ (.slice b_54 (ln (de q56)) d_55)) := ⟨_, rfl⟩
      rw [← hv]
      have og : w9.grownBy w10 (some w7.heap.size) := by rw [hv]; exact (only_setCell (only_setCell (only_setCell (only_setCell (World.grownBy.refl _ _) _) _) _) _)
      have hz : w.heap.size ≤ w7.heap.size := by omega
      have hk : Bx w10 w7.heap.size 34 #[.int .i64 (sg (nu q56)), .slice a_52 (ln (nu q56)) c_53, .int .i64 (sg (de q56)), .slice b_54 (ln (de q56)) d_55] := by rw [hv]; exact (((((M.out.2.1).set 0 _).set 1 _).set 2 _).set 3 _)
      have hbw : Below w.heap.size w w10 := by rw [hv]; exact (Below.setCell (Below.setCell (Below.setCell (Below.setCell (M.out.2.2.2.2.2.2.2.2.2.2.2) (by omega) _) (by omega) _) (by omega) _) (by omega) _)
      replace M := Lib.hid (And.intro ((M.out.1).far (M.out.2.1) (by rfl) (by omega) og) (And.intro hk (And.intro ((M.out.2.2.1).far (M.out.2.1) (by rfl) (by omega) og) (And.intro ((M.out.2.2.2.1).only og (by omega)) (And.intro ((M.out.2.2.2.2.1).only og (by omega)) (And.intro ((M.out.2.2.2.2.2.1).far (M.out.2.1) (by rfl) (by omega) og) (And.intro ((M.out.2.2.2.2.2.2.1).far (M.out.2.1) (by rfl) (by omega) og) (And.intro ((M.out.2.2.2.2.2.2.2.1).only og (by omega)) (And.intro ((M.out.2.2.2.2.2.2.2.2.1).only og (by omega)) (And.intro ((M.out.2.2.2.2.2.2.2.2.2.1).far (M.out.2.1) (by rfl) (by omega) og) (And.intro ((M.out.2.2.2.2.2.2.2.2.2.2.1).far (M.out.2.1) (by rfl) (by omega) og) hbw)))))))))))
      clear hk hbw og hv hz
      refine hK.out _ _ (⟨(M.out.2.2.2.2.2.2.2.1).at.1 0, (M.out.2.2.2.2.2.2.2.1).at.1 1, (M.out.2.2.2.2.2.2.2.1).at.1 2, (M.out.2.2.2.2.2.2.2.1).at.1 3⟩) (fun hH59 => ?_)
      clear hK K hH58
      (try simp only [Act.put, List.setIfInBounds_toArray, List.set_cons_zero, List.set_cons_succ])
      refine tk at9 ?_
      refine wpAnyH_done (by kernel_rfl) ?_ _
      clear hH59
      go_wp2_with fail
      go_meet
      exact ⟨w7.heap.size, a_35, c_36, b_37, d_38, q39, a_52, c_53, b_54, d_55, q56, rfl, rfl, Eq39, Eq56, Sq39, Sq56, (by omega), (M.out.2.1), (M.out.1), (M.out.2.2.1), (M.out.2.2.2.2.2.1), (M.out.2.2.2.2.2.2.1), (M.out.2.2.2.2.2.2.2.2.2.1), (M.out.2.2.2.2.2.2.2.2.2.2.1), (M.out.2.2.2.2.2.2.2.2.1), (M.out.2.2.2.2.2.2.2.1), (M.out.2.2.2.2.1), (M.out.2.2.2.1), (M.out.2.2.2.2.2.2.2.2.2.2.2)⟩
    refine AllReadyH.cons at7 (fun K hK => ?_) AllReadyH.nil
    go_simp
    obtain ⟨w7, hv⟩ : ∃ x, x = (w6.alloc (.cells #[.int .i64 0, .slice none 0 0, .int .i64 0, .slice none 0 0] 34)) := ⟨_, rfl⟩
    rw [← hv]
    have o4 : w4.heap.size + 1 < w6.heap.size := ((M.out.1)).lt
    replace M := Lib.hid (And.intro (hv ▸ bx1 w6 34 #[.int .i64 0, .slice none 0 0, .int .i64 0, .slice none 0 0]) (Goes.go M.out (hv ▸ below_alloc _ _ : Below w6.heap.size w6 w7)))
    clear hv
    refine hK.out _ _ (⟨(M.out.2.2.2.2.2.1).at.1 0, (M.out.2.2.2.2.2.1).at.1 1, (M.out.2.2.2.2.2.1).at.1 2, (M.out.2.2.2.2.2.1).at.1 3⟩) (fun hH60 => ?_)
    clear hK K hH34
    (try simp only [Act.put, List.setIfInBounds_toArray, List.set_cons_zero, List.set_cons_succ])
    refine wpAnyH_ready (rs := [2]) (by kernel_rfl) (by simp) ?_
    refine AllReadyH.cons at2 (fun K hK => ?_) AllReadyH.nil
    go_simp
    obtain ⟨q65, eq65⟩ : ∃ x : Rat, x = (rd : Rat) := ⟨_, rfl⟩
    refine (rfint_ok (G := G) rd _ (by omega)).mono ?_
    rintro e w8 ⟨a_61, c_62, b_63, d_64, rfl, hd66, hb⟩
    rw [← eq65] at hd66 ⊢
    have Sq65 : Hid (Fz q65 4) := by show Fz q65 4; rw [eq65]; exact (Fz.int64 (by omega))
    have Eq65 := Lib.hid eq65; clear eq65
    replace M := Lib.hid (And.intro hd66 (Goes.go M.out hb))
    clear hb hd66
    (try go_wp2_with fail)
    refine hK.out _ _ (⟨(M.out.2.2.2.2.2.2.1).at.1 0, (M.out.2.2.2.2.2.2.1).at.1 1, (M.out.2.2.2.2.2.2.1).at.1 2, (M.out.2.2.2.2.2.2.1).at.1 3⟩) (fun hH67 => ?_)
    clear hK K hH60
    (try simp only [Act.put, List.setIfInBounds_toArray, List.set_cons_zero, List.set_cons_succ])
    refine wpAnyH_ready (rs := [3]) (by kernel_rfl) (by simp) ?_
    refine AllReadyH.cons at3 (fun K hK => ?_) AllReadyH.nil
    go_simp
    obtain ⟨q72, eq72⟩ : ∃ x : Rat, x = (qb - q65) := ⟨_, rfl⟩
    refine (fracSub_ok (G := G) (q := qb) (r := q65) (M.out.2.2.2.2.2.2.2.2.2.1) (M.out.1) (Fz.mono HS.out.2 (by omega)) (Fz.mono Sq65.out (by omega))).mono ?_
    rintro e w9 ⟨a_68, c_69, b_70, d_71, rfl, hd73, hb⟩
    rw [← eq72] at hd73 ⊢
    have Sq72 : Hid (Fz q72 19) := by show Fz q72 19; rw [eq72]; exact (Fz.sub HS.out.2 Sq65.out)
    have Eq72 := Lib.hid eq72; clear eq72
    replace M := Lib.hid (And.intro hd73 (Goes.go M.out hb))
    clear hb hd73
    (try go_wp2_with fail)
    refine hK.out _ _ (⟨(M.out.2.2.2.2.2.2.2.1).at.1 0, (M.out.2.2.2.2.2.2.2.1).at.1 1, (M.out.2.2.2.2.2.2.2.1).at.1 2, (M.out.2.2.2.2.2.2.2.1).at.1 3⟩) (fun hH74 => ?_)
    clear hK K hH67
    (try simp only [Act.put, List.setIfInBounds_toArray, List.set_cons_zero, List.set_cons_succ])
    refine tk at4 ?_
    refine tk at5 ?_
    refine tk at6 ?_
    refine wpAnyH_ready (rs := [8]) (by kernel_rfl) (by simp) ?_
    refine AllReadyH.cons at8 (fun K hK => ?_) AllReadyH.nil
    obtain ⟨p4_0, q4_0, p4_1, q4_1, p4_2, q4_2, p4_3, q4_3⟩ := (M.out.2.2.1).c4
    go_simp
    clear p4_0 q4_0 p4_1 q4_1 p4_2 q4_2 p4_3 q4_3
    obtain ⟨w10, hv⟩ : ∃ x, x = ((((w9.setCell ⟨w6.heap.size, 0, none⟩ (.int .i64 (sg (nu q72)))).setCell ⟨w6.heap.size, 1, none⟩ (.slice a_68 (ln (nu q72)) c_69)).setCell ⟨w6.heap.size, 2, none⟩ (.int .i64 (sg (de q72)))).setCell ⟨w6.heap.size, 3, none⟩ (.slice b_70 (ln (de q72)) d_71)) := ⟨_, rfl⟩
    rw [← hv]
    have og : w9.grownBy w10 (some w6.heap.size) := by rw [hv]; exact (only_setCell (only_setCell (only_setCell (only_setCell (World.grownBy.refl _ _) _) _) _) _)
    have hz : w.heap.size ≤ w6.heap.size := by omega
    have hk : Bx w10 w6.heap.size 34 #[.int .i64 (sg (nu q72)), .slice a_68 (ln (nu q72)) c_69, .int .i64 (sg (de q72)), .slice b_70 (ln (de q72)) d_71] := by rw [hv]; exact (((((M.out.2.2.1).set 0 _).set 1 _).set 2 _).set 3 _)
    have hbw : Below w.heap.size w w10 := by rw [hv]; exact (Below.setCell (Below.setCell (Below.setCell (Below.setCell (M.out.2.2.2.2.2.2.2.2.2.2.2) (by omega) _) (by omega) _) (by omega) _) (by omega) _)
    replace M := Lib.hid (And.intro ((M.out.1).far (M.out.2.2.1) (by rfl) (by omega) og) (And.intro ((M.out.2.1).far (M.out.2.2.1) (by rfl) (by omega) og) (And.intro hk (And.intro ((M.out.2.2.2.1).only og (by omega)) (And.intro ((M.out.2.2.2.2.1).only og (by omega)) (And.intro ((M.out.2.2.2.2.2.1).far (M.out.2.2.1) (by rfl) (by omega) og) (And.intro ((M.out.2.2.2.2.2.2.1).far (M.out.2.2.1) (by rfl) (by omega) og) (And.intro ((M.out.2.2.2.2.2.2.2.1).only og (by omega)) (And.intro ((M.out.2.2.2.2.2.2.2.2.1).only og (by omega)) (And.intro ((M.out.2.2.2.2.2.2.2.2.2.1).far (M.out.2.2.1) (by rfl) (by omega) og) (And.intro ((M.out.2.2.2.2.2.2.2.2.2.2.1).far (M.out.2.2.1) (by rfl) (by omega) og) hbw)))))))))))
    clear hk hbw og hv hz
    refine hK.out _ _ (⟨(M.out.2.2.2.2.2.2.2.1).at.1 0, (M.out.2.2.2.2.2.2.2.1).at.1 1, (M.out.2.2.2.2.2.2.2.1).at.1 2, (M.out.2.2.2.2.2.2.2.1).at.1 3⟩) (fun hH75 => ?_)
    clear hK K hH74
    (try simp only [Act.put, List.setIfInBounds_toArray, List.set_cons_zero, List.set_cons_succ])
    refine tk at9 ?_
    refine wpAnyH_done (by kernel_rfl) ?_ _
    clear hH75
    go_wp2_with fail
    go_meet
    exact ⟨w6.heap.size, a_61, c_62, b_63, d_64, q65, a_68, c_69, b_70, d_71, q72, rfl, rfl, Eq65, Eq72, Sq65, Sq72, (by omega), (M.out.2.2.1), (M.out.1), (M.out.2.1), (M.out.2.2.2.2.2.1), (M.out.2.2.2.2.2.2.1), (M.out.2.2.2.2.2.2.2.2.2.1), (M.out.2.2.2.2.2.2.2.2.2.2.1), (M.out.2.2.2.2.2.2.2.2.1), (M.out.2.2.2.2.2.2.2.1), (M.out.2.2.2.2.1), (M.out.2.2.2.1), (M.out.2.2.2.2.2.2.2.2.2.2.2)⟩
  case rest =>
    obtain ⟨A33, a_21, c_22, b_23, d_24, q25, a_27, c_28, b_29, d_30, q31, rfl, rfl, Eq25, Eq31, Sq25, Sq31, oA33, M⟩ := hcut
    obtain ⟨w6, rfl⟩ : ∃ x, x = wc := ⟨_, rfl⟩
    go_upto_region 9 with fail
    go_cut [24, 25] (fun s24 s25 wx => ∃ (A88 : Nat), ∃ (a_76 : Option Addr), ∃ (c_77 : Nat), ∃ (b_78 : Option Addr), ∃ (d_79 : Nat), ∃ (q80 : Rat), ∃ (a_82 : Option Addr), ∃ (c_83 : Nat), ∃ (b_84 : Option Addr), ∃ (d_85 : Nat), ∃ (q86 : Rat), s24 = .pointer (some ⟨A88, 0, none⟩) ∧ s25 = .int .i64 0 ∧ Hid (q80 = (more : Rat)) ∧ Hid (q86 = (qd - q80)) ∧ Hid (Fz q80 4) ∧ Hid (Fz q86 19) ∧ A33 < A88 ∧ Hid (Bx wx A88 34 #[.int .i64 (sg (nu q86)), .slice a_82 (ln (nu q86)) c_83, .int .i64 (sg (de q86)), .slice b_84 (ln (de q86)) d_85] ∧ FD G wx a_82 c_83 b_84 d_85 q86 ∧ FD G wx a_76 c_77 b_78 d_79 q80 ∧ FD G wx a_27 c_28 b_29 d_30 q31 ∧ FD G wx a_21 c_22 b_23 d_24 q25 ∧ FD G wx a_11 c_12 b_13 d_14 qc ∧ FD G wx a_15 c_16 b_17 d_18 qd ∧ FD G wx a_1 c_2 b_3 d_4 qa ∧ FD G wx a_5 c_6 b_7 d_8 qb ∧ Bx wx w2.heap.size 34 #[.int .i64 (sg (nu qa)), .slice a_1 (ln (nu qa)) c_2, .int .i64 (sg (de qa)), .slice b_3 (ln (de qa)) d_4] ∧ Bx wx (w2.heap.size + 1) 34 #[.int .i64 (sg (nu qb)), .slice a_5 (ln (nu qb)) c_6, .int .i64 (sg (de qb)), .slice b_7 (ln (de qb)) d_8] ∧ Bx wx w4.heap.size 34 #[.int .i64 (sg (nu qc)), .slice a_11 (ln (nu qc)) c_12, .int .i64 (sg (de qc)), .slice b_13 (ln (de qc)) d_14] ∧ Bx wx (w4.heap.size + 1) 34 #[.int .i64 (sg (nu qd)), .slice a_15 (ln (nu qd)) c_16, .int .i64 (sg (de qd)), .slice b_17 (ln (de qd)) d_18] ∧ Bx wx A33 34 #[.int .i64 (sg (nu q31)), .slice a_27 (ln (nu q31)) c_28, .int .i64 (sg (de q31)), .slice b_29 (ln (de q31)) d_30] ∧ Below w.heap.size w wx))
    case first =>
      obtain ⟨w7, hv⟩ : ∃ x, x = w6.drew := ⟨_, rfl⟩
      replace M := Lib.hid (Goes.go M.out (hv ▸ below_drew _ : Below w6.heap.size w6 w7))
      refine wp_region_held_drew (S := (fun w' => w'.cell? ⟨w4.heap.size + 1, 0, none⟩ = some (.int .i64 (sg (nu qd))) ∧ w'.cell? ⟨w4.heap.size + 1, 1, none⟩ = some (.slice a_15 (ln (nu qd)) c_16) ∧ w'.cell? ⟨w4.heap.size + 1, 2, none⟩ = some (.int .i64 (sg (de qd))) ∧ w'.cell? ⟨w4.heap.size + 1, 3, none⟩ = some (.slice b_17 (ln (de qd)) d_18))) (by kernel_rfl) (by rw [← hv]; exact ⟨(M.out.2.2.2.2.2.2.2.2.2.2.1).at.1 0, (M.out.2.2.2.2.2.2.2.2.2.2.1).at.1 1, (M.out.2.2.2.2.2.2.2.2.2.2.1).at.1 2, (M.out.2.2.2.2.2.2.2.2.2.2.1).at.1 3⟩) (fun hH89 => ?_)
      rw [← hv] at hH89 ⊢
      clear hv
      refine tk at0 ?_
      refine tk at1 ?_
      refine wpAnyH_ready (rs := [2, 7]) (by kernel_rfl) (by simp) ?_
      refine AllReadyH.cons at2 (fun K hK => ?_) ?_
      ·
        go_simp
        obtain ⟨q94, eq94⟩ : ∃ x : Rat, x = (more : Rat) := ⟨_, rfl⟩
        refine (rfint_ok (G := G) more _ (by omega)).mono ?_
        rintro e w8 ⟨a_90, c_91, b_92, d_93, rfl, hd95, hb⟩
        rw [← eq94] at hd95 ⊢
        have Sq94 : Hid (Fz q94 4) := by show Fz q94 4; rw [eq94]; exact (Fz.int64 (by omega))
        have Eq94 := Lib.hid eq94; clear eq94
        replace M := Lib.hid (And.intro hd95 (Goes.go M.out hb))
        clear hb hd95
        (try go_wp2_with fail)
        refine hK.out _ _ (⟨(M.out.2.2.2.2.2.2.2.2.2.2.2.1).at.1 0, (M.out.2.2.2.2.2.2.2.2.2.2.2.1).at.1 1, (M.out.2.2.2.2.2.2.2.2.2.2.2.1).at.1 2, (M.out.2.2.2.2.2.2.2.2.2.2.2.1).at.1 3⟩) (fun hH96 => ?_)
        clear hK K hH89
        (try simp only [Act.put, List.setIfInBounds_toArray, List.set_cons_zero, List.set_cons_succ])
        refine wpAnyH_ready (rs := [3, 7]) (by kernel_rfl) (by simp) ?_
        refine AllReadyH.cons at3 (fun K hK => ?_) ?_
        ·
          go_simp
          obtain ⟨q101, eq101⟩ : ∃ x : Rat, x = (qd - q94) := ⟨_, rfl⟩
          refine (fracSub_ok (G := G) (q := qd) (r := q94) (M.out.2.2.2.2.2.1) (M.out.1) (Fz.mono HT.out.2 (by omega)) (Fz.mono Sq94.out (by omega))).mono ?_
          rintro e w9 ⟨a_97, c_98, b_99, d_100, rfl, hd102, hb⟩
          rw [← eq101] at hd102 ⊢
          have Sq101 : Hid (Fz q101 19) := by show Fz q101 19; rw [eq101]; exact (Fz.sub HT.out.2 Sq94.out)
          have Eq101 := Lib.hid eq101; clear eq101
          replace M := Lib.hid (And.intro hd102 (Goes.go M.out hb))
          clear hb hd102
          (try go_wp2_with fail)
          refine hK.out _ _ (⟨(M.out.2.2.2.2.2.2.2.2.2.2.2.2.1).at.1 0, (M.out.2.2.2.2.2.2.2.2.2.2.2.2.1).at.1 1, (M.out.2.2.2.2.2.2.2.2.2.2.2.2.1).at.1 2, (M.out.2.2.2.2.2.2.2.2.2.2.2.2.1).at.1 3⟩) (fun hH103 => ?_)
          clear hK K hH96
          (try simp only [Act.put, List.setIfInBounds_toArray, List.set_cons_zero, List.set_cons_succ])
          refine tk at4 ?_
          refine tk at5 ?_
          refine tk at6 ?_
          refine wpAnyH_ready (rs := [7]) (by kernel_rfl) (by simp) ?_
          refine AllReadyH.cons at7 (fun K hK => ?_) AllReadyH.nil
          go_simp
          obtain ⟨w10, hv⟩ : ∃ x, x = (w9.alloc (.cells #[.int .i64 0, .slice none 0 0, .int .i64 0, .slice none 0 0] 34)) := ⟨_, rfl⟩
          rw [← hv]
          have o5 : A33 < w9.heap.size := ((M.out.2.2.1)).lt
          replace M := Lib.hid (And.intro (hv ▸ bx1 w9 34 #[.int .i64 0, .slice none 0 0, .int .i64 0, .slice none 0 0]) (Goes.go M.out (hv ▸ below_alloc _ _ : Below w9.heap.size w9 w10)))
          clear hv
          refine hK.out _ _ (⟨(M.out.2.2.2.2.2.2.2.2.2.2.2.2.2.1).at.1 0, (M.out.2.2.2.2.2.2.2.2.2.2.2.2.2.1).at.1 1, (M.out.2.2.2.2.2.2.2.2.2.2.2.2.2.1).at.1 2, (M.out.2.2.2.2.2.2.2.2.2.2.2.2.2.1).at.1 3⟩) (fun hH104 => ?_)
          clear hK K hH103
          (try simp only [Act.put, List.setIfInBounds_toArray, List.set_cons_zero, List.set_cons_succ])
          refine wpAnyH_ready (rs := [8]) (by kernel_rfl) (by simp) ?_
          refine AllReadyH.cons at8 (fun K hK => ?_) AllReadyH.nil
          obtain ⟨p5_0, q5_0, p5_1, q5_1, p5_2, q5_2, p5_3, q5_3⟩ := (M.out.1).c4
          go_simp
          clear p5_0 q5_0 p5_1 q5_1 p5_2 q5_2 p5_3 q5_3
          obtain ⟨w11, hv⟩ : ∃ x, x = ((((w10.setCell ⟨w9.heap.size, 0, none⟩ (.int .i64 (sg (nu q101)))).setCell ⟨w9.heap.size, 1, none⟩ (.slice a_97 (ln (nu q101)) c_98)).setCell ⟨w9.heap.size, 2, none⟩ (.int .i64 (sg (de q101)))).setCell ⟨w9.heap.size, 3, none⟩ (.slice b_99 (ln (de q101)) d_100)) := ⟨_, rfl⟩
          rw [← hv]
          have og : w10.grownBy w11 (some w9.heap.size) := by rw [hv]; exact (only_setCell (only_setCell (only_setCell (only_setCell (World.grownBy.refl _ _) _) _) _) _)
          have hz : w.heap.size ≤ w9.heap.size := by omega
          have hk : Bx w11 w9.heap.size 34 #[.int .i64 (sg (nu q101)), .slice a_97 (ln (nu q101)) c_98, .int .i64 (sg (de q101)), .slice b_99 (ln (de q101)) d_100] := by rw [hv]; exact (((((M.out.1).set 0 _).set 1 _).set 2 _).set 3 _)
          have hbw : Below w.heap.size w w11 := by rw [hv]; exact (Below.setCell (Below.setCell (Below.setCell (Below.setCell (M.out.2.2.2.2.2.2.2.2.2.2.2.2.2.2) (by omega) _) (by omega) _) (by omega) _) (by omega) _)
          replace M := Lib.hid (And.intro hk (And.intro ((M.out.2.1).far (M.out.1) (by rfl) (by omega) og) (And.intro ((M.out.2.2.1).far (M.out.1) (by rfl) (by omega) og) (And.intro ((M.out.2.2.2.1).only og (by omega)) (And.intro ((M.out.2.2.2.2.1).far (M.out.1) (by rfl) (by omega) og) (And.intro ((M.out.2.2.2.2.2.1).far (M.out.1) (by rfl) (by omega) og) (And.intro ((M.out.2.2.2.2.2.2.1).far (M.out.1) (by rfl) (by omega) og) (And.intro ((M.out.2.2.2.2.2.2.2.1).far (M.out.1) (by rfl) (by omega) og) (And.intro ((M.out.2.2.2.2.2.2.2.2.1).far (M.out.1) (by rfl) (by omega) og) (And.intro ((M.out.2.2.2.2.2.2.2.2.2.1).far (M.out.1) (by rfl) (by omega) og) (And.intro ((M.out.2.2.2.2.2.2.2.2.2.2.1).only og (by omega)) (And.intro ((M.out.2.2.2.2.2.2.2.2.2.2.2.1).only og (by omega)) (And.intro ((M.out.2.2.2.2.2.2.2.2.2.2.2.2.1).only og (by omega)) (And.intro ((M.out.2.2.2.2.2.2.2.2.2.2.2.2.2.1).only og (by omega)) hbw))))))))))))))
          clear hk hbw og hv hz
          refine hK.out _ _ (⟨(M.out.2.2.2.2.2.2.2.2.2.2.2.2.2.1).at.1 0, (M.out.2.2.2.2.2.2.2.2.2.2.2.2.2.1).at.1 1, (M.out.2.2.2.2.2.2.2.2.2.2.2.2.2.1).at.1 2, (M.out.2.2.2.2.2.2.2.2.2.2.2.2.2.1).at.1 3⟩) (fun hH105 => ?_)
          clear hK K hH104
          (try simp only [Act.put, List.setIfInBounds_toArray, List.set_cons_zero, List.set_cons_succ])
          refine tk at9 ?_
          refine wpAnyH_done (by kernel_rfl) ?_ _
          clear hH105
          go_wp2_with fail
          go_meet
          exact ⟨w9.heap.size, a_90, c_91, b_92, d_93, q94, a_97, c_98, b_99, d_100, q101, rfl, rfl, Eq94, Eq101, Sq94, Sq101, (by omega), (M.out.1), (M.out.2.1), (M.out.2.2.1), (M.out.2.2.2.2.1), (M.out.2.2.2.2.2.1), (M.out.2.2.2.2.2.2.1), (M.out.2.2.2.2.2.2.2.1), (M.out.2.2.2.2.2.2.2.2.1), (M.out.2.2.2.2.2.2.2.2.2.1), (M.out.2.2.2.2.2.2.2.2.2.2.1), (M.out.2.2.2.2.2.2.2.2.2.2.2.1), (M.out.2.2.2.2.2.2.2.2.2.2.2.2.1), (M.out.2.2.2.2.2.2.2.2.2.2.2.2.2.1), (M.out.2.2.2.1), (M.out.2.2.2.2.2.2.2.2.2.2.2.2.2.2)⟩
        refine AllReadyH.cons at7 (fun K hK => ?_) AllReadyH.nil
        go_simp
        obtain ⟨w9, hv⟩ : ∃ x, x = (w8.alloc (.cells #[.int .i64 0, .slice none 0 0, .int .i64 0, .slice none 0 0] 34)) := ⟨_, rfl⟩
        rw [← hv]
        have o5 : A33 < w8.heap.size := ((M.out.2.1)).lt
        replace M := Lib.hid (And.intro (hv ▸ bx1 w8 34 #[.int .i64 0, .slice none 0 0, .int .i64 0, .slice none 0 0]) (Goes.go M.out (hv ▸ below_alloc _ _ : Below w8.heap.size w8 w9)))
        clear hv
        refine hK.out _ _ (⟨(M.out.2.2.2.2.2.2.2.2.2.2.2.2.1).at.1 0, (M.out.2.2.2.2.2.2.2.2.2.2.2.2.1).at.1 1, (M.out.2.2.2.2.2.2.2.2.2.2.2.2.1).at.1 2, (M.out.2.2.2.2.2.2.2.2.2.2.2.2.1).at.1 3⟩) (fun hH106 => ?_)
        clear hK K hH96
        (try simp only [Act.put, List.setIfInBounds_toArray, List.set_cons_zero, List.set_cons_succ])
        refine wpAnyH_ready (rs := [3]) (by kernel_rfl) (by simp) ?_
        refine AllReadyH.cons at3 (fun K hK => ?_) AllReadyH.nil
        go_simp
        obtain ⟨q111, eq111⟩ : ∃ x : Rat, x = (qd - q94) := ⟨_, rfl⟩
        refine (fracSub_ok (G := G) (q := qd) (r := q94) (M.out.2.2.2.2.2.2.1) (M.out.2.1) (Fz.mono HT.out.2 (by omega)) (Fz.mono Sq94.out (by omega))).mono ?_
        rintro e w10 ⟨a_107, c_108, b_109, d_110, rfl, hd112, hb⟩
        rw [← eq111] at hd112 ⊢
        have Sq111 : Hid (Fz q111 19) := by show Fz q111 19; rw [eq111]; exact (Fz.sub HT.out.2 Sq94.out)
        have Eq111 := Lib.hid eq111; clear eq111
        replace M := Lib.hid (And.intro hd112 (Goes.go M.out hb))
        clear hb hd112
        (try go_wp2_with fail)
        refine hK.out _ _ (⟨(M.out.2.2.2.2.2.2.2.2.2.2.2.2.2.1).at.1 0, (M.out.2.2.2.2.2.2.2.2.2.2.2.2.2.1).at.1 1, (M.out.2.2.2.2.2.2.2.2.2.2.2.2.2.1).at.1 2, (M.out.2.2.2.2.2.2.2.2.2.2.2.2.2.1).at.1 3⟩) (fun hH113 => ?_)
        clear hK K hH106
        (try simp only [Act.put, List.setIfInBounds_toArray, List.set_cons_zero, List.set_cons_succ])
        refine tk at4 ?_
        refine tk at5 ?_
        refine tk at6 ?_
        refine wpAnyH_ready (rs := [8]) (by kernel_rfl) (by simp) ?_
        refine AllReadyH.cons at8 (fun K hK => ?_) AllReadyH.nil
        obtain ⟨p5_0, q5_0, p5_1, q5_1, p5_2, q5_2, p5_3, q5_3⟩ := (M.out.2.1).c4
        go_simp
        clear p5_0 q5_0 p5_1 q5_1 p5_2 q5_2 p5_3 q5_3
        obtain ⟨w11, hv⟩ : ∃ x, x = ((((w10.setCell ⟨w8.heap.size, 0, none⟩ (.int .i64 (sg (nu q111)))).setCell ⟨w8.heap.size, 1, none⟩ (.slice a_107 (ln (nu q111)) c_108)).setCell ⟨w8.heap.size, 2, none⟩ (.int .i64 (sg (de q111)))).setCell ⟨w8.heap.size, 3, none⟩ (.slice b_109 (ln (de q111)) d_110)) := ⟨_, rfl⟩
        rw [← hv]
        have og : w10.grownBy w11 (some w8.heap.size) := by rw [hv]; exact (only_setCell (only_setCell (only_setCell (only_setCell (World.grownBy.refl _ _) _) _) _) _)
        have hz : w.heap.size ≤ w8.heap.size := by omega
        have hk : Bx w11 w8.heap.size 34 #[.int .i64 (sg (nu q111)), .slice a_107 (ln (nu q111)) c_108, .int .i64 (sg (de q111)), .slice b_109 (ln (de q111)) d_110] := by rw [hv]; exact (((((M.out.2.1).set 0 _).set 1 _).set 2 _).set 3 _)
        have hbw : Below w.heap.size w w11 := by rw [hv]; exact (Below.setCell (Below.setCell (Below.setCell (Below.setCell (M.out.2.2.2.2.2.2.2.2.2.2.2.2.2.2) (by omega) _) (by omega) _) (by omega) _) (by omega) _)
        replace M := Lib.hid (And.intro ((M.out.1).far (M.out.2.1) (by rfl) (by omega) og) (And.intro hk (And.intro ((M.out.2.2.1).far (M.out.2.1) (by rfl) (by omega) og) (And.intro ((M.out.2.2.2.1).only og (by omega)) (And.intro ((M.out.2.2.2.2.1).far (M.out.2.1) (by rfl) (by omega) og) (And.intro ((M.out.2.2.2.2.2.1).far (M.out.2.1) (by rfl) (by omega) og) (And.intro ((M.out.2.2.2.2.2.2.1).far (M.out.2.1) (by rfl) (by omega) og) (And.intro ((M.out.2.2.2.2.2.2.2.1).far (M.out.2.1) (by rfl) (by omega) og) (And.intro ((M.out.2.2.2.2.2.2.2.2.1).far (M.out.2.1) (by rfl) (by omega) og) (And.intro ((M.out.2.2.2.2.2.2.2.2.2.1).far (M.out.2.1) (by rfl) (by omega) og) (And.intro ((M.out.2.2.2.2.2.2.2.2.2.2.1).only og (by omega)) (And.intro ((M.out.2.2.2.2.2.2.2.2.2.2.2.1).only og (by omega)) (And.intro ((M.out.2.2.2.2.2.2.2.2.2.2.2.2.1).only og (by omega)) (And.intro ((M.out.2.2.2.2.2.2.2.2.2.2.2.2.2.1).only og (by omega)) hbw))))))))))))))
        clear hk hbw og hv hz
        refine hK.out _ _ (⟨(M.out.2.2.2.2.2.2.2.2.2.2.2.2.2.1).at.1 0, (M.out.2.2.2.2.2.2.2.2.2.2.2.2.2.1).at.1 1, (M.out.2.2.2.2.2.2.2.2.2.2.2.2.2.1).at.1 2, (M.out.2.2.2.2.2.2.2.2.2.2.2.2.2.1).at.1 3⟩) (fun hH114 => ?_)
        clear hK K hH113
        (try simp only [Act.put, List.setIfInBounds_toArray, List.set_cons_zero, List.set_cons_succ])
        refine tk at9 ?_
        refine wpAnyH_done (by kernel_rfl) ?_ _
        clear hH114
        go_wp2_with fail
        go_meet
        exact ⟨w8.heap.size, a_90, c_91, b_92, d_93, q94, a_107, c_108, b_109, d_110, q111, rfl, rfl, Eq94, Eq111, Sq94, Sq111, (by omega), (M.out.2.1), (M.out.1), (M.out.2.2.1), (M.out.2.2.2.2.1), (M.out.2.2.2.2.2.1), (M.out.2.2.2.2.2.2.1), (M.out.2.2.2.2.2.2.2.1), (M.out.2.2.2.2.2.2.2.2.1), (M.out.2.2.2.2.2.2.2.2.2.1), (M.out.2.2.2.2.2.2.2.2.2.2.1), (M.out.2.2.2.2.2.2.2.2.2.2.2.1), (M.out.2.2.2.2.2.2.2.2.2.2.2.2.1), (M.out.2.2.2.2.2.2.2.2.2.2.2.2.2.1), (M.out.2.2.2.1), (M.out.2.2.2.2.2.2.2.2.2.2.2.2.2.2)⟩
      refine AllReadyH.cons at7 (fun K hK => ?_) AllReadyH.nil
      go_simp
      obtain ⟨w8, hv⟩ : ∃ x, x = (w7.alloc (.cells #[.int .i64 0, .slice none 0 0, .int .i64 0, .slice none 0 0] 34)) := ⟨_, rfl⟩
      rw [← hv]
      have o5 : A33 < w7.heap.size := ((M.out.1)).lt
      replace M := Lib.hid (And.intro (hv ▸ bx1 w7 34 #[.int .i64 0, .slice none 0 0, .int .i64 0, .slice none 0 0]) (Goes.go M.out (hv ▸ below_alloc _ _ : Below w7.heap.size w7 w8)))
      clear hv
      refine hK.out _ _ (⟨(M.out.2.2.2.2.2.2.2.2.2.2.2.1).at.1 0, (M.out.2.2.2.2.2.2.2.2.2.2.2.1).at.1 1, (M.out.2.2.2.2.2.2.2.2.2.2.2.1).at.1 2, (M.out.2.2.2.2.2.2.2.2.2.2.2.1).at.1 3⟩) (fun hH115 => ?_)
      clear hK K hH89
      (try simp only [Act.put, List.setIfInBounds_toArray, List.set_cons_zero, List.set_cons_succ])
      refine wpAnyH_ready (rs := [2]) (by kernel_rfl) (by simp) ?_
      refine AllReadyH.cons at2 (fun K hK => ?_) AllReadyH.nil
      go_simp
      obtain ⟨q120, eq120⟩ : ∃ x : Rat, x = (more : Rat) := ⟨_, rfl⟩
      refine (rfint_ok (G := G) more _ (by omega)).mono ?_
      rintro e w9 ⟨a_116, c_117, b_118, d_119, rfl, hd121, hb⟩
      rw [← eq120] at hd121 ⊢
      have Sq120 : Hid (Fz q120 4) := by show Fz q120 4; rw [eq120]; exact (Fz.int64 (by omega))
      have Eq120 := Lib.hid eq120; clear eq120
      replace M := Lib.hid (And.intro hd121 (Goes.go M.out hb))
      clear hb hd121
      (try go_wp2_with fail)
      refine hK.out _ _ (⟨(M.out.2.2.2.2.2.2.2.2.2.2.2.2.1).at.1 0, (M.out.2.2.2.2.2.2.2.2.2.2.2.2.1).at.1 1, (M.out.2.2.2.2.2.2.2.2.2.2.2.2.1).at.1 2, (M.out.2.2.2.2.2.2.2.2.2.2.2.2.1).at.1 3⟩) (fun hH122 => ?_)
      clear hK K hH115
      (try simp only [Act.put, List.setIfInBounds_toArray, List.set_cons_zero, List.set_cons_succ])
      refine wpAnyH_ready (rs := [3]) (by kernel_rfl) (by simp) ?_
      refine AllReadyH.cons at3 (fun K hK => ?_) AllReadyH.nil
      go_simp
      obtain ⟨q127, eq127⟩ : ∃ x : Rat, x = (qd - q120) := ⟨_, rfl⟩
      refine (fracSub_ok (G := G) (q := qd) (r := q120) (M.out.2.2.2.2.2.2.1) (M.out.1) (Fz.mono HT.out.2 (by omega)) (Fz.mono Sq120.out (by omega))).mono ?_
      rintro e w10 ⟨a_123, c_124, b_125, d_126, rfl, hd128, hb⟩
      rw [← eq127] at hd128 ⊢
      have Sq127 : Hid (Fz q127 19) := by show Fz q127 19; rw [eq127]; exact (Fz.sub HT.out.2 Sq120.out)
      have Eq127 := Lib.hid eq127; clear eq127
      replace M := Lib.hid (And.intro hd128 (Goes.go M.out hb))
      clear hb hd128
      (try go_wp2_with fail)
      refine hK.out _ _ (⟨(M.out.2.2.2.2.2.2.2.2.2.2.2.2.2.1).at.1 0, (M.out.2.2.2.2.2.2.2.2.2.2.2.2.2.1).at.1 1, (M.out.2.2.2.2.2.2.2.2.2.2.2.2.2.1).at.1 2, (M.out.2.2.2.2.2.2.2.2.2.2.2.2.2.1).at.1 3⟩) (fun hH129 => ?_)
      clear hK K hH122
      (try simp only [Act.put, List.setIfInBounds_toArray, List.set_cons_zero, List.set_cons_succ])
      refine tk at4 ?_
      refine tk at5 ?_
      refine tk at6 ?_
      refine wpAnyH_ready (rs := [8]) (by kernel_rfl) (by simp) ?_
      refine AllReadyH.cons at8 (fun K hK => ?_) AllReadyH.nil
      obtain ⟨p5_0, q5_0, p5_1, q5_1, p5_2, q5_2, p5_3, q5_3⟩ := (M.out.2.2.1).c4
      go_simp
      clear p5_0 q5_0 p5_1 q5_1 p5_2 q5_2 p5_3 q5_3
      obtain ⟨w11, hv⟩ : ∃ x, x = ((((w10.setCell ⟨w7.heap.size, 0, none⟩ (.int .i64 (sg (nu q127)))).setCell ⟨w7.heap.size, 1, none⟩ (.slice a_123 (ln (nu q127)) c_124)).setCell ⟨w7.heap.size, 2, none⟩ (.int .i64 (sg (de q127)))).setCell ⟨w7.heap.size, 3, none⟩ (.slice b_125 (ln (de q127)) d_126)) := ⟨_, rfl⟩
      rw [← hv]
      have og : w10.grownBy w11 (some w7.heap.size) := by rw [hv]; exact (only_setCell (only_setCell (only_setCell (only_setCell (World.grownBy.refl _ _) _) _) _) _)
      have hz : w.heap.size ≤ w7.heap.size := by omega
      have hk : Bx w11 w7.heap.size 34 #[.int .i64 (sg (nu q127)), .slice a_123 (ln (nu q127)) c_124, .int .i64 (sg (de q127)), .slice b_125 (ln (de q127)) d_126] := by rw [hv]; exact (((((M.out.2.2.1).set 0 _).set 1 _).set 2 _).set 3 _)
      have hbw : Below w.heap.size w w11 := by rw [hv]; exact (Below.setCell (Below.setCell (Below.setCell (Below.setCell (M.out.2.2.2.2.2.2.2.2.2.2.2.2.2.2) (by omega) _) (by omega) _) (by omega) _) (by omega) _)
      replace M := Lib.hid (And.intro ((M.out.1).far (M.out.2.2.1) (by rfl) (by omega) og) (And.intro ((M.out.2.1).far (M.out.2.2.1) (by rfl) (by omega) og) (And.intro hk (And.intro ((M.out.2.2.2.1).only og (by omega)) (And.intro ((M.out.2.2.2.2.1).far (M.out.2.2.1) (by rfl) (by omega) og) (And.intro ((M.out.2.2.2.2.2.1).far (M.out.2.2.1) (by rfl) (by omega) og) (And.intro ((M.out.2.2.2.2.2.2.1).far (M.out.2.2.1) (by rfl) (by omega) og) (And.intro ((M.out.2.2.2.2.2.2.2.1).far (M.out.2.2.1) (by rfl) (by omega) og) (And.intro ((M.out.2.2.2.2.2.2.2.2.1).far (M.out.2.2.1) (by rfl) (by omega) og) (And.intro ((M.out.2.2.2.2.2.2.2.2.2.1).far (M.out.2.2.1) (by rfl) (by omega) og) (And.intro ((M.out.2.2.2.2.2.2.2.2.2.2.1).only og (by omega)) (And.intro ((M.out.2.2.2.2.2.2.2.2.2.2.2.1).only og (by omega)) (And.intro ((M.out.2.2.2.2.2.2.2.2.2.2.2.2.1).only og (by omega)) (And.intro ((M.out.2.2.2.2.2.2.2.2.2.2.2.2.2.1).only og (by omega)) hbw))))))))))))))
      clear hk hbw og hv hz
      refine hK.out _ _ (⟨(M.out.2.2.2.2.2.2.2.2.2.2.2.2.2.1).at.1 0, (M.out.2.2.2.2.2.2.2.2.2.2.2.2.2.1).at.1 1, (M.out.2.2.2.2.2.2.2.2.2.2.2.2.2.1).at.1 2, (M.out.2.2.2.2.2.2.2.2.2.2.2.2.2.1).at.1 3⟩) (fun hH130 => ?_)
      clear hK K hH129
      (try simp only [Act.put, List.setIfInBounds_toArray, List.set_cons_zero, List.set_cons_succ])
      refine tk at9 ?_
      refine wpAnyH_done (by kernel_rfl) ?_ _
      clear hH130
      go_wp2_with fail
      go_meet
      exact ⟨w7.heap.size, a_116, c_117, b_118, d_119, q120, a_123, c_124, b_125, d_126, q127, rfl, rfl, Eq120, Eq127, Sq120, Sq127, (by omega), (M.out.2.2.1), (M.out.1), (M.out.2.1), (M.out.2.2.2.2.1), (M.out.2.2.2.2.2.1), (M.out.2.2.2.2.2.2.1), (M.out.2.2.2.2.2.2.2.1), (M.out.2.2.2.2.2.2.2.2.1), (M.out.2.2.2.2.2.2.2.2.2.1), (M.out.2.2.2.2.2.2.2.2.2.2.1), (M.out.2.2.2.2.2.2.2.2.2.2.2.1), (M.out.2.2.2.2.2.2.2.2.2.2.2.2.1), (M.out.2.2.2.2.2.2.2.2.2.2.2.2.2.1), (M.out.2.2.2.1), (M.out.2.2.2.2.2.2.2.2.2.2.2.2.2.2)⟩
    case rest =>
      obtain ⟨A88, a_76, c_77, b_78, d_79, q80, a_82, c_83, b_84, d_85, q86, rfl, rfl, Eq80, Eq86, Sq80, Sq86, oA88, M⟩ := hcut
      obtain ⟨w7, rfl⟩ : ∃ x, x = wc := ⟨_, rfl⟩
      obtain ⟨p0_0, q0_0, p0_1, q0_1, p0_2, q0_2, p0_3, q0_3⟩ := (M.out.2.2.2.2.2.2.2.2.2.1).c4
      obtain ⟨p2_0, q2_0, p2_1, q2_1, p2_2, q2_2, p2_3, q2_3⟩ := (M.out.2.2.2.2.2.2.2.2.2.2.2.1).c4
      go_wp2_with fail
      clear p0_0 q0_0 p0_1 q0_1 p0_2 q0_2 p0_3 q0_3 p2_0 q2_0 p2_1 q2_1 p2_2 q2_2 p2_3 q2_3
      refine (rfcompare_is (G := G) (q := qa) (r := qc) (k := k1) (M.out.2.2.2.2.2.2.2.1) (M.out.2.2.2.2.2.1) (Fz.mono HS.out.1 (by omega)) (Fz.mono HT.out.1 (by omega)) (by exact HK1.out)).mono ?_
      rintro e w8 ⟨rfl, hb⟩
      replace M := Lib.hid (Goes.go M.out hb)
      clear hb
      obtain ⟨p1_0, q1_0, p1_1, q1_1, p1_2, q1_2, p1_3, q1_3⟩ := (M.out.2.2.2.2.2.2.2.2.2.2.1).c4
      obtain ⟨p3_0, q3_0, p3_1, q3_1, p3_2, q3_2, p3_3, q3_3⟩ := (M.out.2.2.2.2.2.2.2.2.2.2.2.2.1).c4
      go_wp2_with fail
      clear p1_0 q1_0 p1_1 q1_1 p1_2 q1_2 p1_3 q1_3 p3_0 q3_0 p3_1 q3_1 p3_2 q3_2 p3_3 q3_3
      refine (rfcompare_is (G := G) (q := qb) (r := qd) (k := k2) (M.out.2.2.2.2.2.2.2.2.1) (M.out.2.2.2.2.2.2.1) (Fz.mono HS.out.2 (by omega)) (Fz.mono HT.out.2 (by omega)) (by exact HK2.out)).mono ?_
      rintro e w9 ⟨rfl, hb⟩
      replace M := Lib.hid (Goes.go M.out hb)
      clear hb
      obtain ⟨p4_0, q4_0, p4_1, q4_1, p4_2, q4_2, p4_3, q4_3⟩ := (M.out.2.2.2.2.2.2.2.2.2.2.2.2.2.1).c4
      obtain ⟨p5_0, q5_0, p5_1, q5_1, p5_2, q5_2, p5_3, q5_3⟩ := (M.out.1).c4
      go_wp2_with fail
      clear p4_0 q4_0 p4_1 q4_1 p4_2 q4_2 p4_3 q4_3 p5_0 q5_0 p5_1 q5_1 p5_2 q5_2 p5_3 q5_3
      refine (rfcompare_is (G := G) (q := q31) (r := q86) (k := k3) (M.out.2.2.2.1) (M.out.2.1) (Fz.mono Sq31.out (by omega)) (Fz.mono Sq86.out (by omega)) (by rw [Eq31.out, Eq25.out, Eq86.out, Eq80.out]; exact HK3.out)).mono ?_
      rintro e w10 ⟨rfl, hb⟩
      replace M := Lib.hid (Goes.go M.out hb)
      clear hb
      go_wp2_with fail
      refine (scFind_some (sc := sc) (day := day) (H1.out.keep (M.out.2.2.2.2.2.2.2.2.2.2.2.2.2.2)) (by omega) HFD.out).mono ?_
      rintro e w11 ⟨rfl, hb⟩
      replace M := Lib.hid (Goes.go M.out hb)
      clear hb
      go_upto_region 15 with fail
      cases eb with
      | false =>
        have HX : Hid (bl = false → bu = true) := fun h => by have h1 := not_covers HC.out HST.out; rw [← hbl] at h; rw [← hbu]; simp at h ⊢; dsimp only at h1; omega
        have HL : Hid (coversC ⟨s, f, u, n, p, d⟩ later = false ∧ True) := ⟨HST.out, trivial⟩
        obtain ⟨r0_0, r0_1, r0_2, r0_3, r0_4, r0_5⟩ := (HROW.out.keep (M.out.2.2.2.2.2.2.2.2.2.2.2.2.2.2)).c6
        go_wp2_with fail
        clear r0_0 r0_1 r0_2 r0_3 r0_4 r0_5
        refine (scError_no1 (s := s) (f := f) (u := u) (n := n) (p := p) (d := d) (rd := rd) (day := later) HL.out.1).mono ?_
        rintro e w12 ⟨rfl, hb⟩
        replace M := Lib.hid (Goes.go M.out hb)
        clear hb
        go_upto_region 16 with fail
        obtain ⟨w13, hv⟩ : ∃ x, x = (w12.alloc (.cells #[.int .i64 0, .slice none 0 0, .int .i64 0, .slice none 0 0] 34)) := ⟨_, rfl⟩
        rw [← hv]
        have o6 : A88 < w12.heap.size := ((M.out.1)).lt
        replace M := Lib.hid (And.intro (hv ▸ bx1 w12 34 #[.int .i64 0, .slice none 0 0, .int .i64 0, .slice none 0 0]) (Goes.go M.out (hv ▸ below_alloc _ _ : Below w12.heap.size w12 w13)))
        clear hv
        cases bl with
        | false =>
          obtain ⟨r0_0, r0_1, r0_2, r0_3, r0_4, r0_5⟩ := (HROW.out.keep (M.out.2.2.2.2.2.2.2.2.2.2.2.2.2.2.2)).c6
          go_wp2_with fail
          clear r0_0 r0_1 r0_2 r0_3 r0_4 r0_5
          go_ret
          exact ⟨ret_bool (HX.out (by trivial)), (M.out.2.2.2.2.2.2.2.2.2.2.2.2.2.2.2)⟩
        | true =>
          obtain ⟨r0_0, r0_1, r0_2, r0_3, r0_4, r0_5⟩ := (HROW.out.keep (M.out.2.2.2.2.2.2.2.2.2.2.2.2.2.2.2)).c6
          go_wp2_with fail
          clear r0_0 r0_1 r0_2 r0_3 r0_4 r0_5
          go_ret
          exact ⟨rfl, (M.out.2.2.2.2.2.2.2.2.2.2.2.2.2.2.2)⟩
      | true =>
        have hst := HST.out
        have hcb := covers_bounds HC.out
        have hcl := covers_bounds hst
        have hmb := mul_bounds HC.out hst
        dsimp only at hcb hcl hmb
        have HL : Hid (coversC ⟨s, f, u, n, p, d⟩ later = true ∧ inR rd 0 1099511627776 = true) := ⟨hst, HIN.out⟩
        have HDR : Hid (errQ ⟨s, f, u, n, p, d⟩ rd later - (qb - (rd : Rat)) = ((d * (later - day) : Int) : Rat)) := by show _ = _; rw [HQB.out, hi_up]; exact err_later
        have HMB : Hid (-9223372036854775808 ≤ d * (later - day) ∧ d * (later - day) ≤ 9223372036854775807) := by show _ ∧ _; omega
        have w1_ : IntKind.i64.wrap (later - day) = later - day := IntWalk.i64_in _ (by omega)
        have w2_ : IntKind.i64.wrap (d * (later - day)) = d * (later - day) := IntWalk.i64_in _ (by omega)
        clear hcb hcl hmb hst
        obtain ⟨r0_0, r0_1, r0_2, r0_3, r0_4, r0_5⟩ := (HROW.out.keep (M.out.2.2.2.2.2.2.2.2.2.2.2.2.2.2)).c6
        go_wp2_with fail
        clear r0_0 r0_1 r0_2 r0_3 r0_4 r0_5
        obtain ⟨q135, eq135⟩ : ∃ x : Rat, x = (errQ ⟨s, f, u, n, p, d⟩ rd later) := ⟨_, rfl⟩
        refine (scError_yes (G := G) (s := s) (f := f) (u := u) (n := n) (p := p) (d := d) (rd := rd) (day := later) (Nat.le_trans hG (M.out.2.2.2.2.2.2.2.2.2.2.2.2.2.2).size) HL.out.1 HL.out.2).mono ?_
        rintro e w12 ⟨a_131, c_132, b_133, d_134, rfl, hd136, hb⟩
        rw [← eq135] at hd136 ⊢
        have Sq135 : Hid (Fz q135 9) := by show Fz q135 9; rw [eq135]; exact (errQ_size HL.out.1 HL.out.2)
        have Eq135 := Lib.hid eq135; clear eq135
        replace M := Lib.hid (And.intro hd136 (Goes.go M.out hb))
        clear hb hd136
        go_upto_region 16 with fail
        obtain ⟨w13, hv⟩ : ∃ x, x = (w12.alloc (.cells #[.int .i64 (sg (nu q135)), .slice a_131 (ln (nu q135)) c_132, .int .i64 (sg (de q135)), .slice b_133 (ln (de q135)) d_134] 34)) := ⟨_, rfl⟩
        rw [← hv]
        have o6 : A88 < w12.heap.size := ((M.out.2.1)).lt
        replace M := Lib.hid (And.intro (hv ▸ bx1 w12 34 #[.int .i64 (sg (nu q135)), .slice a_131 (ln (nu q135)) c_132, .int .i64 (sg (de q135)), .slice b_133 (ln (de q135)) d_134]) (Goes.go M.out (hv ▸ below_alloc _ _ : Below w12.heap.size w12 w13)))
        clear hv
        obtain ⟨p6_0, q6_0, p6_1, q6_1, p6_2, q6_2, p6_3, q6_3⟩ := (M.out.1).c4
        obtain ⟨p4_0, q4_0, p4_1, q4_1, p4_2, q4_2, p4_3, q4_3⟩ := (M.out.2.2.2.2.2.2.2.2.2.2.2.2.2.2.2.1).c4
        go_wp2_with fail
        clear p6_0 q6_0 p6_1 q6_1 p6_2 q6_2 p6_3 q6_3 p4_0 q4_0 p4_1 q4_1 p4_2 q4_2 p4_3 q4_3
        obtain ⟨q141, eq141⟩ : ∃ x : Rat, x = (q135 - q31) := ⟨_, rfl⟩
        refine (fracSub_ok (G := G) (q := q135) (r := q31) (M.out.2.1) (M.out.2.2.2.2.2.1) (Fz.mono Sq135.out (by omega)) (Fz.mono Sq31.out (by omega))).mono ?_
        rintro e w14 ⟨a_137, c_138, b_139, d_140, rfl, hd142, hb⟩
        rw [← eq141] at hd142 ⊢
        have Sq141 : Hid (Fz q141 29) := by show Fz q141 29; rw [eq141]; exact (Fz.sub Sq135.out Sq31.out)
        have Eq141 := Lib.hid eq141; clear eq141
        replace M := Lib.hid (And.intro hd142 (Goes.go M.out hb))
        clear hb hd142
        go_wp2_with fail
        obtain ⟨w15, hv⟩ : ∃ x, x = (w14.alloc (.cells #[.int .i64 (sg (nu q141)), .slice a_137 (ln (nu q141)) c_138, .int .i64 (sg (de q141)), .slice b_139 (ln (de q141)) d_140] 34)) := ⟨_, rfl⟩
        rw [← hv]
        have o7 : w12.heap.size < w14.heap.size := ((M.out.2.1)).lt
        replace M := Lib.hid (And.intro (hv ▸ bx1 w14 34 #[.int .i64 (sg (nu q141)), .slice a_137 (ln (nu q141)) c_138, .int .i64 (sg (de q141)), .slice b_139 (ln (de q141)) d_140]) (Goes.go M.out (hv ▸ below_alloc _ _ : Below w14.heap.size w14 w15)))
        clear hv
        obtain ⟨w16, hv⟩ : ∃ x, x = w15.drew := ⟨_, rfl⟩
        replace M := Lib.hid (Goes.go M.out (hv ▸ below_drew _ : Below w15.heap.size w15 w16))
        refine wp_region_held_drew (S := (fun w' => w'.cell? ⟨w14.heap.size, 0, none⟩ = some (.int .i64 (sg (nu q141))) ∧ w'.cell? ⟨w14.heap.size, 1, none⟩ = some (.slice a_137 (ln (nu q141)) c_138) ∧ w'.cell? ⟨w14.heap.size, 2, none⟩ = some (.int .i64 (sg (de q141))) ∧ w'.cell? ⟨w14.heap.size, 3, none⟩ = some (.slice b_139 (ln (de q141)) d_140) ∧ w'.cell? ⟨b, off + g * 6, none⟩ = some (.int .i64 s) ∧ w'.cell? ⟨b, off + g * 6 + 1, none⟩ = some (.int .i64 f) ∧ w'.cell? ⟨b, off + g * 6 + 2, none⟩ = some (.int .i64 u) ∧ w'.cell? ⟨b, off + g * 6 + 3, none⟩ = some (.int .i64 n) ∧ w'.cell? ⟨b, off + g * 6 + 4, none⟩ = some (.int .i64 p) ∧ w'.cell? ⟨b, off + g * 6 + 5, none⟩ = some (.int .i64 d))) (by kernel_rfl) (by rw [← hv]; exact ⟨(M.out.1).at.1 0, (M.out.1).at.1 1, (M.out.1).at.1 2, (M.out.1).at.1 3, (HROW.out.keep (M.out.2.2.2.2.2.2.2.2.2.2.2.2.2.2.2.2.2.2)).2 0 _ rfl, (HROW.out.keep (M.out.2.2.2.2.2.2.2.2.2.2.2.2.2.2.2.2.2.2)).2 1 _ rfl, (HROW.out.keep (M.out.2.2.2.2.2.2.2.2.2.2.2.2.2.2.2.2.2.2)).2 2 _ rfl, (HROW.out.keep (M.out.2.2.2.2.2.2.2.2.2.2.2.2.2.2.2.2.2.2)).2 3 _ rfl, (HROW.out.keep (M.out.2.2.2.2.2.2.2.2.2.2.2.2.2.2.2.2.2.2)).2 4 _ rfl, (HROW.out.keep (M.out.2.2.2.2.2.2.2.2.2.2.2.2.2.2.2.2.2.2)).2 5 _ rfl⟩) (fun hH149 => ?_)
        rw [← hv] at hH149 ⊢
        clear hv
        refine tk at0 ?_
        refine tk at1 ?_
        refine tk at2 ?_
        refine tk at3 ?_
        refine tk at4 ?_
        refine tk at5 ?_
        refine tk at6 ?_
        refine tk at7 ?_
        refine tk at8 ?_
        refine tk at9 ?_
        refine tk at10 ?_
        refine tk at11 ?_
        clear w1_ w2_
        refine wpAnyH_ready (rs := [12]) (by kernel_rfl) (by simp) ?_
        refine AllReadyH.cons at12 (fun K hK => ?_) AllReadyH.nil
        go_simp
        obtain ⟨q154, eq154⟩ : ∃ x : Rat, x = (((d * (later - day)) : Int) : Rat) := ⟨_, rfl⟩
        refine (rfint_ok (G := G) (d * (later - day)) _ HMB.out).mono ?_
        rintro e w17 ⟨a_150, c_151, b_152, d_153, rfl, hd155, hb⟩
        rw [← eq154] at hd155 ⊢
        have Sq154 : Hid (Fz q154 4) := by show Fz q154 4; rw [eq154]; exact (Fz.int64 HMB.out)
        have Eq154 := Lib.hid eq154; clear eq154
        replace M := Lib.hid (And.intro hd155 (Goes.go M.out hb))
        clear hb hd155
        (try go_wp2_with fail)
        refine hK.out _ _ (⟨(M.out.2.1).at.1 0, (M.out.2.1).at.1 1, (M.out.2.1).at.1 2, (M.out.2.1).at.1 3, (HROW.out.keep (M.out.2.2.2.2.2.2.2.2.2.2.2.2.2.2.2.2.2.2.2)).2 0 _ rfl, (HROW.out.keep (M.out.2.2.2.2.2.2.2.2.2.2.2.2.2.2.2.2.2.2.2)).2 1 _ rfl, (HROW.out.keep (M.out.2.2.2.2.2.2.2.2.2.2.2.2.2.2.2.2.2.2.2)).2 2 _ rfl, (HROW.out.keep (M.out.2.2.2.2.2.2.2.2.2.2.2.2.2.2.2.2.2.2.2)).2 3 _ rfl, (HROW.out.keep (M.out.2.2.2.2.2.2.2.2.2.2.2.2.2.2.2.2.2.2.2)).2 4 _ rfl, (HROW.out.keep (M.out.2.2.2.2.2.2.2.2.2.2.2.2.2.2.2.2.2.2.2)).2 5 _ rfl⟩) (fun hH156 => ?_)
        clear hK K hH149
        (try simp only [Act.put, List.setIfInBounds_toArray, List.set_cons_zero, List.set_cons_succ])
        refine wpAnyH_ready (rs := [13]) (by kernel_rfl) (by simp) ?_
        refine AllReadyH.cons at13 (fun K hK => ?_) AllReadyH.nil
        go_simp
        refine (rfsame_q (G := G) (q := q141) (r := q154) (M.out.2.2.1) (M.out.1) (Fz.mono Sq141.out (by omega)) (by rw [Eq141.out, Eq135.out, Eq31.out, Eq25.out, Eq154.out]; exact HDR.out)).mono ?_
        rintro e w18 ⟨rfl, hb⟩
        replace M := Lib.hid (Goes.go M.out hb)
        clear hb
        (try go_wp2_with fail)
        refine hK.out _ _ (⟨(M.out.2.1).at.1 0, (M.out.2.1).at.1 1, (M.out.2.1).at.1 2, (M.out.2.1).at.1 3, (HROW.out.keep (M.out.2.2.2.2.2.2.2.2.2.2.2.2.2.2.2.2.2.2.2)).2 0 _ rfl, (HROW.out.keep (M.out.2.2.2.2.2.2.2.2.2.2.2.2.2.2.2.2.2.2.2)).2 1 _ rfl, (HROW.out.keep (M.out.2.2.2.2.2.2.2.2.2.2.2.2.2.2.2.2.2.2.2)).2 2 _ rfl, (HROW.out.keep (M.out.2.2.2.2.2.2.2.2.2.2.2.2.2.2.2.2.2.2.2)).2 3 _ rfl, (HROW.out.keep (M.out.2.2.2.2.2.2.2.2.2.2.2.2.2.2.2.2.2.2.2)).2 4 _ rfl, (HROW.out.keep (M.out.2.2.2.2.2.2.2.2.2.2.2.2.2.2.2.2.2.2.2)).2 5 _ rfl⟩) (fun hH157 => ?_)
        clear hK K hH156
        (try simp only [Act.put, List.setIfInBounds_toArray, List.set_cons_zero, List.set_cons_succ])
        refine tk at14 ?_
        refine tk at15 ?_
        refine wpAnyH_done (by kernel_rfl) ?_ _
        clear hH157
        go_wp2_with fail
        go_ret
        exact ⟨rfl, (M.out.2.2.2.2.2.2.2.2.2.2.2.2.2.2.2.2.2.2.2)⟩

theorem grows_walk {v1 v2 : Value} {cs : List Ct} {rs : List Rc} {sc rd more day later : Int} {w : World} (h1 : CtIn w v1 cs) (h2 : RcIn w v2 rs) :
    Calls Try.prog 5 #[v1, v2, .int .i64 sc, .int .i64 rd, .int .i64 more, .int .i64 day, .int .i64 later] w fun e w' => e = .returned (.bool true) ∧ Below w.heap.size w w' := by
  obtain ⟨a1, cap1, rfl⟩ := h1.shape
  obtain ⟨a2, cap2, rfl⟩ := h2.shape
  cases hf : fewB cs.length rs.length with
  | false => exact grows_few (G := 0) (Nat.zero_le _) h1 h2 hf
  | true =>
    by_cases hm : rd ≤ more
    · cases hi : hasI cs rs sc rd day with
      | false => exact grows_no1 (G := 0) (Nat.zero_le _) h1 h2 hf hm hi rfl
      | true =>
        cases hj : hasI cs rs sc more day with
        | false => exact grows_no2 (G := 0) (Nat.zero_le _) h1 h2 hf hm hi hj
        | true =>
          obtain ⟨⟨l, r⟩, hi'⟩ := Option.isSome_iff_exists.1 hi
          obtain ⟨⟨l2, r2⟩, hj'⟩ := Option.isSome_iff_exists.1 hj
          obtain ⟨g, hgl, hd, hrc, hin, hc, -, -⟩ := ivl_some hi'
          obtain ⟨g2, hgl2, hd2, -, hinm, -, -, -⟩ := ivl_some hj'
          exact grows_still (G := 0) (Nat.zero_le _) h1 h2 hf (hgl := hgl) rfl hm hd hrc hin hinm
    · exact grows_less (G := 0) (Nat.zero_le _) h1 h2 hf (by omega)

end Go.Proofs.Ytpjpkcelajbfnaa
