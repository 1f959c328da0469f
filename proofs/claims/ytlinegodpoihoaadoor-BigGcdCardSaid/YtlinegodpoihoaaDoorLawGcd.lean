/- The walk of BigGcd: whatever the arguments, it returns true. -/
import Derived.Test.YtlinegodpoihoaaDoorLaw04c
namespace Go.Proofs.YtlinegodpoihoaaDoor
open Go.RowKit Go.Lib
variable {G : Nat}

theorem md_pos {x y : Int} (h : 0 < y) : 0 ≤ md x y ∧ md x y < y := by
  unfold md; rw [Int.fmod_eq_emod_of_nonneg x (by omega)]
  exact ⟨Int.emod_nonneg x (by omega), Int.emod_lt_of_pos x h⟩
theorem md_neg {x y : Int} (h : y < 0) : y < md x y ∧ md x y ≤ 0 := by
  have := md_pos (x := -x) (y := -y) (by omega)
  have e : md (-x) (-y) = -md x y := by unfold md; rw [Int.neg_fmod_neg]
  rw [e] at this; omega
theorem dv_md (x y : Int) : dv x y * y + md x y = x := by
  unfold dv md; rw [Int.mul_comm]; exact Int.mul_fdiv_add_fmod x y
theorem dv_le (x y : Int) : (dv x y).natAbs ≤ x.natAbs := by
  rcases Int.lt_trichotomy y 0 with h | h | h
  · have : dv x y = (-x) / (-y) := by unfold dv; rw [← Int.neg_fdiv_neg, Int.fdiv_eq_ediv_of_nonneg _ (by omega)]
    rw [this]; have := Int.natAbs_ediv_le_natAbs (-x) (-y); omega
  · subst h; unfold dv; rw [Int.fdiv_zero]; omega
  · unfold dv; rw [Int.fdiv_eq_ediv_of_nonneg _ (by omega)]; exact Int.natAbs_ediv_le_natAbs x y
theorem md_le {x y : Int} (h : y ≠ 0) : (md x y).natAbs ≤ y.natAbs := by
  rcases Int.lt_or_gt_of_ne h with h' | h'
  · have := md_neg (x := x) h'; omega
  · have := md_pos (x := x) h'; omega
theorem bigDiv_r {x y q r : Int} {a1 a2 : Option Addr} {c1 c2 : Nat} {w : World} (h1 : BD G w a1 c1 x) (h2 : BD G w a2 c2 y) (hx : Sz x 549755813888) (hy : Sz y 549755813888) (hy0 : y ≠ 0) (hq : dv x y = q) (hr : md x y = r) :
    Calls Tryd.prog 15 #[.agg #[.int .i64 (sg x), .slice a1 (ln x) c1], .agg #[.int .i64 (sg y), .slice a2 (ln y) c2]] w fun e w' => ∃ a c b d, e = .returned (.tuple #[.agg #[.int .i64 (sg q), .slice a (ln q) c], .agg #[.int .i64 (sg r), .slice b (ln r) d], .int .i64 0]) ∧ BD G w' a c q ∧ BD G w' b d r ∧ Below w.heap.size w w' := by
  subst hq hr; exact bigDiv_ok h1 h2 hx hy hy0
theorem gcd_neg {x y gv : Int} (h : ((Nat.gcd x.natAbs y.natAbs : Nat) : Int) = gv) : ((Nat.gcd (-y).natAbs x.natAbs : Nat) : Int) = gv := by
  rw [Int.natAbs_neg, Nat.gcd_comm]; exact h
theorem gcd_left {x y gv : Int} (h : ((Nat.gcd x.natAbs y.natAbs : Nat) : Int) = gv) : md x gv = 0 := by
  subst h; unfold md
  exact Int.fmod_eq_zero_of_dvd (Int.ofNat_dvd_left.2 (Nat.gcd_dvd_left _ _))
theorem gcd_right {x y gv : Int} (h : ((Nat.gcd x.natAbs y.natAbs : Nat) : Int) = gv) : md y gv = 0 := by
  subst h; unfold md
  exact Int.fmod_eq_zero_of_dvd (Int.ofNat_dvd_left.2 (Nat.gcd_dvd_right _ _))
theorem gcd_rest {x y gv : Int} (h : ((Nat.gcd x.natAbs y.natAbs : Nat) : Int) = gv) : ((Nat.gcd x.natAbs (md y x).natAbs : Nat) : Int) = gv := by
  rw [← h]; congr 1
  have e := dv_md y x
  apply Nat.dvd_antisymm
  · apply Nat.dvd_gcd (Nat.gcd_dvd_left _ _)
    rw [← Int.ofNat_dvd_left]
    have h1 : ((Nat.gcd x.natAbs (md y x).natAbs : Nat) : Int) ∣ x := Int.ofNat_dvd_left.2 (Nat.gcd_dvd_left _ _)
    have h2 : ((Nat.gcd x.natAbs (md y x).natAbs : Nat) : Int) ∣ md y x := Int.ofNat_dvd_left.2 (Nat.gcd_dvd_right _ _)
    have := Int.dvd_add (Int.dvd_trans h1 (Int.dvd_mul_left (dv y x) x)) h2
    rwa [e] at this
  · apply Nat.dvd_gcd (Nat.gcd_dvd_left _ _)
    rw [← Int.ofNat_dvd_left]
    have h1 : ((Nat.gcd x.natAbs y.natAbs : Nat) : Int) ∣ x := Int.ofNat_dvd_left.2 (Nat.gcd_dvd_left _ _)
    have h2 : ((Nat.gcd x.natAbs y.natAbs : Nat) : Int) ∣ y := Int.ofNat_dvd_left.2 (Nat.gcd_dvd_right _ _)
    have := Int.dvd_sub h2 (Int.dvd_trans h1 (Int.dvd_mul_left (dv y x) x))
    have e2 : y - dv y x * x = md y x := by omega
    rwa [e2] at this
theorem gcd_times {x y z gv : Int} (h : ((Nat.gcd x.natAbs y.natAbs : Nat) : Int) = gv) : ((Nat.gcd (x * z).natAbs (y * z).natAbs : Nat) : Int) = gv * (z.natAbs : Int) := by
  rw [Int.natAbs_mul, Int.natAbs_mul, Nat.gcd_mul_right, Int.natCast_mul, h]
theorem gcd_zero {x y gv : Int} (h : ((Nat.gcd x.natAbs y.natAbs : Nat) : Int) = gv) : gv = 0 ↔ x = 0 ∧ y = 0 := by
  subst h
  constructor
  · intro h0
    have h1 : Nat.gcd x.natAbs y.natAbs = 0 := by omega
    have := Nat.gcd_eq_zero_iff.1 h1; omega
  · rintro ⟨rfl, rfl⟩; rfl
theorem gcd_le {x y gv : Int} (h : ((Nat.gcd x.natAbs y.natAbs : Nat) : Int) = gv) : gv.natAbs ≤ x.natAbs ∨ gv.natAbs ≤ y.natAbs := by
  subst h
  rw [Int.natAbs_natCast]
  by_cases hx : x = 0
  · subst hx; right; show Nat.gcd 0 y.natAbs ≤ _; rw [Nat.gcd_zero_left]; exact Nat.le_refl _
  · left; exact Nat.le_of_dvd (by omega) (Nat.gcd_dvd_left _ _)

theorem gcd_pos {x y gv : Int} (h : ((Nat.gcd x.natAbs y.natAbs : Nat) : Int) = gv) (h0 : x ≠ 0 ∨ y ≠ 0) : 0 < gv := by
  have := mt (gcd_zero h).1 (by omega); omega

set_option maxRecDepth 100000 in
set_option maxHeartbeats 4000000 in
theorem gcd_not {sa sb sc : Int} {la lb lc : List Int} {a1 a2 a3 : Option Addr} {c1 c2 c3 : Nat} {w : World} (hG : G ≤ w.heap.size) (ht : Tab w) (h1 : RdZ w (.slice a1 la.length c1) la) (h2 : RdZ w (.slice a2 lb.length c2) lb) (h3 : RdZ w (.slice a3 lc.length c3) lc) (hn : (decide ((la.length : Int) ≤ 12) && (decide ((lb.length : Int) ≤ 12) && (decide ((lc.length : Int) ≤ 4) && (rightB sa la && (rightB sb lb && rightB sc lc))))) = false) :
    Calls Tryd.prog 3 #[.agg #[.int .i64 sa, .slice a1 la.length c1], .agg #[.int .i64 sb, .slice a2 lb.length c2], .agg #[.int .i64 sc, .slice a3 lc.length c3]] w fun e w' => e = .returned (.bool true) ∧ Below w.heap.size w w' := by
  obtain ⟨fa, hfa⟩ : ∃ b, decide ((la.length : Int) ≤ 12) = b := ⟨_, rfl⟩
  obtain ⟨fb, hfb⟩ : ∃ b, decide ((lb.length : Int) ≤ 12) = b := ⟨_, rfl⟩
  obtain ⟨fc, hfc⟩ : ∃ b, decide ((lc.length : Int) ≤ 4) = b := ⟨_, rfl⟩
  obtain ⟨ra, hra⟩ : ∃ b, rightB sa la = b := ⟨_, rfl⟩
  obtain ⟨rb, hrb⟩ : ∃ b, rightB sb lb = b := ⟨_, rfl⟩
  obtain ⟨rc, hrc⟩ : ∃ b, rightB sc lc = b := ⟨_, rfl⟩
  rw [hfa, hfb, hfc, hra, hrb, hrc] at hn
  have HFa := Lib.hid hfa; have HFb := Lib.hid hfb; have HFc := Lib.hid hfc; have HRa := Lib.hid hra; have HRb := Lib.hid hrb; have HRc := Lib.hid hrc; have HN := Lib.hid hn
  clear hn hfa hfb hfc hra hrb hrc
  have HT : Hid (Tab w) := ht
  have H1 : Hid (RdZ w (.slice a1 la.length c1) la) := h1
  have H2 : Hid (RdZ w (.slice a2 lb.length c2) lb) := h2
  have H3 : Hid (RdZ w (.slice a3 lc.length c3) lc) := h3
  clear ht h1 h2 h3
  have M : Hid (Below w.heap.size w w) := Below.refl _ _
  go_enter Tryd.func3, Tryd.ntmps3
  go_upto_region 1 with fail
  obtain ⟨w1, hv⟩ : ∃ w_ : World, w_ = (((w.alloc (.cells #[.int .i64 sa, .slice a1 la.length c1] 24)).alloc (.cells #[.int .i64 sb, .slice a2 lb.length c2] 24)).alloc (.cells #[.int .i64 sc, .slice a3 lc.length c3] 24)) := ⟨_, rfl⟩
  rw [← hv]
  have hbx := bx3 w 24 24 24 #[.int .i64 sa, .slice a1 la.length c1] #[.int .i64 sb, .slice a2 lb.length c2] #[.int .i64 sc, .slice a3 lc.length c3]
  rw [← hv] at hbx
  have hbn : Below w.heap.size w w1 := by rw [hv]; exact (Below.alloc (Below.alloc (Below.alloc (Below.refl _ _) (by simp <;> omega) _) (by simp <;> omega) _) (by simp <;> omega) _)
  replace M := Lib.hid (And.intro hbx.2.2 (And.intro hbx.2.1 (And.intro hbx.1 (Goes.go M.out hbn))))
  clear hbx hbn
  clear hv
  go_wp2_with fail
  refine (small_ok (G := G) (Nat.le_trans hG (M.out.2.2.2).size) (HT.out.keep (M.out.2.2.2))).mono ?_
  rintro e w2 ⟨rfl, hb⟩
  replace M := Lib.hid (Goes.go M.out hb)
  clear hb
  obtain ⟨p0_0, q0_0, p0_1, q0_1⟩ := (M.out.2.2.1).c2
  go_wp2_with fail
  clear p0_0 q0_0 p0_1 q0_1
  refine (bigFew_ok (s := sa) (m := 12) (b := fa) HFa.out).mono ?_
  rintro e w3 ⟨rfl, hb⟩
  replace M := Lib.hid (Goes.go M.out hb)
  clear hb
  cases fa with
  | false =>
    go_wp2_with fail
    go_ret
    exact ⟨rfl, (M.out.2.2.2)⟩
  | true =>
    obtain ⟨p1_0, q1_0, p1_1, q1_1⟩ := (M.out.2.1).c2
    go_wp2_with fail
    clear p1_0 q1_0 p1_1 q1_1
    refine (bigFew_ok (s := sb) (m := 12) (b := fb) HFb.out).mono ?_
    rintro e w4 ⟨rfl, hb⟩
    replace M := Lib.hid (Goes.go M.out hb)
    clear hb
    cases fb with
    | false =>
      go_wp2_with fail
      go_ret
      exact ⟨rfl, (M.out.2.2.2)⟩
    | true =>
      obtain ⟨p2_0, q2_0, p2_1, q2_1⟩ := (M.out.1).c2
      go_wp2_with fail
      clear p2_0 q2_0 p2_1 q2_1
      refine (bigFew_ok (s := sc) (m := 4) (b := fc) HFc.out).mono ?_
      rintro e w5 ⟨rfl, hb⟩
      replace M := Lib.hid (Goes.go M.out hb)
      clear hb
      cases fc with
      | false =>
        go_wp2_with fail
        go_ret
        exact ⟨rfl, (M.out.2.2.2)⟩
      | true =>
        obtain ⟨p0_0, q0_0, p0_1, q0_1⟩ := (M.out.2.2.1).c2
        go_wp2_with fail
        clear p0_0 q0_0 p0_1 q0_1
        refine (bigRight_len (s := sa) (b := ra) (H1.out.keep (M.out.2.2.2)) (len_of HFa.out (by decide)) HRa.out).mono ?_
        rintro e w6 ⟨rfl, hb⟩
        replace M := Lib.hid (Goes.go M.out hb)
        clear hb
        cases ra with
        | false =>
          go_wp2_with fail
          go_ret
          exact ⟨rfl, (M.out.2.2.2)⟩
        | true =>
          obtain ⟨p1_0, q1_0, p1_1, q1_1⟩ := (M.out.2.1).c2
          go_wp2_with fail
          clear p1_0 q1_0 p1_1 q1_1
          refine (bigRight_len (s := sb) (b := rb) (H2.out.keep (M.out.2.2.2)) (len_of HFb.out (by decide)) HRb.out).mono ?_
          rintro e w7 ⟨rfl, hb⟩
          replace M := Lib.hid (Goes.go M.out hb)
          clear hb
          cases rb with
          | false =>
            go_wp2_with fail
            go_ret
            exact ⟨rfl, (M.out.2.2.2)⟩
          | true =>
            obtain ⟨p2_0, q2_0, p2_1, q2_1⟩ := (M.out.1).c2
            go_wp2_with fail
            clear p2_0 q2_0 p2_1 q2_1
            refine (bigRight_len (s := sc) (b := rc) (H3.out.keep (M.out.2.2.2)) (len_of HFc.out (by decide)) HRc.out).mono ?_
            rintro e w8 ⟨rfl, hb⟩
            replace M := Lib.hid (Goes.go M.out hb)
            clear hb
            cases rc with
            | false =>
              go_wp2_with fail
              go_ret
              exact ⟨rfl, (M.out.2.2.2)⟩
            | true =>
              go_upto_region 4 with fail
              exact absurd HN.out (by decide)

set_option maxRecDepth 100000 in
set_option maxHeartbeats 8000000 in
theorem gcd_one {x y z : Int} {a1 a2 a3 : Option Addr} {c1 c2 c3 : Nat} {w : World} (hG : G ≤ w.heap.size) (ht : Tab w) (h1 : BD G w a1 c1 x) (h2 : BD G w a2 c2 y) (h3 : BD G w a3 c3 z) (hx : Sz x 12) (hy : Sz y 12) (hz : Sz z 4) (hx0 : x ≠ 0)  :
    Calls Tryd.prog 3 #[.agg #[.int .i64 (sg x), .slice a1 (ln x) c1], .agg #[.int .i64 (sg y), .slice a2 (ln y) c2], .agg #[.int .i64 (sg z), .slice a3 (ln z) c3]] w fun e w' => e = .returned (.bool true) ∧ Below w.heap.size w w' := by
  obtain ⟨gv, hgv⟩ : ∃ g, ((Nat.gcd x.natAbs y.natAbs : Nat) : Int) = g := ⟨_, rfl⟩
  obtain ⟨kv, hkv⟩ : ∃ k, gv * (z.natAbs : Int) = k := ⟨_, rfl⟩
  obtain ⟨q1, hq1⟩ : ∃ q, dv x gv = q := ⟨_, rfl⟩
  obtain ⟨q2, hq2⟩ : ∃ q, dv y gv = q := ⟨_, rfl⟩
  obtain ⟨q3, hq3⟩ : ∃ q, dv y x = q := ⟨_, rfl⟩
  obtain ⟨r, hr⟩ : ∃ q, md y x = q := ⟨_, rfl⟩
  obtain ⟨bc, hbc⟩ : ∃ b, decide (sg z < 0) = b := ⟨_, rfl⟩
  have hg0 : 0 ≤ gv := by omega
  have f0 : (sg 0 == 0) = true := rfl
  have f1 : (sg 0 != 0) = false := rfl
  have f2 : decide (sg gv < 0) = false := by rw [decide_eq_false_iff_not]; rcases Int.lt_or_eq_of_le hg0 with h | h; rw [sg_pos h]; decide; rw [← h]; decide
  have nx : sg x ≠ 0 := by intro h; have := abs_sg x; rw [h, Int.zero_mul] at this; exact (hx0) this
  have ex : (sg x == 0) = false := by rw [beq_eq_false_iff_ne]; exact nx
  have dx : (sg x != 0) = true := by rw [bne_iff_ne]; exact nx
  clear nx
  have hgp : 0 < gv := gcd_pos hgv (.inl hx0)
  have ng : sg gv ≠ 0 := by intro h; have := abs_sg gv; rw [h, Int.zero_mul] at this; exact (show gv ≠ 0 by omega) this
  have eg : (sg gv == 0) = false := by rw [beq_eq_false_iff_ne]; exact ng
  have dg : (sg gv != 0) = true := by rw [bne_iff_ne]; exact ng
  clear ng
  have HSG : Hid (Sz gv 12) := by
    show Sz _ _
    rcases gcd_le hgv with h | h
    · exact hx.le h
    · exact hy.le h
  have HSK : Hid (Sz kv 16) := by
    show Sz _ _; rw [← hkv]
    exact Sz.mul (n := 12) (m := 4) HSG.out (by unfold Sz; rw [Int.natAbs_natCast]; exact hz)
  have HSR : Hid (Sz r 12) := by show Sz _ _; rw [← hr]; exact hx.le (md_le hx0)
  have HSQ1 : Hid (Sz q1 12) := by show Sz _ _; rw [← hq1]; exact hx.le (dv_le _ _)
  have HSQ2 : Hid (Sz q2 12) := by show Sz _ _; rw [← hq2]; exact hy.le (dv_le _ _)
  have HSQ3 : Hid (Sz q3 12) := by show Sz _ _; rw [← hq3]; exact hy.le (dv_le _ _)
  have HG1 := Lib.hid hgv
  have HG2 := Lib.hid (gcd_neg hgv)
  have HM1 := Lib.hid (gcd_left hgv)
  have HM2 := Lib.hid (gcd_right hgv)
  have hg3 := gcd_rest hgv
  rw [hr] at hg3
  have HG3 := Lib.hid hg3
  have hg4 := gcd_times (z := z) hgv
  rw [hkv] at hg4
  have HG4 := Lib.hid hg4
  have HC : Hid (kv = if bc = true then -(gv * z) else gv * z) := by
    show _ = _
    rw [← hkv, ← hbc]
    rcases Int.lt_trichotomy z 0 with h | h | h
    · rw [sg_neg h, if_pos (by decide), show (z.natAbs : Int) = -z by omega, Int.mul_neg]
    · subst h; simp [sg]
    · rw [sg_pos h, if_neg (by decide), show (z.natAbs : Int) = z by omega]
  have HQ1 := Lib.hid hq1; have HQ2 := Lib.hid hq2; have HQ3 := Lib.hid hq3; have HR := Lib.hid hr
  have HGN : Hid (gv ≠ 0) := by show _ ≠ _; omega
  clear hgp
  have HXN := Lib.hid hx0
  clear hgv hkv hq1 hq2 hq3 hr hg0 hg3 hg4 hx0
  have HX := Lib.hid hx; have HY := Lib.hid hy; have HZ := Lib.hid hz
  clear hx hy hz
  have HT : Hid (Tab w) := ht
  have H1 : Hid (BD G w a1 c1 x) := h1
  have H2 : Hid (BD G w a2 c2 y) := h2
  have H3 : Hid (BD G w a3 c3 z) := h3
  clear ht h1 h2 h3
  have M : Hid (Below w.heap.size w w) := Below.refl _ _
  go_enter Tryd.func3, Tryd.ntmps3
  go_upto_region 1 with fail
  obtain ⟨w1, hv⟩ : ∃ w_ : World, w_ = (((w.alloc (.cells #[.int .i64 (sg x), .slice a1 (ln x) c1] 24)).alloc (.cells #[.int .i64 (sg y), .slice a2 (ln y) c2] 24)).alloc (.cells #[.int .i64 (sg z), .slice a3 (ln z) c3] 24)) := ⟨_, rfl⟩
  rw [← hv]
  have hbx := bx3 w 24 24 24 #[.int .i64 (sg x), .slice a1 (ln x) c1] #[.int .i64 (sg y), .slice a2 (ln y) c2] #[.int .i64 (sg z), .slice a3 (ln z) c3]
  rw [← hv] at hbx
  have hbn : Below w.heap.size w w1 := by rw [hv]; exact (Below.alloc (Below.alloc (Below.alloc (Below.refl _ _) (by simp <;> omega) _) (by simp <;> omega) _) (by simp <;> omega) _)
  replace M := Lib.hid (And.intro hbx.2.2 (And.intro hbx.2.1 (And.intro hbx.1 (Goes.go M.out hbn))))
  clear hbx hbn
  clear hv
  go_wp2_with fail
  refine (small_ok (G := G) (Nat.le_trans hG (M.out.2.2.2).size) (HT.out.keep (M.out.2.2.2))).mono ?_
  rintro e w2 ⟨rfl, hb⟩
  replace M := Lib.hid (Goes.go M.out hb)
  clear hb
  obtain ⟨p0_0, q0_0, p0_1, q0_1⟩ := (M.out.2.2.1).c2
  go_wp2_with fail
  clear p0_0 q0_0 p0_1 q0_1
  refine (bigFew_ok (s := (sg x)) (m := 12) (b := true) (few_sz HX.out rfl)).mono ?_
  rintro e w3 ⟨rfl, hb⟩
  replace M := Lib.hid (Goes.go M.out hb)
  clear hb
  obtain ⟨p1_0, q1_0, p1_1, q1_1⟩ := (M.out.2.1).c2
  go_wp2_with fail
  clear p1_0 q1_0 p1_1 q1_1
  refine (bigFew_ok (s := (sg y)) (m := 12) (b := true) (few_sz HY.out rfl)).mono ?_
  rintro e w4 ⟨rfl, hb⟩
  replace M := Lib.hid (Goes.go M.out hb)
  clear hb
  obtain ⟨p2_0, q2_0, p2_1, q2_1⟩ := (M.out.1).c2
  go_wp2_with fail
  clear p2_0 q2_0 p2_1 q2_1
  refine (bigFew_ok (s := (sg z)) (m := 4) (b := true) (few_sz HZ.out rfl)).mono ?_
  rintro e w5 ⟨rfl, hb⟩
  replace M := Lib.hid (Goes.go M.out hb)
  clear hb
  obtain ⟨p0_0, q0_0, p0_1, q0_1⟩ := (M.out.2.2.1).c2
  go_wp2_with fail
  clear p0_0 q0_0 p0_1 q0_1
  refine (bigRight_ok (G := G) (z := x) (H1.out.keep (M.out.2.2.2)) (Sz.mono HX.out (by omega))).mono ?_
  rintro e w6 ⟨rfl, hb⟩
  replace M := Lib.hid (Goes.go M.out hb)
  clear hb
  obtain ⟨p1_0, q1_0, p1_1, q1_1⟩ := (M.out.2.1).c2
  go_wp2_with fail
  clear p1_0 q1_0 p1_1 q1_1
  refine (bigRight_ok (G := G) (z := y) (H2.out.keep (M.out.2.2.2)) (Sz.mono HY.out (by omega))).mono ?_
  rintro e w7 ⟨rfl, hb⟩
  replace M := Lib.hid (Goes.go M.out hb)
  clear hb
  obtain ⟨p2_0, q2_0, p2_1, q2_1⟩ := (M.out.1).c2
  go_wp2_with fail
  clear p2_0 q2_0 p2_1 q2_1
  refine (bigRight_ok (G := G) (z := z) (H3.out.keep (M.out.2.2.2)) (Sz.mono HZ.out (by omega))).mono ?_
  rintro e w8 ⟨rfl, hb⟩
  replace M := Lib.hid (Goes.go M.out hb)
  clear hb
  obtain ⟨p0_0, q0_0, p0_1, q0_1⟩ := (M.out.2.2.1).c2
  obtain ⟨p1_0, q1_0, p1_1, q1_1⟩ := (M.out.2.1).c2
  go_wp2_with fail
  clear p0_0 q0_0 p0_1 q0_1 p1_0 q1_0 p1_1 q1_1
  refine (bigGcd_is (G := G) (x := x) (y := y) (g := gv) (H1.out.keep (M.out.2.2.2)) (H2.out.keep (M.out.2.2.2)) (Sz.mono HX.out (by omega)) (Sz.mono HY.out (by omega)) (by exact HG1.out)).mono ?_
  rintro e w9 ⟨a_1, c_2, rfl, hd3, hb⟩
  replace M := Lib.hid (And.intro hd3 (Goes.go M.out hb))
  clear hb hd3
  go_wp2_with fail
  obtain ⟨w10, hv⟩ : ∃ w_ : World, w_ = (w9.alloc (.cells #[.int .i64 (sg gv), .slice a_1 (ln gv) c_2] 24)) := ⟨_, rfl⟩
  rw [← hv]
  have o3 : w.heap.size + 1 + 1 < w9.heap.size := ((M.out.2.1)).lt
  replace M := Lib.hid (And.intro (hv ▸ bx1 w9 24 #[.int .i64 (sg gv), .slice a_1 (ln gv) c_2]) (Goes.go M.out (hv ▸ below_alloc _ _ : Below w9.heap.size w9 w10)))
  clear hv
  obtain ⟨w11, hv⟩ : ∃ w_ : World, w_ = w10.drew := ⟨_, rfl⟩
  replace M := Lib.hid (Goes.go M.out (hv ▸ below_drew _ : Below w10.heap.size w10 w11))
  refine wp_region_held_drew (S := (fun w' => w'.cell? ⟨w.heap.size, 0, none⟩ = some (.int .i64 (sg x)) ∧ w'.cell? ⟨w.heap.size, 1, none⟩ = some (.slice a1 (ln x) c1) ∧ w'.cell? ⟨w.heap.size + 1, 0, none⟩ = some (.int .i64 (sg y)) ∧ w'.cell? ⟨w.heap.size + 1, 1, none⟩ = some (.slice a2 (ln y) c2))) (by kernel_rfl) (by rw [← hv]; exact ⟨(M.out.2.2.2.2.1).at.1 0, (M.out.2.2.2.2.1).at.1 1, (M.out.2.2.2.1).at.1 0, (M.out.2.2.2.1).at.1 1⟩) (fun hH11 => ?_)
  rw [← hv] at hH11 ⊢
  clear hv
  refine tk at0 ?_
  refine tk at2 ?_
  refine wpAnyH_ready (rs := [1, 7]) (by kernel_rfl) (by simp) ?_
  refine AllReadyH.cons at1 (fun K hK => ?_) ?_
  ·
    go_simp
    obtain ⟨z14, ez14⟩ : ∃ v_ : Int, v_ = (-y) := ⟨_, rfl⟩
    refine (bigNeg_ok (G := G) (x := y) (H2.out.keep (M.out.2.2.2.2.2)) (Sz.mono HY.out (by omega))).mono ?_
    rintro e w12 ⟨a_12, c_13, rfl, hd15, hb⟩
    rw [← ez14] at hd15 ⊢
    have Sz14 : Hid (Sz z14 12) := by show Sz z14 12; rw [ez14]; exact (Sz.neg HY.out)
    have Ez14 := Lib.hid ez14; clear ez14
    replace M := Lib.hid (And.intro hd15 (Goes.go M.out hb))
    clear hb hd15
    (try go_wp2_with fail)
    refine hK.out _ _ (⟨(M.out.2.2.2.2.2.1).at.1 0, (M.out.2.2.2.2.2.1).at.1 1, (M.out.2.2.2.2.1).at.1 0, (M.out.2.2.2.2.1).at.1 1⟩) (fun hH16 => ?_)
    clear hK K hH11
    (try simp only [Act.put, List.setIfInBounds_toArray, List.set_cons_zero, List.set_cons_succ])
    refine wpAnyH_ready (rs := [3, 7]) (by kernel_rfl) (by simp) ?_
    refine AllReadyH.cons at3 (fun K hK => ?_) ?_
    ·
      go_simp
      refine (bigGcd_is (G := G) (x := z14) (y := x) (g := gv) (M.out.1) (H1.out.keep (M.out.2.2.2.2.2.2)) (Sz.mono Sz14.out (by omega)) (Sz.mono HX.out (by omega)) (by rw [Ez14.out]; exact HG2.out)).mono ?_
      rintro e w13 ⟨a_17, c_18, rfl, hd19, hb⟩
      replace M := Lib.hid (And.intro hd19 (Goes.go M.out hb))
      clear hb hd19
      (try go_wp2_with fail)
      refine hK.out _ _ (⟨(M.out.2.2.2.2.2.2.1).at.1 0, (M.out.2.2.2.2.2.2.1).at.1 1, (M.out.2.2.2.2.2.1).at.1 0, (M.out.2.2.2.2.2.1).at.1 1⟩) (fun hH20 => ?_)
      clear hK K hH16
      (try simp only [Act.put, List.setIfInBounds_toArray, List.set_cons_zero, List.set_cons_succ])
      refine tk at4 ?_
      refine tk at5 ?_
      refine tk at6 ?_
      refine wpAnyH_ready (rs := [7]) (by kernel_rfl) (by simp) ?_
      refine AllReadyH.cons at7 (fun K hK => ?_) AllReadyH.nil
      go_simp
      obtain ⟨w14, hv⟩ : ∃ w_ : World, w_ = (w13.alloc (.cells #[.int .i64 0, .slice none 0 0] 24)) := ⟨_, rfl⟩
      rw [← hv]
      have o4 : w9.heap.size < w13.heap.size := ((M.out.2.2.1)).lt
      replace M := Lib.hid (And.intro (hv ▸ bx1 w13 24 #[.int .i64 0, .slice none 0 0]) (Goes.go M.out (hv ▸ below_alloc _ _ : Below w13.heap.size w13 w14)))
      clear hv
      refine hK.out _ _ (⟨(M.out.2.2.2.2.2.2.2.1).at.1 0, (M.out.2.2.2.2.2.2.2.1).at.1 1, (M.out.2.2.2.2.2.2.1).at.1 0, (M.out.2.2.2.2.2.2.1).at.1 1⟩) (fun hH21 => ?_)
      clear hK K hH20
      (try simp only [Act.put, List.setIfInBounds_toArray, List.set_cons_zero, List.set_cons_succ])
      refine wpAnyH_ready (rs := [8]) (by kernel_rfl) (by simp) ?_
      refine AllReadyH.cons at8 (fun K hK => ?_) AllReadyH.nil
      obtain ⟨p4_0, q4_0, p4_1, q4_1⟩ := (M.out.1).c2
      go_simp
      clear p4_0 q4_0 p4_1 q4_1
      obtain ⟨w15, hv⟩ : ∃ w_ : World, w_ = ((w14.setCell ⟨w13.heap.size, 0, none⟩ (.int .i64 (sg gv))).setCell ⟨w13.heap.size, 1, none⟩ (.slice a_17 (ln gv) c_18)) := ⟨_, rfl⟩
      rw [← hv]
      have og : w14.grownBy w15 (some w13.heap.size) := by rw [hv]; exact (only_setCell (only_setCell (World.grownBy.refl _ _) _) _)
      have hz : w.heap.size ≤ w13.heap.size := by omega
      have hk : Bx w15 w13.heap.size 24 #[.int .i64 (sg gv), .slice a_17 (ln gv) c_18] := by rw [hv]; exact (((M.out.1).set 0 _).set 1 _)
      have hbw : Below w.heap.size w w15 := by rw [hv]; exact (Below.setCell (Below.setCell (M.out.2.2.2.2.2.2.2.2) (by omega) _) (by omega) _)
      replace M := Lib.hid (And.intro hk (And.intro ((M.out.2.1).far (M.out.1) (by rfl) (by omega) og) (And.intro ((M.out.2.2.1).far (M.out.1) (by rfl) (by omega) og) (And.intro ((M.out.2.2.2.1).only og (by omega)) (And.intro ((M.out.2.2.2.2.1).far (M.out.1) (by rfl) (by omega) og) (And.intro ((M.out.2.2.2.2.2.1).only og (by omega)) (And.intro ((M.out.2.2.2.2.2.2.1).only og (by omega)) (And.intro ((M.out.2.2.2.2.2.2.2.1).only og (by omega)) hbw))))))))
      clear hk hbw og hv hz
      refine hK.out _ _ (⟨(M.out.2.2.2.2.2.2.2.1).at.1 0, (M.out.2.2.2.2.2.2.2.1).at.1 1, (M.out.2.2.2.2.2.2.1).at.1 0, (M.out.2.2.2.2.2.2.1).at.1 1⟩) (fun hH22 => ?_)
      clear hK K hH21
      (try simp only [Act.put, List.setIfInBounds_toArray, List.set_cons_zero, List.set_cons_succ])
      refine tk at9 ?_
      refine wpAnyH_done (by kernel_rfl) ?_ _
      clear hH22
      obtain ⟨p3_0, q3_0, p3_1, q3_1⟩ := (M.out.2.2.2.1).c2
      obtain ⟨p4_0, q4_0, p4_1, q4_1⟩ := (M.out.1).c2
      go_wp2_with fail
      clear p3_0 q3_0 p3_1 q3_1 p4_0 q4_0 p4_1 q4_1
      refine (bigSame_is (G := G) (x := gv) (y := gv) (b := true) (M.out.2.2.2.2.1) (M.out.2.1) (Sz.mono HSG.out (by omega)) (Sz.mono HSG.out (by omega)) (eqZ_of rfl)).mono ?_
      rintro e w16 ⟨rfl, hb⟩
      replace M := Lib.hid (Goes.go M.out hb)
      clear hb
      obtain ⟨p3_0, q3_0, p3_1, q3_1⟩ := (M.out.2.2.2.1).c2
      obtain ⟨p0_0, q0_0, p0_1, q0_1⟩ := (M.out.2.2.2.2.2.2.2.1).c2
      go_wp2_with fail
      clear p3_0 q3_0 p3_1 q3_1 p0_0 q0_0 p0_1 q0_1
      refine (bigDiv_r (G := G) (x := x) (y := gv) (q := q1) (r := 0) (H1.out.keep (M.out.2.2.2.2.2.2.2.2)) (M.out.2.2.2.2.1) (Sz.mono HX.out (by omega)) (Sz.mono HSG.out (by omega)) HGN.out HQ1.out HM1.out).mono ?_
      rintro e w17 ⟨a_23, c_24, b_25, d_26, rfl, hd27, hd28, hb⟩
      replace M := Lib.hid (And.intro hd27 (And.intro hd28 (Goes.go M.out hb)))
      clear hb hd27 hd28
      go_upto_region 10 with fail
      obtain ⟨w18, hv⟩ : ∃ w_ : World, w_ = ((w17.alloc (.cells #[.int .i64 (sg q1), .slice a_23 (ln q1) c_24] 24)).alloc (.cells #[.int .i64 (sg 0), .slice b_25 (ln 0) d_26] 24)) := ⟨_, rfl⟩
      rw [← hv]
      have o5 : w13.heap.size < w17.heap.size := ((M.out.2.2.1)).lt
      have hbx := bx2 w17 24 24 #[.int .i64 (sg q1), .slice a_23 (ln q1) c_24] #[.int .i64 (sg 0), .slice b_25 (ln 0) d_26]
      rw [← hv] at hbx
      have hbn : Below w17.heap.size w17 w18 := by rw [hv]; exact (Below.alloc (Below.alloc (Below.refl _ _) (by simp <;> omega) _) (by simp <;> omega) _)
      replace M := Lib.hid (And.intro hbx.2 (And.intro hbx.1 (Goes.go M.out hbn)))
      clear hbx hbn
      clear hv
      obtain ⟨p1_0, q1_0, p1_1, q1_1⟩ := (M.out.2.2.2.2.2.2.2.2.2.2.1).c2
      obtain ⟨p3_0, q3_0, p3_1, q3_1⟩ := (M.out.2.2.2.2.2.2.2.1).c2
      go_wp2_with fail
      clear p1_0 q1_0 p1_1 q1_1 p3_0 q3_0 p3_1 q3_1
      replace M := Lib.hid (And.intro (M.out.1) (And.intro (M.out.2.2.2.1) (And.intro (M.out.2.2.2.2.2.2.2.1) (And.intro (M.out.2.2.2.2.2.2.2.2.1) (And.intro (M.out.2.2.2.2.2.2.2.2.2.1) (And.intro (M.out.2.2.2.2.2.2.2.2.2.2.1) (And.intro (M.out.2.2.2.2.2.2.2.2.2.2.2.1) (M.out.2.2.2.2.2.2.2.2.2.2.2.2))))))))
      refine (bigDiv_r (G := G) (x := y) (y := gv) (q := q2) (r := 0) (H2.out.keep (M.out.2.2.2.2.2.2.2)) (M.out.2.2.2.1) (Sz.mono HY.out (by omega)) (Sz.mono HSG.out (by omega)) HGN.out HQ2.out HM2.out).mono ?_
      rintro e w19 ⟨a_29, c_30, b_31, d_32, rfl, hd33, hd34, hb⟩
      replace M := Lib.hid (And.intro hd33 (And.intro hd34 (Goes.go M.out hb)))
      clear hb hd33 hd34
      go_upto_region 11 with fail
      obtain ⟨w20, hv⟩ : ∃ w_ : World, w_ = ((w19.alloc (.cells #[.int .i64 (sg q2), .slice a_29 (ln q2) c_30] 24)).alloc (.cells #[.int .i64 (sg 0), .slice b_31 (ln 0) d_32] 24)) := ⟨_, rfl⟩
      rw [← hv]
      have o7 : w17.heap.size + 1 < w19.heap.size := ((M.out.2.2.1)).lt
      have hbx := bx2 w19 24 24 #[.int .i64 (sg q2), .slice a_29 (ln q2) c_30] #[.int .i64 (sg 0), .slice b_31 (ln 0) d_32]
      rw [← hv] at hbx
      have hbn : Below w19.heap.size w19 w20 := by rw [hv]; exact (Below.alloc (Below.alloc (Below.refl _ _) (by simp <;> omega) _) (by simp <;> omega) _)
      replace M := Lib.hid (And.intro hbx.2 (And.intro hbx.1 (Goes.go M.out hbn)))
      clear hbx hbn
      clear hv
      obtain ⟨p6_0, q6_0, p6_1, q6_1⟩ := (M.out.2.2.2.2.1).c2
      obtain ⟨p8_0, q8_0, p8_1, q8_1⟩ := (M.out.1).c2
      obtain ⟨p0_0, q0_0, p0_1, q0_1⟩ := (M.out.2.2.2.2.2.2.2.2.2.2.1).c2
      obtain ⟨p1_0, q1_0, p1_1, q1_1⟩ := (M.out.2.2.2.2.2.2.2.2.2.1).c2
      go_wp2_with fail
      clear p6_0 q6_0 p6_1 q6_1 p8_0 q8_0 p8_1 q8_1 p0_0 q0_0 p0_1 q0_1 p1_0 q1_0 p1_1 q1_1
      replace M := Lib.hid (And.intro (M.out.2.2.2.2.2.2.1) (And.intro (M.out.2.2.2.2.2.2.2.1) (And.intro (M.out.2.2.2.2.2.2.2.2.1) (And.intro (M.out.2.2.2.2.2.2.2.2.2.1) (And.intro (M.out.2.2.2.2.2.2.2.2.2.2.1) (M.out.2.2.2.2.2.2.2.2.2.2.2))))))
      refine (bigDiv_r (G := G) (x := y) (y := x) (q := q3) (r := r) (H2.out.keep (M.out.2.2.2.2.2)) (H1.out.keep (M.out.2.2.2.2.2)) (Sz.mono HY.out (by omega)) (Sz.mono HX.out (by omega)) HXN.out HQ3.out HR.out).mono ?_
      rintro e w21 ⟨a_35, c_36, b_37, d_38, rfl, hd39, hd40, hb⟩
      replace M := Lib.hid (And.intro hd39 (And.intro hd40 (Goes.go M.out hb)))
      clear hb hd39 hd40
      go_upto_region 15 with fail
      obtain ⟨w22, hv⟩ : ∃ w_ : World, w_ = ((w21.alloc (.cells #[.int .i64 (sg q3), .slice a_35 (ln q3) c_36] 24)).alloc (.cells #[.int .i64 (sg r), .slice b_37 (ln r) d_38] 24)) := ⟨_, rfl⟩
      rw [← hv]
      have o9 : w9.heap.size < w21.heap.size := ((M.out.2.2.1)).lt
      have hbx := bx2 w21 24 24 #[.int .i64 (sg q3), .slice a_35 (ln q3) c_36] #[.int .i64 (sg r), .slice b_37 (ln r) d_38]
      rw [← hv] at hbx
      have hbn : Below w21.heap.size w21 w22 := by rw [hv]; exact (Below.alloc (Below.alloc (Below.refl _ _) (by simp <;> omega) _) (by simp <;> omega) _)
      replace M := Lib.hid (And.intro hbx.2 (And.intro hbx.1 (Goes.go M.out hbn)))
      clear hbx hbn
      clear hv
      obtain ⟨p0_0, q0_0, p0_1, q0_1⟩ := (M.out.2.2.2.2.2.2.2.2.1).c2
      obtain ⟨p10_0, q10_0, p10_1, q10_1⟩ := (M.out.1).c2
      go_wp2_with fail
      clear p0_0 q0_0 p0_1 q0_1 p10_0 q10_0 p10_1 q10_1
      refine (bigGcd_is (G := G) (x := x) (y := r) (g := gv) (H1.out.keep (M.out.2.2.2.2.2.2.2.2.2)) (M.out.2.2.2.1) (Sz.mono HX.out (by omega)) (Sz.mono HSR.out (by omega)) (by exact HG3.out)).mono ?_
      rintro e w23 ⟨a_41, c_42, rfl, hd43, hb⟩
      replace M := Lib.hid (And.intro hd43 (Goes.go M.out hb))
      clear hb hd43
      go_upto_region 16 with fail
      obtain ⟨w24, hv⟩ : ∃ w_ : World, w_ = (w23.alloc (.cells #[.int .i64 (sg gv), .slice a_41 (ln gv) c_42] 24)) := ⟨_, rfl⟩
      rw [← hv]
      have o11 : w21.heap.size + 1 < w23.heap.size := ((M.out.2.1)).lt
      replace M := Lib.hid (And.intro (hv ▸ bx1 w23 24 #[.int .i64 (sg gv), .slice a_41 (ln gv) c_42]) (Goes.go M.out (hv ▸ below_alloc _ _ : Below w23.heap.size w23 w24)))
      clear hv
      obtain ⟨p11_0, q11_0, p11_1, q11_1⟩ := (M.out.1).c2
      obtain ⟨p3_0, q3_0, p3_1, q3_1⟩ := (M.out.2.2.2.2.2.2.1).c2
      go_wp2_with fail
      clear p11_0 q11_0 p11_1 q11_1 p3_0 q3_0 p3_1 q3_1
      replace M := Lib.hid (And.intro (M.out.2.1) (And.intro (M.out.2.2.2.2.2.2.1) (And.intro (M.out.2.2.2.2.2.2.2.1) (And.intro (M.out.2.2.2.2.2.2.2.2.1) (And.intro (M.out.2.2.2.2.2.2.2.2.2.1) (And.intro (M.out.2.2.2.2.2.2.2.2.2.2.1) (M.out.2.2.2.2.2.2.2.2.2.2.2)))))))
      refine (bigSame_is (G := G) (x := gv) (y := gv) (b := true) (M.out.1) (M.out.2.2.1) (Sz.mono HSG.out (by omega)) (Sz.mono HSG.out (by omega)) (eqZ_of rfl)).mono ?_
      rintro e w25 ⟨rfl, hb⟩
      replace M := Lib.hid (Goes.go M.out hb)
      clear hb
      obtain ⟨p0_0, q0_0, p0_1, q0_1⟩ := (M.out.2.2.2.2.2.1).c2
      obtain ⟨p2_0, q2_0, p2_1, q2_1⟩ := (M.out.2.2.2.1).c2
      go_wp2_with fail
      clear p0_0 q0_0 p0_1 q0_1 p2_0 q2_0 p2_1 q2_1
      obtain ⟨z46, ez46⟩ : ∃ v_ : Int, v_ = (x * z) := ⟨_, rfl⟩
      refine (bigMul_ok (G := G) (x := x) (y := z) (H1.out.keep (M.out.2.2.2.2.2.2)) (H3.out.keep (M.out.2.2.2.2.2.2)) (Sz.mono HX.out (by omega)) (Sz.mono HZ.out (by omega))).mono ?_
      rintro e w26 ⟨a_44, c_45, rfl, hd47, hb⟩
      rw [← ez46] at hd47 ⊢
      have Sz46 : Hid (Sz z46 16) := by show Sz z46 16; rw [ez46]; exact (Sz.mul HX.out HZ.out)
      have Ez46 := Lib.hid ez46; clear ez46
      replace M := Lib.hid (And.intro hd47 (Goes.go M.out hb))
      clear hb hd47
      go_upto_region 19 with fail
      obtain ⟨w27, hv⟩ : ∃ w_ : World, w_ = (w26.alloc (.cells #[.int .i64 (sg z46), .slice a_44 (ln z46) c_45] 24)) := ⟨_, rfl⟩
      rw [← hv]
      have o12 : w9.heap.size < w26.heap.size := ((M.out.2.2.1)).lt
      replace M := Lib.hid (And.intro (hv ▸ bx1 w26 24 #[.int .i64 (sg z46), .slice a_44 (ln z46) c_45]) (Goes.go M.out (hv ▸ below_alloc _ _ : Below w26.heap.size w26 w27)))
      clear hv
      obtain ⟨p1_0, q1_0, p1_1, q1_1⟩ := (M.out.2.2.2.2.2.2.1).c2
      obtain ⟨p2_0, q2_0, p2_1, q2_1⟩ := (M.out.2.2.2.2.2.1).c2
      go_wp2_with fail
      clear p1_0 q1_0 p1_1 q1_1 p2_0 q2_0 p2_1 q2_1
      obtain ⟨z50, ez50⟩ : ∃ v_ : Int, v_ = (y * z) := ⟨_, rfl⟩
      refine (bigMul_ok (G := G) (x := y) (y := z) (H2.out.keep (M.out.2.2.2.2.2.2.2.2)) (H3.out.keep (M.out.2.2.2.2.2.2.2.2)) (Sz.mono HY.out (by omega)) (Sz.mono HZ.out (by omega))).mono ?_
      rintro e w28 ⟨a_48, c_49, rfl, hd51, hb⟩
      rw [← ez50] at hd51 ⊢
      have Sz50 : Hid (Sz z50 16) := by show Sz z50 16; rw [ez50]; exact (Sz.mul HY.out HZ.out)
      have Ez50 := Lib.hid ez50; clear ez50
      replace M := Lib.hid (And.intro hd51 (Goes.go M.out hb))
      clear hb hd51
      go_upto_region 20 with fail
      obtain ⟨w29, hv⟩ : ∃ w_ : World, w_ = (w28.alloc (.cells #[.int .i64 (sg z50), .slice a_48 (ln z50) c_49] 24)) := ⟨_, rfl⟩
      rw [← hv]
      have o13 : w26.heap.size < w28.heap.size := ((M.out.2.1)).lt
      replace M := Lib.hid (And.intro (hv ▸ bx1 w28 24 #[.int .i64 (sg z50), .slice a_48 (ln z50) c_49]) (Goes.go M.out (hv ▸ below_alloc _ _ : Below w28.heap.size w28 w29)))
      clear hv
      obtain ⟨p12_0, q12_0, p12_1, q12_1⟩ := (M.out.2.2.1).c2
      obtain ⟨p13_0, q13_0, p13_1, q13_1⟩ := (M.out.1).c2
      go_wp2_with fail
      clear p12_0 q12_0 p12_1 q12_1 p13_0 q13_0 p13_1 q13_1
      replace M := Lib.hid (And.intro (M.out.2.1) (And.intro (M.out.2.2.2.1) (And.intro (M.out.2.2.2.2.2.1) (And.intro (M.out.2.2.2.2.2.2.1) (And.intro (M.out.2.2.2.2.2.2.2.1) (M.out.2.2.2.2.2.2.2.2.2.2))))))
      refine (bigGcd_is (G := G) (x := z46) (y := z50) (g := kv) (M.out.2.1) (M.out.1) (Sz.mono Sz46.out (by omega)) (Sz.mono Sz50.out (by omega)) (by rw [Ez46.out, Ez50.out]; exact HG4.out)).mono ?_
      rintro e w30 ⟨a_52, c_53, rfl, hd54, hb⟩
      replace M := Lib.hid (And.intro hd54 (Goes.go M.out hb))
      clear hb hd54
      go_upto_region 21 with fail
      obtain ⟨w31, hv⟩ : ∃ w_ : World, w_ = (w30.alloc (.cells #[.int .i64 (sg kv), .slice a_52 (ln kv) c_53] 24)) := ⟨_, rfl⟩
      rw [← hv]
      have o14 : w9.heap.size < w30.heap.size := ((M.out.2.2.2.1)).lt
      replace M := Lib.hid (And.intro (hv ▸ bx1 w30 24 #[.int .i64 (sg kv), .slice a_52 (ln kv) c_53]) (Goes.go M.out (hv ▸ below_alloc _ _ : Below w30.heap.size w30 w31)))
      clear hv
      obtain ⟨p3_0, q3_0, p3_1, q3_1⟩ := (M.out.2.2.2.2.1).c2
      obtain ⟨p2_0, q2_0, p2_1, q2_1⟩ := (M.out.2.2.2.2.2.2.1).c2
      go_wp2_with fail
      clear p3_0 q3_0 p3_1 q3_1 p2_0 q2_0 p2_1 q2_1
      obtain ⟨z57, ez57⟩ : ∃ v_ : Int, v_ = (gv * z) := ⟨_, rfl⟩
      refine (bigMul_ok (G := G) (x := gv) (y := z) (M.out.2.2.2.2.2.1) (H3.out.keep (M.out.2.2.2.2.2.2.2)) (Sz.mono HSG.out (by omega)) (Sz.mono HZ.out (by omega))).mono ?_
      rintro e w32 ⟨a_55, c_56, rfl, hd58, hb⟩
      rw [← ez57] at hd58 ⊢
      have Sz57 : Hid (Sz z57 16) := by show Sz z57 16; rw [ez57]; exact (Sz.mul HSG.out HZ.out)
      have Ez57 := Lib.hid ez57; clear ez57
      replace M := Lib.hid (And.intro hd58 (Goes.go M.out hb))
      clear hb hd58
      go_upto_region 22 with fail
      obtain ⟨w33, hv⟩ : ∃ w_ : World, w_ = (w32.alloc (.cells #[.int .i64 (sg z57), .slice a_55 (ln z57) c_56] 24)) := ⟨_, rfl⟩
      rw [← hv]
      have o15 : w30.heap.size < w32.heap.size := ((M.out.2.1)).lt
      replace M := Lib.hid (And.intro (hv ▸ bx1 w32 24 #[.int .i64 (sg z57), .slice a_55 (ln z57) c_56]) (Goes.go M.out (hv ▸ below_alloc _ _ : Below w32.heap.size w32 w33)))
      clear hv
      cases bc with
      | false =>
        obtain ⟨p2_0, q2_0, p2_1, q2_1⟩ := (M.out.2.2.2.2.2.2.2.2.1).c2
        obtain ⟨p14_0, q14_0, p14_1, q14_1⟩ := (M.out.2.2.1).c2
        obtain ⟨p15_0, q15_0, p15_1, q15_1⟩ := (M.out.1).c2
        go_wp2_with fail
        clear p2_0 q2_0 p2_1 q2_1 p14_0 q14_0 p14_1 q14_1 p15_0 q15_0 p15_1 q15_1
        replace M := Lib.hid (And.intro (M.out.2.1) (And.intro (M.out.2.2.2.1) (M.out.2.2.2.2.2.2.2.2.2)))
        refine (bigSame_is (G := G) (x := kv) (y := z57) (b := true) (M.out.2.1) (M.out.1) (Sz.mono HSK.out (by omega)) (Sz.mono Sz57.out (by omega)) (eqZ_of (by rw [Ez57.out]; exact HC.out))).mono ?_
        rintro e w34 ⟨rfl, hb⟩
        replace M := Lib.hid (Goes.go M.out hb)
        clear hb
        go_wp2_with fail
        go_ret
        exact ⟨rfl, (M.out.2.2)⟩
      | true =>
        obtain ⟨p2_0, q2_0, p2_1, q2_1⟩ := (M.out.2.2.2.2.2.2.2.2.1).c2
        obtain ⟨p15_0, q15_0, p15_1, q15_1⟩ := (M.out.1).c2
        go_wp2_with fail
        clear p2_0 q2_0 p2_1 q2_1 p15_0 q15_0 p15_1 q15_1
        replace M := Lib.hid (And.intro (M.out.1) (And.intro (M.out.2.1) (And.intro (M.out.2.2.1) (And.intro (M.out.2.2.2.1) (M.out.2.2.2.2.2.2.2.2.2)))))
        obtain ⟨z61, ez61⟩ : ∃ v_ : Int, v_ = (-z57) := ⟨_, rfl⟩
        refine (bigNeg_ok (G := G) (x := z57) (M.out.2.1) (Sz.mono Sz57.out (by omega))).mono ?_
        rintro e w34 ⟨a_59, c_60, rfl, hd62, hb⟩
        rw [← ez61] at hd62 ⊢
        have Sz61 : Hid (Sz z61 16) := by show Sz z61 16; rw [ez61]; exact (Sz.neg Sz57.out)
        have Ez61 := Lib.hid ez61; clear ez61
        replace M := Lib.hid (And.intro hd62 (Goes.go M.out hb))
        clear hb hd62
        obtain ⟨p15_0, q15_0, p15_1, q15_1⟩ := (M.out.2.1).c2
        go_upto_region 24 with fail
        clear p15_0 q15_0 p15_1 q15_1
        obtain ⟨w35, hv⟩ : ∃ w_ : World, w_ = ((w34.setCell ⟨w32.heap.size, 0, none⟩ (.int .i64 (sg z61))).setCell ⟨w32.heap.size, 1, none⟩ (.slice a_59 (ln z61) c_60)) := ⟨_, rfl⟩
        rw [← hv]
        have og : w34.grownBy w35 (some w32.heap.size) := by rw [hv]; exact (only_setCell (only_setCell (World.grownBy.refl _ _) _) _)
        have hz : w.heap.size ≤ w32.heap.size := by omega
        have hk : Bx w35 w32.heap.size 24 #[.int .i64 (sg z61), .slice a_59 (ln z61) c_60] := by rw [hv]; exact (((M.out.2.1).set 0 _).set 1 _)
        have hbw : Below w.heap.size w w35 := by rw [hv]; exact (Below.setCell (Below.setCell (M.out.2.2.2.2.2) (by omega) _) (by omega) _)
        replace M := Lib.hid (And.intro ((M.out.1).far (M.out.2.1) (by rfl) (by omega) og) (And.intro hk (And.intro ((M.out.2.2.1).far (M.out.2.1) (by rfl) (by omega) og) (And.intro ((M.out.2.2.2.1).only og (by omega)) (And.intro ((M.out.2.2.2.2.1).far (M.out.2.1) (by rfl) (by omega) og) hbw)))))
        clear hk hbw og hv hz
        obtain ⟨p14_0, q14_0, p14_1, q14_1⟩ := (M.out.2.2.2.1).c2
        obtain ⟨p15_0, q15_0, p15_1, q15_1⟩ := (M.out.2.1).c2
        go_wp2_with fail
        clear p14_0 q14_0 p14_1 q14_1 p15_0 q15_0 p15_1 q15_1
        refine (bigSame_is (G := G) (x := kv) (y := z61) (b := true) (M.out.2.2.2.2.1) (M.out.1) (Sz.mono HSK.out (by omega)) (Sz.mono Sz61.out (by omega)) (eqZ_of (by rw [Ez61.out, Ez57.out]; exact HC.out))).mono ?_
        rintro e w36 ⟨rfl, hb⟩
        replace M := Lib.hid (Goes.go M.out hb)
        clear hb
        go_wp2_with fail
        go_ret
        exact ⟨rfl, (M.out.2.2.2.2.2)⟩
    refine AllReadyH.cons at7 (fun K hK => ?_) AllReadyH.nil
    go_simp
    obtain ⟨w13, hv⟩ : ∃ w_ : World, w_ = (w12.alloc (.cells #[.int .i64 0, .slice none 0 0] 24)) := ⟨_, rfl⟩
    rw [← hv]
    have o4 : w9.heap.size < w12.heap.size := ((M.out.2.1)).lt
    replace M := Lib.hid (And.intro (hv ▸ bx1 w12 24 #[.int .i64 0, .slice none 0 0]) (Goes.go M.out (hv ▸ below_alloc _ _ : Below w12.heap.size w12 w13)))
    clear hv
    refine hK.out _ _ (⟨(M.out.2.2.2.2.2.2.1).at.1 0, (M.out.2.2.2.2.2.2.1).at.1 1, (M.out.2.2.2.2.2.1).at.1 0, (M.out.2.2.2.2.2.1).at.1 1⟩) (fun hH63 => ?_)
    clear hK K hH16
    (try simp only [Act.put, List.setIfInBounds_toArray, List.set_cons_zero, List.set_cons_succ])
    refine wpAnyH_ready (rs := [3]) (by kernel_rfl) (by simp) ?_
    refine AllReadyH.cons at3 (fun K hK => ?_) AllReadyH.nil
    go_simp
    refine (bigGcd_is (G := G) (x := z14) (y := x) (g := gv) (M.out.2.1) (H1.out.keep (M.out.2.2.2.2.2.2.2)) (Sz.mono Sz14.out (by omega)) (Sz.mono HX.out (by omega)) (by rw [Ez14.out]; exact HG2.out)).mono ?_
    rintro e w14 ⟨a_64, c_65, rfl, hd66, hb⟩
    replace M := Lib.hid (And.intro hd66 (Goes.go M.out hb))
    clear hb hd66
    (try go_wp2_with fail)
    refine hK.out _ _ (⟨(M.out.2.2.2.2.2.2.2.1).at.1 0, (M.out.2.2.2.2.2.2.2.1).at.1 1, (M.out.2.2.2.2.2.2.1).at.1 0, (M.out.2.2.2.2.2.2.1).at.1 1⟩) (fun hH67 => ?_)
    clear hK K hH63
    (try simp only [Act.put, List.setIfInBounds_toArray, List.set_cons_zero, List.set_cons_succ])
    refine tk at4 ?_
    refine tk at5 ?_
    refine tk at6 ?_
    refine wpAnyH_ready (rs := [8]) (by kernel_rfl) (by simp) ?_
    refine AllReadyH.cons at8 (fun K hK => ?_) AllReadyH.nil
    obtain ⟨p4_0, q4_0, p4_1, q4_1⟩ := (M.out.2.1).c2
    go_simp
    clear p4_0 q4_0 p4_1 q4_1
    obtain ⟨w15, hv⟩ : ∃ w_ : World, w_ = ((w14.setCell ⟨w12.heap.size, 0, none⟩ (.int .i64 (sg gv))).setCell ⟨w12.heap.size, 1, none⟩ (.slice a_64 (ln gv) c_65)) := ⟨_, rfl⟩
    rw [← hv]
    have og : w14.grownBy w15 (some w12.heap.size) := by rw [hv]; exact (only_setCell (only_setCell (World.grownBy.refl _ _) _) _)
    have hz : w.heap.size ≤ w12.heap.size := by omega
    have hk : Bx w15 w12.heap.size 24 #[.int .i64 (sg gv), .slice a_64 (ln gv) c_65] := by rw [hv]; exact (((M.out.2.1).set 0 _).set 1 _)
    have hbw : Below w.heap.size w w15 := by rw [hv]; exact (Below.setCell (Below.setCell (M.out.2.2.2.2.2.2.2.2) (by omega) _) (by omega) _)
    replace M := Lib.hid (And.intro ((M.out.1).far (M.out.2.1) (by rfl) (by omega) og) (And.intro hk (And.intro ((M.out.2.2.1).far (M.out.2.1) (by rfl) (by omega) og) (And.intro ((M.out.2.2.2.1).only og (by omega)) (And.intro ((M.out.2.2.2.2.1).far (M.out.2.1) (by rfl) (by omega) og) (And.intro ((M.out.2.2.2.2.2.1).only og (by omega)) (And.intro ((M.out.2.2.2.2.2.2.1).only og (by omega)) (And.intro ((M.out.2.2.2.2.2.2.2.1).only og (by omega)) hbw))))))))
    clear hk hbw og hv hz
    refine hK.out _ _ (⟨(M.out.2.2.2.2.2.2.2.1).at.1 0, (M.out.2.2.2.2.2.2.2.1).at.1 1, (M.out.2.2.2.2.2.2.1).at.1 0, (M.out.2.2.2.2.2.2.1).at.1 1⟩) (fun hH68 => ?_)
    clear hK K hH67
    (try simp only [Act.put, List.setIfInBounds_toArray, List.set_cons_zero, List.set_cons_succ])
    refine tk at9 ?_
    refine wpAnyH_done (by kernel_rfl) ?_ _
    clear hH68
    obtain ⟨p3_0, q3_0, p3_1, q3_1⟩ := (M.out.2.2.2.1).c2
    obtain ⟨p4_0, q4_0, p4_1, q4_1⟩ := (M.out.2.1).c2
    go_wp2_with fail
    clear p3_0 q3_0 p3_1 q3_1 p4_0 q4_0 p4_1 q4_1
    refine (bigSame_is (G := G) (x := gv) (y := gv) (b := true) (M.out.2.2.2.2.1) (M.out.1) (Sz.mono HSG.out (by omega)) (Sz.mono HSG.out (by omega)) (eqZ_of rfl)).mono ?_
    rintro e w16 ⟨rfl, hb⟩
    replace M := Lib.hid (Goes.go M.out hb)
    clear hb
    obtain ⟨p3_0, q3_0, p3_1, q3_1⟩ := (M.out.2.2.2.1).c2
    obtain ⟨p0_0, q0_0, p0_1, q0_1⟩ := (M.out.2.2.2.2.2.2.2.1).c2
    go_wp2_with fail
    clear p3_0 q3_0 p3_1 q3_1 p0_0 q0_0 p0_1 q0_1
    refine (bigDiv_r (G := G) (x := x) (y := gv) (q := q1) (r := 0) (H1.out.keep (M.out.2.2.2.2.2.2.2.2)) (M.out.2.2.2.2.1) (Sz.mono HX.out (by omega)) (Sz.mono HSG.out (by omega)) HGN.out HQ1.out HM1.out).mono ?_
    rintro e w17 ⟨a_69, c_70, b_71, d_72, rfl, hd73, hd74, hb⟩
    replace M := Lib.hid (And.intro hd73 (And.intro hd74 (Goes.go M.out hb)))
    clear hb hd73 hd74
    go_upto_region 10 with fail
    obtain ⟨w18, hv⟩ : ∃ w_ : World, w_ = ((w17.alloc (.cells #[.int .i64 (sg q1), .slice a_69 (ln q1) c_70] 24)).alloc (.cells #[.int .i64 (sg 0), .slice b_71 (ln 0) d_72] 24)) := ⟨_, rfl⟩
    rw [← hv]
    have o5 : w12.heap.size < w17.heap.size := ((M.out.2.2.2.1)).lt
    have hbx := bx2 w17 24 24 #[.int .i64 (sg q1), .slice a_69 (ln q1) c_70] #[.int .i64 (sg 0), .slice b_71 (ln 0) d_72]
    rw [← hv] at hbx
    have hbn : Below w17.heap.size w17 w18 := by rw [hv]; exact (Below.alloc (Below.alloc (Below.refl _ _) (by simp <;> omega) _) (by simp <;> omega) _)
    replace M := Lib.hid (And.intro hbx.2 (And.intro hbx.1 (Goes.go M.out hbn)))
    clear hbx hbn
    clear hv
    obtain ⟨p1_0, q1_0, p1_1, q1_1⟩ := (M.out.2.2.2.2.2.2.2.2.2.2.1).c2
    obtain ⟨p3_0, q3_0, p3_1, q3_1⟩ := (M.out.2.2.2.2.2.2.2.1).c2
    go_wp2_with fail
    clear p1_0 q1_0 p1_1 q1_1 p3_0 q3_0 p3_1 q3_1
    replace M := Lib.hid (And.intro (M.out.1) (And.intro (M.out.2.2.2.1) (And.intro (M.out.2.2.2.2.2.2.2.1) (And.intro (M.out.2.2.2.2.2.2.2.2.1) (And.intro (M.out.2.2.2.2.2.2.2.2.2.1) (And.intro (M.out.2.2.2.2.2.2.2.2.2.2.1) (And.intro (M.out.2.2.2.2.2.2.2.2.2.2.2.1) (M.out.2.2.2.2.2.2.2.2.2.2.2.2))))))))
    refine (bigDiv_r (G := G) (x := y) (y := gv) (q := q2) (r := 0) (H2.out.keep (M.out.2.2.2.2.2.2.2)) (M.out.2.2.2.1) (Sz.mono HY.out (by omega)) (Sz.mono HSG.out (by omega)) HGN.out HQ2.out HM2.out).mono ?_
    rintro e w19 ⟨a_75, c_76, b_77, d_78, rfl, hd79, hd80, hb⟩
    replace M := Lib.hid (And.intro hd79 (And.intro hd80 (Goes.go M.out hb)))
    clear hb hd79 hd80
    go_upto_region 11 with fail
    obtain ⟨w20, hv⟩ : ∃ w_ : World, w_ = ((w19.alloc (.cells #[.int .i64 (sg q2), .slice a_75 (ln q2) c_76] 24)).alloc (.cells #[.int .i64 (sg 0), .slice b_77 (ln 0) d_78] 24)) := ⟨_, rfl⟩
    rw [← hv]
    have o7 : w17.heap.size + 1 < w19.heap.size := ((M.out.2.2.1)).lt
    have hbx := bx2 w19 24 24 #[.int .i64 (sg q2), .slice a_75 (ln q2) c_76] #[.int .i64 (sg 0), .slice b_77 (ln 0) d_78]
    rw [← hv] at hbx
    have hbn : Below w19.heap.size w19 w20 := by rw [hv]; exact (Below.alloc (Below.alloc (Below.refl _ _) (by simp <;> omega) _) (by simp <;> omega) _)
    replace M := Lib.hid (And.intro hbx.2 (And.intro hbx.1 (Goes.go M.out hbn)))
    clear hbx hbn
    clear hv
    obtain ⟨p6_0, q6_0, p6_1, q6_1⟩ := (M.out.2.2.2.2.1).c2
    obtain ⟨p8_0, q8_0, p8_1, q8_1⟩ := (M.out.1).c2
    obtain ⟨p0_0, q0_0, p0_1, q0_1⟩ := (M.out.2.2.2.2.2.2.2.2.2.2.1).c2
    obtain ⟨p1_0, q1_0, p1_1, q1_1⟩ := (M.out.2.2.2.2.2.2.2.2.2.1).c2
    go_wp2_with fail
    clear p6_0 q6_0 p6_1 q6_1 p8_0 q8_0 p8_1 q8_1 p0_0 q0_0 p0_1 q0_1 p1_0 q1_0 p1_1 q1_1
    replace M := Lib.hid (And.intro (M.out.2.2.2.2.2.2.1) (And.intro (M.out.2.2.2.2.2.2.2.1) (And.intro (M.out.2.2.2.2.2.2.2.2.1) (And.intro (M.out.2.2.2.2.2.2.2.2.2.1) (And.intro (M.out.2.2.2.2.2.2.2.2.2.2.1) (M.out.2.2.2.2.2.2.2.2.2.2.2))))))
    refine (bigDiv_r (G := G) (x := y) (y := x) (q := q3) (r := r) (H2.out.keep (M.out.2.2.2.2.2)) (H1.out.keep (M.out.2.2.2.2.2)) (Sz.mono HY.out (by omega)) (Sz.mono HX.out (by omega)) HXN.out HQ3.out HR.out).mono ?_
    rintro e w21 ⟨a_81, c_82, b_83, d_84, rfl, hd85, hd86, hb⟩
    replace M := Lib.hid (And.intro hd85 (And.intro hd86 (Goes.go M.out hb)))
    clear hb hd85 hd86
    go_upto_region 15 with fail
    obtain ⟨w22, hv⟩ : ∃ w_ : World, w_ = ((w21.alloc (.cells #[.int .i64 (sg q3), .slice a_81 (ln q3) c_82] 24)).alloc (.cells #[.int .i64 (sg r), .slice b_83 (ln r) d_84] 24)) := ⟨_, rfl⟩
    rw [← hv]
    have o9 : w9.heap.size < w21.heap.size := ((M.out.2.2.1)).lt
    have hbx := bx2 w21 24 24 #[.int .i64 (sg q3), .slice a_81 (ln q3) c_82] #[.int .i64 (sg r), .slice b_83 (ln r) d_84]
    rw [← hv] at hbx
    have hbn : Below w21.heap.size w21 w22 := by rw [hv]; exact (Below.alloc (Below.alloc (Below.refl _ _) (by simp <;> omega) _) (by simp <;> omega) _)
    replace M := Lib.hid (And.intro hbx.2 (And.intro hbx.1 (Goes.go M.out hbn)))
    clear hbx hbn
    clear hv
    obtain ⟨p0_0, q0_0, p0_1, q0_1⟩ := (M.out.2.2.2.2.2.2.2.2.1).c2
    obtain ⟨p10_0, q10_0, p10_1, q10_1⟩ := (M.out.1).c2
    go_wp2_with fail
    clear p0_0 q0_0 p0_1 q0_1 p10_0 q10_0 p10_1 q10_1
    refine (bigGcd_is (G := G) (x := x) (y := r) (g := gv) (H1.out.keep (M.out.2.2.2.2.2.2.2.2.2)) (M.out.2.2.2.1) (Sz.mono HX.out (by omega)) (Sz.mono HSR.out (by omega)) (by exact HG3.out)).mono ?_
    rintro e w23 ⟨a_87, c_88, rfl, hd89, hb⟩
    replace M := Lib.hid (And.intro hd89 (Goes.go M.out hb))
    clear hb hd89
    go_upto_region 16 with fail
    obtain ⟨w24, hv⟩ : ∃ w_ : World, w_ = (w23.alloc (.cells #[.int .i64 (sg gv), .slice a_87 (ln gv) c_88] 24)) := ⟨_, rfl⟩
    rw [← hv]
    have o11 : w21.heap.size + 1 < w23.heap.size := ((M.out.2.1)).lt
    replace M := Lib.hid (And.intro (hv ▸ bx1 w23 24 #[.int .i64 (sg gv), .slice a_87 (ln gv) c_88]) (Goes.go M.out (hv ▸ below_alloc _ _ : Below w23.heap.size w23 w24)))
    clear hv
    obtain ⟨p11_0, q11_0, p11_1, q11_1⟩ := (M.out.1).c2
    obtain ⟨p3_0, q3_0, p3_1, q3_1⟩ := (M.out.2.2.2.2.2.2.1).c2
    go_wp2_with fail
    clear p11_0 q11_0 p11_1 q11_1 p3_0 q3_0 p3_1 q3_1
    replace M := Lib.hid (And.intro (M.out.2.1) (And.intro (M.out.2.2.2.2.2.2.1) (And.intro (M.out.2.2.2.2.2.2.2.1) (And.intro (M.out.2.2.2.2.2.2.2.2.1) (And.intro (M.out.2.2.2.2.2.2.2.2.2.1) (And.intro (M.out.2.2.2.2.2.2.2.2.2.2.1) (M.out.2.2.2.2.2.2.2.2.2.2.2)))))))
    refine (bigSame_is (G := G) (x := gv) (y := gv) (b := true) (M.out.1) (M.out.2.2.1) (Sz.mono HSG.out (by omega)) (Sz.mono HSG.out (by omega)) (eqZ_of rfl)).mono ?_
    rintro e w25 ⟨rfl, hb⟩
    replace M := Lib.hid (Goes.go M.out hb)
    clear hb
    obtain ⟨p0_0, q0_0, p0_1, q0_1⟩ := (M.out.2.2.2.2.2.1).c2
    obtain ⟨p2_0, q2_0, p2_1, q2_1⟩ := (M.out.2.2.2.1).c2
    go_wp2_with fail
    clear p0_0 q0_0 p0_1 q0_1 p2_0 q2_0 p2_1 q2_1
    obtain ⟨z92, ez92⟩ : ∃ v_ : Int, v_ = (x * z) := ⟨_, rfl⟩
    refine (bigMul_ok (G := G) (x := x) (y := z) (H1.out.keep (M.out.2.2.2.2.2.2)) (H3.out.keep (M.out.2.2.2.2.2.2)) (Sz.mono HX.out (by omega)) (Sz.mono HZ.out (by omega))).mono ?_
    rintro e w26 ⟨a_90, c_91, rfl, hd93, hb⟩
    rw [← ez92] at hd93 ⊢
    have Sz92 : Hid (Sz z92 16) := by show Sz z92 16; rw [ez92]; exact (Sz.mul HX.out HZ.out)
    have Ez92 := Lib.hid ez92; clear ez92
    replace M := Lib.hid (And.intro hd93 (Goes.go M.out hb))
    clear hb hd93
    go_upto_region 19 with fail
    obtain ⟨w27, hv⟩ : ∃ w_ : World, w_ = (w26.alloc (.cells #[.int .i64 (sg z92), .slice a_90 (ln z92) c_91] 24)) := ⟨_, rfl⟩
    rw [← hv]
    have o12 : w9.heap.size < w26.heap.size := ((M.out.2.2.1)).lt
    replace M := Lib.hid (And.intro (hv ▸ bx1 w26 24 #[.int .i64 (sg z92), .slice a_90 (ln z92) c_91]) (Goes.go M.out (hv ▸ below_alloc _ _ : Below w26.heap.size w26 w27)))
    clear hv
    obtain ⟨p1_0, q1_0, p1_1, q1_1⟩ := (M.out.2.2.2.2.2.2.1).c2
    obtain ⟨p2_0, q2_0, p2_1, q2_1⟩ := (M.out.2.2.2.2.2.1).c2
    go_wp2_with fail
    clear p1_0 q1_0 p1_1 q1_1 p2_0 q2_0 p2_1 q2_1
    obtain ⟨z96, ez96⟩ : ∃ v_ : Int, v_ = (y * z) := ⟨_, rfl⟩
    refine (bigMul_ok (G := G) (x := y) (y := z) (H2.out.keep (M.out.2.2.2.2.2.2.2.2)) (H3.out.keep (M.out.2.2.2.2.2.2.2.2)) (Sz.mono HY.out (by omega)) (Sz.mono HZ.out (by omega))).mono ?_
    rintro e w28 ⟨a_94, c_95, rfl, hd97, hb⟩
    rw [← ez96] at hd97 ⊢
    have Sz96 : Hid (Sz z96 16) := by show Sz z96 16; rw [ez96]; exact (Sz.mul HY.out HZ.out)
    have Ez96 := Lib.hid ez96; clear ez96
    replace M := Lib.hid (And.intro hd97 (Goes.go M.out hb))
    clear hb hd97
    go_upto_region 20 with fail
    obtain ⟨w29, hv⟩ : ∃ w_ : World, w_ = (w28.alloc (.cells #[.int .i64 (sg z96), .slice a_94 (ln z96) c_95] 24)) := ⟨_, rfl⟩
    rw [← hv]
    have o13 : w26.heap.size < w28.heap.size := ((M.out.2.1)).lt
    replace M := Lib.hid (And.intro (hv ▸ bx1 w28 24 #[.int .i64 (sg z96), .slice a_94 (ln z96) c_95]) (Goes.go M.out (hv ▸ below_alloc _ _ : Below w28.heap.size w28 w29)))
    clear hv
    obtain ⟨p12_0, q12_0, p12_1, q12_1⟩ := (M.out.2.2.1).c2
    obtain ⟨p13_0, q13_0, p13_1, q13_1⟩ := (M.out.1).c2
    go_wp2_with fail
    clear p12_0 q12_0 p12_1 q12_1 p13_0 q13_0 p13_1 q13_1
    replace M := Lib.hid (And.intro (M.out.2.1) (And.intro (M.out.2.2.2.1) (And.intro (M.out.2.2.2.2.2.1) (And.intro (M.out.2.2.2.2.2.2.1) (And.intro (M.out.2.2.2.2.2.2.2.1) (M.out.2.2.2.2.2.2.2.2.2.2))))))
    refine (bigGcd_is (G := G) (x := z92) (y := z96) (g := kv) (M.out.2.1) (M.out.1) (Sz.mono Sz92.out (by omega)) (Sz.mono Sz96.out (by omega)) (by rw [Ez92.out, Ez96.out]; exact HG4.out)).mono ?_
    rintro e w30 ⟨a_98, c_99, rfl, hd100, hb⟩
    replace M := Lib.hid (And.intro hd100 (Goes.go M.out hb))
    clear hb hd100
    go_upto_region 21 with fail
    obtain ⟨w31, hv⟩ : ∃ w_ : World, w_ = (w30.alloc (.cells #[.int .i64 (sg kv), .slice a_98 (ln kv) c_99] 24)) := ⟨_, rfl⟩
    rw [← hv]
    have o14 : w9.heap.size < w30.heap.size := ((M.out.2.2.2.1)).lt
    replace M := Lib.hid (And.intro (hv ▸ bx1 w30 24 #[.int .i64 (sg kv), .slice a_98 (ln kv) c_99]) (Goes.go M.out (hv ▸ below_alloc _ _ : Below w30.heap.size w30 w31)))
    clear hv
    obtain ⟨p3_0, q3_0, p3_1, q3_1⟩ := (M.out.2.2.2.2.1).c2
    obtain ⟨p2_0, q2_0, p2_1, q2_1⟩ := (M.out.2.2.2.2.2.2.1).c2
    go_wp2_with fail
    clear p3_0 q3_0 p3_1 q3_1 p2_0 q2_0 p2_1 q2_1
    obtain ⟨z103, ez103⟩ : ∃ v_ : Int, v_ = (gv * z) := ⟨_, rfl⟩
    refine (bigMul_ok (G := G) (x := gv) (y := z) (M.out.2.2.2.2.2.1) (H3.out.keep (M.out.2.2.2.2.2.2.2)) (Sz.mono HSG.out (by omega)) (Sz.mono HZ.out (by omega))).mono ?_
    rintro e w32 ⟨a_101, c_102, rfl, hd104, hb⟩
    rw [← ez103] at hd104 ⊢
    have Sz103 : Hid (Sz z103 16) := by show Sz z103 16; rw [ez103]; exact (Sz.mul HSG.out HZ.out)
    have Ez103 := Lib.hid ez103; clear ez103
    replace M := Lib.hid (And.intro hd104 (Goes.go M.out hb))
    clear hb hd104
    go_upto_region 22 with fail
    obtain ⟨w33, hv⟩ : ∃ w_ : World, w_ = (w32.alloc (.cells #[.int .i64 (sg z103), .slice a_101 (ln z103) c_102] 24)) := ⟨_, rfl⟩
    rw [← hv]
    have o15 : w30.heap.size < w32.heap.size := ((M.out.2.1)).lt
    replace M := Lib.hid (And.intro (hv ▸ bx1 w32 24 #[.int .i64 (sg z103), .slice a_101 (ln z103) c_102]) (Goes.go M.out (hv ▸ below_alloc _ _ : Below w32.heap.size w32 w33)))
    clear hv
    cases bc with
    | false =>
      obtain ⟨p2_0, q2_0, p2_1, q2_1⟩ := (M.out.2.2.2.2.2.2.2.2.1).c2
      obtain ⟨p14_0, q14_0, p14_1, q14_1⟩ := (M.out.2.2.1).c2
      obtain ⟨p15_0, q15_0, p15_1, q15_1⟩ := (M.out.1).c2
      go_wp2_with fail
      clear p2_0 q2_0 p2_1 q2_1 p14_0 q14_0 p14_1 q14_1 p15_0 q15_0 p15_1 q15_1
      replace M := Lib.hid (And.intro (M.out.2.1) (And.intro (M.out.2.2.2.1) (M.out.2.2.2.2.2.2.2.2.2)))
      refine (bigSame_is (G := G) (x := kv) (y := z103) (b := true) (M.out.2.1) (M.out.1) (Sz.mono HSK.out (by omega)) (Sz.mono Sz103.out (by omega)) (eqZ_of (by rw [Ez103.out]; exact HC.out))).mono ?_
      rintro e w34 ⟨rfl, hb⟩
      replace M := Lib.hid (Goes.go M.out hb)
      clear hb
      go_wp2_with fail
      go_ret
      exact ⟨rfl, (M.out.2.2)⟩
    | true =>
      obtain ⟨p2_0, q2_0, p2_1, q2_1⟩ := (M.out.2.2.2.2.2.2.2.2.1).c2
      obtain ⟨p15_0, q15_0, p15_1, q15_1⟩ := (M.out.1).c2
      go_wp2_with fail
      clear p2_0 q2_0 p2_1 q2_1 p15_0 q15_0 p15_1 q15_1
      replace M := Lib.hid (And.intro (M.out.1) (And.intro (M.out.2.1) (And.intro (M.out.2.2.1) (And.intro (M.out.2.2.2.1) (M.out.2.2.2.2.2.2.2.2.2)))))
      obtain ⟨z107, ez107⟩ : ∃ v_ : Int, v_ = (-z103) := ⟨_, rfl⟩
      refine (bigNeg_ok (G := G) (x := z103) (M.out.2.1) (Sz.mono Sz103.out (by omega))).mono ?_
      rintro e w34 ⟨a_105, c_106, rfl, hd108, hb⟩
      rw [← ez107] at hd108 ⊢
      have Sz107 : Hid (Sz z107 16) := by show Sz z107 16; rw [ez107]; exact (Sz.neg Sz103.out)
      have Ez107 := Lib.hid ez107; clear ez107
      replace M := Lib.hid (And.intro hd108 (Goes.go M.out hb))
      clear hb hd108
      obtain ⟨p15_0, q15_0, p15_1, q15_1⟩ := (M.out.2.1).c2
      go_upto_region 24 with fail
      clear p15_0 q15_0 p15_1 q15_1
      obtain ⟨w35, hv⟩ : ∃ w_ : World, w_ = ((w34.setCell ⟨w32.heap.size, 0, none⟩ (.int .i64 (sg z107))).setCell ⟨w32.heap.size, 1, none⟩ (.slice a_105 (ln z107) c_106)) := ⟨_, rfl⟩
      rw [← hv]
      have og : w34.grownBy w35 (some w32.heap.size) := by rw [hv]; exact (only_setCell (only_setCell (World.grownBy.refl _ _) _) _)
      have hz : w.heap.size ≤ w32.heap.size := by omega
      have hk : Bx w35 w32.heap.size 24 #[.int .i64 (sg z107), .slice a_105 (ln z107) c_106] := by rw [hv]; exact (((M.out.2.1).set 0 _).set 1 _)
      have hbw : Below w.heap.size w w35 := by rw [hv]; exact (Below.setCell (Below.setCell (M.out.2.2.2.2.2) (by omega) _) (by omega) _)
      replace M := Lib.hid (And.intro ((M.out.1).far (M.out.2.1) (by rfl) (by omega) og) (And.intro hk (And.intro ((M.out.2.2.1).far (M.out.2.1) (by rfl) (by omega) og) (And.intro ((M.out.2.2.2.1).only og (by omega)) (And.intro ((M.out.2.2.2.2.1).far (M.out.2.1) (by rfl) (by omega) og) hbw)))))
      clear hk hbw og hv hz
      obtain ⟨p14_0, q14_0, p14_1, q14_1⟩ := (M.out.2.2.2.1).c2
      obtain ⟨p15_0, q15_0, p15_1, q15_1⟩ := (M.out.2.1).c2
      go_wp2_with fail
      clear p14_0 q14_0 p14_1 q14_1 p15_0 q15_0 p15_1 q15_1
      refine (bigSame_is (G := G) (x := kv) (y := z107) (b := true) (M.out.2.2.2.2.1) (M.out.1) (Sz.mono HSK.out (by omega)) (Sz.mono Sz107.out (by omega)) (eqZ_of (by rw [Ez107.out, Ez103.out]; exact HC.out))).mono ?_
      rintro e w36 ⟨rfl, hb⟩
      replace M := Lib.hid (Goes.go M.out hb)
      clear hb
      go_wp2_with fail
      go_ret
      exact ⟨rfl, (M.out.2.2.2.2.2)⟩
  refine AllReadyH.cons at7 (fun K hK => ?_) AllReadyH.nil
  go_simp
  obtain ⟨w12, hv⟩ : ∃ w_ : World, w_ = (w11.alloc (.cells #[.int .i64 0, .slice none 0 0] 24)) := ⟨_, rfl⟩
  rw [← hv]
  have o4 : w9.heap.size < w11.heap.size := ((M.out.1)).lt
  replace M := Lib.hid (And.intro (hv ▸ bx1 w11 24 #[.int .i64 0, .slice none 0 0]) (Goes.go M.out (hv ▸ below_alloc _ _ : Below w11.heap.size w11 w12)))
  clear hv
  refine hK.out _ _ (⟨(M.out.2.2.2.2.2.1).at.1 0, (M.out.2.2.2.2.2.1).at.1 1, (M.out.2.2.2.2.1).at.1 0, (M.out.2.2.2.2.1).at.1 1⟩) (fun hH109 => ?_)
  clear hK K hH11
  (try simp only [Act.put, List.setIfInBounds_toArray, List.set_cons_zero, List.set_cons_succ])
  refine wpAnyH_ready (rs := [1]) (by kernel_rfl) (by simp) ?_
  refine AllReadyH.cons at1 (fun K hK => ?_) AllReadyH.nil
  go_simp
  obtain ⟨z112, ez112⟩ : ∃ v_ : Int, v_ = (-y) := ⟨_, rfl⟩
  refine (bigNeg_ok (G := G) (x := y) (H2.out.keep (M.out.2.2.2.2.2.2)) (Sz.mono HY.out (by omega))).mono ?_
  rintro e w13 ⟨a_110, c_111, rfl, hd113, hb⟩
  rw [← ez112] at hd113 ⊢
  have Sz112 : Hid (Sz z112 12) := by show Sz z112 12; rw [ez112]; exact (Sz.neg HY.out)
  have Ez112 := Lib.hid ez112; clear ez112
  replace M := Lib.hid (And.intro hd113 (Goes.go M.out hb))
  clear hb hd113
  (try go_wp2_with fail)
  refine hK.out _ _ (⟨(M.out.2.2.2.2.2.2.1).at.1 0, (M.out.2.2.2.2.2.2.1).at.1 1, (M.out.2.2.2.2.2.1).at.1 0, (M.out.2.2.2.2.2.1).at.1 1⟩) (fun hH114 => ?_)
  clear hK K hH109
  (try simp only [Act.put, List.setIfInBounds_toArray, List.set_cons_zero, List.set_cons_succ])
  refine wpAnyH_ready (rs := [3]) (by kernel_rfl) (by simp) ?_
  refine AllReadyH.cons at3 (fun K hK => ?_) AllReadyH.nil
  go_simp
  refine (bigGcd_is (G := G) (x := z112) (y := x) (g := gv) (M.out.1) (H1.out.keep (M.out.2.2.2.2.2.2.2)) (Sz.mono Sz112.out (by omega)) (Sz.mono HX.out (by omega)) (by rw [Ez112.out]; exact HG2.out)).mono ?_
  rintro e w14 ⟨a_115, c_116, rfl, hd117, hb⟩
  replace M := Lib.hid (And.intro hd117 (Goes.go M.out hb))
  clear hb hd117
  (try go_wp2_with fail)
  refine hK.out _ _ (⟨(M.out.2.2.2.2.2.2.2.1).at.1 0, (M.out.2.2.2.2.2.2.2.1).at.1 1, (M.out.2.2.2.2.2.2.1).at.1 0, (M.out.2.2.2.2.2.2.1).at.1 1⟩) (fun hH118 => ?_)
  clear hK K hH114
  (try simp only [Act.put, List.setIfInBounds_toArray, List.set_cons_zero, List.set_cons_succ])
  refine tk at4 ?_
  refine tk at5 ?_
  refine tk at6 ?_
  refine wpAnyH_ready (rs := [8]) (by kernel_rfl) (by simp) ?_
  refine AllReadyH.cons at8 (fun K hK => ?_) AllReadyH.nil
  obtain ⟨p4_0, q4_0, p4_1, q4_1⟩ := (M.out.2.2.1).c2
  go_simp
  clear p4_0 q4_0 p4_1 q4_1
  obtain ⟨w15, hv⟩ : ∃ w_ : World, w_ = ((w14.setCell ⟨w11.heap.size, 0, none⟩ (.int .i64 (sg gv))).setCell ⟨w11.heap.size, 1, none⟩ (.slice a_115 (ln gv) c_116)) := ⟨_, rfl⟩
  rw [← hv]
  have og : w14.grownBy w15 (some w11.heap.size) := by rw [hv]; exact (only_setCell (only_setCell (World.grownBy.refl _ _) _) _)
  have hz : w.heap.size ≤ w11.heap.size := by omega
  have hk : Bx w15 w11.heap.size 24 #[.int .i64 (sg gv), .slice a_115 (ln gv) c_116] := by rw [hv]; exact (((M.out.2.2.1).set 0 _).set 1 _)
  have hbw : Below w.heap.size w w15 := by rw [hv]; exact (Below.setCell (Below.setCell (M.out.2.2.2.2.2.2.2.2) (by omega) _) (by omega) _)
  replace M := Lib.hid (And.intro ((M.out.1).far (M.out.2.2.1) (by rfl) (by omega) og) (And.intro ((M.out.2.1).far (M.out.2.2.1) (by rfl) (by omega) og) (And.intro hk (And.intro ((M.out.2.2.2.1).only og (by omega)) (And.intro ((M.out.2.2.2.2.1).far (M.out.2.2.1) (by rfl) (by omega) og) (And.intro ((M.out.2.2.2.2.2.1).only og (by omega)) (And.intro ((M.out.2.2.2.2.2.2.1).only og (by omega)) (And.intro ((M.out.2.2.2.2.2.2.2.1).only og (by omega)) hbw))))))))
  clear hk hbw og hv hz
  refine hK.out _ _ (⟨(M.out.2.2.2.2.2.2.2.1).at.1 0, (M.out.2.2.2.2.2.2.2.1).at.1 1, (M.out.2.2.2.2.2.2.1).at.1 0, (M.out.2.2.2.2.2.2.1).at.1 1⟩) (fun hH119 => ?_)
  clear hK K hH118
  (try simp only [Act.put, List.setIfInBounds_toArray, List.set_cons_zero, List.set_cons_succ])
  refine tk at9 ?_
  refine wpAnyH_done (by kernel_rfl) ?_ _
  clear hH119
  obtain ⟨p3_0, q3_0, p3_1, q3_1⟩ := (M.out.2.2.2.1).c2
  obtain ⟨p4_0, q4_0, p4_1, q4_1⟩ := (M.out.2.2.1).c2
  go_wp2_with fail
  clear p3_0 q3_0 p3_1 q3_1 p4_0 q4_0 p4_1 q4_1
  refine (bigSame_is (G := G) (x := gv) (y := gv) (b := true) (M.out.2.2.2.2.1) (M.out.1) (Sz.mono HSG.out (by omega)) (Sz.mono HSG.out (by omega)) (eqZ_of rfl)).mono ?_
  rintro e w16 ⟨rfl, hb⟩
  replace M := Lib.hid (Goes.go M.out hb)
  clear hb
  obtain ⟨p3_0, q3_0, p3_1, q3_1⟩ := (M.out.2.2.2.1).c2
  obtain ⟨p0_0, q0_0, p0_1, q0_1⟩ := (M.out.2.2.2.2.2.2.2.1).c2
  go_wp2_with fail
  clear p3_0 q3_0 p3_1 q3_1 p0_0 q0_0 p0_1 q0_1
  refine (bigDiv_r (G := G) (x := x) (y := gv) (q := q1) (r := 0) (H1.out.keep (M.out.2.2.2.2.2.2.2.2)) (M.out.2.2.2.2.1) (Sz.mono HX.out (by omega)) (Sz.mono HSG.out (by omega)) HGN.out HQ1.out HM1.out).mono ?_
  rintro e w17 ⟨a_120, c_121, b_122, d_123, rfl, hd124, hd125, hb⟩
  replace M := Lib.hid (And.intro hd124 (And.intro hd125 (Goes.go M.out hb)))
  clear hb hd124 hd125
  go_upto_region 10 with fail
  obtain ⟨w18, hv⟩ : ∃ w_ : World, w_ = ((w17.alloc (.cells #[.int .i64 (sg q1), .slice a_120 (ln q1) c_121] 24)).alloc (.cells #[.int .i64 (sg 0), .slice b_122 (ln 0) d_123] 24)) := ⟨_, rfl⟩
  rw [← hv]
  have o5 : w11.heap.size < w17.heap.size := ((M.out.2.2.2.2.1)).lt
  have hbx := bx2 w17 24 24 #[.int .i64 (sg q1), .slice a_120 (ln q1) c_121] #[.int .i64 (sg 0), .slice b_122 (ln 0) d_123]
  rw [← hv] at hbx
  have hbn : Below w17.heap.size w17 w18 := by rw [hv]; exact (Below.alloc (Below.alloc (Below.refl _ _) (by simp <;> omega) _) (by simp <;> omega) _)
  replace M := Lib.hid (And.intro hbx.2 (And.intro hbx.1 (Goes.go M.out hbn)))
  clear hbx hbn
  clear hv
  obtain ⟨p1_0, q1_0, p1_1, q1_1⟩ := (M.out.2.2.2.2.2.2.2.2.2.2.1).c2
  obtain ⟨p3_0, q3_0, p3_1, q3_1⟩ := (M.out.2.2.2.2.2.2.2.1).c2
  go_wp2_with fail
  clear p1_0 q1_0 p1_1 q1_1 p3_0 q3_0 p3_1 q3_1
  replace M := Lib.hid (And.intro (M.out.1) (And.intro (M.out.2.2.2.1) (And.intro (M.out.2.2.2.2.2.2.2.1) (And.intro (M.out.2.2.2.2.2.2.2.2.1) (And.intro (M.out.2.2.2.2.2.2.2.2.2.1) (And.intro (M.out.2.2.2.2.2.2.2.2.2.2.1) (And.intro (M.out.2.2.2.2.2.2.2.2.2.2.2.1) (M.out.2.2.2.2.2.2.2.2.2.2.2.2))))))))
  refine (bigDiv_r (G := G) (x := y) (y := gv) (q := q2) (r := 0) (H2.out.keep (M.out.2.2.2.2.2.2.2)) (M.out.2.2.2.1) (Sz.mono HY.out (by omega)) (Sz.mono HSG.out (by omega)) HGN.out HQ2.out HM2.out).mono ?_
  rintro e w19 ⟨a_126, c_127, b_128, d_129, rfl, hd130, hd131, hb⟩
  replace M := Lib.hid (And.intro hd130 (And.intro hd131 (Goes.go M.out hb)))
  clear hb hd130 hd131
  go_upto_region 11 with fail
  obtain ⟨w20, hv⟩ : ∃ w_ : World, w_ = ((w19.alloc (.cells #[.int .i64 (sg q2), .slice a_126 (ln q2) c_127] 24)).alloc (.cells #[.int .i64 (sg 0), .slice b_128 (ln 0) d_129] 24)) := ⟨_, rfl⟩
  rw [← hv]
  have o7 : w17.heap.size + 1 < w19.heap.size := ((M.out.2.2.1)).lt
  have hbx := bx2 w19 24 24 #[.int .i64 (sg q2), .slice a_126 (ln q2) c_127] #[.int .i64 (sg 0), .slice b_128 (ln 0) d_129]
  rw [← hv] at hbx
  have hbn : Below w19.heap.size w19 w20 := by rw [hv]; exact (Below.alloc (Below.alloc (Below.refl _ _) (by simp <;> omega) _) (by simp <;> omega) _)
  replace M := Lib.hid (And.intro hbx.2 (And.intro hbx.1 (Goes.go M.out hbn)))
  clear hbx hbn
  clear hv
  obtain ⟨p6_0, q6_0, p6_1, q6_1⟩ := (M.out.2.2.2.2.1).c2
  obtain ⟨p8_0, q8_0, p8_1, q8_1⟩ := (M.out.1).c2
  obtain ⟨p0_0, q0_0, p0_1, q0_1⟩ := (M.out.2.2.2.2.2.2.2.2.2.2.1).c2
  obtain ⟨p1_0, q1_0, p1_1, q1_1⟩ := (M.out.2.2.2.2.2.2.2.2.2.1).c2
  go_wp2_with fail
  clear p6_0 q6_0 p6_1 q6_1 p8_0 q8_0 p8_1 q8_1 p0_0 q0_0 p0_1 q0_1 p1_0 q1_0 p1_1 q1_1
  replace M := Lib.hid (And.intro (M.out.2.2.2.2.2.2.1) (And.intro (M.out.2.2.2.2.2.2.2.1) (And.intro (M.out.2.2.2.2.2.2.2.2.1) (And.intro (M.out.2.2.2.2.2.2.2.2.2.1) (And.intro (M.out.2.2.2.2.2.2.2.2.2.2.1) (M.out.2.2.2.2.2.2.2.2.2.2.2))))))
  refine (bigDiv_r (G := G) (x := y) (y := x) (q := q3) (r := r) (H2.out.keep (M.out.2.2.2.2.2)) (H1.out.keep (M.out.2.2.2.2.2)) (Sz.mono HY.out (by omega)) (Sz.mono HX.out (by omega)) HXN.out HQ3.out HR.out).mono ?_
  rintro e w21 ⟨a_132, c_133, b_134, d_135, rfl, hd136, hd137, hb⟩
  replace M := Lib.hid (And.intro hd136 (And.intro hd137 (Goes.go M.out hb)))
  clear hb hd136 hd137
  go_upto_region 15 with fail
  obtain ⟨w22, hv⟩ : ∃ w_ : World, w_ = ((w21.alloc (.cells #[.int .i64 (sg q3), .slice a_132 (ln q3) c_133] 24)).alloc (.cells #[.int .i64 (sg r), .slice b_134 (ln r) d_135] 24)) := ⟨_, rfl⟩
  rw [← hv]
  have o9 : w9.heap.size < w21.heap.size := ((M.out.2.2.1)).lt
  have hbx := bx2 w21 24 24 #[.int .i64 (sg q3), .slice a_132 (ln q3) c_133] #[.int .i64 (sg r), .slice b_134 (ln r) d_135]
  rw [← hv] at hbx
  have hbn : Below w21.heap.size w21 w22 := by rw [hv]; exact (Below.alloc (Below.alloc (Below.refl _ _) (by simp <;> omega) _) (by simp <;> omega) _)
  replace M := Lib.hid (And.intro hbx.2 (And.intro hbx.1 (Goes.go M.out hbn)))
  clear hbx hbn
  clear hv
  obtain ⟨p0_0, q0_0, p0_1, q0_1⟩ := (M.out.2.2.2.2.2.2.2.2.1).c2
  obtain ⟨p10_0, q10_0, p10_1, q10_1⟩ := (M.out.1).c2
  go_wp2_with fail
  clear p0_0 q0_0 p0_1 q0_1 p10_0 q10_0 p10_1 q10_1
  refine (bigGcd_is (G := G) (x := x) (y := r) (g := gv) (H1.out.keep (M.out.2.2.2.2.2.2.2.2.2)) (M.out.2.2.2.1) (Sz.mono HX.out (by omega)) (Sz.mono HSR.out (by omega)) (by exact HG3.out)).mono ?_
  rintro e w23 ⟨a_138, c_139, rfl, hd140, hb⟩
  replace M := Lib.hid (And.intro hd140 (Goes.go M.out hb))
  clear hb hd140
  go_upto_region 16 with fail
  obtain ⟨w24, hv⟩ : ∃ w_ : World, w_ = (w23.alloc (.cells #[.int .i64 (sg gv), .slice a_138 (ln gv) c_139] 24)) := ⟨_, rfl⟩
  rw [← hv]
  have o11 : w21.heap.size + 1 < w23.heap.size := ((M.out.2.1)).lt
  replace M := Lib.hid (And.intro (hv ▸ bx1 w23 24 #[.int .i64 (sg gv), .slice a_138 (ln gv) c_139]) (Goes.go M.out (hv ▸ below_alloc _ _ : Below w23.heap.size w23 w24)))
  clear hv
  obtain ⟨p11_0, q11_0, p11_1, q11_1⟩ := (M.out.1).c2
  obtain ⟨p3_0, q3_0, p3_1, q3_1⟩ := (M.out.2.2.2.2.2.2.1).c2
  go_wp2_with fail
  clear p11_0 q11_0 p11_1 q11_1 p3_0 q3_0 p3_1 q3_1
  replace M := Lib.hid (And.intro (M.out.2.1) (And.intro (M.out.2.2.2.2.2.2.1) (And.intro (M.out.2.2.2.2.2.2.2.1) (And.intro (M.out.2.2.2.2.2.2.2.2.1) (And.intro (M.out.2.2.2.2.2.2.2.2.2.1) (And.intro (M.out.2.2.2.2.2.2.2.2.2.2.1) (M.out.2.2.2.2.2.2.2.2.2.2.2)))))))
  refine (bigSame_is (G := G) (x := gv) (y := gv) (b := true) (M.out.1) (M.out.2.2.1) (Sz.mono HSG.out (by omega)) (Sz.mono HSG.out (by omega)) (eqZ_of rfl)).mono ?_
  rintro e w25 ⟨rfl, hb⟩
  replace M := Lib.hid (Goes.go M.out hb)
  clear hb
  obtain ⟨p0_0, q0_0, p0_1, q0_1⟩ := (M.out.2.2.2.2.2.1).c2
  obtain ⟨p2_0, q2_0, p2_1, q2_1⟩ := (M.out.2.2.2.1).c2
  go_wp2_with fail
  clear p0_0 q0_0 p0_1 q0_1 p2_0 q2_0 p2_1 q2_1
  obtain ⟨z143, ez143⟩ : ∃ v_ : Int, v_ = (x * z) := ⟨_, rfl⟩
  refine (bigMul_ok (G := G) (x := x) (y := z) (H1.out.keep (M.out.2.2.2.2.2.2)) (H3.out.keep (M.out.2.2.2.2.2.2)) (Sz.mono HX.out (by omega)) (Sz.mono HZ.out (by omega))).mono ?_
  rintro e w26 ⟨a_141, c_142, rfl, hd144, hb⟩
  rw [← ez143] at hd144 ⊢
  have Sz143 : Hid (Sz z143 16) := by show Sz z143 16; rw [ez143]; exact (Sz.mul HX.out HZ.out)
  have Ez143 := Lib.hid ez143; clear ez143
  replace M := Lib.hid (And.intro hd144 (Goes.go M.out hb))
  clear hb hd144
  go_upto_region 19 with fail
  obtain ⟨w27, hv⟩ : ∃ w_ : World, w_ = (w26.alloc (.cells #[.int .i64 (sg z143), .slice a_141 (ln z143) c_142] 24)) := ⟨_, rfl⟩
  rw [← hv]
  have o12 : w9.heap.size < w26.heap.size := ((M.out.2.2.1)).lt
  replace M := Lib.hid (And.intro (hv ▸ bx1 w26 24 #[.int .i64 (sg z143), .slice a_141 (ln z143) c_142]) (Goes.go M.out (hv ▸ below_alloc _ _ : Below w26.heap.size w26 w27)))
  clear hv
  obtain ⟨p1_0, q1_0, p1_1, q1_1⟩ := (M.out.2.2.2.2.2.2.1).c2
  obtain ⟨p2_0, q2_0, p2_1, q2_1⟩ := (M.out.2.2.2.2.2.1).c2
  go_wp2_with fail
  clear p1_0 q1_0 p1_1 q1_1 p2_0 q2_0 p2_1 q2_1
  obtain ⟨z147, ez147⟩ : ∃ v_ : Int, v_ = (y * z) := ⟨_, rfl⟩
  refine (bigMul_ok (G := G) (x := y) (y := z) (H2.out.keep (M.out.2.2.2.2.2.2.2.2)) (H3.out.keep (M.out.2.2.2.2.2.2.2.2)) (Sz.mono HY.out (by omega)) (Sz.mono HZ.out (by omega))).mono ?_
  rintro e w28 ⟨a_145, c_146, rfl, hd148, hb⟩
  rw [← ez147] at hd148 ⊢
  have Sz147 : Hid (Sz z147 16) := by show Sz z147 16; rw [ez147]; exact (Sz.mul HY.out HZ.out)
  have Ez147 := Lib.hid ez147; clear ez147
  replace M := Lib.hid (And.intro hd148 (Goes.go M.out hb))
  clear hb hd148
  go_upto_region 20 with fail
  obtain ⟨w29, hv⟩ : ∃ w_ : World, w_ = (w28.alloc (.cells #[.int .i64 (sg z147), .slice a_145 (ln z147) c_146] 24)) := ⟨_, rfl⟩
  rw [← hv]
  have o13 : w26.heap.size < w28.heap.size := ((M.out.2.1)).lt
  replace M := Lib.hid (And.intro (hv ▸ bx1 w28 24 #[.int .i64 (sg z147), .slice a_145 (ln z147) c_146]) (Goes.go M.out (hv ▸ below_alloc _ _ : Below w28.heap.size w28 w29)))
  clear hv
  obtain ⟨p12_0, q12_0, p12_1, q12_1⟩ := (M.out.2.2.1).c2
  obtain ⟨p13_0, q13_0, p13_1, q13_1⟩ := (M.out.1).c2
  go_wp2_with fail
  clear p12_0 q12_0 p12_1 q12_1 p13_0 q13_0 p13_1 q13_1
  replace M := Lib.hid (And.intro (M.out.2.1) (And.intro (M.out.2.2.2.1) (And.intro (M.out.2.2.2.2.2.1) (And.intro (M.out.2.2.2.2.2.2.1) (And.intro (M.out.2.2.2.2.2.2.2.1) (M.out.2.2.2.2.2.2.2.2.2.2))))))
  refine (bigGcd_is (G := G) (x := z143) (y := z147) (g := kv) (M.out.2.1) (M.out.1) (Sz.mono Sz143.out (by omega)) (Sz.mono Sz147.out (by omega)) (by rw [Ez143.out, Ez147.out]; exact HG4.out)).mono ?_
  rintro e w30 ⟨a_149, c_150, rfl, hd151, hb⟩
  replace M := Lib.hid (And.intro hd151 (Goes.go M.out hb))
  clear hb hd151
  go_upto_region 21 with fail
  obtain ⟨w31, hv⟩ : ∃ w_ : World, w_ = (w30.alloc (.cells #[.int .i64 (sg kv), .slice a_149 (ln kv) c_150] 24)) := ⟨_, rfl⟩
  rw [← hv]
  have o14 : w9.heap.size < w30.heap.size := ((M.out.2.2.2.1)).lt
  replace M := Lib.hid (And.intro (hv ▸ bx1 w30 24 #[.int .i64 (sg kv), .slice a_149 (ln kv) c_150]) (Goes.go M.out (hv ▸ below_alloc _ _ : Below w30.heap.size w30 w31)))
  clear hv
  obtain ⟨p3_0, q3_0, p3_1, q3_1⟩ := (M.out.2.2.2.2.1).c2
  obtain ⟨p2_0, q2_0, p2_1, q2_1⟩ := (M.out.2.2.2.2.2.2.1).c2
  go_wp2_with fail
  clear p3_0 q3_0 p3_1 q3_1 p2_0 q2_0 p2_1 q2_1
  obtain ⟨z154, ez154⟩ : ∃ v_ : Int, v_ = (gv * z) := ⟨_, rfl⟩
  refine (bigMul_ok (G := G) (x := gv) (y := z) (M.out.2.2.2.2.2.1) (H3.out.keep (M.out.2.2.2.2.2.2.2)) (Sz.mono HSG.out (by omega)) (Sz.mono HZ.out (by omega))).mono ?_
  rintro e w32 ⟨a_152, c_153, rfl, hd155, hb⟩
  rw [← ez154] at hd155 ⊢
  have Sz154 : Hid (Sz z154 16) := by show Sz z154 16; rw [ez154]; exact (Sz.mul HSG.out HZ.out)
  have Ez154 := Lib.hid ez154; clear ez154
  replace M := Lib.hid (And.intro hd155 (Goes.go M.out hb))
  clear hb hd155
  go_upto_region 22 with fail
  obtain ⟨w33, hv⟩ : ∃ w_ : World, w_ = (w32.alloc (.cells #[.int .i64 (sg z154), .slice a_152 (ln z154) c_153] 24)) := ⟨_, rfl⟩
  rw [← hv]
  have o15 : w30.heap.size < w32.heap.size := ((M.out.2.1)).lt
  replace M := Lib.hid (And.intro (hv ▸ bx1 w32 24 #[.int .i64 (sg z154), .slice a_152 (ln z154) c_153]) (Goes.go M.out (hv ▸ below_alloc _ _ : Below w32.heap.size w32 w33)))
  clear hv
  cases bc with
  | false =>
    obtain ⟨p2_0, q2_0, p2_1, q2_1⟩ := (M.out.2.2.2.2.2.2.2.2.1).c2
    obtain ⟨p14_0, q14_0, p14_1, q14_1⟩ := (M.out.2.2.1).c2
    obtain ⟨p15_0, q15_0, p15_1, q15_1⟩ := (M.out.1).c2
    go_wp2_with fail
    clear p2_0 q2_0 p2_1 q2_1 p14_0 q14_0 p14_1 q14_1 p15_0 q15_0 p15_1 q15_1
    replace M := Lib.hid (And.intro (M.out.2.1) (And.intro (M.out.2.2.2.1) (M.out.2.2.2.2.2.2.2.2.2)))
    refine (bigSame_is (G := G) (x := kv) (y := z154) (b := true) (M.out.2.1) (M.out.1) (Sz.mono HSK.out (by omega)) (Sz.mono Sz154.out (by omega)) (eqZ_of (by rw [Ez154.out]; exact HC.out))).mono ?_
    rintro e w34 ⟨rfl, hb⟩
    replace M := Lib.hid (Goes.go M.out hb)
    clear hb
    go_wp2_with fail
    go_ret
    exact ⟨rfl, (M.out.2.2)⟩
  | true =>
    obtain ⟨p2_0, q2_0, p2_1, q2_1⟩ := (M.out.2.2.2.2.2.2.2.2.1).c2
    obtain ⟨p15_0, q15_0, p15_1, q15_1⟩ := (M.out.1).c2
    go_wp2_with fail
    clear p2_0 q2_0 p2_1 q2_1 p15_0 q15_0 p15_1 q15_1
    replace M := Lib.hid (And.intro (M.out.1) (And.intro (M.out.2.1) (And.intro (M.out.2.2.1) (And.intro (M.out.2.2.2.1) (M.out.2.2.2.2.2.2.2.2.2)))))
    obtain ⟨z158, ez158⟩ : ∃ v_ : Int, v_ = (-z154) := ⟨_, rfl⟩
    refine (bigNeg_ok (G := G) (x := z154) (M.out.2.1) (Sz.mono Sz154.out (by omega))).mono ?_
    rintro e w34 ⟨a_156, c_157, rfl, hd159, hb⟩
    rw [← ez158] at hd159 ⊢
    have Sz158 : Hid (Sz z158 16) := by show Sz z158 16; rw [ez158]; exact (Sz.neg Sz154.out)
    have Ez158 := Lib.hid ez158; clear ez158
    replace M := Lib.hid (And.intro hd159 (Goes.go M.out hb))
    clear hb hd159
    obtain ⟨p15_0, q15_0, p15_1, q15_1⟩ := (M.out.2.1).c2
    go_upto_region 24 with fail
    clear p15_0 q15_0 p15_1 q15_1
    obtain ⟨w35, hv⟩ : ∃ w_ : World, w_ = ((w34.setCell ⟨w32.heap.size, 0, none⟩ (.int .i64 (sg z158))).setCell ⟨w32.heap.size, 1, none⟩ (.slice a_156 (ln z158) c_157)) := ⟨_, rfl⟩
    rw [← hv]
    have og : w34.grownBy w35 (some w32.heap.size) := by rw [hv]; exact (only_setCell (only_setCell (World.grownBy.refl _ _) _) _)
    have hz : w.heap.size ≤ w32.heap.size := by omega
    have hk : Bx w35 w32.heap.size 24 #[.int .i64 (sg z158), .slice a_156 (ln z158) c_157] := by rw [hv]; exact (((M.out.2.1).set 0 _).set 1 _)
    have hbw : Below w.heap.size w w35 := by rw [hv]; exact (Below.setCell (Below.setCell (M.out.2.2.2.2.2) (by omega) _) (by omega) _)
    replace M := Lib.hid (And.intro ((M.out.1).far (M.out.2.1) (by rfl) (by omega) og) (And.intro hk (And.intro ((M.out.2.2.1).far (M.out.2.1) (by rfl) (by omega) og) (And.intro ((M.out.2.2.2.1).only og (by omega)) (And.intro ((M.out.2.2.2.2.1).far (M.out.2.1) (by rfl) (by omega) og) hbw)))))
    clear hk hbw og hv hz
    obtain ⟨p14_0, q14_0, p14_1, q14_1⟩ := (M.out.2.2.2.1).c2
    obtain ⟨p15_0, q15_0, p15_1, q15_1⟩ := (M.out.2.1).c2
    go_wp2_with fail
    clear p14_0 q14_0 p14_1 q14_1 p15_0 q15_0 p15_1 q15_1
    refine (bigSame_is (G := G) (x := kv) (y := z158) (b := true) (M.out.2.2.2.2.1) (M.out.1) (Sz.mono HSK.out (by omega)) (Sz.mono Sz158.out (by omega)) (eqZ_of (by rw [Ez158.out, Ez154.out]; exact HC.out))).mono ?_
    rintro e w36 ⟨rfl, hb⟩
    replace M := Lib.hid (Goes.go M.out hb)
    clear hb
    go_wp2_with fail
    go_ret
    exact ⟨rfl, (M.out.2.2.2.2.2)⟩

set_option maxRecDepth 100000 in
set_option maxHeartbeats 8000000 in
theorem gcd_two {x y z : Int} {a1 a2 a3 : Option Addr} {c1 c2 c3 : Nat} {w : World} (hG : G ≤ w.heap.size) (ht : Tab w) (h1 : BD G w a1 c1 x) (h2 : BD G w a2 c2 y) (h3 : BD G w a3 c3 z) (hx : Sz x 12) (hy : Sz y 12) (hz : Sz z 4) (hx0 : x = 0) (hy0 : y ≠ 0)  :
    Calls Tryd.prog 3 #[.agg #[.int .i64 (sg x), .slice a1 (ln x) c1], .agg #[.int .i64 (sg y), .slice a2 (ln y) c2], .agg #[.int .i64 (sg z), .slice a3 (ln z) c3]] w fun e w' => e = .returned (.bool true) ∧ Below w.heap.size w w' := by
  obtain ⟨gv, hgv⟩ : ∃ g, ((Nat.gcd x.natAbs y.natAbs : Nat) : Int) = g := ⟨_, rfl⟩
  obtain ⟨kv, hkv⟩ : ∃ k, gv * (z.natAbs : Int) = k := ⟨_, rfl⟩
  obtain ⟨q1, hq1⟩ : ∃ q, dv x gv = q := ⟨_, rfl⟩
  obtain ⟨q2, hq2⟩ : ∃ q, dv y gv = q := ⟨_, rfl⟩
  obtain ⟨q3, hq3⟩ : ∃ q, dv y x = q := ⟨_, rfl⟩
  obtain ⟨r, hr⟩ : ∃ q, md y x = q := ⟨_, rfl⟩
  obtain ⟨bc, hbc⟩ : ∃ b, decide (sg z < 0) = b := ⟨_, rfl⟩
  have hg0 : 0 ≤ gv := by omega
  have f0 : (sg 0 == 0) = true := rfl
  have f1 : (sg 0 != 0) = false := rfl
  have f2 : decide (sg gv < 0) = false := by rw [decide_eq_false_iff_not]; rcases Int.lt_or_eq_of_le hg0 with h | h; rw [sg_pos h]; decide; rw [← h]; decide
  have ex : (sg x == 0) = true := by rw [hx0]; rfl
  have dx : (sg x != 0) = false := by rw [hx0]; rfl
  have ny : sg y ≠ 0 := by intro h; have := abs_sg y; rw [h, Int.zero_mul] at this; exact (hy0) this
  have ey : (sg y == 0) = false := by rw [beq_eq_false_iff_ne]; exact ny
  have dy : (sg y != 0) = true := by rw [bne_iff_ne]; exact ny
  clear ny
  have hgp : 0 < gv := gcd_pos hgv (.inr hy0)
  have ng : sg gv ≠ 0 := by intro h; have := abs_sg gv; rw [h, Int.zero_mul] at this; exact (show gv ≠ 0 by omega) this
  have eg : (sg gv == 0) = false := by rw [beq_eq_false_iff_ne]; exact ng
  have dg : (sg gv != 0) = true := by rw [bne_iff_ne]; exact ng
  clear ng
  have HSG : Hid (Sz gv 12) := by
    show Sz _ _
    rcases gcd_le hgv with h | h
    · exact hx.le h
    · exact hy.le h
  have HSK : Hid (Sz kv 16) := by
    show Sz _ _; rw [← hkv]
    exact Sz.mul (n := 12) (m := 4) HSG.out (by unfold Sz; rw [Int.natAbs_natCast]; exact hz)
  have HSR : Hid (Sz r 12) := by show Sz _ _; rw [← hr]; subst hx0; unfold md; rw [Int.fmod_zero]; exact hy
  have HSQ1 : Hid (Sz q1 12) := by show Sz _ _; rw [← hq1]; exact hx.le (dv_le _ _)
  have HSQ2 : Hid (Sz q2 12) := by show Sz _ _; rw [← hq2]; exact hy.le (dv_le _ _)
  have HSQ3 : Hid (Sz q3 12) := by show Sz _ _; rw [← hq3]; exact hy.le (dv_le _ _)
  have HG1 := Lib.hid hgv
  have HG2 := Lib.hid (gcd_neg hgv)
  have HM1 := Lib.hid (gcd_left hgv)
  have HM2 := Lib.hid (gcd_right hgv)
  have hg3 := gcd_rest hgv
  rw [hr] at hg3
  have HG3 := Lib.hid hg3
  have hg4 := gcd_times (z := z) hgv
  rw [hkv] at hg4
  have HG4 := Lib.hid hg4
  have HC : Hid (kv = if bc = true then -(gv * z) else gv * z) := by
    show _ = _
    rw [← hkv, ← hbc]
    rcases Int.lt_trichotomy z 0 with h | h | h
    · rw [sg_neg h, if_pos (by decide), show (z.natAbs : Int) = -z by omega, Int.mul_neg]
    · subst h; simp [sg]
    · rw [sg_pos h, if_neg (by decide), show (z.natAbs : Int) = z by omega]
  have HQ1 := Lib.hid hq1; have HQ2 := Lib.hid hq2; have HQ3 := Lib.hid hq3; have HR := Lib.hid hr
  have HGN : Hid (gv ≠ 0) := by show _ ≠ _; omega
  clear hgp
  clear hgv hkv hq1 hq2 hq3 hr hg0 hg3 hg4 hx0 hy0
  have HX := Lib.hid hx; have HY := Lib.hid hy; have HZ := Lib.hid hz
  clear hx hy hz
  have HT : Hid (Tab w) := ht
  have H1 : Hid (BD G w a1 c1 x) := h1
  have H2 : Hid (BD G w a2 c2 y) := h2
  have H3 : Hid (BD G w a3 c3 z) := h3
  clear ht h1 h2 h3
  have M : Hid (Below w.heap.size w w) := Below.refl _ _
  go_enter Tryd.func3, Tryd.ntmps3
  go_upto_region 1 with fail
  obtain ⟨w1, hv⟩ : ∃ w_ : World, w_ = (((w.alloc (.cells #[.int .i64 (sg x), .slice a1 (ln x) c1] 24)).alloc (.cells #[.int .i64 (sg y), .slice a2 (ln y) c2] 24)).alloc (.cells #[.int .i64 (sg z), .slice a3 (ln z) c3] 24)) := ⟨_, rfl⟩
  rw [← hv]
  have hbx := bx3 w 24 24 24 #[.int .i64 (sg x), .slice a1 (ln x) c1] #[.int .i64 (sg y), .slice a2 (ln y) c2] #[.int .i64 (sg z), .slice a3 (ln z) c3]
  rw [← hv] at hbx
  have hbn : Below w.heap.size w w1 := by rw [hv]; exact (Below.alloc (Below.alloc (Below.alloc (Below.refl _ _) (by simp <;> omega) _) (by simp <;> omega) _) (by simp <;> omega) _)
  replace M := Lib.hid (And.intro hbx.2.2 (And.intro hbx.2.1 (And.intro hbx.1 (Goes.go M.out hbn))))
  clear hbx hbn
  clear hv
  go_wp2_with fail
  refine (small_ok (G := G) (Nat.le_trans hG (M.out.2.2.2).size) (HT.out.keep (M.out.2.2.2))).mono ?_
  rintro e w2 ⟨rfl, hb⟩
  replace M := Lib.hid (Goes.go M.out hb)
  clear hb
  obtain ⟨p0_0, q0_0, p0_1, q0_1⟩ := (M.out.2.2.1).c2
  go_wp2_with fail
  clear p0_0 q0_0 p0_1 q0_1
  refine (bigFew_ok (s := (sg x)) (m := 12) (b := true) (few_sz HX.out rfl)).mono ?_
  rintro e w3 ⟨rfl, hb⟩
  replace M := Lib.hid (Goes.go M.out hb)
  clear hb
  obtain ⟨p1_0, q1_0, p1_1, q1_1⟩ := (M.out.2.1).c2
  go_wp2_with fail
  clear p1_0 q1_0 p1_1 q1_1
  refine (bigFew_ok (s := (sg y)) (m := 12) (b := true) (few_sz HY.out rfl)).mono ?_
  rintro e w4 ⟨rfl, hb⟩
  replace M := Lib.hid (Goes.go M.out hb)
  clear hb
  obtain ⟨p2_0, q2_0, p2_1, q2_1⟩ := (M.out.1).c2
  go_wp2_with fail
  clear p2_0 q2_0 p2_1 q2_1
  refine (bigFew_ok (s := (sg z)) (m := 4) (b := true) (few_sz HZ.out rfl)).mono ?_
  rintro e w5 ⟨rfl, hb⟩
  replace M := Lib.hid (Goes.go M.out hb)
  clear hb
  obtain ⟨p0_0, q0_0, p0_1, q0_1⟩ := (M.out.2.2.1).c2
  go_wp2_with fail
  clear p0_0 q0_0 p0_1 q0_1
  refine (bigRight_ok (G := G) (z := x) (H1.out.keep (M.out.2.2.2)) (Sz.mono HX.out (by omega))).mono ?_
  rintro e w6 ⟨rfl, hb⟩
  replace M := Lib.hid (Goes.go M.out hb)
  clear hb
  obtain ⟨p1_0, q1_0, p1_1, q1_1⟩ := (M.out.2.1).c2
  go_wp2_with fail
  clear p1_0 q1_0 p1_1 q1_1
  refine (bigRight_ok (G := G) (z := y) (H2.out.keep (M.out.2.2.2)) (Sz.mono HY.out (by omega))).mono ?_
  rintro e w7 ⟨rfl, hb⟩
  replace M := Lib.hid (Goes.go M.out hb)
  clear hb
  obtain ⟨p2_0, q2_0, p2_1, q2_1⟩ := (M.out.1).c2
  go_wp2_with fail
  clear p2_0 q2_0 p2_1 q2_1
  refine (bigRight_ok (G := G) (z := z) (H3.out.keep (M.out.2.2.2)) (Sz.mono HZ.out (by omega))).mono ?_
  rintro e w8 ⟨rfl, hb⟩
  replace M := Lib.hid (Goes.go M.out hb)
  clear hb
  obtain ⟨p0_0, q0_0, p0_1, q0_1⟩ := (M.out.2.2.1).c2
  obtain ⟨p1_0, q1_0, p1_1, q1_1⟩ := (M.out.2.1).c2
  go_wp2_with fail
  clear p0_0 q0_0 p0_1 q0_1 p1_0 q1_0 p1_1 q1_1
  refine (bigGcd_is (G := G) (x := x) (y := y) (g := gv) (H1.out.keep (M.out.2.2.2)) (H2.out.keep (M.out.2.2.2)) (Sz.mono HX.out (by omega)) (Sz.mono HY.out (by omega)) (by exact HG1.out)).mono ?_
  rintro e w9 ⟨a_1, c_2, rfl, hd3, hb⟩
  replace M := Lib.hid (And.intro hd3 (Goes.go M.out hb))
  clear hb hd3
  go_wp2_with fail
  obtain ⟨w10, hv⟩ : ∃ w_ : World, w_ = (w9.alloc (.cells #[.int .i64 (sg gv), .slice a_1 (ln gv) c_2] 24)) := ⟨_, rfl⟩
  rw [← hv]
  have o3 : w.heap.size + 1 + 1 < w9.heap.size := ((M.out.2.1)).lt
  replace M := Lib.hid (And.intro (hv ▸ bx1 w9 24 #[.int .i64 (sg gv), .slice a_1 (ln gv) c_2]) (Goes.go M.out (hv ▸ below_alloc _ _ : Below w9.heap.size w9 w10)))
  clear hv
  obtain ⟨w11, hv⟩ : ∃ w_ : World, w_ = w10.drew := ⟨_, rfl⟩
  replace M := Lib.hid (Goes.go M.out (hv ▸ below_drew _ : Below w10.heap.size w10 w11))
  refine wp_region_held_drew (S := (fun w' => w'.cell? ⟨w.heap.size, 0, none⟩ = some (.int .i64 (sg x)) ∧ w'.cell? ⟨w.heap.size, 1, none⟩ = some (.slice a1 (ln x) c1) ∧ w'.cell? ⟨w.heap.size + 1, 0, none⟩ = some (.int .i64 (sg y)) ∧ w'.cell? ⟨w.heap.size + 1, 1, none⟩ = some (.slice a2 (ln y) c2))) (by kernel_rfl) (by rw [← hv]; exact ⟨(M.out.2.2.2.2.1).at.1 0, (M.out.2.2.2.2.1).at.1 1, (M.out.2.2.2.1).at.1 0, (M.out.2.2.2.1).at.1 1⟩) (fun hH11 => ?_)
  rw [← hv] at hH11 ⊢
  clear hv
  refine tk at0 ?_
  refine tk at2 ?_
  refine wpAnyH_ready (rs := [1, 7]) (by kernel_rfl) (by simp) ?_
  refine AllReadyH.cons at1 (fun K hK => ?_) ?_
  ·
    go_simp
    obtain ⟨z14, ez14⟩ : ∃ v_ : Int, v_ = (-y) := ⟨_, rfl⟩
    refine (bigNeg_ok (G := G) (x := y) (H2.out.keep (M.out.2.2.2.2.2)) (Sz.mono HY.out (by omega))).mono ?_
    rintro e w12 ⟨a_12, c_13, rfl, hd15, hb⟩
    rw [← ez14] at hd15 ⊢
    have Sz14 : Hid (Sz z14 12) := by show Sz z14 12; rw [ez14]; exact (Sz.neg HY.out)
    have Ez14 := Lib.hid ez14; clear ez14
    replace M := Lib.hid (And.intro hd15 (Goes.go M.out hb))
    clear hb hd15
    (try go_wp2_with fail)
    refine hK.out _ _ (⟨(M.out.2.2.2.2.2.1).at.1 0, (M.out.2.2.2.2.2.1).at.1 1, (M.out.2.2.2.2.1).at.1 0, (M.out.2.2.2.2.1).at.1 1⟩) (fun hH16 => ?_)
    clear hK K hH11
    (try simp only [Act.put, List.setIfInBounds_toArray, List.set_cons_zero, List.set_cons_succ])
    refine wpAnyH_ready (rs := [3, 7]) (by kernel_rfl) (by simp) ?_
    refine AllReadyH.cons at3 (fun K hK => ?_) ?_
    ·
      go_simp
      refine (bigGcd_is (G := G) (x := z14) (y := x) (g := gv) (M.out.1) (H1.out.keep (M.out.2.2.2.2.2.2)) (Sz.mono Sz14.out (by omega)) (Sz.mono HX.out (by omega)) (by rw [Ez14.out]; exact HG2.out)).mono ?_
      rintro e w13 ⟨a_17, c_18, rfl, hd19, hb⟩
      replace M := Lib.hid (And.intro hd19 (Goes.go M.out hb))
      clear hb hd19
      (try go_wp2_with fail)
      refine hK.out _ _ (⟨(M.out.2.2.2.2.2.2.1).at.1 0, (M.out.2.2.2.2.2.2.1).at.1 1, (M.out.2.2.2.2.2.1).at.1 0, (M.out.2.2.2.2.2.1).at.1 1⟩) (fun hH20 => ?_)
      clear hK K hH16
      (try simp only [Act.put, List.setIfInBounds_toArray, List.set_cons_zero, List.set_cons_succ])
      refine tk at4 ?_
      refine tk at5 ?_
      refine tk at6 ?_
      refine wpAnyH_ready (rs := [7]) (by kernel_rfl) (by simp) ?_
      refine AllReadyH.cons at7 (fun K hK => ?_) AllReadyH.nil
      go_simp
      obtain ⟨w14, hv⟩ : ∃ w_ : World, w_ = (w13.alloc (.cells #[.int .i64 0, .slice none 0 0] 24)) := ⟨_, rfl⟩
      rw [← hv]
      have o4 : w9.heap.size < w13.heap.size := ((M.out.2.2.1)).lt
      replace M := Lib.hid (And.intro (hv ▸ bx1 w13 24 #[.int .i64 0, .slice none 0 0]) (Goes.go M.out (hv ▸ below_alloc _ _ : Below w13.heap.size w13 w14)))
      clear hv
      refine hK.out _ _ (⟨(M.out.2.2.2.2.2.2.2.1).at.1 0, (M.out.2.2.2.2.2.2.2.1).at.1 1, (M.out.2.2.2.2.2.2.1).at.1 0, (M.out.2.2.2.2.2.2.1).at.1 1⟩) (fun hH21 => ?_)
      clear hK K hH20
      (try simp only [Act.put, List.setIfInBounds_toArray, List.set_cons_zero, List.set_cons_succ])
      refine wpAnyH_ready (rs := [8]) (by kernel_rfl) (by simp) ?_
      refine AllReadyH.cons at8 (fun K hK => ?_) AllReadyH.nil
      obtain ⟨p4_0, q4_0, p4_1, q4_1⟩ := (M.out.1).c2
      go_simp
      clear p4_0 q4_0 p4_1 q4_1
      obtain ⟨w15, hv⟩ : ∃ w_ : World, w_ = ((w14.setCell ⟨w13.heap.size, 0, none⟩ (.int .i64 (sg gv))).setCell ⟨w13.heap.size, 1, none⟩ (.slice a_17 (ln gv) c_18)) := ⟨_, rfl⟩
      rw [← hv]
      have og : w14.grownBy w15 (some w13.heap.size) := by rw [hv]; exact (only_setCell (only_setCell (World.grownBy.refl _ _) _) _)
      have hz : w.heap.size ≤ w13.heap.size := by omega
      have hk : Bx w15 w13.heap.size 24 #[.int .i64 (sg gv), .slice a_17 (ln gv) c_18] := by rw [hv]; exact (((M.out.1).set 0 _).set 1 _)
      have hbw : Below w.heap.size w w15 := by rw [hv]; exact (Below.setCell (Below.setCell (M.out.2.2.2.2.2.2.2.2) (by omega) _) (by omega) _)
      replace M := Lib.hid (And.intro hk (And.intro ((M.out.2.1).far (M.out.1) (by rfl) (by omega) og) (And.intro ((M.out.2.2.1).far (M.out.1) (by rfl) (by omega) og) (And.intro ((M.out.2.2.2.1).only og (by omega)) (And.intro ((M.out.2.2.2.2.1).far (M.out.1) (by rfl) (by omega) og) (And.intro ((M.out.2.2.2.2.2.1).only og (by omega)) (And.intro ((M.out.2.2.2.2.2.2.1).only og (by omega)) (And.intro ((M.out.2.2.2.2.2.2.2.1).only og (by omega)) hbw))))))))
      clear hk hbw og hv hz
      refine hK.out _ _ (⟨(M.out.2.2.2.2.2.2.2.1).at.1 0, (M.out.2.2.2.2.2.2.2.1).at.1 1, (M.out.2.2.2.2.2.2.1).at.1 0, (M.out.2.2.2.2.2.2.1).at.1 1⟩) (fun hH22 => ?_)
      clear hK K hH21
      (try simp only [Act.put, List.setIfInBounds_toArray, List.set_cons_zero, List.set_cons_succ])
      refine tk at9 ?_
      refine wpAnyH_done (by kernel_rfl) ?_ _
      clear hH22
      obtain ⟨p3_0, q3_0, p3_1, q3_1⟩ := (M.out.2.2.2.1).c2
      obtain ⟨p4_0, q4_0, p4_1, q4_1⟩ := (M.out.1).c2
      go_wp2_with fail
      clear p3_0 q3_0 p3_1 q3_1 p4_0 q4_0 p4_1 q4_1
      refine (bigSame_is (G := G) (x := gv) (y := gv) (b := true) (M.out.2.2.2.2.1) (M.out.2.1) (Sz.mono HSG.out (by omega)) (Sz.mono HSG.out (by omega)) (eqZ_of rfl)).mono ?_
      rintro e w16 ⟨rfl, hb⟩
      replace M := Lib.hid (Goes.go M.out hb)
      clear hb
      obtain ⟨p3_0, q3_0, p3_1, q3_1⟩ := (M.out.2.2.2.1).c2
      obtain ⟨p0_0, q0_0, p0_1, q0_1⟩ := (M.out.2.2.2.2.2.2.2.1).c2
      obtain ⟨p1_0, q1_0, p1_1, q1_1⟩ := (M.out.2.2.2.2.2.2.1).c2
      go_wp2_with fail
      clear p3_0 q3_0 p3_1 q3_1 p0_0 q0_0 p0_1 q0_1 p1_0 q1_0 p1_1 q1_1
      refine (bigDiv_r (G := G) (x := x) (y := gv) (q := q1) (r := 0) (H1.out.keep (M.out.2.2.2.2.2.2.2.2)) (M.out.2.2.2.2.1) (Sz.mono HX.out (by omega)) (Sz.mono HSG.out (by omega)) HGN.out HQ1.out HM1.out).mono ?_
      rintro e w17 ⟨a_23, c_24, b_25, d_26, rfl, hd27, hd28, hb⟩
      replace M := Lib.hid (And.intro hd27 (And.intro hd28 (Goes.go M.out hb)))
      clear hb hd27 hd28
      go_upto_region 10 with fail
      obtain ⟨w18, hv⟩ : ∃ w_ : World, w_ = ((w17.alloc (.cells #[.int .i64 (sg q1), .slice a_23 (ln q1) c_24] 24)).alloc (.cells #[.int .i64 (sg 0), .slice b_25 (ln 0) d_26] 24)) := ⟨_, rfl⟩
      rw [← hv]
      have o5 : w13.heap.size < w17.heap.size := ((M.out.2.2.1)).lt
      have hbx := bx2 w17 24 24 #[.int .i64 (sg q1), .slice a_23 (ln q1) c_24] #[.int .i64 (sg 0), .slice b_25 (ln 0) d_26]
      rw [← hv] at hbx
      have hbn : Below w17.heap.size w17 w18 := by rw [hv]; exact (Below.alloc (Below.alloc (Below.refl _ _) (by simp <;> omega) _) (by simp <;> omega) _)
      replace M := Lib.hid (And.intro hbx.2 (And.intro hbx.1 (Goes.go M.out hbn)))
      clear hbx hbn
      clear hv
      obtain ⟨p1_0, q1_0, p1_1, q1_1⟩ := (M.out.2.2.2.2.2.2.2.2.2.2.1).c2
      obtain ⟨p3_0, q3_0, p3_1, q3_1⟩ := (M.out.2.2.2.2.2.2.2.1).c2
      go_wp2_with fail
      clear p1_0 q1_0 p1_1 q1_1 p3_0 q3_0 p3_1 q3_1
      replace M := Lib.hid (And.intro (M.out.1) (And.intro (M.out.2.2.2.1) (And.intro (M.out.2.2.2.2.2.2.2.1) (And.intro (M.out.2.2.2.2.2.2.2.2.1) (And.intro (M.out.2.2.2.2.2.2.2.2.2.1) (And.intro (M.out.2.2.2.2.2.2.2.2.2.2.1) (And.intro (M.out.2.2.2.2.2.2.2.2.2.2.2.1) (M.out.2.2.2.2.2.2.2.2.2.2.2.2))))))))
      refine (bigDiv_r (G := G) (x := y) (y := gv) (q := q2) (r := 0) (H2.out.keep (M.out.2.2.2.2.2.2.2)) (M.out.2.2.2.1) (Sz.mono HY.out (by omega)) (Sz.mono HSG.out (by omega)) HGN.out HQ2.out HM2.out).mono ?_
      rintro e w19 ⟨a_29, c_30, b_31, d_32, rfl, hd33, hd34, hb⟩
      replace M := Lib.hid (And.intro hd33 (And.intro hd34 (Goes.go M.out hb)))
      clear hb hd33 hd34
      go_upto_region 11 with fail
      obtain ⟨w20, hv⟩ : ∃ w_ : World, w_ = ((w19.alloc (.cells #[.int .i64 (sg q2), .slice a_29 (ln q2) c_30] 24)).alloc (.cells #[.int .i64 (sg 0), .slice b_31 (ln 0) d_32] 24)) := ⟨_, rfl⟩
      rw [← hv]
      have o7 : w17.heap.size + 1 < w19.heap.size := ((M.out.2.2.1)).lt
      have hbx := bx2 w19 24 24 #[.int .i64 (sg q2), .slice a_29 (ln q2) c_30] #[.int .i64 (sg 0), .slice b_31 (ln 0) d_32]
      rw [← hv] at hbx
      have hbn : Below w19.heap.size w19 w20 := by rw [hv]; exact (Below.alloc (Below.alloc (Below.refl _ _) (by simp <;> omega) _) (by simp <;> omega) _)
      replace M := Lib.hid (And.intro hbx.2 (And.intro hbx.1 (Goes.go M.out hbn)))
      clear hbx hbn
      clear hv
      obtain ⟨p6_0, q6_0, p6_1, q6_1⟩ := (M.out.2.2.2.2.1).c2
      obtain ⟨p8_0, q8_0, p8_1, q8_1⟩ := (M.out.1).c2
      obtain ⟨p0_0, q0_0, p0_1, q0_1⟩ := (M.out.2.2.2.2.2.2.2.2.2.2.1).c2
      obtain ⟨p2_0, q2_0, p2_1, q2_1⟩ := (M.out.2.2.2.2.2.2.2.2.1).c2
      go_wp2_with fail
      clear p6_0 q6_0 p6_1 q6_1 p8_0 q8_0 p8_1 q8_1 p0_0 q0_0 p0_1 q0_1 p2_0 q2_0 p2_1 q2_1
      replace M := Lib.hid (And.intro (M.out.2.2.2.2.2.2.1) (And.intro (M.out.2.2.2.2.2.2.2.1) (And.intro (M.out.2.2.2.2.2.2.2.2.1) (And.intro (M.out.2.2.2.2.2.2.2.2.2.1) (M.out.2.2.2.2.2.2.2.2.2.2.2)))))
      obtain ⟨z37, ez37⟩ : ∃ v_ : Int, v_ = (x * z) := ⟨_, rfl⟩
      refine (bigMul_ok (G := G) (x := x) (y := z) (H1.out.keep (M.out.2.2.2.2)) (H3.out.keep (M.out.2.2.2.2)) (Sz.mono HX.out (by omega)) (Sz.mono HZ.out (by omega))).mono ?_
      rintro e w21 ⟨a_35, c_36, rfl, hd38, hb⟩
      rw [← ez37] at hd38 ⊢
      have Sz37 : Hid (Sz z37 16) := by show Sz z37 16; rw [ez37]; exact (Sz.mul HX.out HZ.out)
      have Ez37 := Lib.hid ez37; clear ez37
      replace M := Lib.hid (And.intro hd38 (Goes.go M.out hb))
      clear hb hd38
      go_upto_region 19 with fail
      obtain ⟨w22, hv⟩ : ∃ w_ : World, w_ = (w21.alloc (.cells #[.int .i64 (sg z37), .slice a_35 (ln z37) c_36] 24)) := ⟨_, rfl⟩
      rw [← hv]
      have o9 : w9.heap.size < w21.heap.size := ((M.out.2.1)).lt
      replace M := Lib.hid (And.intro (hv ▸ bx1 w21 24 #[.int .i64 (sg z37), .slice a_35 (ln z37) c_36]) (Goes.go M.out (hv ▸ below_alloc _ _ : Below w21.heap.size w21 w22)))
      clear hv
      obtain ⟨p1_0, q1_0, p1_1, q1_1⟩ := (M.out.2.2.2.2.2.1).c2
      obtain ⟨p2_0, q2_0, p2_1, q2_1⟩ := (M.out.2.2.2.2.1).c2
      go_wp2_with fail
      clear p1_0 q1_0 p1_1 q1_1 p2_0 q2_0 p2_1 q2_1
      obtain ⟨z41, ez41⟩ : ∃ v_ : Int, v_ = (y * z) := ⟨_, rfl⟩
      refine (bigMul_ok (G := G) (x := y) (y := z) (H2.out.keep (M.out.2.2.2.2.2.2)) (H3.out.keep (M.out.2.2.2.2.2.2)) (Sz.mono HY.out (by omega)) (Sz.mono HZ.out (by omega))).mono ?_
      rintro e w23 ⟨a_39, c_40, rfl, hd42, hb⟩
      rw [← ez41] at hd42 ⊢
      have Sz41 : Hid (Sz z41 16) := by show Sz z41 16; rw [ez41]; exact (Sz.mul HY.out HZ.out)
      have Ez41 := Lib.hid ez41; clear ez41
      replace M := Lib.hid (And.intro hd42 (Goes.go M.out hb))
      clear hb hd42
      go_upto_region 20 with fail
      obtain ⟨w24, hv⟩ : ∃ w_ : World, w_ = (w23.alloc (.cells #[.int .i64 (sg z41), .slice a_39 (ln z41) c_40] 24)) := ⟨_, rfl⟩
      rw [← hv]
      have o10 : w21.heap.size < w23.heap.size := ((M.out.2.1)).lt
      replace M := Lib.hid (And.intro (hv ▸ bx1 w23 24 #[.int .i64 (sg z41), .slice a_39 (ln z41) c_40]) (Goes.go M.out (hv ▸ below_alloc _ _ : Below w23.heap.size w23 w24)))
      clear hv
      obtain ⟨p9_0, q9_0, p9_1, q9_1⟩ := (M.out.2.2.1).c2
      obtain ⟨p10_0, q10_0, p10_1, q10_1⟩ := (M.out.1).c2
      go_wp2_with fail
      clear p9_0 q9_0 p9_1 q9_1 p10_0 q10_0 p10_1 q10_1
      refine (bigGcd_is (G := G) (x := z37) (y := z41) (g := kv) (M.out.2.2.2.1) (M.out.2.1) (Sz.mono Sz37.out (by omega)) (Sz.mono Sz41.out (by omega)) (by rw [Ez37.out, Ez41.out]; exact HG4.out)).mono ?_
      rintro e w25 ⟨a_43, c_44, rfl, hd45, hb⟩
      replace M := Lib.hid (And.intro hd45 (Goes.go M.out hb))
      clear hb hd45
      go_upto_region 21 with fail
      obtain ⟨w26, hv⟩ : ∃ w_ : World, w_ = (w25.alloc (.cells #[.int .i64 (sg kv), .slice a_43 (ln kv) c_44] 24)) := ⟨_, rfl⟩
      rw [← hv]
      have o11 : w23.heap.size < w25.heap.size := ((M.out.2.1)).lt
      replace M := Lib.hid (And.intro (hv ▸ bx1 w25 24 #[.int .i64 (sg kv), .slice a_43 (ln kv) c_44]) (Goes.go M.out (hv ▸ below_alloc _ _ : Below w25.heap.size w25 w26)))
      clear hv
      obtain ⟨p3_0, q3_0, p3_1, q3_1⟩ := (M.out.2.2.2.2.2.2.1).c2
      obtain ⟨p2_0, q2_0, p2_1, q2_1⟩ := (M.out.2.2.2.2.2.2.2.2.1).c2
      go_wp2_with fail
      clear p3_0 q3_0 p3_1 q3_1 p2_0 q2_0 p2_1 q2_1
      replace M := Lib.hid (And.intro (M.out.1) (And.intro (M.out.2.1) (And.intro (M.out.2.2.2.2.2.2.2.1) (And.intro (M.out.2.2.2.2.2.2.2.2.1) (M.out.2.2.2.2.2.2.2.2.2.2)))))
      obtain ⟨z48, ez48⟩ : ∃ v_ : Int, v_ = (gv * z) := ⟨_, rfl⟩
      refine (bigMul_ok (G := G) (x := gv) (y := z) (M.out.2.2.1) (H3.out.keep (M.out.2.2.2.2)) (Sz.mono HSG.out (by omega)) (Sz.mono HZ.out (by omega))).mono ?_
      rintro e w27 ⟨a_46, c_47, rfl, hd49, hb⟩
      rw [← ez48] at hd49 ⊢
      have Sz48 : Hid (Sz z48 16) := by show Sz z48 16; rw [ez48]; exact (Sz.mul HSG.out HZ.out)
      have Ez48 := Lib.hid ez48; clear ez48
      replace M := Lib.hid (And.intro hd49 (Goes.go M.out hb))
      clear hb hd49
      go_upto_region 22 with fail
      obtain ⟨w28, hv⟩ : ∃ w_ : World, w_ = (w27.alloc (.cells #[.int .i64 (sg z48), .slice a_46 (ln z48) c_47] 24)) := ⟨_, rfl⟩
      rw [← hv]
      have o12 : w25.heap.size < w27.heap.size := ((M.out.2.1)).lt
      replace M := Lib.hid (And.intro (hv ▸ bx1 w27 24 #[.int .i64 (sg z48), .slice a_46 (ln z48) c_47]) (Goes.go M.out (hv ▸ below_alloc _ _ : Below w27.heap.size w27 w28)))
      clear hv
      cases bc with
      | false =>
        obtain ⟨p2_0, q2_0, p2_1, q2_1⟩ := (M.out.2.2.2.2.2.1).c2
        obtain ⟨p11_0, q11_0, p11_1, q11_1⟩ := (M.out.2.2.1).c2
        obtain ⟨p12_0, q12_0, p12_1, q12_1⟩ := (M.out.1).c2
        go_wp2_with fail
        clear p2_0 q2_0 p2_1 q2_1 p11_0 q11_0 p11_1 q11_1 p12_0 q12_0 p12_1 q12_1
        replace M := Lib.hid (And.intro (M.out.2.1) (And.intro (M.out.2.2.2.1) (M.out.2.2.2.2.2.2)))
        refine (bigSame_is (G := G) (x := kv) (y := z48) (b := true) (M.out.2.1) (M.out.1) (Sz.mono HSK.out (by omega)) (Sz.mono Sz48.out (by omega)) (eqZ_of (by rw [Ez48.out]; exact HC.out))).mono ?_
        rintro e w29 ⟨rfl, hb⟩
        replace M := Lib.hid (Goes.go M.out hb)
        clear hb
        go_wp2_with fail
        go_ret
        exact ⟨rfl, (M.out.2.2)⟩
      | true =>
        obtain ⟨p2_0, q2_0, p2_1, q2_1⟩ := (M.out.2.2.2.2.2.1).c2
        obtain ⟨p12_0, q12_0, p12_1, q12_1⟩ := (M.out.1).c2
        go_wp2_with fail
        clear p2_0 q2_0 p2_1 q2_1 p12_0 q12_0 p12_1 q12_1
        obtain ⟨z52, ez52⟩ : ∃ v_ : Int, v_ = (-z48) := ⟨_, rfl⟩
        refine (bigNeg_ok (G := G) (x := z48) (M.out.2.1) (Sz.mono Sz48.out (by omega))).mono ?_
        rintro e w29 ⟨a_50, c_51, rfl, hd53, hb⟩
        rw [← ez52] at hd53 ⊢
        have Sz52 : Hid (Sz z52 16) := by show Sz z52 16; rw [ez52]; exact (Sz.neg Sz48.out)
        have Ez52 := Lib.hid ez52; clear ez52
        replace M := Lib.hid (And.intro hd53 (Goes.go M.out hb))
        clear hb hd53
        obtain ⟨p12_0, q12_0, p12_1, q12_1⟩ := (M.out.2.1).c2
        go_upto_region 24 with fail
        clear p12_0 q12_0 p12_1 q12_1
        obtain ⟨w30, hv⟩ : ∃ w_ : World, w_ = ((w29.setCell ⟨w27.heap.size, 0, none⟩ (.int .i64 (sg z52))).setCell ⟨w27.heap.size, 1, none⟩ (.slice a_50 (ln z52) c_51)) := ⟨_, rfl⟩
        rw [← hv]
        have og : w29.grownBy w30 (some w27.heap.size) := by rw [hv]; exact (only_setCell (only_setCell (World.grownBy.refl _ _) _) _)
        have hz : w.heap.size ≤ w27.heap.size := by omega
        have hk : Bx w30 w27.heap.size 24 #[.int .i64 (sg z52), .slice a_50 (ln z52) c_51] := by rw [hv]; exact (((M.out.2.1).set 0 _).set 1 _)
        have hbw : Below w.heap.size w w30 := by rw [hv]; exact (Below.setCell (Below.setCell (M.out.2.2.2.2.2.2.2) (by omega) _) (by omega) _)
        replace M := Lib.hid (And.intro ((M.out.1).far (M.out.2.1) (by rfl) (by omega) og) (And.intro hk (And.intro ((M.out.2.2.1).far (M.out.2.1) (by rfl) (by omega) og) (And.intro ((M.out.2.2.2.1).only og (by omega)) (And.intro ((M.out.2.2.2.2.1).far (M.out.2.1) (by rfl) (by omega) og) (And.intro ((M.out.2.2.2.2.2.1).far (M.out.2.1) (by rfl) (by omega) og) (And.intro ((M.out.2.2.2.2.2.2.1).only og (by omega)) hbw)))))))
        clear hk hbw og hv hz
        obtain ⟨p11_0, q11_0, p11_1, q11_1⟩ := (M.out.2.2.2.1).c2
        obtain ⟨p12_0, q12_0, p12_1, q12_1⟩ := (M.out.2.1).c2
        go_wp2_with fail
        clear p11_0 q11_0 p11_1 q11_1 p12_0 q12_0 p12_1 q12_1
        replace M := Lib.hid (And.intro (M.out.1) (And.intro (M.out.2.2.2.2.1) (M.out.2.2.2.2.2.2.2)))
        refine (bigSame_is (G := G) (x := kv) (y := z52) (b := true) (M.out.2.1) (M.out.1) (Sz.mono HSK.out (by omega)) (Sz.mono Sz52.out (by omega)) (eqZ_of (by rw [Ez52.out, Ez48.out]; exact HC.out))).mono ?_
        rintro e w31 ⟨rfl, hb⟩
        replace M := Lib.hid (Goes.go M.out hb)
        clear hb
        go_wp2_with fail
        go_ret
        exact ⟨rfl, (M.out.2.2)⟩
    refine AllReadyH.cons at7 (fun K hK => ?_) AllReadyH.nil
    go_simp
    obtain ⟨w13, hv⟩ : ∃ w_ : World, w_ = (w12.alloc (.cells #[.int .i64 0, .slice none 0 0] 24)) := ⟨_, rfl⟩
    rw [← hv]
    have o4 : w9.heap.size < w12.heap.size := ((M.out.2.1)).lt
    replace M := Lib.hid (And.intro (hv ▸ bx1 w12 24 #[.int .i64 0, .slice none 0 0]) (Goes.go M.out (hv ▸ below_alloc _ _ : Below w12.heap.size w12 w13)))
    clear hv
    refine hK.out _ _ (⟨(M.out.2.2.2.2.2.2.1).at.1 0, (M.out.2.2.2.2.2.2.1).at.1 1, (M.out.2.2.2.2.2.1).at.1 0, (M.out.2.2.2.2.2.1).at.1 1⟩) (fun hH54 => ?_)
    clear hK K hH16
    (try simp only [Act.put, List.setIfInBounds_toArray, List.set_cons_zero, List.set_cons_succ])
    refine wpAnyH_ready (rs := [3]) (by kernel_rfl) (by simp) ?_
    refine AllReadyH.cons at3 (fun K hK => ?_) AllReadyH.nil
    go_simp
    refine (bigGcd_is (G := G) (x := z14) (y := x) (g := gv) (M.out.2.1) (H1.out.keep (M.out.2.2.2.2.2.2.2)) (Sz.mono Sz14.out (by omega)) (Sz.mono HX.out (by omega)) (by rw [Ez14.out]; exact HG2.out)).mono ?_
    rintro e w14 ⟨a_55, c_56, rfl, hd57, hb⟩
    replace M := Lib.hid (And.intro hd57 (Goes.go M.out hb))
    clear hb hd57
    (try go_wp2_with fail)
    refine hK.out _ _ (⟨(M.out.2.2.2.2.2.2.2.1).at.1 0, (M.out.2.2.2.2.2.2.2.1).at.1 1, (M.out.2.2.2.2.2.2.1).at.1 0, (M.out.2.2.2.2.2.2.1).at.1 1⟩) (fun hH58 => ?_)
    clear hK K hH54
    (try simp only [Act.put, List.setIfInBounds_toArray, List.set_cons_zero, List.set_cons_succ])
    refine tk at4 ?_
    refine tk at5 ?_
    refine tk at6 ?_
    refine wpAnyH_ready (rs := [8]) (by kernel_rfl) (by simp) ?_
    refine AllReadyH.cons at8 (fun K hK => ?_) AllReadyH.nil
    obtain ⟨p4_0, q4_0, p4_1, q4_1⟩ := (M.out.2.1).c2
    go_simp
    clear p4_0 q4_0 p4_1 q4_1
    obtain ⟨w15, hv⟩ : ∃ w_ : World, w_ = ((w14.setCell ⟨w12.heap.size, 0, none⟩ (.int .i64 (sg gv))).setCell ⟨w12.heap.size, 1, none⟩ (.slice a_55 (ln gv) c_56)) := ⟨_, rfl⟩
    rw [← hv]
    have og : w14.grownBy w15 (some w12.heap.size) := by rw [hv]; exact (only_setCell (only_setCell (World.grownBy.refl _ _) _) _)
    have hz : w.heap.size ≤ w12.heap.size := by omega
    have hk : Bx w15 w12.heap.size 24 #[.int .i64 (sg gv), .slice a_55 (ln gv) c_56] := by rw [hv]; exact (((M.out.2.1).set 0 _).set 1 _)
    have hbw : Below w.heap.size w w15 := by rw [hv]; exact (Below.setCell (Below.setCell (M.out.2.2.2.2.2.2.2.2) (by omega) _) (by omega) _)
    replace M := Lib.hid (And.intro ((M.out.1).far (M.out.2.1) (by rfl) (by omega) og) (And.intro hk (And.intro ((M.out.2.2.1).far (M.out.2.1) (by rfl) (by omega) og) (And.intro ((M.out.2.2.2.1).only og (by omega)) (And.intro ((M.out.2.2.2.2.1).far (M.out.2.1) (by rfl) (by omega) og) (And.intro ((M.out.2.2.2.2.2.1).only og (by omega)) (And.intro ((M.out.2.2.2.2.2.2.1).only og (by omega)) (And.intro ((M.out.2.2.2.2.2.2.2.1).only og (by omega)) hbw))))))))
    clear hk hbw og hv hz
    refine hK.out _ _ (⟨(M.out.2.2.2.2.2.2.2.1).at.1 0, (M.out.2.2.2.2.2.2.2.1).at.1 1, (M.out.2.2.2.2.2.2.1).at.1 0, (M.out.2.2.2.2.2.2.1).at.1 1⟩) (fun hH59 => ?_)
    clear hK K hH58
    (try simp only [Act.put, List.setIfInBounds_toArray, List.set_cons_zero, List.set_cons_succ])
    refine tk at9 ?_
    refine wpAnyH_done (by kernel_rfl) ?_ _
    clear hH59
    obtain ⟨p3_0, q3_0, p3_1, q3_1⟩ := (M.out.2.2.2.1).c2
    obtain ⟨p4_0, q4_0, p4_1, q4_1⟩ := (M.out.2.1).c2
    go_wp2_with fail
    clear p3_0 q3_0 p3_1 q3_1 p4_0 q4_0 p4_1 q4_1
    refine (bigSame_is (G := G) (x := gv) (y := gv) (b := true) (M.out.2.2.2.2.1) (M.out.1) (Sz.mono HSG.out (by omega)) (Sz.mono HSG.out (by omega)) (eqZ_of rfl)).mono ?_
    rintro e w16 ⟨rfl, hb⟩
    replace M := Lib.hid (Goes.go M.out hb)
    clear hb
    obtain ⟨p3_0, q3_0, p3_1, q3_1⟩ := (M.out.2.2.2.1).c2
    obtain ⟨p0_0, q0_0, p0_1, q0_1⟩ := (M.out.2.2.2.2.2.2.2.1).c2
    obtain ⟨p1_0, q1_0, p1_1, q1_1⟩ := (M.out.2.2.2.2.2.2.1).c2
    go_wp2_with fail
    clear p3_0 q3_0 p3_1 q3_1 p0_0 q0_0 p0_1 q0_1 p1_0 q1_0 p1_1 q1_1
    refine (bigDiv_r (G := G) (x := x) (y := gv) (q := q1) (r := 0) (H1.out.keep (M.out.2.2.2.2.2.2.2.2)) (M.out.2.2.2.2.1) (Sz.mono HX.out (by omega)) (Sz.mono HSG.out (by omega)) HGN.out HQ1.out HM1.out).mono ?_
    rintro e w17 ⟨a_60, c_61, b_62, d_63, rfl, hd64, hd65, hb⟩
    replace M := Lib.hid (And.intro hd64 (And.intro hd65 (Goes.go M.out hb)))
    clear hb hd64 hd65
    go_upto_region 10 with fail
    obtain ⟨w18, hv⟩ : ∃ w_ : World, w_ = ((w17.alloc (.cells #[.int .i64 (sg q1), .slice a_60 (ln q1) c_61] 24)).alloc (.cells #[.int .i64 (sg 0), .slice b_62 (ln 0) d_63] 24)) := ⟨_, rfl⟩
    rw [← hv]
    have o5 : w12.heap.size < w17.heap.size := ((M.out.2.2.2.1)).lt
    have hbx := bx2 w17 24 24 #[.int .i64 (sg q1), .slice a_60 (ln q1) c_61] #[.int .i64 (sg 0), .slice b_62 (ln 0) d_63]
    rw [← hv] at hbx
    have hbn : Below w17.heap.size w17 w18 := by rw [hv]; exact (Below.alloc (Below.alloc (Below.refl _ _) (by simp <;> omega) _) (by simp <;> omega) _)
    replace M := Lib.hid (And.intro hbx.2 (And.intro hbx.1 (Goes.go M.out hbn)))
    clear hbx hbn
    clear hv
    obtain ⟨p1_0, q1_0, p1_1, q1_1⟩ := (M.out.2.2.2.2.2.2.2.2.2.2.1).c2
    obtain ⟨p3_0, q3_0, p3_1, q3_1⟩ := (M.out.2.2.2.2.2.2.2.1).c2
    go_wp2_with fail
    clear p1_0 q1_0 p1_1 q1_1 p3_0 q3_0 p3_1 q3_1
    replace M := Lib.hid (And.intro (M.out.1) (And.intro (M.out.2.2.2.1) (And.intro (M.out.2.2.2.2.2.2.2.1) (And.intro (M.out.2.2.2.2.2.2.2.2.1) (And.intro (M.out.2.2.2.2.2.2.2.2.2.1) (And.intro (M.out.2.2.2.2.2.2.2.2.2.2.1) (And.intro (M.out.2.2.2.2.2.2.2.2.2.2.2.1) (M.out.2.2.2.2.2.2.2.2.2.2.2.2))))))))
    refine (bigDiv_r (G := G) (x := y) (y := gv) (q := q2) (r := 0) (H2.out.keep (M.out.2.2.2.2.2.2.2)) (M.out.2.2.2.1) (Sz.mono HY.out (by omega)) (Sz.mono HSG.out (by omega)) HGN.out HQ2.out HM2.out).mono ?_
    rintro e w19 ⟨a_66, c_67, b_68, d_69, rfl, hd70, hd71, hb⟩
    replace M := Lib.hid (And.intro hd70 (And.intro hd71 (Goes.go M.out hb)))
    clear hb hd70 hd71
    go_upto_region 11 with fail
    obtain ⟨w20, hv⟩ : ∃ w_ : World, w_ = ((w19.alloc (.cells #[.int .i64 (sg q2), .slice a_66 (ln q2) c_67] 24)).alloc (.cells #[.int .i64 (sg 0), .slice b_68 (ln 0) d_69] 24)) := ⟨_, rfl⟩
    rw [← hv]
    have o7 : w17.heap.size + 1 < w19.heap.size := ((M.out.2.2.1)).lt
    have hbx := bx2 w19 24 24 #[.int .i64 (sg q2), .slice a_66 (ln q2) c_67] #[.int .i64 (sg 0), .slice b_68 (ln 0) d_69]
    rw [← hv] at hbx
    have hbn : Below w19.heap.size w19 w20 := by rw [hv]; exact (Below.alloc (Below.alloc (Below.refl _ _) (by simp <;> omega) _) (by simp <;> omega) _)
    replace M := Lib.hid (And.intro hbx.2 (And.intro hbx.1 (Goes.go M.out hbn)))
    clear hbx hbn
    clear hv
    obtain ⟨p6_0, q6_0, p6_1, q6_1⟩ := (M.out.2.2.2.2.1).c2
    obtain ⟨p8_0, q8_0, p8_1, q8_1⟩ := (M.out.1).c2
    obtain ⟨p0_0, q0_0, p0_1, q0_1⟩ := (M.out.2.2.2.2.2.2.2.2.2.2.1).c2
    obtain ⟨p2_0, q2_0, p2_1, q2_1⟩ := (M.out.2.2.2.2.2.2.2.2.1).c2
    go_wp2_with fail
    clear p6_0 q6_0 p6_1 q6_1 p8_0 q8_0 p8_1 q8_1 p0_0 q0_0 p0_1 q0_1 p2_0 q2_0 p2_1 q2_1
    replace M := Lib.hid (And.intro (M.out.2.2.2.2.2.2.1) (And.intro (M.out.2.2.2.2.2.2.2.1) (And.intro (M.out.2.2.2.2.2.2.2.2.1) (And.intro (M.out.2.2.2.2.2.2.2.2.2.1) (M.out.2.2.2.2.2.2.2.2.2.2.2)))))
    obtain ⟨z74, ez74⟩ : ∃ v_ : Int, v_ = (x * z) := ⟨_, rfl⟩
    refine (bigMul_ok (G := G) (x := x) (y := z) (H1.out.keep (M.out.2.2.2.2)) (H3.out.keep (M.out.2.2.2.2)) (Sz.mono HX.out (by omega)) (Sz.mono HZ.out (by omega))).mono ?_
    rintro e w21 ⟨a_72, c_73, rfl, hd75, hb⟩
    rw [← ez74] at hd75 ⊢
    have Sz74 : Hid (Sz z74 16) := by show Sz z74 16; rw [ez74]; exact (Sz.mul HX.out HZ.out)
    have Ez74 := Lib.hid ez74; clear ez74
    replace M := Lib.hid (And.intro hd75 (Goes.go M.out hb))
    clear hb hd75
    go_upto_region 19 with fail
    obtain ⟨w22, hv⟩ : ∃ w_ : World, w_ = (w21.alloc (.cells #[.int .i64 (sg z74), .slice a_72 (ln z74) c_73] 24)) := ⟨_, rfl⟩
    rw [← hv]
    have o9 : w9.heap.size < w21.heap.size := ((M.out.2.1)).lt
    replace M := Lib.hid (And.intro (hv ▸ bx1 w21 24 #[.int .i64 (sg z74), .slice a_72 (ln z74) c_73]) (Goes.go M.out (hv ▸ below_alloc _ _ : Below w21.heap.size w21 w22)))
    clear hv
    obtain ⟨p1_0, q1_0, p1_1, q1_1⟩ := (M.out.2.2.2.2.2.1).c2
    obtain ⟨p2_0, q2_0, p2_1, q2_1⟩ := (M.out.2.2.2.2.1).c2
    go_wp2_with fail
    clear p1_0 q1_0 p1_1 q1_1 p2_0 q2_0 p2_1 q2_1
    obtain ⟨z78, ez78⟩ : ∃ v_ : Int, v_ = (y * z) := ⟨_, rfl⟩
    refine (bigMul_ok (G := G) (x := y) (y := z) (H2.out.keep (M.out.2.2.2.2.2.2)) (H3.out.keep (M.out.2.2.2.2.2.2)) (Sz.mono HY.out (by omega)) (Sz.mono HZ.out (by omega))).mono ?_
    rintro e w23 ⟨a_76, c_77, rfl, hd79, hb⟩
    rw [← ez78] at hd79 ⊢
    have Sz78 : Hid (Sz z78 16) := by show Sz z78 16; rw [ez78]; exact (Sz.mul HY.out HZ.out)
    have Ez78 := Lib.hid ez78; clear ez78
    replace M := Lib.hid (And.intro hd79 (Goes.go M.out hb))
    clear hb hd79
    go_upto_region 20 with fail
    obtain ⟨w24, hv⟩ : ∃ w_ : World, w_ = (w23.alloc (.cells #[.int .i64 (sg z78), .slice a_76 (ln z78) c_77] 24)) := ⟨_, rfl⟩
    rw [← hv]
    have o10 : w21.heap.size < w23.heap.size := ((M.out.2.1)).lt
    replace M := Lib.hid (And.intro (hv ▸ bx1 w23 24 #[.int .i64 (sg z78), .slice a_76 (ln z78) c_77]) (Goes.go M.out (hv ▸ below_alloc _ _ : Below w23.heap.size w23 w24)))
    clear hv
    obtain ⟨p9_0, q9_0, p9_1, q9_1⟩ := (M.out.2.2.1).c2
    obtain ⟨p10_0, q10_0, p10_1, q10_1⟩ := (M.out.1).c2
    go_wp2_with fail
    clear p9_0 q9_0 p9_1 q9_1 p10_0 q10_0 p10_1 q10_1
    refine (bigGcd_is (G := G) (x := z74) (y := z78) (g := kv) (M.out.2.2.2.1) (M.out.2.1) (Sz.mono Sz74.out (by omega)) (Sz.mono Sz78.out (by omega)) (by rw [Ez74.out, Ez78.out]; exact HG4.out)).mono ?_
    rintro e w25 ⟨a_80, c_81, rfl, hd82, hb⟩
    replace M := Lib.hid (And.intro hd82 (Goes.go M.out hb))
    clear hb hd82
    go_upto_region 21 with fail
    obtain ⟨w26, hv⟩ : ∃ w_ : World, w_ = (w25.alloc (.cells #[.int .i64 (sg kv), .slice a_80 (ln kv) c_81] 24)) := ⟨_, rfl⟩
    rw [← hv]
    have o11 : w23.heap.size < w25.heap.size := ((M.out.2.1)).lt
    replace M := Lib.hid (And.intro (hv ▸ bx1 w25 24 #[.int .i64 (sg kv), .slice a_80 (ln kv) c_81]) (Goes.go M.out (hv ▸ below_alloc _ _ : Below w25.heap.size w25 w26)))
    clear hv
    obtain ⟨p3_0, q3_0, p3_1, q3_1⟩ := (M.out.2.2.2.2.2.2.1).c2
    obtain ⟨p2_0, q2_0, p2_1, q2_1⟩ := (M.out.2.2.2.2.2.2.2.2.1).c2
    go_wp2_with fail
    clear p3_0 q3_0 p3_1 q3_1 p2_0 q2_0 p2_1 q2_1
    replace M := Lib.hid (And.intro (M.out.1) (And.intro (M.out.2.1) (And.intro (M.out.2.2.2.2.2.2.2.1) (And.intro (M.out.2.2.2.2.2.2.2.2.1) (M.out.2.2.2.2.2.2.2.2.2.2)))))
    obtain ⟨z85, ez85⟩ : ∃ v_ : Int, v_ = (gv * z) := ⟨_, rfl⟩
    refine (bigMul_ok (G := G) (x := gv) (y := z) (M.out.2.2.1) (H3.out.keep (M.out.2.2.2.2)) (Sz.mono HSG.out (by omega)) (Sz.mono HZ.out (by omega))).mono ?_
    rintro e w27 ⟨a_83, c_84, rfl, hd86, hb⟩
    rw [← ez85] at hd86 ⊢
    have Sz85 : Hid (Sz z85 16) := by show Sz z85 16; rw [ez85]; exact (Sz.mul HSG.out HZ.out)
    have Ez85 := Lib.hid ez85; clear ez85
    replace M := Lib.hid (And.intro hd86 (Goes.go M.out hb))
    clear hb hd86
    go_upto_region 22 with fail
    obtain ⟨w28, hv⟩ : ∃ w_ : World, w_ = (w27.alloc (.cells #[.int .i64 (sg z85), .slice a_83 (ln z85) c_84] 24)) := ⟨_, rfl⟩
    rw [← hv]
    have o12 : w25.heap.size < w27.heap.size := ((M.out.2.1)).lt
    replace M := Lib.hid (And.intro (hv ▸ bx1 w27 24 #[.int .i64 (sg z85), .slice a_83 (ln z85) c_84]) (Goes.go M.out (hv ▸ below_alloc _ _ : Below w27.heap.size w27 w28)))
    clear hv
    cases bc with
    | false =>
      obtain ⟨p2_0, q2_0, p2_1, q2_1⟩ := (M.out.2.2.2.2.2.1).c2
      obtain ⟨p11_0, q11_0, p11_1, q11_1⟩ := (M.out.2.2.1).c2
      obtain ⟨p12_0, q12_0, p12_1, q12_1⟩ := (M.out.1).c2
      go_wp2_with fail
      clear p2_0 q2_0 p2_1 q2_1 p11_0 q11_0 p11_1 q11_1 p12_0 q12_0 p12_1 q12_1
      replace M := Lib.hid (And.intro (M.out.2.1) (And.intro (M.out.2.2.2.1) (M.out.2.2.2.2.2.2)))
      refine (bigSame_is (G := G) (x := kv) (y := z85) (b := true) (M.out.2.1) (M.out.1) (Sz.mono HSK.out (by omega)) (Sz.mono Sz85.out (by omega)) (eqZ_of (by rw [Ez85.out]; exact HC.out))).mono ?_
      rintro e w29 ⟨rfl, hb⟩
      replace M := Lib.hid (Goes.go M.out hb)
      clear hb
      go_wp2_with fail
      go_ret
      exact ⟨rfl, (M.out.2.2)⟩
    | true =>
      obtain ⟨p2_0, q2_0, p2_1, q2_1⟩ := (M.out.2.2.2.2.2.1).c2
      obtain ⟨p12_0, q12_0, p12_1, q12_1⟩ := (M.out.1).c2
      go_wp2_with fail
      clear p2_0 q2_0 p2_1 q2_1 p12_0 q12_0 p12_1 q12_1
      obtain ⟨z89, ez89⟩ : ∃ v_ : Int, v_ = (-z85) := ⟨_, rfl⟩
      refine (bigNeg_ok (G := G) (x := z85) (M.out.2.1) (Sz.mono Sz85.out (by omega))).mono ?_
      rintro e w29 ⟨a_87, c_88, rfl, hd90, hb⟩
      rw [← ez89] at hd90 ⊢
      have Sz89 : Hid (Sz z89 16) := by show Sz z89 16; rw [ez89]; exact (Sz.neg Sz85.out)
      have Ez89 := Lib.hid ez89; clear ez89
      replace M := Lib.hid (And.intro hd90 (Goes.go M.out hb))
      clear hb hd90
      obtain ⟨p12_0, q12_0, p12_1, q12_1⟩ := (M.out.2.1).c2
      go_upto_region 24 with fail
      clear p12_0 q12_0 p12_1 q12_1
      obtain ⟨w30, hv⟩ : ∃ w_ : World, w_ = ((w29.setCell ⟨w27.heap.size, 0, none⟩ (.int .i64 (sg z89))).setCell ⟨w27.heap.size, 1, none⟩ (.slice a_87 (ln z89) c_88)) := ⟨_, rfl⟩
      rw [← hv]
      have og : w29.grownBy w30 (some w27.heap.size) := by rw [hv]; exact (only_setCell (only_setCell (World.grownBy.refl _ _) _) _)
      have hz : w.heap.size ≤ w27.heap.size := by omega
      have hk : Bx w30 w27.heap.size 24 #[.int .i64 (sg z89), .slice a_87 (ln z89) c_88] := by rw [hv]; exact (((M.out.2.1).set 0 _).set 1 _)
      have hbw : Below w.heap.size w w30 := by rw [hv]; exact (Below.setCell (Below.setCell (M.out.2.2.2.2.2.2.2) (by omega) _) (by omega) _)
      replace M := Lib.hid (And.intro ((M.out.1).far (M.out.2.1) (by rfl) (by omega) og) (And.intro hk (And.intro ((M.out.2.2.1).far (M.out.2.1) (by rfl) (by omega) og) (And.intro ((M.out.2.2.2.1).only og (by omega)) (And.intro ((M.out.2.2.2.2.1).far (M.out.2.1) (by rfl) (by omega) og) (And.intro ((M.out.2.2.2.2.2.1).far (M.out.2.1) (by rfl) (by omega) og) (And.intro ((M.out.2.2.2.2.2.2.1).only og (by omega)) hbw)))))))
      clear hk hbw og hv hz
      obtain ⟨p11_0, q11_0, p11_1, q11_1⟩ := (M.out.2.2.2.1).c2
      obtain ⟨p12_0, q12_0, p12_1, q12_1⟩ := (M.out.2.1).c2
      go_wp2_with fail
      clear p11_0 q11_0 p11_1 q11_1 p12_0 q12_0 p12_1 q12_1
      replace M := Lib.hid (And.intro (M.out.1) (And.intro (M.out.2.2.2.2.1) (M.out.2.2.2.2.2.2.2)))
      refine (bigSame_is (G := G) (x := kv) (y := z89) (b := true) (M.out.2.1) (M.out.1) (Sz.mono HSK.out (by omega)) (Sz.mono Sz89.out (by omega)) (eqZ_of (by rw [Ez89.out, Ez85.out]; exact HC.out))).mono ?_
      rintro e w31 ⟨rfl, hb⟩
      replace M := Lib.hid (Goes.go M.out hb)
      clear hb
      go_wp2_with fail
      go_ret
      exact ⟨rfl, (M.out.2.2)⟩
  refine AllReadyH.cons at7 (fun K hK => ?_) AllReadyH.nil
  go_simp
  obtain ⟨w12, hv⟩ : ∃ w_ : World, w_ = (w11.alloc (.cells #[.int .i64 0, .slice none 0 0] 24)) := ⟨_, rfl⟩
  rw [← hv]
  have o4 : w9.heap.size < w11.heap.size := ((M.out.1)).lt
  replace M := Lib.hid (And.intro (hv ▸ bx1 w11 24 #[.int .i64 0, .slice none 0 0]) (Goes.go M.out (hv ▸ below_alloc _ _ : Below w11.heap.size w11 w12)))
  clear hv
  refine hK.out _ _ (⟨(M.out.2.2.2.2.2.1).at.1 0, (M.out.2.2.2.2.2.1).at.1 1, (M.out.2.2.2.2.1).at.1 0, (M.out.2.2.2.2.1).at.1 1⟩) (fun hH91 => ?_)
  clear hK K hH11
  (try simp only [Act.put, List.setIfInBounds_toArray, List.set_cons_zero, List.set_cons_succ])
  refine wpAnyH_ready (rs := [1]) (by kernel_rfl) (by simp) ?_
  refine AllReadyH.cons at1 (fun K hK => ?_) AllReadyH.nil
  go_simp
  obtain ⟨z94, ez94⟩ : ∃ v_ : Int, v_ = (-y) := ⟨_, rfl⟩
  refine (bigNeg_ok (G := G) (x := y) (H2.out.keep (M.out.2.2.2.2.2.2)) (Sz.mono HY.out (by omega))).mono ?_
  rintro e w13 ⟨a_92, c_93, rfl, hd95, hb⟩
  rw [← ez94] at hd95 ⊢
  have Sz94 : Hid (Sz z94 12) := by show Sz z94 12; rw [ez94]; exact (Sz.neg HY.out)
  have Ez94 := Lib.hid ez94; clear ez94
  replace M := Lib.hid (And.intro hd95 (Goes.go M.out hb))
  clear hb hd95
  (try go_wp2_with fail)
  refine hK.out _ _ (⟨(M.out.2.2.2.2.2.2.1).at.1 0, (M.out.2.2.2.2.2.2.1).at.1 1, (M.out.2.2.2.2.2.1).at.1 0, (M.out.2.2.2.2.2.1).at.1 1⟩) (fun hH96 => ?_)
  clear hK K hH91
  (try simp only [Act.put, List.setIfInBounds_toArray, List.set_cons_zero, List.set_cons_succ])
  refine wpAnyH_ready (rs := [3]) (by kernel_rfl) (by simp) ?_
  refine AllReadyH.cons at3 (fun K hK => ?_) AllReadyH.nil
  go_simp
  refine (bigGcd_is (G := G) (x := z94) (y := x) (g := gv) (M.out.1) (H1.out.keep (M.out.2.2.2.2.2.2.2)) (Sz.mono Sz94.out (by omega)) (Sz.mono HX.out (by omega)) (by rw [Ez94.out]; exact HG2.out)).mono ?_
  rintro e w14 ⟨a_97, c_98, rfl, hd99, hb⟩
  replace M := Lib.hid (And.intro hd99 (Goes.go M.out hb))
  clear hb hd99
  (try go_wp2_with fail)
  refine hK.out _ _ (⟨(M.out.2.2.2.2.2.2.2.1).at.1 0, (M.out.2.2.2.2.2.2.2.1).at.1 1, (M.out.2.2.2.2.2.2.1).at.1 0, (M.out.2.2.2.2.2.2.1).at.1 1⟩) (fun hH100 => ?_)
  clear hK K hH96
  (try simp only [Act.put, List.setIfInBounds_toArray, List.set_cons_zero, List.set_cons_succ])
  refine tk at4 ?_
  refine tk at5 ?_
  refine tk at6 ?_
  refine wpAnyH_ready (rs := [8]) (by kernel_rfl) (by simp) ?_
  refine AllReadyH.cons at8 (fun K hK => ?_) AllReadyH.nil
  obtain ⟨p4_0, q4_0, p4_1, q4_1⟩ := (M.out.2.2.1).c2
  go_simp
  clear p4_0 q4_0 p4_1 q4_1
  obtain ⟨w15, hv⟩ : ∃ w_ : World, w_ = ((w14.setCell ⟨w11.heap.size, 0, none⟩ (.int .i64 (sg gv))).setCell ⟨w11.heap.size, 1, none⟩ (.slice a_97 (ln gv) c_98)) := ⟨_, rfl⟩
  rw [← hv]
  have og : w14.grownBy w15 (some w11.heap.size) := by rw [hv]; exact (only_setCell (only_setCell (World.grownBy.refl _ _) _) _)
  have hz : w.heap.size ≤ w11.heap.size := by omega
  have hk : Bx w15 w11.heap.size 24 #[.int .i64 (sg gv), .slice a_97 (ln gv) c_98] := by rw [hv]; exact (((M.out.2.2.1).set 0 _).set 1 _)
  have hbw : Below w.heap.size w w15 := by rw [hv]; exact (Below.setCell (Below.setCell (M.out.2.2.2.2.2.2.2.2) (by omega) _) (by omega) _)
  replace M := Lib.hid (And.intro ((M.out.1).far (M.out.2.2.1) (by rfl) (by omega) og) (And.intro ((M.out.2.1).far (M.out.2.2.1) (by rfl) (by omega) og) (And.intro hk (And.intro ((M.out.2.2.2.1).only og (by omega)) (And.intro ((M.out.2.2.2.2.1).far (M.out.2.2.1) (by rfl) (by omega) og) (And.intro ((M.out.2.2.2.2.2.1).only og (by omega)) (And.intro ((M.out.2.2.2.2.2.2.1).only og (by omega)) (And.intro ((M.out.2.2.2.2.2.2.2.1).only og (by omega)) hbw))))))))
  clear hk hbw og hv hz
  refine hK.out _ _ (⟨(M.out.2.2.2.2.2.2.2.1).at.1 0, (M.out.2.2.2.2.2.2.2.1).at.1 1, (M.out.2.2.2.2.2.2.1).at.1 0, (M.out.2.2.2.2.2.2.1).at.1 1⟩) (fun hH101 => ?_)
  clear hK K hH100
  (try simp only [Act.put, List.setIfInBounds_toArray, List.set_cons_zero, List.set_cons_succ])
  refine tk at9 ?_
  refine wpAnyH_done (by kernel_rfl) ?_ _
  clear hH101
  obtain ⟨p3_0, q3_0, p3_1, q3_1⟩ := (M.out.2.2.2.1).c2
  obtain ⟨p4_0, q4_0, p4_1, q4_1⟩ := (M.out.2.2.1).c2
  go_wp2_with fail
  clear p3_0 q3_0 p3_1 q3_1 p4_0 q4_0 p4_1 q4_1
  refine (bigSame_is (G := G) (x := gv) (y := gv) (b := true) (M.out.2.2.2.2.1) (M.out.1) (Sz.mono HSG.out (by omega)) (Sz.mono HSG.out (by omega)) (eqZ_of rfl)).mono ?_
  rintro e w16 ⟨rfl, hb⟩
  replace M := Lib.hid (Goes.go M.out hb)
  clear hb
  obtain ⟨p3_0, q3_0, p3_1, q3_1⟩ := (M.out.2.2.2.1).c2
  obtain ⟨p0_0, q0_0, p0_1, q0_1⟩ := (M.out.2.2.2.2.2.2.2.1).c2
  obtain ⟨p1_0, q1_0, p1_1, q1_1⟩ := (M.out.2.2.2.2.2.2.1).c2
  go_wp2_with fail
  clear p3_0 q3_0 p3_1 q3_1 p0_0 q0_0 p0_1 q0_1 p1_0 q1_0 p1_1 q1_1
  refine (bigDiv_r (G := G) (x := x) (y := gv) (q := q1) (r := 0) (H1.out.keep (M.out.2.2.2.2.2.2.2.2)) (M.out.2.2.2.2.1) (Sz.mono HX.out (by omega)) (Sz.mono HSG.out (by omega)) HGN.out HQ1.out HM1.out).mono ?_
  rintro e w17 ⟨a_102, c_103, b_104, d_105, rfl, hd106, hd107, hb⟩
  replace M := Lib.hid (And.intro hd106 (And.intro hd107 (Goes.go M.out hb)))
  clear hb hd106 hd107
  go_upto_region 10 with fail
  obtain ⟨w18, hv⟩ : ∃ w_ : World, w_ = ((w17.alloc (.cells #[.int .i64 (sg q1), .slice a_102 (ln q1) c_103] 24)).alloc (.cells #[.int .i64 (sg 0), .slice b_104 (ln 0) d_105] 24)) := ⟨_, rfl⟩
  rw [← hv]
  have o5 : w11.heap.size < w17.heap.size := ((M.out.2.2.2.2.1)).lt
  have hbx := bx2 w17 24 24 #[.int .i64 (sg q1), .slice a_102 (ln q1) c_103] #[.int .i64 (sg 0), .slice b_104 (ln 0) d_105]
  rw [← hv] at hbx
  have hbn : Below w17.heap.size w17 w18 := by rw [hv]; exact (Below.alloc (Below.alloc (Below.refl _ _) (by simp <;> omega) _) (by simp <;> omega) _)
  replace M := Lib.hid (And.intro hbx.2 (And.intro hbx.1 (Goes.go M.out hbn)))
  clear hbx hbn
  clear hv
  obtain ⟨p1_0, q1_0, p1_1, q1_1⟩ := (M.out.2.2.2.2.2.2.2.2.2.2.1).c2
  obtain ⟨p3_0, q3_0, p3_1, q3_1⟩ := (M.out.2.2.2.2.2.2.2.1).c2
  go_wp2_with fail
  clear p1_0 q1_0 p1_1 q1_1 p3_0 q3_0 p3_1 q3_1
  replace M := Lib.hid (And.intro (M.out.1) (And.intro (M.out.2.2.2.1) (And.intro (M.out.2.2.2.2.2.2.2.1) (And.intro (M.out.2.2.2.2.2.2.2.2.1) (And.intro (M.out.2.2.2.2.2.2.2.2.2.1) (And.intro (M.out.2.2.2.2.2.2.2.2.2.2.1) (And.intro (M.out.2.2.2.2.2.2.2.2.2.2.2.1) (M.out.2.2.2.2.2.2.2.2.2.2.2.2))))))))
  refine (bigDiv_r (G := G) (x := y) (y := gv) (q := q2) (r := 0) (H2.out.keep (M.out.2.2.2.2.2.2.2)) (M.out.2.2.2.1) (Sz.mono HY.out (by omega)) (Sz.mono HSG.out (by omega)) HGN.out HQ2.out HM2.out).mono ?_
  rintro e w19 ⟨a_108, c_109, b_110, d_111, rfl, hd112, hd113, hb⟩
  replace M := Lib.hid (And.intro hd112 (And.intro hd113 (Goes.go M.out hb)))
  clear hb hd112 hd113
  go_upto_region 11 with fail
  obtain ⟨w20, hv⟩ : ∃ w_ : World, w_ = ((w19.alloc (.cells #[.int .i64 (sg q2), .slice a_108 (ln q2) c_109] 24)).alloc (.cells #[.int .i64 (sg 0), .slice b_110 (ln 0) d_111] 24)) := ⟨_, rfl⟩
  rw [← hv]
  have o7 : w17.heap.size + 1 < w19.heap.size := ((M.out.2.2.1)).lt
  have hbx := bx2 w19 24 24 #[.int .i64 (sg q2), .slice a_108 (ln q2) c_109] #[.int .i64 (sg 0), .slice b_110 (ln 0) d_111]
  rw [← hv] at hbx
  have hbn : Below w19.heap.size w19 w20 := by rw [hv]; exact (Below.alloc (Below.alloc (Below.refl _ _) (by simp <;> omega) _) (by simp <;> omega) _)
  replace M := Lib.hid (And.intro hbx.2 (And.intro hbx.1 (Goes.go M.out hbn)))
  clear hbx hbn
  clear hv
  obtain ⟨p6_0, q6_0, p6_1, q6_1⟩ := (M.out.2.2.2.2.1).c2
  obtain ⟨p8_0, q8_0, p8_1, q8_1⟩ := (M.out.1).c2
  obtain ⟨p0_0, q0_0, p0_1, q0_1⟩ := (M.out.2.2.2.2.2.2.2.2.2.2.1).c2
  obtain ⟨p2_0, q2_0, p2_1, q2_1⟩ := (M.out.2.2.2.2.2.2.2.2.1).c2
  go_wp2_with fail
  clear p6_0 q6_0 p6_1 q6_1 p8_0 q8_0 p8_1 q8_1 p0_0 q0_0 p0_1 q0_1 p2_0 q2_0 p2_1 q2_1
  replace M := Lib.hid (And.intro (M.out.2.2.2.2.2.2.1) (And.intro (M.out.2.2.2.2.2.2.2.1) (And.intro (M.out.2.2.2.2.2.2.2.2.1) (And.intro (M.out.2.2.2.2.2.2.2.2.2.1) (M.out.2.2.2.2.2.2.2.2.2.2.2)))))
  obtain ⟨z116, ez116⟩ : ∃ v_ : Int, v_ = (x * z) := ⟨_, rfl⟩
  refine (bigMul_ok (G := G) (x := x) (y := z) (H1.out.keep (M.out.2.2.2.2)) (H3.out.keep (M.out.2.2.2.2)) (Sz.mono HX.out (by omega)) (Sz.mono HZ.out (by omega))).mono ?_
  rintro e w21 ⟨a_114, c_115, rfl, hd117, hb⟩
  rw [← ez116] at hd117 ⊢
  have Sz116 : Hid (Sz z116 16) := by show Sz z116 16; rw [ez116]; exact (Sz.mul HX.out HZ.out)
  have Ez116 := Lib.hid ez116; clear ez116
  replace M := Lib.hid (And.intro hd117 (Goes.go M.out hb))
  clear hb hd117
  go_upto_region 19 with fail
  obtain ⟨w22, hv⟩ : ∃ w_ : World, w_ = (w21.alloc (.cells #[.int .i64 (sg z116), .slice a_114 (ln z116) c_115] 24)) := ⟨_, rfl⟩
  rw [← hv]
  have o9 : w9.heap.size < w21.heap.size := ((M.out.2.1)).lt
  replace M := Lib.hid (And.intro (hv ▸ bx1 w21 24 #[.int .i64 (sg z116), .slice a_114 (ln z116) c_115]) (Goes.go M.out (hv ▸ below_alloc _ _ : Below w21.heap.size w21 w22)))
  clear hv
  obtain ⟨p1_0, q1_0, p1_1, q1_1⟩ := (M.out.2.2.2.2.2.1).c2
  obtain ⟨p2_0, q2_0, p2_1, q2_1⟩ := (M.out.2.2.2.2.1).c2
  go_wp2_with fail
  clear p1_0 q1_0 p1_1 q1_1 p2_0 q2_0 p2_1 q2_1
  obtain ⟨z120, ez120⟩ : ∃ v_ : Int, v_ = (y * z) := ⟨_, rfl⟩
  refine (bigMul_ok (G := G) (x := y) (y := z) (H2.out.keep (M.out.2.2.2.2.2.2)) (H3.out.keep (M.out.2.2.2.2.2.2)) (Sz.mono HY.out (by omega)) (Sz.mono HZ.out (by omega))).mono ?_
  rintro e w23 ⟨a_118, c_119, rfl, hd121, hb⟩
  rw [← ez120] at hd121 ⊢
  have Sz120 : Hid (Sz z120 16) := by show Sz z120 16; rw [ez120]; exact (Sz.mul HY.out HZ.out)
  have Ez120 := Lib.hid ez120; clear ez120
  replace M := Lib.hid (And.intro hd121 (Goes.go M.out hb))
  clear hb hd121
  go_upto_region 20 with fail
  obtain ⟨w24, hv⟩ : ∃ w_ : World, w_ = (w23.alloc (.cells #[.int .i64 (sg z120), .slice a_118 (ln z120) c_119] 24)) := ⟨_, rfl⟩
  rw [← hv]
  have o10 : w21.heap.size < w23.heap.size := ((M.out.2.1)).lt
  replace M := Lib.hid (And.intro (hv ▸ bx1 w23 24 #[.int .i64 (sg z120), .slice a_118 (ln z120) c_119]) (Goes.go M.out (hv ▸ below_alloc _ _ : Below w23.heap.size w23 w24)))
  clear hv
  obtain ⟨p9_0, q9_0, p9_1, q9_1⟩ := (M.out.2.2.1).c2
  obtain ⟨p10_0, q10_0, p10_1, q10_1⟩ := (M.out.1).c2
  go_wp2_with fail
  clear p9_0 q9_0 p9_1 q9_1 p10_0 q10_0 p10_1 q10_1
  refine (bigGcd_is (G := G) (x := z116) (y := z120) (g := kv) (M.out.2.2.2.1) (M.out.2.1) (Sz.mono Sz116.out (by omega)) (Sz.mono Sz120.out (by omega)) (by rw [Ez116.out, Ez120.out]; exact HG4.out)).mono ?_
  rintro e w25 ⟨a_122, c_123, rfl, hd124, hb⟩
  replace M := Lib.hid (And.intro hd124 (Goes.go M.out hb))
  clear hb hd124
  go_upto_region 21 with fail
  obtain ⟨w26, hv⟩ : ∃ w_ : World, w_ = (w25.alloc (.cells #[.int .i64 (sg kv), .slice a_122 (ln kv) c_123] 24)) := ⟨_, rfl⟩
  rw [← hv]
  have o11 : w23.heap.size < w25.heap.size := ((M.out.2.1)).lt
  replace M := Lib.hid (And.intro (hv ▸ bx1 w25 24 #[.int .i64 (sg kv), .slice a_122 (ln kv) c_123]) (Goes.go M.out (hv ▸ below_alloc _ _ : Below w25.heap.size w25 w26)))
  clear hv
  obtain ⟨p3_0, q3_0, p3_1, q3_1⟩ := (M.out.2.2.2.2.2.2.1).c2
  obtain ⟨p2_0, q2_0, p2_1, q2_1⟩ := (M.out.2.2.2.2.2.2.2.2.1).c2
  go_wp2_with fail
  clear p3_0 q3_0 p3_1 q3_1 p2_0 q2_0 p2_1 q2_1
  replace M := Lib.hid (And.intro (M.out.1) (And.intro (M.out.2.1) (And.intro (M.out.2.2.2.2.2.2.2.1) (And.intro (M.out.2.2.2.2.2.2.2.2.1) (M.out.2.2.2.2.2.2.2.2.2.2)))))
  obtain ⟨z127, ez127⟩ : ∃ v_ : Int, v_ = (gv * z) := ⟨_, rfl⟩
  refine (bigMul_ok (G := G) (x := gv) (y := z) (M.out.2.2.1) (H3.out.keep (M.out.2.2.2.2)) (Sz.mono HSG.out (by omega)) (Sz.mono HZ.out (by omega))).mono ?_
  rintro e w27 ⟨a_125, c_126, rfl, hd128, hb⟩
  rw [← ez127] at hd128 ⊢
  have Sz127 : Hid (Sz z127 16) := by show Sz z127 16; rw [ez127]; exact (Sz.mul HSG.out HZ.out)
  have Ez127 := Lib.hid ez127; clear ez127
  replace M := Lib.hid (And.intro hd128 (Goes.go M.out hb))
  clear hb hd128
  go_upto_region 22 with fail
  obtain ⟨w28, hv⟩ : ∃ w_ : World, w_ = (w27.alloc (.cells #[.int .i64 (sg z127), .slice a_125 (ln z127) c_126] 24)) := ⟨_, rfl⟩
  rw [← hv]
  have o12 : w25.heap.size < w27.heap.size := ((M.out.2.1)).lt
  replace M := Lib.hid (And.intro (hv ▸ bx1 w27 24 #[.int .i64 (sg z127), .slice a_125 (ln z127) c_126]) (Goes.go M.out (hv ▸ below_alloc _ _ : Below w27.heap.size w27 w28)))
  clear hv
  cases bc with
  | false =>
    obtain ⟨p2_0, q2_0, p2_1, q2_1⟩ := (M.out.2.2.2.2.2.1).c2
    obtain ⟨p11_0, q11_0, p11_1, q11_1⟩ := (M.out.2.2.1).c2
    obtain ⟨p12_0, q12_0, p12_1, q12_1⟩ := (M.out.1).c2
    go_wp2_with fail
    clear p2_0 q2_0 p2_1 q2_1 p11_0 q11_0 p11_1 q11_1 p12_0 q12_0 p12_1 q12_1
    replace M := Lib.hid (And.intro (M.out.2.1) (And.intro (M.out.2.2.2.1) (M.out.2.2.2.2.2.2)))
    refine (bigSame_is (G := G) (x := kv) (y := z127) (b := true) (M.out.2.1) (M.out.1) (Sz.mono HSK.out (by omega)) (Sz.mono Sz127.out (by omega)) (eqZ_of (by rw [Ez127.out]; exact HC.out))).mono ?_
    rintro e w29 ⟨rfl, hb⟩
    replace M := Lib.hid (Goes.go M.out hb)
    clear hb
    go_wp2_with fail
    go_ret
    exact ⟨rfl, (M.out.2.2)⟩
  | true =>
    obtain ⟨p2_0, q2_0, p2_1, q2_1⟩ := (M.out.2.2.2.2.2.1).c2
    obtain ⟨p12_0, q12_0, p12_1, q12_1⟩ := (M.out.1).c2
    go_wp2_with fail
    clear p2_0 q2_0 p2_1 q2_1 p12_0 q12_0 p12_1 q12_1
    obtain ⟨z131, ez131⟩ : ∃ v_ : Int, v_ = (-z127) := ⟨_, rfl⟩
    refine (bigNeg_ok (G := G) (x := z127) (M.out.2.1) (Sz.mono Sz127.out (by omega))).mono ?_
    rintro e w29 ⟨a_129, c_130, rfl, hd132, hb⟩
    rw [← ez131] at hd132 ⊢
    have Sz131 : Hid (Sz z131 16) := by show Sz z131 16; rw [ez131]; exact (Sz.neg Sz127.out)
    have Ez131 := Lib.hid ez131; clear ez131
    replace M := Lib.hid (And.intro hd132 (Goes.go M.out hb))
    clear hb hd132
    obtain ⟨p12_0, q12_0, p12_1, q12_1⟩ := (M.out.2.1).c2
    go_upto_region 24 with fail
    clear p12_0 q12_0 p12_1 q12_1
    obtain ⟨w30, hv⟩ : ∃ w_ : World, w_ = ((w29.setCell ⟨w27.heap.size, 0, none⟩ (.int .i64 (sg z131))).setCell ⟨w27.heap.size, 1, none⟩ (.slice a_129 (ln z131) c_130)) := ⟨_, rfl⟩
    rw [← hv]
    have og : w29.grownBy w30 (some w27.heap.size) := by rw [hv]; exact (only_setCell (only_setCell (World.grownBy.refl _ _) _) _)
    have hz : w.heap.size ≤ w27.heap.size := by omega
    have hk : Bx w30 w27.heap.size 24 #[.int .i64 (sg z131), .slice a_129 (ln z131) c_130] := by rw [hv]; exact (((M.out.2.1).set 0 _).set 1 _)
    have hbw : Below w.heap.size w w30 := by rw [hv]; exact (Below.setCell (Below.setCell (M.out.2.2.2.2.2.2.2) (by omega) _) (by omega) _)
    replace M := Lib.hid (And.intro ((M.out.1).far (M.out.2.1) (by rfl) (by omega) og) (And.intro hk (And.intro ((M.out.2.2.1).far (M.out.2.1) (by rfl) (by omega) og) (And.intro ((M.out.2.2.2.1).only og (by omega)) (And.intro ((M.out.2.2.2.2.1).far (M.out.2.1) (by rfl) (by omega) og) (And.intro ((M.out.2.2.2.2.2.1).far (M.out.2.1) (by rfl) (by omega) og) (And.intro ((M.out.2.2.2.2.2.2.1).only og (by omega)) hbw)))))))
    clear hk hbw og hv hz
    obtain ⟨p11_0, q11_0, p11_1, q11_1⟩ := (M.out.2.2.2.1).c2
    obtain ⟨p12_0, q12_0, p12_1, q12_1⟩ := (M.out.2.1).c2
    go_wp2_with fail
    clear p11_0 q11_0 p11_1 q11_1 p12_0 q12_0 p12_1 q12_1
    replace M := Lib.hid (And.intro (M.out.1) (And.intro (M.out.2.2.2.2.1) (M.out.2.2.2.2.2.2.2)))
    refine (bigSame_is (G := G) (x := kv) (y := z131) (b := true) (M.out.2.1) (M.out.1) (Sz.mono HSK.out (by omega)) (Sz.mono Sz131.out (by omega)) (eqZ_of (by rw [Ez131.out, Ez127.out]; exact HC.out))).mono ?_
    rintro e w31 ⟨rfl, hb⟩
    replace M := Lib.hid (Goes.go M.out hb)
    clear hb
    go_wp2_with fail
    go_ret
    exact ⟨rfl, (M.out.2.2)⟩

set_option maxRecDepth 100000 in
set_option maxHeartbeats 8000000 in
theorem gcd_none {x y z : Int} {a1 a2 a3 : Option Addr} {c1 c2 c3 : Nat} {w : World} (hG : G ≤ w.heap.size) (ht : Tab w) (h1 : BD G w a1 c1 x) (h2 : BD G w a2 c2 y) (h3 : BD G w a3 c3 z) (hx : Sz x 12) (hy : Sz y 12) (hz : Sz z 4) (hx0 : x = 0) (hy0 : y = 0)  :
    Calls Tryd.prog 3 #[.agg #[.int .i64 (sg x), .slice a1 (ln x) c1], .agg #[.int .i64 (sg y), .slice a2 (ln y) c2], .agg #[.int .i64 (sg z), .slice a3 (ln z) c3]] w fun e w' => e = .returned (.bool true) ∧ Below w.heap.size w w' := by
  obtain ⟨gv, hgv⟩ : ∃ g, ((Nat.gcd x.natAbs y.natAbs : Nat) : Int) = g := ⟨_, rfl⟩
  obtain ⟨kv, hkv⟩ : ∃ k, gv * (z.natAbs : Int) = k := ⟨_, rfl⟩
  obtain ⟨q1, hq1⟩ : ∃ q, dv x gv = q := ⟨_, rfl⟩
  obtain ⟨q2, hq2⟩ : ∃ q, dv y gv = q := ⟨_, rfl⟩
  obtain ⟨q3, hq3⟩ : ∃ q, dv y x = q := ⟨_, rfl⟩
  obtain ⟨r, hr⟩ : ∃ q, md y x = q := ⟨_, rfl⟩
  obtain ⟨bc, hbc⟩ : ∃ b, decide (sg z < 0) = b := ⟨_, rfl⟩
  have hg0 : 0 ≤ gv := by omega
  have f0 : (sg 0 == 0) = true := rfl
  have f1 : (sg 0 != 0) = false := rfl
  have f2 : decide (sg gv < 0) = false := by rw [decide_eq_false_iff_not]; rcases Int.lt_or_eq_of_le hg0 with h | h; rw [sg_pos h]; decide; rw [← h]; decide
  have ex : (sg x == 0) = true := by rw [hx0]; rfl
  have dx : (sg x != 0) = false := by rw [hx0]; rfl
  have ey : (sg y == 0) = true := by rw [hy0]; rfl
  have dy : (sg y != 0) = false := by rw [hy0]; rfl
  have hgz : gv = 0 := (gcd_zero hgv).2 ⟨hx0, hy0⟩
  have eg : (sg gv == 0) = true := by rw [hgz]; rfl
  have dg : (sg gv != 0) = false := by rw [hgz]; rfl
  have HSG : Hid (Sz gv 12) := by
    show Sz _ _
    rcases gcd_le hgv with h | h
    · exact hx.le h
    · exact hy.le h
  have HSK : Hid (Sz kv 16) := by
    show Sz _ _; rw [← hkv]
    exact Sz.mul (n := 12) (m := 4) HSG.out (by unfold Sz; rw [Int.natAbs_natCast]; exact hz)
  have HSR : Hid (Sz r 12) := by show Sz _ _; rw [← hr]; subst hx0; unfold md; rw [Int.fmod_zero]; exact hy
  have HSQ1 : Hid (Sz q1 12) := by show Sz _ _; rw [← hq1]; exact hx.le (dv_le _ _)
  have HSQ2 : Hid (Sz q2 12) := by show Sz _ _; rw [← hq2]; exact hy.le (dv_le _ _)
  have HSQ3 : Hid (Sz q3 12) := by show Sz _ _; rw [← hq3]; exact hy.le (dv_le _ _)
  have HG1 := Lib.hid hgv
  have HG2 := Lib.hid (gcd_neg hgv)
  have HM1 := Lib.hid (gcd_left hgv)
  have HM2 := Lib.hid (gcd_right hgv)
  have hg3 := gcd_rest hgv
  rw [hr] at hg3
  have HG3 := Lib.hid hg3
  have hg4 := gcd_times (z := z) hgv
  rw [hkv] at hg4
  have HG4 := Lib.hid hg4
  have HC : Hid (kv = if bc = true then -(gv * z) else gv * z) := by
    show _ = _
    rw [← hkv, ← hbc]
    rcases Int.lt_trichotomy z 0 with h | h | h
    · rw [sg_neg h, if_pos (by decide), show (z.natAbs : Int) = -z by omega, Int.mul_neg]
    · subst h; simp [sg]
    · rw [sg_pos h, if_neg (by decide), show (z.natAbs : Int) = z by omega]
  have HQ1 := Lib.hid hq1; have HQ2 := Lib.hid hq2; have HQ3 := Lib.hid hq3; have HR := Lib.hid hr
  clear hgv hkv hq1 hq2 hq3 hr hg0 hg3 hg4 hx0 hy0 hgz
  have HX := Lib.hid hx; have HY := Lib.hid hy; have HZ := Lib.hid hz
  clear hx hy hz
  have HT : Hid (Tab w) := ht
  have H1 : Hid (BD G w a1 c1 x) := h1
  have H2 : Hid (BD G w a2 c2 y) := h2
  have H3 : Hid (BD G w a3 c3 z) := h3
  clear ht h1 h2 h3
  have M : Hid (Below w.heap.size w w) := Below.refl _ _
  go_enter Tryd.func3, Tryd.ntmps3
  go_upto_region 1 with fail
  obtain ⟨w1, hv⟩ : ∃ w_ : World, w_ = (((w.alloc (.cells #[.int .i64 (sg x), .slice a1 (ln x) c1] 24)).alloc (.cells #[.int .i64 (sg y), .slice a2 (ln y) c2] 24)).alloc (.cells #[.int .i64 (sg z), .slice a3 (ln z) c3] 24)) := ⟨_, rfl⟩
  rw [← hv]
  have hbx := bx3 w 24 24 24 #[.int .i64 (sg x), .slice a1 (ln x) c1] #[.int .i64 (sg y), .slice a2 (ln y) c2] #[.int .i64 (sg z), .slice a3 (ln z) c3]
  rw [← hv] at hbx
  have hbn : Below w.heap.size w w1 := by rw [hv]; exact (Below.alloc (Below.alloc (Below.alloc (Below.refl _ _) (by simp <;> omega) _) (by simp <;> omega) _) (by simp <;> omega) _)
  replace M := Lib.hid (And.intro hbx.2.2 (And.intro hbx.2.1 (And.intro hbx.1 (Goes.go M.out hbn))))
  clear hbx hbn
  clear hv
  go_wp2_with fail
  refine (small_ok (G := G) (Nat.le_trans hG (M.out.2.2.2).size) (HT.out.keep (M.out.2.2.2))).mono ?_
  rintro e w2 ⟨rfl, hb⟩
  replace M := Lib.hid (Goes.go M.out hb)
  clear hb
  obtain ⟨p0_0, q0_0, p0_1, q0_1⟩ := (M.out.2.2.1).c2
  go_wp2_with fail
  clear p0_0 q0_0 p0_1 q0_1
  refine (bigFew_ok (s := (sg x)) (m := 12) (b := true) (few_sz HX.out rfl)).mono ?_
  rintro e w3 ⟨rfl, hb⟩
  replace M := Lib.hid (Goes.go M.out hb)
  clear hb
  obtain ⟨p1_0, q1_0, p1_1, q1_1⟩ := (M.out.2.1).c2
  go_wp2_with fail
  clear p1_0 q1_0 p1_1 q1_1
  refine (bigFew_ok (s := (sg y)) (m := 12) (b := true) (few_sz HY.out rfl)).mono ?_
  rintro e w4 ⟨rfl, hb⟩
  replace M := Lib.hid (Goes.go M.out hb)
  clear hb
  obtain ⟨p2_0, q2_0, p2_1, q2_1⟩ := (M.out.1).c2
  go_wp2_with fail
  clear p2_0 q2_0 p2_1 q2_1
  refine (bigFew_ok (s := (sg z)) (m := 4) (b := true) (few_sz HZ.out rfl)).mono ?_
  rintro e w5 ⟨rfl, hb⟩
  replace M := Lib.hid (Goes.go M.out hb)
  clear hb
  obtain ⟨p0_0, q0_0, p0_1, q0_1⟩ := (M.out.2.2.1).c2
  go_wp2_with fail
  clear p0_0 q0_0 p0_1 q0_1
  refine (bigRight_ok (G := G) (z := x) (H1.out.keep (M.out.2.2.2)) (Sz.mono HX.out (by omega))).mono ?_
  rintro e w6 ⟨rfl, hb⟩
  replace M := Lib.hid (Goes.go M.out hb)
  clear hb
  obtain ⟨p1_0, q1_0, p1_1, q1_1⟩ := (M.out.2.1).c2
  go_wp2_with fail
  clear p1_0 q1_0 p1_1 q1_1
  refine (bigRight_ok (G := G) (z := y) (H2.out.keep (M.out.2.2.2)) (Sz.mono HY.out (by omega))).mono ?_
  rintro e w7 ⟨rfl, hb⟩
  replace M := Lib.hid (Goes.go M.out hb)
  clear hb
  obtain ⟨p2_0, q2_0, p2_1, q2_1⟩ := (M.out.1).c2
  go_wp2_with fail
  clear p2_0 q2_0 p2_1 q2_1
  refine (bigRight_ok (G := G) (z := z) (H3.out.keep (M.out.2.2.2)) (Sz.mono HZ.out (by omega))).mono ?_
  rintro e w8 ⟨rfl, hb⟩
  replace M := Lib.hid (Goes.go M.out hb)
  clear hb
  obtain ⟨p0_0, q0_0, p0_1, q0_1⟩ := (M.out.2.2.1).c2
  obtain ⟨p1_0, q1_0, p1_1, q1_1⟩ := (M.out.2.1).c2
  go_wp2_with fail
  clear p0_0 q0_0 p0_1 q0_1 p1_0 q1_0 p1_1 q1_1
  refine (bigGcd_is (G := G) (x := x) (y := y) (g := gv) (H1.out.keep (M.out.2.2.2)) (H2.out.keep (M.out.2.2.2)) (Sz.mono HX.out (by omega)) (Sz.mono HY.out (by omega)) (by exact HG1.out)).mono ?_
  rintro e w9 ⟨a_1, c_2, rfl, hd3, hb⟩
  replace M := Lib.hid (And.intro hd3 (Goes.go M.out hb))
  clear hb hd3
  go_wp2_with fail
  obtain ⟨w10, hv⟩ : ∃ w_ : World, w_ = (w9.alloc (.cells #[.int .i64 (sg gv), .slice a_1 (ln gv) c_2] 24)) := ⟨_, rfl⟩
  rw [← hv]
  have o3 : w.heap.size + 1 + 1 < w9.heap.size := ((M.out.2.1)).lt
  replace M := Lib.hid (And.intro (hv ▸ bx1 w9 24 #[.int .i64 (sg gv), .slice a_1 (ln gv) c_2]) (Goes.go M.out (hv ▸ below_alloc _ _ : Below w9.heap.size w9 w10)))
  clear hv
  obtain ⟨w11, hv⟩ : ∃ w_ : World, w_ = w10.drew := ⟨_, rfl⟩
  replace M := Lib.hid (Goes.go M.out (hv ▸ below_drew _ : Below w10.heap.size w10 w11))
  refine wp_region_held_drew (S := (fun w' => w'.cell? ⟨w.heap.size, 0, none⟩ = some (.int .i64 (sg x)) ∧ w'.cell? ⟨w.heap.size, 1, none⟩ = some (.slice a1 (ln x) c1) ∧ w'.cell? ⟨w.heap.size + 1, 0, none⟩ = some (.int .i64 (sg y)) ∧ w'.cell? ⟨w.heap.size + 1, 1, none⟩ = some (.slice a2 (ln y) c2))) (by kernel_rfl) (by rw [← hv]; exact ⟨(M.out.2.2.2.2.1).at.1 0, (M.out.2.2.2.2.1).at.1 1, (M.out.2.2.2.1).at.1 0, (M.out.2.2.2.1).at.1 1⟩) (fun hH11 => ?_)
  rw [← hv] at hH11 ⊢
  clear hv
  refine tk at0 ?_
  refine tk at2 ?_
  refine wpAnyH_ready (rs := [1, 7]) (by kernel_rfl) (by simp) ?_
  refine AllReadyH.cons at1 (fun K hK => ?_) ?_
  ·
    go_simp
    obtain ⟨z14, ez14⟩ : ∃ v_ : Int, v_ = (-y) := ⟨_, rfl⟩
    refine (bigNeg_ok (G := G) (x := y) (H2.out.keep (M.out.2.2.2.2.2)) (Sz.mono HY.out (by omega))).mono ?_
    rintro e w12 ⟨a_12, c_13, rfl, hd15, hb⟩
    rw [← ez14] at hd15 ⊢
    have Sz14 : Hid (Sz z14 12) := by show Sz z14 12; rw [ez14]; exact (Sz.neg HY.out)
    have Ez14 := Lib.hid ez14; clear ez14
    replace M := Lib.hid (And.intro hd15 (Goes.go M.out hb))
    clear hb hd15
    (try go_wp2_with fail)
    refine hK.out _ _ (⟨(M.out.2.2.2.2.2.1).at.1 0, (M.out.2.2.2.2.2.1).at.1 1, (M.out.2.2.2.2.1).at.1 0, (M.out.2.2.2.2.1).at.1 1⟩) (fun hH16 => ?_)
    clear hK K hH11
    (try simp only [Act.put, List.setIfInBounds_toArray, List.set_cons_zero, List.set_cons_succ])
    refine wpAnyH_ready (rs := [3, 7]) (by kernel_rfl) (by simp) ?_
    refine AllReadyH.cons at3 (fun K hK => ?_) ?_
    ·
      go_simp
      refine (bigGcd_is (G := G) (x := z14) (y := x) (g := gv) (M.out.1) (H1.out.keep (M.out.2.2.2.2.2.2)) (Sz.mono Sz14.out (by omega)) (Sz.mono HX.out (by omega)) (by rw [Ez14.out]; exact HG2.out)).mono ?_
      rintro e w13 ⟨a_17, c_18, rfl, hd19, hb⟩
      replace M := Lib.hid (And.intro hd19 (Goes.go M.out hb))
      clear hb hd19
      (try go_wp2_with fail)
      refine hK.out _ _ (⟨(M.out.2.2.2.2.2.2.1).at.1 0, (M.out.2.2.2.2.2.2.1).at.1 1, (M.out.2.2.2.2.2.1).at.1 0, (M.out.2.2.2.2.2.1).at.1 1⟩) (fun hH20 => ?_)
      clear hK K hH16
      (try simp only [Act.put, List.setIfInBounds_toArray, List.set_cons_zero, List.set_cons_succ])
      refine tk at4 ?_
      refine tk at5 ?_
      refine tk at6 ?_
      refine wpAnyH_ready (rs := [7]) (by kernel_rfl) (by simp) ?_
      refine AllReadyH.cons at7 (fun K hK => ?_) AllReadyH.nil
      go_simp
      obtain ⟨w14, hv⟩ : ∃ w_ : World, w_ = (w13.alloc (.cells #[.int .i64 0, .slice none 0 0] 24)) := ⟨_, rfl⟩
      rw [← hv]
      have o4 : w9.heap.size < w13.heap.size := ((M.out.2.2.1)).lt
      replace M := Lib.hid (And.intro (hv ▸ bx1 w13 24 #[.int .i64 0, .slice none 0 0]) (Goes.go M.out (hv ▸ below_alloc _ _ : Below w13.heap.size w13 w14)))
      clear hv
      refine hK.out _ _ (⟨(M.out.2.2.2.2.2.2.2.1).at.1 0, (M.out.2.2.2.2.2.2.2.1).at.1 1, (M.out.2.2.2.2.2.2.1).at.1 0, (M.out.2.2.2.2.2.2.1).at.1 1⟩) (fun hH21 => ?_)
      clear hK K hH20
      (try simp only [Act.put, List.setIfInBounds_toArray, List.set_cons_zero, List.set_cons_succ])
      refine wpAnyH_ready (rs := [8]) (by kernel_rfl) (by simp) ?_
      refine AllReadyH.cons at8 (fun K hK => ?_) AllReadyH.nil
      obtain ⟨p4_0, q4_0, p4_1, q4_1⟩ := (M.out.1).c2
      go_simp
      clear p4_0 q4_0 p4_1 q4_1
      obtain ⟨w15, hv⟩ : ∃ w_ : World, w_ = ((w14.setCell ⟨w13.heap.size, 0, none⟩ (.int .i64 (sg gv))).setCell ⟨w13.heap.size, 1, none⟩ (.slice a_17 (ln gv) c_18)) := ⟨_, rfl⟩
      rw [← hv]
      have og : w14.grownBy w15 (some w13.heap.size) := by rw [hv]; exact (only_setCell (only_setCell (World.grownBy.refl _ _) _) _)
      have hz : w.heap.size ≤ w13.heap.size := by omega
      have hk : Bx w15 w13.heap.size 24 #[.int .i64 (sg gv), .slice a_17 (ln gv) c_18] := by rw [hv]; exact (((M.out.1).set 0 _).set 1 _)
      have hbw : Below w.heap.size w w15 := by rw [hv]; exact (Below.setCell (Below.setCell (M.out.2.2.2.2.2.2.2.2) (by omega) _) (by omega) _)
      replace M := Lib.hid (And.intro hk (And.intro ((M.out.2.1).far (M.out.1) (by rfl) (by omega) og) (And.intro ((M.out.2.2.1).far (M.out.1) (by rfl) (by omega) og) (And.intro ((M.out.2.2.2.1).only og (by omega)) (And.intro ((M.out.2.2.2.2.1).far (M.out.1) (by rfl) (by omega) og) (And.intro ((M.out.2.2.2.2.2.1).only og (by omega)) (And.intro ((M.out.2.2.2.2.2.2.1).only og (by omega)) (And.intro ((M.out.2.2.2.2.2.2.2.1).only og (by omega)) hbw))))))))
      clear hk hbw og hv hz
      refine hK.out _ _ (⟨(M.out.2.2.2.2.2.2.2.1).at.1 0, (M.out.2.2.2.2.2.2.2.1).at.1 1, (M.out.2.2.2.2.2.2.1).at.1 0, (M.out.2.2.2.2.2.2.1).at.1 1⟩) (fun hH22 => ?_)
      clear hK K hH21
      (try simp only [Act.put, List.setIfInBounds_toArray, List.set_cons_zero, List.set_cons_succ])
      refine tk at9 ?_
      refine wpAnyH_done (by kernel_rfl) ?_ _
      clear hH22
      obtain ⟨p3_0, q3_0, p3_1, q3_1⟩ := (M.out.2.2.2.1).c2
      obtain ⟨p4_0, q4_0, p4_1, q4_1⟩ := (M.out.1).c2
      go_wp2_with fail
      clear p3_0 q3_0 p3_1 q3_1 p4_0 q4_0 p4_1 q4_1
      refine (bigSame_is (G := G) (x := gv) (y := gv) (b := true) (M.out.2.2.2.2.1) (M.out.2.1) (Sz.mono HSG.out (by omega)) (Sz.mono HSG.out (by omega)) (eqZ_of rfl)).mono ?_
      rintro e w16 ⟨rfl, hb⟩
      replace M := Lib.hid (Goes.go M.out hb)
      clear hb
      obtain ⟨p3_0, q3_0, p3_1, q3_1⟩ := (M.out.2.2.2.1).c2
      obtain ⟨p0_0, q0_0, p0_1, q0_1⟩ := (M.out.2.2.2.2.2.2.2.1).c2
      obtain ⟨p1_0, q1_0, p1_1, q1_1⟩ := (M.out.2.2.2.2.2.2.1).c2
      obtain ⟨p2_0, q2_0, p2_1, q2_1⟩ := (M.out.2.2.2.2.2.1).c2
      go_wp2_with fail
      clear p3_0 q3_0 p3_1 q3_1 p0_0 q0_0 p0_1 q0_1 p1_0 q1_0 p1_1 q1_1 p2_0 q2_0 p2_1 q2_1
      replace M := Lib.hid (And.intro (M.out.2.2.2.1) (And.intro (M.out.2.2.2.2.1) (And.intro (M.out.2.2.2.2.2.1) (And.intro (M.out.2.2.2.2.2.2.1) (M.out.2.2.2.2.2.2.2.2)))))
      obtain ⟨z25, ez25⟩ : ∃ v_ : Int, v_ = (x * z) := ⟨_, rfl⟩
      refine (bigMul_ok (G := G) (x := x) (y := z) (H1.out.keep (M.out.2.2.2.2)) (H3.out.keep (M.out.2.2.2.2)) (Sz.mono HX.out (by omega)) (Sz.mono HZ.out (by omega))).mono ?_
      rintro e w17 ⟨a_23, c_24, rfl, hd26, hb⟩
      rw [← ez25] at hd26 ⊢
      have Sz25 : Hid (Sz z25 16) := by show Sz z25 16; rw [ez25]; exact (Sz.mul HX.out HZ.out)
      have Ez25 := Lib.hid ez25; clear ez25
      replace M := Lib.hid (And.intro hd26 (Goes.go M.out hb))
      clear hb hd26
      go_upto_region 19 with fail
      obtain ⟨w18, hv⟩ : ∃ w_ : World, w_ = (w17.alloc (.cells #[.int .i64 (sg z25), .slice a_23 (ln z25) c_24] 24)) := ⟨_, rfl⟩
      rw [← hv]
      have o5 : w9.heap.size < w17.heap.size := ((M.out.2.1)).lt
      replace M := Lib.hid (And.intro (hv ▸ bx1 w17 24 #[.int .i64 (sg z25), .slice a_23 (ln z25) c_24]) (Goes.go M.out (hv ▸ below_alloc _ _ : Below w17.heap.size w17 w18)))
      clear hv
      obtain ⟨p1_0, q1_0, p1_1, q1_1⟩ := (M.out.2.2.2.2.2.1).c2
      obtain ⟨p2_0, q2_0, p2_1, q2_1⟩ := (M.out.2.2.2.2.1).c2
      go_wp2_with fail
      clear p1_0 q1_0 p1_1 q1_1 p2_0 q2_0 p2_1 q2_1
      obtain ⟨z29, ez29⟩ : ∃ v_ : Int, v_ = (y * z) := ⟨_, rfl⟩
      refine (bigMul_ok (G := G) (x := y) (y := z) (H2.out.keep (M.out.2.2.2.2.2.2)) (H3.out.keep (M.out.2.2.2.2.2.2)) (Sz.mono HY.out (by omega)) (Sz.mono HZ.out (by omega))).mono ?_
      rintro e w19 ⟨a_27, c_28, rfl, hd30, hb⟩
      rw [← ez29] at hd30 ⊢
      have Sz29 : Hid (Sz z29 16) := by show Sz z29 16; rw [ez29]; exact (Sz.mul HY.out HZ.out)
      have Ez29 := Lib.hid ez29; clear ez29
      replace M := Lib.hid (And.intro hd30 (Goes.go M.out hb))
      clear hb hd30
      go_upto_region 20 with fail
      obtain ⟨w20, hv⟩ : ∃ w_ : World, w_ = (w19.alloc (.cells #[.int .i64 (sg z29), .slice a_27 (ln z29) c_28] 24)) := ⟨_, rfl⟩
      rw [← hv]
      have o6 : w17.heap.size < w19.heap.size := ((M.out.2.1)).lt
      replace M := Lib.hid (And.intro (hv ▸ bx1 w19 24 #[.int .i64 (sg z29), .slice a_27 (ln z29) c_28]) (Goes.go M.out (hv ▸ below_alloc _ _ : Below w19.heap.size w19 w20)))
      clear hv
      obtain ⟨p5_0, q5_0, p5_1, q5_1⟩ := (M.out.2.2.1).c2
      obtain ⟨p6_0, q6_0, p6_1, q6_1⟩ := (M.out.1).c2
      go_wp2_with fail
      clear p5_0 q5_0 p5_1 q5_1 p6_0 q6_0 p6_1 q6_1
      refine (bigGcd_is (G := G) (x := z25) (y := z29) (g := kv) (M.out.2.2.2.1) (M.out.2.1) (Sz.mono Sz25.out (by omega)) (Sz.mono Sz29.out (by omega)) (by rw [Ez25.out, Ez29.out]; exact HG4.out)).mono ?_
      rintro e w21 ⟨a_31, c_32, rfl, hd33, hb⟩
      replace M := Lib.hid (And.intro hd33 (Goes.go M.out hb))
      clear hb hd33
      go_upto_region 21 with fail
      obtain ⟨w22, hv⟩ : ∃ w_ : World, w_ = (w21.alloc (.cells #[.int .i64 (sg kv), .slice a_31 (ln kv) c_32] 24)) := ⟨_, rfl⟩
      rw [← hv]
      have o7 : w19.heap.size < w21.heap.size := ((M.out.2.1)).lt
      replace M := Lib.hid (And.intro (hv ▸ bx1 w21 24 #[.int .i64 (sg kv), .slice a_31 (ln kv) c_32]) (Goes.go M.out (hv ▸ below_alloc _ _ : Below w21.heap.size w21 w22)))
      clear hv
      obtain ⟨p3_0, q3_0, p3_1, q3_1⟩ := (M.out.2.2.2.2.2.2.1).c2
      obtain ⟨p2_0, q2_0, p2_1, q2_1⟩ := (M.out.2.2.2.2.2.2.2.2.1).c2
      go_wp2_with fail
      clear p3_0 q3_0 p3_1 q3_1 p2_0 q2_0 p2_1 q2_1
      replace M := Lib.hid (And.intro (M.out.1) (And.intro (M.out.2.1) (And.intro (M.out.2.2.2.2.2.2.2.1) (And.intro (M.out.2.2.2.2.2.2.2.2.1) (M.out.2.2.2.2.2.2.2.2.2.2)))))
      obtain ⟨z36, ez36⟩ : ∃ v_ : Int, v_ = (gv * z) := ⟨_, rfl⟩
      refine (bigMul_ok (G := G) (x := gv) (y := z) (M.out.2.2.1) (H3.out.keep (M.out.2.2.2.2)) (Sz.mono HSG.out (by omega)) (Sz.mono HZ.out (by omega))).mono ?_
      rintro e w23 ⟨a_34, c_35, rfl, hd37, hb⟩
      rw [← ez36] at hd37 ⊢
      have Sz36 : Hid (Sz z36 16) := by show Sz z36 16; rw [ez36]; exact (Sz.mul HSG.out HZ.out)
      have Ez36 := Lib.hid ez36; clear ez36
      replace M := Lib.hid (And.intro hd37 (Goes.go M.out hb))
      clear hb hd37
      go_upto_region 22 with fail
      obtain ⟨w24, hv⟩ : ∃ w_ : World, w_ = (w23.alloc (.cells #[.int .i64 (sg z36), .slice a_34 (ln z36) c_35] 24)) := ⟨_, rfl⟩
      rw [← hv]
      have o8 : w21.heap.size < w23.heap.size := ((M.out.2.1)).lt
      replace M := Lib.hid (And.intro (hv ▸ bx1 w23 24 #[.int .i64 (sg z36), .slice a_34 (ln z36) c_35]) (Goes.go M.out (hv ▸ below_alloc _ _ : Below w23.heap.size w23 w24)))
      clear hv
      cases bc with
      | false =>
        obtain ⟨p2_0, q2_0, p2_1, q2_1⟩ := (M.out.2.2.2.2.2.1).c2
        obtain ⟨p7_0, q7_0, p7_1, q7_1⟩ := (M.out.2.2.1).c2
        obtain ⟨p8_0, q8_0, p8_1, q8_1⟩ := (M.out.1).c2
        go_wp2_with fail
        clear p2_0 q2_0 p2_1 q2_1 p7_0 q7_0 p7_1 q7_1 p8_0 q8_0 p8_1 q8_1
        replace M := Lib.hid (And.intro (M.out.2.1) (And.intro (M.out.2.2.2.1) (M.out.2.2.2.2.2.2)))
        refine (bigSame_is (G := G) (x := kv) (y := z36) (b := true) (M.out.2.1) (M.out.1) (Sz.mono HSK.out (by omega)) (Sz.mono Sz36.out (by omega)) (eqZ_of (by rw [Ez36.out]; exact HC.out))).mono ?_
        rintro e w25 ⟨rfl, hb⟩
        replace M := Lib.hid (Goes.go M.out hb)
        clear hb
        go_wp2_with fail
        go_ret
        exact ⟨rfl, (M.out.2.2)⟩
      | true =>
        obtain ⟨p2_0, q2_0, p2_1, q2_1⟩ := (M.out.2.2.2.2.2.1).c2
        obtain ⟨p8_0, q8_0, p8_1, q8_1⟩ := (M.out.1).c2
        go_wp2_with fail
        clear p2_0 q2_0 p2_1 q2_1 p8_0 q8_0 p8_1 q8_1
        obtain ⟨z40, ez40⟩ : ∃ v_ : Int, v_ = (-z36) := ⟨_, rfl⟩
        refine (bigNeg_ok (G := G) (x := z36) (M.out.2.1) (Sz.mono Sz36.out (by omega))).mono ?_
        rintro e w25 ⟨a_38, c_39, rfl, hd41, hb⟩
        rw [← ez40] at hd41 ⊢
        have Sz40 : Hid (Sz z40 16) := by show Sz z40 16; rw [ez40]; exact (Sz.neg Sz36.out)
        have Ez40 := Lib.hid ez40; clear ez40
        replace M := Lib.hid (And.intro hd41 (Goes.go M.out hb))
        clear hb hd41
        obtain ⟨p8_0, q8_0, p8_1, q8_1⟩ := (M.out.2.1).c2
        go_upto_region 24 with fail
        clear p8_0 q8_0 p8_1 q8_1
        obtain ⟨w26, hv⟩ : ∃ w_ : World, w_ = ((w25.setCell ⟨w23.heap.size, 0, none⟩ (.int .i64 (sg z40))).setCell ⟨w23.heap.size, 1, none⟩ (.slice a_38 (ln z40) c_39)) := ⟨_, rfl⟩
        rw [← hv]
        have og : w25.grownBy w26 (some w23.heap.size) := by rw [hv]; exact (only_setCell (only_setCell (World.grownBy.refl _ _) _) _)
        have hz : w.heap.size ≤ w23.heap.size := by omega
        have hk : Bx w26 w23.heap.size 24 #[.int .i64 (sg z40), .slice a_38 (ln z40) c_39] := by rw [hv]; exact (((M.out.2.1).set 0 _).set 1 _)
        have hbw : Below w.heap.size w w26 := by rw [hv]; exact (Below.setCell (Below.setCell (M.out.2.2.2.2.2.2.2) (by omega) _) (by omega) _)
        replace M := Lib.hid (And.intro ((M.out.1).far (M.out.2.1) (by rfl) (by omega) og) (And.intro hk (And.intro ((M.out.2.2.1).far (M.out.2.1) (by rfl) (by omega) og) (And.intro ((M.out.2.2.2.1).only og (by omega)) (And.intro ((M.out.2.2.2.2.1).far (M.out.2.1) (by rfl) (by omega) og) (And.intro ((M.out.2.2.2.2.2.1).far (M.out.2.1) (by rfl) (by omega) og) (And.intro ((M.out.2.2.2.2.2.2.1).only og (by omega)) hbw)))))))
        clear hk hbw og hv hz
        obtain ⟨p7_0, q7_0, p7_1, q7_1⟩ := (M.out.2.2.2.1).c2
        obtain ⟨p8_0, q8_0, p8_1, q8_1⟩ := (M.out.2.1).c2
        go_wp2_with fail
        clear p7_0 q7_0 p7_1 q7_1 p8_0 q8_0 p8_1 q8_1
        replace M := Lib.hid (And.intro (M.out.1) (And.intro (M.out.2.2.2.2.1) (M.out.2.2.2.2.2.2.2)))
        refine (bigSame_is (G := G) (x := kv) (y := z40) (b := true) (M.out.2.1) (M.out.1) (Sz.mono HSK.out (by omega)) (Sz.mono Sz40.out (by omega)) (eqZ_of (by rw [Ez40.out, Ez36.out]; exact HC.out))).mono ?_
        rintro e w27 ⟨rfl, hb⟩
        replace M := Lib.hid (Goes.go M.out hb)
        clear hb
        go_wp2_with fail
        go_ret
        exact ⟨rfl, (M.out.2.2)⟩
    refine AllReadyH.cons at7 (fun K hK => ?_) AllReadyH.nil
    go_simp
    obtain ⟨w13, hv⟩ : ∃ w_ : World, w_ = (w12.alloc (.cells #[.int .i64 0, .slice none 0 0] 24)) := ⟨_, rfl⟩
    rw [← hv]
    have o4 : w9.heap.size < w12.heap.size := ((M.out.2.1)).lt
    replace M := Lib.hid (And.intro (hv ▸ bx1 w12 24 #[.int .i64 0, .slice none 0 0]) (Goes.go M.out (hv ▸ below_alloc _ _ : Below w12.heap.size w12 w13)))
    clear hv
    refine hK.out _ _ (⟨(M.out.2.2.2.2.2.2.1).at.1 0, (M.out.2.2.2.2.2.2.1).at.1 1, (M.out.2.2.2.2.2.1).at.1 0, (M.out.2.2.2.2.2.1).at.1 1⟩) (fun hH42 => ?_)
    clear hK K hH16
    (try simp only [Act.put, List.setIfInBounds_toArray, List.set_cons_zero, List.set_cons_succ])
    refine wpAnyH_ready (rs := [3]) (by kernel_rfl) (by simp) ?_
    refine AllReadyH.cons at3 (fun K hK => ?_) AllReadyH.nil
    go_simp
    refine (bigGcd_is (G := G) (x := z14) (y := x) (g := gv) (M.out.2.1) (H1.out.keep (M.out.2.2.2.2.2.2.2)) (Sz.mono Sz14.out (by omega)) (Sz.mono HX.out (by omega)) (by rw [Ez14.out]; exact HG2.out)).mono ?_
    rintro e w14 ⟨a_43, c_44, rfl, hd45, hb⟩
    replace M := Lib.hid (And.intro hd45 (Goes.go M.out hb))
    clear hb hd45
    (try go_wp2_with fail)
    refine hK.out _ _ (⟨(M.out.2.2.2.2.2.2.2.1).at.1 0, (M.out.2.2.2.2.2.2.2.1).at.1 1, (M.out.2.2.2.2.2.2.1).at.1 0, (M.out.2.2.2.2.2.2.1).at.1 1⟩) (fun hH46 => ?_)
    clear hK K hH42
    (try simp only [Act.put, List.setIfInBounds_toArray, List.set_cons_zero, List.set_cons_succ])
    refine tk at4 ?_
    refine tk at5 ?_
    refine tk at6 ?_
    refine wpAnyH_ready (rs := [8]) (by kernel_rfl) (by simp) ?_
    refine AllReadyH.cons at8 (fun K hK => ?_) AllReadyH.nil
    obtain ⟨p4_0, q4_0, p4_1, q4_1⟩ := (M.out.2.1).c2
    go_simp
    clear p4_0 q4_0 p4_1 q4_1
    obtain ⟨w15, hv⟩ : ∃ w_ : World, w_ = ((w14.setCell ⟨w12.heap.size, 0, none⟩ (.int .i64 (sg gv))).setCell ⟨w12.heap.size, 1, none⟩ (.slice a_43 (ln gv) c_44)) := ⟨_, rfl⟩
    rw [← hv]
    have og : w14.grownBy w15 (some w12.heap.size) := by rw [hv]; exact (only_setCell (only_setCell (World.grownBy.refl _ _) _) _)
    have hz : w.heap.size ≤ w12.heap.size := by omega
    have hk : Bx w15 w12.heap.size 24 #[.int .i64 (sg gv), .slice a_43 (ln gv) c_44] := by rw [hv]; exact (((M.out.2.1).set 0 _).set 1 _)
    have hbw : Below w.heap.size w w15 := by rw [hv]; exact (Below.setCell (Below.setCell (M.out.2.2.2.2.2.2.2.2) (by omega) _) (by omega) _)
    replace M := Lib.hid (And.intro ((M.out.1).far (M.out.2.1) (by rfl) (by omega) og) (And.intro hk (And.intro ((M.out.2.2.1).far (M.out.2.1) (by rfl) (by omega) og) (And.intro ((M.out.2.2.2.1).only og (by omega)) (And.intro ((M.out.2.2.2.2.1).far (M.out.2.1) (by rfl) (by omega) og) (And.intro ((M.out.2.2.2.2.2.1).only og (by omega)) (And.intro ((M.out.2.2.2.2.2.2.1).only og (by omega)) (And.intro ((M.out.2.2.2.2.2.2.2.1).only og (by omega)) hbw))))))))
    clear hk hbw og hv hz
    refine hK.out _ _ (⟨(M.out.2.2.2.2.2.2.2.1).at.1 0, (M.out.2.2.2.2.2.2.2.1).at.1 1, (M.out.2.2.2.2.2.2.1).at.1 0, (M.out.2.2.2.2.2.2.1).at.1 1⟩) (fun hH47 => ?_)
    clear hK K hH46
    (try simp only [Act.put, List.setIfInBounds_toArray, List.set_cons_zero, List.set_cons_succ])
    refine tk at9 ?_
    refine wpAnyH_done (by kernel_rfl) ?_ _
    clear hH47
    obtain ⟨p3_0, q3_0, p3_1, q3_1⟩ := (M.out.2.2.2.1).c2
    obtain ⟨p4_0, q4_0, p4_1, q4_1⟩ := (M.out.2.1).c2
    go_wp2_with fail
    clear p3_0 q3_0 p3_1 q3_1 p4_0 q4_0 p4_1 q4_1
    refine (bigSame_is (G := G) (x := gv) (y := gv) (b := true) (M.out.2.2.2.2.1) (M.out.1) (Sz.mono HSG.out (by omega)) (Sz.mono HSG.out (by omega)) (eqZ_of rfl)).mono ?_
    rintro e w16 ⟨rfl, hb⟩
    replace M := Lib.hid (Goes.go M.out hb)
    clear hb
    obtain ⟨p3_0, q3_0, p3_1, q3_1⟩ := (M.out.2.2.2.1).c2
    obtain ⟨p0_0, q0_0, p0_1, q0_1⟩ := (M.out.2.2.2.2.2.2.2.1).c2
    obtain ⟨p1_0, q1_0, p1_1, q1_1⟩ := (M.out.2.2.2.2.2.2.1).c2
    obtain ⟨p2_0, q2_0, p2_1, q2_1⟩ := (M.out.2.2.2.2.2.1).c2
    go_wp2_with fail
    clear p3_0 q3_0 p3_1 q3_1 p0_0 q0_0 p0_1 q0_1 p1_0 q1_0 p1_1 q1_1 p2_0 q2_0 p2_1 q2_1
    replace M := Lib.hid (And.intro (M.out.2.2.2.1) (And.intro (M.out.2.2.2.2.1) (And.intro (M.out.2.2.2.2.2.1) (And.intro (M.out.2.2.2.2.2.2.1) (M.out.2.2.2.2.2.2.2.2)))))
    obtain ⟨z50, ez50⟩ : ∃ v_ : Int, v_ = (x * z) := ⟨_, rfl⟩
    refine (bigMul_ok (G := G) (x := x) (y := z) (H1.out.keep (M.out.2.2.2.2)) (H3.out.keep (M.out.2.2.2.2)) (Sz.mono HX.out (by omega)) (Sz.mono HZ.out (by omega))).mono ?_
    rintro e w17 ⟨a_48, c_49, rfl, hd51, hb⟩
    rw [← ez50] at hd51 ⊢
    have Sz50 : Hid (Sz z50 16) := by show Sz z50 16; rw [ez50]; exact (Sz.mul HX.out HZ.out)
    have Ez50 := Lib.hid ez50; clear ez50
    replace M := Lib.hid (And.intro hd51 (Goes.go M.out hb))
    clear hb hd51
    go_upto_region 19 with fail
    obtain ⟨w18, hv⟩ : ∃ w_ : World, w_ = (w17.alloc (.cells #[.int .i64 (sg z50), .slice a_48 (ln z50) c_49] 24)) := ⟨_, rfl⟩
    rw [← hv]
    have o5 : w9.heap.size < w17.heap.size := ((M.out.2.1)).lt
    replace M := Lib.hid (And.intro (hv ▸ bx1 w17 24 #[.int .i64 (sg z50), .slice a_48 (ln z50) c_49]) (Goes.go M.out (hv ▸ below_alloc _ _ : Below w17.heap.size w17 w18)))
    clear hv
    obtain ⟨p1_0, q1_0, p1_1, q1_1⟩ := (M.out.2.2.2.2.2.1).c2
    obtain ⟨p2_0, q2_0, p2_1, q2_1⟩ := (M.out.2.2.2.2.1).c2
    go_wp2_with fail
    clear p1_0 q1_0 p1_1 q1_1 p2_0 q2_0 p2_1 q2_1
    obtain ⟨z54, ez54⟩ : ∃ v_ : Int, v_ = (y * z) := ⟨_, rfl⟩
    refine (bigMul_ok (G := G) (x := y) (y := z) (H2.out.keep (M.out.2.2.2.2.2.2)) (H3.out.keep (M.out.2.2.2.2.2.2)) (Sz.mono HY.out (by omega)) (Sz.mono HZ.out (by omega))).mono ?_
    rintro e w19 ⟨a_52, c_53, rfl, hd55, hb⟩
    rw [← ez54] at hd55 ⊢
    have Sz54 : Hid (Sz z54 16) := by show Sz z54 16; rw [ez54]; exact (Sz.mul HY.out HZ.out)
    have Ez54 := Lib.hid ez54; clear ez54
    replace M := Lib.hid (And.intro hd55 (Goes.go M.out hb))
    clear hb hd55
    go_upto_region 20 with fail
    obtain ⟨w20, hv⟩ : ∃ w_ : World, w_ = (w19.alloc (.cells #[.int .i64 (sg z54), .slice a_52 (ln z54) c_53] 24)) := ⟨_, rfl⟩
    rw [← hv]
    have o6 : w17.heap.size < w19.heap.size := ((M.out.2.1)).lt
    replace M := Lib.hid (And.intro (hv ▸ bx1 w19 24 #[.int .i64 (sg z54), .slice a_52 (ln z54) c_53]) (Goes.go M.out (hv ▸ below_alloc _ _ : Below w19.heap.size w19 w20)))
    clear hv
    obtain ⟨p5_0, q5_0, p5_1, q5_1⟩ := (M.out.2.2.1).c2
    obtain ⟨p6_0, q6_0, p6_1, q6_1⟩ := (M.out.1).c2
    go_wp2_with fail
    clear p5_0 q5_0 p5_1 q5_1 p6_0 q6_0 p6_1 q6_1
    refine (bigGcd_is (G := G) (x := z50) (y := z54) (g := kv) (M.out.2.2.2.1) (M.out.2.1) (Sz.mono Sz50.out (by omega)) (Sz.mono Sz54.out (by omega)) (by rw [Ez50.out, Ez54.out]; exact HG4.out)).mono ?_
    rintro e w21 ⟨a_56, c_57, rfl, hd58, hb⟩
    replace M := Lib.hid (And.intro hd58 (Goes.go M.out hb))
    clear hb hd58
    go_upto_region 21 with fail
    obtain ⟨w22, hv⟩ : ∃ w_ : World, w_ = (w21.alloc (.cells #[.int .i64 (sg kv), .slice a_56 (ln kv) c_57] 24)) := ⟨_, rfl⟩
    rw [← hv]
    have o7 : w19.heap.size < w21.heap.size := ((M.out.2.1)).lt
    replace M := Lib.hid (And.intro (hv ▸ bx1 w21 24 #[.int .i64 (sg kv), .slice a_56 (ln kv) c_57]) (Goes.go M.out (hv ▸ below_alloc _ _ : Below w21.heap.size w21 w22)))
    clear hv
    obtain ⟨p3_0, q3_0, p3_1, q3_1⟩ := (M.out.2.2.2.2.2.2.1).c2
    obtain ⟨p2_0, q2_0, p2_1, q2_1⟩ := (M.out.2.2.2.2.2.2.2.2.1).c2
    go_wp2_with fail
    clear p3_0 q3_0 p3_1 q3_1 p2_0 q2_0 p2_1 q2_1
    replace M := Lib.hid (And.intro (M.out.1) (And.intro (M.out.2.1) (And.intro (M.out.2.2.2.2.2.2.2.1) (And.intro (M.out.2.2.2.2.2.2.2.2.1) (M.out.2.2.2.2.2.2.2.2.2.2)))))
    obtain ⟨z61, ez61⟩ : ∃ v_ : Int, v_ = (gv * z) := ⟨_, rfl⟩
    refine (bigMul_ok (G := G) (x := gv) (y := z) (M.out.2.2.1) (H3.out.keep (M.out.2.2.2.2)) (Sz.mono HSG.out (by omega)) (Sz.mono HZ.out (by omega))).mono ?_
    rintro e w23 ⟨a_59, c_60, rfl, hd62, hb⟩
    rw [← ez61] at hd62 ⊢
    have Sz61 : Hid (Sz z61 16) := by show Sz z61 16; rw [ez61]; exact (Sz.mul HSG.out HZ.out)
    have Ez61 := Lib.hid ez61; clear ez61
    replace M := Lib.hid (And.intro hd62 (Goes.go M.out hb))
    clear hb hd62
    go_upto_region 22 with fail
    obtain ⟨w24, hv⟩ : ∃ w_ : World, w_ = (w23.alloc (.cells #[.int .i64 (sg z61), .slice a_59 (ln z61) c_60] 24)) := ⟨_, rfl⟩
    rw [← hv]
    have o8 : w21.heap.size < w23.heap.size := ((M.out.2.1)).lt
    replace M := Lib.hid (And.intro (hv ▸ bx1 w23 24 #[.int .i64 (sg z61), .slice a_59 (ln z61) c_60]) (Goes.go M.out (hv ▸ below_alloc _ _ : Below w23.heap.size w23 w24)))
    clear hv
    cases bc with
    | false =>
      obtain ⟨p2_0, q2_0, p2_1, q2_1⟩ := (M.out.2.2.2.2.2.1).c2
      obtain ⟨p7_0, q7_0, p7_1, q7_1⟩ := (M.out.2.2.1).c2
      obtain ⟨p8_0, q8_0, p8_1, q8_1⟩ := (M.out.1).c2
      go_wp2_with fail
      clear p2_0 q2_0 p2_1 q2_1 p7_0 q7_0 p7_1 q7_1 p8_0 q8_0 p8_1 q8_1
      replace M := Lib.hid (And.intro (M.out.2.1) (And.intro (M.out.2.2.2.1) (M.out.2.2.2.2.2.2)))
      refine (bigSame_is (G := G) (x := kv) (y := z61) (b := true) (M.out.2.1) (M.out.1) (Sz.mono HSK.out (by omega)) (Sz.mono Sz61.out (by omega)) (eqZ_of (by rw [Ez61.out]; exact HC.out))).mono ?_
      rintro e w25 ⟨rfl, hb⟩
      replace M := Lib.hid (Goes.go M.out hb)
      clear hb
      go_wp2_with fail
      go_ret
      exact ⟨rfl, (M.out.2.2)⟩
    | true =>
      obtain ⟨p2_0, q2_0, p2_1, q2_1⟩ := (M.out.2.2.2.2.2.1).c2
      obtain ⟨p8_0, q8_0, p8_1, q8_1⟩ := (M.out.1).c2
      go_wp2_with fail
      clear p2_0 q2_0 p2_1 q2_1 p8_0 q8_0 p8_1 q8_1
      obtain ⟨z65, ez65⟩ : ∃ v_ : Int, v_ = (-z61) := ⟨_, rfl⟩
      refine (bigNeg_ok (G := G) (x := z61) (M.out.2.1) (Sz.mono Sz61.out (by omega))).mono ?_
      rintro e w25 ⟨a_63, c_64, rfl, hd66, hb⟩
      rw [← ez65] at hd66 ⊢
      have Sz65 : Hid (Sz z65 16) := by show Sz z65 16; rw [ez65]; exact (Sz.neg Sz61.out)
      have Ez65 := Lib.hid ez65; clear ez65
      replace M := Lib.hid (And.intro hd66 (Goes.go M.out hb))
      clear hb hd66
      obtain ⟨p8_0, q8_0, p8_1, q8_1⟩ := (M.out.2.1).c2
      go_upto_region 24 with fail
      clear p8_0 q8_0 p8_1 q8_1
      obtain ⟨w26, hv⟩ : ∃ w_ : World, w_ = ((w25.setCell ⟨w23.heap.size, 0, none⟩ (.int .i64 (sg z65))).setCell ⟨w23.heap.size, 1, none⟩ (.slice a_63 (ln z65) c_64)) := ⟨_, rfl⟩
      rw [← hv]
      have og : w25.grownBy w26 (some w23.heap.size) := by rw [hv]; exact (only_setCell (only_setCell (World.grownBy.refl _ _) _) _)
      have hz : w.heap.size ≤ w23.heap.size := by omega
      have hk : Bx w26 w23.heap.size 24 #[.int .i64 (sg z65), .slice a_63 (ln z65) c_64] := by rw [hv]; exact (((M.out.2.1).set 0 _).set 1 _)
      have hbw : Below w.heap.size w w26 := by rw [hv]; exact (Below.setCell (Below.setCell (M.out.2.2.2.2.2.2.2) (by omega) _) (by omega) _)
      replace M := Lib.hid (And.intro ((M.out.1).far (M.out.2.1) (by rfl) (by omega) og) (And.intro hk (And.intro ((M.out.2.2.1).far (M.out.2.1) (by rfl) (by omega) og) (And.intro ((M.out.2.2.2.1).only og (by omega)) (And.intro ((M.out.2.2.2.2.1).far (M.out.2.1) (by rfl) (by omega) og) (And.intro ((M.out.2.2.2.2.2.1).far (M.out.2.1) (by rfl) (by omega) og) (And.intro ((M.out.2.2.2.2.2.2.1).only og (by omega)) hbw)))))))
      clear hk hbw og hv hz
      obtain ⟨p7_0, q7_0, p7_1, q7_1⟩ := (M.out.2.2.2.1).c2
      obtain ⟨p8_0, q8_0, p8_1, q8_1⟩ := (M.out.2.1).c2
      go_wp2_with fail
      clear p7_0 q7_0 p7_1 q7_1 p8_0 q8_0 p8_1 q8_1
      replace M := Lib.hid (And.intro (M.out.1) (And.intro (M.out.2.2.2.2.1) (M.out.2.2.2.2.2.2.2)))
      refine (bigSame_is (G := G) (x := kv) (y := z65) (b := true) (M.out.2.1) (M.out.1) (Sz.mono HSK.out (by omega)) (Sz.mono Sz65.out (by omega)) (eqZ_of (by rw [Ez65.out, Ez61.out]; exact HC.out))).mono ?_
      rintro e w27 ⟨rfl, hb⟩
      replace M := Lib.hid (Goes.go M.out hb)
      clear hb
      go_wp2_with fail
      go_ret
      exact ⟨rfl, (M.out.2.2)⟩
  refine AllReadyH.cons at7 (fun K hK => ?_) AllReadyH.nil
  go_simp
  obtain ⟨w12, hv⟩ : ∃ w_ : World, w_ = (w11.alloc (.cells #[.int .i64 0, .slice none 0 0] 24)) := ⟨_, rfl⟩
  rw [← hv]
  have o4 : w9.heap.size < w11.heap.size := ((M.out.1)).lt
  replace M := Lib.hid (And.intro (hv ▸ bx1 w11 24 #[.int .i64 0, .slice none 0 0]) (Goes.go M.out (hv ▸ below_alloc _ _ : Below w11.heap.size w11 w12)))
  clear hv
  refine hK.out _ _ (⟨(M.out.2.2.2.2.2.1).at.1 0, (M.out.2.2.2.2.2.1).at.1 1, (M.out.2.2.2.2.1).at.1 0, (M.out.2.2.2.2.1).at.1 1⟩) (fun hH67 => ?_)
  clear hK K hH11
  (try simp only [Act.put, List.setIfInBounds_toArray, List.set_cons_zero, List.set_cons_succ])
  refine wpAnyH_ready (rs := [1]) (by kernel_rfl) (by simp) ?_
  refine AllReadyH.cons at1 (fun K hK => ?_) AllReadyH.nil
  go_simp
  obtain ⟨z70, ez70⟩ : ∃ v_ : Int, v_ = (-y) := ⟨_, rfl⟩
  refine (bigNeg_ok (G := G) (x := y) (H2.out.keep (M.out.2.2.2.2.2.2)) (Sz.mono HY.out (by omega))).mono ?_
  rintro e w13 ⟨a_68, c_69, rfl, hd71, hb⟩
  rw [← ez70] at hd71 ⊢
  have Sz70 : Hid (Sz z70 12) := by show Sz z70 12; rw [ez70]; exact (Sz.neg HY.out)
  have Ez70 := Lib.hid ez70; clear ez70
  replace M := Lib.hid (And.intro hd71 (Goes.go M.out hb))
  clear hb hd71
  (try go_wp2_with fail)
  refine hK.out _ _ (⟨(M.out.2.2.2.2.2.2.1).at.1 0, (M.out.2.2.2.2.2.2.1).at.1 1, (M.out.2.2.2.2.2.1).at.1 0, (M.out.2.2.2.2.2.1).at.1 1⟩) (fun hH72 => ?_)
  clear hK K hH67
  (try simp only [Act.put, List.setIfInBounds_toArray, List.set_cons_zero, List.set_cons_succ])
  refine wpAnyH_ready (rs := [3]) (by kernel_rfl) (by simp) ?_
  refine AllReadyH.cons at3 (fun K hK => ?_) AllReadyH.nil
  go_simp
  refine (bigGcd_is (G := G) (x := z70) (y := x) (g := gv) (M.out.1) (H1.out.keep (M.out.2.2.2.2.2.2.2)) (Sz.mono Sz70.out (by omega)) (Sz.mono HX.out (by omega)) (by rw [Ez70.out]; exact HG2.out)).mono ?_
  rintro e w14 ⟨a_73, c_74, rfl, hd75, hb⟩
  replace M := Lib.hid (And.intro hd75 (Goes.go M.out hb))
  clear hb hd75
  (try go_wp2_with fail)
  refine hK.out _ _ (⟨(M.out.2.2.2.2.2.2.2.1).at.1 0, (M.out.2.2.2.2.2.2.2.1).at.1 1, (M.out.2.2.2.2.2.2.1).at.1 0, (M.out.2.2.2.2.2.2.1).at.1 1⟩) (fun hH76 => ?_)
  clear hK K hH72
  (try simp only [Act.put, List.setIfInBounds_toArray, List.set_cons_zero, List.set_cons_succ])
  refine tk at4 ?_
  refine tk at5 ?_
  refine tk at6 ?_
  refine wpAnyH_ready (rs := [8]) (by kernel_rfl) (by simp) ?_
  refine AllReadyH.cons at8 (fun K hK => ?_) AllReadyH.nil
  obtain ⟨p4_0, q4_0, p4_1, q4_1⟩ := (M.out.2.2.1).c2
  go_simp
  clear p4_0 q4_0 p4_1 q4_1
  obtain ⟨w15, hv⟩ : ∃ w_ : World, w_ = ((w14.setCell ⟨w11.heap.size, 0, none⟩ (.int .i64 (sg gv))).setCell ⟨w11.heap.size, 1, none⟩ (.slice a_73 (ln gv) c_74)) := ⟨_, rfl⟩
  rw [← hv]
  have og : w14.grownBy w15 (some w11.heap.size) := by rw [hv]; exact (only_setCell (only_setCell (World.grownBy.refl _ _) _) _)
  have hz : w.heap.size ≤ w11.heap.size := by omega
  have hk : Bx w15 w11.heap.size 24 #[.int .i64 (sg gv), .slice a_73 (ln gv) c_74] := by rw [hv]; exact (((M.out.2.2.1).set 0 _).set 1 _)
  have hbw : Below w.heap.size w w15 := by rw [hv]; exact (Below.setCell (Below.setCell (M.out.2.2.2.2.2.2.2.2) (by omega) _) (by omega) _)
  replace M := Lib.hid (And.intro ((M.out.1).far (M.out.2.2.1) (by rfl) (by omega) og) (And.intro ((M.out.2.1).far (M.out.2.2.1) (by rfl) (by omega) og) (And.intro hk (And.intro ((M.out.2.2.2.1).only og (by omega)) (And.intro ((M.out.2.2.2.2.1).far (M.out.2.2.1) (by rfl) (by omega) og) (And.intro ((M.out.2.2.2.2.2.1).only og (by omega)) (And.intro ((M.out.2.2.2.2.2.2.1).only og (by omega)) (And.intro ((M.out.2.2.2.2.2.2.2.1).only og (by omega)) hbw))))))))
  clear hk hbw og hv hz
  refine hK.out _ _ (⟨(M.out.2.2.2.2.2.2.2.1).at.1 0, (M.out.2.2.2.2.2.2.2.1).at.1 1, (M.out.2.2.2.2.2.2.1).at.1 0, (M.out.2.2.2.2.2.2.1).at.1 1⟩) (fun hH77 => ?_)
  clear hK K hH76
  (try simp only [Act.put, List.setIfInBounds_toArray, List.set_cons_zero, List.set_cons_succ])
  refine tk at9 ?_
  refine wpAnyH_done (by kernel_rfl) ?_ _
  clear hH77
  obtain ⟨p3_0, q3_0, p3_1, q3_1⟩ := (M.out.2.2.2.1).c2
  obtain ⟨p4_0, q4_0, p4_1, q4_1⟩ := (M.out.2.2.1).c2
  go_wp2_with fail
  clear p3_0 q3_0 p3_1 q3_1 p4_0 q4_0 p4_1 q4_1
  refine (bigSame_is (G := G) (x := gv) (y := gv) (b := true) (M.out.2.2.2.2.1) (M.out.1) (Sz.mono HSG.out (by omega)) (Sz.mono HSG.out (by omega)) (eqZ_of rfl)).mono ?_
  rintro e w16 ⟨rfl, hb⟩
  replace M := Lib.hid (Goes.go M.out hb)
  clear hb
  obtain ⟨p3_0, q3_0, p3_1, q3_1⟩ := (M.out.2.2.2.1).c2
  obtain ⟨p0_0, q0_0, p0_1, q0_1⟩ := (M.out.2.2.2.2.2.2.2.1).c2
  obtain ⟨p1_0, q1_0, p1_1, q1_1⟩ := (M.out.2.2.2.2.2.2.1).c2
  obtain ⟨p2_0, q2_0, p2_1, q2_1⟩ := (M.out.2.2.2.2.2.1).c2
  go_wp2_with fail
  clear p3_0 q3_0 p3_1 q3_1 p0_0 q0_0 p0_1 q0_1 p1_0 q1_0 p1_1 q1_1 p2_0 q2_0 p2_1 q2_1
  replace M := Lib.hid (And.intro (M.out.2.2.2.1) (And.intro (M.out.2.2.2.2.1) (And.intro (M.out.2.2.2.2.2.1) (And.intro (M.out.2.2.2.2.2.2.1) (M.out.2.2.2.2.2.2.2.2)))))
  obtain ⟨z80, ez80⟩ : ∃ v_ : Int, v_ = (x * z) := ⟨_, rfl⟩
  refine (bigMul_ok (G := G) (x := x) (y := z) (H1.out.keep (M.out.2.2.2.2)) (H3.out.keep (M.out.2.2.2.2)) (Sz.mono HX.out (by omega)) (Sz.mono HZ.out (by omega))).mono ?_
  rintro e w17 ⟨a_78, c_79, rfl, hd81, hb⟩
  rw [← ez80] at hd81 ⊢
  have Sz80 : Hid (Sz z80 16) := by show Sz z80 16; rw [ez80]; exact (Sz.mul HX.out HZ.out)
  have Ez80 := Lib.hid ez80; clear ez80
  replace M := Lib.hid (And.intro hd81 (Goes.go M.out hb))
  clear hb hd81
  go_upto_region 19 with fail
  obtain ⟨w18, hv⟩ : ∃ w_ : World, w_ = (w17.alloc (.cells #[.int .i64 (sg z80), .slice a_78 (ln z80) c_79] 24)) := ⟨_, rfl⟩
  rw [← hv]
  have o5 : w9.heap.size < w17.heap.size := ((M.out.2.1)).lt
  replace M := Lib.hid (And.intro (hv ▸ bx1 w17 24 #[.int .i64 (sg z80), .slice a_78 (ln z80) c_79]) (Goes.go M.out (hv ▸ below_alloc _ _ : Below w17.heap.size w17 w18)))
  clear hv
  obtain ⟨p1_0, q1_0, p1_1, q1_1⟩ := (M.out.2.2.2.2.2.1).c2
  obtain ⟨p2_0, q2_0, p2_1, q2_1⟩ := (M.out.2.2.2.2.1).c2
  go_wp2_with fail
  clear p1_0 q1_0 p1_1 q1_1 p2_0 q2_0 p2_1 q2_1
  obtain ⟨z84, ez84⟩ : ∃ v_ : Int, v_ = (y * z) := ⟨_, rfl⟩
  refine (bigMul_ok (G := G) (x := y) (y := z) (H2.out.keep (M.out.2.2.2.2.2.2)) (H3.out.keep (M.out.2.2.2.2.2.2)) (Sz.mono HY.out (by omega)) (Sz.mono HZ.out (by omega))).mono ?_
  rintro e w19 ⟨a_82, c_83, rfl, hd85, hb⟩
  rw [← ez84] at hd85 ⊢
  have Sz84 : Hid (Sz z84 16) := by show Sz z84 16; rw [ez84]; exact (Sz.mul HY.out HZ.out)
  have Ez84 := Lib.hid ez84; clear ez84
  replace M := Lib.hid (And.intro hd85 (Goes.go M.out hb))
  clear hb hd85
  go_upto_region 20 with fail
  obtain ⟨w20, hv⟩ : ∃ w_ : World, w_ = (w19.alloc (.cells #[.int .i64 (sg z84), .slice a_82 (ln z84) c_83] 24)) := ⟨_, rfl⟩
  rw [← hv]
  have o6 : w17.heap.size < w19.heap.size := ((M.out.2.1)).lt
  replace M := Lib.hid (And.intro (hv ▸ bx1 w19 24 #[.int .i64 (sg z84), .slice a_82 (ln z84) c_83]) (Goes.go M.out (hv ▸ below_alloc _ _ : Below w19.heap.size w19 w20)))
  clear hv
  obtain ⟨p5_0, q5_0, p5_1, q5_1⟩ := (M.out.2.2.1).c2
  obtain ⟨p6_0, q6_0, p6_1, q6_1⟩ := (M.out.1).c2
  go_wp2_with fail
  clear p5_0 q5_0 p5_1 q5_1 p6_0 q6_0 p6_1 q6_1
  refine (bigGcd_is (G := G) (x := z80) (y := z84) (g := kv) (M.out.2.2.2.1) (M.out.2.1) (Sz.mono Sz80.out (by omega)) (Sz.mono Sz84.out (by omega)) (by rw [Ez80.out, Ez84.out]; exact HG4.out)).mono ?_
  rintro e w21 ⟨a_86, c_87, rfl, hd88, hb⟩
  replace M := Lib.hid (And.intro hd88 (Goes.go M.out hb))
  clear hb hd88
  go_upto_region 21 with fail
  obtain ⟨w22, hv⟩ : ∃ w_ : World, w_ = (w21.alloc (.cells #[.int .i64 (sg kv), .slice a_86 (ln kv) c_87] 24)) := ⟨_, rfl⟩
  rw [← hv]
  have o7 : w19.heap.size < w21.heap.size := ((M.out.2.1)).lt
  replace M := Lib.hid (And.intro (hv ▸ bx1 w21 24 #[.int .i64 (sg kv), .slice a_86 (ln kv) c_87]) (Goes.go M.out (hv ▸ below_alloc _ _ : Below w21.heap.size w21 w22)))
  clear hv
  obtain ⟨p3_0, q3_0, p3_1, q3_1⟩ := (M.out.2.2.2.2.2.2.1).c2
  obtain ⟨p2_0, q2_0, p2_1, q2_1⟩ := (M.out.2.2.2.2.2.2.2.2.1).c2
  go_wp2_with fail
  clear p3_0 q3_0 p3_1 q3_1 p2_0 q2_0 p2_1 q2_1
  replace M := Lib.hid (And.intro (M.out.1) (And.intro (M.out.2.1) (And.intro (M.out.2.2.2.2.2.2.2.1) (And.intro (M.out.2.2.2.2.2.2.2.2.1) (M.out.2.2.2.2.2.2.2.2.2.2)))))
  obtain ⟨z91, ez91⟩ : ∃ v_ : Int, v_ = (gv * z) := ⟨_, rfl⟩
  refine (bigMul_ok (G := G) (x := gv) (y := z) (M.out.2.2.1) (H3.out.keep (M.out.2.2.2.2)) (Sz.mono HSG.out (by omega)) (Sz.mono HZ.out (by omega))).mono ?_
  rintro e w23 ⟨a_89, c_90, rfl, hd92, hb⟩
  rw [← ez91] at hd92 ⊢
  have Sz91 : Hid (Sz z91 16) := by show Sz z91 16; rw [ez91]; exact (Sz.mul HSG.out HZ.out)
  have Ez91 := Lib.hid ez91; clear ez91
  replace M := Lib.hid (And.intro hd92 (Goes.go M.out hb))
  clear hb hd92
  go_upto_region 22 with fail
  obtain ⟨w24, hv⟩ : ∃ w_ : World, w_ = (w23.alloc (.cells #[.int .i64 (sg z91), .slice a_89 (ln z91) c_90] 24)) := ⟨_, rfl⟩
  rw [← hv]
  have o8 : w21.heap.size < w23.heap.size := ((M.out.2.1)).lt
  replace M := Lib.hid (And.intro (hv ▸ bx1 w23 24 #[.int .i64 (sg z91), .slice a_89 (ln z91) c_90]) (Goes.go M.out (hv ▸ below_alloc _ _ : Below w23.heap.size w23 w24)))
  clear hv
  cases bc with
  | false =>
    obtain ⟨p2_0, q2_0, p2_1, q2_1⟩ := (M.out.2.2.2.2.2.1).c2
    obtain ⟨p7_0, q7_0, p7_1, q7_1⟩ := (M.out.2.2.1).c2
    obtain ⟨p8_0, q8_0, p8_1, q8_1⟩ := (M.out.1).c2
    go_wp2_with fail
    clear p2_0 q2_0 p2_1 q2_1 p7_0 q7_0 p7_1 q7_1 p8_0 q8_0 p8_1 q8_1
    replace M := Lib.hid (And.intro (M.out.2.1) (And.intro (M.out.2.2.2.1) (M.out.2.2.2.2.2.2)))
    refine (bigSame_is (G := G) (x := kv) (y := z91) (b := true) (M.out.2.1) (M.out.1) (Sz.mono HSK.out (by omega)) (Sz.mono Sz91.out (by omega)) (eqZ_of (by rw [Ez91.out]; exact HC.out))).mono ?_
    rintro e w25 ⟨rfl, hb⟩
    replace M := Lib.hid (Goes.go M.out hb)
    clear hb
    go_wp2_with fail
    go_ret
    exact ⟨rfl, (M.out.2.2)⟩
  | true =>
    obtain ⟨p2_0, q2_0, p2_1, q2_1⟩ := (M.out.2.2.2.2.2.1).c2
    obtain ⟨p8_0, q8_0, p8_1, q8_1⟩ := (M.out.1).c2
    go_wp2_with fail
    clear p2_0 q2_0 p2_1 q2_1 p8_0 q8_0 p8_1 q8_1
    obtain ⟨z95, ez95⟩ : ∃ v_ : Int, v_ = (-z91) := ⟨_, rfl⟩
    refine (bigNeg_ok (G := G) (x := z91) (M.out.2.1) (Sz.mono Sz91.out (by omega))).mono ?_
    rintro e w25 ⟨a_93, c_94, rfl, hd96, hb⟩
    rw [← ez95] at hd96 ⊢
    have Sz95 : Hid (Sz z95 16) := by show Sz z95 16; rw [ez95]; exact (Sz.neg Sz91.out)
    have Ez95 := Lib.hid ez95; clear ez95
    replace M := Lib.hid (And.intro hd96 (Goes.go M.out hb))
    clear hb hd96
    obtain ⟨p8_0, q8_0, p8_1, q8_1⟩ := (M.out.2.1).c2
    go_upto_region 24 with fail
    clear p8_0 q8_0 p8_1 q8_1
    obtain ⟨w26, hv⟩ : ∃ w_ : World, w_ = ((w25.setCell ⟨w23.heap.size, 0, none⟩ (.int .i64 (sg z95))).setCell ⟨w23.heap.size, 1, none⟩ (.slice a_93 (ln z95) c_94)) := ⟨_, rfl⟩
    rw [← hv]
    have og : w25.grownBy w26 (some w23.heap.size) := by rw [hv]; exact (only_setCell (only_setCell (World.grownBy.refl _ _) _) _)
    have hz : w.heap.size ≤ w23.heap.size := by omega
    have hk : Bx w26 w23.heap.size 24 #[.int .i64 (sg z95), .slice a_93 (ln z95) c_94] := by rw [hv]; exact (((M.out.2.1).set 0 _).set 1 _)
    have hbw : Below w.heap.size w w26 := by rw [hv]; exact (Below.setCell (Below.setCell (M.out.2.2.2.2.2.2.2) (by omega) _) (by omega) _)
    replace M := Lib.hid (And.intro ((M.out.1).far (M.out.2.1) (by rfl) (by omega) og) (And.intro hk (And.intro ((M.out.2.2.1).far (M.out.2.1) (by rfl) (by omega) og) (And.intro ((M.out.2.2.2.1).only og (by omega)) (And.intro ((M.out.2.2.2.2.1).far (M.out.2.1) (by rfl) (by omega) og) (And.intro ((M.out.2.2.2.2.2.1).far (M.out.2.1) (by rfl) (by omega) og) (And.intro ((M.out.2.2.2.2.2.2.1).only og (by omega)) hbw)))))))
    clear hk hbw og hv hz
    obtain ⟨p7_0, q7_0, p7_1, q7_1⟩ := (M.out.2.2.2.1).c2
    obtain ⟨p8_0, q8_0, p8_1, q8_1⟩ := (M.out.2.1).c2
    go_wp2_with fail
    clear p7_0 q7_0 p7_1 q7_1 p8_0 q8_0 p8_1 q8_1
    replace M := Lib.hid (And.intro (M.out.1) (And.intro (M.out.2.2.2.2.1) (M.out.2.2.2.2.2.2.2)))
    refine (bigSame_is (G := G) (x := kv) (y := z95) (b := true) (M.out.2.1) (M.out.1) (Sz.mono HSK.out (by omega)) (Sz.mono Sz95.out (by omega)) (eqZ_of (by rw [Ez95.out, Ez91.out]; exact HC.out))).mono ?_
    rintro e w27 ⟨rfl, hb⟩
    replace M := Lib.hid (Goes.go M.out hb)
    clear hb
    go_wp2_with fail
    go_ret
    exact ⟨rfl, (M.out.2.2)⟩

theorem gcd_all {x y z : Int} {a1 a2 a3 : Option Addr} {c1 c2 c3 : Nat} {w : World} (hG : G ≤ w.heap.size) (ht : Tab w) (h1 : BD G w a1 c1 x) (h2 : BD G w a2 c2 y) (h3 : BD G w a3 c3 z) (hx : Sz x 12) (hy : Sz y 12) (hz : Sz z 4) :
    Calls Tryd.prog 3 #[.agg #[.int .i64 (sg x), .slice a1 (ln x) c1], .agg #[.int .i64 (sg y), .slice a2 (ln y) c2], .agg #[.int .i64 (sg z), .slice a3 (ln z) c3]] w fun e w' => e = .returned (.bool true) ∧ Below w.heap.size w w' := by
  by_cases h : x = 0
  · by_cases h' : y = 0
    · exact gcd_none hG ht h1 h2 h3 hx hy hz h h'
    · exact gcd_two hG ht h1 h2 h3 hx hy hz h h'
  · exact gcd_one hG ht h1 h2 h3 hx hy hz h

theorem gcd_walk {sa sb sc : Int} {la lb lc : List Int} {a1 a2 a3 : Option Addr} {c1 c2 c3 : Nat} {w : World} (ht : Tab w) (h1 : RdZ w (.slice a1 la.length c1) la) (k1 : la.length ≤ c1) (h2 : RdZ w (.slice a2 lb.length c2) lb) (k2 : lb.length ≤ c2) (h3 : RdZ w (.slice a3 lc.length c3) lc) (k3 : lc.length ≤ c3) :
    Calls Tryd.prog 3 #[.agg #[.int .i64 sa, .slice a1 la.length c1], .agg #[.int .i64 sb, .slice a2 lb.length c2], .agg #[.int .i64 sc, .slice a3 lc.length c3]] w fun e w' => e = .returned (.bool true) ∧ Below w.heap.size w w' := by
  cases hn : (decide ((la.length : Int) ≤ 12) && (decide ((lb.length : Int) ≤ 12) && (decide ((lc.length : Int) ≤ 4) && (rightB sa la && (rightB sb lb && rightB sc lc))))) with
  | false => exact gcd_not (G := w.heap.size) (Nat.le_refl _) ht h1 h2 h3 hn
  | true =>
    simp only [Bool.and_eq_true] at hn
    obtain ⟨fa, fb, fc, ra, rb, rc⟩ := hn
    obtain ⟨x, ea, la_, ba⟩ := bd_of_right h1 k1 ra
    rw [la_] at fa
    rw [la_, ea]
    obtain ⟨y, eb, lb_, bb⟩ := bd_of_right h2 k2 rb
    rw [lb_] at fb
    rw [lb_, eb]
    obtain ⟨z, ec, lc_, bc⟩ := bd_of_right h3 k3 rc
    rw [lc_] at fc
    rw [lc_, ec]
    exact gcd_all (G := w.heap.size) (Nat.le_refl _) ht ba bb bc (few_sz_of fa rfl) (few_sz_of fb rfl) (few_sz_of fc rfl)

end Go.Proofs.YtlinegodpoihoaaDoor
