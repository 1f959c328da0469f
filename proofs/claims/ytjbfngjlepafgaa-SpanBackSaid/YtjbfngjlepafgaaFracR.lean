/- Walks: fractions whatever they are: few digits, which are right; plain laws. -/
import Derived.Test.YtjbfngjlepafgaaBigK
import Derived.Test.YtjbfngjlepafgaaBigP
import Derived.Test.YtjbfngjlepafgaaFracA
import Derived.Test.YtjbfngjlepafgaaBigU
import Derived.Test.YtjbfngjlepafgaaProg
import Derived.WalkKit
import Derived.WalkSpells
import Derived.WalkLawsBesides
import Derived.Handy
import Derived.Lib.Hide
import Derived.Lib.Strings
import Derived.Lib.Builder
import Derived.BigQuiet
import Derived.OwnWalk
import Derived.Laws.BitsLemmas
import Derived.WalkSmall
import Derived.Deep.QuietTactic
import Derived.StillTailTactics
import Derived.Maps.AppendAt
import Derived.IntWalk
import Derived.Deep.RegionHeld3
import Derived.Deep.DeepFit
import Derived.Deep.LoopGhost
import Derived.Deep.DeepCutAuto
import Derived.Lib.ItoaNum
import Derived.Lib.Repeat
import Derived.Lib.AppendIntMem
import Derived.Sort.OwnSorted
import Derived.Shelf.Strings.SlTrimAscii
import Derived.Lib.ConvBytes
import Derived.Lib.CutLaws
namespace Go.Proofs.Ytjbfngjlepafgaa
open Go.RowKit
variable {G : Nat}

theorem neg_divInt_neg_ (x y : Int) : Rat.divInt (-x) (-y) = Rat.divInt x y := by rw [Rat.divInt_neg', Int.neg_neg]
theorem div_parts {q r : Rat} : Rat.divInt (nu q * de r) (de q * nu r) = q / r := by
  conv => rhs; rw [← divInt_parts q, ← divInt_parts r]
  rw [Rat.div_def, Rat.inv_divInt, Rat.divInt_mul_divInt]
theorem nu_zero {r : Rat} : nu r = 0 ↔ r = 0 := Rat.num_eq_zero
theorem sg_zero_iff {x : Int} : (sg x == 0) = decide (x = 0) := by
  by_cases h : x = 0
  · subst h; rfl
  · rw [decide_eq_false h, beq_eq_false_iff_ne]; intro h0; exact h (by have := abs_sg x; rw [h0, Int.zero_mul] at this; exact this)
theorem new_size_any {x y : Int} {n : Nat} (hx : Sz x n) (hy : Sz y n) (h0 : y ≠ 0) : Fz (Rat.divInt x y) n := by
  rcases Int.lt_or_gt_of_ne h0 with h | h
  · rw [← neg_divInt_neg_]; exact new_size (by omega) hx.neg hy.neg
  · exact new_size h hx hy
theorem Fz.div {q r : Rat} {n m : Nat} (h : Fz q n) (h' : Fz r m) (h0 : r ≠ 0) : Fz (q / r) (n + m) := by
  rw [← div_parts]
  refine new_size_any (h.1.mul h'.2) (h.2.mul h'.1) ?_
  have := de_pos q
  have h1 : nu r ≠ 0 := mt nu_zero.1 h0
  intro h2
  rcases Int.mul_eq_zero.1 h2 with h3 | h3
  · omega
  · exact h1 h3
theorem bigGcd_is' {x y g : Int} {a1 a2 : Option Addr} {c1 c2 : Nat} {w : World} (h1 : BD G w a1 c1 x) (h2 : BD G w a2 c2 y) (hx : Sz x 549755813888) (hy : Sz y 549755813888) (hg : ((Nat.gcd x.natAbs y.natAbs : Nat) : Int) = g) :
    Calls Try.prog 62 #[.agg #[.int .i64 (sg x), .slice a1 (ln x) c1], .agg #[.int .i64 (sg y), .slice a2 (ln y) c2]] w fun e w' => ∃ a c, e = .returned (.tuple #[.agg #[.int .i64 (sg g), .slice a (ln g) c], .int .i64 0]) ∧ BD G w' a c g ∧ Below w.heap.size w w' := by
  subst hg; exact bigGcd_ok h1 h2 hx hy
set_option maxRecDepth 100000 in
set_option maxHeartbeats 4000000 in
theorem new_neg {x y : Int} {a1 a2 : Option Addr} {c1 c2 : Nat} {w : World} (hG : G ≤ w.heap.size) (h1 : BD G w a1 c1 x) (h2 : BD G w a2 c2 y) (hx : Sz x 549755813888) (hy : Sz y 549755813888) (hs : y < 0) :
    Calls Try.prog 45 #[.agg #[.int .i64 (sg x), .slice a1 (ln x) c1], .agg #[.int .i64 (sg y), .slice a2 (ln y) c2]] w fun e w' => ∃ a c b d, e = .returned (.tuple #[.agg #[.int .i64 (sg (nu (Rat.divInt x y))), .slice a (ln (nu (Rat.divInt x y))) c, .int .i64 (sg (de (Rat.divInt x y))), .slice b (ln (de (Rat.divInt x y))) d], .int .i64 0]) ∧ FD G w' a c b d (Rat.divInt x y) ∧ Below w.heap.size w w' := by
  have e1 : (sg y == 0) = false := by rw [sg_neg hs]; rfl
  have e2 : decide (sg y < 0) = true := by rw [sg_neg hs]; rfl
  obtain ⟨g, hg0, hg, he1, he2⟩ := new_parts (x := -x) (y := -y) (by omega)
  rw [neg_divInt_neg_] at he1 he2
  obtain ⟨r, hr⟩ : ∃ r, r = Rat.divInt x y := ⟨_, rfl⟩
  rw [← hr] at he1 he2 ⊢
  have HG : Hid (((Nat.gcd (-x).natAbs (-y).natAbs : Nat) : Int) = g) := hg
  have HG0 := Lib.hid hg0
  have HE1 := Lib.hid he1
  have HE2 := Lib.hid he2
  have HGS : Hid (Sz g 549755813888) := hy.le (by rw [← hg]; have := Nat.gcd_le_right (m := (-x).natAbs) (n := (-y).natAbs) (by omega); omega)
  have HX := Lib.hid hx; have HY := Lib.hid hy
  clear hx hy hg hg0 he1 he2 hr hs
  have H1 : Hid (BD G w a1 c1 x) := h1
  have H2 : Hid (BD G w a2 c2 y) := h2
  clear h1 h2
  have M : Hid (Below w.heap.size w w) := Below.refl _ _
  go_enter Try.func45, Try.ntmps45
  go_upto_region 1 with fail
  obtain ⟨w1, hv⟩ : ∃ w_ : World, w_ = (((w.alloc (.cells #[.int .i64 (sg x), .slice a1 (ln x) c1] 24)).alloc (.cells #[.int .i64 (sg y), .slice a2 (ln y) c2] 24)).alloc (.cells #[.int .i64 0, .slice none 0 0, .int .i64 0, .slice none 0 0] 26)) := ⟨_, rfl⟩
  rw [← hv]
  have hbx := bx3 w 24 24 26 #[.int .i64 (sg x), .slice a1 (ln x) c1] #[.int .i64 (sg y), .slice a2 (ln y) c2] #[.int .i64 0, .slice none 0 0, .int .i64 0, .slice none 0 0]
  rw [← hv] at hbx
  have hbn : Below w.heap.size w w1 := by rw [hv]; exact (Below.alloc (Below.alloc (Below.alloc (Below.refl _ _) (by simp <;> omega) _) (by simp <;> omega) _) (by simp <;> omega) _)
  replace M := Lib.hid (And.intro hbx.2.2 (And.intro hbx.2.1 (And.intro hbx.1 (Goes.go M.out hbn))))
  clear hbx hbn
  clear hv
  obtain ⟨p0_0, q0_0, p0_1, q0_1⟩ := (M.out.2.2.1).c2
  go_wp2_with fail
  clear p0_0 q0_0 p0_1 q0_1
  refine (bigRight_ok (G := G) (z := x) (H1.out.keep (M.out.2.2.2)) (Sz.mono HX.out (by omega))).mono ?_
  rintro e w2 ⟨rfl, hb⟩
  replace M := Lib.hid (Goes.go M.out hb)
  clear hb
  obtain ⟨p1_0, q1_0, p1_1, q1_1⟩ := (M.out.2.1).c2
  go_wp2_with fail
  clear p1_0 q1_0 p1_1 q1_1
  refine (bigRight_ok (G := G) (z := y) (H2.out.keep (M.out.2.2.2)) (Sz.mono HY.out (by omega))).mono ?_
  rintro e w3 ⟨rfl, hb⟩
  replace M := Lib.hid (Goes.go M.out hb)
  clear hb
  obtain ⟨p1_0, q1_0, p1_1, q1_1⟩ := (M.out.2.1).c2
  go_wp2_with fail
  clear p1_0 q1_0 p1_1 q1_1
  obtain ⟨w4, hv⟩ : ∃ w_ : World, w_ = w3.drew := ⟨_, rfl⟩
  replace M := Lib.hid (Goes.go M.out (hv ▸ below_drew _ : Below w3.heap.size w3 w4))
  refine wp_region_held_drew (S := (fun _ => True)) (by kernel_rfl) trivial (fun hH9 => ?_)
  rw [← hv]
  clear hv
  refine wpAnyH_ready (rs := [0, 2]) (by kernel_rfl) (by simp) ?_
  refine AllReadyH.cons at0 (fun K hK => ?_) ?_
  ·
    obtain ⟨p0_0, q0_0, p0_1, q0_1⟩ := (M.out.2.2.1).c2
    go_simp
    clear p0_0 q0_0 p0_1 q0_1
    refine hK.out _ _ (trivial) (fun hH10 => ?_)
    clear hK K hH9
    (try simp only [Act.put, List.setIfInBounds_toArray, List.set_cons_zero, List.set_cons_succ])
    refine wpAnyH_ready (rs := [1, 2]) (by kernel_rfl) (by simp) ?_
    refine AllReadyH.cons at1 (fun K hK => ?_) ?_
    ·
      go_simp
      obtain ⟨z13, ez13⟩ : ∃ v_ : Int, v_ = (-x) := ⟨_, rfl⟩
      refine (bigNeg_ok (G := G) (x := x) (H1.out.keep (M.out.2.2.2)) HX.out).mono ?_
      rintro e w5 ⟨a_11, c_12, rfl, hd14, hb⟩
      rw [← ez13] at hd14 ⊢
      have Sz13 : Hid (Sz z13 549755813888) := by show Sz z13 549755813888; rw [ez13]; exact (Sz.neg HX.out)
      have Ez13 := Lib.hid ez13; clear ez13
      replace M := Lib.hid (And.intro hd14 (Goes.go M.out hb))
      clear hb hd14
      (try go_wp2_with fail)
      refine hK.out _ _ (trivial) (fun hH15 => ?_)
      clear hK K hH10
      (try simp only [Act.put, List.setIfInBounds_toArray, List.set_cons_zero, List.set_cons_succ])
      refine wpAnyH_ready (rs := [2]) (by kernel_rfl) (by simp) ?_
      refine AllReadyH.cons at2 (fun K hK => ?_) AllReadyH.nil
      obtain ⟨p1_0, q1_0, p1_1, q1_1⟩ := (M.out.2.2.1).c2
      go_simp
      clear p1_0 q1_0 p1_1 q1_1
      refine hK.out _ _ (trivial) (fun hH16 => ?_)
      clear hK K hH15
      (try simp only [Act.put, List.setIfInBounds_toArray, List.set_cons_zero, List.set_cons_succ])
      refine wpAnyH_ready (rs := [3]) (by kernel_rfl) (by simp) ?_
      refine AllReadyH.cons at3 (fun K hK => ?_) AllReadyH.nil
      go_simp
      obtain ⟨z19, ez19⟩ : ∃ v_ : Int, v_ = (-y) := ⟨_, rfl⟩
      refine (bigNeg_ok (G := G) (x := y) (H2.out.keep (M.out.2.2.2.2)) HY.out).mono ?_
      rintro e w6 ⟨a_17, c_18, rfl, hd20, hb⟩
      rw [← ez19] at hd20 ⊢
      have Sz19 : Hid (Sz z19 549755813888) := by show Sz z19 549755813888; rw [ez19]; exact (Sz.neg HY.out)
      have Ez19 := Lib.hid ez19; clear ez19
      replace M := Lib.hid (And.intro hd20 (Goes.go M.out hb))
      clear hb hd20
      (try go_wp2_with fail)
      refine hK.out _ _ (trivial) (fun hH21 => ?_)
      clear hK K hH16
      (try simp only [Act.put, List.setIfInBounds_toArray, List.set_cons_zero, List.set_cons_succ])
      refine wpAnyH_ready (rs := [4]) (by kernel_rfl) (by simp) ?_
      refine AllReadyH.cons at4 (fun K hK => ?_) AllReadyH.nil
      obtain ⟨p0_0, q0_0, p0_1, q0_1⟩ := (M.out.2.2.2.2.1).c2
      go_simp
      clear p0_0 q0_0 p0_1 q0_1
      obtain ⟨w7, hv⟩ : ∃ w_ : World, w_ = ((w6.setCell ⟨w.heap.size, 0, none⟩ (.int .i64 (sg z13))).setCell ⟨w.heap.size, 1, none⟩ (.slice a_11 (ln z13) c_12)) := ⟨_, rfl⟩
      rw [← hv]
      have og : w6.grownBy w7 (some w.heap.size) := by rw [hv]; exact (only_setCell (only_setCell (World.grownBy.refl _ _) _) _)
      have hz : w.heap.size ≤ w.heap.size := by exact Nat.le_refl _
      have hk : Bx w7 w.heap.size 24 #[.int .i64 (sg z13), .slice a_11 (ln z13) c_12] := by rw [hv]; exact (((M.out.2.2.2.2.1).set 0 _).set 1 _)
      have hbw : Below w.heap.size w w7 := by rw [hv]; exact (Below.setCell (Below.setCell (M.out.2.2.2.2.2) (by omega) _) (by omega) _)
      replace M := Lib.hid (And.intro ((M.out.1).far (M.out.2.2.2.2.1) (by rfl) (by omega) og) (And.intro ((M.out.2.1).far (M.out.2.2.2.2.1) (by rfl) (by omega) og) (And.intro ((M.out.2.2.1).only og (by omega)) (And.intro ((M.out.2.2.2.1).only og (by omega)) (And.intro hk hbw)))))
      clear hk hbw og hv hz
      refine hK.out _ _ (trivial) (fun hH22 => ?_)
      clear hK K hH21
      (try simp only [Act.put, List.setIfInBounds_toArray, List.set_cons_zero, List.set_cons_succ])
      refine wpAnyH_ready (rs := [5]) (by kernel_rfl) (by simp) ?_
      refine AllReadyH.cons at5 (fun K hK => ?_) AllReadyH.nil
      obtain ⟨p1_0, q1_0, p1_1, q1_1⟩ := (M.out.2.2.2.1).c2
      go_simp
      clear p1_0 q1_0 p1_1 q1_1
      obtain ⟨w8, hv⟩ : ∃ w_ : World, w_ = ((w7.setCell ⟨w.heap.size + 1, 0, none⟩ (.int .i64 (sg z19))).setCell ⟨w.heap.size + 1, 1, none⟩ (.slice a_17 (ln z19) c_18)) := ⟨_, rfl⟩
      rw [← hv]
      have og : w7.grownBy w8 (some (w.heap.size + 1)) := by rw [hv]; exact (only_setCell (only_setCell (World.grownBy.refl _ _) _) _)
      have hz : w.heap.size ≤ w.heap.size + 1 := by omega
      have hk : Bx w8 (w.heap.size + 1) 24 #[.int .i64 (sg z19), .slice a_17 (ln z19) c_18] := by rw [hv]; exact (((M.out.2.2.2.1).set 0 _).set 1 _)
      have hbw : Below w.heap.size w w8 := by rw [hv]; exact (Below.setCell (Below.setCell (M.out.2.2.2.2.2) (by omega) _) (by omega) _)
      replace M := Lib.hid (And.intro ((M.out.1).far (M.out.2.2.2.1) (by rfl) (by omega) og) (And.intro ((M.out.2.1).far (M.out.2.2.2.1) (by rfl) (by omega) og) (And.intro ((M.out.2.2.1).only og (by omega)) (And.intro hk (And.intro ((M.out.2.2.2.2.1).only og (by omega)) hbw)))))
      clear hk hbw og hv hz
      refine hK.out _ _ (trivial) (fun hH23 => ?_)
      clear hK K hH22
      (try simp only [Act.put, List.setIfInBounds_toArray, List.set_cons_zero, List.set_cons_succ])
      refine wpAnyH_done (by kernel_rfl) ?_ _
      clear hH23
      obtain ⟨p0_0, q0_0, p0_1, q0_1⟩ := (M.out.2.2.2.2.1).c2
      obtain ⟨p1_0, q1_0, p1_1, q1_1⟩ := (M.out.2.2.2.1).c2
      go_wp2_with fail
      clear p0_0 q0_0 p0_1 q0_1 p1_0 q1_0 p1_1 q1_1
      refine (bigGcd_is' (G := G) (x := z13) (y := z19) (g := g) (M.out.2.1) (M.out.1) Sz13.out Sz19.out (by rw [Ez13.out, Ez19.out]; exact HG.out)).mono ?_
      rintro e w9 ⟨a_24, c_25, rfl, hd26, hb⟩
      replace M := Lib.hid (And.intro hd26 (Goes.go M.out hb))
      clear hb hd26
      go_upto_region 8 with fail
      obtain ⟨w10, hv⟩ : ∃ w_ : World, w_ = (w9.alloc (.cells #[.int .i64 (sg g), .slice a_24 (ln g) c_25] 24)) := ⟨_, rfl⟩
      rw [← hv]
      have o3 : w.heap.size + 1 + 1 < w9.heap.size := ((M.out.2.2.2.1)).lt
      replace M := Lib.hid (And.intro (hv ▸ bx1 w9 24 #[.int .i64 (sg g), .slice a_24 (ln g) c_25]) (Goes.go M.out (hv ▸ below_alloc _ _ : Below w9.heap.size w9 w10)))
      clear hv
      obtain ⟨p0_0, q0_0, p0_1, q0_1⟩ := (M.out.2.2.2.2.2.2.1).c2
      obtain ⟨p3_0, q3_0, p3_1, q3_1⟩ := (M.out.1).c2
      go_wp2_with fail
      clear p0_0 q0_0 p0_1 q0_1 p3_0 q3_0 p3_1 q3_1
      refine (bigDiv_exact (G := G) (x := z13) (y := g) (q := (nu r)) (M.out.2.2.2.1) (M.out.2.1) Sz13.out HGS.out HG0.out (by rw [Ez13.out]; exact HE1.out)).mono ?_
      rintro e w11 ⟨a_27, c_28, b_29, d_30, rfl, hd31, hd32, hb⟩
      replace M := Lib.hid (And.intro hd31 (And.intro hd32 (Goes.go M.out hb)))
      clear hb hd31 hd32
      go_upto_region 9 with fail
      obtain ⟨w12, hv⟩ : ∃ w_ : World, w_ = ((w11.alloc (.cells #[.int .i64 (sg (nu r)), .slice a_27 (ln (nu r)) c_28] 24)).alloc (.cells #[.int .i64 (sg 0), .slice b_29 (ln 0) d_30] 24)) := ⟨_, rfl⟩
      rw [← hv]
      have o4 : w9.heap.size < w11.heap.size := ((M.out.2.2.1)).lt
      have hbx := bx2 w11 24 24 #[.int .i64 (sg (nu r)), .slice a_27 (ln (nu r)) c_28] #[.int .i64 (sg 0), .slice b_29 (ln 0) d_30]
      rw [← hv] at hbx
      have hbn : Below w11.heap.size w11 w12 := by rw [hv]; exact (Below.alloc (Below.alloc (Below.refl _ _) (by simp <;> omega) _) (by simp <;> omega) _)
      replace M := Lib.hid (And.intro hbx.2 (And.intro hbx.1 (Goes.go M.out hbn)))
      clear hbx hbn
      clear hv
      obtain ⟨p1_0, q1_0, p1_1, q1_1⟩ := (M.out.2.2.2.2.2.2.2.2.2.1).c2
      obtain ⟨p3_0, q3_0, p3_1, q3_1⟩ := (M.out.2.2.2.2.1).c2
      go_wp2_with fail
      clear p1_0 q1_0 p1_1 q1_1 p3_0 q3_0 p3_1 q3_1
      refine (bigDiv_exact (G := G) (x := z19) (y := g) (q := (de r)) (M.out.2.2.2.2.2.2.1) (M.out.2.2.2.2.2.1) Sz19.out HGS.out HG0.out (by rw [Ez19.out]; exact HE2.out)).mono ?_
      rintro e w13 ⟨a_33, c_34, b_35, d_36, rfl, hd37, hd38, hb⟩
      replace M := Lib.hid (And.intro hd37 (And.intro hd38 (Goes.go M.out hb)))
      clear hb hd37 hd38
      go_upto_region 10 with fail
      obtain ⟨w14, hv⟩ : ∃ w_ : World, w_ = ((w13.alloc (.cells #[.int .i64 (sg (de r)), .slice a_33 (ln (de r)) c_34] 24)).alloc (.cells #[.int .i64 (sg 0), .slice b_35 (ln 0) d_36] 24)) := ⟨_, rfl⟩
      rw [← hv]
      have o6 : w11.heap.size + 1 < w13.heap.size := ((M.out.2.2.1)).lt
      have hbx := bx2 w13 24 24 #[.int .i64 (sg (de r)), .slice a_33 (ln (de r)) c_34] #[.int .i64 (sg 0), .slice b_35 (ln 0) d_36]
      rw [← hv] at hbx
      have hbn : Below w13.heap.size w13 w14 := by rw [hv]; exact (Below.alloc (Below.alloc (Below.refl _ _) (by simp <;> omega) _) (by simp <;> omega) _)
      replace M := Lib.hid (And.intro hbx.2 (And.intro hbx.1 (Goes.go M.out hbn)))
      clear hbx hbn
      clear hv
      obtain ⟨p4_0, q4_0, p4_1, q4_1⟩ := (M.out.2.2.2.2.2.1).c2
      obtain ⟨p6_0, q6_0, p6_1, q6_1⟩ := (M.out.2.1).c2
      obtain ⟨p2_0, q2_0, p2_1, q2_1, p2_2, q2_2, p2_3, q2_3⟩ := (M.out.2.2.2.2.2.2.2.2.2.2.2.2.1).c4
      go_wp2_with fail
      clear p4_0 q4_0 p4_1 q4_1 p6_0 q6_0 p6_1 q6_1 p2_0 q2_0 p2_1 q2_1 p2_2 q2_2 p2_3 q2_3
      obtain ⟨w15, hv⟩ : ∃ w_ : World, w_ = ((((w14.setCell ⟨w.heap.size + 1 + 1, 0, none⟩ (.int .i64 (sg (nu r)))).setCell ⟨w.heap.size + 1 + 1, 1, none⟩ (.slice a_27 (ln (nu r)) c_28)).setCell ⟨w.heap.size + 1 + 1, 2, none⟩ (.int .i64 (sg (de r)))).setCell ⟨w.heap.size + 1 + 1, 3, none⟩ (.slice a_33 (ln (de r)) c_34)) := ⟨_, rfl⟩
      rw [← hv]
      have og : w14.grownBy w15 (some (w.heap.size + 1 + 1)) := by rw [hv]; exact (only_setCell (only_setCell (only_setCell (only_setCell (World.grownBy.refl _ _) _) _) _) _)
      have hz : w.heap.size ≤ w.heap.size + 1 + 1 := by omega
      have hk : Bx w15 (w.heap.size + 1 + 1) 26 #[.int .i64 (sg (nu r)), .slice a_27 (ln (nu r)) c_28, .int .i64 (sg (de r)), .slice a_33 (ln (de r)) c_34] := by rw [hv]; exact (((((M.out.2.2.2.2.2.2.2.2.2.2.2.2.1).set 0 _).set 1 _).set 2 _).set 3 _)
      have hbw : Below w.heap.size w w15 := by rw [hv]; exact (Below.setCell (Below.setCell (Below.setCell (Below.setCell (M.out.2.2.2.2.2.2.2.2.2.2.2.2.2.2.2) (by omega) _) (by omega) _) (by omega) _) (by omega) _)
      replace M := Lib.hid (And.intro ((M.out.1).only og (by omega)) (And.intro ((M.out.2.1).only og (by omega)) (And.intro ((M.out.2.2.1).far (M.out.2.2.2.2.2.2.2.2.2.2.2.2.1) (by rfl) (by omega) og) (And.intro ((M.out.2.2.2.1).far (M.out.2.2.2.2.2.2.2.2.2.2.2.2.1) (by rfl) (by omega) og) (And.intro ((M.out.2.2.2.2.1).only og (by omega)) (And.intro ((M.out.2.2.2.2.2.1).only og (by omega)) (And.intro ((M.out.2.2.2.2.2.2.1).far (M.out.2.2.2.2.2.2.2.2.2.2.2.2.1) (by rfl) (by omega) og) (And.intro ((M.out.2.2.2.2.2.2.2.1).far (M.out.2.2.2.2.2.2.2.2.2.2.2.2.1) (by rfl) (by omega) og) (And.intro ((M.out.2.2.2.2.2.2.2.2.1).only og (by omega)) (And.intro ((M.out.2.2.2.2.2.2.2.2.2.1).far (M.out.2.2.2.2.2.2.2.2.2.2.2.2.1) (by rfl) (by omega) og) (And.intro ((M.out.2.2.2.2.2.2.2.2.2.2.1).far (M.out.2.2.2.2.2.2.2.2.2.2.2.2.1) (by rfl) (by omega) og) (And.intro ((M.out.2.2.2.2.2.2.2.2.2.2.2.1).far (M.out.2.2.2.2.2.2.2.2.2.2.2.2.1) (by rfl) (by omega) og) (And.intro hk (And.intro ((M.out.2.2.2.2.2.2.2.2.2.2.2.2.2.1).only og (by omega)) (And.intro ((M.out.2.2.2.2.2.2.2.2.2.2.2.2.2.2.1).only og (by omega)) hbw)))))))))))))))
      clear hk hbw og hv hz
      refine bodyPost_ret (results_box2 rfl _ _ (w.heap.size + 1 + 1) 26 _ _ _ rfl (M.out.2.2.2.2.2.2.2.2.2.2.2.2.1) Try.underlying26 rfl (by kernel_rfl)) rfl ?_
      exact ⟨a_27, c_28, a_33, c_34, rfl, FD.mk (M.out.2.2.2.2.2.2.1) (M.out.2.2.1), (M.out.2.2.2.2.2.2.2.2.2.2.2.2.2.2.2)⟩
    refine AllReadyH.cons at2 (fun K hK => ?_) AllReadyH.nil
    obtain ⟨p1_0, q1_0, p1_1, q1_1⟩ := (M.out.2.1).c2
    go_simp
    clear p1_0 q1_0 p1_1 q1_1
    refine hK.out _ _ (trivial) (fun hH39 => ?_)
    clear hK K hH10
    (try simp only [Act.put, List.setIfInBounds_toArray, List.set_cons_zero, List.set_cons_succ])
    refine wpAnyH_ready (rs := [1]) (by kernel_rfl) (by simp) ?_
    refine AllReadyH.cons at1 (fun K hK => ?_) AllReadyH.nil
    go_simp
    obtain ⟨z42, ez42⟩ : ∃ v_ : Int, v_ = (-x) := ⟨_, rfl⟩
    refine (bigNeg_ok (G := G) (x := x) (H1.out.keep (M.out.2.2.2)) HX.out).mono ?_
    rintro e w5 ⟨a_40, c_41, rfl, hd43, hb⟩
    rw [← ez42] at hd43 ⊢
    have Sz42 : Hid (Sz z42 549755813888) := by show Sz z42 549755813888; rw [ez42]; exact (Sz.neg HX.out)
    have Ez42 := Lib.hid ez42; clear ez42
    replace M := Lib.hid (And.intro hd43 (Goes.go M.out hb))
    clear hb hd43
    (try go_wp2_with fail)
    refine hK.out _ _ (trivial) (fun hH44 => ?_)
    clear hK K hH39
    (try simp only [Act.put, List.setIfInBounds_toArray, List.set_cons_zero, List.set_cons_succ])
    refine wpAnyH_ready (rs := [3]) (by kernel_rfl) (by simp) ?_
    refine AllReadyH.cons at3 (fun K hK => ?_) AllReadyH.nil
    go_simp
    obtain ⟨z47, ez47⟩ : ∃ v_ : Int, v_ = (-y) := ⟨_, rfl⟩
    refine (bigNeg_ok (G := G) (x := y) (H2.out.keep (M.out.2.2.2.2)) HY.out).mono ?_
    rintro e w6 ⟨a_45, c_46, rfl, hd48, hb⟩
    rw [← ez47] at hd48 ⊢
    have Sz47 : Hid (Sz z47 549755813888) := by show Sz z47 549755813888; rw [ez47]; exact (Sz.neg HY.out)
    have Ez47 := Lib.hid ez47; clear ez47
    replace M := Lib.hid (And.intro hd48 (Goes.go M.out hb))
    clear hb hd48
    (try go_wp2_with fail)
    refine hK.out _ _ (trivial) (fun hH49 => ?_)
    clear hK K hH44
    (try simp only [Act.put, List.setIfInBounds_toArray, List.set_cons_zero, List.set_cons_succ])
    refine wpAnyH_ready (rs := [4]) (by kernel_rfl) (by simp) ?_
    refine AllReadyH.cons at4 (fun K hK => ?_) AllReadyH.nil
    obtain ⟨p0_0, q0_0, p0_1, q0_1⟩ := (M.out.2.2.2.2.1).c2
    go_simp
    clear p0_0 q0_0 p0_1 q0_1
    obtain ⟨w7, hv⟩ : ∃ w_ : World, w_ = ((w6.setCell ⟨w.heap.size, 0, none⟩ (.int .i64 (sg z42))).setCell ⟨w.heap.size, 1, none⟩ (.slice a_40 (ln z42) c_41)) := ⟨_, rfl⟩
    rw [← hv]
    have og : w6.grownBy w7 (some w.heap.size) := by rw [hv]; exact (only_setCell (only_setCell (World.grownBy.refl _ _) _) _)
    have hz : w.heap.size ≤ w.heap.size := by exact Nat.le_refl _
    have hk : Bx w7 w.heap.size 24 #[.int .i64 (sg z42), .slice a_40 (ln z42) c_41] := by rw [hv]; exact (((M.out.2.2.2.2.1).set 0 _).set 1 _)
    have hbw : Below w.heap.size w w7 := by rw [hv]; exact (Below.setCell (Below.setCell (M.out.2.2.2.2.2) (by omega) _) (by omega) _)
    replace M := Lib.hid (And.intro ((M.out.1).far (M.out.2.2.2.2.1) (by rfl) (by omega) og) (And.intro ((M.out.2.1).far (M.out.2.2.2.2.1) (by rfl) (by omega) og) (And.intro ((M.out.2.2.1).only og (by omega)) (And.intro ((M.out.2.2.2.1).only og (by omega)) (And.intro hk hbw)))))
    clear hk hbw og hv hz
    refine hK.out _ _ (trivial) (fun hH50 => ?_)
    clear hK K hH49
    (try simp only [Act.put, List.setIfInBounds_toArray, List.set_cons_zero, List.set_cons_succ])
    refine wpAnyH_ready (rs := [5]) (by kernel_rfl) (by simp) ?_
    refine AllReadyH.cons at5 (fun K hK => ?_) AllReadyH.nil
    obtain ⟨p1_0, q1_0, p1_1, q1_1⟩ := (M.out.2.2.2.1).c2
    go_simp
    clear p1_0 q1_0 p1_1 q1_1
    obtain ⟨w8, hv⟩ : ∃ w_ : World, w_ = ((w7.setCell ⟨w.heap.size + 1, 0, none⟩ (.int .i64 (sg z47))).setCell ⟨w.heap.size + 1, 1, none⟩ (.slice a_45 (ln z47) c_46)) := ⟨_, rfl⟩
    rw [← hv]
    have og : w7.grownBy w8 (some (w.heap.size + 1)) := by rw [hv]; exact (only_setCell (only_setCell (World.grownBy.refl _ _) _) _)
    have hz : w.heap.size ≤ w.heap.size + 1 := by omega
    have hk : Bx w8 (w.heap.size + 1) 24 #[.int .i64 (sg z47), .slice a_45 (ln z47) c_46] := by rw [hv]; exact (((M.out.2.2.2.1).set 0 _).set 1 _)
    have hbw : Below w.heap.size w w8 := by rw [hv]; exact (Below.setCell (Below.setCell (M.out.2.2.2.2.2) (by omega) _) (by omega) _)
    replace M := Lib.hid (And.intro ((M.out.1).far (M.out.2.2.2.1) (by rfl) (by omega) og) (And.intro ((M.out.2.1).far (M.out.2.2.2.1) (by rfl) (by omega) og) (And.intro ((M.out.2.2.1).only og (by omega)) (And.intro hk (And.intro ((M.out.2.2.2.2.1).only og (by omega)) hbw)))))
    clear hk hbw og hv hz
    refine hK.out _ _ (trivial) (fun hH51 => ?_)
    clear hK K hH50
    (try simp only [Act.put, List.setIfInBounds_toArray, List.set_cons_zero, List.set_cons_succ])
    refine wpAnyH_done (by kernel_rfl) ?_ _
    clear hH51
    obtain ⟨p0_0, q0_0, p0_1, q0_1⟩ := (M.out.2.2.2.2.1).c2
    obtain ⟨p1_0, q1_0, p1_1, q1_1⟩ := (M.out.2.2.2.1).c2
    go_wp2_with fail
    clear p0_0 q0_0 p0_1 q0_1 p1_0 q1_0 p1_1 q1_1
    refine (bigGcd_is' (G := G) (x := z42) (y := z47) (g := g) (M.out.2.1) (M.out.1) Sz42.out Sz47.out (by rw [Ez42.out, Ez47.out]; exact HG.out)).mono ?_
    rintro e w9 ⟨a_52, c_53, rfl, hd54, hb⟩
    replace M := Lib.hid (And.intro hd54 (Goes.go M.out hb))
    clear hb hd54
    go_upto_region 8 with fail
    obtain ⟨w10, hv⟩ : ∃ w_ : World, w_ = (w9.alloc (.cells #[.int .i64 (sg g), .slice a_52 (ln g) c_53] 24)) := ⟨_, rfl⟩
    rw [← hv]
    have o3 : w.heap.size + 1 + 1 < w9.heap.size := ((M.out.2.2.2.1)).lt
    replace M := Lib.hid (And.intro (hv ▸ bx1 w9 24 #[.int .i64 (sg g), .slice a_52 (ln g) c_53]) (Goes.go M.out (hv ▸ below_alloc _ _ : Below w9.heap.size w9 w10)))
    clear hv
    obtain ⟨p0_0, q0_0, p0_1, q0_1⟩ := (M.out.2.2.2.2.2.2.1).c2
    obtain ⟨p3_0, q3_0, p3_1, q3_1⟩ := (M.out.1).c2
    go_wp2_with fail
    clear p0_0 q0_0 p0_1 q0_1 p3_0 q3_0 p3_1 q3_1
    refine (bigDiv_exact (G := G) (x := z42) (y := g) (q := (nu r)) (M.out.2.2.2.1) (M.out.2.1) Sz42.out HGS.out HG0.out (by rw [Ez42.out]; exact HE1.out)).mono ?_
    rintro e w11 ⟨a_55, c_56, b_57, d_58, rfl, hd59, hd60, hb⟩
    replace M := Lib.hid (And.intro hd59 (And.intro hd60 (Goes.go M.out hb)))
    clear hb hd59 hd60
    go_upto_region 9 with fail
    obtain ⟨w12, hv⟩ : ∃ w_ : World, w_ = ((w11.alloc (.cells #[.int .i64 (sg (nu r)), .slice a_55 (ln (nu r)) c_56] 24)).alloc (.cells #[.int .i64 (sg 0), .slice b_57 (ln 0) d_58] 24)) := ⟨_, rfl⟩
    rw [← hv]
    have o4 : w9.heap.size < w11.heap.size := ((M.out.2.2.1)).lt
    have hbx := bx2 w11 24 24 #[.int .i64 (sg (nu r)), .slice a_55 (ln (nu r)) c_56] #[.int .i64 (sg 0), .slice b_57 (ln 0) d_58]
    rw [← hv] at hbx
    have hbn : Below w11.heap.size w11 w12 := by rw [hv]; exact (Below.alloc (Below.alloc (Below.refl _ _) (by simp <;> omega) _) (by simp <;> omega) _)
    replace M := Lib.hid (And.intro hbx.2 (And.intro hbx.1 (Goes.go M.out hbn)))
    clear hbx hbn
    clear hv
    obtain ⟨p1_0, q1_0, p1_1, q1_1⟩ := (M.out.2.2.2.2.2.2.2.2.2.1).c2
    obtain ⟨p3_0, q3_0, p3_1, q3_1⟩ := (M.out.2.2.2.2.1).c2
    go_wp2_with fail
    clear p1_0 q1_0 p1_1 q1_1 p3_0 q3_0 p3_1 q3_1
    refine (bigDiv_exact (G := G) (x := z47) (y := g) (q := (de r)) (M.out.2.2.2.2.2.2.1) (M.out.2.2.2.2.2.1) Sz47.out HGS.out HG0.out (by rw [Ez47.out]; exact HE2.out)).mono ?_
    rintro e w13 ⟨a_61, c_62, b_63, d_64, rfl, hd65, hd66, hb⟩
    replace M := Lib.hid (And.intro hd65 (And.intro hd66 (Goes.go M.out hb)))
    clear hb hd65 hd66
    go_upto_region 10 with fail
    obtain ⟨w14, hv⟩ : ∃ w_ : World, w_ = ((w13.alloc (.cells #[.int .i64 (sg (de r)), .slice a_61 (ln (de r)) c_62] 24)).alloc (.cells #[.int .i64 (sg 0), .slice b_63 (ln 0) d_64] 24)) := ⟨_, rfl⟩
    rw [← hv]
    have o6 : w11.heap.size + 1 < w13.heap.size := ((M.out.2.2.1)).lt
    have hbx := bx2 w13 24 24 #[.int .i64 (sg (de r)), .slice a_61 (ln (de r)) c_62] #[.int .i64 (sg 0), .slice b_63 (ln 0) d_64]
    rw [← hv] at hbx
    have hbn : Below w13.heap.size w13 w14 := by rw [hv]; exact (Below.alloc (Below.alloc (Below.refl _ _) (by simp <;> omega) _) (by simp <;> omega) _)
    replace M := Lib.hid (And.intro hbx.2 (And.intro hbx.1 (Goes.go M.out hbn)))
    clear hbx hbn
    clear hv
    obtain ⟨p4_0, q4_0, p4_1, q4_1⟩ := (M.out.2.2.2.2.2.1).c2
    obtain ⟨p6_0, q6_0, p6_1, q6_1⟩ := (M.out.2.1).c2
    obtain ⟨p2_0, q2_0, p2_1, q2_1, p2_2, q2_2, p2_3, q2_3⟩ := (M.out.2.2.2.2.2.2.2.2.2.2.2.2.1).c4
    go_wp2_with fail
    clear p4_0 q4_0 p4_1 q4_1 p6_0 q6_0 p6_1 q6_1 p2_0 q2_0 p2_1 q2_1 p2_2 q2_2 p2_3 q2_3
    obtain ⟨w15, hv⟩ : ∃ w_ : World, w_ = ((((w14.setCell ⟨w.heap.size + 1 + 1, 0, none⟩ (.int .i64 (sg (nu r)))).setCell ⟨w.heap.size + 1 + 1, 1, none⟩ (.slice a_55 (ln (nu r)) c_56)).setCell ⟨w.heap.size + 1 + 1, 2, none⟩ (.int .i64 (sg (de r)))).setCell ⟨w.heap.size + 1 + 1, 3, none⟩ (.slice a_61 (ln (de r)) c_62)) := ⟨_, rfl⟩
    rw [← hv]
    have og : w14.grownBy w15 (some (w.heap.size + 1 + 1)) := by rw [hv]; exact (only_setCell (only_setCell (only_setCell (only_setCell (World.grownBy.refl _ _) _) _) _) _)
    have hz : w.heap.size ≤ w.heap.size + 1 + 1 := by omega
    have hk : Bx w15 (w.heap.size + 1 + 1) 26 #[.int .i64 (sg (nu r)), .slice a_55 (ln (nu r)) c_56, .int .i64 (sg (de r)), .slice a_61 (ln (de r)) c_62] := by rw [hv]; exact (((((M.out.2.2.2.2.2.2.2.2.2.2.2.2.1).set 0 _).set 1 _).set 2 _).set 3 _)
    have hbw : Below w.heap.size w w15 := by rw [hv]; exact (Below.setCell (Below.setCell (Below.setCell (Below.setCell (M.out.2.2.2.2.2.2.2.2.2.2.2.2.2.2.2) (by omega) _) (by omega) _) (by omega) _) (by omega) _)
    replace M := Lib.hid (And.intro ((M.out.1).only og (by omega)) (And.intro ((M.out.2.1).only og (by omega)) (And.intro ((M.out.2.2.1).far (M.out.2.2.2.2.2.2.2.2.2.2.2.2.1) (by rfl) (by omega) og) (And.intro ((M.out.2.2.2.1).far (M.out.2.2.2.2.2.2.2.2.2.2.2.2.1) (by rfl) (by omega) og) (And.intro ((M.out.2.2.2.2.1).only og (by omega)) (And.intro ((M.out.2.2.2.2.2.1).only og (by omega)) (And.intro ((M.out.2.2.2.2.2.2.1).far (M.out.2.2.2.2.2.2.2.2.2.2.2.2.1) (by rfl) (by omega) og) (And.intro ((M.out.2.2.2.2.2.2.2.1).far (M.out.2.2.2.2.2.2.2.2.2.2.2.2.1) (by rfl) (by omega) og) (And.intro ((M.out.2.2.2.2.2.2.2.2.1).only og (by omega)) (And.intro ((M.out.2.2.2.2.2.2.2.2.2.1).far (M.out.2.2.2.2.2.2.2.2.2.2.2.2.1) (by rfl) (by omega) og) (And.intro ((M.out.2.2.2.2.2.2.2.2.2.2.1).far (M.out.2.2.2.2.2.2.2.2.2.2.2.2.1) (by rfl) (by omega) og) (And.intro ((M.out.2.2.2.2.2.2.2.2.2.2.2.1).far (M.out.2.2.2.2.2.2.2.2.2.2.2.2.1) (by rfl) (by omega) og) (And.intro hk (And.intro ((M.out.2.2.2.2.2.2.2.2.2.2.2.2.2.1).only og (by omega)) (And.intro ((M.out.2.2.2.2.2.2.2.2.2.2.2.2.2.2.1).only og (by omega)) hbw)))))))))))))))
    clear hk hbw og hv hz
    refine bodyPost_ret (results_box2 rfl _ _ (w.heap.size + 1 + 1) 26 _ _ _ rfl (M.out.2.2.2.2.2.2.2.2.2.2.2.2.1) Try.underlying26 rfl (by kernel_rfl)) rfl ?_
    exact ⟨a_55, c_56, a_61, c_62, rfl, FD.mk (M.out.2.2.2.2.2.2.1) (M.out.2.2.1), (M.out.2.2.2.2.2.2.2.2.2.2.2.2.2.2.2)⟩
  refine AllReadyH.cons at2 (fun K hK => ?_) AllReadyH.nil
  obtain ⟨p1_0, q1_0, p1_1, q1_1⟩ := (M.out.2.1).c2
  go_simp
  clear p1_0 q1_0 p1_1 q1_1
  refine hK.out _ _ (trivial) (fun hH67 => ?_)
  clear hK K hH9
  (try simp only [Act.put, List.setIfInBounds_toArray, List.set_cons_zero, List.set_cons_succ])
  refine wpAnyH_ready (rs := [0]) (by kernel_rfl) (by simp) ?_
  refine AllReadyH.cons at0 (fun K hK => ?_) AllReadyH.nil
  obtain ⟨p0_0, q0_0, p0_1, q0_1⟩ := (M.out.2.2.1).c2
  go_simp
  clear p0_0 q0_0 p0_1 q0_1
  refine hK.out _ _ (trivial) (fun hH68 => ?_)
  clear hK K hH67
  (try simp only [Act.put, List.setIfInBounds_toArray, List.set_cons_zero, List.set_cons_succ])
  refine wpAnyH_ready (rs := [1]) (by kernel_rfl) (by simp) ?_
  refine AllReadyH.cons at1 (fun K hK => ?_) AllReadyH.nil
  go_simp
  obtain ⟨z71, ez71⟩ : ∃ v_ : Int, v_ = (-x) := ⟨_, rfl⟩
  refine (bigNeg_ok (G := G) (x := x) (H1.out.keep (M.out.2.2.2)) HX.out).mono ?_
  rintro e w5 ⟨a_69, c_70, rfl, hd72, hb⟩
  rw [← ez71] at hd72 ⊢
  have Sz71 : Hid (Sz z71 549755813888) := by show Sz z71 549755813888; rw [ez71]; exact (Sz.neg HX.out)
  have Ez71 := Lib.hid ez71; clear ez71
  replace M := Lib.hid (And.intro hd72 (Goes.go M.out hb))
  clear hb hd72
  (try go_wp2_with fail)
  refine hK.out _ _ (trivial) (fun hH73 => ?_)
  clear hK K hH68
  (try simp only [Act.put, List.setIfInBounds_toArray, List.set_cons_zero, List.set_cons_succ])
  refine wpAnyH_ready (rs := [3]) (by kernel_rfl) (by simp) ?_
  refine AllReadyH.cons at3 (fun K hK => ?_) AllReadyH.nil
  go_simp
  obtain ⟨z76, ez76⟩ : ∃ v_ : Int, v_ = (-y) := ⟨_, rfl⟩
  refine (bigNeg_ok (G := G) (x := y) (H2.out.keep (M.out.2.2.2.2)) HY.out).mono ?_
  rintro e w6 ⟨a_74, c_75, rfl, hd77, hb⟩
  rw [← ez76] at hd77 ⊢
  have Sz76 : Hid (Sz z76 549755813888) := by show Sz z76 549755813888; rw [ez76]; exact (Sz.neg HY.out)
  have Ez76 := Lib.hid ez76; clear ez76
  replace M := Lib.hid (And.intro hd77 (Goes.go M.out hb))
  clear hb hd77
  (try go_wp2_with fail)
  refine hK.out _ _ (trivial) (fun hH78 => ?_)
  clear hK K hH73
  (try simp only [Act.put, List.setIfInBounds_toArray, List.set_cons_zero, List.set_cons_succ])
  refine wpAnyH_ready (rs := [4]) (by kernel_rfl) (by simp) ?_
  refine AllReadyH.cons at4 (fun K hK => ?_) AllReadyH.nil
  obtain ⟨p0_0, q0_0, p0_1, q0_1⟩ := (M.out.2.2.2.2.1).c2
  go_simp
  clear p0_0 q0_0 p0_1 q0_1
  obtain ⟨w7, hv⟩ : ∃ w_ : World, w_ = ((w6.setCell ⟨w.heap.size, 0, none⟩ (.int .i64 (sg z71))).setCell ⟨w.heap.size, 1, none⟩ (.slice a_69 (ln z71) c_70)) := ⟨_, rfl⟩
  rw [← hv]
  have og : w6.grownBy w7 (some w.heap.size) := by rw [hv]; exact (only_setCell (only_setCell (World.grownBy.refl _ _) _) _)
  have hz : w.heap.size ≤ w.heap.size := by exact Nat.le_refl _
  have hk : Bx w7 w.heap.size 24 #[.int .i64 (sg z71), .slice a_69 (ln z71) c_70] := by rw [hv]; exact (((M.out.2.2.2.2.1).set 0 _).set 1 _)
  have hbw : Below w.heap.size w w7 := by rw [hv]; exact (Below.setCell (Below.setCell (M.out.2.2.2.2.2) (by omega) _) (by omega) _)
  replace M := Lib.hid (And.intro ((M.out.1).far (M.out.2.2.2.2.1) (by rfl) (by omega) og) (And.intro ((M.out.2.1).far (M.out.2.2.2.2.1) (by rfl) (by omega) og) (And.intro ((M.out.2.2.1).only og (by omega)) (And.intro ((M.out.2.2.2.1).only og (by omega)) (And.intro hk hbw)))))
  clear hk hbw og hv hz
  refine hK.out _ _ (trivial) (fun hH79 => ?_)
  clear hK K hH78
  (try simp only [Act.put, List.setIfInBounds_toArray, List.set_cons_zero, List.set_cons_succ])
  refine wpAnyH_ready (rs := [5]) (by kernel_rfl) (by simp) ?_
  refine AllReadyH.cons at5 (fun K hK => ?_) AllReadyH.nil
  obtain ⟨p1_0, q1_0, p1_1, q1_1⟩ := (M.out.2.2.2.1).c2
  go_simp
  clear p1_0 q1_0 p1_1 q1_1
  obtain ⟨w8, hv⟩ : ∃ w_ : World, w_ = ((w7.setCell ⟨w.heap.size + 1, 0, none⟩ (.int .i64 (sg z76))).setCell ⟨w.heap.size + 1, 1, none⟩ (.slice a_74 (ln z76) c_75)) := ⟨_, rfl⟩
  rw [← hv]
  have og : w7.grownBy w8 (some (w.heap.size + 1)) := by rw [hv]; exact (only_setCell (only_setCell (World.grownBy.refl _ _) _) _)
  have hz : w.heap.size ≤ w.heap.size + 1 := by omega
  have hk : Bx w8 (w.heap.size + 1) 24 #[.int .i64 (sg z76), .slice a_74 (ln z76) c_75] := by rw [hv]; exact (((M.out.2.2.2.1).set 0 _).set 1 _)
  have hbw : Below w.heap.size w w8 := by rw [hv]; exact (Below.setCell (Below.setCell (M.out.2.2.2.2.2) (by omega) _) (by omega) _)
  replace M := Lib.hid (And.intro ((M.out.1).far (M.out.2.2.2.1) (by rfl) (by omega) og) (And.intro ((M.out.2.1).far (M.out.2.2.2.1) (by rfl) (by omega) og) (And.intro ((M.out.2.2.1).only og (by omega)) (And.intro hk (And.intro ((M.out.2.2.2.2.1).only og (by omega)) hbw)))))
  clear hk hbw og hv hz
  refine hK.out _ _ (trivial) (fun hH80 => ?_)
  clear hK K hH79
  (try simp only [Act.put, List.setIfInBounds_toArray, List.set_cons_zero, List.set_cons_succ])
  refine wpAnyH_done (by kernel_rfl) ?_ _
  clear hH80
  obtain ⟨p0_0, q0_0, p0_1, q0_1⟩ := (M.out.2.2.2.2.1).c2
  obtain ⟨p1_0, q1_0, p1_1, q1_1⟩ := (M.out.2.2.2.1).c2
  go_wp2_with fail
  clear p0_0 q0_0 p0_1 q0_1 p1_0 q1_0 p1_1 q1_1
  refine (bigGcd_is' (G := G) (x := z71) (y := z76) (g := g) (M.out.2.1) (M.out.1) Sz71.out Sz76.out (by rw [Ez71.out, Ez76.out]; exact HG.out)).mono ?_
  rintro e w9 ⟨a_81, c_82, rfl, hd83, hb⟩
  replace M := Lib.hid (And.intro hd83 (Goes.go M.out hb))
  clear hb hd83
  go_upto_region 8 with fail
  obtain ⟨w10, hv⟩ : ∃ w_ : World, w_ = (w9.alloc (.cells #[.int .i64 (sg g), .slice a_81 (ln g) c_82] 24)) := ⟨_, rfl⟩
  rw [← hv]
  have o3 : w.heap.size + 1 + 1 < w9.heap.size := ((M.out.2.2.2.1)).lt
  replace M := Lib.hid (And.intro (hv ▸ bx1 w9 24 #[.int .i64 (sg g), .slice a_81 (ln g) c_82]) (Goes.go M.out (hv ▸ below_alloc _ _ : Below w9.heap.size w9 w10)))
  clear hv
  obtain ⟨p0_0, q0_0, p0_1, q0_1⟩ := (M.out.2.2.2.2.2.2.1).c2
  obtain ⟨p3_0, q3_0, p3_1, q3_1⟩ := (M.out.1).c2
  go_wp2_with fail
  clear p0_0 q0_0 p0_1 q0_1 p3_0 q3_0 p3_1 q3_1
  refine (bigDiv_exact (G := G) (x := z71) (y := g) (q := (nu r)) (M.out.2.2.2.1) (M.out.2.1) Sz71.out HGS.out HG0.out (by rw [Ez71.out]; exact HE1.out)).mono ?_
  rintro e w11 ⟨a_84, c_85, b_86, d_87, rfl, hd88, hd89, hb⟩
  replace M := Lib.hid (And.intro hd88 (And.intro hd89 (Goes.go M.out hb)))
  clear hb hd88 hd89
  go_upto_region 9 with fail
  obtain ⟨w12, hv⟩ : ∃ w_ : World, w_ = ((w11.alloc (.cells #[.int .i64 (sg (nu r)), .slice a_84 (ln (nu r)) c_85] 24)).alloc (.cells #[.int .i64 (sg 0), .slice b_86 (ln 0) d_87] 24)) := ⟨_, rfl⟩
  rw [← hv]
  have o4 : w9.heap.size < w11.heap.size := ((M.out.2.2.1)).lt
  have hbx := bx2 w11 24 24 #[.int .i64 (sg (nu r)), .slice a_84 (ln (nu r)) c_85] #[.int .i64 (sg 0), .slice b_86 (ln 0) d_87]
  rw [← hv] at hbx
  have hbn : Below w11.heap.size w11 w12 := by rw [hv]; exact (Below.alloc (Below.alloc (Below.refl _ _) (by simp <;> omega) _) (by simp <;> omega) _)
  replace M := Lib.hid (And.intro hbx.2 (And.intro hbx.1 (Goes.go M.out hbn)))
  clear hbx hbn
  clear hv
  obtain ⟨p1_0, q1_0, p1_1, q1_1⟩ := (M.out.2.2.2.2.2.2.2.2.2.1).c2
  obtain ⟨p3_0, q3_0, p3_1, q3_1⟩ := (M.out.2.2.2.2.1).c2
  go_wp2_with fail
  clear p1_0 q1_0 p1_1 q1_1 p3_0 q3_0 p3_1 q3_1
  refine (bigDiv_exact (G := G) (x := z76) (y := g) (q := (de r)) (M.out.2.2.2.2.2.2.1) (M.out.2.2.2.2.2.1) Sz76.out HGS.out HG0.out (by rw [Ez76.out]; exact HE2.out)).mono ?_
  rintro e w13 ⟨a_90, c_91, b_92, d_93, rfl, hd94, hd95, hb⟩
  replace M := Lib.hid (And.intro hd94 (And.intro hd95 (Goes.go M.out hb)))
  clear hb hd94 hd95
  go_upto_region 10 with fail
  obtain ⟨w14, hv⟩ : ∃ w_ : World, w_ = ((w13.alloc (.cells #[.int .i64 (sg (de r)), .slice a_90 (ln (de r)) c_91] 24)).alloc (.cells #[.int .i64 (sg 0), .slice b_92 (ln 0) d_93] 24)) := ⟨_, rfl⟩
  rw [← hv]
  have o6 : w11.heap.size + 1 < w13.heap.size := ((M.out.2.2.1)).lt
  have hbx := bx2 w13 24 24 #[.int .i64 (sg (de r)), .slice a_90 (ln (de r)) c_91] #[.int .i64 (sg 0), .slice b_92 (ln 0) d_93]
  rw [← hv] at hbx
  have hbn : Below w13.heap.size w13 w14 := by rw [hv]; exact (Below.alloc (Below.alloc (Below.refl _ _) (by simp <;> omega) _) (by simp <;> omega) _)
  replace M := Lib.hid (And.intro hbx.2 (And.intro hbx.1 (Goes.go M.out hbn)))
  clear hbx hbn
  clear hv
  obtain ⟨p4_0, q4_0, p4_1, q4_1⟩ := (M.out.2.2.2.2.2.1).c2
  obtain ⟨p6_0, q6_0, p6_1, q6_1⟩ := (M.out.2.1).c2
  obtain ⟨p2_0, q2_0, p2_1, q2_1, p2_2, q2_2, p2_3, q2_3⟩ := (M.out.2.2.2.2.2.2.2.2.2.2.2.2.1).c4
  go_wp2_with fail
  clear p4_0 q4_0 p4_1 q4_1 p6_0 q6_0 p6_1 q6_1 p2_0 q2_0 p2_1 q2_1 p2_2 q2_2 p2_3 q2_3
  obtain ⟨w15, hv⟩ : ∃ w_ : World, w_ = ((((w14.setCell ⟨w.heap.size + 1 + 1, 0, none⟩ (.int .i64 (sg (nu r)))).setCell ⟨w.heap.size + 1 + 1, 1, none⟩ (.slice a_84 (ln (nu r)) c_85)).setCell ⟨w.heap.size + 1 + 1, 2, none⟩ (.int .i64 (sg (de r)))).setCell ⟨w.heap.size + 1 + 1, 3, none⟩ (.slice a_90 (ln (de r)) c_91)) := ⟨_, rfl⟩
  rw [← hv]
  have og : w14.grownBy w15 (some (w.heap.size + 1 + 1)) := by rw [hv]; exact (only_setCell (only_setCell (only_setCell (only_setCell (World.grownBy.refl _ _) _) _) _) _)
  have hz : w.heap.size ≤ w.heap.size + 1 + 1 := by omega
  have hk : Bx w15 (w.heap.size + 1 + 1) 26 #[.int .i64 (sg (nu r)), .slice a_84 (ln (nu r)) c_85, .int .i64 (sg (de r)), .slice a_90 (ln (de r)) c_91] := by rw [hv]; exact (((((M.out.2.2.2.2.2.2.2.2.2.2.2.2.1).set 0 _).set 1 _).set 2 _).set 3 _)
  have hbw : Below w.heap.size w w15 := by rw [hv]; exact (Below.setCell (Below.setCell (Below.setCell (Below.setCell (M.out.2.2.2.2.2.2.2.2.2.2.2.2.2.2.2) (by omega) _) (by omega) _) (by omega) _) (by omega) _)
  replace M := Lib.hid (And.intro ((M.out.1).only og (by omega)) (And.intro ((M.out.2.1).only og (by omega)) (And.intro ((M.out.2.2.1).far (M.out.2.2.2.2.2.2.2.2.2.2.2.2.1) (by rfl) (by omega) og) (And.intro ((M.out.2.2.2.1).far (M.out.2.2.2.2.2.2.2.2.2.2.2.2.1) (by rfl) (by omega) og) (And.intro ((M.out.2.2.2.2.1).only og (by omega)) (And.intro ((M.out.2.2.2.2.2.1).only og (by omega)) (And.intro ((M.out.2.2.2.2.2.2.1).far (M.out.2.2.2.2.2.2.2.2.2.2.2.2.1) (by rfl) (by omega) og) (And.intro ((M.out.2.2.2.2.2.2.2.1).far (M.out.2.2.2.2.2.2.2.2.2.2.2.2.1) (by rfl) (by omega) og) (And.intro ((M.out.2.2.2.2.2.2.2.2.1).only og (by omega)) (And.intro ((M.out.2.2.2.2.2.2.2.2.2.1).far (M.out.2.2.2.2.2.2.2.2.2.2.2.2.1) (by rfl) (by omega) og) (And.intro ((M.out.2.2.2.2.2.2.2.2.2.2.1).far (M.out.2.2.2.2.2.2.2.2.2.2.2.2.1) (by rfl) (by omega) og) (And.intro ((M.out.2.2.2.2.2.2.2.2.2.2.2.1).far (M.out.2.2.2.2.2.2.2.2.2.2.2.2.1) (by rfl) (by omega) og) (And.intro hk (And.intro ((M.out.2.2.2.2.2.2.2.2.2.2.2.2.2.1).only og (by omega)) (And.intro ((M.out.2.2.2.2.2.2.2.2.2.2.2.2.2.2.1).only og (by omega)) hbw)))))))))))))))
  clear hk hbw og hv hz
  refine bodyPost_ret (results_box2 rfl _ _ (w.heap.size + 1 + 1) 26 _ _ _ rfl (M.out.2.2.2.2.2.2.2.2.2.2.2.2.1) Try.underlying26 rfl (by kernel_rfl)) rfl ?_
  exact ⟨a_84, c_85, a_90, c_91, rfl, FD.mk (M.out.2.2.2.2.2.2.1) (M.out.2.2.1), (M.out.2.2.2.2.2.2.2.2.2.2.2.2.2.2.2)⟩
theorem new_ok {x y : Int} {a1 a2 : Option Addr} {c1 c2 : Nat} {w : World} (hG : G ≤ w.heap.size) (h1 : BD G w a1 c1 x) (h2 : BD G w a2 c2 y) (hx : Sz x 549755813888) (hy : Sz y 549755813888) (hs : y ≠ 0) :
    Calls Try.prog 45 #[.agg #[.int .i64 (sg x), .slice a1 (ln x) c1], .agg #[.int .i64 (sg y), .slice a2 (ln y) c2]] w fun e w' => ∃ a c b d, e = .returned (.tuple #[.agg #[.int .i64 (sg (nu (Rat.divInt x y))), .slice a (ln (nu (Rat.divInt x y))) c, .int .i64 (sg (de (Rat.divInt x y))), .slice b (ln (de (Rat.divInt x y))) d], .int .i64 0]) ∧ FD G w' a c b d (Rat.divInt x y) ∧ Below w.heap.size w w' := by
  rcases Int.lt_or_gt_of_ne hs with h | h
  · exact new_neg hG h1 h2 hx hy h
  · exact new_pos h1 h2 hx hy h
set_option maxRecDepth 100000 in
set_option maxHeartbeats 4000000 in
theorem fracMul_ok {q r : Rat} {a1 b1 a2 b2 : Option Addr} {c1 d1 c2 d2 : Nat} {w : World} (hG : G ≤ w.heap.size) (h1 : FD G w a1 c1 b1 d1 q) (h2 : FD G w a2 c2 b2 d2 r) (hx : Fz q 137438953472) (hy : Fz r 137438953472)  :
    Calls Try.prog 50 #[.agg #[.int .i64 (sg (nu q)), .slice a1 (ln (nu q)) c1, .int .i64 (sg (de q)), .slice b1 (ln (de q)) d1], .agg #[.int .i64 (sg (nu r)), .slice a2 (ln (nu r)) c2, .int .i64 (sg (de r)), .slice b2 (ln (de r)) d2]] w fun e w' => ∃ a c b d, e = .returned (.tuple #[.agg #[.int .i64 (sg (nu (q * r))), .slice a (ln (nu (q * r))) c, .int .i64 (sg (de (q * r))), .slice b (ln (de (q * r))) d], .int .i64 0]) ∧ FD G w' a c b d (q * r) ∧ Below w.heap.size w w' := by
  have HX := Lib.hid hx; have HY := Lib.hid hy; clear hx hy
  have H1 : Hid (FD G w a1 c1 b1 d1 q) := h1
  have H2 : Hid (FD G w a2 c2 b2 d2 r) := h2
  clear h1 h2
  have M : Hid (Below w.heap.size w w) := Below.refl _ _
  go_enter Try.func50, Try.ntmps50
  go_upto_region 1 with fail
  obtain ⟨w1, hv⟩ : ∃ w_ : World, w_ = (((w.alloc (.cells #[.int .i64 (sg (nu q)), .slice a1 (ln (nu q)) c1, .int .i64 (sg (de q)), .slice b1 (ln (de q)) d1] 26)).alloc (.cells #[.int .i64 (sg (nu r)), .slice a2 (ln (nu r)) c2, .int .i64 (sg (de r)), .slice b2 (ln (de r)) d2] 26)).alloc (.cells #[.int .i64 0, .slice none 0 0, .int .i64 0, .slice none 0 0] 26)) := ⟨_, rfl⟩
  rw [← hv]
  have hbx := bx3 w 26 26 26 #[.int .i64 (sg (nu q)), .slice a1 (ln (nu q)) c1, .int .i64 (sg (de q)), .slice b1 (ln (de q)) d1] #[.int .i64 (sg (nu r)), .slice a2 (ln (nu r)) c2, .int .i64 (sg (de r)), .slice b2 (ln (de r)) d2] #[.int .i64 0, .slice none 0 0, .int .i64 0, .slice none 0 0]
  rw [← hv] at hbx
  have hbn : Below w.heap.size w w1 := by rw [hv]; exact (Below.alloc (Below.alloc (Below.alloc (Below.refl _ _) (by simp <;> omega) _) (by simp <;> omega) _) (by simp <;> omega) _)
  replace M := Lib.hid (And.intro hbx.2.2 (And.intro hbx.2.1 (And.intro hbx.1 (Goes.go M.out hbn))))
  clear hbx hbn
  clear hv
  obtain ⟨p0_0, q0_0, p0_1, q0_1, p0_2, q0_2, p0_3, q0_3⟩ := (M.out.2.2.1).c4
  go_wp2_with fail
  clear p0_0 q0_0 p0_1 q0_1 p0_2 q0_2 p0_3 q0_3
  refine (fracRight_ok (G := G) (q := q) (H1.out.keep (M.out.2.2.2)) (Fz.mono HX.out (by omega))).mono ?_
  rintro e w2 ⟨rfl, hb⟩
  replace M := Lib.hid (Goes.go M.out hb)
  clear hb
  obtain ⟨p1_0, q1_0, p1_1, q1_1, p1_2, q1_2, p1_3, q1_3⟩ := (M.out.2.1).c4
  go_wp2_with fail
  clear p1_0 q1_0 p1_1 q1_1 p1_2 q1_2 p1_3 q1_3
  refine (fracRight_ok (G := G) (q := r) (H2.out.keep (M.out.2.2.2)) (Fz.mono HY.out (by omega))).mono ?_
  rintro e w3 ⟨rfl, hb⟩
  replace M := Lib.hid (Goes.go M.out hb)
  clear hb
  go_wp2_with fail
  obtain ⟨w4, hv⟩ : ∃ w_ : World, w_ = w3.drew := ⟨_, rfl⟩
  replace M := Lib.hid (Goes.go M.out (hv ▸ below_drew _ : Below w3.heap.size w3 w4))
  refine wp_region_held_drew (S := (fun w' => w'.cell? ⟨w.heap.size, 0, none⟩ = some (.int .i64 (sg (nu q))) ∧ w'.cell? ⟨w.heap.size, 1, none⟩ = some (.slice a1 (ln (nu q)) c1) ∧ w'.cell? ⟨w.heap.size, 2, none⟩ = some (.int .i64 (sg (de q))) ∧ w'.cell? ⟨w.heap.size, 3, none⟩ = some (.slice b1 (ln (de q)) d1) ∧ w'.cell? ⟨w.heap.size + 1, 0, none⟩ = some (.int .i64 (sg (nu r))) ∧ w'.cell? ⟨w.heap.size + 1, 1, none⟩ = some (.slice a2 (ln (nu r)) c2) ∧ w'.cell? ⟨w.heap.size + 1, 2, none⟩ = some (.int .i64 (sg (de r))) ∧ w'.cell? ⟨w.heap.size + 1, 3, none⟩ = some (.slice b2 (ln (de r)) d2))) (by kernel_rfl) (by rw [← hv]; exact ⟨(M.out.2.2.1).at.1 0, (M.out.2.2.1).at.1 1, (M.out.2.2.1).at.1 2, (M.out.2.2.1).at.1 3, (M.out.2.1).at.1 0, (M.out.2.1).at.1 1, (M.out.2.1).at.1 2, (M.out.2.1).at.1 3⟩) (fun hH15 => ?_)
  rw [← hv] at hH15 ⊢
  clear hv
  refine tk at0 ?_
  refine tk at1 ?_
  refine tk at2 ?_
  refine tk at3 ?_
  refine tk at5 ?_
  refine tk at6 ?_
  refine tk at7 ?_
  refine tk at8 ?_
  refine wpAnyH_ready (rs := [4]) (by kernel_rfl) (by simp) ?_
  refine AllReadyH.cons at4 (fun K hK => ?_) AllReadyH.nil
  go_simp
  obtain ⟨z18, ez18⟩ : ∃ v_ : Int, v_ = ((nu q) * (nu r)) := ⟨_, rfl⟩
  refine (times_ok (G := G) (x := (nu q)) (y := (nu r)) (H1.out.keep (M.out.2.2.2)).n (H2.out.keep (M.out.2.2.2)).n (Sz.mono HX.out.1 (by omega)) (Sz.mono HY.out.1 (by omega))).mono ?_
  rintro e w5 ⟨a_16, c_17, rfl, hd19, hb⟩
  rw [← ez18] at hd19 ⊢
  have Sz18 : Hid (Sz z18 274877906944) := by show Sz z18 274877906944; rw [ez18]; exact (Sz.mul HX.out.1 HY.out.1)
  have Ez18 := Lib.hid ez18; clear ez18
  replace M := Lib.hid (And.intro hd19 (Goes.go M.out hb))
  clear hb hd19
  (try go_wp2_with fail)
  refine hK.out _ _ (⟨(M.out.2.2.2.1).at.1 0, (M.out.2.2.2.1).at.1 1, (M.out.2.2.2.1).at.1 2, (M.out.2.2.2.1).at.1 3, (M.out.2.2.1).at.1 0, (M.out.2.2.1).at.1 1, (M.out.2.2.1).at.1 2, (M.out.2.2.1).at.1 3⟩) (fun hH20 => ?_)
  clear hK K hH15
  (try simp only [Act.put, List.setIfInBounds_toArray, List.set_cons_zero, List.set_cons_succ])
  refine wpAnyH_ready (rs := [9]) (by kernel_rfl) (by simp) ?_
  refine AllReadyH.cons at9 (fun K hK => ?_) AllReadyH.nil
  go_simp
  obtain ⟨z23, ez23⟩ : ∃ v_ : Int, v_ = ((de q) * (de r)) := ⟨_, rfl⟩
  refine (times_ok (G := G) (x := (de q)) (y := (de r)) (H1.out.keep (M.out.2.2.2.2)).d (H2.out.keep (M.out.2.2.2.2)).d (Sz.mono HX.out.2 (by omega)) (Sz.mono HY.out.2 (by omega))).mono ?_
  rintro e w6 ⟨a_21, c_22, rfl, hd24, hb⟩
  rw [← ez23] at hd24 ⊢
  have Sz23 : Hid (Sz z23 274877906944) := by show Sz z23 274877906944; rw [ez23]; exact (Sz.mul HX.out.2 HY.out.2)
  have Ez23 := Lib.hid ez23; clear ez23
  replace M := Lib.hid (And.intro hd24 (Goes.go M.out hb))
  clear hb hd24
  (try go_wp2_with fail)
  refine hK.out _ _ (⟨(M.out.2.2.2.2.1).at.1 0, (M.out.2.2.2.2.1).at.1 1, (M.out.2.2.2.2.1).at.1 2, (M.out.2.2.2.2.1).at.1 3, (M.out.2.2.2.1).at.1 0, (M.out.2.2.2.1).at.1 1, (M.out.2.2.2.1).at.1 2, (M.out.2.2.2.1).at.1 3⟩) (fun hH25 => ?_)
  clear hK K hH20
  (try simp only [Act.put, List.setIfInBounds_toArray, List.set_cons_zero, List.set_cons_succ])
  refine wpAnyH_ready (rs := [10]) (by kernel_rfl) (by simp) ?_
  refine AllReadyH.cons at10 (fun K hK => ?_) AllReadyH.nil
  go_simp
  obtain ⟨q30, eq30⟩ : ∃ v_ : Rat, v_ = (Rat.divInt z18 z23) := ⟨_, rfl⟩
  refine (new_pos (G := G) (x := z18) (y := z23) (M.out.2.1) (M.out.1) (Sz.mono Sz18.out (by omega)) (Sz.mono Sz23.out (by omega)) (by rw [Ez23.out]; exact Int.mul_pos (de_pos _) (de_pos _))).mono ?_
  rintro e w7 ⟨a_26, c_27, b_28, d_29, rfl, hd31, hb⟩
  rw [← eq30] at hd31 ⊢
  have Eq30 := Lib.hid eq30; clear eq30
  replace M := Lib.hid (And.intro hd31 (Goes.go M.out hb))
  clear hb hd31
  (try go_wp2_with fail)
  refine hK.out _ _ (⟨(M.out.2.2.2.2.2.1).at.1 0, (M.out.2.2.2.2.2.1).at.1 1, (M.out.2.2.2.2.2.1).at.1 2, (M.out.2.2.2.2.2.1).at.1 3, (M.out.2.2.2.2.1).at.1 0, (M.out.2.2.2.2.1).at.1 1, (M.out.2.2.2.2.1).at.1 2, (M.out.2.2.2.2.1).at.1 3⟩) (fun hH32 => ?_)
  clear hK K hH25
  (try simp only [Act.put, List.setIfInBounds_toArray, List.set_cons_zero, List.set_cons_succ])
  refine tk at11 ?_
  refine tk at12 ?_
  refine wpAnyH_ready (rs := [13]) (by kernel_rfl) (by simp) ?_
  refine AllReadyH.cons at13 (fun K hK => ?_) AllReadyH.nil
  obtain ⟨p2_0, q2_0, p2_1, q2_1, p2_2, q2_2, p2_3, q2_3⟩ := (M.out.2.2.2.1).c4
  go_simp
  clear p2_0 q2_0 p2_1 q2_1 p2_2 q2_2 p2_3 q2_3
  obtain ⟨w8, hv⟩ : ∃ w_ : World, w_ = ((((w7.setCell ⟨w.heap.size + 1 + 1, 0, none⟩ (.int .i64 (sg (nu q30)))).setCell ⟨w.heap.size + 1 + 1, 1, none⟩ (.slice a_26 (ln (nu q30)) c_27)).setCell ⟨w.heap.size + 1 + 1, 2, none⟩ (.int .i64 (sg (de q30)))).setCell ⟨w.heap.size + 1 + 1, 3, none⟩ (.slice b_28 (ln (de q30)) d_29)) := ⟨_, rfl⟩
  rw [← hv]
  have og : w7.grownBy w8 (some (w.heap.size + 1 + 1)) := by rw [hv]; exact (only_setCell (only_setCell (only_setCell (only_setCell (World.grownBy.refl _ _) _) _) _) _)
  have hz : w.heap.size ≤ w.heap.size + 1 + 1 := by omega
  have hk : Bx w8 (w.heap.size + 1 + 1) 26 #[.int .i64 (sg (nu q30)), .slice a_26 (ln (nu q30)) c_27, .int .i64 (sg (de q30)), .slice b_28 (ln (de q30)) d_29] := by rw [hv]; exact (((((M.out.2.2.2.1).set 0 _).set 1 _).set 2 _).set 3 _)
  have hbw : Below w.heap.size w w8 := by rw [hv]; exact (Below.setCell (Below.setCell (Below.setCell (Below.setCell (M.out.2.2.2.2.2.2) (by omega) _) (by omega) _) (by omega) _) (by omega) _)
  replace M := Lib.hid (And.intro ((M.out.1).far (M.out.2.2.2.1) (by rfl) (by omega) og) (And.intro ((M.out.2.1).far (M.out.2.2.2.1) (by rfl) (by omega) og) (And.intro ((M.out.2.2.1).far (M.out.2.2.2.1) (by rfl) (by omega) og) (And.intro hk (And.intro ((M.out.2.2.2.2.1).only og (by omega)) (And.intro ((M.out.2.2.2.2.2.1).only og (by omega)) hbw))))))
  clear hk hbw og hv hz
  refine hK.out _ _ (⟨(M.out.2.2.2.2.2.1).at.1 0, (M.out.2.2.2.2.2.1).at.1 1, (M.out.2.2.2.2.2.1).at.1 2, (M.out.2.2.2.2.2.1).at.1 3, (M.out.2.2.2.2.1).at.1 0, (M.out.2.2.2.2.1).at.1 1, (M.out.2.2.2.2.1).at.1 2, (M.out.2.2.2.2.1).at.1 3⟩) (fun hH33 => ?_)
  clear hK K hH32
  (try simp only [Act.put, List.setIfInBounds_toArray, List.set_cons_zero, List.set_cons_succ])
  refine tk at14 ?_
  refine wpAnyH_done (by kernel_rfl) ?_ _
  clear hH33
  go_wp2_with fail
  have HR : q * r = q30 := by rw [Eq30.out, Ez18.out, Ez23.out]; exact (mul_parts q r).symm
  rw [HR]
  refine bodyPost_ret (results_box2 rfl _ _ (w.heap.size + 1 + 1) 26 _ _ _ rfl (M.out.2.2.2.1) Try.underlying26 rfl (by kernel_rfl)) rfl ?_
  exact ⟨a_26, c_27, b_28, d_29, rfl, (M.out.1), (M.out.2.2.2.2.2.2)⟩
set_option maxRecDepth 100000 in
set_option maxHeartbeats 4000000 in
theorem fracDiv_ok {q r : Rat} {a1 b1 a2 b2 : Option Addr} {c1 d1 c2 d2 : Nat} {w : World} (hG : G ≤ w.heap.size) (h1 : FD G w a1 c1 b1 d1 q) (h2 : FD G w a2 c2 b2 d2 r) (hx : Fz q 137438953472) (hy : Fz r 137438953472) (h0 : r ≠ 0) :
    Calls Try.prog 49 #[.agg #[.int .i64 (sg (nu q)), .slice a1 (ln (nu q)) c1, .int .i64 (sg (de q)), .slice b1 (ln (de q)) d1], .agg #[.int .i64 (sg (nu r)), .slice a2 (ln (nu r)) c2, .int .i64 (sg (de r)), .slice b2 (ln (de r)) d2]] w fun e w' => ∃ a c b d, e = .returned (.tuple #[.agg #[.int .i64 (sg (nu (q / r))), .slice a (ln (nu (q / r))) c, .int .i64 (sg (de (q / r))), .slice b (ln (de (q / r))) d], .int .i64 0]) ∧ FD G w' a c b d (q / r) ∧ Below w.heap.size w w' := by
  have hn0 : nu r ≠ 0 := mt nu_zero.1 h0
  have e1 : (sg (nu r) == 0) = false := by rw [sg_zero_iff]; exact decide_eq_false hn0
  have HNZ : Hid (de q * nu r ≠ 0) := by
    show _ ≠ _
    intro h; have := de_pos q
    rcases Int.mul_eq_zero.1 h with h | h
    · omega
    · exact hn0 h
  clear hn0 h0
  have HX := Lib.hid hx; have HY := Lib.hid hy; clear hx hy
  have H1 : Hid (FD G w a1 c1 b1 d1 q) := h1
  have H2 : Hid (FD G w a2 c2 b2 d2 r) := h2
  clear h1 h2
  have M : Hid (Below w.heap.size w w) := Below.refl _ _
  go_enter Try.func49, Try.ntmps49
  go_upto_region 1 with fail
  obtain ⟨w1, hv⟩ : ∃ w_ : World, w_ = (((w.alloc (.cells #[.int .i64 (sg (nu q)), .slice a1 (ln (nu q)) c1, .int .i64 (sg (de q)), .slice b1 (ln (de q)) d1] 26)).alloc (.cells #[.int .i64 (sg (nu r)), .slice a2 (ln (nu r)) c2, .int .i64 (sg (de r)), .slice b2 (ln (de r)) d2] 26)).alloc (.cells #[.int .i64 0, .slice none 0 0, .int .i64 0, .slice none 0 0] 26)) := ⟨_, rfl⟩
  rw [← hv]
  have hbx := bx3 w 26 26 26 #[.int .i64 (sg (nu q)), .slice a1 (ln (nu q)) c1, .int .i64 (sg (de q)), .slice b1 (ln (de q)) d1] #[.int .i64 (sg (nu r)), .slice a2 (ln (nu r)) c2, .int .i64 (sg (de r)), .slice b2 (ln (de r)) d2] #[.int .i64 0, .slice none 0 0, .int .i64 0, .slice none 0 0]
  rw [← hv] at hbx
  have hbn : Below w.heap.size w w1 := by rw [hv]; exact (Below.alloc (Below.alloc (Below.alloc (Below.refl _ _) (by simp <;> omega) _) (by simp <;> omega) _) (by simp <;> omega) _)
  replace M := Lib.hid (And.intro hbx.2.2 (And.intro hbx.2.1 (And.intro hbx.1 (Goes.go M.out hbn))))
  clear hbx hbn
  clear hv
  obtain ⟨p0_0, q0_0, p0_1, q0_1, p0_2, q0_2, p0_3, q0_3⟩ := (M.out.2.2.1).c4
  go_wp2_with fail
  clear p0_0 q0_0 p0_1 q0_1 p0_2 q0_2 p0_3 q0_3
  refine (fracRight_ok (G := G) (q := q) (H1.out.keep (M.out.2.2.2)) (Fz.mono HX.out (by omega))).mono ?_
  rintro e w2 ⟨rfl, hb⟩
  replace M := Lib.hid (Goes.go M.out hb)
  clear hb
  obtain ⟨p1_0, q1_0, p1_1, q1_1, p1_2, q1_2, p1_3, q1_3⟩ := (M.out.2.1).c4
  go_wp2_with fail
  clear p1_0 q1_0 p1_1 q1_1 p1_2 q1_2 p1_3 q1_3
  refine (fracRight_ok (G := G) (q := r) (H2.out.keep (M.out.2.2.2)) (Fz.mono HY.out (by omega))).mono ?_
  rintro e w3 ⟨rfl, hb⟩
  replace M := Lib.hid (Goes.go M.out hb)
  clear hb
  obtain ⟨p1_0, q1_0, p1_1, q1_1, p1_2, q1_2, p1_3, q1_3⟩ := (M.out.2.1).c4
  go_wp2_with fail
  clear p1_0 q1_0 p1_1 q1_1 p1_2 q1_2 p1_3 q1_3
  obtain ⟨w4, hv⟩ : ∃ w_ : World, w_ = w3.drew := ⟨_, rfl⟩
  replace M := Lib.hid (Goes.go M.out (hv ▸ below_drew _ : Below w3.heap.size w3 w4))
  refine wp_region_held_drew (S := (fun w' => w'.cell? ⟨w.heap.size, 0, none⟩ = some (.int .i64 (sg (nu q))) ∧ w'.cell? ⟨w.heap.size, 1, none⟩ = some (.slice a1 (ln (nu q)) c1) ∧ w'.cell? ⟨w.heap.size, 2, none⟩ = some (.int .i64 (sg (de q))) ∧ w'.cell? ⟨w.heap.size, 3, none⟩ = some (.slice b1 (ln (de q)) d1) ∧ w'.cell? ⟨w.heap.size + 1, 0, none⟩ = some (.int .i64 (sg (nu r))) ∧ w'.cell? ⟨w.heap.size + 1, 1, none⟩ = some (.slice a2 (ln (nu r)) c2) ∧ w'.cell? ⟨w.heap.size + 1, 2, none⟩ = some (.int .i64 (sg (de r))) ∧ w'.cell? ⟨w.heap.size + 1, 3, none⟩ = some (.slice b2 (ln (de r)) d2))) (by kernel_rfl) (by rw [← hv]; exact ⟨(M.out.2.2.1).at.1 0, (M.out.2.2.1).at.1 1, (M.out.2.2.1).at.1 2, (M.out.2.2.1).at.1 3, (M.out.2.1).at.1 0, (M.out.2.1).at.1 1, (M.out.2.1).at.1 2, (M.out.2.1).at.1 3⟩) (fun hH15 => ?_)
  rw [← hv] at hH15 ⊢
  clear hv
  refine tk at0 ?_
  refine tk at1 ?_
  refine tk at2 ?_
  refine tk at3 ?_
  refine tk at5 ?_
  refine tk at6 ?_
  refine tk at7 ?_
  refine tk at8 ?_
  refine wpAnyH_ready (rs := [4]) (by kernel_rfl) (by simp) ?_
  refine AllReadyH.cons at4 (fun K hK => ?_) AllReadyH.nil
  go_simp
  obtain ⟨z18, ez18⟩ : ∃ v_ : Int, v_ = ((nu q) * (de r)) := ⟨_, rfl⟩
  refine (times_ok (G := G) (x := (nu q)) (y := (de r)) (H1.out.keep (M.out.2.2.2)).n (H2.out.keep (M.out.2.2.2)).d (Sz.mono HX.out.1 (by omega)) (Sz.mono HY.out.2 (by omega))).mono ?_
  rintro e w5 ⟨a_16, c_17, rfl, hd19, hb⟩
  rw [← ez18] at hd19 ⊢
  have Sz18 : Hid (Sz z18 274877906944) := by show Sz z18 274877906944; rw [ez18]; exact (Sz.mul HX.out.1 HY.out.2)
  have Ez18 := Lib.hid ez18; clear ez18
  replace M := Lib.hid (And.intro hd19 (Goes.go M.out hb))
  clear hb hd19
  (try go_wp2_with fail)
  refine hK.out _ _ (⟨(M.out.2.2.2.1).at.1 0, (M.out.2.2.2.1).at.1 1, (M.out.2.2.2.1).at.1 2, (M.out.2.2.2.1).at.1 3, (M.out.2.2.1).at.1 0, (M.out.2.2.1).at.1 1, (M.out.2.2.1).at.1 2, (M.out.2.2.1).at.1 3⟩) (fun hH20 => ?_)
  clear hK K hH15
  (try simp only [Act.put, List.setIfInBounds_toArray, List.set_cons_zero, List.set_cons_succ])
  refine wpAnyH_ready (rs := [9]) (by kernel_rfl) (by simp) ?_
  refine AllReadyH.cons at9 (fun K hK => ?_) AllReadyH.nil
  go_simp
  obtain ⟨z23, ez23⟩ : ∃ v_ : Int, v_ = ((de q) * (nu r)) := ⟨_, rfl⟩
  refine (times_ok (G := G) (x := (de q)) (y := (nu r)) (H1.out.keep (M.out.2.2.2.2)).d (H2.out.keep (M.out.2.2.2.2)).n (Sz.mono HX.out.2 (by omega)) (Sz.mono HY.out.1 (by omega))).mono ?_
  rintro e w6 ⟨a_21, c_22, rfl, hd24, hb⟩
  rw [← ez23] at hd24 ⊢
  have Sz23 : Hid (Sz z23 274877906944) := by show Sz z23 274877906944; rw [ez23]; exact (Sz.mul HX.out.2 HY.out.1)
  have Ez23 := Lib.hid ez23; clear ez23
  replace M := Lib.hid (And.intro hd24 (Goes.go M.out hb))
  clear hb hd24
  (try go_wp2_with fail)
  refine hK.out _ _ (⟨(M.out.2.2.2.2.1).at.1 0, (M.out.2.2.2.2.1).at.1 1, (M.out.2.2.2.2.1).at.1 2, (M.out.2.2.2.2.1).at.1 3, (M.out.2.2.2.1).at.1 0, (M.out.2.2.2.1).at.1 1, (M.out.2.2.2.1).at.1 2, (M.out.2.2.2.1).at.1 3⟩) (fun hH25 => ?_)
  clear hK K hH20
  (try simp only [Act.put, List.setIfInBounds_toArray, List.set_cons_zero, List.set_cons_succ])
  refine wpAnyH_ready (rs := [10]) (by kernel_rfl) (by simp) ?_
  refine AllReadyH.cons at10 (fun K hK => ?_) AllReadyH.nil
  go_simp
  obtain ⟨q30, eq30⟩ : ∃ v_ : Rat, v_ = (Rat.divInt z18 z23) := ⟨_, rfl⟩
  refine (new_ok (G := G) (x := z18) (y := z23) (Nat.le_trans hG (M.out.2.2.2.2.2).size) (M.out.2.1) (M.out.1) (Sz.mono Sz18.out (by omega)) (Sz.mono Sz23.out (by omega)) (by rw [Ez23.out]; exact HNZ.out)).mono ?_
  rintro e w7 ⟨a_26, c_27, b_28, d_29, rfl, hd31, hb⟩
  rw [← eq30] at hd31 ⊢
  have Eq30 := Lib.hid eq30; clear eq30
  replace M := Lib.hid (And.intro hd31 (Goes.go M.out hb))
  clear hb hd31
  (try go_wp2_with fail)
  refine hK.out _ _ (⟨(M.out.2.2.2.2.2.1).at.1 0, (M.out.2.2.2.2.2.1).at.1 1, (M.out.2.2.2.2.2.1).at.1 2, (M.out.2.2.2.2.2.1).at.1 3, (M.out.2.2.2.2.1).at.1 0, (M.out.2.2.2.2.1).at.1 1, (M.out.2.2.2.2.1).at.1 2, (M.out.2.2.2.2.1).at.1 3⟩) (fun hH32 => ?_)
  clear hK K hH25
  (try simp only [Act.put, List.setIfInBounds_toArray, List.set_cons_zero, List.set_cons_succ])
  refine tk at11 ?_
  refine tk at12 ?_
  refine wpAnyH_ready (rs := [13]) (by kernel_rfl) (by simp) ?_
  refine AllReadyH.cons at13 (fun K hK => ?_) AllReadyH.nil
  obtain ⟨p2_0, q2_0, p2_1, q2_1, p2_2, q2_2, p2_3, q2_3⟩ := (M.out.2.2.2.1).c4
  go_simp
  clear p2_0 q2_0 p2_1 q2_1 p2_2 q2_2 p2_3 q2_3
  obtain ⟨w8, hv⟩ : ∃ w_ : World, w_ = ((((w7.setCell ⟨w.heap.size + 1 + 1, 0, none⟩ (.int .i64 (sg (nu q30)))).setCell ⟨w.heap.size + 1 + 1, 1, none⟩ (.slice a_26 (ln (nu q30)) c_27)).setCell ⟨w.heap.size + 1 + 1, 2, none⟩ (.int .i64 (sg (de q30)))).setCell ⟨w.heap.size + 1 + 1, 3, none⟩ (.slice b_28 (ln (de q30)) d_29)) := ⟨_, rfl⟩
  rw [← hv]
  have og : w7.grownBy w8 (some (w.heap.size + 1 + 1)) := by rw [hv]; exact (only_setCell (only_setCell (only_setCell (only_setCell (World.grownBy.refl _ _) _) _) _) _)
  have hz : w.heap.size ≤ w.heap.size + 1 + 1 := by omega
  have hk : Bx w8 (w.heap.size + 1 + 1) 26 #[.int .i64 (sg (nu q30)), .slice a_26 (ln (nu q30)) c_27, .int .i64 (sg (de q30)), .slice b_28 (ln (de q30)) d_29] := by rw [hv]; exact (((((M.out.2.2.2.1).set 0 _).set 1 _).set 2 _).set 3 _)
  have hbw : Below w.heap.size w w8 := by rw [hv]; exact (Below.setCell (Below.setCell (Below.setCell (Below.setCell (M.out.2.2.2.2.2.2) (by omega) _) (by omega) _) (by omega) _) (by omega) _)
  replace M := Lib.hid (And.intro ((M.out.1).far (M.out.2.2.2.1) (by rfl) (by omega) og) (And.intro ((M.out.2.1).far (M.out.2.2.2.1) (by rfl) (by omega) og) (And.intro ((M.out.2.2.1).far (M.out.2.2.2.1) (by rfl) (by omega) og) (And.intro hk (And.intro ((M.out.2.2.2.2.1).only og (by omega)) (And.intro ((M.out.2.2.2.2.2.1).only og (by omega)) hbw))))))
  clear hk hbw og hv hz
  refine hK.out _ _ (⟨(M.out.2.2.2.2.2.1).at.1 0, (M.out.2.2.2.2.2.1).at.1 1, (M.out.2.2.2.2.2.1).at.1 2, (M.out.2.2.2.2.2.1).at.1 3, (M.out.2.2.2.2.1).at.1 0, (M.out.2.2.2.2.1).at.1 1, (M.out.2.2.2.2.1).at.1 2, (M.out.2.2.2.2.1).at.1 3⟩) (fun hH33 => ?_)
  clear hK K hH32
  (try simp only [Act.put, List.setIfInBounds_toArray, List.set_cons_zero, List.set_cons_succ])
  refine tk at14 ?_
  refine wpAnyH_done (by kernel_rfl) ?_ _
  clear hH33
  go_wp2_with fail
  have HR : q / r = q30 := by rw [Eq30.out, Ez18.out, Ez23.out]; exact div_parts.symm
  rw [HR]
  refine bodyPost_ret (results_box2 rfl _ _ (w.heap.size + 1 + 1) 26 _ _ _ rfl (M.out.2.2.2.1) Try.underlying26 rfl (by kernel_rfl)) rfl ?_
  exact ⟨a_26, c_27, b_28, d_29, rfl, (M.out.1), (M.out.2.2.2.2.2.2)⟩
set_option maxRecDepth 100000 in
set_option maxHeartbeats 4000000 in
theorem fracDiv_zero {q r : Rat} {a1 b1 a2 b2 : Option Addr} {c1 d1 c2 d2 : Nat} {w : World} (_hG : G ≤ w.heap.size) (h1 : FD G w a1 c1 b1 d1 q) (h2 : FD G w a2 c2 b2 d2 r) (hx : Fz q 137438953472) (hy : Fz r 137438953472) (h0 : r = 0) :
    Calls Try.prog 49 #[.agg #[.int .i64 (sg (nu q)), .slice a1 (ln (nu q)) c1, .int .i64 (sg (de q)), .slice b1 (ln (de q)) d1], .agg #[.int .i64 (sg (nu r)), .slice a2 (ln (nu r)) c2, .int .i64 (sg (de r)), .slice b2 (ln (de r)) d2]] w fun e w' => e = .returned (.tuple #[.agg #[.int .i64 0, .slice none 0 0, .int .i64 0, .slice none 0 0], .int .i64 15]) ∧ Below w.heap.size w w' := by
  have e1 : (sg (nu r) == 0) = true := by rw [h0]; rfl
  clear h0
  have HX := Lib.hid hx; have HY := Lib.hid hy; clear hx hy
  have H1 : Hid (FD G w a1 c1 b1 d1 q) := h1
  have H2 : Hid (FD G w a2 c2 b2 d2 r) := h2
  clear h1 h2
  have M : Hid (Below w.heap.size w w) := Below.refl _ _
  go_enter Try.func49, Try.ntmps49
  go_upto_region 1 with fail
  obtain ⟨w1, hv⟩ : ∃ w_ : World, w_ = (((w.alloc (.cells #[.int .i64 (sg (nu q)), .slice a1 (ln (nu q)) c1, .int .i64 (sg (de q)), .slice b1 (ln (de q)) d1] 26)).alloc (.cells #[.int .i64 (sg (nu r)), .slice a2 (ln (nu r)) c2, .int .i64 (sg (de r)), .slice b2 (ln (de r)) d2] 26)).alloc (.cells #[.int .i64 0, .slice none 0 0, .int .i64 0, .slice none 0 0] 26)) := ⟨_, rfl⟩
  rw [← hv]
  have hbx := bx3 w 26 26 26 #[.int .i64 (sg (nu q)), .slice a1 (ln (nu q)) c1, .int .i64 (sg (de q)), .slice b1 (ln (de q)) d1] #[.int .i64 (sg (nu r)), .slice a2 (ln (nu r)) c2, .int .i64 (sg (de r)), .slice b2 (ln (de r)) d2] #[.int .i64 0, .slice none 0 0, .int .i64 0, .slice none 0 0]
  rw [← hv] at hbx
  have hbn : Below w.heap.size w w1 := by rw [hv]; exact (Below.alloc (Below.alloc (Below.alloc (Below.refl _ _) (by simp <;> omega) _) (by simp <;> omega) _) (by simp <;> omega) _)
  replace M := Lib.hid (And.intro hbx.2.2 (And.intro hbx.2.1 (And.intro hbx.1 (Goes.go M.out hbn))))
  clear hbx hbn
  clear hv
  obtain ⟨p0_0, q0_0, p0_1, q0_1, p0_2, q0_2, p0_3, q0_3⟩ := (M.out.2.2.1).c4
  go_wp2_with fail
  clear p0_0 q0_0 p0_1 q0_1 p0_2 q0_2 p0_3 q0_3
  refine (fracRight_ok (G := G) (q := q) (H1.out.keep (M.out.2.2.2)) (Fz.mono HX.out (by omega))).mono ?_
  rintro e w2 ⟨rfl, hb⟩
  replace M := Lib.hid (Goes.go M.out hb)
  clear hb
  obtain ⟨p1_0, q1_0, p1_1, q1_1, p1_2, q1_2, p1_3, q1_3⟩ := (M.out.2.1).c4
  go_wp2_with fail
  clear p1_0 q1_0 p1_1 q1_1 p1_2 q1_2 p1_3 q1_3
  refine (fracRight_ok (G := G) (q := r) (H2.out.keep (M.out.2.2.2)) (Fz.mono HY.out (by omega))).mono ?_
  rintro e w3 ⟨rfl, hb⟩
  replace M := Lib.hid (Goes.go M.out hb)
  clear hb
  obtain ⟨p1_0, q1_0, p1_1, q1_1, p1_2, q1_2, p1_3, q1_3⟩ := (M.out.2.1).c4
  obtain ⟨p2_0, q2_0, p2_1, q2_1, p2_2, q2_2, p2_3, q2_3⟩ := (M.out.1).c4
  go_wp2_with fail
  clear p1_0 q1_0 p1_1 q1_1 p1_2 q1_2 p1_3 q1_3 p2_0 q2_0 p2_1 q2_1 p2_2 q2_2 p2_3 q2_3
  obtain ⟨w4, hv⟩ : ∃ w_ : World, w_ = ((((w3.setCell ⟨w.heap.size + 1 + 1, 0, none⟩ (.int .i64 0)).setCell ⟨w.heap.size + 1 + 1, 1, none⟩ (.slice none 0 0)).setCell ⟨w.heap.size + 1 + 1, 2, none⟩ (.int .i64 0)).setCell ⟨w.heap.size + 1 + 1, 3, none⟩ (.slice none 0 0)) := ⟨_, rfl⟩
  rw [← hv]
  have og : w3.grownBy w4 (some (w.heap.size + 1 + 1)) := by rw [hv]; exact (only_setCell (only_setCell (only_setCell (only_setCell (World.grownBy.refl _ _) _) _) _) _)
  have hz : w.heap.size ≤ w.heap.size + 1 + 1 := by omega
  have hk : Bx w4 (w.heap.size + 1 + 1) 26 #[.int .i64 0, .slice none 0 0, .int .i64 0, .slice none 0 0] := by rw [hv]; exact (((((M.out.1).set 0 _).set 1 _).set 2 _).set 3 _)
  have hbw : Below w.heap.size w w4 := by rw [hv]; exact (Below.setCell (Below.setCell (Below.setCell (Below.setCell (M.out.2.2.2) (by omega) _) (by omega) _) (by omega) _) (by omega) _)
  replace M := Lib.hid (And.intro hk (And.intro ((M.out.2.1).only og (by omega)) (And.intro ((M.out.2.2.1).only og (by omega)) hbw)))
  clear hk hbw og hv hz
  refine bodyPost_ret (results_box2 rfl _ _ (w.heap.size + 1 + 1) 26 _ _ _ rfl (M.out.1) Try.underlying26 rfl (by kernel_rfl)) rfl ?_
  exact ⟨rfl, (M.out.2.2.2)⟩
set_option maxRecDepth 100000 in
set_option maxHeartbeats 4000000 in
theorem fracNeg_ok {q : Rat} {a1 b1 : Option Addr} {c1 d1 : Nat} {w : World} (hG : G ≤ w.heap.size) (h1 : FD G w a1 c1 b1 d1 q) (hx : Fz q 137438953472)  :
    Calls Try.prog 40 #[.agg #[.int .i64 (sg (nu q)), .slice a1 (ln (nu q)) c1, .int .i64 (sg (de q)), .slice b1 (ln (de q)) d1]] w fun e w' => ∃ a c b d, e = .returned (.agg #[.int .i64 (sg (nu (-q))), .slice a (ln (nu (-q))) c, .int .i64 (sg (de (-q))), .slice b (ln (de (-q))) d]) ∧ FD G w' a c b d (-q) ∧ Below w.heap.size w w' := by
  have HX := Lib.hid hx; clear hx
  have H1 : Hid (FD G w a1 c1 b1 d1 q) := h1
  clear h1
  have M : Hid (Below w.heap.size w w) := Below.refl _ _
  go_enter Try.func40, Try.ntmps40
  go_upto_region 1 with fail
  obtain ⟨w1, hv⟩ : ∃ w_ : World, w_ = ((w.alloc (.cells #[.int .i64 (sg (nu q)), .slice a1 (ln (nu q)) c1, .int .i64 (sg (de q)), .slice b1 (ln (de q)) d1] 26)).alloc (.cells #[.int .i64 0, .slice none 0 0, .int .i64 0, .slice none 0 0] 26)) := ⟨_, rfl⟩
  rw [← hv]
  have hbx := bx2 w 26 26 #[.int .i64 (sg (nu q)), .slice a1 (ln (nu q)) c1, .int .i64 (sg (de q)), .slice b1 (ln (de q)) d1] #[.int .i64 0, .slice none 0 0, .int .i64 0, .slice none 0 0]
  rw [← hv] at hbx
  have hbn : Below w.heap.size w w1 := by rw [hv]; exact (Below.alloc (Below.alloc (Below.refl _ _) (by simp <;> omega) _) (by simp <;> omega) _)
  replace M := Lib.hid (And.intro hbx.2 (And.intro hbx.1 (Goes.go M.out hbn)))
  clear hbx hbn
  clear hv
  obtain ⟨p0_0, q0_0, p0_1, q0_1, p0_2, q0_2, p0_3, q0_3⟩ := (M.out.2.1).c4
  go_wp2_with fail
  clear p0_0 q0_0 p0_1 q0_1 p0_2 q0_2 p0_3 q0_3
  refine (fracRight_ok (G := G) (q := q) (H1.out.keep (M.out.2.2)) (Fz.mono HX.out (by omega))).mono ?_
  rintro e w2 ⟨rfl, hb⟩
  replace M := Lib.hid (Goes.go M.out hb)
  clear hb
  go_wp2_with fail
  obtain ⟨w3, hv⟩ : ∃ w_ : World, w_ = w2.drew := ⟨_, rfl⟩
  replace M := Lib.hid (Goes.go M.out (hv ▸ below_drew _ : Below w2.heap.size w2 w3))
  refine wp_region_held_drew (S := (fun w' => w'.cell? ⟨w.heap.size, 0, none⟩ = some (.int .i64 (sg (nu q))) ∧ w'.cell? ⟨w.heap.size, 1, none⟩ = some (.slice a1 (ln (nu q)) c1) ∧ w'.cell? ⟨w.heap.size, 2, none⟩ = some (.int .i64 (sg (de q))) ∧ w'.cell? ⟨w.heap.size, 3, none⟩ = some (.slice b1 (ln (de q)) d1))) (by kernel_rfl) (by rw [← hv]; exact ⟨(M.out.2.1).at.1 0, (M.out.2.1).at.1 1, (M.out.2.1).at.1 2, (M.out.2.1).at.1 3⟩) (fun hH8 => ?_)
  rw [← hv] at hH8 ⊢
  clear hv
  refine tk at0 ?_
  refine tk at1 ?_
  refine tk at3 ?_
  refine tk at4 ?_
  refine wpAnyH_ready (rs := [2]) (by kernel_rfl) (by simp) ?_
  refine AllReadyH.cons at2 (fun K hK => ?_) AllReadyH.nil
  go_simp
  obtain ⟨z11, ez11⟩ : ∃ v_ : Int, v_ = (-(nu q)) := ⟨_, rfl⟩
  refine (bigNeg_ok (G := G) (x := (nu q)) (H1.out.keep (M.out.2.2)).n (Sz.mono HX.out.1 (by omega))).mono ?_
  rintro e w4 ⟨a_9, c_10, rfl, hd12, hb⟩
  rw [← ez11] at hd12 ⊢
  have Sz11 : Hid (Sz z11 137438953472) := by show Sz z11 137438953472; rw [ez11]; exact (Sz.neg HX.out.1)
  have Ez11 := Lib.hid ez11; clear ez11
  replace M := Lib.hid (And.intro hd12 (Goes.go M.out hb))
  clear hb hd12
  (try go_wp2_with fail)
  refine hK.out _ _ (⟨(M.out.2.2.1).at.1 0, (M.out.2.2.1).at.1 1, (M.out.2.2.1).at.1 2, (M.out.2.2.1).at.1 3⟩) (fun hH13 => ?_)
  clear hK K hH8
  (try simp only [Act.put, List.setIfInBounds_toArray, List.set_cons_zero, List.set_cons_succ])
  refine wpAnyH_ready (rs := [5]) (by kernel_rfl) (by simp) ?_
  refine AllReadyH.cons at5 (fun K hK => ?_) AllReadyH.nil
  go_simp
  refine (slim_ok (G := G) (x := (de q)) (H1.out.keep (M.out.2.2.2)).d (Sz.mono HX.out.2 (by omega))).mono ?_
  rintro e w5 ⟨a_14, c_15, rfl, hd16, hb⟩
  replace M := Lib.hid (And.intro hd16 (Goes.go M.out hb))
  clear hb hd16
  (try go_wp2_with fail)
  refine hK.out _ _ (⟨(M.out.2.2.2.1).at.1 0, (M.out.2.2.2.1).at.1 1, (M.out.2.2.2.1).at.1 2, (M.out.2.2.2.1).at.1 3⟩) (fun hH17 => ?_)
  clear hK K hH13
  (try simp only [Act.put, List.setIfInBounds_toArray, List.set_cons_zero, List.set_cons_succ])
  refine tk at6 ?_
  refine wpAnyH_ready (rs := [7]) (by kernel_rfl) (by simp) ?_
  refine AllReadyH.cons at7 (fun K hK => ?_) AllReadyH.nil
  obtain ⟨p1_0, q1_0, p1_1, q1_1, p1_2, q1_2, p1_3, q1_3⟩ := (M.out.2.2.1).c4
  go_simp
  clear p1_0 q1_0 p1_1 q1_1 p1_2 q1_2 p1_3 q1_3
  obtain ⟨w6, hv⟩ : ∃ w_ : World, w_ = ((((w5.setCell ⟨w.heap.size + 1, 0, none⟩ (.int .i64 (sg z11))).setCell ⟨w.heap.size + 1, 1, none⟩ (.slice a_9 (ln z11) c_10)).setCell ⟨w.heap.size + 1, 2, none⟩ (.int .i64 (sg (de q)))).setCell ⟨w.heap.size + 1, 3, none⟩ (.slice a_14 (ln (de q)) c_15)) := ⟨_, rfl⟩
  rw [← hv]
  have og : w5.grownBy w6 (some (w.heap.size + 1)) := by rw [hv]; exact (only_setCell (only_setCell (only_setCell (only_setCell (World.grownBy.refl _ _) _) _) _) _)
  have hz : w.heap.size ≤ w.heap.size + 1 := by omega
  have hk : Bx w6 (w.heap.size + 1) 26 #[.int .i64 (sg z11), .slice a_9 (ln z11) c_10, .int .i64 (sg (de q)), .slice a_14 (ln (de q)) c_15] := by rw [hv]; exact (((((M.out.2.2.1).set 0 _).set 1 _).set 2 _).set 3 _)
  have hbw : Below w.heap.size w w6 := by rw [hv]; exact (Below.setCell (Below.setCell (Below.setCell (Below.setCell (M.out.2.2.2.2) (by omega) _) (by omega) _) (by omega) _) (by omega) _)
  replace M := Lib.hid (And.intro ((M.out.1).far (M.out.2.2.1) (by rfl) (by omega) og) (And.intro ((M.out.2.1).far (M.out.2.2.1) (by rfl) (by omega) og) (And.intro hk (And.intro ((M.out.2.2.2.1).only og (by omega)) hbw))))
  clear hk hbw og hv hz
  refine hK.out _ _ (⟨(M.out.2.2.2.1).at.1 0, (M.out.2.2.2.1).at.1 1, (M.out.2.2.2.1).at.1 2, (M.out.2.2.2.1).at.1 3⟩) (fun hH18 => ?_)
  clear hK K hH17
  (try simp only [Act.put, List.setIfInBounds_toArray, List.set_cons_zero, List.set_cons_succ])
  refine wpAnyH_done (by kernel_rfl) ?_ _
  clear hH18
  go_wp2_with fail
  have HN : nu (-q) = z11 := by rw [Ez11.out, nu_neg]
  have HD : de (-q) = de q := de_neg q
  rw [HN, HD]
  refine bodyPost_ret (results_box1 rfl _ _ (w.heap.size + 1) 26 _ _ _ rfl (M.out.2.2.1) Try.underlying26 rfl (by kernel_rfl)) rfl ?_
  exact ⟨a_9, c_10, a_14, c_15, rfl, FD.mk (by rw [HN]; exact (M.out.2.1)) (by rw [HD]; exact (M.out.1)), (M.out.2.2.2.2)⟩
theorem either_is {q r : Rat} {a1 b1 a2 b2 : Option Addr} {c1 d1 c2 d2 : Nat} {w : World} (h1 : FD G w a1 c1 b1 d1 q) (h2 : FD G w a2 c2 b2 d2 r) (hx : Fz q 137438953472) (hy : Fz r 137438953472) {s : Int} (hs : s = 1 ∨ s = -1) {m : Rat} (hm : pick q r s = m) :
    Calls Try.prog 73 #[.agg #[.int .i64 (sg (nu q)), .slice a1 (ln (nu q)) c1, .int .i64 (sg (de q)), .slice b1 (ln (de q)) d1], .agg #[.int .i64 (sg (nu r)), .slice a2 (ln (nu r)) c2, .int .i64 (sg (de r)), .slice b2 (ln (de r)) d2], .int .i64 s] w fun e w' => ∃ a c b d, e = .returned (.tuple #[.agg #[.int .i64 (sg (nu m)), .slice a (ln (nu m)) c, .int .i64 (sg (de m)), .slice b (ln (de m)) d], .int .i64 0]) ∧ FD G w' a c b d m ∧ Below w.heap.size w w' := by
  subst hm; exact either_ok h1 h2 hx hy hs
set_option maxRecDepth 100000 in
set_option maxHeartbeats 4000000 in
theorem fracMin_is {q r m : Rat} {a1 b1 a2 b2 : Option Addr} {c1 d1 c2 d2 : Nat} {w : World} (hG : G ≤ w.heap.size) (h1 : FD G w a1 c1 b1 d1 q) (h2 : FD G w a2 c2 b2 d2 r) (hx : Fz q 137438953472) (hy : Fz r 137438953472) (hm : pick q r (-1) = m) :
    Calls Try.prog 51 #[.agg #[.int .i64 (sg (nu q)), .slice a1 (ln (nu q)) c1, .int .i64 (sg (de q)), .slice b1 (ln (de q)) d1], .agg #[.int .i64 (sg (nu r)), .slice a2 (ln (nu r)) c2, .int .i64 (sg (de r)), .slice b2 (ln (de r)) d2]] w fun e w' => ∃ a c b d, e = .returned (.tuple #[.agg #[.int .i64 (sg (nu m)), .slice a (ln (nu m)) c, .int .i64 (sg (de m)), .slice b (ln (de m)) d], .int .i64 0]) ∧ FD G w' a c b d m ∧ Below w.heap.size w w' := by
  have HM := Lib.hid hm; clear hm
  have HX := Lib.hid hx; have HY := Lib.hid hy; clear hx hy
  have H1 : Hid (FD G w a1 c1 b1 d1 q) := h1
  have H2 : Hid (FD G w a2 c2 b2 d2 r) := h2
  clear h1 h2
  have M : Hid (Below w.heap.size w w) := Below.refl _ _
  go_enter Try.func51, Try.ntmps51
  go_upto_region 1 with fail
  obtain ⟨w1, hv⟩ : ∃ w_ : World, w_ = (((w.alloc (.cells #[.int .i64 (sg (nu q)), .slice a1 (ln (nu q)) c1, .int .i64 (sg (de q)), .slice b1 (ln (de q)) d1] 26)).alloc (.cells #[.int .i64 (sg (nu r)), .slice a2 (ln (nu r)) c2, .int .i64 (sg (de r)), .slice b2 (ln (de r)) d2] 26)).alloc (.cells #[.int .i64 0, .slice none 0 0, .int .i64 0, .slice none 0 0] 26)) := ⟨_, rfl⟩
  rw [← hv]
  have hbx := bx3 w 26 26 26 #[.int .i64 (sg (nu q)), .slice a1 (ln (nu q)) c1, .int .i64 (sg (de q)), .slice b1 (ln (de q)) d1] #[.int .i64 (sg (nu r)), .slice a2 (ln (nu r)) c2, .int .i64 (sg (de r)), .slice b2 (ln (de r)) d2] #[.int .i64 0, .slice none 0 0, .int .i64 0, .slice none 0 0]
  rw [← hv] at hbx
  have hbn : Below w.heap.size w w1 := by rw [hv]; exact (Below.alloc (Below.alloc (Below.alloc (Below.refl _ _) (by simp <;> omega) _) (by simp <;> omega) _) (by simp <;> omega) _)
  replace M := Lib.hid (And.intro hbx.2.2 (And.intro hbx.2.1 (And.intro hbx.1 (Goes.go M.out hbn))))
  clear hbx hbn
  clear hv
  obtain ⟨p0_0, q0_0, p0_1, q0_1, p0_2, q0_2, p0_3, q0_3⟩ := (M.out.2.2.1).c4
  obtain ⟨p1_0, q1_0, p1_1, q1_1, p1_2, q1_2, p1_3, q1_3⟩ := (M.out.2.1).c4
  go_wp2_with fail
  clear p0_0 q0_0 p0_1 q0_1 p0_2 q0_2 p0_3 q0_3 p1_0 q1_0 p1_1 q1_1 p1_2 q1_2 p1_3 q1_3
  refine (either_is (G := G) (q := q) (r := r) (s := (-1)) (m := m) (H1.out.keep (M.out.2.2.2)) (H2.out.keep (M.out.2.2.2)) HX.out HY.out (by decide) HM.out).mono ?_
  rintro e w2 ⟨a_1, c_2, b_3, d_4, rfl, hd5, hb⟩
  replace M := Lib.hid (And.intro hd5 (Goes.go M.out hb))
  clear hb hd5
  obtain ⟨p2_0, q2_0, p2_1, q2_1, p2_2, q2_2, p2_3, q2_3⟩ := (M.out.2.1).c4
  go_wp2_with fail
  clear p2_0 q2_0 p2_1 q2_1 p2_2 q2_2 p2_3 q2_3
  obtain ⟨w3, hv⟩ : ∃ w_ : World, w_ = ((((w2.setCell ⟨w.heap.size + 1 + 1, 0, none⟩ (.int .i64 (sg (nu m)))).setCell ⟨w.heap.size + 1 + 1, 1, none⟩ (.slice a_1 (ln (nu m)) c_2)).setCell ⟨w.heap.size + 1 + 1, 2, none⟩ (.int .i64 (sg (de m)))).setCell ⟨w.heap.size + 1 + 1, 3, none⟩ (.slice b_3 (ln (de m)) d_4)) := ⟨_, rfl⟩
  rw [← hv]
  have og : w2.grownBy w3 (some (w.heap.size + 1 + 1)) := by rw [hv]; exact (only_setCell (only_setCell (only_setCell (only_setCell (World.grownBy.refl _ _) _) _) _) _)
  have hz : w.heap.size ≤ w.heap.size + 1 + 1 := by omega
  have hk : Bx w3 (w.heap.size + 1 + 1) 26 #[.int .i64 (sg (nu m)), .slice a_1 (ln (nu m)) c_2, .int .i64 (sg (de m)), .slice b_3 (ln (de m)) d_4] := by rw [hv]; exact (((((M.out.2.1).set 0 _).set 1 _).set 2 _).set 3 _)
  have hbw : Below w.heap.size w w3 := by rw [hv]; exact (Below.setCell (Below.setCell (Below.setCell (Below.setCell (M.out.2.2.2.2) (by omega) _) (by omega) _) (by omega) _) (by omega) _)
  replace M := Lib.hid (And.intro ((M.out.1).far (M.out.2.1) (by rfl) (by omega) og) (And.intro hk (And.intro ((M.out.2.2.1).only og (by omega)) (And.intro ((M.out.2.2.2.1).only og (by omega)) hbw))))
  clear hk hbw og hv hz
  refine bodyPost_ret (results_box2 rfl _ _ (w.heap.size + 1 + 1) 26 _ _ _ rfl (M.out.2.1) Try.underlying26 rfl (by kernel_rfl)) rfl ?_
  exact ⟨a_1, c_2, b_3, d_4, rfl, (M.out.1), (M.out.2.2.2.2)⟩
set_option maxRecDepth 100000 in
set_option maxHeartbeats 4000000 in
theorem fracMax_is {q r m : Rat} {a1 b1 a2 b2 : Option Addr} {c1 d1 c2 d2 : Nat} {w : World} (hG : G ≤ w.heap.size) (h1 : FD G w a1 c1 b1 d1 q) (h2 : FD G w a2 c2 b2 d2 r) (hx : Fz q 137438953472) (hy : Fz r 137438953472) (hm : pick q r 1 = m) :
    Calls Try.prog 52 #[.agg #[.int .i64 (sg (nu q)), .slice a1 (ln (nu q)) c1, .int .i64 (sg (de q)), .slice b1 (ln (de q)) d1], .agg #[.int .i64 (sg (nu r)), .slice a2 (ln (nu r)) c2, .int .i64 (sg (de r)), .slice b2 (ln (de r)) d2]] w fun e w' => ∃ a c b d, e = .returned (.tuple #[.agg #[.int .i64 (sg (nu m)), .slice a (ln (nu m)) c, .int .i64 (sg (de m)), .slice b (ln (de m)) d], .int .i64 0]) ∧ FD G w' a c b d m ∧ Below w.heap.size w w' := by
  have HM := Lib.hid hm; clear hm
  have HX := Lib.hid hx; have HY := Lib.hid hy; clear hx hy
  have H1 : Hid (FD G w a1 c1 b1 d1 q) := h1
  have H2 : Hid (FD G w a2 c2 b2 d2 r) := h2
  clear h1 h2
  have M : Hid (Below w.heap.size w w) := Below.refl _ _
  go_enter Try.func52, Try.ntmps52
  go_upto_region 1 with fail
  obtain ⟨w1, hv⟩ : ∃ w_ : World, w_ = (((w.alloc (.cells #[.int .i64 (sg (nu q)), .slice a1 (ln (nu q)) c1, .int .i64 (sg (de q)), .slice b1 (ln (de q)) d1] 26)).alloc (.cells #[.int .i64 (sg (nu r)), .slice a2 (ln (nu r)) c2, .int .i64 (sg (de r)), .slice b2 (ln (de r)) d2] 26)).alloc (.cells #[.int .i64 0, .slice none 0 0, .int .i64 0, .slice none 0 0] 26)) := ⟨_, rfl⟩
  rw [← hv]
  have hbx := bx3 w 26 26 26 #[.int .i64 (sg (nu q)), .slice a1 (ln (nu q)) c1, .int .i64 (sg (de q)), .slice b1 (ln (de q)) d1] #[.int .i64 (sg (nu r)), .slice a2 (ln (nu r)) c2, .int .i64 (sg (de r)), .slice b2 (ln (de r)) d2] #[.int .i64 0, .slice none 0 0, .int .i64 0, .slice none 0 0]
  rw [← hv] at hbx
  have hbn : Below w.heap.size w w1 := by rw [hv]; exact (Below.alloc (Below.alloc (Below.alloc (Below.refl _ _) (by simp <;> omega) _) (by simp <;> omega) _) (by simp <;> omega) _)
  replace M := Lib.hid (And.intro hbx.2.2 (And.intro hbx.2.1 (And.intro hbx.1 (Goes.go M.out hbn))))
  clear hbx hbn
  clear hv
  obtain ⟨p0_0, q0_0, p0_1, q0_1, p0_2, q0_2, p0_3, q0_3⟩ := (M.out.2.2.1).c4
  obtain ⟨p1_0, q1_0, p1_1, q1_1, p1_2, q1_2, p1_3, q1_3⟩ := (M.out.2.1).c4
  go_wp2_with fail
  clear p0_0 q0_0 p0_1 q0_1 p0_2 q0_2 p0_3 q0_3 p1_0 q1_0 p1_1 q1_1 p1_2 q1_2 p1_3 q1_3
  refine (either_is (G := G) (q := q) (r := r) (s := 1) (m := m) (H1.out.keep (M.out.2.2.2)) (H2.out.keep (M.out.2.2.2)) HX.out HY.out (by decide) HM.out).mono ?_
  rintro e w2 ⟨a_1, c_2, b_3, d_4, rfl, hd5, hb⟩
  replace M := Lib.hid (And.intro hd5 (Goes.go M.out hb))
  clear hb hd5
  obtain ⟨p2_0, q2_0, p2_1, q2_1, p2_2, q2_2, p2_3, q2_3⟩ := (M.out.2.1).c4
  go_wp2_with fail
  clear p2_0 q2_0 p2_1 q2_1 p2_2 q2_2 p2_3 q2_3
  obtain ⟨w3, hv⟩ : ∃ w_ : World, w_ = ((((w2.setCell ⟨w.heap.size + 1 + 1, 0, none⟩ (.int .i64 (sg (nu m)))).setCell ⟨w.heap.size + 1 + 1, 1, none⟩ (.slice a_1 (ln (nu m)) c_2)).setCell ⟨w.heap.size + 1 + 1, 2, none⟩ (.int .i64 (sg (de m)))).setCell ⟨w.heap.size + 1 + 1, 3, none⟩ (.slice b_3 (ln (de m)) d_4)) := ⟨_, rfl⟩
  rw [← hv]
  have og : w2.grownBy w3 (some (w.heap.size + 1 + 1)) := by rw [hv]; exact (only_setCell (only_setCell (only_setCell (only_setCell (World.grownBy.refl _ _) _) _) _) _)
  have hz : w.heap.size ≤ w.heap.size + 1 + 1 := by omega
  have hk : Bx w3 (w.heap.size + 1 + 1) 26 #[.int .i64 (sg (nu m)), .slice a_1 (ln (nu m)) c_2, .int .i64 (sg (de m)), .slice b_3 (ln (de m)) d_4] := by rw [hv]; exact (((((M.out.2.1).set 0 _).set 1 _).set 2 _).set 3 _)
  have hbw : Below w.heap.size w w3 := by rw [hv]; exact (Below.setCell (Below.setCell (Below.setCell (Below.setCell (M.out.2.2.2.2) (by omega) _) (by omega) _) (by omega) _) (by omega) _)
  replace M := Lib.hid (And.intro ((M.out.1).far (M.out.2.1) (by rfl) (by omega) og) (And.intro hk (And.intro ((M.out.2.2.1).only og (by omega)) (And.intro ((M.out.2.2.2.1).only og (by omega)) hbw))))
  clear hk hbw og hv hz
  refine bodyPost_ret (results_box2 rfl _ _ (w.heap.size + 1 + 1) 26 _ _ _ rfl (M.out.2.1) Try.underlying26 rfl (by kernel_rfl)) rfl ?_
  exact ⟨a_1, c_2, b_3, d_4, rfl, (M.out.1), (M.out.2.2.2.2)⟩
theorem fracCompare_is {q r : Rat} {k : Int} {a1 b1 a2 b2 : Option Addr} {c1 d1 c2 d2 : Nat} {w : World} (h1 : FD G w a1 c1 b1 d1 q) (h2 : FD G w a2 c2 b2 d2 r) (hx : Fz q 137438953472) (hy : Fz r 137438953472) (hk : ordQ q r = k) :
    Calls Try.prog 37 #[.agg #[.int .i64 (sg (nu q)), .slice a1 (ln (nu q)) c1, .int .i64 (sg (de q)), .slice b1 (ln (de q)) d1], .agg #[.int .i64 (sg (nu r)), .slice a2 (ln (nu r)) c2, .int .i64 (sg (de r)), .slice b2 (ln (de r)) d2]] w fun e w' => e = .returned (.int .i64 k) ∧ Below w.heap.size w w' := by
  rw [← hk]; exact fracCompare_ok h1 h2 hx hy
end Go.Proofs.Ytjbfngjlepafgaa
namespace Go.Proofs.Ytjbfngjlepafgaa
open Go.Lib

/-- b as k decimal digits, zeros ahead. -/
def padK (k b : Nat) : List UInt8 := List.replicate (k - (decDigits b).length) 48 ++ decDigits b
/-- The pieces of a text, the last one first. -/
def parts : Nat → Nat → List (List UInt8)
  | 0, _ => []
  | f + 1, n => if n = 0 then [] else (if n / 100000 = 0 then decDigits (n % 100000) else padK 5 (n % 100000)) :: parts f (n / 100000)
end Go.Proofs.Ytjbfngjlepafgaa
namespace Go.Proofs.Ytjbfngjlepafgaa
open Go.RowKit Go.Lib
variable {G : Nat}

def rightP (p q : Int) : Bool := decide (0 < q) && decide (Nat.gcd p.natAbs q.natAbs = 1)
theorem rightP_parts {p q : Int} (h : rightP p q = true) : nu (Rat.divInt p q) = p ∧ de (Rat.divInt p q) = q := by
  unfold rightP at h
  rw [Bool.and_eq_true] at h
  have h1 := of_decide_eq_true h.1
  have h2 := of_decide_eq_true h.2
  obtain ⟨g, hg0, hg, e1, e2⟩ := new_parts (x := p) h1
  have : g = 1 := by omega
  subst this
  rw [Int.one_mul] at e1 e2
  exact ⟨e1.symm, e2.symm⟩
theorem one_is {x : Int} {b_ : Bool} {a1 : Option Addr} {c1 : Nat} {w : World} (h1 : BD G w a1 c1 x) (hX : Sz x 1099511627776) (hb : oneB x = b_) :
    Calls Try.prog 63 #[.agg #[.int .i64 (sg x), .slice a1 (ln x) c1]] w fun e w' => e = .returned (.bool b_) ∧ Below w.heap.size w w' := by
  rw [← hb]; exact one_ok h1 hX
theorem rightP_sg {x y gv : Int} (h : ((Nat.gcd x.natAbs y.natAbs : Nat) : Int) = gv) : rightP x y = (sg y == 1 && oneB gv) := by
  unfold rightP oneB
  have h1 : decide (Nat.gcd x.natAbs y.natAbs = 1) = decide (gv = 1) := by apply decide_eq_decide.2; omega
  rw [h1]
  rcases Int.lt_trichotomy y 0 with h | h | h
  · rw [sg_neg h, decide_eq_false (by omega)]; rfl
  · subst h; rfl
  · rw [sg_pos h, decide_eq_true h]; rfl
theorem gcd_size {x y gv : Int} {n : Nat} (h : ((Nat.gcd x.natAbs y.natAbs : Nat) : Int) = gv) (hx : Sz x n) (hy : Sz y n) : Sz gv n := by
  rcases Nat.eq_zero_or_pos x.natAbs with h0 | h0
  · refine hy.le ?_
    rw [← h, h0]; simp
  · refine hx.le ?_
    have := Nat.gcd_le_left (m := x.natAbs) y.natAbs h0
    omega
set_option maxRecDepth 100000 in
set_option maxHeartbeats 4000000 in
theorem fracRight_bd {x y : Int} {b_ : Bool} {a1 b1 : Option Addr} {c1 d1 : Nat} {w : World} (h1 : BD G w a1 c1 x) (k1 : BD G w b1 d1 y) (hx : Sz x 549755813888) (hy : Sz y 549755813888) (hb : rightP x y = b_) :
    Calls Try.prog 41 #[.agg #[.int .i64 (sg x), .slice a1 (ln x) c1, .int .i64 (sg y), .slice b1 (ln y) d1]] w fun e w' => e = .returned (.bool b_) ∧ Below w.heap.size w w' := by
  obtain ⟨gv, hgv⟩ : ∃ g, ((Nat.gcd x.natAbs y.natAbs : Nat) : Int) = g := ⟨_, rfl⟩
  rw [rightP_sg hgv] at hb
  have HSG := Lib.hid (gcd_size hgv hx hy)
  obtain ⟨bs, hbs⟩ : ∃ b, (sg y != 1) = b := ⟨_, rfl⟩
  obtain ⟨bo, hbo⟩ : ∃ b, oneB gv = b := ⟨_, rfl⟩
  have HBR : Hid ((!bs && bo) = b_) := by show _ = _; rw [← hb, ← hbs, ← hbo]; show (!(!(sg y == 1)) && _) = _; rw [Bool.not_not]
  have HG := Lib.hid hgv; have HBO := Lib.hid hbo
  have HX := Lib.hid hx; have HY := Lib.hid hy
  clear hb hgv hbo hx hy
  have H1 : Hid (BD G w a1 c1 x) := h1
  have K1 : Hid (BD G w b1 d1 y) := k1
  clear h1 k1
  have M : Hid (Below w.heap.size w w) := Below.refl _ _
  go_enter Try.func41, Try.ntmps41
  go_upto_region 1 with fail
  obtain ⟨w1, hv⟩ : ∃ w_ : World, w_ = (w.alloc (.cells #[.int .i64 (sg x), .slice a1 (ln x) c1, .int .i64 (sg y), .slice b1 (ln y) d1] 26)) := ⟨_, rfl⟩
  rw [← hv]
  replace M := Lib.hid (And.intro (hv ▸ bx1 w 26 #[.int .i64 (sg x), .slice a1 (ln x) c1, .int .i64 (sg y), .slice b1 (ln y) d1]) (Goes.go M.out (hv ▸ below_alloc _ _ : Below w.heap.size w w1)))
  clear hv
  obtain ⟨p0_0, q0_0, p0_1, q0_1, p0_2, q0_2, p0_3, q0_3⟩ := (M.out.1).c4
  go_wp2_with fail
  clear p0_0 q0_0 p0_1 q0_1 p0_2 q0_2 p0_3 q0_3
  refine (bigRight_ok (G := G) (z := x) (H1.out.keep (M.out.2)) (Sz.mono HX.out (by omega))).mono ?_
  rintro e w2 ⟨rfl, hb⟩
  replace M := Lib.hid (Goes.go M.out hb)
  clear hb
  obtain ⟨p0_0, q0_0, p0_1, q0_1, p0_2, q0_2, p0_3, q0_3⟩ := (M.out.1).c4
  go_wp2_with fail
  clear p0_0 q0_0 p0_1 q0_1 p0_2 q0_2 p0_3 q0_3
  refine (bigRight_ok (G := G) (z := y) (K1.out.keep (M.out.2)) (Sz.mono HY.out (by omega))).mono ?_
  rintro e w3 ⟨rfl, hb⟩
  replace M := Lib.hid (Goes.go M.out hb)
  clear hb
  cases bs with
  | false =>
    obtain ⟨p0_0, q0_0, p0_1, q0_1, p0_2, q0_2, p0_3, q0_3⟩ := (M.out.1).c4
    go_wp2_with fail
    clear p0_0 q0_0 p0_1 q0_1 p0_2 q0_2 p0_3 q0_3
    refine (bigGcd_is' (G := G) (x := x) (y := y) (g := gv) (H1.out.keep (M.out.2)) (K1.out.keep (M.out.2)) HX.out HY.out HG.out).mono ?_
    rintro e w4 ⟨a_1, c_2, rfl, hd3, hb⟩
    replace M := Lib.hid (And.intro hd3 (Goes.go M.out hb))
    clear hb hd3
    go_upto_region 4 with fail
    obtain ⟨w5, hv⟩ : ∃ w_ : World, w_ = (w4.alloc (.cells #[.int .i64 (sg gv), .slice a_1 (ln gv) c_2] 24)) := ⟨_, rfl⟩
    rw [← hv]
    have o1 : w.heap.size < w4.heap.size := ((M.out.2.1)).lt
    replace M := Lib.hid (And.intro (hv ▸ bx1 w4 24 #[.int .i64 (sg gv), .slice a_1 (ln gv) c_2]) (Goes.go M.out (hv ▸ below_alloc _ _ : Below w4.heap.size w4 w5)))
    clear hv
    obtain ⟨p1_0, q1_0, p1_1, q1_1⟩ := (M.out.1).c2
    go_wp2_with fail
    clear p1_0 q1_0 p1_1 q1_1
    refine (one_is (G := G) (x := gv) (b_ := bo) (M.out.2.1) (Sz.mono HSG.out (by omega)) HBO.out).mono ?_
    rintro e w6 ⟨rfl, hb⟩
    replace M := Lib.hid (Goes.go M.out hb)
    clear hb
    go_wp2_with fail
    go_ret
    exact ⟨by rw [← HBR.out]; rfl, (M.out.2.2.2)⟩
  | true =>
    obtain ⟨p0_0, q0_0, p0_1, q0_1, p0_2, q0_2, p0_3, q0_3⟩ := (M.out.1).c4
    go_wp2_with fail
    clear p0_0 q0_0 p0_1 q0_1 p0_2 q0_2 p0_3 q0_3
    go_ret
    exact ⟨by rw [← HBR.out]; rfl, (M.out.2)⟩
end Go.Proofs.Ytjbfngjlepafgaa
namespace Go.Proofs.Ytjbfngjlepafgaa
open Go.RowKit
variable {G : Nat}

set_option maxHeartbeats 8000000 in
theorem samebig_ok {x y : Int} {a1 a2 : Option Addr} {c1 c2 : Nat} {w : World} (h1 : BD G w a1 c1 x) (h2 : BD G w a2 c2 y) (hx : Sz x 1099511627776) (hy : Sz y 1099511627776) :
    Calls Try.prog 47 #[.agg #[.int .i64 (sg x), .slice a1 (ln x) c1], .agg #[.int .i64 (sg y), .slice a2 (ln y) c2]] w fun e w' => e = .returned (.bool (eqZ x y)) ∧ Below w.heap.size w w' := by
  have H1 := Lib.hid h1
  have H2 := Lib.hid h2
  have hlb : ln x ≤ 1099511627776 := hx
  have hlb2 : ln y ≤ 1099511627776 := hy
  clear h1 h2 hx hy
  go_enter Try.func47, Try.ntmps47
  by_cases hs : sg x = sg y
  · by_cases hl : ln x = ln y
    · have e1 : (sg x != sg y) = false := by rw [hs]; simp
      have e2 : ((ln x : Int) != (ln y : Int)) = false := by rw [hl]; simp
      have HS := Lib.hid hs
      have HL := Lib.hid hl
      clear hs hl
      go_wp2_with fail
      obtain ⟨w0, hw0⟩ : ∃ w0, w0 = (w.alloc (.cells #[.int .i64 (sg x), .slice a1 (ln x) c1] 24)).alloc (.cells #[.int .i64 (sg y), .slice a2 (ln y) c2] 24) := ⟨_, rfl⟩
      have hbx := bx2 w 24 24 #[.int .i64 (sg x), .slice a1 (ln x) c1] #[.int .i64 (sg y), .slice a2 (ln y) c2]
      have HB : Hid (Below w.heap.size w w0) := by show Below _ _ _; rw [hw0]; go_grown
      rw [← hw0] at hbx ⊢
      have K0 := Lib.hid hbx.1
      have K1 := Lib.hid hbx.2
      clear hw0 hbx
      have p1 : w0.cell? ⟨w.heap.size, 1, none⟩ = some (.slice a1 (ln x) c1) := K0.out.at.1 1
      have p2 : w0.cell? ⟨w.heap.size + 1, 1, none⟩ = some (.slice a2 (ln y) c2) := K1.out.at.1 1
      go_loopw [5] (fun i wr => ∃ k nd : Nat, k ≤ ln x ∧ i = .int .i64 k ∧ wr = w0.drewN nd ∧ Hid ((digs x.natAbs).take k = (digs y.natAbs).take k)) (fun i _ => ln x - (intOf i).toNat)
      case atStart => exact ⟨0, 0, Nat.zero_le _, rfl, rfl, rfl⟩
      case round =>
        obtain ⟨k, nd, hk, rfl, rfl, HT⟩ := hrel
        by_cases hlt : k < ln x
        · have hlt2 : k < ln y := by rw [← HL.out]; exact hlt
          obtain ⟨b, off, rfl, hb, hcell⟩ := (H1.out.rd.keep HB.out).at (k := k) hlt
          obtain ⟨b2, off2, rfl, hb2, hcell2⟩ := (H2.out.rd.keep HB.out).at (k := k) hlt2
          obtain ⟨d, hd⟩ : ∃ d, d = (digs x.natAbs)[k]'hlt := ⟨_, rfl⟩
          obtain ⟨d2, hd2⟩ : ∃ d, d = (digs y.natAbs)[k]'hlt2 := ⟨_, rfl⟩
          rw [← hd] at hcell
          rw [← hd2] at hcell2
          have hki : (k : Int) < (ln x : Int) := by omega
          have hki2 : (k : Int) < (ln y : Int) := by omega
          by_cases hdd : d = d2
          · have e3 : ((d : Int) != (d2 : Int)) = false := by rw [hdd]; simp
            have HT2 : Hid ((digs x.natAbs).take (k + 1) = (digs y.natAbs).take (k + 1)) := by
              show _ = _
              rw [List.take_succ_eq_append_getElem hlt, List.take_succ_eq_append_getElem hlt2, HT.out, ← hd, ← hd2, hdd]
            clear hd hd2 hdd
            go_wp2_with fail
            go_quiet (fail)
            go_wp2_with fail
            go_roundw
            case rel => exact ⟨k + 1, _, by omega, by go_num, rfl, HT2⟩
            case measure => simp [intOf]; omega
          · have e3 : ((d : Int) != (d2 : Int)) = true := by rw [bne_iff_ne]; omega
            have HO := Lib.hid (eqZ_digit (x := x) (y := y) (k := k) (by rw [List.getElem?_eq_getElem hlt, List.getElem?_eq_getElem hlt2, ← hd, ← hd2]; intro h; exact hdd (Option.some.inj h)))
            clear hd hd2 hdd
            go_wp2_with fail
            go_quiet (fail)
            go_wp2_with fail
            go_ret
            exact ⟨ret_bool HO.out.symm, by first | exact below_drewN HB.out _ | exact below_drewN (below_drewN HB.out _) _⟩
        · have HO := Lib.hid (eqZ_true HS.out (by
            have := HT.out
            rwa [List.take_of_length_le (by show ln x ≤ k; omega), List.take_of_length_le (by show ln y ≤ k; rw [← HL.out]; omega)] at this))
          go_wp2_with fail
          go_ret
          exact ⟨ret_bool HO.out.symm, below_drewN HB.out _⟩
    · have HO := Lib.hid (eqZ_len hl)
      have e1 : (sg x != sg y) = false := by rw [hs]; simp
      have e2 : ((ln x : Int) != (ln y : Int)) = true := by rw [bne_iff_ne]; omega
      clear hs hl
      go_wp2_with fail
      go_ret
      exact ⟨ret_bool HO.out.symm, by go_grown⟩
  · have HO := Lib.hid (eqZ_sign hs)
    have e1 : (sg x != sg y) = true := by rw [bne_iff_ne]; exact hs
    clear hs
    go_wp2_with fail
    go_ret
    exact ⟨ret_bool HO.out.symm, by go_grown⟩
set_option maxHeartbeats 4000000 in
theorem rfsame_no {x y u v : Int} {a1 b1 a2 b2 : Option Addr} {c1 d1 c2 d2 : Nat} {w : World} (h1 : BD G w a1 c1 x) (k1 : BD G w b1 d1 y) (h2 : BD G w a2 c2 u) (k2 : BD G w b2 d2 v) (hx : Sz x 1099511627776) (hy : Sz y 1099511627776) (hu : Sz u 1099511627776) (hv : Sz v 1099511627776) (he : eqZ x u = false) :
    Calls Try.prog 26 #[.agg #[.int .i64 (sg x), .slice a1 (ln x) c1, .int .i64 (sg y), .slice b1 (ln y) d1], .agg #[.int .i64 (sg u), .slice a2 (ln u) c2, .int .i64 (sg v), .slice b2 (ln v) d2]] w fun e w' => e = .returned (.bool (eqZ x u && eqZ y v)) ∧ Below w.heap.size w w' := by
  have HX := Lib.hid hx
  have HY := Lib.hid hy
  have HU := Lib.hid hu
  have HV := Lib.hid hv
  have H1 := Lib.hid h1
  have K1_ := Lib.hid k1
  have H2 := Lib.hid h2
  have K2_ := Lib.hid k2
  have HE := Lib.hid he
  have HO : Hid (false = (eqZ x u && eqZ y v)) := by show _ = _; rw [he]; rfl
  clear hx hy hu hv h1 k1 h2 k2 he

  go_enter Try.func26, Try.ntmps26
  go_wp2_with fail
  refine (samebig_ok (x := x) (y := u) (H1.out.keep (by go_grown)) (H2.out.keep (by go_grown)) HX.out HU.out).mono ?_
  rintro e w1 ⟨rfl, hb⟩
  have hbx := bx2 w 26 26 #[.int .i64 (sg x), .slice a1 (ln x) c1, .int .i64 (sg y), .slice b1 (ln y) d1] #[.int .i64 (sg u), .slice a2 (ln u) c2, .int .i64 (sg v), .slice b2 (ln v) d2]
  obtain ⟨k0, k1⟩ := hbx
  have K0 := Lib.hid (k0.keep hb)
  have K1 := Lib.hid (k1.keep hb)
  clear k0 k1
  have hb' : Below w.heap.size w w1 := below_call (by go_grown) hb
  have HB := Lib.hid hb'
  replace H1 := Lib.hid (H1.out.keep hb')
  replace K1_ := Lib.hid (K1_.out.keep hb')
  replace H2 := Lib.hid (H2.out.keep hb')
  replace K2_ := Lib.hid (K2_.out.keep hb')
  clear hb hb'
  have p0_0 : w1.cell? ⟨w.heap.size, 0, none⟩ = some (.int .i64 (sg x)) := K0.out.at.1 0
  have q0_0 : w1.frozen? ⟨w.heap.size, 0, none⟩ = false := K0.out.at.2 0
  have p0_1 : w1.cell? ⟨w.heap.size, 1, none⟩ = some (.slice a1 (ln x) c1) := K0.out.at.1 1
  have q0_1 : w1.frozen? ⟨w.heap.size, 1, none⟩ = false := K0.out.at.2 1
  have p0_2 : w1.cell? ⟨w.heap.size, 2, none⟩ = some (.int .i64 (sg y)) := K0.out.at.1 2
  have q0_2 : w1.frozen? ⟨w.heap.size, 2, none⟩ = false := K0.out.at.2 2
  have p0_3 : w1.cell? ⟨w.heap.size, 3, none⟩ = some (.slice b1 (ln y) d1) := K0.out.at.1 3
  have q0_3 : w1.frozen? ⟨w.heap.size, 3, none⟩ = false := K0.out.at.2 3
  have z0 : w.heap.size < w1.heap.size := K0.out.lt
  have p1_0 : w1.cell? ⟨w.heap.size + 1, 0, none⟩ = some (.int .i64 (sg u)) := K1.out.at.1 0
  have q1_0 : w1.frozen? ⟨w.heap.size + 1, 0, none⟩ = false := K1.out.at.2 0
  have p1_1 : w1.cell? ⟨w.heap.size + 1, 1, none⟩ = some (.slice a2 (ln u) c2) := K1.out.at.1 1
  have q1_1 : w1.frozen? ⟨w.heap.size + 1, 1, none⟩ = false := K1.out.at.2 1
  have p1_2 : w1.cell? ⟨w.heap.size + 1, 2, none⟩ = some (.int .i64 (sg v)) := K1.out.at.1 2
  have q1_2 : w1.frozen? ⟨w.heap.size + 1, 2, none⟩ = false := K1.out.at.2 2
  have p1_3 : w1.cell? ⟨w.heap.size + 1, 3, none⟩ = some (.slice b2 (ln v) d2) := K1.out.at.1 3
  have q1_3 : w1.frozen? ⟨w.heap.size + 1, 3, none⟩ = false := K1.out.at.2 3
  have z1 : w.heap.size + 1 < w1.heap.size := K1.out.lt
  rw [HE.out]
  go_wp2_with fail
  go_ret
  exact ⟨ret_bool HO.out, HB.out⟩
set_option maxHeartbeats 4000000 in
theorem rfsame_yes {x y u v : Int} {a1 b1 a2 b2 : Option Addr} {c1 d1 c2 d2 : Nat} {w : World} (h1 : BD G w a1 c1 x) (k1 : BD G w b1 d1 y) (h2 : BD G w a2 c2 u) (k2 : BD G w b2 d2 v) (hx : Sz x 1099511627776) (hy : Sz y 1099511627776) (hu : Sz u 1099511627776) (hv : Sz v 1099511627776) (he : eqZ x u = true) :
    Calls Try.prog 26 #[.agg #[.int .i64 (sg x), .slice a1 (ln x) c1, .int .i64 (sg y), .slice b1 (ln y) d1], .agg #[.int .i64 (sg u), .slice a2 (ln u) c2, .int .i64 (sg v), .slice b2 (ln v) d2]] w fun e w' => e = .returned (.bool (eqZ x u && eqZ y v)) ∧ Below w.heap.size w w' := by
  have HX := Lib.hid hx
  have HY := Lib.hid hy
  have HU := Lib.hid hu
  have HV := Lib.hid hv
  have H1 := Lib.hid h1
  have K1_ := Lib.hid k1
  have H2 := Lib.hid h2
  have K2_ := Lib.hid k2
  have HE := Lib.hid he
  have HO : Hid (eqZ y v = (eqZ x u && eqZ y v)) := by show _ = _; rw [he]; rfl
  clear hx hy hu hv h1 k1 h2 k2 he

  go_enter Try.func26, Try.ntmps26
  go_wp2_with fail
  refine (samebig_ok (x := x) (y := u) (H1.out.keep (by go_grown)) (H2.out.keep (by go_grown)) HX.out HU.out).mono ?_
  rintro e w1 ⟨rfl, hb⟩
  have hbx := bx2 w 26 26 #[.int .i64 (sg x), .slice a1 (ln x) c1, .int .i64 (sg y), .slice b1 (ln y) d1] #[.int .i64 (sg u), .slice a2 (ln u) c2, .int .i64 (sg v), .slice b2 (ln v) d2]
  obtain ⟨k0, k1⟩ := hbx
  have K0 := Lib.hid (k0.keep hb)
  have K1 := Lib.hid (k1.keep hb)
  clear k0 k1
  have hb' : Below w.heap.size w w1 := below_call (by go_grown) hb
  have HB := Lib.hid hb'
  replace H1 := Lib.hid (H1.out.keep hb')
  replace K1_ := Lib.hid (K1_.out.keep hb')
  replace H2 := Lib.hid (H2.out.keep hb')
  replace K2_ := Lib.hid (K2_.out.keep hb')
  clear hb hb'
  have p0_0 : w1.cell? ⟨w.heap.size, 0, none⟩ = some (.int .i64 (sg x)) := K0.out.at.1 0
  have q0_0 : w1.frozen? ⟨w.heap.size, 0, none⟩ = false := K0.out.at.2 0
  have p0_1 : w1.cell? ⟨w.heap.size, 1, none⟩ = some (.slice a1 (ln x) c1) := K0.out.at.1 1
  have q0_1 : w1.frozen? ⟨w.heap.size, 1, none⟩ = false := K0.out.at.2 1
  have p0_2 : w1.cell? ⟨w.heap.size, 2, none⟩ = some (.int .i64 (sg y)) := K0.out.at.1 2
  have q0_2 : w1.frozen? ⟨w.heap.size, 2, none⟩ = false := K0.out.at.2 2
  have p0_3 : w1.cell? ⟨w.heap.size, 3, none⟩ = some (.slice b1 (ln y) d1) := K0.out.at.1 3
  have q0_3 : w1.frozen? ⟨w.heap.size, 3, none⟩ = false := K0.out.at.2 3
  have z0 : w.heap.size < w1.heap.size := K0.out.lt
  have p1_0 : w1.cell? ⟨w.heap.size + 1, 0, none⟩ = some (.int .i64 (sg u)) := K1.out.at.1 0
  have q1_0 : w1.frozen? ⟨w.heap.size + 1, 0, none⟩ = false := K1.out.at.2 0
  have p1_1 : w1.cell? ⟨w.heap.size + 1, 1, none⟩ = some (.slice a2 (ln u) c2) := K1.out.at.1 1
  have q1_1 : w1.frozen? ⟨w.heap.size + 1, 1, none⟩ = false := K1.out.at.2 1
  have p1_2 : w1.cell? ⟨w.heap.size + 1, 2, none⟩ = some (.int .i64 (sg v)) := K1.out.at.1 2
  have q1_2 : w1.frozen? ⟨w.heap.size + 1, 2, none⟩ = false := K1.out.at.2 2
  have p1_3 : w1.cell? ⟨w.heap.size + 1, 3, none⟩ = some (.slice b2 (ln v) d2) := K1.out.at.1 3
  have q1_3 : w1.frozen? ⟨w.heap.size + 1, 3, none⟩ = false := K1.out.at.2 3
  have z1 : w.heap.size + 1 < w1.heap.size := K1.out.lt
  rw [HE.out]
  go_wp2_with fail
  refine (samebig_ok (x := y) (y := v) (K1_.out.keep (by go_grown)) (K2_.out.keep (by go_grown)) HY.out HV.out).mono ?_
  rintro e w2 ⟨rfl, hb⟩
  clear p0_0 q0_0 p0_1 q0_1 p0_2 q0_2 p0_3 q0_3 z0 p1_0 q1_0 p1_1 q1_1 p1_2 q1_2 p1_3 q1_3 z1
  have hb' := below_call (w1 := w1) (by go_grown) hb
  replace K0 := Lib.hid (K0.out.keep hb')
  replace K1 := Lib.hid (K1.out.keep hb')
  replace HB := Lib.hid (below_call HB.out hb')
  replace H1 := Lib.hid (H1.out.keep hb')
  replace K1_ := Lib.hid (K1_.out.keep hb')
  replace H2 := Lib.hid (H2.out.keep hb')
  replace K2_ := Lib.hid (K2_.out.keep hb')
  clear hb hb'
  have p0_0 : w2.cell? ⟨w.heap.size, 0, none⟩ = some (.int .i64 (sg x)) := K0.out.at.1 0
  have q0_0 : w2.frozen? ⟨w.heap.size, 0, none⟩ = false := K0.out.at.2 0
  have p0_1 : w2.cell? ⟨w.heap.size, 1, none⟩ = some (.slice a1 (ln x) c1) := K0.out.at.1 1
  have q0_1 : w2.frozen? ⟨w.heap.size, 1, none⟩ = false := K0.out.at.2 1
  have p0_2 : w2.cell? ⟨w.heap.size, 2, none⟩ = some (.int .i64 (sg y)) := K0.out.at.1 2
  have q0_2 : w2.frozen? ⟨w.heap.size, 2, none⟩ = false := K0.out.at.2 2
  have p0_3 : w2.cell? ⟨w.heap.size, 3, none⟩ = some (.slice b1 (ln y) d1) := K0.out.at.1 3
  have q0_3 : w2.frozen? ⟨w.heap.size, 3, none⟩ = false := K0.out.at.2 3
  have z0 : w.heap.size < w2.heap.size := K0.out.lt
  have p1_0 : w2.cell? ⟨w.heap.size + 1, 0, none⟩ = some (.int .i64 (sg u)) := K1.out.at.1 0
  have q1_0 : w2.frozen? ⟨w.heap.size + 1, 0, none⟩ = false := K1.out.at.2 0
  have p1_1 : w2.cell? ⟨w.heap.size + 1, 1, none⟩ = some (.slice a2 (ln u) c2) := K1.out.at.1 1
  have q1_1 : w2.frozen? ⟨w.heap.size + 1, 1, none⟩ = false := K1.out.at.2 1
  have p1_2 : w2.cell? ⟨w.heap.size + 1, 2, none⟩ = some (.int .i64 (sg v)) := K1.out.at.1 2
  have q1_2 : w2.frozen? ⟨w.heap.size + 1, 2, none⟩ = false := K1.out.at.2 2
  have p1_3 : w2.cell? ⟨w.heap.size + 1, 3, none⟩ = some (.slice b2 (ln v) d2) := K1.out.at.1 3
  have q1_3 : w2.frozen? ⟨w.heap.size + 1, 3, none⟩ = false := K1.out.at.2 3
  have z1 : w.heap.size + 1 < w2.heap.size := K1.out.lt
  go_wp2_with fail
  go_ret
  exact ⟨ret_bool HO.out, HB.out⟩
theorem rfsame_ok {x y u v : Int} {a1 b1 a2 b2 : Option Addr} {c1 d1 c2 d2 : Nat} {w : World} (h1 : BD G w a1 c1 x) (k1 : BD G w b1 d1 y) (h2 : BD G w a2 c2 u) (k2 : BD G w b2 d2 v) (hx : Sz x 1099511627776) (hy : Sz y 1099511627776) (hu : Sz u 1099511627776) (hv : Sz v 1099511627776) :
    Calls Try.prog 26 #[.agg #[.int .i64 (sg x), .slice a1 (ln x) c1, .int .i64 (sg y), .slice b1 (ln y) d1], .agg #[.int .i64 (sg u), .slice a2 (ln u) c2, .int .i64 (sg v), .slice b2 (ln v) d2]] w fun e w' => e = .returned (.bool (eqZ x u && eqZ y v)) ∧ Below w.heap.size w w' := by
  rcases Bool.eq_false_or_eq_true (eqZ x u) with h | h
  · exact rfsame_yes h1 k1 h2 k2 hx hy hu hv h
  · exact rfsame_no h1 k1 h2 k2 hx hy hu hv h
end Go.Proofs.Ytjbfngjlepafgaa
namespace Go.Proofs.Ytjbfngjlepafgaa
open Go.RowKit Go.Lib
variable {G : Nat}

theorem fracMin_1 {q r : Rat} (h : q ≤ r) : pick q r (-1) = q := by
  unfold pick ordQ; rw [if_neg]; split
  · decide
  · split
    · exfalso; grind
    · decide
theorem fracMin_2 {q r : Rat} (h : r < q) : pick q r (-1) = r := by
  unfold pick ordQ; rw [if_pos]; rw [if_neg (by grind), if_pos h]; decide
theorem fracMax_1 {q r : Rat} (h : q ≤ r) : pick q r 1 = if q = r then q else r := by
  unfold pick ordQ
  by_cases h1 : q = r
  · subst h1; rw [if_pos rfl, if_neg]; rw [if_neg (by grind), if_neg (by grind)]; decide
  · rw [if_neg h1, if_pos]; rw [if_pos (by grind)]; decide
theorem fracMax_2 {q r : Rat} (h : r < q) : pick q r 1 = q := by
  unfold pick ordQ; rw [if_neg]; rw [if_neg (by grind), if_pos h]; decide
theorem fracMax_3 {q r : Rat} (h : q ≤ r) : pick q r 1 = r := by
  rw [fracMax_1 h]; split
  · assumption
  · rfl
set_option maxRecDepth 100000 in
set_option maxHeartbeats 4000000 in
theorem rfFew_ok {s t m : Int} {n k : Nat} {a b : Option Addr} {c d : Nat} {r : Bool} {w : World} (hr : (decide ((n : Int) ≤ m) && decide ((k : Int) ≤ m)) = r) :
    Calls Try.prog 22 #[.agg #[.int .i64 s, .slice a n c, .int .i64 t, .slice b k d], .int .i64 m] w fun e w' => e = .returned (.bool r) ∧ Below w.heap.size w w' := by
  obtain ⟨r1, h1⟩ : ∃ b, decide ((n : Int) ≤ m) = b := ⟨_, rfl⟩
  obtain ⟨r2, h2⟩ : ∃ b, decide ((k : Int) ≤ m) = b := ⟨_, rfl⟩
  rw [h1, h2] at hr
  have HR := Lib.hid hr; clear hr
  have M : Hid (Below w.heap.size w w) := Below.refl _ _
  go_enter Try.func22, Try.ntmps22
  go_upto_region 1 with fail
  obtain ⟨w1, hv⟩ : ∃ w_ : World, w_ = (w.alloc (.cells #[.int .i64 s, .slice a n c, .int .i64 t, .slice b k d] 26)) := ⟨_, rfl⟩
  rw [← hv]
  replace M := Lib.hid (And.intro (hv ▸ bx1 w 26 #[.int .i64 s, .slice a n c, .int .i64 t, .slice b k d]) (Goes.go M.out (hv ▸ below_alloc _ _ : Below w.heap.size w w1)))
  clear hv
  cases r1 with
  | false =>
    have y0 := (M.out.1).c4; have p0_0 := y0.1; have q0_0 := y0.2.1; have p0_1 := y0.2.2.1; have q0_1 := y0.2.2.2.1; have p0_2 := y0.2.2.2.2.1; have q0_2 := y0.2.2.2.2.2.1; have p0_3 := y0.2.2.2.2.2.2.1; have q0_3 := y0.2.2.2.2.2.2.2; clear y0
    go_wp2_with fail
    clear p0_0 q0_0 p0_1 q0_1 p0_2 q0_2 p0_3 q0_3
    go_ret
    exact ⟨by rw [← HR.out]; rfl, (M.out.2)⟩
  | true =>
    have y0 := (M.out.1).c4; have p0_0 := y0.1; have q0_0 := y0.2.1; have p0_1 := y0.2.2.1; have q0_1 := y0.2.2.2.1; have p0_2 := y0.2.2.2.2.1; have q0_2 := y0.2.2.2.2.2.1; have p0_3 := y0.2.2.2.2.2.2.1; have q0_3 := y0.2.2.2.2.2.2.2; clear y0
    go_wp2_with fail
    clear p0_0 q0_0 p0_1 q0_1 p0_2 q0_2 p0_3 q0_3
    go_ret
    exact ⟨by rw [← HR.out]; rfl, (M.out.2)⟩
/-- Right or not. -/
def zOf (s : Int) (l : List Int) : Int := s * (val (l.map Int.toNat) : Int)
def rightF (s : Int) (l : List Int) (t : Int) (m : List Int) : Bool := rightB s l && rightB t m && rightP (zOf s l) (zOf t m)
theorem zOf_right {s : Int} {l : List Int} {z : Int} (h : s = sg z) (hl : l = ints (digs z.natAbs)) : zOf s l = z := by
  subst h hl
  unfold zOf
  have : (ints (digs z.natAbs)).map Int.toNat = digs z.natAbs := by
    unfold ints; rw [List.map_map]
    conv => rhs; rw [← List.map_id (digs z.natAbs)]
    exact List.map_congr_left fun d _ => by simp
  rw [this, val_digs]; exact (abs_sg z).symm
theorem bigRight_len {s : Int} {a : Option Addr} {n c : Nat} {l : List Int} {b : Bool} {w : World} (h : RdZ w (.slice a n c) l) (hn : n ≤ 1099511627776) (hb : rightB s l = b) :
    Calls Try.prog 61 #[.agg #[.int .i64 s, .slice a n c]] w fun e w' => e = .returned (.bool b) ∧ Below w.heap.size w w' := by
  obtain ⟨a', c', hv, hc⟩ := h
  cases hv
  exact bigRight_raw ⟨_, _, rfl, hc⟩ hn hb
set_option maxRecDepth 100000 in
set_option maxHeartbeats 4000000 in
theorem fracRight_n1 {s t : Int} {l m : List Int} {a b : Option Addr} {c d : Nat} {w : World} (h1 : RdZ w (.slice a l.length c) l) (k1 : RdZ w (.slice b m.length d) m) (hl : l.length ≤ 1099511627776) (hm : m.length ≤ 1099511627776) (hrl : rightB s l = false) :
    Calls Try.prog 41 #[.agg #[.int .i64 s, .slice a l.length c, .int .i64 t, .slice b m.length d]] w fun e w' => e = .returned (.bool false) ∧ Below w.heap.size w w' := by
  have HL := Lib.hid hl; have HM := Lib.hid hm; have HRl := Lib.hid hrl; clear hl hm hrl
  have H1 : Hid (RdZ w (.slice a l.length c) l) := h1
  have K1 : Hid (RdZ w (.slice b m.length d) m) := k1
  clear h1 k1
  have M : Hid (Below w.heap.size w w) := Below.refl _ _
  go_enter Try.func41, Try.ntmps41
  go_upto_region 1 with fail
  obtain ⟨w1, hv⟩ : ∃ w_ : World, w_ = (w.alloc (.cells #[.int .i64 s, .slice a l.length c, .int .i64 t, .slice b m.length d] 26)) := ⟨_, rfl⟩
  rw [← hv]
  replace M := Lib.hid (And.intro (hv ▸ bx1 w 26 #[.int .i64 s, .slice a l.length c, .int .i64 t, .slice b m.length d]) (Goes.go M.out (hv ▸ below_alloc _ _ : Below w.heap.size w w1)))
  clear hv
  have y0 := (M.out.1).c4; have p0_0 := y0.1; have q0_0 := y0.2.1; have p0_1 := y0.2.2.1; have q0_1 := y0.2.2.2.1; have p0_2 := y0.2.2.2.2.1; have q0_2 := y0.2.2.2.2.2.1; have p0_3 := y0.2.2.2.2.2.2.1; have q0_3 := y0.2.2.2.2.2.2.2; clear y0
  go_wp2_with fail
  clear p0_0 q0_0 p0_1 q0_1 p0_2 q0_2 p0_3 q0_3
  refine (bigRight_len (s := s) (l := l) (b := false) (H1.out.keep (M.out.2)) HL.out HRl.out).mono ?_
  rintro e w2 ⟨rfl, hb⟩
  replace M := Lib.hid (Goes.go M.out hb)
  clear hb
  go_wp2_with fail
  go_ret
  exact ⟨rfl, (M.out.2)⟩
set_option maxRecDepth 100000 in
set_option maxHeartbeats 4000000 in
theorem fracRight_n2 {s t : Int} {l m : List Int} {a b : Option Addr} {c d : Nat} {w : World} (h1 : RdZ w (.slice a l.length c) l) (k1 : RdZ w (.slice b m.length d) m) (hl : l.length ≤ 1099511627776) (hm : m.length ≤ 1099511627776) (hrl : rightB s l = true) (hrm : rightB t m = false) :
    Calls Try.prog 41 #[.agg #[.int .i64 s, .slice a l.length c, .int .i64 t, .slice b m.length d]] w fun e w' => e = .returned (.bool false) ∧ Below w.heap.size w w' := by
  have HL := Lib.hid hl; have HM := Lib.hid hm; have HRl := Lib.hid hrl; have HRm := Lib.hid hrm; clear hl hm hrl hrm
  have H1 : Hid (RdZ w (.slice a l.length c) l) := h1
  have K1 : Hid (RdZ w (.slice b m.length d) m) := k1
  clear h1 k1
  have M : Hid (Below w.heap.size w w) := Below.refl _ _
  go_enter Try.func41, Try.ntmps41
  go_upto_region 1 with fail
  obtain ⟨w1, hv⟩ : ∃ w_ : World, w_ = (w.alloc (.cells #[.int .i64 s, .slice a l.length c, .int .i64 t, .slice b m.length d] 26)) := ⟨_, rfl⟩
  rw [← hv]
  replace M := Lib.hid (And.intro (hv ▸ bx1 w 26 #[.int .i64 s, .slice a l.length c, .int .i64 t, .slice b m.length d]) (Goes.go M.out (hv ▸ below_alloc _ _ : Below w.heap.size w w1)))
  clear hv
  have y0 := (M.out.1).c4; have p0_0 := y0.1; have q0_0 := y0.2.1; have p0_1 := y0.2.2.1; have q0_1 := y0.2.2.2.1; have p0_2 := y0.2.2.2.2.1; have q0_2 := y0.2.2.2.2.2.1; have p0_3 := y0.2.2.2.2.2.2.1; have q0_3 := y0.2.2.2.2.2.2.2; clear y0
  go_wp2_with fail
  clear p0_0 q0_0 p0_1 q0_1 p0_2 q0_2 p0_3 q0_3
  refine (bigRight_len (s := s) (l := l) (b := true) (H1.out.keep (M.out.2)) HL.out HRl.out).mono ?_
  rintro e w2 ⟨rfl, hb⟩
  replace M := Lib.hid (Goes.go M.out hb)
  clear hb
  have y0 := (M.out.1).c4; have p0_0 := y0.1; have q0_0 := y0.2.1; have p0_1 := y0.2.2.1; have q0_1 := y0.2.2.2.1; have p0_2 := y0.2.2.2.2.1; have q0_2 := y0.2.2.2.2.2.1; have p0_3 := y0.2.2.2.2.2.2.1; have q0_3 := y0.2.2.2.2.2.2.2; clear y0
  go_wp2_with fail
  clear p0_0 q0_0 p0_1 q0_1 p0_2 q0_2 p0_3 q0_3
  refine (bigRight_len (s := t) (l := m) (b := false) (K1.out.keep (M.out.2)) HM.out HRm.out).mono ?_
  rintro e w3 ⟨rfl, hb⟩
  replace M := Lib.hid (Goes.go M.out hb)
  clear hb
  go_wp2_with fail
  go_ret
  exact ⟨rfl, (M.out.2)⟩
/-- A fraction's parts in memory, whatever they are. -/
structure FR (w : World) (a : Option Addr) (c : Nat) (b : Option Addr) (d : Nat) (l m : List Int) : Prop where
  n1 : RdZ w (.slice a l.length c) l
  d1 : RdZ w (.slice b m.length d) m
  n2 : l.length ≤ c
  d2 : m.length ≤ d
theorem FR.keep {w w' : World} {a b : Option Addr} {c d : Nat} {l m : List Int} (h : FR w a c b d l m) (hb : Below w.heap.size w w') : FR w' a c b d l m := ⟨h.n1.keep hb, h.d1.keep hb, h.n2, h.d2⟩
instance {w w' : World} {a b : Option Addr} {c d : Nat} {l m : List Int} : Goes (FR w a c b d l m) w w' (FR w' a c b d l m) := ⟨fun h hb => h.keep hb⟩
theorem bd_of_right' {s : Int} {a : Option Addr} {c : Nat} {l : List Int} {w : World} (h : RdZ w (.slice a l.length c) l) (hc : l.length ≤ c) (hr : rightB s l = true) : s = sg (zOf s l) ∧ l.length = Go.Proofs.Ytjbfngjlepafgaa.ln (zOf s l) ∧ BD w.heap.size w a c (zOf s l) := by
  obtain ⟨z, h1, h2⟩ := right_parts hr
  have hz := zOf_right h1 h2
  have hl : l.length = Go.Proofs.Ytjbfngjlepafgaa.ln z := by rw [h2, ints_len]; rfl
  rw [hz]
  refine ⟨h1, hl, ?_, by omega, ?_⟩
  · rw [← hl]; unfold RdN; rw [← h2]; exact h
  · rcases Nat.eq_zero_or_pos (Go.Proofs.Ytjbfngjlepafgaa.ln z) with h0 | h0
    · exact .inl h0
    · refine .inr fun b off hb => .inl ?_
      obtain ⟨b', off', he, hlt, -⟩ := h.at (k := 0) (by omega)
      rw [he] at hb; cases hb; exact hlt
theorem fracRight_raw {s t : Int} {l m : List Int} {a b : Option Addr} {c d : Nat} {r : Bool} {w : World} (h : FR w a c b d l m) (hl : l.length ≤ 549755813888) (hm : m.length ≤ 549755813888) (hr : rightF s l t m = r) :
    Calls Try.prog 41 #[.agg #[.int .i64 s, .slice a l.length c, .int .i64 t, .slice b m.length d]] w fun e w' => e = .returned (.bool r) ∧ Below w.heap.size w w' := by
  subst hr
  unfold rightF
  cases h1 : rightB s l with
  | false => exact fracRight_n1 h.n1 h.d1 (by omega) (by omega) h1
  | true =>
    cases h2 : rightB t m with
    | false => exact fracRight_n2 h.n1 h.d1 (by omega) (by omega) h1 h2
    | true =>
      obtain ⟨ex, lx, bx⟩ := bd_of_right' h.n1 h.n2 h1
      obtain ⟨ey, ly, by_⟩ := bd_of_right' h.d1 h.d2 h2
      have := fracRight_bd bx by_ (show Go.Proofs.Ytjbfngjlepafgaa.ln _ ≤ _ by omega) (show Go.Proofs.Ytjbfngjlepafgaa.ln _ ≤ _ by omega) rfl
      rw [← ex, ← lx, ← ey, ← ly] at this
      exact this
/-- A right fraction is a rational number. -/
theorem fd_of_right {s t : Int} {l m : List Int} {a b : Option Addr} {c d : Nat} {w : World} (h : FR w a c b d l m) (hr : rightF s l t m = true) :
    ∃ q : Rat, s = sg (nu q) ∧ l.length = Go.Proofs.Ytjbfngjlepafgaa.ln (nu q) ∧ t = sg (de q) ∧ m.length = Go.Proofs.Ytjbfngjlepafgaa.ln (de q) ∧ FD w.heap.size w a c b d q := by
  unfold rightF at hr
  rw [Bool.and_eq_true, Bool.and_eq_true] at hr
  obtain ⟨⟨h1, h2⟩, h3⟩ := hr
  obtain ⟨ex, lx, bx⟩ := bd_of_right' h.n1 h.n2 h1
  obtain ⟨ey, ly, by_⟩ := bd_of_right' h.d1 h.d2 h2
  obtain ⟨e1, e2⟩ := rightP_parts h3
  exact ⟨Rat.divInt (zOf s l) (zOf t m), by rw [e1]; exact ex, by rw [e1]; exact lx, by rw [e2]; exact ey, by rw [e2]; exact ly, ⟨by rw [e1]; exact bx, by rw [e2]; exact by_⟩⟩
theorem fracRight_len {s t : Int} {l m : List Int} {n k : Nat} {a b : Option Addr} {c d : Nat} {r : Bool} {w : World} (h : FR w a c b d l m) (hn : l.length = n) (hk : m.length = k) (hl : n ≤ 549755813888) (hm : k ≤ 549755813888) (hr : rightF s l t m = r) :
    Calls Try.prog 41 #[.agg #[.int .i64 s, .slice a n c, .int .i64 t, .slice b k d]] w fun e w' => e = .returned (.bool r) ∧ Below w.heap.size w w' := by
  subst hn hk
  exact fracRight_raw h hl hm hr
theorem fz_lit {q : Rat} {x y : Int} (h : q = Rat.divInt x y) (hx : Sz x 10) (hy : Sz y 10) (h0 : y ≠ 0) : Fz q 10 := by subst h; exact new_size_any hx hy h0
theorem ordQ_swap (q r : Rat) : ordQ r q = -ordQ q r := by
  unfold ordQ
  by_cases h : q < r
  · rw [if_pos h, if_neg (by grind), if_pos h]; rfl
  · by_cases h' : r < q
    · rw [if_pos h', if_neg h, if_pos h']
    · rw [if_neg h, if_neg h', if_neg h', if_neg h]; rfl
theorem ordQ_ge {q r : Rat} (h : r < q) : ordQ q r = 1 := by unfold ordQ; rw [if_neg (by grind), if_pos h]
theorem ordQ_up {q r : Rat} (h : q ≤ r) : ¬ 0 < ordQ q r := by
  unfold ordQ; split
  · decide
  · rw [if_neg (by grind)]; decide
def divO (q r : Rat) : Option Rat := if r = 0 then none else some (q / r)
def divE (r : Rat) : Int := if r = 0 then 15 else 0
theorem fracDiv_any {q r : Rat} {o : Option Rat} {er : Int} {a1 b1 a2 b2 : Option Addr} {c1 d1 c2 d2 : Nat} {w : World} (hG : G ≤ w.heap.size) (h1 : FD G w a1 c1 b1 d1 q) (h2 : FD G w a2 c2 b2 d2 r) (hx : Fz q 137438953472) (hy : Fz r 137438953472) (ho : divO q r = o) (he : divE r = er) :
    Calls Try.prog 49 #[.agg #[.int .i64 (sg (nu q)), .slice a1 (ln (nu q)) c1, .int .i64 (sg (de q)), .slice b1 (ln (de q)) d1], .agg #[.int .i64 (sg (nu r)), .slice a2 (ln (nu r)) c2, .int .i64 (sg (de r)), .slice b2 (ln (de r)) d2]] w fun e w' => ∃ a c b d, e = .returned (.tuple #[.agg #[.int .i64 (sg (oN o)), .slice a (ln (oN o)) c, .int .i64 (sg (oD o)), .slice b (ln (oD o)) d], .int .i64 er]) ∧ BD G w' a c (oN o) ∧ BD G w' b d (oD o) ∧ Below w.heap.size w w' := by
  subst ho he
  unfold divO divE
  by_cases h : r = 0
  · rw [if_pos h, if_pos h]
    refine (fracDiv_zero hG h1 h2 hx hy h).mono ?_
    rintro e w' ⟨rfl, hb⟩
    exact ⟨none, 0, none, 0, rfl, bd_zero _ _ _, bd_zero _ _ _, hb⟩
  · rw [if_neg h, if_neg h]
    refine (fracDiv_ok hG h1 h2 hx hy h).mono ?_
    rintro e w' ⟨a, c, b, d, rfl, hf, hb⟩
    exact ⟨a, c, b, d, rfl, hf.n, hf.d, hb⟩
end Go.Proofs.Ytjbfngjlepafgaa
