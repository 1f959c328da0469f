/- Scale: the error of a reading. -/
import Derived.Test.YtpjpkcelajbfnaaScaleA
import Derived.Test.YtpjpkcelajbfnaaAw
import Derived.Test.YtpjpkcelajbfnaaFz
import Derived.Test.YtpjpkcelajbfnaaFracC
import Derived.Test.YtpjpkcelajbfnaaRefN
namespace Go.Proofs.Ytpjpkcelajbfnaa
open Go.RowKit
variable {G : Nat}

theorem covers_is {s f u n p d day : Int} {b : Bool} (h : coversC ⟨s, f, u, n, p, d⟩ day = b) (w : World) :
    Calls Try.prog 27 #[.agg #[.int .i64 s, .int .i64 f, .int .i64 u, .int .i64 n, .int .i64 p, .int .i64 d], .int .i64 day] w fun e w' => e = .returned (.bool b) ∧ Below w.heap.size w w' := by
  rw [← h]; exact covers_ok ⟨s, f, u, n, p, d⟩ day w
theorem within_is {n m : Int} {b : Bool} (h : inR n 0 m = b) (w : World) :
    Calls Try.prog 29 #[.int .i64 n, .int .i64 m] w fun e w' => e = .returned (.bool b) ∧ w = w' := by
  rw [← h]; exact within_ok n m w
/-- The error of a reading by a certificate. -/
def errQ (c : Ct) (rd day : Int) : Rat := Rat.divInt (c.p * rd) 1000 + ((c.n + c.d * (day - c.f) : Int) : Rat)
def hasE (c : Ct) (rd day : Int) : Bool := coversC c day && inR rd 0 1099511627776
theorem covers_bounds {c : Ct} {day : Int} (h : coversC c day = true) : 0 ≤ c.f ∧ c.f ≤ day ∧ day ≤ 100000 ∧ 0 ≤ c.n ∧ c.n ≤ 1099511627776 ∧ 0 ≤ c.p ∧ c.p ≤ 1000 ∧ 0 ≤ c.d ∧ c.d ≤ 10000000 := by
  simp [coversC, rightC, daysC, inR] at h; omega
theorem err_bounds {c : Ct} {rd day : Int} (h : coversC c day = true) (h' : inR rd 0 1099511627776 = true) :
    (0 ≤ c.p * rd ∧ c.p * rd ≤ 1099511627776000) ∧ (0 ≤ c.d * (day - c.f) ∧ c.d * (day - c.f) ≤ 1000000000000) := by
  have hb := covers_bounds h
  simp [inR] at h'
  refine ⟨⟨Int.mul_nonneg (by omega) (by omega), ?_⟩, ⟨Int.mul_nonneg (by omega) (by omega), ?_⟩⟩
  · have := Int.mul_le_mul (show c.p ≤ 1000 by omega) (show rd ≤ 1099511627776 by omega) (by omega) (by omega); omega
  · have := Int.mul_le_mul (show c.d ≤ 10000000 by omega) (show day - c.f ≤ 100000 by omega) (by omega) (by omega); omega

set_option maxHeartbeats 4000000 in
theorem scError_yes {s f u n p d rd day : Int} {w : World} (hG : G ≤ w.heap.size) (h1 : coversC ⟨s, f, u, n, p, d⟩ day = true) (h2 : inR rd 0 1099511627776 = true) :
    Calls Try.prog 12 #[.agg #[.int .i64 s, .int .i64 f, .int .i64 u, .int .i64 n, .int .i64 p, .int .i64 d], .int .i64 rd, .int .i64 day] w fun e w' => ∃ a c b d', e = .returned (.tuple #[.agg #[.int .i64 (sg (nu (errQ ⟨s, f, u, n, p, d⟩ rd day))), .slice a (ln (nu (errQ ⟨s, f, u, n, p, d⟩ rd day))) c, .int .i64 (sg (de (errQ ⟨s, f, u, n, p, d⟩ rd day))), .slice b (ln (de (errQ ⟨s, f, u, n, p, d⟩ rd day))) d'], .bool true]) ∧ FD G w' a c b d' (errQ ⟨s, f, u, n, p, d⟩ rd day) ∧ Below w.heap.size w w' := by
  have hb := covers_bounds h1
  have he := err_bounds h1 h2
  dsimp only at hb he
  have H1 := Lib.hid h1
  have H2 := Lib.hid h2
  have w1_ : IntKind.i64.wrap (p * rd) = p * rd := IntWalk.i64_in _ (by omega)
  have w2_ : IntKind.i64.wrap (d * (day - f)) = d * (day - f) := IntWalk.i64_in _ (by omega)
  have w3_ : IntKind.i64.wrap (day - f) = day - f := IntWalk.i64_in _ (by omega)
  have w4_ : IntKind.i64.wrap (n + d * (day - f)) = n + d * (day - f) := IntWalk.i64_in _ (by omega)
  have HE : Hid (errQ ⟨s, f, u, n, p, d⟩ rd day = Rat.divInt (p * rd) 1000 + ((n + d * (day - f) : Int) : Rat)) := rfl
  have HP : Hid (-9223372036854775808 ≤ p * rd ∧ p * rd ≤ 9223372036854775807) := by show _ ∧ _; omega
  have HI : Hid (-9223372036854775808 ≤ n + d * (day - f) ∧ n + d * (day - f) ≤ 9223372036854775807) := by show _ ∧ _; omega
  clear h1 h2 he
  have M : Hid (Below w.heap.size w w) := Below.refl _ _
  go_enter Try.func12, Try.ntmps12
  go_wp2_with fail
  obtain ⟨w1, hv⟩ : ∃ x, x = ((w.alloc (.cells #[.int .i64 s, .int .i64 f, .int .i64 u, .int .i64 n, .int .i64 p, .int .i64 d] 25)).alloc (.cells #[.int .i64 0, .slice none 0 0, .int .i64 0, .slice none 0 0] 34)) := ⟨_, rfl⟩
  rw [← hv]
  have hbx := bx2 w 25 34 #[.int .i64 s, .int .i64 f, .int .i64 u, .int .i64 n, .int .i64 p, .int .i64 d] #[.int .i64 0, .slice none 0 0, .int .i64 0, .slice none 0 0]
  rw [← hv] at hbx
  have hbn : Below w.heap.size w w1 := by rw [hv]; exact (Below.alloc (Below.alloc (Below.refl _ _) (by simp) _) (by simp) _)
  replace M := Lib.hid (And.intro hbx.2 (And.intro hbx.1 (Goes.go M.out hbn)))
  clear hbx hbn
  clear hv
  refine (covers_is (s := s) (f := f) (u := u) (n := n) (p := p) (d := d) (day := day) (b := true) H1.out _).mono ?_
  rintro e w2 ⟨rfl, hb⟩
  replace M := Lib.hid (Goes.go M.out hb)
  clear hb
  go_wp2_with fail
  refine (within_is (n := rd) (m := 1099511627776) (b := true) H2.out _).mono ?_
  rintro e _ ⟨rfl, rfl⟩
  obtain ⟨p0_0, q0_0, p0_1, q0_1, p0_2, q0_2, p0_3, q0_3, p0_4, q0_4, p0_5, q0_5⟩ := (M.out.2.1).c6
  go_wp2_with fail
  clear p0_0 q0_0 p0_1 q0_1 p0_2 q0_2 p0_3 q0_3 p0_4 q0_4 p0_5 q0_5
  obtain ⟨q5, eq5⟩ : ∃ x : Rat, x = (Rat.divInt (p * rd) 1000) := ⟨_, rfl⟩
  refine (fracOf_pos (G := G) (p * rd) 1000 _ HP.out (by omega) (by omega)).mono ?_
  rintro e w3 ⟨a_1, c_2, b_3, d_4, rfl, hd6, hb⟩
  rw [← eq5] at hd6 ⊢
  have Sq5 : Hid (Fz q5 4) := by show Fz q5 4; rw [eq5]; exact (Fz.of64 HP.out (by omega) (by omega))
  have Eq5 := Lib.hid eq5; clear eq5
  replace M := Lib.hid (And.intro hd6 (Goes.go M.out hb))
  clear hb hd6
  go_wp2_with fail
  obtain ⟨w4, hv⟩ : ∃ x, x = (w3.alloc (.cells #[.int .i64 (sg (nu q5)), .slice a_1 (ln (nu q5)) c_2, .int .i64 (sg (de q5)), .slice b_3 (ln (de q5)) d_4] 34)) := ⟨_, rfl⟩
  rw [← hv]
  have o2 : w.heap.size + 1 < w3.heap.size := ((M.out.2.1)).lt
  replace M := Lib.hid (And.intro (hv ▸ bx1 w3 34 #[.int .i64 (sg (nu q5)), .slice a_1 (ln (nu q5)) c_2, .int .i64 (sg (de q5)), .slice b_3 (ln (de q5)) d_4]) (Goes.go M.out (hv ▸ below_alloc _ _ : Below w3.heap.size w3 w4)))
  clear hv
  obtain ⟨w5, hv⟩ : ∃ x, x = w4.drew := ⟨_, rfl⟩
  replace M := Lib.hid (Goes.go M.out (hv ▸ below_drew _ : Below w4.heap.size w4 w5))
  refine wp_region_held_drew (S := (fun w' => w'.cell? ⟨w.heap.size, 0, none⟩ = some (.int .i64 s) ∧ w'.cell? ⟨w.heap.size, 1, none⟩ = some (.int .i64 f) ∧ w'.cell? ⟨w.heap.size, 2, none⟩ = some (.int .i64 u) ∧ w'.cell? ⟨w.heap.size, 3, none⟩ = some (.int .i64 n) ∧ w'.cell? ⟨w.heap.size, 4, none⟩ = some (.int .i64 p) ∧ w'.cell? ⟨w.heap.size, 5, none⟩ = some (.int .i64 d) ∧ w'.cell? ⟨w3.heap.size, 0, none⟩ = some (.int .i64 (sg (nu q5))) ∧ w'.cell? ⟨w3.heap.size, 1, none⟩ = some (.slice a_1 (ln (nu q5)) c_2) ∧ w'.cell? ⟨w3.heap.size, 2, none⟩ = some (.int .i64 (sg (de q5))) ∧ w'.cell? ⟨w3.heap.size, 3, none⟩ = some (.slice b_3 (ln (de q5)) d_4))) (by kernel_rfl) (by rw [← hv]; exact ⟨(M.out.2.2.2.1).at.1 0, (M.out.2.2.2.1).at.1 1, (M.out.2.2.2.1).at.1 2, (M.out.2.2.2.1).at.1 3, (M.out.2.2.2.1).at.1 4, (M.out.2.2.2.1).at.1 5, (M.out.1).at.1 0, (M.out.1).at.1 1, (M.out.1).at.1 2, (M.out.1).at.1 3⟩) (fun hH19 => ?_)
  rw [← hv] at hH19 ⊢
  clear hv
  refine tk at0 ?_
  refine tk at1 ?_
  refine tk at2 ?_
  refine tk at3 ?_
  refine tk at4 ?_
  refine tk at5 ?_
  refine tk at6 ?_
  refine tk at7 ?_
  refine tk at8 ?_
  refine tk at9 ?_
  refine tk at10 ?_
  clear w1_ w2_ w3_ w4_
  refine wpAnyH_ready (rs := [11, 16]) (by kernel_rfl) (by simp) ?_
  refine AllReadyH.cons at11 (fun K hK => ?_) ?_
  ·
    go_simp
    obtain ⟨q24, eq24⟩ : ∃ x : Rat, x = (((n + d * (day - f)) : Int) : Rat) := ⟨_, rfl⟩
    refine (fracInt_ok (G := G) (n + d * (day - f)) _ HI.out).mono ?_
    rintro e w6 ⟨a_20, c_21, b_22, d_23, rfl, hd25, hb⟩
    rw [← eq24] at hd25 ⊢
    have Sq24 : Hid (Fz q24 4) := by show Fz q24 4; rw [eq24]; exact (Fz.int64 HI.out)
    have Eq24 := Lib.hid eq24; clear eq24
    replace M := Lib.hid (And.intro hd25 (Goes.go M.out hb))
    clear hb hd25
    (try go_wp2_with fail)
    refine hK.out _ _ (⟨(M.out.2.2.2.2.1).at.1 0, (M.out.2.2.2.2.1).at.1 1, (M.out.2.2.2.2.1).at.1 2, (M.out.2.2.2.2.1).at.1 3, (M.out.2.2.2.2.1).at.1 4, (M.out.2.2.2.2.1).at.1 5, (M.out.2.1).at.1 0, (M.out.2.1).at.1 1, (M.out.2.1).at.1 2, (M.out.2.1).at.1 3⟩) (fun hH26 => ?_)
    clear hK K hH19
    (try simp only [Act.put, List.setIfInBounds_toArray, List.set_cons_zero, List.set_cons_succ])
    refine wpAnyH_ready (rs := [12, 16]) (by kernel_rfl) (by simp) ?_
    refine AllReadyH.cons at12 (fun K hK => ?_) ?_
    ·
      go_simp
      obtain ⟨q31, eq31⟩ : ∃ x : Rat, x = (q5 + q24) := ⟨_, rfl⟩
      refine (fracAdd_ok (q := q5) (r := q24) (M.out.2.2.1) (M.out.1) (Fz.mono Sq5.out (by omega)) (Fz.mono Sq24.out (by omega))).mono ?_
      rintro e w7 ⟨a_27, c_28, b_29, d_30, rfl, hd32, hb⟩
      rw [← eq31] at hd32 ⊢
      have Sq31 : Hid (Fz q31 9) := by show Fz q31 9; rw [eq31]; exact (Fz.add Sq5.out Sq24.out)
      have Eq31 := Lib.hid eq31; clear eq31
      replace M := Lib.hid (And.intro hd32 (Goes.go M.out hb))
      clear hb hd32
      (try go_wp2_with fail)
      refine hK.out _ _ (⟨(M.out.2.2.2.2.2.1).at.1 0, (M.out.2.2.2.2.2.1).at.1 1, (M.out.2.2.2.2.2.1).at.1 2, (M.out.2.2.2.2.2.1).at.1 3, (M.out.2.2.2.2.2.1).at.1 4, (M.out.2.2.2.2.2.1).at.1 5, (M.out.2.2.1).at.1 0, (M.out.2.2.1).at.1 1, (M.out.2.2.1).at.1 2, (M.out.2.2.1).at.1 3⟩) (fun hH33 => ?_)
      clear hK K hH26
      (try simp only [Act.put, List.setIfInBounds_toArray, List.set_cons_zero, List.set_cons_succ])
      refine tk at13 ?_
      refine tk at14 ?_
      refine tk at15 ?_
      refine wpAnyH_ready (rs := [16]) (by kernel_rfl) (by simp) ?_
      refine AllReadyH.cons at16 (fun K hK => ?_) AllReadyH.nil
      go_simp
      obtain ⟨w8, hv⟩ : ∃ x, x = (w7.alloc (.cells #[.int .i64 0, .slice none 0 0, .int .i64 0, .slice none 0 0] 34)) := ⟨_, rfl⟩
      rw [← hv]
      have o3 : w3.heap.size < w7.heap.size := ((M.out.2.2.1)).lt
      replace M := Lib.hid (And.intro (hv ▸ bx1 w7 34 #[.int .i64 0, .slice none 0 0, .int .i64 0, .slice none 0 0]) (Goes.go M.out (hv ▸ below_alloc _ _ : Below w7.heap.size w7 w8)))
      clear hv
      refine hK.out _ _ (⟨(M.out.2.2.2.2.2.2.1).at.1 0, (M.out.2.2.2.2.2.2.1).at.1 1, (M.out.2.2.2.2.2.2.1).at.1 2, (M.out.2.2.2.2.2.2.1).at.1 3, (M.out.2.2.2.2.2.2.1).at.1 4, (M.out.2.2.2.2.2.2.1).at.1 5, (M.out.2.2.2.1).at.1 0, (M.out.2.2.2.1).at.1 1, (M.out.2.2.2.1).at.1 2, (M.out.2.2.2.1).at.1 3⟩) (fun hH34 => ?_)
      clear hK K hH33
      (try simp only [Act.put, List.setIfInBounds_toArray, List.set_cons_zero, List.set_cons_succ])
      refine wpAnyH_ready (rs := [17]) (by kernel_rfl) (by simp) ?_
      refine AllReadyH.cons at17 (fun K hK => ?_) AllReadyH.nil
      obtain ⟨p3_0, q3_0, p3_1, q3_1, p3_2, q3_2, p3_3, q3_3⟩ := (M.out.1).c4
      go_simp
      clear p3_0 q3_0 p3_1 q3_1 p3_2 q3_2 p3_3 q3_3
      obtain ⟨w9, hv⟩ : ∃ x, x = ((((w8.setCell ⟨w7.heap.size, 0, none⟩ (.int .i64 (sg (nu q31)))).setCell ⟨w7.heap.size, 1, none⟩ (.slice a_27 (ln (nu q31)) c_28)).setCell ⟨w7.heap.size, 2, none⟩ (.int .i64 (sg (de q31)))).setCell ⟨w7.heap.size, 3, none⟩ (.slice b_29 (ln (de q31)) d_30)) := ⟨_, rfl⟩
      rw [← hv]
      have og : w8.grownBy w9 (some w7.heap.size) := by rw [hv]; exact (only_setCell (only_setCell (only_setCell (only_setCell (World.grownBy.refl _ _) _) _) _) _)
      have hz : w.heap.size ≤ w7.heap.size := by omega
      have hk : Bx w9 w7.heap.size 34 #[.int .i64 (sg (nu q31)), .slice a_27 (ln (nu q31)) c_28, .int .i64 (sg (de q31)), .slice b_29 (ln (de q31)) d_30] := by rw [hv]; exact (((((M.out.1).set 0 _).set 1 _).set 2 _).set 3 _)
      have hbw : Below w.heap.size w w9 := by rw [hv]; exact (Below.setCell (Below.setCell (Below.setCell (Below.setCell (M.out.2.2.2.2.2.2.2) (by omega) _) (by omega) _) (by omega) _) (by omega) _)
      replace M := Lib.hid (And.intro hk (And.intro ((M.out.2.1).far (M.out.1) (by rfl) (by omega) og) (And.intro ((M.out.2.2.1).far (M.out.1) (by rfl) (by omega) og) (And.intro ((M.out.2.2.2.1).only og (by omega)) (And.intro ((M.out.2.2.2.2.1).far (M.out.1) (by rfl) (by omega) og) (And.intro ((M.out.2.2.2.2.2.1).only og (by omega)) (And.intro ((M.out.2.2.2.2.2.2.1).only og (by omega)) hbw)))))))
      clear hk hbw og hv hz
      refine hK.out _ _ (⟨(M.out.2.2.2.2.2.2.1).at.1 0, (M.out.2.2.2.2.2.2.1).at.1 1, (M.out.2.2.2.2.2.2.1).at.1 2, (M.out.2.2.2.2.2.2.1).at.1 3, (M.out.2.2.2.2.2.2.1).at.1 4, (M.out.2.2.2.2.2.2.1).at.1 5, (M.out.2.2.2.1).at.1 0, (M.out.2.2.2.1).at.1 1, (M.out.2.2.2.1).at.1 2, (M.out.2.2.2.1).at.1 3⟩) (fun hH35 => ?_)
      clear hK K hH34
      (try simp only [Act.put, List.setIfInBounds_toArray, List.set_cons_zero, List.set_cons_succ])
      refine tk at18 ?_
      refine wpAnyH_done (by kernel_rfl) ?_ _
      clear hH35
      obtain ⟨p3_0, q3_0, p3_1, q3_1, p3_2, q3_2, p3_3, q3_3⟩ := (M.out.1).c4
      obtain ⟨p1_0, q1_0, p1_1, q1_1, p1_2, q1_2, p1_3, q1_3⟩ := (M.out.2.2.2.2.2.1).c4
      go_wp2_with fail
      clear p3_0 q3_0 p3_1 q3_1 p3_2 q3_2 p3_3 q3_3 p1_0 q1_0 p1_1 q1_1 p1_2 q1_2 p1_3 q1_3
      obtain ⟨w10, hv⟩ : ∃ x, x = ((((w9.setCell ⟨w.heap.size + 1, 0, none⟩ (.int .i64 (sg (nu q31)))).setCell ⟨w.heap.size + 1, 1, none⟩ (.slice a_27 (ln (nu q31)) c_28)).setCell ⟨w.heap.size + 1, 2, none⟩ (.int .i64 (sg (de q31)))).setCell ⟨w.heap.size + 1, 3, none⟩ (.slice b_29 (ln (de q31)) d_30)) := ⟨_, rfl⟩
      rw [← hv]
      have og : w9.grownBy w10 (some (w.heap.size + 1)) := by rw [hv]; exact (only_setCell (only_setCell (only_setCell (only_setCell (World.grownBy.refl _ _) _) _) _) _)
      have hz : w.heap.size ≤ w.heap.size + 1 := by omega
      have hk : Bx w10 (w.heap.size + 1) 34 #[.int .i64 (sg (nu q31)), .slice a_27 (ln (nu q31)) c_28, .int .i64 (sg (de q31)), .slice b_29 (ln (de q31)) d_30] := by rw [hv]; exact (((((M.out.2.2.2.2.2.1).set 0 _).set 1 _).set 2 _).set 3 _)
      have hbw : Below w.heap.size w w10 := by rw [hv]; exact (Below.setCell (Below.setCell (Below.setCell (Below.setCell (M.out.2.2.2.2.2.2.2) (by omega) _) (by omega) _) (by omega) _) (by omega) _)
      replace M := Lib.hid (And.intro ((M.out.1).only og (by omega)) (And.intro ((M.out.2.1).far (M.out.2.2.2.2.2.1) (by rfl) (by omega) og) (And.intro ((M.out.2.2.1).far (M.out.2.2.2.2.2.1) (by rfl) (by omega) og) (And.intro ((M.out.2.2.2.1).only og (by omega)) (And.intro ((M.out.2.2.2.2.1).far (M.out.2.2.2.2.2.1) (by rfl) (by omega) og) (And.intro hk (And.intro ((M.out.2.2.2.2.2.2.1).only og (by omega)) hbw)))))))
      clear hk hbw og hv hz
      have HR : errQ ⟨s, f, u, n, p, d⟩ rd day = q31 := by rw [HE.out, Eq31.out, Eq5.out, Eq24.out]
      rw [HR]
      refine bodyPost_ret (results_box2 rfl _ _ (w.heap.size + 1) 34 _ _ _ rfl (M.out.2.2.2.2.2.1) Try.underlying34 rfl (by kernel_rfl)) rfl ?_
      exact ⟨_, _, _, _, rfl, (M.out.2.1), (M.out.2.2.2.2.2.2.2)⟩
    refine AllReadyH.cons at16 (fun K hK => ?_) AllReadyH.nil
    go_simp
    obtain ⟨w7, hv⟩ : ∃ x, x = (w6.alloc (.cells #[.int .i64 0, .slice none 0 0, .int .i64 0, .slice none 0 0] 34)) := ⟨_, rfl⟩
    rw [← hv]
    have o3 : w3.heap.size < w6.heap.size := ((M.out.2.1)).lt
    replace M := Lib.hid (And.intro (hv ▸ bx1 w6 34 #[.int .i64 0, .slice none 0 0, .int .i64 0, .slice none 0 0]) (Goes.go M.out (hv ▸ below_alloc _ _ : Below w6.heap.size w6 w7)))
    clear hv
    refine hK.out _ _ (⟨(M.out.2.2.2.2.2.1).at.1 0, (M.out.2.2.2.2.2.1).at.1 1, (M.out.2.2.2.2.2.1).at.1 2, (M.out.2.2.2.2.2.1).at.1 3, (M.out.2.2.2.2.2.1).at.1 4, (M.out.2.2.2.2.2.1).at.1 5, (M.out.2.2.1).at.1 0, (M.out.2.2.1).at.1 1, (M.out.2.2.1).at.1 2, (M.out.2.2.1).at.1 3⟩) (fun hH36 => ?_)
    clear hK K hH26
    (try simp only [Act.put, List.setIfInBounds_toArray, List.set_cons_zero, List.set_cons_succ])
    refine wpAnyH_ready (rs := [12]) (by kernel_rfl) (by simp) ?_
    refine AllReadyH.cons at12 (fun K hK => ?_) AllReadyH.nil
    go_simp
    obtain ⟨q41, eq41⟩ : ∃ x : Rat, x = (q5 + q24) := ⟨_, rfl⟩
    refine (fracAdd_ok (q := q5) (r := q24) (M.out.2.2.2.1) (M.out.2.1) (Fz.mono Sq5.out (by omega)) (Fz.mono Sq24.out (by omega))).mono ?_
    rintro e w8 ⟨a_37, c_38, b_39, d_40, rfl, hd42, hb⟩
    rw [← eq41] at hd42 ⊢
    have Sq41 : Hid (Fz q41 9) := by show Fz q41 9; rw [eq41]; exact (Fz.add Sq5.out Sq24.out)
    have Eq41 := Lib.hid eq41; clear eq41
    replace M := Lib.hid (And.intro hd42 (Goes.go M.out hb))
    clear hb hd42
    (try go_wp2_with fail)
    refine hK.out _ _ (⟨(M.out.2.2.2.2.2.2.1).at.1 0, (M.out.2.2.2.2.2.2.1).at.1 1, (M.out.2.2.2.2.2.2.1).at.1 2, (M.out.2.2.2.2.2.2.1).at.1 3, (M.out.2.2.2.2.2.2.1).at.1 4, (M.out.2.2.2.2.2.2.1).at.1 5, (M.out.2.2.2.1).at.1 0, (M.out.2.2.2.1).at.1 1, (M.out.2.2.2.1).at.1 2, (M.out.2.2.2.1).at.1 3⟩) (fun hH43 => ?_)
    clear hK K hH36
    (try simp only [Act.put, List.setIfInBounds_toArray, List.set_cons_zero, List.set_cons_succ])
    refine tk at13 ?_
    refine tk at14 ?_
    refine tk at15 ?_
    refine wpAnyH_ready (rs := [17]) (by kernel_rfl) (by simp) ?_
    refine AllReadyH.cons at17 (fun K hK => ?_) AllReadyH.nil
    obtain ⟨p3_0, q3_0, p3_1, q3_1, p3_2, q3_2, p3_3, q3_3⟩ := (M.out.2.1).c4
    go_simp
    clear p3_0 q3_0 p3_1 q3_1 p3_2 q3_2 p3_3 q3_3
    obtain ⟨w9, hv⟩ : ∃ x, x = ((((w8.setCell ⟨w6.heap.size, 0, none⟩ (.int .i64 (sg (nu q41)))).setCell ⟨w6.heap.size, 1, none⟩ (.slice a_37 (ln (nu q41)) c_38)).setCell ⟨w6.heap.size, 2, none⟩ (.int .i64 (sg (de q41)))).setCell ⟨w6.heap.size, 3, none⟩ (.slice b_39 (ln (de q41)) d_40)) := ⟨_, rfl⟩
    rw [← hv]
    have og : w8.grownBy w9 (some w6.heap.size) := by rw [hv]; exact (only_setCell (only_setCell (only_setCell (only_setCell (World.grownBy.refl _ _) _) _) _) _)
    have hz : w.heap.size ≤ w6.heap.size := by omega
    have hk : Bx w9 w6.heap.size 34 #[.int .i64 (sg (nu q41)), .slice a_37 (ln (nu q41)) c_38, .int .i64 (sg (de q41)), .slice b_39 (ln (de q41)) d_40] := by rw [hv]; exact (((((M.out.2.1).set 0 _).set 1 _).set 2 _).set 3 _)
    have hbw : Below w.heap.size w w9 := by rw [hv]; exact (Below.setCell (Below.setCell (Below.setCell (Below.setCell (M.out.2.2.2.2.2.2.2) (by omega) _) (by omega) _) (by omega) _) (by omega) _)
    replace M := Lib.hid (And.intro ((M.out.1).far (M.out.2.1) (by rfl) (by omega) og) (And.intro hk (And.intro ((M.out.2.2.1).far (M.out.2.1) (by rfl) (by omega) og) (And.intro ((M.out.2.2.2.1).only og (by omega)) (And.intro ((M.out.2.2.2.2.1).far (M.out.2.1) (by rfl) (by omega) og) (And.intro ((M.out.2.2.2.2.2.1).only og (by omega)) (And.intro ((M.out.2.2.2.2.2.2.1).only og (by omega)) hbw)))))))
    clear hk hbw og hv hz
    refine hK.out _ _ (⟨(M.out.2.2.2.2.2.2.1).at.1 0, (M.out.2.2.2.2.2.2.1).at.1 1, (M.out.2.2.2.2.2.2.1).at.1 2, (M.out.2.2.2.2.2.2.1).at.1 3, (M.out.2.2.2.2.2.2.1).at.1 4, (M.out.2.2.2.2.2.2.1).at.1 5, (M.out.2.2.2.1).at.1 0, (M.out.2.2.2.1).at.1 1, (M.out.2.2.2.1).at.1 2, (M.out.2.2.2.1).at.1 3⟩) (fun hH44 => ?_)
    clear hK K hH43
    (try simp only [Act.put, List.setIfInBounds_toArray, List.set_cons_zero, List.set_cons_succ])
    refine tk at18 ?_
    refine wpAnyH_done (by kernel_rfl) ?_ _
    clear hH44
    obtain ⟨p3_0, q3_0, p3_1, q3_1, p3_2, q3_2, p3_3, q3_3⟩ := (M.out.2.1).c4
    obtain ⟨p1_0, q1_0, p1_1, q1_1, p1_2, q1_2, p1_3, q1_3⟩ := (M.out.2.2.2.2.2.1).c4
    go_wp2_with fail
    clear p3_0 q3_0 p3_1 q3_1 p3_2 q3_2 p3_3 q3_3 p1_0 q1_0 p1_1 q1_1 p1_2 q1_2 p1_3 q1_3
    obtain ⟨w10, hv⟩ : ∃ x, x = ((((w9.setCell ⟨w.heap.size + 1, 0, none⟩ (.int .i64 (sg (nu q41)))).setCell ⟨w.heap.size + 1, 1, none⟩ (.slice a_37 (ln (nu q41)) c_38)).setCell ⟨w.heap.size + 1, 2, none⟩ (.int .i64 (sg (de q41)))).setCell ⟨w.heap.size + 1, 3, none⟩ (.slice b_39 (ln (de q41)) d_40)) := ⟨_, rfl⟩
    rw [← hv]
    have og : w9.grownBy w10 (some (w.heap.size + 1)) := by rw [hv]; exact (only_setCell (only_setCell (only_setCell (only_setCell (World.grownBy.refl _ _) _) _) _) _)
    have hz : w.heap.size ≤ w.heap.size + 1 := by omega
    have hk : Bx w10 (w.heap.size + 1) 34 #[.int .i64 (sg (nu q41)), .slice a_37 (ln (nu q41)) c_38, .int .i64 (sg (de q41)), .slice b_39 (ln (de q41)) d_40] := by rw [hv]; exact (((((M.out.2.2.2.2.2.1).set 0 _).set 1 _).set 2 _).set 3 _)
    have hbw : Below w.heap.size w w10 := by rw [hv]; exact (Below.setCell (Below.setCell (Below.setCell (Below.setCell (M.out.2.2.2.2.2.2.2) (by omega) _) (by omega) _) (by omega) _) (by omega) _)
    replace M := Lib.hid (And.intro ((M.out.1).far (M.out.2.2.2.2.2.1) (by rfl) (by omega) og) (And.intro ((M.out.2.1).only og (by omega)) (And.intro ((M.out.2.2.1).far (M.out.2.2.2.2.2.1) (by rfl) (by omega) og) (And.intro ((M.out.2.2.2.1).only og (by omega)) (And.intro ((M.out.2.2.2.2.1).far (M.out.2.2.2.2.2.1) (by rfl) (by omega) og) (And.intro hk (And.intro ((M.out.2.2.2.2.2.2.1).only og (by omega)) hbw)))))))
    clear hk hbw og hv hz
    have HR : errQ ⟨s, f, u, n, p, d⟩ rd day = q41 := by rw [HE.out, Eq41.out, Eq5.out, Eq24.out]
    rw [HR]
    refine bodyPost_ret (results_box2 rfl _ _ (w.heap.size + 1) 34 _ _ _ rfl (M.out.2.2.2.2.2.1) Try.underlying34 rfl (by kernel_rfl)) rfl ?_
    exact ⟨_, _, _, _, rfl, (M.out.1), (M.out.2.2.2.2.2.2.2)⟩
  refine AllReadyH.cons at16 (fun K hK => ?_) AllReadyH.nil
  go_simp
  obtain ⟨w6, hv⟩ : ∃ x, x = (w5.alloc (.cells #[.int .i64 0, .slice none 0 0, .int .i64 0, .slice none 0 0] 34)) := ⟨_, rfl⟩
  rw [← hv]
  have o3 : w3.heap.size < w5.heap.size := ((M.out.1)).lt
  replace M := Lib.hid (And.intro (hv ▸ bx1 w5 34 #[.int .i64 0, .slice none 0 0, .int .i64 0, .slice none 0 0]) (Goes.go M.out (hv ▸ below_alloc _ _ : Below w5.heap.size w5 w6)))
  clear hv
  refine hK.out _ _ (⟨(M.out.2.2.2.2.1).at.1 0, (M.out.2.2.2.2.1).at.1 1, (M.out.2.2.2.2.1).at.1 2, (M.out.2.2.2.2.1).at.1 3, (M.out.2.2.2.2.1).at.1 4, (M.out.2.2.2.2.1).at.1 5, (M.out.2.1).at.1 0, (M.out.2.1).at.1 1, (M.out.2.1).at.1 2, (M.out.2.1).at.1 3⟩) (fun hH45 => ?_)
  clear hK K hH19
  (try simp only [Act.put, List.setIfInBounds_toArray, List.set_cons_zero, List.set_cons_succ])
  refine wpAnyH_ready (rs := [11]) (by kernel_rfl) (by simp) ?_
  refine AllReadyH.cons at11 (fun K hK => ?_) AllReadyH.nil
  go_simp
  obtain ⟨q50, eq50⟩ : ∃ x : Rat, x = (((n + d * (day - f)) : Int) : Rat) := ⟨_, rfl⟩
  refine (fracInt_ok (G := G) (n + d * (day - f)) _ HI.out).mono ?_
  rintro e w7 ⟨a_46, c_47, b_48, d_49, rfl, hd51, hb⟩
  rw [← eq50] at hd51 ⊢
  have Sq50 : Hid (Fz q50 4) := by show Fz q50 4; rw [eq50]; exact (Fz.int64 HI.out)
  have Eq50 := Lib.hid eq50; clear eq50
  replace M := Lib.hid (And.intro hd51 (Goes.go M.out hb))
  clear hb hd51
  (try go_wp2_with fail)
  refine hK.out _ _ (⟨(M.out.2.2.2.2.2.1).at.1 0, (M.out.2.2.2.2.2.1).at.1 1, (M.out.2.2.2.2.2.1).at.1 2, (M.out.2.2.2.2.2.1).at.1 3, (M.out.2.2.2.2.2.1).at.1 4, (M.out.2.2.2.2.2.1).at.1 5, (M.out.2.2.1).at.1 0, (M.out.2.2.1).at.1 1, (M.out.2.2.1).at.1 2, (M.out.2.2.1).at.1 3⟩) (fun hH52 => ?_)
  clear hK K hH45
  (try simp only [Act.put, List.setIfInBounds_toArray, List.set_cons_zero, List.set_cons_succ])
  refine wpAnyH_ready (rs := [12]) (by kernel_rfl) (by simp) ?_
  refine AllReadyH.cons at12 (fun K hK => ?_) AllReadyH.nil
  go_simp
  obtain ⟨q57, eq57⟩ : ∃ x : Rat, x = (q5 + q50) := ⟨_, rfl⟩
  refine (fracAdd_ok (q := q5) (r := q50) (M.out.2.2.2.1) (M.out.1) (Fz.mono Sq5.out (by omega)) (Fz.mono Sq50.out (by omega))).mono ?_
  rintro e w8 ⟨a_53, c_54, b_55, d_56, rfl, hd58, hb⟩
  rw [← eq57] at hd58 ⊢
  have Sq57 : Hid (Fz q57 9) := by show Fz q57 9; rw [eq57]; exact (Fz.add Sq5.out Sq50.out)
  have Eq57 := Lib.hid eq57; clear eq57
  replace M := Lib.hid (And.intro hd58 (Goes.go M.out hb))
  clear hb hd58
  (try go_wp2_with fail)
  refine hK.out _ _ (⟨(M.out.2.2.2.2.2.2.1).at.1 0, (M.out.2.2.2.2.2.2.1).at.1 1, (M.out.2.2.2.2.2.2.1).at.1 2, (M.out.2.2.2.2.2.2.1).at.1 3, (M.out.2.2.2.2.2.2.1).at.1 4, (M.out.2.2.2.2.2.2.1).at.1 5, (M.out.2.2.2.1).at.1 0, (M.out.2.2.2.1).at.1 1, (M.out.2.2.2.1).at.1 2, (M.out.2.2.2.1).at.1 3⟩) (fun hH59 => ?_)
  clear hK K hH52
  (try simp only [Act.put, List.setIfInBounds_toArray, List.set_cons_zero, List.set_cons_succ])
  refine tk at13 ?_
  refine tk at14 ?_
  refine tk at15 ?_
  refine wpAnyH_ready (rs := [17]) (by kernel_rfl) (by simp) ?_
  refine AllReadyH.cons at17 (fun K hK => ?_) AllReadyH.nil
  obtain ⟨p3_0, q3_0, p3_1, q3_1, p3_2, q3_2, p3_3, q3_3⟩ := (M.out.2.2.1).c4
  go_simp
  clear p3_0 q3_0 p3_1 q3_1 p3_2 q3_2 p3_3 q3_3
  obtain ⟨w9, hv⟩ : ∃ x, x = ((((w8.setCell ⟨w5.heap.size, 0, none⟩ (.int .i64 (sg (nu q57)))).setCell ⟨w5.heap.size, 1, none⟩ (.slice a_53 (ln (nu q57)) c_54)).setCell ⟨w5.heap.size, 2, none⟩ (.int .i64 (sg (de q57)))).setCell ⟨w5.heap.size, 3, none⟩ (.slice b_55 (ln (de q57)) d_56)) := ⟨_, rfl⟩
  rw [← hv]
  have og : w8.grownBy w9 (some w5.heap.size) := by rw [hv]; exact (only_setCell (only_setCell (only_setCell (only_setCell (World.grownBy.refl _ _) _) _) _) _)
  have hz : w.heap.size ≤ w5.heap.size := by omega
  have hk : Bx w9 w5.heap.size 34 #[.int .i64 (sg (nu q57)), .slice a_53 (ln (nu q57)) c_54, .int .i64 (sg (de q57)), .slice b_55 (ln (de q57)) d_56] := by rw [hv]; exact (((((M.out.2.2.1).set 0 _).set 1 _).set 2 _).set 3 _)
  have hbw : Below w.heap.size w w9 := by rw [hv]; exact (Below.setCell (Below.setCell (Below.setCell (Below.setCell (M.out.2.2.2.2.2.2.2) (by omega) _) (by omega) _) (by omega) _) (by omega) _)
  replace M := Lib.hid (And.intro ((M.out.1).far (M.out.2.2.1) (by rfl) (by omega) og) (And.intro ((M.out.2.1).far (M.out.2.2.1) (by rfl) (by omega) og) (And.intro hk (And.intro ((M.out.2.2.2.1).only og (by omega)) (And.intro ((M.out.2.2.2.2.1).far (M.out.2.2.1) (by rfl) (by omega) og) (And.intro ((M.out.2.2.2.2.2.1).only og (by omega)) (And.intro ((M.out.2.2.2.2.2.2.1).only og (by omega)) hbw)))))))
  clear hk hbw og hv hz
  refine hK.out _ _ (⟨(M.out.2.2.2.2.2.2.1).at.1 0, (M.out.2.2.2.2.2.2.1).at.1 1, (M.out.2.2.2.2.2.2.1).at.1 2, (M.out.2.2.2.2.2.2.1).at.1 3, (M.out.2.2.2.2.2.2.1).at.1 4, (M.out.2.2.2.2.2.2.1).at.1 5, (M.out.2.2.2.1).at.1 0, (M.out.2.2.2.1).at.1 1, (M.out.2.2.2.1).at.1 2, (M.out.2.2.2.1).at.1 3⟩) (fun hH60 => ?_)
  clear hK K hH59
  (try simp only [Act.put, List.setIfInBounds_toArray, List.set_cons_zero, List.set_cons_succ])
  refine tk at18 ?_
  refine wpAnyH_done (by kernel_rfl) ?_ _
  clear hH60
  obtain ⟨p3_0, q3_0, p3_1, q3_1, p3_2, q3_2, p3_3, q3_3⟩ := (M.out.2.2.1).c4
  obtain ⟨p1_0, q1_0, p1_1, q1_1, p1_2, q1_2, p1_3, q1_3⟩ := (M.out.2.2.2.2.2.1).c4
  go_wp2_with fail
  clear p3_0 q3_0 p3_1 q3_1 p3_2 q3_2 p3_3 q3_3 p1_0 q1_0 p1_1 q1_1 p1_2 q1_2 p1_3 q1_3
  obtain ⟨w10, hv⟩ : ∃ x, x = ((((w9.setCell ⟨w.heap.size + 1, 0, none⟩ (.int .i64 (sg (nu q57)))).setCell ⟨w.heap.size + 1, 1, none⟩ (.slice a_53 (ln (nu q57)) c_54)).setCell ⟨w.heap.size + 1, 2, none⟩ (.int .i64 (sg (de q57)))).setCell ⟨w.heap.size + 1, 3, none⟩ (.slice b_55 (ln (de q57)) d_56)) := ⟨_, rfl⟩
  rw [← hv]
  have og : w9.grownBy w10 (some (w.heap.size + 1)) := by rw [hv]; exact (only_setCell (only_setCell (only_setCell (only_setCell (World.grownBy.refl _ _) _) _) _) _)
  have hz : w.heap.size ≤ w.heap.size + 1 := by omega
  have hk : Bx w10 (w.heap.size + 1) 34 #[.int .i64 (sg (nu q57)), .slice a_53 (ln (nu q57)) c_54, .int .i64 (sg (de q57)), .slice b_55 (ln (de q57)) d_56] := by rw [hv]; exact (((((M.out.2.2.2.2.2.1).set 0 _).set 1 _).set 2 _).set 3 _)
  have hbw : Below w.heap.size w w10 := by rw [hv]; exact (Below.setCell (Below.setCell (Below.setCell (Below.setCell (M.out.2.2.2.2.2.2.2) (by omega) _) (by omega) _) (by omega) _) (by omega) _)
  replace M := Lib.hid (And.intro ((M.out.1).far (M.out.2.2.2.2.2.1) (by rfl) (by omega) og) (And.intro ((M.out.2.1).far (M.out.2.2.2.2.2.1) (by rfl) (by omega) og) (And.intro ((M.out.2.2.1).only og (by omega)) (And.intro ((M.out.2.2.2.1).only og (by omega)) (And.intro ((M.out.2.2.2.2.1).far (M.out.2.2.2.2.2.1) (by rfl) (by omega) og) (And.intro hk (And.intro ((M.out.2.2.2.2.2.2.1).only og (by omega)) hbw)))))))
  clear hk hbw og hv hz
  have HR : errQ ⟨s, f, u, n, p, d⟩ rd day = q57 := by rw [HE.out, Eq57.out, Eq5.out, Eq50.out]
  rw [HR]
  refine bodyPost_ret (results_box2 rfl _ _ (w.heap.size + 1) 34 _ _ _ rfl (M.out.2.2.2.2.2.1) Try.underlying34 rfl (by kernel_rfl)) rfl ?_
  exact ⟨_, _, _, _, rfl, (M.out.1), (M.out.2.2.2.2.2.2.2)⟩

end Go.Proofs.Ytpjpkcelajbfnaa
