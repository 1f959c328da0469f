/- Scale: errors and intervals, whether there is one or not, in one contract each. -/
import Derived.Test.YtlcgckelamhnpaaBase
import Derived.Test.YtlcgckelamhnpaaBigSpec
import Derived.Test.YtlcgckelamhnpaaBigB
import Derived.Test.YtlcgckelamhnpaaBigC
import Derived.Test.YtlcgckelamhnpaaBigD
import Derived.Test.YtlcgckelamhnpaaBigK
import Derived.Test.YtlcgckelamhnpaaBigL
import Derived.Test.YtlcgckelamhnpaaBigQ
import Derived.Test.YtlcgckelamhnpaaFd
import Derived.Test.YtlcgckelamhnpaaHeld
import Derived.Test.YtlcgckelamhnpaaAw
import Derived.Test.YtlcgckelamhnpaaFracC
import Derived.Test.YtlcgckelamhnpaaFz
import Derived.Test.YtlcgckelamhnpaaScaleE
import Derived.Test.YtlcgckelamhnpaaProg
import Derived.WalkKit
import Derived.WalkSpells
import Derived.WalkLawsBesides
import Derived.Handy
import Derived.Lib.Hide
import Derived.Lib.Strings
import Derived.Lib.Builder
import Derived.BigQuiet
import Derived.OwnWalk
import Derived.Laws.BitsLemmas
import Derived.WalkSmall
import Derived.Deep.QuietTactic
import Derived.StillTailTactics
import Derived.Maps.AppendAt
import Derived.IntWalk
import Derived.Deep.RegionHeld3
import Derived.Deep.DeepFit
import Derived.Deep.LoopGhost
import Derived.Deep.DeepCutAuto
namespace Go.Proofs.Ytlcgckelamhnpaa
open Go.RowKit
variable {G : Nat}

theorem covers_is {s f u n p d day : Int} {b : Bool} (h : coversC ⟨s, f, u, n, p, d⟩ day = b) (w : World) :
  Calls Try.prog 68 #[.agg #[.int .i64 s, .int .i64 f, .int .i64 u, .int .i64 n, .int .i64 p, .int .i64 d], .int .i64 day] w fun e w' => e = .returned (.bool b) ∧ Below w.heap.size w w' := by
 rw [← h]; exact covers_ok ⟨s, f, u, n, p, d⟩ day w
theorem within_is {n m : Int} {b : Bool} (h : inR n 0 m = b) (w : World) :
  Calls Try.prog 71 #[.int .i64 n, .int .i64 m] w fun e w' => e = .returned (.bool b) ∧ w = w' := by
 rw [← h]; exact within_ok n m w
/-- The error of a reading by a certificate. -/
def errQ (c : Ct) (rd day : Int) : Rat := Rat.divInt (c.p * rd) 1000 + ((c.n + c.d * (day - c.f) : Int) : Rat)
theorem covers_bounds {c : Ct} {day : Int} (h : coversC c day = true) : 0 ≤ c.f ∧ c.f ≤ day ∧ day ≤ 100000 ∧ 0 ≤ c.n ∧ c.n ≤ 1099511627776 ∧ 0 ≤ c.p ∧ c.p ≤ 1000 ∧ 0 ≤ c.d ∧ c.d ≤ 10000000 := by
 simp [coversC, rightC, daysC, inR] at h; omega
theorem err_bounds {c : Ct} {rd day : Int} (h : coversC c day = true) (h' : inR rd 0 1099511627776 = true) :
    (0 ≤ c.p * rd ∧ c.p * rd ≤ 1099511627776000) ∧ (0 ≤ c.d * (day - c.f) ∧ c.d * (day - c.f) ≤ 1000000000000) := by
  have hb := covers_bounds h
  simp [inR] at h'
  refine ⟨⟨Int.mul_nonneg (by omega) (by omega), ?_⟩, ⟨Int.mul_nonneg (by omega) (by omega), ?_⟩⟩
  · have := Int.mul_le_mul (show c.p ≤ 1000 by omega) (show rd ≤ 1099511627776 by omega) (by omega) (by omega); omega
  · have := Int.mul_le_mul (show c.d ≤ 10000000 by omega) (show day - c.f ≤ 100000 by omega) (by omega) (by omega); omega
set_option maxRecDepth 100000 in
set_option maxHeartbeats 4000000 in
theorem scError_yes {s f u n p d rd day : Int} {w : World} (hG : G ≤ w.heap.size) (h1 : coversC ⟨s, f, u, n, p, d⟩ day = true) (h2 : inR rd 0 1099511627776 = true) :
  Calls Try.prog 47 #[.agg #[.int .i64 s, .int .i64 f, .int .i64 u, .int .i64 n, .int .i64 p, .int .i64 d], .int .i64 rd, .int .i64 day] w fun e w' => ∃ a c b d', e = .returned (.tuple #[.agg #[.int .i64 (sg (nu (errQ ⟨s, f, u, n, p, d⟩ rd day))), .slice a (ln (nu (errQ ⟨s, f, u, n, p, d⟩ rd day))) c, .int .i64 (sg (de (errQ ⟨s, f, u, n, p, d⟩ rd day))), .slice b (ln (de (errQ ⟨s, f, u, n, p, d⟩ rd day))) d'], .bool true]) ∧ FD G w' a c b d' (errQ ⟨s, f, u, n, p, d⟩ rd day) ∧ Below w.heap.size w w' := by
 have hb := covers_bounds h1
 have he := err_bounds h1 h2
 dsimp only at hb he
 have H1 := Lib.hid h1
 have H2 := Lib.hid h2
 have w1_ : IntKind.i64.wrap (p * rd) = p * rd := IntWalk.i64_in _ (by omega)
 have w2_ : IntKind.i64.wrap (d * (day - f)) = d * (day - f) := IntWalk.i64_in _ (by omega)
 have w3_ : IntKind.i64.wrap (day - f) = day - f := IntWalk.i64_in _ (by omega)
 have w4_ : IntKind.i64.wrap (n + d * (day - f)) = n + d * (day - f) := IntWalk.i64_in _ (by omega)
 have HE : Hid (errQ ⟨s, f, u, n, p, d⟩ rd day = Rat.divInt (p * rd) 1000 + ((n + d * (day - f) : Int) : Rat)) := rfl
 have HP : Hid (-9223372036854775808 ≤ p * rd ∧ p * rd ≤ 9223372036854775807) := by show _ ∧ _; omega
 have HI : Hid (-9223372036854775808 ≤ n + d * (day - f) ∧ n + d * (day - f) ≤ 9223372036854775807) := by show _ ∧ _; omega
 clear h1 h2 he
 have M : Hid (Below w.heap.size w w) := Below.refl _ _
 go_enter Try.func47, Try.ntmps47
 go_wp2_with fail
 obtain ⟨w1, hv⟩ : ∃ x, x = ((w.alloc (.cells #[.int .i64 s, .int .i64 f, .int .i64 u, .int .i64 n, .int .i64 p, .int .i64 d] 94)).alloc (.cells #[.int .i64 0, .slice none 0 0, .int .i64 0, .slice none 0 0] 38)) := ⟨_, rfl⟩
 rw [← hv]
 replace M := al2W hv M
 clear hv
 refine (covers_is (s := s) (f := f) (u := u) (n := n) (p := p) (d := d) (day := day) (b := true) H1.out _).mono ?_
 rintro e w2 ⟨rfl, hb⟩
 replace M := gnM hb M
 clear hb
 go_wp2_with fail
 refine (within_is (n := rd) (m := 1099511627776) (b := true) H2.out _).mono ?_
 rintro e _ ⟨rfl, rfl⟩
 obtain ⟨aa, ab, ac, ad, ae, af, ag, ah, ai, aj, ak, al⟩ := (J1 M).1.c6
 go_wp2_with fail
 clear aa ab ac ad ae af ag ah ai aj ak al
 refine nmW (α := Rat) (Rat.divInt (p * rd) 1000) fun q5 eq5 => ?_
 refine (fracOf_pos (G := G) (p * rd) 1000 _ HP.out (by omega) (by omega)).mono ?_
 rintro e w3 ⟨a_1, c_2, b_3, d_4, rfl, hd6, hb⟩
 rw [← eq5] at hd6 ⊢
 have Sq5 : Hid (Fz q5 4) := by show Fz q5 4; rw [eq5]; exact (Fz.of64 HP.out (by omega) (by omega))
 have Eq5 := Lib.hid eq5; clear eq5
 replace M := adM hd6 hb M
 clear hb hd6
 go_wp2_with fail
 obtain ⟨w4, hv⟩ : ∃ x, x = (w3.alloc (.cells #[.int .i64 (sg (nu q5)), .slice a_1 (ln (nu q5)) c_2, .int .i64 (sg (de q5)), .slice b_3 (ln (de q5)) d_4] 38)) := ⟨_, rfl⟩
 rw [← hv]
 have o2 : w.heap.size + 1 < w3.heap.size := ((J1 M).1).lt
 replace M := alM hv M
 clear hv
 obtain ⟨w5, hv⟩ : ∃ x, x = w4.drew := ⟨_, rfl⟩
 replace M := drM hv M
 refine wp_region_held_drew (S := (fun w' => w'.cell? ⟨w.heap.size, 0, none⟩ = some (.int .i64 s) ∧ w'.cell? ⟨w.heap.size, 1, none⟩ = some (.int .i64 f) ∧ w'.cell? ⟨w.heap.size, 2, none⟩ = some (.int .i64 u) ∧ w'.cell? ⟨w.heap.size, 3, none⟩ = some (.int .i64 n) ∧ w'.cell? ⟨w.heap.size, 4, none⟩ = some (.int .i64 p) ∧ w'.cell? ⟨w.heap.size, 5, none⟩ = some (.int .i64 d) ∧ w'.cell? ⟨w3.heap.size, 0, none⟩ = some (.int .i64 (sg (nu q5))) ∧ w'.cell? ⟨w3.heap.size, 1, none⟩ = some (.slice a_1 (ln (nu q5)) c_2) ∧ w'.cell? ⟨w3.heap.size, 2, none⟩ = some (.int .i64 (sg (de q5))) ∧ w'.cell? ⟨w3.heap.size, 3, none⟩ = some (.slice b_3 (ln (de q5)) d_4))) (by kernel_rfl) (by rw [← hv]; exact ((J3 M).1.t6 ((M.out.1).d4))) (fun hH19 => ?_)
 rw [← hv] at hH19 ⊢
 clear hv
 refine tk at0 ?_
 refine tk at1 ?_
 refine tk at2 ?_
 refine tk at3 ?_
 refine tk at4 ?_
 refine tk at5 ?_
 refine tk at6 ?_
 refine tk at7 ?_
 refine tk at8 ?_
 refine tk at9 ?_
 refine tk at10 ?_
 clear w1_ w2_ w3_ w4_
 refine wpAnyH_ready (rs := [11, 16]) (by kernel_rfl) (by simp) ?_
 refine AllReadyH.cons at11 (fun K hK => ?_) ?_
 ·
  go_simp
  refine nmW (α := Rat) (((n + d * (day - f)) : Int) : Rat) fun q24 eq24 => ?_
  refine (fracInt_ok (G := G) (n + d * (day - f)) _ HI.out).mono ?_
  rintro e w6 ⟨a_20, c_21, b_22, d_23, rfl, hd25, hb⟩
  rw [← eq24] at hd25 ⊢
  have Sq24 : Hid (Fz q24 4) := by show Fz q24 4; rw [eq24]; exact (Fz.int64 HI.out)
  have Eq24 := Lib.hid eq24; clear eq24
  replace M := adM hd25 hb M
  clear hb hd25
  (try go_wp2_with fail)
  refine hK.out _ _ (((J4 M).1.t6 ((J1 M).1.d4))) (fun hH26 => ?_)
  clear hK K hH19
  (try simp only [Act.put, List.setIfInBounds_toArray, List.set_cons_zero, List.set_cons_succ])
  refine wpAnyH_ready (rs := [12, 16]) (by kernel_rfl) (by simp) ?_
  refine AllReadyH.cons at12 (fun K hK => ?_) ?_
  ·
   go_simp
   refine nmW (α := Rat) (q5 + q24) fun q31 eq31 => ?_
   refine (fracAdd_ok (q := q5) (r := q24) (J2 M).1 (M.out.1) (Fz.mono Sq5.out (by omega)) (Fz.mono Sq24.out (by omega))).mono ?_
   rintro e w7 ⟨a_27, c_28, b_29, d_30, rfl, hd32, hb⟩
   rw [← eq31] at hd32 ⊢
   have Sq31 : Hid (Fz q31 9) := by show Fz q31 9; rw [eq31]; exact (Fz.add Sq5.out Sq24.out)
   have Eq31 := Lib.hid eq31; clear eq31
   replace M := adM hd32 hb M
   clear hb hd32
   (try go_wp2_with fail)
   refine hK.out _ _ (((J5 M).1.t6 ((J2 M).1.d4))) (fun hH33 => ?_)
   clear hK K hH26
   (try simp only [Act.put, List.setIfInBounds_toArray, List.set_cons_zero, List.set_cons_succ])
   refine tk at13 ?_
   refine tk at14 ?_
   refine tk at15 ?_
   refine wpAnyH_ready (rs := [16]) (by kernel_rfl) (by simp) ?_
   refine AllReadyH.cons at16 (fun K hK => ?_) AllReadyH.nil
   go_simp
   obtain ⟨w8, hv⟩ : ∃ x, x = (w7.alloc (.cells #[.int .i64 0, .slice none 0 0, .int .i64 0, .slice none 0 0] 38)) := ⟨_, rfl⟩
   rw [← hv]
   have o3 : w3.heap.size < w7.heap.size := ((J2 M).1).lt
   replace M := alM hv M
   clear hv
   refine hK.out _ _ (((J6 M).1.t6 ((J3 M).1.d4))) (fun hH34 => ?_)
   clear hK K hH33
   (try simp only [Act.put, List.setIfInBounds_toArray, List.set_cons_zero, List.set_cons_succ])
   refine wpAnyH_ready (rs := [17]) (by kernel_rfl) (by simp) ?_
   refine AllReadyH.cons at17 (fun K hK => ?_) AllReadyH.nil
   obtain ⟨am, ao, ap, aq, ar, au, av, aw⟩ := (M.out.1).c4
   go_simp
   clear am ao ap aq ar au av aw
   obtain ⟨w9, hv⟩ : ∃ x, x = ((((w8.setCell ⟨w7.heap.size, 0, none⟩ (.int .i64 (sg (nu q31)))).setCell ⟨w7.heap.size, 1, none⟩ (.slice a_27 (ln (nu q31)) c_28)).setCell ⟨w7.heap.size, 2, none⟩ (.int .i64 (sg (de q31)))).setCell ⟨w7.heap.size, 3, none⟩ (.slice b_29 (ln (de q31)) d_30)) := ⟨_, rfl⟩
   rw [← hv]
   have og : w8.grownBy w9 (some w7.heap.size) := by rw [hv]; exact (only_setCell (only_setCell (only_setCell (only_setCell (World.grownBy.refl _ _) _) _) _) _)
   have hz : w.heap.size ≤ w7.heap.size := by omega
   have hk : Bx w9 w7.heap.size 38 #[.int .i64 (sg (nu q31)), .slice a_27 (ln (nu q31)) c_28, .int .i64 (sg (de q31)), .slice b_29 (ln (de q31)) d_30] := by rw [hv]; exact (((((M.out.1).set 0 _).set 1 _).set 2 _).set 3 _)
   have hbw : Below w.heap.size w w9 := by rw [hv]; exact (Below.setCell (Below.setCell (Below.setCell (Below.setCell (J7 M) (by omega) _) (by omega) _) (by omega) _) (by omega) _)
   replace M := Lib.hid (aI hk (aI ((J1 M).1.far (M.out.1) (by rfl) (by omega) og) (aI ((J2 M).1.far (M.out.1) (by rfl) (by omega) og) (aI ((J3 M).1.only og (by omega)) (aI ((J4 M).1.far (M.out.1) (by rfl) (by omega) og) (aI ((J5 M).1.only og (by omega)) (aI ((J6 M).1.only og (by omega)) hbw)))))))
   clear hk hbw og hv hz
   refine hK.out _ _ (((J6 M).1.t6 ((J3 M).1.d4))) (fun hH35 => ?_)
   clear hK K hH34
   (try simp only [Act.put, List.setIfInBounds_toArray, List.set_cons_zero, List.set_cons_succ])
   refine tk at18 ?_
   refine wpAnyH_done (by kernel_rfl) ?_ _
   clear hH35
   obtain ⟨am, ao, ap, aq, ar, au, av, aw⟩ := (M.out.1).c4
   obtain ⟨ax, ay, az, ba, bb, bc, bd, bf⟩ := (J5 M).1.c4
   go_wp2_with fail
   clear am ao ap aq ar au av aw ax ay az ba bb bc bd bf
   obtain ⟨w10, hv⟩ : ∃ x, x = ((((w9.setCell ⟨w.heap.size + 1, 0, none⟩ (.int .i64 (sg (nu q31)))).setCell ⟨w.heap.size + 1, 1, none⟩ (.slice a_27 (ln (nu q31)) c_28)).setCell ⟨w.heap.size + 1, 2, none⟩ (.int .i64 (sg (de q31)))).setCell ⟨w.heap.size + 1, 3, none⟩ (.slice b_29 (ln (de q31)) d_30)) := ⟨_, rfl⟩
   rw [← hv]
   have og : w9.grownBy w10 (some (w.heap.size + 1)) := by rw [hv]; exact (only_setCell (only_setCell (only_setCell (only_setCell (World.grownBy.refl _ _) _) _) _) _)
   have hz : w.heap.size ≤ w.heap.size + 1 := by omega
   have hk : Bx w10 (w.heap.size + 1) 38 #[.int .i64 (sg (nu q31)), .slice a_27 (ln (nu q31)) c_28, .int .i64 (sg (de q31)), .slice b_29 (ln (de q31)) d_30] := by rw [hv]; exact (((((J5 M).1.set 0 _).set 1 _).set 2 _).set 3 _)
   have hbw : Below w.heap.size w w10 := by rw [hv]; exact (Below.setCell (Below.setCell (Below.setCell (Below.setCell (J7 M) (by omega) _) (by omega) _) (by omega) _) (by omega) _)
   replace M := Lib.hid (aI ((M.out.1).only og (by omega)) (aI ((J1 M).1.far (J5 M).1 (by rfl) (by omega) og) (aI ((J2 M).1.far (J5 M).1 (by rfl) (by omega) og) (aI ((J3 M).1.only og (by omega)) (aI ((J4 M).1.far (J5 M).1 (by rfl) (by omega) og) (aI hk (aI ((J6 M).1.only og (by omega)) hbw)))))))
   clear hk hbw og hv hz
   have HR : errQ ⟨s, f, u, n, p, d⟩ rd day = q31 := by rw [HE.out, Eq31.out, Eq5.out, Eq24.out]
   rw [HR]
   refine bodyPost_ret (results_box2 rfl _ _ (w.heap.size + 1) 38 _ _ _ rfl (J5 M).1 Try.underlying38 rfl (by kernel_rfl)) rfl ?_
   exact ⟨_, _, _, _, rfl, (J1 M).1, (J7 M)⟩
  refine AllReadyH.cons at16 (fun K hK => ?_) AllReadyH.nil
  go_simp
  obtain ⟨w7, hv⟩ : ∃ x, x = (w6.alloc (.cells #[.int .i64 0, .slice none 0 0, .int .i64 0, .slice none 0 0] 38)) := ⟨_, rfl⟩
  rw [← hv]
  have o3 : w3.heap.size < w6.heap.size := ((J1 M).1).lt
  replace M := alM hv M
  clear hv
  refine hK.out _ _ (((J5 M).1.t6 ((J2 M).1.d4))) (fun hH36 => ?_)
  clear hK K hH26
  (try simp only [Act.put, List.setIfInBounds_toArray, List.set_cons_zero, List.set_cons_succ])
  refine wpAnyH_ready (rs := [12]) (by kernel_rfl) (by simp) ?_
  refine AllReadyH.cons at12 (fun K hK => ?_) AllReadyH.nil
  go_simp
  refine nmW (α := Rat) (q5 + q24) fun q41 eq41 => ?_
  refine (fracAdd_ok (q := q5) (r := q24) (J3 M).1 (J1 M).1 (Fz.mono Sq5.out (by omega)) (Fz.mono Sq24.out (by omega))).mono ?_
  rintro e w8 ⟨a_37, c_38, b_39, d_40, rfl, hd42, hb⟩
  rw [← eq41] at hd42 ⊢
  have Sq41 : Hid (Fz q41 9) := by show Fz q41 9; rw [eq41]; exact (Fz.add Sq5.out Sq24.out)
  have Eq41 := Lib.hid eq41; clear eq41
  replace M := adM hd42 hb M
  clear hb hd42
  (try go_wp2_with fail)
  refine hK.out _ _ (((J6 M).1.t6 ((J3 M).1.d4))) (fun hH43 => ?_)
  clear hK K hH36
  (try simp only [Act.put, List.setIfInBounds_toArray, List.set_cons_zero, List.set_cons_succ])
  refine tk at13 ?_
  refine tk at14 ?_
  refine tk at15 ?_
  refine wpAnyH_ready (rs := [17]) (by kernel_rfl) (by simp) ?_
  refine AllReadyH.cons at17 (fun K hK => ?_) AllReadyH.nil
  obtain ⟨am, ao, ap, aq, ar, au, av, aw⟩ := (J1 M).1.c4
  go_simp
  clear am ao ap aq ar au av aw
  obtain ⟨w9, hv⟩ : ∃ x, x = ((((w8.setCell ⟨w6.heap.size, 0, none⟩ (.int .i64 (sg (nu q41)))).setCell ⟨w6.heap.size, 1, none⟩ (.slice a_37 (ln (nu q41)) c_38)).setCell ⟨w6.heap.size, 2, none⟩ (.int .i64 (sg (de q41)))).setCell ⟨w6.heap.size, 3, none⟩ (.slice b_39 (ln (de q41)) d_40)) := ⟨_, rfl⟩
  rw [← hv]
  have og : w8.grownBy w9 (some w6.heap.size) := by rw [hv]; exact (only_setCell (only_setCell (only_setCell (only_setCell (World.grownBy.refl _ _) _) _) _) _)
  have hz : w.heap.size ≤ w6.heap.size := by omega
  have hk : Bx w9 w6.heap.size 38 #[.int .i64 (sg (nu q41)), .slice a_37 (ln (nu q41)) c_38, .int .i64 (sg (de q41)), .slice b_39 (ln (de q41)) d_40] := by rw [hv]; exact (((((J1 M).1.set 0 _).set 1 _).set 2 _).set 3 _)
  have hbw : Below w.heap.size w w9 := by rw [hv]; exact (Below.setCell (Below.setCell (Below.setCell (Below.setCell (J7 M) (by omega) _) (by omega) _) (by omega) _) (by omega) _)
  replace M := Lib.hid (aI ((M.out.1).far (J1 M).1 (by rfl) (by omega) og) (aI hk (aI ((J2 M).1.far (J1 M).1 (by rfl) (by omega) og) (aI ((J3 M).1.only og (by omega)) (aI ((J4 M).1.far (J1 M).1 (by rfl) (by omega) og) (aI ((J5 M).1.only og (by omega)) (aI ((J6 M).1.only og (by omega)) hbw)))))))
  clear hk hbw og hv hz
  refine hK.out _ _ (((J6 M).1.t6 ((J3 M).1.d4))) (fun hH44 => ?_)
  clear hK K hH43
  (try simp only [Act.put, List.setIfInBounds_toArray, List.set_cons_zero, List.set_cons_succ])
  refine tk at18 ?_
  refine wpAnyH_done (by kernel_rfl) ?_ _
  clear hH44
  obtain ⟨am, ao, ap, aq, ar, au, av, aw⟩ := (J1 M).1.c4
  obtain ⟨ax, ay, az, ba, bb, bc, bd, bf⟩ := (J5 M).1.c4
  go_wp2_with fail
  clear am ao ap aq ar au av aw ax ay az ba bb bc bd bf
  obtain ⟨w10, hv⟩ : ∃ x, x = ((((w9.setCell ⟨w.heap.size + 1, 0, none⟩ (.int .i64 (sg (nu q41)))).setCell ⟨w.heap.size + 1, 1, none⟩ (.slice a_37 (ln (nu q41)) c_38)).setCell ⟨w.heap.size + 1, 2, none⟩ (.int .i64 (sg (de q41)))).setCell ⟨w.heap.size + 1, 3, none⟩ (.slice b_39 (ln (de q41)) d_40)) := ⟨_, rfl⟩
  rw [← hv]
  have og : w9.grownBy w10 (some (w.heap.size + 1)) := by rw [hv]; exact (only_setCell (only_setCell (only_setCell (only_setCell (World.grownBy.refl _ _) _) _) _) _)
  have hz : w.heap.size ≤ w.heap.size + 1 := by omega
  have hk : Bx w10 (w.heap.size + 1) 38 #[.int .i64 (sg (nu q41)), .slice a_37 (ln (nu q41)) c_38, .int .i64 (sg (de q41)), .slice b_39 (ln (de q41)) d_40] := by rw [hv]; exact (((((J5 M).1.set 0 _).set 1 _).set 2 _).set 3 _)
  have hbw : Below w.heap.size w w10 := by rw [hv]; exact (Below.setCell (Below.setCell (Below.setCell (Below.setCell (J7 M) (by omega) _) (by omega) _) (by omega) _) (by omega) _)
  replace M := Lib.hid (aI ((M.out.1).far (J5 M).1 (by rfl) (by omega) og) (aI ((J1 M).1.only og (by omega)) (aI ((J2 M).1.far (J5 M).1 (by rfl) (by omega) og) (aI ((J3 M).1.only og (by omega)) (aI ((J4 M).1.far (J5 M).1 (by rfl) (by omega) og) (aI hk (aI ((J6 M).1.only og (by omega)) hbw)))))))
  clear hk hbw og hv hz
  have HR : errQ ⟨s, f, u, n, p, d⟩ rd day = q41 := by rw [HE.out, Eq41.out, Eq5.out, Eq24.out]
  rw [HR]
  refine bodyPost_ret (results_box2 rfl _ _ (w.heap.size + 1) 38 _ _ _ rfl (J5 M).1 Try.underlying38 rfl (by kernel_rfl)) rfl ?_
  exact ⟨_, _, _, _, rfl, (M.out.1), (J7 M)⟩
 refine AllReadyH.cons at16 (fun K hK => ?_) AllReadyH.nil
 go_simp
 obtain ⟨w6, hv⟩ : ∃ x, x = (w5.alloc (.cells #[.int .i64 0, .slice none 0 0, .int .i64 0, .slice none 0 0] 38)) := ⟨_, rfl⟩
 rw [← hv]
 have o3 : w3.heap.size < w5.heap.size := ((M.out.1)).lt
 replace M := alM hv M
 clear hv
 refine hK.out _ _ (((J4 M).1.t6 ((J1 M).1.d4))) (fun hH45 => ?_)
 clear hK K hH19
 (try simp only [Act.put, List.setIfInBounds_toArray, List.set_cons_zero, List.set_cons_succ])
 refine wpAnyH_ready (rs := [11]) (by kernel_rfl) (by simp) ?_
 refine AllReadyH.cons at11 (fun K hK => ?_) AllReadyH.nil
 go_simp
 refine nmW (α := Rat) (((n + d * (day - f)) : Int) : Rat) fun q50 eq50 => ?_
 refine (fracInt_ok (G := G) (n + d * (day - f)) _ HI.out).mono ?_
 rintro e w7 ⟨a_46, c_47, b_48, d_49, rfl, hd51, hb⟩
 rw [← eq50] at hd51 ⊢
 have Sq50 : Hid (Fz q50 4) := by show Fz q50 4; rw [eq50]; exact (Fz.int64 HI.out)
 have Eq50 := Lib.hid eq50; clear eq50
 replace M := adM hd51 hb M
 clear hb hd51
 (try go_wp2_with fail)
 refine hK.out _ _ (((J5 M).1.t6 ((J2 M).1.d4))) (fun hH52 => ?_)
 clear hK K hH45
 (try simp only [Act.put, List.setIfInBounds_toArray, List.set_cons_zero, List.set_cons_succ])
 refine wpAnyH_ready (rs := [12]) (by kernel_rfl) (by simp) ?_
 refine AllReadyH.cons at12 (fun K hK => ?_) AllReadyH.nil
 go_simp
 refine nmW (α := Rat) (q5 + q50) fun q57 eq57 => ?_
 refine (fracAdd_ok (q := q5) (r := q50) (J3 M).1 (M.out.1) (Fz.mono Sq5.out (by omega)) (Fz.mono Sq50.out (by omega))).mono ?_
 rintro e w8 ⟨a_53, c_54, b_55, d_56, rfl, hd58, hb⟩
 rw [← eq57] at hd58 ⊢
 have Sq57 : Hid (Fz q57 9) := by show Fz q57 9; rw [eq57]; exact (Fz.add Sq5.out Sq50.out)
 have Eq57 := Lib.hid eq57; clear eq57
 replace M := adM hd58 hb M
 clear hb hd58
 (try go_wp2_with fail)
 refine hK.out _ _ (((J6 M).1.t6 ((J3 M).1.d4))) (fun hH59 => ?_)
 clear hK K hH52
 (try simp only [Act.put, List.setIfInBounds_toArray, List.set_cons_zero, List.set_cons_succ])
 refine tk at13 ?_
 refine tk at14 ?_
 refine tk at15 ?_
 refine wpAnyH_ready (rs := [17]) (by kernel_rfl) (by simp) ?_
 refine AllReadyH.cons at17 (fun K hK => ?_) AllReadyH.nil
 obtain ⟨am, ao, ap, aq, ar, au, av, aw⟩ := (J2 M).1.c4
 go_simp
 clear am ao ap aq ar au av aw
 obtain ⟨w9, hv⟩ : ∃ x, x = ((((w8.setCell ⟨w5.heap.size, 0, none⟩ (.int .i64 (sg (nu q57)))).setCell ⟨w5.heap.size, 1, none⟩ (.slice a_53 (ln (nu q57)) c_54)).setCell ⟨w5.heap.size, 2, none⟩ (.int .i64 (sg (de q57)))).setCell ⟨w5.heap.size, 3, none⟩ (.slice b_55 (ln (de q57)) d_56)) := ⟨_, rfl⟩
 rw [← hv]
 have og : w8.grownBy w9 (some w5.heap.size) := by rw [hv]; exact (only_setCell (only_setCell (only_setCell (only_setCell (World.grownBy.refl _ _) _) _) _) _)
 have hz : w.heap.size ≤ w5.heap.size := by omega
 have hk : Bx w9 w5.heap.size 38 #[.int .i64 (sg (nu q57)), .slice a_53 (ln (nu q57)) c_54, .int .i64 (sg (de q57)), .slice b_55 (ln (de q57)) d_56] := by rw [hv]; exact (((((J2 M).1.set 0 _).set 1 _).set 2 _).set 3 _)
 have hbw : Below w.heap.size w w9 := by rw [hv]; exact (Below.setCell (Below.setCell (Below.setCell (Below.setCell (J7 M) (by omega) _) (by omega) _) (by omega) _) (by omega) _)
 replace M := Lib.hid (aI ((M.out.1).far (J2 M).1 (by rfl) (by omega) og) (aI ((J1 M).1.far (J2 M).1 (by rfl) (by omega) og) (aI hk (aI ((J3 M).1.only og (by omega)) (aI ((J4 M).1.far (J2 M).1 (by rfl) (by omega) og) (aI ((J5 M).1.only og (by omega)) (aI ((J6 M).1.only og (by omega)) hbw)))))))
 clear hk hbw og hv hz
 refine hK.out _ _ (((J6 M).1.t6 ((J3 M).1.d4))) (fun hH60 => ?_)
 clear hK K hH59
 (try simp only [Act.put, List.setIfInBounds_toArray, List.set_cons_zero, List.set_cons_succ])
 refine tk at18 ?_
 refine wpAnyH_done (by kernel_rfl) ?_ _
 clear hH60
 obtain ⟨am, ao, ap, aq, ar, au, av, aw⟩ := (J2 M).1.c4
 obtain ⟨ax, ay, az, ba, bb, bc, bd, bf⟩ := (J5 M).1.c4
 go_wp2_with fail
 clear am ao ap aq ar au av aw ax ay az ba bb bc bd bf
 obtain ⟨w10, hv⟩ : ∃ x, x = ((((w9.setCell ⟨w.heap.size + 1, 0, none⟩ (.int .i64 (sg (nu q57)))).setCell ⟨w.heap.size + 1, 1, none⟩ (.slice a_53 (ln (nu q57)) c_54)).setCell ⟨w.heap.size + 1, 2, none⟩ (.int .i64 (sg (de q57)))).setCell ⟨w.heap.size + 1, 3, none⟩ (.slice b_55 (ln (de q57)) d_56)) := ⟨_, rfl⟩
 rw [← hv]
 have og : w9.grownBy w10 (some (w.heap.size + 1)) := by rw [hv]; exact (only_setCell (only_setCell (only_setCell (only_setCell (World.grownBy.refl _ _) _) _) _) _)
 have hz : w.heap.size ≤ w.heap.size + 1 := by omega
 have hk : Bx w10 (w.heap.size + 1) 38 #[.int .i64 (sg (nu q57)), .slice a_53 (ln (nu q57)) c_54, .int .i64 (sg (de q57)), .slice b_55 (ln (de q57)) d_56] := by rw [hv]; exact (((((J5 M).1.set 0 _).set 1 _).set 2 _).set 3 _)
 have hbw : Below w.heap.size w w10 := by rw [hv]; exact (Below.setCell (Below.setCell (Below.setCell (Below.setCell (J7 M) (by omega) _) (by omega) _) (by omega) _) (by omega) _)
 replace M := Lib.hid (aI ((M.out.1).far (J5 M).1 (by rfl) (by omega) og) (aI ((J1 M).1.far (J5 M).1 (by rfl) (by omega) og) (aI ((J2 M).1.only og (by omega)) (aI ((J3 M).1.only og (by omega)) (aI ((J4 M).1.far (J5 M).1 (by rfl) (by omega) og) (aI hk (aI ((J6 M).1.only og (by omega)) hbw)))))))
 clear hk hbw og hv hz
 have HR : errQ ⟨s, f, u, n, p, d⟩ rd day = q57 := by rw [HE.out, Eq57.out, Eq5.out, Eq50.out]
 rw [HR]
 refine bodyPost_ret (results_box2 rfl _ _ (w.heap.size + 1) 38 _ _ _ rfl (J5 M).1 Try.underlying38 rfl (by kernel_rfl)) rfl ?_
 exact ⟨_, _, _, _, rfl, (M.out.1), (J7 M)⟩
end Go.Proofs.Ytlcgckelamhnpaa
namespace Go.Proofs.Ytlcgckelamhnpaa
open Go.RowKit
variable {G : Nat}

set_option maxRecDepth 100000 in
set_option maxHeartbeats 4000000 in
theorem scError_no2 {s f u n p d rd day : Int} {w : World} (h1 : coversC ⟨s, f, u, n, p, d⟩ day = true) (h2 : inR rd 0 1099511627776 = false) :
  Calls Try.prog 47 #[.agg #[.int .i64 s, .int .i64 f, .int .i64 u, .int .i64 n, .int .i64 p, .int .i64 d], .int .i64 rd, .int .i64 day] w fun e w' => e = .returned (.tuple #[.agg #[.int .i64 0, .slice none 0 0, .int .i64 0, .slice none 0 0], .bool false]) ∧ Below w.heap.size w w' := by
 have H1 := Lib.hid h1; clear h1
 have H2 := Lib.hid h2; clear h2
 have M : Hid (Below w.heap.size w w) := Below.refl _ _
 go_enter Try.func47, Try.ntmps47
 go_wp2_with fail
 obtain ⟨w1, hv⟩ : ∃ x, x = ((w.alloc (.cells #[.int .i64 s, .int .i64 f, .int .i64 u, .int .i64 n, .int .i64 p, .int .i64 d] 94)).alloc (.cells #[.int .i64 0, .slice none 0 0, .int .i64 0, .slice none 0 0] 38)) := ⟨_, rfl⟩
 rw [← hv]
 replace M := al2W hv M
 clear hv
 refine (covers_is (s := s) (f := f) (u := u) (n := n) (p := p) (d := d) (day := day) (b := true) H1.out _).mono ?_
 rintro e w2 ⟨rfl, hb⟩
 replace M := gnM hb M
 clear hb
 go_wp2_with fail
 refine (within_is (n := rd) (m := 1099511627776) (b := false) H2.out _).mono ?_
 rintro e _ ⟨rfl, rfl⟩
 obtain ⟨aa, ab, ac, ad, ae, af, ag, ah⟩ := (M.out.1).c4
 go_wp2_with fail
 clear aa ab ac ad ae af ag ah
 obtain ⟨w3, hv⟩ : ∃ x, x = ((((w2.setCell ⟨w.heap.size + 1, 0, none⟩ (.int .i64 0)).setCell ⟨w.heap.size + 1, 1, none⟩ (.slice none 0 0)).setCell ⟨w.heap.size + 1, 2, none⟩ (.int .i64 0)).setCell ⟨w.heap.size + 1, 3, none⟩ (.slice none 0 0)) := ⟨_, rfl⟩
 rw [← hv]
 have og : w2.grownBy w3 (some (w.heap.size + 1)) := by rw [hv]; exact (only_setCell (only_setCell (only_setCell (only_setCell (World.grownBy.refl _ _) _) _) _) _)
 have hz : w.heap.size ≤ w.heap.size + 1 := by omega
 have hk : Bx w3 (w.heap.size + 1) 38 #[.int .i64 0, .slice none 0 0, .int .i64 0, .slice none 0 0] := by rw [hv]; exact (((((M.out.1).set 0 _).set 1 _).set 2 _).set 3 _)
 have hbw : Below w.heap.size w w3 := by rw [hv]; exact (Below.setCell (Below.setCell (Below.setCell (Below.setCell (J2 M) (by omega) _) (by omega) _) (by omega) _) (by omega) _)
 replace M := Lib.hid (aI hk (aI ((J1 M).1.only og (by omega)) hbw))
 clear hk hbw og hv hz
 refine bodyPost_ret (results_box2 rfl _ _ (w.heap.size + 1) 38 _ _ _ rfl (M.out.1) Try.underlying38 rfl (by kernel_rfl)) rfl ?_
 exact ⟨rfl, (J2 M)⟩
end Go.Proofs.Ytlcgckelamhnpaa
namespace Go.Proofs.Ytlcgckelamhnpaa
open Go.RowKit
variable {G : Nat}

instance {w w' : World} {v : Value} {cs : List Ct} : Goes (CtIn w v cs) w w' (CtIn w' v cs) := ⟨fun h hb => h.keep hb⟩
instance {w w' : World} {v : Value} {rs : List Rc} : Goes (RcIn w v rs) w w' (RcIn w' v rs) := ⟨fun h hb => h.keep hb⟩
theorem scFind_none {cs : List Ct} {sc day : Int} {a : Option Addr} {cap : Nat} {w : World} (h : CtIn w (.slice a cs.length cap) cs) (hn : cs.length ≤ 1099511627776) (hf : findC cs sc day = none) :
  Calls Try.prog 45 #[.slice a cs.length cap, .int .i64 sc, .int .i64 day] w fun e w' => e = .returned (.tuple #[.int .i64 0, .bool false]) ∧ Below w.heap.size w w' := by
 have := scFind_ok _ cs sc day w h hn
 rwa [hf] at this
theorem scFind_some {cs : List Ct} {sc day : Int} {a : Option Addr} {cap g : Nat} {w : World} (h : CtIn w (.slice a cs.length cap) cs) (hn : cs.length ≤ 1099511627776) (hf : findC cs sc day = some g) :
  Calls Try.prog 45 #[.slice a cs.length cap, .int .i64 sc, .int .i64 day] w fun e w' => e = .returned (.tuple #[.int .i64 (g : Int), .bool true]) ∧ Below w.heap.size w w' := by
 have := scFind_ok _ cs sc day w h hn
 rwa [hf] at this
theorem scRec_is {rs : List Rc} {sc day : Int} {a : Option Addr} {cap : Nat} {b : Bool} {w : World} (h : RcIn w (.slice a rs.length cap) rs) (hn : rs.length ≤ 1099511627776) (hf : recalledB rs sc day = b) :
  Calls Try.prog 46 #[.slice a rs.length cap, .int .i64 sc, .int .i64 day] w fun e w' => e = .returned (.bool b) ∧ Below w.heap.size w w' := by
 rw [← hf]; exact scRecalled_ok _ rs sc day w h hn
theorem findS_is {cs : List Ct} {sc day : Int} : ∀ {k g : Nat}, k ≤ cs.length → findS cs sc day k = some g → ∃ h : g < cs.length, cs[g].s = sc ∧ coversC cs[g] day = true
 | 0, g, _, h => by simp [findS] at h
 | k + 1, g, hk, h => by
  have hlt : k < cs.length := by omega
  cases hb : (cs[k].s == sc && coversC cs[k] day && laterB cs (findS cs sc day k) cs[k]) with
  | true =>
   rw [findS_yes hlt hb] at h; cases h
   simp at hb; exact ⟨hlt, hb.1.1, hb.1.2⟩
  | false => rw [findS_no hlt hb] at h; exact findS_is (by omega) h
theorem findC_is {cs : List Ct} {sc day : Int} {g : Nat} (h : findC cs sc day = some g) : ∃ h : g < cs.length, cs[g].s = sc ∧ coversC cs[g] day = true := findS_is (Nat.le_refl _) h
theorem errQ_size {c : Ct} {rd day : Int} (h : coversC c day = true) (h' : inR rd 0 1099511627776 = true) : Fz (errQ c rd day) 9 := by
 have hb := covers_bounds h
 have he := err_bounds h h'
 exact Fz.add (n := 4) (m := 4) (Fz.of64 (by omega) (by omega) (by omega)) (Fz.int64 (by omega))
theorem in_bounds {n m : Int} (h : inR n 0 m = true) : 0 ≤ n ∧ n ≤ m := by simp [inR] at h; exact h
/-- The ends of an interval. -/
def loQ (e : Rat) (rd : Int) : Rat := pick ((rd : Rat) - e) ((0 : Int) : Rat) (1)
def hiQ (e : Rat) (rd : Int) : Rat := (rd : Rat) + e
set_option maxRecDepth 100000 in
set_option maxHeartbeats 4000000 in
theorem scInterval_no1 {cs : List Ct} {rs : List Rc} {sc rd day : Int} {a1 a2 : Option Addr} {cap1 cap2 : Nat} {w : World} (h1 : CtIn w (.slice a1 cs.length cap1) cs) (h2 : RcIn w (.slice a2 rs.length cap2) rs) (hn1 : cs.length ≤ 1099511627776) (_hn2 : rs.length ≤ 1099511627776) (hf : findC cs sc day = none) :
  Calls Try.prog 25 #[.slice a1 cs.length cap1, .slice a2 rs.length cap2, .int .i64 sc, .int .i64 rd, .int .i64 day] w fun e w' => e = .returned (.tuple #[.agg #[.int .i64 0, .slice none 0 0, .int .i64 0, .slice none 0 0], .agg #[.int .i64 0, .slice none 0 0, .int .i64 0, .slice none 0 0], .bool false]) ∧ Below w.heap.size w w' := by
 have HF := Lib.hid hf; clear hf
 have H1 : Hid (CtIn w (.slice a1 cs.length cap1) cs) := h1
 have H2 : Hid (RcIn w (.slice a2 rs.length cap2) rs) := h2
 clear h1 h2
 have M : Hid (Below w.heap.size w w) := Below.refl _ _
 go_enter Try.func25, Try.ntmps25
 go_upto_region 1 with fail
 obtain ⟨w1, hv⟩ : ∃ x, x = ((w.alloc (.cells #[.int .i64 0, .slice none 0 0, .int .i64 0, .slice none 0 0] 38)).alloc (.cells #[.int .i64 0, .slice none 0 0, .int .i64 0, .slice none 0 0] 38)) := ⟨_, rfl⟩
 rw [← hv]
 replace M := al2W hv M
 clear hv
 go_wp2_with fail
 refine (scFind_none (sc := sc) (day := day) (H1.out.keep (J2 M)) (by omega) HF.out).mono ?_
 rintro e w2 ⟨rfl, hb⟩
 replace M := gnM hb M
 clear hb
 obtain ⟨aa, ab, ac, ad, ae, af, ag, ah⟩ := (J1 M).1.c4
 obtain ⟨ai, aj, ak, al, am, ao, ap, aq⟩ := (M.out.1).c4
 go_wp2_with fail
 clear aa ab ac ad ae af ag ah ai aj ak al am ao ap aq
 obtain ⟨w3, hv⟩ : ∃ x, x = ((((w2.setCell ⟨w.heap.size, 0, none⟩ (.int .i64 0)).setCell ⟨w.heap.size, 1, none⟩ (.slice none 0 0)).setCell ⟨w.heap.size, 2, none⟩ (.int .i64 0)).setCell ⟨w.heap.size, 3, none⟩ (.slice none 0 0)) := ⟨_, rfl⟩
 rw [← hv]
 have og : w2.grownBy w3 (some w.heap.size) := by rw [hv]; exact (only_setCell (only_setCell (only_setCell (only_setCell (World.grownBy.refl _ _) _) _) _) _)
 have hz : w.heap.size ≤ w.heap.size := by exact Nat.le_refl _
 have hk : Bx w3 w.heap.size 38 #[.int .i64 0, .slice none 0 0, .int .i64 0, .slice none 0 0] := by rw [hv]; exact (((((J1 M).1.set 0 _).set 1 _).set 2 _).set 3 _)
 have hbw : Below w.heap.size w w3 := by rw [hv]; exact (Below.setCell (Below.setCell (Below.setCell (Below.setCell (J2 M) (by omega) _) (by omega) _) (by omega) _) (by omega) _)
 replace M := Lib.hid (aI ((M.out.1).only og (by omega)) (aI hk hbw))
 clear hk hbw og hv hz
 obtain ⟨w4, hv⟩ : ∃ x, x = ((((w3.setCell ⟨w.heap.size + 1, 0, none⟩ (.int .i64 0)).setCell ⟨w.heap.size + 1, 1, none⟩ (.slice none 0 0)).setCell ⟨w.heap.size + 1, 2, none⟩ (.int .i64 0)).setCell ⟨w.heap.size + 1, 3, none⟩ (.slice none 0 0)) := ⟨_, rfl⟩
 rw [← hv]
 have og : w3.grownBy w4 (some (w.heap.size + 1)) := by rw [hv]; exact (only_setCell (only_setCell (only_setCell (only_setCell (World.grownBy.refl _ _) _) _) _) _)
 have hz : w.heap.size ≤ w.heap.size + 1 := by omega
 have hk : Bx w4 (w.heap.size + 1) 38 #[.int .i64 0, .slice none 0 0, .int .i64 0, .slice none 0 0] := by rw [hv]; exact (((((M.out.1).set 0 _).set 1 _).set 2 _).set 3 _)
 have hbw : Below w.heap.size w w4 := by rw [hv]; exact (Below.setCell (Below.setCell (Below.setCell (Below.setCell (J2 M) (by omega) _) (by omega) _) (by omega) _) (by omega) _)
 replace M := Lib.hid (aI hk (aI ((J1 M).1.only og (by omega)) hbw))
 clear hk hbw og hv hz
 refine bodyPost_ret (results_box2t rfl _ _ w.heap.size (w.heap.size + 1) 38 38 _ _ _ _ _ _ rfl (J1 M).1 Try.underlying38 rfl (by kernel_rfl) rfl (M.out.1) Try.underlying38 rfl (by kernel_rfl)) rfl ?_
 exact ⟨rfl, (J2 M)⟩
set_option maxRecDepth 100000 in
set_option maxHeartbeats 4000000 in
theorem scInterval_no2 {cs : List Ct} {rs : List Rc} {sc rd day : Int} {a1 a2 : Option Addr} {cap1 cap2 : Nat} {w : World} (h1 : CtIn w (.slice a1 cs.length cap1) cs) (h2 : RcIn w (.slice a2 rs.length cap2) rs) (hn1 : cs.length ≤ 1099511627776) (hn2 : rs.length ≤ 1099511627776) {g : Nat} (hf : findC cs sc day = some g) (hr : recalledB rs sc day = true) :
  Calls Try.prog 25 #[.slice a1 cs.length cap1, .slice a2 rs.length cap2, .int .i64 sc, .int .i64 rd, .int .i64 day] w fun e w' => e = .returned (.tuple #[.agg #[.int .i64 0, .slice none 0 0, .int .i64 0, .slice none 0 0], .agg #[.int .i64 0, .slice none 0 0, .int .i64 0, .slice none 0 0], .bool false]) ∧ Below w.heap.size w w' := by
 have HF := Lib.hid hf; clear hf
 have HR := Lib.hid hr; clear hr
 have H1 : Hid (CtIn w (.slice a1 cs.length cap1) cs) := h1
 have H2 : Hid (RcIn w (.slice a2 rs.length cap2) rs) := h2
 clear h1 h2
 have M : Hid (Below w.heap.size w w) := Below.refl _ _
 go_enter Try.func25, Try.ntmps25
 go_upto_region 1 with fail
 obtain ⟨w1, hv⟩ : ∃ x, x = ((w.alloc (.cells #[.int .i64 0, .slice none 0 0, .int .i64 0, .slice none 0 0] 38)).alloc (.cells #[.int .i64 0, .slice none 0 0, .int .i64 0, .slice none 0 0] 38)) := ⟨_, rfl⟩
 rw [← hv]
 replace M := al2W hv M
 clear hv
 go_wp2_with fail
 refine (scFind_some (sc := sc) (day := day) (H1.out.keep (J2 M)) (by omega) HF.out).mono ?_
 rintro e w2 ⟨rfl, hb⟩
 replace M := gnM hb M
 clear hb
 go_wp2_with fail
 refine (scRec_is (sc := sc) (day := day) (b := true) (H2.out.keep (J2 M)) (by omega) HR.out).mono ?_
 rintro e w3 ⟨rfl, hb⟩
 replace M := gnM hb M
 clear hb
 obtain ⟨aa, ab, ac, ad, ae, af, ag, ah⟩ := (J1 M).1.c4
 obtain ⟨ai, aj, ak, al, am, ao, ap, aq⟩ := (M.out.1).c4
 go_wp2_with fail
 clear aa ab ac ad ae af ag ah ai aj ak al am ao ap aq
 obtain ⟨w4, hv⟩ : ∃ x, x = ((((w3.setCell ⟨w.heap.size, 0, none⟩ (.int .i64 0)).setCell ⟨w.heap.size, 1, none⟩ (.slice none 0 0)).setCell ⟨w.heap.size, 2, none⟩ (.int .i64 0)).setCell ⟨w.heap.size, 3, none⟩ (.slice none 0 0)) := ⟨_, rfl⟩
 rw [← hv]
 have og : w3.grownBy w4 (some w.heap.size) := by rw [hv]; exact (only_setCell (only_setCell (only_setCell (only_setCell (World.grownBy.refl _ _) _) _) _) _)
 have hz : w.heap.size ≤ w.heap.size := by exact Nat.le_refl _
 have hk : Bx w4 w.heap.size 38 #[.int .i64 0, .slice none 0 0, .int .i64 0, .slice none 0 0] := by rw [hv]; exact (((((J1 M).1.set 0 _).set 1 _).set 2 _).set 3 _)
 have hbw : Below w.heap.size w w4 := by rw [hv]; exact (Below.setCell (Below.setCell (Below.setCell (Below.setCell (J2 M) (by omega) _) (by omega) _) (by omega) _) (by omega) _)
 replace M := Lib.hid (aI ((M.out.1).only og (by omega)) (aI hk hbw))
 clear hk hbw og hv hz
 obtain ⟨w5, hv⟩ : ∃ x, x = ((((w4.setCell ⟨w.heap.size + 1, 0, none⟩ (.int .i64 0)).setCell ⟨w.heap.size + 1, 1, none⟩ (.slice none 0 0)).setCell ⟨w.heap.size + 1, 2, none⟩ (.int .i64 0)).setCell ⟨w.heap.size + 1, 3, none⟩ (.slice none 0 0)) := ⟨_, rfl⟩
 rw [← hv]
 have og : w4.grownBy w5 (some (w.heap.size + 1)) := by rw [hv]; exact (only_setCell (only_setCell (only_setCell (only_setCell (World.grownBy.refl _ _) _) _) _) _)
 have hz : w.heap.size ≤ w.heap.size + 1 := by omega
 have hk : Bx w5 (w.heap.size + 1) 38 #[.int .i64 0, .slice none 0 0, .int .i64 0, .slice none 0 0] := by rw [hv]; exact (((((M.out.1).set 0 _).set 1 _).set 2 _).set 3 _)
 have hbw : Below w.heap.size w w5 := by rw [hv]; exact (Below.setCell (Below.setCell (Below.setCell (Below.setCell (J2 M) (by omega) _) (by omega) _) (by omega) _) (by omega) _)
 replace M := Lib.hid (aI hk (aI ((J1 M).1.only og (by omega)) hbw))
 clear hk hbw og hv hz
 refine bodyPost_ret (results_box2t rfl _ _ w.heap.size (w.heap.size + 1) 38 38 _ _ _ _ _ _ rfl (J1 M).1 Try.underlying38 rfl (by kernel_rfl) rfl (M.out.1) Try.underlying38 rfl (by kernel_rfl)) rfl ?_
 exact ⟨rfl, (J2 M)⟩
set_option maxRecDepth 100000 in
set_option maxHeartbeats 4000000 in
theorem scInterval_no3 {cs : List Ct} {rs : List Rc} {sc rd day : Int} {a1 a2 : Option Addr} {cap1 cap2 : Nat} {w : World} (h1 : CtIn w (.slice a1 cs.length cap1) cs) (h2 : RcIn w (.slice a2 rs.length cap2) rs) (hn1 : cs.length ≤ 1099511627776) (hn2 : rs.length ≤ 1099511627776) {ct : Ct} {g : Nat} {hgl : g < cs.length} (hct : ct = cs[g]) (hf : findC cs sc day = some g) (hr : recalledB rs sc day = false) (hi : inR rd 0 1099511627776 = false) :
  Calls Try.prog 25 #[.slice a1 cs.length cap1, .slice a2 rs.length cap2, .int .i64 sc, .int .i64 rd, .int .i64 day] w fun e w' => e = .returned (.tuple #[.agg #[.int .i64 0, .slice none 0 0, .int .i64 0, .slice none 0 0], .agg #[.int .i64 0, .slice none 0 0, .int .i64 0, .slice none 0 0], .bool false]) ∧ Below w.heap.size w w' := by
 obtain ⟨hgl, -, hc⟩ := findC_is hf
 obtain ⟨b, off, rfl, hb, hcell⟩ := h1.at hgl
 obtain ⟨s, f, u, n, p, d⟩ := ct
 rw [← hct] at hc hcell
 have hI2 : (g : Int) < (cs.length : Int) := by omega
 have HC := Lib.hid hc
 have HF := Lib.hid hf
 have HR := Lib.hid hr
 have HI := Lib.hid hi
 clear hf hr hi hc hct
 have H1 : Hid (CtIn w (.slice (some ⟨b, off, none⟩) cs.length cap1) cs) := h1
 have H2 : Hid (RcIn w (.slice a2 rs.length cap2) rs) := h2
 have HROW : Hid (Row w b (off + g * 6) [.int .i64 s, .int .i64 f, .int .i64 u, .int .i64 n, .int .i64 p, .int .i64 d]) := ⟨hb, hcell⟩
 clear h1 h2 hcell
 have M : Hid (Below w.heap.size w w) := Below.refl _ _
 go_enter Try.func25, Try.ntmps25
 go_upto_region 1 with fail
 obtain ⟨w1, hv⟩ : ∃ x, x = ((w.alloc (.cells #[.int .i64 0, .slice none 0 0, .int .i64 0, .slice none 0 0] 38)).alloc (.cells #[.int .i64 0, .slice none 0 0, .int .i64 0, .slice none 0 0] 38)) := ⟨_, rfl⟩
 rw [← hv]
 replace M := al2W hv M
 clear hv
 go_wp2_with fail
 refine (scFind_some (sc := sc) (day := day) (H1.out.keep (J2 M)) (by omega) HF.out).mono ?_
 rintro e w2 ⟨rfl, hb⟩
 replace M := gnM hb M
 clear hb
 go_wp2_with fail
 refine (scRec_is (sc := sc) (day := day) (b := false) (H2.out.keep (J2 M)) (by omega) HR.out).mono ?_
 rintro e w3 ⟨rfl, hb⟩
 replace M := gnM hb M
 clear hb
 obtain ⟨r0_0, r0_1, r0_2, r0_3, r0_4, r0_5⟩ := (HROW.out.keep (J2 M)).c6
 go_wp2_with fail
 clear r0_0 r0_1 r0_2 r0_3 r0_4 r0_5
 refine (scError_no2 (s := s) (f := f) (u := u) (n := n) (p := p) (d := d) (rd := rd) (day := day) HC.out HI.out).mono ?_
 rintro e w4 ⟨rfl, hb⟩
 replace M := gnM hb M
 clear hb
 go_upto_region 5 with fail
 obtain ⟨w5, hv⟩ : ∃ x, x = (w4.alloc (.cells #[.int .i64 0, .slice none 0 0, .int .i64 0, .slice none 0 0] 38)) := ⟨_, rfl⟩
 rw [← hv]
 have o2 : w.heap.size + 1 < w4.heap.size := ((M.out.1)).lt
 replace M := alM hv M
 clear hv
 obtain ⟨aa, ab, ac, ad, ae, af, ag, ah⟩ := (J2 M).1.c4
 obtain ⟨ai, aj, ak, al, am, ao, ap, aq⟩ := (J1 M).1.c4
 go_wp2_with fail
 clear aa ab ac ad ae af ag ah ai aj ak al am ao ap aq
 obtain ⟨w6, hv⟩ : ∃ x, x = ((((w5.setCell ⟨w.heap.size, 0, none⟩ (.int .i64 0)).setCell ⟨w.heap.size, 1, none⟩ (.slice none 0 0)).setCell ⟨w.heap.size, 2, none⟩ (.int .i64 0)).setCell ⟨w.heap.size, 3, none⟩ (.slice none 0 0)) := ⟨_, rfl⟩
 rw [← hv]
 have og : w5.grownBy w6 (some w.heap.size) := by rw [hv]; exact (only_setCell (only_setCell (only_setCell (only_setCell (World.grownBy.refl _ _) _) _) _) _)
 have hz : w.heap.size ≤ w.heap.size := by exact Nat.le_refl _
 have hk : Bx w6 w.heap.size 38 #[.int .i64 0, .slice none 0 0, .int .i64 0, .slice none 0 0] := by rw [hv]; exact (((((J2 M).1.set 0 _).set 1 _).set 2 _).set 3 _)
 have hbw : Below w.heap.size w w6 := by rw [hv]; exact (Below.setCell (Below.setCell (Below.setCell (Below.setCell (J3 M) (by omega) _) (by omega) _) (by omega) _) (by omega) _)
 replace M := Lib.hid (aI ((M.out.1).only og (by omega)) (aI ((J1 M).1.only og (by omega)) (aI hk hbw)))
 clear hk hbw og hv hz
 obtain ⟨w7, hv⟩ : ∃ x, x = ((((w6.setCell ⟨w.heap.size + 1, 0, none⟩ (.int .i64 0)).setCell ⟨w.heap.size + 1, 1, none⟩ (.slice none 0 0)).setCell ⟨w.heap.size + 1, 2, none⟩ (.int .i64 0)).setCell ⟨w.heap.size + 1, 3, none⟩ (.slice none 0 0)) := ⟨_, rfl⟩
 rw [← hv]
 have og : w6.grownBy w7 (some (w.heap.size + 1)) := by rw [hv]; exact (only_setCell (only_setCell (only_setCell (only_setCell (World.grownBy.refl _ _) _) _) _) _)
 have hz : w.heap.size ≤ w.heap.size + 1 := by omega
 have hk : Bx w7 (w.heap.size + 1) 38 #[.int .i64 0, .slice none 0 0, .int .i64 0, .slice none 0 0] := by rw [hv]; exact (((((J1 M).1.set 0 _).set 1 _).set 2 _).set 3 _)
 have hbw : Below w.heap.size w w7 := by rw [hv]; exact (Below.setCell (Below.setCell (Below.setCell (Below.setCell (J3 M) (by omega) _) (by omega) _) (by omega) _) (by omega) _)
 replace M := Lib.hid (aI ((M.out.1).only og (by omega)) (aI hk (aI ((J2 M).1.only og (by omega)) hbw)))
 clear hk hbw og hv hz
 refine bodyPost_ret (results_box2t rfl _ _ w.heap.size (w.heap.size + 1) 38 38 _ _ _ _ _ _ rfl (J2 M).1 Try.underlying38 rfl (by kernel_rfl) rfl (J1 M).1 Try.underlying38 rfl (by kernel_rfl)) rfl ?_
 exact ⟨rfl, (J3 M)⟩
set_option maxRecDepth 100000 in
set_option maxHeartbeats 4000000 in
theorem scInterval_yes {cs : List Ct} {rs : List Rc} {sc rd day : Int} {a1 a2 : Option Addr} {cap1 cap2 : Nat} {w : World} (h1 : CtIn w (.slice a1 cs.length cap1) cs) (h2 : RcIn w (.slice a2 rs.length cap2) rs) (hn1 : cs.length ≤ 1099511627776) (hn2 : rs.length ≤ 1099511627776) {ct : Ct} {g : Nat} {hgl : g < cs.length} (hct : ct = cs[g]) (hf : findC cs sc day = some g) (hr : recalledB rs sc day = false) (hi : inR rd 0 1099511627776 = true) (hG : G ≤ w.heap.size) :
  Calls Try.prog 25 #[.slice a1 cs.length cap1, .slice a2 rs.length cap2, .int .i64 sc, .int .i64 rd, .int .i64 day] w fun e w' => ∃ a c b d a' c' b' d', e = .returned (.tuple #[.agg #[.int .i64 (sg (nu (loQ (errQ ct rd day) rd))), .slice a (ln (nu (loQ (errQ ct rd day) rd))) c, .int .i64 (sg (de (loQ (errQ ct rd day) rd))), .slice b (ln (de (loQ (errQ ct rd day) rd))) d], .agg #[.int .i64 (sg (nu (hiQ (errQ ct rd day) rd))), .slice a' (ln (nu (hiQ (errQ ct rd day) rd))) c', .int .i64 (sg (de (hiQ (errQ ct rd day) rd))), .slice b' (ln (de (hiQ (errQ ct rd day) rd))) d'], .bool true]) ∧ FD G w' a c b d (loQ (errQ ct rd day) rd) ∧ FD G w' a' c' b' d' (hiQ (errQ ct rd day) rd) ∧ Below w.heap.size w w' := by
 obtain ⟨hgl, -, hc⟩ := findC_is hf
 obtain ⟨b, off, rfl, hb, hcell⟩ := h1.at hgl
 obtain ⟨s, f, u, n, p, d⟩ := ct
 rw [← hct] at hc hcell
 have hI2 : (g : Int) < (cs.length : Int) := by omega
 have HC := Lib.hid hc
 have HF := Lib.hid hf
 have HR := Lib.hid hr
 have HI := Lib.hid hi
 clear hf hr hi hc hct
 have hbi := in_bounds HI.out
 have H1 : Hid (CtIn w (.slice (some ⟨b, off, none⟩) cs.length cap1) cs) := h1
 have H2 : Hid (RcIn w (.slice a2 rs.length cap2) rs) := h2
 have HROW : Hid (Row w b (off + g * 6) [.int .i64 s, .int .i64 f, .int .i64 u, .int .i64 n, .int .i64 p, .int .i64 d]) := ⟨hb, hcell⟩
 clear h1 h2 hcell
 have M : Hid (Below w.heap.size w w) := Below.refl _ _
 go_enter Try.func25, Try.ntmps25
 go_upto_region 1 with fail
 obtain ⟨w1, hv⟩ : ∃ x, x = ((w.alloc (.cells #[.int .i64 0, .slice none 0 0, .int .i64 0, .slice none 0 0] 38)).alloc (.cells #[.int .i64 0, .slice none 0 0, .int .i64 0, .slice none 0 0] 38)) := ⟨_, rfl⟩
 rw [← hv]
 replace M := al2W hv M
 clear hv
 go_wp2_with fail
 refine (scFind_some (sc := sc) (day := day) (H1.out.keep (J2 M)) (by omega) HF.out).mono ?_
 rintro e w2 ⟨rfl, hb⟩
 replace M := gnM hb M
 clear hb
 go_wp2_with fail
 refine (scRec_is (sc := sc) (day := day) (b := false) (H2.out.keep (J2 M)) (by omega) HR.out).mono ?_
 rintro e w3 ⟨rfl, hb⟩
 replace M := gnM hb M
 clear hb
 obtain ⟨r0_0, r0_1, r0_2, r0_3, r0_4, r0_5⟩ := (HROW.out.keep (J2 M)).c6
 go_wp2_with fail
 clear r0_0 r0_1 r0_2 r0_3 r0_4 r0_5
 refine nmW (α := Rat) (errQ ⟨s, f, u, n, p, d⟩ rd day) fun q5 eq5 => ?_
 refine (scError_yes (G := G) (s := s) (f := f) (u := u) (n := n) (p := p) (d := d) (rd := rd) (day := day) (Nat.le_trans hG (J2 M).size) HC.out HI.out).mono ?_
 rintro e w4 ⟨a_1, c_2, b_3, d_4, rfl, hd6, hb⟩
 rw [← eq5] at hd6 ⊢
 have Sq5 : Hid (Fz q5 9) := by show Fz q5 9; rw [eq5]; exact (errQ_size HC.out HI.out)
 have Eq5 := Lib.hid eq5; clear eq5
 replace M := adM hd6 hb M
 clear hb hd6
 go_upto_region 5 with fail
 obtain ⟨w5, hv⟩ : ∃ x, x = (w4.alloc (.cells #[.int .i64 (sg (nu q5)), .slice a_1 (ln (nu q5)) c_2, .int .i64 (sg (de q5)), .slice b_3 (ln (de q5)) d_4] 38)) := ⟨_, rfl⟩
 rw [← hv]
 have o2 : w.heap.size + 1 < w4.heap.size := ((J1 M).1).lt
 replace M := alM hv M
 clear hv
 go_wp2_with fail
 refine nmW (α := Rat) (rd : Rat) fun q11 eq11 => ?_
 refine (fracInt_ok (G := G) rd _ (by omega)).mono ?_
 rintro e w6 ⟨a_7, c_8, b_9, d_10, rfl, hd12, hb⟩
 rw [← eq11] at hd12 ⊢
 have Sq11 : Hid (Fz q11 4) := by show Fz q11 4; rw [eq11]; exact (Fz.int64 (by omega))
 have Eq11 := Lib.hid eq11; clear eq11
 replace M := adM hd12 hb M
 clear hb hd12
 go_upto_region 8 with fail
 obtain ⟨w7, hv⟩ : ∃ x, x = (w6.alloc (.cells #[.int .i64 (sg (nu q11)), .slice a_7 (ln (nu q11)) c_8, .int .i64 (sg (de q11)), .slice b_9 (ln (de q11)) d_10] 38)) := ⟨_, rfl⟩
 rw [← hv]
 have o3 : w4.heap.size < w6.heap.size := ((J1 M).1).lt
 replace M := alM hv M
 clear hv
 obtain ⟨aa, ab, ac, ad, ae, af, ag, ah⟩ := (M.out.1).c4
 obtain ⟨ai, aj, ak, al, am, ao, ap, aq⟩ := (J2 M).1.c4
 go_wp2_with fail
 clear aa ab ac ad ae af ag ah ai aj ak al am ao ap aq
 refine nmW (α := Rat) (q11 - q5) fun q17 eq17 => ?_
 refine (fracSub_ok (G := G) (q := q11) (r := q5) (J1 M).1 (J3 M).1 (Fz.mono Sq11.out (by omega)) (Fz.mono Sq5.out (by omega))).mono ?_
 rintro e w8 ⟨a_13, c_14, b_15, d_16, rfl, hd18, hb⟩
 rw [← eq17] at hd18 ⊢
 have Sq17 : Hid (Fz q17 14) := by show Fz q17 14; rw [eq17]; exact (Fz.sub Sq11.out Sq5.out)
 have Eq17 := Lib.hid eq17; clear eq17
 replace M := adM hd18 hb M
 clear hb hd18
 obtain ⟨ar, au, av, aw, ax, ay, az, ba⟩ := (J6 M).1.c4
 go_upto_region 9 with fail
 clear ar au av aw ax ay az ba
 obtain ⟨w9, hv⟩ : ∃ x, x = ((((w8.setCell ⟨w.heap.size, 0, none⟩ (.int .i64 (sg (nu q17)))).setCell ⟨w.heap.size, 1, none⟩ (.slice a_13 (ln (nu q17)) c_14)).setCell ⟨w.heap.size, 2, none⟩ (.int .i64 (sg (de q17)))).setCell ⟨w.heap.size, 3, none⟩ (.slice b_15 (ln (de q17)) d_16)) := ⟨_, rfl⟩
 rw [← hv]
 have og : w8.grownBy w9 (some w.heap.size) := by rw [hv]; exact (only_setCell (only_setCell (only_setCell (only_setCell (World.grownBy.refl _ _) _) _) _) _)
 have hz : w.heap.size ≤ w.heap.size := by exact Nat.le_refl _
 have hk : Bx w9 w.heap.size 38 #[.int .i64 (sg (nu q17)), .slice a_13 (ln (nu q17)) c_14, .int .i64 (sg (de q17)), .slice b_15 (ln (de q17)) d_16] := by rw [hv]; exact (((((J6 M).1.set 0 _).set 1 _).set 2 _).set 3 _)
 have hbw : Below w.heap.size w w9 := by rw [hv]; exact (Below.setCell (Below.setCell (Below.setCell (Below.setCell (J7 M) (by omega) _) (by omega) _) (by omega) _) (by omega) _)
 replace M := Lib.hid (aI ((M.out.1).far (J6 M).1 (by rfl) (by omega) og) (aI ((J1 M).1.only og (by omega)) (aI ((J2 M).1.far (J6 M).1 (by rfl) (by omega) og) (aI ((J3 M).1.only og (by omega)) (aI ((J4 M).1.far (J6 M).1 (by rfl) (by omega) og) (aI ((J5 M).1.only og (by omega)) (aI hk hbw)))))))
 clear hk hbw og hv hz
 obtain ⟨aa, ab, ac, ad, ae, af, ag, ah⟩ := (J1 M).1.c4
 obtain ⟨ai, aj, ak, al, am, ao, ap, aq⟩ := (J3 M).1.c4
 go_wp2_with fail
 clear aa ab ac ad ae af ag ah ai aj ak al am ao ap aq
 refine nmW (α := Rat) (q11 + q5) fun q23 eq23 => ?_
 refine (fracAdd_ok (G := G) (q := q11) (r := q5) (J2 M).1 (J4 M).1 (Fz.mono Sq11.out (by omega)) (Fz.mono Sq5.out (by omega))).mono ?_
 rintro e w10 ⟨a_19, c_20, b_21, d_22, rfl, hd24, hb⟩
 rw [← eq23] at hd24 ⊢
 have Sq23 : Hid (Fz q23 14) := by show Fz q23 14; rw [eq23]; exact (Fz.add Sq11.out Sq5.out)
 have Eq23 := Lib.hid eq23; clear eq23
 replace M := adM hd24 hb M
 clear hb hd24
 obtain ⟨bb, bc, bd, bf, bg, bh, bi, bj⟩ := (J6 M).1.c4
 go_upto_region 10 with fail
 clear bb bc bd bf bg bh bi bj
 obtain ⟨w11, hv⟩ : ∃ x, x = ((((w10.setCell ⟨w.heap.size + 1, 0, none⟩ (.int .i64 (sg (nu q23)))).setCell ⟨w.heap.size + 1, 1, none⟩ (.slice a_19 (ln (nu q23)) c_20)).setCell ⟨w.heap.size + 1, 2, none⟩ (.int .i64 (sg (de q23)))).setCell ⟨w.heap.size + 1, 3, none⟩ (.slice b_21 (ln (de q23)) d_22)) := ⟨_, rfl⟩
 rw [← hv]
 have og : w10.grownBy w11 (some (w.heap.size + 1)) := by rw [hv]; exact (only_setCell (only_setCell (only_setCell (only_setCell (World.grownBy.refl _ _) _) _) _) _)
 have hz : w.heap.size ≤ w.heap.size + 1 := by omega
 have hk : Bx w11 (w.heap.size + 1) 38 #[.int .i64 (sg (nu q23)), .slice a_19 (ln (nu q23)) c_20, .int .i64 (sg (de q23)), .slice b_21 (ln (de q23)) d_22] := by rw [hv]; exact (((((J6 M).1.set 0 _).set 1 _).set 2 _).set 3 _)
 have hbw : Below w.heap.size w w11 := by rw [hv]; exact (Below.setCell (Below.setCell (Below.setCell (Below.setCell (J8 M) (by omega) _) (by omega) _) (by omega) _) (by omega) _)
 replace M := Lib.hid (aI ((M.out.1).far (J6 M).1 (by rfl) (by omega) og) (aI ((J1 M).1.far (J6 M).1 (by rfl) (by omega) og) (aI ((J2 M).1.only og (by omega)) (aI ((J3 M).1.far (J6 M).1 (by rfl) (by omega) og) (aI ((J4 M).1.only og (by omega)) (aI ((J5 M).1.far (J6 M).1 (by rfl) (by omega) og) (aI hk (aI ((J7 M).1.only og (by omega)) hbw))))))))
 clear hk hbw og hv hz
 go_cut [] (fun wx => ∃ (a_25 : Option Addr), ∃ (c_26 : Nat), ∃ (b_27 : Option Addr), ∃ (d_28 : Nat), ∃ (q29 : Rat), ∃ (a_31 : Option Addr), ∃ (c_32 : Nat), ∃ (b_33 : Option Addr), ∃ (d_34 : Nat), ∃ (q35 : Rat), Hid (q29 = ((0 : Int) : Rat)) ∧ Hid (q35 = (pick q17 q29 (1))) ∧ Hid (Fz q29 4) ∧ Hid (FD G wx a_31 c_32 b_33 d_34 q35 ∧ FD G wx a_25 c_26 b_27 d_28 q29 ∧ FD G wx a_19 c_20 b_21 d_22 q23 ∧ FD G wx a_13 c_14 b_15 d_16 q17 ∧ FD G wx a_7 c_8 b_9 d_10 q11 ∧ FD G wx a_1 c_2 b_3 d_4 q5 ∧ Bx wx w.heap.size 38 #[.int .i64 (sg (nu q35)), .slice a_31 (ln (nu q35)) c_32, .int .i64 (sg (de q35)), .slice b_33 (ln (de q35)) d_34] ∧ Bx wx (w.heap.size + 1) 38 #[.int .i64 (sg (nu q23)), .slice a_19 (ln (nu q23)) c_20, .int .i64 (sg (de q23)), .slice b_21 (ln (de q23)) d_22] ∧ Bx wx w4.heap.size 38 #[.int .i64 (sg (nu q5)), .slice a_1 (ln (nu q5)) c_2, .int .i64 (sg (de q5)), .slice b_3 (ln (de q5)) d_4] ∧ Bx wx w6.heap.size 38 #[.int .i64 (sg (nu q11)), .slice a_7 (ln (nu q11)) c_8, .int .i64 (sg (de q11)), .slice b_9 (ln (de q11)) d_10] ∧ Below w.heap.size w wx))
 case first =>
  obtain ⟨w12, hv⟩ : ∃ x, x = w11.drew := ⟨_, rfl⟩
  replace M := drM hv M
  refine wp_region_held_drew (S := (fun _ => True)) (by kernel_rfl) trivial (fun hH37 => ?_)
  rw [← hv]
  clear hv
  refine wpAnyH_ready (rs := [0, 1]) (by kernel_rfl) (by simp) ?_
  refine AllReadyH.cons at0 (fun K hK => ?_) ?_
  ·
   obtain ⟨ar, au, av, aw, ax, ay, az, ba⟩ := (J7 M).1.c4
   go_simp
   clear ar au av aw ax ay az ba
   refine hK.out _ _ (trivial) (fun hH38 => ?_)
   clear hK K hH37
   (try simp only [Act.put, List.setIfInBounds_toArray, List.set_cons_zero, List.set_cons_succ])
   refine wpAnyH_ready (rs := [1]) (by kernel_rfl) (by simp) ?_
   refine AllReadyH.cons at1 (fun K hK => ?_) AllReadyH.nil
   go_simp
   refine nmW (α := Rat) ((0 : Int) : Rat) fun q43 eq43 => ?_
   refine (fracInt_ok (G := G) 0 _ (by omega)).mono ?_
   rintro e w13 ⟨a_39, c_40, b_41, d_42, rfl, hd44, hb⟩
   rw [← eq43] at hd44 ⊢
   have Sq43 : Hid (Fz q43 4) := by show Fz q43 4; rw [eq43]; exact (Fz.int64 (by omega))
   have Eq43 := Lib.hid eq43; clear eq43
   replace M := adM hd44 hb M
   clear hb hd44
   (try go_wp2_with fail)
   refine hK.out _ _ (trivial) (fun hH45 => ?_)
   clear hK K hH38
   (try simp only [Act.put, List.setIfInBounds_toArray, List.set_cons_zero, List.set_cons_succ])
   refine wpAnyH_ready (rs := [2]) (by kernel_rfl) (by simp) ?_
   refine AllReadyH.cons at2 (fun K hK => ?_) AllReadyH.nil
   go_simp
   refine nmW (α := Rat) (pick q17 q43 (1)) fun q50 eq50 => ?_
   refine (fracMax_ok (G := G) (q := q17) (r := q43) (J2 M).1 (M.out.1) (Fz.mono Sq17.out (by omega)) (Fz.mono Sq43.out (by omega))).mono ?_
   rintro e w14 ⟨a_46, c_47, b_48, d_49, rfl, hd51, hb⟩
   rw [← eq50] at hd51 ⊢
   have Eq50 := Lib.hid eq50; clear eq50
   replace M := adM hd51 hb M
   clear hb hd51
   (try go_wp2_with fail)
   refine hK.out _ _ (trivial) (fun hH52 => ?_)
   clear hK K hH45
   (try simp only [Act.put, List.setIfInBounds_toArray, List.set_cons_zero, List.set_cons_succ])
   refine tk at3 ?_
   refine tk at4 ?_
   refine tk at5 ?_
   refine wpAnyH_ready (rs := [6]) (by kernel_rfl) (by simp) ?_
   refine AllReadyH.cons at6 (fun K hK => ?_) AllReadyH.nil
   obtain ⟨ar, au, av, aw, ax, ay, az, ba⟩ := (J9 M).1.c4
   go_simp
   clear ar au av aw ax ay az ba
   obtain ⟨w15, hv⟩ : ∃ x, x = ((((w14.setCell ⟨w.heap.size, 0, none⟩ (.int .i64 (sg (nu q50)))).setCell ⟨w.heap.size, 1, none⟩ (.slice a_46 (ln (nu q50)) c_47)).setCell ⟨w.heap.size, 2, none⟩ (.int .i64 (sg (de q50)))).setCell ⟨w.heap.size, 3, none⟩ (.slice b_48 (ln (de q50)) d_49)) := ⟨_, rfl⟩
   rw [← hv]
   have og : w14.grownBy w15 (some w.heap.size) := by rw [hv]; exact (only_setCell (only_setCell (only_setCell (only_setCell (World.grownBy.refl _ _) _) _) _) _)
   have hz : w.heap.size ≤ w.heap.size := by exact Nat.le_refl _
   have hk : Bx w15 w.heap.size 38 #[.int .i64 (sg (nu q50)), .slice a_46 (ln (nu q50)) c_47, .int .i64 (sg (de q50)), .slice b_48 (ln (de q50)) d_49] := by rw [hv]; exact (((((J9 M).1.set 0 _).set 1 _).set 2 _).set 3 _)
   have hbw : Below w.heap.size w w15 := by rw [hv]; exact (Below.setCell (Below.setCell (Below.setCell (Below.setCell (J10 M) (by omega) _) (by omega) _) (by omega) _) (by omega) _)
   replace M := Lib.hid (aI ((M.out.1).far (J9 M).1 (by rfl) (by omega) og) (aI ((J1 M).1.far (J9 M).1 (by rfl) (by omega) og) (aI ((J2 M).1.far (J9 M).1 (by rfl) (by omega) og) (aI ((J3 M).1.far (J9 M).1 (by rfl) (by omega) og) (aI ((J4 M).1.only og (by omega)) (aI ((J5 M).1.far (J9 M).1 (by rfl) (by omega) og) (aI ((J6 M).1.only og (by omega)) (aI ((J7 M).1.far (J9 M).1 (by rfl) (by omega) og) (aI ((J8 M).1.only og (by omega)) (aI hk hbw))))))))))
   clear hk hbw og hv hz
   refine hK.out _ _ (trivial) (fun hH53 => ?_)
   clear hK K hH52
   (try simp only [Act.put, List.setIfInBounds_toArray, List.set_cons_zero, List.set_cons_succ])
   refine wpAnyH_done (by kernel_rfl) ?_ _
   clear hH53
   go_wp2_with fail
   go_meet
   exact ⟨a_39, c_40, b_41, d_42, q43, a_46, c_47, b_48, d_49, q50, Eq43, Eq50, Sq43, (M.out.1), (J1 M).1, (J2 M).1, (J3 M).1, (J5 M).1, (J7 M).1, (J9 M).1, (J8 M).1, (J6 M).1, (J4 M).1, (J10 M)⟩
  refine AllReadyH.cons at1 (fun K hK => ?_) AllReadyH.nil
  go_simp
  refine nmW (α := Rat) ((0 : Int) : Rat) fun q58 eq58 => ?_
  refine (fracInt_ok (G := G) 0 _ (by omega)).mono ?_
  rintro e w13 ⟨a_54, c_55, b_56, d_57, rfl, hd59, hb⟩
  rw [← eq58] at hd59 ⊢
  have Sq58 : Hid (Fz q58 4) := by show Fz q58 4; rw [eq58]; exact (Fz.int64 (by omega))
  have Eq58 := Lib.hid eq58; clear eq58
  replace M := adM hd59 hb M
  clear hb hd59
  (try go_wp2_with fail)
  refine hK.out _ _ (trivial) (fun hH60 => ?_)
  clear hK K hH37
  (try simp only [Act.put, List.setIfInBounds_toArray, List.set_cons_zero, List.set_cons_succ])
  refine wpAnyH_ready (rs := [0]) (by kernel_rfl) (by simp) ?_
  refine AllReadyH.cons at0 (fun K hK => ?_) AllReadyH.nil
  obtain ⟨ar, au, av, aw, ax, ay, az, ba⟩ := (J8 M).1.c4
  go_simp
  clear ar au av aw ax ay az ba
  refine hK.out _ _ (trivial) (fun hH61 => ?_)
  clear hK K hH60
  (try simp only [Act.put, List.setIfInBounds_toArray, List.set_cons_zero, List.set_cons_succ])
  refine wpAnyH_ready (rs := [2]) (by kernel_rfl) (by simp) ?_
  refine AllReadyH.cons at2 (fun K hK => ?_) AllReadyH.nil
  go_simp
  refine nmW (α := Rat) (pick q17 q58 (1)) fun q66 eq66 => ?_
  refine (fracMax_ok (G := G) (q := q17) (r := q58) (J2 M).1 (M.out.1) (Fz.mono Sq17.out (by omega)) (Fz.mono Sq58.out (by omega))).mono ?_
  rintro e w14 ⟨a_62, c_63, b_64, d_65, rfl, hd67, hb⟩
  rw [← eq66] at hd67 ⊢
  have Eq66 := Lib.hid eq66; clear eq66
  replace M := adM hd67 hb M
  clear hb hd67
  (try go_wp2_with fail)
  refine hK.out _ _ (trivial) (fun hH68 => ?_)
  clear hK K hH61
  (try simp only [Act.put, List.setIfInBounds_toArray, List.set_cons_zero, List.set_cons_succ])
  refine tk at3 ?_
  refine tk at4 ?_
  refine tk at5 ?_
  refine wpAnyH_ready (rs := [6]) (by kernel_rfl) (by simp) ?_
  refine AllReadyH.cons at6 (fun K hK => ?_) AllReadyH.nil
  obtain ⟨ar, au, av, aw, ax, ay, az, ba⟩ := (J9 M).1.c4
  go_simp
  clear ar au av aw ax ay az ba
  obtain ⟨w15, hv⟩ : ∃ x, x = ((((w14.setCell ⟨w.heap.size, 0, none⟩ (.int .i64 (sg (nu q66)))).setCell ⟨w.heap.size, 1, none⟩ (.slice a_62 (ln (nu q66)) c_63)).setCell ⟨w.heap.size, 2, none⟩ (.int .i64 (sg (de q66)))).setCell ⟨w.heap.size, 3, none⟩ (.slice b_64 (ln (de q66)) d_65)) := ⟨_, rfl⟩
  rw [← hv]
  have og : w14.grownBy w15 (some w.heap.size) := by rw [hv]; exact (only_setCell (only_setCell (only_setCell (only_setCell (World.grownBy.refl _ _) _) _) _) _)
  have hz : w.heap.size ≤ w.heap.size := by exact Nat.le_refl _
  have hk : Bx w15 w.heap.size 38 #[.int .i64 (sg (nu q66)), .slice a_62 (ln (nu q66)) c_63, .int .i64 (sg (de q66)), .slice b_64 (ln (de q66)) d_65] := by rw [hv]; exact (((((J9 M).1.set 0 _).set 1 _).set 2 _).set 3 _)
  have hbw : Below w.heap.size w w15 := by rw [hv]; exact (Below.setCell (Below.setCell (Below.setCell (Below.setCell (J10 M) (by omega) _) (by omega) _) (by omega) _) (by omega) _)
  replace M := Lib.hid (aI ((M.out.1).far (J9 M).1 (by rfl) (by omega) og) (aI ((J1 M).1.far (J9 M).1 (by rfl) (by omega) og) (aI ((J2 M).1.far (J9 M).1 (by rfl) (by omega) og) (aI ((J3 M).1.far (J9 M).1 (by rfl) (by omega) og) (aI ((J4 M).1.only og (by omega)) (aI ((J5 M).1.far (J9 M).1 (by rfl) (by omega) og) (aI ((J6 M).1.only og (by omega)) (aI ((J7 M).1.far (J9 M).1 (by rfl) (by omega) og) (aI ((J8 M).1.only og (by omega)) (aI hk hbw))))))))))
  clear hk hbw og hv hz
  refine hK.out _ _ (trivial) (fun hH69 => ?_)
  clear hK K hH68
  (try simp only [Act.put, List.setIfInBounds_toArray, List.set_cons_zero, List.set_cons_succ])
  refine wpAnyH_done (by kernel_rfl) ?_ _
  clear hH69
  go_wp2_with fail
  go_meet
  exact ⟨a_54, c_55, b_56, d_57, q58, a_62, c_63, b_64, d_65, q66, Eq58, Eq66, Sq58, (M.out.1), (J1 M).1, (J2 M).1, (J3 M).1, (J5 M).1, (J7 M).1, (J9 M).1, (J8 M).1, (J6 M).1, (J4 M).1, (J10 M)⟩
 case rest =>
  obtain ⟨a_25, c_26, b_27, d_28, q29, a_31, c_32, b_33, d_34, q35, Eq29, Eq35, Sq29, M⟩ := hcut
  obtain ⟨w12, rfl⟩ : ∃ x, x = wc := ⟨_, rfl⟩
  go_wp2_with fail
  obtain ⟨w13, hv⟩ : ∃ x, x = w12.drew := ⟨_, rfl⟩
  replace M := drM hv M
  refine wp_region_held_drew (S := (fun _ => True)) (by kernel_rfl) trivial (fun hH70 => ?_)
  rw [← hv]
  clear hv
  refine wpAnyH_ready (rs := [0, 1]) (by kernel_rfl) (by simp) ?_
  refine AllReadyH.cons at0 (fun K hK => ?_) ?_
  ·
   obtain ⟨ar, au, av, aw, ax, ay, az, ba⟩ := (J6 M).1.c4
   go_simp
   clear ar au av aw ax ay az ba
   refine hK.out _ _ (trivial) (fun hH71 => ?_)
   clear hK K hH70
   (try simp only [Act.put, List.setIfInBounds_toArray, List.set_cons_zero, List.set_cons_succ])
   refine wpAnyH_ready (rs := [1, 2]) (by kernel_rfl) (by simp) ?_
   refine AllReadyH.cons at1 (fun K hK => ?_) ?_
   ·
    obtain ⟨bb, bc, bd, bf, bg, bh, bi, bj⟩ := (J7 M).1.c4
    go_simp
    clear bb bc bd bf bg bh bi bj
    refine hK.out _ _ (trivial) (fun hH72 => ?_)
    clear hK K hH71
    (try simp only [Act.put, List.setIfInBounds_toArray, List.set_cons_zero, List.set_cons_succ])
    refine wpAnyH_ready (rs := [2]) (by kernel_rfl) (by simp) ?_
    refine AllReadyH.cons at2 (fun K hK => ?_) AllReadyH.nil
    obtain ⟨ar, au, av, aw, ax, ay, az, ba⟩ := (J6 M).1.c4
    go_simp
    clear ar au av aw ax ay az ba
    obtain ⟨w14, hv⟩ : ∃ x, x = ((((w13.setCell ⟨w.heap.size, 0, none⟩ (.int .i64 (sg (nu q35)))).setCell ⟨w.heap.size, 1, none⟩ (.slice a_31 (ln (nu q35)) c_32)).setCell ⟨w.heap.size, 2, none⟩ (.int .i64 (sg (de q35)))).setCell ⟨w.heap.size, 3, none⟩ (.slice b_33 (ln (de q35)) d_34)) := ⟨_, rfl⟩
    rw [← hv]
    have og : w13.grownBy w14 (some w.heap.size) := by rw [hv]; exact (only_setCell (only_setCell (only_setCell (only_setCell (World.grownBy.refl _ _) _) _) _) _)
    have hz : w.heap.size ≤ w.heap.size := by exact Nat.le_refl _
    have hk : Bx w14 w.heap.size 38 #[.int .i64 (sg (nu q35)), .slice a_31 (ln (nu q35)) c_32, .int .i64 (sg (de q35)), .slice b_33 (ln (de q35)) d_34] := by rw [hv]; exact (((((J6 M).1.set 0 _).set 1 _).set 2 _).set 3 _)
    have hbw : Below w.heap.size w w14 := by rw [hv]; exact (Below.setCell (Below.setCell (Below.setCell (Below.setCell (J10 M) (by omega) _) (by omega) _) (by omega) _) (by omega) _)
    replace M := Lib.hid (aI ((M.out.1).far (J6 M).1 (by rfl) (by omega) og) (aI ((J1 M).1.far (J6 M).1 (by rfl) (by omega) og) (aI ((J2 M).1.far (J6 M).1 (by rfl) (by omega) og) (aI ((J3 M).1.far (J6 M).1 (by rfl) (by omega) og) (aI ((J4 M).1.far (J6 M).1 (by rfl) (by omega) og) (aI ((J5 M).1.far (J6 M).1 (by rfl) (by omega) og) (aI hk (aI ((J7 M).1.only og (by omega)) (aI ((J8 M).1.only og (by omega)) (aI ((J9 M).1.only og (by omega)) hbw))))))))))
    clear hk hbw og hv hz
    refine hK.out _ _ (trivial) (fun hH73 => ?_)
    clear hK K hH72
    (try simp only [Act.put, List.setIfInBounds_toArray, List.set_cons_zero, List.set_cons_succ])
    refine wpAnyH_ready (rs := [3]) (by kernel_rfl) (by simp) ?_
    refine AllReadyH.cons at3 (fun K hK => ?_) AllReadyH.nil
    obtain ⟨bb, bc, bd, bf, bg, bh, bi, bj⟩ := (J7 M).1.c4
    go_simp
    clear bb bc bd bf bg bh bi bj
    obtain ⟨w15, hv⟩ : ∃ x, x = ((((w14.setCell ⟨w.heap.size + 1, 0, none⟩ (.int .i64 (sg (nu q23)))).setCell ⟨w.heap.size + 1, 1, none⟩ (.slice a_19 (ln (nu q23)) c_20)).setCell ⟨w.heap.size + 1, 2, none⟩ (.int .i64 (sg (de q23)))).setCell ⟨w.heap.size + 1, 3, none⟩ (.slice b_21 (ln (de q23)) d_22)) := ⟨_, rfl⟩
    rw [← hv]
    have og : w14.grownBy w15 (some (w.heap.size + 1)) := by rw [hv]; exact (only_setCell (only_setCell (only_setCell (only_setCell (World.grownBy.refl _ _) _) _) _) _)
    have hz : w.heap.size ≤ w.heap.size + 1 := by omega
    have hk : Bx w15 (w.heap.size + 1) 38 #[.int .i64 (sg (nu q23)), .slice a_19 (ln (nu q23)) c_20, .int .i64 (sg (de q23)), .slice b_21 (ln (de q23)) d_22] := by rw [hv]; exact (((((J7 M).1.set 0 _).set 1 _).set 2 _).set 3 _)
    have hbw : Below w.heap.size w w15 := by rw [hv]; exact (Below.setCell (Below.setCell (Below.setCell (Below.setCell (J10 M) (by omega) _) (by omega) _) (by omega) _) (by omega) _)
    replace M := Lib.hid (aI ((M.out.1).far (J7 M).1 (by rfl) (by omega) og) (aI ((J1 M).1.far (J7 M).1 (by rfl) (by omega) og) (aI ((J2 M).1.far (J7 M).1 (by rfl) (by omega) og) (aI ((J3 M).1.far (J7 M).1 (by rfl) (by omega) og) (aI ((J4 M).1.far (J7 M).1 (by rfl) (by omega) og) (aI ((J5 M).1.far (J7 M).1 (by rfl) (by omega) og) (aI ((J6 M).1.only og (by omega)) (aI hk (aI ((J8 M).1.only og (by omega)) (aI ((J9 M).1.only og (by omega)) hbw))))))))))
    clear hk hbw og hv hz
    refine hK.out _ _ (trivial) (fun hH74 => ?_)
    clear hK K hH73
    (try simp only [Act.put, List.setIfInBounds_toArray, List.set_cons_zero, List.set_cons_succ])
    refine tk at4 ?_
    refine wpAnyH_done (by kernel_rfl) ?_ _
    clear hH74
    go_wp2_with fail
    have HL : loQ (errQ ⟨s, f, u, n, p, d⟩ rd day) rd = q35 := by rw [Eq35.out, Eq17.out, Eq29.out, Eq11.out, Eq5.out]; rfl
    have HH : hiQ (errQ ⟨s, f, u, n, p, d⟩ rd day) rd = q23 := by rw [Eq23.out, Eq11.out, Eq5.out]; rfl
    rw [HL, HH]
    refine bodyPost_ret (results_box2t rfl _ _ w.heap.size (w.heap.size + 1) 38 38 _ _ _ _ _ _ rfl (J6 M).1 Try.underlying38 rfl (by kernel_rfl) rfl (J7 M).1 Try.underlying38 rfl (by kernel_rfl)) rfl ?_
    exact ⟨_, _, _, _, _, _, _, _, rfl, (M.out.1), (J2 M).1, (J10 M)⟩
   refine AllReadyH.cons at2 (fun K hK => ?_) AllReadyH.nil
   obtain ⟨ar, au, av, aw, ax, ay, az, ba⟩ := (J6 M).1.c4
   go_simp
   clear ar au av aw ax ay az ba
   obtain ⟨w14, hv⟩ : ∃ x, x = ((((w13.setCell ⟨w.heap.size, 0, none⟩ (.int .i64 (sg (nu q35)))).setCell ⟨w.heap.size, 1, none⟩ (.slice a_31 (ln (nu q35)) c_32)).setCell ⟨w.heap.size, 2, none⟩ (.int .i64 (sg (de q35)))).setCell ⟨w.heap.size, 3, none⟩ (.slice b_33 (ln (de q35)) d_34)) := ⟨_, rfl⟩
   rw [← hv]
   have og : w13.grownBy w14 (some w.heap.size) := by rw [hv]; exact (only_setCell (only_setCell (only_setCell (only_setCell (World.grownBy.refl _ _) _) _) _) _)
   have hz : w.heap.size ≤ w.heap.size := by exact Nat.le_refl _
   have hk : Bx w14 w.heap.size 38 #[.int .i64 (sg (nu q35)), .slice a_31 (ln (nu q35)) c_32, .int .i64 (sg (de q35)), .slice b_33 (ln (de q35)) d_34] := by rw [hv]; exact (((((J6 M).1.set 0 _).set 1 _).set 2 _).set 3 _)
   have hbw : Below w.heap.size w w14 := by rw [hv]; exact (Below.setCell (Below.setCell (Below.setCell (Below.setCell (J10 M) (by omega) _) (by omega) _) (by omega) _) (by omega) _)
   replace M := Lib.hid (aI ((M.out.1).far (J6 M).1 (by rfl) (by omega) og) (aI ((J1 M).1.far (J6 M).1 (by rfl) (by omega) og) (aI ((J2 M).1.far (J6 M).1 (by rfl) (by omega) og) (aI ((J3 M).1.far (J6 M).1 (by rfl) (by omega) og) (aI ((J4 M).1.far (J6 M).1 (by rfl) (by omega) og) (aI ((J5 M).1.far (J6 M).1 (by rfl) (by omega) og) (aI hk (aI ((J7 M).1.only og (by omega)) (aI ((J8 M).1.only og (by omega)) (aI ((J9 M).1.only og (by omega)) hbw))))))))))
   clear hk hbw og hv hz
   refine hK.out _ _ (trivial) (fun hH75 => ?_)
   clear hK K hH71
   (try simp only [Act.put, List.setIfInBounds_toArray, List.set_cons_zero, List.set_cons_succ])
   refine wpAnyH_ready (rs := [1]) (by kernel_rfl) (by simp) ?_
   refine AllReadyH.cons at1 (fun K hK => ?_) AllReadyH.nil
   obtain ⟨bb, bc, bd, bf, bg, bh, bi, bj⟩ := (J7 M).1.c4
   go_simp
   clear bb bc bd bf bg bh bi bj
   refine hK.out _ _ (trivial) (fun hH76 => ?_)
   clear hK K hH75
   (try simp only [Act.put, List.setIfInBounds_toArray, List.set_cons_zero, List.set_cons_succ])
   refine wpAnyH_ready (rs := [3]) (by kernel_rfl) (by simp) ?_
   refine AllReadyH.cons at3 (fun K hK => ?_) AllReadyH.nil
   obtain ⟨bb, bc, bd, bf, bg, bh, bi, bj⟩ := (J7 M).1.c4
   go_simp
   clear bb bc bd bf bg bh bi bj
   obtain ⟨w15, hv⟩ : ∃ x, x = ((((w14.setCell ⟨w.heap.size + 1, 0, none⟩ (.int .i64 (sg (nu q23)))).setCell ⟨w.heap.size + 1, 1, none⟩ (.slice a_19 (ln (nu q23)) c_20)).setCell ⟨w.heap.size + 1, 2, none⟩ (.int .i64 (sg (de q23)))).setCell ⟨w.heap.size + 1, 3, none⟩ (.slice b_21 (ln (de q23)) d_22)) := ⟨_, rfl⟩
   rw [← hv]
   have og : w14.grownBy w15 (some (w.heap.size + 1)) := by rw [hv]; exact (only_setCell (only_setCell (only_setCell (only_setCell (World.grownBy.refl _ _) _) _) _) _)
   have hz : w.heap.size ≤ w.heap.size + 1 := by omega
   have hk : Bx w15 (w.heap.size + 1) 38 #[.int .i64 (sg (nu q23)), .slice a_19 (ln (nu q23)) c_20, .int .i64 (sg (de q23)), .slice b_21 (ln (de q23)) d_22] := by rw [hv]; exact (((((J7 M).1.set 0 _).set 1 _).set 2 _).set 3 _)
   have hbw : Below w.heap.size w w15 := by rw [hv]; exact (Below.setCell (Below.setCell (Below.setCell (Below.setCell (J10 M) (by omega) _) (by omega) _) (by omega) _) (by omega) _)
   replace M := Lib.hid (aI ((M.out.1).far (J7 M).1 (by rfl) (by omega) og) (aI ((J1 M).1.far (J7 M).1 (by rfl) (by omega) og) (aI ((J2 M).1.far (J7 M).1 (by rfl) (by omega) og) (aI ((J3 M).1.far (J7 M).1 (by rfl) (by omega) og) (aI ((J4 M).1.far (J7 M).1 (by rfl) (by omega) og) (aI ((J5 M).1.far (J7 M).1 (by rfl) (by omega) og) (aI ((J6 M).1.only og (by omega)) (aI hk (aI ((J8 M).1.only og (by omega)) (aI ((J9 M).1.only og (by omega)) hbw))))))))))
   clear hk hbw og hv hz
   refine hK.out _ _ (trivial) (fun hH77 => ?_)
   clear hK K hH76
   (try simp only [Act.put, List.setIfInBounds_toArray, List.set_cons_zero, List.set_cons_succ])
   refine tk at4 ?_
   refine wpAnyH_done (by kernel_rfl) ?_ _
   clear hH77
   go_wp2_with fail
   have HL : loQ (errQ ⟨s, f, u, n, p, d⟩ rd day) rd = q35 := by rw [Eq35.out, Eq17.out, Eq29.out, Eq11.out, Eq5.out]; rfl
   have HH : hiQ (errQ ⟨s, f, u, n, p, d⟩ rd day) rd = q23 := by rw [Eq23.out, Eq11.out, Eq5.out]; rfl
   rw [HL, HH]
   refine bodyPost_ret (results_box2t rfl _ _ w.heap.size (w.heap.size + 1) 38 38 _ _ _ _ _ _ rfl (J6 M).1 Try.underlying38 rfl (by kernel_rfl) rfl (J7 M).1 Try.underlying38 rfl (by kernel_rfl)) rfl ?_
   exact ⟨_, _, _, _, _, _, _, _, rfl, (M.out.1), (J2 M).1, (J10 M)⟩
  refine AllReadyH.cons at1 (fun K hK => ?_) AllReadyH.nil
  obtain ⟨bb, bc, bd, bf, bg, bh, bi, bj⟩ := (J7 M).1.c4
  go_simp
  clear bb bc bd bf bg bh bi bj
  refine hK.out _ _ (trivial) (fun hH78 => ?_)
  clear hK K hH70
  (try simp only [Act.put, List.setIfInBounds_toArray, List.set_cons_zero, List.set_cons_succ])
  refine wpAnyH_ready (rs := [0]) (by kernel_rfl) (by simp) ?_
  refine AllReadyH.cons at0 (fun K hK => ?_) AllReadyH.nil
  obtain ⟨ar, au, av, aw, ax, ay, az, ba⟩ := (J6 M).1.c4
  go_simp
  clear ar au av aw ax ay az ba
  refine hK.out _ _ (trivial) (fun hH79 => ?_)
  clear hK K hH78
  (try simp only [Act.put, List.setIfInBounds_toArray, List.set_cons_zero, List.set_cons_succ])
  refine wpAnyH_ready (rs := [2]) (by kernel_rfl) (by simp) ?_
  refine AllReadyH.cons at2 (fun K hK => ?_) AllReadyH.nil
  obtain ⟨ar, au, av, aw, ax, ay, az, ba⟩ := (J6 M).1.c4
  go_simp
  clear ar au av aw ax ay az ba
  obtain ⟨w14, hv⟩ : ∃ x, x = ((((w13.setCell ⟨w.heap.size, 0, none⟩ (.int .i64 (sg (nu q35)))).setCell ⟨w.heap.size, 1, none⟩ (.slice a_31 (ln (nu q35)) c_32)).setCell ⟨w.heap.size, 2, none⟩ (.int .i64 (sg (de q35)))).setCell ⟨w.heap.size, 3, none⟩ (.slice b_33 (ln (de q35)) d_34)) := ⟨_, rfl⟩
  rw [← hv]
  have og : w13.grownBy w14 (some w.heap.size) := by rw [hv]; exact (only_setCell (only_setCell (only_setCell (only_setCell (World.grownBy.refl _ _) _) _) _) _)
  have hz : w.heap.size ≤ w.heap.size := by exact Nat.le_refl _
  have hk : Bx w14 w.heap.size 38 #[.int .i64 (sg (nu q35)), .slice a_31 (ln (nu q35)) c_32, .int .i64 (sg (de q35)), .slice b_33 (ln (de q35)) d_34] := by rw [hv]; exact (((((J6 M).1.set 0 _).set 1 _).set 2 _).set 3 _)
  have hbw : Below w.heap.size w w14 := by rw [hv]; exact (Below.setCell (Below.setCell (Below.setCell (Below.setCell (J10 M) (by omega) _) (by omega) _) (by omega) _) (by omega) _)
  replace M := Lib.hid (aI ((M.out.1).far (J6 M).1 (by rfl) (by omega) og) (aI ((J1 M).1.far (J6 M).1 (by rfl) (by omega) og) (aI ((J2 M).1.far (J6 M).1 (by rfl) (by omega) og) (aI ((J3 M).1.far (J6 M).1 (by rfl) (by omega) og) (aI ((J4 M).1.far (J6 M).1 (by rfl) (by omega) og) (aI ((J5 M).1.far (J6 M).1 (by rfl) (by omega) og) (aI hk (aI ((J7 M).1.only og (by omega)) (aI ((J8 M).1.only og (by omega)) (aI ((J9 M).1.only og (by omega)) hbw))))))))))
  clear hk hbw og hv hz
  refine hK.out _ _ (trivial) (fun hH80 => ?_)
  clear hK K hH79
  (try simp only [Act.put, List.setIfInBounds_toArray, List.set_cons_zero, List.set_cons_succ])
  refine wpAnyH_ready (rs := [3]) (by kernel_rfl) (by simp) ?_
  refine AllReadyH.cons at3 (fun K hK => ?_) AllReadyH.nil
  obtain ⟨bb, bc, bd, bf, bg, bh, bi, bj⟩ := (J7 M).1.c4
  go_simp
  clear bb bc bd bf bg bh bi bj
  obtain ⟨w15, hv⟩ : ∃ x, x = ((((w14.setCell ⟨w.heap.size + 1, 0, none⟩ (.int .i64 (sg (nu q23)))).setCell ⟨w.heap.size + 1, 1, none⟩ (.slice a_19 (ln (nu q23)) c_20)).setCell ⟨w.heap.size + 1, 2, none⟩ (.int .i64 (sg (de q23)))).setCell ⟨w.heap.size + 1, 3, none⟩ (.slice b_21 (ln (de q23)) d_22)) := ⟨_, rfl⟩
  rw [← hv]
  have og : w14.grownBy w15 (some (w.heap.size + 1)) := by rw [hv]; exact (only_setCell (only_setCell (only_setCell (only_setCell (World.grownBy.refl _ _) _) _) _) _)
  have hz : w.heap.size ≤ w.heap.size + 1 := by omega
  have hk : Bx w15 (w.heap.size + 1) 38 #[.int .i64 (sg (nu q23)), .slice a_19 (ln (nu q23)) c_20, .int .i64 (sg (de q23)), .slice b_21 (ln (de q23)) d_22] := by rw [hv]; exact (((((J7 M).1.set 0 _).set 1 _).set 2 _).set 3 _)
  have hbw : Below w.heap.size w w15 := by rw [hv]; exact (Below.setCell (Below.setCell (Below.setCell (Below.setCell (J10 M) (by omega) _) (by omega) _) (by omega) _) (by omega) _)
  replace M := Lib.hid (aI ((M.out.1).far (J7 M).1 (by rfl) (by omega) og) (aI ((J1 M).1.far (J7 M).1 (by rfl) (by omega) og) (aI ((J2 M).1.far (J7 M).1 (by rfl) (by omega) og) (aI ((J3 M).1.far (J7 M).1 (by rfl) (by omega) og) (aI ((J4 M).1.far (J7 M).1 (by rfl) (by omega) og) (aI ((J5 M).1.far (J7 M).1 (by rfl) (by omega) og) (aI ((J6 M).1.only og (by omega)) (aI hk (aI ((J8 M).1.only og (by omega)) (aI ((J9 M).1.only og (by omega)) hbw))))))))))
  clear hk hbw og hv hz
  refine hK.out _ _ (trivial) (fun hH81 => ?_)
  clear hK K hH80
  (try simp only [Act.put, List.setIfInBounds_toArray, List.set_cons_zero, List.set_cons_succ])
  refine tk at4 ?_
  refine wpAnyH_done (by kernel_rfl) ?_ _
  clear hH81
  go_wp2_with fail
  have HL : loQ (errQ ⟨s, f, u, n, p, d⟩ rd day) rd = q35 := by rw [Eq35.out, Eq17.out, Eq29.out, Eq11.out, Eq5.out]; rfl
  have HH : hiQ (errQ ⟨s, f, u, n, p, d⟩ rd day) rd = q23 := by rw [Eq23.out, Eq11.out, Eq5.out]; rfl
  rw [HL, HH]
  refine bodyPost_ret (results_box2t rfl _ _ w.heap.size (w.heap.size + 1) 38 38 _ _ _ _ _ _ rfl (J6 M).1 Try.underlying38 rfl (by kernel_rfl) rfl (J7 M).1 Try.underlying38 rfl (by kernel_rfl)) rfl ?_
  exact ⟨_, _, _, _, _, _, _, _, rfl, (M.out.1), (J2 M).1, (J10 M)⟩
end Go.Proofs.Ytlcgckelamhnpaa
namespace Go.Proofs.Ytlcgckelamhnpaa
open Go.RowKit
variable {G : Nat}

theorem sg_neg_iff (q : Rat) : sg (nu q) < 0 ↔ q < 0 := by
  have h1 : sg (nu q) < 0 ↔ nu q < 0 := by
    rcases Int.lt_trichotomy (nu q) 0 with h | h | h
    · rw [sg, Int.sign_eq_neg_one_of_neg h]; simp [h]
    · rw [h, sg_zero]
    · rw [sg, Int.sign_eq_one_of_pos h]; constructor <;> intro h' <;> omega
  rw [h1, nu, ← Int.not_le, Rat.num_nonneg, Rat.not_le]
theorem lo_neg {e : Rat} {rd : Int} (h : sg (nu ((rd : Rat) - e)) < 0) : loQ e rd = ((0 : Int) : Rat) := by
 rw [sg_neg_iff] at h
 have h0 : ((0 : Int) : Rat) = 0 := rfl
 rw [loQ, pick, ordQ, h0, if_pos h, if_pos (by decide)]
theorem lo_pos {e : Rat} {rd : Int} (h : sg (nu ((rd : Rat) - e)) ≥ 0) : loQ e rd = (rd : Rat) - e := by
  have h1 : ¬ ((rd : Rat) - e < 0) := fun h' => by rw [← sg_neg_iff] at h'; omega
  have h0 : ((0 : Int) : Rat) = 0 := rfl
  rw [loQ, pick, ordQ, h0, if_neg h1]
  split
  · rw [if_neg (by decide)]
  · rw [if_neg (by decide)]
end Go.Proofs.Ytlcgckelamhnpaa
namespace Go.Proofs.Ytlcgckelamhnpaa
open Go.RowKit
variable {G : Nat}

def ivl (cs : List Ct) (rs : List Rc) (sc rd day : Int) : Option (Rat × Rat) :=
 match findC cs sc day with
 | none => none
 | some g => match cs[g]? with
  | none => none
  | some c => if recalledB rs sc day = true then none else if inR rd 0 1099511627776 = true then some (loQ (errQ c rd day) rd, hiQ (errQ c rd day) rd) else none
def loO (cs : List Ct) (rs : List Rc) (sc rd day : Int) : Option Rat := (ivl cs rs sc rd day).map (·.1)
def hiO (cs : List Ct) (rs : List Rc) (sc rd day : Int) : Option Rat := (ivl cs rs sc rd day).map (·.2)
def hasI (cs : List Ct) (rs : List Rc) (sc rd day : Int) : Bool := (ivl cs rs sc rd day).isSome
theorem lo_size {e : Rat} {rd : Int} (h : Fz e 9) (h' : inR rd 0 1099511627776 = true) : Fz (loQ e rd) 14 := by
  have hb := in_bounds h'
  unfold loQ pick
  split
  · exact (Fz.int64 (x := 0) (by omega)).mono (by omega)
  · exact Fz.sub (n := 4) (Fz.int64 (by omega)) h
theorem hi_size {e : Rat} {rd : Int} (h : Fz e 9) (h' : inR rd 0 1099511627776 = true) : Fz (hiQ e rd) 14 := by
 have hb := in_bounds h'
 exact Fz.add (n := 4) (Fz.int64 (by omega)) h
theorem ivl_some {cs : List Ct} {rs : List Rc} {sc rd day : Int} {l h : Rat} (hi : ivl cs rs sc rd day = some (l, h)) :
    ∃ (g : Nat) (hg : g < cs.length), findC cs sc day = some g ∧ recalledB rs sc day = false ∧ inR rd 0 1099511627776 = true ∧ coversC cs[g] day = true ∧ l = loQ (errQ cs[g] rd day) rd ∧ h = hiQ (errQ cs[g] rd day) rd := by
  unfold ivl at hi
  split at hi
  · cases hi
  · rename_i g hg
    obtain ⟨hgl, -, hc⟩ := findC_is hg
    rw [List.getElem?_eq_getElem hgl] at hi
    simp only at hi
    split at hi
    · cases hi
    · split at hi
      · rename_i h1 h2
        simp only [Option.some.injEq, Prod.mk.injEq] at hi
        exact ⟨g, hgl, hg, by simpa using h1, h2, hc, hi.1.symm, hi.2.symm⟩
      · cases hi
theorem ivl_none {cs : List Ct} {rs : List Rc} {sc rd day : Int} (hi : ivl cs rs sc rd day = none) :
    findC cs sc day = none ∨ (∃ g, findC cs sc day = some g ∧ recalledB rs sc day = true) ∨ (∃ (g : Nat) (_ : g < cs.length), findC cs sc day = some g ∧ recalledB rs sc day = false ∧ inR rd 0 1099511627776 = false) := by
  unfold ivl at hi
  split at hi
  · rename_i h; exact .inl h
  · rename_i g hg
    obtain ⟨hgl, -, hc⟩ := findC_is hg
    rw [List.getElem?_eq_getElem hgl] at hi
    simp only at hi
    split at hi
    · rename_i h1; exact .inr (.inl ⟨g, hg, h1⟩)
    · rename_i h1
      split at hi
      · cases hi
      · rename_i h2; exact .inr (.inr ⟨g, hgl, hg, by simpa using h1, by simpa using h2⟩)
theorem ivl_size {cs : List Ct} {rs : List Rc} {sc rd day : Int} {l h : Rat} (hi : ivl cs rs sc rd day = some (l, h)) : Fz l 14 ∧ Fz h 14 := by
 obtain ⟨g, hg, -, -, h2, hc, rfl, rfl⟩ := ivl_some hi
 exact ⟨lo_size (errQ_size hc h2) h2, hi_size (errQ_size hc h2) h2⟩
theorem scInterval_all {v1 v2 : Value} {cs : List Ct} {rs : List Rc} {sc rd day : Int} {w : World} (h1 : CtIn w v1 cs) (h2 : RcIn w v2 rs) (hn1 : cs.length ≤ 1099511627776) (hn2 : rs.length ≤ 1099511627776) (hG : G ≤ w.heap.size) :
    Calls Try.prog 25 #[v1, v2, .int .i64 sc, .int .i64 rd, .int .i64 day] w fun e w' => ∃ a c b d a' c' b' d', e = .returned (.tuple #[.agg #[.int .i64 (sg (oN (loO cs rs sc rd day))), .slice a (ln (oN (loO cs rs sc rd day))) c, .int .i64 (sg (oD (loO cs rs sc rd day))), .slice b (ln (oD (loO cs rs sc rd day))) d], .agg #[.int .i64 (sg (oN (hiO cs rs sc rd day))), .slice a' (ln (oN (hiO cs rs sc rd day))) c', .int .i64 (sg (oD (hiO cs rs sc rd day))), .slice b' (ln (oD (hiO cs rs sc rd day))) d'], .bool (hasI cs rs sc rd day)]) ∧ BD G w' a c (oN (loO cs rs sc rd day)) ∧ BD G w' b d (oD (loO cs rs sc rd day)) ∧ BD G w' a' c' (oN (hiO cs rs sc rd day)) ∧ BD G w' b' d' (oD (hiO cs rs sc rd day)) ∧ Below w.heap.size w w' := by
  obtain ⟨a1, cap1, rfl⟩ := h1.shape
  obtain ⟨a2, cap2, rfl⟩ := h2.shape
  unfold loO hiO hasI
  cases hi : ivl cs rs sc rd day with
  | none =>
    rcases ivl_none hi with hf | ⟨g, hf, hr⟩ | ⟨g, hgl, hf, hr, hr2⟩
    · exact (scInterval_no1 h1 h2 hn1 hn2 hf).mono fun e w' ⟨he, hb⟩ => ⟨none, 0, none, 0, none, 0, none, 0, he, bd_zero _ _ _, bd_zero _ _ _, bd_zero _ _ _, bd_zero _ _ _, hb⟩
    · exact (scInterval_no2 h1 h2 hn1 hn2 hf hr).mono fun e w' ⟨he, hb⟩ => ⟨none, 0, none, 0, none, 0, none, 0, he, bd_zero _ _ _, bd_zero _ _ _, bd_zero _ _ _, bd_zero _ _ _, hb⟩
    · exact (scInterval_no3 h1 h2 hn1 hn2 (hgl := hgl) rfl hf hr hr2).mono fun e w' ⟨he, hb⟩ => ⟨none, 0, none, 0, none, 0, none, 0, he, bd_zero _ _ _, bd_zero _ _ _, bd_zero _ _ _, bd_zero _ _ _, hb⟩
  | some x =>
    obtain ⟨l, r⟩ := x
    obtain ⟨g, hgl, hf, hr, hr2, hc, rfl, rfl⟩ := ivl_some hi
    exact (scInterval_yes h1 h2 hn1 hn2 (hgl := hgl) rfl hf hr hr2 hG).mono fun e w' ⟨a, c, b, d, a', c', b', d', he, hl, hh, hb⟩ => ⟨a, c, b, d, a', c', b', d', he, hl.n, hl.d, hh.n, hh.d, hb⟩
end Go.Proofs.Ytlcgckelamhnpaa
