/- The walk of BigInts: whatever the arguments, it returns true. -/
import Derived.Test.YtlinegodpoihoaaDoorLaw04c
namespace Go.Proofs.YtlinegodpoihoaaDoor
open Go.RowKit Go.Lib
variable {G : Nat}

theorem bigInt_v {x v : Int} {a1 : Option Addr} {c1 : Nat} {w : World} (h1 : BD G w a1 c1 x) (hX : Sz x 1099511627776) (hv : x = v) (hr : -9223372036854775808 ≤ v ∧ v ≤ 9223372036854775807) :
    Calls Tryd.prog 24 #[.agg #[.int .i64 (sg x), .slice a1 (ln x) c1]] w fun e w' => e = .returned (.tuple #[.int .i64 v, .bool true]) ∧ Below w.heap.size w w' := by
  subst hv; exact bigInt_is h1 hX hr
theorem bigInt_no {x : Int} {a1 : Option Addr} {c1 : Nat} {w : World} (h1 : BD G w a1 c1 x) (hX : Sz x 1099511627776) (hr : ¬ (-9223372036854775808 ≤ x ∧ x ≤ 9223372036854775807)) :
    Calls Tryd.prog 24 #[.agg #[.int .i64 (sg x), .slice a1 (ln x) c1]] w fun e w' => e = .returned (.tuple #[.int .i64 0, .bool false]) ∧ Below w.heap.size w w' := by
  have := bigInt_ok h1 hX; rw [intRes_no hr] at this; exact this
theorem text_eq (a b : Int) : ((⟨(textZ a).toArray⟩ : ByteArray).toList == (⟨(textZ b).toArray⟩ : ByteArray).toList) = (a == b) := by
  rw [Lib.toList_data, Lib.toList_data]
  show (textZ a == textZ b) = _
  by_cases h : a = b
  · subst h; simp
  · have h1 : (a == b) = false := by rw [beq_eq_false_iff_ne]; exact h
    rw [h1, beq_eq_false_iff_ne]
    intro h2; exact h (textZ_inj h2)

theorem mul_half {a b : Int} (h : -1073741824 < a ∧ a < 1073741824) (h' : -1073741824 < b ∧ b < 1073741824) : -1152921504606846976 ≤ a * b ∧ a * b ≤ 1152921504606846976 := by
  have h1 : a.natAbs ≤ 1073741824 := by omega
  have h2 : b.natAbs ≤ 1073741824 := by omega
  have h3 := Nat.mul_le_mul h1 h2
  rw [← Int.natAbs_mul] at h3
  omega

set_option maxRecDepth 100000 in
set_option maxHeartbeats 4000000 in
theorem ints_min {a b : Int} {w : World} (hG : G ≤ w.heap.size) (ht : Tab w) (ha : -9223372036854775808 ≤ a ∧ a ≤ 9223372036854775807) (hb : -9223372036854775808 ≤ b ∧ b ≤ 9223372036854775807) (hm : a = -9223372036854775808)  :
    Calls Tryd.prog 8 #[.int .i64 a, .int .i64 b] w fun e w' => e = .returned (.bool true) ∧ Below w.heap.size w w' := by
  obtain ⟨Sa, hSa⟩ : ∃ s : ByteArray, (⟨(textZ a).toArray⟩ : ByteArray) = s := ⟨_, rfl⟩
  obtain ⟨Sb, hSb⟩ : ∃ s : ByteArray, (⟨(textZ b).toArray⟩ : ByteArray) = s := ⟨_, rfl⟩
  obtain ⟨bt, hbt⟩ : ∃ t, (a == b) = t := ⟨_, rfl⟩
  have hst : (Sa.toList == Sb.toList) = bt := by rw [← hSa, ← hSb, text_eq, hbt]
  obtain ⟨bl, hbl⟩ : ∃ t, decide (a < b) = t := ⟨_, rfl⟩
  obtain ⟨bg, hbg⟩ : ∃ t, decide (b < a) = t := ⟨_, rfl⟩
  have HOL : Hid (bl = true → ord a b = -1) := by show _ → _; intro h; rw [← hbl] at h; have := of_decide_eq_true h; unfold ord; rw [if_pos this]
  have HOG : Hid (bg = true → ord a b = 1) := by show _ → _; intro h; rw [← hbg] at h; have := of_decide_eq_true h; unfold ord; rw [if_neg (by omega), if_pos this]
  have HOE : Hid (bl = false → bg = false → ord a b = 0) := by
    show _ → _ → _
    intro h h'
    rw [← hbl] at h; rw [← hbg] at h'
    have := of_decide_eq_false h; have := of_decide_eq_false h'
    unfold ord; rw [if_neg (by omega), if_neg (by omega)]
  have w1_ : IntKind.i64.wrap (-1073741824) = -1073741824 := rfl
  have hn : ¬ (-9223372036854775808 ≤ -a ∧ -a ≤ 9223372036854775807) := by omega
  have HNR := Lib.hid hn
  have g1 : (a != -9223372036854775808) = false := by rw [hm]; rfl
  have g1' : (a == -9223372036854775808) = true := by rw [hm]; rfl
  have g1'' : (!(a == -9223372036854775808)) = false := by rw [hm]; rfl
  have g2 : decide (-1073741824 < a) = false := by rw [hm]; rfl
  have HSA := Lib.hid hSa; have HSB := Lib.hid hSb; have HA := Lib.hid ha; have HB := Lib.hid hb
  clear hSa hSb ha hb hm
  have HT : Hid (Tab w) := ht
  clear ht
  have M : Hid (Below w.heap.size w w) := Below.refl _ _
  go_enter Tryd.func8, Tryd.ntmps8
  go_wp2_with fail
  refine (small_ok (G := G) (Nat.le_trans hG M.out.size) (HT.out.keep M.out)).mono ?_
  rintro e w1 ⟨rfl, hb⟩
  replace M := Lib.hid (Goes.go M.out hb)
  clear hb
  go_wp2_with fail
  refine (bigOf_ok (G := G) a _ HA.out).mono ?_
  rintro e w2 ⟨a_1, c_2, rfl, hd3, hb⟩
  replace M := Lib.hid (And.intro hd3 (Goes.go M.out hb))
  clear hb hd3
  go_upto_region 3 with fail
  obtain ⟨w3, hv⟩ : ∃ w_ : World, w_ = (w2.alloc (.cells #[.int .i64 (sg a), .slice a_1 (ln a) c_2] 24)) := ⟨_, rfl⟩
  rw [← hv]
  have o0 : w.heap.size ≤ w2.heap.size := ((M.out.2)).size
  replace M := Lib.hid (And.intro (hv ▸ bx1 w2 24 #[.int .i64 (sg a), .slice a_1 (ln a) c_2]) (Goes.go M.out (hv ▸ below_alloc _ _ : Below w2.heap.size w2 w3)))
  clear hv
  go_wp2_with fail
  refine (bigOf_ok (G := G) b _ HB.out).mono ?_
  rintro e w4 ⟨a_4, c_5, rfl, hd6, hb⟩
  replace M := Lib.hid (And.intro hd6 (Goes.go M.out hb))
  clear hb hd6
  go_upto_region 4 with fail
  obtain ⟨w5, hv⟩ : ∃ w_ : World, w_ = (w4.alloc (.cells #[.int .i64 (sg b), .slice a_4 (ln b) c_5] 24)) := ⟨_, rfl⟩
  rw [← hv]
  have o1 : w2.heap.size < w4.heap.size := ((M.out.2.1)).lt
  replace M := Lib.hid (And.intro (hv ▸ bx1 w4 24 #[.int .i64 (sg b), .slice a_4 (ln b) c_5]) (Goes.go M.out (hv ▸ below_alloc _ _ : Below w4.heap.size w4 w5)))
  clear hv
  obtain ⟨p0_0, q0_0, p0_1, q0_1⟩ := (M.out.2.2.1).c2
  go_wp2_with fail
  clear p0_0 q0_0 p0_1 q0_1
  refine (bigInt_v (G := G) (x := a) (v := a) (M.out.2.2.2.1) (Sz.mono (Sz.i64 HA.out) (by omega)) rfl HA.out).mono ?_
  rintro e w6 ⟨rfl, hb⟩
  replace M := Lib.hid (Goes.go M.out hb)
  clear hb
  obtain ⟨p0_0, q0_0, p0_1, q0_1⟩ := (M.out.2.2.1).c2
  go_wp2_with fail
  clear p0_0 q0_0 p0_1 q0_1
  obtain ⟨z9, ez9⟩ : ∃ v_ : Int, v_ = (-a) := ⟨_, rfl⟩
  refine (bigNeg_ok (G := G) (x := a) (M.out.2.2.2.1) (Sz.mono (Sz.i64 HA.out) (by omega))).mono ?_
  rintro e w7 ⟨a_7, c_8, rfl, hd10, hb⟩
  rw [← ez9] at hd10 ⊢
  have Sz9 : Hid (Sz z9 4) := by show Sz z9 4; rw [ez9]; exact (Sz.neg (Sz.i64 HA.out))
  have Ez9 := Lib.hid ez9; clear ez9
  replace M := Lib.hid (And.intro hd10 (Goes.go M.out hb))
  clear hb hd10
  go_wp2_with fail
  refine (bigInt_no (G := G) (x := z9) (M.out.1) (Sz.mono Sz9.out (by omega)) (by rw [Ez9.out]; exact HNR.out)).mono ?_
  rintro e w8 ⟨rfl, hb⟩
  replace M := Lib.hid (Goes.go M.out hb)
  clear hb
  go_wp2_with fail
  obtain ⟨w9, hv⟩ : ∃ w_ : World, w_ = w8.drew := ⟨_, rfl⟩
  replace M := Lib.hid (Goes.go M.out (hv ▸ below_drew _ : Below w8.heap.size w8 w9))
  refine wp_region_held_drew (S := (fun w' => w'.cell? ⟨w2.heap.size, 0, none⟩ = some (.int .i64 (sg a)) ∧ w'.cell? ⟨w2.heap.size, 1, none⟩ = some (.slice a_1 (ln a) c_2) ∧ w'.cell? ⟨w4.heap.size, 0, none⟩ = some (.int .i64 (sg b)) ∧ w'.cell? ⟨w4.heap.size, 1, none⟩ = some (.slice a_4 (ln b) c_5))) (by kernel_rfl) (by rw [← hv]; exact ⟨(M.out.2.2.2.1).at.1 0, (M.out.2.2.2.1).at.1 1, (M.out.2.1).at.1 0, (M.out.2.1).at.1 1⟩) (fun hH11 => ?_)
  rw [← hv] at hH11 ⊢
  clear hv
  refine tk at0 ?_
  refine wpAnyH_ready (rs := [1]) (by kernel_rfl) (by simp) ?_
  refine AllReadyH.cons at1 (fun K hK => ?_) AllReadyH.nil
  go_simp
  refine (bigRight_ok (G := G) (z := a) (M.out.2.2.2.2.1) (Sz.mono (Sz.i64 HA.out) (by omega))).mono ?_
  rintro e w10 ⟨rfl, hb⟩
  replace M := Lib.hid (Goes.go M.out hb)
  clear hb
  (try go_wp2_with fail)
  refine hK.out _ _ (⟨(M.out.2.2.2.1).at.1 0, (M.out.2.2.2.1).at.1 1, (M.out.2.1).at.1 0, (M.out.2.1).at.1 1⟩) (fun hH12 => ?_)
  clear hK K hH11
  (try simp only [Act.put, List.setIfInBounds_toArray, List.set_cons_zero, List.set_cons_succ])
  refine tk at2 ?_
  refine tk at3 ?_
  refine tk at4 ?_
  refine tk at5 ?_
  refine tk at6 ?_
  refine tk at7 ?_
  refine tk at8 ?_
  refine tk at9 ?_
  refine tk at10 ?_
  refine tk at11 ?_
  refine tk at12 ?_
  refine tk at13 ?_
  refine tk at14 ?_
  refine tk at15 ?_
  refine tk at16 ?_
  refine tk at17 ?_
  refine tk at18 ?_
  refine tk at19 ?_
  refine tk at20 ?_
  refine tu at21 ?_
  refine tu at22 ?_
  refine tu at23 ?_
  refine tu at24 ?_
  refine tk at25 ?_
  refine tk at26 ?_
  refine tk at27 ?_
  refine tk at28 ?_
  refine tk at30 ?_
  refine tk at33 ?_
  refine tk at34 ?_
  refine tk at35 ?_
  refine wpAnyH_ready (rs := [29]) (by kernel_rfl) (by simp) ?_
  refine AllReadyH.cons at29 (fun K hK => ?_) AllReadyH.nil
  go_simp
  refine (bigText_lit (G := G) (x := a) (s := Sa) (M.out.2.2.2.2.1) (Sz.mono (Sz.i64 HA.out) (by omega)) (HT.out.keep (M.out.2.2.2.2.2)) HSA.out).mono ?_
  rintro e w11 ⟨rfl, hb⟩
  replace M := Lib.hid (Goes.go M.out hb)
  clear hb
  (try go_wp2_with fail)
  refine hK.out _ _ (⟨(M.out.2.2.2.1).at.1 0, (M.out.2.2.2.1).at.1 1, (M.out.2.1).at.1 0, (M.out.2.1).at.1 1⟩) (fun hH13 => ?_)
  clear hK K hH12
  (try simp only [Act.put, List.setIfInBounds_toArray, List.set_cons_zero, List.set_cons_succ])
  refine wpAnyH_ready (rs := [31]) (by kernel_rfl) (by simp) ?_
  refine AllReadyH.cons at31 (fun K hK => ?_) AllReadyH.nil
  go_simp
  refine (bigText_lit (G := G) (x := b) (s := Sb) (M.out.2.2.1) (Sz.mono (Sz.i64 HB.out) (by omega)) (HT.out.keep (M.out.2.2.2.2.2)) HSB.out).mono ?_
  rintro e w12 ⟨rfl, hb⟩
  replace M := Lib.hid (Goes.go M.out hb)
  clear hb
  (try go_wp2_with fail)
  refine hK.out _ _ (⟨(M.out.2.2.2.1).at.1 0, (M.out.2.2.2.1).at.1 1, (M.out.2.1).at.1 0, (M.out.2.1).at.1 1⟩) (fun hH14 => ?_)
  clear hK K hH13
  (try simp only [Act.put, List.setIfInBounds_toArray, List.set_cons_zero, List.set_cons_succ])
  refine tk at32 ?_
  refine tk at36 ?_
  refine tk at37 ?_
  refine wpAnyH_done (by kernel_rfl) ?_ _
  clear hH14
  cases bl with
  | false =>
    cases bg with
    | false =>
      obtain ⟨p0_0, q0_0, p0_1, q0_1⟩ := (M.out.2.2.2.1).c2
      obtain ⟨p1_0, q1_0, p1_1, q1_1⟩ := (M.out.2.1).c2
      go_wp2_with fail
      clear p0_0 q0_0 p0_1 q0_1 p1_0 q1_0 p1_1 q1_1
      obtain ⟨z17, ez17⟩ : ∃ v_ : Int, v_ = (a + b) := ⟨_, rfl⟩
      refine (bigAdd_ok (G := G) (x := a) (y := b) (M.out.2.2.2.2.1) (M.out.2.2.1) (Sz.mono (Sz.i64 HA.out) (by omega)) (Sz.mono (Sz.i64 HB.out) (by omega))).mono ?_
      rintro e w13 ⟨a_15, c_16, rfl, hd18, hb⟩
      rw [← ez17] at hd18 ⊢
      have Sz17 : Hid (Sz z17 5) := by show Sz z17 5; rw [ez17]; exact (Sz.add (Sz.i64 HA.out) (Sz.i64 HB.out))
      have Ez17 := Lib.hid ez17; clear ez17
      replace M := Lib.hid (And.intro hd18 (Goes.go M.out hb))
      clear hb hd18
      go_upto_region 14 with fail
      obtain ⟨w14, hv⟩ : ∃ w_ : World, w_ = (w13.alloc (.cells #[.int .i64 (sg z17), .slice a_15 (ln z17) c_16] 24)) := ⟨_, rfl⟩
      rw [← hv]
      have o2 : w4.heap.size < w13.heap.size := ((M.out.2.2.1)).lt
      replace M := Lib.hid (And.intro (hv ▸ bx1 w13 24 #[.int .i64 (sg z17), .slice a_15 (ln z17) c_16]) (Goes.go M.out (hv ▸ below_alloc _ _ : Below w13.heap.size w13 w14)))
      clear hv
      obtain ⟨p0_0, q0_0, p0_1, q0_1⟩ := (M.out.2.2.2.2.2.1).c2
      obtain ⟨p1_0, q1_0, p1_1, q1_1⟩ := (M.out.2.2.2.1).c2
      go_wp2_with fail
      clear p0_0 q0_0 p0_1 q0_1 p1_0 q1_0 p1_1 q1_1
      obtain ⟨z21, ez21⟩ : ∃ v_ : Int, v_ = (a - b) := ⟨_, rfl⟩
      refine (bigSub_ok (G := G) (x := a) (y := b) (M.out.2.2.2.2.2.2.1) (M.out.2.2.2.2.1) (Nat.le_trans hG (M.out.2.2.2.2.2.2.2).size) (Sz.mono (Sz.i64 HA.out) (by omega)) (Sz.mono (Sz.i64 HB.out) (by omega))).mono ?_
      rintro e w15 ⟨a_19, c_20, rfl, hd22, hb⟩
      rw [← ez21] at hd22 ⊢
      have Sz21 : Hid (Sz z21 5) := by show Sz z21 5; rw [ez21]; exact (Sz.sub (Sz.i64 HA.out) (Sz.i64 HB.out))
      have Ez21 := Lib.hid ez21; clear ez21
      replace M := Lib.hid (And.intro hd22 (Goes.go M.out hb))
      clear hb hd22
      go_upto_region 15 with fail
      obtain ⟨w16, hv⟩ : ∃ w_ : World, w_ = (w15.alloc (.cells #[.int .i64 (sg z21), .slice a_19 (ln z21) c_20] 24)) := ⟨_, rfl⟩
      rw [← hv]
      have o3 : w13.heap.size < w15.heap.size := ((M.out.2.1)).lt
      replace M := Lib.hid (And.intro (hv ▸ bx1 w15 24 #[.int .i64 (sg z21), .slice a_19 (ln z21) c_20]) (Goes.go M.out (hv ▸ below_alloc _ _ : Below w15.heap.size w15 w16)))
      clear hv
      obtain ⟨p0_0, q0_0, p0_1, q0_1⟩ := (M.out.2.2.2.2.2.2.2.1).c2
      obtain ⟨p1_0, q1_0, p1_1, q1_1⟩ := (M.out.2.2.2.2.2.1).c2
      go_wp2_with fail
      clear p0_0 q0_0 p0_1 q0_1 p1_0 q1_0 p1_1 q1_1
      obtain ⟨z25, ez25⟩ : ∃ v_ : Int, v_ = (a * b) := ⟨_, rfl⟩
      refine (bigMul_ok (G := G) (x := a) (y := b) (M.out.2.2.2.2.2.2.2.2.1) (M.out.2.2.2.2.2.2.1) (Sz.mono (Sz.i64 HA.out) (by omega)) (Sz.mono (Sz.i64 HB.out) (by omega))).mono ?_
      rintro e w17 ⟨a_23, c_24, rfl, hd26, hb⟩
      rw [← ez25] at hd26 ⊢
      have Sz25 : Hid (Sz z25 8) := by show Sz z25 8; rw [ez25]; exact (Sz.mul (Sz.i64 HA.out) (Sz.i64 HB.out))
      have Ez25 := Lib.hid ez25; clear ez25
      replace M := Lib.hid (And.intro hd26 (Goes.go M.out hb))
      clear hb hd26
      go_upto_region 16 with fail
      obtain ⟨w18, hv⟩ : ∃ w_ : World, w_ = (w17.alloc (.cells #[.int .i64 (sg z25), .slice a_23 (ln z25) c_24] 24)) := ⟨_, rfl⟩
      rw [← hv]
      have o4 : w15.heap.size < w17.heap.size := ((M.out.2.1)).lt
      replace M := Lib.hid (And.intro (hv ▸ bx1 w17 24 #[.int .i64 (sg z25), .slice a_23 (ln z25) c_24]) (Goes.go M.out (hv ▸ below_alloc _ _ : Below w17.heap.size w17 w18)))
      clear hv
      obtain ⟨p0_0, q0_0, p0_1, q0_1⟩ := (M.out.2.2.2.2.2.2.2.2.2.1).c2
      obtain ⟨p1_0, q1_0, p1_1, q1_1⟩ := (M.out.2.2.2.2.2.2.2.1).c2
      go_wp2_with fail
      clear p0_0 q0_0 p0_1 q0_1 p1_0 q1_0 p1_1 q1_1
      refine (bigCompare_is (G := G) (x := a) (y := b) (k := 0) (M.out.2.2.2.2.2.2.2.2.2.2.1) (M.out.2.2.2.2.2.2.2.2.1) (Sz.mono (Sz.i64 HA.out) (by omega)) (Sz.mono (Sz.i64 HB.out) (by omega)) (HOE.out (by trivial) (by trivial))).mono ?_
      rintro e w19 ⟨rfl, hb⟩
      replace M := Lib.hid (Goes.go M.out hb)
      clear hb
      go_wp2_with fail
      go_ret
      exact ⟨rfl, (M.out.2.2.2.2.2.2.2.2.2.2.2)⟩
    | true =>
      obtain ⟨p0_0, q0_0, p0_1, q0_1⟩ := (M.out.2.2.2.1).c2
      obtain ⟨p1_0, q1_0, p1_1, q1_1⟩ := (M.out.2.1).c2
      go_wp2_with fail
      clear p0_0 q0_0 p0_1 q0_1 p1_0 q1_0 p1_1 q1_1
      obtain ⟨z29, ez29⟩ : ∃ v_ : Int, v_ = (a + b) := ⟨_, rfl⟩
      refine (bigAdd_ok (G := G) (x := a) (y := b) (M.out.2.2.2.2.1) (M.out.2.2.1) (Sz.mono (Sz.i64 HA.out) (by omega)) (Sz.mono (Sz.i64 HB.out) (by omega))).mono ?_
      rintro e w13 ⟨a_27, c_28, rfl, hd30, hb⟩
      rw [← ez29] at hd30 ⊢
      have Sz29 : Hid (Sz z29 5) := by show Sz z29 5; rw [ez29]; exact (Sz.add (Sz.i64 HA.out) (Sz.i64 HB.out))
      have Ez29 := Lib.hid ez29; clear ez29
      replace M := Lib.hid (And.intro hd30 (Goes.go M.out hb))
      clear hb hd30
      go_upto_region 14 with fail
      obtain ⟨w14, hv⟩ : ∃ w_ : World, w_ = (w13.alloc (.cells #[.int .i64 (sg z29), .slice a_27 (ln z29) c_28] 24)) := ⟨_, rfl⟩
      rw [← hv]
      have o2 : w4.heap.size < w13.heap.size := ((M.out.2.2.1)).lt
      replace M := Lib.hid (And.intro (hv ▸ bx1 w13 24 #[.int .i64 (sg z29), .slice a_27 (ln z29) c_28]) (Goes.go M.out (hv ▸ below_alloc _ _ : Below w13.heap.size w13 w14)))
      clear hv
      obtain ⟨p0_0, q0_0, p0_1, q0_1⟩ := (M.out.2.2.2.2.2.1).c2
      obtain ⟨p1_0, q1_0, p1_1, q1_1⟩ := (M.out.2.2.2.1).c2
      go_wp2_with fail
      clear p0_0 q0_0 p0_1 q0_1 p1_0 q1_0 p1_1 q1_1
      obtain ⟨z33, ez33⟩ : ∃ v_ : Int, v_ = (a - b) := ⟨_, rfl⟩
      refine (bigSub_ok (G := G) (x := a) (y := b) (M.out.2.2.2.2.2.2.1) (M.out.2.2.2.2.1) (Nat.le_trans hG (M.out.2.2.2.2.2.2.2).size) (Sz.mono (Sz.i64 HA.out) (by omega)) (Sz.mono (Sz.i64 HB.out) (by omega))).mono ?_
      rintro e w15 ⟨a_31, c_32, rfl, hd34, hb⟩
      rw [← ez33] at hd34 ⊢
      have Sz33 : Hid (Sz z33 5) := by show Sz z33 5; rw [ez33]; exact (Sz.sub (Sz.i64 HA.out) (Sz.i64 HB.out))
      have Ez33 := Lib.hid ez33; clear ez33
      replace M := Lib.hid (And.intro hd34 (Goes.go M.out hb))
      clear hb hd34
      go_upto_region 15 with fail
      obtain ⟨w16, hv⟩ : ∃ w_ : World, w_ = (w15.alloc (.cells #[.int .i64 (sg z33), .slice a_31 (ln z33) c_32] 24)) := ⟨_, rfl⟩
      rw [← hv]
      have o3 : w13.heap.size < w15.heap.size := ((M.out.2.1)).lt
      replace M := Lib.hid (And.intro (hv ▸ bx1 w15 24 #[.int .i64 (sg z33), .slice a_31 (ln z33) c_32]) (Goes.go M.out (hv ▸ below_alloc _ _ : Below w15.heap.size w15 w16)))
      clear hv
      obtain ⟨p0_0, q0_0, p0_1, q0_1⟩ := (M.out.2.2.2.2.2.2.2.1).c2
      obtain ⟨p1_0, q1_0, p1_1, q1_1⟩ := (M.out.2.2.2.2.2.1).c2
      go_wp2_with fail
      clear p0_0 q0_0 p0_1 q0_1 p1_0 q1_0 p1_1 q1_1
      obtain ⟨z37, ez37⟩ : ∃ v_ : Int, v_ = (a * b) := ⟨_, rfl⟩
      refine (bigMul_ok (G := G) (x := a) (y := b) (M.out.2.2.2.2.2.2.2.2.1) (M.out.2.2.2.2.2.2.1) (Sz.mono (Sz.i64 HA.out) (by omega)) (Sz.mono (Sz.i64 HB.out) (by omega))).mono ?_
      rintro e w17 ⟨a_35, c_36, rfl, hd38, hb⟩
      rw [← ez37] at hd38 ⊢
      have Sz37 : Hid (Sz z37 8) := by show Sz z37 8; rw [ez37]; exact (Sz.mul (Sz.i64 HA.out) (Sz.i64 HB.out))
      have Ez37 := Lib.hid ez37; clear ez37
      replace M := Lib.hid (And.intro hd38 (Goes.go M.out hb))
      clear hb hd38
      go_upto_region 16 with fail
      obtain ⟨w18, hv⟩ : ∃ w_ : World, w_ = (w17.alloc (.cells #[.int .i64 (sg z37), .slice a_35 (ln z37) c_36] 24)) := ⟨_, rfl⟩
      rw [← hv]
      have o4 : w15.heap.size < w17.heap.size := ((M.out.2.1)).lt
      replace M := Lib.hid (And.intro (hv ▸ bx1 w17 24 #[.int .i64 (sg z37), .slice a_35 (ln z37) c_36]) (Goes.go M.out (hv ▸ below_alloc _ _ : Below w17.heap.size w17 w18)))
      clear hv
      obtain ⟨p0_0, q0_0, p0_1, q0_1⟩ := (M.out.2.2.2.2.2.2.2.2.2.1).c2
      obtain ⟨p1_0, q1_0, p1_1, q1_1⟩ := (M.out.2.2.2.2.2.2.2.1).c2
      go_wp2_with fail
      clear p0_0 q0_0 p0_1 q0_1 p1_0 q1_0 p1_1 q1_1
      refine (bigCompare_is (G := G) (x := a) (y := b) (k := 1) (M.out.2.2.2.2.2.2.2.2.2.2.1) (M.out.2.2.2.2.2.2.2.2.1) (Sz.mono (Sz.i64 HA.out) (by omega)) (Sz.mono (Sz.i64 HB.out) (by omega)) (HOG.out (by trivial))).mono ?_
      rintro e w19 ⟨rfl, hb⟩
      replace M := Lib.hid (Goes.go M.out hb)
      clear hb
      go_wp2_with fail
      go_ret
      exact ⟨rfl, (M.out.2.2.2.2.2.2.2.2.2.2.2)⟩
  | true =>
    cases bg with
    | false =>
      obtain ⟨p0_0, q0_0, p0_1, q0_1⟩ := (M.out.2.2.2.1).c2
      obtain ⟨p1_0, q1_0, p1_1, q1_1⟩ := (M.out.2.1).c2
      go_wp2_with fail
      clear p0_0 q0_0 p0_1 q0_1 p1_0 q1_0 p1_1 q1_1
      obtain ⟨z41, ez41⟩ : ∃ v_ : Int, v_ = (a + b) := ⟨_, rfl⟩
      refine (bigAdd_ok (G := G) (x := a) (y := b) (M.out.2.2.2.2.1) (M.out.2.2.1) (Sz.mono (Sz.i64 HA.out) (by omega)) (Sz.mono (Sz.i64 HB.out) (by omega))).mono ?_
      rintro e w13 ⟨a_39, c_40, rfl, hd42, hb⟩
      rw [← ez41] at hd42 ⊢
      have Sz41 : Hid (Sz z41 5) := by show Sz z41 5; rw [ez41]; exact (Sz.add (Sz.i64 HA.out) (Sz.i64 HB.out))
      have Ez41 := Lib.hid ez41; clear ez41
      replace M := Lib.hid (And.intro hd42 (Goes.go M.out hb))
      clear hb hd42
      go_upto_region 14 with fail
      obtain ⟨w14, hv⟩ : ∃ w_ : World, w_ = (w13.alloc (.cells #[.int .i64 (sg z41), .slice a_39 (ln z41) c_40] 24)) := ⟨_, rfl⟩
      rw [← hv]
      have o2 : w4.heap.size < w13.heap.size := ((M.out.2.2.1)).lt
      replace M := Lib.hid (And.intro (hv ▸ bx1 w13 24 #[.int .i64 (sg z41), .slice a_39 (ln z41) c_40]) (Goes.go M.out (hv ▸ below_alloc _ _ : Below w13.heap.size w13 w14)))
      clear hv
      obtain ⟨p0_0, q0_0, p0_1, q0_1⟩ := (M.out.2.2.2.2.2.1).c2
      obtain ⟨p1_0, q1_0, p1_1, q1_1⟩ := (M.out.2.2.2.1).c2
      go_wp2_with fail
      clear p0_0 q0_0 p0_1 q0_1 p1_0 q1_0 p1_1 q1_1
      obtain ⟨z45, ez45⟩ : ∃ v_ : Int, v_ = (a - b) := ⟨_, rfl⟩
      refine (bigSub_ok (G := G) (x := a) (y := b) (M.out.2.2.2.2.2.2.1) (M.out.2.2.2.2.1) (Nat.le_trans hG (M.out.2.2.2.2.2.2.2).size) (Sz.mono (Sz.i64 HA.out) (by omega)) (Sz.mono (Sz.i64 HB.out) (by omega))).mono ?_
      rintro e w15 ⟨a_43, c_44, rfl, hd46, hb⟩
      rw [← ez45] at hd46 ⊢
      have Sz45 : Hid (Sz z45 5) := by show Sz z45 5; rw [ez45]; exact (Sz.sub (Sz.i64 HA.out) (Sz.i64 HB.out))
      have Ez45 := Lib.hid ez45; clear ez45
      replace M := Lib.hid (And.intro hd46 (Goes.go M.out hb))
      clear hb hd46
      go_upto_region 15 with fail
      obtain ⟨w16, hv⟩ : ∃ w_ : World, w_ = (w15.alloc (.cells #[.int .i64 (sg z45), .slice a_43 (ln z45) c_44] 24)) := ⟨_, rfl⟩
      rw [← hv]
      have o3 : w13.heap.size < w15.heap.size := ((M.out.2.1)).lt
      replace M := Lib.hid (And.intro (hv ▸ bx1 w15 24 #[.int .i64 (sg z45), .slice a_43 (ln z45) c_44]) (Goes.go M.out (hv ▸ below_alloc _ _ : Below w15.heap.size w15 w16)))
      clear hv
      obtain ⟨p0_0, q0_0, p0_1, q0_1⟩ := (M.out.2.2.2.2.2.2.2.1).c2
      obtain ⟨p1_0, q1_0, p1_1, q1_1⟩ := (M.out.2.2.2.2.2.1).c2
      go_wp2_with fail
      clear p0_0 q0_0 p0_1 q0_1 p1_0 q1_0 p1_1 q1_1
      obtain ⟨z49, ez49⟩ : ∃ v_ : Int, v_ = (a * b) := ⟨_, rfl⟩
      refine (bigMul_ok (G := G) (x := a) (y := b) (M.out.2.2.2.2.2.2.2.2.1) (M.out.2.2.2.2.2.2.1) (Sz.mono (Sz.i64 HA.out) (by omega)) (Sz.mono (Sz.i64 HB.out) (by omega))).mono ?_
      rintro e w17 ⟨a_47, c_48, rfl, hd50, hb⟩
      rw [← ez49] at hd50 ⊢
      have Sz49 : Hid (Sz z49 8) := by show Sz z49 8; rw [ez49]; exact (Sz.mul (Sz.i64 HA.out) (Sz.i64 HB.out))
      have Ez49 := Lib.hid ez49; clear ez49
      replace M := Lib.hid (And.intro hd50 (Goes.go M.out hb))
      clear hb hd50
      go_upto_region 16 with fail
      obtain ⟨w18, hv⟩ : ∃ w_ : World, w_ = (w17.alloc (.cells #[.int .i64 (sg z49), .slice a_47 (ln z49) c_48] 24)) := ⟨_, rfl⟩
      rw [← hv]
      have o4 : w15.heap.size < w17.heap.size := ((M.out.2.1)).lt
      replace M := Lib.hid (And.intro (hv ▸ bx1 w17 24 #[.int .i64 (sg z49), .slice a_47 (ln z49) c_48]) (Goes.go M.out (hv ▸ below_alloc _ _ : Below w17.heap.size w17 w18)))
      clear hv
      obtain ⟨p0_0, q0_0, p0_1, q0_1⟩ := (M.out.2.2.2.2.2.2.2.2.2.1).c2
      obtain ⟨p1_0, q1_0, p1_1, q1_1⟩ := (M.out.2.2.2.2.2.2.2.1).c2
      go_wp2_with fail
      clear p0_0 q0_0 p0_1 q0_1 p1_0 q1_0 p1_1 q1_1
      refine (bigCompare_is (G := G) (x := a) (y := b) (k := (-1)) (M.out.2.2.2.2.2.2.2.2.2.2.1) (M.out.2.2.2.2.2.2.2.2.1) (Sz.mono (Sz.i64 HA.out) (by omega)) (Sz.mono (Sz.i64 HB.out) (by omega)) (HOL.out (by trivial))).mono ?_
      rintro e w19 ⟨rfl, hb⟩
      replace M := Lib.hid (Goes.go M.out hb)
      clear hb
      go_wp2_with fail
      go_ret
      exact ⟨rfl, (M.out.2.2.2.2.2.2.2.2.2.2.2)⟩
    | true =>
      obtain ⟨p0_0, q0_0, p0_1, q0_1⟩ := (M.out.2.2.2.1).c2
      obtain ⟨p1_0, q1_0, p1_1, q1_1⟩ := (M.out.2.1).c2
      go_wp2_with fail
      clear p0_0 q0_0 p0_1 q0_1 p1_0 q1_0 p1_1 q1_1
      obtain ⟨z53, ez53⟩ : ∃ v_ : Int, v_ = (a + b) := ⟨_, rfl⟩
      refine (bigAdd_ok (G := G) (x := a) (y := b) (M.out.2.2.2.2.1) (M.out.2.2.1) (Sz.mono (Sz.i64 HA.out) (by omega)) (Sz.mono (Sz.i64 HB.out) (by omega))).mono ?_
      rintro e w13 ⟨a_51, c_52, rfl, hd54, hb⟩
      rw [← ez53] at hd54 ⊢
      have Sz53 : Hid (Sz z53 5) := by show Sz z53 5; rw [ez53]; exact (Sz.add (Sz.i64 HA.out) (Sz.i64 HB.out))
      have Ez53 := Lib.hid ez53; clear ez53
      replace M := Lib.hid (And.intro hd54 (Goes.go M.out hb))
      clear hb hd54
      go_upto_region 14 with fail
      obtain ⟨w14, hv⟩ : ∃ w_ : World, w_ = (w13.alloc (.cells #[.int .i64 (sg z53), .slice a_51 (ln z53) c_52] 24)) := ⟨_, rfl⟩
      rw [← hv]
      have o2 : w4.heap.size < w13.heap.size := ((M.out.2.2.1)).lt
      replace M := Lib.hid (And.intro (hv ▸ bx1 w13 24 #[.int .i64 (sg z53), .slice a_51 (ln z53) c_52]) (Goes.go M.out (hv ▸ below_alloc _ _ : Below w13.heap.size w13 w14)))
      clear hv
      obtain ⟨p0_0, q0_0, p0_1, q0_1⟩ := (M.out.2.2.2.2.2.1).c2
      obtain ⟨p1_0, q1_0, p1_1, q1_1⟩ := (M.out.2.2.2.1).c2
      go_wp2_with fail
      clear p0_0 q0_0 p0_1 q0_1 p1_0 q1_0 p1_1 q1_1
      obtain ⟨z57, ez57⟩ : ∃ v_ : Int, v_ = (a - b) := ⟨_, rfl⟩
      refine (bigSub_ok (G := G) (x := a) (y := b) (M.out.2.2.2.2.2.2.1) (M.out.2.2.2.2.1) (Nat.le_trans hG (M.out.2.2.2.2.2.2.2).size) (Sz.mono (Sz.i64 HA.out) (by omega)) (Sz.mono (Sz.i64 HB.out) (by omega))).mono ?_
      rintro e w15 ⟨a_55, c_56, rfl, hd58, hb⟩
      rw [← ez57] at hd58 ⊢
      have Sz57 : Hid (Sz z57 5) := by show Sz z57 5; rw [ez57]; exact (Sz.sub (Sz.i64 HA.out) (Sz.i64 HB.out))
      have Ez57 := Lib.hid ez57; clear ez57
      replace M := Lib.hid (And.intro hd58 (Goes.go M.out hb))
      clear hb hd58
      go_upto_region 15 with fail
      obtain ⟨w16, hv⟩ : ∃ w_ : World, w_ = (w15.alloc (.cells #[.int .i64 (sg z57), .slice a_55 (ln z57) c_56] 24)) := ⟨_, rfl⟩
      rw [← hv]
      have o3 : w13.heap.size < w15.heap.size := ((M.out.2.1)).lt
      replace M := Lib.hid (And.intro (hv ▸ bx1 w15 24 #[.int .i64 (sg z57), .slice a_55 (ln z57) c_56]) (Goes.go M.out (hv ▸ below_alloc _ _ : Below w15.heap.size w15 w16)))
      clear hv
      obtain ⟨p0_0, q0_0, p0_1, q0_1⟩ := (M.out.2.2.2.2.2.2.2.1).c2
      obtain ⟨p1_0, q1_0, p1_1, q1_1⟩ := (M.out.2.2.2.2.2.1).c2
      go_wp2_with fail
      clear p0_0 q0_0 p0_1 q0_1 p1_0 q1_0 p1_1 q1_1
      obtain ⟨z61, ez61⟩ : ∃ v_ : Int, v_ = (a * b) := ⟨_, rfl⟩
      refine (bigMul_ok (G := G) (x := a) (y := b) (M.out.2.2.2.2.2.2.2.2.1) (M.out.2.2.2.2.2.2.1) (Sz.mono (Sz.i64 HA.out) (by omega)) (Sz.mono (Sz.i64 HB.out) (by omega))).mono ?_
      rintro e w17 ⟨a_59, c_60, rfl, hd62, hb⟩
      rw [← ez61] at hd62 ⊢
      have Sz61 : Hid (Sz z61 8) := by show Sz z61 8; rw [ez61]; exact (Sz.mul (Sz.i64 HA.out) (Sz.i64 HB.out))
      have Ez61 := Lib.hid ez61; clear ez61
      replace M := Lib.hid (And.intro hd62 (Goes.go M.out hb))
      clear hb hd62
      go_upto_region 16 with fail
      obtain ⟨w18, hv⟩ : ∃ w_ : World, w_ = (w17.alloc (.cells #[.int .i64 (sg z61), .slice a_59 (ln z61) c_60] 24)) := ⟨_, rfl⟩
      rw [← hv]
      have o4 : w15.heap.size < w17.heap.size := ((M.out.2.1)).lt
      replace M := Lib.hid (And.intro (hv ▸ bx1 w17 24 #[.int .i64 (sg z61), .slice a_59 (ln z61) c_60]) (Goes.go M.out (hv ▸ below_alloc _ _ : Below w17.heap.size w17 w18)))
      clear hv
      obtain ⟨p0_0, q0_0, p0_1, q0_1⟩ := (M.out.2.2.2.2.2.2.2.2.2.1).c2
      obtain ⟨p1_0, q1_0, p1_1, q1_1⟩ := (M.out.2.2.2.2.2.2.2.1).c2
      go_wp2_with fail
      clear p0_0 q0_0 p0_1 q0_1 p1_0 q1_0 p1_1 q1_1
      refine (bigCompare_is (G := G) (x := a) (y := b) (k := 1) (M.out.2.2.2.2.2.2.2.2.2.2.1) (M.out.2.2.2.2.2.2.2.2.1) (Sz.mono (Sz.i64 HA.out) (by omega)) (Sz.mono (Sz.i64 HB.out) (by omega)) (HOG.out (by trivial))).mono ?_
      rintro e w19 ⟨rfl, hb⟩
      replace M := Lib.hid (Goes.go M.out hb)
      clear hb
      go_wp2_with fail
      go_ret
      exact ⟨rfl, (M.out.2.2.2.2.2.2.2.2.2.2.2)⟩

set_option maxRecDepth 100000 in
set_option maxHeartbeats 4000000 in
theorem ints_all {a b : Int} {w : World} (hG : G ≤ w.heap.size) (ht : Tab w) (ha : -9223372036854775808 ≤ a ∧ a ≤ 9223372036854775807) (hb : -9223372036854775808 ≤ b ∧ b ≤ 9223372036854775807) (hm : a ≠ -9223372036854775808)  :
    Calls Tryd.prog 8 #[.int .i64 a, .int .i64 b] w fun e w' => e = .returned (.bool true) ∧ Below w.heap.size w w' := by
  obtain ⟨Sa, hSa⟩ : ∃ s : ByteArray, (⟨(textZ a).toArray⟩ : ByteArray) = s := ⟨_, rfl⟩
  obtain ⟨Sb, hSb⟩ : ∃ s : ByteArray, (⟨(textZ b).toArray⟩ : ByteArray) = s := ⟨_, rfl⟩
  obtain ⟨bt, hbt⟩ : ∃ t, (a == b) = t := ⟨_, rfl⟩
  have hst : (Sa.toList == Sb.toList) = bt := by rw [← hSa, ← hSb, text_eq, hbt]
  obtain ⟨bl, hbl⟩ : ∃ t, decide (a < b) = t := ⟨_, rfl⟩
  obtain ⟨bg, hbg⟩ : ∃ t, decide (b < a) = t := ⟨_, rfl⟩
  have HOL : Hid (bl = true → ord a b = -1) := by show _ → _; intro h; rw [← hbl] at h; have := of_decide_eq_true h; unfold ord; rw [if_pos this]
  have HOG : Hid (bg = true → ord a b = 1) := by show _ → _; intro h; rw [← hbg] at h; have := of_decide_eq_true h; unfold ord; rw [if_neg (by omega), if_pos this]
  have HOE : Hid (bl = false → bg = false → ord a b = 0) := by
    show _ → _ → _
    intro h h'
    rw [← hbl] at h; rw [← hbg] at h'
    have := of_decide_eq_false h; have := of_decide_eq_false h'
    unfold ord; rw [if_neg (by omega), if_neg (by omega)]
  have w1_ : IntKind.i64.wrap (-1073741824) = -1073741824 := rfl
  have HNA : Hid (-9223372036854775808 ≤ -a ∧ -a ≤ 9223372036854775807) := by show _ ∧ _; omega
  have g1 : (a != -9223372036854775808) = true := by rw [bne_iff_ne]; exact hm
  have w2_ : IntKind.i64.wrap (-a) = -a := IntWalk.i64_in _ (by omega)
  obtain ⟨h1, g3⟩ : ∃ t, decide (-1073741824 < a) = t := ⟨_, rfl⟩
  obtain ⟨h2, g4⟩ : ∃ t, decide (a < 1073741824) = t := ⟨_, rfl⟩
  obtain ⟨h3, g5⟩ : ∃ t, decide (-1073741824 < b) = t := ⟨_, rfl⟩
  obtain ⟨h4, g6⟩ : ∃ t, decide (b < 1073741824) = t := ⟨_, rfl⟩
  have HHH : Hid (h1 = true → h2 = true → h3 = true → h4 = true → (-1073741824 < a ∧ a < 1073741824) ∧ -1073741824 < b ∧ b < 1073741824) := by
    show _ → _ → _ → _ → _
    intro k1 k2 k3 k4
    rw [← g3] at k1; rw [← g4] at k2; rw [← g5] at k3; rw [← g6] at k4
    exact ⟨⟨of_decide_eq_true k1, of_decide_eq_true k2⟩, of_decide_eq_true k3, of_decide_eq_true k4⟩
  have HSA := Lib.hid hSa; have HSB := Lib.hid hSb; have HA := Lib.hid ha; have HB := Lib.hid hb
  clear hSa hSb ha hb hm
  have HT : Hid (Tab w) := ht
  clear ht
  have M : Hid (Below w.heap.size w w) := Below.refl _ _
  go_enter Tryd.func8, Tryd.ntmps8
  go_wp2_with fail
  refine (small_ok (G := G) (Nat.le_trans hG M.out.size) (HT.out.keep M.out)).mono ?_
  rintro e w1 ⟨rfl, hb⟩
  replace M := Lib.hid (Goes.go M.out hb)
  clear hb
  go_wp2_with fail
  refine (bigOf_ok (G := G) a _ HA.out).mono ?_
  rintro e w2 ⟨a_1, c_2, rfl, hd3, hb⟩
  replace M := Lib.hid (And.intro hd3 (Goes.go M.out hb))
  clear hb hd3
  go_upto_region 3 with fail
  obtain ⟨w3, hv⟩ : ∃ w_ : World, w_ = (w2.alloc (.cells #[.int .i64 (sg a), .slice a_1 (ln a) c_2] 24)) := ⟨_, rfl⟩
  rw [← hv]
  have o0 : w.heap.size ≤ w2.heap.size := ((M.out.2)).size
  replace M := Lib.hid (And.intro (hv ▸ bx1 w2 24 #[.int .i64 (sg a), .slice a_1 (ln a) c_2]) (Goes.go M.out (hv ▸ below_alloc _ _ : Below w2.heap.size w2 w3)))
  clear hv
  go_wp2_with fail
  refine (bigOf_ok (G := G) b _ HB.out).mono ?_
  rintro e w4 ⟨a_4, c_5, rfl, hd6, hb⟩
  replace M := Lib.hid (And.intro hd6 (Goes.go M.out hb))
  clear hb hd6
  go_upto_region 4 with fail
  obtain ⟨w5, hv⟩ : ∃ w_ : World, w_ = (w4.alloc (.cells #[.int .i64 (sg b), .slice a_4 (ln b) c_5] 24)) := ⟨_, rfl⟩
  rw [← hv]
  have o1 : w2.heap.size < w4.heap.size := ((M.out.2.1)).lt
  replace M := Lib.hid (And.intro (hv ▸ bx1 w4 24 #[.int .i64 (sg b), .slice a_4 (ln b) c_5]) (Goes.go M.out (hv ▸ below_alloc _ _ : Below w4.heap.size w4 w5)))
  clear hv
  obtain ⟨p0_0, q0_0, p0_1, q0_1⟩ := (M.out.2.2.1).c2
  go_wp2_with fail
  clear p0_0 q0_0 p0_1 q0_1
  refine (bigInt_v (G := G) (x := a) (v := a) (M.out.2.2.2.1) (Sz.mono (Sz.i64 HA.out) (by omega)) rfl HA.out).mono ?_
  rintro e w6 ⟨rfl, hb⟩
  replace M := Lib.hid (Goes.go M.out hb)
  clear hb
  obtain ⟨p0_0, q0_0, p0_1, q0_1⟩ := (M.out.2.2.1).c2
  go_wp2_with fail
  clear p0_0 q0_0 p0_1 q0_1
  obtain ⟨z9, ez9⟩ : ∃ v_ : Int, v_ = (-a) := ⟨_, rfl⟩
  refine (bigNeg_ok (G := G) (x := a) (M.out.2.2.2.1) (Sz.mono (Sz.i64 HA.out) (by omega))).mono ?_
  rintro e w7 ⟨a_7, c_8, rfl, hd10, hb⟩
  rw [← ez9] at hd10 ⊢
  have Sz9 : Hid (Sz z9 4) := by show Sz z9 4; rw [ez9]; exact (Sz.neg (Sz.i64 HA.out))
  have Ez9 := Lib.hid ez9; clear ez9
  replace M := Lib.hid (And.intro hd10 (Goes.go M.out hb))
  clear hb hd10
  go_wp2_with fail
  refine (bigInt_v (G := G) (x := z9) (v := (-a)) (M.out.1) (Sz.mono Sz9.out (by omega)) Ez9.out HNA.out).mono ?_
  rintro e w8 ⟨rfl, hb⟩
  replace M := Lib.hid (Goes.go M.out hb)
  clear hb
  go_wp2_with fail
  obtain ⟨w9, hv⟩ : ∃ w_ : World, w_ = w8.drew := ⟨_, rfl⟩
  replace M := Lib.hid (Goes.go M.out (hv ▸ below_drew _ : Below w8.heap.size w8 w9))
  refine wp_region_held_drew (S := (fun w' => w'.cell? ⟨w2.heap.size, 0, none⟩ = some (.int .i64 (sg a)) ∧ w'.cell? ⟨w2.heap.size, 1, none⟩ = some (.slice a_1 (ln a) c_2) ∧ w'.cell? ⟨w4.heap.size, 0, none⟩ = some (.int .i64 (sg b)) ∧ w'.cell? ⟨w4.heap.size, 1, none⟩ = some (.slice a_4 (ln b) c_5))) (by kernel_rfl) (by rw [← hv]; exact ⟨(M.out.2.2.2.1).at.1 0, (M.out.2.2.2.1).at.1 1, (M.out.2.1).at.1 0, (M.out.2.1).at.1 1⟩) (fun hH11 => ?_)
  rw [← hv] at hH11 ⊢
  clear hv
  refine tk at0 ?_
  refine wpAnyH_ready (rs := [1]) (by kernel_rfl) (by simp) ?_
  refine AllReadyH.cons at1 (fun K hK => ?_) AllReadyH.nil
  go_simp
  refine (bigRight_ok (G := G) (z := a) (M.out.2.2.2.2.1) (Sz.mono (Sz.i64 HA.out) (by omega))).mono ?_
  rintro e w10 ⟨rfl, hb⟩
  replace M := Lib.hid (Goes.go M.out hb)
  clear hb
  (try go_wp2_with fail)
  refine hK.out _ _ (⟨(M.out.2.2.2.1).at.1 0, (M.out.2.2.2.1).at.1 1, (M.out.2.1).at.1 0, (M.out.2.1).at.1 1⟩) (fun hH12 => ?_)
  clear hK K hH11
  (try simp only [Act.put, List.setIfInBounds_toArray, List.set_cons_zero, List.set_cons_succ])
  refine tk at2 ?_
  refine tk at3 ?_
  refine tk at4 ?_
  refine tk at5 ?_
  refine tk at6 ?_
  refine tk at7 ?_
  refine tk at8 ?_
  refine tk at9 ?_
  refine tk at10 ?_
  refine tk at11 ?_
  refine tk at12 ?_
  refine tk at13 ?_
  refine tk at14 ?_
  refine tk at15 ?_
  refine tk at16 ?_
  refine tk at17 ?_
  refine tk at18 ?_
  refine tk at19 ?_
  refine tk at20 ?_
  refine tk at21 ?_
  refine tk at22 ?_
  refine tk at23 ?_
  refine tk at24 ?_
  refine tk at25 ?_
  refine tk at26 ?_
  refine tk at27 ?_
  refine tk at28 ?_
  refine tk at30 ?_
  refine tk at33 ?_
  refine tk at34 ?_
  refine tk at35 ?_
  refine wpAnyH_ready (rs := [29]) (by kernel_rfl) (by simp) ?_
  refine AllReadyH.cons at29 (fun K hK => ?_) AllReadyH.nil
  go_simp
  refine (bigText_lit (G := G) (x := a) (s := Sa) (M.out.2.2.2.2.1) (Sz.mono (Sz.i64 HA.out) (by omega)) (HT.out.keep (M.out.2.2.2.2.2)) HSA.out).mono ?_
  rintro e w11 ⟨rfl, hb⟩
  replace M := Lib.hid (Goes.go M.out hb)
  clear hb
  (try go_wp2_with fail)
  refine hK.out _ _ (⟨(M.out.2.2.2.1).at.1 0, (M.out.2.2.2.1).at.1 1, (M.out.2.1).at.1 0, (M.out.2.1).at.1 1⟩) (fun hH13 => ?_)
  clear hK K hH12
  (try simp only [Act.put, List.setIfInBounds_toArray, List.set_cons_zero, List.set_cons_succ])
  refine wpAnyH_ready (rs := [31]) (by kernel_rfl) (by simp) ?_
  refine AllReadyH.cons at31 (fun K hK => ?_) AllReadyH.nil
  go_simp
  refine (bigText_lit (G := G) (x := b) (s := Sb) (M.out.2.2.1) (Sz.mono (Sz.i64 HB.out) (by omega)) (HT.out.keep (M.out.2.2.2.2.2)) HSB.out).mono ?_
  rintro e w12 ⟨rfl, hb⟩
  replace M := Lib.hid (Goes.go M.out hb)
  clear hb
  (try go_wp2_with fail)
  refine hK.out _ _ (⟨(M.out.2.2.2.1).at.1 0, (M.out.2.2.2.1).at.1 1, (M.out.2.1).at.1 0, (M.out.2.1).at.1 1⟩) (fun hH14 => ?_)
  clear hK K hH13
  (try simp only [Act.put, List.setIfInBounds_toArray, List.set_cons_zero, List.set_cons_succ])
  refine tk at32 ?_
  refine tk at36 ?_
  refine tk at37 ?_
  refine wpAnyH_done (by kernel_rfl) ?_ _
  clear hH14
  cases bl with
  | false =>
    cases bg with
    | false =>
      obtain ⟨p0_0, q0_0, p0_1, q0_1⟩ := (M.out.2.2.2.1).c2
      obtain ⟨p1_0, q1_0, p1_1, q1_1⟩ := (M.out.2.1).c2
      go_wp2_with fail
      clear p0_0 q0_0 p0_1 q0_1 p1_0 q1_0 p1_1 q1_1
      obtain ⟨z17, ez17⟩ : ∃ v_ : Int, v_ = (a + b) := ⟨_, rfl⟩
      refine (bigAdd_ok (G := G) (x := a) (y := b) (M.out.2.2.2.2.1) (M.out.2.2.1) (Sz.mono (Sz.i64 HA.out) (by omega)) (Sz.mono (Sz.i64 HB.out) (by omega))).mono ?_
      rintro e w13 ⟨a_15, c_16, rfl, hd18, hb⟩
      rw [← ez17] at hd18 ⊢
      have Sz17 : Hid (Sz z17 5) := by show Sz z17 5; rw [ez17]; exact (Sz.add (Sz.i64 HA.out) (Sz.i64 HB.out))
      have Ez17 := Lib.hid ez17; clear ez17
      replace M := Lib.hid (And.intro hd18 (Goes.go M.out hb))
      clear hb hd18
      go_upto_region 14 with fail
      obtain ⟨w14, hv⟩ : ∃ w_ : World, w_ = (w13.alloc (.cells #[.int .i64 (sg z17), .slice a_15 (ln z17) c_16] 24)) := ⟨_, rfl⟩
      rw [← hv]
      have o2 : w4.heap.size < w13.heap.size := ((M.out.2.2.1)).lt
      replace M := Lib.hid (And.intro (hv ▸ bx1 w13 24 #[.int .i64 (sg z17), .slice a_15 (ln z17) c_16]) (Goes.go M.out (hv ▸ below_alloc _ _ : Below w13.heap.size w13 w14)))
      clear hv
      obtain ⟨p0_0, q0_0, p0_1, q0_1⟩ := (M.out.2.2.2.2.2.1).c2
      obtain ⟨p1_0, q1_0, p1_1, q1_1⟩ := (M.out.2.2.2.1).c2
      go_wp2_with fail
      clear p0_0 q0_0 p0_1 q0_1 p1_0 q1_0 p1_1 q1_1
      obtain ⟨z21, ez21⟩ : ∃ v_ : Int, v_ = (a - b) := ⟨_, rfl⟩
      refine (bigSub_ok (G := G) (x := a) (y := b) (M.out.2.2.2.2.2.2.1) (M.out.2.2.2.2.1) (Nat.le_trans hG (M.out.2.2.2.2.2.2.2).size) (Sz.mono (Sz.i64 HA.out) (by omega)) (Sz.mono (Sz.i64 HB.out) (by omega))).mono ?_
      rintro e w15 ⟨a_19, c_20, rfl, hd22, hb⟩
      rw [← ez21] at hd22 ⊢
      have Sz21 : Hid (Sz z21 5) := by show Sz z21 5; rw [ez21]; exact (Sz.sub (Sz.i64 HA.out) (Sz.i64 HB.out))
      have Ez21 := Lib.hid ez21; clear ez21
      replace M := Lib.hid (And.intro hd22 (Goes.go M.out hb))
      clear hb hd22
      go_upto_region 15 with fail
      obtain ⟨w16, hv⟩ : ∃ w_ : World, w_ = (w15.alloc (.cells #[.int .i64 (sg z21), .slice a_19 (ln z21) c_20] 24)) := ⟨_, rfl⟩
      rw [← hv]
      have o3 : w13.heap.size < w15.heap.size := ((M.out.2.1)).lt
      replace M := Lib.hid (And.intro (hv ▸ bx1 w15 24 #[.int .i64 (sg z21), .slice a_19 (ln z21) c_20]) (Goes.go M.out (hv ▸ below_alloc _ _ : Below w15.heap.size w15 w16)))
      clear hv
      obtain ⟨p0_0, q0_0, p0_1, q0_1⟩ := (M.out.2.2.2.2.2.2.2.1).c2
      obtain ⟨p1_0, q1_0, p1_1, q1_1⟩ := (M.out.2.2.2.2.2.1).c2
      go_wp2_with fail
      clear p0_0 q0_0 p0_1 q0_1 p1_0 q1_0 p1_1 q1_1
      obtain ⟨z25, ez25⟩ : ∃ v_ : Int, v_ = (a * b) := ⟨_, rfl⟩
      refine (bigMul_ok (G := G) (x := a) (y := b) (M.out.2.2.2.2.2.2.2.2.1) (M.out.2.2.2.2.2.2.1) (Sz.mono (Sz.i64 HA.out) (by omega)) (Sz.mono (Sz.i64 HB.out) (by omega))).mono ?_
      rintro e w17 ⟨a_23, c_24, rfl, hd26, hb⟩
      rw [← ez25] at hd26 ⊢
      have Sz25 : Hid (Sz z25 8) := by show Sz z25 8; rw [ez25]; exact (Sz.mul (Sz.i64 HA.out) (Sz.i64 HB.out))
      have Ez25 := Lib.hid ez25; clear ez25
      replace M := Lib.hid (And.intro hd26 (Goes.go M.out hb))
      clear hb hd26
      go_upto_region 16 with fail
      obtain ⟨w18, hv⟩ : ∃ w_ : World, w_ = (w17.alloc (.cells #[.int .i64 (sg z25), .slice a_23 (ln z25) c_24] 24)) := ⟨_, rfl⟩
      rw [← hv]
      have o4 : w15.heap.size < w17.heap.size := ((M.out.2.1)).lt
      replace M := Lib.hid (And.intro (hv ▸ bx1 w17 24 #[.int .i64 (sg z25), .slice a_23 (ln z25) c_24]) (Goes.go M.out (hv ▸ below_alloc _ _ : Below w17.heap.size w17 w18)))
      clear hv
      obtain ⟨p0_0, q0_0, p0_1, q0_1⟩ := (M.out.2.2.2.2.2.2.2.2.2.1).c2
      obtain ⟨p1_0, q1_0, p1_1, q1_1⟩ := (M.out.2.2.2.2.2.2.2.1).c2
      go_wp2_with fail
      clear p0_0 q0_0 p0_1 q0_1 p1_0 q1_0 p1_1 q1_1
      refine (bigCompare_is (G := G) (x := a) (y := b) (k := 0) (M.out.2.2.2.2.2.2.2.2.2.2.1) (M.out.2.2.2.2.2.2.2.2.1) (Sz.mono (Sz.i64 HA.out) (by omega)) (Sz.mono (Sz.i64 HB.out) (by omega)) (HOE.out (by trivial) (by trivial))).mono ?_
      rintro e w19 ⟨rfl, hb⟩
      replace M := Lib.hid (Goes.go M.out hb)
      clear hb
      cases h1 with
      | false =>
        go_wp2_with fail
        go_ret
        exact ⟨rfl, (M.out.2.2.2.2.2.2.2.2.2.2.2)⟩
      | true =>
        cases h2 with
        | false =>
          go_wp2_with fail
          go_ret
          exact ⟨rfl, (M.out.2.2.2.2.2.2.2.2.2.2.2)⟩
        | true =>
          cases h3 with
          | false =>
            go_wp2_with fail
            go_ret
            exact ⟨rfl, (M.out.2.2.2.2.2.2.2.2.2.2.2)⟩
          | true =>
            cases h4 with
            | false =>
              go_wp2_with fail
              go_ret
              exact ⟨rfl, (M.out.2.2.2.2.2.2.2.2.2.2.2)⟩
            | true =>
              go_upto_region 20 with fail
              have hh := HHH.out (by trivial) (by trivial) (by trivial) (by trivial)
              have hmul : -1152921504606846976 ≤ a * b ∧ a * b ≤ 1152921504606846976 := by
                have := mul_half hh.1 hh.2; omega
              have HS1 : Hid (-9223372036854775808 ≤ a + b ∧ a + b ≤ 9223372036854775807) := by show _ ∧ _; omega
              have HS2 : Hid (-9223372036854775808 ≤ a - b ∧ a - b ≤ 9223372036854775807) := by show _ ∧ _; omega
              have HS3 : Hid (-9223372036854775808 ≤ a * b ∧ a * b ≤ 9223372036854775807) := by show _ ∧ _; omega
              have w3_ : IntKind.i64.wrap (a + b) = a + b := IntWalk.i64_in _ (by omega)
              have w4_ : IntKind.i64.wrap (a - b) = a - b := IntWalk.i64_in _ (by omega)
              have w5_ : IntKind.i64.wrap (a * b) = a * b := IntWalk.i64_in _ (by omega)
              clear hh hmul
              obtain ⟨p2_0, q2_0, p2_1, q2_1⟩ := (M.out.2.2.2.2.1).c2
              go_wp2_with fail
              clear p2_0 q2_0 p2_1 q2_1
              replace M := Lib.hid (And.intro (M.out.1) (And.intro (M.out.2.1) (And.intro (M.out.2.2.1) (And.intro (M.out.2.2.2.1) (And.intro (M.out.2.2.2.2.2.1) (M.out.2.2.2.2.2.2.2.2.2.2.2))))))
              refine (bigInt_v (G := G) (x := z17) (v := (a + b)) (M.out.2.2.2.2.1) (Sz.mono Sz17.out (by omega)) Ez17.out HS1.out).mono ?_
              rintro e w20 ⟨rfl, hb⟩
              replace M := Lib.hid (Goes.go M.out hb)
              clear hb
              obtain ⟨p3_0, q3_0, p3_1, q3_1⟩ := (M.out.2.2.1).c2
              go_wp2_with fail
              clear p3_0 q3_0 p3_1 q3_1
              refine (bigInt_v (G := G) (x := z21) (v := (a - b)) (M.out.2.2.2.1) (Sz.mono Sz21.out (by omega)) Ez21.out HS2.out).mono ?_
              rintro e w21 ⟨rfl, hb⟩
              replace M := Lib.hid (Goes.go M.out hb)
              clear hb
              obtain ⟨p4_0, q4_0, p4_1, q4_1⟩ := (M.out.1).c2
              go_wp2_with fail
              clear p4_0 q4_0 p4_1 q4_1
              replace M := Lib.hid (And.intro (M.out.2.1) (M.out.2.2.2.2.2))
              refine (bigInt_v (G := G) (x := z25) (v := (a * b)) (M.out.1) (Sz.mono Sz25.out (by omega)) Ez25.out HS3.out).mono ?_
              rintro e w22 ⟨rfl, hb⟩
              replace M := Lib.hid (Goes.go M.out hb)
              clear hb
              go_wp2_with fail
              go_ret
              exact ⟨rfl, (M.out.2)⟩
    | true =>
      obtain ⟨p0_0, q0_0, p0_1, q0_1⟩ := (M.out.2.2.2.1).c2
      obtain ⟨p1_0, q1_0, p1_1, q1_1⟩ := (M.out.2.1).c2
      go_wp2_with fail
      clear p0_0 q0_0 p0_1 q0_1 p1_0 q1_0 p1_1 q1_1
      obtain ⟨z29, ez29⟩ : ∃ v_ : Int, v_ = (a + b) := ⟨_, rfl⟩
      refine (bigAdd_ok (G := G) (x := a) (y := b) (M.out.2.2.2.2.1) (M.out.2.2.1) (Sz.mono (Sz.i64 HA.out) (by omega)) (Sz.mono (Sz.i64 HB.out) (by omega))).mono ?_
      rintro e w13 ⟨a_27, c_28, rfl, hd30, hb⟩
      rw [← ez29] at hd30 ⊢
      have Sz29 : Hid (Sz z29 5) := by show Sz z29 5; rw [ez29]; exact (Sz.add (Sz.i64 HA.out) (Sz.i64 HB.out))
      have Ez29 := Lib.hid ez29; clear ez29
      replace M := Lib.hid (And.intro hd30 (Goes.go M.out hb))
      clear hb hd30
      go_upto_region 14 with fail
      obtain ⟨w14, hv⟩ : ∃ w_ : World, w_ = (w13.alloc (.cells #[.int .i64 (sg z29), .slice a_27 (ln z29) c_28] 24)) := ⟨_, rfl⟩
      rw [← hv]
      have o2 : w4.heap.size < w13.heap.size := ((M.out.2.2.1)).lt
      replace M := Lib.hid (And.intro (hv ▸ bx1 w13 24 #[.int .i64 (sg z29), .slice a_27 (ln z29) c_28]) (Goes.go M.out (hv ▸ below_alloc _ _ : Below w13.heap.size w13 w14)))
      clear hv
      obtain ⟨p0_0, q0_0, p0_1, q0_1⟩ := (M.out.2.2.2.2.2.1).c2
      obtain ⟨p1_0, q1_0, p1_1, q1_1⟩ := (M.out.2.2.2.1).c2
      go_wp2_with fail
      clear p0_0 q0_0 p0_1 q0_1 p1_0 q1_0 p1_1 q1_1
      obtain ⟨z33, ez33⟩ : ∃ v_ : Int, v_ = (a - b) := ⟨_, rfl⟩
      refine (bigSub_ok (G := G) (x := a) (y := b) (M.out.2.2.2.2.2.2.1) (M.out.2.2.2.2.1) (Nat.le_trans hG (M.out.2.2.2.2.2.2.2).size) (Sz.mono (Sz.i64 HA.out) (by omega)) (Sz.mono (Sz.i64 HB.out) (by omega))).mono ?_
      rintro e w15 ⟨a_31, c_32, rfl, hd34, hb⟩
      rw [← ez33] at hd34 ⊢
      have Sz33 : Hid (Sz z33 5) := by show Sz z33 5; rw [ez33]; exact (Sz.sub (Sz.i64 HA.out) (Sz.i64 HB.out))
      have Ez33 := Lib.hid ez33; clear ez33
      replace M := Lib.hid (And.intro hd34 (Goes.go M.out hb))
      clear hb hd34
      go_upto_region 15 with fail
      obtain ⟨w16, hv⟩ : ∃ w_ : World, w_ = (w15.alloc (.cells #[.int .i64 (sg z33), .slice a_31 (ln z33) c_32] 24)) := ⟨_, rfl⟩
      rw [← hv]
      have o3 : w13.heap.size < w15.heap.size := ((M.out.2.1)).lt
      replace M := Lib.hid (And.intro (hv ▸ bx1 w15 24 #[.int .i64 (sg z33), .slice a_31 (ln z33) c_32]) (Goes.go M.out (hv ▸ below_alloc _ _ : Below w15.heap.size w15 w16)))
      clear hv
      obtain ⟨p0_0, q0_0, p0_1, q0_1⟩ := (M.out.2.2.2.2.2.2.2.1).c2
      obtain ⟨p1_0, q1_0, p1_1, q1_1⟩ := (M.out.2.2.2.2.2.1).c2
      go_wp2_with fail
      clear p0_0 q0_0 p0_1 q0_1 p1_0 q1_0 p1_1 q1_1
      obtain ⟨z37, ez37⟩ : ∃ v_ : Int, v_ = (a * b) := ⟨_, rfl⟩
      refine (bigMul_ok (G := G) (x := a) (y := b) (M.out.2.2.2.2.2.2.2.2.1) (M.out.2.2.2.2.2.2.1) (Sz.mono (Sz.i64 HA.out) (by omega)) (Sz.mono (Sz.i64 HB.out) (by omega))).mono ?_
      rintro e w17 ⟨a_35, c_36, rfl, hd38, hb⟩
      rw [← ez37] at hd38 ⊢
      have Sz37 : Hid (Sz z37 8) := by show Sz z37 8; rw [ez37]; exact (Sz.mul (Sz.i64 HA.out) (Sz.i64 HB.out))
      have Ez37 := Lib.hid ez37; clear ez37
      replace M := Lib.hid (And.intro hd38 (Goes.go M.out hb))
      clear hb hd38
      go_upto_region 16 with fail
      obtain ⟨w18, hv⟩ : ∃ w_ : World, w_ = (w17.alloc (.cells #[.int .i64 (sg z37), .slice a_35 (ln z37) c_36] 24)) := ⟨_, rfl⟩
      rw [← hv]
      have o4 : w15.heap.size < w17.heap.size := ((M.out.2.1)).lt
      replace M := Lib.hid (And.intro (hv ▸ bx1 w17 24 #[.int .i64 (sg z37), .slice a_35 (ln z37) c_36]) (Goes.go M.out (hv ▸ below_alloc _ _ : Below w17.heap.size w17 w18)))
      clear hv
      obtain ⟨p0_0, q0_0, p0_1, q0_1⟩ := (M.out.2.2.2.2.2.2.2.2.2.1).c2
      obtain ⟨p1_0, q1_0, p1_1, q1_1⟩ := (M.out.2.2.2.2.2.2.2.1).c2
      go_wp2_with fail
      clear p0_0 q0_0 p0_1 q0_1 p1_0 q1_0 p1_1 q1_1
      refine (bigCompare_is (G := G) (x := a) (y := b) (k := 1) (M.out.2.2.2.2.2.2.2.2.2.2.1) (M.out.2.2.2.2.2.2.2.2.1) (Sz.mono (Sz.i64 HA.out) (by omega)) (Sz.mono (Sz.i64 HB.out) (by omega)) (HOG.out (by trivial))).mono ?_
      rintro e w19 ⟨rfl, hb⟩
      replace M := Lib.hid (Goes.go M.out hb)
      clear hb
      cases h1 with
      | false =>
        go_wp2_with fail
        go_ret
        exact ⟨rfl, (M.out.2.2.2.2.2.2.2.2.2.2.2)⟩
      | true =>
        cases h2 with
        | false =>
          go_wp2_with fail
          go_ret
          exact ⟨rfl, (M.out.2.2.2.2.2.2.2.2.2.2.2)⟩
        | true =>
          cases h3 with
          | false =>
            go_wp2_with fail
            go_ret
            exact ⟨rfl, (M.out.2.2.2.2.2.2.2.2.2.2.2)⟩
          | true =>
            cases h4 with
            | false =>
              go_wp2_with fail
              go_ret
              exact ⟨rfl, (M.out.2.2.2.2.2.2.2.2.2.2.2)⟩
            | true =>
              go_upto_region 20 with fail
              have hh := HHH.out (by trivial) (by trivial) (by trivial) (by trivial)
              have hmul : -1152921504606846976 ≤ a * b ∧ a * b ≤ 1152921504606846976 := by
                have := mul_half hh.1 hh.2; omega
              have HS1 : Hid (-9223372036854775808 ≤ a + b ∧ a + b ≤ 9223372036854775807) := by show _ ∧ _; omega
              have HS2 : Hid (-9223372036854775808 ≤ a - b ∧ a - b ≤ 9223372036854775807) := by show _ ∧ _; omega
              have HS3 : Hid (-9223372036854775808 ≤ a * b ∧ a * b ≤ 9223372036854775807) := by show _ ∧ _; omega
              have w3_ : IntKind.i64.wrap (a + b) = a + b := IntWalk.i64_in _ (by omega)
              have w4_ : IntKind.i64.wrap (a - b) = a - b := IntWalk.i64_in _ (by omega)
              have w5_ : IntKind.i64.wrap (a * b) = a * b := IntWalk.i64_in _ (by omega)
              clear hh hmul
              obtain ⟨p2_0, q2_0, p2_1, q2_1⟩ := (M.out.2.2.2.2.1).c2
              go_wp2_with fail
              clear p2_0 q2_0 p2_1 q2_1
              replace M := Lib.hid (And.intro (M.out.1) (And.intro (M.out.2.1) (And.intro (M.out.2.2.1) (And.intro (M.out.2.2.2.1) (And.intro (M.out.2.2.2.2.2.1) (M.out.2.2.2.2.2.2.2.2.2.2.2))))))
              refine (bigInt_v (G := G) (x := z29) (v := (a + b)) (M.out.2.2.2.2.1) (Sz.mono Sz29.out (by omega)) Ez29.out HS1.out).mono ?_
              rintro e w20 ⟨rfl, hb⟩
              replace M := Lib.hid (Goes.go M.out hb)
              clear hb
              obtain ⟨p3_0, q3_0, p3_1, q3_1⟩ := (M.out.2.2.1).c2
              go_wp2_with fail
              clear p3_0 q3_0 p3_1 q3_1
              refine (bigInt_v (G := G) (x := z33) (v := (a - b)) (M.out.2.2.2.1) (Sz.mono Sz33.out (by omega)) Ez33.out HS2.out).mono ?_
              rintro e w21 ⟨rfl, hb⟩
              replace M := Lib.hid (Goes.go M.out hb)
              clear hb
              obtain ⟨p4_0, q4_0, p4_1, q4_1⟩ := (M.out.1).c2
              go_wp2_with fail
              clear p4_0 q4_0 p4_1 q4_1
              replace M := Lib.hid (And.intro (M.out.2.1) (M.out.2.2.2.2.2))
              refine (bigInt_v (G := G) (x := z37) (v := (a * b)) (M.out.1) (Sz.mono Sz37.out (by omega)) Ez37.out HS3.out).mono ?_
              rintro e w22 ⟨rfl, hb⟩
              replace M := Lib.hid (Goes.go M.out hb)
              clear hb
              go_wp2_with fail
              go_ret
              exact ⟨rfl, (M.out.2)⟩
  | true =>
    cases bg with
    | false =>
      obtain ⟨p0_0, q0_0, p0_1, q0_1⟩ := (M.out.2.2.2.1).c2
      obtain ⟨p1_0, q1_0, p1_1, q1_1⟩ := (M.out.2.1).c2
      go_wp2_with fail
      clear p0_0 q0_0 p0_1 q0_1 p1_0 q1_0 p1_1 q1_1
      obtain ⟨z41, ez41⟩ : ∃ v_ : Int, v_ = (a + b) := ⟨_, rfl⟩
      refine (bigAdd_ok (G := G) (x := a) (y := b) (M.out.2.2.2.2.1) (M.out.2.2.1) (Sz.mono (Sz.i64 HA.out) (by omega)) (Sz.mono (Sz.i64 HB.out) (by omega))).mono ?_
      rintro e w13 ⟨a_39, c_40, rfl, hd42, hb⟩
      rw [← ez41] at hd42 ⊢
      have Sz41 : Hid (Sz z41 5) := by show Sz z41 5; rw [ez41]; exact (Sz.add (Sz.i64 HA.out) (Sz.i64 HB.out))
      have Ez41 := Lib.hid ez41; clear ez41
      replace M := Lib.hid (And.intro hd42 (Goes.go M.out hb))
      clear hb hd42
      go_upto_region 14 with fail
      obtain ⟨w14, hv⟩ : ∃ w_ : World, w_ = (w13.alloc (.cells #[.int .i64 (sg z41), .slice a_39 (ln z41) c_40] 24)) := ⟨_, rfl⟩
      rw [← hv]
      have o2 : w4.heap.size < w13.heap.size := ((M.out.2.2.1)).lt
      replace M := Lib.hid (And.intro (hv ▸ bx1 w13 24 #[.int .i64 (sg z41), .slice a_39 (ln z41) c_40]) (Goes.go M.out (hv ▸ below_alloc _ _ : Below w13.heap.size w13 w14)))
      clear hv
      obtain ⟨p0_0, q0_0, p0_1, q0_1⟩ := (M.out.2.2.2.2.2.1).c2
      obtain ⟨p1_0, q1_0, p1_1, q1_1⟩ := (M.out.2.2.2.1).c2
      go_wp2_with fail
      clear p0_0 q0_0 p0_1 q0_1 p1_0 q1_0 p1_1 q1_1
      obtain ⟨z45, ez45⟩ : ∃ v_ : Int, v_ = (a - b) := ⟨_, rfl⟩
      refine (bigSub_ok (G := G) (x := a) (y := b) (M.out.2.2.2.2.2.2.1) (M.out.2.2.2.2.1) (Nat.le_trans hG (M.out.2.2.2.2.2.2.2).size) (Sz.mono (Sz.i64 HA.out) (by omega)) (Sz.mono (Sz.i64 HB.out) (by omega))).mono ?_
      rintro e w15 ⟨a_43, c_44, rfl, hd46, hb⟩
      rw [← ez45] at hd46 ⊢
      have Sz45 : Hid (Sz z45 5) := by show Sz z45 5; rw [ez45]; exact (Sz.sub (Sz.i64 HA.out) (Sz.i64 HB.out))
      have Ez45 := Lib.hid ez45; clear ez45
      replace M := Lib.hid (And.intro hd46 (Goes.go M.out hb))
      clear hb hd46
      go_upto_region 15 with fail
      obtain ⟨w16, hv⟩ : ∃ w_ : World, w_ = (w15.alloc (.cells #[.int .i64 (sg z45), .slice a_43 (ln z45) c_44] 24)) := ⟨_, rfl⟩
      rw [← hv]
      have o3 : w13.heap.size < w15.heap.size := ((M.out.2.1)).lt
      replace M := Lib.hid (And.intro (hv ▸ bx1 w15 24 #[.int .i64 (sg z45), .slice a_43 (ln z45) c_44]) (Goes.go M.out (hv ▸ below_alloc _ _ : Below w15.heap.size w15 w16)))
      clear hv
      obtain ⟨p0_0, q0_0, p0_1, q0_1⟩ := (M.out.2.2.2.2.2.2.2.1).c2
      obtain ⟨p1_0, q1_0, p1_1, q1_1⟩ := (M.out.2.2.2.2.2.1).c2
      go_wp2_with fail
      clear p0_0 q0_0 p0_1 q0_1 p1_0 q1_0 p1_1 q1_1
      obtain ⟨z49, ez49⟩ : ∃ v_ : Int, v_ = (a * b) := ⟨_, rfl⟩
      refine (bigMul_ok (G := G) (x := a) (y := b) (M.out.2.2.2.2.2.2.2.2.1) (M.out.2.2.2.2.2.2.1) (Sz.mono (Sz.i64 HA.out) (by omega)) (Sz.mono (Sz.i64 HB.out) (by omega))).mono ?_
      rintro e w17 ⟨a_47, c_48, rfl, hd50, hb⟩
      rw [← ez49] at hd50 ⊢
      have Sz49 : Hid (Sz z49 8) := by show Sz z49 8; rw [ez49]; exact (Sz.mul (Sz.i64 HA.out) (Sz.i64 HB.out))
      have Ez49 := Lib.hid ez49; clear ez49
      replace M := Lib.hid (And.intro hd50 (Goes.go M.out hb))
      clear hb hd50
      go_upto_region 16 with fail
      obtain ⟨w18, hv⟩ : ∃ w_ : World, w_ = (w17.alloc (.cells #[.int .i64 (sg z49), .slice a_47 (ln z49) c_48] 24)) := ⟨_, rfl⟩
      rw [← hv]
      have o4 : w15.heap.size < w17.heap.size := ((M.out.2.1)).lt
      replace M := Lib.hid (And.intro (hv ▸ bx1 w17 24 #[.int .i64 (sg z49), .slice a_47 (ln z49) c_48]) (Goes.go M.out (hv ▸ below_alloc _ _ : Below w17.heap.size w17 w18)))
      clear hv
      obtain ⟨p0_0, q0_0, p0_1, q0_1⟩ := (M.out.2.2.2.2.2.2.2.2.2.1).c2
      obtain ⟨p1_0, q1_0, p1_1, q1_1⟩ := (M.out.2.2.2.2.2.2.2.1).c2
      go_wp2_with fail
      clear p0_0 q0_0 p0_1 q0_1 p1_0 q1_0 p1_1 q1_1
      refine (bigCompare_is (G := G) (x := a) (y := b) (k := (-1)) (M.out.2.2.2.2.2.2.2.2.2.2.1) (M.out.2.2.2.2.2.2.2.2.1) (Sz.mono (Sz.i64 HA.out) (by omega)) (Sz.mono (Sz.i64 HB.out) (by omega)) (HOL.out (by trivial))).mono ?_
      rintro e w19 ⟨rfl, hb⟩
      replace M := Lib.hid (Goes.go M.out hb)
      clear hb
      cases h1 with
      | false =>
        go_wp2_with fail
        go_ret
        exact ⟨rfl, (M.out.2.2.2.2.2.2.2.2.2.2.2)⟩
      | true =>
        cases h2 with
        | false =>
          go_wp2_with fail
          go_ret
          exact ⟨rfl, (M.out.2.2.2.2.2.2.2.2.2.2.2)⟩
        | true =>
          cases h3 with
          | false =>
            go_wp2_with fail
            go_ret
            exact ⟨rfl, (M.out.2.2.2.2.2.2.2.2.2.2.2)⟩
          | true =>
            cases h4 with
            | false =>
              go_wp2_with fail
              go_ret
              exact ⟨rfl, (M.out.2.2.2.2.2.2.2.2.2.2.2)⟩
            | true =>
              go_upto_region 20 with fail
              have hh := HHH.out (by trivial) (by trivial) (by trivial) (by trivial)
              have hmul : -1152921504606846976 ≤ a * b ∧ a * b ≤ 1152921504606846976 := by
                have := mul_half hh.1 hh.2; omega
              have HS1 : Hid (-9223372036854775808 ≤ a + b ∧ a + b ≤ 9223372036854775807) := by show _ ∧ _; omega
              have HS2 : Hid (-9223372036854775808 ≤ a - b ∧ a - b ≤ 9223372036854775807) := by show _ ∧ _; omega
              have HS3 : Hid (-9223372036854775808 ≤ a * b ∧ a * b ≤ 9223372036854775807) := by show _ ∧ _; omega
              have w3_ : IntKind.i64.wrap (a + b) = a + b := IntWalk.i64_in _ (by omega)
              have w4_ : IntKind.i64.wrap (a - b) = a - b := IntWalk.i64_in _ (by omega)
              have w5_ : IntKind.i64.wrap (a * b) = a * b := IntWalk.i64_in _ (by omega)
              clear hh hmul
              obtain ⟨p2_0, q2_0, p2_1, q2_1⟩ := (M.out.2.2.2.2.1).c2
              go_wp2_with fail
              clear p2_0 q2_0 p2_1 q2_1
              replace M := Lib.hid (And.intro (M.out.1) (And.intro (M.out.2.1) (And.intro (M.out.2.2.1) (And.intro (M.out.2.2.2.1) (And.intro (M.out.2.2.2.2.2.1) (M.out.2.2.2.2.2.2.2.2.2.2.2))))))
              refine (bigInt_v (G := G) (x := z41) (v := (a + b)) (M.out.2.2.2.2.1) (Sz.mono Sz41.out (by omega)) Ez41.out HS1.out).mono ?_
              rintro e w20 ⟨rfl, hb⟩
              replace M := Lib.hid (Goes.go M.out hb)
              clear hb
              obtain ⟨p3_0, q3_0, p3_1, q3_1⟩ := (M.out.2.2.1).c2
              go_wp2_with fail
              clear p3_0 q3_0 p3_1 q3_1
              refine (bigInt_v (G := G) (x := z45) (v := (a - b)) (M.out.2.2.2.1) (Sz.mono Sz45.out (by omega)) Ez45.out HS2.out).mono ?_
              rintro e w21 ⟨rfl, hb⟩
              replace M := Lib.hid (Goes.go M.out hb)
              clear hb
              obtain ⟨p4_0, q4_0, p4_1, q4_1⟩ := (M.out.1).c2
              go_wp2_with fail
              clear p4_0 q4_0 p4_1 q4_1
              replace M := Lib.hid (And.intro (M.out.2.1) (M.out.2.2.2.2.2))
              refine (bigInt_v (G := G) (x := z49) (v := (a * b)) (M.out.1) (Sz.mono Sz49.out (by omega)) Ez49.out HS3.out).mono ?_
              rintro e w22 ⟨rfl, hb⟩
              replace M := Lib.hid (Goes.go M.out hb)
              clear hb
              go_wp2_with fail
              go_ret
              exact ⟨rfl, (M.out.2)⟩
    | true =>
      obtain ⟨p0_0, q0_0, p0_1, q0_1⟩ := (M.out.2.2.2.1).c2
      obtain ⟨p1_0, q1_0, p1_1, q1_1⟩ := (M.out.2.1).c2
      go_wp2_with fail
      clear p0_0 q0_0 p0_1 q0_1 p1_0 q1_0 p1_1 q1_1
      obtain ⟨z53, ez53⟩ : ∃ v_ : Int, v_ = (a + b) := ⟨_, rfl⟩
      refine (bigAdd_ok (G := G) (x := a) (y := b) (M.out.2.2.2.2.1) (M.out.2.2.1) (Sz.mono (Sz.i64 HA.out) (by omega)) (Sz.mono (Sz.i64 HB.out) (by omega))).mono ?_
      rintro e w13 ⟨a_51, c_52, rfl, hd54, hb⟩
      rw [← ez53] at hd54 ⊢
      have Sz53 : Hid (Sz z53 5) := by show Sz z53 5; rw [ez53]; exact (Sz.add (Sz.i64 HA.out) (Sz.i64 HB.out))
      have Ez53 := Lib.hid ez53; clear ez53
      replace M := Lib.hid (And.intro hd54 (Goes.go M.out hb))
      clear hb hd54
      go_upto_region 14 with fail
      obtain ⟨w14, hv⟩ : ∃ w_ : World, w_ = (w13.alloc (.cells #[.int .i64 (sg z53), .slice a_51 (ln z53) c_52] 24)) := ⟨_, rfl⟩
      rw [← hv]
      have o2 : w4.heap.size < w13.heap.size := ((M.out.2.2.1)).lt
      replace M := Lib.hid (And.intro (hv ▸ bx1 w13 24 #[.int .i64 (sg z53), .slice a_51 (ln z53) c_52]) (Goes.go M.out (hv ▸ below_alloc _ _ : Below w13.heap.size w13 w14)))
      clear hv
      obtain ⟨p0_0, q0_0, p0_1, q0_1⟩ := (M.out.2.2.2.2.2.1).c2
      obtain ⟨p1_0, q1_0, p1_1, q1_1⟩ := (M.out.2.2.2.1).c2
      go_wp2_with fail
      clear p0_0 q0_0 p0_1 q0_1 p1_0 q1_0 p1_1 q1_1
      obtain ⟨z57, ez57⟩ : ∃ v_ : Int, v_ = (a - b) := ⟨_, rfl⟩
      refine (bigSub_ok (G := G) (x := a) (y := b) (M.out.2.2.2.2.2.2.1) (M.out.2.2.2.2.1) (Nat.le_trans hG (M.out.2.2.2.2.2.2.2).size) (Sz.mono (Sz.i64 HA.out) (by omega)) (Sz.mono (Sz.i64 HB.out) (by omega))).mono ?_
      rintro e w15 ⟨a_55, c_56, rfl, hd58, hb⟩
      rw [← ez57] at hd58 ⊢
      have Sz57 : Hid (Sz z57 5) := by show Sz z57 5; rw [ez57]; exact (Sz.sub (Sz.i64 HA.out) (Sz.i64 HB.out))
      have Ez57 := Lib.hid ez57; clear ez57
      replace M := Lib.hid (And.intro hd58 (Goes.go M.out hb))
      clear hb hd58
      go_upto_region 15 with fail
      obtain ⟨w16, hv⟩ : ∃ w_ : World, w_ = (w15.alloc (.cells #[.int .i64 (sg z57), .slice a_55 (ln z57) c_56] 24)) := ⟨_, rfl⟩
      rw [← hv]
      have o3 : w13.heap.size < w15.heap.size := ((M.out.2.1)).lt
      replace M := Lib.hid (And.intro (hv ▸ bx1 w15 24 #[.int .i64 (sg z57), .slice a_55 (ln z57) c_56]) (Goes.go M.out (hv ▸ below_alloc _ _ : Below w15.heap.size w15 w16)))
      clear hv
      obtain ⟨p0_0, q0_0, p0_1, q0_1⟩ := (M.out.2.2.2.2.2.2.2.1).c2
      obtain ⟨p1_0, q1_0, p1_1, q1_1⟩ := (M.out.2.2.2.2.2.1).c2
      go_wp2_with fail
      clear p0_0 q0_0 p0_1 q0_1 p1_0 q1_0 p1_1 q1_1
      obtain ⟨z61, ez61⟩ : ∃ v_ : Int, v_ = (a * b) := ⟨_, rfl⟩
      refine (bigMul_ok (G := G) (x := a) (y := b) (M.out.2.2.2.2.2.2.2.2.1) (M.out.2.2.2.2.2.2.1) (Sz.mono (Sz.i64 HA.out) (by omega)) (Sz.mono (Sz.i64 HB.out) (by omega))).mono ?_
      rintro e w17 ⟨a_59, c_60, rfl, hd62, hb⟩
      rw [← ez61] at hd62 ⊢
      have Sz61 : Hid (Sz z61 8) := by show Sz z61 8; rw [ez61]; exact (Sz.mul (Sz.i64 HA.out) (Sz.i64 HB.out))
      have Ez61 := Lib.hid ez61; clear ez61
      replace M := Lib.hid (And.intro hd62 (Goes.go M.out hb))
      clear hb hd62
      go_upto_region 16 with fail
      obtain ⟨w18, hv⟩ : ∃ w_ : World, w_ = (w17.alloc (.cells #[.int .i64 (sg z61), .slice a_59 (ln z61) c_60] 24)) := ⟨_, rfl⟩
      rw [← hv]
      have o4 : w15.heap.size < w17.heap.size := ((M.out.2.1)).lt
      replace M := Lib.hid (And.intro (hv ▸ bx1 w17 24 #[.int .i64 (sg z61), .slice a_59 (ln z61) c_60]) (Goes.go M.out (hv ▸ below_alloc _ _ : Below w17.heap.size w17 w18)))
      clear hv
      obtain ⟨p0_0, q0_0, p0_1, q0_1⟩ := (M.out.2.2.2.2.2.2.2.2.2.1).c2
      obtain ⟨p1_0, q1_0, p1_1, q1_1⟩ := (M.out.2.2.2.2.2.2.2.1).c2
      go_wp2_with fail
      clear p0_0 q0_0 p0_1 q0_1 p1_0 q1_0 p1_1 q1_1
      refine (bigCompare_is (G := G) (x := a) (y := b) (k := 1) (M.out.2.2.2.2.2.2.2.2.2.2.1) (M.out.2.2.2.2.2.2.2.2.1) (Sz.mono (Sz.i64 HA.out) (by omega)) (Sz.mono (Sz.i64 HB.out) (by omega)) (HOG.out (by trivial))).mono ?_
      rintro e w19 ⟨rfl, hb⟩
      replace M := Lib.hid (Goes.go M.out hb)
      clear hb
      cases h1 with
      | false =>
        go_wp2_with fail
        go_ret
        exact ⟨rfl, (M.out.2.2.2.2.2.2.2.2.2.2.2)⟩
      | true =>
        cases h2 with
        | false =>
          go_wp2_with fail
          go_ret
          exact ⟨rfl, (M.out.2.2.2.2.2.2.2.2.2.2.2)⟩
        | true =>
          cases h3 with
          | false =>
            go_wp2_with fail
            go_ret
            exact ⟨rfl, (M.out.2.2.2.2.2.2.2.2.2.2.2)⟩
          | true =>
            cases h4 with
            | false =>
              go_wp2_with fail
              go_ret
              exact ⟨rfl, (M.out.2.2.2.2.2.2.2.2.2.2.2)⟩
            | true =>
              go_upto_region 20 with fail
              have hh := HHH.out (by trivial) (by trivial) (by trivial) (by trivial)
              have hmul : -1152921504606846976 ≤ a * b ∧ a * b ≤ 1152921504606846976 := by
                have := mul_half hh.1 hh.2; omega
              have HS1 : Hid (-9223372036854775808 ≤ a + b ∧ a + b ≤ 9223372036854775807) := by show _ ∧ _; omega
              have HS2 : Hid (-9223372036854775808 ≤ a - b ∧ a - b ≤ 9223372036854775807) := by show _ ∧ _; omega
              have HS3 : Hid (-9223372036854775808 ≤ a * b ∧ a * b ≤ 9223372036854775807) := by show _ ∧ _; omega
              have w3_ : IntKind.i64.wrap (a + b) = a + b := IntWalk.i64_in _ (by omega)
              have w4_ : IntKind.i64.wrap (a - b) = a - b := IntWalk.i64_in _ (by omega)
              have w5_ : IntKind.i64.wrap (a * b) = a * b := IntWalk.i64_in _ (by omega)
              clear hh hmul
              obtain ⟨p2_0, q2_0, p2_1, q2_1⟩ := (M.out.2.2.2.2.1).c2
              go_wp2_with fail
              clear p2_0 q2_0 p2_1 q2_1
              replace M := Lib.hid (And.intro (M.out.1) (And.intro (M.out.2.1) (And.intro (M.out.2.2.1) (And.intro (M.out.2.2.2.1) (And.intro (M.out.2.2.2.2.2.1) (M.out.2.2.2.2.2.2.2.2.2.2.2))))))
              refine (bigInt_v (G := G) (x := z53) (v := (a + b)) (M.out.2.2.2.2.1) (Sz.mono Sz53.out (by omega)) Ez53.out HS1.out).mono ?_
              rintro e w20 ⟨rfl, hb⟩
              replace M := Lib.hid (Goes.go M.out hb)
              clear hb
              obtain ⟨p3_0, q3_0, p3_1, q3_1⟩ := (M.out.2.2.1).c2
              go_wp2_with fail
              clear p3_0 q3_0 p3_1 q3_1
              refine (bigInt_v (G := G) (x := z57) (v := (a - b)) (M.out.2.2.2.1) (Sz.mono Sz57.out (by omega)) Ez57.out HS2.out).mono ?_
              rintro e w21 ⟨rfl, hb⟩
              replace M := Lib.hid (Goes.go M.out hb)
              clear hb
              obtain ⟨p4_0, q4_0, p4_1, q4_1⟩ := (M.out.1).c2
              go_wp2_with fail
              clear p4_0 q4_0 p4_1 q4_1
              replace M := Lib.hid (And.intro (M.out.2.1) (M.out.2.2.2.2.2))
              refine (bigInt_v (G := G) (x := z61) (v := (a * b)) (M.out.1) (Sz.mono Sz61.out (by omega)) Ez61.out HS3.out).mono ?_
              rintro e w22 ⟨rfl, hb⟩
              replace M := Lib.hid (Goes.go M.out hb)
              clear hb
              go_wp2_with fail
              go_ret
              exact ⟨rfl, (M.out.2)⟩

theorem ints_walk {a b : Int} {w : World} (ht : Tab w) (ha : (Lit.int .i64 a).wf = true) (hb : (Lit.int .i64 b).wf = true) :
    Calls Tryd.prog 8 #[.int .i64 a, .int .i64 b] w fun e w' => e = .returned (.bool true) ∧ Below w.heap.size w w' := by
  have ha' : -9223372036854775808 ≤ a ∧ a ≤ 9223372036854775807 := by simpa [Lit.wf, IntKind.min, IntKind.max, IntKind.signed, IntKind.bits] using ha
  have hb' : -9223372036854775808 ≤ b ∧ b ≤ 9223372036854775807 := by simpa [Lit.wf, IntKind.min, IntKind.max, IntKind.signed, IntKind.bits] using hb
  by_cases h : a = -9223372036854775808
  · exact ints_min (G := 0) (Nat.zero_le _) ht ha' hb' h
  · exact ints_all (G := 0) (Nat.zero_le _) ht ha' hb' h

end Go.Proofs.YtlinegodpoihoaaDoor
