/- Scale: the reference's interval. -/
import Derived.Test.YtpjpkcelajbfnaaScaleG
namespace Go.Proofs.Ytpjpkcelajbfnaa
open Go.RowKit
variable {G : Nat}

theorem sg_neg_iff (q : Rat) : sg (nu q) < 0 ↔ q < 0 := by
  have h1 : sg (nu q) < 0 ↔ nu q < 0 := by
    rcases Int.lt_trichotomy (nu q) 0 with h | h | h
    · rw [sg, Int.sign_eq_neg_one_of_neg h]; simp [h]
    · rw [h, sg_zero]
    · rw [sg, Int.sign_eq_one_of_pos h]; constructor <;> intro h' <;> omega
  rw [h1, nu, ← Int.not_le, Rat.num_nonneg, Rat.not_le]
theorem lo_neg {e : Rat} {rd : Int} (h : sg (nu ((rd : Rat) - e)) < 0) : loQ e rd = ((0 : Int) : Rat) := by
  rw [sg_neg_iff] at h
  have h0 : ((0 : Int) : Rat) = 0 := rfl
  rw [loQ, pick, ordQ, h0, if_pos h, if_pos (by decide)]
theorem lo_pos {e : Rat} {rd : Int} (h : sg (nu ((rd : Rat) - e)) ≥ 0) : loQ e rd = (rd : Rat) - e := by
  have h1 : ¬ ((rd : Rat) - e < 0) := fun h' => by rw [← sg_neg_iff] at h'; omega
  have h0 : ((0 : Int) : Rat) = 0 := rfl
  rw [loQ, pick, ordQ, h0, if_neg h1]
  split
  · rw [if_neg (by decide)]
  · rw [if_neg (by decide)]

set_option maxHeartbeats 4000000 in
theorem rcInterval_neg {cs : List Ct} {rs : List Rc} {sc rd day : Int} {a1 a2 : Option Addr} {cap1 cap2 : Nat} {w : World} (h1 : CtIn w (.slice a1 cs.length cap1) cs) (h2 : RcIn w (.slice a2 rs.length cap2) rs) (hn1 : cs.length ≤ 1099511627776) (hn2 : rs.length ≤ 1099511627776) {ct : Ct} {g : Nat} {hgl : g < cs.length} (hct : ct = cs[g]) (hf : findC cs sc day = some g) (hr : recalledB rs sc day = false) (hi : inR rd 0 1099511627776 = true) (hG : G ≤ w.heap.size) (hng : sg (nu ((rd : Rat) - errQ ct rd day)) < 0) :
    Calls Try.prog 15 #[.slice a1 cs.length cap1, .slice a2 rs.length cap2, .int .i64 sc, .int .i64 rd, .int .i64 day] w fun e w' => ∃ a c b d a' c' b' d', e = .returned (.tuple #[.agg #[.int .i64 (sg (nu (loQ (errQ ct rd day) rd))), .slice a (ln (nu (loQ (errQ ct rd day) rd))) c, .int .i64 (sg (de (loQ (errQ ct rd day) rd))), .slice b (ln (de (loQ (errQ ct rd day) rd))) d], .agg #[.int .i64 (sg (nu (hiQ (errQ ct rd day) rd))), .slice a' (ln (nu (hiQ (errQ ct rd day) rd))) c', .int .i64 (sg (de (hiQ (errQ ct rd day) rd))), .slice b' (ln (de (hiQ (errQ ct rd day) rd))) d'], .bool true]) ∧ FD G w' a c b d (loQ (errQ ct rd day) rd) ∧ FD G w' a' c' b' d' (hiQ (errQ ct rd day) rd) ∧ Below w.heap.size w w' := by
  obtain ⟨hgl, -, hc⟩ := findC_is hf
  obtain ⟨b, off, rfl, hb, hcell⟩ := h1.at hgl
  obtain ⟨s, f, u, n, p, d⟩ := ct
  rw [← hct] at hc hcell
  have hI2 : (g : Int) < (cs.length : Int) := by omega
  have HC := Lib.hid hc
  have HF := Lib.hid hf
  have HR := Lib.hid hr
  have HI := Lib.hid hi
  have HN := Lib.hid hng
  clear hf hr hi hc hct hng
  have hbi := in_bounds HI.out
  have H1 : Hid (CtIn w (.slice (some ⟨b, off, none⟩) cs.length cap1) cs) := h1
  have H2 : Hid (RcIn w (.slice a2 rs.length cap2) rs) := h2
  have HROW : Hid (Row w b (off + g * 6) [.int .i64 s, .int .i64 f, .int .i64 u, .int .i64 n, .int .i64 p, .int .i64 d]) := ⟨hb, hcell⟩
  clear h1 h2 hcell
  have M : Hid (Below w.heap.size w w) := Below.refl _ _
  go_enter Try.func15, Try.ntmps15
  go_upto_region 1 with fail
  obtain ⟨w1, hv⟩ : ∃ x, x = ((w.alloc (.cells #[.int .i64 0, .slice none 0 0, .int .i64 0, .slice none 0 0] 34)).alloc (.cells #[.int .i64 0, .slice none 0 0, .int .i64 0, .slice none 0 0] 34)) := ⟨_, rfl⟩
  rw [← hv]
  have hbx := bx2 w 34 34 #[.int .i64 0, .slice none 0 0, .int .i64 0, .slice none 0 0] #[.int .i64 0, .slice none 0 0, .int .i64 0, .slice none 0 0]
  rw [← hv] at hbx
  have hbn : Below w.heap.size w w1 := by rw [hv]; exact (Below.alloc (Below.alloc (Below.refl _ _) (by simp) _) (by simp) _)
  replace M := Lib.hid (And.intro hbx.2 (And.intro hbx.1 (Goes.go M.out hbn)))
  clear hbx hbn
  clear hv
  go_wp2_with fail
  refine (rcFind_some (sc := sc) (day := day) (H1.out.keep (M.out.2.2)) (by omega) HF.out).mono ?_
  rintro e w2 ⟨rfl, hb⟩
  replace M := Lib.hid (Goes.go M.out hb)
  clear hb
  go_wp2_with fail
  refine (rcRec_is (sc := sc) (day := day) (b := false) (H2.out.keep (M.out.2.2)) (by omega) HR.out).mono ?_
  rintro e w3 ⟨rfl, hb⟩
  replace M := Lib.hid (Goes.go M.out hb)
  clear hb
  go_wp2_with fail
  refine (in_is (n := rd) (lo := 0) (hi := 1099511627776) (b := true) HI.out _).mono ?_
  rintro e _ ⟨rfl, rfl⟩
  obtain ⟨r0_0, r0_1, r0_2, r0_3, r0_4, r0_5⟩ := (HROW.out.keep (M.out.2.2)).c6
  go_wp2_with fail
  clear r0_0 r0_1 r0_2 r0_3 r0_4 r0_5
  obtain ⟨q5, eq5⟩ : ∃ x : Rat, x = (errQ ⟨s, f, u, n, p, d⟩ rd day) := ⟨_, rfl⟩
  refine (rcError_yes (G := G) (s := s) (f := f) (u := u) (n := n) (p := p) (d := d) (rd := rd) (day := day) (Nat.le_trans hG (M.out.2.2).size) HC.out HI.out).mono ?_
  rintro e w4 ⟨a_1, c_2, b_3, d_4, rfl, hd6, hb⟩
  rw [← eq5] at hd6 ⊢
  have Sq5 : Hid (Fz q5 9) := by show Fz q5 9; rw [eq5]; exact (errQ_size HC.out HI.out)
  have Eq5 := Lib.hid eq5; clear eq5
  replace M := Lib.hid (And.intro hd6 (Goes.go M.out hb))
  clear hb hd6
  go_upto_region 5 with fail
  obtain ⟨w5, hv⟩ : ∃ x, x = (w4.alloc (.cells #[.int .i64 (sg (nu q5)), .slice a_1 (ln (nu q5)) c_2, .int .i64 (sg (de q5)), .slice b_3 (ln (de q5)) d_4] 34)) := ⟨_, rfl⟩
  rw [← hv]
  have o2 : w.heap.size + 1 < w4.heap.size := ((M.out.2.1)).lt
  replace M := Lib.hid (And.intro (hv ▸ bx1 w4 34 #[.int .i64 (sg (nu q5)), .slice a_1 (ln (nu q5)) c_2, .int .i64 (sg (de q5)), .slice b_3 (ln (de q5)) d_4]) (Goes.go M.out (hv ▸ below_alloc _ _ : Below w4.heap.size w4 w5)))
  clear hv
  go_cut [17, 18] (fun s17 s18 wx => ∃ (A19 : Nat), ∃ (a_7 : Option Addr), ∃ (c_8 : Nat), ∃ (b_9 : Option Addr), ∃ (d_10 : Nat), ∃ (q11 : Rat), ∃ (a_13 : Option Addr), ∃ (c_14 : Nat), ∃ (b_15 : Option Addr), ∃ (d_16 : Nat), ∃ (q17 : Rat), s17 = .pointer (some ⟨A19, 0, none⟩) ∧ s18 = .int .i64 0 ∧ Hid (q11 = (rd : Rat)) ∧ Hid (q17 = (q11 - q5)) ∧ Hid (Fz q11 4) ∧ Hid (Fz q17 14) ∧ w4.heap.size < A19 ∧ Hid (Bx wx A19 34 #[.int .i64 (sg (nu q17)), .slice a_13 (ln (nu q17)) c_14, .int .i64 (sg (de q17)), .slice b_15 (ln (de q17)) d_16] ∧ FD G wx a_13 c_14 b_15 d_16 q17 ∧ FD G wx a_7 c_8 b_9 d_10 q11 ∧ FD G wx a_1 c_2 b_3 d_4 q5 ∧ Bx wx w.heap.size 34 #[.int .i64 0, .slice none 0 0, .int .i64 0, .slice none 0 0] ∧ Bx wx (w.heap.size + 1) 34 #[.int .i64 0, .slice none 0 0, .int .i64 0, .slice none 0 0] ∧ Bx wx w4.heap.size 34 #[.int .i64 (sg (nu q5)), .slice a_1 (ln (nu q5)) c_2, .int .i64 (sg (de q5)), .slice b_3 (ln (de q5)) d_4] ∧ Below w.heap.size w wx))
  case first =>
    obtain ⟨w6, hv⟩ : ∃ x, x = w5.drew := ⟨_, rfl⟩
    replace M := Lib.hid (Goes.go M.out (hv ▸ below_drew _ : Below w5.heap.size w5 w6))
    refine wp_region_held_drew (S := (fun w' => w'.cell? ⟨w4.heap.size, 0, none⟩ = some (.int .i64 (sg (nu q5))) ∧ w'.cell? ⟨w4.heap.size, 1, none⟩ = some (.slice a_1 (ln (nu q5)) c_2) ∧ w'.cell? ⟨w4.heap.size, 2, none⟩ = some (.int .i64 (sg (de q5))) ∧ w'.cell? ⟨w4.heap.size, 3, none⟩ = some (.slice b_3 (ln (de q5)) d_4))) (by kernel_rfl) (by rw [← hv]; exact ⟨(M.out.1).at.1 0, (M.out.1).at.1 1, (M.out.1).at.1 2, (M.out.1).at.1 3⟩) (fun hH20 => ?_)
    rw [← hv] at hH20 ⊢
    clear hv
    refine tk at0 ?_
    refine tk at2 ?_
    refine wpAnyH_ready (rs := [1, 7]) (by kernel_rfl) (by simp) ?_
    refine AllReadyH.cons at1 (fun K hK => ?_) ?_
    ·
      go_simp
      obtain ⟨q25, eq25⟩ : ∃ x : Rat, x = (rd : Rat) := ⟨_, rfl⟩
      refine (rfint_ok (G := G) rd _ (by omega)).mono ?_
      rintro e w7 ⟨a_21, c_22, b_23, d_24, rfl, hd26, hb⟩
      rw [← eq25] at hd26 ⊢
      have Sq25 : Hid (Fz q25 4) := by show Fz q25 4; rw [eq25]; exact (Fz.int64 (by omega))
      have Eq25 := Lib.hid eq25; clear eq25
      replace M := Lib.hid (And.intro hd26 (Goes.go M.out hb))
      clear hb hd26
      (try go_wp2_with fail)
      refine hK.out _ _ (⟨(M.out.2.1).at.1 0, (M.out.2.1).at.1 1, (M.out.2.1).at.1 2, (M.out.2.1).at.1 3⟩) (fun hH27 => ?_)
      clear hK K hH20
      (try simp only [Act.put, List.setIfInBounds_toArray, List.set_cons_zero, List.set_cons_succ])
      refine wpAnyH_ready (rs := [3, 7]) (by kernel_rfl) (by simp) ?_
      refine AllReadyH.cons at3 (fun K hK => ?_) ?_
      ·
        go_simp
        obtain ⟨q32, eq32⟩ : ∃ x : Rat, x = (q25 - q5) := ⟨_, rfl⟩
        refine (rfsub_ok (G := G) (q := q25) (r := q5) (M.out.1) (M.out.2.2.1) (Fz.mono Sq25.out (by omega)) (Fz.mono Sq5.out (by omega))).mono ?_
        rintro e w8 ⟨a_28, c_29, b_30, d_31, rfl, hd33, hb⟩
        rw [← eq32] at hd33 ⊢
        have Sq32 : Hid (Fz q32 14) := by show Fz q32 14; rw [eq32]; exact (Fz.sub Sq25.out Sq5.out)
        have Eq32 := Lib.hid eq32; clear eq32
        replace M := Lib.hid (And.intro hd33 (Goes.go M.out hb))
        clear hb hd33
        (try go_wp2_with fail)
        refine hK.out _ _ (⟨(M.out.2.2.1).at.1 0, (M.out.2.2.1).at.1 1, (M.out.2.2.1).at.1 2, (M.out.2.2.1).at.1 3⟩) (fun hH34 => ?_)
        clear hK K hH27
        (try simp only [Act.put, List.setIfInBounds_toArray, List.set_cons_zero, List.set_cons_succ])
        refine tk at4 ?_
        refine tk at5 ?_
        refine tk at6 ?_
        refine wpAnyH_ready (rs := [7]) (by kernel_rfl) (by simp) ?_
        refine AllReadyH.cons at7 (fun K hK => ?_) AllReadyH.nil
        go_simp
        obtain ⟨w9, hv⟩ : ∃ x, x = (w8.alloc (.cells #[.int .i64 0, .slice none 0 0, .int .i64 0, .slice none 0 0] 34)) := ⟨_, rfl⟩
        rw [← hv]
        have o3 : w4.heap.size < w8.heap.size := ((M.out.2.2.1)).lt
        replace M := Lib.hid (And.intro (hv ▸ bx1 w8 34 #[.int .i64 0, .slice none 0 0, .int .i64 0, .slice none 0 0]) (Goes.go M.out (hv ▸ below_alloc _ _ : Below w8.heap.size w8 w9)))
        clear hv
        refine hK.out _ _ (⟨(M.out.2.2.2.1).at.1 0, (M.out.2.2.2.1).at.1 1, (M.out.2.2.2.1).at.1 2, (M.out.2.2.2.1).at.1 3⟩) (fun hH35 => ?_)
        clear hK K hH34
        (try simp only [Act.put, List.setIfInBounds_toArray, List.set_cons_zero, List.set_cons_succ])
        refine wpAnyH_ready (rs := [8]) (by kernel_rfl) (by simp) ?_
        refine AllReadyH.cons at8 (fun K hK => ?_) AllReadyH.nil
        obtain ⟨p3_0, q3_0, p3_1, q3_1, p3_2, q3_2, p3_3, q3_3⟩ := (M.out.1).c4
        go_simp
        clear p3_0 q3_0 p3_1 q3_1 p3_2 q3_2 p3_3 q3_3
        obtain ⟨w10, hv⟩ : ∃ x, x = ((((w9.setCell ⟨w8.heap.size, 0, none⟩ (.int .i64 (sg (nu q32)))).setCell ⟨w8.heap.size, 1, none⟩ (.slice a_28 (ln (nu q32)) c_29)).setCell ⟨w8.heap.size, 2, none⟩ (.int .i64 (sg (de q32)))).setCell ⟨w8.heap.size, 3, none⟩ (.slice b_30 (ln (de q32)) d_31)) := ⟨_, rfl⟩
        rw [← hv]
        have og : w9.grownBy w10 (some w8.heap.size) := by rw [hv]; exact (only_setCell (only_setCell (only_setCell (only_setCell (World.grownBy.refl _ _) _) _) _) _)
        have hz : w.heap.size ≤ w8.heap.size := by omega
        have hk : Bx w10 w8.heap.size 34 #[.int .i64 (sg (nu q32)), .slice a_28 (ln (nu q32)) c_29, .int .i64 (sg (de q32)), .slice b_30 (ln (de q32)) d_31] := by rw [hv]; exact (((((M.out.1).set 0 _).set 1 _).set 2 _).set 3 _)
        have hbw : Below w.heap.size w w10 := by rw [hv]; exact (Below.setCell (Below.setCell (Below.setCell (Below.setCell (M.out.2.2.2.2.2.2.2) (by omega) _) (by omega) _) (by omega) _) (by omega) _)
        replace M := Lib.hid (And.intro hk (And.intro ((M.out.2.1).far (M.out.1) (by rfl) (by omega) og) (And.intro ((M.out.2.2.1).far (M.out.1) (by rfl) (by omega) og) (And.intro ((M.out.2.2.2.1).only og (by omega)) (And.intro ((M.out.2.2.2.2.1).far (M.out.1) (by rfl) (by omega) og) (And.intro ((M.out.2.2.2.2.2.1).only og (by omega)) (And.intro ((M.out.2.2.2.2.2.2.1).only og (by omega)) hbw)))))))
        clear hk hbw og hv hz
        refine hK.out _ _ (⟨(M.out.2.2.2.1).at.1 0, (M.out.2.2.2.1).at.1 1, (M.out.2.2.2.1).at.1 2, (M.out.2.2.2.1).at.1 3⟩) (fun hH36 => ?_)
        clear hK K hH35
        (try simp only [Act.put, List.setIfInBounds_toArray, List.set_cons_zero, List.set_cons_succ])
        refine tk at9 ?_
        refine wpAnyH_done (by kernel_rfl) ?_ _
        clear hH36
        go_wp2_with fail
        go_meet
        exact ⟨w8.heap.size, a_21, c_22, b_23, d_24, q25, a_28, c_29, b_30, d_31, q32, rfl, rfl, Eq25, Eq32, Sq25, Sq32, (by omega), (M.out.1), (M.out.2.1), (M.out.2.2.1), (M.out.2.2.2.2.1), (M.out.2.2.2.2.2.2.1), (M.out.2.2.2.2.2.1), (M.out.2.2.2.1), (M.out.2.2.2.2.2.2.2)⟩
      refine AllReadyH.cons at7 (fun K hK => ?_) AllReadyH.nil
      go_simp
      obtain ⟨w8, hv⟩ : ∃ x, x = (w7.alloc (.cells #[.int .i64 0, .slice none 0 0, .int .i64 0, .slice none 0 0] 34)) := ⟨_, rfl⟩
      rw [← hv]
      have o3 : w4.heap.size < w7.heap.size := ((M.out.2.1)).lt
      replace M := Lib.hid (And.intro (hv ▸ bx1 w7 34 #[.int .i64 0, .slice none 0 0, .int .i64 0, .slice none 0 0]) (Goes.go M.out (hv ▸ below_alloc _ _ : Below w7.heap.size w7 w8)))
      clear hv
      refine hK.out _ _ (⟨(M.out.2.2.1).at.1 0, (M.out.2.2.1).at.1 1, (M.out.2.2.1).at.1 2, (M.out.2.2.1).at.1 3⟩) (fun hH37 => ?_)
      clear hK K hH27
      (try simp only [Act.put, List.setIfInBounds_toArray, List.set_cons_zero, List.set_cons_succ])
      refine wpAnyH_ready (rs := [3]) (by kernel_rfl) (by simp) ?_
      refine AllReadyH.cons at3 (fun K hK => ?_) AllReadyH.nil
      go_simp
      obtain ⟨q42, eq42⟩ : ∃ x : Rat, x = (q25 - q5) := ⟨_, rfl⟩
      refine (rfsub_ok (G := G) (q := q25) (r := q5) (M.out.2.1) (M.out.2.2.2.1) (Fz.mono Sq25.out (by omega)) (Fz.mono Sq5.out (by omega))).mono ?_
      rintro e w9 ⟨a_38, c_39, b_40, d_41, rfl, hd43, hb⟩
      rw [← eq42] at hd43 ⊢
      have Sq42 : Hid (Fz q42 14) := by show Fz q42 14; rw [eq42]; exact (Fz.sub Sq25.out Sq5.out)
      have Eq42 := Lib.hid eq42; clear eq42
      replace M := Lib.hid (And.intro hd43 (Goes.go M.out hb))
      clear hb hd43
      (try go_wp2_with fail)
      refine hK.out _ _ (⟨(M.out.2.2.2.1).at.1 0, (M.out.2.2.2.1).at.1 1, (M.out.2.2.2.1).at.1 2, (M.out.2.2.2.1).at.1 3⟩) (fun hH44 => ?_)
      clear hK K hH37
      (try simp only [Act.put, List.setIfInBounds_toArray, List.set_cons_zero, List.set_cons_succ])
      refine tk at4 ?_
      refine tk at5 ?_
      refine tk at6 ?_
      refine wpAnyH_ready (rs := [8]) (by kernel_rfl) (by simp) ?_
      refine AllReadyH.cons at8 (fun K hK => ?_) AllReadyH.nil
      obtain ⟨p3_0, q3_0, p3_1, q3_1, p3_2, q3_2, p3_3, q3_3⟩ := (M.out.2.1).c4
      go_simp
      clear p3_0 q3_0 p3_1 q3_1 p3_2 q3_2 p3_3 q3_3
      obtain ⟨w10, hv⟩ : ∃ x, x = ((((w9.setCell ⟨w7.heap.size, 0, none⟩ (.int .i64 (sg (nu q42)))).setCell ⟨w7.heap.size, 1, none⟩ (.slice a_38 (ln (nu q42)) c_39)).setCell ⟨w7.heap.size, 2, none⟩ (.int .i64 (sg (de q42)))).setCell ⟨w7.heap.size, 3, none⟩ (.slice b_40 (ln (de q42)) d_41)) := ⟨_, rfl⟩
      rw [← hv]
      have og : w9.grownBy w10 (some w7.heap.size) := by rw [hv]; exact (only_setCell (only_setCell (only_setCell (only_setCell (World.grownBy.refl _ _) _) _) _) _)
      have hz : w.heap.size ≤ w7.heap.size := by omega
      have hk : Bx w10 w7.heap.size 34 #[.int .i64 (sg (nu q42)), .slice a_38 (ln (nu q42)) c_39, .int .i64 (sg (de q42)), .slice b_40 (ln (de q42)) d_41] := by rw [hv]; exact (((((M.out.2.1).set 0 _).set 1 _).set 2 _).set 3 _)
      have hbw : Below w.heap.size w w10 := by rw [hv]; exact (Below.setCell (Below.setCell (Below.setCell (Below.setCell (M.out.2.2.2.2.2.2.2) (by omega) _) (by omega) _) (by omega) _) (by omega) _)
      replace M := Lib.hid (And.intro ((M.out.1).far (M.out.2.1) (by rfl) (by omega) og) (And.intro hk (And.intro ((M.out.2.2.1).far (M.out.2.1) (by rfl) (by omega) og) (And.intro ((M.out.2.2.2.1).only og (by omega)) (And.intro ((M.out.2.2.2.2.1).far (M.out.2.1) (by rfl) (by omega) og) (And.intro ((M.out.2.2.2.2.2.1).only og (by omega)) (And.intro ((M.out.2.2.2.2.2.2.1).only og (by omega)) hbw)))))))
      clear hk hbw og hv hz
      refine hK.out _ _ (⟨(M.out.2.2.2.1).at.1 0, (M.out.2.2.2.1).at.1 1, (M.out.2.2.2.1).at.1 2, (M.out.2.2.2.1).at.1 3⟩) (fun hH45 => ?_)
      clear hK K hH44
      (try simp only [Act.put, List.setIfInBounds_toArray, List.set_cons_zero, List.set_cons_succ])
      refine tk at9 ?_
      refine wpAnyH_done (by kernel_rfl) ?_ _
      clear hH45
      go_wp2_with fail
      go_meet
      exact ⟨w7.heap.size, a_21, c_22, b_23, d_24, q25, a_38, c_39, b_40, d_41, q42, rfl, rfl, Eq25, Eq42, Sq25, Sq42, (by omega), (M.out.2.1), (M.out.1), (M.out.2.2.1), (M.out.2.2.2.2.1), (M.out.2.2.2.2.2.2.1), (M.out.2.2.2.2.2.1), (M.out.2.2.2.1), (M.out.2.2.2.2.2.2.2)⟩
    refine AllReadyH.cons at7 (fun K hK => ?_) AllReadyH.nil
    go_simp
    obtain ⟨w7, hv⟩ : ∃ x, x = (w6.alloc (.cells #[.int .i64 0, .slice none 0 0, .int .i64 0, .slice none 0 0] 34)) := ⟨_, rfl⟩
    rw [← hv]
    have o3 : w4.heap.size < w6.heap.size := ((M.out.1)).lt
    replace M := Lib.hid (And.intro (hv ▸ bx1 w6 34 #[.int .i64 0, .slice none 0 0, .int .i64 0, .slice none 0 0]) (Goes.go M.out (hv ▸ below_alloc _ _ : Below w6.heap.size w6 w7)))
    clear hv
    refine hK.out _ _ (⟨(M.out.2.1).at.1 0, (M.out.2.1).at.1 1, (M.out.2.1).at.1 2, (M.out.2.1).at.1 3⟩) (fun hH46 => ?_)
    clear hK K hH20
    (try simp only [Act.put, List.setIfInBounds_toArray, List.set_cons_zero, List.set_cons_succ])
    refine wpAnyH_ready (rs := [1]) (by kernel_rfl) (by simp) ?_
    refine AllReadyH.cons at1 (fun K hK => ?_) AllReadyH.nil
    go_simp
    obtain ⟨q51, eq51⟩ : ∃ x : Rat, x = (rd : Rat) := ⟨_, rfl⟩
    refine (rfint_ok (G := G) rd _ (by omega)).mono ?_
    rintro e w8 ⟨a_47, c_48, b_49, d_50, rfl, hd52, hb⟩
    rw [← eq51] at hd52 ⊢
    have Sq51 : Hid (Fz q51 4) := by show Fz q51 4; rw [eq51]; exact (Fz.int64 (by omega))
    have Eq51 := Lib.hid eq51; clear eq51
    replace M := Lib.hid (And.intro hd52 (Goes.go M.out hb))
    clear hb hd52
    (try go_wp2_with fail)
    refine hK.out _ _ (⟨(M.out.2.2.1).at.1 0, (M.out.2.2.1).at.1 1, (M.out.2.2.1).at.1 2, (M.out.2.2.1).at.1 3⟩) (fun hH53 => ?_)
    clear hK K hH46
    (try simp only [Act.put, List.setIfInBounds_toArray, List.set_cons_zero, List.set_cons_succ])
    refine wpAnyH_ready (rs := [3]) (by kernel_rfl) (by simp) ?_
    refine AllReadyH.cons at3 (fun K hK => ?_) AllReadyH.nil
    go_simp
    obtain ⟨q58, eq58⟩ : ∃ x : Rat, x = (q51 - q5) := ⟨_, rfl⟩
    refine (rfsub_ok (G := G) (q := q51) (r := q5) (M.out.1) (M.out.2.2.2.1) (Fz.mono Sq51.out (by omega)) (Fz.mono Sq5.out (by omega))).mono ?_
    rintro e w9 ⟨a_54, c_55, b_56, d_57, rfl, hd59, hb⟩
    rw [← eq58] at hd59 ⊢
    have Sq58 : Hid (Fz q58 14) := by show Fz q58 14; rw [eq58]; exact (Fz.sub Sq51.out Sq5.out)
    have Eq58 := Lib.hid eq58; clear eq58
    replace M := Lib.hid (And.intro hd59 (Goes.go M.out hb))
    clear hb hd59
    (try go_wp2_with fail)
    refine hK.out _ _ (⟨(M.out.2.2.2.1).at.1 0, (M.out.2.2.2.1).at.1 1, (M.out.2.2.2.1).at.1 2, (M.out.2.2.2.1).at.1 3⟩) (fun hH60 => ?_)
    clear hK K hH53
    (try simp only [Act.put, List.setIfInBounds_toArray, List.set_cons_zero, List.set_cons_succ])
    refine tk at4 ?_
    refine tk at5 ?_
    refine tk at6 ?_
    refine wpAnyH_ready (rs := [8]) (by kernel_rfl) (by simp) ?_
    refine AllReadyH.cons at8 (fun K hK => ?_) AllReadyH.nil
    obtain ⟨p3_0, q3_0, p3_1, q3_1, p3_2, q3_2, p3_3, q3_3⟩ := (M.out.2.2.1).c4
    go_simp
    clear p3_0 q3_0 p3_1 q3_1 p3_2 q3_2 p3_3 q3_3
    obtain ⟨w10, hv⟩ : ∃ x, x = ((((w9.setCell ⟨w6.heap.size, 0, none⟩ (.int .i64 (sg (nu q58)))).setCell ⟨w6.heap.size, 1, none⟩ (.slice a_54 (ln (nu q58)) c_55)).setCell ⟨w6.heap.size, 2, none⟩ (.int .i64 (sg (de q58)))).setCell ⟨w6.heap.size, 3, none⟩ (.slice b_56 (ln (de q58)) d_57)) := ⟨_, rfl⟩
    rw [← hv]
    have og : w9.grownBy w10 (some w6.heap.size) := by rw [hv]; exact (only_setCell (only_setCell (only_setCell (only_setCell (World.grownBy.refl _ _) _) _) _) _)
    have hz : w.heap.size ≤ w6.heap.size := by omega
    have hk : Bx w10 w6.heap.size 34 #[.int .i64 (sg (nu q58)), .slice a_54 (ln (nu q58)) c_55, .int .i64 (sg (de q58)), .slice b_56 (ln (de q58)) d_57] := by rw [hv]; exact (((((M.out.2.2.1).set 0 _).set 1 _).set 2 _).set 3 _)
    have hbw : Below w.heap.size w w10 := by rw [hv]; exact (Below.setCell (Below.setCell (Below.setCell (Below.setCell (M.out.2.2.2.2.2.2.2) (by omega) _) (by omega) _) (by omega) _) (by omega) _)
    replace M := Lib.hid (And.intro ((M.out.1).far (M.out.2.2.1) (by rfl) (by omega) og) (And.intro ((M.out.2.1).far (M.out.2.2.1) (by rfl) (by omega) og) (And.intro hk (And.intro ((M.out.2.2.2.1).only og (by omega)) (And.intro ((M.out.2.2.2.2.1).far (M.out.2.2.1) (by rfl) (by omega) og) (And.intro ((M.out.2.2.2.2.2.1).only og (by omega)) (And.intro ((M.out.2.2.2.2.2.2.1).only og (by omega)) hbw)))))))
    clear hk hbw og hv hz
    refine hK.out _ _ (⟨(M.out.2.2.2.1).at.1 0, (M.out.2.2.2.1).at.1 1, (M.out.2.2.2.1).at.1 2, (M.out.2.2.2.1).at.1 3⟩) (fun hH61 => ?_)
    clear hK K hH60
    (try simp only [Act.put, List.setIfInBounds_toArray, List.set_cons_zero, List.set_cons_succ])
    refine tk at9 ?_
    refine wpAnyH_done (by kernel_rfl) ?_ _
    clear hH61
    go_wp2_with fail
    go_meet
    exact ⟨w6.heap.size, a_47, c_48, b_49, d_50, q51, a_54, c_55, b_56, d_57, q58, rfl, rfl, Eq51, Eq58, Sq51, Sq58, (by omega), (M.out.2.2.1), (M.out.1), (M.out.2.1), (M.out.2.2.2.2.1), (M.out.2.2.2.2.2.2.1), (M.out.2.2.2.2.2.1), (M.out.2.2.2.1), (M.out.2.2.2.2.2.2.2)⟩
  case rest =>
    obtain ⟨A19, a_7, c_8, b_9, d_10, q11, a_13, c_14, b_15, d_16, q17, rfl, rfl, Eq11, Eq17, Sq11, Sq17, oA19, M⟩ := hcut
    obtain ⟨w6, rfl⟩ : ∃ x, x = wc := ⟨_, rfl⟩
    go_upto_region 6 with fail
    go_cut [19, 20] (fun s19 s20 wx => ∃ (A74 : Nat), ∃ (a_62 : Option Addr), ∃ (c_63 : Nat), ∃ (b_64 : Option Addr), ∃ (d_65 : Nat), ∃ (q66 : Rat), ∃ (a_68 : Option Addr), ∃ (c_69 : Nat), ∃ (b_70 : Option Addr), ∃ (d_71 : Nat), ∃ (q72 : Rat), s19 = .pointer (some ⟨A74, 0, none⟩) ∧ s20 = .int .i64 0 ∧ Hid (q66 = (rd : Rat)) ∧ Hid (q72 = (q66 + q5)) ∧ Hid (Fz q66 4) ∧ Hid (Fz q72 14) ∧ A19 < A74 ∧ Hid (Bx wx A74 34 #[.int .i64 (sg (nu q72)), .slice a_68 (ln (nu q72)) c_69, .int .i64 (sg (de q72)), .slice b_70 (ln (de q72)) d_71] ∧ FD G wx a_68 c_69 b_70 d_71 q72 ∧ FD G wx a_62 c_63 b_64 d_65 q66 ∧ FD G wx a_13 c_14 b_15 d_16 q17 ∧ FD G wx a_7 c_8 b_9 d_10 q11 ∧ FD G wx a_1 c_2 b_3 d_4 q5 ∧ Bx wx w.heap.size 34 #[.int .i64 0, .slice none 0 0, .int .i64 0, .slice none 0 0] ∧ Bx wx (w.heap.size + 1) 34 #[.int .i64 0, .slice none 0 0, .int .i64 0, .slice none 0 0] ∧ Bx wx w4.heap.size 34 #[.int .i64 (sg (nu q5)), .slice a_1 (ln (nu q5)) c_2, .int .i64 (sg (de q5)), .slice b_3 (ln (de q5)) d_4] ∧ Bx wx A19 34 #[.int .i64 (sg (nu q17)), .slice a_13 (ln (nu q17)) c_14, .int .i64 (sg (de q17)), .slice b_15 (ln (de q17)) d_16] ∧ Below w.heap.size w wx))
    case first =>
      obtain ⟨w7, hv⟩ : ∃ x, x = w6.drew := ⟨_, rfl⟩
      replace M := Lib.hid (Goes.go M.out (hv ▸ below_drew _ : Below w6.heap.size w6 w7))
      refine wp_region_held_drew (S := (fun w' => w'.cell? ⟨w4.heap.size, 0, none⟩ = some (.int .i64 (sg (nu q5))) ∧ w'.cell? ⟨w4.heap.size, 1, none⟩ = some (.slice a_1 (ln (nu q5)) c_2) ∧ w'.cell? ⟨w4.heap.size, 2, none⟩ = some (.int .i64 (sg (de q5))) ∧ w'.cell? ⟨w4.heap.size, 3, none⟩ = some (.slice b_3 (ln (de q5)) d_4))) (by kernel_rfl) (by rw [← hv]; exact ⟨(M.out.2.2.2.2.2.2.1).at.1 0, (M.out.2.2.2.2.2.2.1).at.1 1, (M.out.2.2.2.2.2.2.1).at.1 2, (M.out.2.2.2.2.2.2.1).at.1 3⟩) (fun hH75 => ?_)
      rw [← hv] at hH75 ⊢
      clear hv
      refine tk at0 ?_
      refine tk at2 ?_
      refine wpAnyH_ready (rs := [1, 7]) (by kernel_rfl) (by simp) ?_
      refine AllReadyH.cons at1 (fun K hK => ?_) ?_
      ·
        go_simp
        obtain ⟨q80, eq80⟩ : ∃ x : Rat, x = (rd : Rat) := ⟨_, rfl⟩
        refine (rfint_ok (G := G) rd _ (by omega)).mono ?_
        rintro e w8 ⟨a_76, c_77, b_78, d_79, rfl, hd81, hb⟩
        rw [← eq80] at hd81 ⊢
        have Sq80 : Hid (Fz q80 4) := by show Fz q80 4; rw [eq80]; exact (Fz.int64 (by omega))
        have Eq80 := Lib.hid eq80; clear eq80
        replace M := Lib.hid (And.intro hd81 (Goes.go M.out hb))
        clear hb hd81
        (try go_wp2_with fail)
        refine hK.out _ _ (⟨(M.out.2.2.2.2.2.2.2.1).at.1 0, (M.out.2.2.2.2.2.2.2.1).at.1 1, (M.out.2.2.2.2.2.2.2.1).at.1 2, (M.out.2.2.2.2.2.2.2.1).at.1 3⟩) (fun hH82 => ?_)
        clear hK K hH75
        (try simp only [Act.put, List.setIfInBounds_toArray, List.set_cons_zero, List.set_cons_succ])
        refine wpAnyH_ready (rs := [3, 7]) (by kernel_rfl) (by simp) ?_
        refine AllReadyH.cons at3 (fun K hK => ?_) ?_
        ·
          go_simp
          obtain ⟨q87, eq87⟩ : ∃ x : Rat, x = (q80 + q5) := ⟨_, rfl⟩
          refine (rfadd_ok (G := G) (q := q80) (r := q5) (M.out.1) (M.out.2.2.2.2.1) (Fz.mono Sq80.out (by omega)) (Fz.mono Sq5.out (by omega))).mono ?_
          rintro e w9 ⟨a_83, c_84, b_85, d_86, rfl, hd88, hb⟩
          rw [← eq87] at hd88 ⊢
          have Sq87 : Hid (Fz q87 14) := by show Fz q87 14; rw [eq87]; exact (Fz.add Sq80.out Sq5.out)
          have Eq87 := Lib.hid eq87; clear eq87
          replace M := Lib.hid (And.intro hd88 (Goes.go M.out hb))
          clear hb hd88
          (try go_wp2_with fail)
          refine hK.out _ _ (⟨(M.out.2.2.2.2.2.2.2.2.1).at.1 0, (M.out.2.2.2.2.2.2.2.2.1).at.1 1, (M.out.2.2.2.2.2.2.2.2.1).at.1 2, (M.out.2.2.2.2.2.2.2.2.1).at.1 3⟩) (fun hH89 => ?_)
          clear hK K hH82
          (try simp only [Act.put, List.setIfInBounds_toArray, List.set_cons_zero, List.set_cons_succ])
          refine tk at4 ?_
          refine tk at5 ?_
          refine tk at6 ?_
          refine wpAnyH_ready (rs := [7]) (by kernel_rfl) (by simp) ?_
          refine AllReadyH.cons at7 (fun K hK => ?_) AllReadyH.nil
          go_simp
          obtain ⟨w10, hv⟩ : ∃ x, x = (w9.alloc (.cells #[.int .i64 0, .slice none 0 0, .int .i64 0, .slice none 0 0] 34)) := ⟨_, rfl⟩
          rw [← hv]
          have o4 : A19 < w9.heap.size := ((M.out.2.2.1)).lt
          replace M := Lib.hid (And.intro (hv ▸ bx1 w9 34 #[.int .i64 0, .slice none 0 0, .int .i64 0, .slice none 0 0]) (Goes.go M.out (hv ▸ below_alloc _ _ : Below w9.heap.size w9 w10)))
          clear hv
          refine hK.out _ _ (⟨(M.out.2.2.2.2.2.2.2.2.2.1).at.1 0, (M.out.2.2.2.2.2.2.2.2.2.1).at.1 1, (M.out.2.2.2.2.2.2.2.2.2.1).at.1 2, (M.out.2.2.2.2.2.2.2.2.2.1).at.1 3⟩) (fun hH90 => ?_)
          clear hK K hH89
          (try simp only [Act.put, List.setIfInBounds_toArray, List.set_cons_zero, List.set_cons_succ])
          refine wpAnyH_ready (rs := [8]) (by kernel_rfl) (by simp) ?_
          refine AllReadyH.cons at8 (fun K hK => ?_) AllReadyH.nil
          obtain ⟨p4_0, q4_0, p4_1, q4_1, p4_2, q4_2, p4_3, q4_3⟩ := (M.out.1).c4
          go_simp
          clear p4_0 q4_0 p4_1 q4_1 p4_2 q4_2 p4_3 q4_3
          obtain ⟨w11, hv⟩ : ∃ x, x = ((((w10.setCell ⟨w9.heap.size, 0, none⟩ (.int .i64 (sg (nu q87)))).setCell ⟨w9.heap.size, 1, none⟩ (.slice a_83 (ln (nu q87)) c_84)).setCell ⟨w9.heap.size, 2, none⟩ (.int .i64 (sg (de q87)))).setCell ⟨w9.heap.size, 3, none⟩ (.slice b_85 (ln (de q87)) d_86)) := ⟨_, rfl⟩
          rw [← hv]
          have og : w10.grownBy w11 (some w9.heap.size) := by rw [hv]; exact (only_setCell (only_setCell (only_setCell (only_setCell (World.grownBy.refl _ _) _) _) _) _)
          have hz : w.heap.size ≤ w9.heap.size := by omega
          have hk : Bx w11 w9.heap.size 34 #[.int .i64 (sg (nu q87)), .slice a_83 (ln (nu q87)) c_84, .int .i64 (sg (de q87)), .slice b_85 (ln (de q87)) d_86] := by rw [hv]; exact (((((M.out.1).set 0 _).set 1 _).set 2 _).set 3 _)
          have hbw : Below w.heap.size w w11 := by rw [hv]; exact (Below.setCell (Below.setCell (Below.setCell (Below.setCell (M.out.2.2.2.2.2.2.2.2.2.2) (by omega) _) (by omega) _) (by omega) _) (by omega) _)
          replace M := Lib.hid (And.intro hk (And.intro ((M.out.2.1).far (M.out.1) (by rfl) (by omega) og) (And.intro ((M.out.2.2.1).far (M.out.1) (by rfl) (by omega) og) (And.intro ((M.out.2.2.2.1).only og (by omega)) (And.intro ((M.out.2.2.2.2.1).far (M.out.1) (by rfl) (by omega) og) (And.intro ((M.out.2.2.2.2.2.1).far (M.out.1) (by rfl) (by omega) og) (And.intro ((M.out.2.2.2.2.2.2.1).far (M.out.1) (by rfl) (by omega) og) (And.intro ((M.out.2.2.2.2.2.2.2.1).only og (by omega)) (And.intro ((M.out.2.2.2.2.2.2.2.2.1).only og (by omega)) (And.intro ((M.out.2.2.2.2.2.2.2.2.2.1).only og (by omega)) hbw))))))))))
          clear hk hbw og hv hz
          refine hK.out _ _ (⟨(M.out.2.2.2.2.2.2.2.2.2.1).at.1 0, (M.out.2.2.2.2.2.2.2.2.2.1).at.1 1, (M.out.2.2.2.2.2.2.2.2.2.1).at.1 2, (M.out.2.2.2.2.2.2.2.2.2.1).at.1 3⟩) (fun hH91 => ?_)
          clear hK K hH90
          (try simp only [Act.put, List.setIfInBounds_toArray, List.set_cons_zero, List.set_cons_succ])
          refine tk at9 ?_
          refine wpAnyH_done (by kernel_rfl) ?_ _
          clear hH91
          go_wp2_with fail
          go_meet
          exact ⟨w9.heap.size, a_76, c_77, b_78, d_79, q80, a_83, c_84, b_85, d_86, q87, rfl, rfl, Eq80, Eq87, Sq80, Sq87, (by omega), (M.out.1), (M.out.2.1), (M.out.2.2.1), (M.out.2.2.2.2.1), (M.out.2.2.2.2.2.1), (M.out.2.2.2.2.2.2.1), (M.out.2.2.2.2.2.2.2.1), (M.out.2.2.2.2.2.2.2.2.1), (M.out.2.2.2.2.2.2.2.2.2.1), (M.out.2.2.2.1), (M.out.2.2.2.2.2.2.2.2.2.2)⟩
        refine AllReadyH.cons at7 (fun K hK => ?_) AllReadyH.nil
        go_simp
        obtain ⟨w9, hv⟩ : ∃ x, x = (w8.alloc (.cells #[.int .i64 0, .slice none 0 0, .int .i64 0, .slice none 0 0] 34)) := ⟨_, rfl⟩
        rw [← hv]
        have o4 : A19 < w8.heap.size := ((M.out.2.1)).lt
        replace M := Lib.hid (And.intro (hv ▸ bx1 w8 34 #[.int .i64 0, .slice none 0 0, .int .i64 0, .slice none 0 0]) (Goes.go M.out (hv ▸ below_alloc _ _ : Below w8.heap.size w8 w9)))
        clear hv
        refine hK.out _ _ (⟨(M.out.2.2.2.2.2.2.2.2.1).at.1 0, (M.out.2.2.2.2.2.2.2.2.1).at.1 1, (M.out.2.2.2.2.2.2.2.2.1).at.1 2, (M.out.2.2.2.2.2.2.2.2.1).at.1 3⟩) (fun hH92 => ?_)
        clear hK K hH82
        (try simp only [Act.put, List.setIfInBounds_toArray, List.set_cons_zero, List.set_cons_succ])
        refine wpAnyH_ready (rs := [3]) (by kernel_rfl) (by simp) ?_
        refine AllReadyH.cons at3 (fun K hK => ?_) AllReadyH.nil
        go_simp
        obtain ⟨q97, eq97⟩ : ∃ x : Rat, x = (q80 + q5) := ⟨_, rfl⟩
        refine (rfadd_ok (G := G) (q := q80) (r := q5) (M.out.2.1) (M.out.2.2.2.2.2.1) (Fz.mono Sq80.out (by omega)) (Fz.mono Sq5.out (by omega))).mono ?_
        rintro e w10 ⟨a_93, c_94, b_95, d_96, rfl, hd98, hb⟩
        rw [← eq97] at hd98 ⊢
        have Sq97 : Hid (Fz q97 14) := by show Fz q97 14; rw [eq97]; exact (Fz.add Sq80.out Sq5.out)
        have Eq97 := Lib.hid eq97; clear eq97
        replace M := Lib.hid (And.intro hd98 (Goes.go M.out hb))
        clear hb hd98
        (try go_wp2_with fail)
        refine hK.out _ _ (⟨(M.out.2.2.2.2.2.2.2.2.2.1).at.1 0, (M.out.2.2.2.2.2.2.2.2.2.1).at.1 1, (M.out.2.2.2.2.2.2.2.2.2.1).at.1 2, (M.out.2.2.2.2.2.2.2.2.2.1).at.1 3⟩) (fun hH99 => ?_)
        clear hK K hH92
        (try simp only [Act.put, List.setIfInBounds_toArray, List.set_cons_zero, List.set_cons_succ])
        refine tk at4 ?_
        refine tk at5 ?_
        refine tk at6 ?_
        refine wpAnyH_ready (rs := [8]) (by kernel_rfl) (by simp) ?_
        refine AllReadyH.cons at8 (fun K hK => ?_) AllReadyH.nil
        obtain ⟨p4_0, q4_0, p4_1, q4_1, p4_2, q4_2, p4_3, q4_3⟩ := (M.out.2.1).c4
        go_simp
        clear p4_0 q4_0 p4_1 q4_1 p4_2 q4_2 p4_3 q4_3
        obtain ⟨w11, hv⟩ : ∃ x, x = ((((w10.setCell ⟨w8.heap.size, 0, none⟩ (.int .i64 (sg (nu q97)))).setCell ⟨w8.heap.size, 1, none⟩ (.slice a_93 (ln (nu q97)) c_94)).setCell ⟨w8.heap.size, 2, none⟩ (.int .i64 (sg (de q97)))).setCell ⟨w8.heap.size, 3, none⟩ (.slice b_95 (ln (de q97)) d_96)) := ⟨_, rfl⟩
        rw [← hv]
        have og : w10.grownBy w11 (some w8.heap.size) := by rw [hv]; exact (only_setCell (only_setCell (only_setCell (only_setCell (World.grownBy.refl _ _) _) _) _) _)
        have hz : w.heap.size ≤ w8.heap.size := by omega
        have hk : Bx w11 w8.heap.size 34 #[.int .i64 (sg (nu q97)), .slice a_93 (ln (nu q97)) c_94, .int .i64 (sg (de q97)), .slice b_95 (ln (de q97)) d_96] := by rw [hv]; exact (((((M.out.2.1).set 0 _).set 1 _).set 2 _).set 3 _)
        have hbw : Below w.heap.size w w11 := by rw [hv]; exact (Below.setCell (Below.setCell (Below.setCell (Below.setCell (M.out.2.2.2.2.2.2.2.2.2.2) (by omega) _) (by omega) _) (by omega) _) (by omega) _)
        replace M := Lib.hid (And.intro ((M.out.1).far (M.out.2.1) (by rfl) (by omega) og) (And.intro hk (And.intro ((M.out.2.2.1).far (M.out.2.1) (by rfl) (by omega) og) (And.intro ((M.out.2.2.2.1).only og (by omega)) (And.intro ((M.out.2.2.2.2.1).far (M.out.2.1) (by rfl) (by omega) og) (And.intro ((M.out.2.2.2.2.2.1).far (M.out.2.1) (by rfl) (by omega) og) (And.intro ((M.out.2.2.2.2.2.2.1).far (M.out.2.1) (by rfl) (by omega) og) (And.intro ((M.out.2.2.2.2.2.2.2.1).only og (by omega)) (And.intro ((M.out.2.2.2.2.2.2.2.2.1).only og (by omega)) (And.intro ((M.out.2.2.2.2.2.2.2.2.2.1).only og (by omega)) hbw))))))))))
        clear hk hbw og hv hz
        refine hK.out _ _ (⟨(M.out.2.2.2.2.2.2.2.2.2.1).at.1 0, (M.out.2.2.2.2.2.2.2.2.2.1).at.1 1, (M.out.2.2.2.2.2.2.2.2.2.1).at.1 2, (M.out.2.2.2.2.2.2.2.2.2.1).at.1 3⟩) (fun hH100 => ?_)
        clear hK K hH99
        (try simp only [Act.put, List.setIfInBounds_toArray, List.set_cons_zero, List.set_cons_succ])
        refine tk at9 ?_
        refine wpAnyH_done (by kernel_rfl) ?_ _
        clear hH100
        go_wp2_with fail
        go_meet
        exact ⟨w8.heap.size, a_76, c_77, b_78, d_79, q80, a_93, c_94, b_95, d_96, q97, rfl, rfl, Eq80, Eq97, Sq80, Sq97, (by omega), (M.out.2.1), (M.out.1), (M.out.2.2.1), (M.out.2.2.2.2.1), (M.out.2.2.2.2.2.1), (M.out.2.2.2.2.2.2.1), (M.out.2.2.2.2.2.2.2.1), (M.out.2.2.2.2.2.2.2.2.1), (M.out.2.2.2.2.2.2.2.2.2.1), (M.out.2.2.2.1), (M.out.2.2.2.2.2.2.2.2.2.2)⟩
      refine AllReadyH.cons at7 (fun K hK => ?_) AllReadyH.nil
      go_simp
      obtain ⟨w8, hv⟩ : ∃ x, x = (w7.alloc (.cells #[.int .i64 0, .slice none 0 0, .int .i64 0, .slice none 0 0] 34)) := ⟨_, rfl⟩
      rw [← hv]
      have o4 : A19 < w7.heap.size := ((M.out.1)).lt
      replace M := Lib.hid (And.intro (hv ▸ bx1 w7 34 #[.int .i64 0, .slice none 0 0, .int .i64 0, .slice none 0 0]) (Goes.go M.out (hv ▸ below_alloc _ _ : Below w7.heap.size w7 w8)))
      clear hv
      refine hK.out _ _ (⟨(M.out.2.2.2.2.2.2.2.1).at.1 0, (M.out.2.2.2.2.2.2.2.1).at.1 1, (M.out.2.2.2.2.2.2.2.1).at.1 2, (M.out.2.2.2.2.2.2.2.1).at.1 3⟩) (fun hH101 => ?_)
      clear hK K hH75
      (try simp only [Act.put, List.setIfInBounds_toArray, List.set_cons_zero, List.set_cons_succ])
      refine wpAnyH_ready (rs := [1]) (by kernel_rfl) (by simp) ?_
      refine AllReadyH.cons at1 (fun K hK => ?_) AllReadyH.nil
      go_simp
      obtain ⟨q106, eq106⟩ : ∃ x : Rat, x = (rd : Rat) := ⟨_, rfl⟩
      refine (rfint_ok (G := G) rd _ (by omega)).mono ?_
      rintro e w9 ⟨a_102, c_103, b_104, d_105, rfl, hd107, hb⟩
      rw [← eq106] at hd107 ⊢
      have Sq106 : Hid (Fz q106 4) := by show Fz q106 4; rw [eq106]; exact (Fz.int64 (by omega))
      have Eq106 := Lib.hid eq106; clear eq106
      replace M := Lib.hid (And.intro hd107 (Goes.go M.out hb))
      clear hb hd107
      (try go_wp2_with fail)
      refine hK.out _ _ (⟨(M.out.2.2.2.2.2.2.2.2.1).at.1 0, (M.out.2.2.2.2.2.2.2.2.1).at.1 1, (M.out.2.2.2.2.2.2.2.2.1).at.1 2, (M.out.2.2.2.2.2.2.2.2.1).at.1 3⟩) (fun hH108 => ?_)
      clear hK K hH101
      (try simp only [Act.put, List.setIfInBounds_toArray, List.set_cons_zero, List.set_cons_succ])
      refine wpAnyH_ready (rs := [3]) (by kernel_rfl) (by simp) ?_
      refine AllReadyH.cons at3 (fun K hK => ?_) AllReadyH.nil
      go_simp
      obtain ⟨q113, eq113⟩ : ∃ x : Rat, x = (q106 + q5) := ⟨_, rfl⟩
      refine (rfadd_ok (G := G) (q := q106) (r := q5) (M.out.1) (M.out.2.2.2.2.2.1) (Fz.mono Sq106.out (by omega)) (Fz.mono Sq5.out (by omega))).mono ?_
      rintro e w10 ⟨a_109, c_110, b_111, d_112, rfl, hd114, hb⟩
      rw [← eq113] at hd114 ⊢
      have Sq113 : Hid (Fz q113 14) := by show Fz q113 14; rw [eq113]; exact (Fz.add Sq106.out Sq5.out)
      have Eq113 := Lib.hid eq113; clear eq113
      replace M := Lib.hid (And.intro hd114 (Goes.go M.out hb))
      clear hb hd114
      (try go_wp2_with fail)
      refine hK.out _ _ (⟨(M.out.2.2.2.2.2.2.2.2.2.1).at.1 0, (M.out.2.2.2.2.2.2.2.2.2.1).at.1 1, (M.out.2.2.2.2.2.2.2.2.2.1).at.1 2, (M.out.2.2.2.2.2.2.2.2.2.1).at.1 3⟩) (fun hH115 => ?_)
      clear hK K hH108
      (try simp only [Act.put, List.setIfInBounds_toArray, List.set_cons_zero, List.set_cons_succ])
      refine tk at4 ?_
      refine tk at5 ?_
      refine tk at6 ?_
      refine wpAnyH_ready (rs := [8]) (by kernel_rfl) (by simp) ?_
      refine AllReadyH.cons at8 (fun K hK => ?_) AllReadyH.nil
      obtain ⟨p4_0, q4_0, p4_1, q4_1, p4_2, q4_2, p4_3, q4_3⟩ := (M.out.2.2.1).c4
      go_simp
      clear p4_0 q4_0 p4_1 q4_1 p4_2 q4_2 p4_3 q4_3
      obtain ⟨w11, hv⟩ : ∃ x, x = ((((w10.setCell ⟨w7.heap.size, 0, none⟩ (.int .i64 (sg (nu q113)))).setCell ⟨w7.heap.size, 1, none⟩ (.slice a_109 (ln (nu q113)) c_110)).setCell ⟨w7.heap.size, 2, none⟩ (.int .i64 (sg (de q113)))).setCell ⟨w7.heap.size, 3, none⟩ (.slice b_111 (ln (de q113)) d_112)) := ⟨_, rfl⟩
      rw [← hv]
      have og : w10.grownBy w11 (some w7.heap.size) := by rw [hv]; exact (only_setCell (only_setCell (only_setCell (only_setCell (World.grownBy.refl _ _) _) _) _) _)
      have hz : w.heap.size ≤ w7.heap.size := by omega
      have hk : Bx w11 w7.heap.size 34 #[.int .i64 (sg (nu q113)), .slice a_109 (ln (nu q113)) c_110, .int .i64 (sg (de q113)), .slice b_111 (ln (de q113)) d_112] := by rw [hv]; exact (((((M.out.2.2.1).set 0 _).set 1 _).set 2 _).set 3 _)
      have hbw : Below w.heap.size w w11 := by rw [hv]; exact (Below.setCell (Below.setCell (Below.setCell (Below.setCell (M.out.2.2.2.2.2.2.2.2.2.2) (by omega) _) (by omega) _) (by omega) _) (by omega) _)
      replace M := Lib.hid (And.intro ((M.out.1).far (M.out.2.2.1) (by rfl) (by omega) og) (And.intro ((M.out.2.1).far (M.out.2.2.1) (by rfl) (by omega) og) (And.intro hk (And.intro ((M.out.2.2.2.1).only og (by omega)) (And.intro ((M.out.2.2.2.2.1).far (M.out.2.2.1) (by rfl) (by omega) og) (And.intro ((M.out.2.2.2.2.2.1).far (M.out.2.2.1) (by rfl) (by omega) og) (And.intro ((M.out.2.2.2.2.2.2.1).far (M.out.2.2.1) (by rfl) (by omega) og) (And.intro ((M.out.2.2.2.2.2.2.2.1).only og (by omega)) (And.intro ((M.out.2.2.2.2.2.2.2.2.1).only og (by omega)) (And.intro ((M.out.2.2.2.2.2.2.2.2.2.1).only og (by omega)) hbw))))))))))
      clear hk hbw og hv hz
      refine hK.out _ _ (⟨(M.out.2.2.2.2.2.2.2.2.2.1).at.1 0, (M.out.2.2.2.2.2.2.2.2.2.1).at.1 1, (M.out.2.2.2.2.2.2.2.2.2.1).at.1 2, (M.out.2.2.2.2.2.2.2.2.2.1).at.1 3⟩) (fun hH116 => ?_)
      clear hK K hH115
      (try simp only [Act.put, List.setIfInBounds_toArray, List.set_cons_zero, List.set_cons_succ])
      refine tk at9 ?_
      refine wpAnyH_done (by kernel_rfl) ?_ _
      clear hH116
      go_wp2_with fail
      go_meet
      exact ⟨w7.heap.size, a_102, c_103, b_104, d_105, q106, a_109, c_110, b_111, d_112, q113, rfl, rfl, Eq106, Eq113, Sq106, Sq113, (by omega), (M.out.2.2.1), (M.out.1), (M.out.2.1), (M.out.2.2.2.2.1), (M.out.2.2.2.2.2.1), (M.out.2.2.2.2.2.2.1), (M.out.2.2.2.2.2.2.2.1), (M.out.2.2.2.2.2.2.2.2.1), (M.out.2.2.2.2.2.2.2.2.2.1), (M.out.2.2.2.1), (M.out.2.2.2.2.2.2.2.2.2.2)⟩
    case rest =>
      obtain ⟨A74, a_62, c_63, b_64, d_65, q66, a_68, c_69, b_70, d_71, q72, rfl, rfl, Eq66, Eq72, Sq66, Sq72, oA74, M⟩ := hcut
      obtain ⟨w7, rfl⟩ : ∃ x, x = wc := ⟨_, rfl⟩
      obtain ⟨p3_0, q3_0, p3_1, q3_1, p3_2, q3_2, p3_3, q3_3⟩ := (M.out.2.2.2.2.2.2.2.2.2.1).c4
      go_wp2_with fail
      clear p3_0 q3_0 p3_1 q3_1 p3_2 q3_2 p3_3 q3_3
      refine (rfsign_ok (G := G) (q := q17) (M.out.2.2.2.1) (Fz.mono Sq17.out (by omega))).mono ?_
      rintro e w8 ⟨rfl, hb⟩
      have hnq17 : sg (nu q17) < 0 := by have h := HN.out; rw [Eq17.out, Eq11.out, Eq5.out]; exact h
      replace M := Lib.hid (Goes.go M.out hb)
      clear hb
      go_wp2_with fail
      obtain ⟨q121, eq121⟩ : ∃ x : Rat, x = ((0 : Int) : Rat) := ⟨_, rfl⟩
      refine (rfint_ok (G := G) 0 _ (by omega)).mono ?_
      rintro e w9 ⟨a_117, c_118, b_119, d_120, rfl, hd122, hb⟩
      rw [← eq121] at hd122 ⊢
      have Sq121 : Hid (Fz q121 4) := by show Fz q121 4; rw [eq121]; exact (Fz.int64 (by omega))
      have Eq121 := Lib.hid eq121; clear eq121
      replace M := Lib.hid (And.intro hd122 (Goes.go M.out hb))
      clear hb hd122
      obtain ⟨p3_0, q3_0, p3_1, q3_1, p3_2, q3_2, p3_3, q3_3⟩ := (M.out.2.2.2.2.2.2.2.2.2.2.1).c4
      go_wp2_with fail
      clear p3_0 q3_0 p3_1 q3_1 p3_2 q3_2 p3_3 q3_3
      obtain ⟨w10, hv⟩ : ∃ x, x = ((((w9.setCell ⟨A19, 0, none⟩ (.int .i64 (sg (nu q121)))).setCell ⟨A19, 1, none⟩ (.slice a_117 (ln (nu q121)) c_118)).setCell ⟨A19, 2, none⟩ (.int .i64 (sg (de q121)))).setCell ⟨A19, 3, none⟩ (.slice b_119 (ln (de q121)) d_120)) := ⟨_, rfl⟩
      rw [← hv]
      have og : w9.grownBy w10 (some A19) := by rw [hv]; exact (only_setCell (only_setCell (only_setCell (only_setCell (World.grownBy.refl _ _) _) _) _) _)
      have hz : w.heap.size ≤ A19 := by omega
      have hk : Bx w10 A19 34 #[.int .i64 (sg (nu q121)), .slice a_117 (ln (nu q121)) c_118, .int .i64 (sg (de q121)), .slice b_119 (ln (de q121)) d_120] := by rw [hv]; exact (((((M.out.2.2.2.2.2.2.2.2.2.2.1).set 0 _).set 1 _).set 2 _).set 3 _)
      have hbw : Below w.heap.size w w10 := by rw [hv]; exact (Below.setCell (Below.setCell (Below.setCell (Below.setCell (M.out.2.2.2.2.2.2.2.2.2.2.2) (by omega) _) (by omega) _) (by omega) _) (by omega) _)
      replace M := Lib.hid (And.intro ((M.out.1).far (M.out.2.2.2.2.2.2.2.2.2.2.1) (by rfl) (by omega) og) (And.intro ((M.out.2.1).only og (by omega)) (And.intro ((M.out.2.2.1).far (M.out.2.2.2.2.2.2.2.2.2.2.1) (by rfl) (by omega) og) (And.intro ((M.out.2.2.2.1).far (M.out.2.2.2.2.2.2.2.2.2.2.1) (by rfl) (by omega) og) (And.intro ((M.out.2.2.2.2.1).far (M.out.2.2.2.2.2.2.2.2.2.2.1) (by rfl) (by omega) og) (And.intro ((M.out.2.2.2.2.2.1).far (M.out.2.2.2.2.2.2.2.2.2.2.1) (by rfl) (by omega) og) (And.intro ((M.out.2.2.2.2.2.2.1).far (M.out.2.2.2.2.2.2.2.2.2.2.1) (by rfl) (by omega) og) (And.intro ((M.out.2.2.2.2.2.2.2.1).only og (by omega)) (And.intro ((M.out.2.2.2.2.2.2.2.2.1).only og (by omega)) (And.intro ((M.out.2.2.2.2.2.2.2.2.2.1).only og (by omega)) (And.intro hk hbw)))))))))))
      clear hk hbw og hv hz
      obtain ⟨w11, hv⟩ : ∃ x, x = w10.drew := ⟨_, rfl⟩
      replace M := Lib.hid (Goes.go M.out (hv ▸ below_drew _ : Below w10.heap.size w10 w11))
      refine wp_region_held_drew (S := (fun w' => w'.cell? ⟨A19, 0, none⟩ = some (.int .i64 (sg (nu q121))) ∧ w'.cell? ⟨A19, 1, none⟩ = some (.slice a_117 (ln (nu q121)) c_118) ∧ w'.cell? ⟨A19, 2, none⟩ = some (.int .i64 (sg (de q121))) ∧ w'.cell? ⟨A19, 3, none⟩ = some (.slice b_119 (ln (de q121)) d_120) ∧ w'.cell? ⟨A74, 0, none⟩ = some (.int .i64 (sg (nu q72))) ∧ w'.cell? ⟨A74, 1, none⟩ = some (.slice a_68 (ln (nu q72)) c_69) ∧ w'.cell? ⟨A74, 2, none⟩ = some (.int .i64 (sg (de q72))) ∧ w'.cell? ⟨A74, 3, none⟩ = some (.slice b_70 (ln (de q72)) d_71))) (by kernel_rfl) (by rw [← hv]; exact ⟨(M.out.2.2.2.2.2.2.2.2.2.2.1).at.1 0, (M.out.2.2.2.2.2.2.2.2.2.2.1).at.1 1, (M.out.2.2.2.2.2.2.2.2.2.2.1).at.1 2, (M.out.2.2.2.2.2.2.2.2.2.2.1).at.1 3, (M.out.2.1).at.1 0, (M.out.2.1).at.1 1, (M.out.2.1).at.1 2, (M.out.2.1).at.1 3⟩) (fun hH123 => ?_)
      rw [← hv] at hH123 ⊢
      clear hv
      refine tk at0 ?_
      refine tk at1 ?_
      refine wpAnyH_ready (rs := [2]) (by kernel_rfl) (by simp) ?_
      refine AllReadyH.cons at2 (fun K hK => ?_) AllReadyH.nil
      obtain ⟨p0_0, q0_0, p0_1, q0_1, p0_2, q0_2, p0_3, q0_3⟩ := (M.out.2.2.2.2.2.2.2.1).c4
      go_simp
      clear p0_0 q0_0 p0_1 q0_1 p0_2 q0_2 p0_3 q0_3
      obtain ⟨w12, hv⟩ : ∃ x, x = ((((w11.setCell ⟨w.heap.size, 0, none⟩ (.int .i64 (sg (nu q121)))).setCell ⟨w.heap.size, 1, none⟩ (.slice a_117 (ln (nu q121)) c_118)).setCell ⟨w.heap.size, 2, none⟩ (.int .i64 (sg (de q121)))).setCell ⟨w.heap.size, 3, none⟩ (.slice b_119 (ln (de q121)) d_120)) := ⟨_, rfl⟩
      rw [← hv]
      have og : w11.grownBy w12 (some w.heap.size) := by rw [hv]; exact (only_setCell (only_setCell (only_setCell (only_setCell (World.grownBy.refl _ _) _) _) _) _)
      have hz : w.heap.size ≤ w.heap.size := by exact Nat.le_refl _
      have hk : Bx w12 w.heap.size 34 #[.int .i64 (sg (nu q121)), .slice a_117 (ln (nu q121)) c_118, .int .i64 (sg (de q121)), .slice b_119 (ln (de q121)) d_120] := by rw [hv]; exact (((((M.out.2.2.2.2.2.2.2.1).set 0 _).set 1 _).set 2 _).set 3 _)
      have hbw : Below w.heap.size w w12 := by rw [hv]; exact (Below.setCell (Below.setCell (Below.setCell (Below.setCell (M.out.2.2.2.2.2.2.2.2.2.2.2) (by omega) _) (by omega) _) (by omega) _) (by omega) _)
      replace M := Lib.hid (And.intro ((M.out.1).far (M.out.2.2.2.2.2.2.2.1) (by rfl) (by omega) og) (And.intro ((M.out.2.1).only og (by omega)) (And.intro ((M.out.2.2.1).far (M.out.2.2.2.2.2.2.2.1) (by rfl) (by omega) og) (And.intro ((M.out.2.2.2.1).far (M.out.2.2.2.2.2.2.2.1) (by rfl) (by omega) og) (And.intro ((M.out.2.2.2.2.1).far (M.out.2.2.2.2.2.2.2.1) (by rfl) (by omega) og) (And.intro ((M.out.2.2.2.2.2.1).far (M.out.2.2.2.2.2.2.2.1) (by rfl) (by omega) og) (And.intro ((M.out.2.2.2.2.2.2.1).far (M.out.2.2.2.2.2.2.2.1) (by rfl) (by omega) og) (And.intro hk (And.intro ((M.out.2.2.2.2.2.2.2.2.1).only og (by omega)) (And.intro ((M.out.2.2.2.2.2.2.2.2.2.1).only og (by omega)) (And.intro ((M.out.2.2.2.2.2.2.2.2.2.2.1).only og (by omega)) hbw)))))))))))
      clear hk hbw og hv hz
      refine hK.out _ _ (⟨(M.out.2.2.2.2.2.2.2.2.2.2.1).at.1 0, (M.out.2.2.2.2.2.2.2.2.2.2.1).at.1 1, (M.out.2.2.2.2.2.2.2.2.2.2.1).at.1 2, (M.out.2.2.2.2.2.2.2.2.2.2.1).at.1 3, (M.out.2.1).at.1 0, (M.out.2.1).at.1 1, (M.out.2.1).at.1 2, (M.out.2.1).at.1 3⟩) (fun hH124 => ?_)
      clear hK K hH123
      (try simp only [Act.put, List.setIfInBounds_toArray, List.set_cons_zero, List.set_cons_succ])
      refine wpAnyH_ready (rs := [3]) (by kernel_rfl) (by simp) ?_
      refine AllReadyH.cons at3 (fun K hK => ?_) AllReadyH.nil
      obtain ⟨p1_0, q1_0, p1_1, q1_1, p1_2, q1_2, p1_3, q1_3⟩ := (M.out.2.2.2.2.2.2.2.2.1).c4
      go_simp
      clear p1_0 q1_0 p1_1 q1_1 p1_2 q1_2 p1_3 q1_3
      obtain ⟨w13, hv⟩ : ∃ x, x = ((((w12.setCell ⟨w.heap.size + 1, 0, none⟩ (.int .i64 (sg (nu q72)))).setCell ⟨w.heap.size + 1, 1, none⟩ (.slice a_68 (ln (nu q72)) c_69)).setCell ⟨w.heap.size + 1, 2, none⟩ (.int .i64 (sg (de q72)))).setCell ⟨w.heap.size + 1, 3, none⟩ (.slice b_70 (ln (de q72)) d_71)) := ⟨_, rfl⟩
      rw [← hv]
      have og : w12.grownBy w13 (some (w.heap.size + 1)) := by rw [hv]; exact (only_setCell (only_setCell (only_setCell (only_setCell (World.grownBy.refl _ _) _) _) _) _)
      have hz : w.heap.size ≤ w.heap.size + 1 := by omega
      have hk : Bx w13 (w.heap.size + 1) 34 #[.int .i64 (sg (nu q72)), .slice a_68 (ln (nu q72)) c_69, .int .i64 (sg (de q72)), .slice b_70 (ln (de q72)) d_71] := by rw [hv]; exact (((((M.out.2.2.2.2.2.2.2.2.1).set 0 _).set 1 _).set 2 _).set 3 _)
      have hbw : Below w.heap.size w w13 := by rw [hv]; exact (Below.setCell (Below.setCell (Below.setCell (Below.setCell (M.out.2.2.2.2.2.2.2.2.2.2.2) (by omega) _) (by omega) _) (by omega) _) (by omega) _)
      replace M := Lib.hid (And.intro ((M.out.1).far (M.out.2.2.2.2.2.2.2.2.1) (by rfl) (by omega) og) (And.intro ((M.out.2.1).only og (by omega)) (And.intro ((M.out.2.2.1).far (M.out.2.2.2.2.2.2.2.2.1) (by rfl) (by omega) og) (And.intro ((M.out.2.2.2.1).far (M.out.2.2.2.2.2.2.2.2.1) (by rfl) (by omega) og) (And.intro ((M.out.2.2.2.2.1).far (M.out.2.2.2.2.2.2.2.2.1) (by rfl) (by omega) og) (And.intro ((M.out.2.2.2.2.2.1).far (M.out.2.2.2.2.2.2.2.2.1) (by rfl) (by omega) og) (And.intro ((M.out.2.2.2.2.2.2.1).far (M.out.2.2.2.2.2.2.2.2.1) (by rfl) (by omega) og) (And.intro ((M.out.2.2.2.2.2.2.2.1).only og (by omega)) (And.intro hk (And.intro ((M.out.2.2.2.2.2.2.2.2.2.1).only og (by omega)) (And.intro ((M.out.2.2.2.2.2.2.2.2.2.2.1).only og (by omega)) hbw)))))))))))
      clear hk hbw og hv hz
      refine hK.out _ _ (⟨(M.out.2.2.2.2.2.2.2.2.2.2.1).at.1 0, (M.out.2.2.2.2.2.2.2.2.2.2.1).at.1 1, (M.out.2.2.2.2.2.2.2.2.2.2.1).at.1 2, (M.out.2.2.2.2.2.2.2.2.2.2.1).at.1 3, (M.out.2.1).at.1 0, (M.out.2.1).at.1 1, (M.out.2.1).at.1 2, (M.out.2.1).at.1 3⟩) (fun hH125 => ?_)
      clear hK K hH124
      (try simp only [Act.put, List.setIfInBounds_toArray, List.set_cons_zero, List.set_cons_succ])
      refine tk at4 ?_
      refine wpAnyH_done (by kernel_rfl) ?_ _
      clear hH125
      go_wp2_with fail
      have HN2 : sg (nu ((rd : Rat) - errQ ⟨s, f, u, n, p, d⟩ rd day)) < 0 := HN.out
      have HL : loQ (errQ ⟨s, f, u, n, p, d⟩ rd day) rd = q121 := by rw [Eq121.out]; exact lo_neg HN2
      have HH : hiQ (errQ ⟨s, f, u, n, p, d⟩ rd day) rd = q72 := by rw [Eq72.out, Eq66.out, Eq5.out]; rfl
      rw [HL, HH]
      refine bodyPost_ret (results_box2t rfl _ _ w.heap.size (w.heap.size + 1) 34 34 _ _ _ _ _ _ rfl (M.out.2.2.2.2.2.2.2.1) Try.underlying34 rfl (by kernel_rfl) rfl (M.out.2.2.2.2.2.2.2.2.1) Try.underlying34 rfl (by kernel_rfl)) rfl ?_
      exact ⟨_, _, _, _, _, _, _, _, rfl, (M.out.1), (M.out.2.2.1), (M.out.2.2.2.2.2.2.2.2.2.2.2)⟩

set_option maxHeartbeats 4000000 in
theorem rcInterval_pos {cs : List Ct} {rs : List Rc} {sc rd day : Int} {a1 a2 : Option Addr} {cap1 cap2 : Nat} {w : World} (h1 : CtIn w (.slice a1 cs.length cap1) cs) (h2 : RcIn w (.slice a2 rs.length cap2) rs) (hn1 : cs.length ≤ 1099511627776) (hn2 : rs.length ≤ 1099511627776) {ct : Ct} {g : Nat} {hgl : g < cs.length} (hct : ct = cs[g]) (hf : findC cs sc day = some g) (hr : recalledB rs sc day = false) (hi : inR rd 0 1099511627776 = true) (hG : G ≤ w.heap.size) (hng : sg (nu ((rd : Rat) - errQ ct rd day)) ≥ 0) :
    Calls Try.prog 15 #[.slice a1 cs.length cap1, .slice a2 rs.length cap2, .int .i64 sc, .int .i64 rd, .int .i64 day] w fun e w' => ∃ a c b d a' c' b' d', e = .returned (.tuple #[.agg #[.int .i64 (sg (nu (loQ (errQ ct rd day) rd))), .slice a (ln (nu (loQ (errQ ct rd day) rd))) c, .int .i64 (sg (de (loQ (errQ ct rd day) rd))), .slice b (ln (de (loQ (errQ ct rd day) rd))) d], .agg #[.int .i64 (sg (nu (hiQ (errQ ct rd day) rd))), .slice a' (ln (nu (hiQ (errQ ct rd day) rd))) c', .int .i64 (sg (de (hiQ (errQ ct rd day) rd))), .slice b' (ln (de (hiQ (errQ ct rd day) rd))) d'], .bool true]) ∧ FD G w' a c b d (loQ (errQ ct rd day) rd) ∧ FD G w' a' c' b' d' (hiQ (errQ ct rd day) rd) ∧ Below w.heap.size w w' := by
  obtain ⟨hgl, -, hc⟩ := findC_is hf
  obtain ⟨b, off, rfl, hb, hcell⟩ := h1.at hgl
  obtain ⟨s, f, u, n, p, d⟩ := ct
  rw [← hct] at hc hcell
  have hI2 : (g : Int) < (cs.length : Int) := by omega
  have HC := Lib.hid hc
  have HF := Lib.hid hf
  have HR := Lib.hid hr
  have HI := Lib.hid hi
  have HN := Lib.hid hng
  clear hf hr hi hc hct hng
  have hbi := in_bounds HI.out
  have H1 : Hid (CtIn w (.slice (some ⟨b, off, none⟩) cs.length cap1) cs) := h1
  have H2 : Hid (RcIn w (.slice a2 rs.length cap2) rs) := h2
  have HROW : Hid (Row w b (off + g * 6) [.int .i64 s, .int .i64 f, .int .i64 u, .int .i64 n, .int .i64 p, .int .i64 d]) := ⟨hb, hcell⟩
  clear h1 h2 hcell
  have M : Hid (Below w.heap.size w w) := Below.refl _ _
  go_enter Try.func15, Try.ntmps15
  go_upto_region 1 with fail
  obtain ⟨w1, hv⟩ : ∃ x, x = ((w.alloc (.cells #[.int .i64 0, .slice none 0 0, .int .i64 0, .slice none 0 0] 34)).alloc (.cells #[.int .i64 0, .slice none 0 0, .int .i64 0, .slice none 0 0] 34)) := ⟨_, rfl⟩
  rw [← hv]
  have hbx := bx2 w 34 34 #[.int .i64 0, .slice none 0 0, .int .i64 0, .slice none 0 0] #[.int .i64 0, .slice none 0 0, .int .i64 0, .slice none 0 0]
  rw [← hv] at hbx
  have hbn : Below w.heap.size w w1 := by rw [hv]; exact (Below.alloc (Below.alloc (Below.refl _ _) (by simp) _) (by simp) _)
  replace M := Lib.hid (And.intro hbx.2 (And.intro hbx.1 (Goes.go M.out hbn)))
  clear hbx hbn
  clear hv
  go_wp2_with fail
  refine (rcFind_some (sc := sc) (day := day) (H1.out.keep (M.out.2.2)) (by omega) HF.out).mono ?_
  rintro e w2 ⟨rfl, hb⟩
  replace M := Lib.hid (Goes.go M.out hb)
  clear hb
  go_wp2_with fail
  refine (rcRec_is (sc := sc) (day := day) (b := false) (H2.out.keep (M.out.2.2)) (by omega) HR.out).mono ?_
  rintro e w3 ⟨rfl, hb⟩
  replace M := Lib.hid (Goes.go M.out hb)
  clear hb
  go_wp2_with fail
  refine (in_is (n := rd) (lo := 0) (hi := 1099511627776) (b := true) HI.out _).mono ?_
  rintro e _ ⟨rfl, rfl⟩
  obtain ⟨r0_0, r0_1, r0_2, r0_3, r0_4, r0_5⟩ := (HROW.out.keep (M.out.2.2)).c6
  go_wp2_with fail
  clear r0_0 r0_1 r0_2 r0_3 r0_4 r0_5
  obtain ⟨q5, eq5⟩ : ∃ x : Rat, x = (errQ ⟨s, f, u, n, p, d⟩ rd day) := ⟨_, rfl⟩
  refine (rcError_yes (G := G) (s := s) (f := f) (u := u) (n := n) (p := p) (d := d) (rd := rd) (day := day) (Nat.le_trans hG (M.out.2.2).size) HC.out HI.out).mono ?_
  rintro e w4 ⟨a_1, c_2, b_3, d_4, rfl, hd6, hb⟩
  rw [← eq5] at hd6 ⊢
  have Sq5 : Hid (Fz q5 9) := by show Fz q5 9; rw [eq5]; exact (errQ_size HC.out HI.out)
  have Eq5 := Lib.hid eq5; clear eq5
  replace M := Lib.hid (And.intro hd6 (Goes.go M.out hb))
  clear hb hd6
  go_upto_region 5 with fail
  obtain ⟨w5, hv⟩ : ∃ x, x = (w4.alloc (.cells #[.int .i64 (sg (nu q5)), .slice a_1 (ln (nu q5)) c_2, .int .i64 (sg (de q5)), .slice b_3 (ln (de q5)) d_4] 34)) := ⟨_, rfl⟩
  rw [← hv]
  have o2 : w.heap.size + 1 < w4.heap.size := ((M.out.2.1)).lt
  replace M := Lib.hid (And.intro (hv ▸ bx1 w4 34 #[.int .i64 (sg (nu q5)), .slice a_1 (ln (nu q5)) c_2, .int .i64 (sg (de q5)), .slice b_3 (ln (de q5)) d_4]) (Goes.go M.out (hv ▸ below_alloc _ _ : Below w4.heap.size w4 w5)))
  clear hv
  go_cut [17, 18] (fun s17 s18 wx => ∃ (A19 : Nat), ∃ (a_7 : Option Addr), ∃ (c_8 : Nat), ∃ (b_9 : Option Addr), ∃ (d_10 : Nat), ∃ (q11 : Rat), ∃ (a_13 : Option Addr), ∃ (c_14 : Nat), ∃ (b_15 : Option Addr), ∃ (d_16 : Nat), ∃ (q17 : Rat), s17 = .pointer (some ⟨A19, 0, none⟩) ∧ s18 = .int .i64 0 ∧ Hid (q11 = (rd : Rat)) ∧ Hid (q17 = (q11 - q5)) ∧ Hid (Fz q11 4) ∧ Hid (Fz q17 14) ∧ w4.heap.size < A19 ∧ Hid (Bx wx A19 34 #[.int .i64 (sg (nu q17)), .slice a_13 (ln (nu q17)) c_14, .int .i64 (sg (de q17)), .slice b_15 (ln (de q17)) d_16] ∧ FD G wx a_13 c_14 b_15 d_16 q17 ∧ FD G wx a_7 c_8 b_9 d_10 q11 ∧ FD G wx a_1 c_2 b_3 d_4 q5 ∧ Bx wx w.heap.size 34 #[.int .i64 0, .slice none 0 0, .int .i64 0, .slice none 0 0] ∧ Bx wx (w.heap.size + 1) 34 #[.int .i64 0, .slice none 0 0, .int .i64 0, .slice none 0 0] ∧ Bx wx w4.heap.size 34 #[.int .i64 (sg (nu q5)), .slice a_1 (ln (nu q5)) c_2, .int .i64 (sg (de q5)), .slice b_3 (ln (de q5)) d_4] ∧ Below w.heap.size w wx))
  case first =>
    obtain ⟨w6, hv⟩ : ∃ x, x = w5.drew := ⟨_, rfl⟩
    replace M := Lib.hid (Goes.go M.out (hv ▸ below_drew _ : Below w5.heap.size w5 w6))
    refine wp_region_held_drew (S := (fun w' => w'.cell? ⟨w4.heap.size, 0, none⟩ = some (.int .i64 (sg (nu q5))) ∧ w'.cell? ⟨w4.heap.size, 1, none⟩ = some (.slice a_1 (ln (nu q5)) c_2) ∧ w'.cell? ⟨w4.heap.size, 2, none⟩ = some (.int .i64 (sg (de q5))) ∧ w'.cell? ⟨w4.heap.size, 3, none⟩ = some (.slice b_3 (ln (de q5)) d_4))) (by kernel_rfl) (by rw [← hv]; exact ⟨(M.out.1).at.1 0, (M.out.1).at.1 1, (M.out.1).at.1 2, (M.out.1).at.1 3⟩) (fun hH20 => ?_)
    rw [← hv] at hH20 ⊢
    clear hv
    refine tk at0 ?_
    refine tk at2 ?_
    refine wpAnyH_ready (rs := [1, 7]) (by kernel_rfl) (by simp) ?_
    refine AllReadyH.cons at1 (fun K hK => ?_) ?_
    ·
      go_simp
      obtain ⟨q25, eq25⟩ : ∃ x : Rat, x = (rd : Rat) := ⟨_, rfl⟩
      refine (rfint_ok (G := G) rd _ (by omega)).mono ?_
      rintro e w7 ⟨a_21, c_22, b_23, d_24, rfl, hd26, hb⟩
      rw [← eq25] at hd26 ⊢
      have Sq25 : Hid (Fz q25 4) := by show Fz q25 4; rw [eq25]; exact (Fz.int64 (by omega))
      have Eq25 := Lib.hid eq25; clear eq25
      replace M := Lib.hid (And.intro hd26 (Goes.go M.out hb))
      clear hb hd26
      (try go_wp2_with fail)
      refine hK.out _ _ (⟨(M.out.2.1).at.1 0, (M.out.2.1).at.1 1, (M.out.2.1).at.1 2, (M.out.2.1).at.1 3⟩) (fun hH27 => ?_)
      clear hK K hH20
      (try simp only [Act.put, List.setIfInBounds_toArray, List.set_cons_zero, List.set_cons_succ])
      refine wpAnyH_ready (rs := [3, 7]) (by kernel_rfl) (by simp) ?_
      refine AllReadyH.cons at3 (fun K hK => ?_) ?_
      ·
        go_simp
        obtain ⟨q32, eq32⟩ : ∃ x : Rat, x = (q25 - q5) := ⟨_, rfl⟩
        refine (rfsub_ok (G := G) (q := q25) (r := q5) (M.out.1) (M.out.2.2.1) (Fz.mono Sq25.out (by omega)) (Fz.mono Sq5.out (by omega))).mono ?_
        rintro e w8 ⟨a_28, c_29, b_30, d_31, rfl, hd33, hb⟩
        rw [← eq32] at hd33 ⊢
        have Sq32 : Hid (Fz q32 14) := by show Fz q32 14; rw [eq32]; exact (Fz.sub Sq25.out Sq5.out)
        have Eq32 := Lib.hid eq32; clear eq32
        replace M := Lib.hid (And.intro hd33 (Goes.go M.out hb))
        clear hb hd33
        (try go_wp2_with fail)
        refine hK.out _ _ (⟨(M.out.2.2.1).at.1 0, (M.out.2.2.1).at.1 1, (M.out.2.2.1).at.1 2, (M.out.2.2.1).at.1 3⟩) (fun hH34 => ?_)
        clear hK K hH27
        (try simp only [Act.put, List.setIfInBounds_toArray, List.set_cons_zero, List.set_cons_succ])
        refine tk at4 ?_
        refine tk at5 ?_
        refine tk at6 ?_
        refine wpAnyH_ready (rs := [7]) (by kernel_rfl) (by simp) ?_
        refine AllReadyH.cons at7 (fun K hK => ?_) AllReadyH.nil
        go_simp
        obtain ⟨w9, hv⟩ : ∃ x, x = (w8.alloc (.cells #[.int .i64 0, .slice none 0 0, .int .i64 0, .slice none 0 0] 34)) := ⟨_, rfl⟩
        rw [← hv]
        have o3 : w4.heap.size < w8.heap.size := ((M.out.2.2.1)).lt
        replace M := Lib.hid (And.intro (hv ▸ bx1 w8 34 #[.int .i64 0, .slice none 0 0, .int .i64 0, .slice none 0 0]) (Goes.go M.out (hv ▸ below_alloc _ _ : Below w8.heap.size w8 w9)))
        clear hv
        refine hK.out _ _ (⟨(M.out.2.2.2.1).at.1 0, (M.out.2.2.2.1).at.1 1, (M.out.2.2.2.1).at.1 2, (M.out.2.2.2.1).at.1 3⟩) (fun hH35 => ?_)
        clear hK K hH34
        (try simp only [Act.put, List.setIfInBounds_toArray, List.set_cons_zero, List.set_cons_succ])
        refine wpAnyH_ready (rs := [8]) (by kernel_rfl) (by simp) ?_
        refine AllReadyH.cons at8 (fun K hK => ?_) AllReadyH.nil
        obtain ⟨p3_0, q3_0, p3_1, q3_1, p3_2, q3_2, p3_3, q3_3⟩ := (M.out.1).c4
        go_simp
        clear p3_0 q3_0 p3_1 q3_1 p3_2 q3_2 p3_3 q3_3
        obtain ⟨w10, hv⟩ : ∃ x, x = ((((w9.setCell ⟨w8.heap.size, 0, none⟩ (.int .i64 (sg (nu q32)))).setCell ⟨w8.heap.size, 1, none⟩ (.slice a_28 (ln (nu q32)) c_29)).setCell ⟨w8.heap.size, 2, none⟩ (.int .i64 (sg (de q32)))).setCell ⟨w8.heap.size, 3, none⟩ (.slice b_30 (ln (de q32)) d_31)) := ⟨_, rfl⟩
        rw [← hv]
        have og : w9.grownBy w10 (some w8.heap.size) := by rw [hv]; exact (only_setCell (only_setCell (only_setCell (only_setCell (World.grownBy.refl _ _) _) _) _) _)
        have hz : w.heap.size ≤ w8.heap.size := by omega
        have hk : Bx w10 w8.heap.size 34 #[.int .i64 (sg (nu q32)), .slice a_28 (ln (nu q32)) c_29, .int .i64 (sg (de q32)), .slice b_30 (ln (de q32)) d_31] := by rw [hv]; exact (((((M.out.1).set 0 _).set 1 _).set 2 _).set 3 _)
        have hbw : Below w.heap.size w w10 := by rw [hv]; exact (Below.setCell (Below.setCell (Below.setCell (Below.setCell (M.out.2.2.2.2.2.2.2) (by omega) _) (by omega) _) (by omega) _) (by omega) _)
        replace M := Lib.hid (And.intro hk (And.intro ((M.out.2.1).far (M.out.1) (by rfl) (by omega) og) (And.intro ((M.out.2.2.1).far (M.out.1) (by rfl) (by omega) og) (And.intro ((M.out.2.2.2.1).only og (by omega)) (And.intro ((M.out.2.2.2.2.1).far (M.out.1) (by rfl) (by omega) og) (And.intro ((M.out.2.2.2.2.2.1).only og (by omega)) (And.intro ((M.out.2.2.2.2.2.2.1).only og (by omega)) hbw)))))))
        clear hk hbw og hv hz
        refine hK.out _ _ (⟨(M.out.2.2.2.1).at.1 0, (M.out.2.2.2.1).at.1 1, (M.out.2.2.2.1).at.1 2, (M.out.2.2.2.1).at.1 3⟩) (fun hH36 => ?_)
        clear hK K hH35
        (try simp only [Act.put, List.setIfInBounds_toArray, List.set_cons_zero, List.set_cons_succ])
        refine tk at9 ?_
        refine wpAnyH_done (by kernel_rfl) ?_ _
        clear hH36
        go_wp2_with fail
        go_meet
        exact ⟨w8.heap.size, a_21, c_22, b_23, d_24, q25, a_28, c_29, b_30, d_31, q32, rfl, rfl, Eq25, Eq32, Sq25, Sq32, (by omega), (M.out.1), (M.out.2.1), (M.out.2.2.1), (M.out.2.2.2.2.1), (M.out.2.2.2.2.2.2.1), (M.out.2.2.2.2.2.1), (M.out.2.2.2.1), (M.out.2.2.2.2.2.2.2)⟩
      refine AllReadyH.cons at7 (fun K hK => ?_) AllReadyH.nil
      go_simp
      obtain ⟨w8, hv⟩ : ∃ x, x = (w7.alloc (.cells #[.int .i64 0, .slice none 0 0, .int .i64 0, .slice none 0 0] 34)) := ⟨_, rfl⟩
      rw [← hv]
      have o3 : w4.heap.size < w7.heap.size := ((M.out.2.1)).lt
      replace M := Lib.hid (And.intro (hv ▸ bx1 w7 34 #[.int .i64 0, .slice none 0 0, .int .i64 0, .slice none 0 0]) (Goes.go M.out (hv ▸ below_alloc _ _ : Below w7.heap.size w7 w8)))
      clear hv
      refine hK.out _ _ (⟨(M.out.2.2.1).at.1 0, (M.out.2.2.1).at.1 1, (M.out.2.2.1).at.1 2, (M.out.2.2.1).at.1 3⟩) (fun hH37 => ?_)
      clear hK K hH27
      (try simp only [Act.put, List.setIfInBounds_toArray, List.set_cons_zero, List.set_cons_succ])
      refine wpAnyH_ready (rs := [3]) (by kernel_rfl) (by simp) ?_
      refine AllReadyH.cons at3 (fun K hK => ?_) AllReadyH.nil
      go_simp
      obtain ⟨q42, eq42⟩ : ∃ x : Rat, x = (q25 - q5) := ⟨_, rfl⟩
      refine (rfsub_ok (G := G) (q := q25) (r := q5) (M.out.2.1) (M.out.2.2.2.1) (Fz.mono Sq25.out (by omega)) (Fz.mono Sq5.out (by omega))).mono ?_
      rintro e w9 ⟨a_38, c_39, b_40, d_41, rfl, hd43, hb⟩
      rw [← eq42] at hd43 ⊢
      have Sq42 : Hid (Fz q42 14) := by show Fz q42 14; rw [eq42]; exact (Fz.sub Sq25.out Sq5.out)
      have Eq42 := Lib.hid eq42; clear eq42
      replace M := Lib.hid (And.intro hd43 (Goes.go M.out hb))
      clear hb hd43
      (try go_wp2_with fail)
      refine hK.out _ _ (⟨(M.out.2.2.2.1).at.1 0, (M.out.2.2.2.1).at.1 1, (M.out.2.2.2.1).at.1 2, (M.out.2.2.2.1).at.1 3⟩) (fun hH44 => ?_)
      clear hK K hH37
      (try simp only [Act.put, List.setIfInBounds_toArray, List.set_cons_zero, List.set_cons_succ])
      refine tk at4 ?_
      refine tk at5 ?_
      refine tk at6 ?_
      refine wpAnyH_ready (rs := [8]) (by kernel_rfl) (by simp) ?_
      refine AllReadyH.cons at8 (fun K hK => ?_) AllReadyH.nil
      obtain ⟨p3_0, q3_0, p3_1, q3_1, p3_2, q3_2, p3_3, q3_3⟩ := (M.out.2.1).c4
      go_simp
      clear p3_0 q3_0 p3_1 q3_1 p3_2 q3_2 p3_3 q3_3
      obtain ⟨w10, hv⟩ : ∃ x, x = ((((w9.setCell ⟨w7.heap.size, 0, none⟩ (.int .i64 (sg (nu q42)))).setCell ⟨w7.heap.size, 1, none⟩ (.slice a_38 (ln (nu q42)) c_39)).setCell ⟨w7.heap.size, 2, none⟩ (.int .i64 (sg (de q42)))).setCell ⟨w7.heap.size, 3, none⟩ (.slice b_40 (ln (de q42)) d_41)) := ⟨_, rfl⟩
      rw [← hv]
      have og : w9.grownBy w10 (some w7.heap.size) := by rw [hv]; exact (only_setCell (only_setCell (only_setCell (only_setCell (World.grownBy.refl _ _) _) _) _) _)
      have hz : w.heap.size ≤ w7.heap.size := by omega
      have hk : Bx w10 w7.heap.size 34 #[.int .i64 (sg (nu q42)), .slice a_38 (ln (nu q42)) c_39, .int .i64 (sg (de q42)), .slice b_40 (ln (de q42)) d_41] := by rw [hv]; exact (((((M.out.2.1).set 0 _).set 1 _).set 2 _).set 3 _)
      have hbw : Below w.heap.size w w10 := by rw [hv]; exact (Below.setCell (Below.setCell (Below.setCell (Below.setCell (M.out.2.2.2.2.2.2.2) (by omega) _) (by omega) _) (by omega) _) (by omega) _)
      replace M := Lib.hid (And.intro ((M.out.1).far (M.out.2.1) (by rfl) (by omega) og) (And.intro hk (And.intro ((M.out.2.2.1).far (M.out.2.1) (by rfl) (by omega) og) (And.intro ((M.out.2.2.2.1).only og (by omega)) (And.intro ((M.out.2.2.2.2.1).far (M.out.2.1) (by rfl) (by omega) og) (And.intro ((M.out.2.2.2.2.2.1).only og (by omega)) (And.intro ((M.out.2.2.2.2.2.2.1).only og (by omega)) hbw)))))))
      clear hk hbw og hv hz
      refine hK.out _ _ (⟨(M.out.2.2.2.1).at.1 0, (M.out.2.2.2.1).at.1 1, (M.out.2.2.2.1).at.1 2, (M.out.2.2.2.1).at.1 3⟩) (fun hH45 => ?_)
      clear hK K hH44
      (try simp only [Act.put, List.setIfInBounds_toArray, List.set_cons_zero, List.set_cons_succ])
      refine tk at9 ?_
      refine wpAnyH_done (by kernel_rfl) ?_ _
      clear hH45
      go_wp2_with fail
      go_meet
      exact ⟨w7.heap.size, a_21, c_22, b_23, d_24, q25, a_38, c_39, b_40, d_41, q42, rfl, rfl, Eq25, Eq42, Sq25, Sq42, (by omega), (M.out.2.1), (M.out.1), (M.out.2.2.1), (M.out.2.2.2.2.1), (M.out.2.2.2.2.2.2.1), (M.out.2.2.2.2.2.1), (M.out.2.2.2.1), (M.out.2.2.2.2.2.2.2)⟩
    refine AllReadyH.cons at7 (fun K hK => ?_) AllReadyH.nil
    go_simp
    obtain ⟨w7, hv⟩ : ∃ x, x = (w6.alloc (.cells #[.int .i64 0, .slice none 0 0, .int .i64 0, .slice none 0 0] 34)) := ⟨_, rfl⟩
    rw [← hv]
    have o3 : w4.heap.size < w6.heap.size := ((M.out.1)).lt
    replace M := Lib.hid (And.intro (hv ▸ bx1 w6 34 #[.int .i64 0, .slice none 0 0, .int .i64 0, .slice none 0 0]) (Goes.go M.out (hv ▸ below_alloc _ _ : Below w6.heap.size w6 w7)))
    clear hv
    refine hK.out _ _ (⟨(M.out.2.1).at.1 0, (M.out.2.1).at.1 1, (M.out.2.1).at.1 2, (M.out.2.1).at.1 3⟩) (fun hH46 => ?_)
    clear hK K hH20
    (try simp only [Act.put, List.setIfInBounds_toArray, List.set_cons_zero, List.set_cons_succ])
    refine wpAnyH_ready (rs := [1]) (by kernel_rfl) (by simp) ?_
    refine AllReadyH.cons at1 (fun K hK => ?_) AllReadyH.nil
    go_simp
    obtain ⟨q51, eq51⟩ : ∃ x : Rat, x = (rd : Rat) := ⟨_, rfl⟩
    refine (rfint_ok (G := G) rd _ (by omega)).mono ?_
    rintro e w8 ⟨a_47, c_48, b_49, d_50, rfl, hd52, hb⟩
    rw [← eq51] at hd52 ⊢
    have Sq51 : Hid (Fz q51 4) := by show Fz q51 4; rw [eq51]; exact (Fz.int64 (by omega))
    have Eq51 := Lib.hid eq51; clear eq51
    replace M := Lib.hid (And.intro hd52 (Goes.go M.out hb))
    clear hb hd52
    (try go_wp2_with fail)
    refine hK.out _ _ (⟨(M.out.2.2.1).at.1 0, (M.out.2.2.1).at.1 1, (M.out.2.2.1).at.1 2, (M.out.2.2.1).at.1 3⟩) (fun hH53 => ?_)
    clear hK K hH46
    (try simp only [Act.put, List.setIfInBounds_toArray, List.set_cons_zero, List.set_cons_succ])
    refine wpAnyH_ready (rs := [3]) (by kernel_rfl) (by simp) ?_
    refine AllReadyH.cons at3 (fun K hK => ?_) AllReadyH.nil
    go_simp
    obtain ⟨q58, eq58⟩ : ∃ x : Rat, x = (q51 - q5) := ⟨_, rfl⟩
    refine (rfsub_ok (G := G) (q := q51) (r := q5) (M.out.1) (M.out.2.2.2.1) (Fz.mono Sq51.out (by omega)) (Fz.mono Sq5.out (by omega))).mono ?_
    rintro e w9 ⟨a_54, c_55, b_56, d_57, rfl, hd59, hb⟩
    rw [← eq58] at hd59 ⊢
    have Sq58 : Hid (Fz q58 14) := by show Fz q58 14; rw [eq58]; exact (Fz.sub Sq51.out Sq5.out)
    have Eq58 := Lib.hid eq58; clear eq58
    replace M := Lib.hid (And.intro hd59 (Goes.go M.out hb))
    clear hb hd59
    (try go_wp2_with fail)
    refine hK.out _ _ (⟨(M.out.2.2.2.1).at.1 0, (M.out.2.2.2.1).at.1 1, (M.out.2.2.2.1).at.1 2, (M.out.2.2.2.1).at.1 3⟩) (fun hH60 => ?_)
    clear hK K hH53
    (try simp only [Act.put, List.setIfInBounds_toArray, List.set_cons_zero, List.set_cons_succ])
    refine tk at4 ?_
    refine tk at5 ?_
    refine tk at6 ?_
    refine wpAnyH_ready (rs := [8]) (by kernel_rfl) (by simp) ?_
    refine AllReadyH.cons at8 (fun K hK => ?_) AllReadyH.nil
    obtain ⟨p3_0, q3_0, p3_1, q3_1, p3_2, q3_2, p3_3, q3_3⟩ := (M.out.2.2.1).c4
    go_simp
    clear p3_0 q3_0 p3_1 q3_1 p3_2 q3_2 p3_3 q3_3
    obtain ⟨w10, hv⟩ : ∃ x, x = ((((w9.setCell ⟨w6.heap.size, 0, none⟩ (.int .i64 (sg (nu q58)))).setCell ⟨w6.heap.size, 1, none⟩ (.slice a_54 (ln (nu q58)) c_55)).setCell ⟨w6.heap.size, 2, none⟩ (.int .i64 (sg (de q58)))).setCell ⟨w6.heap.size, 3, none⟩ (.slice b_56 (ln (de q58)) d_57)) := ⟨_, rfl⟩
    rw [← hv]
    have og : w9.grownBy w10 (some w6.heap.size) := by rw [hv]; exact (only_setCell (only_setCell (only_setCell (only_setCell (World.grownBy.refl _ _) _) _) _) _)
    have hz : w.heap.size ≤ w6.heap.size := by omega
    have hk : Bx w10 w6.heap.size 34 #[.int .i64 (sg (nu q58)), .slice a_54 (ln (nu q58)) c_55, .int .i64 (sg (de q58)), .slice b_56 (ln (de q58)) d_57] := by rw [hv]; exact (((((M.out.2.2.1).set 0 _).set 1 _).set 2 _).set 3 _)
    have hbw : Below w.heap.size w w10 := by rw [hv]; exact (Below.setCell (Below.setCell (Below.setCell (Below.setCell (M.out.2.2.2.2.2.2.2) (by omega) _) (by omega) _) (by omega) _) (by omega) _)
    replace M := Lib.hid (And.intro ((M.out.1).far (M.out.2.2.1) (by rfl) (by omega) og) (And.intro ((M.out.2.1).far (M.out.2.2.1) (by rfl) (by omega) og) (And.intro hk (And.intro ((M.out.2.2.2.1).only og (by omega)) (And.intro ((M.out.2.2.2.2.1).far (M.out.2.2.1) (by rfl) (by omega) og) (And.intro ((M.out.2.2.2.2.2.1).only og (by omega)) (And.intro ((M.out.2.2.2.2.2.2.1).only og (by omega)) hbw)))))))
    clear hk hbw og hv hz
    refine hK.out _ _ (⟨(M.out.2.2.2.1).at.1 0, (M.out.2.2.2.1).at.1 1, (M.out.2.2.2.1).at.1 2, (M.out.2.2.2.1).at.1 3⟩) (fun hH61 => ?_)
    clear hK K hH60
    (try simp only [Act.put, List.setIfInBounds_toArray, List.set_cons_zero, List.set_cons_succ])
    refine tk at9 ?_
    refine wpAnyH_done (by kernel_rfl) ?_ _
    clear hH61
    go_wp2_with fail
    go_meet
    exact ⟨w6.heap.size, a_47, c_48, b_49, d_50, q51, a_54, c_55, b_56, d_57, q58, rfl, rfl, Eq51, Eq58, Sq51, Sq58, (by omega), (M.out.2.2.1), (M.out.1), (M.out.2.1), (M.out.2.2.2.2.1), (M.out.2.2.2.2.2.2.1), (M.out.2.2.2.2.2.1), (M.out.2.2.2.1), (M.out.2.2.2.2.2.2.2)⟩
  case rest =>
    obtain ⟨A19, a_7, c_8, b_9, d_10, q11, a_13, c_14, b_15, d_16, q17, rfl, rfl, Eq11, Eq17, Sq11, Sq17, oA19, M⟩ := hcut
    obtain ⟨w6, rfl⟩ : ∃ x, x = wc := ⟨_, rfl⟩
    go_upto_region 6 with fail
    go_cut [19, 20] (fun s19 s20 wx => ∃ (A74 : Nat), ∃ (a_62 : Option Addr), ∃ (c_63 : Nat), ∃ (b_64 : Option Addr), ∃ (d_65 : Nat), ∃ (q66 : Rat), ∃ (a_68 : Option Addr), ∃ (c_69 : Nat), ∃ (b_70 : Option Addr), ∃ (d_71 : Nat), ∃ (q72 : Rat), s19 = .pointer (some ⟨A74, 0, none⟩) ∧ s20 = .int .i64 0 ∧ Hid (q66 = (rd : Rat)) ∧ Hid (q72 = (q66 + q5)) ∧ Hid (Fz q66 4) ∧ Hid (Fz q72 14) ∧ A19 < A74 ∧ Hid (Bx wx A74 34 #[.int .i64 (sg (nu q72)), .slice a_68 (ln (nu q72)) c_69, .int .i64 (sg (de q72)), .slice b_70 (ln (de q72)) d_71] ∧ FD G wx a_68 c_69 b_70 d_71 q72 ∧ FD G wx a_62 c_63 b_64 d_65 q66 ∧ FD G wx a_13 c_14 b_15 d_16 q17 ∧ FD G wx a_7 c_8 b_9 d_10 q11 ∧ FD G wx a_1 c_2 b_3 d_4 q5 ∧ Bx wx w.heap.size 34 #[.int .i64 0, .slice none 0 0, .int .i64 0, .slice none 0 0] ∧ Bx wx (w.heap.size + 1) 34 #[.int .i64 0, .slice none 0 0, .int .i64 0, .slice none 0 0] ∧ Bx wx w4.heap.size 34 #[.int .i64 (sg (nu q5)), .slice a_1 (ln (nu q5)) c_2, .int .i64 (sg (de q5)), .slice b_3 (ln (de q5)) d_4] ∧ Bx wx A19 34 #[.int .i64 (sg (nu q17)), .slice a_13 (ln (nu q17)) c_14, .int .i64 (sg (de q17)), .slice b_15 (ln (de q17)) d_16] ∧ Below w.heap.size w wx))
    case first =>
      obtain ⟨w7, hv⟩ : ∃ x, x = w6.drew := ⟨_, rfl⟩
      replace M := Lib.hid (Goes.go M.out (hv ▸ below_drew _ : Below w6.heap.size w6 w7))
      refine wp_region_held_drew (S := (fun w' => w'.cell? ⟨w4.heap.size, 0, none⟩ = some (.int .i64 (sg (nu q5))) ∧ w'.cell? ⟨w4.heap.size, 1, none⟩ = some (.slice a_1 (ln (nu q5)) c_2) ∧ w'.cell? ⟨w4.heap.size, 2, none⟩ = some (.int .i64 (sg (de q5))) ∧ w'.cell? ⟨w4.heap.size, 3, none⟩ = some (.slice b_3 (ln (de q5)) d_4))) (by kernel_rfl) (by rw [← hv]; exact ⟨(M.out.2.2.2.2.2.2.1).at.1 0, (M.out.2.2.2.2.2.2.1).at.1 1, (M.out.2.2.2.2.2.2.1).at.1 2, (M.out.2.2.2.2.2.2.1).at.1 3⟩) (fun hH75 => ?_)
      rw [← hv] at hH75 ⊢
      clear hv
      refine tk at0 ?_
      refine tk at2 ?_
      refine wpAnyH_ready (rs := [1, 7]) (by kernel_rfl) (by simp) ?_
      refine AllReadyH.cons at1 (fun K hK => ?_) ?_
      ·
        go_simp
        obtain ⟨q80, eq80⟩ : ∃ x : Rat, x = (rd : Rat) := ⟨_, rfl⟩
        refine (rfint_ok (G := G) rd _ (by omega)).mono ?_
        rintro e w8 ⟨a_76, c_77, b_78, d_79, rfl, hd81, hb⟩
        rw [← eq80] at hd81 ⊢
        have Sq80 : Hid (Fz q80 4) := by show Fz q80 4; rw [eq80]; exact (Fz.int64 (by omega))
        have Eq80 := Lib.hid eq80; clear eq80
        replace M := Lib.hid (And.intro hd81 (Goes.go M.out hb))
        clear hb hd81
        (try go_wp2_with fail)
        refine hK.out _ _ (⟨(M.out.2.2.2.2.2.2.2.1).at.1 0, (M.out.2.2.2.2.2.2.2.1).at.1 1, (M.out.2.2.2.2.2.2.2.1).at.1 2, (M.out.2.2.2.2.2.2.2.1).at.1 3⟩) (fun hH82 => ?_)
        clear hK K hH75
        (try simp only [Act.put, List.setIfInBounds_toArray, List.set_cons_zero, List.set_cons_succ])
        refine wpAnyH_ready (rs := [3, 7]) (by kernel_rfl) (by simp) ?_
        refine AllReadyH.cons at3 (fun K hK => ?_) ?_
        ·
          go_simp
          obtain ⟨q87, eq87⟩ : ∃ x : Rat, x = (q80 + q5) := ⟨_, rfl⟩
          refine (rfadd_ok (G := G) (q := q80) (r := q5) (M.out.1) (M.out.2.2.2.2.1) (Fz.mono Sq80.out (by omega)) (Fz.mono Sq5.out (by omega))).mono ?_
          rintro e w9 ⟨a_83, c_84, b_85, d_86, rfl, hd88, hb⟩
          rw [← eq87] at hd88 ⊢
          have Sq87 : Hid (Fz q87 14) := by show Fz q87 14; rw [eq87]; exact (Fz.add Sq80.out Sq5.out)
          have Eq87 := Lib.hid eq87; clear eq87
          replace M := Lib.hid (And.intro hd88 (Goes.go M.out hb))
          clear hb hd88
          (try go_wp2_with fail)
          refine hK.out _ _ (⟨(M.out.2.2.2.2.2.2.2.2.1).at.1 0, (M.out.2.2.2.2.2.2.2.2.1).at.1 1, (M.out.2.2.2.2.2.2.2.2.1).at.1 2, (M.out.2.2.2.2.2.2.2.2.1).at.1 3⟩) (fun hH89 => ?_)
          clear hK K hH82
          (try simp only [Act.put, List.setIfInBounds_toArray, List.set_cons_zero, List.set_cons_succ])
          refine tk at4 ?_
          refine tk at5 ?_
          refine tk at6 ?_
          refine wpAnyH_ready (rs := [7]) (by kernel_rfl) (by simp) ?_
          refine AllReadyH.cons at7 (fun K hK => ?_) AllReadyH.nil
          go_simp
          obtain ⟨w10, hv⟩ : ∃ x, x = (w9.alloc (.cells #[.int .i64 0, .slice none 0 0, .int .i64 0, .slice none 0 0] 34)) := ⟨_, rfl⟩
          rw [← hv]
          have o4 : A19 < w9.heap.size := ((M.out.2.2.1)).lt
          replace M := Lib.hid (And.intro (hv ▸ bx1 w9 34 #[.int .i64 0, .slice none 0 0, .int .i64 0, .slice none 0 0]) (Goes.go M.out (hv ▸ below_alloc _ _ : Below w9.heap.size w9 w10)))
          clear hv
          refine hK.out _ _ (⟨(M.out.2.2.2.2.2.2.2.2.2.1).at.1 0, (M.out.2.2.2.2.2.2.2.2.2.1).at.1 1, (M.out.2.2.2.2.2.2.2.2.2.1).at.1 2, (M.out.2.2.2.2.2.2.2.2.2.1).at.1 3⟩) (fun hH90 => ?_)
          clear hK K hH89
          (try simp only [Act.put, List.setIfInBounds_toArray, List.set_cons_zero, List.set_cons_succ])
          refine wpAnyH_ready (rs := [8]) (by kernel_rfl) (by simp) ?_
          refine AllReadyH.cons at8 (fun K hK => ?_) AllReadyH.nil
          obtain ⟨p4_0, q4_0, p4_1, q4_1, p4_2, q4_2, p4_3, q4_3⟩ := (M.out.1).c4
          go_simp
          clear p4_0 q4_0 p4_1 q4_1 p4_2 q4_2 p4_3 q4_3
          obtain ⟨w11, hv⟩ : ∃ x, x = ((((w10.setCell ⟨w9.heap.size, 0, none⟩ (.int .i64 (sg (nu q87)))).setCell ⟨w9.heap.size, 1, none⟩ (.slice a_83 (ln (nu q87)) c_84)).setCell ⟨w9.heap.size, 2, none⟩ (.int .i64 (sg (de q87)))).setCell ⟨w9.heap.size, 3, none⟩ (.slice b_85 (ln (de q87)) d_86)) := ⟨_, rfl⟩
          rw [← hv]
          have og : w10.grownBy w11 (some w9.heap.size) := by rw [hv]; exact (only_setCell (only_setCell (only_setCell (only_setCell (World.grownBy.refl _ _) _) _) _) _)
          have hz : w.heap.size ≤ w9.heap.size := by omega
          have hk : Bx w11 w9.heap.size 34 #[.int .i64 (sg (nu q87)), .slice a_83 (ln (nu q87)) c_84, .int .i64 (sg (de q87)), .slice b_85 (ln (de q87)) d_86] := by rw [hv]; exact (((((M.out.1).set 0 _).set 1 _).set 2 _).set 3 _)
          have hbw : Below w.heap.size w w11 := by rw [hv]; exact (Below.setCell (Below.setCell (Below.setCell (Below.setCell (M.out.2.2.2.2.2.2.2.2.2.2) (by omega) _) (by omega) _) (by omega) _) (by omega) _)
          replace M := Lib.hid (And.intro hk (And.intro ((M.out.2.1).far (M.out.1) (by rfl) (by omega) og) (And.intro ((M.out.2.2.1).far (M.out.1) (by rfl) (by omega) og) (And.intro ((M.out.2.2.2.1).only og (by omega)) (And.intro ((M.out.2.2.2.2.1).far (M.out.1) (by rfl) (by omega) og) (And.intro ((M.out.2.2.2.2.2.1).far (M.out.1) (by rfl) (by omega) og) (And.intro ((M.out.2.2.2.2.2.2.1).far (M.out.1) (by rfl) (by omega) og) (And.intro ((M.out.2.2.2.2.2.2.2.1).only og (by omega)) (And.intro ((M.out.2.2.2.2.2.2.2.2.1).only og (by omega)) (And.intro ((M.out.2.2.2.2.2.2.2.2.2.1).only og (by omega)) hbw))))))))))
          clear hk hbw og hv hz
          refine hK.out _ _ (⟨(M.out.2.2.2.2.2.2.2.2.2.1).at.1 0, (M.out.2.2.2.2.2.2.2.2.2.1).at.1 1, (M.out.2.2.2.2.2.2.2.2.2.1).at.1 2, (M.out.2.2.2.2.2.2.2.2.2.1).at.1 3⟩) (fun hH91 => ?_)
          clear hK K hH90
          (try simp only [Act.put, List.setIfInBounds_toArray, List.set_cons_zero, List.set_cons_succ])
          refine tk at9 ?_
          refine wpAnyH_done (by kernel_rfl) ?_ _
          clear hH91
          go_wp2_with fail
          go_meet
          exact ⟨w9.heap.size, a_76, c_77, b_78, d_79, q80, a_83, c_84, b_85, d_86, q87, rfl, rfl, Eq80, Eq87, Sq80, Sq87, (by omega), (M.out.1), (M.out.2.1), (M.out.2.2.1), (M.out.2.2.2.2.1), (M.out.2.2.2.2.2.1), (M.out.2.2.2.2.2.2.1), (M.out.2.2.2.2.2.2.2.1), (M.out.2.2.2.2.2.2.2.2.1), (M.out.2.2.2.2.2.2.2.2.2.1), (M.out.2.2.2.1), (M.out.2.2.2.2.2.2.2.2.2.2)⟩
        refine AllReadyH.cons at7 (fun K hK => ?_) AllReadyH.nil
        go_simp
        obtain ⟨w9, hv⟩ : ∃ x, x = (w8.alloc (.cells #[.int .i64 0, .slice none 0 0, .int .i64 0, .slice none 0 0] 34)) := ⟨_, rfl⟩
        rw [← hv]
        have o4 : A19 < w8.heap.size := ((M.out.2.1)).lt
        replace M := Lib.hid (And.intro (hv ▸ bx1 w8 34 #[.int .i64 0, .slice none 0 0, .int .i64 0, .slice none 0 0]) (Goes.go M.out (hv ▸ below_alloc _ _ : Below w8.heap.size w8 w9)))
        clear hv
        refine hK.out _ _ (⟨(M.out.2.2.2.2.2.2.2.2.1).at.1 0, (M.out.2.2.2.2.2.2.2.2.1).at.1 1, (M.out.2.2.2.2.2.2.2.2.1).at.1 2, (M.out.2.2.2.2.2.2.2.2.1).at.1 3⟩) (fun hH92 => ?_)
        clear hK K hH82
        (try simp only [Act.put, List.setIfInBounds_toArray, List.set_cons_zero, List.set_cons_succ])
        refine wpAnyH_ready (rs := [3]) (by kernel_rfl) (by simp) ?_
        refine AllReadyH.cons at3 (fun K hK => ?_) AllReadyH.nil
        go_simp
        obtain ⟨q97, eq97⟩ : ∃ x : Rat, x = (q80 + q5) := ⟨_, rfl⟩
        refine (rfadd_ok (G := G) (q := q80) (r := q5) (M.out.2.1) (M.out.2.2.2.2.2.1) (Fz.mono Sq80.out (by omega)) (Fz.mono Sq5.out (by omega))).mono ?_
        rintro e w10 ⟨a_93, c_94, b_95, d_96, rfl, hd98, hb⟩
        rw [← eq97] at hd98 ⊢
        have Sq97 : Hid (Fz q97 14) := by show Fz q97 14; rw [eq97]; exact (Fz.add Sq80.out Sq5.out)
        have Eq97 := Lib.hid eq97; clear eq97
        replace M := Lib.hid (And.intro hd98 (Goes.go M.out hb))
        clear hb hd98
        (try go_wp2_with fail)
        refine hK.out _ _ (⟨(M.out.2.2.2.2.2.2.2.2.2.1).at.1 0, (M.out.2.2.2.2.2.2.2.2.2.1).at.1 1, (M.out.2.2.2.2.2.2.2.2.2.1).at.1 2, (M.out.2.2.2.2.2.2.2.2.2.1).at.1 3⟩) (fun hH99 => ?_)
        clear hK K hH92
        (try simp only [Act.put, List.setIfInBounds_toArray, List.set_cons_zero, List.set_cons_succ])
        refine tk at4 ?_
        refine tk at5 ?_
        refine tk at6 ?_
        refine wpAnyH_ready (rs := [8]) (by kernel_rfl) (by simp) ?_
        refine AllReadyH.cons at8 (fun K hK => ?_) AllReadyH.nil
        obtain ⟨p4_0, q4_0, p4_1, q4_1, p4_2, q4_2, p4_3, q4_3⟩ := (M.out.2.1).c4
        go_simp
        clear p4_0 q4_0 p4_1 q4_1 p4_2 q4_2 p4_3 q4_3
        obtain ⟨w11, hv⟩ : ∃ x, x = ((((w10.setCell ⟨w8.heap.size, 0, none⟩ (.int .i64 (sg (nu q97)))).setCell ⟨w8.heap.size, 1, none⟩ (.slice a_93 (ln (nu q97)) c_94)).setCell ⟨w8.heap.size, 2, none⟩ (.int .i64 (sg (de q97)))).setCell ⟨w8.heap.size, 3, none⟩ (.slice b_95 (ln (de q97)) d_96)) := ⟨_, rfl⟩
        rw [← hv]
        have og : w10.grownBy w11 (some w8.heap.size) := by rw [hv]; exact (only_setCell (only_setCell (only_setCell (only_setCell (World.grownBy.refl _ _) _) _) _) _)
        have hz : w.heap.size ≤ w8.heap.size := by omega
        have hk : Bx w11 w8.heap.size 34 #[.int .i64 (sg (nu q97)), .slice a_93 (ln (nu q97)) c_94, .int .i64 (sg (de q97)), .slice b_95 (ln (de q97)) d_96] := by rw [hv]; exact (((((M.out.2.1).set 0 _).set 1 _).set 2 _).set 3 _)
        have hbw : Below w.heap.size w w11 := by rw [hv]; exact (Below.setCell (Below.setCell (Below.setCell (Below.setCell (M.out.2.2.2.2.2.2.2.2.2.2) (by omega) _) (by omega) _) (by omega) _) (by omega) _)
        replace M := Lib.hid (And.intro ((M.out.1).far (M.out.2.1) (by rfl) (by omega) og) (And.intro hk (And.intro ((M.out.2.2.1).far (M.out.2.1) (by rfl) (by omega) og) (And.intro ((M.out.2.2.2.1).only og (by omega)) (And.intro ((M.out.2.2.2.2.1).far (M.out.2.1) (by rfl) (by omega) og) (And.intro ((M.out.2.2.2.2.2.1).far (M.out.2.1) (by rfl) (by omega) og) (And.intro ((M.out.2.2.2.2.2.2.1).far (M.out.2.1) (by rfl) (by omega) og) (And.intro ((M.out.2.2.2.2.2.2.2.1).only og (by omega)) (And.intro ((M.out.2.2.2.2.2.2.2.2.1).only og (by omega)) (And.intro ((M.out.2.2.2.2.2.2.2.2.2.1).only og (by omega)) hbw))))))))))
        clear hk hbw og hv hz
        refine hK.out _ _ (⟨(M.out.2.2.2.2.2.2.2.2.2.1).at.1 0, (M.out.2.2.2.2.2.2.2.2.2.1).at.1 1, (M.out.2.2.2.2.2.2.2.2.2.1).at.1 2, (M.out.2.2.2.2.2.2.2.2.2.1).at.1 3⟩) (fun hH100 => ?_)
        clear hK K hH99
        (try simp only [Act.put, List.setIfInBounds_toArray, List.set_cons_zero, List.set_cons_succ])
        refine tk at9 ?_
        refine wpAnyH_done (by kernel_rfl) ?_ _
        clear hH100
        go_wp2_with fail
        go_meet
        exact ⟨w8.heap.size, a_76, c_77, b_78, d_79, q80, a_93, c_94, b_95, d_96, q97, rfl, rfl, Eq80, Eq97, Sq80, Sq97, (by omega), (M.out.2.1), (M.out.1), (M.out.2.2.1), (M.out.2.2.2.2.1), (M.out.2.2.2.2.2.1), (M.out.2.2.2.2.2.2.1), (M.out.2.2.2.2.2.2.2.1), (M.out.2.2.2.2.2.2.2.2.1), (M.out.2.2.2.2.2.2.2.2.2.1), (M.out.2.2.2.1), (M.out.2.2.2.2.2.2.2.2.2.2)⟩
      refine AllReadyH.cons at7 (fun K hK => ?_) AllReadyH.nil
      go_simp
      obtain ⟨w8, hv⟩ : ∃ x, x = (w7.alloc (.cells #[.int .i64 0, .slice none 0 0, .int .i64 0, .slice none 0 0] 34)) := ⟨_, rfl⟩
      rw [← hv]
      have o4 : A19 < w7.heap.size := ((M.out.1)).lt
      replace M := Lib.hid (And.intro (hv ▸ bx1 w7 34 #[.int .i64 0, .slice none 0 0, .int .i64 0, .slice none 0 0]) (Goes.go M.out (hv ▸ below_alloc _ _ : Below w7.heap.size w7 w8)))
      clear hv
      refine hK.out _ _ (⟨(M.out.2.2.2.2.2.2.2.1).at.1 0, (M.out.2.2.2.2.2.2.2.1).at.1 1, (M.out.2.2.2.2.2.2.2.1).at.1 2, (M.out.2.2.2.2.2.2.2.1).at.1 3⟩) (fun hH101 => ?_)
      clear hK K hH75
      (try simp only [Act.put, List.setIfInBounds_toArray, List.set_cons_zero, List.set_cons_succ])
      refine wpAnyH_ready (rs := [1]) (by kernel_rfl) (by simp) ?_
      refine AllReadyH.cons at1 (fun K hK => ?_) AllReadyH.nil
      go_simp
      obtain ⟨q106, eq106⟩ : ∃ x : Rat, x = (rd : Rat) := ⟨_, rfl⟩
      refine (rfint_ok (G := G) rd _ (by omega)).mono ?_
      rintro e w9 ⟨a_102, c_103, b_104, d_105, rfl, hd107, hb⟩
      rw [← eq106] at hd107 ⊢
      have Sq106 : Hid (Fz q106 4) := by show Fz q106 4; rw [eq106]; exact (Fz.int64 (by omega))
      have Eq106 := Lib.hid eq106; clear eq106
      replace M := Lib.hid (And.intro hd107 (Goes.go M.out hb))
      clear hb hd107
      (try go_wp2_with fail)
      refine hK.out _ _ (⟨(M.out.2.2.2.2.2.2.2.2.1).at.1 0, (M.out.2.2.2.2.2.2.2.2.1).at.1 1, (M.out.2.2.2.2.2.2.2.2.1).at.1 2, (M.out.2.2.2.2.2.2.2.2.1).at.1 3⟩) (fun hH108 => ?_)
      clear hK K hH101
      (try simp only [Act.put, List.setIfInBounds_toArray, List.set_cons_zero, List.set_cons_succ])
      refine wpAnyH_ready (rs := [3]) (by kernel_rfl) (by simp) ?_
      refine AllReadyH.cons at3 (fun K hK => ?_) AllReadyH.nil
      go_simp
      obtain ⟨q113, eq113⟩ : ∃ x : Rat, x = (q106 + q5) := ⟨_, rfl⟩
      refine (rfadd_ok (G := G) (q := q106) (r := q5) (M.out.1) (M.out.2.2.2.2.2.1) (Fz.mono Sq106.out (by omega)) (Fz.mono Sq5.out (by omega))).mono ?_
      rintro e w10 ⟨a_109, c_110, b_111, d_112, rfl, hd114, hb⟩
      rw [← eq113] at hd114 ⊢
      have Sq113 : Hid (Fz q113 14) := by show Fz q113 14; rw [eq113]; exact (Fz.add Sq106.out Sq5.out)
      have Eq113 := Lib.hid eq113; clear eq113
      replace M := Lib.hid (And.intro hd114 (Goes.go M.out hb))
      clear hb hd114
      (try go_wp2_with fail)
      refine hK.out _ _ (⟨(M.out.2.2.2.2.2.2.2.2.2.1).at.1 0, (M.out.2.2.2.2.2.2.2.2.2.1).at.1 1, (M.out.2.2.2.2.2.2.2.2.2.1).at.1 2, (M.out.2.2.2.2.2.2.2.2.2.1).at.1 3⟩) (fun hH115 => ?_)
      clear hK K hH108
      (try simp only [Act.put, List.setIfInBounds_toArray, List.set_cons_zero, List.set_cons_succ])
      refine tk at4 ?_
      refine tk at5 ?_
      refine tk at6 ?_
      refine wpAnyH_ready (rs := [8]) (by kernel_rfl) (by simp) ?_
      refine AllReadyH.cons at8 (fun K hK => ?_) AllReadyH.nil
      obtain ⟨p4_0, q4_0, p4_1, q4_1, p4_2, q4_2, p4_3, q4_3⟩ := (M.out.2.2.1).c4
      go_simp
      clear p4_0 q4_0 p4_1 q4_1 p4_2 q4_2 p4_3 q4_3
      obtain ⟨w11, hv⟩ : ∃ x, x = ((((w10.setCell ⟨w7.heap.size, 0, none⟩ (.int .i64 (sg (nu q113)))).setCell ⟨w7.heap.size, 1, none⟩ (.slice a_109 (ln (nu q113)) c_110)).setCell ⟨w7.heap.size, 2, none⟩ (.int .i64 (sg (de q113)))).setCell ⟨w7.heap.size, 3, none⟩ (.slice b_111 (ln (de q113)) d_112)) := ⟨_, rfl⟩
      rw [← hv]
      have og : w10.grownBy w11 (some w7.heap.size) := by rw [hv]; exact (only_setCell (only_setCell (only_setCell (only_setCell (World.grownBy.refl _ _) _) _) _) _)
      have hz : w.heap.size ≤ w7.heap.size := by omega
      have hk : Bx w11 w7.heap.size 34 #[.int .i64 (sg (nu q113)), .slice a_109 (ln (nu q113)) c_110, .int .i64 (sg (de q113)), .slice b_111 (ln (de q113)) d_112] := by rw [hv]; exact (((((M.out.2.2.1).set 0 _).set 1 _).set 2 _).set 3 _)
      have hbw : Below w.heap.size w w11 := by rw [hv]; exact (Below.setCell (Below.setCell (Below.setCell (Below.setCell (M.out.2.2.2.2.2.2.2.2.2.2) (by omega) _) (by omega) _) (by omega) _) (by omega) _)
      replace M := Lib.hid (And.intro ((M.out.1).far (M.out.2.2.1) (by rfl) (by omega) og) (And.intro ((M.out.2.1).far (M.out.2.2.1) (by rfl) (by omega) og) (And.intro hk (And.intro ((M.out.2.2.2.1).only og (by omega)) (And.intro ((M.out.2.2.2.2.1).far (M.out.2.2.1) (by rfl) (by omega) og) (And.intro ((M.out.2.2.2.2.2.1).far (M.out.2.2.1) (by rfl) (by omega) og) (And.intro ((M.out.2.2.2.2.2.2.1).far (M.out.2.2.1) (by rfl) (by omega) og) (And.intro ((M.out.2.2.2.2.2.2.2.1).only og (by omega)) (And.intro ((M.out.2.2.2.2.2.2.2.2.1).only og (by omega)) (And.intro ((M.out.2.2.2.2.2.2.2.2.2.1).only og (by omega)) hbw))))))))))
      clear hk hbw og hv hz
      refine hK.out _ _ (⟨(M.out.2.2.2.2.2.2.2.2.2.1).at.1 0, (M.out.2.2.2.2.2.2.2.2.2.1).at.1 1, (M.out.2.2.2.2.2.2.2.2.2.1).at.1 2, (M.out.2.2.2.2.2.2.2.2.2.1).at.1 3⟩) (fun hH116 => ?_)
      clear hK K hH115
      (try simp only [Act.put, List.setIfInBounds_toArray, List.set_cons_zero, List.set_cons_succ])
      refine tk at9 ?_
      refine wpAnyH_done (by kernel_rfl) ?_ _
      clear hH116
      go_wp2_with fail
      go_meet
      exact ⟨w7.heap.size, a_102, c_103, b_104, d_105, q106, a_109, c_110, b_111, d_112, q113, rfl, rfl, Eq106, Eq113, Sq106, Sq113, (by omega), (M.out.2.2.1), (M.out.1), (M.out.2.1), (M.out.2.2.2.2.1), (M.out.2.2.2.2.2.1), (M.out.2.2.2.2.2.2.1), (M.out.2.2.2.2.2.2.2.1), (M.out.2.2.2.2.2.2.2.2.1), (M.out.2.2.2.2.2.2.2.2.2.1), (M.out.2.2.2.1), (M.out.2.2.2.2.2.2.2.2.2.2)⟩
    case rest =>
      obtain ⟨A74, a_62, c_63, b_64, d_65, q66, a_68, c_69, b_70, d_71, q72, rfl, rfl, Eq66, Eq72, Sq66, Sq72, oA74, M⟩ := hcut
      obtain ⟨w7, rfl⟩ : ∃ x, x = wc := ⟨_, rfl⟩
      obtain ⟨p3_0, q3_0, p3_1, q3_1, p3_2, q3_2, p3_3, q3_3⟩ := (M.out.2.2.2.2.2.2.2.2.2.1).c4
      go_wp2_with fail
      clear p3_0 q3_0 p3_1 q3_1 p3_2 q3_2 p3_3 q3_3
      refine (rfsign_ok (G := G) (q := q17) (M.out.2.2.2.1) (Fz.mono Sq17.out (by omega))).mono ?_
      rintro e w8 ⟨rfl, hb⟩
      have hnq17 : sg (nu q17) ≥ 0 := by have h := HN.out; rw [Eq17.out, Eq11.out, Eq5.out]; exact h
      replace M := Lib.hid (Goes.go M.out hb)
      clear hb
      go_wp2_with fail
      obtain ⟨w9, hv⟩ : ∃ x, x = w8.drew := ⟨_, rfl⟩
      replace M := Lib.hid (Goes.go M.out (hv ▸ below_drew _ : Below w8.heap.size w8 w9))
      refine wp_region_held_drew (S := (fun w' => w'.cell? ⟨A19, 0, none⟩ = some (.int .i64 (sg (nu q17))) ∧ w'.cell? ⟨A19, 1, none⟩ = some (.slice a_13 (ln (nu q17)) c_14) ∧ w'.cell? ⟨A19, 2, none⟩ = some (.int .i64 (sg (de q17))) ∧ w'.cell? ⟨A19, 3, none⟩ = some (.slice b_15 (ln (de q17)) d_16) ∧ w'.cell? ⟨A74, 0, none⟩ = some (.int .i64 (sg (nu q72))) ∧ w'.cell? ⟨A74, 1, none⟩ = some (.slice a_68 (ln (nu q72)) c_69) ∧ w'.cell? ⟨A74, 2, none⟩ = some (.int .i64 (sg (de q72))) ∧ w'.cell? ⟨A74, 3, none⟩ = some (.slice b_70 (ln (de q72)) d_71))) (by kernel_rfl) (by rw [← hv]; exact ⟨(M.out.2.2.2.2.2.2.2.2.2.1).at.1 0, (M.out.2.2.2.2.2.2.2.2.2.1).at.1 1, (M.out.2.2.2.2.2.2.2.2.2.1).at.1 2, (M.out.2.2.2.2.2.2.2.2.2.1).at.1 3, (M.out.1).at.1 0, (M.out.1).at.1 1, (M.out.1).at.1 2, (M.out.1).at.1 3⟩) (fun hH117 => ?_)
      rw [← hv] at hH117 ⊢
      clear hv
      refine tk at0 ?_
      refine tk at1 ?_
      refine wpAnyH_ready (rs := [2]) (by kernel_rfl) (by simp) ?_
      refine AllReadyH.cons at2 (fun K hK => ?_) AllReadyH.nil
      obtain ⟨p0_0, q0_0, p0_1, q0_1, p0_2, q0_2, p0_3, q0_3⟩ := (M.out.2.2.2.2.2.2.1).c4
      go_simp
      clear p0_0 q0_0 p0_1 q0_1 p0_2 q0_2 p0_3 q0_3
      obtain ⟨w10, hv⟩ : ∃ x, x = ((((w9.setCell ⟨w.heap.size, 0, none⟩ (.int .i64 (sg (nu q17)))).setCell ⟨w.heap.size, 1, none⟩ (.slice a_13 (ln (nu q17)) c_14)).setCell ⟨w.heap.size, 2, none⟩ (.int .i64 (sg (de q17)))).setCell ⟨w.heap.size, 3, none⟩ (.slice b_15 (ln (de q17)) d_16)) := ⟨_, rfl⟩
      rw [← hv]
      have og : w9.grownBy w10 (some w.heap.size) := by rw [hv]; exact (only_setCell (only_setCell (only_setCell (only_setCell (World.grownBy.refl _ _) _) _) _) _)
      have hz : w.heap.size ≤ w.heap.size := by exact Nat.le_refl _
      have hk : Bx w10 w.heap.size 34 #[.int .i64 (sg (nu q17)), .slice a_13 (ln (nu q17)) c_14, .int .i64 (sg (de q17)), .slice b_15 (ln (de q17)) d_16] := by rw [hv]; exact (((((M.out.2.2.2.2.2.2.1).set 0 _).set 1 _).set 2 _).set 3 _)
      have hbw : Below w.heap.size w w10 := by rw [hv]; exact (Below.setCell (Below.setCell (Below.setCell (Below.setCell (M.out.2.2.2.2.2.2.2.2.2.2) (by omega) _) (by omega) _) (by omega) _) (by omega) _)
      replace M := Lib.hid (And.intro ((M.out.1).only og (by omega)) (And.intro ((M.out.2.1).far (M.out.2.2.2.2.2.2.1) (by rfl) (by omega) og) (And.intro ((M.out.2.2.1).far (M.out.2.2.2.2.2.2.1) (by rfl) (by omega) og) (And.intro ((M.out.2.2.2.1).far (M.out.2.2.2.2.2.2.1) (by rfl) (by omega) og) (And.intro ((M.out.2.2.2.2.1).far (M.out.2.2.2.2.2.2.1) (by rfl) (by omega) og) (And.intro ((M.out.2.2.2.2.2.1).far (M.out.2.2.2.2.2.2.1) (by rfl) (by omega) og) (And.intro hk (And.intro ((M.out.2.2.2.2.2.2.2.1).only og (by omega)) (And.intro ((M.out.2.2.2.2.2.2.2.2.1).only og (by omega)) (And.intro ((M.out.2.2.2.2.2.2.2.2.2.1).only og (by omega)) hbw))))))))))
      clear hk hbw og hv hz
      refine hK.out _ _ (⟨(M.out.2.2.2.2.2.2.2.2.2.1).at.1 0, (M.out.2.2.2.2.2.2.2.2.2.1).at.1 1, (M.out.2.2.2.2.2.2.2.2.2.1).at.1 2, (M.out.2.2.2.2.2.2.2.2.2.1).at.1 3, (M.out.1).at.1 0, (M.out.1).at.1 1, (M.out.1).at.1 2, (M.out.1).at.1 3⟩) (fun hH118 => ?_)
      clear hK K hH117
      (try simp only [Act.put, List.setIfInBounds_toArray, List.set_cons_zero, List.set_cons_succ])
      refine wpAnyH_ready (rs := [3]) (by kernel_rfl) (by simp) ?_
      refine AllReadyH.cons at3 (fun K hK => ?_) AllReadyH.nil
      obtain ⟨p1_0, q1_0, p1_1, q1_1, p1_2, q1_2, p1_3, q1_3⟩ := (M.out.2.2.2.2.2.2.2.1).c4
      go_simp
      clear p1_0 q1_0 p1_1 q1_1 p1_2 q1_2 p1_3 q1_3
      obtain ⟨w11, hv⟩ : ∃ x, x = ((((w10.setCell ⟨w.heap.size + 1, 0, none⟩ (.int .i64 (sg (nu q72)))).setCell ⟨w.heap.size + 1, 1, none⟩ (.slice a_68 (ln (nu q72)) c_69)).setCell ⟨w.heap.size + 1, 2, none⟩ (.int .i64 (sg (de q72)))).setCell ⟨w.heap.size + 1, 3, none⟩ (.slice b_70 (ln (de q72)) d_71)) := ⟨_, rfl⟩
      rw [← hv]
      have og : w10.grownBy w11 (some (w.heap.size + 1)) := by rw [hv]; exact (only_setCell (only_setCell (only_setCell (only_setCell (World.grownBy.refl _ _) _) _) _) _)
      have hz : w.heap.size ≤ w.heap.size + 1 := by omega
      have hk : Bx w11 (w.heap.size + 1) 34 #[.int .i64 (sg (nu q72)), .slice a_68 (ln (nu q72)) c_69, .int .i64 (sg (de q72)), .slice b_70 (ln (de q72)) d_71] := by rw [hv]; exact (((((M.out.2.2.2.2.2.2.2.1).set 0 _).set 1 _).set 2 _).set 3 _)
      have hbw : Below w.heap.size w w11 := by rw [hv]; exact (Below.setCell (Below.setCell (Below.setCell (Below.setCell (M.out.2.2.2.2.2.2.2.2.2.2) (by omega) _) (by omega) _) (by omega) _) (by omega) _)
      replace M := Lib.hid (And.intro ((M.out.1).only og (by omega)) (And.intro ((M.out.2.1).far (M.out.2.2.2.2.2.2.2.1) (by rfl) (by omega) og) (And.intro ((M.out.2.2.1).far (M.out.2.2.2.2.2.2.2.1) (by rfl) (by omega) og) (And.intro ((M.out.2.2.2.1).far (M.out.2.2.2.2.2.2.2.1) (by rfl) (by omega) og) (And.intro ((M.out.2.2.2.2.1).far (M.out.2.2.2.2.2.2.2.1) (by rfl) (by omega) og) (And.intro ((M.out.2.2.2.2.2.1).far (M.out.2.2.2.2.2.2.2.1) (by rfl) (by omega) og) (And.intro ((M.out.2.2.2.2.2.2.1).only og (by omega)) (And.intro hk (And.intro ((M.out.2.2.2.2.2.2.2.2.1).only og (by omega)) (And.intro ((M.out.2.2.2.2.2.2.2.2.2.1).only og (by omega)) hbw))))))))))
      clear hk hbw og hv hz
      refine hK.out _ _ (⟨(M.out.2.2.2.2.2.2.2.2.2.1).at.1 0, (M.out.2.2.2.2.2.2.2.2.2.1).at.1 1, (M.out.2.2.2.2.2.2.2.2.2.1).at.1 2, (M.out.2.2.2.2.2.2.2.2.2.1).at.1 3, (M.out.1).at.1 0, (M.out.1).at.1 1, (M.out.1).at.1 2, (M.out.1).at.1 3⟩) (fun hH119 => ?_)
      clear hK K hH118
      (try simp only [Act.put, List.setIfInBounds_toArray, List.set_cons_zero, List.set_cons_succ])
      refine tk at4 ?_
      refine wpAnyH_done (by kernel_rfl) ?_ _
      clear hH119
      go_wp2_with fail
      have HN2 : sg (nu ((rd : Rat) - errQ ⟨s, f, u, n, p, d⟩ rd day)) ≥ 0 := HN.out
      have HL : loQ (errQ ⟨s, f, u, n, p, d⟩ rd day) rd = q17 := by rw [Eq17.out, Eq11.out, Eq5.out]; exact lo_pos HN2
      have HH : hiQ (errQ ⟨s, f, u, n, p, d⟩ rd day) rd = q72 := by rw [Eq72.out, Eq66.out, Eq5.out]; rfl
      rw [HL, HH]
      refine bodyPost_ret (results_box2t rfl _ _ w.heap.size (w.heap.size + 1) 34 34 _ _ _ _ _ _ rfl (M.out.2.2.2.2.2.2.1) Try.underlying34 rfl (by kernel_rfl) rfl (M.out.2.2.2.2.2.2.2.1) Try.underlying34 rfl (by kernel_rfl)) rfl ?_
      exact ⟨_, _, _, _, _, _, _, _, rfl, (M.out.2.2.2.1), (M.out.2.1), (M.out.2.2.2.2.2.2.2.2.2.2)⟩

end Go.Proofs.Ytpjpkcelajbfnaa
