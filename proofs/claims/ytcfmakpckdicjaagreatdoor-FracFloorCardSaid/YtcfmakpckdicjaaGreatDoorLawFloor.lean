/- The walk of FracFloor: whatever the arguments, it returns true. -/
import Derived.Test.YtcfmakpckdicjaaGreatDoorLaw05a
namespace Go.Proofs.YtcfmakpckdicjaaGreatDoor
open Go.RowKit Go.Lib
variable {G : Nat}

set_option maxRecDepth 100000 in
set_option maxHeartbeats 4000000 in
theorem floor_not {n : Int} {sa ta : Int} {la ma : List Int} {a1 b1 : Option Addr} {c1 d1 : Nat} {w : World} (hG : G ≤ w.heap.size) (ht : Tab w) (hm : Mx w) (h1 : FR w a1 c1 b1 d1 la ma) (hn : ((decide ((la.length : Int) ≤ 30) && decide ((ma.length : Int) ≤ 30)) && rightF sa la ta ma) = false) :
    Calls Tryz.prog 7 #[.agg #[.int .i64 sa, .slice a1 la.length c1, .int .i64 ta, .slice b1 ma.length d1], .int .i64 n] w fun e w' => e = .returned (.bool true) ∧ Below w.heap.size w w' := by
  obtain ⟨fa, hfa⟩ : ∃ b, (decide ((la.length : Int) ≤ 30) && decide ((ma.length : Int) ≤ 30)) = b := ⟨_, rfl⟩
  obtain ⟨ra, hra⟩ : ∃ b, rightF sa la ta ma = b := ⟨_, rfl⟩
  rw [hfa, hra] at hn
  have HFa := Lib.hid hfa
  have HRa := Lib.hid hra
  have HN := Lib.hid hn
  clear hn hfa hra
  have HT : Hid (Tab w) := ht
  have HM : Hid (Mx w) := hm
  have H1 : Hid (FR w a1 c1 b1 d1 la ma) := h1
  clear ht hm h1
  have M : Hid (Below w.heap.size w w) := Below.refl _ _
  go_enter Tryz.func7, Tryz.ntmps7
  go_upto_region 1 with fail
  obtain ⟨w1, hv⟩ : ∃ w_ : World, w_ = (w.alloc (.cells #[.int .i64 sa, .slice a1 la.length c1, .int .i64 ta, .slice b1 ma.length d1] 26)) := ⟨_, rfl⟩
  rw [← hv]
  replace M := Lib.hid (And.intro (hv ▸ bx1 w 26 #[.int .i64 sa, .slice a1 la.length c1, .int .i64 ta, .slice b1 ma.length d1]) (Goes.go M.out (hv ▸ below_alloc _ _ : Below w.heap.size w w1)))
  clear hv
  go_wp2_with fail
  refine (small_ok (G := G) (Nat.le_trans hG (M.out.2).size) (HT.out.keep (M.out.2)) (HM.out.keep (M.out.2))).mono ?_
  rintro e w2 ⟨rfl, hb⟩
  replace M := Lib.hid (Goes.go M.out hb)
  clear hb
  have y0 := (M.out.1).c4; have p0_0 := y0.1; have q0_0 := y0.2.1; have p0_1 := y0.2.2.1; have q0_1 := y0.2.2.2.1; have p0_2 := y0.2.2.2.2.1; have q0_2 := y0.2.2.2.2.2.1; have p0_3 := y0.2.2.2.2.2.2.1; have q0_3 := y0.2.2.2.2.2.2.2; clear y0
  go_wp2_with fail
  clear p0_0 q0_0 p0_1 q0_1 p0_2 q0_2 p0_3 q0_3
  refine (rfFew_ok (s := sa) (t := ta) (m := 30) (r := fa) HFa.out).mono ?_
  rintro e w3 ⟨rfl, hb⟩
  replace M := Lib.hid (Goes.go M.out hb)
  clear hb
  cases fa with
  | false =>
    go_wp2_with fail
    go_ret
    exact ⟨rfl, (M.out.2)⟩
  | true =>
    have y0 := (M.out.1).c4; have p0_0 := y0.1; have q0_0 := y0.2.1; have p0_1 := y0.2.2.1; have q0_1 := y0.2.2.2.1; have p0_2 := y0.2.2.2.2.1; have q0_2 := y0.2.2.2.2.2.1; have p0_3 := y0.2.2.2.2.2.2.1; have q0_3 := y0.2.2.2.2.2.2.2; clear y0
    go_wp2_with fail
    clear p0_0 q0_0 p0_1 q0_1 p0_2 q0_2 p0_3 q0_3
    refine (fracRight_len (s := sa) (t := ta) (l := la) (m := ma) (r := ra) (H1.out.keep (M.out.2)) rfl rfl (len_of5 HFa.out (by decide)).1 (len_of5 HFa.out (by decide)).2 HRa.out).mono ?_
    rintro e w4 ⟨rfl, hb⟩
    replace M := Lib.hid (Goes.go M.out hb)
    clear hb
    cases ra with
    | false =>
      go_wp2_with fail
      go_ret
      exact ⟨rfl, (M.out.2)⟩
    | true =>
      go_upto_region 4 with fail
      exact absurd HN.out (by decide)

set_option maxRecDepth 100000 in
set_option maxHeartbeats 4000000 in
theorem floor_whole {n : Int} {q : Rat} {a1 b1 : Option Addr} {c1 d1 : Nat} {w : World} (hG : G ≤ w.heap.size) (ht : Tab w) (hm : Mx w) (h1 : FD G w a1 c1 b1 d1 q) (hq : Fz q 30) (hn : -9223372036854775808 ≤ n ∧ n ≤ 9223372036854775807) (hw : ((flo q : Int) : Rat) = q) :
    Calls Tryz.prog 7 #[.agg #[.int .i64 (sg (nu q)), .slice a1 (ln (nu q)) c1, .int .i64 (sg (de q)), .slice b1 (ln (de q)) d1], .int .i64 n] w fun e w' => e = .returned (.bool true) ∧ Below w.heap.size w w' := by
  obtain ⟨f, hf⟩ : ∃ f, flo q = f := ⟨_, rfl⟩
  rw [hf] at hw
  obtain ⟨k1, hk1⟩ : ∃ k, ordQ (f : Rat) q = k := ⟨_, rfl⟩
  have hle := flo_le hf
  have hlt := flo_lt hf
  have n1 : decide (0 < k1) = false := by rw [← hk1]; exact decide_eq_false (ordQ_up hle)
  obtain ⟨fq, hfq⟩ : ∃ x : Rat, (f : Rat) = x := ⟨_, rfl⟩
  obtain ⟨f1, hf1⟩ : ∃ x : Rat, (f : Rat) + 1 = x := ⟨_, rfl⟩
  have HK1 : Hid (ordQ fq q = k1) := by show _ = _; rw [← hfq, hk1]
  have HK2 : Hid (ordQ f1 q = 1) := by show _ = _; rw [← hf1]; exact ordQ_ge hlt
  have HN1 : Hid (Rat.divInt f 1 = fq) := by show _ = _; rw [rat_int, hfq]
  have HN2 : Hid (Rat.divInt (f + 1) 1 = f1) := by show _ = _; rw [rat_int, Rat.intCast_add, ← hf1]; rfl
  have HSF : Hid (Sz f 30) := by show Sz _ _; rw [← hf]; exact flo_size hq
  have HSQ : Hid (Fz fq 31) := by show Fz _ _; rw [← hfq]; exact Fz.int (HSF.out.mono (by omega)) (by omega)
  have HSR : Hid (Fz f1 32) := by show Fz _ _; rw [← HN2.out]; exact new_size (by decide) ((Sz.add (n := 30) HSF.out (by unfold Sz; decide)).mono (by omega)) (by unfold Sz; decide)
  have HW : Hid (decide (fq = q) = true) := by show _ = _; rw [← hfq]; exact decide_eq_true hw
  have HFG : Hid (flo (-q) = -f) := flo_neg_whole hw.symm
  have HF := Lib.hid hf
  have HNI := Lib.hid hn
  have HFN : Hid (flo (Rat.divInt n 1) = n) := by show _ = _; rw [rat_int, flo_floor]; exact Rat.floor_intCast n
  clear hf hk1 hle hlt hfq hf1 hw hn
  have HQ := Lib.hid hq
  clear hq
  have HT : Hid (Tab w) := ht
  have HM : Hid (Mx w) := hm
  have H1 : Hid (FD G w a1 c1 b1 d1 q) := h1
  clear ht hm h1
  have M : Hid (Below w.heap.size w w) := Below.refl _ _
  go_enter Tryz.func7, Tryz.ntmps7
  go_upto_region 1 with fail
  obtain ⟨w1, hv⟩ : ∃ w_ : World, w_ = (w.alloc (.cells #[.int .i64 (sg (nu q)), .slice a1 (ln (nu q)) c1, .int .i64 (sg (de q)), .slice b1 (ln (de q)) d1] 26)) := ⟨_, rfl⟩
  rw [← hv]
  replace M := Lib.hid (And.intro (hv ▸ bx1 w 26 #[.int .i64 (sg (nu q)), .slice a1 (ln (nu q)) c1, .int .i64 (sg (de q)), .slice b1 (ln (de q)) d1]) (Goes.go M.out (hv ▸ below_alloc _ _ : Below w.heap.size w w1)))
  clear hv
  go_wp2_with fail
  refine (small_ok (G := G) (Nat.le_trans hG (M.out.2).size) (HT.out.keep (M.out.2)) (HM.out.keep (M.out.2))).mono ?_
  rintro e w2 ⟨rfl, hb⟩
  replace M := Lib.hid (Goes.go M.out hb)
  clear hb
  have y0 := (M.out.1).c4; have p0_0 := y0.1; have q0_0 := y0.2.1; have p0_1 := y0.2.2.1; have q0_1 := y0.2.2.2.1; have p0_2 := y0.2.2.2.2.1; have q0_2 := y0.2.2.2.2.2.1; have p0_3 := y0.2.2.2.2.2.2.1; have q0_3 := y0.2.2.2.2.2.2.2; clear y0
  go_wp2_with fail
  clear p0_0 q0_0 p0_1 q0_1 p0_2 q0_2 p0_3 q0_3
  refine (rfFew_ok (s := (sg (nu q))) (t := (sg (de q))) (m := 30) (r := true) (few_fz HQ.out rfl)).mono ?_
  rintro e w3 ⟨rfl, hb⟩
  replace M := Lib.hid (Goes.go M.out hb)
  clear hb
  have y0 := (M.out.1).c4; have p0_0 := y0.1; have q0_0 := y0.2.1; have p0_1 := y0.2.2.1; have q0_1 := y0.2.2.2.1; have p0_2 := y0.2.2.2.2.1; have q0_2 := y0.2.2.2.2.2.1; have p0_3 := y0.2.2.2.2.2.2.1; have q0_3 := y0.2.2.2.2.2.2.2; clear y0
  go_wp2_with fail
  clear p0_0 q0_0 p0_1 q0_1 p0_2 q0_2 p0_3 q0_3
  refine (fracRight_ok (G := G) (q := q) (H1.out.keep (M.out.2)) (Fz.mono HQ.out (by omega))).mono ?_
  rintro e w4 ⟨rfl, hb⟩
  replace M := Lib.hid (Goes.go M.out hb)
  clear hb
  have y0 := (M.out.1).c4; have p0_0 := y0.1; have q0_0 := y0.2.1; have p0_1 := y0.2.2.1; have q0_1 := y0.2.2.2.1; have p0_2 := y0.2.2.2.2.1; have q0_2 := y0.2.2.2.2.2.1; have p0_3 := y0.2.2.2.2.2.2.1; have q0_3 := y0.2.2.2.2.2.2.2; clear y0
  go_wp2_with fail
  clear p0_0 q0_0 p0_1 q0_1 p0_2 q0_2 p0_3 q0_3
  refine (fracFloor_is (G := G) (q := q) (f := f) (Nat.le_trans hG (M.out.2).size) (H1.out.keep (M.out.2)) (Fz.mono HQ.out (by omega)) HF.out).mono ?_
  rintro e w5 ⟨a_1, c_2, rfl, hd3, hb⟩
  replace M := Lib.hid (And.intro hd3 (Goes.go M.out hb))
  clear hb hd3
  go_upto_region 5 with fail
  obtain ⟨w6, hv⟩ : ∃ w_ : World, w_ = (w5.alloc (.cells #[.int .i64 (sg f), .slice a_1 (ln f) c_2] 24)) := ⟨_, rfl⟩
  rw [← hv]
  have o1 : w.heap.size < w5.heap.size := ((M.out.2.1)).lt
  replace M := Lib.hid (And.intro (hv ▸ bx1 w5 24 #[.int .i64 (sg f), .slice a_1 (ln f) c_2]) (Goes.go M.out (hv ▸ below_alloc _ _ : Below w5.heap.size w5 w6)))
  clear hv
  go_cut [7, 8] (fun s7 s8 wx => ∃ (A11 : Nat), ∃ (a_4 : Option Addr), ∃ (c_5 : Nat), ∃ (a_7 : Option Addr), ∃ (c_8 : Nat), ∃ (z9 : Int), s7 = .pointer (some ⟨A11, 0, none⟩) ∧ s8 = .int .i64 0 ∧ Hid (z9 = (f + 1)) ∧ Hid (Sz z9 31) ∧ w5.heap.size < A11 ∧ Hid (Bx wx A11 24 #[.int .i64 (sg z9), .slice a_7 (ln z9) c_8] ∧ BD G wx a_7 c_8 z9 ∧ BD G wx a_4 c_5 1 ∧ BD G wx a_1 c_2 f ∧ Bx wx w.heap.size 26 #[.int .i64 (sg (nu q)), .slice a1 (ln (nu q)) c1, .int .i64 (sg (de q)), .slice b1 (ln (de q)) d1] ∧ Bx wx w5.heap.size 24 #[.int .i64 (sg f), .slice a_1 (ln f) c_2] ∧ Below w.heap.size w wx))
  case first =>
    obtain ⟨w7, hv⟩ : ∃ w_ : World, w_ = w6.drew := ⟨_, rfl⟩
    replace M := Lib.hid (Goes.go M.out (hv ▸ below_drew _ : Below w6.heap.size w6 w7))
    refine wp_region_held_drew (S := (fun w' => w'.cell? ⟨w5.heap.size, 0, none⟩ = some (.int .i64 (sg f)) ∧ w'.cell? ⟨w5.heap.size, 1, none⟩ = some (.slice a_1 (ln f) c_2))) (by kernel_rfl) (by rw [← hv]; exact ⟨(M.out.1).at.1 0, (M.out.1).at.1 1⟩) (fun hH12 => ?_)
    rw [← hv] at hH12 ⊢
    clear hv
    refine tk at0 ?_
    refine wpAnyH_ready (rs := [1, 6]) (by kernel_rfl) (by simp) ?_
    refine AllReadyH.cons at1 (fun K hK => ?_) ?_
    ·
      go_simp
      refine (bigOf_ok (G := G) 1 _ (by decide)).mono ?_
      rintro e w8 ⟨a_13, c_14, rfl, hd15, hb⟩
      replace M := Lib.hid (And.intro hd15 (Goes.go M.out hb))
      clear hb hd15
      (try go_wp2_with fail)
      refine hK.out _ _ (⟨(M.out.2.1).at.1 0, (M.out.2.1).at.1 1⟩) (fun hH16 => ?_)
      clear hK K hH12
      (try simp only [Act.put, List.setIfInBounds_toArray, List.set_cons_zero, List.set_cons_succ])
      refine wpAnyH_ready (rs := [2, 6]) (by kernel_rfl) (by simp) ?_
      refine AllReadyH.cons at2 (fun K hK => ?_) ?_
      ·
        go_simp
        obtain ⟨z19, ez19⟩ : ∃ v_ : Int, v_ = (f + 1) := ⟨_, rfl⟩
        refine (bigAdd_ok (G := G) (x := f) (y := 1) (M.out.2.2.1) (M.out.1) (Sz.mono HSF.out (by omega)) (Sz.mono (show Sz (1) 1 from by unfold Sz; decide) (by omega))).mono ?_
        rintro e w9 ⟨a_17, c_18, rfl, hd20, hb⟩
        rw [← ez19] at hd20 ⊢
        have Sz19 : Hid (Sz z19 31) := by show Sz z19 31; rw [ez19]; exact (Sz.add HSF.out (Sz.mono (show Sz (1) 1 from by unfold Sz; decide) (by omega)))
        have Ez19 := Lib.hid ez19; clear ez19
        replace M := Lib.hid (And.intro hd20 (Goes.go M.out hb))
        clear hb hd20
        (try go_wp2_with fail)
        refine hK.out _ _ (⟨(M.out.2.2.1).at.1 0, (M.out.2.2.1).at.1 1⟩) (fun hH21 => ?_)
        clear hK K hH16
        (try simp only [Act.put, List.setIfInBounds_toArray, List.set_cons_zero, List.set_cons_succ])
        refine tk at3 ?_
        refine tk at4 ?_
        refine tk at5 ?_
        refine wpAnyH_ready (rs := [6]) (by kernel_rfl) (by simp) ?_
        refine AllReadyH.cons at6 (fun K hK => ?_) AllReadyH.nil
        go_simp
        obtain ⟨w10, hv⟩ : ∃ w_ : World, w_ = (w9.alloc (.cells #[.int .i64 0, .slice none 0 0] 24)) := ⟨_, rfl⟩
        rw [← hv]
        have o2 : w5.heap.size < w9.heap.size := ((M.out.2.2.1)).lt
        replace M := Lib.hid (And.intro (hv ▸ bx1 w9 24 #[.int .i64 0, .slice none 0 0]) (Goes.go M.out (hv ▸ below_alloc _ _ : Below w9.heap.size w9 w10)))
        clear hv
        refine hK.out _ _ (⟨(M.out.2.2.2.1).at.1 0, (M.out.2.2.2.1).at.1 1⟩) (fun hH22 => ?_)
        clear hK K hH21
        (try simp only [Act.put, List.setIfInBounds_toArray, List.set_cons_zero, List.set_cons_succ])
        refine wpAnyH_ready (rs := [7]) (by kernel_rfl) (by simp) ?_
        refine AllReadyH.cons at7 (fun K hK => ?_) AllReadyH.nil
        have y2 := (M.out.1).c2; have p2_0 := y2.1; have q2_0 := y2.2.1; have p2_1 := y2.2.2.1; have q2_1 := y2.2.2.2; clear y2
        go_simp
        clear p2_0 q2_0 p2_1 q2_1
        obtain ⟨w11, hv⟩ : ∃ w_ : World, w_ = ((w10.setCell ⟨w9.heap.size, 0, none⟩ (.int .i64 (sg z19))).setCell ⟨w9.heap.size, 1, none⟩ (.slice a_17 (ln z19) c_18)) := ⟨_, rfl⟩
        rw [← hv]
        have og : w10.grownBy w11 (some w9.heap.size) := by rw [hv]; exact (only_setCell (only_setCell (World.grownBy.refl _ _) _) _)
        have hz : w.heap.size ≤ w9.heap.size := by omega
        have hk : Bx w11 w9.heap.size 24 #[.int .i64 (sg z19), .slice a_17 (ln z19) c_18] := by rw [hv]; exact (((M.out.1).set 0 _).set 1 _)
        have hbw : Below w.heap.size w w11 := by rw [hv]; exact (Below.setCell (Below.setCell (M.out.2.2.2.2.2.2) (by omega) _) (by omega) _)
        replace M := Lib.hid (And.intro hk (And.intro ((M.out.2.1).far (M.out.1) (by rfl) (by omega) og) (And.intro ((M.out.2.2.1).far (M.out.1) (by rfl) (by omega) og) (And.intro ((M.out.2.2.2.1).only og (by omega)) (And.intro ((M.out.2.2.2.2.1).far (M.out.1) (by rfl) (by omega) og) (And.intro ((M.out.2.2.2.2.2.1).only og (by omega)) hbw))))))
        clear hk hbw og hv hz
        refine hK.out _ _ (⟨(M.out.2.2.2.1).at.1 0, (M.out.2.2.2.1).at.1 1⟩) (fun hH23 => ?_)
        clear hK K hH22
        (try simp only [Act.put, List.setIfInBounds_toArray, List.set_cons_zero, List.set_cons_succ])
        refine tk at8 ?_
        refine wpAnyH_done (by kernel_rfl) ?_ _
        clear hH23
        go_wp2_with fail
        go_meet
        exact ⟨w9.heap.size, a_13, c_14, a_17, c_18, z19, rfl, rfl, Ez19, Sz19, (by omega), (M.out.1), (M.out.2.1), (M.out.2.2.1), (M.out.2.2.2.2.1), (M.out.2.2.2.2.2.1), (M.out.2.2.2.1), (M.out.2.2.2.2.2.2)⟩
      refine AllReadyH.cons at6 (fun K hK => ?_) AllReadyH.nil
      go_simp
      obtain ⟨w9, hv⟩ : ∃ w_ : World, w_ = (w8.alloc (.cells #[.int .i64 0, .slice none 0 0] 24)) := ⟨_, rfl⟩
      rw [← hv]
      have o2 : w5.heap.size < w8.heap.size := ((M.out.2.1)).lt
      replace M := Lib.hid (And.intro (hv ▸ bx1 w8 24 #[.int .i64 0, .slice none 0 0]) (Goes.go M.out (hv ▸ below_alloc _ _ : Below w8.heap.size w8 w9)))
      clear hv
      refine hK.out _ _ (⟨(M.out.2.2.1).at.1 0, (M.out.2.2.1).at.1 1⟩) (fun hH24 => ?_)
      clear hK K hH16
      (try simp only [Act.put, List.setIfInBounds_toArray, List.set_cons_zero, List.set_cons_succ])
      refine wpAnyH_ready (rs := [2]) (by kernel_rfl) (by simp) ?_
      refine AllReadyH.cons at2 (fun K hK => ?_) AllReadyH.nil
      go_simp
      obtain ⟨z27, ez27⟩ : ∃ v_ : Int, v_ = (f + 1) := ⟨_, rfl⟩
      refine (bigAdd_ok (G := G) (x := f) (y := 1) (M.out.2.2.2.1) (M.out.2.1) (Sz.mono HSF.out (by omega)) (Sz.mono (show Sz (1) 1 from by unfold Sz; decide) (by omega))).mono ?_
      rintro e w10 ⟨a_25, c_26, rfl, hd28, hb⟩
      rw [← ez27] at hd28 ⊢
      have Sz27 : Hid (Sz z27 31) := by show Sz z27 31; rw [ez27]; exact (Sz.add HSF.out (Sz.mono (show Sz (1) 1 from by unfold Sz; decide) (by omega)))
      have Ez27 := Lib.hid ez27; clear ez27
      replace M := Lib.hid (And.intro hd28 (Goes.go M.out hb))
      clear hb hd28
      (try go_wp2_with fail)
      refine hK.out _ _ (⟨(M.out.2.2.2.1).at.1 0, (M.out.2.2.2.1).at.1 1⟩) (fun hH29 => ?_)
      clear hK K hH24
      (try simp only [Act.put, List.setIfInBounds_toArray, List.set_cons_zero, List.set_cons_succ])
      refine tk at3 ?_
      refine tk at4 ?_
      refine tk at5 ?_
      refine wpAnyH_ready (rs := [7]) (by kernel_rfl) (by simp) ?_
      refine AllReadyH.cons at7 (fun K hK => ?_) AllReadyH.nil
      have y2 := (M.out.2.1).c2; have p2_0 := y2.1; have q2_0 := y2.2.1; have p2_1 := y2.2.2.1; have q2_1 := y2.2.2.2; clear y2
      go_simp
      clear p2_0 q2_0 p2_1 q2_1
      obtain ⟨w11, hv⟩ : ∃ w_ : World, w_ = ((w10.setCell ⟨w8.heap.size, 0, none⟩ (.int .i64 (sg z27))).setCell ⟨w8.heap.size, 1, none⟩ (.slice a_25 (ln z27) c_26)) := ⟨_, rfl⟩
      rw [← hv]
      have og : w10.grownBy w11 (some w8.heap.size) := by rw [hv]; exact (only_setCell (only_setCell (World.grownBy.refl _ _) _) _)
      have hz : w.heap.size ≤ w8.heap.size := by omega
      have hk : Bx w11 w8.heap.size 24 #[.int .i64 (sg z27), .slice a_25 (ln z27) c_26] := by rw [hv]; exact (((M.out.2.1).set 0 _).set 1 _)
      have hbw : Below w.heap.size w w11 := by rw [hv]; exact (Below.setCell (Below.setCell (M.out.2.2.2.2.2.2) (by omega) _) (by omega) _)
      replace M := Lib.hid (And.intro ((M.out.1).far (M.out.2.1) (by rfl) (by omega) og) (And.intro hk (And.intro ((M.out.2.2.1).far (M.out.2.1) (by rfl) (by omega) og) (And.intro ((M.out.2.2.2.1).only og (by omega)) (And.intro ((M.out.2.2.2.2.1).far (M.out.2.1) (by rfl) (by omega) og) (And.intro ((M.out.2.2.2.2.2.1).only og (by omega)) hbw))))))
      clear hk hbw og hv hz
      refine hK.out _ _ (⟨(M.out.2.2.2.1).at.1 0, (M.out.2.2.2.1).at.1 1⟩) (fun hH30 => ?_)
      clear hK K hH29
      (try simp only [Act.put, List.setIfInBounds_toArray, List.set_cons_zero, List.set_cons_succ])
      refine tk at8 ?_
      refine wpAnyH_done (by kernel_rfl) ?_ _
      clear hH30
      go_wp2_with fail
      go_meet
      exact ⟨w8.heap.size, a_13, c_14, a_25, c_26, z27, rfl, rfl, Ez27, Sz27, (by omega), (M.out.2.1), (M.out.1), (M.out.2.2.1), (M.out.2.2.2.2.1), (M.out.2.2.2.2.2.1), (M.out.2.2.2.1), (M.out.2.2.2.2.2.2)⟩
    refine AllReadyH.cons at6 (fun K hK => ?_) AllReadyH.nil
    go_simp
    obtain ⟨w8, hv⟩ : ∃ w_ : World, w_ = (w7.alloc (.cells #[.int .i64 0, .slice none 0 0] 24)) := ⟨_, rfl⟩
    rw [← hv]
    have o2 : w5.heap.size < w7.heap.size := ((M.out.1)).lt
    replace M := Lib.hid (And.intro (hv ▸ bx1 w7 24 #[.int .i64 0, .slice none 0 0]) (Goes.go M.out (hv ▸ below_alloc _ _ : Below w7.heap.size w7 w8)))
    clear hv
    refine hK.out _ _ (⟨(M.out.2.1).at.1 0, (M.out.2.1).at.1 1⟩) (fun hH31 => ?_)
    clear hK K hH12
    (try simp only [Act.put, List.setIfInBounds_toArray, List.set_cons_zero, List.set_cons_succ])
    refine wpAnyH_ready (rs := [1]) (by kernel_rfl) (by simp) ?_
    refine AllReadyH.cons at1 (fun K hK => ?_) AllReadyH.nil
    go_simp
    refine (bigOf_ok (G := G) 1 _ (by decide)).mono ?_
    rintro e w9 ⟨a_32, c_33, rfl, hd34, hb⟩
    replace M := Lib.hid (And.intro hd34 (Goes.go M.out hb))
    clear hb hd34
    (try go_wp2_with fail)
    refine hK.out _ _ (⟨(M.out.2.2.1).at.1 0, (M.out.2.2.1).at.1 1⟩) (fun hH35 => ?_)
    clear hK K hH31
    (try simp only [Act.put, List.setIfInBounds_toArray, List.set_cons_zero, List.set_cons_succ])
    refine wpAnyH_ready (rs := [2]) (by kernel_rfl) (by simp) ?_
    refine AllReadyH.cons at2 (fun K hK => ?_) AllReadyH.nil
    go_simp
    obtain ⟨z38, ez38⟩ : ∃ v_ : Int, v_ = (f + 1) := ⟨_, rfl⟩
    refine (bigAdd_ok (G := G) (x := f) (y := 1) (M.out.2.2.2.1) (M.out.1) (Sz.mono HSF.out (by omega)) (Sz.mono (show Sz (1) 1 from by unfold Sz; decide) (by omega))).mono ?_
    rintro e w10 ⟨a_36, c_37, rfl, hd39, hb⟩
    rw [← ez38] at hd39 ⊢
    have Sz38 : Hid (Sz z38 31) := by show Sz z38 31; rw [ez38]; exact (Sz.add HSF.out (Sz.mono (show Sz (1) 1 from by unfold Sz; decide) (by omega)))
    have Ez38 := Lib.hid ez38; clear ez38
    replace M := Lib.hid (And.intro hd39 (Goes.go M.out hb))
    clear hb hd39
    (try go_wp2_with fail)
    refine hK.out _ _ (⟨(M.out.2.2.2.1).at.1 0, (M.out.2.2.2.1).at.1 1⟩) (fun hH40 => ?_)
    clear hK K hH35
    (try simp only [Act.put, List.setIfInBounds_toArray, List.set_cons_zero, List.set_cons_succ])
    refine tk at3 ?_
    refine tk at4 ?_
    refine tk at5 ?_
    refine wpAnyH_ready (rs := [7]) (by kernel_rfl) (by simp) ?_
    refine AllReadyH.cons at7 (fun K hK => ?_) AllReadyH.nil
    have y2 := (M.out.2.2.1).c2; have p2_0 := y2.1; have q2_0 := y2.2.1; have p2_1 := y2.2.2.1; have q2_1 := y2.2.2.2; clear y2
    go_simp
    clear p2_0 q2_0 p2_1 q2_1
    obtain ⟨w11, hv⟩ : ∃ w_ : World, w_ = ((w10.setCell ⟨w7.heap.size, 0, none⟩ (.int .i64 (sg z38))).setCell ⟨w7.heap.size, 1, none⟩ (.slice a_36 (ln z38) c_37)) := ⟨_, rfl⟩
    rw [← hv]
    have og : w10.grownBy w11 (some w7.heap.size) := by rw [hv]; exact (only_setCell (only_setCell (World.grownBy.refl _ _) _) _)
    have hz : w.heap.size ≤ w7.heap.size := by omega
    have hk : Bx w11 w7.heap.size 24 #[.int .i64 (sg z38), .slice a_36 (ln z38) c_37] := by rw [hv]; exact (((M.out.2.2.1).set 0 _).set 1 _)
    have hbw : Below w.heap.size w w11 := by rw [hv]; exact (Below.setCell (Below.setCell (M.out.2.2.2.2.2.2) (by omega) _) (by omega) _)
    replace M := Lib.hid (And.intro ((M.out.1).far (M.out.2.2.1) (by rfl) (by omega) og) (And.intro ((M.out.2.1).far (M.out.2.2.1) (by rfl) (by omega) og) (And.intro hk (And.intro ((M.out.2.2.2.1).only og (by omega)) (And.intro ((M.out.2.2.2.2.1).far (M.out.2.2.1) (by rfl) (by omega) og) (And.intro ((M.out.2.2.2.2.2.1).only og (by omega)) hbw))))))
    clear hk hbw og hv hz
    refine hK.out _ _ (⟨(M.out.2.2.2.1).at.1 0, (M.out.2.2.2.1).at.1 1⟩) (fun hH41 => ?_)
    clear hK K hH40
    (try simp only [Act.put, List.setIfInBounds_toArray, List.set_cons_zero, List.set_cons_succ])
    refine tk at8 ?_
    refine wpAnyH_done (by kernel_rfl) ?_ _
    clear hH41
    go_wp2_with fail
    go_meet
    exact ⟨w7.heap.size, a_32, c_33, a_36, c_37, z38, rfl, rfl, Ez38, Sz38, (by omega), (M.out.2.2.1), (M.out.1), (M.out.2.1), (M.out.2.2.2.2.1), (M.out.2.2.2.2.2.1), (M.out.2.2.2.1), (M.out.2.2.2.2.2.2)⟩
  case rest =>
    obtain ⟨A11, a_4, c_5, a_7, c_8, z9, rfl, rfl, Ez9, Sz9, oA11, M⟩ := hcut
    obtain ⟨w7, rfl⟩ : ∃ w_ : World, w_ = wc := ⟨_, rfl⟩
    go_upto_region 6 with fail
    replace M := Lib.hid (And.intro (M.out.1) (And.intro (M.out.2.1) (And.intro (M.out.2.2.2.1) (And.intro (M.out.2.2.2.2.1) (And.intro (M.out.2.2.2.2.2.1) (M.out.2.2.2.2.2.2))))))
    go_cut [9, 10] (fun s9 s10 wx => ∃ (A50 : Nat), ∃ (a_42 : Option Addr), ∃ (c_43 : Nat), ∃ (a_45 : Option Addr), ∃ (c_46 : Nat), ∃ (b_47 : Option Addr), ∃ (d_48 : Nat), s9 = .pointer (some ⟨A50, 0, none⟩) ∧ s10 = .int .i64 0 ∧ A11 < A50 ∧ Hid (Bx wx A50 26 #[.int .i64 (sg (nu fq)), .slice a_45 (ln (nu fq)) c_46, .int .i64 (sg (de fq)), .slice b_47 (ln (de fq)) d_48] ∧ FD G wx a_45 c_46 b_47 d_48 fq ∧ BD G wx a_42 c_43 1 ∧ BD G wx a_7 c_8 z9 ∧ BD G wx a_1 c_2 f ∧ Bx wx w.heap.size 26 #[.int .i64 (sg (nu q)), .slice a1 (ln (nu q)) c1, .int .i64 (sg (de q)), .slice b1 (ln (de q)) d1] ∧ Bx wx w5.heap.size 24 #[.int .i64 (sg f), .slice a_1 (ln f) c_2] ∧ Bx wx A11 24 #[.int .i64 (sg z9), .slice a_7 (ln z9) c_8] ∧ Below w.heap.size w wx))
    case first =>
      obtain ⟨w8, hv⟩ : ∃ w_ : World, w_ = w7.drew := ⟨_, rfl⟩
      replace M := Lib.hid (Goes.go M.out (hv ▸ below_drew _ : Below w7.heap.size w7 w8))
      refine wp_region_held_drew (S := (fun w' => w'.cell? ⟨w5.heap.size, 0, none⟩ = some (.int .i64 (sg f)) ∧ w'.cell? ⟨w5.heap.size, 1, none⟩ = some (.slice a_1 (ln f) c_2))) (by kernel_rfl) (by rw [← hv]; exact ⟨(M.out.2.2.2.2.1).at.1 0, (M.out.2.2.2.2.1).at.1 1⟩) (fun hH51 => ?_)
      rw [← hv] at hH51 ⊢
      clear hv
      refine tk at0 ?_
      refine wpAnyH_ready (rs := [1, 6]) (by kernel_rfl) (by simp) ?_
      refine AllReadyH.cons at1 (fun K hK => ?_) ?_
      ·
        go_simp
        refine (bigOf_ok (G := G) 1 _ (by decide)).mono ?_
        rintro e w9 ⟨a_52, c_53, rfl, hd54, hb⟩
        replace M := Lib.hid (And.intro hd54 (Goes.go M.out hb))
        clear hb hd54
        (try go_wp2_with fail)
        refine hK.out _ _ (⟨(M.out.2.2.2.2.2.1).at.1 0, (M.out.2.2.2.2.2.1).at.1 1⟩) (fun hH55 => ?_)
        clear hK K hH51
        (try simp only [Act.put, List.setIfInBounds_toArray, List.set_cons_zero, List.set_cons_succ])
        refine wpAnyH_ready (rs := [2, 6]) (by kernel_rfl) (by simp) ?_
        refine AllReadyH.cons at2 (fun K hK => ?_) ?_
        ·
          go_simp
          refine (new_is (G := G) (x := f) (y := 1) (q := fq) (Nat.le_trans hG (M.out.2.2.2.2.2.2).size) (M.out.2.2.2.1) (M.out.1) (Sz.mono HSF.out (by omega)) (Sz.mono (show Sz (1) 1 from by unfold Sz; decide) (by omega)) (by decide) HN1.out).mono ?_
          rintro e w10 ⟨a_56, c_57, b_58, d_59, rfl, hd60, hb⟩
          replace M := Lib.hid (And.intro hd60 (Goes.go M.out hb))
          clear hb hd60
          (try go_wp2_with fail)
          refine hK.out _ _ (⟨(M.out.2.2.2.2.2.2.1).at.1 0, (M.out.2.2.2.2.2.2.1).at.1 1⟩) (fun hH61 => ?_)
          clear hK K hH55
          (try simp only [Act.put, List.setIfInBounds_toArray, List.set_cons_zero, List.set_cons_succ])
          refine tk at3 ?_
          refine tk at4 ?_
          refine tk at5 ?_
          refine wpAnyH_ready (rs := [6]) (by kernel_rfl) (by simp) ?_
          refine AllReadyH.cons at6 (fun K hK => ?_) AllReadyH.nil
          go_simp
          obtain ⟨w11, hv⟩ : ∃ w_ : World, w_ = (w10.alloc (.cells #[.int .i64 0, .slice none 0 0, .int .i64 0, .slice none 0 0] 26)) := ⟨_, rfl⟩
          rw [← hv]
          have o3 : A11 < w10.heap.size := ((M.out.2.2.1)).lt
          replace M := Lib.hid (And.intro (hv ▸ bx1 w10 26 #[.int .i64 0, .slice none 0 0, .int .i64 0, .slice none 0 0]) (Goes.go M.out (hv ▸ below_alloc _ _ : Below w10.heap.size w10 w11)))
          clear hv
          refine hK.out _ _ (⟨(M.out.2.2.2.2.2.2.2.1).at.1 0, (M.out.2.2.2.2.2.2.2.1).at.1 1⟩) (fun hH62 => ?_)
          clear hK K hH61
          (try simp only [Act.put, List.setIfInBounds_toArray, List.set_cons_zero, List.set_cons_succ])
          refine wpAnyH_ready (rs := [7]) (by kernel_rfl) (by simp) ?_
          refine AllReadyH.cons at7 (fun K hK => ?_) AllReadyH.nil
          have y3 := (M.out.1).c4; have p3_0 := y3.1; have q3_0 := y3.2.1; have p3_1 := y3.2.2.1; have q3_1 := y3.2.2.2.1; have p3_2 := y3.2.2.2.2.1; have q3_2 := y3.2.2.2.2.2.1; have p3_3 := y3.2.2.2.2.2.2.1; have q3_3 := y3.2.2.2.2.2.2.2; clear y3
          go_simp
          clear p3_0 q3_0 p3_1 q3_1 p3_2 q3_2 p3_3 q3_3
          obtain ⟨w12, hv⟩ : ∃ w_ : World, w_ = ((((w11.setCell ⟨w10.heap.size, 0, none⟩ (.int .i64 (sg (nu fq)))).setCell ⟨w10.heap.size, 1, none⟩ (.slice a_56 (ln (nu fq)) c_57)).setCell ⟨w10.heap.size, 2, none⟩ (.int .i64 (sg (de fq)))).setCell ⟨w10.heap.size, 3, none⟩ (.slice b_58 (ln (de fq)) d_59)) := ⟨_, rfl⟩
          rw [← hv]
          have og : w11.grownBy w12 (some w10.heap.size) := by rw [hv]; exact (only_setCell (only_setCell (only_setCell (only_setCell (World.grownBy.refl _ _) _) _) _) _)
          have hz : w.heap.size ≤ w10.heap.size := by omega
          have hk : Bx w12 w10.heap.size 26 #[.int .i64 (sg (nu fq)), .slice a_56 (ln (nu fq)) c_57, .int .i64 (sg (de fq)), .slice b_58 (ln (de fq)) d_59] := by rw [hv]; exact (((((M.out.1).set 0 _).set 1 _).set 2 _).set 3 _)
          have hbw : Below w.heap.size w w12 := by rw [hv]; exact (Below.setCell (Below.setCell (Below.setCell (Below.setCell (M.out.2.2.2.2.2.2.2.2) (by omega) _) (by omega) _) (by omega) _) (by omega) _)
          replace M := Lib.hid (And.intro hk (And.intro ((M.out.2.1).far (M.out.1) (by rfl) (by omega) og) (And.intro ((M.out.2.2.1).far (M.out.1) (by rfl) (by omega) og) (And.intro ((M.out.2.2.2.1).only og (by omega)) (And.intro ((M.out.2.2.2.2.1).far (M.out.1) (by rfl) (by omega) og) (And.intro ((M.out.2.2.2.2.2.1).far (M.out.1) (by rfl) (by omega) og) (And.intro ((M.out.2.2.2.2.2.2.1).only og (by omega)) (And.intro ((M.out.2.2.2.2.2.2.2.1).only og (by omega)) hbw))))))))
          clear hk hbw og hv hz
          refine hK.out _ _ (⟨(M.out.2.2.2.2.2.2.2.1).at.1 0, (M.out.2.2.2.2.2.2.2.1).at.1 1⟩) (fun hH63 => ?_)
          clear hK K hH62
          (try simp only [Act.put, List.setIfInBounds_toArray, List.set_cons_zero, List.set_cons_succ])
          refine tk at8 ?_
          refine wpAnyH_done (by kernel_rfl) ?_ _
          clear hH63
          go_wp2_with fail
          go_meet
          exact ⟨w10.heap.size, a_52, c_53, a_56, c_57, b_58, d_59, rfl, rfl, (by omega), (M.out.1), (M.out.2.1), (M.out.2.2.1), (M.out.2.2.2.2.1), (M.out.2.2.2.2.2.1), (M.out.2.2.2.2.2.2.1), (M.out.2.2.2.2.2.2.2.1), (M.out.2.2.2.1), (M.out.2.2.2.2.2.2.2.2)⟩
        refine AllReadyH.cons at6 (fun K hK => ?_) AllReadyH.nil
        go_simp
        obtain ⟨w10, hv⟩ : ∃ w_ : World, w_ = (w9.alloc (.cells #[.int .i64 0, .slice none 0 0, .int .i64 0, .slice none 0 0] 26)) := ⟨_, rfl⟩
        rw [← hv]
        have o3 : A11 < w9.heap.size := ((M.out.2.1)).lt
        replace M := Lib.hid (And.intro (hv ▸ bx1 w9 26 #[.int .i64 0, .slice none 0 0, .int .i64 0, .slice none 0 0]) (Goes.go M.out (hv ▸ below_alloc _ _ : Below w9.heap.size w9 w10)))
        clear hv
        refine hK.out _ _ (⟨(M.out.2.2.2.2.2.2.1).at.1 0, (M.out.2.2.2.2.2.2.1).at.1 1⟩) (fun hH64 => ?_)
        clear hK K hH55
        (try simp only [Act.put, List.setIfInBounds_toArray, List.set_cons_zero, List.set_cons_succ])
        refine wpAnyH_ready (rs := [2]) (by kernel_rfl) (by simp) ?_
        refine AllReadyH.cons at2 (fun K hK => ?_) AllReadyH.nil
        go_simp
        refine (new_is (G := G) (x := f) (y := 1) (q := fq) (Nat.le_trans hG (M.out.2.2.2.2.2.2.2).size) (M.out.2.2.2.2.1) (M.out.2.1) (Sz.mono HSF.out (by omega)) (Sz.mono (show Sz (1) 1 from by unfold Sz; decide) (by omega)) (by decide) HN1.out).mono ?_
        rintro e w11 ⟨a_65, c_66, b_67, d_68, rfl, hd69, hb⟩
        replace M := Lib.hid (And.intro hd69 (Goes.go M.out hb))
        clear hb hd69
        (try go_wp2_with fail)
        refine hK.out _ _ (⟨(M.out.2.2.2.2.2.2.2.1).at.1 0, (M.out.2.2.2.2.2.2.2.1).at.1 1⟩) (fun hH70 => ?_)
        clear hK K hH64
        (try simp only [Act.put, List.setIfInBounds_toArray, List.set_cons_zero, List.set_cons_succ])
        refine tk at3 ?_
        refine tk at4 ?_
        refine tk at5 ?_
        refine wpAnyH_ready (rs := [7]) (by kernel_rfl) (by simp) ?_
        refine AllReadyH.cons at7 (fun K hK => ?_) AllReadyH.nil
        have y3 := (M.out.2.1).c4; have p3_0 := y3.1; have q3_0 := y3.2.1; have p3_1 := y3.2.2.1; have q3_1 := y3.2.2.2.1; have p3_2 := y3.2.2.2.2.1; have q3_2 := y3.2.2.2.2.2.1; have p3_3 := y3.2.2.2.2.2.2.1; have q3_3 := y3.2.2.2.2.2.2.2; clear y3
        go_simp
        clear p3_0 q3_0 p3_1 q3_1 p3_2 q3_2 p3_3 q3_3
        obtain ⟨w12, hv⟩ : ∃ w_ : World, w_ = ((((w11.setCell ⟨w9.heap.size, 0, none⟩ (.int .i64 (sg (nu fq)))).setCell ⟨w9.heap.size, 1, none⟩ (.slice a_65 (ln (nu fq)) c_66)).setCell ⟨w9.heap.size, 2, none⟩ (.int .i64 (sg (de fq)))).setCell ⟨w9.heap.size, 3, none⟩ (.slice b_67 (ln (de fq)) d_68)) := ⟨_, rfl⟩
        rw [← hv]
        have og : w11.grownBy w12 (some w9.heap.size) := by rw [hv]; exact (only_setCell (only_setCell (only_setCell (only_setCell (World.grownBy.refl _ _) _) _) _) _)
        have hz : w.heap.size ≤ w9.heap.size := by omega
        have hk : Bx w12 w9.heap.size 26 #[.int .i64 (sg (nu fq)), .slice a_65 (ln (nu fq)) c_66, .int .i64 (sg (de fq)), .slice b_67 (ln (de fq)) d_68] := by rw [hv]; exact (((((M.out.2.1).set 0 _).set 1 _).set 2 _).set 3 _)
        have hbw : Below w.heap.size w w12 := by rw [hv]; exact (Below.setCell (Below.setCell (Below.setCell (Below.setCell (M.out.2.2.2.2.2.2.2.2) (by omega) _) (by omega) _) (by omega) _) (by omega) _)
        replace M := Lib.hid (And.intro ((M.out.1).far (M.out.2.1) (by rfl) (by omega) og) (And.intro hk (And.intro ((M.out.2.2.1).far (M.out.2.1) (by rfl) (by omega) og) (And.intro ((M.out.2.2.2.1).only og (by omega)) (And.intro ((M.out.2.2.2.2.1).far (M.out.2.1) (by rfl) (by omega) og) (And.intro ((M.out.2.2.2.2.2.1).far (M.out.2.1) (by rfl) (by omega) og) (And.intro ((M.out.2.2.2.2.2.2.1).only og (by omega)) (And.intro ((M.out.2.2.2.2.2.2.2.1).only og (by omega)) hbw))))))))
        clear hk hbw og hv hz
        refine hK.out _ _ (⟨(M.out.2.2.2.2.2.2.2.1).at.1 0, (M.out.2.2.2.2.2.2.2.1).at.1 1⟩) (fun hH71 => ?_)
        clear hK K hH70
        (try simp only [Act.put, List.setIfInBounds_toArray, List.set_cons_zero, List.set_cons_succ])
        refine tk at8 ?_
        refine wpAnyH_done (by kernel_rfl) ?_ _
        clear hH71
        go_wp2_with fail
        go_meet
        exact ⟨w9.heap.size, a_52, c_53, a_65, c_66, b_67, d_68, rfl, rfl, (by omega), (M.out.2.1), (M.out.1), (M.out.2.2.1), (M.out.2.2.2.2.1), (M.out.2.2.2.2.2.1), (M.out.2.2.2.2.2.2.1), (M.out.2.2.2.2.2.2.2.1), (M.out.2.2.2.1), (M.out.2.2.2.2.2.2.2.2)⟩
      refine AllReadyH.cons at6 (fun K hK => ?_) AllReadyH.nil
      go_simp
      obtain ⟨w9, hv⟩ : ∃ w_ : World, w_ = (w8.alloc (.cells #[.int .i64 0, .slice none 0 0, .int .i64 0, .slice none 0 0] 26)) := ⟨_, rfl⟩
      rw [← hv]
      have o3 : A11 < w8.heap.size := ((M.out.1)).lt
      replace M := Lib.hid (And.intro (hv ▸ bx1 w8 26 #[.int .i64 0, .slice none 0 0, .int .i64 0, .slice none 0 0]) (Goes.go M.out (hv ▸ below_alloc _ _ : Below w8.heap.size w8 w9)))
      clear hv
      refine hK.out _ _ (⟨(M.out.2.2.2.2.2.1).at.1 0, (M.out.2.2.2.2.2.1).at.1 1⟩) (fun hH72 => ?_)
      clear hK K hH51
      (try simp only [Act.put, List.setIfInBounds_toArray, List.set_cons_zero, List.set_cons_succ])
      refine wpAnyH_ready (rs := [1]) (by kernel_rfl) (by simp) ?_
      refine AllReadyH.cons at1 (fun K hK => ?_) AllReadyH.nil
      go_simp
      refine (bigOf_ok (G := G) 1 _ (by decide)).mono ?_
      rintro e w10 ⟨a_73, c_74, rfl, hd75, hb⟩
      replace M := Lib.hid (And.intro hd75 (Goes.go M.out hb))
      clear hb hd75
      (try go_wp2_with fail)
      refine hK.out _ _ (⟨(M.out.2.2.2.2.2.2.1).at.1 0, (M.out.2.2.2.2.2.2.1).at.1 1⟩) (fun hH76 => ?_)
      clear hK K hH72
      (try simp only [Act.put, List.setIfInBounds_toArray, List.set_cons_zero, List.set_cons_succ])
      refine wpAnyH_ready (rs := [2]) (by kernel_rfl) (by simp) ?_
      refine AllReadyH.cons at2 (fun K hK => ?_) AllReadyH.nil
      go_simp
      refine (new_is (G := G) (x := f) (y := 1) (q := fq) (Nat.le_trans hG (M.out.2.2.2.2.2.2.2).size) (M.out.2.2.2.2.1) (M.out.1) (Sz.mono HSF.out (by omega)) (Sz.mono (show Sz (1) 1 from by unfold Sz; decide) (by omega)) (by decide) HN1.out).mono ?_
      rintro e w11 ⟨a_77, c_78, b_79, d_80, rfl, hd81, hb⟩
      replace M := Lib.hid (And.intro hd81 (Goes.go M.out hb))
      clear hb hd81
      (try go_wp2_with fail)
      refine hK.out _ _ (⟨(M.out.2.2.2.2.2.2.2.1).at.1 0, (M.out.2.2.2.2.2.2.2.1).at.1 1⟩) (fun hH82 => ?_)
      clear hK K hH76
      (try simp only [Act.put, List.setIfInBounds_toArray, List.set_cons_zero, List.set_cons_succ])
      refine tk at3 ?_
      refine tk at4 ?_
      refine tk at5 ?_
      refine wpAnyH_ready (rs := [7]) (by kernel_rfl) (by simp) ?_
      refine AllReadyH.cons at7 (fun K hK => ?_) AllReadyH.nil
      have y3 := (M.out.2.2.1).c4; have p3_0 := y3.1; have q3_0 := y3.2.1; have p3_1 := y3.2.2.1; have q3_1 := y3.2.2.2.1; have p3_2 := y3.2.2.2.2.1; have q3_2 := y3.2.2.2.2.2.1; have p3_3 := y3.2.2.2.2.2.2.1; have q3_3 := y3.2.2.2.2.2.2.2; clear y3
      go_simp
      clear p3_0 q3_0 p3_1 q3_1 p3_2 q3_2 p3_3 q3_3
      obtain ⟨w12, hv⟩ : ∃ w_ : World, w_ = ((((w11.setCell ⟨w8.heap.size, 0, none⟩ (.int .i64 (sg (nu fq)))).setCell ⟨w8.heap.size, 1, none⟩ (.slice a_77 (ln (nu fq)) c_78)).setCell ⟨w8.heap.size, 2, none⟩ (.int .i64 (sg (de fq)))).setCell ⟨w8.heap.size, 3, none⟩ (.slice b_79 (ln (de fq)) d_80)) := ⟨_, rfl⟩
      rw [← hv]
      have og : w11.grownBy w12 (some w8.heap.size) := by rw [hv]; exact (only_setCell (only_setCell (only_setCell (only_setCell (World.grownBy.refl _ _) _) _) _) _)
      have hz : w.heap.size ≤ w8.heap.size := by omega
      have hk : Bx w12 w8.heap.size 26 #[.int .i64 (sg (nu fq)), .slice a_77 (ln (nu fq)) c_78, .int .i64 (sg (de fq)), .slice b_79 (ln (de fq)) d_80] := by rw [hv]; exact (((((M.out.2.2.1).set 0 _).set 1 _).set 2 _).set 3 _)
      have hbw : Below w.heap.size w w12 := by rw [hv]; exact (Below.setCell (Below.setCell (Below.setCell (Below.setCell (M.out.2.2.2.2.2.2.2.2) (by omega) _) (by omega) _) (by omega) _) (by omega) _)
      replace M := Lib.hid (And.intro ((M.out.1).far (M.out.2.2.1) (by rfl) (by omega) og) (And.intro ((M.out.2.1).far (M.out.2.2.1) (by rfl) (by omega) og) (And.intro hk (And.intro ((M.out.2.2.2.1).only og (by omega)) (And.intro ((M.out.2.2.2.2.1).far (M.out.2.2.1) (by rfl) (by omega) og) (And.intro ((M.out.2.2.2.2.2.1).far (M.out.2.2.1) (by rfl) (by omega) og) (And.intro ((M.out.2.2.2.2.2.2.1).only og (by omega)) (And.intro ((M.out.2.2.2.2.2.2.2.1).only og (by omega)) hbw))))))))
      clear hk hbw og hv hz
      refine hK.out _ _ (⟨(M.out.2.2.2.2.2.2.2.1).at.1 0, (M.out.2.2.2.2.2.2.2.1).at.1 1⟩) (fun hH83 => ?_)
      clear hK K hH82
      (try simp only [Act.put, List.setIfInBounds_toArray, List.set_cons_zero, List.set_cons_succ])
      refine tk at8 ?_
      refine wpAnyH_done (by kernel_rfl) ?_ _
      clear hH83
      go_wp2_with fail
      go_meet
      exact ⟨w8.heap.size, a_73, c_74, a_77, c_78, b_79, d_80, rfl, rfl, (by omega), (M.out.2.2.1), (M.out.1), (M.out.2.1), (M.out.2.2.2.2.1), (M.out.2.2.2.2.2.1), (M.out.2.2.2.2.2.2.1), (M.out.2.2.2.2.2.2.2.1), (M.out.2.2.2.1), (M.out.2.2.2.2.2.2.2.2)⟩
    case rest =>
      obtain ⟨A50, a_42, c_43, a_45, c_46, b_47, d_48, rfl, rfl, oA50, M⟩ := hcut
      obtain ⟨w8, rfl⟩ : ∃ w_ : World, w_ = wc := ⟨_, rfl⟩
      go_upto_region 7 with fail
      replace M := Lib.hid (And.intro (M.out.1) (And.intro (M.out.2.1) (And.intro (M.out.2.2.2.1) (And.intro (M.out.2.2.2.2.1) (And.intro (M.out.2.2.2.2.2.1) (And.intro (M.out.2.2.2.2.2.2.1) (And.intro (M.out.2.2.2.2.2.2.2.1) (M.out.2.2.2.2.2.2.2.2))))))))
      go_cut [11, 12] (fun s11 s12 wx => ∃ (A92 : Nat), ∃ (a_84 : Option Addr), ∃ (c_85 : Nat), ∃ (a_87 : Option Addr), ∃ (c_88 : Nat), ∃ (b_89 : Option Addr), ∃ (d_90 : Nat), s11 = .pointer (some ⟨A92, 0, none⟩) ∧ s12 = .int .i64 0 ∧ A50 < A92 ∧ Hid (Bx wx A92 26 #[.int .i64 (sg (nu f1)), .slice a_87 (ln (nu f1)) c_88, .int .i64 (sg (de f1)), .slice b_89 (ln (de f1)) d_90] ∧ FD G wx a_87 c_88 b_89 d_90 f1 ∧ BD G wx a_84 c_85 1 ∧ FD G wx a_45 c_46 b_47 d_48 fq ∧ BD G wx a_7 c_8 z9 ∧ BD G wx a_1 c_2 f ∧ Bx wx w.heap.size 26 #[.int .i64 (sg (nu q)), .slice a1 (ln (nu q)) c1, .int .i64 (sg (de q)), .slice b1 (ln (de q)) d1] ∧ Bx wx w5.heap.size 24 #[.int .i64 (sg f), .slice a_1 (ln f) c_2] ∧ Bx wx A11 24 #[.int .i64 (sg z9), .slice a_7 (ln z9) c_8] ∧ Bx wx A50 26 #[.int .i64 (sg (nu fq)), .slice a_45 (ln (nu fq)) c_46, .int .i64 (sg (de fq)), .slice b_47 (ln (de fq)) d_48] ∧ Below w.heap.size w wx))
      case first =>
        obtain ⟨w9, hv⟩ : ∃ w_ : World, w_ = w8.drew := ⟨_, rfl⟩
        replace M := Lib.hid (Goes.go M.out (hv ▸ below_drew _ : Below w8.heap.size w8 w9))
        refine wp_region_held_drew (S := (fun w' => w'.cell? ⟨A11, 0, none⟩ = some (.int .i64 (sg z9)) ∧ w'.cell? ⟨A11, 1, none⟩ = some (.slice a_7 (ln z9) c_8))) (by kernel_rfl) (by rw [← hv]; exact ⟨(M.out.2.2.2.2.2.2.1).at.1 0, (M.out.2.2.2.2.2.2.1).at.1 1⟩) (fun hH93 => ?_)
        rw [← hv] at hH93 ⊢
        clear hv
        refine tk at0 ?_
        refine wpAnyH_ready (rs := [1, 6]) (by kernel_rfl) (by simp) ?_
        refine AllReadyH.cons at1 (fun K hK => ?_) ?_
        ·
          go_simp
          refine (bigOf_ok (G := G) 1 _ (by decide)).mono ?_
          rintro e w10 ⟨a_94, c_95, rfl, hd96, hb⟩
          replace M := Lib.hid (And.intro hd96 (Goes.go M.out hb))
          clear hb hd96
          (try go_wp2_with fail)
          refine hK.out _ _ (⟨(M.out.2.2.2.2.2.2.2.1).at.1 0, (M.out.2.2.2.2.2.2.2.1).at.1 1⟩) (fun hH97 => ?_)
          clear hK K hH93
          (try simp only [Act.put, List.setIfInBounds_toArray, List.set_cons_zero, List.set_cons_succ])
          refine wpAnyH_ready (rs := [2, 6]) (by kernel_rfl) (by simp) ?_
          refine AllReadyH.cons at2 (fun K hK => ?_) ?_
          ·
            go_simp
            refine (new_is (G := G) (x := z9) (y := 1) (q := f1) (Nat.le_trans hG (M.out.2.2.2.2.2.2.2.2).size) (M.out.2.2.2.1) (M.out.1) (Sz.mono Sz9.out (by omega)) (Sz.mono (show Sz (1) 1 from by unfold Sz; decide) (by omega)) (by decide) (by rw [Ez9.out]; exact HN2.out)).mono ?_
            rintro e w11 ⟨a_98, c_99, b_100, d_101, rfl, hd102, hb⟩
            replace M := Lib.hid (And.intro hd102 (Goes.go M.out hb))
            clear hb hd102
            (try go_wp2_with fail)
            refine hK.out _ _ (⟨(M.out.2.2.2.2.2.2.2.2.1).at.1 0, (M.out.2.2.2.2.2.2.2.2.1).at.1 1⟩) (fun hH103 => ?_)
            clear hK K hH97
            (try simp only [Act.put, List.setIfInBounds_toArray, List.set_cons_zero, List.set_cons_succ])
            refine tk at3 ?_
            refine tk at4 ?_
            refine tk at5 ?_
            refine wpAnyH_ready (rs := [6]) (by kernel_rfl) (by simp) ?_
            refine AllReadyH.cons at6 (fun K hK => ?_) AllReadyH.nil
            go_simp
            obtain ⟨w12, hv⟩ : ∃ w_ : World, w_ = (w11.alloc (.cells #[.int .i64 0, .slice none 0 0, .int .i64 0, .slice none 0 0] 26)) := ⟨_, rfl⟩
            rw [← hv]
            have o4 : A50 < w11.heap.size := ((M.out.2.2.1)).lt
            replace M := Lib.hid (And.intro (hv ▸ bx1 w11 26 #[.int .i64 0, .slice none 0 0, .int .i64 0, .slice none 0 0]) (Goes.go M.out (hv ▸ below_alloc _ _ : Below w11.heap.size w11 w12)))
            clear hv
            refine hK.out _ _ (⟨(M.out.2.2.2.2.2.2.2.2.2.1).at.1 0, (M.out.2.2.2.2.2.2.2.2.2.1).at.1 1⟩) (fun hH104 => ?_)
            clear hK K hH103
            (try simp only [Act.put, List.setIfInBounds_toArray, List.set_cons_zero, List.set_cons_succ])
            refine wpAnyH_ready (rs := [7]) (by kernel_rfl) (by simp) ?_
            refine AllReadyH.cons at7 (fun K hK => ?_) AllReadyH.nil
            have y4 := (M.out.1).c4; have p4_0 := y4.1; have q4_0 := y4.2.1; have p4_1 := y4.2.2.1; have q4_1 := y4.2.2.2.1; have p4_2 := y4.2.2.2.2.1; have q4_2 := y4.2.2.2.2.2.1; have p4_3 := y4.2.2.2.2.2.2.1; have q4_3 := y4.2.2.2.2.2.2.2; clear y4
            go_simp
            clear p4_0 q4_0 p4_1 q4_1 p4_2 q4_2 p4_3 q4_3
            obtain ⟨w13, hv⟩ : ∃ w_ : World, w_ = ((((w12.setCell ⟨w11.heap.size, 0, none⟩ (.int .i64 (sg (nu f1)))).setCell ⟨w11.heap.size, 1, none⟩ (.slice a_98 (ln (nu f1)) c_99)).setCell ⟨w11.heap.size, 2, none⟩ (.int .i64 (sg (de f1)))).setCell ⟨w11.heap.size, 3, none⟩ (.slice b_100 (ln (de f1)) d_101)) := ⟨_, rfl⟩
            rw [← hv]
            have og : w12.grownBy w13 (some w11.heap.size) := by rw [hv]; exact (only_setCell (only_setCell (only_setCell (only_setCell (World.grownBy.refl _ _) _) _) _) _)
            have hz : w.heap.size ≤ w11.heap.size := by omega
            have hk : Bx w13 w11.heap.size 26 #[.int .i64 (sg (nu f1)), .slice a_98 (ln (nu f1)) c_99, .int .i64 (sg (de f1)), .slice b_100 (ln (de f1)) d_101] := by rw [hv]; exact (((((M.out.1).set 0 _).set 1 _).set 2 _).set 3 _)
            have hbw : Below w.heap.size w w13 := by rw [hv]; exact (Below.setCell (Below.setCell (Below.setCell (Below.setCell (M.out.2.2.2.2.2.2.2.2.2.2) (by omega) _) (by omega) _) (by omega) _) (by omega) _)
            replace M := Lib.hid (And.intro hk (And.intro ((M.out.2.1).far (M.out.1) (by rfl) (by omega) og) (And.intro ((M.out.2.2.1).far (M.out.1) (by rfl) (by omega) og) (And.intro ((M.out.2.2.2.1).only og (by omega)) (And.intro ((M.out.2.2.2.2.1).far (M.out.1) (by rfl) (by omega) og) (And.intro ((M.out.2.2.2.2.2.1).far (M.out.1) (by rfl) (by omega) og) (And.intro ((M.out.2.2.2.2.2.2.1).far (M.out.1) (by rfl) (by omega) og) (And.intro ((M.out.2.2.2.2.2.2.2.1).only og (by omega)) (And.intro ((M.out.2.2.2.2.2.2.2.2.1).only og (by omega)) (And.intro ((M.out.2.2.2.2.2.2.2.2.2.1).only og (by omega)) hbw))))))))))
            clear hk hbw og hv hz
            refine hK.out _ _ (⟨(M.out.2.2.2.2.2.2.2.2.2.1).at.1 0, (M.out.2.2.2.2.2.2.2.2.2.1).at.1 1⟩) (fun hH105 => ?_)
            clear hK K hH104
            (try simp only [Act.put, List.setIfInBounds_toArray, List.set_cons_zero, List.set_cons_succ])
            refine tk at8 ?_
            refine wpAnyH_done (by kernel_rfl) ?_ _
            clear hH105
            go_wp2_with fail
            go_meet
            exact ⟨w11.heap.size, a_94, c_95, a_98, c_99, b_100, d_101, rfl, rfl, (by omega), (M.out.1), (M.out.2.1), (M.out.2.2.1), (M.out.2.2.2.2.1), (M.out.2.2.2.2.2.1), (M.out.2.2.2.2.2.2.1), (M.out.2.2.2.2.2.2.2.1), (M.out.2.2.2.2.2.2.2.2.1), (M.out.2.2.2.2.2.2.2.2.2.1), (M.out.2.2.2.1), (M.out.2.2.2.2.2.2.2.2.2.2)⟩
          refine AllReadyH.cons at6 (fun K hK => ?_) AllReadyH.nil
          go_simp
          obtain ⟨w11, hv⟩ : ∃ w_ : World, w_ = (w10.alloc (.cells #[.int .i64 0, .slice none 0 0, .int .i64 0, .slice none 0 0] 26)) := ⟨_, rfl⟩
          rw [← hv]
          have o4 : A50 < w10.heap.size := ((M.out.2.1)).lt
          replace M := Lib.hid (And.intro (hv ▸ bx1 w10 26 #[.int .i64 0, .slice none 0 0, .int .i64 0, .slice none 0 0]) (Goes.go M.out (hv ▸ below_alloc _ _ : Below w10.heap.size w10 w11)))
          clear hv
          refine hK.out _ _ (⟨(M.out.2.2.2.2.2.2.2.2.1).at.1 0, (M.out.2.2.2.2.2.2.2.2.1).at.1 1⟩) (fun hH106 => ?_)
          clear hK K hH97
          (try simp only [Act.put, List.setIfInBounds_toArray, List.set_cons_zero, List.set_cons_succ])
          refine wpAnyH_ready (rs := [2]) (by kernel_rfl) (by simp) ?_
          refine AllReadyH.cons at2 (fun K hK => ?_) AllReadyH.nil
          go_simp
          refine (new_is (G := G) (x := z9) (y := 1) (q := f1) (Nat.le_trans hG (M.out.2.2.2.2.2.2.2.2.2).size) (M.out.2.2.2.2.1) (M.out.2.1) (Sz.mono Sz9.out (by omega)) (Sz.mono (show Sz (1) 1 from by unfold Sz; decide) (by omega)) (by decide) (by rw [Ez9.out]; exact HN2.out)).mono ?_
          rintro e w12 ⟨a_107, c_108, b_109, d_110, rfl, hd111, hb⟩
          replace M := Lib.hid (And.intro hd111 (Goes.go M.out hb))
          clear hb hd111
          (try go_wp2_with fail)
          refine hK.out _ _ (⟨(M.out.2.2.2.2.2.2.2.2.2.1).at.1 0, (M.out.2.2.2.2.2.2.2.2.2.1).at.1 1⟩) (fun hH112 => ?_)
          clear hK K hH106
          (try simp only [Act.put, List.setIfInBounds_toArray, List.set_cons_zero, List.set_cons_succ])
          refine tk at3 ?_
          refine tk at4 ?_
          refine tk at5 ?_
          refine wpAnyH_ready (rs := [7]) (by kernel_rfl) (by simp) ?_
          refine AllReadyH.cons at7 (fun K hK => ?_) AllReadyH.nil
          have y4 := (M.out.2.1).c4; have p4_0 := y4.1; have q4_0 := y4.2.1; have p4_1 := y4.2.2.1; have q4_1 := y4.2.2.2.1; have p4_2 := y4.2.2.2.2.1; have q4_2 := y4.2.2.2.2.2.1; have p4_3 := y4.2.2.2.2.2.2.1; have q4_3 := y4.2.2.2.2.2.2.2; clear y4
          go_simp
          clear p4_0 q4_0 p4_1 q4_1 p4_2 q4_2 p4_3 q4_3
          obtain ⟨w13, hv⟩ : ∃ w_ : World, w_ = ((((w12.setCell ⟨w10.heap.size, 0, none⟩ (.int .i64 (sg (nu f1)))).setCell ⟨w10.heap.size, 1, none⟩ (.slice a_107 (ln (nu f1)) c_108)).setCell ⟨w10.heap.size, 2, none⟩ (.int .i64 (sg (de f1)))).setCell ⟨w10.heap.size, 3, none⟩ (.slice b_109 (ln (de f1)) d_110)) := ⟨_, rfl⟩
          rw [← hv]
          have og : w12.grownBy w13 (some w10.heap.size) := by rw [hv]; exact (only_setCell (only_setCell (only_setCell (only_setCell (World.grownBy.refl _ _) _) _) _) _)
          have hz : w.heap.size ≤ w10.heap.size := by omega
          have hk : Bx w13 w10.heap.size 26 #[.int .i64 (sg (nu f1)), .slice a_107 (ln (nu f1)) c_108, .int .i64 (sg (de f1)), .slice b_109 (ln (de f1)) d_110] := by rw [hv]; exact (((((M.out.2.1).set 0 _).set 1 _).set 2 _).set 3 _)
          have hbw : Below w.heap.size w w13 := by rw [hv]; exact (Below.setCell (Below.setCell (Below.setCell (Below.setCell (M.out.2.2.2.2.2.2.2.2.2.2) (by omega) _) (by omega) _) (by omega) _) (by omega) _)
          replace M := Lib.hid (And.intro ((M.out.1).far (M.out.2.1) (by rfl) (by omega) og) (And.intro hk (And.intro ((M.out.2.2.1).far (M.out.2.1) (by rfl) (by omega) og) (And.intro ((M.out.2.2.2.1).only og (by omega)) (And.intro ((M.out.2.2.2.2.1).far (M.out.2.1) (by rfl) (by omega) og) (And.intro ((M.out.2.2.2.2.2.1).far (M.out.2.1) (by rfl) (by omega) og) (And.intro ((M.out.2.2.2.2.2.2.1).far (M.out.2.1) (by rfl) (by omega) og) (And.intro ((M.out.2.2.2.2.2.2.2.1).only og (by omega)) (And.intro ((M.out.2.2.2.2.2.2.2.2.1).only og (by omega)) (And.intro ((M.out.2.2.2.2.2.2.2.2.2.1).only og (by omega)) hbw))))))))))
          clear hk hbw og hv hz
          refine hK.out _ _ (⟨(M.out.2.2.2.2.2.2.2.2.2.1).at.1 0, (M.out.2.2.2.2.2.2.2.2.2.1).at.1 1⟩) (fun hH113 => ?_)
          clear hK K hH112
          (try simp only [Act.put, List.setIfInBounds_toArray, List.set_cons_zero, List.set_cons_succ])
          refine tk at8 ?_
          refine wpAnyH_done (by kernel_rfl) ?_ _
          clear hH113
          go_wp2_with fail
          go_meet
          exact ⟨w10.heap.size, a_94, c_95, a_107, c_108, b_109, d_110, rfl, rfl, (by omega), (M.out.2.1), (M.out.1), (M.out.2.2.1), (M.out.2.2.2.2.1), (M.out.2.2.2.2.2.1), (M.out.2.2.2.2.2.2.1), (M.out.2.2.2.2.2.2.2.1), (M.out.2.2.2.2.2.2.2.2.1), (M.out.2.2.2.2.2.2.2.2.2.1), (M.out.2.2.2.1), (M.out.2.2.2.2.2.2.2.2.2.2)⟩
        refine AllReadyH.cons at6 (fun K hK => ?_) AllReadyH.nil
        go_simp
        obtain ⟨w10, hv⟩ : ∃ w_ : World, w_ = (w9.alloc (.cells #[.int .i64 0, .slice none 0 0, .int .i64 0, .slice none 0 0] 26)) := ⟨_, rfl⟩
        rw [← hv]
        have o4 : A50 < w9.heap.size := ((M.out.1)).lt
        replace M := Lib.hid (And.intro (hv ▸ bx1 w9 26 #[.int .i64 0, .slice none 0 0, .int .i64 0, .slice none 0 0]) (Goes.go M.out (hv ▸ below_alloc _ _ : Below w9.heap.size w9 w10)))
        clear hv
        refine hK.out _ _ (⟨(M.out.2.2.2.2.2.2.2.1).at.1 0, (M.out.2.2.2.2.2.2.2.1).at.1 1⟩) (fun hH114 => ?_)
        clear hK K hH93
        (try simp only [Act.put, List.setIfInBounds_toArray, List.set_cons_zero, List.set_cons_succ])
        refine wpAnyH_ready (rs := [1]) (by kernel_rfl) (by simp) ?_
        refine AllReadyH.cons at1 (fun K hK => ?_) AllReadyH.nil
        go_simp
        refine (bigOf_ok (G := G) 1 _ (by decide)).mono ?_
        rintro e w11 ⟨a_115, c_116, rfl, hd117, hb⟩
        replace M := Lib.hid (And.intro hd117 (Goes.go M.out hb))
        clear hb hd117
        (try go_wp2_with fail)
        refine hK.out _ _ (⟨(M.out.2.2.2.2.2.2.2.2.1).at.1 0, (M.out.2.2.2.2.2.2.2.2.1).at.1 1⟩) (fun hH118 => ?_)
        clear hK K hH114
        (try simp only [Act.put, List.setIfInBounds_toArray, List.set_cons_zero, List.set_cons_succ])
        refine wpAnyH_ready (rs := [2]) (by kernel_rfl) (by simp) ?_
        refine AllReadyH.cons at2 (fun K hK => ?_) AllReadyH.nil
        go_simp
        refine (new_is (G := G) (x := z9) (y := 1) (q := f1) (Nat.le_trans hG (M.out.2.2.2.2.2.2.2.2.2).size) (M.out.2.2.2.2.1) (M.out.1) (Sz.mono Sz9.out (by omega)) (Sz.mono (show Sz (1) 1 from by unfold Sz; decide) (by omega)) (by decide) (by rw [Ez9.out]; exact HN2.out)).mono ?_
        rintro e w12 ⟨a_119, c_120, b_121, d_122, rfl, hd123, hb⟩
        replace M := Lib.hid (And.intro hd123 (Goes.go M.out hb))
        clear hb hd123
        (try go_wp2_with fail)
        refine hK.out _ _ (⟨(M.out.2.2.2.2.2.2.2.2.2.1).at.1 0, (M.out.2.2.2.2.2.2.2.2.2.1).at.1 1⟩) (fun hH124 => ?_)
        clear hK K hH118
        (try simp only [Act.put, List.setIfInBounds_toArray, List.set_cons_zero, List.set_cons_succ])
        refine tk at3 ?_
        refine tk at4 ?_
        refine tk at5 ?_
        refine wpAnyH_ready (rs := [7]) (by kernel_rfl) (by simp) ?_
        refine AllReadyH.cons at7 (fun K hK => ?_) AllReadyH.nil
        have y4 := (M.out.2.2.1).c4; have p4_0 := y4.1; have q4_0 := y4.2.1; have p4_1 := y4.2.2.1; have q4_1 := y4.2.2.2.1; have p4_2 := y4.2.2.2.2.1; have q4_2 := y4.2.2.2.2.2.1; have p4_3 := y4.2.2.2.2.2.2.1; have q4_3 := y4.2.2.2.2.2.2.2; clear y4
        go_simp
        clear p4_0 q4_0 p4_1 q4_1 p4_2 q4_2 p4_3 q4_3
        obtain ⟨w13, hv⟩ : ∃ w_ : World, w_ = ((((w12.setCell ⟨w9.heap.size, 0, none⟩ (.int .i64 (sg (nu f1)))).setCell ⟨w9.heap.size, 1, none⟩ (.slice a_119 (ln (nu f1)) c_120)).setCell ⟨w9.heap.size, 2, none⟩ (.int .i64 (sg (de f1)))).setCell ⟨w9.heap.size, 3, none⟩ (.slice b_121 (ln (de f1)) d_122)) := ⟨_, rfl⟩
        rw [← hv]
        have og : w12.grownBy w13 (some w9.heap.size) := by rw [hv]; exact (only_setCell (only_setCell (only_setCell (only_setCell (World.grownBy.refl _ _) _) _) _) _)
        have hz : w.heap.size ≤ w9.heap.size := by omega
        have hk : Bx w13 w9.heap.size 26 #[.int .i64 (sg (nu f1)), .slice a_119 (ln (nu f1)) c_120, .int .i64 (sg (de f1)), .slice b_121 (ln (de f1)) d_122] := by rw [hv]; exact (((((M.out.2.2.1).set 0 _).set 1 _).set 2 _).set 3 _)
        have hbw : Below w.heap.size w w13 := by rw [hv]; exact (Below.setCell (Below.setCell (Below.setCell (Below.setCell (M.out.2.2.2.2.2.2.2.2.2.2) (by omega) _) (by omega) _) (by omega) _) (by omega) _)
        replace M := Lib.hid (And.intro ((M.out.1).far (M.out.2.2.1) (by rfl) (by omega) og) (And.intro ((M.out.2.1).far (M.out.2.2.1) (by rfl) (by omega) og) (And.intro hk (And.intro ((M.out.2.2.2.1).only og (by omega)) (And.intro ((M.out.2.2.2.2.1).far (M.out.2.2.1) (by rfl) (by omega) og) (And.intro ((M.out.2.2.2.2.2.1).far (M.out.2.2.1) (by rfl) (by omega) og) (And.intro ((M.out.2.2.2.2.2.2.1).far (M.out.2.2.1) (by rfl) (by omega) og) (And.intro ((M.out.2.2.2.2.2.2.2.1).only og (by omega)) (And.intro ((M.out.2.2.2.2.2.2.2.2.1).only og (by omega)) (And.intro ((M.out.2.2.2.2.2.2.2.2.2.1).only og (by omega)) hbw))))))))))
        clear hk hbw og hv hz
        refine hK.out _ _ (⟨(M.out.2.2.2.2.2.2.2.2.2.1).at.1 0, (M.out.2.2.2.2.2.2.2.2.2.1).at.1 1⟩) (fun hH125 => ?_)
        clear hK K hH124
        (try simp only [Act.put, List.setIfInBounds_toArray, List.set_cons_zero, List.set_cons_succ])
        refine tk at8 ?_
        refine wpAnyH_done (by kernel_rfl) ?_ _
        clear hH125
        go_wp2_with fail
        go_meet
        exact ⟨w9.heap.size, a_115, c_116, a_119, c_120, b_121, d_122, rfl, rfl, (by omega), (M.out.2.2.1), (M.out.1), (M.out.2.1), (M.out.2.2.2.2.1), (M.out.2.2.2.2.2.1), (M.out.2.2.2.2.2.2.1), (M.out.2.2.2.2.2.2.2.1), (M.out.2.2.2.2.2.2.2.2.1), (M.out.2.2.2.2.2.2.2.2.2.1), (M.out.2.2.2.1), (M.out.2.2.2.2.2.2.2.2.2.2)⟩
      case rest =>
        obtain ⟨A92, a_84, c_85, a_87, c_88, b_89, d_90, rfl, rfl, oA92, M⟩ := hcut
        obtain ⟨w9, rfl⟩ : ∃ w_ : World, w_ = wc := ⟨_, rfl⟩
        go_upto_region 8 with fail
        as_aux_lemma =>
         have y3 := (M.out.2.2.2.2.2.2.2.2.2.1).c4; have p3_0 := y3.1; have q3_0 := y3.2.1; have p3_1 := y3.2.2.1; have q3_1 := y3.2.2.2.1; have p3_2 := y3.2.2.2.2.1; have q3_2 := y3.2.2.2.2.2.1; have p3_3 := y3.2.2.2.2.2.2.1; have q3_3 := y3.2.2.2.2.2.2.2; clear y3
         have y0 := (M.out.2.2.2.2.2.2.1).c4; have p0_0 := y0.1; have q0_0 := y0.2.1; have p0_1 := y0.2.2.1; have q0_1 := y0.2.2.2.1; have p0_2 := y0.2.2.2.2.1; have q0_2 := y0.2.2.2.2.2.1; have p0_3 := y0.2.2.2.2.2.2.1; have q0_3 := y0.2.2.2.2.2.2.2; clear y0
         go_wp2_with fail
         clear p3_0 q3_0 p3_1 q3_1 p3_2 q3_2 p3_3 q3_3 p0_0 q0_0 p0_1 q0_1 p0_2 q0_2 p0_3 q0_3
         refine (fracCompare_is (G := G) (q := fq) (r := q) (k := k1) (M.out.2.2.2.1) (H1.out.keep (M.out.2.2.2.2.2.2.2.2.2.2)) (Fz.mono HSQ.out (by omega)) (Fz.mono HQ.out (by omega)) HK1.out).mono ?_
         rintro e w10 ⟨rfl, hb⟩
         replace M := Lib.hid (Goes.go M.out hb)
         clear hb
         have y4 := (M.out.1).c4; have p4_0 := y4.1; have q4_0 := y4.2.1; have p4_1 := y4.2.2.1; have q4_1 := y4.2.2.2.1; have p4_2 := y4.2.2.2.2.1; have q4_2 := y4.2.2.2.2.2.1; have p4_3 := y4.2.2.2.2.2.2.1; have q4_3 := y4.2.2.2.2.2.2.2; clear y4
         have y0 := (M.out.2.2.2.2.2.2.1).c4; have p0_0 := y0.1; have q0_0 := y0.2.1; have p0_1 := y0.2.2.1; have q0_1 := y0.2.2.2.1; have p0_2 := y0.2.2.2.2.1; have q0_2 := y0.2.2.2.2.2.1; have p0_3 := y0.2.2.2.2.2.2.1; have q0_3 := y0.2.2.2.2.2.2.2; clear y0
         go_wp2_with fail
         clear p4_0 q4_0 p4_1 q4_1 p4_2 q4_2 p4_3 q4_3 p0_0 q0_0 p0_1 q0_1 p0_2 q0_2 p0_3 q0_3
         refine (fracCompare_is (G := G) (q := f1) (r := q) (k := 1) (M.out.2.1) (H1.out.keep (M.out.2.2.2.2.2.2.2.2.2.2)) (Fz.mono HSR.out (by omega)) (Fz.mono HQ.out (by omega)) HK2.out).mono ?_
         rintro e w11 ⟨rfl, hb⟩
         replace M := Lib.hid (Goes.go M.out hb)
         clear hb
         go_upto_region 10 with fail
         replace M := Lib.hid (And.intro (M.out.2.2.2.1) (And.intro (M.out.2.2.2.2.1) (And.intro (M.out.2.2.2.2.2.1) (And.intro (M.out.2.2.2.2.2.2.1) (And.intro (M.out.2.2.2.2.2.2.2.1) (And.intro (M.out.2.2.2.2.2.2.2.2.1) (And.intro (M.out.2.2.2.2.2.2.2.2.2.1) (M.out.2.2.2.2.2.2.2.2.2.2))))))))
         go_cut [13] (fun s13 wx => ∃ (A133 : Nat), ∃ (a_126 : Option Addr), ∃ (c_127 : Nat), ∃ (z128 : Int), ∃ (a_130 : Option Addr), ∃ (c_131 : Nat), s13 = .pointer (some ⟨A133, 0, none⟩) ∧ Hid (z128 = (-(nu q))) ∧ Hid (Sz z128 30) ∧ A50 < A133 ∧ Hid (Bx wx A133 24 #[.int .i64 (sg (-f)), .slice a_130 (ln (-f)) c_131] ∧ BD G wx a_130 c_131 (-f) ∧ BD G wx a_126 c_127 z128 ∧ FD G wx a_45 c_46 b_47 d_48 fq ∧ BD G wx a_7 c_8 z9 ∧ BD G wx a_1 c_2 f ∧ Bx wx w.heap.size 26 #[.int .i64 (sg (nu q)), .slice a1 (ln (nu q)) c1, .int .i64 (sg (de q)), .slice b1 (ln (de q)) d1] ∧ Bx wx w5.heap.size 24 #[.int .i64 (sg f), .slice a_1 (ln f) c_2] ∧ Bx wx A11 24 #[.int .i64 (sg z9), .slice a_7 (ln z9) c_8] ∧ Bx wx A50 26 #[.int .i64 (sg (nu fq)), .slice a_45 (ln (nu fq)) c_46, .int .i64 (sg (de fq)), .slice b_47 (ln (de fq)) d_48] ∧ Below w.heap.size w wx))
         case first =>
           obtain ⟨w12, hv⟩ : ∃ w_ : World, w_ = w11.drew := ⟨_, rfl⟩
           replace M := Lib.hid (Goes.go M.out (hv ▸ below_drew _ : Below w11.heap.size w11 w12))
           refine wp_region_held_drew (S := (fun w' => w'.cell? ⟨w.heap.size, 0, none⟩ = some (.int .i64 (sg (nu q))) ∧ w'.cell? ⟨w.heap.size, 1, none⟩ = some (.slice a1 (ln (nu q)) c1) ∧ w'.cell? ⟨w.heap.size, 2, none⟩ = some (.int .i64 (sg (de q))) ∧ w'.cell? ⟨w.heap.size, 3, none⟩ = some (.slice b1 (ln (de q)) d1))) (by kernel_rfl) (by rw [← hv]; exact ⟨(M.out.2.2.2.1).at.1 0, (M.out.2.2.2.1).at.1 1, (M.out.2.2.2.1).at.1 2, (M.out.2.2.2.1).at.1 3⟩) (fun hH134 => ?_)
           rw [← hv] at hH134 ⊢
           clear hv
           refine tk at0 ?_
           refine tk at1 ?_
           refine tk at3 ?_
           refine tk at4 ?_
           refine wpAnyH_ready (rs := [2, 7]) (by kernel_rfl) (by simp) ?_
           refine AllReadyH.cons at2 (fun K hK => ?_) ?_
           ·
             go_simp
             obtain ⟨z137, ez137⟩ : ∃ v_ : Int, v_ = (-(nu q)) := ⟨_, rfl⟩
             refine (bigNeg_ok (G := G) (x := (nu q)) (H1.out.keep (M.out.2.2.2.2.2.2.2)).n (Sz.mono HQ.out.1 (by omega))).mono ?_
             rintro e w13 ⟨a_135, c_136, rfl, hd138, hb⟩
             rw [← ez137] at hd138 ⊢
             have Sz137 : Hid (Sz z137 30) := by show Sz z137 30; rw [ez137]; exact (Sz.neg HQ.out.1)
             have Ez137 := Lib.hid ez137; clear ez137
             replace M := Lib.hid (And.intro hd138 (Goes.go M.out hb))
             clear hb hd138
             (try go_wp2_with fail)
             refine hK.out _ _ (⟨(M.out.2.2.2.2.1).at.1 0, (M.out.2.2.2.2.1).at.1 1, (M.out.2.2.2.2.1).at.1 2, (M.out.2.2.2.2.1).at.1 3⟩) (fun hH139 => ?_)
             clear hK K hH134
             (try simp only [Act.put, List.setIfInBounds_toArray, List.set_cons_zero, List.set_cons_succ])
             refine tk at5 ?_
             refine wpAnyH_ready (rs := [6, 7]) (by kernel_rfl) (by simp) ?_
             refine AllReadyH.cons at6 (fun K hK => ?_) ?_
             ·
               go_simp
               refine (fracFloor_neg (G := G) (q := q) (z := z137) (f := (-f)) (Nat.le_trans hG (M.out.2.2.2.2.2.2.2.2).size) (M.out.1) (H1.out.keep (M.out.2.2.2.2.2.2.2.2)).d (Fz.mono HQ.out (by omega)) Ez137.out HFG.out).mono ?_
               rintro e w14 ⟨a_140, c_141, rfl, hd142, hb⟩
               replace M := Lib.hid (And.intro hd142 (Goes.go M.out hb))
               clear hb hd142
               (try go_wp2_with fail)
               refine hK.out _ _ (⟨(M.out.2.2.2.2.2.1).at.1 0, (M.out.2.2.2.2.2.1).at.1 1, (M.out.2.2.2.2.2.1).at.1 2, (M.out.2.2.2.2.2.1).at.1 3⟩) (fun hH143 => ?_)
               clear hK K hH139
               (try simp only [Act.put, List.setIfInBounds_toArray, List.set_cons_zero, List.set_cons_succ])
               refine wpAnyH_ready (rs := [7]) (by kernel_rfl) (by simp) ?_
               refine AllReadyH.cons at7 (fun K hK => ?_) AllReadyH.nil
               go_simp
               obtain ⟨w15, hv⟩ : ∃ w_ : World, w_ = (w14.alloc (.cells #[.int .i64 0, .slice none 0 0] 24)) := ⟨_, rfl⟩
               rw [← hv]
               have o5 : A50 < w14.heap.size := ((M.out.2.2.2.2.2.2.2.2.1)).lt
               replace M := Lib.hid (And.intro (hv ▸ bx1 w14 24 #[.int .i64 0, .slice none 0 0]) (Goes.go M.out (hv ▸ below_alloc _ _ : Below w14.heap.size w14 w15)))
               clear hv
               refine hK.out _ _ (⟨(M.out.2.2.2.2.2.2.1).at.1 0, (M.out.2.2.2.2.2.2.1).at.1 1, (M.out.2.2.2.2.2.2.1).at.1 2, (M.out.2.2.2.2.2.2.1).at.1 3⟩) (fun hH144 => ?_)
               clear hK K hH143
               (try simp only [Act.put, List.setIfInBounds_toArray, List.set_cons_zero, List.set_cons_succ])
               refine wpAnyH_ready (rs := [8]) (by kernel_rfl) (by simp) ?_
               refine AllReadyH.cons at8 (fun K hK => ?_) AllReadyH.nil
               have y5 := (M.out.1).c2; have p5_0 := y5.1; have q5_0 := y5.2.1; have p5_1 := y5.2.2.1; have q5_1 := y5.2.2.2; clear y5
               go_simp
               clear p5_0 q5_0 p5_1 q5_1
               obtain ⟨w16, hv⟩ : ∃ w_ : World, w_ = ((w15.setCell ⟨w14.heap.size, 0, none⟩ (.int .i64 (sg (-f)))).setCell ⟨w14.heap.size, 1, none⟩ (.slice a_140 (ln (-f)) c_141)) := ⟨_, rfl⟩
               rw [← hv]
               have og : w15.grownBy w16 (some w14.heap.size) := by rw [hv]; exact (only_setCell (only_setCell (World.grownBy.refl _ _) _) _)
               have hz : w.heap.size ≤ w14.heap.size := by omega
               have hk : Bx w16 w14.heap.size 24 #[.int .i64 (sg (-f)), .slice a_140 (ln (-f)) c_141] := by rw [hv]; exact (((M.out.1).set 0 _).set 1 _)
               have hbw : Below w.heap.size w w16 := by rw [hv]; exact (Below.setCell (Below.setCell (M.out.2.2.2.2.2.2.2.2.2.2) (by omega) _) (by omega) _)
               replace M := Lib.hid (And.intro hk (And.intro ((M.out.2.1).far (M.out.1) (by rfl) (by omega) og) (And.intro ((M.out.2.2.1).far (M.out.1) (by rfl) (by omega) og) (And.intro ((M.out.2.2.2.1).far (M.out.1) (by rfl) (by omega) og) (And.intro ((M.out.2.2.2.2.1).far (M.out.1) (by rfl) (by omega) og) (And.intro ((M.out.2.2.2.2.2.1).far (M.out.1) (by rfl) (by omega) og) (And.intro ((M.out.2.2.2.2.2.2.1).only og (by omega)) (And.intro ((M.out.2.2.2.2.2.2.2.1).only og (by omega)) (And.intro ((M.out.2.2.2.2.2.2.2.2.1).only og (by omega)) (And.intro ((M.out.2.2.2.2.2.2.2.2.2.1).only og (by omega)) hbw))))))))))
               clear hk hbw og hv hz
               refine hK.out _ _ (⟨(M.out.2.2.2.2.2.2.1).at.1 0, (M.out.2.2.2.2.2.2.1).at.1 1, (M.out.2.2.2.2.2.2.1).at.1 2, (M.out.2.2.2.2.2.2.1).at.1 3⟩) (fun hH145 => ?_)
               clear hK K hH144
               (try simp only [Act.put, List.setIfInBounds_toArray, List.set_cons_zero, List.set_cons_succ])
               refine wpAnyH_done (by kernel_rfl) ?_ _
               clear hH145
               go_wp2_with fail
               go_meet
               exact ⟨w14.heap.size, a_135, c_136, z137, a_140, c_141, rfl, Ez137, Sz137, (by omega), (M.out.1), (M.out.2.1), (M.out.2.2.1), (M.out.2.2.2.1), (M.out.2.2.2.2.1), (M.out.2.2.2.2.2.1), (M.out.2.2.2.2.2.2.1), (M.out.2.2.2.2.2.2.2.1), (M.out.2.2.2.2.2.2.2.2.1), (M.out.2.2.2.2.2.2.2.2.2.1), (M.out.2.2.2.2.2.2.2.2.2.2)⟩
             refine AllReadyH.cons at7 (fun K hK => ?_) AllReadyH.nil
             go_simp
             obtain ⟨w14, hv⟩ : ∃ w_ : World, w_ = (w13.alloc (.cells #[.int .i64 0, .slice none 0 0] 24)) := ⟨_, rfl⟩
             rw [← hv]
             have o5 : A50 < w13.heap.size := ((M.out.2.2.2.2.2.2.2.1)).lt
             replace M := Lib.hid (And.intro (hv ▸ bx1 w13 24 #[.int .i64 0, .slice none 0 0]) (Goes.go M.out (hv ▸ below_alloc _ _ : Below w13.heap.size w13 w14)))
             clear hv
             refine hK.out _ _ (⟨(M.out.2.2.2.2.2.1).at.1 0, (M.out.2.2.2.2.2.1).at.1 1, (M.out.2.2.2.2.2.1).at.1 2, (M.out.2.2.2.2.2.1).at.1 3⟩) (fun hH146 => ?_)
             clear hK K hH139
             (try simp only [Act.put, List.setIfInBounds_toArray, List.set_cons_zero, List.set_cons_succ])
             refine wpAnyH_ready (rs := [6]) (by kernel_rfl) (by simp) ?_
             refine AllReadyH.cons at6 (fun K hK => ?_) AllReadyH.nil
             go_simp
             refine (fracFloor_neg (G := G) (q := q) (z := z137) (f := (-f)) (Nat.le_trans hG (M.out.2.2.2.2.2.2.2.2.2).size) (M.out.2.1) (H1.out.keep (M.out.2.2.2.2.2.2.2.2.2)).d (Fz.mono HQ.out (by omega)) Ez137.out HFG.out).mono ?_
             rintro e w15 ⟨a_147, c_148, rfl, hd149, hb⟩
             replace M := Lib.hid (And.intro hd149 (Goes.go M.out hb))
             clear hb hd149
             (try go_wp2_with fail)
             refine hK.out _ _ (⟨(M.out.2.2.2.2.2.2.1).at.1 0, (M.out.2.2.2.2.2.2.1).at.1 1, (M.out.2.2.2.2.2.2.1).at.1 2, (M.out.2.2.2.2.2.2.1).at.1 3⟩) (fun hH150 => ?_)
             clear hK K hH146
             (try simp only [Act.put, List.setIfInBounds_toArray, List.set_cons_zero, List.set_cons_succ])
             refine wpAnyH_ready (rs := [8]) (by kernel_rfl) (by simp) ?_
             refine AllReadyH.cons at8 (fun K hK => ?_) AllReadyH.nil
             have y5 := (M.out.2.1).c2; have p5_0 := y5.1; have q5_0 := y5.2.1; have p5_1 := y5.2.2.1; have q5_1 := y5.2.2.2; clear y5
             go_simp
             clear p5_0 q5_0 p5_1 q5_1
             obtain ⟨w16, hv⟩ : ∃ w_ : World, w_ = ((w15.setCell ⟨w13.heap.size, 0, none⟩ (.int .i64 (sg (-f)))).setCell ⟨w13.heap.size, 1, none⟩ (.slice a_147 (ln (-f)) c_148)) := ⟨_, rfl⟩
             rw [← hv]
             have og : w15.grownBy w16 (some w13.heap.size) := by rw [hv]; exact (only_setCell (only_setCell (World.grownBy.refl _ _) _) _)
             have hz : w.heap.size ≤ w13.heap.size := by omega
             have hk : Bx w16 w13.heap.size 24 #[.int .i64 (sg (-f)), .slice a_147 (ln (-f)) c_148] := by rw [hv]; exact (((M.out.2.1).set 0 _).set 1 _)
             have hbw : Below w.heap.size w w16 := by rw [hv]; exact (Below.setCell (Below.setCell (M.out.2.2.2.2.2.2.2.2.2.2) (by omega) _) (by omega) _)
             replace M := Lib.hid (And.intro ((M.out.1).far (M.out.2.1) (by rfl) (by omega) og) (And.intro hk (And.intro ((M.out.2.2.1).far (M.out.2.1) (by rfl) (by omega) og) (And.intro ((M.out.2.2.2.1).far (M.out.2.1) (by rfl) (by omega) og) (And.intro ((M.out.2.2.2.2.1).far (M.out.2.1) (by rfl) (by omega) og) (And.intro ((M.out.2.2.2.2.2.1).far (M.out.2.1) (by rfl) (by omega) og) (And.intro ((M.out.2.2.2.2.2.2.1).only og (by omega)) (And.intro ((M.out.2.2.2.2.2.2.2.1).only og (by omega)) (And.intro ((M.out.2.2.2.2.2.2.2.2.1).only og (by omega)) (And.intro ((M.out.2.2.2.2.2.2.2.2.2.1).only og (by omega)) hbw))))))))))
             clear hk hbw og hv hz
             refine hK.out _ _ (⟨(M.out.2.2.2.2.2.2.1).at.1 0, (M.out.2.2.2.2.2.2.1).at.1 1, (M.out.2.2.2.2.2.2.1).at.1 2, (M.out.2.2.2.2.2.2.1).at.1 3⟩) (fun hH151 => ?_)
             clear hK K hH150
             (try simp only [Act.put, List.setIfInBounds_toArray, List.set_cons_zero, List.set_cons_succ])
             refine wpAnyH_done (by kernel_rfl) ?_ _
             clear hH151
             go_wp2_with fail
             go_meet
             exact ⟨w13.heap.size, a_135, c_136, z137, a_147, c_148, rfl, Ez137, Sz137, (by omega), (M.out.2.1), (M.out.1), (M.out.2.2.1), (M.out.2.2.2.1), (M.out.2.2.2.2.1), (M.out.2.2.2.2.2.1), (M.out.2.2.2.2.2.2.1), (M.out.2.2.2.2.2.2.2.1), (M.out.2.2.2.2.2.2.2.2.1), (M.out.2.2.2.2.2.2.2.2.2.1), (M.out.2.2.2.2.2.2.2.2.2.2)⟩
           refine AllReadyH.cons at7 (fun K hK => ?_) AllReadyH.nil
           go_simp
           obtain ⟨w13, hv⟩ : ∃ w_ : World, w_ = (w12.alloc (.cells #[.int .i64 0, .slice none 0 0] 24)) := ⟨_, rfl⟩
           rw [← hv]
           have o5 : A50 < w12.heap.size := ((M.out.2.2.2.2.2.2.1)).lt
           replace M := Lib.hid (And.intro (hv ▸ bx1 w12 24 #[.int .i64 0, .slice none 0 0]) (Goes.go M.out (hv ▸ below_alloc _ _ : Below w12.heap.size w12 w13)))
           clear hv
           refine hK.out _ _ (⟨(M.out.2.2.2.2.1).at.1 0, (M.out.2.2.2.2.1).at.1 1, (M.out.2.2.2.2.1).at.1 2, (M.out.2.2.2.2.1).at.1 3⟩) (fun hH152 => ?_)
           clear hK K hH134
           (try simp only [Act.put, List.setIfInBounds_toArray, List.set_cons_zero, List.set_cons_succ])
           refine wpAnyH_ready (rs := [2]) (by kernel_rfl) (by simp) ?_
           refine AllReadyH.cons at2 (fun K hK => ?_) AllReadyH.nil
           go_simp
           obtain ⟨z155, ez155⟩ : ∃ v_ : Int, v_ = (-(nu q)) := ⟨_, rfl⟩
           refine (bigNeg_ok (G := G) (x := (nu q)) (H1.out.keep (M.out.2.2.2.2.2.2.2.2)).n (Sz.mono HQ.out.1 (by omega))).mono ?_
           rintro e w14 ⟨a_153, c_154, rfl, hd156, hb⟩
           rw [← ez155] at hd156 ⊢
           have Sz155 : Hid (Sz z155 30) := by show Sz z155 30; rw [ez155]; exact (Sz.neg HQ.out.1)
           have Ez155 := Lib.hid ez155; clear ez155
           replace M := Lib.hid (And.intro hd156 (Goes.go M.out hb))
           clear hb hd156
           (try go_wp2_with fail)
           refine hK.out _ _ (⟨(M.out.2.2.2.2.2.1).at.1 0, (M.out.2.2.2.2.2.1).at.1 1, (M.out.2.2.2.2.2.1).at.1 2, (M.out.2.2.2.2.2.1).at.1 3⟩) (fun hH157 => ?_)
           clear hK K hH152
           (try simp only [Act.put, List.setIfInBounds_toArray, List.set_cons_zero, List.set_cons_succ])
           refine tk at5 ?_
           refine wpAnyH_ready (rs := [6]) (by kernel_rfl) (by simp) ?_
           refine AllReadyH.cons at6 (fun K hK => ?_) AllReadyH.nil
           go_simp
           refine (fracFloor_neg (G := G) (q := q) (z := z155) (f := (-f)) (Nat.le_trans hG (M.out.2.2.2.2.2.2.2.2.2).size) (M.out.1) (H1.out.keep (M.out.2.2.2.2.2.2.2.2.2)).d (Fz.mono HQ.out (by omega)) Ez155.out HFG.out).mono ?_
           rintro e w15 ⟨a_158, c_159, rfl, hd160, hb⟩
           replace M := Lib.hid (And.intro hd160 (Goes.go M.out hb))
           clear hb hd160
           (try go_wp2_with fail)
           refine hK.out _ _ (⟨(M.out.2.2.2.2.2.2.1).at.1 0, (M.out.2.2.2.2.2.2.1).at.1 1, (M.out.2.2.2.2.2.2.1).at.1 2, (M.out.2.2.2.2.2.2.1).at.1 3⟩) (fun hH161 => ?_)
           clear hK K hH157
           (try simp only [Act.put, List.setIfInBounds_toArray, List.set_cons_zero, List.set_cons_succ])
           refine wpAnyH_ready (rs := [8]) (by kernel_rfl) (by simp) ?_
           refine AllReadyH.cons at8 (fun K hK => ?_) AllReadyH.nil
           have y5 := (M.out.2.2.1).c2; have p5_0 := y5.1; have q5_0 := y5.2.1; have p5_1 := y5.2.2.1; have q5_1 := y5.2.2.2; clear y5
           go_simp
           clear p5_0 q5_0 p5_1 q5_1
           obtain ⟨w16, hv⟩ : ∃ w_ : World, w_ = ((w15.setCell ⟨w12.heap.size, 0, none⟩ (.int .i64 (sg (-f)))).setCell ⟨w12.heap.size, 1, none⟩ (.slice a_158 (ln (-f)) c_159)) := ⟨_, rfl⟩
           rw [← hv]
           have og : w15.grownBy w16 (some w12.heap.size) := by rw [hv]; exact (only_setCell (only_setCell (World.grownBy.refl _ _) _) _)
           have hz : w.heap.size ≤ w12.heap.size := by omega
           have hk : Bx w16 w12.heap.size 24 #[.int .i64 (sg (-f)), .slice a_158 (ln (-f)) c_159] := by rw [hv]; exact (((M.out.2.2.1).set 0 _).set 1 _)
           have hbw : Below w.heap.size w w16 := by rw [hv]; exact (Below.setCell (Below.setCell (M.out.2.2.2.2.2.2.2.2.2.2) (by omega) _) (by omega) _)
           replace M := Lib.hid (And.intro ((M.out.1).far (M.out.2.2.1) (by rfl) (by omega) og) (And.intro ((M.out.2.1).far (M.out.2.2.1) (by rfl) (by omega) og) (And.intro hk (And.intro ((M.out.2.2.2.1).far (M.out.2.2.1) (by rfl) (by omega) og) (And.intro ((M.out.2.2.2.2.1).far (M.out.2.2.1) (by rfl) (by omega) og) (And.intro ((M.out.2.2.2.2.2.1).far (M.out.2.2.1) (by rfl) (by omega) og) (And.intro ((M.out.2.2.2.2.2.2.1).only og (by omega)) (And.intro ((M.out.2.2.2.2.2.2.2.1).only og (by omega)) (And.intro ((M.out.2.2.2.2.2.2.2.2.1).only og (by omega)) (And.intro ((M.out.2.2.2.2.2.2.2.2.2.1).only og (by omega)) hbw))))))))))
           clear hk hbw og hv hz
           refine hK.out _ _ (⟨(M.out.2.2.2.2.2.2.1).at.1 0, (M.out.2.2.2.2.2.2.1).at.1 1, (M.out.2.2.2.2.2.2.1).at.1 2, (M.out.2.2.2.2.2.2.1).at.1 3⟩) (fun hH162 => ?_)
           clear hK K hH161
           (try simp only [Act.put, List.setIfInBounds_toArray, List.set_cons_zero, List.set_cons_succ])
           refine wpAnyH_done (by kernel_rfl) ?_ _
           clear hH162
           go_wp2_with fail
           go_meet
           exact ⟨w12.heap.size, a_153, c_154, z155, a_158, c_159, rfl, Ez155, Sz155, (by omega), (M.out.2.2.1), (M.out.1), (M.out.2.1), (M.out.2.2.2.1), (M.out.2.2.2.2.1), (M.out.2.2.2.2.2.1), (M.out.2.2.2.2.2.2.1), (M.out.2.2.2.2.2.2.2.1), (M.out.2.2.2.2.2.2.2.2.1), (M.out.2.2.2.2.2.2.2.2.2.1), (M.out.2.2.2.2.2.2.2.2.2.2)⟩
         case rest =>
           obtain ⟨A133, a_126, c_127, z128, a_130, c_131, rfl, Ez128, Sz128, oA133, M⟩ := hcut
           obtain ⟨w12, rfl⟩ : ∃ w_ : World, w_ = wc := ⟨_, rfl⟩
           have y3 := (M.out.2.2.2.2.2.2.2.2.2.1).c4; have p3_0 := y3.1; have q3_0 := y3.2.1; have p3_1 := y3.2.2.1; have q3_1 := y3.2.2.2.1; have p3_2 := y3.2.2.2.2.1; have q3_2 := y3.2.2.2.2.2.1; have p3_3 := y3.2.2.2.2.2.2.1; have q3_3 := y3.2.2.2.2.2.2.2; clear y3
           have y0 := (M.out.2.2.2.2.2.2.1).c4; have p0_0 := y0.1; have q0_0 := y0.2.1; have p0_1 := y0.2.2.1; have q0_1 := y0.2.2.2.1; have p0_2 := y0.2.2.2.2.1; have q0_2 := y0.2.2.2.2.2.1; have p0_3 := y0.2.2.2.2.2.2.1; have q0_3 := y0.2.2.2.2.2.2.2; clear y0
           go_wp2_with fail
           clear p3_0 q3_0 p3_1 q3_1 p3_2 q3_2 p3_3 q3_3 p0_0 q0_0 p0_1 q0_1 p0_2 q0_2 p0_3 q0_3
           refine (rfsame_b (G := G) (q := fq) (r := q) (b := true) (M.out.2.2.2.1) (H1.out.keep (M.out.2.2.2.2.2.2.2.2.2.2)) (Fz.mono HSQ.out (by omega)) (Fz.mono HQ.out (by omega)) HW.out).mono ?_
           rintro e w13 ⟨rfl, hb⟩
           replace M := Lib.hid (Goes.go M.out hb)
           clear hb
           go_upto_region 12 with fail
           as_aux_lemma =>
            have y2 := (M.out.2.2.2.2.2.2.2.2.1).c2; have p2_0 := y2.1; have q2_0 := y2.2.1; have p2_1 := y2.2.2.1; have q2_1 := y2.2.2.2; clear y2
            go_wp2_with fail
            clear p2_0 q2_0 p2_1 q2_1
            replace M := Lib.hid (And.intro (M.out.1) (And.intro (M.out.2.1) (And.intro (M.out.2.2.2.2.1) (And.intro (M.out.2.2.2.2.2.1) (And.intro (M.out.2.2.2.2.2.2.2.1) (M.out.2.2.2.2.2.2.2.2.2.2))))))
            obtain ⟨z165, ez165⟩ : ∃ v_ : Int, v_ = (-z9) := ⟨_, rfl⟩
            refine (bigNeg_ok (G := G) (x := z9) (M.out.2.2.1) (Sz.mono Sz9.out (by omega))).mono ?_
            rintro e w14 ⟨a_163, c_164, rfl, hd166, hb⟩
            rw [← ez165] at hd166 ⊢
            have Sz165 : Hid (Sz z165 31) := by show Sz z165 31; rw [ez165]; exact (Sz.neg Sz9.out)
            have Ez165 := Lib.hid ez165; clear ez165
            replace M := Lib.hid (And.intro hd166 (Goes.go M.out hb))
            clear hb hd166
            go_upto_region 13 with fail
            obtain ⟨w15, hv⟩ : ∃ w_ : World, w_ = (w14.alloc (.cells #[.int .i64 (sg z165), .slice a_163 (ln z165) c_164] 24)) := ⟨_, rfl⟩
            rw [← hv]
            have o6 : A133 < w14.heap.size := ((M.out.2.1)).lt
            replace M := Lib.hid (And.intro (hv ▸ bx1 w14 24 #[.int .i64 (sg z165), .slice a_163 (ln z165) c_164]) (Goes.go M.out (hv ▸ below_alloc _ _ : Below w14.heap.size w14 w15)))
            clear hv
            have y1 := (M.out.2.2.2.2.2.2.1).c2; have p1_0 := y1.1; have q1_0 := y1.2.1; have p1_1 := y1.2.2.1; have q1_1 := y1.2.2.2; clear y1
            go_wp2_with fail
            clear p1_0 q1_0 p1_1 q1_1
            obtain ⟨z169, ez169⟩ : ∃ v_ : Int, v_ = (-f) := ⟨_, rfl⟩
            refine (bigNeg_ok (G := G) (x := f) (M.out.2.2.2.2.2.1) (Sz.mono HSF.out (by omega))).mono ?_
            rintro e w16 ⟨a_167, c_168, rfl, hd170, hb⟩
            rw [← ez169] at hd170 ⊢
            have Sz169 : Hid (Sz z169 30) := by show Sz z169 30; rw [ez169]; exact (Sz.neg HSF.out)
            have Ez169 := Lib.hid ez169; clear ez169
            replace M := Lib.hid (And.intro hd170 (Goes.go M.out hb))
            clear hb hd170
            have y6 := (M.out.2.1).c2; have p6_0 := y6.1; have q6_0 := y6.2.1; have p6_1 := y6.2.2.1; have q6_1 := y6.2.2.2; clear y6
            go_upto_region 15 with fail
            clear p6_0 q6_0 p6_1 q6_1
            obtain ⟨w17, hv⟩ : ∃ w_ : World, w_ = ((w16.setCell ⟨w14.heap.size, 0, none⟩ (.int .i64 (sg z169))).setCell ⟨w14.heap.size, 1, none⟩ (.slice a_167 (ln z169) c_168)) := ⟨_, rfl⟩
            rw [← hv]
            have og : w16.grownBy w17 (some w14.heap.size) := by rw [hv]; exact (only_setCell (only_setCell (World.grownBy.refl _ _) _) _)
            have hz : w.heap.size ≤ w14.heap.size := by omega
            have hk : Bx w17 w14.heap.size 24 #[.int .i64 (sg z169), .slice a_167 (ln z169) c_168] := by rw [hv]; exact (((M.out.2.1).set 0 _).set 1 _)
            have hbw : Below w.heap.size w w17 := by rw [hv]; exact (Below.setCell (Below.setCell (M.out.2.2.2.2.2.2.2.2) (by omega) _) (by omega) _)
            replace M := Lib.hid (And.intro ((M.out.1).far (M.out.2.1) (by rfl) (by omega) og) (And.intro hk (And.intro ((M.out.2.2.1).far (M.out.2.1) (by rfl) (by omega) og) (And.intro ((M.out.2.2.2.1).only og (by omega)) (And.intro ((M.out.2.2.2.2.1).far (M.out.2.1) (by rfl) (by omega) og) (And.intro ((M.out.2.2.2.2.2.1).far (M.out.2.1) (by rfl) (by omega) og) (And.intro ((M.out.2.2.2.2.2.2.1).far (M.out.2.1) (by rfl) (by omega) og) (And.intro ((M.out.2.2.2.2.2.2.2.1).only og (by omega)) hbw))))))))
            clear hk hbw og hv hz
            have y5 := (M.out.2.2.2.1).c2; have p5_0 := y5.1; have q5_0 := y5.2.1; have p5_1 := y5.2.2.1; have q5_1 := y5.2.2.2; clear y5
            have y6 := (M.out.2.1).c2; have p6_0 := y6.1; have q6_0 := y6.2.1; have p6_1 := y6.2.2.1; have q6_1 := y6.2.2.2; clear y6
            go_wp2_with fail
            clear p5_0 q5_0 p5_1 q5_1 p6_0 q6_0 p6_1 q6_1
            replace M := Lib.hid (And.intro (M.out.1) (And.intro (M.out.2.2.2.2.1) (M.out.2.2.2.2.2.2.2.2)))
            refine (samebig_is (G := G) (x := (-f)) (y := z169) (b := true) (M.out.2.1) (M.out.1) (Sz.mono (Sz.neg HSF.out) (by omega)) (Sz.mono Sz169.out (by omega)) (eqZ_of (by rw [Ez169.out] <;> rfl))).mono ?_
            rintro e w18 ⟨rfl, hb⟩
            replace M := Lib.hid (Goes.go M.out hb)
            clear hb
            go_wp2_with fail
            refine (of_is (G := G) (x := n) (y := 1) (q := (Rat.divInt n 1)) (Nat.le_trans hG (M.out.2.2).size) HNI.out (by decide) (by decide) rfl).mono ?_
            rintro e w19 ⟨a_171, c_172, b_173, d_174, rfl, hd175, hb⟩
            replace M := Lib.hid (And.intro hd175 (Goes.go M.out hb))
            clear hb hd175
            go_wp2_with fail
            refine (fracFloor_is (G := G) (q := (Rat.divInt n 1)) (f := n) (Nat.le_trans hG (M.out.2.2.2).size) (M.out.1) (Fz.mono (new_size (n := 4) (by decide) (sz_int (n := 0) HNI.out) (by unfold Sz; decide)) (by omega)) HFN.out).mono ?_
            rintro e w20 ⟨a_176, c_177, rfl, hd178, hb⟩
            replace M := Lib.hid (And.intro hd178 (Goes.go M.out hb))
            clear hb hd178
            go_wp2_with fail
            refine (bigOf_ok (G := G) n _ HNI.out).mono ?_
            rintro e w21 ⟨a_179, c_180, rfl, hd181, hb⟩
            replace M := Lib.hid (And.intro hd181 (Goes.go M.out hb))
            clear hb hd181
            go_wp2_with fail
            refine (samebig_is (G := G) (x := n) (y := n) (b := true) (M.out.2.1) (M.out.1) (Sz.mono (sz_int (n := 0) HNI.out) (by omega)) (Sz.mono (sz_int (n := 0) HNI.out) (by omega)) (eqZ_of rfl)).mono ?_
            rintro e w22 ⟨rfl, hb⟩
            replace M := Lib.hid (Goes.go M.out hb)
            clear hb
            go_wp2_with fail
            go_ret
            exact ⟨rfl, (M.out.2.2.2.2.2)⟩

set_option maxRecDepth 100000 in
set_option maxHeartbeats 4000000 in
theorem floor_part {n : Int} {q : Rat} {a1 b1 : Option Addr} {c1 d1 : Nat} {w : World} (hG : G ≤ w.heap.size) (ht : Tab w) (hm : Mx w) (h1 : FD G w a1 c1 b1 d1 q) (hq : Fz q 30) (hn : -9223372036854775808 ≤ n ∧ n ≤ 9223372036854775807) (hw : ((flo q : Int) : Rat) ≠ q) :
    Calls Tryz.prog 7 #[.agg #[.int .i64 (sg (nu q)), .slice a1 (ln (nu q)) c1, .int .i64 (sg (de q)), .slice b1 (ln (de q)) d1], .int .i64 n] w fun e w' => e = .returned (.bool true) ∧ Below w.heap.size w w' := by
  obtain ⟨f, hf⟩ : ∃ f, flo q = f := ⟨_, rfl⟩
  rw [hf] at hw
  obtain ⟨k1, hk1⟩ : ∃ k, ordQ (f : Rat) q = k := ⟨_, rfl⟩
  have hle := flo_le hf
  have hlt := flo_lt hf
  have n1 : decide (0 < k1) = false := by rw [← hk1]; exact decide_eq_false (ordQ_up hle)
  obtain ⟨fq, hfq⟩ : ∃ x : Rat, (f : Rat) = x := ⟨_, rfl⟩
  obtain ⟨f1, hf1⟩ : ∃ x : Rat, (f : Rat) + 1 = x := ⟨_, rfl⟩
  have HK1 : Hid (ordQ fq q = k1) := by show _ = _; rw [← hfq, hk1]
  have HK2 : Hid (ordQ f1 q = 1) := by show _ = _; rw [← hf1]; exact ordQ_ge hlt
  have HN1 : Hid (Rat.divInt f 1 = fq) := by show _ = _; rw [rat_int, hfq]
  have HN2 : Hid (Rat.divInt (f + 1) 1 = f1) := by show _ = _; rw [rat_int, Rat.intCast_add, ← hf1]; rfl
  have HSF : Hid (Sz f 30) := by show Sz _ _; rw [← hf]; exact flo_size hq
  have HSQ : Hid (Fz fq 31) := by show Fz _ _; rw [← hfq]; exact Fz.int (HSF.out.mono (by omega)) (by omega)
  have HSR : Hid (Fz f1 32) := by show Fz _ _; rw [← HN2.out]; exact new_size (by decide) ((Sz.add (n := 30) HSF.out (by unfold Sz; decide)).mono (by omega)) (by unfold Sz; decide)
  have HW : Hid (decide (fq = q) = false) := by show _ = _; rw [← hfq]; exact decide_eq_false hw
  have HFG : Hid (flo (-q) = -(f + 1)) := flo_neg_part hf hw
  have HF := Lib.hid hf
  have HNI := Lib.hid hn
  have HFN : Hid (flo (Rat.divInt n 1) = n) := by show _ = _; rw [rat_int, flo_floor]; exact Rat.floor_intCast n
  clear hf hk1 hle hlt hfq hf1 hw hn
  have HQ := Lib.hid hq
  clear hq
  have HT : Hid (Tab w) := ht
  have HM : Hid (Mx w) := hm
  have H1 : Hid (FD G w a1 c1 b1 d1 q) := h1
  clear ht hm h1
  have M : Hid (Below w.heap.size w w) := Below.refl _ _
  go_enter Tryz.func7, Tryz.ntmps7
  go_upto_region 1 with fail
  obtain ⟨w1, hv⟩ : ∃ w_ : World, w_ = (w.alloc (.cells #[.int .i64 (sg (nu q)), .slice a1 (ln (nu q)) c1, .int .i64 (sg (de q)), .slice b1 (ln (de q)) d1] 26)) := ⟨_, rfl⟩
  rw [← hv]
  replace M := Lib.hid (And.intro (hv ▸ bx1 w 26 #[.int .i64 (sg (nu q)), .slice a1 (ln (nu q)) c1, .int .i64 (sg (de q)), .slice b1 (ln (de q)) d1]) (Goes.go M.out (hv ▸ below_alloc _ _ : Below w.heap.size w w1)))
  clear hv
  go_wp2_with fail
  refine (small_ok (G := G) (Nat.le_trans hG (M.out.2).size) (HT.out.keep (M.out.2)) (HM.out.keep (M.out.2))).mono ?_
  rintro e w2 ⟨rfl, hb⟩
  replace M := Lib.hid (Goes.go M.out hb)
  clear hb
  have y0 := (M.out.1).c4; have p0_0 := y0.1; have q0_0 := y0.2.1; have p0_1 := y0.2.2.1; have q0_1 := y0.2.2.2.1; have p0_2 := y0.2.2.2.2.1; have q0_2 := y0.2.2.2.2.2.1; have p0_3 := y0.2.2.2.2.2.2.1; have q0_3 := y0.2.2.2.2.2.2.2; clear y0
  go_wp2_with fail
  clear p0_0 q0_0 p0_1 q0_1 p0_2 q0_2 p0_3 q0_3
  refine (rfFew_ok (s := (sg (nu q))) (t := (sg (de q))) (m := 30) (r := true) (few_fz HQ.out rfl)).mono ?_
  rintro e w3 ⟨rfl, hb⟩
  replace M := Lib.hid (Goes.go M.out hb)
  clear hb
  have y0 := (M.out.1).c4; have p0_0 := y0.1; have q0_0 := y0.2.1; have p0_1 := y0.2.2.1; have q0_1 := y0.2.2.2.1; have p0_2 := y0.2.2.2.2.1; have q0_2 := y0.2.2.2.2.2.1; have p0_3 := y0.2.2.2.2.2.2.1; have q0_3 := y0.2.2.2.2.2.2.2; clear y0
  go_wp2_with fail
  clear p0_0 q0_0 p0_1 q0_1 p0_2 q0_2 p0_3 q0_3
  refine (fracRight_ok (G := G) (q := q) (H1.out.keep (M.out.2)) (Fz.mono HQ.out (by omega))).mono ?_
  rintro e w4 ⟨rfl, hb⟩
  replace M := Lib.hid (Goes.go M.out hb)
  clear hb
  have y0 := (M.out.1).c4; have p0_0 := y0.1; have q0_0 := y0.2.1; have p0_1 := y0.2.2.1; have q0_1 := y0.2.2.2.1; have p0_2 := y0.2.2.2.2.1; have q0_2 := y0.2.2.2.2.2.1; have p0_3 := y0.2.2.2.2.2.2.1; have q0_3 := y0.2.2.2.2.2.2.2; clear y0
  go_wp2_with fail
  clear p0_0 q0_0 p0_1 q0_1 p0_2 q0_2 p0_3 q0_3
  refine (fracFloor_is (G := G) (q := q) (f := f) (Nat.le_trans hG (M.out.2).size) (H1.out.keep (M.out.2)) (Fz.mono HQ.out (by omega)) HF.out).mono ?_
  rintro e w5 ⟨a_1, c_2, rfl, hd3, hb⟩
  replace M := Lib.hid (And.intro hd3 (Goes.go M.out hb))
  clear hb hd3
  go_upto_region 5 with fail
  obtain ⟨w6, hv⟩ : ∃ w_ : World, w_ = (w5.alloc (.cells #[.int .i64 (sg f), .slice a_1 (ln f) c_2] 24)) := ⟨_, rfl⟩
  rw [← hv]
  have o1 : w.heap.size < w5.heap.size := ((M.out.2.1)).lt
  replace M := Lib.hid (And.intro (hv ▸ bx1 w5 24 #[.int .i64 (sg f), .slice a_1 (ln f) c_2]) (Goes.go M.out (hv ▸ below_alloc _ _ : Below w5.heap.size w5 w6)))
  clear hv
  go_cut [7, 8] (fun s7 s8 wx => ∃ (A11 : Nat), ∃ (a_4 : Option Addr), ∃ (c_5 : Nat), ∃ (a_7 : Option Addr), ∃ (c_8 : Nat), ∃ (z9 : Int), s7 = .pointer (some ⟨A11, 0, none⟩) ∧ s8 = .int .i64 0 ∧ Hid (z9 = (f + 1)) ∧ Hid (Sz z9 31) ∧ w5.heap.size < A11 ∧ Hid (Bx wx A11 24 #[.int .i64 (sg z9), .slice a_7 (ln z9) c_8] ∧ BD G wx a_7 c_8 z9 ∧ BD G wx a_4 c_5 1 ∧ BD G wx a_1 c_2 f ∧ Bx wx w.heap.size 26 #[.int .i64 (sg (nu q)), .slice a1 (ln (nu q)) c1, .int .i64 (sg (de q)), .slice b1 (ln (de q)) d1] ∧ Bx wx w5.heap.size 24 #[.int .i64 (sg f), .slice a_1 (ln f) c_2] ∧ Below w.heap.size w wx))
  case first =>
    obtain ⟨w7, hv⟩ : ∃ w_ : World, w_ = w6.drew := ⟨_, rfl⟩
    replace M := Lib.hid (Goes.go M.out (hv ▸ below_drew _ : Below w6.heap.size w6 w7))
    refine wp_region_held_drew (S := (fun w' => w'.cell? ⟨w5.heap.size, 0, none⟩ = some (.int .i64 (sg f)) ∧ w'.cell? ⟨w5.heap.size, 1, none⟩ = some (.slice a_1 (ln f) c_2))) (by kernel_rfl) (by rw [← hv]; exact ⟨(M.out.1).at.1 0, (M.out.1).at.1 1⟩) (fun hH12 => ?_)
    rw [← hv] at hH12 ⊢
    clear hv
    refine tk at0 ?_
    refine wpAnyH_ready (rs := [1, 6]) (by kernel_rfl) (by simp) ?_
    refine AllReadyH.cons at1 (fun K hK => ?_) ?_
    ·
      go_simp
      refine (bigOf_ok (G := G) 1 _ (by decide)).mono ?_
      rintro e w8 ⟨a_13, c_14, rfl, hd15, hb⟩
      replace M := Lib.hid (And.intro hd15 (Goes.go M.out hb))
      clear hb hd15
      (try go_wp2_with fail)
      refine hK.out _ _ (⟨(M.out.2.1).at.1 0, (M.out.2.1).at.1 1⟩) (fun hH16 => ?_)
      clear hK K hH12
      (try simp only [Act.put, List.setIfInBounds_toArray, List.set_cons_zero, List.set_cons_succ])
      refine wpAnyH_ready (rs := [2, 6]) (by kernel_rfl) (by simp) ?_
      refine AllReadyH.cons at2 (fun K hK => ?_) ?_
      ·
        go_simp
        obtain ⟨z19, ez19⟩ : ∃ v_ : Int, v_ = (f + 1) := ⟨_, rfl⟩
        refine (bigAdd_ok (G := G) (x := f) (y := 1) (M.out.2.2.1) (M.out.1) (Sz.mono HSF.out (by omega)) (Sz.mono (show Sz (1) 1 from by unfold Sz; decide) (by omega))).mono ?_
        rintro e w9 ⟨a_17, c_18, rfl, hd20, hb⟩
        rw [← ez19] at hd20 ⊢
        have Sz19 : Hid (Sz z19 31) := by show Sz z19 31; rw [ez19]; exact (Sz.add HSF.out (Sz.mono (show Sz (1) 1 from by unfold Sz; decide) (by omega)))
        have Ez19 := Lib.hid ez19; clear ez19
        replace M := Lib.hid (And.intro hd20 (Goes.go M.out hb))
        clear hb hd20
        (try go_wp2_with fail)
        refine hK.out _ _ (⟨(M.out.2.2.1).at.1 0, (M.out.2.2.1).at.1 1⟩) (fun hH21 => ?_)
        clear hK K hH16
        (try simp only [Act.put, List.setIfInBounds_toArray, List.set_cons_zero, List.set_cons_succ])
        refine tk at3 ?_
        refine tk at4 ?_
        refine tk at5 ?_
        refine wpAnyH_ready (rs := [6]) (by kernel_rfl) (by simp) ?_
        refine AllReadyH.cons at6 (fun K hK => ?_) AllReadyH.nil
        go_simp
        obtain ⟨w10, hv⟩ : ∃ w_ : World, w_ = (w9.alloc (.cells #[.int .i64 0, .slice none 0 0] 24)) := ⟨_, rfl⟩
        rw [← hv]
        have o2 : w5.heap.size < w9.heap.size := ((M.out.2.2.1)).lt
        replace M := Lib.hid (And.intro (hv ▸ bx1 w9 24 #[.int .i64 0, .slice none 0 0]) (Goes.go M.out (hv ▸ below_alloc _ _ : Below w9.heap.size w9 w10)))
        clear hv
        refine hK.out _ _ (⟨(M.out.2.2.2.1).at.1 0, (M.out.2.2.2.1).at.1 1⟩) (fun hH22 => ?_)
        clear hK K hH21
        (try simp only [Act.put, List.setIfInBounds_toArray, List.set_cons_zero, List.set_cons_succ])
        refine wpAnyH_ready (rs := [7]) (by kernel_rfl) (by simp) ?_
        refine AllReadyH.cons at7 (fun K hK => ?_) AllReadyH.nil
        have y2 := (M.out.1).c2; have p2_0 := y2.1; have q2_0 := y2.2.1; have p2_1 := y2.2.2.1; have q2_1 := y2.2.2.2; clear y2
        go_simp
        clear p2_0 q2_0 p2_1 q2_1
        obtain ⟨w11, hv⟩ : ∃ w_ : World, w_ = ((w10.setCell ⟨w9.heap.size, 0, none⟩ (.int .i64 (sg z19))).setCell ⟨w9.heap.size, 1, none⟩ (.slice a_17 (ln z19) c_18)) := ⟨_, rfl⟩
        rw [← hv]
        have og : w10.grownBy w11 (some w9.heap.size) := by rw [hv]; exact (only_setCell (only_setCell (World.grownBy.refl _ _) _) _)
        have hz : w.heap.size ≤ w9.heap.size := by omega
        have hk : Bx w11 w9.heap.size 24 #[.int .i64 (sg z19), .slice a_17 (ln z19) c_18] := by rw [hv]; exact (((M.out.1).set 0 _).set 1 _)
        have hbw : Below w.heap.size w w11 := by rw [hv]; exact (Below.setCell (Below.setCell (M.out.2.2.2.2.2.2) (by omega) _) (by omega) _)
        replace M := Lib.hid (And.intro hk (And.intro ((M.out.2.1).far (M.out.1) (by rfl) (by omega) og) (And.intro ((M.out.2.2.1).far (M.out.1) (by rfl) (by omega) og) (And.intro ((M.out.2.2.2.1).only og (by omega)) (And.intro ((M.out.2.2.2.2.1).far (M.out.1) (by rfl) (by omega) og) (And.intro ((M.out.2.2.2.2.2.1).only og (by omega)) hbw))))))
        clear hk hbw og hv hz
        refine hK.out _ _ (⟨(M.out.2.2.2.1).at.1 0, (M.out.2.2.2.1).at.1 1⟩) (fun hH23 => ?_)
        clear hK K hH22
        (try simp only [Act.put, List.setIfInBounds_toArray, List.set_cons_zero, List.set_cons_succ])
        refine tk at8 ?_
        refine wpAnyH_done (by kernel_rfl) ?_ _
        clear hH23
        go_wp2_with fail
        go_meet
        exact ⟨w9.heap.size, a_13, c_14, a_17, c_18, z19, rfl, rfl, Ez19, Sz19, (by omega), (M.out.1), (M.out.2.1), (M.out.2.2.1), (M.out.2.2.2.2.1), (M.out.2.2.2.2.2.1), (M.out.2.2.2.1), (M.out.2.2.2.2.2.2)⟩
      refine AllReadyH.cons at6 (fun K hK => ?_) AllReadyH.nil
      go_simp
      obtain ⟨w9, hv⟩ : ∃ w_ : World, w_ = (w8.alloc (.cells #[.int .i64 0, .slice none 0 0] 24)) := ⟨_, rfl⟩
      rw [← hv]
      have o2 : w5.heap.size < w8.heap.size := ((M.out.2.1)).lt
      replace M := Lib.hid (And.intro (hv ▸ bx1 w8 24 #[.int .i64 0, .slice none 0 0]) (Goes.go M.out (hv ▸ below_alloc _ _ : Below w8.heap.size w8 w9)))
      clear hv
      refine hK.out _ _ (⟨(M.out.2.2.1).at.1 0, (M.out.2.2.1).at.1 1⟩) (fun hH24 => ?_)
      clear hK K hH16
      (try simp only [Act.put, List.setIfInBounds_toArray, List.set_cons_zero, List.set_cons_succ])
      refine wpAnyH_ready (rs := [2]) (by kernel_rfl) (by simp) ?_
      refine AllReadyH.cons at2 (fun K hK => ?_) AllReadyH.nil
      go_simp
      obtain ⟨z27, ez27⟩ : ∃ v_ : Int, v_ = (f + 1) := ⟨_, rfl⟩
      refine (bigAdd_ok (G := G) (x := f) (y := 1) (M.out.2.2.2.1) (M.out.2.1) (Sz.mono HSF.out (by omega)) (Sz.mono (show Sz (1) 1 from by unfold Sz; decide) (by omega))).mono ?_
      rintro e w10 ⟨a_25, c_26, rfl, hd28, hb⟩
      rw [← ez27] at hd28 ⊢
      have Sz27 : Hid (Sz z27 31) := by show Sz z27 31; rw [ez27]; exact (Sz.add HSF.out (Sz.mono (show Sz (1) 1 from by unfold Sz; decide) (by omega)))
      have Ez27 := Lib.hid ez27; clear ez27
      replace M := Lib.hid (And.intro hd28 (Goes.go M.out hb))
      clear hb hd28
      (try go_wp2_with fail)
      refine hK.out _ _ (⟨(M.out.2.2.2.1).at.1 0, (M.out.2.2.2.1).at.1 1⟩) (fun hH29 => ?_)
      clear hK K hH24
      (try simp only [Act.put, List.setIfInBounds_toArray, List.set_cons_zero, List.set_cons_succ])
      refine tk at3 ?_
      refine tk at4 ?_
      refine tk at5 ?_
      refine wpAnyH_ready (rs := [7]) (by kernel_rfl) (by simp) ?_
      refine AllReadyH.cons at7 (fun K hK => ?_) AllReadyH.nil
      have y2 := (M.out.2.1).c2; have p2_0 := y2.1; have q2_0 := y2.2.1; have p2_1 := y2.2.2.1; have q2_1 := y2.2.2.2; clear y2
      go_simp
      clear p2_0 q2_0 p2_1 q2_1
      obtain ⟨w11, hv⟩ : ∃ w_ : World, w_ = ((w10.setCell ⟨w8.heap.size, 0, none⟩ (.int .i64 (sg z27))).setCell ⟨w8.heap.size, 1, none⟩ (.slice a_25 (ln z27) c_26)) := ⟨_, rfl⟩
      rw [← hv]
      have og : w10.grownBy w11 (some w8.heap.size) := by rw [hv]; exact (only_setCell (only_setCell (World.grownBy.refl _ _) _) _)
      have hz : w.heap.size ≤ w8.heap.size := by omega
      have hk : Bx w11 w8.heap.size 24 #[.int .i64 (sg z27), .slice a_25 (ln z27) c_26] := by rw [hv]; exact (((M.out.2.1).set 0 _).set 1 _)
      have hbw : Below w.heap.size w w11 := by rw [hv]; exact (Below.setCell (Below.setCell (M.out.2.2.2.2.2.2) (by omega) _) (by omega) _)
      replace M := Lib.hid (And.intro ((M.out.1).far (M.out.2.1) (by rfl) (by omega) og) (And.intro hk (And.intro ((M.out.2.2.1).far (M.out.2.1) (by rfl) (by omega) og) (And.intro ((M.out.2.2.2.1).only og (by omega)) (And.intro ((M.out.2.2.2.2.1).far (M.out.2.1) (by rfl) (by omega) og) (And.intro ((M.out.2.2.2.2.2.1).only og (by omega)) hbw))))))
      clear hk hbw og hv hz
      refine hK.out _ _ (⟨(M.out.2.2.2.1).at.1 0, (M.out.2.2.2.1).at.1 1⟩) (fun hH30 => ?_)
      clear hK K hH29
      (try simp only [Act.put, List.setIfInBounds_toArray, List.set_cons_zero, List.set_cons_succ])
      refine tk at8 ?_
      refine wpAnyH_done (by kernel_rfl) ?_ _
      clear hH30
      go_wp2_with fail
      go_meet
      exact ⟨w8.heap.size, a_13, c_14, a_25, c_26, z27, rfl, rfl, Ez27, Sz27, (by omega), (M.out.2.1), (M.out.1), (M.out.2.2.1), (M.out.2.2.2.2.1), (M.out.2.2.2.2.2.1), (M.out.2.2.2.1), (M.out.2.2.2.2.2.2)⟩
    refine AllReadyH.cons at6 (fun K hK => ?_) AllReadyH.nil
    go_simp
    obtain ⟨w8, hv⟩ : ∃ w_ : World, w_ = (w7.alloc (.cells #[.int .i64 0, .slice none 0 0] 24)) := ⟨_, rfl⟩
    rw [← hv]
    have o2 : w5.heap.size < w7.heap.size := ((M.out.1)).lt
    replace M := Lib.hid (And.intro (hv ▸ bx1 w7 24 #[.int .i64 0, .slice none 0 0]) (Goes.go M.out (hv ▸ below_alloc _ _ : Below w7.heap.size w7 w8)))
    clear hv
    refine hK.out _ _ (⟨(M.out.2.1).at.1 0, (M.out.2.1).at.1 1⟩) (fun hH31 => ?_)
    clear hK K hH12
    (try simp only [Act.put, List.setIfInBounds_toArray, List.set_cons_zero, List.set_cons_succ])
    refine wpAnyH_ready (rs := [1]) (by kernel_rfl) (by simp) ?_
    refine AllReadyH.cons at1 (fun K hK => ?_) AllReadyH.nil
    go_simp
    refine (bigOf_ok (G := G) 1 _ (by decide)).mono ?_
    rintro e w9 ⟨a_32, c_33, rfl, hd34, hb⟩
    replace M := Lib.hid (And.intro hd34 (Goes.go M.out hb))
    clear hb hd34
    (try go_wp2_with fail)
    refine hK.out _ _ (⟨(M.out.2.2.1).at.1 0, (M.out.2.2.1).at.1 1⟩) (fun hH35 => ?_)
    clear hK K hH31
    (try simp only [Act.put, List.setIfInBounds_toArray, List.set_cons_zero, List.set_cons_succ])
    refine wpAnyH_ready (rs := [2]) (by kernel_rfl) (by simp) ?_
    refine AllReadyH.cons at2 (fun K hK => ?_) AllReadyH.nil
    go_simp
    obtain ⟨z38, ez38⟩ : ∃ v_ : Int, v_ = (f + 1) := ⟨_, rfl⟩
    refine (bigAdd_ok (G := G) (x := f) (y := 1) (M.out.2.2.2.1) (M.out.1) (Sz.mono HSF.out (by omega)) (Sz.mono (show Sz (1) 1 from by unfold Sz; decide) (by omega))).mono ?_
    rintro e w10 ⟨a_36, c_37, rfl, hd39, hb⟩
    rw [← ez38] at hd39 ⊢
    have Sz38 : Hid (Sz z38 31) := by show Sz z38 31; rw [ez38]; exact (Sz.add HSF.out (Sz.mono (show Sz (1) 1 from by unfold Sz; decide) (by omega)))
    have Ez38 := Lib.hid ez38; clear ez38
    replace M := Lib.hid (And.intro hd39 (Goes.go M.out hb))
    clear hb hd39
    (try go_wp2_with fail)
    refine hK.out _ _ (⟨(M.out.2.2.2.1).at.1 0, (M.out.2.2.2.1).at.1 1⟩) (fun hH40 => ?_)
    clear hK K hH35
    (try simp only [Act.put, List.setIfInBounds_toArray, List.set_cons_zero, List.set_cons_succ])
    refine tk at3 ?_
    refine tk at4 ?_
    refine tk at5 ?_
    refine wpAnyH_ready (rs := [7]) (by kernel_rfl) (by simp) ?_
    refine AllReadyH.cons at7 (fun K hK => ?_) AllReadyH.nil
    have y2 := (M.out.2.2.1).c2; have p2_0 := y2.1; have q2_0 := y2.2.1; have p2_1 := y2.2.2.1; have q2_1 := y2.2.2.2; clear y2
    go_simp
    clear p2_0 q2_0 p2_1 q2_1
    obtain ⟨w11, hv⟩ : ∃ w_ : World, w_ = ((w10.setCell ⟨w7.heap.size, 0, none⟩ (.int .i64 (sg z38))).setCell ⟨w7.heap.size, 1, none⟩ (.slice a_36 (ln z38) c_37)) := ⟨_, rfl⟩
    rw [← hv]
    have og : w10.grownBy w11 (some w7.heap.size) := by rw [hv]; exact (only_setCell (only_setCell (World.grownBy.refl _ _) _) _)
    have hz : w.heap.size ≤ w7.heap.size := by omega
    have hk : Bx w11 w7.heap.size 24 #[.int .i64 (sg z38), .slice a_36 (ln z38) c_37] := by rw [hv]; exact (((M.out.2.2.1).set 0 _).set 1 _)
    have hbw : Below w.heap.size w w11 := by rw [hv]; exact (Below.setCell (Below.setCell (M.out.2.2.2.2.2.2) (by omega) _) (by omega) _)
    replace M := Lib.hid (And.intro ((M.out.1).far (M.out.2.2.1) (by rfl) (by omega) og) (And.intro ((M.out.2.1).far (M.out.2.2.1) (by rfl) (by omega) og) (And.intro hk (And.intro ((M.out.2.2.2.1).only og (by omega)) (And.intro ((M.out.2.2.2.2.1).far (M.out.2.2.1) (by rfl) (by omega) og) (And.intro ((M.out.2.2.2.2.2.1).only og (by omega)) hbw))))))
    clear hk hbw og hv hz
    refine hK.out _ _ (⟨(M.out.2.2.2.1).at.1 0, (M.out.2.2.2.1).at.1 1⟩) (fun hH41 => ?_)
    clear hK K hH40
    (try simp only [Act.put, List.setIfInBounds_toArray, List.set_cons_zero, List.set_cons_succ])
    refine tk at8 ?_
    refine wpAnyH_done (by kernel_rfl) ?_ _
    clear hH41
    go_wp2_with fail
    go_meet
    exact ⟨w7.heap.size, a_32, c_33, a_36, c_37, z38, rfl, rfl, Ez38, Sz38, (by omega), (M.out.2.2.1), (M.out.1), (M.out.2.1), (M.out.2.2.2.2.1), (M.out.2.2.2.2.2.1), (M.out.2.2.2.1), (M.out.2.2.2.2.2.2)⟩
  case rest =>
    obtain ⟨A11, a_4, c_5, a_7, c_8, z9, rfl, rfl, Ez9, Sz9, oA11, M⟩ := hcut
    obtain ⟨w7, rfl⟩ : ∃ w_ : World, w_ = wc := ⟨_, rfl⟩
    go_upto_region 6 with fail
    replace M := Lib.hid (And.intro (M.out.1) (And.intro (M.out.2.1) (And.intro (M.out.2.2.2.1) (And.intro (M.out.2.2.2.2.1) (And.intro (M.out.2.2.2.2.2.1) (M.out.2.2.2.2.2.2))))))
    go_cut [9, 10] (fun s9 s10 wx => ∃ (A50 : Nat), ∃ (a_42 : Option Addr), ∃ (c_43 : Nat), ∃ (a_45 : Option Addr), ∃ (c_46 : Nat), ∃ (b_47 : Option Addr), ∃ (d_48 : Nat), s9 = .pointer (some ⟨A50, 0, none⟩) ∧ s10 = .int .i64 0 ∧ A11 < A50 ∧ Hid (Bx wx A50 26 #[.int .i64 (sg (nu fq)), .slice a_45 (ln (nu fq)) c_46, .int .i64 (sg (de fq)), .slice b_47 (ln (de fq)) d_48] ∧ FD G wx a_45 c_46 b_47 d_48 fq ∧ BD G wx a_42 c_43 1 ∧ BD G wx a_7 c_8 z9 ∧ BD G wx a_1 c_2 f ∧ Bx wx w.heap.size 26 #[.int .i64 (sg (nu q)), .slice a1 (ln (nu q)) c1, .int .i64 (sg (de q)), .slice b1 (ln (de q)) d1] ∧ Bx wx w5.heap.size 24 #[.int .i64 (sg f), .slice a_1 (ln f) c_2] ∧ Bx wx A11 24 #[.int .i64 (sg z9), .slice a_7 (ln z9) c_8] ∧ Below w.heap.size w wx))
    case first =>
      obtain ⟨w8, hv⟩ : ∃ w_ : World, w_ = w7.drew := ⟨_, rfl⟩
      replace M := Lib.hid (Goes.go M.out (hv ▸ below_drew _ : Below w7.heap.size w7 w8))
      refine wp_region_held_drew (S := (fun w' => w'.cell? ⟨w5.heap.size, 0, none⟩ = some (.int .i64 (sg f)) ∧ w'.cell? ⟨w5.heap.size, 1, none⟩ = some (.slice a_1 (ln f) c_2))) (by kernel_rfl) (by rw [← hv]; exact ⟨(M.out.2.2.2.2.1).at.1 0, (M.out.2.2.2.2.1).at.1 1⟩) (fun hH51 => ?_)
      rw [← hv] at hH51 ⊢
      clear hv
      refine tk at0 ?_
      refine wpAnyH_ready (rs := [1, 6]) (by kernel_rfl) (by simp) ?_
      refine AllReadyH.cons at1 (fun K hK => ?_) ?_
      ·
        go_simp
        refine (bigOf_ok (G := G) 1 _ (by decide)).mono ?_
        rintro e w9 ⟨a_52, c_53, rfl, hd54, hb⟩
        replace M := Lib.hid (And.intro hd54 (Goes.go M.out hb))
        clear hb hd54
        (try go_wp2_with fail)
        refine hK.out _ _ (⟨(M.out.2.2.2.2.2.1).at.1 0, (M.out.2.2.2.2.2.1).at.1 1⟩) (fun hH55 => ?_)
        clear hK K hH51
        (try simp only [Act.put, List.setIfInBounds_toArray, List.set_cons_zero, List.set_cons_succ])
        refine wpAnyH_ready (rs := [2, 6]) (by kernel_rfl) (by simp) ?_
        refine AllReadyH.cons at2 (fun K hK => ?_) ?_
        ·
          go_simp
          refine (new_is (G := G) (x := f) (y := 1) (q := fq) (Nat.le_trans hG (M.out.2.2.2.2.2.2).size) (M.out.2.2.2.1) (M.out.1) (Sz.mono HSF.out (by omega)) (Sz.mono (show Sz (1) 1 from by unfold Sz; decide) (by omega)) (by decide) HN1.out).mono ?_
          rintro e w10 ⟨a_56, c_57, b_58, d_59, rfl, hd60, hb⟩
          replace M := Lib.hid (And.intro hd60 (Goes.go M.out hb))
          clear hb hd60
          (try go_wp2_with fail)
          refine hK.out _ _ (⟨(M.out.2.2.2.2.2.2.1).at.1 0, (M.out.2.2.2.2.2.2.1).at.1 1⟩) (fun hH61 => ?_)
          clear hK K hH55
          (try simp only [Act.put, List.setIfInBounds_toArray, List.set_cons_zero, List.set_cons_succ])
          refine tk at3 ?_
          refine tk at4 ?_
          refine tk at5 ?_
          refine wpAnyH_ready (rs := [6]) (by kernel_rfl) (by simp) ?_
          refine AllReadyH.cons at6 (fun K hK => ?_) AllReadyH.nil
          go_simp
          obtain ⟨w11, hv⟩ : ∃ w_ : World, w_ = (w10.alloc (.cells #[.int .i64 0, .slice none 0 0, .int .i64 0, .slice none 0 0] 26)) := ⟨_, rfl⟩
          rw [← hv]
          have o3 : A11 < w10.heap.size := ((M.out.2.2.1)).lt
          replace M := Lib.hid (And.intro (hv ▸ bx1 w10 26 #[.int .i64 0, .slice none 0 0, .int .i64 0, .slice none 0 0]) (Goes.go M.out (hv ▸ below_alloc _ _ : Below w10.heap.size w10 w11)))
          clear hv
          refine hK.out _ _ (⟨(M.out.2.2.2.2.2.2.2.1).at.1 0, (M.out.2.2.2.2.2.2.2.1).at.1 1⟩) (fun hH62 => ?_)
          clear hK K hH61
          (try simp only [Act.put, List.setIfInBounds_toArray, List.set_cons_zero, List.set_cons_succ])
          refine wpAnyH_ready (rs := [7]) (by kernel_rfl) (by simp) ?_
          refine AllReadyH.cons at7 (fun K hK => ?_) AllReadyH.nil
          have y3 := (M.out.1).c4; have p3_0 := y3.1; have q3_0 := y3.2.1; have p3_1 := y3.2.2.1; have q3_1 := y3.2.2.2.1; have p3_2 := y3.2.2.2.2.1; have q3_2 := y3.2.2.2.2.2.1; have p3_3 := y3.2.2.2.2.2.2.1; have q3_3 := y3.2.2.2.2.2.2.2; clear y3
          go_simp
          clear p3_0 q3_0 p3_1 q3_1 p3_2 q3_2 p3_3 q3_3
          obtain ⟨w12, hv⟩ : ∃ w_ : World, w_ = ((((w11.setCell ⟨w10.heap.size, 0, none⟩ (.int .i64 (sg (nu fq)))).setCell ⟨w10.heap.size, 1, none⟩ (.slice a_56 (ln (nu fq)) c_57)).setCell ⟨w10.heap.size, 2, none⟩ (.int .i64 (sg (de fq)))).setCell ⟨w10.heap.size, 3, none⟩ (.slice b_58 (ln (de fq)) d_59)) := ⟨_, rfl⟩
          rw [← hv]
          have og : w11.grownBy w12 (some w10.heap.size) := by rw [hv]; exact (only_setCell (only_setCell (only_setCell (only_setCell (World.grownBy.refl _ _) _) _) _) _)
          have hz : w.heap.size ≤ w10.heap.size := by omega
          have hk : Bx w12 w10.heap.size 26 #[.int .i64 (sg (nu fq)), .slice a_56 (ln (nu fq)) c_57, .int .i64 (sg (de fq)), .slice b_58 (ln (de fq)) d_59] := by rw [hv]; exact (((((M.out.1).set 0 _).set 1 _).set 2 _).set 3 _)
          have hbw : Below w.heap.size w w12 := by rw [hv]; exact (Below.setCell (Below.setCell (Below.setCell (Below.setCell (M.out.2.2.2.2.2.2.2.2) (by omega) _) (by omega) _) (by omega) _) (by omega) _)
          replace M := Lib.hid (And.intro hk (And.intro ((M.out.2.1).far (M.out.1) (by rfl) (by omega) og) (And.intro ((M.out.2.2.1).far (M.out.1) (by rfl) (by omega) og) (And.intro ((M.out.2.2.2.1).only og (by omega)) (And.intro ((M.out.2.2.2.2.1).far (M.out.1) (by rfl) (by omega) og) (And.intro ((M.out.2.2.2.2.2.1).far (M.out.1) (by rfl) (by omega) og) (And.intro ((M.out.2.2.2.2.2.2.1).only og (by omega)) (And.intro ((M.out.2.2.2.2.2.2.2.1).only og (by omega)) hbw))))))))
          clear hk hbw og hv hz
          refine hK.out _ _ (⟨(M.out.2.2.2.2.2.2.2.1).at.1 0, (M.out.2.2.2.2.2.2.2.1).at.1 1⟩) (fun hH63 => ?_)
          clear hK K hH62
          (try simp only [Act.put, List.setIfInBounds_toArray, List.set_cons_zero, List.set_cons_succ])
          refine tk at8 ?_
          refine wpAnyH_done (by kernel_rfl) ?_ _
          clear hH63
          go_wp2_with fail
          go_meet
          exact ⟨w10.heap.size, a_52, c_53, a_56, c_57, b_58, d_59, rfl, rfl, (by omega), (M.out.1), (M.out.2.1), (M.out.2.2.1), (M.out.2.2.2.2.1), (M.out.2.2.2.2.2.1), (M.out.2.2.2.2.2.2.1), (M.out.2.2.2.2.2.2.2.1), (M.out.2.2.2.1), (M.out.2.2.2.2.2.2.2.2)⟩
        refine AllReadyH.cons at6 (fun K hK => ?_) AllReadyH.nil
        go_simp
        obtain ⟨w10, hv⟩ : ∃ w_ : World, w_ = (w9.alloc (.cells #[.int .i64 0, .slice none 0 0, .int .i64 0, .slice none 0 0] 26)) := ⟨_, rfl⟩
        rw [← hv]
        have o3 : A11 < w9.heap.size := ((M.out.2.1)).lt
        replace M := Lib.hid (And.intro (hv ▸ bx1 w9 26 #[.int .i64 0, .slice none 0 0, .int .i64 0, .slice none 0 0]) (Goes.go M.out (hv ▸ below_alloc _ _ : Below w9.heap.size w9 w10)))
        clear hv
        refine hK.out _ _ (⟨(M.out.2.2.2.2.2.2.1).at.1 0, (M.out.2.2.2.2.2.2.1).at.1 1⟩) (fun hH64 => ?_)
        clear hK K hH55
        (try simp only [Act.put, List.setIfInBounds_toArray, List.set_cons_zero, List.set_cons_succ])
        refine wpAnyH_ready (rs := [2]) (by kernel_rfl) (by simp) ?_
        refine AllReadyH.cons at2 (fun K hK => ?_) AllReadyH.nil
        go_simp
        refine (new_is (G := G) (x := f) (y := 1) (q := fq) (Nat.le_trans hG (M.out.2.2.2.2.2.2.2).size) (M.out.2.2.2.2.1) (M.out.2.1) (Sz.mono HSF.out (by omega)) (Sz.mono (show Sz (1) 1 from by unfold Sz; decide) (by omega)) (by decide) HN1.out).mono ?_
        rintro e w11 ⟨a_65, c_66, b_67, d_68, rfl, hd69, hb⟩
        replace M := Lib.hid (And.intro hd69 (Goes.go M.out hb))
        clear hb hd69
        (try go_wp2_with fail)
        refine hK.out _ _ (⟨(M.out.2.2.2.2.2.2.2.1).at.1 0, (M.out.2.2.2.2.2.2.2.1).at.1 1⟩) (fun hH70 => ?_)
        clear hK K hH64
        (try simp only [Act.put, List.setIfInBounds_toArray, List.set_cons_zero, List.set_cons_succ])
        refine tk at3 ?_
        refine tk at4 ?_
        refine tk at5 ?_
        refine wpAnyH_ready (rs := [7]) (by kernel_rfl) (by simp) ?_
        refine AllReadyH.cons at7 (fun K hK => ?_) AllReadyH.nil
        have y3 := (M.out.2.1).c4; have p3_0 := y3.1; have q3_0 := y3.2.1; have p3_1 := y3.2.2.1; have q3_1 := y3.2.2.2.1; have p3_2 := y3.2.2.2.2.1; have q3_2 := y3.2.2.2.2.2.1; have p3_3 := y3.2.2.2.2.2.2.1; have q3_3 := y3.2.2.2.2.2.2.2; clear y3
        go_simp
        clear p3_0 q3_0 p3_1 q3_1 p3_2 q3_2 p3_3 q3_3
        obtain ⟨w12, hv⟩ : ∃ w_ : World, w_ = ((((w11.setCell ⟨w9.heap.size, 0, none⟩ (.int .i64 (sg (nu fq)))).setCell ⟨w9.heap.size, 1, none⟩ (.slice a_65 (ln (nu fq)) c_66)).setCell ⟨w9.heap.size, 2, none⟩ (.int .i64 (sg (de fq)))).setCell ⟨w9.heap.size, 3, none⟩ (.slice b_67 (ln (de fq)) d_68)) := ⟨_, rfl⟩
        rw [← hv]
        have og : w11.grownBy w12 (some w9.heap.size) := by rw [hv]; exact (only_setCell (only_setCell (only_setCell (only_setCell (World.grownBy.refl _ _) _) _) _) _)
        have hz : w.heap.size ≤ w9.heap.size := by omega
        have hk : Bx w12 w9.heap.size 26 #[.int .i64 (sg (nu fq)), .slice a_65 (ln (nu fq)) c_66, .int .i64 (sg (de fq)), .slice b_67 (ln (de fq)) d_68] := by rw [hv]; exact (((((M.out.2.1).set 0 _).set 1 _).set 2 _).set 3 _)
        have hbw : Below w.heap.size w w12 := by rw [hv]; exact (Below.setCell (Below.setCell (Below.setCell (Below.setCell (M.out.2.2.2.2.2.2.2.2) (by omega) _) (by omega) _) (by omega) _) (by omega) _)
        replace M := Lib.hid (And.intro ((M.out.1).far (M.out.2.1) (by rfl) (by omega) og) (And.intro hk (And.intro ((M.out.2.2.1).far (M.out.2.1) (by rfl) (by omega) og) (And.intro ((M.out.2.2.2.1).only og (by omega)) (And.intro ((M.out.2.2.2.2.1).far (M.out.2.1) (by rfl) (by omega) og) (And.intro ((M.out.2.2.2.2.2.1).far (M.out.2.1) (by rfl) (by omega) og) (And.intro ((M.out.2.2.2.2.2.2.1).only og (by omega)) (And.intro ((M.out.2.2.2.2.2.2.2.1).only og (by omega)) hbw))))))))
        clear hk hbw og hv hz
        refine hK.out _ _ (⟨(M.out.2.2.2.2.2.2.2.1).at.1 0, (M.out.2.2.2.2.2.2.2.1).at.1 1⟩) (fun hH71 => ?_)
        clear hK K hH70
        (try simp only [Act.put, List.setIfInBounds_toArray, List.set_cons_zero, List.set_cons_succ])
        refine tk at8 ?_
        refine wpAnyH_done (by kernel_rfl) ?_ _
        clear hH71
        go_wp2_with fail
        go_meet
        exact ⟨w9.heap.size, a_52, c_53, a_65, c_66, b_67, d_68, rfl, rfl, (by omega), (M.out.2.1), (M.out.1), (M.out.2.2.1), (M.out.2.2.2.2.1), (M.out.2.2.2.2.2.1), (M.out.2.2.2.2.2.2.1), (M.out.2.2.2.2.2.2.2.1), (M.out.2.2.2.1), (M.out.2.2.2.2.2.2.2.2)⟩
      refine AllReadyH.cons at6 (fun K hK => ?_) AllReadyH.nil
      go_simp
      obtain ⟨w9, hv⟩ : ∃ w_ : World, w_ = (w8.alloc (.cells #[.int .i64 0, .slice none 0 0, .int .i64 0, .slice none 0 0] 26)) := ⟨_, rfl⟩
      rw [← hv]
      have o3 : A11 < w8.heap.size := ((M.out.1)).lt
      replace M := Lib.hid (And.intro (hv ▸ bx1 w8 26 #[.int .i64 0, .slice none 0 0, .int .i64 0, .slice none 0 0]) (Goes.go M.out (hv ▸ below_alloc _ _ : Below w8.heap.size w8 w9)))
      clear hv
      refine hK.out _ _ (⟨(M.out.2.2.2.2.2.1).at.1 0, (M.out.2.2.2.2.2.1).at.1 1⟩) (fun hH72 => ?_)
      clear hK K hH51
      (try simp only [Act.put, List.setIfInBounds_toArray, List.set_cons_zero, List.set_cons_succ])
      refine wpAnyH_ready (rs := [1]) (by kernel_rfl) (by simp) ?_
      refine AllReadyH.cons at1 (fun K hK => ?_) AllReadyH.nil
      go_simp
      refine (bigOf_ok (G := G) 1 _ (by decide)).mono ?_
      rintro e w10 ⟨a_73, c_74, rfl, hd75, hb⟩
      replace M := Lib.hid (And.intro hd75 (Goes.go M.out hb))
      clear hb hd75
      (try go_wp2_with fail)
      refine hK.out _ _ (⟨(M.out.2.2.2.2.2.2.1).at.1 0, (M.out.2.2.2.2.2.2.1).at.1 1⟩) (fun hH76 => ?_)
      clear hK K hH72
      (try simp only [Act.put, List.setIfInBounds_toArray, List.set_cons_zero, List.set_cons_succ])
      refine wpAnyH_ready (rs := [2]) (by kernel_rfl) (by simp) ?_
      refine AllReadyH.cons at2 (fun K hK => ?_) AllReadyH.nil
      go_simp
      refine (new_is (G := G) (x := f) (y := 1) (q := fq) (Nat.le_trans hG (M.out.2.2.2.2.2.2.2).size) (M.out.2.2.2.2.1) (M.out.1) (Sz.mono HSF.out (by omega)) (Sz.mono (show Sz (1) 1 from by unfold Sz; decide) (by omega)) (by decide) HN1.out).mono ?_
      rintro e w11 ⟨a_77, c_78, b_79, d_80, rfl, hd81, hb⟩
      replace M := Lib.hid (And.intro hd81 (Goes.go M.out hb))
      clear hb hd81
      (try go_wp2_with fail)
      refine hK.out _ _ (⟨(M.out.2.2.2.2.2.2.2.1).at.1 0, (M.out.2.2.2.2.2.2.2.1).at.1 1⟩) (fun hH82 => ?_)
      clear hK K hH76
      (try simp only [Act.put, List.setIfInBounds_toArray, List.set_cons_zero, List.set_cons_succ])
      refine tk at3 ?_
      refine tk at4 ?_
      refine tk at5 ?_
      refine wpAnyH_ready (rs := [7]) (by kernel_rfl) (by simp) ?_
      refine AllReadyH.cons at7 (fun K hK => ?_) AllReadyH.nil
      have y3 := (M.out.2.2.1).c4; have p3_0 := y3.1; have q3_0 := y3.2.1; have p3_1 := y3.2.2.1; have q3_1 := y3.2.2.2.1; have p3_2 := y3.2.2.2.2.1; have q3_2 := y3.2.2.2.2.2.1; have p3_3 := y3.2.2.2.2.2.2.1; have q3_3 := y3.2.2.2.2.2.2.2; clear y3
      go_simp
      clear p3_0 q3_0 p3_1 q3_1 p3_2 q3_2 p3_3 q3_3
      obtain ⟨w12, hv⟩ : ∃ w_ : World, w_ = ((((w11.setCell ⟨w8.heap.size, 0, none⟩ (.int .i64 (sg (nu fq)))).setCell ⟨w8.heap.size, 1, none⟩ (.slice a_77 (ln (nu fq)) c_78)).setCell ⟨w8.heap.size, 2, none⟩ (.int .i64 (sg (de fq)))).setCell ⟨w8.heap.size, 3, none⟩ (.slice b_79 (ln (de fq)) d_80)) := ⟨_, rfl⟩
      rw [← hv]
      have og : w11.grownBy w12 (some w8.heap.size) := by rw [hv]; exact (only_setCell (only_setCell (only_setCell (only_setCell (World.grownBy.refl _ _) _) _) _) _)
      have hz : w.heap.size ≤ w8.heap.size := by omega
      have hk : Bx w12 w8.heap.size 26 #[.int .i64 (sg (nu fq)), .slice a_77 (ln (nu fq)) c_78, .int .i64 (sg (de fq)), .slice b_79 (ln (de fq)) d_80] := by rw [hv]; exact (((((M.out.2.2.1).set 0 _).set 1 _).set 2 _).set 3 _)
      have hbw : Below w.heap.size w w12 := by rw [hv]; exact (Below.setCell (Below.setCell (Below.setCell (Below.setCell (M.out.2.2.2.2.2.2.2.2) (by omega) _) (by omega) _) (by omega) _) (by omega) _)
      replace M := Lib.hid (And.intro ((M.out.1).far (M.out.2.2.1) (by rfl) (by omega) og) (And.intro ((M.out.2.1).far (M.out.2.2.1) (by rfl) (by omega) og) (And.intro hk (And.intro ((M.out.2.2.2.1).only og (by omega)) (And.intro ((M.out.2.2.2.2.1).far (M.out.2.2.1) (by rfl) (by omega) og) (And.intro ((M.out.2.2.2.2.2.1).far (M.out.2.2.1) (by rfl) (by omega) og) (And.intro ((M.out.2.2.2.2.2.2.1).only og (by omega)) (And.intro ((M.out.2.2.2.2.2.2.2.1).only og (by omega)) hbw))))))))
      clear hk hbw og hv hz
      refine hK.out _ _ (⟨(M.out.2.2.2.2.2.2.2.1).at.1 0, (M.out.2.2.2.2.2.2.2.1).at.1 1⟩) (fun hH83 => ?_)
      clear hK K hH82
      (try simp only [Act.put, List.setIfInBounds_toArray, List.set_cons_zero, List.set_cons_succ])
      refine tk at8 ?_
      refine wpAnyH_done (by kernel_rfl) ?_ _
      clear hH83
      go_wp2_with fail
      go_meet
      exact ⟨w8.heap.size, a_73, c_74, a_77, c_78, b_79, d_80, rfl, rfl, (by omega), (M.out.2.2.1), (M.out.1), (M.out.2.1), (M.out.2.2.2.2.1), (M.out.2.2.2.2.2.1), (M.out.2.2.2.2.2.2.1), (M.out.2.2.2.2.2.2.2.1), (M.out.2.2.2.1), (M.out.2.2.2.2.2.2.2.2)⟩
    case rest =>
      obtain ⟨A50, a_42, c_43, a_45, c_46, b_47, d_48, rfl, rfl, oA50, M⟩ := hcut
      obtain ⟨w8, rfl⟩ : ∃ w_ : World, w_ = wc := ⟨_, rfl⟩
      go_upto_region 7 with fail
      replace M := Lib.hid (And.intro (M.out.1) (And.intro (M.out.2.1) (And.intro (M.out.2.2.2.1) (And.intro (M.out.2.2.2.2.1) (And.intro (M.out.2.2.2.2.2.1) (And.intro (M.out.2.2.2.2.2.2.1) (And.intro (M.out.2.2.2.2.2.2.2.1) (M.out.2.2.2.2.2.2.2.2))))))))
      go_cut [11, 12] (fun s11 s12 wx => ∃ (A92 : Nat), ∃ (a_84 : Option Addr), ∃ (c_85 : Nat), ∃ (a_87 : Option Addr), ∃ (c_88 : Nat), ∃ (b_89 : Option Addr), ∃ (d_90 : Nat), s11 = .pointer (some ⟨A92, 0, none⟩) ∧ s12 = .int .i64 0 ∧ A50 < A92 ∧ Hid (Bx wx A92 26 #[.int .i64 (sg (nu f1)), .slice a_87 (ln (nu f1)) c_88, .int .i64 (sg (de f1)), .slice b_89 (ln (de f1)) d_90] ∧ FD G wx a_87 c_88 b_89 d_90 f1 ∧ BD G wx a_84 c_85 1 ∧ FD G wx a_45 c_46 b_47 d_48 fq ∧ BD G wx a_7 c_8 z9 ∧ BD G wx a_1 c_2 f ∧ Bx wx w.heap.size 26 #[.int .i64 (sg (nu q)), .slice a1 (ln (nu q)) c1, .int .i64 (sg (de q)), .slice b1 (ln (de q)) d1] ∧ Bx wx w5.heap.size 24 #[.int .i64 (sg f), .slice a_1 (ln f) c_2] ∧ Bx wx A11 24 #[.int .i64 (sg z9), .slice a_7 (ln z9) c_8] ∧ Bx wx A50 26 #[.int .i64 (sg (nu fq)), .slice a_45 (ln (nu fq)) c_46, .int .i64 (sg (de fq)), .slice b_47 (ln (de fq)) d_48] ∧ Below w.heap.size w wx))
      case first =>
        obtain ⟨w9, hv⟩ : ∃ w_ : World, w_ = w8.drew := ⟨_, rfl⟩
        replace M := Lib.hid (Goes.go M.out (hv ▸ below_drew _ : Below w8.heap.size w8 w9))
        refine wp_region_held_drew (S := (fun w' => w'.cell? ⟨A11, 0, none⟩ = some (.int .i64 (sg z9)) ∧ w'.cell? ⟨A11, 1, none⟩ = some (.slice a_7 (ln z9) c_8))) (by kernel_rfl) (by rw [← hv]; exact ⟨(M.out.2.2.2.2.2.2.1).at.1 0, (M.out.2.2.2.2.2.2.1).at.1 1⟩) (fun hH93 => ?_)
        rw [← hv] at hH93 ⊢
        clear hv
        refine tk at0 ?_
        refine wpAnyH_ready (rs := [1, 6]) (by kernel_rfl) (by simp) ?_
        refine AllReadyH.cons at1 (fun K hK => ?_) ?_
        ·
          go_simp
          refine (bigOf_ok (G := G) 1 _ (by decide)).mono ?_
          rintro e w10 ⟨a_94, c_95, rfl, hd96, hb⟩
          replace M := Lib.hid (And.intro hd96 (Goes.go M.out hb))
          clear hb hd96
          (try go_wp2_with fail)
          refine hK.out _ _ (⟨(M.out.2.2.2.2.2.2.2.1).at.1 0, (M.out.2.2.2.2.2.2.2.1).at.1 1⟩) (fun hH97 => ?_)
          clear hK K hH93
          (try simp only [Act.put, List.setIfInBounds_toArray, List.set_cons_zero, List.set_cons_succ])
          refine wpAnyH_ready (rs := [2, 6]) (by kernel_rfl) (by simp) ?_
          refine AllReadyH.cons at2 (fun K hK => ?_) ?_
          ·
            go_simp
            refine (new_is (G := G) (x := z9) (y := 1) (q := f1) (Nat.le_trans hG (M.out.2.2.2.2.2.2.2.2).size) (M.out.2.2.2.1) (M.out.1) (Sz.mono Sz9.out (by omega)) (Sz.mono (show Sz (1) 1 from by unfold Sz; decide) (by omega)) (by decide) (by rw [Ez9.out]; exact HN2.out)).mono ?_
            rintro e w11 ⟨a_98, c_99, b_100, d_101, rfl, hd102, hb⟩
            replace M := Lib.hid (And.intro hd102 (Goes.go M.out hb))
            clear hb hd102
            (try go_wp2_with fail)
            refine hK.out _ _ (⟨(M.out.2.2.2.2.2.2.2.2.1).at.1 0, (M.out.2.2.2.2.2.2.2.2.1).at.1 1⟩) (fun hH103 => ?_)
            clear hK K hH97
            (try simp only [Act.put, List.setIfInBounds_toArray, List.set_cons_zero, List.set_cons_succ])
            refine tk at3 ?_
            refine tk at4 ?_
            refine tk at5 ?_
            refine wpAnyH_ready (rs := [6]) (by kernel_rfl) (by simp) ?_
            refine AllReadyH.cons at6 (fun K hK => ?_) AllReadyH.nil
            go_simp
            obtain ⟨w12, hv⟩ : ∃ w_ : World, w_ = (w11.alloc (.cells #[.int .i64 0, .slice none 0 0, .int .i64 0, .slice none 0 0] 26)) := ⟨_, rfl⟩
            rw [← hv]
            have o4 : A50 < w11.heap.size := ((M.out.2.2.1)).lt
            replace M := Lib.hid (And.intro (hv ▸ bx1 w11 26 #[.int .i64 0, .slice none 0 0, .int .i64 0, .slice none 0 0]) (Goes.go M.out (hv ▸ below_alloc _ _ : Below w11.heap.size w11 w12)))
            clear hv
            refine hK.out _ _ (⟨(M.out.2.2.2.2.2.2.2.2.2.1).at.1 0, (M.out.2.2.2.2.2.2.2.2.2.1).at.1 1⟩) (fun hH104 => ?_)
            clear hK K hH103
            (try simp only [Act.put, List.setIfInBounds_toArray, List.set_cons_zero, List.set_cons_succ])
            refine wpAnyH_ready (rs := [7]) (by kernel_rfl) (by simp) ?_
            refine AllReadyH.cons at7 (fun K hK => ?_) AllReadyH.nil
            have y4 := (M.out.1).c4; have p4_0 := y4.1; have q4_0 := y4.2.1; have p4_1 := y4.2.2.1; have q4_1 := y4.2.2.2.1; have p4_2 := y4.2.2.2.2.1; have q4_2 := y4.2.2.2.2.2.1; have p4_3 := y4.2.2.2.2.2.2.1; have q4_3 := y4.2.2.2.2.2.2.2; clear y4
            go_simp
            clear p4_0 q4_0 p4_1 q4_1 p4_2 q4_2 p4_3 q4_3
            obtain ⟨w13, hv⟩ : ∃ w_ : World, w_ = ((((w12.setCell ⟨w11.heap.size, 0, none⟩ (.int .i64 (sg (nu f1)))).setCell ⟨w11.heap.size, 1, none⟩ (.slice a_98 (ln (nu f1)) c_99)).setCell ⟨w11.heap.size, 2, none⟩ (.int .i64 (sg (de f1)))).setCell ⟨w11.heap.size, 3, none⟩ (.slice b_100 (ln (de f1)) d_101)) := ⟨_, rfl⟩
            rw [← hv]
            have og : w12.grownBy w13 (some w11.heap.size) := by rw [hv]; exact (only_setCell (only_setCell (only_setCell (only_setCell (World.grownBy.refl _ _) _) _) _) _)
            have hz : w.heap.size ≤ w11.heap.size := by omega
            have hk : Bx w13 w11.heap.size 26 #[.int .i64 (sg (nu f1)), .slice a_98 (ln (nu f1)) c_99, .int .i64 (sg (de f1)), .slice b_100 (ln (de f1)) d_101] := by rw [hv]; exact (((((M.out.1).set 0 _).set 1 _).set 2 _).set 3 _)
            have hbw : Below w.heap.size w w13 := by rw [hv]; exact (Below.setCell (Below.setCell (Below.setCell (Below.setCell (M.out.2.2.2.2.2.2.2.2.2.2) (by omega) _) (by omega) _) (by omega) _) (by omega) _)
            replace M := Lib.hid (And.intro hk (And.intro ((M.out.2.1).far (M.out.1) (by rfl) (by omega) og) (And.intro ((M.out.2.2.1).far (M.out.1) (by rfl) (by omega) og) (And.intro ((M.out.2.2.2.1).only og (by omega)) (And.intro ((M.out.2.2.2.2.1).far (M.out.1) (by rfl) (by omega) og) (And.intro ((M.out.2.2.2.2.2.1).far (M.out.1) (by rfl) (by omega) og) (And.intro ((M.out.2.2.2.2.2.2.1).far (M.out.1) (by rfl) (by omega) og) (And.intro ((M.out.2.2.2.2.2.2.2.1).only og (by omega)) (And.intro ((M.out.2.2.2.2.2.2.2.2.1).only og (by omega)) (And.intro ((M.out.2.2.2.2.2.2.2.2.2.1).only og (by omega)) hbw))))))))))
            clear hk hbw og hv hz
            refine hK.out _ _ (⟨(M.out.2.2.2.2.2.2.2.2.2.1).at.1 0, (M.out.2.2.2.2.2.2.2.2.2.1).at.1 1⟩) (fun hH105 => ?_)
            clear hK K hH104
            (try simp only [Act.put, List.setIfInBounds_toArray, List.set_cons_zero, List.set_cons_succ])
            refine tk at8 ?_
            refine wpAnyH_done (by kernel_rfl) ?_ _
            clear hH105
            go_wp2_with fail
            go_meet
            exact ⟨w11.heap.size, a_94, c_95, a_98, c_99, b_100, d_101, rfl, rfl, (by omega), (M.out.1), (M.out.2.1), (M.out.2.2.1), (M.out.2.2.2.2.1), (M.out.2.2.2.2.2.1), (M.out.2.2.2.2.2.2.1), (M.out.2.2.2.2.2.2.2.1), (M.out.2.2.2.2.2.2.2.2.1), (M.out.2.2.2.2.2.2.2.2.2.1), (M.out.2.2.2.1), (M.out.2.2.2.2.2.2.2.2.2.2)⟩
          refine AllReadyH.cons at6 (fun K hK => ?_) AllReadyH.nil
          go_simp
          obtain ⟨w11, hv⟩ : ∃ w_ : World, w_ = (w10.alloc (.cells #[.int .i64 0, .slice none 0 0, .int .i64 0, .slice none 0 0] 26)) := ⟨_, rfl⟩
          rw [← hv]
          have o4 : A50 < w10.heap.size := ((M.out.2.1)).lt
          replace M := Lib.hid (And.intro (hv ▸ bx1 w10 26 #[.int .i64 0, .slice none 0 0, .int .i64 0, .slice none 0 0]) (Goes.go M.out (hv ▸ below_alloc _ _ : Below w10.heap.size w10 w11)))
          clear hv
          refine hK.out _ _ (⟨(M.out.2.2.2.2.2.2.2.2.1).at.1 0, (M.out.2.2.2.2.2.2.2.2.1).at.1 1⟩) (fun hH106 => ?_)
          clear hK K hH97
          (try simp only [Act.put, List.setIfInBounds_toArray, List.set_cons_zero, List.set_cons_succ])
          refine wpAnyH_ready (rs := [2]) (by kernel_rfl) (by simp) ?_
          refine AllReadyH.cons at2 (fun K hK => ?_) AllReadyH.nil
          go_simp
          refine (new_is (G := G) (x := z9) (y := 1) (q := f1) (Nat.le_trans hG (M.out.2.2.2.2.2.2.2.2.2).size) (M.out.2.2.2.2.1) (M.out.2.1) (Sz.mono Sz9.out (by omega)) (Sz.mono (show Sz (1) 1 from by unfold Sz; decide) (by omega)) (by decide) (by rw [Ez9.out]; exact HN2.out)).mono ?_
          rintro e w12 ⟨a_107, c_108, b_109, d_110, rfl, hd111, hb⟩
          replace M := Lib.hid (And.intro hd111 (Goes.go M.out hb))
          clear hb hd111
          (try go_wp2_with fail)
          refine hK.out _ _ (⟨(M.out.2.2.2.2.2.2.2.2.2.1).at.1 0, (M.out.2.2.2.2.2.2.2.2.2.1).at.1 1⟩) (fun hH112 => ?_)
          clear hK K hH106
          (try simp only [Act.put, List.setIfInBounds_toArray, List.set_cons_zero, List.set_cons_succ])
          refine tk at3 ?_
          refine tk at4 ?_
          refine tk at5 ?_
          refine wpAnyH_ready (rs := [7]) (by kernel_rfl) (by simp) ?_
          refine AllReadyH.cons at7 (fun K hK => ?_) AllReadyH.nil
          have y4 := (M.out.2.1).c4; have p4_0 := y4.1; have q4_0 := y4.2.1; have p4_1 := y4.2.2.1; have q4_1 := y4.2.2.2.1; have p4_2 := y4.2.2.2.2.1; have q4_2 := y4.2.2.2.2.2.1; have p4_3 := y4.2.2.2.2.2.2.1; have q4_3 := y4.2.2.2.2.2.2.2; clear y4
          go_simp
          clear p4_0 q4_0 p4_1 q4_1 p4_2 q4_2 p4_3 q4_3
          obtain ⟨w13, hv⟩ : ∃ w_ : World, w_ = ((((w12.setCell ⟨w10.heap.size, 0, none⟩ (.int .i64 (sg (nu f1)))).setCell ⟨w10.heap.size, 1, none⟩ (.slice a_107 (ln (nu f1)) c_108)).setCell ⟨w10.heap.size, 2, none⟩ (.int .i64 (sg (de f1)))).setCell ⟨w10.heap.size, 3, none⟩ (.slice b_109 (ln (de f1)) d_110)) := ⟨_, rfl⟩
          rw [← hv]
          have og : w12.grownBy w13 (some w10.heap.size) := by rw [hv]; exact (only_setCell (only_setCell (only_setCell (only_setCell (World.grownBy.refl _ _) _) _) _) _)
          have hz : w.heap.size ≤ w10.heap.size := by omega
          have hk : Bx w13 w10.heap.size 26 #[.int .i64 (sg (nu f1)), .slice a_107 (ln (nu f1)) c_108, .int .i64 (sg (de f1)), .slice b_109 (ln (de f1)) d_110] := by rw [hv]; exact (((((M.out.2.1).set 0 _).set 1 _).set 2 _).set 3 _)
          have hbw : Below w.heap.size w w13 := by rw [hv]; exact (Below.setCell (Below.setCell (Below.setCell (Below.setCell (M.out.2.2.2.2.2.2.2.2.2.2) (by omega) _) (by omega) _) (by omega) _) (by omega) _)
          replace M := Lib.hid (And.intro ((M.out.1).far (M.out.2.1) (by rfl) (by omega) og) (And.intro hk (And.intro ((M.out.2.2.1).far (M.out.2.1) (by rfl) (by omega) og) (And.intro ((M.out.2.2.2.1).only og (by omega)) (And.intro ((M.out.2.2.2.2.1).far (M.out.2.1) (by rfl) (by omega) og) (And.intro ((M.out.2.2.2.2.2.1).far (M.out.2.1) (by rfl) (by omega) og) (And.intro ((M.out.2.2.2.2.2.2.1).far (M.out.2.1) (by rfl) (by omega) og) (And.intro ((M.out.2.2.2.2.2.2.2.1).only og (by omega)) (And.intro ((M.out.2.2.2.2.2.2.2.2.1).only og (by omega)) (And.intro ((M.out.2.2.2.2.2.2.2.2.2.1).only og (by omega)) hbw))))))))))
          clear hk hbw og hv hz
          refine hK.out _ _ (⟨(M.out.2.2.2.2.2.2.2.2.2.1).at.1 0, (M.out.2.2.2.2.2.2.2.2.2.1).at.1 1⟩) (fun hH113 => ?_)
          clear hK K hH112
          (try simp only [Act.put, List.setIfInBounds_toArray, List.set_cons_zero, List.set_cons_succ])
          refine tk at8 ?_
          refine wpAnyH_done (by kernel_rfl) ?_ _
          clear hH113
          go_wp2_with fail
          go_meet
          exact ⟨w10.heap.size, a_94, c_95, a_107, c_108, b_109, d_110, rfl, rfl, (by omega), (M.out.2.1), (M.out.1), (M.out.2.2.1), (M.out.2.2.2.2.1), (M.out.2.2.2.2.2.1), (M.out.2.2.2.2.2.2.1), (M.out.2.2.2.2.2.2.2.1), (M.out.2.2.2.2.2.2.2.2.1), (M.out.2.2.2.2.2.2.2.2.2.1), (M.out.2.2.2.1), (M.out.2.2.2.2.2.2.2.2.2.2)⟩
        refine AllReadyH.cons at6 (fun K hK => ?_) AllReadyH.nil
        go_simp
        obtain ⟨w10, hv⟩ : ∃ w_ : World, w_ = (w9.alloc (.cells #[.int .i64 0, .slice none 0 0, .int .i64 0, .slice none 0 0] 26)) := ⟨_, rfl⟩
        rw [← hv]
        have o4 : A50 < w9.heap.size := ((M.out.1)).lt
        replace M := Lib.hid (And.intro (hv ▸ bx1 w9 26 #[.int .i64 0, .slice none 0 0, .int .i64 0, .slice none 0 0]) (Goes.go M.out (hv ▸ below_alloc _ _ : Below w9.heap.size w9 w10)))
        clear hv
        refine hK.out _ _ (⟨(M.out.2.2.2.2.2.2.2.1).at.1 0, (M.out.2.2.2.2.2.2.2.1).at.1 1⟩) (fun hH114 => ?_)
        clear hK K hH93
        (try simp only [Act.put, List.setIfInBounds_toArray, List.set_cons_zero, List.set_cons_succ])
        refine wpAnyH_ready (rs := [1]) (by kernel_rfl) (by simp) ?_
        refine AllReadyH.cons at1 (fun K hK => ?_) AllReadyH.nil
        go_simp
        refine (bigOf_ok (G := G) 1 _ (by decide)).mono ?_
        rintro e w11 ⟨a_115, c_116, rfl, hd117, hb⟩
        replace M := Lib.hid (And.intro hd117 (Goes.go M.out hb))
        clear hb hd117
        (try go_wp2_with fail)
        refine hK.out _ _ (⟨(M.out.2.2.2.2.2.2.2.2.1).at.1 0, (M.out.2.2.2.2.2.2.2.2.1).at.1 1⟩) (fun hH118 => ?_)
        clear hK K hH114
        (try simp only [Act.put, List.setIfInBounds_toArray, List.set_cons_zero, List.set_cons_succ])
        refine wpAnyH_ready (rs := [2]) (by kernel_rfl) (by simp) ?_
        refine AllReadyH.cons at2 (fun K hK => ?_) AllReadyH.nil
        go_simp
        refine (new_is (G := G) (x := z9) (y := 1) (q := f1) (Nat.le_trans hG (M.out.2.2.2.2.2.2.2.2.2).size) (M.out.2.2.2.2.1) (M.out.1) (Sz.mono Sz9.out (by omega)) (Sz.mono (show Sz (1) 1 from by unfold Sz; decide) (by omega)) (by decide) (by rw [Ez9.out]; exact HN2.out)).mono ?_
        rintro e w12 ⟨a_119, c_120, b_121, d_122, rfl, hd123, hb⟩
        replace M := Lib.hid (And.intro hd123 (Goes.go M.out hb))
        clear hb hd123
        (try go_wp2_with fail)
        refine hK.out _ _ (⟨(M.out.2.2.2.2.2.2.2.2.2.1).at.1 0, (M.out.2.2.2.2.2.2.2.2.2.1).at.1 1⟩) (fun hH124 => ?_)
        clear hK K hH118
        (try simp only [Act.put, List.setIfInBounds_toArray, List.set_cons_zero, List.set_cons_succ])
        refine tk at3 ?_
        refine tk at4 ?_
        refine tk at5 ?_
        refine wpAnyH_ready (rs := [7]) (by kernel_rfl) (by simp) ?_
        refine AllReadyH.cons at7 (fun K hK => ?_) AllReadyH.nil
        have y4 := (M.out.2.2.1).c4; have p4_0 := y4.1; have q4_0 := y4.2.1; have p4_1 := y4.2.2.1; have q4_1 := y4.2.2.2.1; have p4_2 := y4.2.2.2.2.1; have q4_2 := y4.2.2.2.2.2.1; have p4_3 := y4.2.2.2.2.2.2.1; have q4_3 := y4.2.2.2.2.2.2.2; clear y4
        go_simp
        clear p4_0 q4_0 p4_1 q4_1 p4_2 q4_2 p4_3 q4_3
        obtain ⟨w13, hv⟩ : ∃ w_ : World, w_ = ((((w12.setCell ⟨w9.heap.size, 0, none⟩ (.int .i64 (sg (nu f1)))).setCell ⟨w9.heap.size, 1, none⟩ (.slice a_119 (ln (nu f1)) c_120)).setCell ⟨w9.heap.size, 2, none⟩ (.int .i64 (sg (de f1)))).setCell ⟨w9.heap.size, 3, none⟩ (.slice b_121 (ln (de f1)) d_122)) := ⟨_, rfl⟩
        rw [← hv]
        have og : w12.grownBy w13 (some w9.heap.size) := by rw [hv]; exact (only_setCell (only_setCell (only_setCell (only_setCell (World.grownBy.refl _ _) _) _) _) _)
        have hz : w.heap.size ≤ w9.heap.size := by omega
        have hk : Bx w13 w9.heap.size 26 #[.int .i64 (sg (nu f1)), .slice a_119 (ln (nu f1)) c_120, .int .i64 (sg (de f1)), .slice b_121 (ln (de f1)) d_122] := by rw [hv]; exact (((((M.out.2.2.1).set 0 _).set 1 _).set 2 _).set 3 _)
        have hbw : Below w.heap.size w w13 := by rw [hv]; exact (Below.setCell (Below.setCell (Below.setCell (Below.setCell (M.out.2.2.2.2.2.2.2.2.2.2) (by omega) _) (by omega) _) (by omega) _) (by omega) _)
        replace M := Lib.hid (And.intro ((M.out.1).far (M.out.2.2.1) (by rfl) (by omega) og) (And.intro ((M.out.2.1).far (M.out.2.2.1) (by rfl) (by omega) og) (And.intro hk (And.intro ((M.out.2.2.2.1).only og (by omega)) (And.intro ((M.out.2.2.2.2.1).far (M.out.2.2.1) (by rfl) (by omega) og) (And.intro ((M.out.2.2.2.2.2.1).far (M.out.2.2.1) (by rfl) (by omega) og) (And.intro ((M.out.2.2.2.2.2.2.1).far (M.out.2.2.1) (by rfl) (by omega) og) (And.intro ((M.out.2.2.2.2.2.2.2.1).only og (by omega)) (And.intro ((M.out.2.2.2.2.2.2.2.2.1).only og (by omega)) (And.intro ((M.out.2.2.2.2.2.2.2.2.2.1).only og (by omega)) hbw))))))))))
        clear hk hbw og hv hz
        refine hK.out _ _ (⟨(M.out.2.2.2.2.2.2.2.2.2.1).at.1 0, (M.out.2.2.2.2.2.2.2.2.2.1).at.1 1⟩) (fun hH125 => ?_)
        clear hK K hH124
        (try simp only [Act.put, List.setIfInBounds_toArray, List.set_cons_zero, List.set_cons_succ])
        refine tk at8 ?_
        refine wpAnyH_done (by kernel_rfl) ?_ _
        clear hH125
        go_wp2_with fail
        go_meet
        exact ⟨w9.heap.size, a_115, c_116, a_119, c_120, b_121, d_122, rfl, rfl, (by omega), (M.out.2.2.1), (M.out.1), (M.out.2.1), (M.out.2.2.2.2.1), (M.out.2.2.2.2.2.1), (M.out.2.2.2.2.2.2.1), (M.out.2.2.2.2.2.2.2.1), (M.out.2.2.2.2.2.2.2.2.1), (M.out.2.2.2.2.2.2.2.2.2.1), (M.out.2.2.2.1), (M.out.2.2.2.2.2.2.2.2.2.2)⟩
      case rest =>
        obtain ⟨A92, a_84, c_85, a_87, c_88, b_89, d_90, rfl, rfl, oA92, M⟩ := hcut
        obtain ⟨w9, rfl⟩ : ∃ w_ : World, w_ = wc := ⟨_, rfl⟩
        go_upto_region 8 with fail
        as_aux_lemma =>
         have y3 := (M.out.2.2.2.2.2.2.2.2.2.1).c4; have p3_0 := y3.1; have q3_0 := y3.2.1; have p3_1 := y3.2.2.1; have q3_1 := y3.2.2.2.1; have p3_2 := y3.2.2.2.2.1; have q3_2 := y3.2.2.2.2.2.1; have p3_3 := y3.2.2.2.2.2.2.1; have q3_3 := y3.2.2.2.2.2.2.2; clear y3
         have y0 := (M.out.2.2.2.2.2.2.1).c4; have p0_0 := y0.1; have q0_0 := y0.2.1; have p0_1 := y0.2.2.1; have q0_1 := y0.2.2.2.1; have p0_2 := y0.2.2.2.2.1; have q0_2 := y0.2.2.2.2.2.1; have p0_3 := y0.2.2.2.2.2.2.1; have q0_3 := y0.2.2.2.2.2.2.2; clear y0
         go_wp2_with fail
         clear p3_0 q3_0 p3_1 q3_1 p3_2 q3_2 p3_3 q3_3 p0_0 q0_0 p0_1 q0_1 p0_2 q0_2 p0_3 q0_3
         refine (fracCompare_is (G := G) (q := fq) (r := q) (k := k1) (M.out.2.2.2.1) (H1.out.keep (M.out.2.2.2.2.2.2.2.2.2.2)) (Fz.mono HSQ.out (by omega)) (Fz.mono HQ.out (by omega)) HK1.out).mono ?_
         rintro e w10 ⟨rfl, hb⟩
         replace M := Lib.hid (Goes.go M.out hb)
         clear hb
         have y4 := (M.out.1).c4; have p4_0 := y4.1; have q4_0 := y4.2.1; have p4_1 := y4.2.2.1; have q4_1 := y4.2.2.2.1; have p4_2 := y4.2.2.2.2.1; have q4_2 := y4.2.2.2.2.2.1; have p4_3 := y4.2.2.2.2.2.2.1; have q4_3 := y4.2.2.2.2.2.2.2; clear y4
         have y0 := (M.out.2.2.2.2.2.2.1).c4; have p0_0 := y0.1; have q0_0 := y0.2.1; have p0_1 := y0.2.2.1; have q0_1 := y0.2.2.2.1; have p0_2 := y0.2.2.2.2.1; have q0_2 := y0.2.2.2.2.2.1; have p0_3 := y0.2.2.2.2.2.2.1; have q0_3 := y0.2.2.2.2.2.2.2; clear y0
         go_wp2_with fail
         clear p4_0 q4_0 p4_1 q4_1 p4_2 q4_2 p4_3 q4_3 p0_0 q0_0 p0_1 q0_1 p0_2 q0_2 p0_3 q0_3
         refine (fracCompare_is (G := G) (q := f1) (r := q) (k := 1) (M.out.2.1) (H1.out.keep (M.out.2.2.2.2.2.2.2.2.2.2)) (Fz.mono HSR.out (by omega)) (Fz.mono HQ.out (by omega)) HK2.out).mono ?_
         rintro e w11 ⟨rfl, hb⟩
         replace M := Lib.hid (Goes.go M.out hb)
         clear hb
         go_upto_region 10 with fail
         replace M := Lib.hid (And.intro (M.out.2.2.2.1) (And.intro (M.out.2.2.2.2.1) (And.intro (M.out.2.2.2.2.2.1) (And.intro (M.out.2.2.2.2.2.2.1) (And.intro (M.out.2.2.2.2.2.2.2.1) (And.intro (M.out.2.2.2.2.2.2.2.2.1) (And.intro (M.out.2.2.2.2.2.2.2.2.2.1) (M.out.2.2.2.2.2.2.2.2.2.2))))))))
         go_cut [13] (fun s13 wx => ∃ (A133 : Nat), ∃ (a_126 : Option Addr), ∃ (c_127 : Nat), ∃ (z128 : Int), ∃ (a_130 : Option Addr), ∃ (c_131 : Nat), s13 = .pointer (some ⟨A133, 0, none⟩) ∧ Hid (z128 = (-(nu q))) ∧ Hid (Sz z128 30) ∧ A50 < A133 ∧ Hid (Bx wx A133 24 #[.int .i64 (sg (- (f + 1))), .slice a_130 (ln (- (f + 1))) c_131] ∧ BD G wx a_130 c_131 (- (f + 1)) ∧ BD G wx a_126 c_127 z128 ∧ FD G wx a_45 c_46 b_47 d_48 fq ∧ BD G wx a_7 c_8 z9 ∧ BD G wx a_1 c_2 f ∧ Bx wx w.heap.size 26 #[.int .i64 (sg (nu q)), .slice a1 (ln (nu q)) c1, .int .i64 (sg (de q)), .slice b1 (ln (de q)) d1] ∧ Bx wx w5.heap.size 24 #[.int .i64 (sg f), .slice a_1 (ln f) c_2] ∧ Bx wx A11 24 #[.int .i64 (sg z9), .slice a_7 (ln z9) c_8] ∧ Bx wx A50 26 #[.int .i64 (sg (nu fq)), .slice a_45 (ln (nu fq)) c_46, .int .i64 (sg (de fq)), .slice b_47 (ln (de fq)) d_48] ∧ Below w.heap.size w wx))
         case first =>
           obtain ⟨w12, hv⟩ : ∃ w_ : World, w_ = w11.drew := ⟨_, rfl⟩
           replace M := Lib.hid (Goes.go M.out (hv ▸ below_drew _ : Below w11.heap.size w11 w12))
           refine wp_region_held_drew (S := (fun w' => w'.cell? ⟨w.heap.size, 0, none⟩ = some (.int .i64 (sg (nu q))) ∧ w'.cell? ⟨w.heap.size, 1, none⟩ = some (.slice a1 (ln (nu q)) c1) ∧ w'.cell? ⟨w.heap.size, 2, none⟩ = some (.int .i64 (sg (de q))) ∧ w'.cell? ⟨w.heap.size, 3, none⟩ = some (.slice b1 (ln (de q)) d1))) (by kernel_rfl) (by rw [← hv]; exact ⟨(M.out.2.2.2.1).at.1 0, (M.out.2.2.2.1).at.1 1, (M.out.2.2.2.1).at.1 2, (M.out.2.2.2.1).at.1 3⟩) (fun hH134 => ?_)
           rw [← hv] at hH134 ⊢
           clear hv
           refine tk at0 ?_
           refine tk at1 ?_
           refine tk at3 ?_
           refine tk at4 ?_
           refine wpAnyH_ready (rs := [2, 7]) (by kernel_rfl) (by simp) ?_
           refine AllReadyH.cons at2 (fun K hK => ?_) ?_
           ·
             go_simp
             obtain ⟨z137, ez137⟩ : ∃ v_ : Int, v_ = (-(nu q)) := ⟨_, rfl⟩
             refine (bigNeg_ok (G := G) (x := (nu q)) (H1.out.keep (M.out.2.2.2.2.2.2.2)).n (Sz.mono HQ.out.1 (by omega))).mono ?_
             rintro e w13 ⟨a_135, c_136, rfl, hd138, hb⟩
             rw [← ez137] at hd138 ⊢
             have Sz137 : Hid (Sz z137 30) := by show Sz z137 30; rw [ez137]; exact (Sz.neg HQ.out.1)
             have Ez137 := Lib.hid ez137; clear ez137
             replace M := Lib.hid (And.intro hd138 (Goes.go M.out hb))
             clear hb hd138
             (try go_wp2_with fail)
             refine hK.out _ _ (⟨(M.out.2.2.2.2.1).at.1 0, (M.out.2.2.2.2.1).at.1 1, (M.out.2.2.2.2.1).at.1 2, (M.out.2.2.2.2.1).at.1 3⟩) (fun hH139 => ?_)
             clear hK K hH134
             (try simp only [Act.put, List.setIfInBounds_toArray, List.set_cons_zero, List.set_cons_succ])
             refine tk at5 ?_
             refine wpAnyH_ready (rs := [6, 7]) (by kernel_rfl) (by simp) ?_
             refine AllReadyH.cons at6 (fun K hK => ?_) ?_
             ·
               go_simp
               refine (fracFloor_neg (G := G) (q := q) (z := z137) (f := (- (f + 1))) (Nat.le_trans hG (M.out.2.2.2.2.2.2.2.2).size) (M.out.1) (H1.out.keep (M.out.2.2.2.2.2.2.2.2)).d (Fz.mono HQ.out (by omega)) Ez137.out HFG.out).mono ?_
               rintro e w14 ⟨a_140, c_141, rfl, hd142, hb⟩
               replace M := Lib.hid (And.intro hd142 (Goes.go M.out hb))
               clear hb hd142
               (try go_wp2_with fail)
               refine hK.out _ _ (⟨(M.out.2.2.2.2.2.1).at.1 0, (M.out.2.2.2.2.2.1).at.1 1, (M.out.2.2.2.2.2.1).at.1 2, (M.out.2.2.2.2.2.1).at.1 3⟩) (fun hH143 => ?_)
               clear hK K hH139
               (try simp only [Act.put, List.setIfInBounds_toArray, List.set_cons_zero, List.set_cons_succ])
               refine wpAnyH_ready (rs := [7]) (by kernel_rfl) (by simp) ?_
               refine AllReadyH.cons at7 (fun K hK => ?_) AllReadyH.nil
               go_simp
               obtain ⟨w15, hv⟩ : ∃ w_ : World, w_ = (w14.alloc (.cells #[.int .i64 0, .slice none 0 0] 24)) := ⟨_, rfl⟩
               rw [← hv]
               have o5 : A50 < w14.heap.size := ((M.out.2.2.2.2.2.2.2.2.1)).lt
               replace M := Lib.hid (And.intro (hv ▸ bx1 w14 24 #[.int .i64 0, .slice none 0 0]) (Goes.go M.out (hv ▸ below_alloc _ _ : Below w14.heap.size w14 w15)))
               clear hv
               refine hK.out _ _ (⟨(M.out.2.2.2.2.2.2.1).at.1 0, (M.out.2.2.2.2.2.2.1).at.1 1, (M.out.2.2.2.2.2.2.1).at.1 2, (M.out.2.2.2.2.2.2.1).at.1 3⟩) (fun hH144 => ?_)
               clear hK K hH143
               (try simp only [Act.put, List.setIfInBounds_toArray, List.set_cons_zero, List.set_cons_succ])
               refine wpAnyH_ready (rs := [8]) (by kernel_rfl) (by simp) ?_
               refine AllReadyH.cons at8 (fun K hK => ?_) AllReadyH.nil
               have y5 := (M.out.1).c2; have p5_0 := y5.1; have q5_0 := y5.2.1; have p5_1 := y5.2.2.1; have q5_1 := y5.2.2.2; clear y5
               go_simp
               clear p5_0 q5_0 p5_1 q5_1
               obtain ⟨w16, hv⟩ : ∃ w_ : World, w_ = ((w15.setCell ⟨w14.heap.size, 0, none⟩ (.int .i64 (sg (- (f + 1))))).setCell ⟨w14.heap.size, 1, none⟩ (.slice a_140 (ln (- (f + 1))) c_141)) := ⟨_, rfl⟩
               rw [← hv]
               have og : w15.grownBy w16 (some w14.heap.size) := by rw [hv]; exact (only_setCell (only_setCell (World.grownBy.refl _ _) _) _)
               have hz : w.heap.size ≤ w14.heap.size := by omega
               have hk : Bx w16 w14.heap.size 24 #[.int .i64 (sg (- (f + 1))), .slice a_140 (ln (- (f + 1))) c_141] := by rw [hv]; exact (((M.out.1).set 0 _).set 1 _)
               have hbw : Below w.heap.size w w16 := by rw [hv]; exact (Below.setCell (Below.setCell (M.out.2.2.2.2.2.2.2.2.2.2) (by omega) _) (by omega) _)
               replace M := Lib.hid (And.intro hk (And.intro ((M.out.2.1).far (M.out.1) (by rfl) (by omega) og) (And.intro ((M.out.2.2.1).far (M.out.1) (by rfl) (by omega) og) (And.intro ((M.out.2.2.2.1).far (M.out.1) (by rfl) (by omega) og) (And.intro ((M.out.2.2.2.2.1).far (M.out.1) (by rfl) (by omega) og) (And.intro ((M.out.2.2.2.2.2.1).far (M.out.1) (by rfl) (by omega) og) (And.intro ((M.out.2.2.2.2.2.2.1).only og (by omega)) (And.intro ((M.out.2.2.2.2.2.2.2.1).only og (by omega)) (And.intro ((M.out.2.2.2.2.2.2.2.2.1).only og (by omega)) (And.intro ((M.out.2.2.2.2.2.2.2.2.2.1).only og (by omega)) hbw))))))))))
               clear hk hbw og hv hz
               refine hK.out _ _ (⟨(M.out.2.2.2.2.2.2.1).at.1 0, (M.out.2.2.2.2.2.2.1).at.1 1, (M.out.2.2.2.2.2.2.1).at.1 2, (M.out.2.2.2.2.2.2.1).at.1 3⟩) (fun hH145 => ?_)
               clear hK K hH144
               (try simp only [Act.put, List.setIfInBounds_toArray, List.set_cons_zero, List.set_cons_succ])
               refine wpAnyH_done (by kernel_rfl) ?_ _
               clear hH145
               go_wp2_with fail
               go_meet
               exact ⟨w14.heap.size, a_135, c_136, z137, a_140, c_141, rfl, Ez137, Sz137, (by omega), (M.out.1), (M.out.2.1), (M.out.2.2.1), (M.out.2.2.2.1), (M.out.2.2.2.2.1), (M.out.2.2.2.2.2.1), (M.out.2.2.2.2.2.2.1), (M.out.2.2.2.2.2.2.2.1), (M.out.2.2.2.2.2.2.2.2.1), (M.out.2.2.2.2.2.2.2.2.2.1), (M.out.2.2.2.2.2.2.2.2.2.2)⟩
             refine AllReadyH.cons at7 (fun K hK => ?_) AllReadyH.nil
             go_simp
             obtain ⟨w14, hv⟩ : ∃ w_ : World, w_ = (w13.alloc (.cells #[.int .i64 0, .slice none 0 0] 24)) := ⟨_, rfl⟩
             rw [← hv]
             have o5 : A50 < w13.heap.size := ((M.out.2.2.2.2.2.2.2.1)).lt
             replace M := Lib.hid (And.intro (hv ▸ bx1 w13 24 #[.int .i64 0, .slice none 0 0]) (Goes.go M.out (hv ▸ below_alloc _ _ : Below w13.heap.size w13 w14)))
             clear hv
             refine hK.out _ _ (⟨(M.out.2.2.2.2.2.1).at.1 0, (M.out.2.2.2.2.2.1).at.1 1, (M.out.2.2.2.2.2.1).at.1 2, (M.out.2.2.2.2.2.1).at.1 3⟩) (fun hH146 => ?_)
             clear hK K hH139
             (try simp only [Act.put, List.setIfInBounds_toArray, List.set_cons_zero, List.set_cons_succ])
             refine wpAnyH_ready (rs := [6]) (by kernel_rfl) (by simp) ?_
             refine AllReadyH.cons at6 (fun K hK => ?_) AllReadyH.nil
             go_simp
             refine (fracFloor_neg (G := G) (q := q) (z := z137) (f := (- (f + 1))) (Nat.le_trans hG (M.out.2.2.2.2.2.2.2.2.2).size) (M.out.2.1) (H1.out.keep (M.out.2.2.2.2.2.2.2.2.2)).d (Fz.mono HQ.out (by omega)) Ez137.out HFG.out).mono ?_
             rintro e w15 ⟨a_147, c_148, rfl, hd149, hb⟩
             replace M := Lib.hid (And.intro hd149 (Goes.go M.out hb))
             clear hb hd149
             (try go_wp2_with fail)
             refine hK.out _ _ (⟨(M.out.2.2.2.2.2.2.1).at.1 0, (M.out.2.2.2.2.2.2.1).at.1 1, (M.out.2.2.2.2.2.2.1).at.1 2, (M.out.2.2.2.2.2.2.1).at.1 3⟩) (fun hH150 => ?_)
             clear hK K hH146
             (try simp only [Act.put, List.setIfInBounds_toArray, List.set_cons_zero, List.set_cons_succ])
             refine wpAnyH_ready (rs := [8]) (by kernel_rfl) (by simp) ?_
             refine AllReadyH.cons at8 (fun K hK => ?_) AllReadyH.nil
             have y5 := (M.out.2.1).c2; have p5_0 := y5.1; have q5_0 := y5.2.1; have p5_1 := y5.2.2.1; have q5_1 := y5.2.2.2; clear y5
             go_simp
             clear p5_0 q5_0 p5_1 q5_1
             obtain ⟨w16, hv⟩ : ∃ w_ : World, w_ = ((w15.setCell ⟨w13.heap.size, 0, none⟩ (.int .i64 (sg (- (f + 1))))).setCell ⟨w13.heap.size, 1, none⟩ (.slice a_147 (ln (- (f + 1))) c_148)) := ⟨_, rfl⟩
             rw [← hv]
             have og : w15.grownBy w16 (some w13.heap.size) := by rw [hv]; exact (only_setCell (only_setCell (World.grownBy.refl _ _) _) _)
             have hz : w.heap.size ≤ w13.heap.size := by omega
             have hk : Bx w16 w13.heap.size 24 #[.int .i64 (sg (- (f + 1))), .slice a_147 (ln (- (f + 1))) c_148] := by rw [hv]; exact (((M.out.2.1).set 0 _).set 1 _)
             have hbw : Below w.heap.size w w16 := by rw [hv]; exact (Below.setCell (Below.setCell (M.out.2.2.2.2.2.2.2.2.2.2) (by omega) _) (by omega) _)
             replace M := Lib.hid (And.intro ((M.out.1).far (M.out.2.1) (by rfl) (by omega) og) (And.intro hk (And.intro ((M.out.2.2.1).far (M.out.2.1) (by rfl) (by omega) og) (And.intro ((M.out.2.2.2.1).far (M.out.2.1) (by rfl) (by omega) og) (And.intro ((M.out.2.2.2.2.1).far (M.out.2.1) (by rfl) (by omega) og) (And.intro ((M.out.2.2.2.2.2.1).far (M.out.2.1) (by rfl) (by omega) og) (And.intro ((M.out.2.2.2.2.2.2.1).only og (by omega)) (And.intro ((M.out.2.2.2.2.2.2.2.1).only og (by omega)) (And.intro ((M.out.2.2.2.2.2.2.2.2.1).only og (by omega)) (And.intro ((M.out.2.2.2.2.2.2.2.2.2.1).only og (by omega)) hbw))))))))))
             clear hk hbw og hv hz
             refine hK.out _ _ (⟨(M.out.2.2.2.2.2.2.1).at.1 0, (M.out.2.2.2.2.2.2.1).at.1 1, (M.out.2.2.2.2.2.2.1).at.1 2, (M.out.2.2.2.2.2.2.1).at.1 3⟩) (fun hH151 => ?_)
             clear hK K hH150
             (try simp only [Act.put, List.setIfInBounds_toArray, List.set_cons_zero, List.set_cons_succ])
             refine wpAnyH_done (by kernel_rfl) ?_ _
             clear hH151
             go_wp2_with fail
             go_meet
             exact ⟨w13.heap.size, a_135, c_136, z137, a_147, c_148, rfl, Ez137, Sz137, (by omega), (M.out.2.1), (M.out.1), (M.out.2.2.1), (M.out.2.2.2.1), (M.out.2.2.2.2.1), (M.out.2.2.2.2.2.1), (M.out.2.2.2.2.2.2.1), (M.out.2.2.2.2.2.2.2.1), (M.out.2.2.2.2.2.2.2.2.1), (M.out.2.2.2.2.2.2.2.2.2.1), (M.out.2.2.2.2.2.2.2.2.2.2)⟩
           refine AllReadyH.cons at7 (fun K hK => ?_) AllReadyH.nil
           go_simp
           obtain ⟨w13, hv⟩ : ∃ w_ : World, w_ = (w12.alloc (.cells #[.int .i64 0, .slice none 0 0] 24)) := ⟨_, rfl⟩
           rw [← hv]
           have o5 : A50 < w12.heap.size := ((M.out.2.2.2.2.2.2.1)).lt
           replace M := Lib.hid (And.intro (hv ▸ bx1 w12 24 #[.int .i64 0, .slice none 0 0]) (Goes.go M.out (hv ▸ below_alloc _ _ : Below w12.heap.size w12 w13)))
           clear hv
           refine hK.out _ _ (⟨(M.out.2.2.2.2.1).at.1 0, (M.out.2.2.2.2.1).at.1 1, (M.out.2.2.2.2.1).at.1 2, (M.out.2.2.2.2.1).at.1 3⟩) (fun hH152 => ?_)
           clear hK K hH134
           (try simp only [Act.put, List.setIfInBounds_toArray, List.set_cons_zero, List.set_cons_succ])
           refine wpAnyH_ready (rs := [2]) (by kernel_rfl) (by simp) ?_
           refine AllReadyH.cons at2 (fun K hK => ?_) AllReadyH.nil
           go_simp
           obtain ⟨z155, ez155⟩ : ∃ v_ : Int, v_ = (-(nu q)) := ⟨_, rfl⟩
           refine (bigNeg_ok (G := G) (x := (nu q)) (H1.out.keep (M.out.2.2.2.2.2.2.2.2)).n (Sz.mono HQ.out.1 (by omega))).mono ?_
           rintro e w14 ⟨a_153, c_154, rfl, hd156, hb⟩
           rw [← ez155] at hd156 ⊢
           have Sz155 : Hid (Sz z155 30) := by show Sz z155 30; rw [ez155]; exact (Sz.neg HQ.out.1)
           have Ez155 := Lib.hid ez155; clear ez155
           replace M := Lib.hid (And.intro hd156 (Goes.go M.out hb))
           clear hb hd156
           (try go_wp2_with fail)
           refine hK.out _ _ (⟨(M.out.2.2.2.2.2.1).at.1 0, (M.out.2.2.2.2.2.1).at.1 1, (M.out.2.2.2.2.2.1).at.1 2, (M.out.2.2.2.2.2.1).at.1 3⟩) (fun hH157 => ?_)
           clear hK K hH152
           (try simp only [Act.put, List.setIfInBounds_toArray, List.set_cons_zero, List.set_cons_succ])
           refine tk at5 ?_
           refine wpAnyH_ready (rs := [6]) (by kernel_rfl) (by simp) ?_
           refine AllReadyH.cons at6 (fun K hK => ?_) AllReadyH.nil
           go_simp
           refine (fracFloor_neg (G := G) (q := q) (z := z155) (f := (- (f + 1))) (Nat.le_trans hG (M.out.2.2.2.2.2.2.2.2.2).size) (M.out.1) (H1.out.keep (M.out.2.2.2.2.2.2.2.2.2)).d (Fz.mono HQ.out (by omega)) Ez155.out HFG.out).mono ?_
           rintro e w15 ⟨a_158, c_159, rfl, hd160, hb⟩
           replace M := Lib.hid (And.intro hd160 (Goes.go M.out hb))
           clear hb hd160
           (try go_wp2_with fail)
           refine hK.out _ _ (⟨(M.out.2.2.2.2.2.2.1).at.1 0, (M.out.2.2.2.2.2.2.1).at.1 1, (M.out.2.2.2.2.2.2.1).at.1 2, (M.out.2.2.2.2.2.2.1).at.1 3⟩) (fun hH161 => ?_)
           clear hK K hH157
           (try simp only [Act.put, List.setIfInBounds_toArray, List.set_cons_zero, List.set_cons_succ])
           refine wpAnyH_ready (rs := [8]) (by kernel_rfl) (by simp) ?_
           refine AllReadyH.cons at8 (fun K hK => ?_) AllReadyH.nil
           have y5 := (M.out.2.2.1).c2; have p5_0 := y5.1; have q5_0 := y5.2.1; have p5_1 := y5.2.2.1; have q5_1 := y5.2.2.2; clear y5
           go_simp
           clear p5_0 q5_0 p5_1 q5_1
           obtain ⟨w16, hv⟩ : ∃ w_ : World, w_ = ((w15.setCell ⟨w12.heap.size, 0, none⟩ (.int .i64 (sg (- (f + 1))))).setCell ⟨w12.heap.size, 1, none⟩ (.slice a_158 (ln (- (f + 1))) c_159)) := ⟨_, rfl⟩
           rw [← hv]
           have og : w15.grownBy w16 (some w12.heap.size) := by rw [hv]; exact (only_setCell (only_setCell (World.grownBy.refl _ _) _) _)
           have hz : w.heap.size ≤ w12.heap.size := by omega
           have hk : Bx w16 w12.heap.size 24 #[.int .i64 (sg (- (f + 1))), .slice a_158 (ln (- (f + 1))) c_159] := by rw [hv]; exact (((M.out.2.2.1).set 0 _).set 1 _)
           have hbw : Below w.heap.size w w16 := by rw [hv]; exact (Below.setCell (Below.setCell (M.out.2.2.2.2.2.2.2.2.2.2) (by omega) _) (by omega) _)
           replace M := Lib.hid (And.intro ((M.out.1).far (M.out.2.2.1) (by rfl) (by omega) og) (And.intro ((M.out.2.1).far (M.out.2.2.1) (by rfl) (by omega) og) (And.intro hk (And.intro ((M.out.2.2.2.1).far (M.out.2.2.1) (by rfl) (by omega) og) (And.intro ((M.out.2.2.2.2.1).far (M.out.2.2.1) (by rfl) (by omega) og) (And.intro ((M.out.2.2.2.2.2.1).far (M.out.2.2.1) (by rfl) (by omega) og) (And.intro ((M.out.2.2.2.2.2.2.1).only og (by omega)) (And.intro ((M.out.2.2.2.2.2.2.2.1).only og (by omega)) (And.intro ((M.out.2.2.2.2.2.2.2.2.1).only og (by omega)) (And.intro ((M.out.2.2.2.2.2.2.2.2.2.1).only og (by omega)) hbw))))))))))
           clear hk hbw og hv hz
           refine hK.out _ _ (⟨(M.out.2.2.2.2.2.2.1).at.1 0, (M.out.2.2.2.2.2.2.1).at.1 1, (M.out.2.2.2.2.2.2.1).at.1 2, (M.out.2.2.2.2.2.2.1).at.1 3⟩) (fun hH162 => ?_)
           clear hK K hH161
           (try simp only [Act.put, List.setIfInBounds_toArray, List.set_cons_zero, List.set_cons_succ])
           refine wpAnyH_done (by kernel_rfl) ?_ _
           clear hH162
           go_wp2_with fail
           go_meet
           exact ⟨w12.heap.size, a_153, c_154, z155, a_158, c_159, rfl, Ez155, Sz155, (by omega), (M.out.2.2.1), (M.out.1), (M.out.2.1), (M.out.2.2.2.1), (M.out.2.2.2.2.1), (M.out.2.2.2.2.2.1), (M.out.2.2.2.2.2.2.1), (M.out.2.2.2.2.2.2.2.1), (M.out.2.2.2.2.2.2.2.2.1), (M.out.2.2.2.2.2.2.2.2.2.1), (M.out.2.2.2.2.2.2.2.2.2.2)⟩
         case rest =>
           obtain ⟨A133, a_126, c_127, z128, a_130, c_131, rfl, Ez128, Sz128, oA133, M⟩ := hcut
           obtain ⟨w12, rfl⟩ : ∃ w_ : World, w_ = wc := ⟨_, rfl⟩
           have y3 := (M.out.2.2.2.2.2.2.2.2.2.1).c4; have p3_0 := y3.1; have q3_0 := y3.2.1; have p3_1 := y3.2.2.1; have q3_1 := y3.2.2.2.1; have p3_2 := y3.2.2.2.2.1; have q3_2 := y3.2.2.2.2.2.1; have p3_3 := y3.2.2.2.2.2.2.1; have q3_3 := y3.2.2.2.2.2.2.2; clear y3
           have y0 := (M.out.2.2.2.2.2.2.1).c4; have p0_0 := y0.1; have q0_0 := y0.2.1; have p0_1 := y0.2.2.1; have q0_1 := y0.2.2.2.1; have p0_2 := y0.2.2.2.2.1; have q0_2 := y0.2.2.2.2.2.1; have p0_3 := y0.2.2.2.2.2.2.1; have q0_3 := y0.2.2.2.2.2.2.2; clear y0
           go_wp2_with fail
           clear p3_0 q3_0 p3_1 q3_1 p3_2 q3_2 p3_3 q3_3 p0_0 q0_0 p0_1 q0_1 p0_2 q0_2 p0_3 q0_3
           refine (rfsame_b (G := G) (q := fq) (r := q) (b := false) (M.out.2.2.2.1) (H1.out.keep (M.out.2.2.2.2.2.2.2.2.2.2)) (Fz.mono HSQ.out (by omega)) (Fz.mono HQ.out (by omega)) HW.out).mono ?_
           rintro e w13 ⟨rfl, hb⟩
           replace M := Lib.hid (Goes.go M.out hb)
           clear hb
           go_upto_region 12 with fail
           as_aux_lemma =>
            have y2 := (M.out.2.2.2.2.2.2.2.2.1).c2; have p2_0 := y2.1; have q2_0 := y2.2.1; have p2_1 := y2.2.2.1; have q2_1 := y2.2.2.2; clear y2
            go_wp2_with fail
            clear p2_0 q2_0 p2_1 q2_1
            replace M := Lib.hid (And.intro (M.out.1) (And.intro (M.out.2.1) (And.intro (M.out.2.2.2.2.1) (And.intro (M.out.2.2.2.2.2.1) (And.intro (M.out.2.2.2.2.2.2.2.1) (M.out.2.2.2.2.2.2.2.2.2.2))))))
            obtain ⟨z165, ez165⟩ : ∃ v_ : Int, v_ = (-z9) := ⟨_, rfl⟩
            refine (bigNeg_ok (G := G) (x := z9) (M.out.2.2.1) (Sz.mono Sz9.out (by omega))).mono ?_
            rintro e w14 ⟨a_163, c_164, rfl, hd166, hb⟩
            rw [← ez165] at hd166 ⊢
            have Sz165 : Hid (Sz z165 31) := by show Sz z165 31; rw [ez165]; exact (Sz.neg Sz9.out)
            have Ez165 := Lib.hid ez165; clear ez165
            replace M := Lib.hid (And.intro hd166 (Goes.go M.out hb))
            clear hb hd166
            go_upto_region 13 with fail
            obtain ⟨w15, hv⟩ : ∃ w_ : World, w_ = (w14.alloc (.cells #[.int .i64 (sg z165), .slice a_163 (ln z165) c_164] 24)) := ⟨_, rfl⟩
            rw [← hv]
            have o6 : A133 < w14.heap.size := ((M.out.2.1)).lt
            replace M := Lib.hid (And.intro (hv ▸ bx1 w14 24 #[.int .i64 (sg z165), .slice a_163 (ln z165) c_164]) (Goes.go M.out (hv ▸ below_alloc _ _ : Below w14.heap.size w14 w15)))
            clear hv
            have y5 := (M.out.2.2.1).c2; have p5_0 := y5.1; have q5_0 := y5.2.1; have p5_1 := y5.2.2.1; have q5_1 := y5.2.2.2; clear y5
            have y6 := (M.out.1).c2; have p6_0 := y6.1; have q6_0 := y6.2.1; have p6_1 := y6.2.2.1; have q6_1 := y6.2.2.2; clear y6
            go_wp2_with fail
            clear p5_0 q5_0 p5_1 q5_1 p6_0 q6_0 p6_1 q6_1
            replace M := Lib.hid (And.intro (M.out.2.1) (And.intro (M.out.2.2.2.1) (M.out.2.2.2.2.2.2.2)))
            refine (samebig_is (G := G) (x := (- (f + 1))) (y := z165) (b := true) (M.out.2.1) (M.out.1) (Sz.mono (Sz.neg (Sz.add HSF.out (Sz.mono (show Sz (1) 1 from by unfold Sz; decide) (by omega)))) (by omega)) (Sz.mono Sz165.out (by omega)) (eqZ_of (by rw [Ez165.out, Ez9.out] <;> rfl))).mono ?_
            rintro e w16 ⟨rfl, hb⟩
            replace M := Lib.hid (Goes.go M.out hb)
            clear hb
            go_wp2_with fail
            refine (of_is (G := G) (x := n) (y := 1) (q := (Rat.divInt n 1)) (Nat.le_trans hG (M.out.2.2).size) HNI.out (by decide) (by decide) rfl).mono ?_
            rintro e w17 ⟨a_167, c_168, b_169, d_170, rfl, hd171, hb⟩
            replace M := Lib.hid (And.intro hd171 (Goes.go M.out hb))
            clear hb hd171
            go_wp2_with fail
            refine (fracFloor_is (G := G) (q := (Rat.divInt n 1)) (f := n) (Nat.le_trans hG (M.out.2.2.2).size) (M.out.1) (Fz.mono (new_size (n := 4) (by decide) (sz_int (n := 0) HNI.out) (by unfold Sz; decide)) (by omega)) HFN.out).mono ?_
            rintro e w18 ⟨a_172, c_173, rfl, hd174, hb⟩
            replace M := Lib.hid (And.intro hd174 (Goes.go M.out hb))
            clear hb hd174
            go_wp2_with fail
            refine (bigOf_ok (G := G) n _ HNI.out).mono ?_
            rintro e w19 ⟨a_175, c_176, rfl, hd177, hb⟩
            replace M := Lib.hid (And.intro hd177 (Goes.go M.out hb))
            clear hb hd177
            go_wp2_with fail
            refine (samebig_is (G := G) (x := n) (y := n) (b := true) (M.out.2.1) (M.out.1) (Sz.mono (sz_int (n := 0) HNI.out) (by omega)) (Sz.mono (sz_int (n := 0) HNI.out) (by omega)) (eqZ_of rfl)).mono ?_
            rintro e w20 ⟨rfl, hb⟩
            replace M := Lib.hid (Goes.go M.out hb)
            clear hb
            go_wp2_with fail
            go_ret
            exact ⟨rfl, (M.out.2.2.2.2.2)⟩

theorem floor_all {n : Int} {q : Rat} {a1 b1 : Option Addr} {c1 d1 : Nat} {w : World} (hG : G ≤ w.heap.size) (ht : Tab w) (hm : Mx w) (h1 : FD G w a1 c1 b1 d1 q) (hq : Fz q 30) (hn : -9223372036854775808 ≤ n ∧ n ≤ 9223372036854775807) :
    Calls Tryz.prog 7 #[.agg #[.int .i64 (sg (nu q)), .slice a1 (ln (nu q)) c1, .int .i64 (sg (de q)), .slice b1 (ln (de q)) d1], .int .i64 n] w fun e w' => e = .returned (.bool true) ∧ Below w.heap.size w w' := by
  by_cases h : ((flo q : Int) : Rat) = q
  · exact floor_whole hG ht hm h1 hq hn h
  · exact floor_part hG ht hm h1 hq hn h

theorem floor_walk {n : Int} (hn_ : (Lit.int .i64 n).wf = true) {sa ta : Int} {la ma : List Int} {a1 b1 : Option Addr} {c1 d1 : Nat} {w : World} (ht : Tab w) (hm : Mx w) (h1 : FR w a1 c1 b1 d1 la ma) :
    Calls Tryz.prog 7 #[.agg #[.int .i64 sa, .slice a1 la.length c1, .int .i64 ta, .slice b1 ma.length d1], .int .i64 n] w fun e w' => e = .returned (.bool true) ∧ Below w.heap.size w w' := by
  have hi : -9223372036854775808 ≤ n ∧ n ≤ 9223372036854775807 := by simpa [Lit.wf, IntKind.min, IntKind.max, IntKind.signed, IntKind.bits] using hn_
  cases hn : ((decide ((la.length : Int) ≤ 30) && decide ((ma.length : Int) ≤ 30)) && rightF sa la ta ma) with
  | false => exact floor_not (G := w.heap.size) (Nat.le_refl _) ht hm h1 hn
  | true =>
    simp only [Bool.and_eq_true] at hn
    obtain ⟨⟨fla, fma⟩, ra⟩ := hn
    obtain ⟨q, esa, ela, eta, ema, ba⟩ := fd_of_right h1 ra
    rw [ela] at fla
    rw [ema] at fma
    rw [esa, ela, eta, ema]
    exact floor_all (G := w.heap.size) (Nat.le_refl _) ht hm ba ⟨few_sz_of fla rfl, few_sz_of fma rfl⟩ hi

end Go.Proofs.YtcfmakpckdicjaaGreatDoor
