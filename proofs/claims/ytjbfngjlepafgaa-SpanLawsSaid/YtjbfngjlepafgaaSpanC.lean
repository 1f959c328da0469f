/- Walks: products, common parts .. of right spans. -/
import Derived.Test.YtjbfngjlepafgaaBase
import Derived.Test.YtjbfngjlepafgaaBigSpec
import Derived.Test.YtjbfngjlepafgaaBigB
import Derived.Test.YtjbfngjlepafgaaBigC
import Derived.Test.YtjbfngjlepafgaaBigD
import Derived.Test.YtjbfngjlepafgaaBigK
import Derived.Test.YtjbfngjlepafgaaBigL
import Derived.Test.YtjbfngjlepafgaaBigQ
import Derived.Test.YtjbfngjlepafgaaFracA
import Derived.Test.YtjbfngjlepafgaaFracC
import Derived.Test.YtjbfngjlepafgaaFz
import Derived.Test.YtjbfngjlepafgaaHeld
import Derived.Test.YtjbfngjlepafgaaAw
import Derived.Test.YtjbfngjlepafgaaFracR
import Derived.Test.YtjbfngjlepafgaaRefJ
import Derived.Test.YtjbfngjlepafgaaFq
import Derived.Test.YtjbfngjlepafgaaSpanPlain
import Derived.Test.YtjbfngjlepafgaaSpanB
import Derived.Test.YtjbfngjlepafgaaProg
import Derived.WalkKit
import Derived.WalkSpells
import Derived.WalkLawsBesides
import Derived.Handy
import Derived.Lib.Hide
import Derived.Lib.Strings
import Derived.Lib.Builder
import Derived.BigQuiet
import Derived.OwnWalk
import Derived.Laws.BitsLemmas
import Derived.WalkSmall
import Derived.Deep.QuietTactic
import Derived.StillTailTactics
import Derived.Maps.AppendAt
import Derived.IntWalk
import Derived.Deep.RegionHeld3
import Derived.Deep.DeepFit
import Derived.Deep.LoopGhost
import Derived.Deep.DeepCutAuto
import Derived.Lib.ItoaNum
import Derived.Lib.Repeat
import Derived.Lib.AppendIntMem
import Derived.Sort.OwnSorted
import Derived.Shelf.Strings.SlTrimAscii
import Derived.Lib.ConvBytes
import Derived.Lib.CutLaws
namespace Go.Proofs.Ytjbfngjlepafgaa
open Go.RowKit Go.Lib
variable {G : Nat}

set_option maxRecDepth 100000 in
set_option maxHeartbeats 4000000 in
theorem spNeg_q {u0 u1 u2 u3 u4 u5 u6 u7 : Value} {p q : Rat} {w : World} (hG : G ≤ w.heap.size) (h1 : FQ G w u0 u1 u2 u3 p) (h2 : FQ G w u4 u5 u6 u7 q) (hp : Fz p 34359738368) (hq : Fz q 34359738368) (ha : p ≤ q)  :
    Calls Try.prog 14 #[.agg #[u0, u1, u2, u3, u4, u5, u6, u7]] w fun e w' => ∃ x0 x1 x2 x3 x4 x5 x6 x7, e = .returned (.agg #[x0, x1, x2, x3, x4, x5, x6, x7]) ∧ FQ G w' x0 x1 x2 x3 (-q) ∧ FQ G w' x4 x5 x6 x7 (-p) ∧ Below w.heap.size w w' := by
  have HP := Lib.hid hp; have HQ := Lib.hid hq; have HA := Lib.hid (decide_eq_true ha); have HAA := Lib.hid ha; clear hp hq ha
  have H1 : Hid (FQ G w u0 u1 u2 u3 p) := h1
  have H2 : Hid (FQ G w u4 u5 u6 u7 q) := h2
  clear h1 h2
  have M : Hid (Below w.heap.size w w) := Below.refl _ _
  go_enter Try.func14, Try.ntmps14
  go_upto_region 1 with fail
  obtain ⟨w1, hv⟩ : ∃ w_ : World, w_ = ((w.alloc (.cells #[u0, u1, u2, u3, u4, u5, u6, u7] 28)).alloc (.cells #[.int .i64 0, .slice none 0 0, .int .i64 0, .slice none 0 0, .int .i64 0, .slice none 0 0, .int .i64 0, .slice none 0 0] 28)) := ⟨_, rfl⟩
  rw [← hv]
  have hbx := bx2 w 28 28 #[u0, u1, u2, u3, u4, u5, u6, u7] #[.int .i64 0, .slice none 0 0, .int .i64 0, .slice none 0 0, .int .i64 0, .slice none 0 0, .int .i64 0, .slice none 0 0]
  rw [← hv] at hbx
  have hbn : Below w.heap.size w w1 := by rw [hv]; exact (Below.alloc (Below.alloc (Below.refl _ _) (by simp <;> omega) _) (by simp <;> omega) _)
  replace M := Lib.hid (And.intro hbx.2 (And.intro hbx.1 (Goes.go M.out hbn)))
  clear hbx hbn
  clear hv
  have y0 := (M.out.2.1).d8; have p0_0 := y0.1; have p0_1 := y0.2.1; have p0_2 := y0.2.2.1; have p0_3 := y0.2.2.2.1; have p0_4 := y0.2.2.2.2.1; have p0_5 := y0.2.2.2.2.2.1; have p0_6 := y0.2.2.2.2.2.2.1; have p0_7 := y0.2.2.2.2.2.2.2; clear y0
  go_wp2_with fail
  clear p0_0 p0_1 p0_2 p0_3 p0_4 p0_5 p0_6 p0_7
  refine (spRight_q (G := G) (p := p) (q := q) (b_ := true) (H1.out.keep (M.out.2.2)) (H2.out.keep (M.out.2.2)) (Fz.mono HP.out (by omega)) (Fz.mono HQ.out (by omega)) HA.out).mono ?_
  rintro e w2 ⟨rfl, hb⟩
  replace M := Lib.hid (Goes.go M.out hb)
  clear hb
  go_wp2_with fail
  obtain ⟨w3, hv⟩ : ∃ w_ : World, w_ = w2.drew := ⟨_, rfl⟩
  replace M := Lib.hid (Goes.go M.out (hv ▸ below_drew _ : Below w2.heap.size w2 w3))
  refine wp_region_held_drew (S := (fun w' => w'.cell? ⟨w.heap.size, 0, none⟩ = some (u0) ∧ w'.cell? ⟨w.heap.size, 1, none⟩ = some (u1) ∧ w'.cell? ⟨w.heap.size, 2, none⟩ = some (u2) ∧ w'.cell? ⟨w.heap.size, 3, none⟩ = some (u3) ∧ w'.cell? ⟨w.heap.size, 4, none⟩ = some (u4) ∧ w'.cell? ⟨w.heap.size, 5, none⟩ = some (u5) ∧ w'.cell? ⟨w.heap.size, 6, none⟩ = some (u6) ∧ w'.cell? ⟨w.heap.size, 7, none⟩ = some (u7))) (by kernel_rfl) (by rw [← hv]; exact ⟨(M.out.2.1).at.1 0, (M.out.2.1).at.1 1, (M.out.2.1).at.1 2, (M.out.2.1).at.1 3, (M.out.2.1).at.1 4, (M.out.2.1).at.1 5, (M.out.2.1).at.1 6, (M.out.2.1).at.1 7⟩) (fun hH13 => ?_)
  rw [← hv] at hH13 ⊢
  clear hv
  refine tk at0 ?_
  refine tk at1 ?_
  refine tk at3 ?_
  refine tk at4 ?_
  refine wpAnyH_ready (rs := [2]) (by kernel_rfl) (by simp) ?_
  refine AllReadyH.cons at2 (fun K hK => ?_) AllReadyH.nil
  go_simp
  obtain ⟨q18, eq18⟩ : ∃ v_ : Rat, v_ = (-q) := ⟨_, rfl⟩
  refine (fqNeg (G := G) (q := q) (Nat.le_trans hG (M.out.2.2).size) (H2.out.keep (M.out.2.2)) (Fz.mono HQ.out (by omega))).mono ?_
  rintro e w4 ⟨x_14, x_15, x_16, x_17, rfl, hd19, hb⟩
  rw [← eq18] at hd19
  have Sq18 : Hid (Fz q18 34359738368) := by show Fz q18 34359738368; rw [eq18]; exact (Fz.neg HQ.out)
  have Eq18 := Lib.hid eq18; clear eq18
  replace M := Lib.hid (And.intro hd19 (Goes.go M.out hb))
  clear hb hd19
  (try go_wp2_with fail)
  refine hK.out _ _ (⟨(M.out.2.2.1).at.1 0, (M.out.2.2.1).at.1 1, (M.out.2.2.1).at.1 2, (M.out.2.2.1).at.1 3, (M.out.2.2.1).at.1 4, (M.out.2.2.1).at.1 5, (M.out.2.2.1).at.1 6, (M.out.2.2.1).at.1 7⟩) (fun hH20 => ?_)
  clear hK K hH13
  (try simp only [Act.put, List.setIfInBounds_toArray, List.set_cons_zero, List.set_cons_succ])
  refine wpAnyH_ready (rs := [5]) (by kernel_rfl) (by simp) ?_
  refine AllReadyH.cons at5 (fun K hK => ?_) AllReadyH.nil
  go_simp
  obtain ⟨q25, eq25⟩ : ∃ v_ : Rat, v_ = (-p) := ⟨_, rfl⟩
  refine (fqNeg (G := G) (q := p) (Nat.le_trans hG (M.out.2.2.2).size) (H1.out.keep (M.out.2.2.2)) (Fz.mono HP.out (by omega))).mono ?_
  rintro e w5 ⟨x_21, x_22, x_23, x_24, rfl, hd26, hb⟩
  rw [← eq25] at hd26
  have Sq25 : Hid (Fz q25 34359738368) := by show Fz q25 34359738368; rw [eq25]; exact (Fz.neg HP.out)
  have Eq25 := Lib.hid eq25; clear eq25
  replace M := Lib.hid (And.intro hd26 (Goes.go M.out hb))
  clear hb hd26
  (try go_wp2_with fail)
  refine hK.out _ _ (⟨(M.out.2.2.2.1).at.1 0, (M.out.2.2.2.1).at.1 1, (M.out.2.2.2.1).at.1 2, (M.out.2.2.2.1).at.1 3, (M.out.2.2.2.1).at.1 4, (M.out.2.2.2.1).at.1 5, (M.out.2.2.2.1).at.1 6, (M.out.2.2.2.1).at.1 7⟩) (fun hH27 => ?_)
  clear hK K hH20
  (try simp only [Act.put, List.setIfInBounds_toArray, List.set_cons_zero, List.set_cons_succ])
  refine tk at6 ?_
  refine wpAnyH_ready (rs := [7]) (by kernel_rfl) (by simp) ?_
  refine AllReadyH.cons at7 (fun K hK => ?_) AllReadyH.nil
  have y1 := (M.out.2.2.1).c8; have p1_0 := y1.1; have q1_0 := y1.2.1; have p1_1 := y1.2.2.1; have q1_1 := y1.2.2.2.1; have p1_2 := y1.2.2.2.2.1; have q1_2 := y1.2.2.2.2.2.1; have p1_3 := y1.2.2.2.2.2.2.1; have q1_3 := y1.2.2.2.2.2.2.2.1; have p1_4 := y1.2.2.2.2.2.2.2.2.1; have q1_4 := y1.2.2.2.2.2.2.2.2.2.1; have p1_5 := y1.2.2.2.2.2.2.2.2.2.2.1; have q1_5 := y1.2.2.2.2.2.2.2.2.2.2.2.1; have p1_6 := y1.2.2.2.2.2.2.2.2.2.2.2.2.1; have q1_6 := y1.2.2.2.2.2.2.2.2.2.2.2.2.2.1; have p1_7 := y1.2.2.2.2.2.2.2.2.2.2.2.2.2.2.1; have q1_7 := y1.2.2.2.2.2.2.2.2.2.2.2.2.2.2.2; clear y1
  have ys_x_14 := TQ.st (M.out.2.1); have st_x_14 := ys_x_14.1; have st_x_15 := ys_x_14.2.1; have st_x_16 := ys_x_14.2.2.1; have st_x_17 := ys_x_14.2.2.2; clear ys_x_14
  have ys_x_21 := TQ.st (M.out.1); have st_x_21 := ys_x_21.1; have st_x_22 := ys_x_21.2.1; have st_x_23 := ys_x_21.2.2.1; have st_x_24 := ys_x_21.2.2.2; clear ys_x_21
  go_simp
  clear p1_0 q1_0 p1_1 q1_1 p1_2 q1_2 p1_3 q1_3 p1_4 q1_4 p1_5 q1_5 p1_6 q1_6 p1_7 q1_7 st_x_14 st_x_15 st_x_16 st_x_17 st_x_21 st_x_22 st_x_23 st_x_24
  obtain ⟨w6, hv⟩ : ∃ w_ : World, w_ = ((((((((w5.setCell ⟨w.heap.size + 1, 0, none⟩ (x_14)).setCell ⟨w.heap.size + 1, 1, none⟩ (x_15)).setCell ⟨w.heap.size + 1, 2, none⟩ (x_16)).setCell ⟨w.heap.size + 1, 3, none⟩ (x_17)).setCell ⟨w.heap.size + 1, 4, none⟩ (x_21)).setCell ⟨w.heap.size + 1, 5, none⟩ (x_22)).setCell ⟨w.heap.size + 1, 6, none⟩ (x_23)).setCell ⟨w.heap.size + 1, 7, none⟩ (x_24)) := ⟨_, rfl⟩
  rw [← hv]
  have og : w5.grownBy w6 (some (w.heap.size + 1)) := by rw [hv]; exact (only_setCell (only_setCell (only_setCell (only_setCell (only_setCell (only_setCell (only_setCell (only_setCell (World.grownBy.refl _ _) _) _) _) _) _) _) _) _)
  have hz : w.heap.size ≤ w.heap.size + 1 := by omega
  have hk : Bx w6 (w.heap.size + 1) 28 #[x_14, x_15, x_16, x_17, x_21, x_22, x_23, x_24] := by rw [hv]; exact (((((((((M.out.2.2.1).set 0 _).set 1 _).set 2 _).set 3 _).set 4 _).set 5 _).set 6 _).set 7 _)
  have hbw : Below w.heap.size w w6 := by rw [hv]; exact (Below.setCell (Below.setCell (Below.setCell (Below.setCell (Below.setCell (Below.setCell (Below.setCell (Below.setCell (M.out.2.2.2.2) (by omega) _) (by omega) _) (by omega) _) (by omega) _) (by omega) _) (by omega) _) (by omega) _) (by omega) _)
  replace M := Lib.hid (And.intro ((M.out.1).far (M.out.2.2.1) (by rfl) (by omega) og) (And.intro ((M.out.2.1).far (M.out.2.2.1) (by rfl) (by omega) og) (And.intro hk (And.intro ((M.out.2.2.2.1).only og (by omega)) hbw))))
  clear hk hbw og hv hz
  refine hK.out _ _ (⟨(M.out.2.2.2.1).at.1 0, (M.out.2.2.2.1).at.1 1, (M.out.2.2.2.1).at.1 2, (M.out.2.2.2.1).at.1 3, (M.out.2.2.2.1).at.1 4, (M.out.2.2.2.1).at.1 5, (M.out.2.2.2.1).at.1 6, (M.out.2.2.2.1).at.1 7⟩) (fun hH28 => ?_)
  clear hK K hH27
  (try simp only [Act.put, List.setIfInBounds_toArray, List.set_cons_zero, List.set_cons_succ])
  refine wpAnyH_done (by kernel_rfl) ?_ _
  clear hH28
  go_wp2_with fail
  refine bodyPost_ret (results_box1 rfl _ _ (w.heap.size + 1) 28 _ _ _ rfl (M.out.2.2.1) Try.underlying28 rfl (by kernel_rfl)) rfl ?_
  exact ⟨x_14, x_15, x_16, x_17, x_21, x_22, x_23, x_24, rfl, (by have h_ := (M.out.2.1); rw [Eq18.out] at h_; exact h_), (by have h_ := (M.out.1); rw [Eq25.out] at h_; exact h_), (M.out.2.2.2.2)⟩
set_option maxRecDepth 100000 in
set_option maxHeartbeats 4000000 in
theorem spWidth_q {u0 u1 u2 u3 u4 u5 u6 u7 : Value} {p q : Rat} {w : World} (_hG : G ≤ w.heap.size) (h1 : FQ G w u0 u1 u2 u3 p) (h2 : FQ G w u4 u5 u6 u7 q) (hp : Fz p 34359738368) (hq : Fz q 34359738368) (ha : p ≤ q)  :
    Calls Try.prog 25 #[.agg #[u0, u1, u2, u3, u4, u5, u6, u7]] w fun e w' => ∃ x0 x1 x2 x3, e = .returned (.agg #[x0, x1, x2, x3]) ∧ FQ G w' x0 x1 x2 x3 (q - p) ∧ Below w.heap.size w w' := by
  have HP := Lib.hid hp; have HQ := Lib.hid hq; have HA := Lib.hid (decide_eq_true ha); have HAA := Lib.hid ha; clear hp hq ha
  have H1 : Hid (FQ G w u0 u1 u2 u3 p) := h1
  have H2 : Hid (FQ G w u4 u5 u6 u7 q) := h2
  clear h1 h2
  have M : Hid (Below w.heap.size w w) := Below.refl _ _
  go_enter Try.func25, Try.ntmps25
  go_upto_region 1 with fail
  obtain ⟨w1, hv⟩ : ∃ w_ : World, w_ = ((w.alloc (.cells #[u0, u1, u2, u3, u4, u5, u6, u7] 28)).alloc (.cells #[.int .i64 0, .slice none 0 0, .int .i64 0, .slice none 0 0] 26)) := ⟨_, rfl⟩
  rw [← hv]
  have hbx := bx2 w 28 26 #[u0, u1, u2, u3, u4, u5, u6, u7] #[.int .i64 0, .slice none 0 0, .int .i64 0, .slice none 0 0]
  rw [← hv] at hbx
  have hbn : Below w.heap.size w w1 := by rw [hv]; exact (Below.alloc (Below.alloc (Below.refl _ _) (by simp <;> omega) _) (by simp <;> omega) _)
  replace M := Lib.hid (And.intro hbx.2 (And.intro hbx.1 (Goes.go M.out hbn)))
  clear hbx hbn
  clear hv
  have y0 := (M.out.2.1).d8; have p0_0 := y0.1; have p0_1 := y0.2.1; have p0_2 := y0.2.2.1; have p0_3 := y0.2.2.2.1; have p0_4 := y0.2.2.2.2.1; have p0_5 := y0.2.2.2.2.2.1; have p0_6 := y0.2.2.2.2.2.2.1; have p0_7 := y0.2.2.2.2.2.2.2; clear y0
  go_wp2_with fail
  clear p0_0 p0_1 p0_2 p0_3 p0_4 p0_5 p0_6 p0_7
  refine (spRight_q (G := G) (p := p) (q := q) (b_ := true) (H1.out.keep (M.out.2.2)) (H2.out.keep (M.out.2.2)) (Fz.mono HP.out (by omega)) (Fz.mono HQ.out (by omega)) HA.out).mono ?_
  rintro e w2 ⟨rfl, hb⟩
  replace M := Lib.hid (Goes.go M.out hb)
  clear hb
  have y0 := (M.out.2.1).d8; have p0_0 := y0.1; have p0_1 := y0.2.1; have p0_2 := y0.2.2.1; have p0_3 := y0.2.2.2.1; have p0_4 := y0.2.2.2.2.1; have p0_5 := y0.2.2.2.2.2.1; have p0_6 := y0.2.2.2.2.2.2.1; have p0_7 := y0.2.2.2.2.2.2.2; clear y0
  go_wp2_with fail
  clear p0_0 p0_1 p0_2 p0_3 p0_4 p0_5 p0_6 p0_7
  obtain ⟨q5, eq5⟩ : ∃ v_ : Rat, v_ = (q - p) := ⟨_, rfl⟩
  refine (fqSub (G := G) (q := q) (r := p) (H2.out.keep (M.out.2.2)) (H1.out.keep (M.out.2.2)) (Fz.mono HQ.out (by omega)) (Fz.mono HP.out (by omega))).mono ?_
  rintro e w3 ⟨x_1, x_2, x_3, x_4, rfl, hd6, hb⟩
  rw [← eq5] at hd6
  have Sq5 : Hid (Fz q5 68719476737) := by show Fz q5 68719476737; rw [eq5]; exact (Fz.sub HQ.out HP.out)
  have Eq5 := Lib.hid eq5; clear eq5
  replace M := Lib.hid (And.intro hd6 (Goes.go M.out hb))
  clear hb hd6
  have ys_x_1 := TQ.st (M.out.1); have st_x_1 := ys_x_1.1; have st_x_2 := ys_x_1.2.1; have st_x_3 := ys_x_1.2.2.1; have st_x_4 := ys_x_1.2.2.2; clear ys_x_1
  go_upto_region 4 with fail
  clear st_x_1 st_x_2 st_x_3 st_x_4
  obtain ⟨w4, hv⟩ : ∃ w_ : World, w_ = (w3.alloc (.cells #[x_1, x_2, x_3, x_4] 26)) := ⟨_, rfl⟩
  rw [← hv]
  have ow2_ : w.heap.size + 1 < w3.heap.size := ((M.out.2.1)).lt
  replace M := Lib.hid (And.intro (hv ▸ bx1 w3 26 #[x_1, x_2, x_3, x_4]) (Goes.go M.out (hv ▸ below_alloc _ _ : Below w3.heap.size w3 w4)))
  clear hv
  have y2 := (M.out.1).d4; have p2_0 := y2.1; have p2_1 := y2.2.1; have p2_2 := y2.2.2.1; have p2_3 := y2.2.2.2; clear y2
  have y1 := (M.out.2.2.1).c4; have p1_0 := y1.1; have q1_0 := y1.2.1; have p1_1 := y1.2.2.1; have q1_1 := y1.2.2.2.1; have p1_2 := y1.2.2.2.2.1; have q1_2 := y1.2.2.2.2.2.1; have p1_3 := y1.2.2.2.2.2.2.1; have q1_3 := y1.2.2.2.2.2.2.2; clear y1
  have ys_x_1 := TQ.st (M.out.2.1); have st_x_1 := ys_x_1.1; have st_x_2 := ys_x_1.2.1; have st_x_3 := ys_x_1.2.2.1; have st_x_4 := ys_x_1.2.2.2; clear ys_x_1
  go_wp2_with fail
  clear p2_0 p2_1 p2_2 p2_3 p1_0 q1_0 p1_1 q1_1 p1_2 q1_2 p1_3 q1_3 st_x_1 st_x_2 st_x_3 st_x_4
  obtain ⟨w5, hv⟩ : ∃ w_ : World, w_ = ((((w4.setCell ⟨w.heap.size + 1, 0, none⟩ (x_1)).setCell ⟨w.heap.size + 1, 1, none⟩ (x_2)).setCell ⟨w.heap.size + 1, 2, none⟩ (x_3)).setCell ⟨w.heap.size + 1, 3, none⟩ (x_4)) := ⟨_, rfl⟩
  rw [← hv]
  have og : w4.grownBy w5 (some (w.heap.size + 1)) := by rw [hv]; exact (only_setCell (only_setCell (only_setCell (only_setCell (World.grownBy.refl _ _) _) _) _) _)
  have hz : w.heap.size ≤ w.heap.size + 1 := by omega
  have hk : Bx w5 (w.heap.size + 1) 26 #[x_1, x_2, x_3, x_4] := by rw [hv]; exact (((((M.out.2.2.1).set 0 _).set 1 _).set 2 _).set 3 _)
  have hbw : Below w.heap.size w w5 := by rw [hv]; exact (Below.setCell (Below.setCell (Below.setCell (Below.setCell (M.out.2.2.2.2) (by omega) _) (by omega) _) (by omega) _) (by omega) _)
  replace M := Lib.hid (And.intro ((M.out.1).only og (by omega)) (And.intro ((M.out.2.1).far (M.out.2.2.1) (by rfl) (by omega) og) (And.intro hk (And.intro ((M.out.2.2.2.1).only og (by omega)) hbw))))
  clear hk hbw og hv hz
  refine bodyPost_ret (results_box1 rfl _ _ (w.heap.size + 1) 26 _ _ _ rfl (M.out.2.2.1) Try.underlying26 rfl (by kernel_rfl)) rfl ?_
  exact ⟨x_1, x_2, x_3, x_4, rfl, (by have h_ := (M.out.2.1); rw [Eq5.out] at h_; exact h_), (M.out.2.2.2.2)⟩
set_option maxRecDepth 100000 in
set_option maxHeartbeats 4000000 in
theorem spSub_q {u0 u1 u2 u3 u4 u5 u6 u7 v0 v1 v2 v3 v4 v5 v6 v7 : Value} {p q r s : Rat} {w : World} (hG : G ≤ w.heap.size) (h1 : FQ G w u0 u1 u2 u3 p) (h2 : FQ G w u4 u5 u6 u7 q) (h3 : FQ G w v0 v1 v2 v3 r) (h4 : FQ G w v4 v5 v6 v7 s) (hp : Fz p 34359738368) (hq : Fz q 34359738368) (hr : Fz r 34359738368) (hs : Fz s 34359738368) (ha : p ≤ q) (hb : r ≤ s)  :
    Calls Try.prog 18 #[.agg #[u0, u1, u2, u3, u4, u5, u6, u7], .agg #[v0, v1, v2, v3, v4, v5, v6, v7]] w fun e w' => ∃ x0 x1 x2 x3 x4 x5 x6 x7, e = .returned (.tuple #[.agg #[x0, x1, x2, x3, x4, x5, x6, x7], .int .i64 0]) ∧ FQ G w' x0 x1 x2 x3 (p - s) ∧ FQ G w' x4 x5 x6 x7 (q - r) ∧ Below w.heap.size w w' := by
  have HP := Lib.hid hp; have HQ := Lib.hid hq; have HR := Lib.hid hr; have HS := Lib.hid hs; have HA := Lib.hid (decide_eq_true ha); have HB := Lib.hid (decide_eq_true hb); have HAA := Lib.hid ha; have HBB := Lib.hid hb; clear hp hq hr hs ha hb
  have H1 : Hid (FQ G w u0 u1 u2 u3 p) := h1
  have H2 : Hid (FQ G w u4 u5 u6 u7 q) := h2
  have H3 : Hid (FQ G w v0 v1 v2 v3 r) := h3
  have H4 : Hid (FQ G w v4 v5 v6 v7 s) := h4
  clear h1 h2 h3 h4
  have M : Hid (Below w.heap.size w w) := Below.refl _ _
  go_enter Try.func18, Try.ntmps18
  go_wp2_with fail
  obtain ⟨w1, hv⟩ : ∃ w_ : World, w_ = (((w.alloc (.cells #[u0, u1, u2, u3, u4, u5, u6, u7] 28)).alloc (.cells #[v0, v1, v2, v3, v4, v5, v6, v7] 28)).alloc (.cells #[.int .i64 0, .slice none 0 0, .int .i64 0, .slice none 0 0, .int .i64 0, .slice none 0 0, .int .i64 0, .slice none 0 0] 28)) := ⟨_, rfl⟩
  rw [← hv]
  have hbx := bx3 w 28 28 28 #[u0, u1, u2, u3, u4, u5, u6, u7] #[v0, v1, v2, v3, v4, v5, v6, v7] #[.int .i64 0, .slice none 0 0, .int .i64 0, .slice none 0 0, .int .i64 0, .slice none 0 0, .int .i64 0, .slice none 0 0]
  rw [← hv] at hbx
  have hbn : Below w.heap.size w w1 := by rw [hv]; exact (Below.alloc (Below.alloc (Below.alloc (Below.refl _ _) (by simp <;> omega) _) (by simp <;> omega) _) (by simp <;> omega) _)
  replace M := Lib.hid (And.intro hbx.2.2 (And.intro hbx.2.1 (And.intro hbx.1 (Goes.go M.out hbn))))
  clear hbx hbn
  clear hv
  obtain ⟨w2, hv⟩ : ∃ w_ : World, w_ = w1.drew := ⟨_, rfl⟩
  replace M := Lib.hid (Goes.go M.out (hv ▸ below_drew _ : Below w1.heap.size w1 w2))
  refine wp_region_held_drew (S := (fun w' => w'.cell? ⟨w.heap.size, 0, none⟩ = some (u0) ∧ w'.cell? ⟨w.heap.size, 1, none⟩ = some (u1) ∧ w'.cell? ⟨w.heap.size, 2, none⟩ = some (u2) ∧ w'.cell? ⟨w.heap.size, 3, none⟩ = some (u3) ∧ w'.cell? ⟨w.heap.size, 4, none⟩ = some (u4) ∧ w'.cell? ⟨w.heap.size, 5, none⟩ = some (u5) ∧ w'.cell? ⟨w.heap.size, 6, none⟩ = some (u6) ∧ w'.cell? ⟨w.heap.size, 7, none⟩ = some (u7) ∧ w'.cell? ⟨w.heap.size + 1, 0, none⟩ = some (v0) ∧ w'.cell? ⟨w.heap.size + 1, 1, none⟩ = some (v1) ∧ w'.cell? ⟨w.heap.size + 1, 2, none⟩ = some (v2) ∧ w'.cell? ⟨w.heap.size + 1, 3, none⟩ = some (v3) ∧ w'.cell? ⟨w.heap.size + 1, 4, none⟩ = some (v4) ∧ w'.cell? ⟨w.heap.size + 1, 5, none⟩ = some (v5) ∧ w'.cell? ⟨w.heap.size + 1, 6, none⟩ = some (v6) ∧ w'.cell? ⟨w.heap.size + 1, 7, none⟩ = some (v7))) (by kernel_rfl) (by rw [← hv]; exact ⟨(M.out.2.2.1).at.1 0, (M.out.2.2.1).at.1 1, (M.out.2.2.1).at.1 2, (M.out.2.2.1).at.1 3, (M.out.2.2.1).at.1 4, (M.out.2.2.1).at.1 5, (M.out.2.2.1).at.1 6, (M.out.2.2.1).at.1 7, (M.out.2.1).at.1 0, (M.out.2.1).at.1 1, (M.out.2.1).at.1 2, (M.out.2.1).at.1 3, (M.out.2.1).at.1 4, (M.out.2.1).at.1 5, (M.out.2.1).at.1 6, (M.out.2.1).at.1 7⟩) (fun hH25 => ?_)
  rw [← hv] at hH25 ⊢
  clear hv
  refine tk at0 ?_
  refine tk at1 ?_
  refine wpAnyH_ready (rs := [2]) (by kernel_rfl) (by simp) ?_
  refine AllReadyH.cons at2 (fun K hK => ?_) AllReadyH.nil
  go_simp
  obtain ⟨q34, eq34⟩ : ∃ v_ : Rat, v_ = (-s) := ⟨_, rfl⟩
  obtain ⟨q35, eq35⟩ : ∃ v_ : Rat, v_ = (-r) := ⟨_, rfl⟩
  refine (spNeg_q (G := G) (p := r) (q := s) (Nat.le_trans hG (M.out.2.2.2).size) (H3.out.keep (M.out.2.2.2)) (H4.out.keep (M.out.2.2.2)) HR.out HS.out HBB.out).mono ?_
  rintro e w3 ⟨x_26, x_27, x_28, x_29, x_30, x_31, x_32, x_33, rfl, hd36, hd37, hb⟩
  rw [← eq34] at hd36
  have Sq34 : Hid (Fz q34 34359738368) := by show Fz q34 34359738368; rw [eq34]; exact (Fz.neg HS.out)
  have Eq34 := Lib.hid eq34; clear eq34
  rw [← eq35] at hd37
  have Sq35 : Hid (Fz q35 34359738368) := by show Fz q35 34359738368; rw [eq35]; exact (Fz.neg HR.out)
  have Eq35 := Lib.hid eq35; clear eq35
  replace M := Lib.hid (And.intro hd36 (And.intro hd37 (Goes.go M.out hb)))
  clear hb hd36 hd37
  (try go_wp2_with fail)
  refine hK.out _ _ (⟨(M.out.2.2.2.2.1).at.1 0, (M.out.2.2.2.2.1).at.1 1, (M.out.2.2.2.2.1).at.1 2, (M.out.2.2.2.2.1).at.1 3, (M.out.2.2.2.2.1).at.1 4, (M.out.2.2.2.2.1).at.1 5, (M.out.2.2.2.2.1).at.1 6, (M.out.2.2.2.2.1).at.1 7, (M.out.2.2.2.1).at.1 0, (M.out.2.2.2.1).at.1 1, (M.out.2.2.2.1).at.1 2, (M.out.2.2.2.1).at.1 3, (M.out.2.2.2.1).at.1 4, (M.out.2.2.2.1).at.1 5, (M.out.2.2.2.1).at.1 6, (M.out.2.2.2.1).at.1 7⟩) (fun hH38 => ?_)
  clear hK K hH25
  (try simp only [Act.put, List.setIfInBounds_toArray, List.set_cons_zero, List.set_cons_succ])
  refine wpAnyH_ready (rs := [3]) (by kernel_rfl) (by simp) ?_
  refine AllReadyH.cons at3 (fun K hK => ?_) AllReadyH.nil
  go_simp
  obtain ⟨q47, eq47⟩ : ∃ v_ : Rat, v_ = (p + q34) := ⟨_, rfl⟩
  obtain ⟨q48, eq48⟩ : ∃ v_ : Rat, v_ = (q + q35) := ⟨_, rfl⟩
  refine (spAdd_q (G := G) (p := p) (q := q) (r := q34) (s := q35) (Nat.le_trans hG (M.out.2.2.2.2.2).size) (H1.out.keep (M.out.2.2.2.2.2)) (H2.out.keep (M.out.2.2.2.2.2)) (M.out.1) (M.out.2.1) HP.out HQ.out Sq34.out Sq35.out HAA.out (by rw [Eq35.out, Eq34.out]; exact Rat.neg_le_neg HBB.out)).mono ?_
  rintro e w4 ⟨x_39, x_40, x_41, x_42, x_43, x_44, x_45, x_46, rfl, hd49, hd50, hb⟩
  rw [← eq47] at hd49
  have Sq47 : Hid (Fz q47 68719476737) := by show Fz q47 68719476737; rw [eq47]; exact (Fz.add HP.out Sq34.out)
  have Eq47 := Lib.hid eq47; clear eq47
  rw [← eq48] at hd50
  have Sq48 : Hid (Fz q48 68719476737) := by show Fz q48 68719476737; rw [eq48]; exact (Fz.add HQ.out Sq35.out)
  have Eq48 := Lib.hid eq48; clear eq48
  replace M := Lib.hid (And.intro hd49 (And.intro hd50 (Goes.go M.out hb)))
  clear hb hd49 hd50
  (try go_wp2_with fail)
  refine hK.out _ _ (⟨(M.out.2.2.2.2.2.2.1).at.1 0, (M.out.2.2.2.2.2.2.1).at.1 1, (M.out.2.2.2.2.2.2.1).at.1 2, (M.out.2.2.2.2.2.2.1).at.1 3, (M.out.2.2.2.2.2.2.1).at.1 4, (M.out.2.2.2.2.2.2.1).at.1 5, (M.out.2.2.2.2.2.2.1).at.1 6, (M.out.2.2.2.2.2.2.1).at.1 7, (M.out.2.2.2.2.2.1).at.1 0, (M.out.2.2.2.2.2.1).at.1 1, (M.out.2.2.2.2.2.1).at.1 2, (M.out.2.2.2.2.2.1).at.1 3, (M.out.2.2.2.2.2.1).at.1 4, (M.out.2.2.2.2.2.1).at.1 5, (M.out.2.2.2.2.2.1).at.1 6, (M.out.2.2.2.2.2.1).at.1 7⟩) (fun hH51 => ?_)
  clear hK K hH38
  (try simp only [Act.put, List.setIfInBounds_toArray, List.set_cons_zero, List.set_cons_succ])
  refine tk at4 ?_
  refine tk at5 ?_
  refine wpAnyH_ready (rs := [6]) (by kernel_rfl) (by simp) ?_
  refine AllReadyH.cons at6 (fun K hK => ?_) AllReadyH.nil
  have y2 := (M.out.2.2.2.2.1).c8; have p2_0 := y2.1; have q2_0 := y2.2.1; have p2_1 := y2.2.2.1; have q2_1 := y2.2.2.2.1; have p2_2 := y2.2.2.2.2.1; have q2_2 := y2.2.2.2.2.2.1; have p2_3 := y2.2.2.2.2.2.2.1; have q2_3 := y2.2.2.2.2.2.2.2.1; have p2_4 := y2.2.2.2.2.2.2.2.2.1; have q2_4 := y2.2.2.2.2.2.2.2.2.2.1; have p2_5 := y2.2.2.2.2.2.2.2.2.2.2.1; have q2_5 := y2.2.2.2.2.2.2.2.2.2.2.2.1; have p2_6 := y2.2.2.2.2.2.2.2.2.2.2.2.2.1; have q2_6 := y2.2.2.2.2.2.2.2.2.2.2.2.2.2.1; have p2_7 := y2.2.2.2.2.2.2.2.2.2.2.2.2.2.2.1; have q2_7 := y2.2.2.2.2.2.2.2.2.2.2.2.2.2.2.2; clear y2
  have ys_x_39 := TQ.st (M.out.1); have st_x_39 := ys_x_39.1; have st_x_40 := ys_x_39.2.1; have st_x_41 := ys_x_39.2.2.1; have st_x_42 := ys_x_39.2.2.2; clear ys_x_39
  have ys_x_43 := TQ.st (M.out.2.1); have st_x_43 := ys_x_43.1; have st_x_44 := ys_x_43.2.1; have st_x_45 := ys_x_43.2.2.1; have st_x_46 := ys_x_43.2.2.2; clear ys_x_43
  go_simp
  clear p2_0 q2_0 p2_1 q2_1 p2_2 q2_2 p2_3 q2_3 p2_4 q2_4 p2_5 q2_5 p2_6 q2_6 p2_7 q2_7 st_x_39 st_x_40 st_x_41 st_x_42 st_x_43 st_x_44 st_x_45 st_x_46
  obtain ⟨w5, hv⟩ : ∃ w_ : World, w_ = ((((((((w4.setCell ⟨w.heap.size + 1 + 1, 0, none⟩ (x_39)).setCell ⟨w.heap.size + 1 + 1, 1, none⟩ (x_40)).setCell ⟨w.heap.size + 1 + 1, 2, none⟩ (x_41)).setCell ⟨w.heap.size + 1 + 1, 3, none⟩ (x_42)).setCell ⟨w.heap.size + 1 + 1, 4, none⟩ (x_43)).setCell ⟨w.heap.size + 1 + 1, 5, none⟩ (x_44)).setCell ⟨w.heap.size + 1 + 1, 6, none⟩ (x_45)).setCell ⟨w.heap.size + 1 + 1, 7, none⟩ (x_46)) := ⟨_, rfl⟩
  rw [← hv]
  have og : w4.grownBy w5 (some (w.heap.size + 1 + 1)) := by rw [hv]; exact (only_setCell (only_setCell (only_setCell (only_setCell (only_setCell (only_setCell (only_setCell (only_setCell (World.grownBy.refl _ _) _) _) _) _) _) _) _) _)
  have hz : w.heap.size ≤ w.heap.size + 1 + 1 := by omega
  have hk : Bx w5 (w.heap.size + 1 + 1) 28 #[x_39, x_40, x_41, x_42, x_43, x_44, x_45, x_46] := by rw [hv]; exact (((((((((M.out.2.2.2.2.1).set 0 _).set 1 _).set 2 _).set 3 _).set 4 _).set 5 _).set 6 _).set 7 _)
  have hbw : Below w.heap.size w w5 := by rw [hv]; exact (Below.setCell (Below.setCell (Below.setCell (Below.setCell (Below.setCell (Below.setCell (Below.setCell (Below.setCell (M.out.2.2.2.2.2.2.2) (by omega) _) (by omega) _) (by omega) _) (by omega) _) (by omega) _) (by omega) _) (by omega) _) (by omega) _)
  replace M := Lib.hid (And.intro ((M.out.1).far (M.out.2.2.2.2.1) (by rfl) (by omega) og) (And.intro ((M.out.2.1).far (M.out.2.2.2.2.1) (by rfl) (by omega) og) (And.intro ((M.out.2.2.1).far (M.out.2.2.2.2.1) (by rfl) (by omega) og) (And.intro ((M.out.2.2.2.1).far (M.out.2.2.2.2.1) (by rfl) (by omega) og) (And.intro hk (And.intro ((M.out.2.2.2.2.2.1).only og (by omega)) (And.intro ((M.out.2.2.2.2.2.2.1).only og (by omega)) hbw)))))))
  clear hk hbw og hv hz
  refine hK.out _ _ (⟨(M.out.2.2.2.2.2.2.1).at.1 0, (M.out.2.2.2.2.2.2.1).at.1 1, (M.out.2.2.2.2.2.2.1).at.1 2, (M.out.2.2.2.2.2.2.1).at.1 3, (M.out.2.2.2.2.2.2.1).at.1 4, (M.out.2.2.2.2.2.2.1).at.1 5, (M.out.2.2.2.2.2.2.1).at.1 6, (M.out.2.2.2.2.2.2.1).at.1 7, (M.out.2.2.2.2.2.1).at.1 0, (M.out.2.2.2.2.2.1).at.1 1, (M.out.2.2.2.2.2.1).at.1 2, (M.out.2.2.2.2.2.1).at.1 3, (M.out.2.2.2.2.2.1).at.1 4, (M.out.2.2.2.2.2.1).at.1 5, (M.out.2.2.2.2.2.1).at.1 6, (M.out.2.2.2.2.2.1).at.1 7⟩) (fun hH52 => ?_)
  clear hK K hH51
  (try simp only [Act.put, List.setIfInBounds_toArray, List.set_cons_zero, List.set_cons_succ])
  refine tk at7 ?_
  refine wpAnyH_done (by kernel_rfl) ?_ _
  clear hH52
  go_wp2_with fail
  refine bodyPost_ret (results_box2 rfl _ _ (w.heap.size + 1 + 1) 28 _ _ _ rfl (M.out.2.2.2.2.1) Try.underlying28 rfl (by kernel_rfl)) rfl ?_
  exact ⟨x_39, x_40, x_41, x_42, x_43, x_44, x_45, x_46, rfl, (by have h_ := (M.out.1); rw [Eq47.out, Eq34.out, ← Rat.sub_eq_add_neg] at h_; exact h_), (by have h_ := (M.out.2.1); rw [Eq48.out, Eq35.out, ← Rat.sub_eq_add_neg] at h_; exact h_), (M.out.2.2.2.2.2.2.2)⟩
set_option maxRecDepth 100000 in
set_option maxHeartbeats 4000000 in
theorem spMul_q {u0 u1 u2 u3 u4 u5 u6 u7 v0 v1 v2 v3 v4 v5 v6 v7 : Value} {p q r s : Rat} {lo hi : Rat} {w : World} (hG : G ≤ w.heap.size) (h1 : FQ G w u0 u1 u2 u3 p) (h2 : FQ G w u4 u5 u6 u7 q) (h3 : FQ G w v0 v1 v2 v3 r) (h4 : FQ G w v4 v5 v6 v7 s) (hp : Fz p 34359738368) (hq : Fz q 34359738368) (hr : Fz r 34359738368) (hs : Fz s 34359738368) (ha : p ≤ q) (hb : r ≤ s) (hlo : min4 (p * r) (p * s) (q * r) (q * s) = lo) (hhi : max4 (p * r) (p * s) (q * r) (q * s) = hi)  :
    Calls Try.prog 21 #[.agg #[u0, u1, u2, u3, u4, u5, u6, u7], .agg #[v0, v1, v2, v3, v4, v5, v6, v7]] w fun e w' => ∃ x0 x1 x2 x3 x4 x5 x6 x7, e = .returned (.tuple #[.agg #[x0, x1, x2, x3, x4, x5, x6, x7], .int .i64 0]) ∧ FQ G w' x0 x1 x2 x3 lo ∧ FQ G w' x4 x5 x6 x7 hi ∧ Below w.heap.size w w' := by
  have HP := Lib.hid hp; have HQ := Lib.hid hq; have HR := Lib.hid hr; have HS := Lib.hid hs; have HA := Lib.hid (decide_eq_true ha); have HB := Lib.hid (decide_eq_true hb); have HAA := Lib.hid ha; have HBB := Lib.hid hb; clear hp hq hr hs ha hb
  have HLO := Lib.hid hlo; have HHI := Lib.hid hhi; clear hlo hhi
  have H1 : Hid (FQ G w u0 u1 u2 u3 p) := h1
  have H2 : Hid (FQ G w u4 u5 u6 u7 q) := h2
  have H3 : Hid (FQ G w v0 v1 v2 v3 r) := h3
  have H4 : Hid (FQ G w v4 v5 v6 v7 s) := h4
  clear h1 h2 h3 h4
  have M : Hid (Below w.heap.size w w) := Below.refl _ _
  go_enter Try.func21, Try.ntmps21
  go_upto_region 1 with fail
  obtain ⟨w1, hv⟩ : ∃ w_ : World, w_ = (((w.alloc (.cells #[u0, u1, u2, u3, u4, u5, u6, u7] 28)).alloc (.cells #[v0, v1, v2, v3, v4, v5, v6, v7] 28)).alloc (.cells #[.int .i64 0, .slice none 0 0, .int .i64 0, .slice none 0 0, .int .i64 0, .slice none 0 0, .int .i64 0, .slice none 0 0] 28)) := ⟨_, rfl⟩
  rw [← hv]
  have hbx := bx3 w 28 28 28 #[u0, u1, u2, u3, u4, u5, u6, u7] #[v0, v1, v2, v3, v4, v5, v6, v7] #[.int .i64 0, .slice none 0 0, .int .i64 0, .slice none 0 0, .int .i64 0, .slice none 0 0, .int .i64 0, .slice none 0 0]
  rw [← hv] at hbx
  have hbn : Below w.heap.size w w1 := by rw [hv]; exact (Below.alloc (Below.alloc (Below.alloc (Below.refl _ _) (by simp <;> omega) _) (by simp <;> omega) _) (by simp <;> omega) _)
  replace M := Lib.hid (And.intro hbx.2.2 (And.intro hbx.2.1 (And.intro hbx.1 (Goes.go M.out hbn))))
  clear hbx hbn
  clear hv
  have y0 := (M.out.2.2.1).d8; have p0_0 := y0.1; have p0_1 := y0.2.1; have p0_2 := y0.2.2.1; have p0_3 := y0.2.2.2.1; have p0_4 := y0.2.2.2.2.1; have p0_5 := y0.2.2.2.2.2.1; have p0_6 := y0.2.2.2.2.2.2.1; have p0_7 := y0.2.2.2.2.2.2.2; clear y0
  go_wp2_with fail
  clear p0_0 p0_1 p0_2 p0_3 p0_4 p0_5 p0_6 p0_7
  refine (spRight_q (G := G) (p := p) (q := q) (b_ := true) (H1.out.keep (M.out.2.2.2)) (H2.out.keep (M.out.2.2.2)) (Fz.mono HP.out (by omega)) (Fz.mono HQ.out (by omega)) HA.out).mono ?_
  rintro e w2 ⟨rfl, hb⟩
  replace M := Lib.hid (Goes.go M.out hb)
  clear hb
  have y1 := (M.out.2.1).d8; have p1_0 := y1.1; have p1_1 := y1.2.1; have p1_2 := y1.2.2.1; have p1_3 := y1.2.2.2.1; have p1_4 := y1.2.2.2.2.1; have p1_5 := y1.2.2.2.2.2.1; have p1_6 := y1.2.2.2.2.2.2.1; have p1_7 := y1.2.2.2.2.2.2.2; clear y1
  go_wp2_with fail
  clear p1_0 p1_1 p1_2 p1_3 p1_4 p1_5 p1_6 p1_7
  refine (spRight_q (G := G) (p := r) (q := s) (b_ := true) (H3.out.keep (M.out.2.2.2)) (H4.out.keep (M.out.2.2.2)) (Fz.mono HR.out (by omega)) (Fz.mono HS.out (by omega)) HB.out).mono ?_
  rintro e w3 ⟨rfl, hb⟩
  replace M := Lib.hid (Goes.go M.out hb)
  clear hb
  go_wp2_with fail
  obtain ⟨w4, hv⟩ : ∃ w_ : World, w_ = w3.drew := ⟨_, rfl⟩
  replace M := Lib.hid (Goes.go M.out (hv ▸ below_drew _ : Below w3.heap.size w3 w4))
  refine wp_region_held_drew (S := (fun w' => w'.cell? ⟨w.heap.size, 0, none⟩ = some (u0) ∧ w'.cell? ⟨w.heap.size, 1, none⟩ = some (u1) ∧ w'.cell? ⟨w.heap.size, 2, none⟩ = some (u2) ∧ w'.cell? ⟨w.heap.size, 3, none⟩ = some (u3) ∧ w'.cell? ⟨w.heap.size, 4, none⟩ = some (u4) ∧ w'.cell? ⟨w.heap.size, 5, none⟩ = some (u5) ∧ w'.cell? ⟨w.heap.size, 6, none⟩ = some (u6) ∧ w'.cell? ⟨w.heap.size, 7, none⟩ = some (u7) ∧ w'.cell? ⟨w.heap.size + 1, 0, none⟩ = some (v0) ∧ w'.cell? ⟨w.heap.size + 1, 1, none⟩ = some (v1) ∧ w'.cell? ⟨w.heap.size + 1, 2, none⟩ = some (v2) ∧ w'.cell? ⟨w.heap.size + 1, 3, none⟩ = some (v3) ∧ w'.cell? ⟨w.heap.size + 1, 4, none⟩ = some (v4) ∧ w'.cell? ⟨w.heap.size + 1, 5, none⟩ = some (v5) ∧ w'.cell? ⟨w.heap.size + 1, 6, none⟩ = some (v6) ∧ w'.cell? ⟨w.heap.size + 1, 7, none⟩ = some (v7))) (by kernel_rfl) (by rw [← hv]; exact ⟨(M.out.2.2.1).at.1 0, (M.out.2.2.1).at.1 1, (M.out.2.2.1).at.1 2, (M.out.2.2.1).at.1 3, (M.out.2.2.1).at.1 4, (M.out.2.2.1).at.1 5, (M.out.2.2.1).at.1 6, (M.out.2.2.1).at.1 7, (M.out.2.1).at.1 0, (M.out.2.1).at.1 1, (M.out.2.1).at.1 2, (M.out.2.1).at.1 3, (M.out.2.1).at.1 4, (M.out.2.1).at.1 5, (M.out.2.1).at.1 6, (M.out.2.1).at.1 7⟩) (fun hH35 => ?_)
  rw [← hv] at hH35 ⊢
  clear hv
  refine tk at0 ?_
  refine tk at1 ?_
  refine tk at2 ?_
  refine tk at3 ?_
  refine tk at5 ?_
  refine tk at6 ?_
  refine tk at7 ?_
  refine tk at8 ?_
  refine tk at10 ?_
  refine tk at11 ?_
  refine tk at12 ?_
  refine tk at13 ?_
  refine tk at15 ?_
  refine tk at16 ?_
  refine tk at17 ?_
  refine tk at18 ?_
  refine wpAnyH_ready (rs := [4]) (by kernel_rfl) (by simp) ?_
  refine AllReadyH.cons at4 (fun K hK => ?_) AllReadyH.nil
  go_simp
  obtain ⟨q40, eq40⟩ : ∃ v_ : Rat, v_ = (p * r) := ⟨_, rfl⟩
  refine (product_ok (G := G) (q := p) (r := r) (Nat.le_trans hG (M.out.2.2.2).size) (H1.out.keep (M.out.2.2.2)) (H3.out.keep (M.out.2.2.2)) (Fz.mono HP.out (by omega)) (Fz.mono HR.out (by omega))).mono ?_
  rintro e w5 ⟨x_36, x_37, x_38, x_39, rfl, hd41, hb⟩
  rw [← eq40] at hd41
  have Sq40 : Hid (Fz q40 68719476736) := by show Fz q40 68719476736; rw [eq40]; exact (Fz.mul HP.out HR.out)
  have Eq40 := Lib.hid eq40; clear eq40
  replace M := Lib.hid (And.intro hd41 (Goes.go M.out hb))
  clear hb hd41
  (try go_wp2_with fail)
  refine hK.out _ _ (⟨(M.out.2.2.2.1).at.1 0, (M.out.2.2.2.1).at.1 1, (M.out.2.2.2.1).at.1 2, (M.out.2.2.2.1).at.1 3, (M.out.2.2.2.1).at.1 4, (M.out.2.2.2.1).at.1 5, (M.out.2.2.2.1).at.1 6, (M.out.2.2.2.1).at.1 7, (M.out.2.2.1).at.1 0, (M.out.2.2.1).at.1 1, (M.out.2.2.1).at.1 2, (M.out.2.2.1).at.1 3, (M.out.2.2.1).at.1 4, (M.out.2.2.1).at.1 5, (M.out.2.2.1).at.1 6, (M.out.2.2.1).at.1 7⟩) (fun hH42 => ?_)
  clear hK K hH35
  (try simp only [Act.put, List.setIfInBounds_toArray, List.set_cons_zero, List.set_cons_succ])
  refine wpAnyH_ready (rs := [9]) (by kernel_rfl) (by simp) ?_
  refine AllReadyH.cons at9 (fun K hK => ?_) AllReadyH.nil
  go_simp
  obtain ⟨q47, eq47⟩ : ∃ v_ : Rat, v_ = (p * s) := ⟨_, rfl⟩
  refine (product_ok (G := G) (q := p) (r := s) (Nat.le_trans hG (M.out.2.2.2.2).size) (H1.out.keep (M.out.2.2.2.2)) (H4.out.keep (M.out.2.2.2.2)) (Fz.mono HP.out (by omega)) (Fz.mono HS.out (by omega))).mono ?_
  rintro e w6 ⟨x_43, x_44, x_45, x_46, rfl, hd48, hb⟩
  rw [← eq47] at hd48
  have Sq47 : Hid (Fz q47 68719476736) := by show Fz q47 68719476736; rw [eq47]; exact (Fz.mul HP.out HS.out)
  have Eq47 := Lib.hid eq47; clear eq47
  replace M := Lib.hid (And.intro hd48 (Goes.go M.out hb))
  clear hb hd48
  (try go_wp2_with fail)
  refine hK.out _ _ (⟨(M.out.2.2.2.2.1).at.1 0, (M.out.2.2.2.2.1).at.1 1, (M.out.2.2.2.2.1).at.1 2, (M.out.2.2.2.2.1).at.1 3, (M.out.2.2.2.2.1).at.1 4, (M.out.2.2.2.2.1).at.1 5, (M.out.2.2.2.2.1).at.1 6, (M.out.2.2.2.2.1).at.1 7, (M.out.2.2.2.1).at.1 0, (M.out.2.2.2.1).at.1 1, (M.out.2.2.2.1).at.1 2, (M.out.2.2.2.1).at.1 3, (M.out.2.2.2.1).at.1 4, (M.out.2.2.2.1).at.1 5, (M.out.2.2.2.1).at.1 6, (M.out.2.2.2.1).at.1 7⟩) (fun hH49 => ?_)
  clear hK K hH42
  (try simp only [Act.put, List.setIfInBounds_toArray, List.set_cons_zero, List.set_cons_succ])
  refine wpAnyH_ready (rs := [14]) (by kernel_rfl) (by simp) ?_
  refine AllReadyH.cons at14 (fun K hK => ?_) AllReadyH.nil
  go_simp
  obtain ⟨q54, eq54⟩ : ∃ v_ : Rat, v_ = (q * r) := ⟨_, rfl⟩
  refine (product_ok (G := G) (q := q) (r := r) (Nat.le_trans hG (M.out.2.2.2.2.2).size) (H2.out.keep (M.out.2.2.2.2.2)) (H3.out.keep (M.out.2.2.2.2.2)) (Fz.mono HQ.out (by omega)) (Fz.mono HR.out (by omega))).mono ?_
  rintro e w7 ⟨x_50, x_51, x_52, x_53, rfl, hd55, hb⟩
  rw [← eq54] at hd55
  have Sq54 : Hid (Fz q54 68719476736) := by show Fz q54 68719476736; rw [eq54]; exact (Fz.mul HQ.out HR.out)
  have Eq54 := Lib.hid eq54; clear eq54
  replace M := Lib.hid (And.intro hd55 (Goes.go M.out hb))
  clear hb hd55
  (try go_wp2_with fail)
  refine hK.out _ _ (⟨(M.out.2.2.2.2.2.1).at.1 0, (M.out.2.2.2.2.2.1).at.1 1, (M.out.2.2.2.2.2.1).at.1 2, (M.out.2.2.2.2.2.1).at.1 3, (M.out.2.2.2.2.2.1).at.1 4, (M.out.2.2.2.2.2.1).at.1 5, (M.out.2.2.2.2.2.1).at.1 6, (M.out.2.2.2.2.2.1).at.1 7, (M.out.2.2.2.2.1).at.1 0, (M.out.2.2.2.2.1).at.1 1, (M.out.2.2.2.2.1).at.1 2, (M.out.2.2.2.2.1).at.1 3, (M.out.2.2.2.2.1).at.1 4, (M.out.2.2.2.2.1).at.1 5, (M.out.2.2.2.2.1).at.1 6, (M.out.2.2.2.2.1).at.1 7⟩) (fun hH56 => ?_)
  clear hK K hH49
  (try simp only [Act.put, List.setIfInBounds_toArray, List.set_cons_zero, List.set_cons_succ])
  refine wpAnyH_ready (rs := [19]) (by kernel_rfl) (by simp) ?_
  refine AllReadyH.cons at19 (fun K hK => ?_) AllReadyH.nil
  go_simp
  obtain ⟨q61, eq61⟩ : ∃ v_ : Rat, v_ = (q * s) := ⟨_, rfl⟩
  refine (product_ok (G := G) (q := q) (r := s) (Nat.le_trans hG (M.out.2.2.2.2.2.2).size) (H2.out.keep (M.out.2.2.2.2.2.2)) (H4.out.keep (M.out.2.2.2.2.2.2)) (Fz.mono HQ.out (by omega)) (Fz.mono HS.out (by omega))).mono ?_
  rintro e w8 ⟨x_57, x_58, x_59, x_60, rfl, hd62, hb⟩
  rw [← eq61] at hd62
  have Sq61 : Hid (Fz q61 68719476736) := by show Fz q61 68719476736; rw [eq61]; exact (Fz.mul HQ.out HS.out)
  have Eq61 := Lib.hid eq61; clear eq61
  replace M := Lib.hid (And.intro hd62 (Goes.go M.out hb))
  clear hb hd62
  (try go_wp2_with fail)
  refine hK.out _ _ (⟨(M.out.2.2.2.2.2.2.1).at.1 0, (M.out.2.2.2.2.2.2.1).at.1 1, (M.out.2.2.2.2.2.2.1).at.1 2, (M.out.2.2.2.2.2.2.1).at.1 3, (M.out.2.2.2.2.2.2.1).at.1 4, (M.out.2.2.2.2.2.2.1).at.1 5, (M.out.2.2.2.2.2.2.1).at.1 6, (M.out.2.2.2.2.2.2.1).at.1 7, (M.out.2.2.2.2.2.1).at.1 0, (M.out.2.2.2.2.2.1).at.1 1, (M.out.2.2.2.2.2.1).at.1 2, (M.out.2.2.2.2.2.1).at.1 3, (M.out.2.2.2.2.2.1).at.1 4, (M.out.2.2.2.2.2.1).at.1 5, (M.out.2.2.2.2.2.1).at.1 6, (M.out.2.2.2.2.2.1).at.1 7⟩) (fun hH63 => ?_)
  clear hK K hH56
  (try simp only [Act.put, List.setIfInBounds_toArray, List.set_cons_zero, List.set_cons_succ])
  refine wpAnyH_ready (rs := [20]) (by kernel_rfl) (by simp) ?_
  refine AllReadyH.cons at20 (fun K hK => ?_) AllReadyH.nil
  go_simp
  obtain ⟨w9, hv⟩ : ∃ w_ : World, w_ = (w8.alloc (.cells #[x_36, x_37, x_38, x_39, x_43, x_44, x_45, x_46, x_50, x_51, x_52, x_53, x_57, x_58, x_59, x_60] 26)) := ⟨_, rfl⟩
  rw [← hv]
  have ow3_ : w.heap.size + 1 + 1 < w8.heap.size := ((M.out.2.2.2.2.1)).lt
  replace M := Lib.hid (And.intro (hv ▸ bx1 w8 26 #[x_36, x_37, x_38, x_39, x_43, x_44, x_45, x_46, x_50, x_51, x_52, x_53, x_57, x_58, x_59, x_60]) (Goes.go M.out (hv ▸ below_alloc _ _ : Below w8.heap.size w8 w9)))
  clear hv
  refine hK.out _ _ (⟨(M.out.2.2.2.2.2.2.2.1).at.1 0, (M.out.2.2.2.2.2.2.2.1).at.1 1, (M.out.2.2.2.2.2.2.2.1).at.1 2, (M.out.2.2.2.2.2.2.2.1).at.1 3, (M.out.2.2.2.2.2.2.2.1).at.1 4, (M.out.2.2.2.2.2.2.2.1).at.1 5, (M.out.2.2.2.2.2.2.2.1).at.1 6, (M.out.2.2.2.2.2.2.2.1).at.1 7, (M.out.2.2.2.2.2.2.1).at.1 0, (M.out.2.2.2.2.2.2.1).at.1 1, (M.out.2.2.2.2.2.2.1).at.1 2, (M.out.2.2.2.2.2.2.1).at.1 3, (M.out.2.2.2.2.2.2.1).at.1 4, (M.out.2.2.2.2.2.2.1).at.1 5, (M.out.2.2.2.2.2.2.1).at.1 6, (M.out.2.2.2.2.2.2.1).at.1 7⟩) (fun hH64 => ?_)
  clear hK K hH63
  (try simp only [Act.put, List.setIfInBounds_toArray, List.set_cons_zero, List.set_cons_succ])
  refine wpAnyH_ready (rs := [21]) (by kernel_rfl) (by simp) ?_
  refine AllReadyH.cons at21 (fun K hK => ?_) AllReadyH.nil
  go_simp
  refine (around_four (G := G) (p := q40) (q := q47) (r := q54) (s := q61) (lo := lo) (hi := hi) (Nat.le_trans hG (M.out.2.2.2.2.2.2.2.2).size) ⟨_, 0, rfl, fs_four (M.out.1) (M.out.2.2.2.2.1) (M.out.2.2.2.1) (M.out.2.2.1) (M.out.2.1)⟩ (Fz.mono Sq40.out (by omega)) (Fz.mono Sq47.out (by omega)) (Fz.mono Sq54.out (by omega)) (Fz.mono Sq61.out (by omega)) (by rw [Eq61.out, Eq54.out, Eq47.out, Eq40.out]; exact HLO.out) (by rw [Eq61.out, Eq54.out, Eq47.out, Eq40.out]; exact HHI.out)).mono ?_
  rintro e w10 ⟨x_65, x_66, x_67, x_68, x_69, x_70, x_71, x_72, rfl, hd73, hd74, hb⟩
  replace M := Lib.hid (And.intro hd73 (And.intro hd74 (Goes.go M.out hb)))
  clear hb hd73 hd74
  (try go_wp2_with fail)
  refine hK.out _ _ (⟨(M.out.2.2.2.2.2.2.2.2.2.1).at.1 0, (M.out.2.2.2.2.2.2.2.2.2.1).at.1 1, (M.out.2.2.2.2.2.2.2.2.2.1).at.1 2, (M.out.2.2.2.2.2.2.2.2.2.1).at.1 3, (M.out.2.2.2.2.2.2.2.2.2.1).at.1 4, (M.out.2.2.2.2.2.2.2.2.2.1).at.1 5, (M.out.2.2.2.2.2.2.2.2.2.1).at.1 6, (M.out.2.2.2.2.2.2.2.2.2.1).at.1 7, (M.out.2.2.2.2.2.2.2.2.1).at.1 0, (M.out.2.2.2.2.2.2.2.2.1).at.1 1, (M.out.2.2.2.2.2.2.2.2.1).at.1 2, (M.out.2.2.2.2.2.2.2.2.1).at.1 3, (M.out.2.2.2.2.2.2.2.2.1).at.1 4, (M.out.2.2.2.2.2.2.2.2.1).at.1 5, (M.out.2.2.2.2.2.2.2.2.1).at.1 6, (M.out.2.2.2.2.2.2.2.2.1).at.1 7⟩) (fun hH75 => ?_)
  clear hK K hH64
  (try simp only [Act.put, List.setIfInBounds_toArray, List.set_cons_zero, List.set_cons_succ])
  refine wpAnyH_ready (rs := [22]) (by kernel_rfl) (by simp) ?_
  refine AllReadyH.cons at22 (fun K hK => ?_) AllReadyH.nil
  have y2 := (M.out.2.2.2.2.2.2.2.1).c8; have p2_0 := y2.1; have q2_0 := y2.2.1; have p2_1 := y2.2.2.1; have q2_1 := y2.2.2.2.1; have p2_2 := y2.2.2.2.2.1; have q2_2 := y2.2.2.2.2.2.1; have p2_3 := y2.2.2.2.2.2.2.1; have q2_3 := y2.2.2.2.2.2.2.2.1; have p2_4 := y2.2.2.2.2.2.2.2.2.1; have q2_4 := y2.2.2.2.2.2.2.2.2.2.1; have p2_5 := y2.2.2.2.2.2.2.2.2.2.2.1; have q2_5 := y2.2.2.2.2.2.2.2.2.2.2.2.1; have p2_6 := y2.2.2.2.2.2.2.2.2.2.2.2.2.1; have q2_6 := y2.2.2.2.2.2.2.2.2.2.2.2.2.2.1; have p2_7 := y2.2.2.2.2.2.2.2.2.2.2.2.2.2.2.1; have q2_7 := y2.2.2.2.2.2.2.2.2.2.2.2.2.2.2.2; clear y2
  have ys_x_65 := TQ.st (M.out.1); have st_x_65 := ys_x_65.1; have st_x_66 := ys_x_65.2.1; have st_x_67 := ys_x_65.2.2.1; have st_x_68 := ys_x_65.2.2.2; clear ys_x_65
  have ys_x_69 := TQ.st (M.out.2.1); have st_x_69 := ys_x_69.1; have st_x_70 := ys_x_69.2.1; have st_x_71 := ys_x_69.2.2.1; have st_x_72 := ys_x_69.2.2.2; clear ys_x_69
  go_simp
  clear p2_0 q2_0 p2_1 q2_1 p2_2 q2_2 p2_3 q2_3 p2_4 q2_4 p2_5 q2_5 p2_6 q2_6 p2_7 q2_7 st_x_65 st_x_66 st_x_67 st_x_68 st_x_69 st_x_70 st_x_71 st_x_72
  obtain ⟨w11, hv⟩ : ∃ w_ : World, w_ = ((((((((w10.setCell ⟨w.heap.size + 1 + 1, 0, none⟩ (x_65)).setCell ⟨w.heap.size + 1 + 1, 1, none⟩ (x_66)).setCell ⟨w.heap.size + 1 + 1, 2, none⟩ (x_67)).setCell ⟨w.heap.size + 1 + 1, 3, none⟩ (x_68)).setCell ⟨w.heap.size + 1 + 1, 4, none⟩ (x_69)).setCell ⟨w.heap.size + 1 + 1, 5, none⟩ (x_70)).setCell ⟨w.heap.size + 1 + 1, 6, none⟩ (x_71)).setCell ⟨w.heap.size + 1 + 1, 7, none⟩ (x_72)) := ⟨_, rfl⟩
  rw [← hv]
  have og : w10.grownBy w11 (some (w.heap.size + 1 + 1)) := by rw [hv]; exact (only_setCell (only_setCell (only_setCell (only_setCell (only_setCell (only_setCell (only_setCell (only_setCell (World.grownBy.refl _ _) _) _) _) _) _) _) _) _)
  have hz : w.heap.size ≤ w.heap.size + 1 + 1 := by omega
  have hk : Bx w11 (w.heap.size + 1 + 1) 28 #[x_65, x_66, x_67, x_68, x_69, x_70, x_71, x_72] := by rw [hv]; exact (((((((((M.out.2.2.2.2.2.2.2.1).set 0 _).set 1 _).set 2 _).set 3 _).set 4 _).set 5 _).set 6 _).set 7 _)
  have hbw : Below w.heap.size w w11 := by rw [hv]; exact (Below.setCell (Below.setCell (Below.setCell (Below.setCell (Below.setCell (Below.setCell (Below.setCell (Below.setCell (M.out.2.2.2.2.2.2.2.2.2.2) (by omega) _) (by omega) _) (by omega) _) (by omega) _) (by omega) _) (by omega) _) (by omega) _) (by omega) _)
  replace M := Lib.hid (And.intro ((M.out.1).far (M.out.2.2.2.2.2.2.2.1) (by rfl) (by omega) og) (And.intro ((M.out.2.1).far (M.out.2.2.2.2.2.2.2.1) (by rfl) (by omega) og) (And.intro ((M.out.2.2.1).only og (by omega)) (And.intro ((M.out.2.2.2.1).far (M.out.2.2.2.2.2.2.2.1) (by rfl) (by omega) og) (And.intro ((M.out.2.2.2.2.1).far (M.out.2.2.2.2.2.2.2.1) (by rfl) (by omega) og) (And.intro ((M.out.2.2.2.2.2.1).far (M.out.2.2.2.2.2.2.2.1) (by rfl) (by omega) og) (And.intro ((M.out.2.2.2.2.2.2.1).far (M.out.2.2.2.2.2.2.2.1) (by rfl) (by omega) og) (And.intro hk (And.intro ((M.out.2.2.2.2.2.2.2.2.1).only og (by omega)) (And.intro ((M.out.2.2.2.2.2.2.2.2.2.1).only og (by omega)) hbw))))))))))
  clear hk hbw og hv hz
  refine hK.out _ _ (⟨(M.out.2.2.2.2.2.2.2.2.2.1).at.1 0, (M.out.2.2.2.2.2.2.2.2.2.1).at.1 1, (M.out.2.2.2.2.2.2.2.2.2.1).at.1 2, (M.out.2.2.2.2.2.2.2.2.2.1).at.1 3, (M.out.2.2.2.2.2.2.2.2.2.1).at.1 4, (M.out.2.2.2.2.2.2.2.2.2.1).at.1 5, (M.out.2.2.2.2.2.2.2.2.2.1).at.1 6, (M.out.2.2.2.2.2.2.2.2.2.1).at.1 7, (M.out.2.2.2.2.2.2.2.2.1).at.1 0, (M.out.2.2.2.2.2.2.2.2.1).at.1 1, (M.out.2.2.2.2.2.2.2.2.1).at.1 2, (M.out.2.2.2.2.2.2.2.2.1).at.1 3, (M.out.2.2.2.2.2.2.2.2.1).at.1 4, (M.out.2.2.2.2.2.2.2.2.1).at.1 5, (M.out.2.2.2.2.2.2.2.2.1).at.1 6, (M.out.2.2.2.2.2.2.2.2.1).at.1 7⟩) (fun hH76 => ?_)
  clear hK K hH75
  (try simp only [Act.put, List.setIfInBounds_toArray, List.set_cons_zero, List.set_cons_succ])
  refine tk at23 ?_
  refine wpAnyH_done (by kernel_rfl) ?_ _
  clear hH76
  go_wp2_with fail
  refine bodyPost_ret (results_box2 rfl _ _ (w.heap.size + 1 + 1) 28 _ _ _ rfl (M.out.2.2.2.2.2.2.2.1) Try.underlying28 rfl (by kernel_rfl)) rfl ?_
  exact ⟨x_65, x_66, x_67, x_68, x_69, x_70, x_71, x_72, rfl, (M.out.1), (M.out.2.1), (M.out.2.2.2.2.2.2.2.2.2.2)⟩
set_option maxRecDepth 100000 in
set_option maxHeartbeats 4000000 in
theorem spHull_q {u0 u1 u2 u3 u4 u5 u6 u7 v0 v1 v2 v3 v4 v5 v6 v7 : Value} {p q r s : Rat} {lo hi : Rat} {w : World} (hG : G ≤ w.heap.size) (h1 : FQ G w u0 u1 u2 u3 p) (h2 : FQ G w u4 u5 u6 u7 q) (h3 : FQ G w v0 v1 v2 v3 r) (h4 : FQ G w v4 v5 v6 v7 s) (hp : Fz p 34359738368) (hq : Fz q 34359738368) (hr : Fz r 34359738368) (hs : Fz s 34359738368) (ha : p ≤ q) (hb : r ≤ s) (hlo : min4 p q r s = lo) (hhi : max4 p q r s = hi)  :
    Calls Try.prog 12 #[.agg #[u0, u1, u2, u3, u4, u5, u6, u7], .agg #[v0, v1, v2, v3, v4, v5, v6, v7]] w fun e w' => ∃ x0 x1 x2 x3 x4 x5 x6 x7, e = .returned (.tuple #[.agg #[x0, x1, x2, x3, x4, x5, x6, x7], .int .i64 0]) ∧ FQ G w' x0 x1 x2 x3 lo ∧ FQ G w' x4 x5 x6 x7 hi ∧ Below w.heap.size w w' := by
  have HP := Lib.hid hp; have HQ := Lib.hid hq; have HR := Lib.hid hr; have HS := Lib.hid hs; have HA := Lib.hid (decide_eq_true ha); have HB := Lib.hid (decide_eq_true hb); have HAA := Lib.hid ha; have HBB := Lib.hid hb; clear hp hq hr hs ha hb
  have HLO := Lib.hid hlo; have HHI := Lib.hid hhi; clear hlo hhi
  have H1 : Hid (FQ G w u0 u1 u2 u3 p) := h1
  have H2 : Hid (FQ G w u4 u5 u6 u7 q) := h2
  have H3 : Hid (FQ G w v0 v1 v2 v3 r) := h3
  have H4 : Hid (FQ G w v4 v5 v6 v7 s) := h4
  clear h1 h2 h3 h4
  have M : Hid (Below w.heap.size w w) := Below.refl _ _
  go_enter Try.func12, Try.ntmps12
  go_upto_region 1 with fail
  obtain ⟨w1, hv⟩ : ∃ w_ : World, w_ = (((w.alloc (.cells #[u0, u1, u2, u3, u4, u5, u6, u7] 28)).alloc (.cells #[v0, v1, v2, v3, v4, v5, v6, v7] 28)).alloc (.cells #[.int .i64 0, .slice none 0 0, .int .i64 0, .slice none 0 0, .int .i64 0, .slice none 0 0, .int .i64 0, .slice none 0 0] 28)) := ⟨_, rfl⟩
  rw [← hv]
  have hbx := bx3 w 28 28 28 #[u0, u1, u2, u3, u4, u5, u6, u7] #[v0, v1, v2, v3, v4, v5, v6, v7] #[.int .i64 0, .slice none 0 0, .int .i64 0, .slice none 0 0, .int .i64 0, .slice none 0 0, .int .i64 0, .slice none 0 0]
  rw [← hv] at hbx
  have hbn : Below w.heap.size w w1 := by rw [hv]; exact (Below.alloc (Below.alloc (Below.alloc (Below.refl _ _) (by simp <;> omega) _) (by simp <;> omega) _) (by simp <;> omega) _)
  replace M := Lib.hid (And.intro hbx.2.2 (And.intro hbx.2.1 (And.intro hbx.1 (Goes.go M.out hbn))))
  clear hbx hbn
  clear hv
  have y0 := (M.out.2.2.1).d8; have p0_0 := y0.1; have p0_1 := y0.2.1; have p0_2 := y0.2.2.1; have p0_3 := y0.2.2.2.1; have p0_4 := y0.2.2.2.2.1; have p0_5 := y0.2.2.2.2.2.1; have p0_6 := y0.2.2.2.2.2.2.1; have p0_7 := y0.2.2.2.2.2.2.2; clear y0
  go_wp2_with fail
  clear p0_0 p0_1 p0_2 p0_3 p0_4 p0_5 p0_6 p0_7
  refine (spRight_q (G := G) (p := p) (q := q) (b_ := true) (H1.out.keep (M.out.2.2.2)) (H2.out.keep (M.out.2.2.2)) (Fz.mono HP.out (by omega)) (Fz.mono HQ.out (by omega)) HA.out).mono ?_
  rintro e w2 ⟨rfl, hb⟩
  replace M := Lib.hid (Goes.go M.out hb)
  clear hb
  have y1 := (M.out.2.1).d8; have p1_0 := y1.1; have p1_1 := y1.2.1; have p1_2 := y1.2.2.1; have p1_3 := y1.2.2.2.1; have p1_4 := y1.2.2.2.2.1; have p1_5 := y1.2.2.2.2.2.1; have p1_6 := y1.2.2.2.2.2.2.1; have p1_7 := y1.2.2.2.2.2.2.2; clear y1
  go_wp2_with fail
  clear p1_0 p1_1 p1_2 p1_3 p1_4 p1_5 p1_6 p1_7
  refine (spRight_q (G := G) (p := r) (q := s) (b_ := true) (H3.out.keep (M.out.2.2.2)) (H4.out.keep (M.out.2.2.2)) (Fz.mono HR.out (by omega)) (Fz.mono HS.out (by omega)) HB.out).mono ?_
  rintro e w3 ⟨rfl, hb⟩
  replace M := Lib.hid (Goes.go M.out hb)
  clear hb
  have y0 := (M.out.2.2.1).d8; have p0_0 := y0.1; have p0_1 := y0.2.1; have p0_2 := y0.2.2.1; have p0_3 := y0.2.2.2.1; have p0_4 := y0.2.2.2.2.1; have p0_5 := y0.2.2.2.2.2.1; have p0_6 := y0.2.2.2.2.2.2.1; have p0_7 := y0.2.2.2.2.2.2.2; clear y0
  have z0 : w.heap.size < w3.heap.size := (M.out.2.2.1).lt
  have y1 := (M.out.2.1).d8; have p1_0 := y1.1; have p1_1 := y1.2.1; have p1_2 := y1.2.2.1; have p1_3 := y1.2.2.2.1; have p1_4 := y1.2.2.2.2.1; have p1_5 := y1.2.2.2.2.2.1; have p1_6 := y1.2.2.2.2.2.2.1; have p1_7 := y1.2.2.2.2.2.2.2; clear y1
  have z1 : w.heap.size + 1 < w3.heap.size := (M.out.2.1).lt
  go_wp2_with fail
  clear p0_0 p0_1 p0_2 p0_3 p0_4 p0_5 p0_6 p0_7 z0 p1_0 p1_1 p1_2 p1_3 p1_4 p1_5 p1_6 p1_7 z1
  obtain ⟨w4, hv⟩ : ∃ w_ : World, w_ = (w3.alloc (.cells #[u0, u1, u2, u3, u4, u5, u6, u7, v0, v1, v2, v3, v4, v5, v6, v7] 26)) := ⟨_, rfl⟩
  rw [← hv]
  have ow3_ : w.heap.size + 1 + 1 < w3.heap.size := ((M.out.1)).lt
  replace M := Lib.hid (And.intro (hv ▸ bx1 w3 26 #[u0, u1, u2, u3, u4, u5, u6, u7, v0, v1, v2, v3, v4, v5, v6, v7]) (Goes.go M.out (hv ▸ below_alloc _ _ : Below w3.heap.size w3 w4)))
  clear hv
  refine (around_four (G := G) (p := p) (q := q) (r := r) (s := s) (lo := lo) (hi := hi) (Nat.le_trans hG (M.out.2.2.2.2).size) ⟨_, 0, rfl, fs_four (M.out.1) (H1.out.keep (M.out.2.2.2.2)) (H2.out.keep (M.out.2.2.2.2)) (H3.out.keep (M.out.2.2.2.2)) (H4.out.keep (M.out.2.2.2.2))⟩ (Fz.mono HP.out (by omega)) (Fz.mono HQ.out (by omega)) (Fz.mono HR.out (by omega)) (Fz.mono HS.out (by omega)) (by exact HLO.out) (by exact HHI.out)).mono ?_
  rintro e w5 ⟨x_1, x_2, x_3, x_4, x_5, x_6, x_7, x_8, rfl, hd9, hd10, hb⟩
  replace M := Lib.hid (And.intro hd9 (And.intro hd10 (Goes.go M.out hb)))
  clear hb hd9 hd10
  have y2 := (M.out.2.2.2.1).c8; have p2_0 := y2.1; have q2_0 := y2.2.1; have p2_1 := y2.2.2.1; have q2_1 := y2.2.2.2.1; have p2_2 := y2.2.2.2.2.1; have q2_2 := y2.2.2.2.2.2.1; have p2_3 := y2.2.2.2.2.2.2.1; have q2_3 := y2.2.2.2.2.2.2.2.1; have p2_4 := y2.2.2.2.2.2.2.2.2.1; have q2_4 := y2.2.2.2.2.2.2.2.2.2.1; have p2_5 := y2.2.2.2.2.2.2.2.2.2.2.1; have q2_5 := y2.2.2.2.2.2.2.2.2.2.2.2.1; have p2_6 := y2.2.2.2.2.2.2.2.2.2.2.2.2.1; have q2_6 := y2.2.2.2.2.2.2.2.2.2.2.2.2.2.1; have p2_7 := y2.2.2.2.2.2.2.2.2.2.2.2.2.2.2.1; have q2_7 := y2.2.2.2.2.2.2.2.2.2.2.2.2.2.2.2; clear y2
  have ys_x_1 := TQ.st (M.out.1); have st_x_1 := ys_x_1.1; have st_x_2 := ys_x_1.2.1; have st_x_3 := ys_x_1.2.2.1; have st_x_4 := ys_x_1.2.2.2; clear ys_x_1
  have ys_x_5 := TQ.st (M.out.2.1); have st_x_5 := ys_x_5.1; have st_x_6 := ys_x_5.2.1; have st_x_7 := ys_x_5.2.2.1; have st_x_8 := ys_x_5.2.2.2; clear ys_x_5
  go_wp2_with fail
  clear p2_0 q2_0 p2_1 q2_1 p2_2 q2_2 p2_3 q2_3 p2_4 q2_4 p2_5 q2_5 p2_6 q2_6 p2_7 q2_7 st_x_1 st_x_2 st_x_3 st_x_4 st_x_5 st_x_6 st_x_7 st_x_8
  obtain ⟨w6, hv⟩ : ∃ w_ : World, w_ = ((((((((w5.setCell ⟨w.heap.size + 1 + 1, 0, none⟩ (x_1)).setCell ⟨w.heap.size + 1 + 1, 1, none⟩ (x_2)).setCell ⟨w.heap.size + 1 + 1, 2, none⟩ (x_3)).setCell ⟨w.heap.size + 1 + 1, 3, none⟩ (x_4)).setCell ⟨w.heap.size + 1 + 1, 4, none⟩ (x_5)).setCell ⟨w.heap.size + 1 + 1, 5, none⟩ (x_6)).setCell ⟨w.heap.size + 1 + 1, 6, none⟩ (x_7)).setCell ⟨w.heap.size + 1 + 1, 7, none⟩ (x_8)) := ⟨_, rfl⟩
  rw [← hv]
  have og : w5.grownBy w6 (some (w.heap.size + 1 + 1)) := by rw [hv]; exact (only_setCell (only_setCell (only_setCell (only_setCell (only_setCell (only_setCell (only_setCell (only_setCell (World.grownBy.refl _ _) _) _) _) _) _) _) _) _)
  have hz : w.heap.size ≤ w.heap.size + 1 + 1 := by omega
  have hk : Bx w6 (w.heap.size + 1 + 1) 28 #[x_1, x_2, x_3, x_4, x_5, x_6, x_7, x_8] := by rw [hv]; exact (((((((((M.out.2.2.2.1).set 0 _).set 1 _).set 2 _).set 3 _).set 4 _).set 5 _).set 6 _).set 7 _)
  have hbw : Below w.heap.size w w6 := by rw [hv]; exact (Below.setCell (Below.setCell (Below.setCell (Below.setCell (Below.setCell (Below.setCell (Below.setCell (Below.setCell (M.out.2.2.2.2.2.2) (by omega) _) (by omega) _) (by omega) _) (by omega) _) (by omega) _) (by omega) _) (by omega) _) (by omega) _)
  replace M := Lib.hid (And.intro ((M.out.1).far (M.out.2.2.2.1) (by rfl) (by omega) og) (And.intro ((M.out.2.1).far (M.out.2.2.2.1) (by rfl) (by omega) og) (And.intro ((M.out.2.2.1).only og (by omega)) (And.intro hk (And.intro ((M.out.2.2.2.2.1).only og (by omega)) (And.intro ((M.out.2.2.2.2.2.1).only og (by omega)) hbw))))))
  clear hk hbw og hv hz
  refine bodyPost_ret (results_box2 rfl _ _ (w.heap.size + 1 + 1) 28 _ _ _ rfl (M.out.2.2.2.1) Try.underlying28 rfl (by kernel_rfl)) rfl ?_
  exact ⟨x_1, x_2, x_3, x_4, x_5, x_6, x_7, x_8, rfl, (M.out.1), (M.out.2.1), (M.out.2.2.2.2.2.2)⟩
set_option maxRecDepth 100000 in
set_option maxHeartbeats 4000000 in
theorem spMeet_q {u0 u1 u2 u3 u4 u5 u6 u7 v0 v1 v2 v3 v4 v5 v6 v7 : Value} {p q r s : Rat} {w : World} (hG : G ≤ w.heap.size) (h1 : FQ G w u0 u1 u2 u3 p) (h2 : FQ G w u4 u5 u6 u7 q) (h3 : FQ G w v0 v1 v2 v3 r) (h4 : FQ G w v4 v5 v6 v7 s) (hp : Fz p 34359738368) (hq : Fz q 34359738368) (hr : Fz r 34359738368) (hs : Fz s 34359738368) (ha : p ≤ q) (hb : r ≤ s) (hm : ¬ minQ q s < maxQ p r)  :
    Calls Try.prog 13 #[.agg #[u0, u1, u2, u3, u4, u5, u6, u7], .agg #[v0, v1, v2, v3, v4, v5, v6, v7]] w fun e w' => ∃ x0 x1 x2 x3 x4 x5 x6 x7, e = .returned (.tuple #[.agg #[x0, x1, x2, x3, x4, x5, x6, x7], .bool true]) ∧ FQ G w' x0 x1 x2 x3 (maxQ p r) ∧ FQ G w' x4 x5 x6 x7 (minQ q s) ∧ Below w.heap.size w w' := by
  have HP := Lib.hid hp; have HQ := Lib.hid hq; have HR := Lib.hid hr; have HS := Lib.hid hs; have HA := Lib.hid (decide_eq_true ha); have HB := Lib.hid (decide_eq_true hb); have HAA := Lib.hid ha; have HBB := Lib.hid hb; clear hp hq hr hs ha hb
  obtain ⟨k1, hk1⟩ : ∃ k, ordQ (maxQ p r) (minQ q s) = k := ⟨_, rfl⟩
  have hd1 : decide (0 < k1) = false := by rw [← hk1, ordQ_gt0]; exact decide_eq_false hm
  have HK1 := Lib.hid hk1; clear hk1 hm
  have H1 : Hid (FQ G w u0 u1 u2 u3 p) := h1
  have H2 : Hid (FQ G w u4 u5 u6 u7 q) := h2
  have H3 : Hid (FQ G w v0 v1 v2 v3 r) := h3
  have H4 : Hid (FQ G w v4 v5 v6 v7 s) := h4
  clear h1 h2 h3 h4
  have M : Hid (Below w.heap.size w w) := Below.refl _ _
  go_enter Try.func13, Try.ntmps13
  go_upto_region 1 with fail
  obtain ⟨w1, hv⟩ : ∃ w_ : World, w_ = (((w.alloc (.cells #[u0, u1, u2, u3, u4, u5, u6, u7] 28)).alloc (.cells #[v0, v1, v2, v3, v4, v5, v6, v7] 28)).alloc (.cells #[.int .i64 0, .slice none 0 0, .int .i64 0, .slice none 0 0, .int .i64 0, .slice none 0 0, .int .i64 0, .slice none 0 0] 28)) := ⟨_, rfl⟩
  rw [← hv]
  have hbx := bx3 w 28 28 28 #[u0, u1, u2, u3, u4, u5, u6, u7] #[v0, v1, v2, v3, v4, v5, v6, v7] #[.int .i64 0, .slice none 0 0, .int .i64 0, .slice none 0 0, .int .i64 0, .slice none 0 0, .int .i64 0, .slice none 0 0]
  rw [← hv] at hbx
  have hbn : Below w.heap.size w w1 := by rw [hv]; exact (Below.alloc (Below.alloc (Below.alloc (Below.refl _ _) (by simp <;> omega) _) (by simp <;> omega) _) (by simp <;> omega) _)
  replace M := Lib.hid (And.intro hbx.2.2 (And.intro hbx.2.1 (And.intro hbx.1 (Goes.go M.out hbn))))
  clear hbx hbn
  clear hv
  have y0 := (M.out.2.2.1).d8; have p0_0 := y0.1; have p0_1 := y0.2.1; have p0_2 := y0.2.2.1; have p0_3 := y0.2.2.2.1; have p0_4 := y0.2.2.2.2.1; have p0_5 := y0.2.2.2.2.2.1; have p0_6 := y0.2.2.2.2.2.2.1; have p0_7 := y0.2.2.2.2.2.2.2; clear y0
  go_wp2_with fail
  clear p0_0 p0_1 p0_2 p0_3 p0_4 p0_5 p0_6 p0_7
  refine (spRight_q (G := G) (p := p) (q := q) (b_ := true) (H1.out.keep (M.out.2.2.2)) (H2.out.keep (M.out.2.2.2)) (Fz.mono HP.out (by omega)) (Fz.mono HQ.out (by omega)) HA.out).mono ?_
  rintro e w2 ⟨rfl, hb⟩
  replace M := Lib.hid (Goes.go M.out hb)
  clear hb
  have y1 := (M.out.2.1).d8; have p1_0 := y1.1; have p1_1 := y1.2.1; have p1_2 := y1.2.2.1; have p1_3 := y1.2.2.2.1; have p1_4 := y1.2.2.2.2.1; have p1_5 := y1.2.2.2.2.2.1; have p1_6 := y1.2.2.2.2.2.2.1; have p1_7 := y1.2.2.2.2.2.2.2; clear y1
  go_wp2_with fail
  clear p1_0 p1_1 p1_2 p1_3 p1_4 p1_5 p1_6 p1_7
  refine (spRight_q (G := G) (p := r) (q := s) (b_ := true) (H3.out.keep (M.out.2.2.2)) (H4.out.keep (M.out.2.2.2)) (Fz.mono HR.out (by omega)) (Fz.mono HS.out (by omega)) HB.out).mono ?_
  rintro e w3 ⟨rfl, hb⟩
  replace M := Lib.hid (Goes.go M.out hb)
  clear hb
  have y0 := (M.out.2.2.1).d8; have p0_0 := y0.1; have p0_1 := y0.2.1; have p0_2 := y0.2.2.1; have p0_3 := y0.2.2.2.1; have p0_4 := y0.2.2.2.2.1; have p0_5 := y0.2.2.2.2.2.1; have p0_6 := y0.2.2.2.2.2.2.1; have p0_7 := y0.2.2.2.2.2.2.2; clear y0
  have y1 := (M.out.2.1).d8; have p1_0 := y1.1; have p1_1 := y1.2.1; have p1_2 := y1.2.2.1; have p1_3 := y1.2.2.2.1; have p1_4 := y1.2.2.2.2.1; have p1_5 := y1.2.2.2.2.2.1; have p1_6 := y1.2.2.2.2.2.2.1; have p1_7 := y1.2.2.2.2.2.2.2; clear y1
  go_wp2_with fail
  clear p0_0 p0_1 p0_2 p0_3 p0_4 p0_5 p0_6 p0_7 p1_0 p1_1 p1_2 p1_3 p1_4 p1_5 p1_6 p1_7
  refine (ends_ok (G := G) (q := p) (r := r) (lo := (minQ p r)) (hi := (maxQ p r)) (Nat.le_trans hG (M.out.2.2.2).size) (H1.out.keep (M.out.2.2.2)) (H3.out.keep (M.out.2.2.2)) (Fz.mono HP.out (by omega)) (Fz.mono HR.out (by omega)) rfl rfl).mono ?_
  rintro e w4 ⟨x_1, x_2, x_3, x_4, x_5, x_6, x_7, x_8, rfl, hd9, hd10, hb⟩
  replace M := Lib.hid (And.intro hd9 (And.intro hd10 (Goes.go M.out hb)))
  clear hb hd9 hd10
  have ys_x_1 := TQ.st (M.out.1); have st_x_1 := ys_x_1.1; have st_x_2 := ys_x_1.2.1; have st_x_3 := ys_x_1.2.2.1; have st_x_4 := ys_x_1.2.2.2; clear ys_x_1
  have ys_x_5 := TQ.st (M.out.2.1); have st_x_5 := ys_x_5.1; have st_x_6 := ys_x_5.2.1; have st_x_7 := ys_x_5.2.2.1; have st_x_8 := ys_x_5.2.2.2; clear ys_x_5
  go_upto_region 4 with fail
  clear st_x_1 st_x_2 st_x_3 st_x_4 st_x_5 st_x_6 st_x_7 st_x_8
  obtain ⟨w5, hv⟩ : ∃ w_ : World, w_ = ((w4.alloc (.cells #[x_1, x_2, x_3, x_4] 26)).alloc (.cells #[x_5, x_6, x_7, x_8] 26)) := ⟨_, rfl⟩
  rw [← hv]
  have ow3_ : w.heap.size + 1 + 1 < w4.heap.size := ((M.out.2.2.1)).lt
  have hbx := bx2 w4 26 26 #[x_1, x_2, x_3, x_4] #[x_5, x_6, x_7, x_8]
  rw [← hv] at hbx
  have hbn : Below w4.heap.size w4 w5 := by rw [hv]; exact (Below.alloc (Below.alloc (Below.refl _ _) (by simp <;> omega) _) (by simp <;> omega) _)
  replace M := Lib.hid (And.intro hbx.2 (And.intro hbx.1 (Goes.go M.out hbn)))
  clear hbx hbn
  clear hv
  have y0 := (M.out.2.2.2.2.2.2.1).d8; have p0_0 := y0.1; have p0_1 := y0.2.1; have p0_2 := y0.2.2.1; have p0_3 := y0.2.2.2.1; have p0_4 := y0.2.2.2.2.1; have p0_5 := y0.2.2.2.2.2.1; have p0_6 := y0.2.2.2.2.2.2.1; have p0_7 := y0.2.2.2.2.2.2.2; clear y0
  have y1 := (M.out.2.2.2.2.2.1).d8; have p1_0 := y1.1; have p1_1 := y1.2.1; have p1_2 := y1.2.2.1; have p1_3 := y1.2.2.2.1; have p1_4 := y1.2.2.2.2.1; have p1_5 := y1.2.2.2.2.2.1; have p1_6 := y1.2.2.2.2.2.2.1; have p1_7 := y1.2.2.2.2.2.2.2; clear y1
  go_wp2_with fail
  clear p0_0 p0_1 p0_2 p0_3 p0_4 p0_5 p0_6 p0_7 p1_0 p1_1 p1_2 p1_3 p1_4 p1_5 p1_6 p1_7
  refine (ends_ok (G := G) (q := q) (r := s) (lo := (minQ q s)) (hi := (maxQ q s)) (Nat.le_trans hG (M.out.2.2.2.2.2.2.2).size) (H2.out.keep (M.out.2.2.2.2.2.2.2)) (H4.out.keep (M.out.2.2.2.2.2.2.2)) (Fz.mono HQ.out (by omega)) (Fz.mono HS.out (by omega)) rfl rfl).mono ?_
  rintro e w6 ⟨x_11, x_12, x_13, x_14, x_15, x_16, x_17, x_18, rfl, hd19, hd20, hb⟩
  replace M := Lib.hid (And.intro hd19 (And.intro hd20 (Goes.go M.out hb)))
  clear hb hd19 hd20
  have ys_x_11 := TQ.st (M.out.1); have st_x_11 := ys_x_11.1; have st_x_12 := ys_x_11.2.1; have st_x_13 := ys_x_11.2.2.1; have st_x_14 := ys_x_11.2.2.2; clear ys_x_11
  have ys_x_15 := TQ.st (M.out.2.1); have st_x_15 := ys_x_15.1; have st_x_16 := ys_x_15.2.1; have st_x_17 := ys_x_15.2.2.1; have st_x_18 := ys_x_15.2.2.2; clear ys_x_15
  go_upto_region 5 with fail
  clear st_x_11 st_x_12 st_x_13 st_x_14 st_x_15 st_x_16 st_x_17 st_x_18
  obtain ⟨w7, hv⟩ : ∃ w_ : World, w_ = ((w6.alloc (.cells #[x_11, x_12, x_13, x_14] 26)).alloc (.cells #[x_15, x_16, x_17, x_18] 26)) := ⟨_, rfl⟩
  rw [← hv]
  have ow5_ : w4.heap.size + 1 < w6.heap.size := ((M.out.2.2.1)).lt
  have hbx := bx2 w6 26 26 #[x_11, x_12, x_13, x_14] #[x_15, x_16, x_17, x_18]
  rw [← hv] at hbx
  have hbn : Below w6.heap.size w6 w7 := by rw [hv]; exact (Below.alloc (Below.alloc (Below.refl _ _) (by simp <;> omega) _) (by simp <;> omega) _)
  replace M := Lib.hid (And.intro hbx.2 (And.intro hbx.1 (Goes.go M.out hbn)))
  clear hbx hbn
  clear hv
  have y4 := (M.out.2.2.2.2.1).d4; have p4_0 := y4.1; have p4_1 := y4.2.1; have p4_2 := y4.2.2.1; have p4_3 := y4.2.2.2; clear y4
  have y5 := (M.out.2.1).d4; have p5_0 := y5.1; have p5_1 := y5.2.1; have p5_2 := y5.2.2.1; have p5_3 := y5.2.2.2; clear y5
  go_wp2_with fail
  clear p4_0 p4_1 p4_2 p4_3 p5_0 p5_1 p5_2 p5_3
  refine (fqCompare (G := G) (q := (maxQ p r)) (r := (minQ q s)) (k := k1) (M.out.2.2.2.2.2.2.2.1) (M.out.2.2.1) (Fz.mono (Fz.maxQ HP.out HR.out) (by omega)) (Fz.mono (Fz.minQ HQ.out HS.out) (by omega)) (by exact HK1.out)).mono ?_
  rintro e w8 ⟨rfl, hb⟩
  replace M := Lib.hid (Goes.go M.out hb)
  clear hb
  have y4 := (M.out.2.2.2.2.1).d4; have p4_0 := y4.1; have p4_1 := y4.2.1; have p4_2 := y4.2.2.1; have p4_3 := y4.2.2.2; clear y4
  have y5 := (M.out.2.1).d4; have p5_0 := y5.1; have p5_1 := y5.2.1; have p5_2 := y5.2.2.1; have p5_3 := y5.2.2.2; clear y5
  have y2 := (M.out.2.2.2.2.2.2.2.2.1).c8; have p2_0 := y2.1; have q2_0 := y2.2.1; have p2_1 := y2.2.2.1; have q2_1 := y2.2.2.2.1; have p2_2 := y2.2.2.2.2.1; have q2_2 := y2.2.2.2.2.2.1; have p2_3 := y2.2.2.2.2.2.2.1; have q2_3 := y2.2.2.2.2.2.2.2.1; have p2_4 := y2.2.2.2.2.2.2.2.2.1; have q2_4 := y2.2.2.2.2.2.2.2.2.2.1; have p2_5 := y2.2.2.2.2.2.2.2.2.2.2.1; have q2_5 := y2.2.2.2.2.2.2.2.2.2.2.2.1; have p2_6 := y2.2.2.2.2.2.2.2.2.2.2.2.2.1; have q2_6 := y2.2.2.2.2.2.2.2.2.2.2.2.2.2.1; have p2_7 := y2.2.2.2.2.2.2.2.2.2.2.2.2.2.2.1; have q2_7 := y2.2.2.2.2.2.2.2.2.2.2.2.2.2.2.2; clear y2
  have ys_x_5 := TQ.st (M.out.2.2.2.2.2.2.2.1); have st_x_5 := ys_x_5.1; have st_x_6 := ys_x_5.2.1; have st_x_7 := ys_x_5.2.2.1; have st_x_8 := ys_x_5.2.2.2; clear ys_x_5
  have ys_x_11 := TQ.st (M.out.2.2.1); have st_x_11 := ys_x_11.1; have st_x_12 := ys_x_11.2.1; have st_x_13 := ys_x_11.2.2.1; have st_x_14 := ys_x_11.2.2.2; clear ys_x_11
  go_wp2_with fail
  clear p4_0 p4_1 p4_2 p4_3 p5_0 p5_1 p5_2 p5_3 p2_0 q2_0 p2_1 q2_1 p2_2 q2_2 p2_3 q2_3 p2_4 q2_4 p2_5 q2_5 p2_6 q2_6 p2_7 q2_7 st_x_5 st_x_6 st_x_7 st_x_8 st_x_11 st_x_12 st_x_13 st_x_14
  obtain ⟨w9, hv⟩ : ∃ w_ : World, w_ = ((((((((w8.setCell ⟨w.heap.size + 1 + 1, 0, none⟩ (x_5)).setCell ⟨w.heap.size + 1 + 1, 1, none⟩ (x_6)).setCell ⟨w.heap.size + 1 + 1, 2, none⟩ (x_7)).setCell ⟨w.heap.size + 1 + 1, 3, none⟩ (x_8)).setCell ⟨w.heap.size + 1 + 1, 4, none⟩ (x_11)).setCell ⟨w.heap.size + 1 + 1, 5, none⟩ (x_12)).setCell ⟨w.heap.size + 1 + 1, 6, none⟩ (x_13)).setCell ⟨w.heap.size + 1 + 1, 7, none⟩ (x_14)) := ⟨_, rfl⟩
  rw [← hv]
  have og : w8.grownBy w9 (some (w.heap.size + 1 + 1)) := by rw [hv]; exact (only_setCell (only_setCell (only_setCell (only_setCell (only_setCell (only_setCell (only_setCell (only_setCell (World.grownBy.refl _ _) _) _) _) _) _) _) _) _)
  have hz : w.heap.size ≤ w.heap.size + 1 + 1 := by omega
  have hk : Bx w9 (w.heap.size + 1 + 1) 28 #[x_5, x_6, x_7, x_8, x_11, x_12, x_13, x_14] := by rw [hv]; exact (((((((((M.out.2.2.2.2.2.2.2.2.1).set 0 _).set 1 _).set 2 _).set 3 _).set 4 _).set 5 _).set 6 _).set 7 _)
  have hbw : Below w.heap.size w w9 := by rw [hv]; exact (Below.setCell (Below.setCell (Below.setCell (Below.setCell (Below.setCell (Below.setCell (Below.setCell (Below.setCell (M.out.2.2.2.2.2.2.2.2.2.2.2) (by omega) _) (by omega) _) (by omega) _) (by omega) _) (by omega) _) (by omega) _) (by omega) _) (by omega) _)
  replace M := Lib.hid (And.intro ((M.out.1).only og (by omega)) (And.intro ((M.out.2.1).only og (by omega)) (And.intro ((M.out.2.2.1).far (M.out.2.2.2.2.2.2.2.2.1) (by rfl) (by omega) og) (And.intro ((M.out.2.2.2.1).far (M.out.2.2.2.2.2.2.2.2.1) (by rfl) (by omega) og) (And.intro ((M.out.2.2.2.2.1).only og (by omega)) (And.intro ((M.out.2.2.2.2.2.1).only og (by omega)) (And.intro ((M.out.2.2.2.2.2.2.1).far (M.out.2.2.2.2.2.2.2.2.1) (by rfl) (by omega) og) (And.intro ((M.out.2.2.2.2.2.2.2.1).far (M.out.2.2.2.2.2.2.2.2.1) (by rfl) (by omega) og) (And.intro hk (And.intro ((M.out.2.2.2.2.2.2.2.2.2.1).only og (by omega)) (And.intro ((M.out.2.2.2.2.2.2.2.2.2.2.1).only og (by omega)) hbw)))))))))))
  clear hk hbw og hv hz
  refine bodyPost_ret (results_box2 rfl _ _ (w.heap.size + 1 + 1) 28 _ _ _ rfl (M.out.2.2.2.2.2.2.2.2.1) Try.underlying28 rfl (by kernel_rfl)) rfl ?_
  exact ⟨x_5, x_6, x_7, x_8, x_11, x_12, x_13, x_14, rfl, (M.out.2.2.2.2.2.2.2.1), (M.out.2.2.1), (M.out.2.2.2.2.2.2.2.2.2.2.2)⟩
set_option maxRecDepth 100000 in
set_option maxHeartbeats 4000000 in
theorem spMeet_none {u0 u1 u2 u3 u4 u5 u6 u7 v0 v1 v2 v3 v4 v5 v6 v7 : Value} {p q r s : Rat} {w : World} (hG : G ≤ w.heap.size) (h1 : FQ G w u0 u1 u2 u3 p) (h2 : FQ G w u4 u5 u6 u7 q) (h3 : FQ G w v0 v1 v2 v3 r) (h4 : FQ G w v4 v5 v6 v7 s) (hp : Fz p 34359738368) (hq : Fz q 34359738368) (hr : Fz r 34359738368) (hs : Fz s 34359738368) (ha : p ≤ q) (hb : r ≤ s) (hm : minQ q s < maxQ p r)  :
    Calls Try.prog 13 #[.agg #[u0, u1, u2, u3, u4, u5, u6, u7], .agg #[v0, v1, v2, v3, v4, v5, v6, v7]] w fun e w' => e = .returned (.tuple #[.agg #[.int .i64 0, .slice none 0 0, .int .i64 0, .slice none 0 0, .int .i64 0, .slice none 0 0, .int .i64 0, .slice none 0 0], .bool false]) ∧ Below w.heap.size w w' := by
  have HP := Lib.hid hp; have HQ := Lib.hid hq; have HR := Lib.hid hr; have HS := Lib.hid hs; have HA := Lib.hid (decide_eq_true ha); have HB := Lib.hid (decide_eq_true hb); have HAA := Lib.hid ha; have HBB := Lib.hid hb; clear hp hq hr hs ha hb
  obtain ⟨k1, hk1⟩ : ∃ k, ordQ (maxQ p r) (minQ q s) = k := ⟨_, rfl⟩
  have hd1 : decide (0 < k1) = true := by rw [← hk1, ordQ_gt0]; exact decide_eq_true hm
  have HK1 := Lib.hid hk1; clear hk1 hm
  have H1 : Hid (FQ G w u0 u1 u2 u3 p) := h1
  have H2 : Hid (FQ G w u4 u5 u6 u7 q) := h2
  have H3 : Hid (FQ G w v0 v1 v2 v3 r) := h3
  have H4 : Hid (FQ G w v4 v5 v6 v7 s) := h4
  clear h1 h2 h3 h4
  have M : Hid (Below w.heap.size w w) := Below.refl _ _
  go_enter Try.func13, Try.ntmps13
  go_upto_region 1 with fail
  obtain ⟨w1, hv⟩ : ∃ w_ : World, w_ = (((w.alloc (.cells #[u0, u1, u2, u3, u4, u5, u6, u7] 28)).alloc (.cells #[v0, v1, v2, v3, v4, v5, v6, v7] 28)).alloc (.cells #[.int .i64 0, .slice none 0 0, .int .i64 0, .slice none 0 0, .int .i64 0, .slice none 0 0, .int .i64 0, .slice none 0 0] 28)) := ⟨_, rfl⟩
  rw [← hv]
  have hbx := bx3 w 28 28 28 #[u0, u1, u2, u3, u4, u5, u6, u7] #[v0, v1, v2, v3, v4, v5, v6, v7] #[.int .i64 0, .slice none 0 0, .int .i64 0, .slice none 0 0, .int .i64 0, .slice none 0 0, .int .i64 0, .slice none 0 0]
  rw [← hv] at hbx
  have hbn : Below w.heap.size w w1 := by rw [hv]; exact (Below.alloc (Below.alloc (Below.alloc (Below.refl _ _) (by simp <;> omega) _) (by simp <;> omega) _) (by simp <;> omega) _)
  replace M := Lib.hid (And.intro hbx.2.2 (And.intro hbx.2.1 (And.intro hbx.1 (Goes.go M.out hbn))))
  clear hbx hbn
  clear hv
  have y0 := (M.out.2.2.1).d8; have p0_0 := y0.1; have p0_1 := y0.2.1; have p0_2 := y0.2.2.1; have p0_3 := y0.2.2.2.1; have p0_4 := y0.2.2.2.2.1; have p0_5 := y0.2.2.2.2.2.1; have p0_6 := y0.2.2.2.2.2.2.1; have p0_7 := y0.2.2.2.2.2.2.2; clear y0
  go_wp2_with fail
  clear p0_0 p0_1 p0_2 p0_3 p0_4 p0_5 p0_6 p0_7
  refine (spRight_q (G := G) (p := p) (q := q) (b_ := true) (H1.out.keep (M.out.2.2.2)) (H2.out.keep (M.out.2.2.2)) (Fz.mono HP.out (by omega)) (Fz.mono HQ.out (by omega)) HA.out).mono ?_
  rintro e w2 ⟨rfl, hb⟩
  replace M := Lib.hid (Goes.go M.out hb)
  clear hb
  have y1 := (M.out.2.1).d8; have p1_0 := y1.1; have p1_1 := y1.2.1; have p1_2 := y1.2.2.1; have p1_3 := y1.2.2.2.1; have p1_4 := y1.2.2.2.2.1; have p1_5 := y1.2.2.2.2.2.1; have p1_6 := y1.2.2.2.2.2.2.1; have p1_7 := y1.2.2.2.2.2.2.2; clear y1
  go_wp2_with fail
  clear p1_0 p1_1 p1_2 p1_3 p1_4 p1_5 p1_6 p1_7
  refine (spRight_q (G := G) (p := r) (q := s) (b_ := true) (H3.out.keep (M.out.2.2.2)) (H4.out.keep (M.out.2.2.2)) (Fz.mono HR.out (by omega)) (Fz.mono HS.out (by omega)) HB.out).mono ?_
  rintro e w3 ⟨rfl, hb⟩
  replace M := Lib.hid (Goes.go M.out hb)
  clear hb
  have y0 := (M.out.2.2.1).d8; have p0_0 := y0.1; have p0_1 := y0.2.1; have p0_2 := y0.2.2.1; have p0_3 := y0.2.2.2.1; have p0_4 := y0.2.2.2.2.1; have p0_5 := y0.2.2.2.2.2.1; have p0_6 := y0.2.2.2.2.2.2.1; have p0_7 := y0.2.2.2.2.2.2.2; clear y0
  have y1 := (M.out.2.1).d8; have p1_0 := y1.1; have p1_1 := y1.2.1; have p1_2 := y1.2.2.1; have p1_3 := y1.2.2.2.1; have p1_4 := y1.2.2.2.2.1; have p1_5 := y1.2.2.2.2.2.1; have p1_6 := y1.2.2.2.2.2.2.1; have p1_7 := y1.2.2.2.2.2.2.2; clear y1
  go_wp2_with fail
  clear p0_0 p0_1 p0_2 p0_3 p0_4 p0_5 p0_6 p0_7 p1_0 p1_1 p1_2 p1_3 p1_4 p1_5 p1_6 p1_7
  refine (ends_ok (G := G) (q := p) (r := r) (lo := (minQ p r)) (hi := (maxQ p r)) (Nat.le_trans hG (M.out.2.2.2).size) (H1.out.keep (M.out.2.2.2)) (H3.out.keep (M.out.2.2.2)) (Fz.mono HP.out (by omega)) (Fz.mono HR.out (by omega)) rfl rfl).mono ?_
  rintro e w4 ⟨x_1, x_2, x_3, x_4, x_5, x_6, x_7, x_8, rfl, hd9, hd10, hb⟩
  replace M := Lib.hid (And.intro hd9 (And.intro hd10 (Goes.go M.out hb)))
  clear hb hd9 hd10
  have ys_x_1 := TQ.st (M.out.1); have st_x_1 := ys_x_1.1; have st_x_2 := ys_x_1.2.1; have st_x_3 := ys_x_1.2.2.1; have st_x_4 := ys_x_1.2.2.2; clear ys_x_1
  have ys_x_5 := TQ.st (M.out.2.1); have st_x_5 := ys_x_5.1; have st_x_6 := ys_x_5.2.1; have st_x_7 := ys_x_5.2.2.1; have st_x_8 := ys_x_5.2.2.2; clear ys_x_5
  go_upto_region 4 with fail
  clear st_x_1 st_x_2 st_x_3 st_x_4 st_x_5 st_x_6 st_x_7 st_x_8
  obtain ⟨w5, hv⟩ : ∃ w_ : World, w_ = ((w4.alloc (.cells #[x_1, x_2, x_3, x_4] 26)).alloc (.cells #[x_5, x_6, x_7, x_8] 26)) := ⟨_, rfl⟩
  rw [← hv]
  have ow3_ : w.heap.size + 1 + 1 < w4.heap.size := ((M.out.2.2.1)).lt
  have hbx := bx2 w4 26 26 #[x_1, x_2, x_3, x_4] #[x_5, x_6, x_7, x_8]
  rw [← hv] at hbx
  have hbn : Below w4.heap.size w4 w5 := by rw [hv]; exact (Below.alloc (Below.alloc (Below.refl _ _) (by simp <;> omega) _) (by simp <;> omega) _)
  replace M := Lib.hid (And.intro hbx.2 (And.intro hbx.1 (Goes.go M.out hbn)))
  clear hbx hbn
  clear hv
  have y0 := (M.out.2.2.2.2.2.2.1).d8; have p0_0 := y0.1; have p0_1 := y0.2.1; have p0_2 := y0.2.2.1; have p0_3 := y0.2.2.2.1; have p0_4 := y0.2.2.2.2.1; have p0_5 := y0.2.2.2.2.2.1; have p0_6 := y0.2.2.2.2.2.2.1; have p0_7 := y0.2.2.2.2.2.2.2; clear y0
  have y1 := (M.out.2.2.2.2.2.1).d8; have p1_0 := y1.1; have p1_1 := y1.2.1; have p1_2 := y1.2.2.1; have p1_3 := y1.2.2.2.1; have p1_4 := y1.2.2.2.2.1; have p1_5 := y1.2.2.2.2.2.1; have p1_6 := y1.2.2.2.2.2.2.1; have p1_7 := y1.2.2.2.2.2.2.2; clear y1
  go_wp2_with fail
  clear p0_0 p0_1 p0_2 p0_3 p0_4 p0_5 p0_6 p0_7 p1_0 p1_1 p1_2 p1_3 p1_4 p1_5 p1_6 p1_7
  refine (ends_ok (G := G) (q := q) (r := s) (lo := (minQ q s)) (hi := (maxQ q s)) (Nat.le_trans hG (M.out.2.2.2.2.2.2.2).size) (H2.out.keep (M.out.2.2.2.2.2.2.2)) (H4.out.keep (M.out.2.2.2.2.2.2.2)) (Fz.mono HQ.out (by omega)) (Fz.mono HS.out (by omega)) rfl rfl).mono ?_
  rintro e w6 ⟨x_11, x_12, x_13, x_14, x_15, x_16, x_17, x_18, rfl, hd19, hd20, hb⟩
  replace M := Lib.hid (And.intro hd19 (And.intro hd20 (Goes.go M.out hb)))
  clear hb hd19 hd20
  have ys_x_11 := TQ.st (M.out.1); have st_x_11 := ys_x_11.1; have st_x_12 := ys_x_11.2.1; have st_x_13 := ys_x_11.2.2.1; have st_x_14 := ys_x_11.2.2.2; clear ys_x_11
  have ys_x_15 := TQ.st (M.out.2.1); have st_x_15 := ys_x_15.1; have st_x_16 := ys_x_15.2.1; have st_x_17 := ys_x_15.2.2.1; have st_x_18 := ys_x_15.2.2.2; clear ys_x_15
  go_upto_region 5 with fail
  clear st_x_11 st_x_12 st_x_13 st_x_14 st_x_15 st_x_16 st_x_17 st_x_18
  obtain ⟨w7, hv⟩ : ∃ w_ : World, w_ = ((w6.alloc (.cells #[x_11, x_12, x_13, x_14] 26)).alloc (.cells #[x_15, x_16, x_17, x_18] 26)) := ⟨_, rfl⟩
  rw [← hv]
  have ow5_ : w4.heap.size + 1 < w6.heap.size := ((M.out.2.2.1)).lt
  have hbx := bx2 w6 26 26 #[x_11, x_12, x_13, x_14] #[x_15, x_16, x_17, x_18]
  rw [← hv] at hbx
  have hbn : Below w6.heap.size w6 w7 := by rw [hv]; exact (Below.alloc (Below.alloc (Below.refl _ _) (by simp <;> omega) _) (by simp <;> omega) _)
  replace M := Lib.hid (And.intro hbx.2 (And.intro hbx.1 (Goes.go M.out hbn)))
  clear hbx hbn
  clear hv
  have y4 := (M.out.2.2.2.2.1).d4; have p4_0 := y4.1; have p4_1 := y4.2.1; have p4_2 := y4.2.2.1; have p4_3 := y4.2.2.2; clear y4
  have y5 := (M.out.2.1).d4; have p5_0 := y5.1; have p5_1 := y5.2.1; have p5_2 := y5.2.2.1; have p5_3 := y5.2.2.2; clear y5
  go_wp2_with fail
  clear p4_0 p4_1 p4_2 p4_3 p5_0 p5_1 p5_2 p5_3
  refine (fqCompare (G := G) (q := (maxQ p r)) (r := (minQ q s)) (k := k1) (M.out.2.2.2.2.2.2.2.1) (M.out.2.2.1) (Fz.mono (Fz.maxQ HP.out HR.out) (by omega)) (Fz.mono (Fz.minQ HQ.out HS.out) (by omega)) (by exact HK1.out)).mono ?_
  rintro e w8 ⟨rfl, hb⟩
  replace M := Lib.hid (Goes.go M.out hb)
  clear hb
  have y2 := (M.out.2.2.2.2.2.2.2.2.1).c8; have p2_0 := y2.1; have q2_0 := y2.2.1; have p2_1 := y2.2.2.1; have q2_1 := y2.2.2.2.1; have p2_2 := y2.2.2.2.2.1; have q2_2 := y2.2.2.2.2.2.1; have p2_3 := y2.2.2.2.2.2.2.1; have q2_3 := y2.2.2.2.2.2.2.2.1; have p2_4 := y2.2.2.2.2.2.2.2.2.1; have q2_4 := y2.2.2.2.2.2.2.2.2.2.1; have p2_5 := y2.2.2.2.2.2.2.2.2.2.2.1; have q2_5 := y2.2.2.2.2.2.2.2.2.2.2.2.1; have p2_6 := y2.2.2.2.2.2.2.2.2.2.2.2.2.1; have q2_6 := y2.2.2.2.2.2.2.2.2.2.2.2.2.2.1; have p2_7 := y2.2.2.2.2.2.2.2.2.2.2.2.2.2.2.1; have q2_7 := y2.2.2.2.2.2.2.2.2.2.2.2.2.2.2.2; clear y2
  go_wp2_with fail
  clear p2_0 q2_0 p2_1 q2_1 p2_2 q2_2 p2_3 q2_3 p2_4 q2_4 p2_5 q2_5 p2_6 q2_6 p2_7 q2_7
  obtain ⟨w9, hv⟩ : ∃ w_ : World, w_ = ((((((((w8.setCell ⟨w.heap.size + 1 + 1, 0, none⟩ (.int .i64 0)).setCell ⟨w.heap.size + 1 + 1, 1, none⟩ (.slice none 0 0)).setCell ⟨w.heap.size + 1 + 1, 2, none⟩ (.int .i64 0)).setCell ⟨w.heap.size + 1 + 1, 3, none⟩ (.slice none 0 0)).setCell ⟨w.heap.size + 1 + 1, 4, none⟩ (.int .i64 0)).setCell ⟨w.heap.size + 1 + 1, 5, none⟩ (.slice none 0 0)).setCell ⟨w.heap.size + 1 + 1, 6, none⟩ (.int .i64 0)).setCell ⟨w.heap.size + 1 + 1, 7, none⟩ (.slice none 0 0)) := ⟨_, rfl⟩
  rw [← hv]
  have og : w8.grownBy w9 (some (w.heap.size + 1 + 1)) := by rw [hv]; exact (only_setCell (only_setCell (only_setCell (only_setCell (only_setCell (only_setCell (only_setCell (only_setCell (World.grownBy.refl _ _) _) _) _) _) _) _) _) _)
  have hz : w.heap.size ≤ w.heap.size + 1 + 1 := by omega
  have hk : Bx w9 (w.heap.size + 1 + 1) 28 #[.int .i64 0, .slice none 0 0, .int .i64 0, .slice none 0 0, .int .i64 0, .slice none 0 0, .int .i64 0, .slice none 0 0] := by rw [hv]; exact (((((((((M.out.2.2.2.2.2.2.2.2.1).set 0 _).set 1 _).set 2 _).set 3 _).set 4 _).set 5 _).set 6 _).set 7 _)
  have hbw : Below w.heap.size w w9 := by rw [hv]; exact (Below.setCell (Below.setCell (Below.setCell (Below.setCell (Below.setCell (Below.setCell (Below.setCell (Below.setCell (M.out.2.2.2.2.2.2.2.2.2.2.2) (by omega) _) (by omega) _) (by omega) _) (by omega) _) (by omega) _) (by omega) _) (by omega) _) (by omega) _)
  replace M := Lib.hid (And.intro ((M.out.1).only og (by omega)) (And.intro ((M.out.2.1).only og (by omega)) (And.intro ((M.out.2.2.1).far (M.out.2.2.2.2.2.2.2.2.1) (by rfl) (by omega) og) (And.intro ((M.out.2.2.2.1).far (M.out.2.2.2.2.2.2.2.2.1) (by rfl) (by omega) og) (And.intro ((M.out.2.2.2.2.1).only og (by omega)) (And.intro ((M.out.2.2.2.2.2.1).only og (by omega)) (And.intro ((M.out.2.2.2.2.2.2.1).far (M.out.2.2.2.2.2.2.2.2.1) (by rfl) (by omega) og) (And.intro ((M.out.2.2.2.2.2.2.2.1).far (M.out.2.2.2.2.2.2.2.2.1) (by rfl) (by omega) og) (And.intro hk (And.intro ((M.out.2.2.2.2.2.2.2.2.2.1).only og (by omega)) (And.intro ((M.out.2.2.2.2.2.2.2.2.2.2.1).only og (by omega)) hbw)))))))))))
  clear hk hbw og hv hz
  refine bodyPost_ret (results_box2 rfl _ _ (w.heap.size + 1 + 1) 28 _ _ _ rfl (M.out.2.2.2.2.2.2.2.2.1) Try.underlying28 rfl (by kernel_rfl)) rfl ?_
  exact ⟨rfl, (M.out.2.2.2.2.2.2.2.2.2.2.2)⟩
end Go.Proofs.Ytjbfngjlepafgaa
