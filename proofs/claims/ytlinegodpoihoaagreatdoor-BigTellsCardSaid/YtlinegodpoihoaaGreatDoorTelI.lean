/- Walks of the verifier's reference: the int of a big integer. -/
import Derived.Test.YtlinegodpoihoaaGreatDoorBase
import Derived.Test.YtlinegodpoihoaaGreatDoorBigSpec
import Derived.Test.YtlinegodpoihoaaGreatDoorBigB
import Derived.Test.YtlinegodpoihoaaGreatDoorBigC
import Derived.Test.YtlinegodpoihoaaGreatDoorBigD
import Derived.Test.YtlinegodpoihoaaGreatDoorBigK
import Derived.Test.YtlinegodpoihoaaGreatDoorBigQ
import Derived.Test.YtlinegodpoihoaaGreatDoorRefS
import Derived.Test.YtlinegodpoihoaaGreatDoorHeld
import Derived.Test.YtlinegodpoihoaaGreatDoorAw
import Derived.Test.YtlinegodpoihoaaGreatDoorRefR4
import Derived.Test.YtlinegodpoihoaaGreatDoorRefH
import Derived.Test.YtlinegodpoihoaaGreatDoorRefK
import Derived.Test.YtlinegodpoihoaaGreatDoorProg
import Derived.Test.YtlinegodpoihoaaGreatDoorShelf
import Derived.WalkKit
import Derived.WalkSpells
import Derived.WalkLawsBesides
import Derived.Handy
import Derived.Lib.Hide
import Derived.Lib.Strings
import Derived.Lib.Builder
import Derived.BigQuiet
import Derived.OwnWalk
import Derived.Laws.BitsLemmas
import Derived.WalkSmall
import Derived.Deep.QuietTactic
import Derived.StillTailTactics
import Derived.Maps.AppendAt
import Derived.IntWalk
import Derived.Deep.RegionHeld3
import Derived.Deep.DeepFit
import Derived.Deep.LoopGhost
import Derived.Deep.DeepCutAuto
namespace Go.Proofs.YtlinegodpoihoaaGreatDoor
open Go.RowKit Go.Lib
variable {G : Nat}

theorem rcompare_k {x y k : Int} {a1 a2 : Option Addr} {c1 c2 : Nat} {w : World} (h1 : BD G w a1 c1 x) (h2 : BD G w a2 c2 y) (hx : Sz x 549755813888) (hy : Sz y 549755813888) (hk : ord x y = k) :
  Calls Tryz.prog 24 #[.agg #[.int .i64 (sg x), .slice a1 (ln x) c1], .agg #[.int .i64 (sg y), .slice a2 (ln y) c2]] w fun e w' => e = .returned (.int .i64 k) ∧ Below w.heap.size w w' := by
 rw [← hk]; exact rcompare_ok h1 h2 hx hy
theorem sz_i64 {x : Int} (h : -9223372036854775808 ≤ x ∧ x ≤ 9223372036854775807) : Sz x 4 := digs_len_of_lt (show x.natAbs < 1048576 ^ 4 by omega)
theorem drop_le (l : Digs) (k : Nat) : val (l.drop k) ≤ val l := by
 rw [val_split' l k]
 have := Nat.mul_le_mul_right (val (l.drop k)) (Nat.one_le_pow k 1048576 (by decide))
 omega
/-- One more digit from the top. -/
theorem int_step {x : Int} (h : -9223372036854775808 ≤ x ∧ x ≤ 9223372036854775807) {m d : Nat} (hm : m < (digs x.natAbs).length) (hd : (digs x.natAbs)[m] = d) :
    ∃ v v2 s2 v' : Int, sg x * (val ((digs x.natAbs).drop (m + 1)) : Nat) = v ∧ v * 1048576 = v2 ∧ sg x * (d : Int) = s2 ∧ v2 + s2 = v' ∧ sg x * (val ((digs x.natAbs).drop m) : Nat) = v' ∧
      (-9223372036854775808 ≤ v ∧ v ≤ 9223372036854775807) ∧ (-9223372036854775808 ≤ v2 ∧ v2 ≤ 9223372036854775807) ∧ (-9223372036854775808 ≤ s2 ∧ s2 ≤ 9223372036854775807) ∧ (-9223372036854775808 ≤ v' ∧ v' ≤ 9223372036854775807) := by
  have h1 : val ((digs x.natAbs).drop m) = d + 1048576 * val ((digs x.natAbs).drop (m + 1)) := by
    rw [List.drop_eq_getElem_cons hm, val, hd]
  have h2 := drop_le (digs x.natAbs) m
  rw [val_digs] at h2
  obtain ⟨p, hp⟩ : ∃ p, val ((digs x.natAbs).drop (m + 1)) = p := ⟨_, rfl⟩
  obtain ⟨q, hq⟩ : ∃ q, val ((digs x.natAbs).drop m) = q := ⟨_, rfl⟩
  rw [hp, hq] at h1
  rw [hq] at h2
  rw [hp, hq]
  rcases Int.lt_trichotomy x 0 with hx | hx | hx
  · rw [sg_neg hx]; exact ⟨_, _, _, _, rfl, rfl, rfl, rfl, by omega, by omega, by omega, by omega, by omega⟩
  · rw [sg_zero' hx]; exact ⟨_, _, _, _, rfl, rfl, rfl, rfl, by omega, by omega, by omega, by omega, by omega⟩
  · rw [sg_pos hx]; exact ⟨_, _, _, _, rfl, rfl, rfl, rfl, by omega, by omega, by omega, by omega, by omega⟩
theorem int_whole (x : Int) : sg x * (val ((digs x.natAbs).drop 0) : Nat) = x := by
 rw [List.drop_zero, val_digs]; exact Int.sign_mul_natAbs x
set_option maxRecDepth 100000 in
set_option maxHeartbeats 4000000 in
theorem rInt_low {x : Int} {a1 : Option Addr} {c1 : Nat} {w : World} (h1 : BD G w a1 c1 x) (hx : Sz x 549755813888) (hl : x < -9223372036854775808) :
  Calls Tryz.prog 16 #[.agg #[.int .i64 (sg x), .slice a1 (ln x) c1]] w fun e w' => e = .returned (.tuple #[.int .i64 0, .bool false]) ∧ Below w.heap.size w w' := by
 obtain ⟨k1, hk1⟩ : ∃ k, ord x (-9223372036854775808) = k := ⟨_, rfl⟩
 have e1 : decide (k1 < 0) = true := by rw [← hk1]; unfold ord; rw [if_pos hl]; rfl
 have HK1 := Lib.hid hk1
 clear hk1 hl
 have HX := Lib.hid hx; clear hx
 have H1 : Hid (BD G w a1 c1 x) := h1
 clear h1
 have M : Hid (Below w.heap.size w w) := Below.refl _ _
 go_enter Tryz.func16, Tryz.ntmps16
 go_upto_region 1 with fail
 refine nmW (w.alloc (.cells #[.int .i64 (sg x), .slice a1 (ln x) c1] 24)) fun w1 hv => ?_
 rw [← hv]
 replace M := alM hv M
 clear hv
 refine cj2 (M.out.1).d2 fun aa ab => ?_
 go_wp2_with fail
 clear aa ab
 refine (rright_ok (G := G) (x := x) (H1.out.keep (J1 M)) (Sz.mono HX.out (by omega))).mono ?_
 rintro e w2 ⟨rfl, hb⟩
 replace M := gnM hb M
 clear hb
 go_wp2_with fail
 refine nmW w2.drew fun w3 hv => ?_
 replace M := drM hv M
 refine wp_region_held_drew (S := (fun w' => w'.cell? ⟨w.heap.size, 0, none⟩ = some (.int .i64 (sg x)) ∧ w'.cell? ⟨w.heap.size, 1, none⟩ = some (.slice a1 (ln x) c1))) (by kernel_rfl) (by rw [← hv]; exact (M.out.1).d2) (fun hH4 => ?_)
 rw [← hv] at hH4 ⊢
 clear hv
 refine tk at0 ?_
 refine tk at1 ?_
 refine wpAnyH_ready (rs := [2]) (by kernel_rfl) (by simp) ?_
 refine AllReadyH.cons at2 (fun K hK => ?_) AllReadyH.nil
 go_simp
 refine (rof_ok (G := G) (-9223372036854775808) _ (by decide)).mono ?_
 rintro e w4 ⟨a_5, c_6, rfl, hd7, hb⟩
 replace M := adM hd7 hb M
 clear hb hd7
 (try go_wp2_with fail)
 refine hK.out _ _ ((J1 M).1.d2) (fun hH8 => ?_)
 clear hK K hH4
 (try simp only [Act.put, List.setIfInBounds_toArray, List.set_cons_zero, List.set_cons_succ])
 refine wpAnyH_ready (rs := [3]) (by kernel_rfl) (by simp) ?_
 refine AllReadyH.cons at3 (fun K hK => ?_) AllReadyH.nil
 go_simp
 refine (rcompare_k (G := G) (x := x) (y := (-9223372036854775808)) (k := k1) (H1.out.keep (J2 M)) (M.out.1) HX.out (Sz.mono (sz_i64 (by decide)) (by omega)) HK1.out).mono ?_
 rintro e w5 ⟨rfl, hb⟩
 replace M := gnM hb M
 clear hb
 (try go_wp2_with fail)
 refine hK.out _ _ ((J1 M).1.d2) (fun hH9 => ?_)
 clear hK K hH8
 (try simp only [Act.put, List.setIfInBounds_toArray, List.set_cons_zero, List.set_cons_succ])
 refine tk at4 ?_
 refine tk at5 ?_
 refine tu at6 ?_
 refine wpAnyH_ready (rs := [7]) (by kernel_rfl) (by simp) ?_
 refine AllReadyH.cons at7 (fun K hK => ?_) AllReadyH.nil
 rw [if_neg]
 rotate_left
 focus (intro h; exact Bool.noConfusion h)
 refine hK.out _ _ hH9 (fun _ => ?_)
 clear hK K
 (try simp only [Act.put, List.setIfInBounds_toArray, List.set_cons_zero, List.set_cons_succ])
 refine wpAnyH_ready (rs := [8]) (by kernel_rfl) (by simp) ?_
 refine AllReadyH.cons at8 (fun K hK => ?_) AllReadyH.nil
 rw [if_neg]
 rotate_left
 focus (intro h; exact Bool.noConfusion h)
 refine hK.out _ _ hH9 (fun _ => ?_)
 clear hK K
 (try simp only [Act.put, List.setIfInBounds_toArray, List.set_cons_zero, List.set_cons_succ])
 refine tu at9 ?_
 refine tk at10 ?_
 refine wpAnyH_done (by kernel_rfl) ?_ _
 clear hH9
 go_wp2_with fail
 go_ret2
 exact ⟨rfl, (J2 M)⟩
set_option maxRecDepth 100000 in
set_option maxHeartbeats 4000000 in
theorem rInt_high {x : Int} {a1 : Option Addr} {c1 : Nat} {w : World} (h1 : BD G w a1 c1 x) (hx : Sz x 549755813888) (hl : 9223372036854775807 < x) :
  Calls Tryz.prog 16 #[.agg #[.int .i64 (sg x), .slice a1 (ln x) c1]] w fun e w' => e = .returned (.tuple #[.int .i64 0, .bool false]) ∧ Below w.heap.size w w' := by
 obtain ⟨k1, hk1⟩ : ∃ k, ord x (-9223372036854775808) = k := ⟨_, rfl⟩
 obtain ⟨k2, hk2⟩ : ∃ k, ord x 9223372036854775807 = k := ⟨_, rfl⟩
 have e1 : decide (k1 < 0) = false := by rw [← hk1]; unfold ord; rw [if_neg (by omega), if_pos (by omega)]; rfl
 have e2 : decide (0 < k2) = true := by rw [← hk2]; unfold ord; rw [if_neg (by omega), if_pos (by omega)]; rfl
 have HK1 := Lib.hid hk1; have HK2 := Lib.hid hk2
 clear hk1 hk2 hl
 have HX := Lib.hid hx; clear hx
 have H1 : Hid (BD G w a1 c1 x) := h1
 clear h1
 have M : Hid (Below w.heap.size w w) := Below.refl _ _
 go_enter Tryz.func16, Tryz.ntmps16
 go_upto_region 1 with fail
 refine nmW (w.alloc (.cells #[.int .i64 (sg x), .slice a1 (ln x) c1] 24)) fun w1 hv => ?_
 rw [← hv]
 replace M := alM hv M
 clear hv
 refine cj2 (M.out.1).d2 fun aa ab => ?_
 go_wp2_with fail
 clear aa ab
 refine (rright_ok (G := G) (x := x) (H1.out.keep (J1 M)) (Sz.mono HX.out (by omega))).mono ?_
 rintro e w2 ⟨rfl, hb⟩
 replace M := gnM hb M
 clear hb
 go_wp2_with fail
 refine nmW w2.drew fun w3 hv => ?_
 replace M := drM hv M
 refine wp_region_held_drew (S := (fun w' => w'.cell? ⟨w.heap.size, 0, none⟩ = some (.int .i64 (sg x)) ∧ w'.cell? ⟨w.heap.size, 1, none⟩ = some (.slice a1 (ln x) c1))) (by kernel_rfl) (by rw [← hv]; exact (M.out.1).d2) (fun hH7 => ?_)
 rw [← hv] at hH7 ⊢
 clear hv
 refine tk at0 ?_
 refine tk at1 ?_
 refine wpAnyH_ready (rs := [2]) (by kernel_rfl) (by simp) ?_
 refine AllReadyH.cons at2 (fun K hK => ?_) AllReadyH.nil
 go_simp
 refine (rof_ok (G := G) (-9223372036854775808) _ (by decide)).mono ?_
 rintro e w4 ⟨a_8, c_9, rfl, hd10, hb⟩
 replace M := adM hd10 hb M
 clear hb hd10
 (try go_wp2_with fail)
 refine hK.out _ _ ((J1 M).1.d2) (fun hH11 => ?_)
 clear hK K hH7
 (try simp only [Act.put, List.setIfInBounds_toArray, List.set_cons_zero, List.set_cons_succ])
 refine wpAnyH_ready (rs := [3]) (by kernel_rfl) (by simp) ?_
 refine AllReadyH.cons at3 (fun K hK => ?_) AllReadyH.nil
 go_simp
 refine (rcompare_k (G := G) (x := x) (y := (-9223372036854775808)) (k := k1) (H1.out.keep (J2 M)) (M.out.1) HX.out (Sz.mono (sz_i64 (by decide)) (by omega)) HK1.out).mono ?_
 rintro e w5 ⟨rfl, hb⟩
 replace M := gnM hb M
 clear hb
 (try go_wp2_with fail)
 refine hK.out _ _ ((J1 M).1.d2) (fun hH12 => ?_)
 clear hK K hH11
 (try simp only [Act.put, List.setIfInBounds_toArray, List.set_cons_zero, List.set_cons_succ])
 refine tk at4 ?_
 refine tk at5 ?_
 refine tk at6 ?_
 refine wpAnyH_ready (rs := [7]) (by kernel_rfl) (by simp) ?_
 refine AllReadyH.cons at7 (fun K hK => ?_) AllReadyH.nil
 go_simp
 refine (rof_ok (G := G) 9223372036854775807 _ (by decide)).mono ?_
 rintro e w6 ⟨a_13, c_14, rfl, hd15, hb⟩
 replace M := adM hd15 hb M
 clear hb hd15
 (try go_wp2_with fail)
 refine hK.out _ _ ((J2 M).1.d2) (fun hH16 => ?_)
 clear hK K hH12
 (try simp only [Act.put, List.setIfInBounds_toArray, List.set_cons_zero, List.set_cons_succ])
 refine wpAnyH_ready (rs := [8]) (by kernel_rfl) (by simp) ?_
 refine AllReadyH.cons at8 (fun K hK => ?_) AllReadyH.nil
 go_simp
 refine (rcompare_k (G := G) (x := x) (y := 9223372036854775807) (k := k2) (H1.out.keep (J3 M)) (M.out.1) HX.out (Sz.mono (sz_i64 (by decide)) (by omega)) HK2.out).mono ?_
 rintro e w7 ⟨rfl, hb⟩
 replace M := gnM hb M
 clear hb
 (try go_wp2_with fail)
 refine hK.out _ _ ((J2 M).1.d2) (fun hH17 => ?_)
 clear hK K hH16
 (try simp only [Act.put, List.setIfInBounds_toArray, List.set_cons_zero, List.set_cons_succ])
 refine tk at9 ?_
 refine tk at10 ?_
 refine wpAnyH_done (by kernel_rfl) ?_ _
 clear hH17
 go_wp2_with fail
 go_ret2
 exact ⟨rfl, (J3 M)⟩
set_option maxRecDepth 100000 in
set_option maxHeartbeats 4000000 in
theorem rInt_in {x : Int} {a1 : Option Addr} {c1 : Nat} {w : World} (h1 : BD G w a1 c1 x) (hx : Sz x 549755813888) (hr : -9223372036854775808 ≤ x ∧ x ≤ 9223372036854775807) :
    Calls Tryz.prog 16 #[.agg #[.int .i64 (sg x), .slice a1 (ln x) c1]] w fun e w' => e = .returned (.tuple #[.int .i64 x, .bool true]) ∧ Below w.heap.size w w' := by
  obtain ⟨k1, hk1⟩ : ∃ k, ord x (-9223372036854775808) = k := ⟨_, rfl⟩
  obtain ⟨k2, hk2⟩ : ∃ k, ord x 9223372036854775807 = k := ⟨_, rfl⟩
  have e1 : decide (k1 < 0) = false := by rw [← hk1]; unfold ord; rw [if_neg (by omega)]; split <;> rfl
  have e2 : decide (0 < k2) = false := by rw [← hk2]; unfold ord; split; rfl; rw [if_neg (by omega)]; rfl
  have HK1 := Lib.hid hk1; have HK2 := Lib.hid hk2; have HR := Lib.hid hr
  clear hk1 hk2 hr
  have HX := Lib.hid hx; clear hx
  have H1 : Hid (BD G w a1 c1 x) := h1
  clear h1
  have M : Hid (Below w.heap.size w w) := Below.refl _ _
  go_enter Tryz.func16, Tryz.ntmps16
  go_upto_region 1 with fail
  refine nmW (w.alloc (.cells #[.int .i64 (sg x), .slice a1 (ln x) c1] 24)) fun w1 hv => ?_
  rw [← hv]
  replace M := alM hv M
  clear hv
  refine cj2 (M.out.1).d2 fun aa ab => ?_
  go_wp2_with fail
  clear aa ab
  refine (rright_ok (G := G) (x := x) (H1.out.keep (J1 M)) (Sz.mono HX.out (by omega))).mono ?_
  rintro e w2 ⟨rfl, hb⟩
  replace M := gnM hb M
  clear hb
  go_wp2_with fail
  refine nmW w2.drew fun w3 hv => ?_
  replace M := drM hv M
  refine wp_region_held_drew (S := (fun w' => w'.cell? ⟨w.heap.size, 0, none⟩ = some (.int .i64 (sg x)) ∧ w'.cell? ⟨w.heap.size, 1, none⟩ = some (.slice a1 (ln x) c1))) (by kernel_rfl) (by rw [← hv]; exact (M.out.1).d2) (fun hH7 => ?_)
  rw [← hv] at hH7 ⊢
  clear hv
  refine tk at0 ?_
  refine tk at1 ?_
  refine wpAnyH_ready (rs := [2]) (by kernel_rfl) (by simp) ?_
  refine AllReadyH.cons at2 (fun K hK => ?_) AllReadyH.nil
  go_simp
  refine (rof_ok (G := G) (-9223372036854775808) _ (by decide)).mono ?_
  rintro e w4 ⟨a_8, c_9, rfl, hd10, hb⟩
  replace M := adM hd10 hb M
  clear hb hd10
  (try go_wp2_with fail)
  refine hK.out _ _ ((J1 M).1.d2) (fun hH11 => ?_)
  clear hK K hH7
  (try simp only [Act.put, List.setIfInBounds_toArray, List.set_cons_zero, List.set_cons_succ])
  refine wpAnyH_ready (rs := [3]) (by kernel_rfl) (by simp) ?_
  refine AllReadyH.cons at3 (fun K hK => ?_) AllReadyH.nil
  go_simp
  refine (rcompare_k (G := G) (x := x) (y := (-9223372036854775808)) (k := k1) (H1.out.keep (J2 M)) (M.out.1) HX.out (Sz.mono (sz_i64 (by decide)) (by omega)) HK1.out).mono ?_
  rintro e w5 ⟨rfl, hb⟩
  replace M := gnM hb M
  clear hb
  (try go_wp2_with fail)
  refine hK.out _ _ ((J1 M).1.d2) (fun hH12 => ?_)
  clear hK K hH11
  (try simp only [Act.put, List.setIfInBounds_toArray, List.set_cons_zero, List.set_cons_succ])
  refine tk at4 ?_
  refine tk at5 ?_
  refine tk at6 ?_
  refine wpAnyH_ready (rs := [7]) (by kernel_rfl) (by simp) ?_
  refine AllReadyH.cons at7 (fun K hK => ?_) AllReadyH.nil
  go_simp
  refine (rof_ok (G := G) 9223372036854775807 _ (by decide)).mono ?_
  rintro e w6 ⟨a_13, c_14, rfl, hd15, hb⟩
  replace M := adM hd15 hb M
  clear hb hd15
  (try go_wp2_with fail)
  refine hK.out _ _ ((J2 M).1.d2) (fun hH16 => ?_)
  clear hK K hH12
  (try simp only [Act.put, List.setIfInBounds_toArray, List.set_cons_zero, List.set_cons_succ])
  refine wpAnyH_ready (rs := [8]) (by kernel_rfl) (by simp) ?_
  refine AllReadyH.cons at8 (fun K hK => ?_) AllReadyH.nil
  go_simp
  refine (rcompare_k (G := G) (x := x) (y := 9223372036854775807) (k := k2) (H1.out.keep (J3 M)) (M.out.1) HX.out (Sz.mono (sz_i64 (by decide)) (by omega)) HK2.out).mono ?_
  rintro e w7 ⟨rfl, hb⟩
  replace M := gnM hb M
  clear hb
  (try go_wp2_with fail)
  refine hK.out _ _ ((J2 M).1.d2) (fun hH17 => ?_)
  clear hK K hH16
  (try simp only [Act.put, List.setIfInBounds_toArray, List.set_cons_zero, List.set_cons_succ])
  refine tk at9 ?_
  refine tk at10 ?_
  refine wpAnyH_done (by kernel_rfl) ?_ _
  clear hH17
  go_upto_region 6 with fail
  have K := Lib.hid (J2 M).1
  have HB := Lib.hid (J3 M)
  have HD := Lib.hid (H1.out.keep (J3 M))
  clear M
  have hlnx : ln x ≤ 549755813888 := HX.out
  obtain ⟨p0, q0, p1, q1⟩ := K.out.c2
  go_wp2_with fail
  clear p0 q0 p1 q1
  go_loopw [5, 6] (fun n i wr => ∃ (k : Nat), k ≤ (digs x.natAbs).length ∧ n = .int .i64 (sg x * (val ((digs x.natAbs).drop k) : Nat)) ∧ i = .int .i64 ((k : Int) - 1) ∧ Hid (Below w7.heap.size w7 wr)) (fun _ i _ => (RowKit.intOf i + 1).toNat)
  case atStart => exact ⟨(digs x.natAbs).length, Nat.le_refl _, by rw [List.drop_of_length_le (Nat.le_refl _)]; simp [val], rfl, Below.refl _ _⟩
  case round =>
    obtain ⟨k, hk, rfl, rfl, HBr⟩ := hrel
    have hlen : (digs x.natAbs).length ≤ 549755813888 := HX.out
    by_cases h0 : 0 < k
    · obtain ⟨m, rfl⟩ : ∃ m, k = m + 1 := ⟨k - 1, by omega⟩
      have em : (((m + 1 : Nat) : Int) - 1) = (m : Int) := by omega
      rw [em]; clear em
      have hm1 : m < (digs x.natAbs).length := by omega
      obtain ⟨b1, off1, rfl, hb1, hcell⟩ := (HD.out.keep HBr.out).rd.at hm1
      obtain ⟨d, hd⟩ : ∃ d, (digs x.natAbs)[m] = d := ⟨_, rfl⟩
      rw [hd] at hcell
      have hds : d < 1048576 := by rw [← hd]; exact small_get (digs_small _) m hm1
      obtain ⟨v, v2, s2, v', j1, j2, j3, j4, j5, i1, i2, i3, i4⟩ := int_step HR.out hm1 hd
      have HJ5 := Lib.hid j5
      rw [j1]
      clear j1 j5 hd
      have hml : m < ln x := hm1
      obtain ⟨p0, q0, p1, q1⟩ := (K.out.keep HBr.out).c2
      go_wp2_with fail
      go_quiet (fail)
      go_wp2_with fail
      go_roundw
      case rel => exact ⟨m, by omega, by rw [HJ5.out], rfl, below_drewN HBr.out _⟩
      case measure => simp [RowKit.intOf]
    · obtain rfl : k = 0 := by omega
      have em : ((0 : Nat) : Int) - 1 = -1 := rfl
      rw [em, int_whole]; clear em
      go_wp2_with fail
      go_ret2
      exact ⟨rfl, below_call HB.out HBr.out⟩
theorem rInt_ok {x : Int} {a1 : Option Addr} {c1 : Nat} {w : World} (h1 : BD G w a1 c1 x) (hx : Sz x 549755813888) :
    Calls Tryz.prog 16 #[.agg #[.int .i64 (sg x), .slice a1 (ln x) c1]] w fun e w' => e = .returned (intRes x) ∧ Below w.heap.size w w' := by
  by_cases hl : x < -9223372036854775808
  · rw [intRes_no (by omega)]; exact rInt_low h1 hx hl
  · by_cases hh : 9223372036854775807 < x
    · rw [intRes_no (by omega)]; exact rInt_high h1 hx hh
    · rw [intRes_yes (by omega)]; exact rInt_in h1 hx (by omega)
end Go.Proofs.YtlinegodpoihoaaGreatDoor
