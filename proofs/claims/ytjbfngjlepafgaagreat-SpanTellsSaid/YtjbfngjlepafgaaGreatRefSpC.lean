/- The reference's operations on spans. -/
import Derived.Test.YtjbfngjlepafgaaGreatBase
import Derived.Test.YtjbfngjlepafgaaGreatBigSpec
import Derived.Test.YtjbfngjlepafgaaGreatBigB
import Derived.Test.YtjbfngjlepafgaaGreatBigC
import Derived.Test.YtjbfngjlepafgaaGreatBigD
import Derived.Test.YtjbfngjlepafgaaGreatBigK
import Derived.Test.YtjbfngjlepafgaaGreatBigQ
import Derived.Test.YtjbfngjlepafgaaGreatFracA
import Derived.Test.YtjbfngjlepafgaaGreatFz
import Derived.Test.YtjbfngjlepafgaaGreatHeld
import Derived.Test.YtjbfngjlepafgaaGreatAw
import Derived.Test.YtjbfngjlepafgaaGreatFracD
import Derived.Test.YtjbfngjlepafgaaGreatRefO
import Derived.Test.YtjbfngjlepafgaaGreatFq
import Derived.Test.YtjbfngjlepafgaaGreatSpanPlain
import Derived.Test.YtjbfngjlepafgaaGreatRefY
import Derived.Test.YtjbfngjlepafgaaGreatOwn
import Derived.Test.YtjbfngjlepafgaaGreatRefSpA
import Derived.Test.YtjbfngjlepafgaaGreatRefSpB
import Derived.Test.YtjbfngjlepafgaaGreatProg
import Derived.Test.YtjbfngjlepafgaaGreatShelf
import Derived.WalkKit
import Derived.WalkSpells
import Derived.WalkLawsBesides
import Derived.Handy
import Derived.Lib.Hide
import Derived.Lib.Strings
import Derived.Lib.Builder
import Derived.BigQuiet
import Derived.OwnWalk
import Derived.Laws.BitsLemmas
import Derived.WalkSmall
import Derived.Deep.QuietTactic
import Derived.StillTailTactics
import Derived.Maps.AppendAt
import Derived.IntWalk
import Derived.Deep.RegionHeld3
import Derived.Deep.DeepFit
import Derived.Deep.LoopGhost
import Derived.Deep.DeepCutAuto
import Derived.Lib.ItoaNum
import Derived.Lib.Repeat
import Derived.Lib.AppendIntMem
import Derived.Sort.OwnSorted
import Derived.Shelf.Strings.SlTrimAscii
import Derived.Lib.ConvBytes
import Derived.Lib.CutLaws
namespace Go.Proofs.YtjbfngjlepafgaaGreat
open Go.RowKit Go.Lib
variable {G : Nat}

theorem op_size {k : Nat} {p q r s lo hi : Rat} {n m : Nat} (hp : Fz p n) (hq : Fz q n) (hr : Fz r m) (hs : Fz s m) (h : opS k ⟨p, q⟩ ⟨r, s⟩ = some ⟨lo, hi⟩) : Fz lo (n + m + 4) ∧ Fz hi (n + m + 4) := by
  match k, h with
  | 0, h => cases h; exact ⟨(hp.add hr).mono (by omega), (hq.add hs).mono (by omega)⟩
  | 1, h => cases h; exact ⟨(hp.add hs.neg).mono (by omega), (hq.add hr.neg).mono (by omega)⟩
  | 2, h =>
    cases h
    exact ⟨(Fz.min4 (hp.mul hr) (hp.mul hs) (hq.mul hr) (hq.mul hs)).mono (by omega), (Fz.max4 (hp.mul hr) (hp.mul hs) (hq.mul hr) (hq.mul hs)).mono (by omega)⟩
  | 3, h =>
    obtain ⟨h0, h⟩ := divS_some h
    cases h
    have h1 : Fz 1 1 := Fz.int (x := 1) (n := 1) (by unfold Sz; decide) (by omega)
    have hd : ∀ y, hasS ⟨r, s⟩ y → Fz y m → Fz (1 / y) (1 + m) := fun y hy hz => h1.div hz (has_ne h0 hy)
    by_cases hrs : r ≤ s
    · have e1 := hd r (has_lo (a := ⟨r, s⟩) hrs) hr
      have e2 := hd s (has_hi (a := ⟨r, s⟩) hrs) hs
      exact ⟨(Fz.min4 (hp.mul e2) (hp.mul e1) (hq.mul e2) (hq.mul e1)).mono (by omega), (Fz.max4 (hp.mul e2) (hp.mul e1) (hq.mul e2) (hq.mul e1)).mono (by omega)⟩
    · have hr0 : r ≠ 0 ∨ r = 0 := by grind
      have hz : ∀ y : Rat, Fz y m → Fz (1 / y) (1 + m) := by
        intro y hy
        by_cases h2 : y = 0
        · subst h2
          rw [show (1 : Rat) / 0 = 0 by rw [Rat.div_def, Rat.inv_zero, Rat.mul_zero]]
          exact fz_zero (by omega)
        · exact h1.div hy h2
      exact ⟨(Fz.min4 (hp.mul (hz s hs)) (hp.mul (hz r hr)) (hq.mul (hz s hs)) (hq.mul (hz r hr))).mono (by omega), (Fz.max4 (hp.mul (hz s hs)) (hp.mul (hz r hr)) (hq.mul (hz s hs)) (hq.mul (hz r hr))).mono (by omega)⟩
  | 4, h => cases h; exact ⟨(Fz.minQ (hp.mono (by omega)) (hr.mono (by omega))), (Fz.minQ (hq.mono (by omega)) (hs.mono (by omega)))⟩
  | _ + 5, h => cases h; exact ⟨(Fz.maxQ (hp.mono (by omega)) (hr.mono (by omega))), (Fz.maxQ (hq.mono (by omega)) (hs.mono (by omega)))⟩
def fewF (n m : Nat) : Bool := decide ((n : Int) ≤ 4) && decide ((m : Int) ≤ 4)
theorem few_le {n m : Nat} (h : fewF n m = true) : n ≤ 4 ∧ m ≤ 4 := by simp [fewF] at h; omega
def rightX : Option Rat → Option Rat → Bool | some p, some q => decide (p ≤ q) | _, _ => false
def hasX : Option Rat → Option Rat → Option Rat → Bool | some p, some q, some x => decide (p ≤ q) && (decide (p ≤ x) && decide (x ≤ q)) | _, _, _ => false
def insX : Option Rat → Option Rat → Option Rat → Option Rat → Bool | some p, some q, some r, some s => (decide (p ≤ q) && decide (r ≤ s)) && (decide (r ≤ p) && decide (q ≤ s)) | _, _, _, _ => false
theorem right_some {o1 o2 : Option Rat} (h : rightX o1 o2 = true) : ∃ p q, o1 = some p ∧ o2 = some q ∧ p ≤ q := by
 cases o1 <;> cases o2 <;> simp_all [rightX]
set_option maxRecDepth 100000 in
set_option maxHeartbeats 4000000 in
theorem spSame_o {u0 u1 u2 u3 u4 u5 u6 u7 v0 v1 v2 v3 v4 v5 v6 v7 : Value} {o1 o2 o3 o4 : Option Rat} {b_ : Bool} {w : World} (h1 : OQ G w u0 u1 u2 u3 o1) (h2 : OQ G w u4 u5 u6 u7 o2) (h3 : OQ G w v0 v1 v2 v3 o3) (h4 : OQ G w v4 v5 v6 v7 o4) (hz1 : Oz o1 1099511627776) (hz2 : Oz o2 1099511627776) (hz3 : Oz o3 1099511627776) (hz4 : Oz o4 1099511627776) (hb : (decide (o1 = o3) && decide (o2 = o4)) = b_) :
  Calls Tryz.prog 9 #[.agg #[u0, u1, u2, u3, u4, u5, u6, u7], .agg #[v0, v1, v2, v3, v4, v5, v6, v7]] w fun e w' => e = .returned (.bool b_) ∧ Below w.heap.size w w' := by
 have HZ1 := Lib.hid hz1; have HZ2 := Lib.hid hz2; have HZ3 := Lib.hid hz3; have HZ4 := Lib.hid hz4; clear hz1 hz2 hz3 hz4
 obtain ⟨b1, hb1⟩ : ∃ b, decide (o1 = o3) = b := ⟨_, rfl⟩
 obtain ⟨b2, hb2⟩ : ∃ b, decide (o2 = o4) = b := ⟨_, rfl⟩
 rw [hb1, hb2] at hb; subst hb
 have HB1 := Lib.hid hb1; have HB2 := Lib.hid hb2; clear hb1 hb2
 have H1 : Hid (OQ G w u0 u1 u2 u3 o1) := h1
 have H2 : Hid (OQ G w u4 u5 u6 u7 o2) := h2
 have H3 : Hid (OQ G w v0 v1 v2 v3 o3) := h3
 have H4 : Hid (OQ G w v4 v5 v6 v7 o4) := h4
 clear h1 h2 h3 h4
 have M : Hid (Below w.heap.size w w) := Below.refl _ _
 go_enter Tryz.func9, Tryz.ntmps9
 go_upto_region 1 with fail
 refine nmW ((w.alloc (.cells #[u0, u1, u2, u3, u4, u5, u6, u7] 28)).alloc (.cells #[v0, v1, v2, v3, v4, v5, v6, v7] 28)) fun w1 hv => ?_
 rw [← hv]
 replace M := al2W hv M
 clear hv
 refine cj8 (J1 M).1.d8 fun aa ab ac ad ae af ag ah => ?_
 refine cj8 (M.out.1).d8 fun ai aj ak al am ao ap aq => ?_
 go_wp2_with fail
 clear aa ab ac ad ae af ag ah ai aj ak al am ao ap aq
 refine (rfsame_o (G := G) (o := o1) (p := o3) (b_ := b1) (H1.out.keep (J2 M)) (H3.out.keep (J2 M)) (Oz.mono HZ1.out (by omega)) (Oz.mono HZ3.out (by omega)) HB1.out).mono ?_
 rintro e w2 ⟨rfl, hb⟩
 replace M := gnM hb M
 clear hb
 cases b1 with
 | false =>
  go_wp2_with fail
  go_ret
  exact ⟨rfl, (J2 M)⟩
 | true =>
  refine cj8 (J1 M).1.d8 fun aa ab ac ad ae af ag ah => ?_
  refine cj8 (M.out.1).d8 fun ai aj ak al am ao ap aq => ?_
  go_wp2_with fail
  clear aa ab ac ad ae af ag ah ai aj ak al am ao ap aq
  refine (rfsame_o (G := G) (o := o2) (p := o4) (b_ := b2) (H2.out.keep (J2 M)) (H4.out.keep (J2 M)) (Oz.mono HZ2.out (by omega)) (Oz.mono HZ4.out (by omega)) HB2.out).mono ?_
  rintro e w3 ⟨rfl, hb⟩
  replace M := gnM hb M
  clear hb
  go_wp2_with fail
  go_ret
  exact ⟨rfl, (J2 M)⟩
theorem spSame_q {u0 u1 u2 u3 u4 u5 u6 u7 v0 v1 v2 v3 v4 v5 v6 v7 : Value} {p q r s : Rat} {w : World} (h1 : FQ G w u0 u1 u2 u3 p) (h2 : FQ G w u4 u5 u6 u7 q) (h3 : FQ G w v0 v1 v2 v3 r) (h4 : FQ G w v4 v5 v6 v7 s) (hp : Fz p 1099511627776) (hq : Fz q 1099511627776) (e1 : p = r) (e2 : q = s) :
  Calls Tryz.prog 9 #[.agg #[u0, u1, u2, u3, u4, u5, u6, u7], .agg #[v0, v1, v2, v3, v4, v5, v6, v7]] w fun e w' => e = .returned (.bool true) ∧ Below w.heap.size w w' := by
 subst e1 e2
 exact spSame_o (o1 := some p) (o2 := some q) (o3 := some p) (o4 := some q) h1 h2 h3 h4 hp hq hp hq (by simp)
set_option maxRecDepth 100000 in
set_option maxHeartbeats 4000000 in
theorem spOf_q {x y : Int} {w : World} (_hG : G ≤ w.heap.size) (hx : (-9223372036854775808 ≤ x ∧ x ≤ 9223372036854775807)) (hy : (-9223372036854775808 ≤ y ∧ y ≤ 9223372036854775807)) :
  Calls Tryz.prog 29 #[.int .i64 x, .int .i64 y] w fun e w' => ∃ x0 x1 x2 x3 x4 x5 x6 x7, e = .returned (.agg #[x0, x1, x2, x3, x4, x5, x6, x7]) ∧ FQ G w' x0 x1 x2 x3 (x : Rat) ∧ FQ G w' x4 x5 x6 x7 (y : Rat) ∧ Below w.heap.size w w' := by
 have HX := Lib.hid hx; have HY := Lib.hid hy; clear hx hy
 have M : Hid (Below w.heap.size w w) := Below.refl _ _
 go_enter Tryz.func29, Tryz.ntmps29
 go_upto_region 1 with fail
 refine nmW (w.alloc (.cells #[.int .i64 0, .slice none 0 0, .int .i64 0, .slice none 0 0, .int .i64 0, .slice none 0 0, .int .i64 0, .slice none 0 0] 28)) fun w1 hv => ?_
 rw [← hv]
 replace M := alM hv M
 clear hv
 go_wp2_with fail
 refine nmW (α := Rat) (x : Rat) fun q5 eq5 => ?_
 refine (rqInt (G := G) (x := x) HX.out).mono ?_
 rintro e w2 ⟨x_1, x_2, x_3, x_4, rfl, hd6, hb⟩
 rw [← eq5] at hd6
 have Sq5 : Hid (Fz q5 4) := by show Fz q5 4; rw [eq5]; exact (Fz.int64 HX.out)
 have Eq5 := Lib.hid eq5; clear eq5
 replace M := adM hd6 hb M
 clear hb hd6
 go_wp2_with fail
 refine nmW (α := Rat) (y : Rat) fun q11 eq11 => ?_
 refine (rqInt (G := G) (x := y) HY.out).mono ?_
 rintro e w3 ⟨x_7, x_8, x_9, x_10, rfl, hd12, hb⟩
 rw [← eq11] at hd12
 have Sq11 : Hid (Fz q11 4) := by show Fz q11 4; rw [eq11]; exact (Fz.int64 HY.out)
 have Eq11 := Lib.hid eq11; clear eq11
 replace M := adM hd12 hb M
 clear hb hd12
 refine cj16 (J2 M).1.c8 fun aa ab ac ad ae af ag ah ai aj ak al am ao ap aq => ?_
 refine cj4 (TQ.st (J1 M).1) fun ar au av aw => ?_
 refine cj4 (TQ.st (M.out.1)) fun ax ay az ba => ?_
 go_wp2_with fail
 clear aa ab ac ad ae af ag ah ai aj ak al am ao ap aq ar au av aw ax ay az ba
 have hz : w.heap.size ≤ w.heap.size := by exact Nat.le_refl _
 refine st8W (x_1) (x_2) (x_3) (x_4) (x_7) (x_8) (x_9) (x_10) (J2 M).1 (J3 M) hz fun w4 hv og hk hbw => ?_
 rw [← hv]
 replace M := Lib.hid (aI ((M.out.1).far (J2 M).1 (by rfl) (by omega) og) (aI ((J1 M).1.far (J2 M).1 (by rfl) (by omega) og) (aI hk hbw)))
 clear hk hbw og hv hz
 refine bodyPost_ret (results_box1 rfl _ _ w.heap.size 28 _ _ _ rfl (J2 M).1 Tryz.underlying28 rfl (by kernel_rfl)) rfl ?_
 exact ⟨x_1, x_2, x_3, x_4, x_7, x_8, x_9, x_10, rfl, (by have h_ := (J1 M).1; rw [Eq5.out] at h_; exact h_), (by have h_ := (M.out.1); rw [Eq11.out] at h_; exact h_), (J3 M)⟩
set_option maxRecDepth 100000 in
set_option maxHeartbeats 4000000 in
theorem spIs_q {u0 u1 u2 u3 u4 u5 u6 u7 : Value} {p q : Rat} {x y : Int} {w : World} (hG : G ≤ w.heap.size) (h1 : FQ G w u0 u1 u2 u3 p) (h2 : FQ G w u4 u5 u6 u7 q) (hp : Fz p 137438953472) (hq : Fz q 137438953472) (hx : (-9223372036854775808 ≤ x ∧ x ≤ 9223372036854775807)) (hy : (-9223372036854775808 ≤ y ∧ y ≤ 9223372036854775807)) (e1 : p = (x : Rat)) (e2 : q = (y : Rat)) :
  Calls Tryz.prog 36 #[.agg #[u0, u1, u2, u3, u4, u5, u6, u7], .int .i64 x, .int .i64 y] w fun e w' => e = .returned (.bool true) ∧ Below w.heap.size w w' := by
 have HP := Lib.hid hp; have HQ := Lib.hid hq; have HX := Lib.hid hx; have HY := Lib.hid hy; have HPE := Lib.hid e1; have HQE := Lib.hid e2; clear hp hq hx hy e1 e2
 have H1 : Hid (FQ G w u0 u1 u2 u3 p) := h1
 have H2 : Hid (FQ G w u4 u5 u6 u7 q) := h2
 clear h1 h2
 have M : Hid (Below w.heap.size w w) := Below.refl _ _
 go_enter Tryz.func36, Tryz.ntmps36
 go_wp2_with fail
 refine nmW (w.alloc (.cells #[u0, u1, u2, u3, u4, u5, u6, u7] 28)) fun w1 hv => ?_
 rw [← hv]
 replace M := alM hv M
 clear hv
 refine nmW w1.drew fun w2 hv => ?_
 replace M := drM hv M
 refine wp_region_held_drew (S := (fun w' => w'.cell? ⟨w.heap.size, 0, none⟩ = some (u0) ∧ w'.cell? ⟨w.heap.size, 1, none⟩ = some (u1) ∧ w'.cell? ⟨w.heap.size, 2, none⟩ = some (u2) ∧ w'.cell? ⟨w.heap.size, 3, none⟩ = some (u3) ∧ w'.cell? ⟨w.heap.size, 4, none⟩ = some (u4) ∧ w'.cell? ⟨w.heap.size, 5, none⟩ = some (u5) ∧ w'.cell? ⟨w.heap.size, 6, none⟩ = some (u6) ∧ w'.cell? ⟨w.heap.size, 7, none⟩ = some (u7))) (by kernel_rfl) (by rw [← hv]; exact (M.out.1).d8) (fun hH13 => ?_)
 rw [← hv] at hH13 ⊢
 clear hv
 refine tk at0 ?_
 refine tk at1 ?_
 refine tk at2 ?_
 refine wpAnyH_ready (rs := [3]) (by kernel_rfl) (by simp) ?_
 refine AllReadyH.cons at3 (fun K hK => ?_) AllReadyH.nil
 go_simp
 refine nmW (α := Rat) (x : Rat) fun q22 eq22 => ?_
 refine nmW (α := Rat) (y : Rat) fun q23 eq23 => ?_
 refine (spOf_q (G := G) (x := x) (y := y) (Nat.le_trans hG (J1 M).size) HX.out HY.out).mono ?_
 rintro e w3 ⟨x_14, x_15, x_16, x_17, x_18, x_19, x_20, x_21, rfl, hd24, hd25, hb⟩
 rw [← eq22] at hd24
 have Sq22 : Hid (Fz q22 4) := by show Fz q22 4; rw [eq22]; exact (Fz.int64 HX.out)
 have Eq22 := Lib.hid eq22; clear eq22
 rw [← eq23] at hd25
 have Sq23 : Hid (Fz q23 4) := by show Fz q23 4; rw [eq23]; exact (Fz.int64 HY.out)
 have Eq23 := Lib.hid eq23; clear eq23
 replace M := ad2M hd24 hd25 hb M
 clear hb hd24 hd25
 (try go_wp2_with fail)
 refine hK.out _ _ ((J2 M).1.d8) (fun hH26 => ?_)
 clear hK K hH13
 (try simp only [Act.put, List.setIfInBounds_toArray, List.set_cons_zero, List.set_cons_succ])
 refine wpAnyH_ready (rs := [4]) (by kernel_rfl) (by simp) ?_
 refine AllReadyH.cons at4 (fun K hK => ?_) AllReadyH.nil
 go_simp
 refine (spSame_q (G := G) (p := p) (q := q) (r := q22) (s := q23) (H1.out.keep (J3 M)) (H2.out.keep (J3 M)) (M.out.1) (J1 M).1 (Fz.mono HP.out (by omega)) (Fz.mono HQ.out (by omega)) (Eq22.out.trans HPE.out.symm).symm (Eq23.out.trans HQE.out.symm).symm).mono ?_
 rintro e w4 ⟨rfl, hb⟩
 replace M := gnM hb M
 clear hb
 (try go_wp2_with fail)
 refine hK.out _ _ ((J2 M).1.d8) (fun hH27 => ?_)
 clear hK K hH26
 (try simp only [Act.put, List.setIfInBounds_toArray, List.set_cons_zero, List.set_cons_succ])
 refine tk at5 ?_
 refine wpAnyH_done (by kernel_rfl) ?_ _
 clear hH27
 go_wp2_with fail
 go_ret
 exact ⟨rfl, (J3 M)⟩
set_option maxRecDepth 100000 in
set_option maxHeartbeats 4000000 in
theorem rFew_x {u0 u1 u2 u3 u4 u5 u6 u7 : Value} {n1 m1 n2 m2 : Nat} {o1 o2 : Option Rat} {f1 f2 b_ : Bool} {w : World} (h1 : FX w u0 u1 u2 u3 n1 m1 o1) (h2 : FX w u4 u5 u6 u7 n2 m2 o2) (hf1 : fewF n1 m1 = f1) (hf2 : fewF n2 m2 = f2) (hb : (f1 && f2) = b_) :
  Calls Tryz.prog 38 #[.agg #[u0, u1, u2, u3, u4, u5, u6, u7], .int .i64 4] w fun e w' => e = .returned (.bool b_) ∧ Below w.heap.size w w' := by
 have HF1 := Lib.hid hf1; have HF2 := Lib.hid hf2; clear hf1 hf2; subst hb
 have H1 : Hid (FX w u0 u1 u2 u3 n1 m1 o1) := h1
 have H2 : Hid (FX w u4 u5 u6 u7 n2 m2 o2) := h2
 clear h1 h2
 have M : Hid (Below w.heap.size w w) := Below.refl _ _
 go_enter Tryz.func38, Tryz.ntmps38
 go_upto_region 1 with fail
 refine nmW (w.alloc (.cells #[u0, u1, u2, u3, u4, u5, u6, u7] 28)) fun w1 hv => ?_
 rw [← hv]
 replace M := alM hv M
 clear hv
 refine cj8 (M.out.1).d8 fun aa ab ac ad ae af ag ah => ?_
 go_wp2_with fail
 clear aa ab ac ad ae af ag ah
 refine (fxFew_ok (o := o1) (k := 4) (r := f1) (H1.out.keep (J1 M)) HF1.out).mono ?_
 rintro e w2 ⟨rfl, hb⟩
 replace M := gnM hb M
 clear hb
 cases f1 with
 | false =>
  go_wp2_with fail
  go_ret
  exact ⟨rfl, (J1 M)⟩
 | true =>
  refine cj8 (M.out.1).d8 fun aa ab ac ad ae af ag ah => ?_
  go_wp2_with fail
  clear aa ab ac ad ae af ag ah
  refine (fxFew_ok (o := o2) (k := 4) (r := f2) (H2.out.keep (J1 M)) HF2.out).mono ?_
  rintro e w3 ⟨rfl, hb⟩
  replace M := gnM hb M
  clear hb
  go_wp2_with fail
  go_ret
  exact ⟨rfl, (J1 M)⟩
set_option maxRecDepth 100000 in
set_option maxHeartbeats 4000000 in
theorem few_x {u0 u1 u2 u3 u4 u5 u6 u7 v0 v1 v2 v3 v4 v5 v6 v7 : Value} {n1 m1 n2 m2 n3 m3 n4 m4 : Nat} {o1 o2 o3 o4 : Option Rat} {f1 f2 f3 f4 fa fb b_ : Bool} {w : World} (h1 : FX w u0 u1 u2 u3 n1 m1 o1) (h2 : FX w u4 u5 u6 u7 n2 m2 o2) (h3 : FX w v0 v1 v2 v3 n3 m3 o3) (h4 : FX w v4 v5 v6 v7 n4 m4 o4) (hf1 : fewF n1 m1 = f1) (hf2 : fewF n2 m2 = f2) (hf3 : fewF n3 m3 = f3) (hf4 : fewF n4 m4 = f4) (ha : (f1 && f2) = fa) (hb : (f3 && f4) = fb) (hc : (fa && fb) = b_) :
  Calls Tryz.prog 5 #[.agg #[u0, u1, u2, u3, u4, u5, u6, u7], .agg #[v0, v1, v2, v3, v4, v5, v6, v7]] w fun e w' => e = .returned (.bool b_) ∧ Below w.heap.size w w' := by
 have HF1 := Lib.hid hf1; have HF2 := Lib.hid hf2; have HF3 := Lib.hid hf3; have HF4 := Lib.hid hf4; have HA := Lib.hid ha; have HB := Lib.hid hb; clear hf1 hf2 hf3 hf4 ha hb; subst hc
 have H1 : Hid (FX w u0 u1 u2 u3 n1 m1 o1) := h1
 have H2 : Hid (FX w u4 u5 u6 u7 n2 m2 o2) := h2
 have H3 : Hid (FX w v0 v1 v2 v3 n3 m3 o3) := h3
 have H4 : Hid (FX w v4 v5 v6 v7 n4 m4 o4) := h4
 clear h1 h2 h3 h4
 have M : Hid (Below w.heap.size w w) := Below.refl _ _
 go_enter Tryz.func5, Tryz.ntmps5
 go_upto_region 1 with fail
 refine nmW ((w.alloc (.cells #[u0, u1, u2, u3, u4, u5, u6, u7] 28)).alloc (.cells #[v0, v1, v2, v3, v4, v5, v6, v7] 28)) fun w1 hv => ?_
 rw [← hv]
 replace M := al2W hv M
 clear hv
 refine cj8 (J1 M).1.d8 fun aa ab ac ad ae af ag ah => ?_
 go_wp2_with fail
 clear aa ab ac ad ae af ag ah
 refine (rFew_x (o1 := o1) (o2 := o2) (f1 := f1) (f2 := f2) (b_ := fa) (H1.out.keep (J2 M)) (H2.out.keep (J2 M)) HF1.out HF2.out HA.out).mono ?_
 rintro e w2 ⟨rfl, hb⟩
 replace M := gnM hb M
 clear hb
 cases fa with
 | false =>
  go_wp2_with fail
  go_ret
  exact ⟨rfl, (J2 M)⟩
 | true =>
  refine cj8 (M.out.1).d8 fun ai aj ak al am ao ap aq => ?_
  go_wp2_with fail
  clear ai aj ak al am ao ap aq
  refine (rFew_x (o1 := o3) (o2 := o4) (f1 := f3) (f2 := f4) (b_ := fb) (H3.out.keep (J2 M)) (H4.out.keep (J2 M)) HF3.out HF4.out HB.out).mono ?_
  rintro e w3 ⟨rfl, hb⟩
  replace M := gnM hb M
  clear hb
  go_wp2_with fail
  go_ret
  exact ⟨rfl, (J2 M)⟩
set_option maxRecDepth 100000 in
set_option maxHeartbeats 4000000 in
theorem rightx_1 {u0 u1 u2 u3 u4 u5 u6 u7 : Value} {n1 m1 n2 m2 : Nat} {o1 o2 : Option Rat} {w : World} (h1 : FX w u0 u1 u2 u3 n1 m1 o1) (h2 : FX w u4 u5 u6 u7 n2 m2 o2) (hz1 : fewF n1 m1 = true) (ho : o1.isSome = false) :
  Calls Tryz.prog 14 #[.agg #[u0, u1, u2, u3, u4, u5, u6, u7]] w fun e w' => e = .returned (.bool false) ∧ Below w.heap.size w w' := by
 have hz := few_le hz1; have HO := Lib.hid ho; clear ho hz1
 have H1 : Hid (FX w u0 u1 u2 u3 n1 m1 o1) := h1
 have H2 : Hid (FX w u4 u5 u6 u7 n2 m2 o2) := h2
 clear h1 h2
 have M : Hid (Below w.heap.size w w) := Below.refl _ _
 go_enter Tryz.func14, Tryz.ntmps14
 go_upto_region 1 with fail
 refine nmW (w.alloc (.cells #[u0, u1, u2, u3, u4, u5, u6, u7] 28)) fun w1 hv => ?_
 rw [← hv]
 replace M := alM hv M
 clear hv
 refine cj8 (M.out.1).d8 fun aa ab ac ad ae af ag ah => ?_
 go_wp2_with fail
 clear aa ab ac ad ae af ag ah
 refine (fxRight_ok (o := o1) (b_ := false) (H1.out.keep (J1 M)) (by omega) (by omega) HO.out).mono ?_
 rintro e w2 ⟨rfl, hb⟩
 replace M := gnM hb M
 clear hb
 go_wp2_with fail
 go_ret
 exact ⟨rfl, (J1 M)⟩
set_option maxRecDepth 100000 in
set_option maxHeartbeats 4000000 in
theorem rightx_2 {u0 u1 u2 u3 u4 u5 u6 u7 : Value} {n1 m1 n2 m2 : Nat} {o1 o2 : Option Rat} {w : World} (h1 : FX w u0 u1 u2 u3 n1 m1 o1) (h2 : FX w u4 u5 u6 u7 n2 m2 o2) (hz1 : fewF n1 m1 = true) (hz2 : fewF n2 m2 = true) (ho : o1.isSome = true) (ho2 : o2.isSome = false) :
  Calls Tryz.prog 14 #[.agg #[u0, u1, u2, u3, u4, u5, u6, u7]] w fun e w' => e = .returned (.bool false) ∧ Below w.heap.size w w' := by
 have hz := few_le hz1; have hz3 := few_le hz2; have HO := Lib.hid ho; have HO2 := Lib.hid ho2; clear ho ho2 hz1 hz2
 have H1 : Hid (FX w u0 u1 u2 u3 n1 m1 o1) := h1
 have H2 : Hid (FX w u4 u5 u6 u7 n2 m2 o2) := h2
 clear h1 h2
 have M : Hid (Below w.heap.size w w) := Below.refl _ _
 go_enter Tryz.func14, Tryz.ntmps14
 go_upto_region 1 with fail
 refine nmW (w.alloc (.cells #[u0, u1, u2, u3, u4, u5, u6, u7] 28)) fun w1 hv => ?_
 rw [← hv]
 replace M := alM hv M
 clear hv
 refine cj8 (M.out.1).d8 fun aa ab ac ad ae af ag ah => ?_
 go_wp2_with fail
 clear aa ab ac ad ae af ag ah
 refine (fxRight_ok (o := o1) (b_ := true) (H1.out.keep (J1 M)) (by omega) (by omega) HO.out).mono ?_
 rintro e w2 ⟨rfl, hb⟩
 replace M := gnM hb M
 clear hb
 refine cj8 (M.out.1).d8 fun aa ab ac ad ae af ag ah => ?_
 go_wp2_with fail
 clear aa ab ac ad ae af ag ah
 refine (fxRight_ok (o := o2) (b_ := false) (H2.out.keep (J1 M)) (by omega) (by omega) HO2.out).mono ?_
 rintro e w3 ⟨rfl, hb⟩
 replace M := gnM hb M
 clear hb
 go_wp2_with fail
 go_ret
 exact ⟨rfl, (J1 M)⟩
theorem spRight_x {u0 u1 u2 u3 u4 u5 u6 u7 : Value} {n1 m1 n2 m2 : Nat} {o1 o2 : Option Rat} {b_ : Bool} {w : World} (h1 : FX w u0 u1 u2 u3 n1 m1 o1) (h2 : FX w u4 u5 u6 u7 n2 m2 o2) (hz1 : fewF n1 m1 = true) (hz2 : fewF n2 m2 = true) (hb : rightX o1 o2 = b_) :
  Calls Tryz.prog 14 #[.agg #[u0, u1, u2, u3, u4, u5, u6, u7]] w fun e w' => e = .returned (.bool b_) ∧ Below w.heap.size w w' := by
 have k1 := few_le hz1
 have k2 := few_le hz2
 subst hb
 cases o1 with
 | none => exact rightx_1 h1 h2 hz1 rfl
 | some p =>
  cases o2 with
  | none => exact rightx_2 h1 h2 hz1 hz2 rfl rfl
  | some q => exact spRight_q h1.fq h2.fq (h1.fz (by omega) (by omega)) (h2.fz (by omega) (by omega)) rfl
set_option maxRecDepth 100000 in
set_option maxHeartbeats 4000000 in
theorem hasx_1 {u0 u1 u2 u3 u4 u5 u6 u7 v0 v1 v2 v3 : Value} {n1 m1 n2 m2 n3 m3 : Nat} {o1 o2 o3 : Option Rat} {w : World} (h1 : FX w u0 u1 u2 u3 n1 m1 o1) (h2 : FX w u4 u5 u6 u7 n2 m2 o2) (h3 : FX w v0 v1 v2 v3 n3 m3 o3) (hz1 : fewF n1 m1 = true) (hz2 : fewF n2 m2 = true) (hz3 : fewF n3 m3 = true) (hr : rightX o1 o2 = false) :
  Calls Tryz.prog 19 #[.agg #[u0, u1, u2, u3, u4, u5, u6, u7], .agg #[v0, v1, v2, v3]] w fun e w' => e = .returned (.bool false) ∧ Below w.heap.size w w' := by
 have HZ1 := Lib.hid hz1
 have HZ2 := Lib.hid hz2
 have HZ3 := Lib.hid hz3
 have k1 := few_le hz1
 have k2 := few_le hz2
 have k3 := few_le hz3
 clear hz1 hz2 hz3
 have HR := Lib.hid hr; clear hr
 have H1 : Hid (FX w u0 u1 u2 u3 n1 m1 o1) := h1
 have H2 : Hid (FX w u4 u5 u6 u7 n2 m2 o2) := h2
 have H3 : Hid (FX w v0 v1 v2 v3 n3 m3 o3) := h3
 clear h1 h2 h3
 have M : Hid (Below w.heap.size w w) := Below.refl _ _
 go_enter Tryz.func19, Tryz.ntmps19
 go_upto_region 1 with fail
 refine nmW ((w.alloc (.cells #[u0, u1, u2, u3, u4, u5, u6, u7] 28)).alloc (.cells #[v0, v1, v2, v3] 26)) fun w1 hv => ?_
 rw [← hv]
 replace M := al2W hv M
 clear hv
 refine cj8 (J1 M).1.d8 fun aa ab ac ad ae af ag ah => ?_
 go_wp2_with fail
 clear aa ab ac ad ae af ag ah
 refine (spRight_x (o1 := o1) (o2 := o2) (b_ := false) (H1.out.keep (J2 M)) (H2.out.keep (J2 M)) HZ1.out HZ2.out HR.out).mono ?_
 rintro e w2 ⟨rfl, hb⟩
 replace M := gnM hb M
 clear hb
 go_wp2_with fail
 go_ret
 exact ⟨rfl, (J2 M)⟩
set_option maxRecDepth 100000 in
set_option maxHeartbeats 4000000 in
theorem hasx_2 {u0 u1 u2 u3 u4 u5 u6 u7 v0 v1 v2 v3 : Value} {n1 m1 n2 m2 n3 m3 : Nat} {o1 o2 o3 : Option Rat} {w : World} (h1 : FX w u0 u1 u2 u3 n1 m1 o1) (h2 : FX w u4 u5 u6 u7 n2 m2 o2) (h3 : FX w v0 v1 v2 v3 n3 m3 o3) (hz1 : fewF n1 m1 = true) (hz2 : fewF n2 m2 = true) (hz3 : fewF n3 m3 = true) (hr : rightX o1 o2 = true) (ho : o3.isSome = false) :
  Calls Tryz.prog 19 #[.agg #[u0, u1, u2, u3, u4, u5, u6, u7], .agg #[v0, v1, v2, v3]] w fun e w' => e = .returned (.bool false) ∧ Below w.heap.size w w' := by
 have HZ1 := Lib.hid hz1
 have HZ2 := Lib.hid hz2
 have HZ3 := Lib.hid hz3
 have k1 := few_le hz1
 have k2 := few_le hz2
 have k3 := few_le hz3
 clear hz1 hz2 hz3
 have HR := Lib.hid hr; have HO := Lib.hid ho; clear hr ho
 have H1 : Hid (FX w u0 u1 u2 u3 n1 m1 o1) := h1
 have H2 : Hid (FX w u4 u5 u6 u7 n2 m2 o2) := h2
 have H3 : Hid (FX w v0 v1 v2 v3 n3 m3 o3) := h3
 clear h1 h2 h3
 have M : Hid (Below w.heap.size w w) := Below.refl _ _
 go_enter Tryz.func19, Tryz.ntmps19
 go_upto_region 1 with fail
 refine nmW ((w.alloc (.cells #[u0, u1, u2, u3, u4, u5, u6, u7] 28)).alloc (.cells #[v0, v1, v2, v3] 26)) fun w1 hv => ?_
 rw [← hv]
 replace M := al2W hv M
 clear hv
 refine cj8 (J1 M).1.d8 fun aa ab ac ad ae af ag ah => ?_
 go_wp2_with fail
 clear aa ab ac ad ae af ag ah
 refine (spRight_x (o1 := o1) (o2 := o2) (b_ := true) (H1.out.keep (J2 M)) (H2.out.keep (J2 M)) HZ1.out HZ2.out HR.out).mono ?_
 rintro e w2 ⟨rfl, hb⟩
 replace M := gnM hb M
 clear hb
 refine cj4 (M.out.1).d4 fun ai aj ak al => ?_
 go_wp2_with fail
 clear ai aj ak al
 refine (fxRight_ok (o := o3) (b_ := false) (H3.out.keep (J2 M)) (by omega) (by omega) HO.out).mono ?_
 rintro e w3 ⟨rfl, hb⟩
 replace M := gnM hb M
 clear hb
 go_wp2_with fail
 go_ret
 exact ⟨rfl, (J2 M)⟩
theorem spHas_x {u0 u1 u2 u3 u4 u5 u6 u7 v0 v1 v2 v3 : Value} {n1 m1 n2 m2 n3 m3 : Nat} {o1 o2 o3 : Option Rat} {b_ : Bool} {w : World} (h1 : FX w u0 u1 u2 u3 n1 m1 o1) (h2 : FX w u4 u5 u6 u7 n2 m2 o2) (h3 : FX w v0 v1 v2 v3 n3 m3 o3) (hz1 : fewF n1 m1 = true) (hz2 : fewF n2 m2 = true) (hz3 : fewF n3 m3 = true) (hb : hasX o1 o2 o3 = b_) :
  Calls Tryz.prog 19 #[.agg #[u0, u1, u2, u3, u4, u5, u6, u7], .agg #[v0, v1, v2, v3]] w fun e w' => e = .returned (.bool b_) ∧ Below w.heap.size w w' := by
 have k1 := few_le hz1
 have k2 := few_le hz2
 have k3 := few_le hz3
 subst hb
 cases hr : rightX o1 o2 with
 | false =>
  rw [show hasX o1 o2 o3 = false by cases o1 <;> cases o2 <;> cases o3 <;> simp_all [hasX, rightX]]
  exact hasx_1 h1 h2 h3 hz1 hz2 hz3 hr
 | true =>
  cases o3 with
  | none =>
   rw [show hasX o1 o2 none = false by cases o1 <;> cases o2 <;> rfl]
   exact hasx_2 h1 h2 h3 hz1 hz2 hz3 hr rfl
  | some x =>
   obtain ⟨p, q, rfl, rfl, hpq⟩ := right_some hr
   refine spHas_q (G := w.heap.size) (Nat.le_refl _) h1.fq h2.fq (h1.fz (by omega) (by omega)) (h2.fz (by omega) (by omega)) hpq h3.fq (h3.fz (by omega) (by omega)) ?_
   show _ = (decide (p ≤ q) && _)
   rw [decide_eq_true hpq]; rfl
set_option maxRecDepth 100000 in
set_option maxHeartbeats 4000000 in
theorem insx_1 {u0 u1 u2 u3 u4 u5 u6 u7 v0 v1 v2 v3 v4 v5 v6 v7 : Value} {n1 m1 n2 m2 n3 m3 n4 m4 : Nat} {o1 o2 o3 o4 : Option Rat} {w : World} (h1 : FX w u0 u1 u2 u3 n1 m1 o1) (h2 : FX w u4 u5 u6 u7 n2 m2 o2) (h3 : FX w v0 v1 v2 v3 n3 m3 o3) (h4 : FX w v4 v5 v6 v7 n4 m4 o4) (hz1 : fewF n1 m1 = true) (hz2 : fewF n2 m2 = true) (hz3 : fewF n3 m3 = true) (hz4 : fewF n4 m4 = true) (hr : rightX o1 o2 = false) :
  Calls Tryz.prog 21 #[.agg #[u0, u1, u2, u3, u4, u5, u6, u7], .agg #[v0, v1, v2, v3, v4, v5, v6, v7]] w fun e w' => e = .returned (.bool false) ∧ Below w.heap.size w w' := by
 have HZ1 := Lib.hid hz1
 have HZ2 := Lib.hid hz2
 have HZ3 := Lib.hid hz3
 have HZ4 := Lib.hid hz4
 have k1 := few_le hz1
 have k2 := few_le hz2
 have k3 := few_le hz3
 have k4 := few_le hz4
 clear hz1 hz2 hz3 hz4
 have HR := Lib.hid hr; clear hr
 have H1 : Hid (FX w u0 u1 u2 u3 n1 m1 o1) := h1
 have H2 : Hid (FX w u4 u5 u6 u7 n2 m2 o2) := h2
 have H3 : Hid (FX w v0 v1 v2 v3 n3 m3 o3) := h3
 have H4 : Hid (FX w v4 v5 v6 v7 n4 m4 o4) := h4
 clear h1 h2 h3 h4
 have M : Hid (Below w.heap.size w w) := Below.refl _ _
 go_enter Tryz.func21, Tryz.ntmps21
 go_upto_region 1 with fail
 refine nmW ((w.alloc (.cells #[u0, u1, u2, u3, u4, u5, u6, u7] 28)).alloc (.cells #[v0, v1, v2, v3, v4, v5, v6, v7] 28)) fun w1 hv => ?_
 rw [← hv]
 replace M := al2W hv M
 clear hv
 refine cj8 (J1 M).1.d8 fun aa ab ac ad ae af ag ah => ?_
 go_wp2_with fail
 clear aa ab ac ad ae af ag ah
 refine (spRight_x (o1 := o1) (o2 := o2) (b_ := false) (H1.out.keep (J2 M)) (H2.out.keep (J2 M)) HZ1.out HZ2.out HR.out).mono ?_
 rintro e w2 ⟨rfl, hb⟩
 replace M := gnM hb M
 clear hb
 go_wp2_with fail
 go_ret
 exact ⟨rfl, (J2 M)⟩
set_option maxRecDepth 100000 in
set_option maxHeartbeats 4000000 in
theorem insx_2 {u0 u1 u2 u3 u4 u5 u6 u7 v0 v1 v2 v3 v4 v5 v6 v7 : Value} {n1 m1 n2 m2 n3 m3 n4 m4 : Nat} {o1 o2 o3 o4 : Option Rat} {w : World} (h1 : FX w u0 u1 u2 u3 n1 m1 o1) (h2 : FX w u4 u5 u6 u7 n2 m2 o2) (h3 : FX w v0 v1 v2 v3 n3 m3 o3) (h4 : FX w v4 v5 v6 v7 n4 m4 o4) (hz1 : fewF n1 m1 = true) (hz2 : fewF n2 m2 = true) (hz3 : fewF n3 m3 = true) (hz4 : fewF n4 m4 = true) (hr : rightX o1 o2 = true) (hr2 : rightX o3 o4 = false) :
  Calls Tryz.prog 21 #[.agg #[u0, u1, u2, u3, u4, u5, u6, u7], .agg #[v0, v1, v2, v3, v4, v5, v6, v7]] w fun e w' => e = .returned (.bool false) ∧ Below w.heap.size w w' := by
 have HZ1 := Lib.hid hz1
 have HZ2 := Lib.hid hz2
 have HZ3 := Lib.hid hz3
 have HZ4 := Lib.hid hz4
 have k1 := few_le hz1
 have k2 := few_le hz2
 have k3 := few_le hz3
 have k4 := few_le hz4
 clear hz1 hz2 hz3 hz4
 have HR := Lib.hid hr; have HR2 := Lib.hid hr2; clear hr hr2
 have H1 : Hid (FX w u0 u1 u2 u3 n1 m1 o1) := h1
 have H2 : Hid (FX w u4 u5 u6 u7 n2 m2 o2) := h2
 have H3 : Hid (FX w v0 v1 v2 v3 n3 m3 o3) := h3
 have H4 : Hid (FX w v4 v5 v6 v7 n4 m4 o4) := h4
 clear h1 h2 h3 h4
 have M : Hid (Below w.heap.size w w) := Below.refl _ _
 go_enter Tryz.func21, Tryz.ntmps21
 go_upto_region 1 with fail
 refine nmW ((w.alloc (.cells #[u0, u1, u2, u3, u4, u5, u6, u7] 28)).alloc (.cells #[v0, v1, v2, v3, v4, v5, v6, v7] 28)) fun w1 hv => ?_
 rw [← hv]
 replace M := al2W hv M
 clear hv
 refine cj8 (J1 M).1.d8 fun aa ab ac ad ae af ag ah => ?_
 go_wp2_with fail
 clear aa ab ac ad ae af ag ah
 refine (spRight_x (o1 := o1) (o2 := o2) (b_ := true) (H1.out.keep (J2 M)) (H2.out.keep (J2 M)) HZ1.out HZ2.out HR.out).mono ?_
 rintro e w2 ⟨rfl, hb⟩
 replace M := gnM hb M
 clear hb
 refine cj8 (M.out.1).d8 fun ai aj ak al am ao ap aq => ?_
 go_wp2_with fail
 clear ai aj ak al am ao ap aq
 refine (spRight_x (o1 := o3) (o2 := o4) (b_ := false) (H3.out.keep (J2 M)) (H4.out.keep (J2 M)) HZ3.out HZ4.out HR2.out).mono ?_
 rintro e w3 ⟨rfl, hb⟩
 replace M := gnM hb M
 clear hb
 go_wp2_with fail
 go_ret
 exact ⟨rfl, (J2 M)⟩
theorem spInside_x {u0 u1 u2 u3 u4 u5 u6 u7 v0 v1 v2 v3 v4 v5 v6 v7 : Value} {n1 m1 n2 m2 n3 m3 n4 m4 : Nat} {o1 o2 o3 o4 : Option Rat} {b_ : Bool} {w : World} (h1 : FX w u0 u1 u2 u3 n1 m1 o1) (h2 : FX w u4 u5 u6 u7 n2 m2 o2) (h3 : FX w v0 v1 v2 v3 n3 m3 o3) (h4 : FX w v4 v5 v6 v7 n4 m4 o4) (hz1 : fewF n1 m1 = true) (hz2 : fewF n2 m2 = true) (hz3 : fewF n3 m3 = true) (hz4 : fewF n4 m4 = true) (hb : insX o1 o2 o3 o4 = b_) :
  Calls Tryz.prog 21 #[.agg #[u0, u1, u2, u3, u4, u5, u6, u7], .agg #[v0, v1, v2, v3, v4, v5, v6, v7]] w fun e w' => e = .returned (.bool b_) ∧ Below w.heap.size w w' := by
 have k1 := few_le hz1
 have k2 := few_le hz2
 have k3 := few_le hz3
 have k4 := few_le hz4
 subst hb
 cases hr : rightX o1 o2 with
 | false =>
  rw [show insX o1 o2 o3 o4 = false by cases o1 <;> cases o2 <;> cases o3 <;> cases o4 <;> simp_all [insX, rightX]]
  exact insx_1 h1 h2 h3 h4 hz1 hz2 hz3 hz4 hr
 | true =>
  cases hr2 : rightX o3 o4 with
  | false =>
   rw [show insX o1 o2 o3 o4 = false by cases o1 <;> cases o2 <;> cases o3 <;> cases o4 <;> simp_all [insX, rightX]]
   exact insx_2 h1 h2 h3 h4 hz1 hz2 hz3 hz4 hr hr2
  | true =>
   obtain ⟨p, q, rfl, rfl, hpq⟩ := right_some hr
   obtain ⟨r, s, rfl, rfl, hrs⟩ := right_some hr2
   refine spInside_q (G := w.heap.size) (Nat.le_refl _) h1.fq h2.fq h3.fq h4.fq (h1.fz (by omega) (by omega)) (h2.fz (by omega) (by omega)) (h3.fz (by omega) (by omega)) (h4.fz (by omega) (by omega)) hpq hrs ?_
   show _ = ((decide (p ≤ q) && decide (r ≤ s)) && _)
   rw [decide_eq_true hpq, decide_eq_true hrs]; rfl
end Go.Proofs.YtjbfngjlepafgaaGreat
namespace Go.Proofs.YtjbfngjlepafgaaGreat
open Go.RowKit Go.Lib
variable {G : Nat}

set_option maxRecDepth 100000 in
set_option maxHeartbeats 4000000 in
theorem play_0 {u0 u1 u2 u3 u4 u5 u6 u7 v0 v1 v2 v3 v4 v5 v6 v7 : Value} {p q r s : Rat} {lo hi : Rat} {w : World} (hG : G ≤ w.heap.size) (h1 : FQ G w u0 u1 u2 u3 p) (h2 : FQ G w u4 u5 u6 u7 q) (h3 : FQ G w v0 v1 v2 v3 r) (h4 : FQ G w v4 v5 v6 v7 s) (hp : Fz p 17179869184) (hq : Fz q 17179869184) (hr : Fz r 17179869184) (hs : Fz s 17179869184) (ha : p ≤ q) (hb : r ≤ s) (hlo : p + r = lo) (hhi : q + s = hi)  :
  Calls Tryz.prog 7 #[.int .i64 0, .agg #[u0, u1, u2, u3, u4, u5, u6, u7], .agg #[v0, v1, v2, v3, v4, v5, v6, v7]] w fun e w' => ∃ x0 x1 x2 x3 x4 x5 x6 x7, e = .returned (.tuple #[.agg #[x0, x1, x2, x3, x4, x5, x6, x7], .int .i64 0]) ∧ FQ G w' x0 x1 x2 x3 lo ∧ FQ G w' x4 x5 x6 x7 hi ∧ Below w.heap.size w w' := by
 have HP := Lib.hid hp; have HQ := Lib.hid hq; have HR := Lib.hid hr; have HS := Lib.hid hs; have HAA := Lib.hid ha; have HBB := Lib.hid hb; clear hp hq hr hs ha hb
 have HLO := Lib.hid hlo; have HHI := Lib.hid hhi; clear hlo hhi
 have H1 : Hid (FQ G w u0 u1 u2 u3 p) := h1
 have H2 : Hid (FQ G w u4 u5 u6 u7 q) := h2
 have H3 : Hid (FQ G w v0 v1 v2 v3 r) := h3
 have H4 : Hid (FQ G w v4 v5 v6 v7 s) := h4
 clear h1 h2 h3 h4
 have M : Hid (Below w.heap.size w w) := Below.refl _ _
 go_enter Tryz.func7, Tryz.ntmps7
 go_upto_region 1 with fail
 refine nmW (((w.alloc (.cells #[u0, u1, u2, u3, u4, u5, u6, u7] 28)).alloc (.cells #[v0, v1, v2, v3, v4, v5, v6, v7] 28)).alloc (.cells #[.int .i64 0, .slice none 0 0, .int .i64 0, .slice none 0 0, .int .i64 0, .slice none 0 0, .int .i64 0, .slice none 0 0] 28)) fun w1 hv => ?_
 rw [← hv]
 replace M := al3W hv M
 clear hv
 refine cj8 (J2 M).1.d8 fun aa ab ac ad ae af ag ah => ?_
 refine cj8 (J1 M).1.d8 fun ai aj ak al am ao ap aq => ?_
 go_wp2_with fail
 clear aa ab ac ad ae af ag ah ai aj ak al am ao ap aq
 refine nmW (α := Rat) (p + r) fun q9 eq9 => ?_
 refine nmW (α := Rat) (q + s) fun q10 eq10 => ?_
 refine (spAdd_q (G := G) (p := p) (q := q) (r := r) (s := s) (Nat.le_trans hG (J3 M).size) (H1.out.keep (J3 M)) (H2.out.keep (J3 M)) (H3.out.keep (J3 M)) (H4.out.keep (J3 M)) (Fz.mono HP.out (by omega)) (Fz.mono HQ.out (by omega)) (Fz.mono HR.out (by omega)) (Fz.mono HS.out (by omega)) HAA.out HBB.out).mono ?_
 rintro e w2 ⟨x_1, x_2, x_3, x_4, x_5, x_6, x_7, x_8, rfl, hd11, hd12, hb⟩
 rw [← eq9] at hd11
 have Sq9 : Hid (Fz q9 34359738369) := by show Fz q9 34359738369; rw [eq9]; exact (Fz.add HP.out HR.out)
 have Eq9 := Lib.hid eq9; clear eq9
 rw [← eq10] at hd12
 have Sq10 : Hid (Fz q10 34359738369) := by show Fz q10 34359738369; rw [eq10]; exact (Fz.add HQ.out HS.out)
 have Eq10 := Lib.hid eq10; clear eq10
 replace M := ad2M hd11 hd12 hb M
 clear hb hd11 hd12
 refine cj4 (TQ.st (M.out.1)) fun ar au av aw => ?_
 refine cj4 (TQ.st (J1 M).1) fun ax ay az ba => ?_
 go_upto_region 4 with fail
 clear ar au av aw ax ay az ba
 refine nmW (w2.alloc (.cells #[x_1, x_2, x_3, x_4, x_5, x_6, x_7, x_8] 28)) fun w3 hv => ?_
 rw [← hv]
 have ow3_ : w.heap.size + 1 + 1 < w2.heap.size := ((J2 M).1).lt
 replace M := alM hv M
 clear hv
 refine cj8 (M.out.1).d8 fun bb bc bd bf bg bh bi bj => ?_
 refine cj16 (J3 M).1.c8 fun bk bl bm bn bo bp bq br bs bt bu bv bw bx bz ca => ?_
 refine cj4 (TQ.st (J1 M).1) fun ar au av aw => ?_
 refine cj4 (TQ.st (J2 M).1) fun ax ay az ba => ?_
 go_wp2_with fail
 clear bb bc bd bf bg bh bi bj bk bl bm bn bo bp bq br bs bt bu bv bw bx bz ca ar au av aw ax ay az ba
 have hz : w.heap.size ≤ w.heap.size + 1 + 1 := by omega
 refine st8W (x_1) (x_2) (x_3) (x_4) (x_5) (x_6) (x_7) (x_8) (J3 M).1 (J6 M) hz fun w4 hv og hk hbw => ?_
 rw [← hv]
 replace M := Lib.hid (aI ((M.out.1).only og (by omega)) (aI ((J1 M).1.far (J3 M).1 (by rfl) (by omega) og) (aI ((J2 M).1.far (J3 M).1 (by rfl) (by omega) og) (aI hk (aI ((J4 M).1.only og (by omega)) (aI ((J5 M).1.only og (by omega)) hbw))))))
 clear hk hbw og hv hz
 refine bodyPost_ret (results_box2 rfl _ _ (w.heap.size + 1 + 1) 28 _ _ _ rfl (J3 M).1 Tryz.underlying28 rfl (by kernel_rfl)) rfl ?_
 exact ⟨x_1, x_2, x_3, x_4, x_5, x_6, x_7, x_8, rfl, (by have h_ := (J1 M).1; rw [Eq9.out] at h_; rw [HLO.out] at h_; exact h_), (by have h_ := (J2 M).1; rw [Eq10.out] at h_; rw [HHI.out] at h_; exact h_), (J6 M)⟩
set_option maxRecDepth 100000 in
set_option maxHeartbeats 4000000 in
theorem play_1 {u0 u1 u2 u3 u4 u5 u6 u7 v0 v1 v2 v3 v4 v5 v6 v7 : Value} {p q r s : Rat} {lo hi : Rat} {w : World} (hG : G ≤ w.heap.size) (h1 : FQ G w u0 u1 u2 u3 p) (h2 : FQ G w u4 u5 u6 u7 q) (h3 : FQ G w v0 v1 v2 v3 r) (h4 : FQ G w v4 v5 v6 v7 s) (hp : Fz p 17179869184) (hq : Fz q 17179869184) (hr : Fz r 17179869184) (hs : Fz s 17179869184) (ha : p ≤ q) (hb : r ≤ s) (hlo : p - s = lo) (hhi : q - r = hi)  :
  Calls Tryz.prog 7 #[.int .i64 1, .agg #[u0, u1, u2, u3, u4, u5, u6, u7], .agg #[v0, v1, v2, v3, v4, v5, v6, v7]] w fun e w' => ∃ x0 x1 x2 x3 x4 x5 x6 x7, e = .returned (.tuple #[.agg #[x0, x1, x2, x3, x4, x5, x6, x7], .int .i64 0]) ∧ FQ G w' x0 x1 x2 x3 lo ∧ FQ G w' x4 x5 x6 x7 hi ∧ Below w.heap.size w w' := by
 have HP := Lib.hid hp; have HQ := Lib.hid hq; have HR := Lib.hid hr; have HS := Lib.hid hs; have HAA := Lib.hid ha; have HBB := Lib.hid hb; clear hp hq hr hs ha hb
 have HLO := Lib.hid hlo; have HHI := Lib.hid hhi; clear hlo hhi
 have H1 : Hid (FQ G w u0 u1 u2 u3 p) := h1
 have H2 : Hid (FQ G w u4 u5 u6 u7 q) := h2
 have H3 : Hid (FQ G w v0 v1 v2 v3 r) := h3
 have H4 : Hid (FQ G w v4 v5 v6 v7 s) := h4
 clear h1 h2 h3 h4
 have M : Hid (Below w.heap.size w w) := Below.refl _ _
 go_enter Tryz.func7, Tryz.ntmps7
 go_upto_region 1 with fail
 refine nmW (((w.alloc (.cells #[u0, u1, u2, u3, u4, u5, u6, u7] 28)).alloc (.cells #[v0, v1, v2, v3, v4, v5, v6, v7] 28)).alloc (.cells #[.int .i64 0, .slice none 0 0, .int .i64 0, .slice none 0 0, .int .i64 0, .slice none 0 0, .int .i64 0, .slice none 0 0] 28)) fun w1 hv => ?_
 rw [← hv]
 replace M := al3W hv M
 clear hv
 refine cj8 (J2 M).1.d8 fun aa ab ac ad ae af ag ah => ?_
 refine cj8 (J1 M).1.d8 fun ai aj ak al am ao ap aq => ?_
 go_wp2_with fail
 clear aa ab ac ad ae af ag ah ai aj ak al am ao ap aq
 refine nmW (α := Rat) (p - s) fun q9 eq9 => ?_
 refine nmW (α := Rat) (q - r) fun q10 eq10 => ?_
 refine (spSub_q (G := G) (p := p) (q := q) (r := r) (s := s) (Nat.le_trans hG (J3 M).size) (H1.out.keep (J3 M)) (H2.out.keep (J3 M)) (H3.out.keep (J3 M)) (H4.out.keep (J3 M)) (Fz.mono HP.out (by omega)) (Fz.mono HQ.out (by omega)) (Fz.mono HR.out (by omega)) (Fz.mono HS.out (by omega)) HAA.out HBB.out).mono ?_
 rintro e w2 ⟨x_1, x_2, x_3, x_4, x_5, x_6, x_7, x_8, rfl, hd11, hd12, hb⟩
 rw [← eq9] at hd11
 have Sq9 : Hid (Fz q9 34359738369) := by show Fz q9 34359738369; rw [eq9]; exact (Fz.sub HP.out HS.out)
 have Eq9 := Lib.hid eq9; clear eq9
 rw [← eq10] at hd12
 have Sq10 : Hid (Fz q10 34359738369) := by show Fz q10 34359738369; rw [eq10]; exact (Fz.sub HQ.out HR.out)
 have Eq10 := Lib.hid eq10; clear eq10
 replace M := ad2M hd11 hd12 hb M
 clear hb hd11 hd12
 refine cj4 (TQ.st (M.out.1)) fun ar au av aw => ?_
 refine cj4 (TQ.st (J1 M).1) fun ax ay az ba => ?_
 go_upto_region 7 with fail
 clear ar au av aw ax ay az ba
 refine nmW (w2.alloc (.cells #[x_1, x_2, x_3, x_4, x_5, x_6, x_7, x_8] 28)) fun w3 hv => ?_
 rw [← hv]
 have ow3_ : w.heap.size + 1 + 1 < w2.heap.size := ((J2 M).1).lt
 replace M := alM hv M
 clear hv
 refine cj8 (M.out.1).d8 fun bb bc bd bf bg bh bi bj => ?_
 refine cj16 (J3 M).1.c8 fun bk bl bm bn bo bp bq br bs bt bu bv bw bx bz ca => ?_
 refine cj4 (TQ.st (J1 M).1) fun ar au av aw => ?_
 refine cj4 (TQ.st (J2 M).1) fun ax ay az ba => ?_
 go_wp2_with fail
 clear bb bc bd bf bg bh bi bj bk bl bm bn bo bp bq br bs bt bu bv bw bx bz ca ar au av aw ax ay az ba
 have hz : w.heap.size ≤ w.heap.size + 1 + 1 := by omega
 refine st8W (x_1) (x_2) (x_3) (x_4) (x_5) (x_6) (x_7) (x_8) (J3 M).1 (J6 M) hz fun w4 hv og hk hbw => ?_
 rw [← hv]
 replace M := Lib.hid (aI ((M.out.1).only og (by omega)) (aI ((J1 M).1.far (J3 M).1 (by rfl) (by omega) og) (aI ((J2 M).1.far (J3 M).1 (by rfl) (by omega) og) (aI hk (aI ((J4 M).1.only og (by omega)) (aI ((J5 M).1.only og (by omega)) hbw))))))
 clear hk hbw og hv hz
 refine bodyPost_ret (results_box2 rfl _ _ (w.heap.size + 1 + 1) 28 _ _ _ rfl (J3 M).1 Tryz.underlying28 rfl (by kernel_rfl)) rfl ?_
 exact ⟨x_1, x_2, x_3, x_4, x_5, x_6, x_7, x_8, rfl, (by have h_ := (J1 M).1; rw [Eq9.out] at h_; rw [HLO.out] at h_; exact h_), (by have h_ := (J2 M).1; rw [Eq10.out] at h_; rw [HHI.out] at h_; exact h_), (J6 M)⟩
set_option maxRecDepth 100000 in
set_option maxHeartbeats 4000000 in
theorem play_2 {u0 u1 u2 u3 u4 u5 u6 u7 v0 v1 v2 v3 v4 v5 v6 v7 : Value} {p q r s : Rat} {lo hi : Rat} {w : World} (hG : G ≤ w.heap.size) (h1 : FQ G w u0 u1 u2 u3 p) (h2 : FQ G w u4 u5 u6 u7 q) (h3 : FQ G w v0 v1 v2 v3 r) (h4 : FQ G w v4 v5 v6 v7 s) (hp : Fz p 17179869184) (hq : Fz q 17179869184) (hr : Fz r 17179869184) (hs : Fz s 17179869184) (ha : p ≤ q) (hb : r ≤ s) (hlo : min4 (p * r) (p * s) (q * r) (q * s) = lo) (hhi : max4 (p * r) (p * s) (q * r) (q * s) = hi)  :
  Calls Tryz.prog 7 #[.int .i64 2, .agg #[u0, u1, u2, u3, u4, u5, u6, u7], .agg #[v0, v1, v2, v3, v4, v5, v6, v7]] w fun e w' => ∃ x0 x1 x2 x3 x4 x5 x6 x7, e = .returned (.tuple #[.agg #[x0, x1, x2, x3, x4, x5, x6, x7], .int .i64 0]) ∧ FQ G w' x0 x1 x2 x3 lo ∧ FQ G w' x4 x5 x6 x7 hi ∧ Below w.heap.size w w' := by
 have HP := Lib.hid hp; have HQ := Lib.hid hq; have HR := Lib.hid hr; have HS := Lib.hid hs; have HAA := Lib.hid ha; have HBB := Lib.hid hb; clear hp hq hr hs ha hb
 have HLO := Lib.hid hlo; have HHI := Lib.hid hhi; clear hlo hhi
 have H1 : Hid (FQ G w u0 u1 u2 u3 p) := h1
 have H2 : Hid (FQ G w u4 u5 u6 u7 q) := h2
 have H3 : Hid (FQ G w v0 v1 v2 v3 r) := h3
 have H4 : Hid (FQ G w v4 v5 v6 v7 s) := h4
 clear h1 h2 h3 h4
 have M : Hid (Below w.heap.size w w) := Below.refl _ _
 go_enter Tryz.func7, Tryz.ntmps7
 go_upto_region 1 with fail
 refine nmW (((w.alloc (.cells #[u0, u1, u2, u3, u4, u5, u6, u7] 28)).alloc (.cells #[v0, v1, v2, v3, v4, v5, v6, v7] 28)).alloc (.cells #[.int .i64 0, .slice none 0 0, .int .i64 0, .slice none 0 0, .int .i64 0, .slice none 0 0, .int .i64 0, .slice none 0 0] 28)) fun w1 hv => ?_
 rw [← hv]
 replace M := al3W hv M
 clear hv
 refine cj8 (J2 M).1.d8 fun aa ab ac ad ae af ag ah => ?_
 refine cj8 (J1 M).1.d8 fun ai aj ak al am ao ap aq => ?_
 go_wp2_with fail
 clear aa ab ac ad ae af ag ah ai aj ak al am ao ap aq
 refine (spMul_q (G := G) (p := p) (q := q) (r := r) (s := s) (lo := lo) (hi := hi) (Nat.le_trans hG (J3 M).size) (H1.out.keep (J3 M)) (H2.out.keep (J3 M)) (H3.out.keep (J3 M)) (H4.out.keep (J3 M)) (Fz.mono HP.out (by omega)) (Fz.mono HQ.out (by omega)) (Fz.mono HR.out (by omega)) (Fz.mono HS.out (by omega)) HAA.out HBB.out HLO.out HHI.out).mono ?_
 rintro e w2 ⟨x_1, x_2, x_3, x_4, x_5, x_6, x_7, x_8, rfl, hd9, hd10, hb⟩
 replace M := ad2M hd9 hd10 hb M
 clear hb hd9 hd10
 refine cj4 (TQ.st (M.out.1)) fun ar au av aw => ?_
 refine cj4 (TQ.st (J1 M).1) fun ax ay az ba => ?_
 go_upto_region 10 with fail
 clear ar au av aw ax ay az ba
 refine nmW (w2.alloc (.cells #[x_1, x_2, x_3, x_4, x_5, x_6, x_7, x_8] 28)) fun w3 hv => ?_
 rw [← hv]
 have ow3_ : w.heap.size + 1 + 1 < w2.heap.size := ((J2 M).1).lt
 replace M := alM hv M
 clear hv
 refine cj8 (M.out.1).d8 fun bb bc bd bf bg bh bi bj => ?_
 refine cj16 (J3 M).1.c8 fun bk bl bm bn bo bp bq br bs bt bu bv bw bx bz ca => ?_
 refine cj4 (TQ.st (J1 M).1) fun ar au av aw => ?_
 refine cj4 (TQ.st (J2 M).1) fun ax ay az ba => ?_
 go_wp2_with fail
 clear bb bc bd bf bg bh bi bj bk bl bm bn bo bp bq br bs bt bu bv bw bx bz ca ar au av aw ax ay az ba
 have hz : w.heap.size ≤ w.heap.size + 1 + 1 := by omega
 refine st8W (x_1) (x_2) (x_3) (x_4) (x_5) (x_6) (x_7) (x_8) (J3 M).1 (J6 M) hz fun w4 hv og hk hbw => ?_
 rw [← hv]
 replace M := Lib.hid (aI ((M.out.1).only og (by omega)) (aI ((J1 M).1.far (J3 M).1 (by rfl) (by omega) og) (aI ((J2 M).1.far (J3 M).1 (by rfl) (by omega) og) (aI hk (aI ((J4 M).1.only og (by omega)) (aI ((J5 M).1.only og (by omega)) hbw))))))
 clear hk hbw og hv hz
 refine bodyPost_ret (results_box2 rfl _ _ (w.heap.size + 1 + 1) 28 _ _ _ rfl (J3 M).1 Tryz.underlying28 rfl (by kernel_rfl)) rfl ?_
 exact ⟨x_1, x_2, x_3, x_4, x_5, x_6, x_7, x_8, rfl, (J1 M).1, (J2 M).1, (J6 M)⟩
set_option maxRecDepth 100000 in
set_option maxHeartbeats 4000000 in
theorem play_3 {u0 u1 u2 u3 u4 u5 u6 u7 v0 v1 v2 v3 v4 v5 v6 v7 : Value} {p q r s : Rat} {lo hi : Rat} {w : World} (hG : G ≤ w.heap.size) (h1 : FQ G w u0 u1 u2 u3 p) (h2 : FQ G w u4 u5 u6 u7 q) (h3 : FQ G w v0 v1 v2 v3 r) (h4 : FQ G w v4 v5 v6 v7 s) (hp : Fz p 17179869184) (hq : Fz q 17179869184) (hr : Fz r 17179869184) (hs : Fz s 17179869184) (ha : p ≤ q) (hb : r ≤ s) (h0 : ¬ (r ≤ 0 ∧ 0 ≤ s)) (hlo : min4 (p * (1 / s)) (p * (1 / r)) (q * (1 / s)) (q * (1 / r)) = lo) (hhi : max4 (p * (1 / s)) (p * (1 / r)) (q * (1 / s)) (q * (1 / r)) = hi)  :
  Calls Tryz.prog 7 #[.int .i64 3, .agg #[u0, u1, u2, u3, u4, u5, u6, u7], .agg #[v0, v1, v2, v3, v4, v5, v6, v7]] w fun e w' => ∃ x0 x1 x2 x3 x4 x5 x6 x7, e = .returned (.tuple #[.agg #[x0, x1, x2, x3, x4, x5, x6, x7], .int .i64 0]) ∧ FQ G w' x0 x1 x2 x3 lo ∧ FQ G w' x4 x5 x6 x7 hi ∧ Below w.heap.size w w' := by
 have H0 := Lib.hid h0; clear h0
 have HP := Lib.hid hp; have HQ := Lib.hid hq; have HR := Lib.hid hr; have HS := Lib.hid hs; have HAA := Lib.hid ha; have HBB := Lib.hid hb; clear hp hq hr hs ha hb
 have HLO := Lib.hid hlo; have HHI := Lib.hid hhi; clear hlo hhi
 have H1 : Hid (FQ G w u0 u1 u2 u3 p) := h1
 have H2 : Hid (FQ G w u4 u5 u6 u7 q) := h2
 have H3 : Hid (FQ G w v0 v1 v2 v3 r) := h3
 have H4 : Hid (FQ G w v4 v5 v6 v7 s) := h4
 clear h1 h2 h3 h4
 have M : Hid (Below w.heap.size w w) := Below.refl _ _
 go_enter Tryz.func7, Tryz.ntmps7
 go_upto_region 1 with fail
 refine nmW (((w.alloc (.cells #[u0, u1, u2, u3, u4, u5, u6, u7] 28)).alloc (.cells #[v0, v1, v2, v3, v4, v5, v6, v7] 28)).alloc (.cells #[.int .i64 0, .slice none 0 0, .int .i64 0, .slice none 0 0, .int .i64 0, .slice none 0 0, .int .i64 0, .slice none 0 0] 28)) fun w1 hv => ?_
 rw [← hv]
 replace M := al3W hv M
 clear hv
 refine cj8 (J2 M).1.d8 fun aa ab ac ad ae af ag ah => ?_
 refine cj8 (J1 M).1.d8 fun ai aj ak al am ao ap aq => ?_
 go_wp2_with fail
 clear aa ab ac ad ae af ag ah ai aj ak al am ao ap aq
 refine (spDiv_q (G := G) (p := p) (q := q) (r := r) (s := s) (lo := lo) (hi := hi) (Nat.le_trans hG (J3 M).size) (H1.out.keep (J3 M)) (H2.out.keep (J3 M)) (H3.out.keep (J3 M)) (H4.out.keep (J3 M)) HP.out HQ.out HR.out HS.out HAA.out HBB.out H0.out HLO.out HHI.out).mono ?_
 rintro e w2 ⟨x_1, x_2, x_3, x_4, x_5, x_6, x_7, x_8, rfl, hd9, hd10, hb⟩
 replace M := ad2M hd9 hd10 hb M
 clear hb hd9 hd10
 refine cj4 (TQ.st (M.out.1)) fun ar au av aw => ?_
 refine cj4 (TQ.st (J1 M).1) fun ax ay az ba => ?_
 go_upto_region 13 with fail
 clear ar au av aw ax ay az ba
 refine nmW (w2.alloc (.cells #[x_1, x_2, x_3, x_4, x_5, x_6, x_7, x_8] 28)) fun w3 hv => ?_
 rw [← hv]
 have ow3_ : w.heap.size + 1 + 1 < w2.heap.size := ((J2 M).1).lt
 replace M := alM hv M
 clear hv
 refine cj8 (M.out.1).d8 fun bb bc bd bf bg bh bi bj => ?_
 refine cj16 (J3 M).1.c8 fun bk bl bm bn bo bp bq br bs bt bu bv bw bx bz ca => ?_
 refine cj4 (TQ.st (J1 M).1) fun ar au av aw => ?_
 refine cj4 (TQ.st (J2 M).1) fun ax ay az ba => ?_
 go_wp2_with fail
 clear bb bc bd bf bg bh bi bj bk bl bm bn bo bp bq br bs bt bu bv bw bx bz ca ar au av aw ax ay az ba
 have hz : w.heap.size ≤ w.heap.size + 1 + 1 := by omega
 refine st8W (x_1) (x_2) (x_3) (x_4) (x_5) (x_6) (x_7) (x_8) (J3 M).1 (J6 M) hz fun w4 hv og hk hbw => ?_
 rw [← hv]
 replace M := Lib.hid (aI ((M.out.1).only og (by omega)) (aI ((J1 M).1.far (J3 M).1 (by rfl) (by omega) og) (aI ((J2 M).1.far (J3 M).1 (by rfl) (by omega) og) (aI hk (aI ((J4 M).1.only og (by omega)) (aI ((J5 M).1.only og (by omega)) hbw))))))
 clear hk hbw og hv hz
 refine bodyPost_ret (results_box2 rfl _ _ (w.heap.size + 1 + 1) 28 _ _ _ rfl (J3 M).1 Tryz.underlying28 rfl (by kernel_rfl)) rfl ?_
 exact ⟨x_1, x_2, x_3, x_4, x_5, x_6, x_7, x_8, rfl, (J1 M).1, (J2 M).1, (J6 M)⟩
set_option maxRecDepth 100000 in
set_option maxHeartbeats 4000000 in
theorem play_4 {u0 u1 u2 u3 u4 u5 u6 u7 v0 v1 v2 v3 v4 v5 v6 v7 : Value} {p q r s : Rat} {lo hi : Rat} {w : World} (hG : G ≤ w.heap.size) (h1 : FQ G w u0 u1 u2 u3 p) (h2 : FQ G w u4 u5 u6 u7 q) (h3 : FQ G w v0 v1 v2 v3 r) (h4 : FQ G w v4 v5 v6 v7 s) (hp : Fz p 17179869184) (hq : Fz q 17179869184) (hr : Fz r 17179869184) (hs : Fz s 17179869184) (ha : p ≤ q) (hb : r ≤ s) (hlo : minQ p r = lo) (hhi : minQ q s = hi)  :
  Calls Tryz.prog 7 #[.int .i64 4, .agg #[u0, u1, u2, u3, u4, u5, u6, u7], .agg #[v0, v1, v2, v3, v4, v5, v6, v7]] w fun e w' => ∃ x0 x1 x2 x3 x4 x5 x6 x7, e = .returned (.tuple #[.agg #[x0, x1, x2, x3, x4, x5, x6, x7], .int .i64 0]) ∧ FQ G w' x0 x1 x2 x3 lo ∧ FQ G w' x4 x5 x6 x7 hi ∧ Below w.heap.size w w' := by
 have HP := Lib.hid hp; have HQ := Lib.hid hq; have HR := Lib.hid hr; have HS := Lib.hid hs; have HAA := Lib.hid ha; have HBB := Lib.hid hb; clear hp hq hr hs ha hb
 have HLO := Lib.hid hlo; have HHI := Lib.hid hhi; clear hlo hhi
 have H1 : Hid (FQ G w u0 u1 u2 u3 p) := h1
 have H2 : Hid (FQ G w u4 u5 u6 u7 q) := h2
 have H3 : Hid (FQ G w v0 v1 v2 v3 r) := h3
 have H4 : Hid (FQ G w v4 v5 v6 v7 s) := h4
 clear h1 h2 h3 h4
 have M : Hid (Below w.heap.size w w) := Below.refl _ _
 go_enter Tryz.func7, Tryz.ntmps7
 go_upto_region 1 with fail
 refine nmW (((w.alloc (.cells #[u0, u1, u2, u3, u4, u5, u6, u7] 28)).alloc (.cells #[v0, v1, v2, v3, v4, v5, v6, v7] 28)).alloc (.cells #[.int .i64 0, .slice none 0 0, .int .i64 0, .slice none 0 0, .int .i64 0, .slice none 0 0, .int .i64 0, .slice none 0 0] 28)) fun w1 hv => ?_
 rw [← hv]
 replace M := al3W hv M
 clear hv
 refine cj8 (J2 M).1.d8 fun aa ab ac ad ae af ag ah => ?_
 refine cj8 (J1 M).1.d8 fun ai aj ak al am ao ap aq => ?_
 go_wp2_with fail
 clear aa ab ac ad ae af ag ah ai aj ak al am ao ap aq
 refine nmW (α := Rat) (minQ p r) fun q9 eq9 => ?_
 refine nmW (α := Rat) (minQ q s) fun q10 eq10 => ?_
 refine (spMin_q (G := G) (p := p) (q := q) (r := r) (s := s) (Nat.le_trans hG (J3 M).size) (H1.out.keep (J3 M)) (H2.out.keep (J3 M)) (H3.out.keep (J3 M)) (H4.out.keep (J3 M)) (Fz.mono HP.out (by omega)) (Fz.mono HQ.out (by omega)) (Fz.mono HR.out (by omega)) (Fz.mono HS.out (by omega)) HAA.out HBB.out).mono ?_
 rintro e w2 ⟨x_1, x_2, x_3, x_4, x_5, x_6, x_7, x_8, rfl, hd11, hd12, hb⟩
 rw [← eq9] at hd11
 have Sq9 : Hid (Fz q9 17179869184) := by show Fz q9 17179869184; rw [eq9]; exact (Fz.minQ HP.out HR.out)
 have Eq9 := Lib.hid eq9; clear eq9
 rw [← eq10] at hd12
 have Sq10 : Hid (Fz q10 17179869184) := by show Fz q10 17179869184; rw [eq10]; exact (Fz.minQ HQ.out HS.out)
 have Eq10 := Lib.hid eq10; clear eq10
 replace M := ad2M hd11 hd12 hb M
 clear hb hd11 hd12
 refine cj4 (TQ.st (M.out.1)) fun ar au av aw => ?_
 refine cj4 (TQ.st (J1 M).1) fun ax ay az ba => ?_
 go_upto_region 16 with fail
 clear ar au av aw ax ay az ba
 refine nmW (w2.alloc (.cells #[x_1, x_2, x_3, x_4, x_5, x_6, x_7, x_8] 28)) fun w3 hv => ?_
 rw [← hv]
 have ow3_ : w.heap.size + 1 + 1 < w2.heap.size := ((J2 M).1).lt
 replace M := alM hv M
 clear hv
 refine cj8 (M.out.1).d8 fun bb bc bd bf bg bh bi bj => ?_
 refine cj16 (J3 M).1.c8 fun bk bl bm bn bo bp bq br bs bt bu bv bw bx bz ca => ?_
 refine cj4 (TQ.st (J1 M).1) fun ar au av aw => ?_
 refine cj4 (TQ.st (J2 M).1) fun ax ay az ba => ?_
 go_wp2_with fail
 clear bb bc bd bf bg bh bi bj bk bl bm bn bo bp bq br bs bt bu bv bw bx bz ca ar au av aw ax ay az ba
 have hz : w.heap.size ≤ w.heap.size + 1 + 1 := by omega
 refine st8W (x_1) (x_2) (x_3) (x_4) (x_5) (x_6) (x_7) (x_8) (J3 M).1 (J6 M) hz fun w4 hv og hk hbw => ?_
 rw [← hv]
 replace M := Lib.hid (aI ((M.out.1).only og (by omega)) (aI ((J1 M).1.far (J3 M).1 (by rfl) (by omega) og) (aI ((J2 M).1.far (J3 M).1 (by rfl) (by omega) og) (aI hk (aI ((J4 M).1.only og (by omega)) (aI ((J5 M).1.only og (by omega)) hbw))))))
 clear hk hbw og hv hz
 refine bodyPost_ret (results_box2 rfl _ _ (w.heap.size + 1 + 1) 28 _ _ _ rfl (J3 M).1 Tryz.underlying28 rfl (by kernel_rfl)) rfl ?_
 exact ⟨x_1, x_2, x_3, x_4, x_5, x_6, x_7, x_8, rfl, (by have h_ := (J1 M).1; rw [Eq9.out] at h_; rw [HLO.out] at h_; exact h_), (by have h_ := (J2 M).1; rw [Eq10.out] at h_; rw [HHI.out] at h_; exact h_), (J6 M)⟩
set_option maxRecDepth 100000 in
set_option maxHeartbeats 4000000 in
theorem play_5 {u0 u1 u2 u3 u4 u5 u6 u7 v0 v1 v2 v3 v4 v5 v6 v7 : Value} {p q r s : Rat} {lo hi : Rat} {w : World} (hG : G ≤ w.heap.size) (h1 : FQ G w u0 u1 u2 u3 p) (h2 : FQ G w u4 u5 u6 u7 q) (h3 : FQ G w v0 v1 v2 v3 r) (h4 : FQ G w v4 v5 v6 v7 s) (hp : Fz p 17179869184) (hq : Fz q 17179869184) (hr : Fz r 17179869184) (hs : Fz s 17179869184) (ha : p ≤ q) (hb : r ≤ s) (hlo : maxQ p r = lo) (hhi : maxQ q s = hi)  :
  Calls Tryz.prog 7 #[.int .i64 5, .agg #[u0, u1, u2, u3, u4, u5, u6, u7], .agg #[v0, v1, v2, v3, v4, v5, v6, v7]] w fun e w' => ∃ x0 x1 x2 x3 x4 x5 x6 x7, e = .returned (.tuple #[.agg #[x0, x1, x2, x3, x4, x5, x6, x7], .int .i64 0]) ∧ FQ G w' x0 x1 x2 x3 lo ∧ FQ G w' x4 x5 x6 x7 hi ∧ Below w.heap.size w w' := by
 have HP := Lib.hid hp; have HQ := Lib.hid hq; have HR := Lib.hid hr; have HS := Lib.hid hs; have HAA := Lib.hid ha; have HBB := Lib.hid hb; clear hp hq hr hs ha hb
 have HLO := Lib.hid hlo; have HHI := Lib.hid hhi; clear hlo hhi
 have H1 : Hid (FQ G w u0 u1 u2 u3 p) := h1
 have H2 : Hid (FQ G w u4 u5 u6 u7 q) := h2
 have H3 : Hid (FQ G w v0 v1 v2 v3 r) := h3
 have H4 : Hid (FQ G w v4 v5 v6 v7 s) := h4
 clear h1 h2 h3 h4
 have M : Hid (Below w.heap.size w w) := Below.refl _ _
 go_enter Tryz.func7, Tryz.ntmps7
 go_upto_region 1 with fail
 refine nmW (((w.alloc (.cells #[u0, u1, u2, u3, u4, u5, u6, u7] 28)).alloc (.cells #[v0, v1, v2, v3, v4, v5, v6, v7] 28)).alloc (.cells #[.int .i64 0, .slice none 0 0, .int .i64 0, .slice none 0 0, .int .i64 0, .slice none 0 0, .int .i64 0, .slice none 0 0] 28)) fun w1 hv => ?_
 rw [← hv]
 replace M := al3W hv M
 clear hv
 refine cj8 (J2 M).1.d8 fun aa ab ac ad ae af ag ah => ?_
 refine cj8 (J1 M).1.d8 fun ai aj ak al am ao ap aq => ?_
 go_wp2_with fail
 clear aa ab ac ad ae af ag ah ai aj ak al am ao ap aq
 refine nmW (α := Rat) (maxQ p r) fun q9 eq9 => ?_
 refine nmW (α := Rat) (maxQ q s) fun q10 eq10 => ?_
 refine (spMax_q (G := G) (p := p) (q := q) (r := r) (s := s) (Nat.le_trans hG (J3 M).size) (H1.out.keep (J3 M)) (H2.out.keep (J3 M)) (H3.out.keep (J3 M)) (H4.out.keep (J3 M)) (Fz.mono HP.out (by omega)) (Fz.mono HQ.out (by omega)) (Fz.mono HR.out (by omega)) (Fz.mono HS.out (by omega)) HAA.out HBB.out).mono ?_
 rintro e w2 ⟨x_1, x_2, x_3, x_4, x_5, x_6, x_7, x_8, rfl, hd11, hd12, hb⟩
 rw [← eq9] at hd11
 have Sq9 : Hid (Fz q9 17179869184) := by show Fz q9 17179869184; rw [eq9]; exact (Fz.maxQ HP.out HR.out)
 have Eq9 := Lib.hid eq9; clear eq9
 rw [← eq10] at hd12
 have Sq10 : Hid (Fz q10 17179869184) := by show Fz q10 17179869184; rw [eq10]; exact (Fz.maxQ HQ.out HS.out)
 have Eq10 := Lib.hid eq10; clear eq10
 replace M := ad2M hd11 hd12 hb M
 clear hb hd11 hd12
 refine cj4 (TQ.st (M.out.1)) fun ar au av aw => ?_
 refine cj4 (TQ.st (J1 M).1) fun ax ay az ba => ?_
 go_upto_region 18 with fail
 clear ar au av aw ax ay az ba
 refine nmW (w2.alloc (.cells #[x_1, x_2, x_3, x_4, x_5, x_6, x_7, x_8] 28)) fun w3 hv => ?_
 rw [← hv]
 have ow3_ : w.heap.size + 1 + 1 < w2.heap.size := ((J2 M).1).lt
 replace M := alM hv M
 clear hv
 refine cj8 (M.out.1).d8 fun bb bc bd bf bg bh bi bj => ?_
 refine cj16 (J3 M).1.c8 fun bk bl bm bn bo bp bq br bs bt bu bv bw bx bz ca => ?_
 refine cj4 (TQ.st (J1 M).1) fun ar au av aw => ?_
 refine cj4 (TQ.st (J2 M).1) fun ax ay az ba => ?_
 go_wp2_with fail
 clear bb bc bd bf bg bh bi bj bk bl bm bn bo bp bq br bs bt bu bv bw bx bz ca ar au av aw ax ay az ba
 have hz : w.heap.size ≤ w.heap.size + 1 + 1 := by omega
 refine st8W (x_1) (x_2) (x_3) (x_4) (x_5) (x_6) (x_7) (x_8) (J3 M).1 (J6 M) hz fun w4 hv og hk hbw => ?_
 rw [← hv]
 replace M := Lib.hid (aI ((M.out.1).only og (by omega)) (aI ((J1 M).1.far (J3 M).1 (by rfl) (by omega) og) (aI ((J2 M).1.far (J3 M).1 (by rfl) (by omega) og) (aI hk (aI ((J4 M).1.only og (by omega)) (aI ((J5 M).1.only og (by omega)) hbw))))))
 clear hk hbw og hv hz
 refine bodyPost_ret (results_box2 rfl _ _ (w.heap.size + 1 + 1) 28 _ _ _ rfl (J3 M).1 Tryz.underlying28 rfl (by kernel_rfl)) rfl ?_
 exact ⟨x_1, x_2, x_3, x_4, x_5, x_6, x_7, x_8, rfl, (by have h_ := (J1 M).1; rw [Eq9.out] at h_; rw [HLO.out] at h_; exact h_), (by have h_ := (J2 M).1; rw [Eq10.out] at h_; rw [HHI.out] at h_; exact h_), (J6 M)⟩
set_option maxRecDepth 100000 in
set_option maxHeartbeats 4000000 in
theorem play_none3 {u0 u1 u2 u3 u4 u5 u6 u7 v0 v1 v2 v3 v4 v5 v6 v7 : Value} {p q r s : Rat} {w : World} (hG : G ≤ w.heap.size) (h1 : FQ G w u0 u1 u2 u3 p) (h2 : FQ G w u4 u5 u6 u7 q) (h3 : FQ G w v0 v1 v2 v3 r) (h4 : FQ G w v4 v5 v6 v7 s) (hp : Fz p 17179869184) (hq : Fz q 17179869184) (hr : Fz r 17179869184) (hs : Fz s 17179869184) (ha : p ≤ q) (hb : r ≤ s) (h0 : r ≤ 0 ∧ 0 ≤ s)  :
  Calls Tryz.prog 7 #[.int .i64 3, .agg #[u0, u1, u2, u3, u4, u5, u6, u7], .agg #[v0, v1, v2, v3, v4, v5, v6, v7]] w fun e w' => e = .returned (.tuple #[.agg #[.int .i64 0, .slice none 0 0, .int .i64 0, .slice none 0 0, .int .i64 0, .slice none 0 0, .int .i64 0, .slice none 0 0], .int .i64 15]) ∧ Below w.heap.size w w' := by
 have H0 := Lib.hid h0; clear h0
 have HP := Lib.hid hp; have HQ := Lib.hid hq; have HR := Lib.hid hr; have HS := Lib.hid hs; have HAA := Lib.hid ha; have HBB := Lib.hid hb; clear hp hq hr hs ha hb
 have H1 : Hid (FQ G w u0 u1 u2 u3 p) := h1
 have H2 : Hid (FQ G w u4 u5 u6 u7 q) := h2
 have H3 : Hid (FQ G w v0 v1 v2 v3 r) := h3
 have H4 : Hid (FQ G w v4 v5 v6 v7 s) := h4
 clear h1 h2 h3 h4
 have M : Hid (Below w.heap.size w w) := Below.refl _ _
 go_enter Tryz.func7, Tryz.ntmps7
 go_upto_region 1 with fail
 refine nmW (((w.alloc (.cells #[u0, u1, u2, u3, u4, u5, u6, u7] 28)).alloc (.cells #[v0, v1, v2, v3, v4, v5, v6, v7] 28)).alloc (.cells #[.int .i64 0, .slice none 0 0, .int .i64 0, .slice none 0 0, .int .i64 0, .slice none 0 0, .int .i64 0, .slice none 0 0] 28)) fun w1 hv => ?_
 rw [← hv]
 replace M := al3W hv M
 clear hv
 refine cj8 (J2 M).1.d8 fun aa ab ac ad ae af ag ah => ?_
 refine cj8 (J1 M).1.d8 fun ai aj ak al am ao ap aq => ?_
 go_wp2_with fail
 clear aa ab ac ad ae af ag ah ai aj ak al am ao ap aq
 refine (spDiv_none (G := G) (p := p) (q := q) (r := r) (s := s) (Nat.le_trans hG (J3 M).size) (H1.out.keep (J3 M)) (H2.out.keep (J3 M)) (H3.out.keep (J3 M)) (H4.out.keep (J3 M)) HP.out HQ.out HR.out HS.out HAA.out HBB.out H0.out).mono ?_
 rintro e w2 ⟨rfl, hb⟩
 replace M := gnM hb M
 clear hb
 go_upto_region 13 with fail
 refine nmW (w2.alloc (.cells #[.int .i64 0, .slice none 0 0, .int .i64 0, .slice none 0 0, .int .i64 0, .slice none 0 0, .int .i64 0, .slice none 0 0] 28)) fun w3 hv => ?_
 rw [← hv]
 have ow3_ : w.heap.size + 1 + 1 < w2.heap.size := ((M.out.1)).lt
 replace M := alM hv M
 clear hv
 refine cj8 (M.out.1).d8 fun ar au av aw ax ay az ba => ?_
 refine cj16 (J1 M).1.c8 fun bb bc bd bf bg bh bi bj bk bl bm bn bo bp bq br => ?_
 go_wp2_with fail
 clear ar au av aw ax ay az ba bb bc bd bf bg bh bi bj bk bl bm bn bo bp bq br
 have hz : w.heap.size ≤ w.heap.size + 1 + 1 := by omega
 refine st8W (.int .i64 0) (.slice none 0 0) (.int .i64 0) (.slice none 0 0) (.int .i64 0) (.slice none 0 0) (.int .i64 0) (.slice none 0 0) (J1 M).1 (J4 M) hz fun w4 hv og hk hbw => ?_
 rw [← hv]
 replace M := Lib.hid (aI ((M.out.1).only og (by omega)) (aI hk (aI ((J2 M).1.only og (by omega)) (aI ((J3 M).1.only og (by omega)) hbw))))
 clear hk hbw og hv hz
 refine bodyPost_ret (results_box2 rfl _ _ (w.heap.size + 1 + 1) 28 _ _ _ rfl (J1 M).1 Tryz.underlying28 rfl (by kernel_rfl)) rfl ?_
 exact ⟨rfl, (J4 M)⟩
theorem play_some {k : Nat} {u0 u1 u2 u3 u4 u5 u6 u7 v0 v1 v2 v3 v4 v5 v6 v7 : Value} {p q r s : Rat} {lo hi : Rat} {i : Int} {w : World} (hG : G ≤ w.heap.size) (h1 : FQ G w u0 u1 u2 u3 p) (h2 : FQ G w u4 u5 u6 u7 q) (h3 : FQ G w v0 v1 v2 v3 r) (h4 : FQ G w v4 v5 v6 v7 s) (hp : Fz p 17179869184) (hq : Fz q 17179869184) (hr : Fz r 17179869184) (hs : Fz s 17179869184) (ha : p ≤ q) (hb : r ≤ s) (hk : k < 6) (hi_ : (k : Int) = i) (ho : opS k ⟨p, q⟩ ⟨r, s⟩ = some ⟨lo, hi⟩) :
  Calls Tryz.prog 7 #[.int .i64 i, .agg #[u0, u1, u2, u3, u4, u5, u6, u7], .agg #[v0, v1, v2, v3, v4, v5, v6, v7]] w fun e w' => ∃ x0 x1 x2 x3 x4 x5 x6 x7, e = .returned (.tuple #[.agg #[x0, x1, x2, x3, x4, x5, x6, x7], .int .i64 0]) ∧ FQ G w' x0 x1 x2 x3 lo ∧ FQ G w' x4 x5 x6 x7 hi ∧ Below w.heap.size w w' := by
 subst hi_
 match k, ho with
 | 0, ho => cases ho; exact play_0 hG h1 h2 h3 h4 hp hq hr hs ha hb rfl rfl
 | 1, ho => cases ho; exact play_1 hG h1 h2 h3 h4 hp hq hr hs ha hb (Rat.sub_eq_add_neg _ _) (Rat.sub_eq_add_neg _ _)
 | 2, ho => cases ho; exact play_2 hG h1 h2 h3 h4 hp hq hr hs ha hb rfl rfl
 | 3, ho =>
  obtain ⟨h0, ho⟩ := divS_some ho
  cases ho; exact play_3 hG h1 h2 h3 h4 hp hq hr hs ha hb h0 rfl rfl
 | 4, ho => cases ho; exact play_4 hG h1 h2 h3 h4 hp hq hr hs ha hb rfl rfl
 | 5, ho => cases ho; exact play_5 hG h1 h2 h3 h4 hp hq hr hs ha hb rfl rfl
 | k + 6, _ => omega
theorem play_none {u0 u1 u2 u3 u4 u5 u6 u7 v0 v1 v2 v3 v4 v5 v6 v7 : Value} {p q r s : Rat} {k : Nat} {i : Int} {w : World} (hG : G ≤ w.heap.size) (h1 : FQ G w u0 u1 u2 u3 p) (h2 : FQ G w u4 u5 u6 u7 q) (h3 : FQ G w v0 v1 v2 v3 r) (h4 : FQ G w v4 v5 v6 v7 s) (hp : Fz p 17179869184) (hq : Fz q 17179869184) (hr : Fz r 17179869184) (hs : Fz s 17179869184) (ha : p ≤ q) (hb : r ≤ s) (hi_ : (k : Int) = i) (ho : opS k ⟨p, q⟩ ⟨r, s⟩ = none) :
  Calls Tryz.prog 7 #[.int .i64 i, .agg #[u0, u1, u2, u3, u4, u5, u6, u7], .agg #[v0, v1, v2, v3, v4, v5, v6, v7]] w fun e w' => e = .returned (.tuple #[.agg #[.int .i64 0, .slice none 0 0, .int .i64 0, .slice none 0 0, .int .i64 0, .slice none 0 0, .int .i64 0, .slice none 0 0], .int .i64 15]) ∧ Below w.heap.size w w' := by
 obtain ⟨rfl, h0⟩ := op_none ho
 subst hi_
 exact play_none3 hG h1 h2 h3 h4 hp hq hr hs ha hb h0
end Go.Proofs.YtjbfngjlepafgaaGreat
namespace Go.Proofs.YtjbfngjlepafgaaGreat
open Go.RowKit Go.Lib
variable {G : Nat}

set_option maxRecDepth 100000 in
set_option maxHeartbeats 4000000 in
theorem rop_0 {u0 u1 u2 u3 v0 v1 v2 v3 : Value} {q r : Rat} {z : Rat} {w : World} (_hG : G ≤ w.heap.size) (h1 : FQ G w u0 u1 u2 u3 q) (h2 : FQ G w v0 v1 v2 v3 r) (hx : Fz q 137438953472) (hy : Fz r 137438953472) (hz : q + r = z)  :
  Calls Tryz.prog 39 #[.int .i64 0, .agg #[u0, u1, u2, u3], .agg #[v0, v1, v2, v3]] w fun e w' => ∃ x0 x1 x2 x3, e = .returned (.tuple #[.agg #[x0, x1, x2, x3], .int .i64 0]) ∧ FQ G w' x0 x1 x2 x3 z ∧ Below w.heap.size w w' := by
 have HX := Lib.hid hx; have HY := Lib.hid hy; have HZ := Lib.hid hz
 clear hx hy hz
 have H1 : Hid (FQ G w u0 u1 u2 u3 q) := h1
 have H2 : Hid (FQ G w v0 v1 v2 v3 r) := h2
 clear h1 h2
 have M : Hid (Below w.heap.size w w) := Below.refl _ _
 go_enter Tryz.func39, Tryz.ntmps39
 go_upto_region 1 with fail
 refine nmW (((w.alloc (.cells #[u0, u1, u2, u3] 26)).alloc (.cells #[v0, v1, v2, v3] 26)).alloc (.cells #[.int .i64 0, .slice none 0 0, .int .i64 0, .slice none 0 0] 26)) fun w1 hv => ?_
 rw [← hv]
 replace M := al3W hv M
 clear hv
 refine cj4 (J2 M).1.d4 fun aa ab ac ad => ?_
 refine cj4 (J1 M).1.d4 fun ae af ag ah => ?_
 go_wp2_with fail
 clear aa ab ac ad ae af ag ah
 refine nmW (α := Rat) (q + r) fun q5 eq5 => ?_
 refine (rqAdd (G := G) (q := q) (r := r) (H1.out.keep (J3 M)) (H2.out.keep (J3 M)) HX.out HY.out).mono ?_
 rintro e w2 ⟨x_1, x_2, x_3, x_4, rfl, hd6, hb⟩
 rw [← eq5] at hd6
 have Sq5 : Hid (Fz q5 274877906945) := by show Fz q5 274877906945; rw [eq5]; exact (Fz.add HX.out HY.out)
 have Eq5 := Lib.hid eq5; clear eq5
 replace M := adM hd6 hb M
 clear hb hd6
 refine cj4 (TQ.st (M.out.1)) fun ai aj ak al => ?_
 go_upto_region 4 with fail
 clear ai aj ak al
 refine nmW (w2.alloc (.cells #[x_1, x_2, x_3, x_4] 26)) fun w3 hv => ?_
 rw [← hv]
 have ow3_ : w.heap.size + 1 + 1 < w2.heap.size := ((J1 M).1).lt
 replace M := alM hv M
 clear hv
 refine cj4 (M.out.1).d4 fun am ao ap aq => ?_
 refine cj8 (J2 M).1.c4 fun ar au av aw ax ay az ba => ?_
 refine cj4 (TQ.st (J1 M).1) fun ai aj ak al => ?_
 go_wp2_with fail
 clear am ao ap aq ar au av aw ax ay az ba ai aj ak al
 have hz : w.heap.size ≤ w.heap.size + 1 + 1 := by omega
 refine st4W (x_1) (x_2) (x_3) (x_4) (J2 M).1 (J5 M) hz fun w4 hv og hk hbw => ?_
 rw [← hv]
 replace M := Lib.hid (aI ((M.out.1).only og (by omega)) (aI ((J1 M).1.far (J2 M).1 (by rfl) (by omega) og) (aI hk (aI ((J3 M).1.only og (by omega)) (aI ((J4 M).1.only og (by omega)) hbw)))))
 clear hk hbw og hv hz
 refine bodyPost_ret (results_box2 rfl _ _ (w.heap.size + 1 + 1) 26 _ _ _ rfl (J2 M).1 Tryz.underlying26 rfl (by kernel_rfl)) rfl ?_
 exact ⟨x_1, x_2, x_3, x_4, rfl, (by have h_ := (J1 M).1; rw [Eq5.out] at h_; rw [HZ.out] at h_; exact h_), (J5 M)⟩
set_option maxRecDepth 100000 in
set_option maxHeartbeats 4000000 in
theorem rop_1 {u0 u1 u2 u3 v0 v1 v2 v3 : Value} {q r : Rat} {z : Rat} {w : World} (_hG : G ≤ w.heap.size) (h1 : FQ G w u0 u1 u2 u3 q) (h2 : FQ G w v0 v1 v2 v3 r) (hx : Fz q 137438953472) (hy : Fz r 137438953472) (hz : q - r = z)  :
  Calls Tryz.prog 39 #[.int .i64 1, .agg #[u0, u1, u2, u3], .agg #[v0, v1, v2, v3]] w fun e w' => ∃ x0 x1 x2 x3, e = .returned (.tuple #[.agg #[x0, x1, x2, x3], .int .i64 0]) ∧ FQ G w' x0 x1 x2 x3 z ∧ Below w.heap.size w w' := by
 have HX := Lib.hid hx; have HY := Lib.hid hy; have HZ := Lib.hid hz
 clear hx hy hz
 have H1 : Hid (FQ G w u0 u1 u2 u3 q) := h1
 have H2 : Hid (FQ G w v0 v1 v2 v3 r) := h2
 clear h1 h2
 have M : Hid (Below w.heap.size w w) := Below.refl _ _
 go_enter Tryz.func39, Tryz.ntmps39
 go_upto_region 1 with fail
 refine nmW (((w.alloc (.cells #[u0, u1, u2, u3] 26)).alloc (.cells #[v0, v1, v2, v3] 26)).alloc (.cells #[.int .i64 0, .slice none 0 0, .int .i64 0, .slice none 0 0] 26)) fun w1 hv => ?_
 rw [← hv]
 replace M := al3W hv M
 clear hv
 refine cj4 (J2 M).1.d4 fun aa ab ac ad => ?_
 refine cj4 (J1 M).1.d4 fun ae af ag ah => ?_
 go_wp2_with fail
 clear aa ab ac ad ae af ag ah
 refine nmW (α := Rat) (q - r) fun q5 eq5 => ?_
 refine (rqSub (G := G) (q := q) (r := r) (H1.out.keep (J3 M)) (H2.out.keep (J3 M)) HX.out HY.out).mono ?_
 rintro e w2 ⟨x_1, x_2, x_3, x_4, rfl, hd6, hb⟩
 rw [← eq5] at hd6
 have Sq5 : Hid (Fz q5 274877906945) := by show Fz q5 274877906945; rw [eq5]; exact (Fz.sub HX.out HY.out)
 have Eq5 := Lib.hid eq5; clear eq5
 replace M := adM hd6 hb M
 clear hb hd6
 refine cj4 (TQ.st (M.out.1)) fun ai aj ak al => ?_
 go_upto_region 7 with fail
 clear ai aj ak al
 refine nmW (w2.alloc (.cells #[x_1, x_2, x_3, x_4] 26)) fun w3 hv => ?_
 rw [← hv]
 have ow3_ : w.heap.size + 1 + 1 < w2.heap.size := ((J1 M).1).lt
 replace M := alM hv M
 clear hv
 refine cj4 (M.out.1).d4 fun am ao ap aq => ?_
 refine cj8 (J2 M).1.c4 fun ar au av aw ax ay az ba => ?_
 refine cj4 (TQ.st (J1 M).1) fun ai aj ak al => ?_
 go_wp2_with fail
 clear am ao ap aq ar au av aw ax ay az ba ai aj ak al
 have hz : w.heap.size ≤ w.heap.size + 1 + 1 := by omega
 refine st4W (x_1) (x_2) (x_3) (x_4) (J2 M).1 (J5 M) hz fun w4 hv og hk hbw => ?_
 rw [← hv]
 replace M := Lib.hid (aI ((M.out.1).only og (by omega)) (aI ((J1 M).1.far (J2 M).1 (by rfl) (by omega) og) (aI hk (aI ((J3 M).1.only og (by omega)) (aI ((J4 M).1.only og (by omega)) hbw)))))
 clear hk hbw og hv hz
 refine bodyPost_ret (results_box2 rfl _ _ (w.heap.size + 1 + 1) 26 _ _ _ rfl (J2 M).1 Tryz.underlying26 rfl (by kernel_rfl)) rfl ?_
 exact ⟨x_1, x_2, x_3, x_4, rfl, (by have h_ := (J1 M).1; rw [Eq5.out] at h_; rw [HZ.out] at h_; exact h_), (J5 M)⟩
set_option maxRecDepth 100000 in
set_option maxHeartbeats 4000000 in
theorem rop_2 {u0 u1 u2 u3 v0 v1 v2 v3 : Value} {q r : Rat} {z : Rat} {w : World} (hG : G ≤ w.heap.size) (h1 : FQ G w u0 u1 u2 u3 q) (h2 : FQ G w v0 v1 v2 v3 r) (hx : Fz q 137438953472) (hy : Fz r 137438953472) (hz : q * r = z)  :
  Calls Tryz.prog 39 #[.int .i64 2, .agg #[u0, u1, u2, u3], .agg #[v0, v1, v2, v3]] w fun e w' => ∃ x0 x1 x2 x3, e = .returned (.tuple #[.agg #[x0, x1, x2, x3], .int .i64 0]) ∧ FQ G w' x0 x1 x2 x3 z ∧ Below w.heap.size w w' := by
 have HX := Lib.hid hx; have HY := Lib.hid hy; have HZ := Lib.hid hz
 clear hx hy hz
 have H1 : Hid (FQ G w u0 u1 u2 u3 q) := h1
 have H2 : Hid (FQ G w v0 v1 v2 v3 r) := h2
 clear h1 h2
 have M : Hid (Below w.heap.size w w) := Below.refl _ _
 go_enter Tryz.func39, Tryz.ntmps39
 go_upto_region 1 with fail
 refine nmW (((w.alloc (.cells #[u0, u1, u2, u3] 26)).alloc (.cells #[v0, v1, v2, v3] 26)).alloc (.cells #[.int .i64 0, .slice none 0 0, .int .i64 0, .slice none 0 0] 26)) fun w1 hv => ?_
 rw [← hv]
 replace M := al3W hv M
 clear hv
 refine cj4 (J2 M).1.d4 fun aa ab ac ad => ?_
 refine cj4 (J1 M).1.d4 fun ae af ag ah => ?_
 go_wp2_with fail
 clear aa ab ac ad ae af ag ah
 refine nmW (α := Rat) (q * r) fun q5 eq5 => ?_
 refine (rqMul (G := G) (q := q) (r := r) (Nat.le_trans hG (J3 M).size) (H1.out.keep (J3 M)) (H2.out.keep (J3 M)) HX.out HY.out).mono ?_
 rintro e w2 ⟨x_1, x_2, x_3, x_4, rfl, hd6, hb⟩
 rw [← eq5] at hd6
 have Sq5 : Hid (Fz q5 274877906944) := by show Fz q5 274877906944; rw [eq5]; exact (Fz.mul HX.out HY.out)
 have Eq5 := Lib.hid eq5; clear eq5
 replace M := adM hd6 hb M
 clear hb hd6
 refine cj4 (TQ.st (M.out.1)) fun ai aj ak al => ?_
 go_upto_region 10 with fail
 clear ai aj ak al
 refine nmW (w2.alloc (.cells #[x_1, x_2, x_3, x_4] 26)) fun w3 hv => ?_
 rw [← hv]
 have ow3_ : w.heap.size + 1 + 1 < w2.heap.size := ((J1 M).1).lt
 replace M := alM hv M
 clear hv
 refine cj4 (M.out.1).d4 fun am ao ap aq => ?_
 refine cj8 (J2 M).1.c4 fun ar au av aw ax ay az ba => ?_
 refine cj4 (TQ.st (J1 M).1) fun ai aj ak al => ?_
 go_wp2_with fail
 clear am ao ap aq ar au av aw ax ay az ba ai aj ak al
 have hz : w.heap.size ≤ w.heap.size + 1 + 1 := by omega
 refine st4W (x_1) (x_2) (x_3) (x_4) (J2 M).1 (J5 M) hz fun w4 hv og hk hbw => ?_
 rw [← hv]
 replace M := Lib.hid (aI ((M.out.1).only og (by omega)) (aI ((J1 M).1.far (J2 M).1 (by rfl) (by omega) og) (aI hk (aI ((J3 M).1.only og (by omega)) (aI ((J4 M).1.only og (by omega)) hbw)))))
 clear hk hbw og hv hz
 refine bodyPost_ret (results_box2 rfl _ _ (w.heap.size + 1 + 1) 26 _ _ _ rfl (J2 M).1 Tryz.underlying26 rfl (by kernel_rfl)) rfl ?_
 exact ⟨x_1, x_2, x_3, x_4, rfl, (by have h_ := (J1 M).1; rw [Eq5.out] at h_; rw [HZ.out] at h_; exact h_), (J5 M)⟩
set_option maxRecDepth 100000 in
set_option maxHeartbeats 4000000 in
theorem rop_3 {u0 u1 u2 u3 v0 v1 v2 v3 : Value} {q r : Rat} {z : Rat} {w : World} (hG : G ≤ w.heap.size) (h1 : FQ G w u0 u1 u2 u3 q) (h2 : FQ G w v0 v1 v2 v3 r) (hx : Fz q 137438953472) (hy : Fz r 137438953472) (h0 : r ≠ 0) (hz : q / r = z)  :
  Calls Tryz.prog 39 #[.int .i64 3, .agg #[u0, u1, u2, u3], .agg #[v0, v1, v2, v3]] w fun e w' => ∃ x0 x1 x2 x3, e = .returned (.tuple #[.agg #[x0, x1, x2, x3], .int .i64 0]) ∧ FQ G w' x0 x1 x2 x3 z ∧ Below w.heap.size w w' := by
 have H0 := Lib.hid h0; clear h0
 have HX := Lib.hid hx; have HY := Lib.hid hy; have HZ := Lib.hid hz
 clear hx hy hz
 have H1 : Hid (FQ G w u0 u1 u2 u3 q) := h1
 have H2 : Hid (FQ G w v0 v1 v2 v3 r) := h2
 clear h1 h2
 have M : Hid (Below w.heap.size w w) := Below.refl _ _
 go_enter Tryz.func39, Tryz.ntmps39
 go_upto_region 1 with fail
 refine nmW (((w.alloc (.cells #[u0, u1, u2, u3] 26)).alloc (.cells #[v0, v1, v2, v3] 26)).alloc (.cells #[.int .i64 0, .slice none 0 0, .int .i64 0, .slice none 0 0] 26)) fun w1 hv => ?_
 rw [← hv]
 replace M := al3W hv M
 clear hv
 refine cj4 (J2 M).1.d4 fun aa ab ac ad => ?_
 refine cj4 (J1 M).1.d4 fun ae af ag ah => ?_
 go_wp2_with fail
 clear aa ab ac ad ae af ag ah
 refine nmW (α := Rat) (q / r) fun q5 eq5 => ?_
 refine (rqDiv (G := G) (q := q) (r := r) (Nat.le_trans hG (J3 M).size) (H1.out.keep (J3 M)) (H2.out.keep (J3 M)) HX.out HY.out H0.out).mono ?_
 rintro e w2 ⟨x_1, x_2, x_3, x_4, rfl, hd6, hb⟩
 rw [← eq5] at hd6
 have Sq5 : Hid (Fz q5 274877906944) := by show Fz q5 274877906944; rw [eq5]; exact (Fz.div HX.out HY.out H0.out)
 have Eq5 := Lib.hid eq5; clear eq5
 replace M := adM hd6 hb M
 clear hb hd6
 refine cj4 (TQ.st (M.out.1)) fun ai aj ak al => ?_
 go_upto_region 13 with fail
 clear ai aj ak al
 refine nmW (w2.alloc (.cells #[x_1, x_2, x_3, x_4] 26)) fun w3 hv => ?_
 rw [← hv]
 have ow3_ : w.heap.size + 1 + 1 < w2.heap.size := ((J1 M).1).lt
 replace M := alM hv M
 clear hv
 refine cj4 (M.out.1).d4 fun am ao ap aq => ?_
 refine cj8 (J2 M).1.c4 fun ar au av aw ax ay az ba => ?_
 refine cj4 (TQ.st (J1 M).1) fun ai aj ak al => ?_
 go_wp2_with fail
 clear am ao ap aq ar au av aw ax ay az ba ai aj ak al
 have hz : w.heap.size ≤ w.heap.size + 1 + 1 := by omega
 refine st4W (x_1) (x_2) (x_3) (x_4) (J2 M).1 (J5 M) hz fun w4 hv og hk hbw => ?_
 rw [← hv]
 replace M := Lib.hid (aI ((M.out.1).only og (by omega)) (aI ((J1 M).1.far (J2 M).1 (by rfl) (by omega) og) (aI hk (aI ((J3 M).1.only og (by omega)) (aI ((J4 M).1.only og (by omega)) hbw)))))
 clear hk hbw og hv hz
 refine bodyPost_ret (results_box2 rfl _ _ (w.heap.size + 1 + 1) 26 _ _ _ rfl (J2 M).1 Tryz.underlying26 rfl (by kernel_rfl)) rfl ?_
 exact ⟨x_1, x_2, x_3, x_4, rfl, (by have h_ := (J1 M).1; rw [Eq5.out] at h_; rw [HZ.out] at h_; exact h_), (J5 M)⟩
set_option maxRecDepth 100000 in
set_option maxHeartbeats 4000000 in
theorem rop_4 {u0 u1 u2 u3 v0 v1 v2 v3 : Value} {q r : Rat} {z : Rat} {w : World} (hG : G ≤ w.heap.size) (h1 : FQ G w u0 u1 u2 u3 q) (h2 : FQ G w v0 v1 v2 v3 r) (hx : Fz q 137438953472) (hy : Fz r 137438953472) (hz : minQ q r = z)  :
  Calls Tryz.prog 39 #[.int .i64 4, .agg #[u0, u1, u2, u3], .agg #[v0, v1, v2, v3]] w fun e w' => ∃ x0 x1 x2 x3, e = .returned (.tuple #[.agg #[x0, x1, x2, x3], .int .i64 0]) ∧ FQ G w' x0 x1 x2 x3 z ∧ Below w.heap.size w w' := by
 have HX := Lib.hid hx; have HY := Lib.hid hy; have HZ := Lib.hid hz
 have HZS : Hid (Fz z 137438953472) := by show Fz _ _; rw [← hz]; exact Fz.minQ hx hy
 clear hx hy hz
 have H1 : Hid (FQ G w u0 u1 u2 u3 q) := h1
 have H2 : Hid (FQ G w v0 v1 v2 v3 r) := h2
 clear h1 h2
 have M : Hid (Below w.heap.size w w) := Below.refl _ _
 go_enter Tryz.func39, Tryz.ntmps39
 go_upto_region 1 with fail
 refine nmW (((w.alloc (.cells #[u0, u1, u2, u3] 26)).alloc (.cells #[v0, v1, v2, v3] 26)).alloc (.cells #[.int .i64 0, .slice none 0 0, .int .i64 0, .slice none 0 0] 26)) fun w1 hv => ?_
 rw [← hv]
 replace M := al3W hv M
 clear hv
 refine cj4 (J2 M).1.d4 fun aa ab ac ad => ?_
 refine cj4 (J1 M).1.d4 fun ae af ag ah => ?_
 go_wp2_with fail
 clear aa ab ac ad ae af ag ah
 refine (rqMin (G := G) (q := q) (r := r) (m := z) (Nat.le_trans hG (J3 M).size) (H1.out.keep (J3 M)) (H2.out.keep (J3 M)) HX.out HY.out HZ.out).mono ?_
 rintro e w2 ⟨x_1, x_2, x_3, x_4, rfl, hd5, hb⟩
 replace M := adM hd5 hb M
 clear hb hd5
 refine cj4 (TQ.st (M.out.1)) fun ai aj ak al => ?_
 go_upto_region 16 with fail
 clear ai aj ak al
 refine nmW (w2.alloc (.cells #[x_1, x_2, x_3, x_4] 26)) fun w3 hv => ?_
 rw [← hv]
 have ow3_ : w.heap.size + 1 + 1 < w2.heap.size := ((J1 M).1).lt
 replace M := alM hv M
 clear hv
 refine cj4 (M.out.1).d4 fun am ao ap aq => ?_
 refine cj8 (J2 M).1.c4 fun ar au av aw ax ay az ba => ?_
 refine cj4 (TQ.st (J1 M).1) fun ai aj ak al => ?_
 go_wp2_with fail
 clear am ao ap aq ar au av aw ax ay az ba ai aj ak al
 have hz : w.heap.size ≤ w.heap.size + 1 + 1 := by omega
 refine st4W (x_1) (x_2) (x_3) (x_4) (J2 M).1 (J5 M) hz fun w4 hv og hk hbw => ?_
 rw [← hv]
 replace M := Lib.hid (aI ((M.out.1).only og (by omega)) (aI ((J1 M).1.far (J2 M).1 (by rfl) (by omega) og) (aI hk (aI ((J3 M).1.only og (by omega)) (aI ((J4 M).1.only og (by omega)) hbw)))))
 clear hk hbw og hv hz
 refine bodyPost_ret (results_box2 rfl _ _ (w.heap.size + 1 + 1) 26 _ _ _ rfl (J2 M).1 Tryz.underlying26 rfl (by kernel_rfl)) rfl ?_
 exact ⟨x_1, x_2, x_3, x_4, rfl, (J1 M).1, (J5 M)⟩
set_option maxRecDepth 100000 in
set_option maxHeartbeats 4000000 in
theorem rop_5 {u0 u1 u2 u3 v0 v1 v2 v3 : Value} {q r : Rat} {z : Rat} {w : World} (hG : G ≤ w.heap.size) (h1 : FQ G w u0 u1 u2 u3 q) (h2 : FQ G w v0 v1 v2 v3 r) (hx : Fz q 137438953472) (hy : Fz r 137438953472) (hz : maxQ q r = z)  :
  Calls Tryz.prog 39 #[.int .i64 5, .agg #[u0, u1, u2, u3], .agg #[v0, v1, v2, v3]] w fun e w' => ∃ x0 x1 x2 x3, e = .returned (.tuple #[.agg #[x0, x1, x2, x3], .int .i64 0]) ∧ FQ G w' x0 x1 x2 x3 z ∧ Below w.heap.size w w' := by
 have HX := Lib.hid hx; have HY := Lib.hid hy; have HZ := Lib.hid hz
 have HZS : Hid (Fz z 137438953472) := by show Fz _ _; rw [← hz]; exact Fz.maxQ hx hy
 clear hx hy hz
 have H1 : Hid (FQ G w u0 u1 u2 u3 q) := h1
 have H2 : Hid (FQ G w v0 v1 v2 v3 r) := h2
 clear h1 h2
 have M : Hid (Below w.heap.size w w) := Below.refl _ _
 go_enter Tryz.func39, Tryz.ntmps39
 go_upto_region 1 with fail
 refine nmW (((w.alloc (.cells #[u0, u1, u2, u3] 26)).alloc (.cells #[v0, v1, v2, v3] 26)).alloc (.cells #[.int .i64 0, .slice none 0 0, .int .i64 0, .slice none 0 0] 26)) fun w1 hv => ?_
 rw [← hv]
 replace M := al3W hv M
 clear hv
 refine cj4 (J2 M).1.d4 fun aa ab ac ad => ?_
 refine cj4 (J1 M).1.d4 fun ae af ag ah => ?_
 go_wp2_with fail
 clear aa ab ac ad ae af ag ah
 refine (rqMax (G := G) (q := q) (r := r) (m := z) (Nat.le_trans hG (J3 M).size) (H1.out.keep (J3 M)) (H2.out.keep (J3 M)) HX.out HY.out HZ.out).mono ?_
 rintro e w2 ⟨x_1, x_2, x_3, x_4, rfl, hd5, hb⟩
 replace M := adM hd5 hb M
 clear hb hd5
 refine cj4 (TQ.st (M.out.1)) fun ai aj ak al => ?_
 go_upto_region 18 with fail
 clear ai aj ak al
 refine nmW (w2.alloc (.cells #[x_1, x_2, x_3, x_4] 26)) fun w3 hv => ?_
 rw [← hv]
 have ow3_ : w.heap.size + 1 + 1 < w2.heap.size := ((J1 M).1).lt
 replace M := alM hv M
 clear hv
 refine cj4 (M.out.1).d4 fun am ao ap aq => ?_
 refine cj8 (J2 M).1.c4 fun ar au av aw ax ay az ba => ?_
 refine cj4 (TQ.st (J1 M).1) fun ai aj ak al => ?_
 go_wp2_with fail
 clear am ao ap aq ar au av aw ax ay az ba ai aj ak al
 have hz : w.heap.size ≤ w.heap.size + 1 + 1 := by omega
 refine st4W (x_1) (x_2) (x_3) (x_4) (J2 M).1 (J5 M) hz fun w4 hv og hk hbw => ?_
 rw [← hv]
 replace M := Lib.hid (aI ((M.out.1).only og (by omega)) (aI ((J1 M).1.far (J2 M).1 (by rfl) (by omega) og) (aI hk (aI ((J3 M).1.only og (by omega)) (aI ((J4 M).1.only og (by omega)) hbw)))))
 clear hk hbw og hv hz
 refine bodyPost_ret (results_box2 rfl _ _ (w.heap.size + 1 + 1) 26 _ _ _ rfl (J2 M).1 Tryz.underlying26 rfl (by kernel_rfl)) rfl ?_
 exact ⟨x_1, x_2, x_3, x_4, rfl, (J1 M).1, (J5 M)⟩
theorem rop_some {k : Nat} {u0 u1 u2 u3 v0 v1 v2 v3 : Value} {q r : Rat} {z : Rat} {i : Int} {w : World} (hG : G ≤ w.heap.size) (h1 : FQ G w u0 u1 u2 u3 q) (h2 : FQ G w v0 v1 v2 v3 r) (hx : Fz q 137438953472) (hy : Fz r 137438953472) (hk : k < 6) (hi_ : (k : Int) = i) (ho : calcQ k q r = some z) :
    Calls Tryz.prog 39 #[.int .i64 i, .agg #[u0, u1, u2, u3], .agg #[v0, v1, v2, v3]] w fun e w' => ∃ x0 x1 x2 x3, e = .returned (.tuple #[.agg #[x0, x1, x2, x3], .int .i64 0]) ∧ FQ G w' x0 x1 x2 x3 z ∧ Below w.heap.size w w' := by
  subst hi_
  match k, ho with
  | 0, ho => cases ho; exact rop_0 hG h1 h2 hx hy rfl
  | 1, ho => cases ho; exact rop_1 hG h1 h2 hx hy rfl
  | 2, ho => cases ho; exact rop_2 hG h1 h2 hx hy rfl
  | 3, ho =>
    have ho' : (if r = 0 then none else some (q / r)) = some z := ho
    by_cases h0 : r = 0
    · rw [if_pos h0] at ho'; cases ho'
    · rw [if_neg h0] at ho'; cases ho'; exact rop_3 hG h1 h2 hx hy h0 rfl
  | 4, ho => cases ho; exact rop_4 hG h1 h2 hx hy rfl
  | 5, ho => cases ho; exact rop_5 hG h1 h2 hx hy rfl
  | k + 6, _ => omega
/-- The least of a list. -/
theorem foldl_min_le : ∀ (l : List Rat) (y : Rat), l.foldl minQ y ≤ y ∧ ∀ x ∈ l, l.foldl minQ y ≤ x
  | [], y => ⟨Rat.le_refl, fun x hx => by simp at hx⟩
  | a :: l, y => by
    have ih := foldl_min_le l (minQ y a)
    rw [List.foldl_cons]
    refine ⟨Rat.le_trans ih.1 (minQ_le1 _ _), fun x hx => ?_⟩
    rcases List.mem_cons.1 hx with rfl | hx
    · exact Rat.le_trans ih.1 (minQ_le2 _ _)
    · exact ih.2 x hx
theorem foldl_min_mem : ∀ (l : List Rat) (y : Rat), l.foldl minQ y = y ∨ l.foldl minQ y ∈ l
  | [], y => .inl rfl
  | a :: l, y => by
    rw [List.foldl_cons]
    rcases foldl_min_mem l (minQ y a) with h | h
    · rw [h]; rcases minQ_or y a with h' | h'
      · exact .inl h'
      · exact .inr (by rw [h']; simp)
    · exact .inr (by simp [h])
theorem foldl_max_le : ∀ (l : List Rat) (y : Rat), y ≤ l.foldl maxQ y ∧ ∀ x ∈ l, x ≤ l.foldl maxQ y
  | [], y => ⟨Rat.le_refl, fun x hx => by simp at hx⟩
  | a :: l, y => by
    have ih := foldl_max_le l (maxQ y a)
    rw [List.foldl_cons]
    refine ⟨Rat.le_trans (le_maxQ1 _ _) ih.1, fun x hx => ?_⟩
    rcases List.mem_cons.1 hx with rfl | hx
    · exact Rat.le_trans (le_maxQ2 _ _) ih.1
    · exact ih.2 x hx
theorem foldl_max_mem : ∀ (l : List Rat) (y : Rat), l.foldl maxQ y = y ∨ l.foldl maxQ y ∈ l
  | [], y => .inl rfl
  | a :: l, y => by
    rw [List.foldl_cons]
    rcases foldl_max_mem l (maxQ y a) with h | h
    · rw [h]; rcases maxQ_or y a with h' | h'
      · exact .inl h'
      · exact .inr (by rw [h']; simp)
    · exact .inr (by simp [h])
theorem minL_eq {l : List Rat} {m : Rat} (h : ∀ x ∈ l, m ≤ x) (hm : m ∈ l) : minL l = m := by
  cases l with
  | nil => simp at hm
  | cons y r =>
    have h1 := foldl_min_le r y
    have h2 : minL (y :: r) ≤ m := by
      rcases List.mem_cons.1 hm with rfl | hm
      · exact h1.1
      · exact h1.2 m hm
    have h3 : m ≤ minL (y :: r) := by
      rcases foldl_min_mem r y with h4 | h4
      · show m ≤ r.foldl minQ y; rw [h4]; exact h y (by simp)
      · exact h _ (by simp [minL, h4])
    exact Rat.le_antisymm h2 h3
theorem maxL_eq {l : List Rat} {m : Rat} (h : ∀ x ∈ l, x ≤ m) (hm : m ∈ l) : maxL l = m := by
  cases l with
  | nil => simp at hm
  | cons y r =>
    have h1 := foldl_max_le r y
    have h2 : m ≤ maxL (y :: r) := by
      rcases List.mem_cons.1 hm with rfl | hm
      · exact h1.1
      · exact h1.2 m hm
    have h3 : maxL (y :: r) ≤ m := by
      rcases foldl_max_mem r y with h4 | h4
      · show r.foldl maxQ y ≤ m; rw [h4]; exact h y (by simp)
      · exact h _ (by simp [maxL, h4])
    exact Rat.le_antisymm h3 h2
/-- The results for the ends, and the least span around them. -/
theorem both_ends {k : Nat} {p q r s lo hi : Rat} (ha : p ≤ q) (hb : r ≤ s) (h : opS k ⟨p, q⟩ ⟨r, s⟩ = some ⟨lo, hi⟩) :
    ∃ z0 z1 z2 z3, calcQ k p r = some z0 ∧ calcQ k q r = some z1 ∧ calcQ k p s = some z2 ∧ calcQ k q s = some z3 ∧ minL [z0, z1, z2, z3] = lo ∧ maxL [z0, z1, z2, z3] = hi := by
  have pa := has_lo (a := ⟨p, q⟩) ha; have qa := has_hi (a := ⟨p, q⟩) ha
  have rb := has_lo (a := ⟨r, s⟩) hb; have sb := has_hi (a := ⟨r, s⟩) hb
  obtain ⟨z0, e0, i0⟩ := op_has (b := ⟨r, s⟩) hb pa rb h
  obtain ⟨z1, e1, i1⟩ := op_has (b := ⟨r, s⟩) hb qa rb h
  obtain ⟨z2, e2, i2⟩ := op_has (b := ⟨r, s⟩) hb pa sb h
  obtain ⟨z3, e3, i3⟩ := op_has (b := ⟨r, s⟩) hb qa sb h
  have hall : ∀ j, j < 4 → ∀ v, calcQ k (endA ⟨p, q⟩ j) (endB ⟨r, s⟩ j) = some v → v ∈ [z0, z1, z2, z3] := by
    intro j hj v hv
    match j, hj with
    | 0, _ => have hv' : calcQ k p r = some v := hv; rw [e0] at hv'; cases hv'; simp
    | 1, _ => have hv' : calcQ k q r = some v := hv; rw [e1] at hv'; cases hv'; simp
    | 2, _ => have hv' : calcQ k p s = some v := hv; rw [e2] at hv'; cases hv'; simp
    | 3, _ => have hv' : calcQ k q s = some v := hv; rw [e3] at hv'; cases hv'; simp
    | j + 4, hj => omega
  obtain ⟨j, hj, ej⟩ := op_met (b := ⟨r, s⟩) (v := lo) hb h (.inl rfl)
  obtain ⟨j', hj', ej'⟩ := op_met (b := ⟨r, s⟩) (v := hi) hb h (.inr rfl)
  refine ⟨z0, z1, z2, z3, e0, e1, e2, e3, minL_eq ?_ (hall j hj _ ej), maxL_eq ?_ (hall j' hj' _ ej')⟩
  · intro x hx
    simp at hx
    rcases hx with rfl | rfl | rfl | rfl
    · exact i0.1
    · exact i1.1
    · exact i2.1
    · exact i3.1
  · intro x hx
    simp at hx
    rcases hx with rfl | rfl | rfl | rfl
    · exact i0.2
    · exact i1.2
    · exact i2.2
    · exact i3.2
theorem raround_four {p q r s lo hi : Rat} {a : Option Addr} {c : Nat} {w : World} (hG : G ≤ w.heap.size) (h : Sl G w a [p, q, r, s]) (h1 : Fz p 137438953472) (h2 : Fz q 137438953472) (h3 : Fz r 137438953472) (h4 : Fz s 137438953472) (hl : minL [p, q, r, s] = lo) (hh : maxL [p, q, r, s] = hi) :
    Calls Tryz.prog 40 #[.slice a 4 c] w fun e w' => ∃ x0 x1 x2 x3 x4 x5 x6 x7, e = .returned (.agg #[x0, x1, x2, x3, x4, x5, x6, x7]) ∧ FQ G w' x0 x1 x2 x3 lo ∧ FQ G w' x4 x5 x6 x7 hi ∧ Below w.heap.size w w' := by
  subst hl hh
  rcases h with h | ⟨b, off, rfl, h⟩
  · cases h
  · exact raround_ok (l := [p, q, r, s]) hG h (by simp) (by simp) (fun x hx => by simp at hx; rcases hx with rfl | rfl | rfl | rfl <;> assumption)
theorem ls_of_fs {w : World} {b off : Nat} {l : List Rat} (h : Fs G w b off l) : Ls G w b off l := fun k hk => by
 obtain ⟨u0, u1, u2, u3, h1, h2⟩ := h k hk
 exact ⟨_, h1, u0, u1, u2, u3, rfl, h2⟩
set_option maxRecDepth 100000 in
set_option maxHeartbeats 4000000 in
theorem rsHull_q0 {u0 u1 u2 u3 u4 u5 u6 u7 v0 v1 v2 v3 v4 v5 v6 v7 : Value} {p q r s : Rat} {lo hi : Rat} {w : World} (hG : G ≤ w.heap.size) (h1 : FQ G w u0 u1 u2 u3 p) (h2 : FQ G w u4 u5 u6 u7 q) (h3 : FQ G w v0 v1 v2 v3 r) (h4 : FQ G w v4 v5 v6 v7 s) (hp : Fz p 34359738368) (hq : Fz q 34359738368) (hr : Fz r 34359738368) (hs : Fz s 34359738368) (ha : p ≤ q) (hb : r ≤ s) (hlo : minL [p, q, r, s] = lo) (hhi : maxL [p, q, r, s] = hi)  :
  Calls Tryz.prog 11 #[.agg #[u0, u1, u2, u3, u4, u5, u6, u7], .agg #[v0, v1, v2, v3, v4, v5, v6, v7]] w fun e w' => ∃ x0 x1 x2 x3 x4 x5 x6 x7, e = .returned (.tuple #[.agg #[x0, x1, x2, x3, x4, x5, x6, x7], .int .i64 0]) ∧ FQ G w' x0 x1 x2 x3 lo ∧ FQ G w' x4 x5 x6 x7 hi ∧ Below w.heap.size w w' := by
 have HP := Lib.hid hp; have HQ := Lib.hid hq; have HR := Lib.hid hr; have HS := Lib.hid hs; have HA := Lib.hid (decide_eq_true ha); have HB := Lib.hid (decide_eq_true hb); have HAA := Lib.hid ha; have HBB := Lib.hid hb; clear hp hq hr hs ha hb
 have HLO := Lib.hid hlo; have HHI := Lib.hid hhi; clear hlo hhi
 have H1 : Hid (FQ G w u0 u1 u2 u3 p) := h1
 have H2 : Hid (FQ G w u4 u5 u6 u7 q) := h2
 have H3 : Hid (FQ G w v0 v1 v2 v3 r) := h3
 have H4 : Hid (FQ G w v4 v5 v6 v7 s) := h4
 clear h1 h2 h3 h4
 have M : Hid (Below w.heap.size w w) := Below.refl _ _
 go_enter Tryz.func11, Tryz.ntmps11
 go_upto_region 1 with fail
 refine nmW (((w.alloc (.cells #[u0, u1, u2, u3, u4, u5, u6, u7] 28)).alloc (.cells #[v0, v1, v2, v3, v4, v5, v6, v7] 28)).alloc (.cells #[.int .i64 0, .slice none 0 0, .int .i64 0, .slice none 0 0, .int .i64 0, .slice none 0 0, .int .i64 0, .slice none 0 0] 28)) fun w1 hv => ?_
 rw [← hv]
 replace M := al3W hv M
 clear hv
 refine cj8 (J2 M).1.d8 fun aa ab ac ad ae af ag ah => ?_
 go_wp2_with fail
 clear aa ab ac ad ae af ag ah
 refine (rsRight_q (G := G) (p := p) (q := q) (b_ := true) (H1.out.keep (J3 M)) (H2.out.keep (J3 M)) (Fz.mono HP.out (by omega)) (Fz.mono HQ.out (by omega)) HA.out).mono ?_
 rintro e w2 ⟨rfl, hb⟩
 replace M := gnM hb M
 clear hb
 refine cj8 (J1 M).1.d8 fun ai aj ak al am ao ap aq => ?_
 go_wp2_with fail
 clear ai aj ak al am ao ap aq
 refine (rsRight_q (G := G) (p := r) (q := s) (b_ := true) (H3.out.keep (J3 M)) (H4.out.keep (J3 M)) (Fz.mono HR.out (by omega)) (Fz.mono HS.out (by omega)) HB.out).mono ?_
 rintro e w3 ⟨rfl, hb⟩
 replace M := gnM hb M
 clear hb
 refine cj8 (J2 M).1.d8 fun aa ab ac ad ae af ag ah => ?_
 have z0 : w.heap.size < w3.heap.size := (J2 M).1.lt
 refine cj8 (J1 M).1.d8 fun ai aj ak al am ao ap aq => ?_
 have z1 : w.heap.size + 1 < w3.heap.size := (J1 M).1.lt
 go_wp2_with fail
 clear aa ab ac ad ae af ag ah z0 ai aj ak al am ao ap aq z1
 refine nmW (w3.alloc (.cells #[u0, u1, u2, u3, u4, u5, u6, u7, v0, v1, v2, v3, v4, v5, v6, v7] 26)) fun w4 hv => ?_
 rw [← hv]
 have ow3_ : w.heap.size + 1 + 1 < w3.heap.size := ((M.out.1)).lt
 replace M := alM hv M
 clear hv
 refine (raround_four (G := G) (p := p) (q := q) (r := r) (s := s) (lo := lo) (hi := hi) (Nat.le_trans hG (J4 M).size) (.inr ⟨_, 0, rfl, ls_of_fs (fs_four (M.out.1) (H1.out.keep (J4 M)) (H2.out.keep (J4 M)) (H3.out.keep (J4 M)) (H4.out.keep (J4 M)))⟩) (Fz.mono HP.out (by omega)) (Fz.mono HQ.out (by omega)) (Fz.mono HR.out (by omega)) (Fz.mono HS.out (by omega)) HLO.out HHI.out).mono ?_
 rintro e w5 ⟨x_1, x_2, x_3, x_4, x_5, x_6, x_7, x_8, rfl, hd9, hd10, hb⟩
 replace M := ad2M hd9 hd10 hb M
 clear hb hd9 hd10
 refine cj16 (J3 M).1.c8 fun ar au av aw ax ay az ba bb bc bd bf bg bh bi bj => ?_
 refine cj4 (TQ.st (M.out.1)) fun bk bl bm bn => ?_
 refine cj4 (TQ.st (J1 M).1) fun bo bp bq br => ?_
 go_wp2_with fail
 clear ar au av aw ax ay az ba bb bc bd bf bg bh bi bj bk bl bm bn bo bp bq br
 have hz : w.heap.size ≤ w.heap.size + 1 + 1 := by omega
 refine st8W (x_1) (x_2) (x_3) (x_4) (x_5) (x_6) (x_7) (x_8) (J3 M).1 (J6 M) hz fun w6 hv og hk hbw => ?_
 rw [← hv]
 replace M := Lib.hid (aI ((M.out.1).far (J3 M).1 (by rfl) (by omega) og) (aI ((J1 M).1.far (J3 M).1 (by rfl) (by omega) og) (aI ((J2 M).1.only og (by omega)) (aI hk (aI ((J4 M).1.only og (by omega)) (aI ((J5 M).1.only og (by omega)) hbw))))))
 clear hk hbw og hv hz
 refine bodyPost_ret (results_box2 rfl _ _ (w.heap.size + 1 + 1) 28 _ _ _ rfl (J3 M).1 Tryz.underlying28 rfl (by kernel_rfl)) rfl ?_
 exact ⟨x_1, x_2, x_3, x_4, x_5, x_6, x_7, x_8, rfl, (M.out.1), (J1 M).1, (J6 M)⟩
theorem minL_four (p q r s : Rat) : minL [p, q, r, s] = min4 p q r s := by simp only [minL, min4, List.foldl]
theorem maxL_four (p q r s : Rat) : maxL [p, q, r, s] = max4 p q r s := by simp only [maxL, max4, List.foldl]
theorem rsHull_q {u0 u1 u2 u3 u4 u5 u6 u7 v0 v1 v2 v3 v4 v5 v6 v7 : Value} {p q r s : Rat} {lo hi : Rat} {w : World} (hG : G ≤ w.heap.size) (h1 : FQ G w u0 u1 u2 u3 p) (h2 : FQ G w u4 u5 u6 u7 q) (h3 : FQ G w v0 v1 v2 v3 r) (h4 : FQ G w v4 v5 v6 v7 s) (hp : Fz p 34359738368) (hq : Fz q 34359738368) (hr : Fz r 34359738368) (hs : Fz s 34359738368) (ha : p ≤ q) (hb : r ≤ s) (hlo : min4 p q r s = lo) (hhi : max4 p q r s = hi) :
  Calls Tryz.prog 11 #[.agg #[u0, u1, u2, u3, u4, u5, u6, u7], .agg #[v0, v1, v2, v3, v4, v5, v6, v7]] w fun e w' => ∃ x0 x1 x2 x3 x4 x5 x6 x7, e = .returned (.tuple #[.agg #[x0, x1, x2, x3, x4, x5, x6, x7], .int .i64 0]) ∧ FQ G w' x0 x1 x2 x3 lo ∧ FQ G w' x4 x5 x6 x7 hi ∧ Below w.heap.size w w' :=
 rsHull_q0 hG h1 h2 h3 h4 hp hq hr hs ha hb ((minL_four p q r s).trans hlo) ((maxL_four p q r s).trans hhi)
theorem calcz {k : Nat} {q r z : Rat} (hq : Fz q 8589934592) (hr : Fz r 8589934592) (h : calcQ k q r = some z) : Fz z 137438953472 := by
  match k, h with
  | 0, h => cases h; exact (hq.add hr).mono (by omega)
  | 1, h => cases h; exact (hq.sub hr).mono (by omega)
  | 2, h => cases h; exact (hq.mul hr).mono (by omega)
  | 3, h =>
    have ho' : (if r = 0 then none else some (q / r)) = some z := h
    by_cases h0 : r = 0
    · rw [if_pos h0] at ho'; cases ho'
    · rw [if_neg h0] at ho'; cases ho'; exact (hq.div hr h0).mono (by omega)
  | 4, h => cases h; exact (Fz.minQ hq hr).mono (by omega)
  | _ + 5, h => cases h; exact (Fz.maxQ hq hr).mono (by omega)
end Go.Proofs.YtjbfngjlepafgaaGreat
