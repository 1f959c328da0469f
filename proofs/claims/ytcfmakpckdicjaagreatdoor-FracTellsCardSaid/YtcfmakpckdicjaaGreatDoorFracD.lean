/- Walks: fractions: making, products, quotients, opposites, the lesser one, the integral part. -/
import Derived.Test.YtcfmakpckdicjaaGreatDoorBase
import Derived.Test.YtcfmakpckdicjaaGreatDoorBigSpec
import Derived.Test.YtcfmakpckdicjaaGreatDoorBigA
import Derived.Test.YtcfmakpckdicjaaGreatDoorBigB
import Derived.Test.YtcfmakpckdicjaaGreatDoorBigC
import Derived.Test.YtcfmakpckdicjaaGreatDoorBigD
import Derived.Test.YtcfmakpckdicjaaGreatDoorBigK
import Derived.Test.YtcfmakpckdicjaaGreatDoorBigL
import Derived.Test.YtcfmakpckdicjaaGreatDoorBigQ
import Derived.Test.YtcfmakpckdicjaaGreatDoorFracA
import Derived.Test.YtcfmakpckdicjaaGreatDoorRefE
import Derived.Test.YtcfmakpckdicjaaGreatDoorRefS
import Derived.Test.YtcfmakpckdicjaaGreatDoorFz
import Derived.Test.YtcfmakpckdicjaaGreatDoorHeld
import Derived.Test.YtcfmakpckdicjaaGreatDoorAw
import Derived.Test.YtcfmakpckdicjaaGreatDoorProg
import Derived.Test.YtcfmakpckdicjaaGreatDoorShelf
import Derived.WalkKit
import Derived.WalkSpells
import Derived.WalkLawsBesides
import Derived.Handy
import Derived.Lib.Hide
import Derived.Lib.Strings
import Derived.Lib.Builder
import Derived.BigQuiet
import Derived.OwnWalk
import Derived.Laws.BitsLemmas
import Derived.WalkSmall
import Derived.Deep.QuietTactic
import Derived.StillTailTactics
import Derived.Maps.AppendAt
import Derived.IntWalk
import Derived.Deep.RegionHeld3
import Derived.Deep.DeepFit
import Derived.Deep.LoopGhost
import Derived.Deep.DeepCutAuto
namespace Go.Proofs.YtcfmakpckdicjaaGreatDoor
open Go.RowKit
variable {G : Nat}

theorem getD_eq (l : List Int) {j : Nat} (h : j < l.length) : l.getD j 0 = l[j] := by rw [List.getD_eq_getElem?_getD, List.getElem?_eq_getElem h]; rfl
/-- slices.Equal at []int, whatever the slices. -/
theorem sEqual_any (v u : Value) (l m : List Int) (w : World) (hv : RdZ w v l) (hu : RdZ w u m) (hl : l.length ≤ 1099511627776) (hm : m.length ≤ 1099511627776) :
    Calls Tryz.prog 98 #[v, u] w fun e w' => e = .returned (.bool (l == m)) ∧ Below w.heap.size w w' := by
  obtain ⟨a1, c1, rfl⟩ := hv.shape
  obtain ⟨a2, c2, rfl⟩ := hu.shape
  by_cases hn : l.length = m.length
  · cases l with
    | nil =>
      refine (Tryz.slices_Equal_int_empty a1 a2 c1 m.length c2 w (by omega)).mono ?_
      rintro e w' ⟨rfl, rfl⟩
      refine ⟨?_, Below.refl _ _⟩
      have : m = [] := List.length_eq_zero_iff.1 hn.symm
      subst this; rfl
    | cons x l =>
      obtain ⟨b, o, rfl, -, -⟩ := hv.at (k := 0) (by simp)
      obtain ⟨b2, o2, rfl, -, -⟩ := hu.at (k := 0) (by rw [← hn]; simp)
      refine (Tryz.slices_Equal_int b o (x :: l).length c1 b2 o2 m.length c2 (x :: l) m w (Nat.le_refl _) (Nat.le_refl _) (by omega) (by omega) ?_ ?_).mono ?_
      · intro j hj
        obtain ⟨b', o', h1, -, h2⟩ := hv.at hj
        cases h1; rw [getD_eq _ hj]; exact h2
      · intro j hj
        obtain ⟨b', o', h1, -, h2⟩ := hu.at hj
        cases h1; rw [getD_eq _ hj]; exact h2
      · rintro e w' ⟨rfl, q, rfl⟩
        rw [List.take_length, List.take_length]
        exact ⟨rfl, below_drewN (Below.refl _ _) q⟩
  · refine (Tryz.slices_Equal_int_lens a1 a2 l.length c1 m.length c2 w hn).mono ?_
    rintro e w' ⟨rfl, rfl⟩
    refine ⟨?_, Below.refl _ _⟩
    have : (l == m) = false := by rw [beq_eq_false_iff_ne]; intro h; exact hn (by rw [h])
    rw [this]
theorem ints_inj {l m : Digs} (h : ints l = ints m) : l = m := by
 unfold ints at h
 exact (List.map_inj_right (fun x y h => by omega)).1 h
theorem sEqual_n {x y : Int} {a1 a2 : Option Addr} {c1 c2 : Nat} {bd : Bool} {w : World} (h1 : BD G w a1 c1 x) (h2 : BD G w a2 c2 y) (hx : Sz x 1099511627776) (hy : Sz y 1099511627776) (hd : decide (x.natAbs = y.natAbs) = bd) :
    Calls Tryz.prog 98 #[.slice a1 (ln x) c1, .slice a2 (ln y) c2] w fun e w' => e = .returned (.bool bd) ∧ Below w.heap.size w w' := by
  refine (sEqual_any _ _ (ints (digs x.natAbs)) (ints (digs y.natAbs)) w h1.rd h2.rd (by rw [ints_len]; exact hx) (by rw [ints_len]; exact hy)).mono ?_
  rintro e w' ⟨rfl, hb⟩
  refine ⟨?_, hb⟩
  rw [← hd]
  congr 2
  by_cases h : x.natAbs = y.natAbs
  · rw [h]; simp
  · rw [decide_eq_false h, beq_eq_false_iff_ne]
    intro h'; exact h (digs_inj (ints_inj h'))
theorem same_parts {x y : Int} : ((sg x == sg y) && decide (x.natAbs = y.natAbs)) = eqZ x y := by
  unfold eqZ
  by_cases h : x = y
  · subst h; simp
  · rw [decide_eq_false h]
    by_cases h1 : sg x = sg y
    · by_cases h2 : x.natAbs = y.natAbs
      · exfalso; apply h
        rw [abs_sg x, abs_sg y, h1, h2]
      · simp [h2]
    · have : (sg x == sg y) = false := by rw [beq_eq_false_iff_ne]; exact h1
      rw [this]; rfl
set_option maxRecDepth 100000 in
set_option maxHeartbeats 4000000 in
theorem bigSame_ok {x y : Int} {a1 a2 : Option Addr} {c1 c2 : Nat} {w : World} (h1 : BD G w a1 c1 x) (h2 : BD G w a2 c2 y) (hx : Sz x 1099511627776) (hy : Sz y 1099511627776) :
  Calls Tryz.prog 70 #[.agg #[.int .i64 (sg x), .slice a1 (ln x) c1], .agg #[.int .i64 (sg y), .slice a2 (ln y) c2]] w fun e w' => e = .returned (.bool (eqZ x y)) ∧ Below w.heap.size w w' := by
 obtain ⟨bs, hbs⟩ : ∃ b, (sg x == sg y) = b := ⟨_, rfl⟩
 obtain ⟨bd, hbd⟩ : ∃ b, decide (x.natAbs = y.natAbs) = b := ⟨_, rfl⟩
 have HR : Hid (eqZ x y = (bs && bd)) := by show _ = _; rw [← same_parts, hbs, hbd]
 have HBD := Lib.hid hbd; clear hbd
 have HX := Lib.hid hx; have HY := Lib.hid hy; clear hx hy
 have H1 : Hid (BD G w a1 c1 x) := h1
 have H2 : Hid (BD G w a2 c2 y) := h2
 clear h1 h2
 have M : Hid (Below w.heap.size w w) := Below.refl _ _
 go_enter Tryz.func70, Tryz.ntmps70
 go_upto_region 1 with fail
 refine nmW ((w.alloc (.cells #[.int .i64 (sg x), .slice a1 (ln x) c1] 24)).alloc (.cells #[.int .i64 (sg y), .slice a2 (ln y) c2] 24)) fun w1 hv => ?_
 rw [← hv]
 replace M := al2W hv M
 clear hv
 cases bs with
 | false =>
  obtain ⟨aa, ab, ac, ad⟩ := (J1 M).1.c2
  obtain ⟨ae, af, ag, ah⟩ := (M.out.1).c2
  go_wp2_with fail
  clear aa ab ac ad ae af ag ah
  go_ret
  exact ⟨by rw [HR.out]; cases bd <;> rfl, (J2 M)⟩
 | true =>
  obtain ⟨aa, ab, ac, ad⟩ := (J1 M).1.c2
  obtain ⟨ae, af, ag, ah⟩ := (M.out.1).c2
  go_wp2_with fail
  clear aa ab ac ad ae af ag ah
  refine (sEqual_n (G := G) (x := x) (y := y) (bd := bd) (H1.out.keep (J2 M)) (H2.out.keep (J2 M)) HX.out HY.out HBD.out).mono ?_
  rintro e w2 ⟨rfl, hb⟩
  replace M := gnM hb M
  clear hb
  go_wp2_with fail
  go_ret
  exact ⟨by rw [HR.out]; cases bd <;> rfl, (J2 M)⟩
theorem bigSame_is {x y : Int} {a1 a2 : Option Addr} {c1 c2 : Nat} {b : Bool} {w : World} (h1 : BD G w a1 c1 x) (h2 : BD G w a2 c2 y) (hx : Sz x 1099511627776) (hy : Sz y 1099511627776) (he : eqZ x y = b) :
  Calls Tryz.prog 70 #[.agg #[.int .i64 (sg x), .slice a1 (ln x) c1], .agg #[.int .i64 (sg y), .slice a2 (ln y) c2]] w fun e w' => e = .returned (.bool b) ∧ Below w.heap.size w w' := by
 rw [← he]; exact bigSame_ok h1 h2 hx hy
/-- Whatever the big integer. -/
theorem bigRight_raw {s : Int} {a : Option Addr} {c : Nat} {l : List Int} {b : Bool} {w : World} (h : RdZ w (.slice a l.length c) l) (hn : l.length ≤ 1099511627776) (hb : rightB s l = b) :
  Calls Tryz.prog 60 #[.agg #[.int .i64 s, .slice a l.length c]] w fun e w' => e = .returned (.bool b) ∧ Below w.heap.size w w' := by
 rw [← hb]; exact bigRight_any s _ l w h hn
theorem eqZ_of {x y : Int} (h : x = y) : eqZ x y = true := by unfold eqZ; exact decide_eq_true h
/-- A right big integer is an integer's digits. -/
theorem ints_toNat {l : List Int} (h : l.all digitOk = true) : ints (l.map Int.toNat) = l ∧ small (l.map Int.toNat) := by
  have hd : ∀ d ∈ l, 0 ≤ d ∧ d ≤ 1048575 := fun d hd => by
    have := List.all_eq_true.1 h d hd
    simpa [digitOk] using this
  constructor
  · unfold ints
    rw [List.map_map]
    conv => rhs; rw [← List.map_id l]
    exact List.map_congr_left fun d hm => by have := hd d hm; simp; omega
  · intro d hm
    obtain ⟨e, he, rfl⟩ := List.mem_map.1 hm
    have := hd e he; omega
theorem right_parts {s : Int} {l : List Int} (hr : rightB s l = true) : ∃ z : Int, s = sg z ∧ l = ints (digs z.natAbs) := by
  unfold rightB at hr
  rw [Bool.and_eq_true] at hr
  obtain ⟨h1, h2⟩ := hr
  obtain ⟨e1, e2⟩ := ints_toNat h1
  by_cases h0 : l = []
  · subst h0
    rw [if_pos rfl] at h2
    exact ⟨0, by simpa [sg] using h2, rfl⟩
  · rw [if_neg h0, Bool.and_eq_true, Bool.or_eq_true] at h2
    obtain ⟨h3, h4⟩ := h2
    have h4 := of_decide_eq_true h4
    obtain ⟨P, hP⟩ : ∃ P, P = l.map Int.toNat := ⟨_, rfl⟩
    rw [← hP] at e1 e2
    have hc : canon P := by
      refine ⟨e2, fun h => h4 ?_⟩
      rw [← e1]; unfold ints
      rw [List.getLast?_map, h]; rfl
    have hv : val P ≠ 0 := by
      intro h
      have : P = [] := by rw [← digs_val hc, h]; rfl
      rw [this] at e1; exact h0 e1.symm
    have hs : s = 1 ∨ s = -1 := by
      rcases h3 with h | h
      · exact .inl (by simpa using h)
      · exact .inr (by simpa using h)
    refine ⟨s * (val P : Int), ?_, ?_⟩
    · rcases hs with rfl | rfl
      · rw [Int.one_mul]; exact (Int.sign_eq_one_of_pos (by omega)).symm
      · unfold sg; rw [Int.sign_eq_neg_one_of_neg (by omega)]
    · have : (s * (val P : Int)).natAbs = val P := by rcases hs with rfl | rfl <;> omega
      rw [this, digs_val hc, e1]
end Go.Proofs.YtcfmakpckdicjaaGreatDoor
namespace Go.Proofs.YtcfmakpckdicjaaGreatDoor
open Go.RowKit
variable {G : Nat}

theorem neg_divInt_neg_ (x y : Int) : Rat.divInt (-x) (-y) = Rat.divInt x y := by rw [Rat.divInt_neg', Int.neg_neg]
theorem div_parts {q r : Rat} : Rat.divInt (nu q * de r) (de q * nu r) = q / r := by
 conv => rhs; rw [← divInt_parts q, ← divInt_parts r]
 rw [Rat.div_def, Rat.inv_divInt, Rat.divInt_mul_divInt]
theorem nu_zero {r : Rat} : nu r = 0 ↔ r = 0 := Rat.num_eq_zero
theorem sg_zero_iff {x : Int} : (sg x == 0) = decide (x = 0) := by
  by_cases h : x = 0
  · subst h; rfl
  · rw [decide_eq_false h, beq_eq_false_iff_ne]; intro h0; exact h (by have := abs_sg x; rw [h0, Int.zero_mul] at this; exact this)
theorem new_size_any {x y : Int} {n : Nat} (hx : Sz x n) (hy : Sz y n) (h0 : y ≠ 0) : Fz (Rat.divInt x y) n := by
  rcases Int.lt_or_gt_of_ne h0 with h | h
  · rw [← neg_divInt_neg_]; exact new_size (by omega) hx.neg hy.neg
  · exact new_size h hx hy
theorem Fz.div {q r : Rat} {n m : Nat} (h : Fz q n) (h' : Fz r m) (h0 : r ≠ 0) : Fz (q / r) (n + m) := by
  rw [← div_parts]
  refine new_size_any (h.1.mul h'.2) (h.2.mul h'.1) ?_
  have := de_pos q
  have h1 : nu r ≠ 0 := mt nu_zero.1 h0
  intro h2
  rcases Int.mul_eq_zero.1 h2 with h3 | h3
  · omega
  · exact h1 h3
theorem bigGcd_is' {x y g : Int} {a1 a2 : Option Addr} {c1 c2 : Nat} {w : World} (h1 : BD G w a1 c1 x) (h2 : BD G w a2 c2 y) (hx : Sz x 549755813888) (hy : Sz y 549755813888) (hg : ((Nat.gcd x.natAbs y.natAbs : Nat) : Int) = g) :
  Calls Tryz.prog 61 #[.agg #[.int .i64 (sg x), .slice a1 (ln x) c1], .agg #[.int .i64 (sg y), .slice a2 (ln y) c2]] w fun e w' => ∃ a c, e = .returned (.tuple #[.agg #[.int .i64 (sg g), .slice a (ln g) c], .int .i64 0]) ∧ BD G w' a c g ∧ Below w.heap.size w w' := by
 subst hg; exact bigGcd_ok h1 h2 hx hy
set_option maxRecDepth 100000 in
set_option maxHeartbeats 4000000 in
theorem new_neg {x y : Int} {a1 a2 : Option Addr} {c1 c2 : Nat} {w : World} (hG : G ≤ w.heap.size) (h1 : BD G w a1 c1 x) (h2 : BD G w a2 c2 y) (hx : Sz x 549755813888) (hy : Sz y 549755813888) (hs : y < 0) :
  Calls Tryz.prog 23 #[.agg #[.int .i64 (sg x), .slice a1 (ln x) c1], .agg #[.int .i64 (sg y), .slice a2 (ln y) c2]] w fun e w' => ∃ a c b d, e = .returned (.tuple #[.agg #[.int .i64 (sg (nu (Rat.divInt x y))), .slice a (ln (nu (Rat.divInt x y))) c, .int .i64 (sg (de (Rat.divInt x y))), .slice b (ln (de (Rat.divInt x y))) d], .int .i64 0]) ∧ FD G w' a c b d (Rat.divInt x y) ∧ Below w.heap.size w w' := by
 have e1 : (sg y == 0) = false := by rw [sg_neg hs]; rfl
 have e2 : decide (sg y < 0) = true := by rw [sg_neg hs]; rfl
 obtain ⟨g, hg0, hg, he1, he2⟩ := new_parts (x := -x) (y := -y) (by omega)
 rw [neg_divInt_neg_] at he1 he2
 obtain ⟨r, hr⟩ : ∃ r, r = Rat.divInt x y := ⟨_, rfl⟩
 rw [← hr] at he1 he2 ⊢
 have HG : Hid (((Nat.gcd (-x).natAbs (-y).natAbs : Nat) : Int) = g) := hg
 have HG0 := Lib.hid hg0
 have HE1 := Lib.hid he1
 have HE2 := Lib.hid he2
 have HGS : Hid (Sz g 549755813888) := hy.le (by rw [← hg]; have := Nat.gcd_le_right (m := (-x).natAbs) (n := (-y).natAbs) (by omega); omega)
 have HX := Lib.hid hx; have HY := Lib.hid hy
 clear hx hy hg hg0 he1 he2 hr hs
 have H1 : Hid (BD G w a1 c1 x) := h1
 have H2 : Hid (BD G w a2 c2 y) := h2
 clear h1 h2
 have M : Hid (Below w.heap.size w w) := Below.refl _ _
 go_enter Tryz.func23, Tryz.ntmps23
 go_upto_region 1 with fail
 refine nmW (((w.alloc (.cells #[.int .i64 (sg x), .slice a1 (ln x) c1] 24)).alloc (.cells #[.int .i64 (sg y), .slice a2 (ln y) c2] 24)).alloc (.cells #[.int .i64 0, .slice none 0 0, .int .i64 0, .slice none 0 0] 26)) fun w1 hv => ?_
 rw [← hv]
 replace M := al3W hv M
 clear hv
 obtain ⟨aa, ab, ac, ad⟩ := (J2 M).1.c2
 go_wp2_with fail
 clear aa ab ac ad
 refine (bigRight_ok (G := G) (z := x) (H1.out.keep (J3 M)) (Sz.mono HX.out (by omega))).mono ?_
 rintro e w2 ⟨rfl, hb⟩
 replace M := gnM hb M
 clear hb
 obtain ⟨ae, af, ag, ah⟩ := (J1 M).1.c2
 go_wp2_with fail
 clear ae af ag ah
 refine (bigRight_ok (G := G) (z := y) (H2.out.keep (J3 M)) (Sz.mono HY.out (by omega))).mono ?_
 rintro e w3 ⟨rfl, hb⟩
 replace M := gnM hb M
 clear hb
 obtain ⟨ae, af, ag, ah⟩ := (J1 M).1.c2
 go_wp2_with fail
 clear ae af ag ah
 refine nmW w3.drew fun w4 hv => ?_
 replace M := drM hv M
 refine wp_region_held_drew (S := (fun _ => True)) (by kernel_rfl) trivial (fun hH9 => ?_)
 rw [← hv]
 clear hv
 refine wpAnyH_ready (rs := [0, 2]) (by kernel_rfl) (by simp) ?_
 refine AllReadyH.cons at0 (fun K hK => ?_) ?_
 ·
  obtain ⟨aa, ab, ac, ad⟩ := (J2 M).1.c2
  go_simp
  clear aa ab ac ad
  refine hK.out _ _ (trivial) (fun hH10 => ?_)
  clear hK K hH9
  (try simp only [Act.put, List.setIfInBounds_toArray, List.set_cons_zero, List.set_cons_succ])
  refine wpAnyH_ready (rs := [1, 2]) (by kernel_rfl) (by simp) ?_
  refine AllReadyH.cons at1 (fun K hK => ?_) ?_
  ·
   go_simp
   obtain ⟨z13, ez13⟩ : ∃ v_ : Int, v_ = (-x) := ⟨_, rfl⟩
   refine (bigNeg_ok (G := G) (x := x) (H1.out.keep (J3 M)) HX.out).mono ?_
   rintro e w5 ⟨a_11, c_12, rfl, hd14, hb⟩
   rw [← ez13] at hd14 ⊢
   have Sz13 : Hid (Sz z13 549755813888) := by show Sz z13 549755813888; rw [ez13]; exact (Sz.neg HX.out)
   have Ez13 := Lib.hid ez13; clear ez13
   replace M := adM hd14 hb M
   clear hb hd14
   (try go_wp2_with fail)
   refine hK.out _ _ (trivial) (fun hH15 => ?_)
   clear hK K hH10
   (try simp only [Act.put, List.setIfInBounds_toArray, List.set_cons_zero, List.set_cons_succ])
   refine wpAnyH_ready (rs := [2]) (by kernel_rfl) (by simp) ?_
   refine AllReadyH.cons at2 (fun K hK => ?_) AllReadyH.nil
   obtain ⟨ae, af, ag, ah⟩ := (J2 M).1.c2
   go_simp
   clear ae af ag ah
   refine hK.out _ _ (trivial) (fun hH16 => ?_)
   clear hK K hH15
   (try simp only [Act.put, List.setIfInBounds_toArray, List.set_cons_zero, List.set_cons_succ])
   refine wpAnyH_ready (rs := [3]) (by kernel_rfl) (by simp) ?_
   refine AllReadyH.cons at3 (fun K hK => ?_) AllReadyH.nil
   go_simp
   obtain ⟨z19, ez19⟩ : ∃ v_ : Int, v_ = (-y) := ⟨_, rfl⟩
   refine (bigNeg_ok (G := G) (x := y) (H2.out.keep (J4 M)) HY.out).mono ?_
   rintro e w6 ⟨a_17, c_18, rfl, hd20, hb⟩
   rw [← ez19] at hd20 ⊢
   have Sz19 : Hid (Sz z19 549755813888) := by show Sz z19 549755813888; rw [ez19]; exact (Sz.neg HY.out)
   have Ez19 := Lib.hid ez19; clear ez19
   replace M := adM hd20 hb M
   clear hb hd20
   (try go_wp2_with fail)
   refine hK.out _ _ (trivial) (fun hH21 => ?_)
   clear hK K hH16
   (try simp only [Act.put, List.setIfInBounds_toArray, List.set_cons_zero, List.set_cons_succ])
   refine wpAnyH_ready (rs := [4]) (by kernel_rfl) (by simp) ?_
   refine AllReadyH.cons at4 (fun K hK => ?_) AllReadyH.nil
   obtain ⟨aa, ab, ac, ad⟩ := (J4 M).1.c2
   go_simp
   clear aa ab ac ad
   have hz : w.heap.size ≤ w.heap.size := by exact Nat.le_refl _
   refine st2W (.int .i64 (sg z13)) (.slice a_11 (ln z13) c_12) (J4 M).1 (J5 M) hz fun w7 hv og hk hbw => ?_
   rw [← hv]
   replace M := Lib.hid (aI ((M.out.1).far (J4 M).1 (by rfl) (by omega) og) (aI ((J1 M).1.far (J4 M).1 (by rfl) (by omega) og) (aI ((J2 M).1.only og (by omega)) (aI ((J3 M).1.only og (by omega)) (aI hk hbw)))))
   clear hk hbw og hv hz
   refine hK.out _ _ (trivial) (fun hH22 => ?_)
   clear hK K hH21
   (try simp only [Act.put, List.setIfInBounds_toArray, List.set_cons_zero, List.set_cons_succ])
   refine wpAnyH_ready (rs := [5]) (by kernel_rfl) (by simp) ?_
   refine AllReadyH.cons at5 (fun K hK => ?_) AllReadyH.nil
   obtain ⟨ae, af, ag, ah⟩ := (J3 M).1.c2
   go_simp
   clear ae af ag ah
   have hz : w.heap.size ≤ w.heap.size + 1 := by omega
   refine st2W (.int .i64 (sg z19)) (.slice a_17 (ln z19) c_18) (J3 M).1 (J5 M) hz fun w8 hv og hk hbw => ?_
   rw [← hv]
   replace M := Lib.hid (aI ((M.out.1).far (J3 M).1 (by rfl) (by omega) og) (aI ((J1 M).1.far (J3 M).1 (by rfl) (by omega) og) (aI ((J2 M).1.only og (by omega)) (aI hk (aI ((J4 M).1.only og (by omega)) hbw)))))
   clear hk hbw og hv hz
   refine hK.out _ _ (trivial) (fun hH23 => ?_)
   clear hK K hH22
   (try simp only [Act.put, List.setIfInBounds_toArray, List.set_cons_zero, List.set_cons_succ])
   refine wpAnyH_done (by kernel_rfl) ?_ _
   clear hH23
   obtain ⟨aa, ab, ac, ad⟩ := (J4 M).1.c2
   obtain ⟨ae, af, ag, ah⟩ := (J3 M).1.c2
   go_wp2_with fail
   clear aa ab ac ad ae af ag ah
   refine (bigGcd_is' (G := G) (x := z13) (y := z19) (g := g) (J1 M).1 (M.out.1) Sz13.out Sz19.out (by rw [Ez13.out, Ez19.out]; exact HG.out)).mono ?_
   rintro e w9 ⟨a_24, c_25, rfl, hd26, hb⟩
   replace M := adM hd26 hb M
   clear hb hd26
   go_upto_region 8 with fail
   refine nmW (w9.alloc (.cells #[.int .i64 (sg g), .slice a_24 (ln g) c_25] 24)) fun w10 hv => ?_
   rw [← hv]
   have o3 : w.heap.size + 1 + 1 < w9.heap.size := ((J3 M).1).lt
   replace M := alM hv M
   clear hv
   obtain ⟨aa, ab, ac, ad⟩ := (J6 M).1.c2
   obtain ⟨ai, aj, ak, al⟩ := (M.out.1).c2
   go_wp2_with fail
   clear aa ab ac ad ai aj ak al
   refine (bigDiv_exact (G := G) (x := z13) (y := g) (q := (nu r)) (J3 M).1 (J1 M).1 Sz13.out HGS.out HG0.out (by rw [Ez13.out]; exact HE1.out)).mono ?_
   rintro e w11 ⟨a_27, c_28, b_29, d_30, rfl, hd31, hd32, hb⟩
   replace M := ad2M hd31 hd32 hb M
   clear hb hd31 hd32
   go_upto_region 9 with fail
   refine nmW ((w11.alloc (.cells #[.int .i64 (sg (nu r)), .slice a_27 (ln (nu r)) c_28] 24)).alloc (.cells #[.int .i64 (sg 0), .slice b_29 (ln 0) d_30] 24)) fun w12 hv => ?_
   rw [← hv]
   have o4 : w9.heap.size < w11.heap.size := ((J2 M).1).lt
   replace M := al2W hv M
   clear hv
   obtain ⟨ae, af, ag, ah⟩ := (J9 M).1.c2
   obtain ⟨ai, aj, ak, al⟩ := (J4 M).1.c2
   go_wp2_with fail
   clear ae af ag ah ai aj ak al
   refine (bigDiv_exact (G := G) (x := z19) (y := g) (q := (de r)) (J6 M).1 (J5 M).1 Sz19.out HGS.out HG0.out (by rw [Ez19.out]; exact HE2.out)).mono ?_
   rintro e w13 ⟨a_33, c_34, b_35, d_36, rfl, hd37, hd38, hb⟩
   replace M := ad2M hd37 hd38 hb M
   clear hb hd37 hd38
   go_upto_region 10 with fail
   refine nmW ((w13.alloc (.cells #[.int .i64 (sg (de r)), .slice a_33 (ln (de r)) c_34] 24)).alloc (.cells #[.int .i64 (sg 0), .slice b_35 (ln 0) d_36] 24)) fun w14 hv => ?_
   rw [← hv]
   have o6 : w11.heap.size + 1 < w13.heap.size := ((J2 M).1).lt
   replace M := al2W hv M
   clear hv
   obtain ⟨am, ao, ap, aq⟩ := (J5 M).1.c2
   obtain ⟨ar, au, av, aw⟩ := (J1 M).1.c2
   obtain ⟨ax, ay, az, ba, bb, bc, bd, bf⟩ := (J12 M).1.c4
   go_wp2_with fail
   clear am ao ap aq ar au av aw ax ay az ba bb bc bd bf
   have hz : w.heap.size ≤ w.heap.size + 1 + 1 := by omega
   refine st4W (.int .i64 (sg (nu r))) (.slice a_27 (ln (nu r)) c_28) (.int .i64 (sg (de r))) (.slice a_33 (ln (de r)) c_34) (J12 M).1 (J15 M) hz fun w15 hv og hk hbw => ?_
   rw [← hv]
   replace M := Lib.hid (aI ((M.out.1).only og (by omega)) (aI ((J1 M).1.only og (by omega)) (aI ((J2 M).1.far (J12 M).1 (by rfl) (by omega) og) (aI ((J3 M).1.far (J12 M).1 (by rfl) (by omega) og) (aI ((J4 M).1.only og (by omega)) (aI ((J5 M).1.only og (by omega)) (aI ((J6 M).1.far (J12 M).1 (by rfl) (by omega) og) (aI ((J7 M).1.far (J12 M).1 (by rfl) (by omega) og) (aI ((J8 M).1.only og (by omega)) (aI ((J9 M).1.far (J12 M).1 (by rfl) (by omega) og) (aI ((J10 M).1.far (J12 M).1 (by rfl) (by omega) og) (aI ((J11 M).1.far (J12 M).1 (by rfl) (by omega) og) (aI hk (aI ((J13 M).1.only og (by omega)) (aI ((J14 M).1.only og (by omega)) hbw)))))))))))))))
   clear hk hbw og hv hz
   refine bodyPost_ret (results_box2 rfl _ _ (w.heap.size + 1 + 1) 26 _ _ _ rfl (J12 M).1 Tryz.underlying26 rfl (by kernel_rfl)) rfl ?_
   exact ⟨a_27, c_28, a_33, c_34, rfl, FD.mk (J6 M).1 (J2 M).1, (J15 M)⟩
  refine AllReadyH.cons at2 (fun K hK => ?_) AllReadyH.nil
  obtain ⟨ae, af, ag, ah⟩ := (J1 M).1.c2
  go_simp
  clear ae af ag ah
  refine hK.out _ _ (trivial) (fun hH39 => ?_)
  clear hK K hH10
  (try simp only [Act.put, List.setIfInBounds_toArray, List.set_cons_zero, List.set_cons_succ])
  refine wpAnyH_ready (rs := [1]) (by kernel_rfl) (by simp) ?_
  refine AllReadyH.cons at1 (fun K hK => ?_) AllReadyH.nil
  go_simp
  obtain ⟨z42, ez42⟩ : ∃ v_ : Int, v_ = (-x) := ⟨_, rfl⟩
  refine (bigNeg_ok (G := G) (x := x) (H1.out.keep (J3 M)) HX.out).mono ?_
  rintro e w5 ⟨a_40, c_41, rfl, hd43, hb⟩
  rw [← ez42] at hd43 ⊢
  have Sz42 : Hid (Sz z42 549755813888) := by show Sz z42 549755813888; rw [ez42]; exact (Sz.neg HX.out)
  have Ez42 := Lib.hid ez42; clear ez42
  replace M := adM hd43 hb M
  clear hb hd43
  (try go_wp2_with fail)
  refine hK.out _ _ (trivial) (fun hH44 => ?_)
  clear hK K hH39
  (try simp only [Act.put, List.setIfInBounds_toArray, List.set_cons_zero, List.set_cons_succ])
  refine wpAnyH_ready (rs := [3]) (by kernel_rfl) (by simp) ?_
  refine AllReadyH.cons at3 (fun K hK => ?_) AllReadyH.nil
  go_simp
  obtain ⟨z47, ez47⟩ : ∃ v_ : Int, v_ = (-y) := ⟨_, rfl⟩
  refine (bigNeg_ok (G := G) (x := y) (H2.out.keep (J4 M)) HY.out).mono ?_
  rintro e w6 ⟨a_45, c_46, rfl, hd48, hb⟩
  rw [← ez47] at hd48 ⊢
  have Sz47 : Hid (Sz z47 549755813888) := by show Sz z47 549755813888; rw [ez47]; exact (Sz.neg HY.out)
  have Ez47 := Lib.hid ez47; clear ez47
  replace M := adM hd48 hb M
  clear hb hd48
  (try go_wp2_with fail)
  refine hK.out _ _ (trivial) (fun hH49 => ?_)
  clear hK K hH44
  (try simp only [Act.put, List.setIfInBounds_toArray, List.set_cons_zero, List.set_cons_succ])
  refine wpAnyH_ready (rs := [4]) (by kernel_rfl) (by simp) ?_
  refine AllReadyH.cons at4 (fun K hK => ?_) AllReadyH.nil
  obtain ⟨aa, ab, ac, ad⟩ := (J4 M).1.c2
  go_simp
  clear aa ab ac ad
  have hz : w.heap.size ≤ w.heap.size := by exact Nat.le_refl _
  refine st2W (.int .i64 (sg z42)) (.slice a_40 (ln z42) c_41) (J4 M).1 (J5 M) hz fun w7 hv og hk hbw => ?_
  rw [← hv]
  replace M := Lib.hid (aI ((M.out.1).far (J4 M).1 (by rfl) (by omega) og) (aI ((J1 M).1.far (J4 M).1 (by rfl) (by omega) og) (aI ((J2 M).1.only og (by omega)) (aI ((J3 M).1.only og (by omega)) (aI hk hbw)))))
  clear hk hbw og hv hz
  refine hK.out _ _ (trivial) (fun hH50 => ?_)
  clear hK K hH49
  (try simp only [Act.put, List.setIfInBounds_toArray, List.set_cons_zero, List.set_cons_succ])
  refine wpAnyH_ready (rs := [5]) (by kernel_rfl) (by simp) ?_
  refine AllReadyH.cons at5 (fun K hK => ?_) AllReadyH.nil
  obtain ⟨ae, af, ag, ah⟩ := (J3 M).1.c2
  go_simp
  clear ae af ag ah
  have hz : w.heap.size ≤ w.heap.size + 1 := by omega
  refine st2W (.int .i64 (sg z47)) (.slice a_45 (ln z47) c_46) (J3 M).1 (J5 M) hz fun w8 hv og hk hbw => ?_
  rw [← hv]
  replace M := Lib.hid (aI ((M.out.1).far (J3 M).1 (by rfl) (by omega) og) (aI ((J1 M).1.far (J3 M).1 (by rfl) (by omega) og) (aI ((J2 M).1.only og (by omega)) (aI hk (aI ((J4 M).1.only og (by omega)) hbw)))))
  clear hk hbw og hv hz
  refine hK.out _ _ (trivial) (fun hH51 => ?_)
  clear hK K hH50
  (try simp only [Act.put, List.setIfInBounds_toArray, List.set_cons_zero, List.set_cons_succ])
  refine wpAnyH_done (by kernel_rfl) ?_ _
  clear hH51
  obtain ⟨aa, ab, ac, ad⟩ := (J4 M).1.c2
  obtain ⟨ae, af, ag, ah⟩ := (J3 M).1.c2
  go_wp2_with fail
  clear aa ab ac ad ae af ag ah
  refine (bigGcd_is' (G := G) (x := z42) (y := z47) (g := g) (J1 M).1 (M.out.1) Sz42.out Sz47.out (by rw [Ez42.out, Ez47.out]; exact HG.out)).mono ?_
  rintro e w9 ⟨a_52, c_53, rfl, hd54, hb⟩
  replace M := adM hd54 hb M
  clear hb hd54
  go_upto_region 8 with fail
  refine nmW (w9.alloc (.cells #[.int .i64 (sg g), .slice a_52 (ln g) c_53] 24)) fun w10 hv => ?_
  rw [← hv]
  have o3 : w.heap.size + 1 + 1 < w9.heap.size := ((J3 M).1).lt
  replace M := alM hv M
  clear hv
  obtain ⟨aa, ab, ac, ad⟩ := (J6 M).1.c2
  obtain ⟨ai, aj, ak, al⟩ := (M.out.1).c2
  go_wp2_with fail
  clear aa ab ac ad ai aj ak al
  refine (bigDiv_exact (G := G) (x := z42) (y := g) (q := (nu r)) (J3 M).1 (J1 M).1 Sz42.out HGS.out HG0.out (by rw [Ez42.out]; exact HE1.out)).mono ?_
  rintro e w11 ⟨a_55, c_56, b_57, d_58, rfl, hd59, hd60, hb⟩
  replace M := ad2M hd59 hd60 hb M
  clear hb hd59 hd60
  go_upto_region 9 with fail
  refine nmW ((w11.alloc (.cells #[.int .i64 (sg (nu r)), .slice a_55 (ln (nu r)) c_56] 24)).alloc (.cells #[.int .i64 (sg 0), .slice b_57 (ln 0) d_58] 24)) fun w12 hv => ?_
  rw [← hv]
  have o4 : w9.heap.size < w11.heap.size := ((J2 M).1).lt
  replace M := al2W hv M
  clear hv
  obtain ⟨ae, af, ag, ah⟩ := (J9 M).1.c2
  obtain ⟨ai, aj, ak, al⟩ := (J4 M).1.c2
  go_wp2_with fail
  clear ae af ag ah ai aj ak al
  refine (bigDiv_exact (G := G) (x := z47) (y := g) (q := (de r)) (J6 M).1 (J5 M).1 Sz47.out HGS.out HG0.out (by rw [Ez47.out]; exact HE2.out)).mono ?_
  rintro e w13 ⟨a_61, c_62, b_63, d_64, rfl, hd65, hd66, hb⟩
  replace M := ad2M hd65 hd66 hb M
  clear hb hd65 hd66
  go_upto_region 10 with fail
  refine nmW ((w13.alloc (.cells #[.int .i64 (sg (de r)), .slice a_61 (ln (de r)) c_62] 24)).alloc (.cells #[.int .i64 (sg 0), .slice b_63 (ln 0) d_64] 24)) fun w14 hv => ?_
  rw [← hv]
  have o6 : w11.heap.size + 1 < w13.heap.size := ((J2 M).1).lt
  replace M := al2W hv M
  clear hv
  obtain ⟨am, ao, ap, aq⟩ := (J5 M).1.c2
  obtain ⟨ar, au, av, aw⟩ := (J1 M).1.c2
  obtain ⟨ax, ay, az, ba, bb, bc, bd, bf⟩ := (J12 M).1.c4
  go_wp2_with fail
  clear am ao ap aq ar au av aw ax ay az ba bb bc bd bf
  have hz : w.heap.size ≤ w.heap.size + 1 + 1 := by omega
  refine st4W (.int .i64 (sg (nu r))) (.slice a_55 (ln (nu r)) c_56) (.int .i64 (sg (de r))) (.slice a_61 (ln (de r)) c_62) (J12 M).1 (J15 M) hz fun w15 hv og hk hbw => ?_
  rw [← hv]
  replace M := Lib.hid (aI ((M.out.1).only og (by omega)) (aI ((J1 M).1.only og (by omega)) (aI ((J2 M).1.far (J12 M).1 (by rfl) (by omega) og) (aI ((J3 M).1.far (J12 M).1 (by rfl) (by omega) og) (aI ((J4 M).1.only og (by omega)) (aI ((J5 M).1.only og (by omega)) (aI ((J6 M).1.far (J12 M).1 (by rfl) (by omega) og) (aI ((J7 M).1.far (J12 M).1 (by rfl) (by omega) og) (aI ((J8 M).1.only og (by omega)) (aI ((J9 M).1.far (J12 M).1 (by rfl) (by omega) og) (aI ((J10 M).1.far (J12 M).1 (by rfl) (by omega) og) (aI ((J11 M).1.far (J12 M).1 (by rfl) (by omega) og) (aI hk (aI ((J13 M).1.only og (by omega)) (aI ((J14 M).1.only og (by omega)) hbw)))))))))))))))
  clear hk hbw og hv hz
  refine bodyPost_ret (results_box2 rfl _ _ (w.heap.size + 1 + 1) 26 _ _ _ rfl (J12 M).1 Tryz.underlying26 rfl (by kernel_rfl)) rfl ?_
  exact ⟨a_55, c_56, a_61, c_62, rfl, FD.mk (J6 M).1 (J2 M).1, (J15 M)⟩
 refine AllReadyH.cons at2 (fun K hK => ?_) AllReadyH.nil
 obtain ⟨ae, af, ag, ah⟩ := (J1 M).1.c2
 go_simp
 clear ae af ag ah
 refine hK.out _ _ (trivial) (fun hH67 => ?_)
 clear hK K hH9
 (try simp only [Act.put, List.setIfInBounds_toArray, List.set_cons_zero, List.set_cons_succ])
 refine wpAnyH_ready (rs := [0]) (by kernel_rfl) (by simp) ?_
 refine AllReadyH.cons at0 (fun K hK => ?_) AllReadyH.nil
 obtain ⟨aa, ab, ac, ad⟩ := (J2 M).1.c2
 go_simp
 clear aa ab ac ad
 refine hK.out _ _ (trivial) (fun hH68 => ?_)
 clear hK K hH67
 (try simp only [Act.put, List.setIfInBounds_toArray, List.set_cons_zero, List.set_cons_succ])
 refine wpAnyH_ready (rs := [1]) (by kernel_rfl) (by simp) ?_
 refine AllReadyH.cons at1 (fun K hK => ?_) AllReadyH.nil
 go_simp
 obtain ⟨z71, ez71⟩ : ∃ v_ : Int, v_ = (-x) := ⟨_, rfl⟩
 refine (bigNeg_ok (G := G) (x := x) (H1.out.keep (J3 M)) HX.out).mono ?_
 rintro e w5 ⟨a_69, c_70, rfl, hd72, hb⟩
 rw [← ez71] at hd72 ⊢
 have Sz71 : Hid (Sz z71 549755813888) := by show Sz z71 549755813888; rw [ez71]; exact (Sz.neg HX.out)
 have Ez71 := Lib.hid ez71; clear ez71
 replace M := adM hd72 hb M
 clear hb hd72
 (try go_wp2_with fail)
 refine hK.out _ _ (trivial) (fun hH73 => ?_)
 clear hK K hH68
 (try simp only [Act.put, List.setIfInBounds_toArray, List.set_cons_zero, List.set_cons_succ])
 refine wpAnyH_ready (rs := [3]) (by kernel_rfl) (by simp) ?_
 refine AllReadyH.cons at3 (fun K hK => ?_) AllReadyH.nil
 go_simp
 obtain ⟨z76, ez76⟩ : ∃ v_ : Int, v_ = (-y) := ⟨_, rfl⟩
 refine (bigNeg_ok (G := G) (x := y) (H2.out.keep (J4 M)) HY.out).mono ?_
 rintro e w6 ⟨a_74, c_75, rfl, hd77, hb⟩
 rw [← ez76] at hd77 ⊢
 have Sz76 : Hid (Sz z76 549755813888) := by show Sz z76 549755813888; rw [ez76]; exact (Sz.neg HY.out)
 have Ez76 := Lib.hid ez76; clear ez76
 replace M := adM hd77 hb M
 clear hb hd77
 (try go_wp2_with fail)
 refine hK.out _ _ (trivial) (fun hH78 => ?_)
 clear hK K hH73
 (try simp only [Act.put, List.setIfInBounds_toArray, List.set_cons_zero, List.set_cons_succ])
 refine wpAnyH_ready (rs := [4]) (by kernel_rfl) (by simp) ?_
 refine AllReadyH.cons at4 (fun K hK => ?_) AllReadyH.nil
 obtain ⟨aa, ab, ac, ad⟩ := (J4 M).1.c2
 go_simp
 clear aa ab ac ad
 have hz : w.heap.size ≤ w.heap.size := by exact Nat.le_refl _
 refine st2W (.int .i64 (sg z71)) (.slice a_69 (ln z71) c_70) (J4 M).1 (J5 M) hz fun w7 hv og hk hbw => ?_
 rw [← hv]
 replace M := Lib.hid (aI ((M.out.1).far (J4 M).1 (by rfl) (by omega) og) (aI ((J1 M).1.far (J4 M).1 (by rfl) (by omega) og) (aI ((J2 M).1.only og (by omega)) (aI ((J3 M).1.only og (by omega)) (aI hk hbw)))))
 clear hk hbw og hv hz
 refine hK.out _ _ (trivial) (fun hH79 => ?_)
 clear hK K hH78
 (try simp only [Act.put, List.setIfInBounds_toArray, List.set_cons_zero, List.set_cons_succ])
 refine wpAnyH_ready (rs := [5]) (by kernel_rfl) (by simp) ?_
 refine AllReadyH.cons at5 (fun K hK => ?_) AllReadyH.nil
 obtain ⟨ae, af, ag, ah⟩ := (J3 M).1.c2
 go_simp
 clear ae af ag ah
 have hz : w.heap.size ≤ w.heap.size + 1 := by omega
 refine st2W (.int .i64 (sg z76)) (.slice a_74 (ln z76) c_75) (J3 M).1 (J5 M) hz fun w8 hv og hk hbw => ?_
 rw [← hv]
 replace M := Lib.hid (aI ((M.out.1).far (J3 M).1 (by rfl) (by omega) og) (aI ((J1 M).1.far (J3 M).1 (by rfl) (by omega) og) (aI ((J2 M).1.only og (by omega)) (aI hk (aI ((J4 M).1.only og (by omega)) hbw)))))
 clear hk hbw og hv hz
 refine hK.out _ _ (trivial) (fun hH80 => ?_)
 clear hK K hH79
 (try simp only [Act.put, List.setIfInBounds_toArray, List.set_cons_zero, List.set_cons_succ])
 refine wpAnyH_done (by kernel_rfl) ?_ _
 clear hH80
 obtain ⟨aa, ab, ac, ad⟩ := (J4 M).1.c2
 obtain ⟨ae, af, ag, ah⟩ := (J3 M).1.c2
 go_wp2_with fail
 clear aa ab ac ad ae af ag ah
 refine (bigGcd_is' (G := G) (x := z71) (y := z76) (g := g) (J1 M).1 (M.out.1) Sz71.out Sz76.out (by rw [Ez71.out, Ez76.out]; exact HG.out)).mono ?_
 rintro e w9 ⟨a_81, c_82, rfl, hd83, hb⟩
 replace M := adM hd83 hb M
 clear hb hd83
 go_upto_region 8 with fail
 refine nmW (w9.alloc (.cells #[.int .i64 (sg g), .slice a_81 (ln g) c_82] 24)) fun w10 hv => ?_
 rw [← hv]
 have o3 : w.heap.size + 1 + 1 < w9.heap.size := ((J3 M).1).lt
 replace M := alM hv M
 clear hv
 obtain ⟨aa, ab, ac, ad⟩ := (J6 M).1.c2
 obtain ⟨ai, aj, ak, al⟩ := (M.out.1).c2
 go_wp2_with fail
 clear aa ab ac ad ai aj ak al
 refine (bigDiv_exact (G := G) (x := z71) (y := g) (q := (nu r)) (J3 M).1 (J1 M).1 Sz71.out HGS.out HG0.out (by rw [Ez71.out]; exact HE1.out)).mono ?_
 rintro e w11 ⟨a_84, c_85, b_86, d_87, rfl, hd88, hd89, hb⟩
 replace M := ad2M hd88 hd89 hb M
 clear hb hd88 hd89
 go_upto_region 9 with fail
 refine nmW ((w11.alloc (.cells #[.int .i64 (sg (nu r)), .slice a_84 (ln (nu r)) c_85] 24)).alloc (.cells #[.int .i64 (sg 0), .slice b_86 (ln 0) d_87] 24)) fun w12 hv => ?_
 rw [← hv]
 have o4 : w9.heap.size < w11.heap.size := ((J2 M).1).lt
 replace M := al2W hv M
 clear hv
 obtain ⟨ae, af, ag, ah⟩ := (J9 M).1.c2
 obtain ⟨ai, aj, ak, al⟩ := (J4 M).1.c2
 go_wp2_with fail
 clear ae af ag ah ai aj ak al
 refine (bigDiv_exact (G := G) (x := z76) (y := g) (q := (de r)) (J6 M).1 (J5 M).1 Sz76.out HGS.out HG0.out (by rw [Ez76.out]; exact HE2.out)).mono ?_
 rintro e w13 ⟨a_90, c_91, b_92, d_93, rfl, hd94, hd95, hb⟩
 replace M := ad2M hd94 hd95 hb M
 clear hb hd94 hd95
 go_upto_region 10 with fail
 refine nmW ((w13.alloc (.cells #[.int .i64 (sg (de r)), .slice a_90 (ln (de r)) c_91] 24)).alloc (.cells #[.int .i64 (sg 0), .slice b_92 (ln 0) d_93] 24)) fun w14 hv => ?_
 rw [← hv]
 have o6 : w11.heap.size + 1 < w13.heap.size := ((J2 M).1).lt
 replace M := al2W hv M
 clear hv
 obtain ⟨am, ao, ap, aq⟩ := (J5 M).1.c2
 obtain ⟨ar, au, av, aw⟩ := (J1 M).1.c2
 obtain ⟨ax, ay, az, ba, bb, bc, bd, bf⟩ := (J12 M).1.c4
 go_wp2_with fail
 clear am ao ap aq ar au av aw ax ay az ba bb bc bd bf
 have hz : w.heap.size ≤ w.heap.size + 1 + 1 := by omega
 refine st4W (.int .i64 (sg (nu r))) (.slice a_84 (ln (nu r)) c_85) (.int .i64 (sg (de r))) (.slice a_90 (ln (de r)) c_91) (J12 M).1 (J15 M) hz fun w15 hv og hk hbw => ?_
 rw [← hv]
 replace M := Lib.hid (aI ((M.out.1).only og (by omega)) (aI ((J1 M).1.only og (by omega)) (aI ((J2 M).1.far (J12 M).1 (by rfl) (by omega) og) (aI ((J3 M).1.far (J12 M).1 (by rfl) (by omega) og) (aI ((J4 M).1.only og (by omega)) (aI ((J5 M).1.only og (by omega)) (aI ((J6 M).1.far (J12 M).1 (by rfl) (by omega) og) (aI ((J7 M).1.far (J12 M).1 (by rfl) (by omega) og) (aI ((J8 M).1.only og (by omega)) (aI ((J9 M).1.far (J12 M).1 (by rfl) (by omega) og) (aI ((J10 M).1.far (J12 M).1 (by rfl) (by omega) og) (aI ((J11 M).1.far (J12 M).1 (by rfl) (by omega) og) (aI hk (aI ((J13 M).1.only og (by omega)) (aI ((J14 M).1.only og (by omega)) hbw)))))))))))))))
 clear hk hbw og hv hz
 refine bodyPost_ret (results_box2 rfl _ _ (w.heap.size + 1 + 1) 26 _ _ _ rfl (J12 M).1 Tryz.underlying26 rfl (by kernel_rfl)) rfl ?_
 exact ⟨a_84, c_85, a_90, c_91, rfl, FD.mk (J6 M).1 (J2 M).1, (J15 M)⟩
theorem new_ok {x y : Int} {a1 a2 : Option Addr} {c1 c2 : Nat} {w : World} (hG : G ≤ w.heap.size) (h1 : BD G w a1 c1 x) (h2 : BD G w a2 c2 y) (hx : Sz x 549755813888) (hy : Sz y 549755813888) (hs : y ≠ 0) :
    Calls Tryz.prog 23 #[.agg #[.int .i64 (sg x), .slice a1 (ln x) c1], .agg #[.int .i64 (sg y), .slice a2 (ln y) c2]] w fun e w' => ∃ a c b d, e = .returned (.tuple #[.agg #[.int .i64 (sg (nu (Rat.divInt x y))), .slice a (ln (nu (Rat.divInt x y))) c, .int .i64 (sg (de (Rat.divInt x y))), .slice b (ln (de (Rat.divInt x y))) d], .int .i64 0]) ∧ FD G w' a c b d (Rat.divInt x y) ∧ Below w.heap.size w w' := by
  rcases Int.lt_or_gt_of_ne hs with h | h
  · exact new_neg hG h1 h2 hx hy h
  · exact new_pos h1 h2 hx hy h
set_option maxRecDepth 100000 in
set_option maxHeartbeats 4000000 in
theorem new_zero {x y : Int} {a1 a2 : Option Addr} {c1 c2 : Nat} {w : World} (_hG : G ≤ w.heap.size) (h1 : BD G w a1 c1 x) (h2 : BD G w a2 c2 y) (hx : Sz x 549755813888) (hy : Sz y 549755813888) (hs : y = 0) :
  Calls Tryz.prog 23 #[.agg #[.int .i64 (sg x), .slice a1 (ln x) c1], .agg #[.int .i64 (sg y), .slice a2 (ln y) c2]] w fun e w' => e = .returned (.tuple #[.agg #[.int .i64 0, .slice none 0 0, .int .i64 0, .slice none 0 0], .int .i64 15]) ∧ Below w.heap.size w w' := by
 have e1 : (sg y == 0) = true := by rw [hs]; rfl
 have HX := Lib.hid hx; have HY := Lib.hid hy
 clear hx hy hs
 have H1 : Hid (BD G w a1 c1 x) := h1
 have H2 : Hid (BD G w a2 c2 y) := h2
 clear h1 h2
 have M : Hid (Below w.heap.size w w) := Below.refl _ _
 go_enter Tryz.func23, Tryz.ntmps23
 go_upto_region 1 with fail
 refine nmW (((w.alloc (.cells #[.int .i64 (sg x), .slice a1 (ln x) c1] 24)).alloc (.cells #[.int .i64 (sg y), .slice a2 (ln y) c2] 24)).alloc (.cells #[.int .i64 0, .slice none 0 0, .int .i64 0, .slice none 0 0] 26)) fun w1 hv => ?_
 rw [← hv]
 replace M := al3W hv M
 clear hv
 obtain ⟨aa, ab, ac, ad⟩ := (J2 M).1.c2
 go_wp2_with fail
 clear aa ab ac ad
 refine (bigRight_ok (G := G) (z := x) (H1.out.keep (J3 M)) (Sz.mono HX.out (by omega))).mono ?_
 rintro e w2 ⟨rfl, hb⟩
 replace M := gnM hb M
 clear hb
 obtain ⟨ae, af, ag, ah⟩ := (J1 M).1.c2
 go_wp2_with fail
 clear ae af ag ah
 refine (bigRight_ok (G := G) (z := y) (H2.out.keep (J3 M)) (Sz.mono HY.out (by omega))).mono ?_
 rintro e w3 ⟨rfl, hb⟩
 replace M := gnM hb M
 clear hb
 obtain ⟨ae, af, ag, ah⟩ := (J1 M).1.c2
 obtain ⟨ai, aj, ak, al, am, ao, ap, aq⟩ := (M.out.1).c4
 go_wp2_with fail
 clear ae af ag ah ai aj ak al am ao ap aq
 have hz : w.heap.size ≤ w.heap.size + 1 + 1 := by omega
 refine st4W (.int .i64 0) (.slice none 0 0) (.int .i64 0) (.slice none 0 0) (M.out.1) (J3 M) hz fun w4 hv og hk hbw => ?_
 rw [← hv]
 replace M := Lib.hid (aI hk (aI ((J1 M).1.only og (by omega)) (aI ((J2 M).1.only og (by omega)) hbw)))
 clear hk hbw og hv hz
 refine bodyPost_ret (results_box2 rfl _ _ (w.heap.size + 1 + 1) 26 _ _ _ rfl (M.out.1) Tryz.underlying26 rfl (by kernel_rfl)) rfl ?_
 exact ⟨rfl, (J3 M)⟩
set_option maxRecDepth 100000 in
set_option maxHeartbeats 4000000 in
theorem fracOf_ok {x y : Int} {w : World} (hG : G ≤ w.heap.size) (hx : -9223372036854775808 ≤ x ∧ x ≤ 9223372036854775807) (hy : -9223372036854775808 ≤ y ∧ y ≤ 9223372036854775807) (hs : y ≠ 0) :
  Calls Tryz.prog 19 #[.int .i64 x, .int .i64 y] w fun e w' => ∃ a c b d, e = .returned (.tuple #[.agg #[.int .i64 (sg (nu (Rat.divInt x y))), .slice a (ln (nu (Rat.divInt x y))) c, .int .i64 (sg (de (Rat.divInt x y))), .slice b (ln (de (Rat.divInt x y))) d], .int .i64 0]) ∧ FD G w' a c b d (Rat.divInt x y) ∧ Below w.heap.size w w' := by
 have HX := Lib.hid hx; have HY := Lib.hid hy; have HS := Lib.hid hs; clear hx hy hs
 have M : Hid (Below w.heap.size w w) := Below.refl _ _
 go_enter Tryz.func19, Tryz.ntmps19
 go_upto_region 1 with fail
 refine nmW (w.alloc (.cells #[.int .i64 0, .slice none 0 0, .int .i64 0, .slice none 0 0] 26)) fun w1 hv => ?_
 rw [← hv]
 replace M := alM hv M
 clear hv
 go_wp2_with fail
 refine (bigOf_ok (G := G) x _ HX.out).mono ?_
 rintro e w2 ⟨a_1, c_2, rfl, hd3, hb⟩
 replace M := adM hd3 hb M
 clear hb hd3
 go_wp2_with fail
 refine (bigOf_ok (G := G) y _ HY.out).mono ?_
 rintro e w3 ⟨a_4, c_5, rfl, hd6, hb⟩
 replace M := adM hd6 hb M
 clear hb hd6
 go_wp2_with fail
 refine nmW (α := Rat) (Rat.divInt x y) fun q11 eq11 => ?_
 refine (new_ok (G := G) (x := x) (y := y) (Nat.le_trans hG (J3 M).size) (J1 M).1 (M.out.1) (Sz.mono (sz_int (n := 0) HX.out) (by omega)) (Sz.mono (sz_int (n := 0) HY.out) (by omega)) HS.out).mono ?_
 rintro e w4 ⟨a_7, c_8, b_9, d_10, rfl, hd12, hb⟩
 rw [← eq11] at hd12 ⊢
 have Eq11 := Lib.hid eq11; clear eq11
 replace M := adM hd12 hb M
 clear hb hd12
 obtain ⟨aa, ab, ac, ad, ae, af, ag, ah⟩ := (J3 M).1.c4
 go_wp2_with fail
 clear aa ab ac ad ae af ag ah
 have hz : w.heap.size ≤ w.heap.size := by exact Nat.le_refl _
 refine st4W (.int .i64 (sg (nu q11))) (.slice a_7 (ln (nu q11)) c_8) (.int .i64 (sg (de q11))) (.slice b_9 (ln (de q11)) d_10) (J3 M).1 (J4 M) hz fun w5 hv og hk hbw => ?_
 rw [← hv]
 replace M := Lib.hid (aI ((M.out.1).far (J3 M).1 (by rfl) (by omega) og) (aI ((J1 M).1.far (J3 M).1 (by rfl) (by omega) og) (aI ((J2 M).1.far (J3 M).1 (by rfl) (by omega) og) (aI hk hbw))))
 clear hk hbw og hv hz
 rw [← Eq11.out]
 refine bodyPost_ret (results_box2 rfl _ _ w.heap.size 26 _ _ _ rfl (J3 M).1 Tryz.underlying26 rfl (by kernel_rfl)) rfl ?_
 exact ⟨a_7, c_8, b_9, d_10, rfl, (M.out.1), (J4 M)⟩
set_option maxRecDepth 100000 in
set_option maxHeartbeats 4000000 in
theorem fracOf_zero {x y : Int} {w : World} (hG : G ≤ w.heap.size) (hx : -9223372036854775808 ≤ x ∧ x ≤ 9223372036854775807) (hy : -9223372036854775808 ≤ y ∧ y ≤ 9223372036854775807) (hs : y = 0) :
  Calls Tryz.prog 19 #[.int .i64 x, .int .i64 y] w fun e w' => e = .returned (.tuple #[.agg #[.int .i64 0, .slice none 0 0, .int .i64 0, .slice none 0 0], .int .i64 15]) ∧ Below w.heap.size w w' := by
 have HX := Lib.hid hx; have HY := Lib.hid hy; have HS := Lib.hid hs; clear hx hy hs
 have M : Hid (Below w.heap.size w w) := Below.refl _ _
 go_enter Tryz.func19, Tryz.ntmps19
 go_upto_region 1 with fail
 refine nmW (w.alloc (.cells #[.int .i64 0, .slice none 0 0, .int .i64 0, .slice none 0 0] 26)) fun w1 hv => ?_
 rw [← hv]
 replace M := alM hv M
 clear hv
 go_wp2_with fail
 refine (bigOf_ok (G := G) x _ HX.out).mono ?_
 rintro e w2 ⟨a_1, c_2, rfl, hd3, hb⟩
 replace M := adM hd3 hb M
 clear hb hd3
 go_wp2_with fail
 refine (bigOf_ok (G := G) y _ HY.out).mono ?_
 rintro e w3 ⟨a_4, c_5, rfl, hd6, hb⟩
 replace M := adM hd6 hb M
 clear hb hd6
 go_wp2_with fail
 refine (new_zero (G := G) (x := x) (y := y) (Nat.le_trans hG (J3 M).size) (J1 M).1 (M.out.1) (Sz.mono (sz_int (n := 0) HX.out) (by omega)) (Sz.mono (sz_int (n := 0) HY.out) (by omega)) HS.out).mono ?_
 rintro e w4 ⟨rfl, hb⟩
 replace M := gnM hb M
 clear hb
 obtain ⟨aa, ab, ac, ad, ae, af, ag, ah⟩ := (J2 M).1.c4
 go_wp2_with fail
 clear aa ab ac ad ae af ag ah
 have hz : w.heap.size ≤ w.heap.size := by exact Nat.le_refl _
 refine st4W (.int .i64 0) (.slice none 0 0) (.int .i64 0) (.slice none 0 0) (J2 M).1 (J3 M) hz fun w5 hv og hk hbw => ?_
 rw [← hv]
 replace M := Lib.hid (aI ((M.out.1).far (J2 M).1 (by rfl) (by omega) og) (aI ((J1 M).1.far (J2 M).1 (by rfl) (by omega) og) (aI hk hbw)))
 clear hk hbw og hv hz
 refine bodyPost_ret (results_box2 rfl _ _ w.heap.size 26 _ _ _ rfl (J2 M).1 Tryz.underlying26 rfl (by kernel_rfl)) rfl ?_
 exact ⟨rfl, (J3 M)⟩
set_option maxRecDepth 100000 in
set_option maxHeartbeats 4000000 in
theorem fracMul_ok {q r : Rat} {a1 b1 a2 b2 : Option Addr} {c1 d1 c2 d2 : Nat} {w : World} (hG : G ≤ w.heap.size) (h1 : FD G w a1 c1 b1 d1 q) (h2 : FD G w a2 c2 b2 d2 r) (hx : Fz q 137438953472) (hy : Fz r 137438953472)  :
  Calls Tryz.prog 15 #[.agg #[.int .i64 (sg (nu q)), .slice a1 (ln (nu q)) c1, .int .i64 (sg (de q)), .slice b1 (ln (de q)) d1], .agg #[.int .i64 (sg (nu r)), .slice a2 (ln (nu r)) c2, .int .i64 (sg (de r)), .slice b2 (ln (de r)) d2]] w fun e w' => ∃ a c b d, e = .returned (.tuple #[.agg #[.int .i64 (sg (nu (q * r))), .slice a (ln (nu (q * r))) c, .int .i64 (sg (de (q * r))), .slice b (ln (de (q * r))) d], .int .i64 0]) ∧ FD G w' a c b d (q * r) ∧ Below w.heap.size w w' := by
 have HX := Lib.hid hx; have HY := Lib.hid hy; clear hx hy
 have H1 : Hid (FD G w a1 c1 b1 d1 q) := h1
 have H2 : Hid (FD G w a2 c2 b2 d2 r) := h2
 clear h1 h2
 have M : Hid (Below w.heap.size w w) := Below.refl _ _
 go_enter Tryz.func15, Tryz.ntmps15
 go_upto_region 1 with fail
 refine nmW (((w.alloc (.cells #[.int .i64 (sg (nu q)), .slice a1 (ln (nu q)) c1, .int .i64 (sg (de q)), .slice b1 (ln (de q)) d1] 26)).alloc (.cells #[.int .i64 (sg (nu r)), .slice a2 (ln (nu r)) c2, .int .i64 (sg (de r)), .slice b2 (ln (de r)) d2] 26)).alloc (.cells #[.int .i64 0, .slice none 0 0, .int .i64 0, .slice none 0 0] 26)) fun w1 hv => ?_
 rw [← hv]
 replace M := al3W hv M
 clear hv
 obtain ⟨aa, ab, ac, ad, ae, af, ag, ah⟩ := (J2 M).1.c4
 go_wp2_with fail
 clear aa ab ac ad ae af ag ah
 refine (fracRight_ok (G := G) (q := q) (H1.out.keep (J3 M)) (Fz.mono HX.out (by omega))).mono ?_
 rintro e w2 ⟨rfl, hb⟩
 replace M := gnM hb M
 clear hb
 obtain ⟨ai, aj, ak, al, am, ao, ap, aq⟩ := (J1 M).1.c4
 go_wp2_with fail
 clear ai aj ak al am ao ap aq
 refine (fracRight_ok (G := G) (q := r) (H2.out.keep (J3 M)) (Fz.mono HY.out (by omega))).mono ?_
 rintro e w3 ⟨rfl, hb⟩
 replace M := gnM hb M
 clear hb
 go_wp2_with fail
 refine nmW w3.drew fun w4 hv => ?_
 replace M := drM hv M
 refine wp_region_held_drew (S := (fun w' => w'.cell? ⟨w.heap.size, 0, none⟩ = some (.int .i64 (sg (nu q))) ∧ w'.cell? ⟨w.heap.size, 1, none⟩ = some (.slice a1 (ln (nu q)) c1) ∧ w'.cell? ⟨w.heap.size, 2, none⟩ = some (.int .i64 (sg (de q))) ∧ w'.cell? ⟨w.heap.size, 3, none⟩ = some (.slice b1 (ln (de q)) d1) ∧ w'.cell? ⟨w.heap.size + 1, 0, none⟩ = some (.int .i64 (sg (nu r))) ∧ w'.cell? ⟨w.heap.size + 1, 1, none⟩ = some (.slice a2 (ln (nu r)) c2) ∧ w'.cell? ⟨w.heap.size + 1, 2, none⟩ = some (.int .i64 (sg (de r))) ∧ w'.cell? ⟨w.heap.size + 1, 3, none⟩ = some (.slice b2 (ln (de r)) d2))) (by kernel_rfl) (by rw [← hv]; exact ((J2 M).1.t4 ((J1 M).1.d4))) (fun hH15 => ?_)
 rw [← hv] at hH15 ⊢
 clear hv
 refine tk at0 ?_
 refine tk at1 ?_
 refine tk at2 ?_
 refine tk at3 ?_
 refine tk at5 ?_
 refine tk at6 ?_
 refine tk at7 ?_
 refine tk at8 ?_
 refine wpAnyH_ready (rs := [4]) (by kernel_rfl) (by simp) ?_
 refine AllReadyH.cons at4 (fun K hK => ?_) AllReadyH.nil
 go_simp
 obtain ⟨z18, ez18⟩ : ∃ v_ : Int, v_ = ((nu q) * (nu r)) := ⟨_, rfl⟩
 refine (times_ok (G := G) (x := (nu q)) (y := (nu r)) (H1.out.keep (J3 M)).n (H2.out.keep (J3 M)).n (Sz.mono HX.out.1 (by omega)) (Sz.mono HY.out.1 (by omega))).mono ?_
 rintro e w5 ⟨a_16, c_17, rfl, hd19, hb⟩
 rw [← ez18] at hd19 ⊢
 have Sz18 : Hid (Sz z18 274877906944) := by show Sz z18 274877906944; rw [ez18]; exact (Sz.mul HX.out.1 HY.out.1)
 have Ez18 := Lib.hid ez18; clear ez18
 replace M := adM hd19 hb M
 clear hb hd19
 (try go_wp2_with fail)
 refine hK.out _ _ (((J3 M).1.t4 ((J2 M).1.d4))) (fun hH20 => ?_)
 clear hK K hH15
 (try simp only [Act.put, List.setIfInBounds_toArray, List.set_cons_zero, List.set_cons_succ])
 refine wpAnyH_ready (rs := [9]) (by kernel_rfl) (by simp) ?_
 refine AllReadyH.cons at9 (fun K hK => ?_) AllReadyH.nil
 go_simp
 obtain ⟨z23, ez23⟩ : ∃ v_ : Int, v_ = ((de q) * (de r)) := ⟨_, rfl⟩
 refine (times_ok (G := G) (x := (de q)) (y := (de r)) (H1.out.keep (J4 M)).d (H2.out.keep (J4 M)).d (Sz.mono HX.out.2 (by omega)) (Sz.mono HY.out.2 (by omega))).mono ?_
 rintro e w6 ⟨a_21, c_22, rfl, hd24, hb⟩
 rw [← ez23] at hd24 ⊢
 have Sz23 : Hid (Sz z23 274877906944) := by show Sz z23 274877906944; rw [ez23]; exact (Sz.mul HX.out.2 HY.out.2)
 have Ez23 := Lib.hid ez23; clear ez23
 replace M := adM hd24 hb M
 clear hb hd24
 (try go_wp2_with fail)
 refine hK.out _ _ (((J4 M).1.t4 ((J3 M).1.d4))) (fun hH25 => ?_)
 clear hK K hH20
 (try simp only [Act.put, List.setIfInBounds_toArray, List.set_cons_zero, List.set_cons_succ])
 refine wpAnyH_ready (rs := [10]) (by kernel_rfl) (by simp) ?_
 refine AllReadyH.cons at10 (fun K hK => ?_) AllReadyH.nil
 go_simp
 refine nmW (α := Rat) (Rat.divInt z18 z23) fun q30 eq30 => ?_
 refine (new_pos (G := G) (x := z18) (y := z23) (J1 M).1 (M.out.1) (Sz.mono Sz18.out (by omega)) (Sz.mono Sz23.out (by omega)) (by rw [Ez23.out]; exact Int.mul_pos (de_pos _) (de_pos _))).mono ?_
 rintro e w7 ⟨a_26, c_27, b_28, d_29, rfl, hd31, hb⟩
 rw [← eq30] at hd31 ⊢
 have Eq30 := Lib.hid eq30; clear eq30
 replace M := adM hd31 hb M
 clear hb hd31
 (try go_wp2_with fail)
 refine hK.out _ _ (((J5 M).1.t4 ((J4 M).1.d4))) (fun hH32 => ?_)
 clear hK K hH25
 (try simp only [Act.put, List.setIfInBounds_toArray, List.set_cons_zero, List.set_cons_succ])
 refine tk at11 ?_
 refine tk at12 ?_
 refine wpAnyH_ready (rs := [13]) (by kernel_rfl) (by simp) ?_
 refine AllReadyH.cons at13 (fun K hK => ?_) AllReadyH.nil
 obtain ⟨ar, au, av, aw, ax, ay, az, ba⟩ := (J3 M).1.c4
 go_simp
 clear ar au av aw ax ay az ba
 have hz : w.heap.size ≤ w.heap.size + 1 + 1 := by omega
 refine st4W (.int .i64 (sg (nu q30))) (.slice a_26 (ln (nu q30)) c_27) (.int .i64 (sg (de q30))) (.slice b_28 (ln (de q30)) d_29) (J3 M).1 (J6 M) hz fun w8 hv og hk hbw => ?_
 rw [← hv]
 replace M := Lib.hid (aI ((M.out.1).far (J3 M).1 (by rfl) (by omega) og) (aI ((J1 M).1.far (J3 M).1 (by rfl) (by omega) og) (aI ((J2 M).1.far (J3 M).1 (by rfl) (by omega) og) (aI hk (aI ((J4 M).1.only og (by omega)) (aI ((J5 M).1.only og (by omega)) hbw))))))
 clear hk hbw og hv hz
 refine hK.out _ _ (((J5 M).1.t4 ((J4 M).1.d4))) (fun hH33 => ?_)
 clear hK K hH32
 (try simp only [Act.put, List.setIfInBounds_toArray, List.set_cons_zero, List.set_cons_succ])
 refine tk at14 ?_
 refine wpAnyH_done (by kernel_rfl) ?_ _
 clear hH33
 go_wp2_with fail
 have HR : q * r = q30 := by rw [Eq30.out, Ez18.out, Ez23.out]; exact (mul_parts q r).symm
 rw [HR]
 refine bodyPost_ret (results_box2 rfl _ _ (w.heap.size + 1 + 1) 26 _ _ _ rfl (J3 M).1 Tryz.underlying26 rfl (by kernel_rfl)) rfl ?_
 exact ⟨a_26, c_27, b_28, d_29, rfl, (M.out.1), (J6 M)⟩
set_option maxRecDepth 100000 in
set_option maxHeartbeats 4000000 in
theorem fracDiv_ok {q r : Rat} {a1 b1 a2 b2 : Option Addr} {c1 d1 c2 d2 : Nat} {w : World} (hG : G ≤ w.heap.size) (h1 : FD G w a1 c1 b1 d1 q) (h2 : FD G w a2 c2 b2 d2 r) (hx : Fz q 137438953472) (hy : Fz r 137438953472) (h0 : r ≠ 0) :
    Calls Tryz.prog 17 #[.agg #[.int .i64 (sg (nu q)), .slice a1 (ln (nu q)) c1, .int .i64 (sg (de q)), .slice b1 (ln (de q)) d1], .agg #[.int .i64 (sg (nu r)), .slice a2 (ln (nu r)) c2, .int .i64 (sg (de r)), .slice b2 (ln (de r)) d2]] w fun e w' => ∃ a c b d, e = .returned (.tuple #[.agg #[.int .i64 (sg (nu (q / r))), .slice a (ln (nu (q / r))) c, .int .i64 (sg (de (q / r))), .slice b (ln (de (q / r))) d], .int .i64 0]) ∧ FD G w' a c b d (q / r) ∧ Below w.heap.size w w' := by
  have hn0 : nu r ≠ 0 := mt nu_zero.1 h0
  have e1 : (sg (nu r) == 0) = false := by rw [sg_zero_iff]; exact decide_eq_false hn0
  have HNZ : Hid (de q * nu r ≠ 0) := by
    show _ ≠ _
    intro h; have := de_pos q
    rcases Int.mul_eq_zero.1 h with h | h
    · omega
    · exact hn0 h
  clear hn0 h0
  have HX := Lib.hid hx; have HY := Lib.hid hy; clear hx hy
  have H1 : Hid (FD G w a1 c1 b1 d1 q) := h1
  have H2 : Hid (FD G w a2 c2 b2 d2 r) := h2
  clear h1 h2
  have M : Hid (Below w.heap.size w w) := Below.refl _ _
  go_enter Tryz.func17, Tryz.ntmps17
  go_upto_region 1 with fail
  refine nmW (((w.alloc (.cells #[.int .i64 (sg (nu q)), .slice a1 (ln (nu q)) c1, .int .i64 (sg (de q)), .slice b1 (ln (de q)) d1] 26)).alloc (.cells #[.int .i64 (sg (nu r)), .slice a2 (ln (nu r)) c2, .int .i64 (sg (de r)), .slice b2 (ln (de r)) d2] 26)).alloc (.cells #[.int .i64 0, .slice none 0 0, .int .i64 0, .slice none 0 0] 26)) fun w1 hv => ?_
  rw [← hv]
  replace M := al3W hv M
  clear hv
  obtain ⟨aa, ab, ac, ad, ae, af, ag, ah⟩ := (J2 M).1.c4
  go_wp2_with fail
  clear aa ab ac ad ae af ag ah
  refine (fracRight_ok (G := G) (q := q) (H1.out.keep (J3 M)) (Fz.mono HX.out (by omega))).mono ?_
  rintro e w2 ⟨rfl, hb⟩
  replace M := gnM hb M
  clear hb
  obtain ⟨ai, aj, ak, al, am, ao, ap, aq⟩ := (J1 M).1.c4
  go_wp2_with fail
  clear ai aj ak al am ao ap aq
  refine (fracRight_ok (G := G) (q := r) (H2.out.keep (J3 M)) (Fz.mono HY.out (by omega))).mono ?_
  rintro e w3 ⟨rfl, hb⟩
  replace M := gnM hb M
  clear hb
  obtain ⟨ai, aj, ak, al, am, ao, ap, aq⟩ := (J1 M).1.c4
  go_wp2_with fail
  clear ai aj ak al am ao ap aq
  refine nmW w3.drew fun w4 hv => ?_
  replace M := drM hv M
  refine wp_region_held_drew (S := (fun w' => w'.cell? ⟨w.heap.size, 0, none⟩ = some (.int .i64 (sg (nu q))) ∧ w'.cell? ⟨w.heap.size, 1, none⟩ = some (.slice a1 (ln (nu q)) c1) ∧ w'.cell? ⟨w.heap.size, 2, none⟩ = some (.int .i64 (sg (de q))) ∧ w'.cell? ⟨w.heap.size, 3, none⟩ = some (.slice b1 (ln (de q)) d1) ∧ w'.cell? ⟨w.heap.size + 1, 0, none⟩ = some (.int .i64 (sg (nu r))) ∧ w'.cell? ⟨w.heap.size + 1, 1, none⟩ = some (.slice a2 (ln (nu r)) c2) ∧ w'.cell? ⟨w.heap.size + 1, 2, none⟩ = some (.int .i64 (sg (de r))) ∧ w'.cell? ⟨w.heap.size + 1, 3, none⟩ = some (.slice b2 (ln (de r)) d2))) (by kernel_rfl) (by rw [← hv]; exact ((J2 M).1.t4 ((J1 M).1.d4))) (fun hH15 => ?_)
  rw [← hv] at hH15 ⊢
  clear hv
  refine tk at0 ?_
  refine tk at1 ?_
  refine tk at2 ?_
  refine tk at3 ?_
  refine tk at5 ?_
  refine tk at6 ?_
  refine tk at7 ?_
  refine tk at8 ?_
  refine wpAnyH_ready (rs := [4]) (by kernel_rfl) (by simp) ?_
  refine AllReadyH.cons at4 (fun K hK => ?_) AllReadyH.nil
  go_simp
  obtain ⟨z18, ez18⟩ : ∃ v_ : Int, v_ = ((nu q) * (de r)) := ⟨_, rfl⟩
  refine (times_ok (G := G) (x := (nu q)) (y := (de r)) (H1.out.keep (J3 M)).n (H2.out.keep (J3 M)).d (Sz.mono HX.out.1 (by omega)) (Sz.mono HY.out.2 (by omega))).mono ?_
  rintro e w5 ⟨a_16, c_17, rfl, hd19, hb⟩
  rw [← ez18] at hd19 ⊢
  have Sz18 : Hid (Sz z18 274877906944) := by show Sz z18 274877906944; rw [ez18]; exact (Sz.mul HX.out.1 HY.out.2)
  have Ez18 := Lib.hid ez18; clear ez18
  replace M := adM hd19 hb M
  clear hb hd19
  (try go_wp2_with fail)
  refine hK.out _ _ (((J3 M).1.t4 ((J2 M).1.d4))) (fun hH20 => ?_)
  clear hK K hH15
  (try simp only [Act.put, List.setIfInBounds_toArray, List.set_cons_zero, List.set_cons_succ])
  refine wpAnyH_ready (rs := [9]) (by kernel_rfl) (by simp) ?_
  refine AllReadyH.cons at9 (fun K hK => ?_) AllReadyH.nil
  go_simp
  obtain ⟨z23, ez23⟩ : ∃ v_ : Int, v_ = ((de q) * (nu r)) := ⟨_, rfl⟩
  refine (times_ok (G := G) (x := (de q)) (y := (nu r)) (H1.out.keep (J4 M)).d (H2.out.keep (J4 M)).n (Sz.mono HX.out.2 (by omega)) (Sz.mono HY.out.1 (by omega))).mono ?_
  rintro e w6 ⟨a_21, c_22, rfl, hd24, hb⟩
  rw [← ez23] at hd24 ⊢
  have Sz23 : Hid (Sz z23 274877906944) := by show Sz z23 274877906944; rw [ez23]; exact (Sz.mul HX.out.2 HY.out.1)
  have Ez23 := Lib.hid ez23; clear ez23
  replace M := adM hd24 hb M
  clear hb hd24
  (try go_wp2_with fail)
  refine hK.out _ _ (((J4 M).1.t4 ((J3 M).1.d4))) (fun hH25 => ?_)
  clear hK K hH20
  (try simp only [Act.put, List.setIfInBounds_toArray, List.set_cons_zero, List.set_cons_succ])
  refine wpAnyH_ready (rs := [10]) (by kernel_rfl) (by simp) ?_
  refine AllReadyH.cons at10 (fun K hK => ?_) AllReadyH.nil
  go_simp
  refine nmW (α := Rat) (Rat.divInt z18 z23) fun q30 eq30 => ?_
  refine (new_ok (G := G) (x := z18) (y := z23) (Nat.le_trans hG (J5 M).size) (J1 M).1 (M.out.1) (Sz.mono Sz18.out (by omega)) (Sz.mono Sz23.out (by omega)) (by rw [Ez23.out]; exact HNZ.out)).mono ?_
  rintro e w7 ⟨a_26, c_27, b_28, d_29, rfl, hd31, hb⟩
  rw [← eq30] at hd31 ⊢
  have Eq30 := Lib.hid eq30; clear eq30
  replace M := adM hd31 hb M
  clear hb hd31
  (try go_wp2_with fail)
  refine hK.out _ _ (((J5 M).1.t4 ((J4 M).1.d4))) (fun hH32 => ?_)
  clear hK K hH25
  (try simp only [Act.put, List.setIfInBounds_toArray, List.set_cons_zero, List.set_cons_succ])
  refine tk at11 ?_
  refine tk at12 ?_
  refine wpAnyH_ready (rs := [13]) (by kernel_rfl) (by simp) ?_
  refine AllReadyH.cons at13 (fun K hK => ?_) AllReadyH.nil
  obtain ⟨ar, au, av, aw, ax, ay, az, ba⟩ := (J3 M).1.c4
  go_simp
  clear ar au av aw ax ay az ba
  have hz : w.heap.size ≤ w.heap.size + 1 + 1 := by omega
  refine st4W (.int .i64 (sg (nu q30))) (.slice a_26 (ln (nu q30)) c_27) (.int .i64 (sg (de q30))) (.slice b_28 (ln (de q30)) d_29) (J3 M).1 (J6 M) hz fun w8 hv og hk hbw => ?_
  rw [← hv]
  replace M := Lib.hid (aI ((M.out.1).far (J3 M).1 (by rfl) (by omega) og) (aI ((J1 M).1.far (J3 M).1 (by rfl) (by omega) og) (aI ((J2 M).1.far (J3 M).1 (by rfl) (by omega) og) (aI hk (aI ((J4 M).1.only og (by omega)) (aI ((J5 M).1.only og (by omega)) hbw))))))
  clear hk hbw og hv hz
  refine hK.out _ _ (((J5 M).1.t4 ((J4 M).1.d4))) (fun hH33 => ?_)
  clear hK K hH32
  (try simp only [Act.put, List.setIfInBounds_toArray, List.set_cons_zero, List.set_cons_succ])
  refine tk at14 ?_
  refine wpAnyH_done (by kernel_rfl) ?_ _
  clear hH33
  go_wp2_with fail
  have HR : q / r = q30 := by rw [Eq30.out, Ez18.out, Ez23.out]; exact div_parts.symm
  rw [HR]
  refine bodyPost_ret (results_box2 rfl _ _ (w.heap.size + 1 + 1) 26 _ _ _ rfl (J3 M).1 Tryz.underlying26 rfl (by kernel_rfl)) rfl ?_
  exact ⟨a_26, c_27, b_28, d_29, rfl, (M.out.1), (J6 M)⟩
set_option maxRecDepth 100000 in
set_option maxHeartbeats 4000000 in
theorem fracDiv_zero {q r : Rat} {a1 b1 a2 b2 : Option Addr} {c1 d1 c2 d2 : Nat} {w : World} (_hG : G ≤ w.heap.size) (h1 : FD G w a1 c1 b1 d1 q) (h2 : FD G w a2 c2 b2 d2 r) (hx : Fz q 137438953472) (hy : Fz r 137438953472) (h0 : r = 0) :
  Calls Tryz.prog 17 #[.agg #[.int .i64 (sg (nu q)), .slice a1 (ln (nu q)) c1, .int .i64 (sg (de q)), .slice b1 (ln (de q)) d1], .agg #[.int .i64 (sg (nu r)), .slice a2 (ln (nu r)) c2, .int .i64 (sg (de r)), .slice b2 (ln (de r)) d2]] w fun e w' => e = .returned (.tuple #[.agg #[.int .i64 0, .slice none 0 0, .int .i64 0, .slice none 0 0], .int .i64 15]) ∧ Below w.heap.size w w' := by
 have e1 : (sg (nu r) == 0) = true := by rw [h0]; rfl
 clear h0
 have HX := Lib.hid hx; have HY := Lib.hid hy; clear hx hy
 have H1 : Hid (FD G w a1 c1 b1 d1 q) := h1
 have H2 : Hid (FD G w a2 c2 b2 d2 r) := h2
 clear h1 h2
 have M : Hid (Below w.heap.size w w) := Below.refl _ _
 go_enter Tryz.func17, Tryz.ntmps17
 go_upto_region 1 with fail
 refine nmW (((w.alloc (.cells #[.int .i64 (sg (nu q)), .slice a1 (ln (nu q)) c1, .int .i64 (sg (de q)), .slice b1 (ln (de q)) d1] 26)).alloc (.cells #[.int .i64 (sg (nu r)), .slice a2 (ln (nu r)) c2, .int .i64 (sg (de r)), .slice b2 (ln (de r)) d2] 26)).alloc (.cells #[.int .i64 0, .slice none 0 0, .int .i64 0, .slice none 0 0] 26)) fun w1 hv => ?_
 rw [← hv]
 replace M := al3W hv M
 clear hv
 obtain ⟨aa, ab, ac, ad, ae, af, ag, ah⟩ := (J2 M).1.c4
 go_wp2_with fail
 clear aa ab ac ad ae af ag ah
 refine (fracRight_ok (G := G) (q := q) (H1.out.keep (J3 M)) (Fz.mono HX.out (by omega))).mono ?_
 rintro e w2 ⟨rfl, hb⟩
 replace M := gnM hb M
 clear hb
 obtain ⟨ai, aj, ak, al, am, ao, ap, aq⟩ := (J1 M).1.c4
 go_wp2_with fail
 clear ai aj ak al am ao ap aq
 refine (fracRight_ok (G := G) (q := r) (H2.out.keep (J3 M)) (Fz.mono HY.out (by omega))).mono ?_
 rintro e w3 ⟨rfl, hb⟩
 replace M := gnM hb M
 clear hb
 obtain ⟨ai, aj, ak, al, am, ao, ap, aq⟩ := (J1 M).1.c4
 obtain ⟨ar, au, av, aw, ax, ay, az, ba⟩ := (M.out.1).c4
 go_wp2_with fail
 clear ai aj ak al am ao ap aq ar au av aw ax ay az ba
 have hz : w.heap.size ≤ w.heap.size + 1 + 1 := by omega
 refine st4W (.int .i64 0) (.slice none 0 0) (.int .i64 0) (.slice none 0 0) (M.out.1) (J3 M) hz fun w4 hv og hk hbw => ?_
 rw [← hv]
 replace M := Lib.hid (aI hk (aI ((J1 M).1.only og (by omega)) (aI ((J2 M).1.only og (by omega)) hbw)))
 clear hk hbw og hv hz
 refine bodyPost_ret (results_box2 rfl _ _ (w.heap.size + 1 + 1) 26 _ _ _ rfl (M.out.1) Tryz.underlying26 rfl (by kernel_rfl)) rfl ?_
 exact ⟨rfl, (J3 M)⟩
set_option maxRecDepth 100000 in
set_option maxHeartbeats 4000000 in
theorem fracNeg_ok {q : Rat} {a1 b1 : Option Addr} {c1 d1 : Nat} {w : World} (hG : G ≤ w.heap.size) (h1 : FD G w a1 c1 b1 d1 q) (hx : Fz q 137438953472)  :
  Calls Tryz.prog 34 #[.agg #[.int .i64 (sg (nu q)), .slice a1 (ln (nu q)) c1, .int .i64 (sg (de q)), .slice b1 (ln (de q)) d1]] w fun e w' => ∃ a c b d, e = .returned (.agg #[.int .i64 (sg (nu (-q))), .slice a (ln (nu (-q))) c, .int .i64 (sg (de (-q))), .slice b (ln (de (-q))) d]) ∧ FD G w' a c b d (-q) ∧ Below w.heap.size w w' := by
 have HX := Lib.hid hx; clear hx
 have H1 : Hid (FD G w a1 c1 b1 d1 q) := h1
 clear h1
 have M : Hid (Below w.heap.size w w) := Below.refl _ _
 go_enter Tryz.func34, Tryz.ntmps34
 go_upto_region 1 with fail
 refine nmW ((w.alloc (.cells #[.int .i64 (sg (nu q)), .slice a1 (ln (nu q)) c1, .int .i64 (sg (de q)), .slice b1 (ln (de q)) d1] 26)).alloc (.cells #[.int .i64 0, .slice none 0 0, .int .i64 0, .slice none 0 0] 26)) fun w1 hv => ?_
 rw [← hv]
 replace M := al2W hv M
 clear hv
 obtain ⟨aa, ab, ac, ad, ae, af, ag, ah⟩ := (J1 M).1.c4
 go_wp2_with fail
 clear aa ab ac ad ae af ag ah
 refine (fracRight_ok (G := G) (q := q) (H1.out.keep (J2 M)) (Fz.mono HX.out (by omega))).mono ?_
 rintro e w2 ⟨rfl, hb⟩
 replace M := gnM hb M
 clear hb
 go_wp2_with fail
 refine nmW w2.drew fun w3 hv => ?_
 replace M := drM hv M
 refine wp_region_held_drew (S := (fun w' => w'.cell? ⟨w.heap.size, 0, none⟩ = some (.int .i64 (sg (nu q))) ∧ w'.cell? ⟨w.heap.size, 1, none⟩ = some (.slice a1 (ln (nu q)) c1) ∧ w'.cell? ⟨w.heap.size, 2, none⟩ = some (.int .i64 (sg (de q))) ∧ w'.cell? ⟨w.heap.size, 3, none⟩ = some (.slice b1 (ln (de q)) d1))) (by kernel_rfl) (by rw [← hv]; exact (J1 M).1.d4) (fun hH8 => ?_)
 rw [← hv] at hH8 ⊢
 clear hv
 refine tk at0 ?_
 refine tk at1 ?_
 refine tk at3 ?_
 refine tk at4 ?_
 refine wpAnyH_ready (rs := [2]) (by kernel_rfl) (by simp) ?_
 refine AllReadyH.cons at2 (fun K hK => ?_) AllReadyH.nil
 go_simp
 obtain ⟨z11, ez11⟩ : ∃ v_ : Int, v_ = (-(nu q)) := ⟨_, rfl⟩
 refine (bigNeg_ok (G := G) (x := (nu q)) (H1.out.keep (J2 M)).n (Sz.mono HX.out.1 (by omega))).mono ?_
 rintro e w4 ⟨a_9, c_10, rfl, hd12, hb⟩
 rw [← ez11] at hd12 ⊢
 have Sz11 : Hid (Sz z11 137438953472) := by show Sz z11 137438953472; rw [ez11]; exact (Sz.neg HX.out.1)
 have Ez11 := Lib.hid ez11; clear ez11
 replace M := adM hd12 hb M
 clear hb hd12
 (try go_wp2_with fail)
 refine hK.out _ _ ((J2 M).1.d4) (fun hH13 => ?_)
 clear hK K hH8
 (try simp only [Act.put, List.setIfInBounds_toArray, List.set_cons_zero, List.set_cons_succ])
 refine wpAnyH_ready (rs := [5]) (by kernel_rfl) (by simp) ?_
 refine AllReadyH.cons at5 (fun K hK => ?_) AllReadyH.nil
 go_simp
 refine (slim_ok (G := G) (x := (de q)) (H1.out.keep (J3 M)).d (Sz.mono HX.out.2 (by omega))).mono ?_
 rintro e w5 ⟨a_14, c_15, rfl, hd16, hb⟩
 replace M := adM hd16 hb M
 clear hb hd16
 (try go_wp2_with fail)
 refine hK.out _ _ ((J3 M).1.d4) (fun hH17 => ?_)
 clear hK K hH13
 (try simp only [Act.put, List.setIfInBounds_toArray, List.set_cons_zero, List.set_cons_succ])
 refine tk at6 ?_
 refine wpAnyH_ready (rs := [7]) (by kernel_rfl) (by simp) ?_
 refine AllReadyH.cons at7 (fun K hK => ?_) AllReadyH.nil
 obtain ⟨ai, aj, ak, al, am, ao, ap, aq⟩ := (J2 M).1.c4
 go_simp
 clear ai aj ak al am ao ap aq
 have hz : w.heap.size ≤ w.heap.size + 1 := by omega
 refine st4W (.int .i64 (sg z11)) (.slice a_9 (ln z11) c_10) (.int .i64 (sg (de q))) (.slice a_14 (ln (de q)) c_15) (J2 M).1 (J4 M) hz fun w6 hv og hk hbw => ?_
 rw [← hv]
 replace M := Lib.hid (aI ((M.out.1).far (J2 M).1 (by rfl) (by omega) og) (aI ((J1 M).1.far (J2 M).1 (by rfl) (by omega) og) (aI hk (aI ((J3 M).1.only og (by omega)) hbw))))
 clear hk hbw og hv hz
 refine hK.out _ _ ((J3 M).1.d4) (fun hH18 => ?_)
 clear hK K hH17
 (try simp only [Act.put, List.setIfInBounds_toArray, List.set_cons_zero, List.set_cons_succ])
 refine wpAnyH_done (by kernel_rfl) ?_ _
 clear hH18
 go_wp2_with fail
 have HN : nu (-q) = z11 := by rw [Ez11.out, nu_neg]
 have HD : de (-q) = de q := de_neg q
 rw [HN, HD]
 refine bodyPost_ret (results_box1 rfl _ _ (w.heap.size + 1) 26 _ _ _ rfl (J2 M).1 Tryz.underlying26 rfl (by kernel_rfl)) rfl ?_
 exact ⟨a_9, c_10, a_14, c_15, rfl, FD.mk (by rw [HN]; exact (J1 M).1) (by rw [HD]; exact (M.out.1)), (J4 M)⟩
set_option maxRecDepth 100000 in
set_option maxHeartbeats 4000000 in
theorem fracSign_ok {q : Rat} {a1 b1 : Option Addr} {c1 d1 : Nat} {w : World} (_hG : G ≤ w.heap.size) (h1 : FD G w a1 c1 b1 d1 q) (hx : Fz q 137438953472)  :
  Calls Tryz.prog 36 #[.agg #[.int .i64 (sg (nu q)), .slice a1 (ln (nu q)) c1, .int .i64 (sg (de q)), .slice b1 (ln (de q)) d1]] w fun e w' => e = .returned (.int .i64 (sg (nu q))) ∧ Below w.heap.size w w' := by
 have HX := Lib.hid hx; clear hx
 have H1 : Hid (FD G w a1 c1 b1 d1 q) := h1
 clear h1
 have M : Hid (Below w.heap.size w w) := Below.refl _ _
 go_enter Tryz.func36, Tryz.ntmps36
 go_upto_region 1 with fail
 refine nmW (w.alloc (.cells #[.int .i64 (sg (nu q)), .slice a1 (ln (nu q)) c1, .int .i64 (sg (de q)), .slice b1 (ln (de q)) d1] 26)) fun w1 hv => ?_
 rw [← hv]
 replace M := alM hv M
 clear hv
 obtain ⟨aa, ab, ac, ad, ae, af, ag, ah⟩ := (M.out.1).c4
 go_wp2_with fail
 clear aa ab ac ad ae af ag ah
 refine (fracRight_ok (G := G) (q := q) (H1.out.keep (J1 M)) (Fz.mono HX.out (by omega))).mono ?_
 rintro e w2 ⟨rfl, hb⟩
 replace M := gnM hb M
 clear hb
 obtain ⟨aa, ab, ac, ad, ae, af, ag, ah⟩ := (M.out.1).c4
 go_wp2_with fail
 clear aa ab ac ad ae af ag ah
 go_ret
 exact ⟨rfl, (J1 M)⟩
/-- The integral part. -/
def flo (q : Rat) : Int := dv (nu q) (de q)
set_option maxRecDepth 100000 in
set_option maxHeartbeats 4000000 in
theorem fracFloor_ok {q : Rat} {a1 b1 : Option Addr} {c1 d1 : Nat} {w : World} (hG : G ≤ w.heap.size) (h1 : FD G w a1 c1 b1 d1 q) (hx : Fz q 137438953472)  :
  Calls Tryz.prog 43 #[.agg #[.int .i64 (sg (nu q)), .slice a1 (ln (nu q)) c1, .int .i64 (sg (de q)), .slice b1 (ln (de q)) d1]] w fun e w' => ∃ a c, e = .returned (.agg #[.int .i64 (sg (flo q)), .slice a (ln (flo q)) c]) ∧ BD G w' a c (flo q) ∧ Below w.heap.size w w' := by
 have HX := Lib.hid hx; clear hx
 have H1 : Hid (FD G w a1 c1 b1 d1 q) := h1
 clear h1
 have M : Hid (Below w.heap.size w w) := Below.refl _ _
 go_enter Tryz.func43, Tryz.ntmps43
 go_upto_region 1 with fail
 refine nmW ((w.alloc (.cells #[.int .i64 (sg (nu q)), .slice a1 (ln (nu q)) c1, .int .i64 (sg (de q)), .slice b1 (ln (de q)) d1] 26)).alloc (.cells #[.int .i64 0, .slice none 0 0] 24)) fun w1 hv => ?_
 rw [← hv]
 replace M := al2W hv M
 clear hv
 obtain ⟨aa, ab, ac, ad, ae, af, ag, ah⟩ := (J1 M).1.c4
 go_wp2_with fail
 clear aa ab ac ad ae af ag ah
 refine (fracRight_ok (G := G) (q := q) (H1.out.keep (J2 M)) (Fz.mono HX.out (by omega))).mono ?_
 rintro e w2 ⟨rfl, hb⟩
 replace M := gnM hb M
 clear hb
 obtain ⟨aa, ab, ac, ad, ae, af, ag, ah⟩ := (J1 M).1.c4
 go_wp2_with fail
 clear aa ab ac ad ae af ag ah
 obtain ⟨z5, ez5⟩ : ∃ v_ : Int, v_ = (dv (nu q) (de q)) := ⟨_, rfl⟩
 obtain ⟨z6, ez6⟩ : ∃ v_ : Int, v_ = (md (nu q) (de q)) := ⟨_, rfl⟩
 refine (bigDiv_ok (G := G) (x := (nu q)) (y := (de q)) (H1.out.keep (J2 M)).n (H1.out.keep (J2 M)).d (Sz.mono HX.out.1 (by omega)) (Sz.mono HX.out.2 (by omega)) (by have := de_pos q; omega)).mono ?_
 rintro e w3 ⟨a_1, c_2, b_3, d_4, rfl, hd7, hd8, hb⟩
 rw [← ez5] at hd7 ⊢
 have Ez5 := Lib.hid ez5; clear ez5
 rw [← ez6] at hd8 ⊢
 have Ez6 := Lib.hid ez6; clear ez6
 replace M := ad2M hd7 hd8 hb M
 clear hb hd7 hd8
 go_upto_region 4 with fail
 refine nmW ((w3.alloc (.cells #[.int .i64 (sg z5), .slice a_1 (ln z5) c_2] 24)).alloc (.cells #[.int .i64 (sg z6), .slice b_3 (ln z6) d_4] 24)) fun w4 hv => ?_
 rw [← hv]
 have o2 : w.heap.size + 1 < w3.heap.size := ((J2 M).1).lt
 replace M := al2W hv M
 clear hv
 obtain ⟨ai, aj, ak, al⟩ := (J1 M).1.c2
 obtain ⟨am, ao, ap, aq⟩ := (J4 M).1.c2
 go_wp2_with fail
 clear ai aj ak al am ao ap aq
 have hz : w.heap.size ≤ w.heap.size + 1 := by omega
 refine st2W (.int .i64 (sg z5)) (.slice a_1 (ln z5) c_2) (J4 M).1 (J6 M) hz fun w5 hv og hk hbw => ?_
 rw [← hv]
 replace M := Lib.hid (aI ((M.out.1).only og (by omega)) (aI ((J1 M).1.only og (by omega)) (aI ((J2 M).1.far (J4 M).1 (by rfl) (by omega) og) (aI ((J3 M).1.far (J4 M).1 (by rfl) (by omega) og) (aI hk (aI ((J5 M).1.only og (by omega)) hbw))))))
 clear hk hbw og hv hz
 have HR : flo q = z5 := by rw [Ez5.out]; rfl
 rw [HR]
 refine bodyPost_ret (results_box1 rfl _ _ (w.heap.size + 1) 24 _ _ _ rfl (J4 M).1 Tryz.underlying24 rfl (by kernel_rfl)) rfl ?_
 exact ⟨a_1, c_2, rfl, (J2 M).1, (J6 M)⟩
theorem either_is {q r : Rat} {a1 b1 a2 b2 : Option Addr} {c1 d1 c2 d2 : Nat} {w : World} (h1 : FD G w a1 c1 b1 d1 q) (h2 : FD G w a2 c2 b2 d2 r) (hx : Fz q 137438953472) (hy : Fz r 137438953472) {s : Int} (hs : s = 1 ∨ s = -1) {m : Rat} (hm : pick q r s = m) :
  Calls Tryz.prog 71 #[.agg #[.int .i64 (sg (nu q)), .slice a1 (ln (nu q)) c1, .int .i64 (sg (de q)), .slice b1 (ln (de q)) d1], .agg #[.int .i64 (sg (nu r)), .slice a2 (ln (nu r)) c2, .int .i64 (sg (de r)), .slice b2 (ln (de r)) d2], .int .i64 s] w fun e w' => ∃ a c b d, e = .returned (.tuple #[.agg #[.int .i64 (sg (nu m)), .slice a (ln (nu m)) c, .int .i64 (sg (de m)), .slice b (ln (de m)) d], .int .i64 0]) ∧ FD G w' a c b d m ∧ Below w.heap.size w w' := by
 subst hm; exact either_ok h1 h2 hx hy hs
set_option maxRecDepth 100000 in
set_option maxHeartbeats 4000000 in
theorem fracMin_is {q r m : Rat} {a1 b1 a2 b2 : Option Addr} {c1 d1 c2 d2 : Nat} {w : World} (hG : G ≤ w.heap.size) (h1 : FD G w a1 c1 b1 d1 q) (h2 : FD G w a2 c2 b2 d2 r) (hx : Fz q 137438953472) (hy : Fz r 137438953472) (hm : pick q r (-1) = m) :
  Calls Tryz.prog 30 #[.agg #[.int .i64 (sg (nu q)), .slice a1 (ln (nu q)) c1, .int .i64 (sg (de q)), .slice b1 (ln (de q)) d1], .agg #[.int .i64 (sg (nu r)), .slice a2 (ln (nu r)) c2, .int .i64 (sg (de r)), .slice b2 (ln (de r)) d2]] w fun e w' => ∃ a c b d, e = .returned (.tuple #[.agg #[.int .i64 (sg (nu m)), .slice a (ln (nu m)) c, .int .i64 (sg (de m)), .slice b (ln (de m)) d], .int .i64 0]) ∧ FD G w' a c b d m ∧ Below w.heap.size w w' := by
 have HM := Lib.hid hm; clear hm
 have HX := Lib.hid hx; have HY := Lib.hid hy; clear hx hy
 have H1 : Hid (FD G w a1 c1 b1 d1 q) := h1
 have H2 : Hid (FD G w a2 c2 b2 d2 r) := h2
 clear h1 h2
 have M : Hid (Below w.heap.size w w) := Below.refl _ _
 go_enter Tryz.func30, Tryz.ntmps30
 go_upto_region 1 with fail
 refine nmW (((w.alloc (.cells #[.int .i64 (sg (nu q)), .slice a1 (ln (nu q)) c1, .int .i64 (sg (de q)), .slice b1 (ln (de q)) d1] 26)).alloc (.cells #[.int .i64 (sg (nu r)), .slice a2 (ln (nu r)) c2, .int .i64 (sg (de r)), .slice b2 (ln (de r)) d2] 26)).alloc (.cells #[.int .i64 0, .slice none 0 0, .int .i64 0, .slice none 0 0] 26)) fun w1 hv => ?_
 rw [← hv]
 replace M := al3W hv M
 clear hv
 obtain ⟨aa, ab, ac, ad, ae, af, ag, ah⟩ := (J2 M).1.c4
 obtain ⟨ai, aj, ak, al, am, ao, ap, aq⟩ := (J1 M).1.c4
 go_wp2_with fail
 clear aa ab ac ad ae af ag ah ai aj ak al am ao ap aq
 refine (either_is (G := G) (q := q) (r := r) (s := (-1)) (m := m) (H1.out.keep (J3 M)) (H2.out.keep (J3 M)) HX.out HY.out (by decide) HM.out).mono ?_
 rintro e w2 ⟨a_1, c_2, b_3, d_4, rfl, hd5, hb⟩
 replace M := adM hd5 hb M
 clear hb hd5
 obtain ⟨ar, au, av, aw, ax, ay, az, ba⟩ := (J1 M).1.c4
 go_wp2_with fail
 clear ar au av aw ax ay az ba
 have hz : w.heap.size ≤ w.heap.size + 1 + 1 := by omega
 refine st4W (.int .i64 (sg (nu m))) (.slice a_1 (ln (nu m)) c_2) (.int .i64 (sg (de m))) (.slice b_3 (ln (de m)) d_4) (J1 M).1 (J4 M) hz fun w3 hv og hk hbw => ?_
 rw [← hv]
 replace M := Lib.hid (aI ((M.out.1).far (J1 M).1 (by rfl) (by omega) og) (aI hk (aI ((J2 M).1.only og (by omega)) (aI ((J3 M).1.only og (by omega)) hbw))))
 clear hk hbw og hv hz
 refine bodyPost_ret (results_box2 rfl _ _ (w.heap.size + 1 + 1) 26 _ _ _ rfl (J1 M).1 Tryz.underlying26 rfl (by kernel_rfl)) rfl ?_
 exact ⟨a_1, c_2, b_3, d_4, rfl, (M.out.1), (J4 M)⟩
set_option maxRecDepth 100000 in
set_option maxHeartbeats 4000000 in
theorem fracMax_is {q r m : Rat} {a1 b1 a2 b2 : Option Addr} {c1 d1 c2 d2 : Nat} {w : World} (hG : G ≤ w.heap.size) (h1 : FD G w a1 c1 b1 d1 q) (h2 : FD G w a2 c2 b2 d2 r) (hx : Fz q 137438953472) (hy : Fz r 137438953472) (hm : pick q r 1 = m) :
  Calls Tryz.prog 32 #[.agg #[.int .i64 (sg (nu q)), .slice a1 (ln (nu q)) c1, .int .i64 (sg (de q)), .slice b1 (ln (de q)) d1], .agg #[.int .i64 (sg (nu r)), .slice a2 (ln (nu r)) c2, .int .i64 (sg (de r)), .slice b2 (ln (de r)) d2]] w fun e w' => ∃ a c b d, e = .returned (.tuple #[.agg #[.int .i64 (sg (nu m)), .slice a (ln (nu m)) c, .int .i64 (sg (de m)), .slice b (ln (de m)) d], .int .i64 0]) ∧ FD G w' a c b d m ∧ Below w.heap.size w w' := by
 have HM := Lib.hid hm; clear hm
 have HX := Lib.hid hx; have HY := Lib.hid hy; clear hx hy
 have H1 : Hid (FD G w a1 c1 b1 d1 q) := h1
 have H2 : Hid (FD G w a2 c2 b2 d2 r) := h2
 clear h1 h2
 have M : Hid (Below w.heap.size w w) := Below.refl _ _
 go_enter Tryz.func32, Tryz.ntmps32
 go_upto_region 1 with fail
 refine nmW (((w.alloc (.cells #[.int .i64 (sg (nu q)), .slice a1 (ln (nu q)) c1, .int .i64 (sg (de q)), .slice b1 (ln (de q)) d1] 26)).alloc (.cells #[.int .i64 (sg (nu r)), .slice a2 (ln (nu r)) c2, .int .i64 (sg (de r)), .slice b2 (ln (de r)) d2] 26)).alloc (.cells #[.int .i64 0, .slice none 0 0, .int .i64 0, .slice none 0 0] 26)) fun w1 hv => ?_
 rw [← hv]
 replace M := al3W hv M
 clear hv
 obtain ⟨aa, ab, ac, ad, ae, af, ag, ah⟩ := (J2 M).1.c4
 obtain ⟨ai, aj, ak, al, am, ao, ap, aq⟩ := (J1 M).1.c4
 go_wp2_with fail
 clear aa ab ac ad ae af ag ah ai aj ak al am ao ap aq
 refine (either_is (G := G) (q := q) (r := r) (s := 1) (m := m) (H1.out.keep (J3 M)) (H2.out.keep (J3 M)) HX.out HY.out (by decide) HM.out).mono ?_
 rintro e w2 ⟨a_1, c_2, b_3, d_4, rfl, hd5, hb⟩
 replace M := adM hd5 hb M
 clear hb hd5
 obtain ⟨ar, au, av, aw, ax, ay, az, ba⟩ := (J1 M).1.c4
 go_wp2_with fail
 clear ar au av aw ax ay az ba
 have hz : w.heap.size ≤ w.heap.size + 1 + 1 := by omega
 refine st4W (.int .i64 (sg (nu m))) (.slice a_1 (ln (nu m)) c_2) (.int .i64 (sg (de m))) (.slice b_3 (ln (de m)) d_4) (J1 M).1 (J4 M) hz fun w3 hv og hk hbw => ?_
 rw [← hv]
 replace M := Lib.hid (aI ((M.out.1).far (J1 M).1 (by rfl) (by omega) og) (aI hk (aI ((J2 M).1.only og (by omega)) (aI ((J3 M).1.only og (by omega)) hbw))))
 clear hk hbw og hv hz
 refine bodyPost_ret (results_box2 rfl _ _ (w.heap.size + 1 + 1) 26 _ _ _ rfl (J1 M).1 Tryz.underlying26 rfl (by kernel_rfl)) rfl ?_
 exact ⟨a_1, c_2, b_3, d_4, rfl, (M.out.1), (J4 M)⟩
set_option maxRecDepth 100000 in
set_option maxHeartbeats 4000000 in
theorem fracSame_any {x y u v : Int} {a1 b1 a2 b2 : Option Addr} {c1 d1 c2 d2 : Nat} {w : World} {r1 r2 : Bool} (h1 : BD G w a1 c1 x) (k1 : BD G w b1 d1 y) (h2 : BD G w a2 c2 u) (k2 : BD G w b2 d2 v) (hx : Sz x 1099511627776) (hy : Sz y 1099511627776) (hu : Sz u 1099511627776) (hv : Sz v 1099511627776) (e1 : eqZ x u = r1) (e2 : eqZ y v = r2) :
  Calls Tryz.prog 29 #[.agg #[.int .i64 (sg x), .slice a1 (ln x) c1, .int .i64 (sg y), .slice b1 (ln y) d1], .agg #[.int .i64 (sg u), .slice a2 (ln u) c2, .int .i64 (sg v), .slice b2 (ln v) d2]] w fun e w' => e = .returned (.bool (r1 && r2)) ∧ Below w.heap.size w w' := by
 have HX := Lib.hid hx; have HY := Lib.hid hy; have HU := Lib.hid hu; have HV := Lib.hid hv; have HE1 := Lib.hid e1; have HE2 := Lib.hid e2; clear hx hy hu hv e1 e2
 have H1 : Hid (BD G w a1 c1 x) := h1
 have K1 : Hid (BD G w b1 d1 y) := k1
 have H2 : Hid (BD G w a2 c2 u) := h2
 have K2 : Hid (BD G w b2 d2 v) := k2
 clear h1 k1 h2 k2
 have M : Hid (Below w.heap.size w w) := Below.refl _ _
 go_enter Tryz.func29, Tryz.ntmps29
 go_upto_region 1 with fail
 refine nmW ((w.alloc (.cells #[.int .i64 (sg x), .slice a1 (ln x) c1, .int .i64 (sg y), .slice b1 (ln y) d1] 26)).alloc (.cells #[.int .i64 (sg u), .slice a2 (ln u) c2, .int .i64 (sg v), .slice b2 (ln v) d2] 26)) fun w1 hv => ?_
 rw [← hv]
 replace M := al2W hv M
 clear hv
 obtain ⟨aa, ab, ac, ad, ae, af, ag, ah⟩ := (J1 M).1.c4
 obtain ⟨ai, aj, ak, al, am, ao, ap, aq⟩ := (M.out.1).c4
 go_wp2_with fail
 clear aa ab ac ad ae af ag ah ai aj ak al am ao ap aq
 refine (bigSame_is (G := G) (x := x) (y := u) (b := r1) (H1.out.keep (J2 M)) (H2.out.keep (J2 M)) HX.out HU.out HE1.out).mono ?_
 rintro e w2 ⟨rfl, hb⟩
 replace M := gnM hb M
 clear hb
 cases r1 with
 | false =>
  go_wp2_with fail
  go_ret
  exact ⟨rfl, (J2 M)⟩
 | true =>
  obtain ⟨aa, ab, ac, ad, ae, af, ag, ah⟩ := (J1 M).1.c4
  obtain ⟨ai, aj, ak, al, am, ao, ap, aq⟩ := (M.out.1).c4
  go_wp2_with fail
  clear aa ab ac ad ae af ag ah ai aj ak al am ao ap aq
  refine (bigSame_is (G := G) (x := y) (y := v) (b := r2) (K1.out.keep (J2 M)) (K2.out.keep (J2 M)) HY.out HV.out HE2.out).mono ?_
  rintro e w3 ⟨rfl, hb⟩
  replace M := gnM hb M
  clear hb
  go_wp2_with fail
  go_ret
  exact ⟨rfl, (J2 M)⟩
theorem fracSame_q {q r : Rat} {a1 b1 a2 b2 : Option Addr} {c1 d1 c2 d2 : Nat} {w : World} (h1 : FD G w a1 c1 b1 d1 q) (h2 : FD G w a2 c2 b2 d2 r) (hx : Fz q 549755813888) (hy : Fz r 549755813888) (he : q = r) :
  Calls Tryz.prog 29 #[.agg #[.int .i64 (sg (nu q)), .slice a1 (ln (nu q)) c1, .int .i64 (sg (de q)), .slice b1 (ln (de q)) d1], .agg #[.int .i64 (sg (nu r)), .slice a2 (ln (nu r)) c2, .int .i64 (sg (de r)), .slice b2 (ln (de r)) d2]] w fun e w' => e = .returned (.bool true) ∧ Below w.heap.size w w' := by
 subst he
 exact fracSame_any h1.n h1.d h2.n h2.d (hx.1.mono (by omega)) (hx.2.mono (by omega)) (hx.1.mono (by omega)) (hx.2.mono (by omega)) (eqZ_of rfl) (eqZ_of rfl)
theorem fracCompare_is {q r : Rat} {k : Int} {a1 b1 a2 b2 : Option Addr} {c1 d1 c2 d2 : Nat} {w : World} (h1 : FD G w a1 c1 b1 d1 q) (h2 : FD G w a2 c2 b2 d2 r) (hx : Fz q 137438953472) (hy : Fz r 137438953472) (hk : ordQ q r = k) :
  Calls Tryz.prog 27 #[.agg #[.int .i64 (sg (nu q)), .slice a1 (ln (nu q)) c1, .int .i64 (sg (de q)), .slice b1 (ln (de q)) d1], .agg #[.int .i64 (sg (nu r)), .slice a2 (ln (nu r)) c2, .int .i64 (sg (de r)), .slice b2 (ln (de r)) d2]] w fun e w' => e = .returned (.int .i64 k) ∧ Below w.heap.size w w' := by
 rw [← hk]; exact fracCompare_ok h1 h2 hx hy
theorem fracSign_is {q : Rat} {k : Int} {a1 b1 : Option Addr} {c1 d1 : Nat} {w : World} (hG : G ≤ w.heap.size) (h1 : FD G w a1 c1 b1 d1 q) (hx : Fz q 137438953472) (hk : sg (nu q) = k) :
  Calls Tryz.prog 36 #[.agg #[.int .i64 (sg (nu q)), .slice a1 (ln (nu q)) c1, .int .i64 (sg (de q)), .slice b1 (ln (de q)) d1]] w fun e w' => e = .returned (.int .i64 k) ∧ Below w.heap.size w w' := by
 rw [← hk]; exact fracSign_ok hG h1 hx
end Go.Proofs.YtcfmakpckdicjaaGreatDoor
