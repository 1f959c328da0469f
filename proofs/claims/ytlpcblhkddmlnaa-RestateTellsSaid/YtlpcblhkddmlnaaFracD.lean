/- Walks: fractions: making, products, quotients, opposites, the lesser one, the integral part. -/
import Derived.Test.YtlpcblhkddmlnaaBase
import Derived.Test.YtlpcblhkddmlnaaBigSpec
import Derived.Test.YtlpcblhkddmlnaaBigA
import Derived.Test.YtlpcblhkddmlnaaBigB
import Derived.Test.YtlpcblhkddmlnaaBigC
import Derived.Test.YtlpcblhkddmlnaaBigD
import Derived.Test.YtlpcblhkddmlnaaBigK
import Derived.Test.YtlpcblhkddmlnaaBigL
import Derived.Test.YtlpcblhkddmlnaaBigQ
import Derived.Test.YtlpcblhkddmlnaaFd
import Derived.Test.YtlpcblhkddmlnaaHeld
import Derived.Test.YtlpcblhkddmlnaaAw
import Derived.Test.YtlpcblhkddmlnaaFracC
import Derived.Test.YtlpcblhkddmlnaaFz
import Derived.Test.YtlpcblhkddmlnaaRefS
import Derived.Test.YtlpcblhkddmlnaaProg
import Derived.Test.YtlpcblhkddmlnaaShelf
import Derived.WalkKit
import Derived.WalkSpells
import Derived.WalkLawsBesides
import Derived.Handy
import Derived.Lib.Hide
import Derived.Lib.Strings
import Derived.Lib.Builder
import Derived.BigQuiet
import Derived.OwnWalk
import Derived.Laws.BitsLemmas
import Derived.WalkSmall
import Derived.Deep.QuietTactic
import Derived.StillTailTactics
import Derived.Maps.AppendAt
import Derived.IntWalk
import Derived.Deep.RegionHeld3
import Derived.Deep.DeepFit
import Derived.Deep.LoopGhost
import Derived.Deep.DeepCutAuto
namespace Go.Proofs.Ytlpcblhkddmlnaa
open Go.RowKit
variable {G : Nat}

theorem getD_eq (l : List Int) {j : Nat} (h : j < l.length) : l.getD j 0 = l[j] := by rw [List.getD_eq_getElem?_getD, List.getElem?_eq_getElem h]; rfl
/-- slices.Equal at []int, whatever the slices. -/
theorem sEqual_any (v u : Value) (l m : List Int) (w : World) (hv : RdZ w v l) (hu : RdZ w u m) (hl : l.length ≤ 1099511627776) (hm : m.length ≤ 1099511627776) :
    Calls Try.prog 71 #[v, u] w fun e w' => e = .returned (.bool (l == m)) ∧ Below w.heap.size w w' := by
  obtain ⟨a1, c1, rfl⟩ := hv.shape
  obtain ⟨a2, c2, rfl⟩ := hu.shape
  by_cases hn : l.length = m.length
  · cases l with
    | nil =>
      refine (Try.slices_Equal_int_empty a1 a2 c1 m.length c2 w (by omega)).mono ?_
      rintro e w' ⟨rfl, rfl⟩
      refine ⟨?_, Below.refl _ _⟩
      have : m = [] := List.length_eq_zero_iff.1 hn.symm
      subst this; rfl
    | cons x l =>
      obtain ⟨b, o, rfl, -, -⟩ := hv.at (k := 0) (by simp)
      obtain ⟨b2, o2, rfl, -, -⟩ := hu.at (k := 0) (by rw [← hn]; simp)
      refine (Try.slices_Equal_int b o (x :: l).length c1 b2 o2 m.length c2 (x :: l) m w (Nat.le_refl _) (Nat.le_refl _) (by omega) (by omega) ?_ ?_).mono ?_
      · intro j hj
        obtain ⟨b', o', h1, -, h2⟩ := hv.at hj
        cases h1; rw [getD_eq _ hj]; exact h2
      · intro j hj
        obtain ⟨b', o', h1, -, h2⟩ := hu.at hj
        cases h1; rw [getD_eq _ hj]; exact h2
      · rintro e w' ⟨rfl, q, rfl⟩
        rw [List.take_length, List.take_length]
        exact ⟨rfl, below_drewN (Below.refl _ _) q⟩
  · refine (Try.slices_Equal_int_lens a1 a2 l.length c1 m.length c2 w hn).mono ?_
    rintro e w' ⟨rfl, rfl⟩
    refine ⟨?_, Below.refl _ _⟩
    have : (l == m) = false := by rw [beq_eq_false_iff_ne]; intro h; exact hn (by rw [h])
    rw [this]
theorem ints_inj {l m : Digs} (h : ints l = ints m) : l = m := by
 unfold ints at h
 exact (List.map_inj_right (fun x y h => by omega)).1 h
theorem sEqual_n {x y : Int} {a1 a2 : Option Addr} {c1 c2 : Nat} {bd : Bool} {w : World} (h1 : BD G w a1 c1 x) (h2 : BD G w a2 c2 y) (hx : Sz x 1099511627776) (hy : Sz y 1099511627776) (hd : decide (x.natAbs = y.natAbs) = bd) :
    Calls Try.prog 71 #[.slice a1 (ln x) c1, .slice a2 (ln y) c2] w fun e w' => e = .returned (.bool bd) ∧ Below w.heap.size w w' := by
  refine (sEqual_any _ _ (ints (digs x.natAbs)) (ints (digs y.natAbs)) w h1.rd h2.rd (by rw [ints_len]; exact hx) (by rw [ints_len]; exact hy)).mono ?_
  rintro e w' ⟨rfl, hb⟩
  refine ⟨?_, hb⟩
  rw [← hd]
  congr 2
  by_cases h : x.natAbs = y.natAbs
  · rw [h]; simp
  · rw [decide_eq_false h, beq_eq_false_iff_ne]
    intro h'; exact h (digs_inj (ints_inj h'))
theorem same_parts {x y : Int} : ((sg x == sg y) && decide (x.natAbs = y.natAbs)) = eqZ x y := by
  unfold eqZ
  by_cases h : x = y
  · subst h; simp
  · rw [decide_eq_false h]
    by_cases h1 : sg x = sg y
    · by_cases h2 : x.natAbs = y.natAbs
      · exfalso; apply h
        rw [abs_sg x, abs_sg y, h1, h2]
      · simp [h2]
    · have : (sg x == sg y) = false := by rw [beq_eq_false_iff_ne]; exact h1
      rw [this]; rfl
set_option maxRecDepth 100000 in
set_option maxHeartbeats 4000000 in
theorem bigSame_ok {x y : Int} {a1 a2 : Option Addr} {c1 c2 : Nat} {w : World} (h1 : BD G w a1 c1 x) (h2 : BD G w a2 c2 y) (hx : Sz x 1099511627776) (hy : Sz y 1099511627776) :
  Calls Try.prog 45 #[.agg #[.int .i64 (sg x), .slice a1 (ln x) c1], .agg #[.int .i64 (sg y), .slice a2 (ln y) c2]] w fun e w' => e = .returned (.bool (eqZ x y)) ∧ Below w.heap.size w w' := by
 obtain ⟨bs, hbs⟩ : ∃ b, (sg x == sg y) = b := ⟨_, rfl⟩
 obtain ⟨bd, hbd⟩ : ∃ b, decide (x.natAbs = y.natAbs) = b := ⟨_, rfl⟩
 have HR : Hid (eqZ x y = (bs && bd)) := by show _ = _; rw [← same_parts, hbs, hbd]
 have HBD := Lib.hid hbd; clear hbd
 have HX := Lib.hid hx; have HY := Lib.hid hy; clear hx hy
 have H1 : Hid (BD G w a1 c1 x) := h1
 have H2 : Hid (BD G w a2 c2 y) := h2
 clear h1 h2
 have M : Hid (Below w.heap.size w w) := Below.refl _ _
 go_enter Try.func45, Try.ntmps45
 go_upto_region 1 with fail
 refine nmW ((w.alloc (.cells #[.int .i64 (sg x), .slice a1 (ln x) c1] 25)).alloc (.cells #[.int .i64 (sg y), .slice a2 (ln y) c2] 25)) fun w1 hv => ?_
 rw [← hv]
 have hbx := bx2 w 25 25 #[.int .i64 (sg x), .slice a1 (ln x) c1] #[.int .i64 (sg y), .slice a2 (ln y) c2]
 rw [← hv] at hbx
 have hbn : Below w.heap.size w w1 := by rw [hv]; exact (Below.alloc (Below.alloc (Below.refl _ _) (by simp <;> omega) _) (by simp <;> omega) _)
 replace M := Lib.hid (And.intro hbx.2 (And.intro hbx.1 (Goes.go M.out hbn)))
 clear hbx hbn
 clear hv
 cases bs with
 | false =>
  obtain ⟨p0_0, q0_0, p0_1, q0_1⟩ := (M.out.2.1).c2
  obtain ⟨p1_0, q1_0, p1_1, q1_1⟩ := (M.out.1).c2
  go_wp2_with fail
  clear p0_0 q0_0 p0_1 q0_1 p1_0 q1_0 p1_1 q1_1
  go_ret
  exact ⟨by rw [HR.out]; cases bd <;> rfl, (M.out.2.2)⟩
 | true =>
  obtain ⟨p0_0, q0_0, p0_1, q0_1⟩ := (M.out.2.1).c2
  obtain ⟨p1_0, q1_0, p1_1, q1_1⟩ := (M.out.1).c2
  go_wp2_with fail
  clear p0_0 q0_0 p0_1 q0_1 p1_0 q1_0 p1_1 q1_1
  refine (sEqual_n (G := G) (x := x) (y := y) (bd := bd) (H1.out.keep (M.out.2.2)) (H2.out.keep (M.out.2.2)) HX.out HY.out HBD.out).mono ?_
  rintro e w2 ⟨rfl, hb⟩
  replace M := gnM hb M
  clear hb
  go_wp2_with fail
  go_ret
  exact ⟨by rw [HR.out]; cases bd <;> rfl, (M.out.2.2)⟩
theorem bigSame_is {x y : Int} {a1 a2 : Option Addr} {c1 c2 : Nat} {b : Bool} {w : World} (h1 : BD G w a1 c1 x) (h2 : BD G w a2 c2 y) (hx : Sz x 1099511627776) (hy : Sz y 1099511627776) (he : eqZ x y = b) :
  Calls Try.prog 45 #[.agg #[.int .i64 (sg x), .slice a1 (ln x) c1], .agg #[.int .i64 (sg y), .slice a2 (ln y) c2]] w fun e w' => e = .returned (.bool b) ∧ Below w.heap.size w w' := by
 rw [← he]; exact bigSame_ok h1 h2 hx hy
/-- Whatever the big integer. -/
theorem bigRight_raw {s : Int} {a : Option Addr} {c : Nat} {l : List Int} {b : Bool} {w : World} (h : RdZ w (.slice a l.length c) l) (hn : l.length ≤ 1099511627776) (hb : rightB s l = b) :
  Calls Try.prog 60 #[.agg #[.int .i64 s, .slice a l.length c]] w fun e w' => e = .returned (.bool b) ∧ Below w.heap.size w w' := by
 rw [← hb]; exact bigRight_any s _ l w h hn
theorem eqZ_of {x y : Int} (h : x = y) : eqZ x y = true := by unfold eqZ; exact decide_eq_true h
/-- A right big integer is an integer's digits. -/
theorem ints_toNat {l : List Int} (h : l.all digitOk = true) : ints (l.map Int.toNat) = l ∧ small (l.map Int.toNat) := by
  have hd : ∀ d ∈ l, 0 ≤ d ∧ d ≤ 1048575 := fun d hd => by
    have := List.all_eq_true.1 h d hd
    simpa [digitOk] using this
  constructor
  · unfold ints
    rw [List.map_map]
    conv => rhs; rw [← List.map_id l]
    exact List.map_congr_left fun d hm => by have := hd d hm; simp; omega
  · intro d hm
    obtain ⟨e, he, rfl⟩ := List.mem_map.1 hm
    have := hd e he; omega
theorem right_parts {s : Int} {l : List Int} (hr : rightB s l = true) : ∃ z : Int, s = sg z ∧ l = ints (digs z.natAbs) := by
  unfold rightB at hr
  rw [Bool.and_eq_true] at hr
  obtain ⟨h1, h2⟩ := hr
  obtain ⟨e1, e2⟩ := ints_toNat h1
  by_cases h0 : l = []
  · subst h0
    rw [if_pos rfl] at h2
    exact ⟨0, by simpa [sg] using h2, rfl⟩
  · rw [if_neg h0, Bool.and_eq_true, Bool.or_eq_true] at h2
    obtain ⟨h3, h4⟩ := h2
    have h4 := of_decide_eq_true h4
    obtain ⟨P, hP⟩ : ∃ P, P = l.map Int.toNat := ⟨_, rfl⟩
    rw [← hP] at e1 e2
    have hc : canon P := by
      refine ⟨e2, fun h => h4 ?_⟩
      rw [← e1]; unfold ints
      rw [List.getLast?_map, h]; rfl
    have hv : val P ≠ 0 := by
      intro h
      have : P = [] := by rw [← digs_val hc, h]; rfl
      rw [this] at e1; exact h0 e1.symm
    have hs : s = 1 ∨ s = -1 := by
      rcases h3 with h | h
      · exact .inl (by simpa using h)
      · exact .inr (by simpa using h)
    refine ⟨s * (val P : Int), ?_, ?_⟩
    · rcases hs with rfl | rfl
      · rw [Int.one_mul]; exact (Int.sign_eq_one_of_pos (by omega)).symm
      · unfold sg; rw [Int.sign_eq_neg_one_of_neg (by omega)]
    · have : (s * (val P : Int)).natAbs = val P := by rcases hs with rfl | rfl <;> omega
      rw [this, digs_val hc, e1]
end Go.Proofs.Ytlpcblhkddmlnaa
namespace Go.Proofs.Ytlpcblhkddmlnaa
open Go.RowKit
variable {G : Nat}

theorem bigGcd_is' {x y g : Int} {a1 a2 : Option Addr} {c1 c2 : Nat} {w : World} (h1 : BD G w a1 c1 x) (h2 : BD G w a2 c2 y) (hx : Sz x 549755813888) (hy : Sz y 549755813888) (hg : ((Nat.gcd x.natAbs y.natAbs : Nat) : Int) = g) :
  Calls Try.prog 61 #[.agg #[.int .i64 (sg x), .slice a1 (ln x) c1], .agg #[.int .i64 (sg y), .slice a2 (ln y) c2]] w fun e w' => ∃ a c, e = .returned (.tuple #[.agg #[.int .i64 (sg g), .slice a (ln g) c], .int .i64 0]) ∧ BD G w' a c g ∧ Below w.heap.size w w' := by
 subst hg; exact bigGcd_ok h1 h2 hx hy
set_option maxRecDepth 100000 in
set_option maxHeartbeats 4000000 in
theorem fracNeg_ok {q : Rat} {a1 b1 : Option Addr} {c1 d1 : Nat} {w : World} (hG : G ≤ w.heap.size) (h1 : FD G w a1 c1 b1 d1 q) (hx : Fz q 137438953472)  :
  Calls Try.prog 74 #[.agg #[.int .i64 (sg (nu q)), .slice a1 (ln (nu q)) c1, .int .i64 (sg (de q)), .slice b1 (ln (de q)) d1]] w fun e w' => ∃ a c b d, e = .returned (.agg #[.int .i64 (sg (nu (-q))), .slice a (ln (nu (-q))) c, .int .i64 (sg (de (-q))), .slice b (ln (de (-q))) d]) ∧ FD G w' a c b d (-q) ∧ Below w.heap.size w w' := by
 have HX := Lib.hid hx; clear hx
 have H1 : Hid (FD G w a1 c1 b1 d1 q) := h1
 clear h1
 have M : Hid (Below w.heap.size w w) := Below.refl _ _
 go_enter Try.func74, Try.ntmps74
 go_upto_region 1 with fail
 refine nmW ((w.alloc (.cells #[.int .i64 (sg (nu q)), .slice a1 (ln (nu q)) c1, .int .i64 (sg (de q)), .slice b1 (ln (de q)) d1] 27)).alloc (.cells #[.int .i64 0, .slice none 0 0, .int .i64 0, .slice none 0 0] 27)) fun w1 hv => ?_
 rw [← hv]
 have hbx := bx2 w 27 27 #[.int .i64 (sg (nu q)), .slice a1 (ln (nu q)) c1, .int .i64 (sg (de q)), .slice b1 (ln (de q)) d1] #[.int .i64 0, .slice none 0 0, .int .i64 0, .slice none 0 0]
 rw [← hv] at hbx
 have hbn : Below w.heap.size w w1 := by rw [hv]; exact (Below.alloc (Below.alloc (Below.refl _ _) (by simp <;> omega) _) (by simp <;> omega) _)
 replace M := Lib.hid (And.intro hbx.2 (And.intro hbx.1 (Goes.go M.out hbn)))
 clear hbx hbn
 clear hv
 obtain ⟨p0_0, q0_0, p0_1, q0_1, p0_2, q0_2, p0_3, q0_3⟩ := (M.out.2.1).c4
 go_wp2_with fail
 clear p0_0 q0_0 p0_1 q0_1 p0_2 q0_2 p0_3 q0_3
 refine (fracRight_ok (G := G) (q := q) (H1.out.keep (M.out.2.2)) (Fz.mono HX.out (by omega))).mono ?_
 rintro e w2 ⟨rfl, hb⟩
 replace M := gnM hb M
 clear hb
 go_wp2_with fail
 refine nmW w2.drew fun w3 hv => ?_
 replace M := drM hv M
 refine wp_region_held_drew (S := (fun w' => w'.cell? ⟨w.heap.size, 0, none⟩ = some (.int .i64 (sg (nu q))) ∧ w'.cell? ⟨w.heap.size, 1, none⟩ = some (.slice a1 (ln (nu q)) c1) ∧ w'.cell? ⟨w.heap.size, 2, none⟩ = some (.int .i64 (sg (de q))) ∧ w'.cell? ⟨w.heap.size, 3, none⟩ = some (.slice b1 (ln (de q)) d1))) (by kernel_rfl) (by rw [← hv]; exact (M.out.2.1).d4) (fun hH8 => ?_)
 rw [← hv] at hH8 ⊢
 clear hv
 refine tk at0 ?_
 refine tk at1 ?_
 refine tk at3 ?_
 refine tk at4 ?_
 refine wpAnyH_ready (rs := [2]) (by kernel_rfl) (by simp) ?_
 refine AllReadyH.cons at2 (fun K hK => ?_) AllReadyH.nil
 go_simp
 obtain ⟨z11, ez11⟩ : ∃ v_ : Int, v_ = (-(nu q)) := ⟨_, rfl⟩
 refine (bigNeg_ok (G := G) (x := (nu q)) (H1.out.keep (M.out.2.2)).n (Sz.mono HX.out.1 (by omega))).mono ?_
 rintro e w4 ⟨a_9, c_10, rfl, hd12, hb⟩
 rw [← ez11] at hd12 ⊢
 have Sz11 : Hid (Sz z11 137438953472) := by show Sz z11 137438953472; rw [ez11]; exact (Sz.neg HX.out.1)
 have Ez11 := Lib.hid ez11; clear ez11
 replace M := adM hd12 hb M
 clear hb hd12
 (try go_wp2_with fail)
 refine hK.out _ _ ((M.out.2.2.1).d4) (fun hH13 => ?_)
 clear hK K hH8
 (try simp only [Act.put, List.setIfInBounds_toArray, List.set_cons_zero, List.set_cons_succ])
 refine wpAnyH_ready (rs := [5]) (by kernel_rfl) (by simp) ?_
 refine AllReadyH.cons at5 (fun K hK => ?_) AllReadyH.nil
 go_simp
 refine (slim_ok (G := G) (x := (de q)) (H1.out.keep (M.out.2.2.2)).d (Sz.mono HX.out.2 (by omega))).mono ?_
 rintro e w5 ⟨a_14, c_15, rfl, hd16, hb⟩
 replace M := adM hd16 hb M
 clear hb hd16
 (try go_wp2_with fail)
 refine hK.out _ _ ((M.out.2.2.2.1).d4) (fun hH17 => ?_)
 clear hK K hH13
 (try simp only [Act.put, List.setIfInBounds_toArray, List.set_cons_zero, List.set_cons_succ])
 refine tk at6 ?_
 refine wpAnyH_ready (rs := [7]) (by kernel_rfl) (by simp) ?_
 refine AllReadyH.cons at7 (fun K hK => ?_) AllReadyH.nil
 obtain ⟨p1_0, q1_0, p1_1, q1_1, p1_2, q1_2, p1_3, q1_3⟩ := (M.out.2.2.1).c4
 go_simp
 clear p1_0 q1_0 p1_1 q1_1 p1_2 q1_2 p1_3 q1_3
 refine nmW ((((w5.setCell ⟨w.heap.size + 1, 0, none⟩ (.int .i64 (sg z11))).setCell ⟨w.heap.size + 1, 1, none⟩ (.slice a_9 (ln z11) c_10)).setCell ⟨w.heap.size + 1, 2, none⟩ (.int .i64 (sg (de q)))).setCell ⟨w.heap.size + 1, 3, none⟩ (.slice a_14 (ln (de q)) c_15)) fun w6 hv => ?_
 rw [← hv]
 have og : w5.grownBy w6 (some (w.heap.size + 1)) := by rw [hv]; exact (only_setCell (only_setCell (only_setCell (only_setCell (World.grownBy.refl _ _) _) _) _) _)
 have hz : w.heap.size ≤ w.heap.size + 1 := by omega
 have hk : Bx w6 (w.heap.size + 1) 27 #[.int .i64 (sg z11), .slice a_9 (ln z11) c_10, .int .i64 (sg (de q)), .slice a_14 (ln (de q)) c_15] := by rw [hv]; exact (((((M.out.2.2.1).set 0 _).set 1 _).set 2 _).set 3 _)
 have hbw : Below w.heap.size w w6 := by rw [hv]; exact (Below.setCell (Below.setCell (Below.setCell (Below.setCell (M.out.2.2.2.2) (by omega) _) (by omega) _) (by omega) _) (by omega) _)
 replace M := Lib.hid (And.intro ((M.out.1).far (M.out.2.2.1) (by rfl) (by omega) og) (And.intro ((M.out.2.1).far (M.out.2.2.1) (by rfl) (by omega) og) (And.intro hk (And.intro ((M.out.2.2.2.1).only og (by omega)) hbw))))
 clear hk hbw og hv hz
 refine hK.out _ _ ((M.out.2.2.2.1).d4) (fun hH18 => ?_)
 clear hK K hH17
 (try simp only [Act.put, List.setIfInBounds_toArray, List.set_cons_zero, List.set_cons_succ])
 refine wpAnyH_done (by kernel_rfl) ?_ _
 clear hH18
 go_wp2_with fail
 have HN : nu (-q) = z11 := by rw [Ez11.out, nu_neg]
 have HD : de (-q) = de q := de_neg q
 rw [HN, HD]
 refine bodyPost_ret (results_box1 rfl _ _ (w.heap.size + 1) 27 _ _ _ rfl (M.out.2.2.1) Try.underlying27 rfl (by kernel_rfl)) rfl ?_
 exact ⟨a_9, c_10, a_14, c_15, rfl, FD.mk (by rw [HN]; exact (M.out.2.1)) (by rw [HD]; exact (M.out.1)), (M.out.2.2.2.2)⟩
set_option maxRecDepth 100000 in
set_option maxHeartbeats 4000000 in
theorem fracSame_any {x y u v : Int} {a1 b1 a2 b2 : Option Addr} {c1 d1 c2 d2 : Nat} {w : World} {r1 r2 : Bool} (h1 : BD G w a1 c1 x) (k1 : BD G w b1 d1 y) (h2 : BD G w a2 c2 u) (k2 : BD G w b2 d2 v) (hx : Sz x 1099511627776) (hy : Sz y 1099511627776) (hu : Sz u 1099511627776) (hv : Sz v 1099511627776) (e1 : eqZ x u = r1) (e2 : eqZ y v = r2) :
  Calls Try.prog 27 #[.agg #[.int .i64 (sg x), .slice a1 (ln x) c1, .int .i64 (sg y), .slice b1 (ln y) d1], .agg #[.int .i64 (sg u), .slice a2 (ln u) c2, .int .i64 (sg v), .slice b2 (ln v) d2]] w fun e w' => e = .returned (.bool (r1 && r2)) ∧ Below w.heap.size w w' := by
 have HX := Lib.hid hx; have HY := Lib.hid hy; have HU := Lib.hid hu; have HV := Lib.hid hv; have HE1 := Lib.hid e1; have HE2 := Lib.hid e2; clear hx hy hu hv e1 e2
 have H1 : Hid (BD G w a1 c1 x) := h1
 have K1 : Hid (BD G w b1 d1 y) := k1
 have H2 : Hid (BD G w a2 c2 u) := h2
 have K2 : Hid (BD G w b2 d2 v) := k2
 clear h1 k1 h2 k2
 have M : Hid (Below w.heap.size w w) := Below.refl _ _
 go_enter Try.func27, Try.ntmps27
 go_upto_region 1 with fail
 refine nmW ((w.alloc (.cells #[.int .i64 (sg x), .slice a1 (ln x) c1, .int .i64 (sg y), .slice b1 (ln y) d1] 27)).alloc (.cells #[.int .i64 (sg u), .slice a2 (ln u) c2, .int .i64 (sg v), .slice b2 (ln v) d2] 27)) fun w1 hv => ?_
 rw [← hv]
 have hbx := bx2 w 27 27 #[.int .i64 (sg x), .slice a1 (ln x) c1, .int .i64 (sg y), .slice b1 (ln y) d1] #[.int .i64 (sg u), .slice a2 (ln u) c2, .int .i64 (sg v), .slice b2 (ln v) d2]
 rw [← hv] at hbx
 have hbn : Below w.heap.size w w1 := by rw [hv]; exact (Below.alloc (Below.alloc (Below.refl _ _) (by simp <;> omega) _) (by simp <;> omega) _)
 replace M := Lib.hid (And.intro hbx.2 (And.intro hbx.1 (Goes.go M.out hbn)))
 clear hbx hbn
 clear hv
 obtain ⟨p0_0, q0_0, p0_1, q0_1, p0_2, q0_2, p0_3, q0_3⟩ := (M.out.2.1).c4
 obtain ⟨p1_0, q1_0, p1_1, q1_1, p1_2, q1_2, p1_3, q1_3⟩ := (M.out.1).c4
 go_wp2_with fail
 clear p0_0 q0_0 p0_1 q0_1 p0_2 q0_2 p0_3 q0_3 p1_0 q1_0 p1_1 q1_1 p1_2 q1_2 p1_3 q1_3
 refine (bigSame_is (G := G) (x := x) (y := u) (b := r1) (H1.out.keep (M.out.2.2)) (H2.out.keep (M.out.2.2)) HX.out HU.out HE1.out).mono ?_
 rintro e w2 ⟨rfl, hb⟩
 replace M := gnM hb M
 clear hb
 cases r1 with
 | false =>
  go_wp2_with fail
  go_ret
  exact ⟨rfl, (M.out.2.2)⟩
 | true =>
  obtain ⟨p0_0, q0_0, p0_1, q0_1, p0_2, q0_2, p0_3, q0_3⟩ := (M.out.2.1).c4
  obtain ⟨p1_0, q1_0, p1_1, q1_1, p1_2, q1_2, p1_3, q1_3⟩ := (M.out.1).c4
  go_wp2_with fail
  clear p0_0 q0_0 p0_1 q0_1 p0_2 q0_2 p0_3 q0_3 p1_0 q1_0 p1_1 q1_1 p1_2 q1_2 p1_3 q1_3
  refine (bigSame_is (G := G) (x := y) (y := v) (b := r2) (K1.out.keep (M.out.2.2)) (K2.out.keep (M.out.2.2)) HY.out HV.out HE2.out).mono ?_
  rintro e w3 ⟨rfl, hb⟩
  replace M := gnM hb M
  clear hb
  go_wp2_with fail
  go_ret
  exact ⟨rfl, (M.out.2.2)⟩
theorem fracCompare_is {q r : Rat} {k : Int} {a1 b1 a2 b2 : Option Addr} {c1 d1 c2 d2 : Nat} {w : World} (h1 : FD G w a1 c1 b1 d1 q) (h2 : FD G w a2 c2 b2 d2 r) (hx : Fz q 137438953472) (hy : Fz r 137438953472) (hk : ordQ q r = k) :
  Calls Try.prog 46 #[.agg #[.int .i64 (sg (nu q)), .slice a1 (ln (nu q)) c1, .int .i64 (sg (de q)), .slice b1 (ln (de q)) d1], .agg #[.int .i64 (sg (nu r)), .slice a2 (ln (nu r)) c2, .int .i64 (sg (de r)), .slice b2 (ln (de r)) d2]] w fun e w' => e = .returned (.int .i64 k) ∧ Below w.heap.size w w' := by
 rw [← hk]; exact fracCompare_ok h1 h2 hx hy
end Go.Proofs.Ytlpcblhkddmlnaa
