/- Figures that were shown, in memory, right or not, and as plain data. -/
import Derived.Test.YtlpcblhkddmlnaaBase
import Derived.Test.YtlpcblhkddmlnaaBigSpec
import Derived.Test.YtlpcblhkddmlnaaBigB
import Derived.Test.YtlpcblhkddmlnaaBigC
import Derived.Test.YtlpcblhkddmlnaaBigD
import Derived.Test.YtlpcblhkddmlnaaBigK
import Derived.Test.YtlpcblhkddmlnaaBigQ
import Derived.Test.YtlpcblhkddmlnaaFd
import Derived.Test.YtlpcblhkddmlnaaHeld
import Derived.Test.YtlpcblhkddmlnaaAw
import Derived.Test.YtlpcblhkddmlnaaFracC
import Derived.Test.YtlpcblhkddmlnaaFz
import Derived.Test.YtlpcblhkddmlnaaBigDec
import Derived.Test.YtlpcblhkddmlnaaFracR
import Derived.Test.YtlpcblhkddmlnaaRw
import Derived.Test.YtlpcblhkddmlnaaProg
import Derived.Test.YtlpcblhkddmlnaaShelf
import Derived.WalkKit
import Derived.WalkSpells
import Derived.WalkLawsBesides
import Derived.Handy
import Derived.Lib.Hide
import Derived.Lib.Strings
import Derived.Lib.Builder
import Derived.BigQuiet
import Derived.OwnWalk
import Derived.Laws.BitsLemmas
import Derived.WalkSmall
import Derived.Deep.QuietTactic
import Derived.StillTailTactics
import Derived.Maps.AppendAt
import Derived.IntWalk
import Derived.Deep.RegionHeld3
import Derived.Deep.DeepFit
import Derived.Deep.LoopGhost
import Derived.Deep.DeepCutAuto
import Derived.Lib.ItoaNum
import Derived.Lib.Repeat
import Derived.Lib.AppendIntMem
import Derived.Sort.OwnSorted
import Derived.Shelf.Strings.SlTrimAscii
import Derived.Lib.ConvBytes
import Derived.Lib.CutLaws
namespace Go.Proofs.Ytlpcblhkddmlnaa
open Go.RowKit Go.Lib
variable {G : Nat}

theorem ordQ_le0 (q r : Rat) : decide (ordQ q r ≤ 0) = decide (q ≤ r) := by
  apply decide_eq_decide.2
  constructor
  · intro h
    rcases (show q ≤ r ∨ r < q by grind) with h' | h'
    · exact h'
    · rw [ordQ_ge h'] at h; omega
  · intro h; have := ordQ_up h; omega
set_option maxRecDepth 100000 in
set_option maxHeartbeats 4000000 in
theorem spRight_q {u0 u1 u2 u3 u4 u5 u6 u7 : Value} {p q : Rat} {b_ : Bool} {w : World} (h1 : FQ G w u0 u1 u2 u3 p) (h2 : FQ G w u4 u5 u6 u7 q) (hx : Fz p 137438953472) (hy : Fz q 137438953472) (hb : decide (p ≤ q) = b_) :
  Calls Try.prog 28 #[.agg #[u0, u1, u2, u3, u4, u5, u6, u7]] w fun e w' => e = .returned (.bool b_) ∧ Below w.heap.size w w' := by
 have HX := Lib.hid hx; have HY := Lib.hid hy; clear hx hy
 obtain ⟨k1, hk1⟩ : ∃ k, ordQ p q = k := ⟨_, rfl⟩
 obtain ⟨b1, hb1⟩ : ∃ b, decide (p ≤ q) = b := ⟨_, rfl⟩
 have hd1 : decide (k1 ≤ 0) = b1 := by rw [← hb1, ← hk1]; exact ordQ_le0 p q
 have Hk1 := Lib.hid hk1; have HB1 := Lib.hid hb1; clear hk1 hb1
 rw [HB1.out] at hb; subst hb
 have H1 : Hid (FQ G w u0 u1 u2 u3 p) := h1
 have H2 : Hid (FQ G w u4 u5 u6 u7 q) := h2
 clear h1 h2
 have M : Hid (Below w.heap.size w w) := Below.refl _ _
 go_enter Try.func28, Try.ntmps28
 go_upto_region 1 with fail
 refine nmW (w.alloc (.cells #[u0, u1, u2, u3, u4, u5, u6, u7] 29)) fun w1 hv => ?_
 rw [← hv]
 replace M := alM hv M
 clear hv
 refine cj8 (M.out.1).d8 fun p0_0 p0_1 p0_2 p0_3 p0_4 p0_5 p0_6 p0_7 => ?_
 go_wp2_with fail
 clear p0_0 p0_1 p0_2 p0_3 p0_4 p0_5 p0_6 p0_7
 refine (fqRight (G := G) (q := p) (H1.out.keep (M.out.2)) (Fz.mono HX.out (by omega))).mono ?_
 rintro e w2 ⟨rfl, hb⟩
 replace M := gnM hb M
 clear hb
 refine cj8 (M.out.1).d8 fun p0_0 p0_1 p0_2 p0_3 p0_4 p0_5 p0_6 p0_7 => ?_
 go_wp2_with fail
 clear p0_0 p0_1 p0_2 p0_3 p0_4 p0_5 p0_6 p0_7
 refine (fqRight (G := G) (q := q) (H2.out.keep (M.out.2)) (Fz.mono HY.out (by omega))).mono ?_
 rintro e w3 ⟨rfl, hb⟩
 replace M := gnM hb M
 clear hb
 refine cj8 (M.out.1).d8 fun p0_0 p0_1 p0_2 p0_3 p0_4 p0_5 p0_6 p0_7 => ?_
 go_wp2_with fail
 clear p0_0 p0_1 p0_2 p0_3 p0_4 p0_5 p0_6 p0_7
 refine (fqCompare (G := G) (q := p) (r := q) (k := k1) (H1.out.keep (M.out.2)) (H2.out.keep (M.out.2)) HX.out HY.out Hk1.out).mono ?_
 rintro e w4 ⟨rfl, hb⟩
 replace M := gnM hb M
 clear hb
 go_wp2_with fail
 go_ret
 exact ⟨rfl, (M.out.2)⟩
end Go.Proofs.Ytlpcblhkddmlnaa
namespace Go.Proofs.Ytlpcblhkddmlnaa
open Go.RowKit Go.Lib
variable {G : Nat}

set_option maxRecDepth 100000 in
set_option maxHeartbeats 4000000 in
theorem spNeg_q {u0 u1 u2 u3 u4 u5 u6 u7 : Value} {p q : Rat} {w : World} (hG : G ≤ w.heap.size) (h1 : FQ G w u0 u1 u2 u3 p) (h2 : FQ G w u4 u5 u6 u7 q) (hp : Fz p 34359738368) (hq : Fz q 34359738368) (ha : p ≤ q)  :
  Calls Try.prog 50 #[.agg #[u0, u1, u2, u3, u4, u5, u6, u7]] w fun e w' => ∃ x0 x1 x2 x3 x4 x5 x6 x7, e = .returned (.agg #[x0, x1, x2, x3, x4, x5, x6, x7]) ∧ FQ G w' x0 x1 x2 x3 (-q) ∧ FQ G w' x4 x5 x6 x7 (-p) ∧ Below w.heap.size w w' := by
 have HP := Lib.hid hp; have HQ := Lib.hid hq; have HA := Lib.hid (decide_eq_true ha); have HAA := Lib.hid ha; clear hp hq ha
 have H1 : Hid (FQ G w u0 u1 u2 u3 p) := h1
 have H2 : Hid (FQ G w u4 u5 u6 u7 q) := h2
 clear h1 h2
 have M : Hid (Below w.heap.size w w) := Below.refl _ _
 go_enter Try.func50, Try.ntmps50
 go_upto_region 1 with fail
 refine nmW ((w.alloc (.cells #[u0, u1, u2, u3, u4, u5, u6, u7] 29)).alloc (.cells #[.int .i64 0, .slice none 0 0, .int .i64 0, .slice none 0 0, .int .i64 0, .slice none 0 0, .int .i64 0, .slice none 0 0] 29)) fun w1 hv => ?_
 rw [← hv]
 have hbx := bx2 w 29 29 #[u0, u1, u2, u3, u4, u5, u6, u7] #[.int .i64 0, .slice none 0 0, .int .i64 0, .slice none 0 0, .int .i64 0, .slice none 0 0, .int .i64 0, .slice none 0 0]
 rw [← hv] at hbx
 have hbn : Below w.heap.size w w1 := by rw [hv]; exact (Below.alloc (Below.alloc (Below.refl _ _) (by simp <;> omega) _) (by simp <;> omega) _)
 replace M := Lib.hid (And.intro hbx.2 (And.intro hbx.1 (Goes.go M.out hbn)))
 clear hbx hbn
 clear hv
 refine cj8 (M.out.2.1).d8 fun p0_0 p0_1 p0_2 p0_3 p0_4 p0_5 p0_6 p0_7 => ?_
 go_wp2_with fail
 clear p0_0 p0_1 p0_2 p0_3 p0_4 p0_5 p0_6 p0_7
 refine (spRight_q (G := G) (p := p) (q := q) (b_ := true) (H1.out.keep (M.out.2.2)) (H2.out.keep (M.out.2.2)) (Fz.mono HP.out (by omega)) (Fz.mono HQ.out (by omega)) HA.out).mono ?_
 rintro e w2 ⟨rfl, hb⟩
 replace M := gnM hb M
 clear hb
 go_wp2_with fail
 refine nmW w2.drew fun w3 hv => ?_
 replace M := drM hv M
 refine wp_region_held_drew (S := (fun w' => w'.cell? ⟨w.heap.size, 0, none⟩ = some (u0) ∧ w'.cell? ⟨w.heap.size, 1, none⟩ = some (u1) ∧ w'.cell? ⟨w.heap.size, 2, none⟩ = some (u2) ∧ w'.cell? ⟨w.heap.size, 3, none⟩ = some (u3) ∧ w'.cell? ⟨w.heap.size, 4, none⟩ = some (u4) ∧ w'.cell? ⟨w.heap.size, 5, none⟩ = some (u5) ∧ w'.cell? ⟨w.heap.size, 6, none⟩ = some (u6) ∧ w'.cell? ⟨w.heap.size, 7, none⟩ = some (u7))) (by kernel_rfl) (by rw [← hv]; exact (M.out.2.1).d8) (fun hH13 => ?_)
 rw [← hv] at hH13 ⊢
 clear hv
 refine tk at0 ?_
 refine tk at1 ?_
 refine tk at3 ?_
 refine tk at4 ?_
 refine wpAnyH_ready (rs := [2]) (by kernel_rfl) (by simp) ?_
 refine AllReadyH.cons at2 (fun K hK => ?_) AllReadyH.nil
 go_simp
 refine nmW (α := Rat) (-q) fun q18 eq18 => ?_
 refine (fqNeg (G := G) (q := q) (Nat.le_trans hG (M.out.2.2).size) (H2.out.keep (M.out.2.2)) (Fz.mono HQ.out (by omega))).mono ?_
 rintro e w4 ⟨x_14, x_15, x_16, x_17, rfl, hd19, hb⟩
 rw [← eq18] at hd19
 have Sq18 : Hid (Fz q18 34359738368) := by show Fz q18 34359738368; rw [eq18]; exact (Fz.neg HQ.out)
 have Eq18 := Lib.hid eq18; clear eq18
 replace M := adM hd19 hb M
 clear hb hd19
 (try go_wp2_with fail)
 refine hK.out _ _ ((M.out.2.2.1).d8) (fun hH20 => ?_)
 clear hK K hH13
 (try simp only [Act.put, List.setIfInBounds_toArray, List.set_cons_zero, List.set_cons_succ])
 refine wpAnyH_ready (rs := [5]) (by kernel_rfl) (by simp) ?_
 refine AllReadyH.cons at5 (fun K hK => ?_) AllReadyH.nil
 go_simp
 refine nmW (α := Rat) (-p) fun q25 eq25 => ?_
 refine (fqNeg (G := G) (q := p) (Nat.le_trans hG (M.out.2.2.2).size) (H1.out.keep (M.out.2.2.2)) (Fz.mono HP.out (by omega))).mono ?_
 rintro e w5 ⟨x_21, x_22, x_23, x_24, rfl, hd26, hb⟩
 rw [← eq25] at hd26
 have Sq25 : Hid (Fz q25 34359738368) := by show Fz q25 34359738368; rw [eq25]; exact (Fz.neg HP.out)
 have Eq25 := Lib.hid eq25; clear eq25
 replace M := adM hd26 hb M
 clear hb hd26
 (try go_wp2_with fail)
 refine hK.out _ _ ((M.out.2.2.2.1).d8) (fun hH27 => ?_)
 clear hK K hH20
 (try simp only [Act.put, List.setIfInBounds_toArray, List.set_cons_zero, List.set_cons_succ])
 refine tk at6 ?_
 refine wpAnyH_ready (rs := [7]) (by kernel_rfl) (by simp) ?_
 refine AllReadyH.cons at7 (fun K hK => ?_) AllReadyH.nil
 refine cj16 (M.out.2.2.1).c8 fun p1_0 q1_0 p1_1 q1_1 p1_2 q1_2 p1_3 q1_3 p1_4 q1_4 p1_5 q1_5 p1_6 q1_6 p1_7 q1_7 => ?_
 refine cj4 (TQ.st (M.out.2.1)) fun st_x_14 st_x_15 st_x_16 st_x_17 => ?_
 refine cj4 (TQ.st (M.out.1)) fun st_x_21 st_x_22 st_x_23 st_x_24 => ?_
 go_simp
 clear p1_0 q1_0 p1_1 q1_1 p1_2 q1_2 p1_3 q1_3 p1_4 q1_4 p1_5 q1_5 p1_6 q1_6 p1_7 q1_7 st_x_14 st_x_15 st_x_16 st_x_17 st_x_21 st_x_22 st_x_23 st_x_24
 refine nmW ((((((((w5.setCell ⟨w.heap.size + 1, 0, none⟩ (x_14)).setCell ⟨w.heap.size + 1, 1, none⟩ (x_15)).setCell ⟨w.heap.size + 1, 2, none⟩ (x_16)).setCell ⟨w.heap.size + 1, 3, none⟩ (x_17)).setCell ⟨w.heap.size + 1, 4, none⟩ (x_21)).setCell ⟨w.heap.size + 1, 5, none⟩ (x_22)).setCell ⟨w.heap.size + 1, 6, none⟩ (x_23)).setCell ⟨w.heap.size + 1, 7, none⟩ (x_24)) fun w6 hv => ?_
 rw [← hv]
 have og : w5.grownBy w6 (some (w.heap.size + 1)) := by rw [hv]; exact (only_setCell (only_setCell (only_setCell (only_setCell (only_setCell (only_setCell (only_setCell (only_setCell (World.grownBy.refl _ _) _) _) _) _) _) _) _) _)
 have hz : w.heap.size ≤ w.heap.size + 1 := by omega
 have hk : Bx w6 (w.heap.size + 1) 29 #[x_14, x_15, x_16, x_17, x_21, x_22, x_23, x_24] := by rw [hv]; exact (((((((((M.out.2.2.1).set 0 _).set 1 _).set 2 _).set 3 _).set 4 _).set 5 _).set 6 _).set 7 _)
 have hbw : Below w.heap.size w w6 := by rw [hv]; exact (Below.setCell (Below.setCell (Below.setCell (Below.setCell (Below.setCell (Below.setCell (Below.setCell (Below.setCell (M.out.2.2.2.2) (by omega) _) (by omega) _) (by omega) _) (by omega) _) (by omega) _) (by omega) _) (by omega) _) (by omega) _)
 replace M := Lib.hid (And.intro ((M.out.1).far (M.out.2.2.1) (by rfl) (by omega) og) (And.intro ((M.out.2.1).far (M.out.2.2.1) (by rfl) (by omega) og) (And.intro hk (And.intro ((M.out.2.2.2.1).only og (by omega)) hbw))))
 clear hk hbw og hv hz
 refine hK.out _ _ ((M.out.2.2.2.1).d8) (fun hH28 => ?_)
 clear hK K hH27
 (try simp only [Act.put, List.setIfInBounds_toArray, List.set_cons_zero, List.set_cons_succ])
 refine wpAnyH_done (by kernel_rfl) ?_ _
 clear hH28
 go_wp2_with fail
 refine bodyPost_ret (results_box1 rfl _ _ (w.heap.size + 1) 29 _ _ _ rfl (M.out.2.2.1) Try.underlying29 rfl (by kernel_rfl)) rfl ?_
 exact ⟨x_14, x_15, x_16, x_17, x_21, x_22, x_23, x_24, rfl, (by have h_ := (M.out.2.1); rw [Eq18.out] at h_; exact h_), (by have h_ := (M.out.1); rw [Eq25.out] at h_; exact h_), (M.out.2.2.2.2)⟩
end Go.Proofs.Ytlpcblhkddmlnaa
namespace Go.Proofs.Ytlpcblhkddmlnaa
open Go.RowKit Go.Lib
variable {G : Nat}

def fewF (n m : Nat) : Bool := decide ((n : Int) ≤ 4) && decide ((m : Int) ≤ 4)
theorem few_le {n m : Nat} (h : fewF n m = true) : n ≤ 4 ∧ m ≤ 4 := by simp [fewF] at h; omega
def rightX : Option Rat → Option Rat → Bool | some p, some q => decide (p ≤ q) | _, _ => false
theorem right_some {o1 o2 : Option Rat} (h : rightX o1 o2 = true) : ∃ p q, o1 = some p ∧ o2 = some q ∧ p ≤ q := by
 cases o1 <;> cases o2 <;> simp_all [rightX]
set_option maxRecDepth 100000 in
set_option maxHeartbeats 4000000 in
theorem rightx_1 {u0 u1 u2 u3 u4 u5 u6 u7 : Value} {n1 m1 n2 m2 : Nat} {o1 o2 : Option Rat} {w : World} (h1 : FX w u0 u1 u2 u3 n1 m1 o1) (h2 : FX w u4 u5 u6 u7 n2 m2 o2) (hz1 : fewF n1 m1 = true) (ho : o1.isSome = false) :
  Calls Try.prog 28 #[.agg #[u0, u1, u2, u3, u4, u5, u6, u7]] w fun e w' => e = .returned (.bool false) ∧ Below w.heap.size w w' := by
 have hz := few_le hz1; have HO := Lib.hid ho; clear ho hz1
 have H1 : Hid (FX w u0 u1 u2 u3 n1 m1 o1) := h1
 have H2 : Hid (FX w u4 u5 u6 u7 n2 m2 o2) := h2
 clear h1 h2
 have M : Hid (Below w.heap.size w w) := Below.refl _ _
 go_enter Try.func28, Try.ntmps28
 go_upto_region 1 with fail
 refine nmW (w.alloc (.cells #[u0, u1, u2, u3, u4, u5, u6, u7] 29)) fun w1 hv => ?_
 rw [← hv]
 replace M := alM hv M
 clear hv
 refine cj8 (M.out.1).d8 fun p0_0 p0_1 p0_2 p0_3 p0_4 p0_5 p0_6 p0_7 => ?_
 go_wp2_with fail
 clear p0_0 p0_1 p0_2 p0_3 p0_4 p0_5 p0_6 p0_7
 refine (fxRight_ok (o := o1) (b_ := false) (H1.out.keep (M.out.2)) (by omega) (by omega) HO.out).mono ?_
 rintro e w2 ⟨rfl, hb⟩
 replace M := gnM hb M
 clear hb
 go_wp2_with fail
 go_ret
 exact ⟨rfl, (M.out.2)⟩
set_option maxRecDepth 100000 in
set_option maxHeartbeats 4000000 in
theorem rightx_2 {u0 u1 u2 u3 u4 u5 u6 u7 : Value} {n1 m1 n2 m2 : Nat} {o1 o2 : Option Rat} {w : World} (h1 : FX w u0 u1 u2 u3 n1 m1 o1) (h2 : FX w u4 u5 u6 u7 n2 m2 o2) (hz1 : fewF n1 m1 = true) (hz2 : fewF n2 m2 = true) (ho : o1.isSome = true) (ho2 : o2.isSome = false) :
  Calls Try.prog 28 #[.agg #[u0, u1, u2, u3, u4, u5, u6, u7]] w fun e w' => e = .returned (.bool false) ∧ Below w.heap.size w w' := by
 have hz := few_le hz1; have hz3 := few_le hz2; have HO := Lib.hid ho; have HO2 := Lib.hid ho2; clear ho ho2 hz1 hz2
 have H1 : Hid (FX w u0 u1 u2 u3 n1 m1 o1) := h1
 have H2 : Hid (FX w u4 u5 u6 u7 n2 m2 o2) := h2
 clear h1 h2
 have M : Hid (Below w.heap.size w w) := Below.refl _ _
 go_enter Try.func28, Try.ntmps28
 go_upto_region 1 with fail
 refine nmW (w.alloc (.cells #[u0, u1, u2, u3, u4, u5, u6, u7] 29)) fun w1 hv => ?_
 rw [← hv]
 replace M := alM hv M
 clear hv
 refine cj8 (M.out.1).d8 fun p0_0 p0_1 p0_2 p0_3 p0_4 p0_5 p0_6 p0_7 => ?_
 go_wp2_with fail
 clear p0_0 p0_1 p0_2 p0_3 p0_4 p0_5 p0_6 p0_7
 refine (fxRight_ok (o := o1) (b_ := true) (H1.out.keep (M.out.2)) (by omega) (by omega) HO.out).mono ?_
 rintro e w2 ⟨rfl, hb⟩
 replace M := gnM hb M
 clear hb
 refine cj8 (M.out.1).d8 fun p0_0 p0_1 p0_2 p0_3 p0_4 p0_5 p0_6 p0_7 => ?_
 go_wp2_with fail
 clear p0_0 p0_1 p0_2 p0_3 p0_4 p0_5 p0_6 p0_7
 refine (fxRight_ok (o := o2) (b_ := false) (H2.out.keep (M.out.2)) (by omega) (by omega) HO2.out).mono ?_
 rintro e w3 ⟨rfl, hb⟩
 replace M := gnM hb M
 clear hb
 go_wp2_with fail
 go_ret
 exact ⟨rfl, (M.out.2)⟩
theorem spRight_x {u0 u1 u2 u3 u4 u5 u6 u7 : Value} {n1 m1 n2 m2 : Nat} {o1 o2 : Option Rat} {b_ : Bool} {w : World} (h1 : FX w u0 u1 u2 u3 n1 m1 o1) (h2 : FX w u4 u5 u6 u7 n2 m2 o2) (hz1 : fewF n1 m1 = true) (hz2 : fewF n2 m2 = true) (hb : rightX o1 o2 = b_) :
  Calls Try.prog 28 #[.agg #[u0, u1, u2, u3, u4, u5, u6, u7]] w fun e w' => e = .returned (.bool b_) ∧ Below w.heap.size w w' := by
 have k1 := few_le hz1
 have k2 := few_le hz2
 subst hb
 cases o1 with
 | none => exact rightx_1 h1 h2 hz1 rfl
 | some p =>
  cases o2 with
  | none => exact rightx_2 h1 h2 hz1 hz2 rfl rfl
  | some q => exact spRight_q h1.fq h2.fq (h1.fz (by omega) (by omega)) (h2.fz (by omega) (by omega)) rfl
end Go.Proofs.Ytlpcblhkddmlnaa
namespace Go.Proofs.Ytlpcblhkddmlnaa
open Go.RowKit
variable {G : Nat}

/-- All cells of a figure are written. -/
theorem Bx.all10 {w : World} {g : Nat} {T : TypeId} {o0 o1 o2 o3 o4 o5 o6 o7 o8 o9 n0 n1 n2 n3 n4 n5 n6 n7 n8 n9 : Value} (h : Bx w g T #[o0, o1, o2, o3, o4, o5, o6, o7, o8, o9]) : Bx ((((((((((w.setCell ⟨g, 0, none⟩ n0).setCell ⟨g, 1, none⟩ n1).setCell ⟨g, 2, none⟩ n2).setCell ⟨g, 3, none⟩ n3).setCell ⟨g, 4, none⟩ n4).setCell ⟨g, 5, none⟩ n5).setCell ⟨g, 6, none⟩ n6).setCell ⟨g, 7, none⟩ n7).setCell ⟨g, 8, none⟩ n8).setCell ⟨g, 9, none⟩ n9) g T #[n0, n1, n2, n3, n4, n5, n6, n7, n8, n9] := by
 replace h : Bx _ g T #[n0, o1, o2, o3, o4, o5, o6, o7, o8, o9] := h.set 0 n0
 replace h : Bx _ g T #[n0, n1, o2, o3, o4, o5, o6, o7, o8, o9] := h.set 1 n1
 replace h : Bx _ g T #[n0, n1, n2, o3, o4, o5, o6, o7, o8, o9] := h.set 2 n2
 replace h : Bx _ g T #[n0, n1, n2, n3, o4, o5, o6, o7, o8, o9] := h.set 3 n3
 replace h : Bx _ g T #[n0, n1, n2, n3, n4, o5, o6, o7, o8, o9] := h.set 4 n4
 replace h : Bx _ g T #[n0, n1, n2, n3, n4, n5, o6, o7, o8, o9] := h.set 5 n5
 replace h : Bx _ g T #[n0, n1, n2, n3, n4, n5, n6, o7, o8, o9] := h.set 6 n6
 replace h : Bx _ g T #[n0, n1, n2, n3, n4, n5, n6, n7, o8, o9] := h.set 7 n7
 replace h : Bx _ g T #[n0, n1, n2, n3, n4, n5, n6, n7, n8, o9] := h.set 8 n8
 replace h : Bx _ g T #[n0, n1, n2, n3, n4, n5, n6, n7, n8, n9] := h.set 9 n9
 exact h
/-! ### Plain figures -/
structure Sh where
 key : ByteArray
 note : Int
 lo : Rat
 hi : Rat
instance : DecidableEq Sh := fun x y => if h : x.key = y.key ∧ x.note = y.note ∧ x.lo = y.lo ∧ x.hi = y.hi then isTrue (by cases x; cases y; simp_all) else isFalse (by rintro rfl; exact h ⟨rfl, rfl, rfl, rfl⟩)
/-- The last figure with a key. -/
def lastK : List Sh → ByteArray → Option Sh
 | [], _ => none
 | x :: r, k => match lastK r k with
  | some y => some y
  | none => if x.key = k then some x else none
theorem lastK_snoc (l : List Sh) (x : Sh) (k : ByteArray) : lastK (l ++ [x]) k = if x.key = k then some x else lastK l k := by
  induction l with
  | nil => simp [lastK]
  | cons y r ih =>
    rw [List.cons_append, lastK, ih, lastK]
    split <;> rename_i h
    · split at h <;> simp_all
    · split at h <;> simp_all
theorem lastK_mem {l : List Sh} {k : ByteArray} {y : Sh} (h : lastK l k = some y) : y ∈ l ∧ y.key = k := by
  induction l with
  | nil => cases h
  | cons x r ih =>
    rw [lastK] at h
    split at h
    · rename_i z hz
      cases h
      have := ih hz
      exact ⟨by simp [this.1], this.2⟩
    · split at h
      · cases h; rename_i h1; exact ⟨by simp, h1⟩
      · cases h
theorem lastK_none {l : List Sh} {k : ByteArray} (h : lastK l k = none) : ∀ x ∈ l, x.key ≠ k := by
  induction l with
  | nil => intro x hx; cases hx
  | cons x r ih =>
    rw [lastK] at h
    split at h
    · cases h
    · rename_i hz
      split at h
      · cases h
      · intro y hy
        rcases List.mem_cons.1 hy with rfl | hy
        · assumption
        · exact ih hz y hy
def noteOf (p : List Sh) : Int := match p.getLast? with | some y => y.note | none => 0
theorem noteOf_snoc (p : List Sh) (x : Sh) : noteOf (p ++ [x]) = x.note := by simp [noteOf]
/-- Two figures of one key that do not follow one another. -/
def clash (y x : Sh) : Bool := decide (y.note = x.note) || (decide (y.lo = x.lo) && decide (y.hi = x.hi))
def okAt (p : List Sh) (x : Sh) : Bool := decide (noteOf p ≤ x.note) && (match lastK p x.key with | none => true | some y => !clash y x)
/-- What is asked of one figure; K: of its key. -/
def okSh (K : ByteArray → Bool) (x : Sh) : Prop := K x.key = true ∧ 0 ≤ x.note ∧ x.note ≤ 1099511627776 ∧ x.lo ≤ x.hi
structure OkL (K : ByteArray → Bool) (l : List Sh) : Prop where
 len : l.length ≤ 2000
 ok : ∀ x ∈ l, okSh K x
 at_ : ∀ (k : Nat) (x : Sh), l[k]? = some x → okAt (l.take k) x = true
theorem OkL.take {K : ByteArray → Bool} {l : List Sh} (h : OkL K l) (n : Nat) : OkL K (l.take n) := by
  refine ⟨by rw [List.length_take]; have := h.len; omega, fun x hx => h.ok x (List.mem_of_mem_take hx), fun k x hk => ?_⟩
  rw [List.getElem?_take] at hk
  split at hk
  · rename_i hkn
    rw [List.take_take, Nat.min_eq_left (by omega)]
    exact h.at_ k x hk
  · cases hk
theorem OkL.nil (K : ByteArray → Bool) : OkL K [] := ⟨by simp, (fun x hx => by cases hx), fun k x hk => by simp at hk⟩
theorem OkL.snoc {K : ByteArray → Bool} {l : List Sh} {x : Sh} (h : OkL K l) (hl : l.length < 2000) (h1 : okSh K x) (h2 : okAt l x = true) : OkL K (l ++ [x]) := by
  refine ⟨by simp; omega, fun y hy => ?_, fun k y hk => ?_⟩
  · rcases List.mem_append.1 hy with hy | hy
    · exact h.ok y hy
    · simp at hy; subst hy; exact h1
  · rcases Nat.lt_or_ge k l.length with hk1 | hk1
    · rw [List.getElem?_append_left hk1] at hk
      rw [List.take_append_of_le_length (by omega)]
      exact h.at_ k y hk
    · rw [List.getElem?_append_right hk1] at hk
      have hk0 : k - l.length = 0 := by
        rcases Nat.eq_zero_or_pos (k - l.length) with h0 | h0
        · exact h0
        · rw [List.getElem?_eq_none (by simp; omega)] at hk; cases hk
      rw [hk0] at hk
      obtain rfl : x = y := by simpa using hk
      rw [show k = l.length by omega]
      simpa using h2
/-! ### Figures in memory -/
/-- A figure that came in. -/
structure SR where
 key : ByteArray
 note : Int
 u0 : Value
 u1 : Value
 u2 : Value
 u3 : Value
 a : Nat
 b : Nat
 o : Option Rat
 v0 : Value
 v1 : Value
 v2 : Value
 v3 : Value
 c : Nat
 d : Nat
 p : Option Rat
/-- A figure whose span is right. -/
structure SC where
 key : ByteArray
 note : Int
 u0 : Value
 u1 : Value
 u2 : Value
 u3 : Value
 q : Rat
 v0 : Value
 v1 : Value
 v2 : Value
 v3 : Value
 r : Rat
def SC.sh (x : SC) : Sh := ⟨x.key, x.note, x.q, x.r⟩
theorem past_keep {w0 w w' : World} (h : Below w0.heap.size w0 w) (hb : Below w.heap.size w w') : Below w0.heap.size w0 w' := below_call h hb
theorem past_far {w0 w w' : World} {g : Nat} (h0 : w0.heap.size ≤ G) (h : Below w0.heap.size w0 w) (hG : G ≤ g) (hg : w.grownBy w' (some g)) : Below w0.heap.size w0 w' :=
 h.grown hg h.size fun k hk => by cases hk; omega
theorem FX.one {w : World} {u0 u1 u2 u3 : Value} {n m : Nat} {o : Option Rat} (h : FX w u0 u1 u2 u3 n m o) : u0.oneCell' = true ∧ u1.oneCell' = true ∧ u2.oneCell' = true ∧ u3.oneCell' = true := by
 obtain ⟨s, a, c, t, b, d, l, k, rfl, rfl, rfl, rfl, -⟩ := h
 exact ⟨rfl, rfl, rfl, rfl⟩
theorem FQ.one {w : World} {u0 u1 u2 u3 : Value} {q : Rat} (h : FQ G w u0 u1 u2 u3 q) : u0.oneCell' = true ∧ u1.oneCell' = true ∧ u2.oneCell' = true ∧ u3.oneCell' = true := by
 obtain ⟨a, c, b, d, rfl, rfl, rfl, rfl, -⟩ := h
 exact ⟨rfl, rfl, rfl, rfl⟩
theorem tnot {t : TypeId} (h : ([3] : List TypeId).contains t = false) : (t == 3) = false := by
 simp only [List.contains_cons, Bool.or_eq_false_iff] at h; exact h.1
instance : El SR where
  cells x := [.string x.key, .int .i64 x.note, x.u0, x.u1, x.u2, x.u3, x.v0, x.v1, x.v2, x.v3]
  sz := 10
  T := 37
  deep := [3]
  ok G w x := ∃ w0 : World, w0.heap.size ≤ G ∧ FX w0 x.u0 x.u1 x.u2 x.u3 x.a x.b x.o ∧ FX w0 x.v0 x.v1 x.v2 x.v3 x.c x.d x.p ∧ Below w0.heap.size w0 w
  len := fun _ => rfl
  one := by
    rintro G w x ⟨w0, -, h, k, -⟩ u hu
    have h := h.one
    have k := k.one
    simp at hu; rcases hu with rfl | rfl | rfl | rfl | rfl | rfl | rfl | rfl | rfl | rfl
    · rfl
    · rfl
    · exact h.1
    · exact h.2.1
    · exact h.2.2.1
    · exact h.2.2.2
    · exact k.1
    · exact k.2.1
    · exact k.2.2.1
    · exact k.2.2.2
  keep := fun ⟨w0, h0, h, k, h1⟩ hb => ⟨w0, h0, h, k, past_keep h1 hb⟩
  far := fun ⟨w0, h0, h, k, h1⟩ _ _ hG hg => ⟨w0, h0, h, k, past_far h0 h1 hG hg⟩
instance : El SC where
  cells x := [.string x.key, .int .i64 x.note, x.u0, x.u1, x.u2, x.u3, x.v0, x.v1, x.v2, x.v3]
  sz := 10
  T := 37
  deep := [3]
  ok G w x := FQ G w x.u0 x.u1 x.u2 x.u3 x.q ∧ FQ G w x.v0 x.v1 x.v2 x.v3 x.r
  len := fun _ => rfl
  one := by
    rintro G w x ⟨h, k⟩ u hu
    have h := FQ.one h
    have k := FQ.one k
    simp at hu; rcases hu with rfl | rfl | rfl | rfl | rfl | rfl | rfl | rfl | rfl | rfl
    · rfl
    · rfl
    · exact h.1
    · exact h.2.1
    · exact h.2.2.1
    · exact h.2.2.2
    · exact k.1
    · exact k.2.1
    · exact k.2.2.1
    · exact k.2.2.2
  keep := fun h hb => ⟨FQ.keep h.1 hb, FQ.keep h.2 hb⟩
  far := fun h k hT hG hg => ⟨FQ.far h.1 k (tnot hT) hG hg, FQ.far h.2 k (tnot hT) hG hg⟩
abbrev RdR (G : Nat) (w : World) (a : Option Addr) (n c : Nat) (l : List SR) : Prop := RdL G w a n c l
abbrev RdC (G : Nat) (w : World) (a : Option Addr) (n c : Nat) (l : List SC) : Prop := RdL G w a n c l
abbrev OwVC (G B : Nat) (w : World) (v : Value) (l : List SC) : Prop := OwV G B w v l
/-- A right fraction of a list. -/
structure QC where
 u0 : Value
 u1 : Value
 u2 : Value
 u3 : Value
 q : Rat
instance : El QC where
  cells x := [x.u0, x.u1, x.u2, x.u3]
  sz := 4
  T := 27
  deep := [3]
  ok G w x := FQ G w x.u0 x.u1 x.u2 x.u3 x.q
  len := fun _ => rfl
  one := by
    rintro G w x h u hu
    have h := FQ.one h
    simp at hu; rcases hu with rfl | rfl | rfl | rfl
    · exact h.1
    · exact h.2.1
    · exact h.2.2.1
    · exact h.2.2.2
  keep := fun h hb => FQ.keep h hb
  far := fun h k hT hG hg => FQ.far h k (tnot hT) hG hg
abbrev RdQ (G : Nat) (w : World) (a : Option Addr) (n c : Nat) (l : List QC) : Prop := RdL G w a n c l
theorem SR.fx {w : World} {x : SR} (h : El.ok G w x) : FX w x.u0 x.u1 x.u2 x.u3 x.a x.b x.o := by
 obtain ⟨w0, -, h, -, h1⟩ := h
 exact h.keep h1
theorem SR.fx2 {w : World} {x : SR} (h : El.ok G w x) : FX w x.v0 x.v1 x.v2 x.v3 x.c x.d x.p := by
 obtain ⟨w0, -, -, h, h1⟩ := h
 exact h.keep h1
/-! ### Raw lists: few, right -/
def fewR (x : SR) : Bool := decide (x.key.size ≤ 70) && (decide (x.a ≤ 3) && decide (x.b ≤ 3) && (decide (x.c ≤ 3) && decide (x.d ≤ 3)))
def fewL (m : Nat) (l : List SR) : Bool := l.all fewR && decide (l.length ≤ m)
def SR.sh (x : SR) : Sh := ⟨x.key, x.note, x.o.getD 0, x.p.getD 0⟩
def shR (K : ByteArray → Bool) (x : SR) : Bool := K x.key && (decide (0 ≤ x.note) && (decide (x.note ≤ 1099511627776) && rightX x.o x.p))
def rightSh (K : ByteArray → Bool) : List Sh → List SR → Bool
 | _, [] => true
 | p, x :: r => shR K x && (okAt p x.sh && rightSh K (p ++ [x.sh]) r)
def rightL (K : ByteArray → Bool) (l : List SR) : Bool := decide (l.length ≤ 2000) && rightSh K [] l
def toC (x : SR) : SC := ⟨x.key, x.note, x.u0, x.u1, x.u2, x.u3, x.o.getD 0, x.v0, x.v1, x.v2, x.v3, x.p.getD 0⟩
theorem shR_ok {K : ByteArray → Bool} {x : SR} (h : shR K x = true) : (∃ q r, x.o = some q ∧ x.p = some r) ∧ okSh K x.sh := by
 simp only [shR, Bool.and_eq_true, decide_eq_true_eq] at h
 obtain ⟨h1, h2, h3, h4⟩ := h
 obtain ⟨q, r, e1, e2, h5⟩ := right_some h4
 refine ⟨⟨q, r, e1, e2⟩, h1, h2, h3, ?_⟩
 show x.o.getD 0 ≤ x.p.getD 0
 rw [e1, e2]; exact h5
theorem rightF_ok {K : ByteArray → Bool} : ∀ {l : List SR} {p : List Sh}, rightSh K p l = true → OkL K p → (p.length + l.length ≤ 2000) → (∀ x ∈ l, ∃ q r, x.o = some q ∧ x.p = some r) ∧ OkL K (p ++ l.map SR.sh)
  | [], p, _, h, _ => ⟨(fun x hx => by cases hx), by simpa using h⟩
  | x :: r, p, h, hp, hl => by
    rw [List.length_cons] at hl
    simp only [rightSh, Bool.and_eq_true] at h
    obtain ⟨h1, h2, h3⟩ := h
    obtain ⟨h4, h5⟩ := shR_ok h1
    obtain ⟨h6, h7⟩ := rightF_ok h3 (hp.snoc (by omega) h5 h2) (by simp; omega)
    refine ⟨fun y hy => ?_, by simpa using h7⟩
    rcases List.mem_cons.1 hy with rfl | hy
    · exact h4
    · exact h6 y hy
theorem rightL_ok {K : ByteArray → Bool} {l : List SR} (h : rightL K l = true) : (∀ x ∈ l, ∃ q r, x.o = some q ∧ x.p = some r) ∧ OkL K (l.map SR.sh) := by
 simp only [rightL, Bool.and_eq_true, decide_eq_true_eq] at h
 have := rightF_ok h.2 (OkL.nil K) (by simpa using h.1)
 simpa using this
/-- A raw list that is right, as right figures. -/
theorem RdL.toC {a : Option Addr} {n c : Nat} {l : List SR} {w : World} (h : RdR w.heap.size w a n c l) (hr : ∀ x ∈ l, ∃ q r, x.o = some q ∧ x.p = some r) : RdC w.heap.size w a n c (l.map Go.Proofs.Ytlpcblhkddmlnaa.toC) := by
  rcases h.cases with ⟨rfl, rfl⟩ | ⟨b, off, rfl, h0, hl, hc, hb⟩
  · exact RdL.nil _ _ _
  · refine RdL.of (hb.conv rfl rfl fun k y hk => ?_) (by simpa using hl) hc
    rw [List.getElem?_map] at hk
    cases hx : l[k]? with
    | none => rw [hx] at hk; cases hk
    | some x =>
      rw [hx] at hk
      cases hk
      refine ⟨x, rfl, rfl, ?_⟩
      obtain ⟨q, r, hq, hr⟩ := hr x (List.mem_of_getElem? hx)
      have h1 := SR.fx (hb.ok hx)
      have h2 := SR.fx2 (hb.ok hx)
      rw [hq] at h1
      rw [hr] at h2
      refine ⟨?_, ?_⟩
      · show FQ _ _ _ _ _ _ (x.o.getD 0); rw [hq]; exact h1.fq
      · show FQ _ _ _ _ _ _ (x.p.getD 0); rw [hr]; exact h2.fq
theorem few_all {m : Nat} {l : List SR} (h : fewL m l = true) : (∀ x ∈ l, fewR x = true) ∧ l.length ≤ m := by
 simpa only [fewL, Bool.and_eq_true, List.all_eq_true, decide_eq_true_eq] using h
theorem fewR_le {x : SR} (h : fewR x = true) : x.key.size ≤ 70 ∧ fewF x.a x.b = true ∧ fewF x.c x.d = true ∧ x.a ≤ 3 ∧ x.b ≤ 3 ∧ x.c ≤ 3 ∧ x.d ≤ 3 := by
 simp only [fewR, Bool.and_eq_true, decide_eq_true_eq] at h
 obtain ⟨h1, ⟨h2, h3⟩, h4, h5⟩ := h
 refine ⟨h1, ?_, ?_, h2, h3, h4, h5⟩ <;> simp only [fewF, Bool.and_eq_true, decide_eq_true_eq] <;> omega
/-- How large the parts of the values may be. -/
def FzL (l : List SC) (N : Nat) : Prop := ∀ x ∈ l, Fz x.q N ∧ Fz x.r N
theorem fz_toC {w : World} {a : Option Addr} {n c : Nat} {l : List SR} (h : RdR G w a n c l) (hr : ∀ x ∈ l, ∃ q r, x.o = some q ∧ x.p = some r) (hs : ∀ x ∈ l, fewR x = true) : FzL (l.map toC) 3 := by
  intro y hy
  obtain ⟨x, hx, rfl⟩ := List.mem_map.1 hy
  obtain ⟨q, r, hq, hp⟩ := hr x hx
  rcases h.cases with ⟨rfl, rfl⟩ | ⟨b, off, rfl, h0, hl, hc, hb⟩
  · simp at hx
  · have h1 := hb.oks x hx
    have h2 := fewR_le (hs x hx)
    have h3 := SR.fx h1
    have h4 := SR.fx2 h1
    rw [hq] at h3
    rw [hp] at h4
    refine ⟨?_, ?_⟩
    · show Fz (x.o.getD 0) 3; rw [hq]; exact h3.fz h2.2.2.2.1 h2.2.2.2.2.1
    · show Fz (x.p.getD 0) 3; rw [hp]; exact h4.fz h2.2.2.2.2.2.1 h2.2.2.2.2.2.2
end Go.Proofs.Ytlpcblhkddmlnaa
