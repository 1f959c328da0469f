/- The walk of SpanBack: whatever the arguments, it returns true. -/
import Derived.Test.YtjbfngjlepafgaaBase
import Derived.Test.YtjbfngjlepafgaaBigSpec
import Derived.Test.YtjbfngjlepafgaaBigB
import Derived.Test.YtjbfngjlepafgaaBigC
import Derived.Test.YtjbfngjlepafgaaBigD
import Derived.Test.YtjbfngjlepafgaaBigK
import Derived.Test.YtjbfngjlepafgaaBigL
import Derived.Test.YtjbfngjlepafgaaBigQ
import Derived.Test.YtjbfngjlepafgaaFracA
import Derived.Test.YtjbfngjlepafgaaFz
import Derived.Test.YtjbfngjlepafgaaHeld
import Derived.Test.YtjbfngjlepafgaaAw
import Derived.Test.YtjbfngjlepafgaaFracR
import Derived.Test.YtjbfngjlepafgaaRefJ
import Derived.Test.YtjbfngjlepafgaaFq
import Derived.Test.YtjbfngjlepafgaaSpanPlain
import Derived.Test.YtjbfngjlepafgaaSpanB
import Derived.Test.YtjbfngjlepafgaaSpanC
import Derived.Test.YtjbfngjlepafgaaSpanE
import Derived.Test.YtjbfngjlepafgaaSpanI
import Derived.Test.YtjbfngjlepafgaaProg
import Derived.WalkKit
import Derived.WalkSpells
import Derived.WalkLawsBesides
import Derived.Handy
import Derived.Lib.Hide
import Derived.Lib.Strings
import Derived.Lib.Builder
import Derived.BigQuiet
import Derived.OwnWalk
import Derived.Laws.BitsLemmas
import Derived.WalkSmall
import Derived.Deep.QuietTactic
import Derived.StillTailTactics
import Derived.Maps.AppendAt
import Derived.IntWalk
import Derived.Deep.RegionHeld3
import Derived.Deep.DeepFit
import Derived.Deep.LoopGhost
import Derived.Deep.DeepCutAuto
import Derived.Lib.ItoaNum
import Derived.Lib.Repeat
import Derived.Lib.AppendIntMem
import Derived.Sort.OwnSorted
import Derived.Shelf.Strings.SlTrimAscii
import Derived.Lib.ConvBytes
import Derived.Lib.CutLaws
namespace Go.Proofs.Ytjbfngjlepafgaa
open Go.RowKit Go.Lib
variable {G : Nat}

set_option maxRecDepth 100000 in
set_option maxHeartbeats 4000000 in
theorem back_not {u0 u1 u2 u3 u4 u5 u6 u7 v0 v1 v2 v3 v4 v5 v6 v7 : Value} {n1 m1 n2 m2 n3 m3 n4 m4 : Nat} {o1 o2 o3 o4 : Option Rat} {w : World} (hG : G ≤ w.heap.size) (h1 : FX w u0 u1 u2 u3 n1 m1 o1) (h2 : FX w u4 u5 u6 u7 n2 m2 o2) (h3 : FX w v0 v1 v2 v3 n3 m3 o3) (h4 : FX w v4 v5 v6 v7 n4 m4 o4) (hn : (few4 n1 m1 n2 m2 n3 m3 n4 m4 && (rightX o1 o2 && rightX o3 o4)) = false) :
    Calls Try.prog 6 #[.agg #[u0, u1, u2, u3, u4, u5, u6, u7], .agg #[v0, v1, v2, v3, v4, v5, v6, v7]] w fun e w' => e = .returned (.bool true) ∧ Below w.heap.size w w' := by
  obtain ⟨c0, hc0⟩ : ∃ b, few4 n1 m1 n2 m2 n3 m3 n4 m4 = b := ⟨_, rfl⟩
  obtain ⟨c1, hc1⟩ : ∃ b, rightX o1 o2 = b := ⟨_, rfl⟩
  obtain ⟨c2, hc2⟩ : ∃ b, rightX o3 o4 = b := ⟨_, rfl⟩
  rw [hc0, hc1, hc2] at hn
  have HC0 := Lib.hid hc0
  have HC1 := Lib.hid hc1
  have HC2 := Lib.hid hc2
  have HN := Lib.hid hn
  clear hn hc0 hc1 hc2
  have H1 : Hid (FX w u0 u1 u2 u3 n1 m1 o1) := h1
  have H2 : Hid (FX w u4 u5 u6 u7 n2 m2 o2) := h2
  have H3 : Hid (FX w v0 v1 v2 v3 n3 m3 o3) := h3
  have H4 : Hid (FX w v4 v5 v6 v7 n4 m4 o4) := h4
  clear h1 h2 h3 h4
  have M : Hid (Below w.heap.size w w) := Below.refl _ _
  go_enter Try.func6, Try.ntmps6
  go_upto_region 1 with fail
  obtain ⟨w1, hv⟩ : ∃ w_ : World, w_ = ((w.alloc (.cells #[u0, u1, u2, u3, u4, u5, u6, u7] 28)).alloc (.cells #[v0, v1, v2, v3, v4, v5, v6, v7] 28)) := ⟨_, rfl⟩
  rw [← hv]
  have hbx := bx2 w 28 28 #[u0, u1, u2, u3, u4, u5, u6, u7] #[v0, v1, v2, v3, v4, v5, v6, v7]
  rw [← hv] at hbx
  have hbn : Below w.heap.size w w1 := by rw [hv]; exact (Below.alloc (Below.alloc (Below.refl _ _) (by simp <;> omega) _) (by simp <;> omega) _)
  replace M := Lib.hid (And.intro hbx.2 (And.intro hbx.1 (Goes.go M.out hbn)))
  clear hbx hbn
  clear hv
  go_wp2_with fail
  refine (spanSmall_ok (G := G) (Nat.le_trans hG (M.out.2.2).size)).mono ?_
  rintro e w2 ⟨rfl, hb⟩
  replace M := Lib.hid (Goes.go M.out hb)
  clear hb
  have y0 := (M.out.2.1).d8; have p0_0 := y0.1; have p0_1 := y0.2.1; have p0_2 := y0.2.2.1; have p0_3 := y0.2.2.2.1; have p0_4 := y0.2.2.2.2.1; have p0_5 := y0.2.2.2.2.2.1; have p0_6 := y0.2.2.2.2.2.2.1; have p0_7 := y0.2.2.2.2.2.2.2; clear y0
  have y1 := (M.out.1).d8; have p1_0 := y1.1; have p1_1 := y1.2.1; have p1_2 := y1.2.2.1; have p1_3 := y1.2.2.2.1; have p1_4 := y1.2.2.2.2.1; have p1_5 := y1.2.2.2.2.2.1; have p1_6 := y1.2.2.2.2.2.2.1; have p1_7 := y1.2.2.2.2.2.2.2; clear y1
  go_wp2_with fail
  clear p0_0 p0_1 p0_2 p0_3 p0_4 p0_5 p0_6 p0_7 p1_0 p1_1 p1_2 p1_3 p1_4 p1_5 p1_6 p1_7
  refine (few_s (o1 := o1) (o2 := o2) (o3 := o3) (o4 := o4) (b_ := c0) (H1.out.keep (M.out.2.2)) (H2.out.keep (M.out.2.2)) (H3.out.keep (M.out.2.2)) (H4.out.keep (M.out.2.2)) HC0.out).mono ?_
  rintro e w3 ⟨rfl, hb⟩
  replace M := Lib.hid (Goes.go M.out hb)
  clear hb
  cases c0 with
  | false =>
    go_wp2_with fail
    go_ret
    exact ⟨rfl, (M.out.2.2)⟩
  | true =>
    have y0 := (M.out.2.1).d8; have p0_0 := y0.1; have p0_1 := y0.2.1; have p0_2 := y0.2.2.1; have p0_3 := y0.2.2.2.1; have p0_4 := y0.2.2.2.2.1; have p0_5 := y0.2.2.2.2.2.1; have p0_6 := y0.2.2.2.2.2.2.1; have p0_7 := y0.2.2.2.2.2.2.2; clear y0
    go_wp2_with fail
    clear p0_0 p0_1 p0_2 p0_3 p0_4 p0_5 p0_6 p0_7
    refine (spRight_x (o1 := o1) (o2 := o2) (b_ := c1) (H1.out.keep (M.out.2.2)) (H2.out.keep (M.out.2.2)) (few4_1 HC0.out) (few4_2 HC0.out) HC1.out).mono ?_
    rintro e w4 ⟨rfl, hb⟩
    replace M := Lib.hid (Goes.go M.out hb)
    clear hb
    cases c1 with
    | false =>
      go_wp2_with fail
      go_ret
      exact ⟨rfl, (M.out.2.2)⟩
    | true =>
      have y1 := (M.out.1).d8; have p1_0 := y1.1; have p1_1 := y1.2.1; have p1_2 := y1.2.2.1; have p1_3 := y1.2.2.2.1; have p1_4 := y1.2.2.2.2.1; have p1_5 := y1.2.2.2.2.2.1; have p1_6 := y1.2.2.2.2.2.2.1; have p1_7 := y1.2.2.2.2.2.2.2; clear y1
      go_wp2_with fail
      clear p1_0 p1_1 p1_2 p1_3 p1_4 p1_5 p1_6 p1_7
      refine (spRight_x (o1 := o3) (o2 := o4) (b_ := c2) (H3.out.keep (M.out.2.2)) (H4.out.keep (M.out.2.2)) (few4_3 HC0.out) (few4_4 HC0.out) HC2.out).mono ?_
      rintro e w5 ⟨rfl, hb⟩
      replace M := Lib.hid (Goes.go M.out hb)
      clear hb
      cases c2 with
      | false =>
        go_wp2_with fail
        go_ret
        exact ⟨rfl, (M.out.2.2)⟩
      | true =>
        go_upto_region 4 with fail
        exact absurd HN.out (by decide)
theorem back_in1 {p q r s : Rat} (h : r ≤ s) : (decide (p + r - s ≤ p) && decide (q ≤ q + s - r)) = true := by
  rw [Bool.and_eq_true, decide_eq_true_eq, decide_eq_true_eq]; grind
set_option maxRecDepth 100000 in
set_option maxHeartbeats 4000000 in
theorem back_z {u0 u1 u2 u3 u4 u5 u6 u7 v0 v1 v2 v3 v4 v5 v6 v7 : Value} {n1 m1 n2 m2 n3 m3 n4 m4 : Nat} {p1 p2 r1 r2 : Rat} {w : World} (hG : G ≤ w.heap.size) (h1 : FX w u0 u1 u2 u3 n1 m1 (some p1)) (k1 : FQ G w u0 u1 u2 u3 p1) (z1 : Fz p1 4) (h2 : FX w u4 u5 u6 u7 n2 m2 (some p2)) (k2 : FQ G w u4 u5 u6 u7 p2) (z2 : Fz p2 4) (h3 : FX w v0 v1 v2 v3 n3 m3 (some r1)) (k3 : FQ G w v0 v1 v2 v3 r1) (z3 : Fz r1 4) (h4 : FX w v4 v5 v6 v7 n4 m4 (some r2)) (k4 : FQ G w v4 v5 v6 v7 r2) (z4 : Fz r2 4) (hc0 : few4 n1 m1 n2 m2 n3 m3 n4 m4 = true) (hc1 : rightX (some p1) (some p2) = true) (hc2 : rightX (some r1) (some r2) = true) (h0 : r1 ≤ 0 ∧ 0 ≤ r2) :
    Calls Try.prog 6 #[.agg #[u0, u1, u2, u3, u4, u5, u6, u7], .agg #[v0, v1, v2, v3, v4, v5, v6, v7]] w fun e w' => e = .returned (.bool true) ∧ Below w.heap.size w w' := by
  have h1_ := right_le hc1
  have h2_ := right_le hc2
  obtain ⟨ml, hml⟩ : ∃ x, min4 (p1 * r1) (p1 * r2) (p2 * r1) (p2 * r2) = x := ⟨_, rfl⟩
  obtain ⟨mh, hmh⟩ : ∃ x, max4 (p1 * r1) (p1 * r2) (p2 * r1) (p2 * r2) = x := ⟨_, rfl⟩
  have HML : Hid (ml ≤ mh) := by show _ ≤ _; rw [← hml, ← hmh]; exact mulS_ok (a := ⟨p1, p2⟩) (b := ⟨r1, r2⟩) h1_ h2_
  have HSZL : Hid (Fz ml 8) := by show Fz _ _; rw [← hml]; exact Fz.min4 (z1.mul z3) (z1.mul z4) (z2.mul z3) (z2.mul z4)
  have HSZH : Hid (Fz mh 8) := by show Fz _ _; rw [← hmh]; exact Fz.max4 (z1.mul z3) (z1.mul z4) (z2.mul z3) (z2.mul z4)
  have HZ : Hid ((decide (r1 ≤ ((0 : Int) : Rat)) && decide (((0 : Int) : Rat) ≤ r2)) = true) := by show _ = _; rw [← Bool.decide_and]; exact decide_eq_true h0
  have HMLO := Lib.hid hml; have HMHI := Lib.hid hmh; have H0 := Lib.hid h0; clear hml hmh h1_ h2_ h0
  have Z1 := Lib.hid z1; clear z1
  have Z2 := Lib.hid z2; clear z2
  have Z3 := Lib.hid z3; clear z3
  have Z4 := Lib.hid z4; clear z4
  have HC0 := Lib.hid hc0; clear hc0
  have HC1 := Lib.hid hc1; clear hc1
  have HC2 := Lib.hid hc2; clear hc2
  have H1 : Hid (FX w u0 u1 u2 u3 n1 m1 (some p1)) := h1
  have K1 : Hid (FQ G w u0 u1 u2 u3 p1) := k1
  have H2 : Hid (FX w u4 u5 u6 u7 n2 m2 (some p2)) := h2
  have K2 : Hid (FQ G w u4 u5 u6 u7 p2) := k2
  have H3 : Hid (FX w v0 v1 v2 v3 n3 m3 (some r1)) := h3
  have K3 : Hid (FQ G w v0 v1 v2 v3 r1) := k3
  have H4 : Hid (FX w v4 v5 v6 v7 n4 m4 (some r2)) := h4
  have K4 : Hid (FQ G w v4 v5 v6 v7 r2) := k4
  clear h1 k1 h2 k2 h3 k3 h4 k4
  have M : Hid (Below w.heap.size w w) := Below.refl _ _
  go_enter Try.func6, Try.ntmps6
  go_upto_region 1 with fail
  obtain ⟨w1, hv⟩ : ∃ w_ : World, w_ = ((w.alloc (.cells #[u0, u1, u2, u3, u4, u5, u6, u7] 28)).alloc (.cells #[v0, v1, v2, v3, v4, v5, v6, v7] 28)) := ⟨_, rfl⟩
  rw [← hv]
  have hbx := bx2 w 28 28 #[u0, u1, u2, u3, u4, u5, u6, u7] #[v0, v1, v2, v3, v4, v5, v6, v7]
  rw [← hv] at hbx
  have hbn : Below w.heap.size w w1 := by rw [hv]; exact (Below.alloc (Below.alloc (Below.refl _ _) (by simp <;> omega) _) (by simp <;> omega) _)
  replace M := Lib.hid (And.intro hbx.2 (And.intro hbx.1 (Goes.go M.out hbn)))
  clear hbx hbn
  clear hv
  go_wp2_with fail
  refine (spanSmall_ok (G := G) (Nat.le_trans hG (M.out.2.2).size)).mono ?_
  rintro e w2 ⟨rfl, hb⟩
  replace M := Lib.hid (Goes.go M.out hb)
  clear hb
  have y0 := (M.out.2.1).d8; have p0_0 := y0.1; have p0_1 := y0.2.1; have p0_2 := y0.2.2.1; have p0_3 := y0.2.2.2.1; have p0_4 := y0.2.2.2.2.1; have p0_5 := y0.2.2.2.2.2.1; have p0_6 := y0.2.2.2.2.2.2.1; have p0_7 := y0.2.2.2.2.2.2.2; clear y0
  have y1 := (M.out.1).d8; have p1_0 := y1.1; have p1_1 := y1.2.1; have p1_2 := y1.2.2.1; have p1_3 := y1.2.2.2.1; have p1_4 := y1.2.2.2.2.1; have p1_5 := y1.2.2.2.2.2.1; have p1_6 := y1.2.2.2.2.2.2.1; have p1_7 := y1.2.2.2.2.2.2.2; clear y1
  go_wp2_with fail
  clear p0_0 p0_1 p0_2 p0_3 p0_4 p0_5 p0_6 p0_7 p1_0 p1_1 p1_2 p1_3 p1_4 p1_5 p1_6 p1_7
  refine (few_s (o1 := (some p1)) (o2 := (some p2)) (o3 := (some r1)) (o4 := (some r2)) (b_ := true) (H1.out.keep (M.out.2.2)) (H2.out.keep (M.out.2.2)) (H3.out.keep (M.out.2.2)) (H4.out.keep (M.out.2.2)) HC0.out).mono ?_
  rintro e w3 ⟨rfl, hb⟩
  replace M := Lib.hid (Goes.go M.out hb)
  clear hb
  have y0 := (M.out.2.1).d8; have p0_0 := y0.1; have p0_1 := y0.2.1; have p0_2 := y0.2.2.1; have p0_3 := y0.2.2.2.1; have p0_4 := y0.2.2.2.2.1; have p0_5 := y0.2.2.2.2.2.1; have p0_6 := y0.2.2.2.2.2.2.1; have p0_7 := y0.2.2.2.2.2.2.2; clear y0
  go_wp2_with fail
  clear p0_0 p0_1 p0_2 p0_3 p0_4 p0_5 p0_6 p0_7
  refine (spRight_x (o1 := (some p1)) (o2 := (some p2)) (b_ := true) (H1.out.keep (M.out.2.2)) (H2.out.keep (M.out.2.2)) (few4_1 HC0.out) (few4_2 HC0.out) HC1.out).mono ?_
  rintro e w4 ⟨rfl, hb⟩
  replace M := Lib.hid (Goes.go M.out hb)
  clear hb
  have y1 := (M.out.1).d8; have p1_0 := y1.1; have p1_1 := y1.2.1; have p1_2 := y1.2.2.1; have p1_3 := y1.2.2.2.1; have p1_4 := y1.2.2.2.2.1; have p1_5 := y1.2.2.2.2.2.1; have p1_6 := y1.2.2.2.2.2.2.1; have p1_7 := y1.2.2.2.2.2.2.2; clear y1
  go_wp2_with fail
  clear p1_0 p1_1 p1_2 p1_3 p1_4 p1_5 p1_6 p1_7
  refine (spRight_x (o1 := (some r1)) (o2 := (some r2)) (b_ := true) (H3.out.keep (M.out.2.2)) (H4.out.keep (M.out.2.2)) (few4_3 HC0.out) (few4_4 HC0.out) HC2.out).mono ?_
  rintro e w5 ⟨rfl, hb⟩
  replace M := Lib.hid (Goes.go M.out hb)
  clear hb
  have y0 := (M.out.2.1).d8; have p0_0 := y0.1; have p0_1 := y0.2.1; have p0_2 := y0.2.2.1; have p0_3 := y0.2.2.2.1; have p0_4 := y0.2.2.2.2.1; have p0_5 := y0.2.2.2.2.2.1; have p0_6 := y0.2.2.2.2.2.2.1; have p0_7 := y0.2.2.2.2.2.2.2; clear y0
  have y1 := (M.out.1).d8; have p1_0 := y1.1; have p1_1 := y1.2.1; have p1_2 := y1.2.2.1; have p1_3 := y1.2.2.2.1; have p1_4 := y1.2.2.2.2.1; have p1_5 := y1.2.2.2.2.2.1; have p1_6 := y1.2.2.2.2.2.2.1; have p1_7 := y1.2.2.2.2.2.2.2; clear y1
  go_wp2_with fail
  clear p0_0 p0_1 p0_2 p0_3 p0_4 p0_5 p0_6 p0_7 p1_0 p1_1 p1_2 p1_3 p1_4 p1_5 p1_6 p1_7
  obtain ⟨q9, eq9⟩ : ∃ v_ : Rat, v_ = (p1 + r1) := ⟨_, rfl⟩
  obtain ⟨q10, eq10⟩ : ∃ v_ : Rat, v_ = (p2 + r2) := ⟨_, rfl⟩
  refine (spAdd_q (G := G) (p := p1) (q := p2) (r := r1) (s := r2) (Nat.le_trans hG (M.out.2.2).size) (K1.out.keep (M.out.2.2)) (K2.out.keep (M.out.2.2)) (K3.out.keep (M.out.2.2)) (K4.out.keep (M.out.2.2)) (Fz.mono Z1.out (by omega)) (Fz.mono Z2.out (by omega)) (Fz.mono Z3.out (by omega)) (Fz.mono Z4.out (by omega)) (right_le HC1.out) (right_le HC2.out)).mono ?_
  rintro e w6 ⟨x_1, x_2, x_3, x_4, x_5, x_6, x_7, x_8, rfl, hd11, hd12, hb⟩
  rw [← eq9] at hd11
  have Sq9 : Hid (Fz q9 9) := by show Fz q9 9; rw [eq9]; exact (Fz.add Z1.out Z3.out)
  have Eq9 := Lib.hid eq9; clear eq9
  rw [← eq10] at hd12
  have Sq10 : Hid (Fz q10 9) := by show Fz q10 9; rw [eq10]; exact (Fz.add Z2.out Z4.out)
  have Eq10 := Lib.hid eq10; clear eq10
  replace M := Lib.hid (And.intro hd11 (And.intro hd12 (Goes.go M.out hb)))
  clear hb hd11 hd12
  have ys_x_1 := TQ.st (M.out.1); have st_x_1 := ys_x_1.1; have st_x_2 := ys_x_1.2.1; have st_x_3 := ys_x_1.2.2.1; have st_x_4 := ys_x_1.2.2.2; clear ys_x_1
  have ys_x_5 := TQ.st (M.out.2.1); have st_x_5 := ys_x_5.1; have st_x_6 := ys_x_5.2.1; have st_x_7 := ys_x_5.2.2.1; have st_x_8 := ys_x_5.2.2.2; clear ys_x_5
  go_upto_region 5 with fail
  clear st_x_1 st_x_2 st_x_3 st_x_4 st_x_5 st_x_6 st_x_7 st_x_8
  obtain ⟨w7, hv⟩ : ∃ w_ : World, w_ = (w6.alloc (.cells #[x_1, x_2, x_3, x_4, x_5, x_6, x_7, x_8] 28)) := ⟨_, rfl⟩
  rw [← hv]
  have ow2_ : w.heap.size + 1 < w6.heap.size := ((M.out.2.2.1)).lt
  replace M := Lib.hid (And.intro (hv ▸ bx1 w6 28 #[x_1, x_2, x_3, x_4, x_5, x_6, x_7, x_8]) (Goes.go M.out (hv ▸ below_alloc _ _ : Below w6.heap.size w6 w7)))
  clear hv
  have y0 := (M.out.2.2.2.2.1).d8; have p0_0 := y0.1; have p0_1 := y0.2.1; have p0_2 := y0.2.2.1; have p0_3 := y0.2.2.2.1; have p0_4 := y0.2.2.2.2.1; have p0_5 := y0.2.2.2.2.2.1; have p0_6 := y0.2.2.2.2.2.2.1; have p0_7 := y0.2.2.2.2.2.2.2; clear y0
  have y1 := (M.out.2.2.2.1).d8; have p1_0 := y1.1; have p1_1 := y1.2.1; have p1_2 := y1.2.2.1; have p1_3 := y1.2.2.2.1; have p1_4 := y1.2.2.2.2.1; have p1_5 := y1.2.2.2.2.2.1; have p1_6 := y1.2.2.2.2.2.2.1; have p1_7 := y1.2.2.2.2.2.2.2; clear y1
  go_wp2_with fail
  clear p0_0 p0_1 p0_2 p0_3 p0_4 p0_5 p0_6 p0_7 p1_0 p1_1 p1_2 p1_3 p1_4 p1_5 p1_6 p1_7
  obtain ⟨q21, eq21⟩ : ∃ v_ : Rat, v_ = (p1 - r2) := ⟨_, rfl⟩
  obtain ⟨q22, eq22⟩ : ∃ v_ : Rat, v_ = (p2 - r1) := ⟨_, rfl⟩
  refine (spSub_q (G := G) (p := p1) (q := p2) (r := r1) (s := r2) (Nat.le_trans hG (M.out.2.2.2.2.2).size) (K1.out.keep (M.out.2.2.2.2.2)) (K2.out.keep (M.out.2.2.2.2.2)) (K3.out.keep (M.out.2.2.2.2.2)) (K4.out.keep (M.out.2.2.2.2.2)) (Fz.mono Z1.out (by omega)) (Fz.mono Z2.out (by omega)) (Fz.mono Z3.out (by omega)) (Fz.mono Z4.out (by omega)) (right_le HC1.out) (right_le HC2.out)).mono ?_
  rintro e w8 ⟨x_13, x_14, x_15, x_16, x_17, x_18, x_19, x_20, rfl, hd23, hd24, hb⟩
  rw [← eq21] at hd23
  have Sq21 : Hid (Fz q21 9) := by show Fz q21 9; rw [eq21]; exact (Fz.sub Z1.out Z4.out)
  have Eq21 := Lib.hid eq21; clear eq21
  rw [← eq22] at hd24
  have Sq22 : Hid (Fz q22 9) := by show Fz q22 9; rw [eq22]; exact (Fz.sub Z2.out Z3.out)
  have Eq22 := Lib.hid eq22; clear eq22
  replace M := Lib.hid (And.intro hd23 (And.intro hd24 (Goes.go M.out hb)))
  clear hb hd23 hd24
  have ys_x_13 := TQ.st (M.out.1); have st_x_13 := ys_x_13.1; have st_x_14 := ys_x_13.2.1; have st_x_15 := ys_x_13.2.2.1; have st_x_16 := ys_x_13.2.2.2; clear ys_x_13
  have ys_x_17 := TQ.st (M.out.2.1); have st_x_17 := ys_x_17.1; have st_x_18 := ys_x_17.2.1; have st_x_19 := ys_x_17.2.2.1; have st_x_20 := ys_x_17.2.2.2; clear ys_x_17
  go_upto_region 6 with fail
  clear st_x_13 st_x_14 st_x_15 st_x_16 st_x_17 st_x_18 st_x_19 st_x_20
  obtain ⟨w9, hv⟩ : ∃ w_ : World, w_ = (w8.alloc (.cells #[x_13, x_14, x_15, x_16, x_17, x_18, x_19, x_20] 28)) := ⟨_, rfl⟩
  rw [← hv]
  have ow3_ : w6.heap.size < w8.heap.size := ((M.out.2.2.1)).lt
  replace M := Lib.hid (And.intro (hv ▸ bx1 w8 28 #[x_13, x_14, x_15, x_16, x_17, x_18, x_19, x_20]) (Goes.go M.out (hv ▸ below_alloc _ _ : Below w8.heap.size w8 w9)))
  clear hv
  have y2 := (M.out.2.2.2.1).d8; have p2_0 := y2.1; have p2_1 := y2.2.1; have p2_2 := y2.2.2.1; have p2_3 := y2.2.2.2.1; have p2_4 := y2.2.2.2.2.1; have p2_5 := y2.2.2.2.2.2.1; have p2_6 := y2.2.2.2.2.2.2.1; have p2_7 := y2.2.2.2.2.2.2.2; clear y2
  have y1 := (M.out.2.2.2.2.2.2.1).d8; have p1_0 := y1.1; have p1_1 := y1.2.1; have p1_2 := y1.2.2.1; have p1_3 := y1.2.2.2.1; have p1_4 := y1.2.2.2.2.1; have p1_5 := y1.2.2.2.2.2.1; have p1_6 := y1.2.2.2.2.2.2.1; have p1_7 := y1.2.2.2.2.2.2.2; clear y1
  go_wp2_with fail
  clear p2_0 p2_1 p2_2 p2_3 p2_4 p2_5 p2_6 p2_7 p1_0 p1_1 p1_2 p1_3 p1_4 p1_5 p1_6 p1_7
  obtain ⟨q33, eq33⟩ : ∃ v_ : Rat, v_ = (q9 - r2) := ⟨_, rfl⟩
  obtain ⟨q34, eq34⟩ : ∃ v_ : Rat, v_ = (q10 - r1) := ⟨_, rfl⟩
  refine (spSub_q (G := G) (p := q9) (q := q10) (r := r1) (s := r2) (Nat.le_trans hG (M.out.2.2.2.2.2.2.2.2).size) (M.out.2.2.2.2.1) (M.out.2.2.2.2.2.1) (K3.out.keep (M.out.2.2.2.2.2.2.2.2)) (K4.out.keep (M.out.2.2.2.2.2.2.2.2)) (Fz.mono Sq9.out (by omega)) (Fz.mono Sq10.out (by omega)) (Fz.mono Z3.out (by omega)) (Fz.mono Z4.out (by omega)) (by rw [Eq10.out, Eq9.out]; have h1_ := right_le HC1.out; have h2_ := right_le HC2.out; grind) (right_le HC2.out)).mono ?_
  rintro e w10 ⟨x_25, x_26, x_27, x_28, x_29, x_30, x_31, x_32, rfl, hd35, hd36, hb⟩
  rw [← eq33] at hd35
  have Sq33 : Hid (Fz q33 14) := by show Fz q33 14; rw [eq33]; exact (Fz.sub Sq9.out Z4.out)
  have Eq33 := Lib.hid eq33; clear eq33
  rw [← eq34] at hd36
  have Sq34 : Hid (Fz q34 14) := by show Fz q34 14; rw [eq34]; exact (Fz.sub Sq10.out Z3.out)
  have Eq34 := Lib.hid eq34; clear eq34
  replace M := Lib.hid (And.intro hd35 (And.intro hd36 (Goes.go M.out hb)))
  clear hb hd35 hd36
  have ys_x_25 := TQ.st (M.out.1); have st_x_25 := ys_x_25.1; have st_x_26 := ys_x_25.2.1; have st_x_27 := ys_x_25.2.2.1; have st_x_28 := ys_x_25.2.2.2; clear ys_x_25
  have ys_x_29 := TQ.st (M.out.2.1); have st_x_29 := ys_x_29.1; have st_x_30 := ys_x_29.2.1; have st_x_31 := ys_x_29.2.2.1; have st_x_32 := ys_x_29.2.2.2; clear ys_x_29
  go_upto_region 7 with fail
  clear st_x_25 st_x_26 st_x_27 st_x_28 st_x_29 st_x_30 st_x_31 st_x_32
  obtain ⟨w11, hv⟩ : ∃ w_ : World, w_ = (w10.alloc (.cells #[x_25, x_26, x_27, x_28, x_29, x_30, x_31, x_32] 28)) := ⟨_, rfl⟩
  rw [← hv]
  have ow4_ : w8.heap.size < w10.heap.size := ((M.out.2.2.1)).lt
  replace M := Lib.hid (And.intro (hv ▸ bx1 w10 28 #[x_25, x_26, x_27, x_28, x_29, x_30, x_31, x_32]) (Goes.go M.out (hv ▸ below_alloc _ _ : Below w10.heap.size w10 w11)))
  clear hv
  go_cut [12, 13] (fun s12 s13 wx => ∃ (A55 : Nat), ∃ (x_37 : Value), ∃ (x_38 : Value), ∃ (x_39 : Value), ∃ (x_40 : Value), ∃ (q41 : Rat), ∃ (x_43 : Value), ∃ (x_44 : Value), ∃ (x_45 : Value), ∃ (x_46 : Value), ∃ (q47 : Rat), ∃ (x_49 : Value), ∃ (x_50 : Value), ∃ (x_51 : Value), ∃ (x_52 : Value), ∃ (q53 : Rat), s12 = .pointer (some ⟨A55, 0, none⟩) ∧ s13 = .int .i64 0 ∧ Hid (q41 = (p2 - p1)) ∧ Hid (q47 = (r2 - r1)) ∧ Hid (q53 = (q41 + q47)) ∧ Hid (Fz q41 9) ∧ Hid (Fz q47 9) ∧ Hid (Fz q53 19) ∧ w10.heap.size < A55 ∧ Hid (Bx wx A55 26 #[x_49, x_50, x_51, x_52] ∧ FQ G wx x_49 x_50 x_51 x_52 q53 ∧ FQ G wx x_43 x_44 x_45 x_46 q47 ∧ FQ G wx x_37 x_38 x_39 x_40 q41 ∧ FQ G wx x_25 x_26 x_27 x_28 q33 ∧ FQ G wx x_29 x_30 x_31 x_32 q34 ∧ FQ G wx x_13 x_14 x_15 x_16 q21 ∧ FQ G wx x_17 x_18 x_19 x_20 q22 ∧ FQ G wx x_1 x_2 x_3 x_4 q9 ∧ FQ G wx x_5 x_6 x_7 x_8 q10 ∧ Bx wx w.heap.size 28 #[u0, u1, u2, u3, u4, u5, u6, u7] ∧ Bx wx (w.heap.size + 1) 28 #[v0, v1, v2, v3, v4, v5, v6, v7] ∧ Bx wx w6.heap.size 28 #[x_1, x_2, x_3, x_4, x_5, x_6, x_7, x_8] ∧ Bx wx w8.heap.size 28 #[x_13, x_14, x_15, x_16, x_17, x_18, x_19, x_20] ∧ Bx wx w10.heap.size 28 #[x_25, x_26, x_27, x_28, x_29, x_30, x_31, x_32] ∧ Below w.heap.size w wx))
  case first =>
    obtain ⟨w12, hv⟩ : ∃ w_ : World, w_ = w11.drew := ⟨_, rfl⟩
    replace M := Lib.hid (Goes.go M.out (hv ▸ below_drew _ : Below w11.heap.size w11 w12))
    refine wp_region_held_drew (S := (fun w' => w'.cell? ⟨w.heap.size, 0, none⟩ = some (u0) ∧ w'.cell? ⟨w.heap.size, 1, none⟩ = some (u1) ∧ w'.cell? ⟨w.heap.size, 2, none⟩ = some (u2) ∧ w'.cell? ⟨w.heap.size, 3, none⟩ = some (u3) ∧ w'.cell? ⟨w.heap.size, 4, none⟩ = some (u4) ∧ w'.cell? ⟨w.heap.size, 5, none⟩ = some (u5) ∧ w'.cell? ⟨w.heap.size, 6, none⟩ = some (u6) ∧ w'.cell? ⟨w.heap.size, 7, none⟩ = some (u7) ∧ w'.cell? ⟨w.heap.size + 1, 0, none⟩ = some (v0) ∧ w'.cell? ⟨w.heap.size + 1, 1, none⟩ = some (v1) ∧ w'.cell? ⟨w.heap.size + 1, 2, none⟩ = some (v2) ∧ w'.cell? ⟨w.heap.size + 1, 3, none⟩ = some (v3) ∧ w'.cell? ⟨w.heap.size + 1, 4, none⟩ = some (v4) ∧ w'.cell? ⟨w.heap.size + 1, 5, none⟩ = some (v5) ∧ w'.cell? ⟨w.heap.size + 1, 6, none⟩ = some (v6) ∧ w'.cell? ⟨w.heap.size + 1, 7, none⟩ = some (v7))) (by kernel_rfl) (by rw [← hv]; exact ⟨(M.out.2.2.2.2.2.2.2.2.2.2.1).at.1 0, (M.out.2.2.2.2.2.2.2.2.2.2.1).at.1 1, (M.out.2.2.2.2.2.2.2.2.2.2.1).at.1 2, (M.out.2.2.2.2.2.2.2.2.2.2.1).at.1 3, (M.out.2.2.2.2.2.2.2.2.2.2.1).at.1 4, (M.out.2.2.2.2.2.2.2.2.2.2.1).at.1 5, (M.out.2.2.2.2.2.2.2.2.2.2.1).at.1 6, (M.out.2.2.2.2.2.2.2.2.2.2.1).at.1 7, (M.out.2.2.2.2.2.2.2.2.2.1).at.1 0, (M.out.2.2.2.2.2.2.2.2.2.1).at.1 1, (M.out.2.2.2.2.2.2.2.2.2.1).at.1 2, (M.out.2.2.2.2.2.2.2.2.2.1).at.1 3, (M.out.2.2.2.2.2.2.2.2.2.1).at.1 4, (M.out.2.2.2.2.2.2.2.2.2.1).at.1 5, (M.out.2.2.2.2.2.2.2.2.2.1).at.1 6, (M.out.2.2.2.2.2.2.2.2.2.1).at.1 7⟩) (fun hH56 => ?_)
    rw [← hv] at hH56 ⊢
    clear hv
    refine tk at0 ?_
    refine tk at2 ?_
    refine wpAnyH_ready (rs := [1, 8]) (by kernel_rfl) (by simp) ?_
    refine AllReadyH.cons at1 (fun K hK => ?_) ?_
    ·
      go_simp
      obtain ⟨q61, eq61⟩ : ∃ v_ : Rat, v_ = (p2 - p1) := ⟨_, rfl⟩
      refine (spWidth_q (G := G) (p := p1) (q := p2) (Nat.le_trans hG (M.out.2.2.2.2.2.2.2.2.2.2.2).size) (K1.out.keep (M.out.2.2.2.2.2.2.2.2.2.2.2)) (K2.out.keep (M.out.2.2.2.2.2.2.2.2.2.2.2)) (Fz.mono Z1.out (by omega)) (Fz.mono Z2.out (by omega)) (right_le HC1.out)).mono ?_
      rintro e w13 ⟨x_57, x_58, x_59, x_60, rfl, hd62, hb⟩
      rw [← eq61] at hd62
      have Sq61 : Hid (Fz q61 9) := by show Fz q61 9; rw [eq61]; exact (Fz.sub Z2.out Z1.out)
      have Eq61 := Lib.hid eq61; clear eq61
      replace M := Lib.hid (And.intro hd62 (Goes.go M.out hb))
      clear hb hd62
      (try go_wp2_with fail)
      refine hK.out _ _ (⟨(M.out.2.2.2.2.2.2.2.2.2.2.2.1).at.1 0, (M.out.2.2.2.2.2.2.2.2.2.2.2.1).at.1 1, (M.out.2.2.2.2.2.2.2.2.2.2.2.1).at.1 2, (M.out.2.2.2.2.2.2.2.2.2.2.2.1).at.1 3, (M.out.2.2.2.2.2.2.2.2.2.2.2.1).at.1 4, (M.out.2.2.2.2.2.2.2.2.2.2.2.1).at.1 5, (M.out.2.2.2.2.2.2.2.2.2.2.2.1).at.1 6, (M.out.2.2.2.2.2.2.2.2.2.2.2.1).at.1 7, (M.out.2.2.2.2.2.2.2.2.2.2.1).at.1 0, (M.out.2.2.2.2.2.2.2.2.2.2.1).at.1 1, (M.out.2.2.2.2.2.2.2.2.2.2.1).at.1 2, (M.out.2.2.2.2.2.2.2.2.2.2.1).at.1 3, (M.out.2.2.2.2.2.2.2.2.2.2.1).at.1 4, (M.out.2.2.2.2.2.2.2.2.2.2.1).at.1 5, (M.out.2.2.2.2.2.2.2.2.2.2.1).at.1 6, (M.out.2.2.2.2.2.2.2.2.2.2.1).at.1 7⟩) (fun hH63 => ?_)
      clear hK K hH56
      (try simp only [Act.put, List.setIfInBounds_toArray, List.set_cons_zero, List.set_cons_succ])
      refine wpAnyH_ready (rs := [3, 8]) (by kernel_rfl) (by simp) ?_
      refine AllReadyH.cons at3 (fun K hK => ?_) ?_
      ·
        go_simp
        obtain ⟨q68, eq68⟩ : ∃ v_ : Rat, v_ = (r2 - r1) := ⟨_, rfl⟩
        refine (spWidth_q (G := G) (p := r1) (q := r2) (Nat.le_trans hG (M.out.2.2.2.2.2.2.2.2.2.2.2.2).size) (K3.out.keep (M.out.2.2.2.2.2.2.2.2.2.2.2.2)) (K4.out.keep (M.out.2.2.2.2.2.2.2.2.2.2.2.2)) (Fz.mono Z3.out (by omega)) (Fz.mono Z4.out (by omega)) (right_le HC2.out)).mono ?_
        rintro e w14 ⟨x_64, x_65, x_66, x_67, rfl, hd69, hb⟩
        rw [← eq68] at hd69
        have Sq68 : Hid (Fz q68 9) := by show Fz q68 9; rw [eq68]; exact (Fz.sub Z4.out Z3.out)
        have Eq68 := Lib.hid eq68; clear eq68
        replace M := Lib.hid (And.intro hd69 (Goes.go M.out hb))
        clear hb hd69
        (try go_wp2_with fail)
        refine hK.out _ _ (⟨(M.out.2.2.2.2.2.2.2.2.2.2.2.2.1).at.1 0, (M.out.2.2.2.2.2.2.2.2.2.2.2.2.1).at.1 1, (M.out.2.2.2.2.2.2.2.2.2.2.2.2.1).at.1 2, (M.out.2.2.2.2.2.2.2.2.2.2.2.2.1).at.1 3, (M.out.2.2.2.2.2.2.2.2.2.2.2.2.1).at.1 4, (M.out.2.2.2.2.2.2.2.2.2.2.2.2.1).at.1 5, (M.out.2.2.2.2.2.2.2.2.2.2.2.2.1).at.1 6, (M.out.2.2.2.2.2.2.2.2.2.2.2.2.1).at.1 7, (M.out.2.2.2.2.2.2.2.2.2.2.2.1).at.1 0, (M.out.2.2.2.2.2.2.2.2.2.2.2.1).at.1 1, (M.out.2.2.2.2.2.2.2.2.2.2.2.1).at.1 2, (M.out.2.2.2.2.2.2.2.2.2.2.2.1).at.1 3, (M.out.2.2.2.2.2.2.2.2.2.2.2.1).at.1 4, (M.out.2.2.2.2.2.2.2.2.2.2.2.1).at.1 5, (M.out.2.2.2.2.2.2.2.2.2.2.2.1).at.1 6, (M.out.2.2.2.2.2.2.2.2.2.2.2.1).at.1 7⟩) (fun hH70 => ?_)
        clear hK K hH63
        (try simp only [Act.put, List.setIfInBounds_toArray, List.set_cons_zero, List.set_cons_succ])
        refine wpAnyH_ready (rs := [4, 8]) (by kernel_rfl) (by simp) ?_
        refine AllReadyH.cons at4 (fun K hK => ?_) ?_
        ·
          go_simp
          obtain ⟨q75, eq75⟩ : ∃ v_ : Rat, v_ = (q61 + q68) := ⟨_, rfl⟩
          refine (fqAdd (G := G) (q := q61) (r := q68) (M.out.2.1) (M.out.1) (Fz.mono Sq61.out (by omega)) (Fz.mono Sq68.out (by omega))).mono ?_
          rintro e w15 ⟨x_71, x_72, x_73, x_74, rfl, hd76, hb⟩
          rw [← eq75] at hd76
          have Sq75 : Hid (Fz q75 19) := by show Fz q75 19; rw [eq75]; exact (Fz.add Sq61.out Sq68.out)
          have Eq75 := Lib.hid eq75; clear eq75
          replace M := Lib.hid (And.intro hd76 (Goes.go M.out hb))
          clear hb hd76
          (try go_wp2_with fail)
          refine hK.out _ _ (⟨(M.out.2.2.2.2.2.2.2.2.2.2.2.2.2.1).at.1 0, (M.out.2.2.2.2.2.2.2.2.2.2.2.2.2.1).at.1 1, (M.out.2.2.2.2.2.2.2.2.2.2.2.2.2.1).at.1 2, (M.out.2.2.2.2.2.2.2.2.2.2.2.2.2.1).at.1 3, (M.out.2.2.2.2.2.2.2.2.2.2.2.2.2.1).at.1 4, (M.out.2.2.2.2.2.2.2.2.2.2.2.2.2.1).at.1 5, (M.out.2.2.2.2.2.2.2.2.2.2.2.2.2.1).at.1 6, (M.out.2.2.2.2.2.2.2.2.2.2.2.2.2.1).at.1 7, (M.out.2.2.2.2.2.2.2.2.2.2.2.2.1).at.1 0, (M.out.2.2.2.2.2.2.2.2.2.2.2.2.1).at.1 1, (M.out.2.2.2.2.2.2.2.2.2.2.2.2.1).at.1 2, (M.out.2.2.2.2.2.2.2.2.2.2.2.2.1).at.1 3, (M.out.2.2.2.2.2.2.2.2.2.2.2.2.1).at.1 4, (M.out.2.2.2.2.2.2.2.2.2.2.2.2.1).at.1 5, (M.out.2.2.2.2.2.2.2.2.2.2.2.2.1).at.1 6, (M.out.2.2.2.2.2.2.2.2.2.2.2.2.1).at.1 7⟩) (fun hH77 => ?_)
          clear hK K hH70
          (try simp only [Act.put, List.setIfInBounds_toArray, List.set_cons_zero, List.set_cons_succ])
          refine tk at5 ?_
          refine tk at6 ?_
          refine tk at7 ?_
          refine wpAnyH_ready (rs := [8]) (by kernel_rfl) (by simp) ?_
          refine AllReadyH.cons at8 (fun K hK => ?_) AllReadyH.nil
          go_simp
          obtain ⟨w16, hv⟩ : ∃ w_ : World, w_ = (w15.alloc (.cells #[.int .i64 0, .slice none 0 0, .int .i64 0, .slice none 0 0] 26)) := ⟨_, rfl⟩
          rw [← hv]
          have ow5_ : w10.heap.size < w15.heap.size := ((M.out.2.2.2.1)).lt
          replace M := Lib.hid (And.intro (hv ▸ bx1 w15 26 #[.int .i64 0, .slice none 0 0, .int .i64 0, .slice none 0 0]) (Goes.go M.out (hv ▸ below_alloc _ _ : Below w15.heap.size w15 w16)))
          clear hv
          refine hK.out _ _ (⟨(M.out.2.2.2.2.2.2.2.2.2.2.2.2.2.2.1).at.1 0, (M.out.2.2.2.2.2.2.2.2.2.2.2.2.2.2.1).at.1 1, (M.out.2.2.2.2.2.2.2.2.2.2.2.2.2.2.1).at.1 2, (M.out.2.2.2.2.2.2.2.2.2.2.2.2.2.2.1).at.1 3, (M.out.2.2.2.2.2.2.2.2.2.2.2.2.2.2.1).at.1 4, (M.out.2.2.2.2.2.2.2.2.2.2.2.2.2.2.1).at.1 5, (M.out.2.2.2.2.2.2.2.2.2.2.2.2.2.2.1).at.1 6, (M.out.2.2.2.2.2.2.2.2.2.2.2.2.2.2.1).at.1 7, (M.out.2.2.2.2.2.2.2.2.2.2.2.2.2.1).at.1 0, (M.out.2.2.2.2.2.2.2.2.2.2.2.2.2.1).at.1 1, (M.out.2.2.2.2.2.2.2.2.2.2.2.2.2.1).at.1 2, (M.out.2.2.2.2.2.2.2.2.2.2.2.2.2.1).at.1 3, (M.out.2.2.2.2.2.2.2.2.2.2.2.2.2.1).at.1 4, (M.out.2.2.2.2.2.2.2.2.2.2.2.2.2.1).at.1 5, (M.out.2.2.2.2.2.2.2.2.2.2.2.2.2.1).at.1 6, (M.out.2.2.2.2.2.2.2.2.2.2.2.2.2.1).at.1 7⟩) (fun hH78 => ?_)
          clear hK K hH77
          (try simp only [Act.put, List.setIfInBounds_toArray, List.set_cons_zero, List.set_cons_succ])
          refine wpAnyH_ready (rs := [9]) (by kernel_rfl) (by simp) ?_
          refine AllReadyH.cons at9 (fun K hK => ?_) AllReadyH.nil
          have y5 := (M.out.1).c4; have p5_0 := y5.1; have q5_0 := y5.2.1; have p5_1 := y5.2.2.1; have q5_1 := y5.2.2.2.1; have p5_2 := y5.2.2.2.2.1; have q5_2 := y5.2.2.2.2.2.1; have p5_3 := y5.2.2.2.2.2.2.1; have q5_3 := y5.2.2.2.2.2.2.2; clear y5
          have ys_x_71 := TQ.st (M.out.2.1); have st_x_71 := ys_x_71.1; have st_x_72 := ys_x_71.2.1; have st_x_73 := ys_x_71.2.2.1; have st_x_74 := ys_x_71.2.2.2; clear ys_x_71
          go_simp
          clear p5_0 q5_0 p5_1 q5_1 p5_2 q5_2 p5_3 q5_3 st_x_71 st_x_72 st_x_73 st_x_74
          obtain ⟨w17, hv⟩ : ∃ w_ : World, w_ = ((((w16.setCell ⟨w15.heap.size, 0, none⟩ (x_71)).setCell ⟨w15.heap.size, 1, none⟩ (x_72)).setCell ⟨w15.heap.size, 2, none⟩ (x_73)).setCell ⟨w15.heap.size, 3, none⟩ (x_74)) := ⟨_, rfl⟩
          rw [← hv]
          have og : w16.grownBy w17 (some w15.heap.size) := by rw [hv]; exact (only_setCell (only_setCell (only_setCell (only_setCell (World.grownBy.refl _ _) _) _) _) _)
          have hz : w.heap.size ≤ w15.heap.size := by omega
          have hk : Bx w17 w15.heap.size 26 #[x_71, x_72, x_73, x_74] := by rw [hv]; exact (((((M.out.1).set 0 _).set 1 _).set 2 _).set 3 _)
          have hbw : Below w.heap.size w w17 := by rw [hv]; exact (Below.setCell (Below.setCell (Below.setCell (Below.setCell (M.out.2.2.2.2.2.2.2.2.2.2.2.2.2.2.2) (by omega) _) (by omega) _) (by omega) _) (by omega) _)
          replace M := Lib.hid (And.intro hk (And.intro ((M.out.2.1).far (M.out.1) (by rfl) (by omega) og) (And.intro ((M.out.2.2.1).far (M.out.1) (by rfl) (by omega) og) (And.intro ((M.out.2.2.2.1).far (M.out.1) (by rfl) (by omega) og) (And.intro ((M.out.2.2.2.2.1).only og (by omega)) (And.intro ((M.out.2.2.2.2.2.1).far (M.out.1) (by rfl) (by omega) og) (And.intro ((M.out.2.2.2.2.2.2.1).far (M.out.1) (by rfl) (by omega) og) (And.intro ((M.out.2.2.2.2.2.2.2.1).only og (by omega)) (And.intro ((M.out.2.2.2.2.2.2.2.2.1).far (M.out.1) (by rfl) (by omega) og) (And.intro ((M.out.2.2.2.2.2.2.2.2.2.1).far (M.out.1) (by rfl) (by omega) og) (And.intro ((M.out.2.2.2.2.2.2.2.2.2.2.1).only og (by omega)) (And.intro ((M.out.2.2.2.2.2.2.2.2.2.2.2.1).far (M.out.1) (by rfl) (by omega) og) (And.intro ((M.out.2.2.2.2.2.2.2.2.2.2.2.2.1).far (M.out.1) (by rfl) (by omega) og) (And.intro ((M.out.2.2.2.2.2.2.2.2.2.2.2.2.2.1).only og (by omega)) (And.intro ((M.out.2.2.2.2.2.2.2.2.2.2.2.2.2.2.1).only og (by omega)) hbw)))))))))))))))
          clear hk hbw og hv hz
          refine hK.out _ _ (⟨(M.out.2.2.2.2.2.2.2.2.2.2.2.2.2.2.1).at.1 0, (M.out.2.2.2.2.2.2.2.2.2.2.2.2.2.2.1).at.1 1, (M.out.2.2.2.2.2.2.2.2.2.2.2.2.2.2.1).at.1 2, (M.out.2.2.2.2.2.2.2.2.2.2.2.2.2.2.1).at.1 3, (M.out.2.2.2.2.2.2.2.2.2.2.2.2.2.2.1).at.1 4, (M.out.2.2.2.2.2.2.2.2.2.2.2.2.2.2.1).at.1 5, (M.out.2.2.2.2.2.2.2.2.2.2.2.2.2.2.1).at.1 6, (M.out.2.2.2.2.2.2.2.2.2.2.2.2.2.2.1).at.1 7, (M.out.2.2.2.2.2.2.2.2.2.2.2.2.2.1).at.1 0, (M.out.2.2.2.2.2.2.2.2.2.2.2.2.2.1).at.1 1, (M.out.2.2.2.2.2.2.2.2.2.2.2.2.2.1).at.1 2, (M.out.2.2.2.2.2.2.2.2.2.2.2.2.2.1).at.1 3, (M.out.2.2.2.2.2.2.2.2.2.2.2.2.2.1).at.1 4, (M.out.2.2.2.2.2.2.2.2.2.2.2.2.2.1).at.1 5, (M.out.2.2.2.2.2.2.2.2.2.2.2.2.2.1).at.1 6, (M.out.2.2.2.2.2.2.2.2.2.2.2.2.2.1).at.1 7⟩) (fun hH79 => ?_)
          clear hK K hH78
          (try simp only [Act.put, List.setIfInBounds_toArray, List.set_cons_zero, List.set_cons_succ])
          refine tk at10 ?_
          refine wpAnyH_done (by kernel_rfl) ?_ _
          clear hH79
          go_wp2_with fail
          go_meet
          exact ⟨w15.heap.size, x_57, x_58, x_59, x_60, q61, x_64, x_65, x_66, x_67, q68, x_71, x_72, x_73, x_74, q75, rfl, rfl, Eq61, Eq68, Eq75, Sq61, Sq68, Sq75, (by omega), (M.out.1), (M.out.2.1), (M.out.2.2.1), (M.out.2.2.2.1), (M.out.2.2.2.2.2.1), (M.out.2.2.2.2.2.2.1), (M.out.2.2.2.2.2.2.2.2.1), (M.out.2.2.2.2.2.2.2.2.2.1), (M.out.2.2.2.2.2.2.2.2.2.2.2.1), (M.out.2.2.2.2.2.2.2.2.2.2.2.2.1), (M.out.2.2.2.2.2.2.2.2.2.2.2.2.2.2.1), (M.out.2.2.2.2.2.2.2.2.2.2.2.2.2.1), (M.out.2.2.2.2.2.2.2.2.2.2.1), (M.out.2.2.2.2.2.2.2.1), (M.out.2.2.2.2.1), (M.out.2.2.2.2.2.2.2.2.2.2.2.2.2.2.2)⟩
        refine AllReadyH.cons at8 (fun K hK => ?_) AllReadyH.nil
        go_simp
        obtain ⟨w15, hv⟩ : ∃ w_ : World, w_ = (w14.alloc (.cells #[.int .i64 0, .slice none 0 0, .int .i64 0, .slice none 0 0] 26)) := ⟨_, rfl⟩
        rw [← hv]
        have ow5_ : w10.heap.size < w14.heap.size := ((M.out.2.2.1)).lt
        replace M := Lib.hid (And.intro (hv ▸ bx1 w14 26 #[.int .i64 0, .slice none 0 0, .int .i64 0, .slice none 0 0]) (Goes.go M.out (hv ▸ below_alloc _ _ : Below w14.heap.size w14 w15)))
        clear hv
        refine hK.out _ _ (⟨(M.out.2.2.2.2.2.2.2.2.2.2.2.2.2.1).at.1 0, (M.out.2.2.2.2.2.2.2.2.2.2.2.2.2.1).at.1 1, (M.out.2.2.2.2.2.2.2.2.2.2.2.2.2.1).at.1 2, (M.out.2.2.2.2.2.2.2.2.2.2.2.2.2.1).at.1 3, (M.out.2.2.2.2.2.2.2.2.2.2.2.2.2.1).at.1 4, (M.out.2.2.2.2.2.2.2.2.2.2.2.2.2.1).at.1 5, (M.out.2.2.2.2.2.2.2.2.2.2.2.2.2.1).at.1 6, (M.out.2.2.2.2.2.2.2.2.2.2.2.2.2.1).at.1 7, (M.out.2.2.2.2.2.2.2.2.2.2.2.2.1).at.1 0, (M.out.2.2.2.2.2.2.2.2.2.2.2.2.1).at.1 1, (M.out.2.2.2.2.2.2.2.2.2.2.2.2.1).at.1 2, (M.out.2.2.2.2.2.2.2.2.2.2.2.2.1).at.1 3, (M.out.2.2.2.2.2.2.2.2.2.2.2.2.1).at.1 4, (M.out.2.2.2.2.2.2.2.2.2.2.2.2.1).at.1 5, (M.out.2.2.2.2.2.2.2.2.2.2.2.2.1).at.1 6, (M.out.2.2.2.2.2.2.2.2.2.2.2.2.1).at.1 7⟩) (fun hH80 => ?_)
        clear hK K hH70
        (try simp only [Act.put, List.setIfInBounds_toArray, List.set_cons_zero, List.set_cons_succ])
        refine wpAnyH_ready (rs := [4]) (by kernel_rfl) (by simp) ?_
        refine AllReadyH.cons at4 (fun K hK => ?_) AllReadyH.nil
        go_simp
        obtain ⟨q85, eq85⟩ : ∃ v_ : Rat, v_ = (q61 + q68) := ⟨_, rfl⟩
        refine (fqAdd (G := G) (q := q61) (r := q68) (M.out.2.2.1) (M.out.2.1) (Fz.mono Sq61.out (by omega)) (Fz.mono Sq68.out (by omega))).mono ?_
        rintro e w16 ⟨x_81, x_82, x_83, x_84, rfl, hd86, hb⟩
        rw [← eq85] at hd86
        have Sq85 : Hid (Fz q85 19) := by show Fz q85 19; rw [eq85]; exact (Fz.add Sq61.out Sq68.out)
        have Eq85 := Lib.hid eq85; clear eq85
        replace M := Lib.hid (And.intro hd86 (Goes.go M.out hb))
        clear hb hd86
        (try go_wp2_with fail)
        refine hK.out _ _ (⟨(M.out.2.2.2.2.2.2.2.2.2.2.2.2.2.2.1).at.1 0, (M.out.2.2.2.2.2.2.2.2.2.2.2.2.2.2.1).at.1 1, (M.out.2.2.2.2.2.2.2.2.2.2.2.2.2.2.1).at.1 2, (M.out.2.2.2.2.2.2.2.2.2.2.2.2.2.2.1).at.1 3, (M.out.2.2.2.2.2.2.2.2.2.2.2.2.2.2.1).at.1 4, (M.out.2.2.2.2.2.2.2.2.2.2.2.2.2.2.1).at.1 5, (M.out.2.2.2.2.2.2.2.2.2.2.2.2.2.2.1).at.1 6, (M.out.2.2.2.2.2.2.2.2.2.2.2.2.2.2.1).at.1 7, (M.out.2.2.2.2.2.2.2.2.2.2.2.2.2.1).at.1 0, (M.out.2.2.2.2.2.2.2.2.2.2.2.2.2.1).at.1 1, (M.out.2.2.2.2.2.2.2.2.2.2.2.2.2.1).at.1 2, (M.out.2.2.2.2.2.2.2.2.2.2.2.2.2.1).at.1 3, (M.out.2.2.2.2.2.2.2.2.2.2.2.2.2.1).at.1 4, (M.out.2.2.2.2.2.2.2.2.2.2.2.2.2.1).at.1 5, (M.out.2.2.2.2.2.2.2.2.2.2.2.2.2.1).at.1 6, (M.out.2.2.2.2.2.2.2.2.2.2.2.2.2.1).at.1 7⟩) (fun hH87 => ?_)
        clear hK K hH80
        (try simp only [Act.put, List.setIfInBounds_toArray, List.set_cons_zero, List.set_cons_succ])
        refine tk at5 ?_
        refine tk at6 ?_
        refine tk at7 ?_
        refine wpAnyH_ready (rs := [9]) (by kernel_rfl) (by simp) ?_
        refine AllReadyH.cons at9 (fun K hK => ?_) AllReadyH.nil
        have y5 := (M.out.2.1).c4; have p5_0 := y5.1; have q5_0 := y5.2.1; have p5_1 := y5.2.2.1; have q5_1 := y5.2.2.2.1; have p5_2 := y5.2.2.2.2.1; have q5_2 := y5.2.2.2.2.2.1; have p5_3 := y5.2.2.2.2.2.2.1; have q5_3 := y5.2.2.2.2.2.2.2; clear y5
        have ys_x_81 := TQ.st (M.out.1); have st_x_81 := ys_x_81.1; have st_x_82 := ys_x_81.2.1; have st_x_83 := ys_x_81.2.2.1; have st_x_84 := ys_x_81.2.2.2; clear ys_x_81
        go_simp
        clear p5_0 q5_0 p5_1 q5_1 p5_2 q5_2 p5_3 q5_3 st_x_81 st_x_82 st_x_83 st_x_84
        obtain ⟨w17, hv⟩ : ∃ w_ : World, w_ = ((((w16.setCell ⟨w14.heap.size, 0, none⟩ (x_81)).setCell ⟨w14.heap.size, 1, none⟩ (x_82)).setCell ⟨w14.heap.size, 2, none⟩ (x_83)).setCell ⟨w14.heap.size, 3, none⟩ (x_84)) := ⟨_, rfl⟩
        rw [← hv]
        have og : w16.grownBy w17 (some w14.heap.size) := by rw [hv]; exact (only_setCell (only_setCell (only_setCell (only_setCell (World.grownBy.refl _ _) _) _) _) _)
        have hz : w.heap.size ≤ w14.heap.size := by omega
        have hk : Bx w17 w14.heap.size 26 #[x_81, x_82, x_83, x_84] := by rw [hv]; exact (((((M.out.2.1).set 0 _).set 1 _).set 2 _).set 3 _)
        have hbw : Below w.heap.size w w17 := by rw [hv]; exact (Below.setCell (Below.setCell (Below.setCell (Below.setCell (M.out.2.2.2.2.2.2.2.2.2.2.2.2.2.2.2) (by omega) _) (by omega) _) (by omega) _) (by omega) _)
        replace M := Lib.hid (And.intro ((M.out.1).far (M.out.2.1) (by rfl) (by omega) og) (And.intro hk (And.intro ((M.out.2.2.1).far (M.out.2.1) (by rfl) (by omega) og) (And.intro ((M.out.2.2.2.1).far (M.out.2.1) (by rfl) (by omega) og) (And.intro ((M.out.2.2.2.2.1).only og (by omega)) (And.intro ((M.out.2.2.2.2.2.1).far (M.out.2.1) (by rfl) (by omega) og) (And.intro ((M.out.2.2.2.2.2.2.1).far (M.out.2.1) (by rfl) (by omega) og) (And.intro ((M.out.2.2.2.2.2.2.2.1).only og (by omega)) (And.intro ((M.out.2.2.2.2.2.2.2.2.1).far (M.out.2.1) (by rfl) (by omega) og) (And.intro ((M.out.2.2.2.2.2.2.2.2.2.1).far (M.out.2.1) (by rfl) (by omega) og) (And.intro ((M.out.2.2.2.2.2.2.2.2.2.2.1).only og (by omega)) (And.intro ((M.out.2.2.2.2.2.2.2.2.2.2.2.1).far (M.out.2.1) (by rfl) (by omega) og) (And.intro ((M.out.2.2.2.2.2.2.2.2.2.2.2.2.1).far (M.out.2.1) (by rfl) (by omega) og) (And.intro ((M.out.2.2.2.2.2.2.2.2.2.2.2.2.2.1).only og (by omega)) (And.intro ((M.out.2.2.2.2.2.2.2.2.2.2.2.2.2.2.1).only og (by omega)) hbw)))))))))))))))
        clear hk hbw og hv hz
        refine hK.out _ _ (⟨(M.out.2.2.2.2.2.2.2.2.2.2.2.2.2.2.1).at.1 0, (M.out.2.2.2.2.2.2.2.2.2.2.2.2.2.2.1).at.1 1, (M.out.2.2.2.2.2.2.2.2.2.2.2.2.2.2.1).at.1 2, (M.out.2.2.2.2.2.2.2.2.2.2.2.2.2.2.1).at.1 3, (M.out.2.2.2.2.2.2.2.2.2.2.2.2.2.2.1).at.1 4, (M.out.2.2.2.2.2.2.2.2.2.2.2.2.2.2.1).at.1 5, (M.out.2.2.2.2.2.2.2.2.2.2.2.2.2.2.1).at.1 6, (M.out.2.2.2.2.2.2.2.2.2.2.2.2.2.2.1).at.1 7, (M.out.2.2.2.2.2.2.2.2.2.2.2.2.2.1).at.1 0, (M.out.2.2.2.2.2.2.2.2.2.2.2.2.2.1).at.1 1, (M.out.2.2.2.2.2.2.2.2.2.2.2.2.2.1).at.1 2, (M.out.2.2.2.2.2.2.2.2.2.2.2.2.2.1).at.1 3, (M.out.2.2.2.2.2.2.2.2.2.2.2.2.2.1).at.1 4, (M.out.2.2.2.2.2.2.2.2.2.2.2.2.2.1).at.1 5, (M.out.2.2.2.2.2.2.2.2.2.2.2.2.2.1).at.1 6, (M.out.2.2.2.2.2.2.2.2.2.2.2.2.2.1).at.1 7⟩) (fun hH88 => ?_)
        clear hK K hH87
        (try simp only [Act.put, List.setIfInBounds_toArray, List.set_cons_zero, List.set_cons_succ])
        refine tk at10 ?_
        refine wpAnyH_done (by kernel_rfl) ?_ _
        clear hH88
        go_wp2_with fail
        go_meet
        exact ⟨w14.heap.size, x_57, x_58, x_59, x_60, q61, x_64, x_65, x_66, x_67, q68, x_81, x_82, x_83, x_84, q85, rfl, rfl, Eq61, Eq68, Eq85, Sq61, Sq68, Sq85, (by omega), (M.out.2.1), (M.out.1), (M.out.2.2.1), (M.out.2.2.2.1), (M.out.2.2.2.2.2.1), (M.out.2.2.2.2.2.2.1), (M.out.2.2.2.2.2.2.2.2.1), (M.out.2.2.2.2.2.2.2.2.2.1), (M.out.2.2.2.2.2.2.2.2.2.2.2.1), (M.out.2.2.2.2.2.2.2.2.2.2.2.2.1), (M.out.2.2.2.2.2.2.2.2.2.2.2.2.2.2.1), (M.out.2.2.2.2.2.2.2.2.2.2.2.2.2.1), (M.out.2.2.2.2.2.2.2.2.2.2.1), (M.out.2.2.2.2.2.2.2.1), (M.out.2.2.2.2.1), (M.out.2.2.2.2.2.2.2.2.2.2.2.2.2.2.2)⟩
      refine AllReadyH.cons at8 (fun K hK => ?_) AllReadyH.nil
      go_simp
      obtain ⟨w14, hv⟩ : ∃ w_ : World, w_ = (w13.alloc (.cells #[.int .i64 0, .slice none 0 0, .int .i64 0, .slice none 0 0] 26)) := ⟨_, rfl⟩
      rw [← hv]
      have ow5_ : w10.heap.size < w13.heap.size := ((M.out.2.1)).lt
      replace M := Lib.hid (And.intro (hv ▸ bx1 w13 26 #[.int .i64 0, .slice none 0 0, .int .i64 0, .slice none 0 0]) (Goes.go M.out (hv ▸ below_alloc _ _ : Below w13.heap.size w13 w14)))
      clear hv
      refine hK.out _ _ (⟨(M.out.2.2.2.2.2.2.2.2.2.2.2.2.1).at.1 0, (M.out.2.2.2.2.2.2.2.2.2.2.2.2.1).at.1 1, (M.out.2.2.2.2.2.2.2.2.2.2.2.2.1).at.1 2, (M.out.2.2.2.2.2.2.2.2.2.2.2.2.1).at.1 3, (M.out.2.2.2.2.2.2.2.2.2.2.2.2.1).at.1 4, (M.out.2.2.2.2.2.2.2.2.2.2.2.2.1).at.1 5, (M.out.2.2.2.2.2.2.2.2.2.2.2.2.1).at.1 6, (M.out.2.2.2.2.2.2.2.2.2.2.2.2.1).at.1 7, (M.out.2.2.2.2.2.2.2.2.2.2.2.1).at.1 0, (M.out.2.2.2.2.2.2.2.2.2.2.2.1).at.1 1, (M.out.2.2.2.2.2.2.2.2.2.2.2.1).at.1 2, (M.out.2.2.2.2.2.2.2.2.2.2.2.1).at.1 3, (M.out.2.2.2.2.2.2.2.2.2.2.2.1).at.1 4, (M.out.2.2.2.2.2.2.2.2.2.2.2.1).at.1 5, (M.out.2.2.2.2.2.2.2.2.2.2.2.1).at.1 6, (M.out.2.2.2.2.2.2.2.2.2.2.2.1).at.1 7⟩) (fun hH89 => ?_)
      clear hK K hH63
      (try simp only [Act.put, List.setIfInBounds_toArray, List.set_cons_zero, List.set_cons_succ])
      refine wpAnyH_ready (rs := [3]) (by kernel_rfl) (by simp) ?_
      refine AllReadyH.cons at3 (fun K hK => ?_) AllReadyH.nil
      go_simp
      obtain ⟨q94, eq94⟩ : ∃ v_ : Rat, v_ = (r2 - r1) := ⟨_, rfl⟩
      refine (spWidth_q (G := G) (p := r1) (q := r2) (Nat.le_trans hG (M.out.2.2.2.2.2.2.2.2.2.2.2.2.2).size) (K3.out.keep (M.out.2.2.2.2.2.2.2.2.2.2.2.2.2)) (K4.out.keep (M.out.2.2.2.2.2.2.2.2.2.2.2.2.2)) (Fz.mono Z3.out (by omega)) (Fz.mono Z4.out (by omega)) (right_le HC2.out)).mono ?_
      rintro e w15 ⟨x_90, x_91, x_92, x_93, rfl, hd95, hb⟩
      rw [← eq94] at hd95
      have Sq94 : Hid (Fz q94 9) := by show Fz q94 9; rw [eq94]; exact (Fz.sub Z4.out Z3.out)
      have Eq94 := Lib.hid eq94; clear eq94
      replace M := Lib.hid (And.intro hd95 (Goes.go M.out hb))
      clear hb hd95
      (try go_wp2_with fail)
      refine hK.out _ _ (⟨(M.out.2.2.2.2.2.2.2.2.2.2.2.2.2.1).at.1 0, (M.out.2.2.2.2.2.2.2.2.2.2.2.2.2.1).at.1 1, (M.out.2.2.2.2.2.2.2.2.2.2.2.2.2.1).at.1 2, (M.out.2.2.2.2.2.2.2.2.2.2.2.2.2.1).at.1 3, (M.out.2.2.2.2.2.2.2.2.2.2.2.2.2.1).at.1 4, (M.out.2.2.2.2.2.2.2.2.2.2.2.2.2.1).at.1 5, (M.out.2.2.2.2.2.2.2.2.2.2.2.2.2.1).at.1 6, (M.out.2.2.2.2.2.2.2.2.2.2.2.2.2.1).at.1 7, (M.out.2.2.2.2.2.2.2.2.2.2.2.2.1).at.1 0, (M.out.2.2.2.2.2.2.2.2.2.2.2.2.1).at.1 1, (M.out.2.2.2.2.2.2.2.2.2.2.2.2.1).at.1 2, (M.out.2.2.2.2.2.2.2.2.2.2.2.2.1).at.1 3, (M.out.2.2.2.2.2.2.2.2.2.2.2.2.1).at.1 4, (M.out.2.2.2.2.2.2.2.2.2.2.2.2.1).at.1 5, (M.out.2.2.2.2.2.2.2.2.2.2.2.2.1).at.1 6, (M.out.2.2.2.2.2.2.2.2.2.2.2.2.1).at.1 7⟩) (fun hH96 => ?_)
      clear hK K hH89
      (try simp only [Act.put, List.setIfInBounds_toArray, List.set_cons_zero, List.set_cons_succ])
      refine wpAnyH_ready (rs := [4]) (by kernel_rfl) (by simp) ?_
      refine AllReadyH.cons at4 (fun K hK => ?_) AllReadyH.nil
      go_simp
      obtain ⟨q101, eq101⟩ : ∃ v_ : Rat, v_ = (q61 + q94) := ⟨_, rfl⟩
      refine (fqAdd (G := G) (q := q61) (r := q94) (M.out.2.2.1) (M.out.1) (Fz.mono Sq61.out (by omega)) (Fz.mono Sq94.out (by omega))).mono ?_
      rintro e w16 ⟨x_97, x_98, x_99, x_100, rfl, hd102, hb⟩
      rw [← eq101] at hd102
      have Sq101 : Hid (Fz q101 19) := by show Fz q101 19; rw [eq101]; exact (Fz.add Sq61.out Sq94.out)
      have Eq101 := Lib.hid eq101; clear eq101
      replace M := Lib.hid (And.intro hd102 (Goes.go M.out hb))
      clear hb hd102
      (try go_wp2_with fail)
      refine hK.out _ _ (⟨(M.out.2.2.2.2.2.2.2.2.2.2.2.2.2.2.1).at.1 0, (M.out.2.2.2.2.2.2.2.2.2.2.2.2.2.2.1).at.1 1, (M.out.2.2.2.2.2.2.2.2.2.2.2.2.2.2.1).at.1 2, (M.out.2.2.2.2.2.2.2.2.2.2.2.2.2.2.1).at.1 3, (M.out.2.2.2.2.2.2.2.2.2.2.2.2.2.2.1).at.1 4, (M.out.2.2.2.2.2.2.2.2.2.2.2.2.2.2.1).at.1 5, (M.out.2.2.2.2.2.2.2.2.2.2.2.2.2.2.1).at.1 6, (M.out.2.2.2.2.2.2.2.2.2.2.2.2.2.2.1).at.1 7, (M.out.2.2.2.2.2.2.2.2.2.2.2.2.2.1).at.1 0, (M.out.2.2.2.2.2.2.2.2.2.2.2.2.2.1).at.1 1, (M.out.2.2.2.2.2.2.2.2.2.2.2.2.2.1).at.1 2, (M.out.2.2.2.2.2.2.2.2.2.2.2.2.2.1).at.1 3, (M.out.2.2.2.2.2.2.2.2.2.2.2.2.2.1).at.1 4, (M.out.2.2.2.2.2.2.2.2.2.2.2.2.2.1).at.1 5, (M.out.2.2.2.2.2.2.2.2.2.2.2.2.2.1).at.1 6, (M.out.2.2.2.2.2.2.2.2.2.2.2.2.2.1).at.1 7⟩) (fun hH103 => ?_)
      clear hK K hH96
      (try simp only [Act.put, List.setIfInBounds_toArray, List.set_cons_zero, List.set_cons_succ])
      refine tk at5 ?_
      refine tk at6 ?_
      refine tk at7 ?_
      refine wpAnyH_ready (rs := [9]) (by kernel_rfl) (by simp) ?_
      refine AllReadyH.cons at9 (fun K hK => ?_) AllReadyH.nil
      have y5 := (M.out.2.2.1).c4; have p5_0 := y5.1; have q5_0 := y5.2.1; have p5_1 := y5.2.2.1; have q5_1 := y5.2.2.2.1; have p5_2 := y5.2.2.2.2.1; have q5_2 := y5.2.2.2.2.2.1; have p5_3 := y5.2.2.2.2.2.2.1; have q5_3 := y5.2.2.2.2.2.2.2; clear y5
      have ys_x_97 := TQ.st (M.out.1); have st_x_97 := ys_x_97.1; have st_x_98 := ys_x_97.2.1; have st_x_99 := ys_x_97.2.2.1; have st_x_100 := ys_x_97.2.2.2; clear ys_x_97
      go_simp
      clear p5_0 q5_0 p5_1 q5_1 p5_2 q5_2 p5_3 q5_3 st_x_97 st_x_98 st_x_99 st_x_100
      obtain ⟨w17, hv⟩ : ∃ w_ : World, w_ = ((((w16.setCell ⟨w13.heap.size, 0, none⟩ (x_97)).setCell ⟨w13.heap.size, 1, none⟩ (x_98)).setCell ⟨w13.heap.size, 2, none⟩ (x_99)).setCell ⟨w13.heap.size, 3, none⟩ (x_100)) := ⟨_, rfl⟩
      rw [← hv]
      have og : w16.grownBy w17 (some w13.heap.size) := by rw [hv]; exact (only_setCell (only_setCell (only_setCell (only_setCell (World.grownBy.refl _ _) _) _) _) _)
      have hz : w.heap.size ≤ w13.heap.size := by omega
      have hk : Bx w17 w13.heap.size 26 #[x_97, x_98, x_99, x_100] := by rw [hv]; exact (((((M.out.2.2.1).set 0 _).set 1 _).set 2 _).set 3 _)
      have hbw : Below w.heap.size w w17 := by rw [hv]; exact (Below.setCell (Below.setCell (Below.setCell (Below.setCell (M.out.2.2.2.2.2.2.2.2.2.2.2.2.2.2.2) (by omega) _) (by omega) _) (by omega) _) (by omega) _)
      replace M := Lib.hid (And.intro ((M.out.1).far (M.out.2.2.1) (by rfl) (by omega) og) (And.intro ((M.out.2.1).far (M.out.2.2.1) (by rfl) (by omega) og) (And.intro hk (And.intro ((M.out.2.2.2.1).far (M.out.2.2.1) (by rfl) (by omega) og) (And.intro ((M.out.2.2.2.2.1).only og (by omega)) (And.intro ((M.out.2.2.2.2.2.1).far (M.out.2.2.1) (by rfl) (by omega) og) (And.intro ((M.out.2.2.2.2.2.2.1).far (M.out.2.2.1) (by rfl) (by omega) og) (And.intro ((M.out.2.2.2.2.2.2.2.1).only og (by omega)) (And.intro ((M.out.2.2.2.2.2.2.2.2.1).far (M.out.2.2.1) (by rfl) (by omega) og) (And.intro ((M.out.2.2.2.2.2.2.2.2.2.1).far (M.out.2.2.1) (by rfl) (by omega) og) (And.intro ((M.out.2.2.2.2.2.2.2.2.2.2.1).only og (by omega)) (And.intro ((M.out.2.2.2.2.2.2.2.2.2.2.2.1).far (M.out.2.2.1) (by rfl) (by omega) og) (And.intro ((M.out.2.2.2.2.2.2.2.2.2.2.2.2.1).far (M.out.2.2.1) (by rfl) (by omega) og) (And.intro ((M.out.2.2.2.2.2.2.2.2.2.2.2.2.2.1).only og (by omega)) (And.intro ((M.out.2.2.2.2.2.2.2.2.2.2.2.2.2.2.1).only og (by omega)) hbw)))))))))))))))
      clear hk hbw og hv hz
      refine hK.out _ _ (⟨(M.out.2.2.2.2.2.2.2.2.2.2.2.2.2.2.1).at.1 0, (M.out.2.2.2.2.2.2.2.2.2.2.2.2.2.2.1).at.1 1, (M.out.2.2.2.2.2.2.2.2.2.2.2.2.2.2.1).at.1 2, (M.out.2.2.2.2.2.2.2.2.2.2.2.2.2.2.1).at.1 3, (M.out.2.2.2.2.2.2.2.2.2.2.2.2.2.2.1).at.1 4, (M.out.2.2.2.2.2.2.2.2.2.2.2.2.2.2.1).at.1 5, (M.out.2.2.2.2.2.2.2.2.2.2.2.2.2.2.1).at.1 6, (M.out.2.2.2.2.2.2.2.2.2.2.2.2.2.2.1).at.1 7, (M.out.2.2.2.2.2.2.2.2.2.2.2.2.2.1).at.1 0, (M.out.2.2.2.2.2.2.2.2.2.2.2.2.2.1).at.1 1, (M.out.2.2.2.2.2.2.2.2.2.2.2.2.2.1).at.1 2, (M.out.2.2.2.2.2.2.2.2.2.2.2.2.2.1).at.1 3, (M.out.2.2.2.2.2.2.2.2.2.2.2.2.2.1).at.1 4, (M.out.2.2.2.2.2.2.2.2.2.2.2.2.2.1).at.1 5, (M.out.2.2.2.2.2.2.2.2.2.2.2.2.2.1).at.1 6, (M.out.2.2.2.2.2.2.2.2.2.2.2.2.2.1).at.1 7⟩) (fun hH104 => ?_)
      clear hK K hH103
      (try simp only [Act.put, List.setIfInBounds_toArray, List.set_cons_zero, List.set_cons_succ])
      refine tk at10 ?_
      refine wpAnyH_done (by kernel_rfl) ?_ _
      clear hH104
      go_wp2_with fail
      go_meet
      exact ⟨w13.heap.size, x_57, x_58, x_59, x_60, q61, x_90, x_91, x_92, x_93, q94, x_97, x_98, x_99, x_100, q101, rfl, rfl, Eq61, Eq94, Eq101, Sq61, Sq94, Sq101, (by omega), (M.out.2.2.1), (M.out.1), (M.out.2.1), (M.out.2.2.2.1), (M.out.2.2.2.2.2.1), (M.out.2.2.2.2.2.2.1), (M.out.2.2.2.2.2.2.2.2.1), (M.out.2.2.2.2.2.2.2.2.2.1), (M.out.2.2.2.2.2.2.2.2.2.2.2.1), (M.out.2.2.2.2.2.2.2.2.2.2.2.2.1), (M.out.2.2.2.2.2.2.2.2.2.2.2.2.2.2.1), (M.out.2.2.2.2.2.2.2.2.2.2.2.2.2.1), (M.out.2.2.2.2.2.2.2.2.2.2.1), (M.out.2.2.2.2.2.2.2.1), (M.out.2.2.2.2.1), (M.out.2.2.2.2.2.2.2.2.2.2.2.2.2.2.2)⟩
    refine AllReadyH.cons at8 (fun K hK => ?_) AllReadyH.nil
    go_simp
    obtain ⟨w13, hv⟩ : ∃ w_ : World, w_ = (w12.alloc (.cells #[.int .i64 0, .slice none 0 0, .int .i64 0, .slice none 0 0] 26)) := ⟨_, rfl⟩
    rw [← hv]
    have ow5_ : w10.heap.size < w12.heap.size := ((M.out.1)).lt
    replace M := Lib.hid (And.intro (hv ▸ bx1 w12 26 #[.int .i64 0, .slice none 0 0, .int .i64 0, .slice none 0 0]) (Goes.go M.out (hv ▸ below_alloc _ _ : Below w12.heap.size w12 w13)))
    clear hv
    refine hK.out _ _ (⟨(M.out.2.2.2.2.2.2.2.2.2.2.2.1).at.1 0, (M.out.2.2.2.2.2.2.2.2.2.2.2.1).at.1 1, (M.out.2.2.2.2.2.2.2.2.2.2.2.1).at.1 2, (M.out.2.2.2.2.2.2.2.2.2.2.2.1).at.1 3, (M.out.2.2.2.2.2.2.2.2.2.2.2.1).at.1 4, (M.out.2.2.2.2.2.2.2.2.2.2.2.1).at.1 5, (M.out.2.2.2.2.2.2.2.2.2.2.2.1).at.1 6, (M.out.2.2.2.2.2.2.2.2.2.2.2.1).at.1 7, (M.out.2.2.2.2.2.2.2.2.2.2.1).at.1 0, (M.out.2.2.2.2.2.2.2.2.2.2.1).at.1 1, (M.out.2.2.2.2.2.2.2.2.2.2.1).at.1 2, (M.out.2.2.2.2.2.2.2.2.2.2.1).at.1 3, (M.out.2.2.2.2.2.2.2.2.2.2.1).at.1 4, (M.out.2.2.2.2.2.2.2.2.2.2.1).at.1 5, (M.out.2.2.2.2.2.2.2.2.2.2.1).at.1 6, (M.out.2.2.2.2.2.2.2.2.2.2.1).at.1 7⟩) (fun hH105 => ?_)
    clear hK K hH56
    (try simp only [Act.put, List.setIfInBounds_toArray, List.set_cons_zero, List.set_cons_succ])
    refine wpAnyH_ready (rs := [1]) (by kernel_rfl) (by simp) ?_
    refine AllReadyH.cons at1 (fun K hK => ?_) AllReadyH.nil
    go_simp
    obtain ⟨q110, eq110⟩ : ∃ v_ : Rat, v_ = (p2 - p1) := ⟨_, rfl⟩
    refine (spWidth_q (G := G) (p := p1) (q := p2) (Nat.le_trans hG (M.out.2.2.2.2.2.2.2.2.2.2.2.2).size) (K1.out.keep (M.out.2.2.2.2.2.2.2.2.2.2.2.2)) (K2.out.keep (M.out.2.2.2.2.2.2.2.2.2.2.2.2)) (Fz.mono Z1.out (by omega)) (Fz.mono Z2.out (by omega)) (right_le HC1.out)).mono ?_
    rintro e w14 ⟨x_106, x_107, x_108, x_109, rfl, hd111, hb⟩
    rw [← eq110] at hd111
    have Sq110 : Hid (Fz q110 9) := by show Fz q110 9; rw [eq110]; exact (Fz.sub Z2.out Z1.out)
    have Eq110 := Lib.hid eq110; clear eq110
    replace M := Lib.hid (And.intro hd111 (Goes.go M.out hb))
    clear hb hd111
    (try go_wp2_with fail)
    refine hK.out _ _ (⟨(M.out.2.2.2.2.2.2.2.2.2.2.2.2.1).at.1 0, (M.out.2.2.2.2.2.2.2.2.2.2.2.2.1).at.1 1, (M.out.2.2.2.2.2.2.2.2.2.2.2.2.1).at.1 2, (M.out.2.2.2.2.2.2.2.2.2.2.2.2.1).at.1 3, (M.out.2.2.2.2.2.2.2.2.2.2.2.2.1).at.1 4, (M.out.2.2.2.2.2.2.2.2.2.2.2.2.1).at.1 5, (M.out.2.2.2.2.2.2.2.2.2.2.2.2.1).at.1 6, (M.out.2.2.2.2.2.2.2.2.2.2.2.2.1).at.1 7, (M.out.2.2.2.2.2.2.2.2.2.2.2.1).at.1 0, (M.out.2.2.2.2.2.2.2.2.2.2.2.1).at.1 1, (M.out.2.2.2.2.2.2.2.2.2.2.2.1).at.1 2, (M.out.2.2.2.2.2.2.2.2.2.2.2.1).at.1 3, (M.out.2.2.2.2.2.2.2.2.2.2.2.1).at.1 4, (M.out.2.2.2.2.2.2.2.2.2.2.2.1).at.1 5, (M.out.2.2.2.2.2.2.2.2.2.2.2.1).at.1 6, (M.out.2.2.2.2.2.2.2.2.2.2.2.1).at.1 7⟩) (fun hH112 => ?_)
    clear hK K hH105
    (try simp only [Act.put, List.setIfInBounds_toArray, List.set_cons_zero, List.set_cons_succ])
    refine wpAnyH_ready (rs := [3]) (by kernel_rfl) (by simp) ?_
    refine AllReadyH.cons at3 (fun K hK => ?_) AllReadyH.nil
    go_simp
    obtain ⟨q117, eq117⟩ : ∃ v_ : Rat, v_ = (r2 - r1) := ⟨_, rfl⟩
    refine (spWidth_q (G := G) (p := r1) (q := r2) (Nat.le_trans hG (M.out.2.2.2.2.2.2.2.2.2.2.2.2.2).size) (K3.out.keep (M.out.2.2.2.2.2.2.2.2.2.2.2.2.2)) (K4.out.keep (M.out.2.2.2.2.2.2.2.2.2.2.2.2.2)) (Fz.mono Z3.out (by omega)) (Fz.mono Z4.out (by omega)) (right_le HC2.out)).mono ?_
    rintro e w15 ⟨x_113, x_114, x_115, x_116, rfl, hd118, hb⟩
    rw [← eq117] at hd118
    have Sq117 : Hid (Fz q117 9) := by show Fz q117 9; rw [eq117]; exact (Fz.sub Z4.out Z3.out)
    have Eq117 := Lib.hid eq117; clear eq117
    replace M := Lib.hid (And.intro hd118 (Goes.go M.out hb))
    clear hb hd118
    (try go_wp2_with fail)
    refine hK.out _ _ (⟨(M.out.2.2.2.2.2.2.2.2.2.2.2.2.2.1).at.1 0, (M.out.2.2.2.2.2.2.2.2.2.2.2.2.2.1).at.1 1, (M.out.2.2.2.2.2.2.2.2.2.2.2.2.2.1).at.1 2, (M.out.2.2.2.2.2.2.2.2.2.2.2.2.2.1).at.1 3, (M.out.2.2.2.2.2.2.2.2.2.2.2.2.2.1).at.1 4, (M.out.2.2.2.2.2.2.2.2.2.2.2.2.2.1).at.1 5, (M.out.2.2.2.2.2.2.2.2.2.2.2.2.2.1).at.1 6, (M.out.2.2.2.2.2.2.2.2.2.2.2.2.2.1).at.1 7, (M.out.2.2.2.2.2.2.2.2.2.2.2.2.1).at.1 0, (M.out.2.2.2.2.2.2.2.2.2.2.2.2.1).at.1 1, (M.out.2.2.2.2.2.2.2.2.2.2.2.2.1).at.1 2, (M.out.2.2.2.2.2.2.2.2.2.2.2.2.1).at.1 3, (M.out.2.2.2.2.2.2.2.2.2.2.2.2.1).at.1 4, (M.out.2.2.2.2.2.2.2.2.2.2.2.2.1).at.1 5, (M.out.2.2.2.2.2.2.2.2.2.2.2.2.1).at.1 6, (M.out.2.2.2.2.2.2.2.2.2.2.2.2.1).at.1 7⟩) (fun hH119 => ?_)
    clear hK K hH112
    (try simp only [Act.put, List.setIfInBounds_toArray, List.set_cons_zero, List.set_cons_succ])
    refine wpAnyH_ready (rs := [4]) (by kernel_rfl) (by simp) ?_
    refine AllReadyH.cons at4 (fun K hK => ?_) AllReadyH.nil
    go_simp
    obtain ⟨q124, eq124⟩ : ∃ v_ : Rat, v_ = (q110 + q117) := ⟨_, rfl⟩
    refine (fqAdd (G := G) (q := q110) (r := q117) (M.out.2.1) (M.out.1) (Fz.mono Sq110.out (by omega)) (Fz.mono Sq117.out (by omega))).mono ?_
    rintro e w16 ⟨x_120, x_121, x_122, x_123, rfl, hd125, hb⟩
    rw [← eq124] at hd125
    have Sq124 : Hid (Fz q124 19) := by show Fz q124 19; rw [eq124]; exact (Fz.add Sq110.out Sq117.out)
    have Eq124 := Lib.hid eq124; clear eq124
    replace M := Lib.hid (And.intro hd125 (Goes.go M.out hb))
    clear hb hd125
    (try go_wp2_with fail)
    refine hK.out _ _ (⟨(M.out.2.2.2.2.2.2.2.2.2.2.2.2.2.2.1).at.1 0, (M.out.2.2.2.2.2.2.2.2.2.2.2.2.2.2.1).at.1 1, (M.out.2.2.2.2.2.2.2.2.2.2.2.2.2.2.1).at.1 2, (M.out.2.2.2.2.2.2.2.2.2.2.2.2.2.2.1).at.1 3, (M.out.2.2.2.2.2.2.2.2.2.2.2.2.2.2.1).at.1 4, (M.out.2.2.2.2.2.2.2.2.2.2.2.2.2.2.1).at.1 5, (M.out.2.2.2.2.2.2.2.2.2.2.2.2.2.2.1).at.1 6, (M.out.2.2.2.2.2.2.2.2.2.2.2.2.2.2.1).at.1 7, (M.out.2.2.2.2.2.2.2.2.2.2.2.2.2.1).at.1 0, (M.out.2.2.2.2.2.2.2.2.2.2.2.2.2.1).at.1 1, (M.out.2.2.2.2.2.2.2.2.2.2.2.2.2.1).at.1 2, (M.out.2.2.2.2.2.2.2.2.2.2.2.2.2.1).at.1 3, (M.out.2.2.2.2.2.2.2.2.2.2.2.2.2.1).at.1 4, (M.out.2.2.2.2.2.2.2.2.2.2.2.2.2.1).at.1 5, (M.out.2.2.2.2.2.2.2.2.2.2.2.2.2.1).at.1 6, (M.out.2.2.2.2.2.2.2.2.2.2.2.2.2.1).at.1 7⟩) (fun hH126 => ?_)
    clear hK K hH119
    (try simp only [Act.put, List.setIfInBounds_toArray, List.set_cons_zero, List.set_cons_succ])
    refine tk at5 ?_
    refine tk at6 ?_
    refine tk at7 ?_
    refine wpAnyH_ready (rs := [9]) (by kernel_rfl) (by simp) ?_
    refine AllReadyH.cons at9 (fun K hK => ?_) AllReadyH.nil
    have y5 := (M.out.2.2.2.1).c4; have p5_0 := y5.1; have q5_0 := y5.2.1; have p5_1 := y5.2.2.1; have q5_1 := y5.2.2.2.1; have p5_2 := y5.2.2.2.2.1; have q5_2 := y5.2.2.2.2.2.1; have p5_3 := y5.2.2.2.2.2.2.1; have q5_3 := y5.2.2.2.2.2.2.2; clear y5
    have ys_x_120 := TQ.st (M.out.1); have st_x_120 := ys_x_120.1; have st_x_121 := ys_x_120.2.1; have st_x_122 := ys_x_120.2.2.1; have st_x_123 := ys_x_120.2.2.2; clear ys_x_120
    go_simp
    clear p5_0 q5_0 p5_1 q5_1 p5_2 q5_2 p5_3 q5_3 st_x_120 st_x_121 st_x_122 st_x_123
    obtain ⟨w17, hv⟩ : ∃ w_ : World, w_ = ((((w16.setCell ⟨w12.heap.size, 0, none⟩ (x_120)).setCell ⟨w12.heap.size, 1, none⟩ (x_121)).setCell ⟨w12.heap.size, 2, none⟩ (x_122)).setCell ⟨w12.heap.size, 3, none⟩ (x_123)) := ⟨_, rfl⟩
    rw [← hv]
    have og : w16.grownBy w17 (some w12.heap.size) := by rw [hv]; exact (only_setCell (only_setCell (only_setCell (only_setCell (World.grownBy.refl _ _) _) _) _) _)
    have hz : w.heap.size ≤ w12.heap.size := by omega
    have hk : Bx w17 w12.heap.size 26 #[x_120, x_121, x_122, x_123] := by rw [hv]; exact (((((M.out.2.2.2.1).set 0 _).set 1 _).set 2 _).set 3 _)
    have hbw : Below w.heap.size w w17 := by rw [hv]; exact (Below.setCell (Below.setCell (Below.setCell (Below.setCell (M.out.2.2.2.2.2.2.2.2.2.2.2.2.2.2.2) (by omega) _) (by omega) _) (by omega) _) (by omega) _)
    replace M := Lib.hid (And.intro ((M.out.1).far (M.out.2.2.2.1) (by rfl) (by omega) og) (And.intro ((M.out.2.1).far (M.out.2.2.2.1) (by rfl) (by omega) og) (And.intro ((M.out.2.2.1).far (M.out.2.2.2.1) (by rfl) (by omega) og) (And.intro hk (And.intro ((M.out.2.2.2.2.1).only og (by omega)) (And.intro ((M.out.2.2.2.2.2.1).far (M.out.2.2.2.1) (by rfl) (by omega) og) (And.intro ((M.out.2.2.2.2.2.2.1).far (M.out.2.2.2.1) (by rfl) (by omega) og) (And.intro ((M.out.2.2.2.2.2.2.2.1).only og (by omega)) (And.intro ((M.out.2.2.2.2.2.2.2.2.1).far (M.out.2.2.2.1) (by rfl) (by omega) og) (And.intro ((M.out.2.2.2.2.2.2.2.2.2.1).far (M.out.2.2.2.1) (by rfl) (by omega) og) (And.intro ((M.out.2.2.2.2.2.2.2.2.2.2.1).only og (by omega)) (And.intro ((M.out.2.2.2.2.2.2.2.2.2.2.2.1).far (M.out.2.2.2.1) (by rfl) (by omega) og) (And.intro ((M.out.2.2.2.2.2.2.2.2.2.2.2.2.1).far (M.out.2.2.2.1) (by rfl) (by omega) og) (And.intro ((M.out.2.2.2.2.2.2.2.2.2.2.2.2.2.1).only og (by omega)) (And.intro ((M.out.2.2.2.2.2.2.2.2.2.2.2.2.2.2.1).only og (by omega)) hbw)))))))))))))))
    clear hk hbw og hv hz
    refine hK.out _ _ (⟨(M.out.2.2.2.2.2.2.2.2.2.2.2.2.2.2.1).at.1 0, (M.out.2.2.2.2.2.2.2.2.2.2.2.2.2.2.1).at.1 1, (M.out.2.2.2.2.2.2.2.2.2.2.2.2.2.2.1).at.1 2, (M.out.2.2.2.2.2.2.2.2.2.2.2.2.2.2.1).at.1 3, (M.out.2.2.2.2.2.2.2.2.2.2.2.2.2.2.1).at.1 4, (M.out.2.2.2.2.2.2.2.2.2.2.2.2.2.2.1).at.1 5, (M.out.2.2.2.2.2.2.2.2.2.2.2.2.2.2.1).at.1 6, (M.out.2.2.2.2.2.2.2.2.2.2.2.2.2.2.1).at.1 7, (M.out.2.2.2.2.2.2.2.2.2.2.2.2.2.1).at.1 0, (M.out.2.2.2.2.2.2.2.2.2.2.2.2.2.1).at.1 1, (M.out.2.2.2.2.2.2.2.2.2.2.2.2.2.1).at.1 2, (M.out.2.2.2.2.2.2.2.2.2.2.2.2.2.1).at.1 3, (M.out.2.2.2.2.2.2.2.2.2.2.2.2.2.1).at.1 4, (M.out.2.2.2.2.2.2.2.2.2.2.2.2.2.1).at.1 5, (M.out.2.2.2.2.2.2.2.2.2.2.2.2.2.1).at.1 6, (M.out.2.2.2.2.2.2.2.2.2.2.2.2.2.1).at.1 7⟩) (fun hH127 => ?_)
    clear hK K hH126
    (try simp only [Act.put, List.setIfInBounds_toArray, List.set_cons_zero, List.set_cons_succ])
    refine tk at10 ?_
    refine wpAnyH_done (by kernel_rfl) ?_ _
    clear hH127
    go_wp2_with fail
    go_meet
    exact ⟨w12.heap.size, x_106, x_107, x_108, x_109, q110, x_113, x_114, x_115, x_116, q117, x_120, x_121, x_122, x_123, q124, rfl, rfl, Eq110, Eq117, Eq124, Sq110, Sq117, Sq124, (by omega), (M.out.2.2.2.1), (M.out.1), (M.out.2.1), (M.out.2.2.1), (M.out.2.2.2.2.2.1), (M.out.2.2.2.2.2.2.1), (M.out.2.2.2.2.2.2.2.2.1), (M.out.2.2.2.2.2.2.2.2.2.1), (M.out.2.2.2.2.2.2.2.2.2.2.2.1), (M.out.2.2.2.2.2.2.2.2.2.2.2.2.1), (M.out.2.2.2.2.2.2.2.2.2.2.2.2.2.2.1), (M.out.2.2.2.2.2.2.2.2.2.2.2.2.2.1), (M.out.2.2.2.2.2.2.2.2.2.2.1), (M.out.2.2.2.2.2.2.2.1), (M.out.2.2.2.2.1), (M.out.2.2.2.2.2.2.2.2.2.2.2.2.2.2.2)⟩
  case rest =>
    obtain ⟨A55, x_37, x_38, x_39, x_40, q41, x_43, x_44, x_45, x_46, q47, x_49, x_50, x_51, x_52, q53, rfl, rfl, Eq41, Eq47, Eq53, Sq41, Sq47, Sq53, oA55, M⟩ := hcut
    obtain ⟨w12, rfl⟩ : ∃ w_ : World, w_ = wc := ⟨_, rfl⟩
    go_wp2_with fail
    replace M := Lib.hid (And.intro (M.out.1) (And.intro (M.out.2.1) (And.intro (M.out.2.2.2.2.1) (And.intro (M.out.2.2.2.2.2.1) (And.intro (M.out.2.2.2.2.2.2.1) (And.intro (M.out.2.2.2.2.2.2.2.1) (And.intro (M.out.2.2.2.2.2.2.2.2.1) (And.intro (M.out.2.2.2.2.2.2.2.2.2.1) (And.intro (M.out.2.2.2.2.2.2.2.2.2.2.1) (And.intro (M.out.2.2.2.2.2.2.2.2.2.2.2.1) (And.intro (M.out.2.2.2.2.2.2.2.2.2.2.2.2.1) (And.intro (M.out.2.2.2.2.2.2.2.2.2.2.2.2.2.1) (And.intro (M.out.2.2.2.2.2.2.2.2.2.2.2.2.2.2.1) (M.out.2.2.2.2.2.2.2.2.2.2.2.2.2.2.2))))))))))))))
    obtain ⟨w13, hv⟩ : ∃ w_ : World, w_ = w12.drew := ⟨_, rfl⟩
    replace M := Lib.hid (Goes.go M.out (hv ▸ below_drew _ : Below w12.heap.size w12 w13))
    refine wp_region_held_drew (S := (fun w' => w'.cell? ⟨w.heap.size, 0, none⟩ = some (u0) ∧ w'.cell? ⟨w.heap.size, 1, none⟩ = some (u1) ∧ w'.cell? ⟨w.heap.size, 2, none⟩ = some (u2) ∧ w'.cell? ⟨w.heap.size, 3, none⟩ = some (u3) ∧ w'.cell? ⟨w.heap.size, 4, none⟩ = some (u4) ∧ w'.cell? ⟨w.heap.size, 5, none⟩ = some (u5) ∧ w'.cell? ⟨w.heap.size, 6, none⟩ = some (u6) ∧ w'.cell? ⟨w.heap.size, 7, none⟩ = some (u7) ∧ w'.cell? ⟨w6.heap.size, 0, none⟩ = some (x_1) ∧ w'.cell? ⟨w6.heap.size, 1, none⟩ = some (x_2) ∧ w'.cell? ⟨w6.heap.size, 2, none⟩ = some (x_3) ∧ w'.cell? ⟨w6.heap.size, 3, none⟩ = some (x_4) ∧ w'.cell? ⟨w6.heap.size, 4, none⟩ = some (x_5) ∧ w'.cell? ⟨w6.heap.size, 5, none⟩ = some (x_6) ∧ w'.cell? ⟨w6.heap.size, 6, none⟩ = some (x_7) ∧ w'.cell? ⟨w6.heap.size, 7, none⟩ = some (x_8) ∧ w'.cell? ⟨w8.heap.size, 0, none⟩ = some (x_13) ∧ w'.cell? ⟨w8.heap.size, 1, none⟩ = some (x_14) ∧ w'.cell? ⟨w8.heap.size, 2, none⟩ = some (x_15) ∧ w'.cell? ⟨w8.heap.size, 3, none⟩ = some (x_16) ∧ w'.cell? ⟨w8.heap.size, 4, none⟩ = some (x_17) ∧ w'.cell? ⟨w8.heap.size, 5, none⟩ = some (x_18) ∧ w'.cell? ⟨w8.heap.size, 6, none⟩ = some (x_19) ∧ w'.cell? ⟨w8.heap.size, 7, none⟩ = some (x_20) ∧ w'.cell? ⟨w10.heap.size, 0, none⟩ = some (x_25) ∧ w'.cell? ⟨w10.heap.size, 1, none⟩ = some (x_26) ∧ w'.cell? ⟨w10.heap.size, 2, none⟩ = some (x_27) ∧ w'.cell? ⟨w10.heap.size, 3, none⟩ = some (x_28) ∧ w'.cell? ⟨w10.heap.size, 4, none⟩ = some (x_29) ∧ w'.cell? ⟨w10.heap.size, 5, none⟩ = some (x_30) ∧ w'.cell? ⟨w10.heap.size, 6, none⟩ = some (x_31) ∧ w'.cell? ⟨w10.heap.size, 7, none⟩ = some (x_32) ∧ w'.cell? ⟨A55, 0, none⟩ = some (x_49) ∧ w'.cell? ⟨A55, 1, none⟩ = some (x_50) ∧ w'.cell? ⟨A55, 2, none⟩ = some (x_51) ∧ w'.cell? ⟨A55, 3, none⟩ = some (x_52))) (by kernel_rfl) (by rw [← hv]; exact ⟨(M.out.2.2.2.2.2.2.2.2.1).at.1 0, (M.out.2.2.2.2.2.2.2.2.1).at.1 1, (M.out.2.2.2.2.2.2.2.2.1).at.1 2, (M.out.2.2.2.2.2.2.2.2.1).at.1 3, (M.out.2.2.2.2.2.2.2.2.1).at.1 4, (M.out.2.2.2.2.2.2.2.2.1).at.1 5, (M.out.2.2.2.2.2.2.2.2.1).at.1 6, (M.out.2.2.2.2.2.2.2.2.1).at.1 7, (M.out.2.2.2.2.2.2.2.2.2.2.1).at.1 0, (M.out.2.2.2.2.2.2.2.2.2.2.1).at.1 1, (M.out.2.2.2.2.2.2.2.2.2.2.1).at.1 2, (M.out.2.2.2.2.2.2.2.2.2.2.1).at.1 3, (M.out.2.2.2.2.2.2.2.2.2.2.1).at.1 4, (M.out.2.2.2.2.2.2.2.2.2.2.1).at.1 5, (M.out.2.2.2.2.2.2.2.2.2.2.1).at.1 6, (M.out.2.2.2.2.2.2.2.2.2.2.1).at.1 7, (M.out.2.2.2.2.2.2.2.2.2.2.2.1).at.1 0, (M.out.2.2.2.2.2.2.2.2.2.2.2.1).at.1 1, (M.out.2.2.2.2.2.2.2.2.2.2.2.1).at.1 2, (M.out.2.2.2.2.2.2.2.2.2.2.2.1).at.1 3, (M.out.2.2.2.2.2.2.2.2.2.2.2.1).at.1 4, (M.out.2.2.2.2.2.2.2.2.2.2.2.1).at.1 5, (M.out.2.2.2.2.2.2.2.2.2.2.2.1).at.1 6, (M.out.2.2.2.2.2.2.2.2.2.2.2.1).at.1 7, (M.out.2.2.2.2.2.2.2.2.2.2.2.2.1).at.1 0, (M.out.2.2.2.2.2.2.2.2.2.2.2.2.1).at.1 1, (M.out.2.2.2.2.2.2.2.2.2.2.2.2.1).at.1 2, (M.out.2.2.2.2.2.2.2.2.2.2.2.2.1).at.1 3, (M.out.2.2.2.2.2.2.2.2.2.2.2.2.1).at.1 4, (M.out.2.2.2.2.2.2.2.2.2.2.2.2.1).at.1 5, (M.out.2.2.2.2.2.2.2.2.2.2.2.2.1).at.1 6, (M.out.2.2.2.2.2.2.2.2.2.2.2.2.1).at.1 7, (M.out.1).at.1 0, (M.out.1).at.1 1, (M.out.1).at.1 2, (M.out.1).at.1 3⟩) (fun hH140 => ?_)
    rw [← hv] at hH140 ⊢
    clear hv
    refine tk at0 ?_
    refine tk at1 ?_
    refine tk at2 ?_
    refine tk at3 ?_
    refine tk at4 ?_
    refine tk at5 ?_
    refine tk at6 ?_
    refine tk at7 ?_
    refine tk at8 ?_
    refine tk at9 ?_
    refine tk at10 ?_
    refine tk at11 ?_
    refine tk at12 ?_
    refine tk at13 ?_
    refine tk at14 ?_
    refine tk at15 ?_
    refine tk at17 ?_
    refine wpAnyH_ready (rs := [16]) (by kernel_rfl) (by simp) ?_
    refine AllReadyH.cons at16 (fun K hK => ?_) AllReadyH.nil
    go_simp
    obtain ⟨q145, eq145⟩ : ∃ v_ : Rat, v_ = (q10 - q9) := ⟨_, rfl⟩
    refine (spWidth_q (G := G) (p := q9) (q := q10) (Nat.le_trans hG (M.out.2.2.2.2.2.2.2.2.2.2.2.2.2).size) (M.out.2.2.2.2.2.2.1) (M.out.2.2.2.2.2.2.2.1) (Fz.mono Sq9.out (by omega)) (Fz.mono Sq10.out (by omega)) (by rw [Eq10.out, Eq9.out]; have h1_ := right_le HC1.out; have h2_ := right_le HC2.out; grind)).mono ?_
    rintro e w14 ⟨x_141, x_142, x_143, x_144, rfl, hd146, hb⟩
    rw [← eq145] at hd146
    have Sq145 : Hid (Fz q145 19) := by show Fz q145 19; rw [eq145]; exact (Fz.sub Sq10.out Sq9.out)
    have Eq145 := Lib.hid eq145; clear eq145
    replace M := Lib.hid (And.intro hd146 (Goes.go M.out hb))
    clear hb hd146
    (try go_wp2_with fail)
    refine hK.out _ _ (⟨(M.out.2.2.2.2.2.2.2.2.2.1).at.1 0, (M.out.2.2.2.2.2.2.2.2.2.1).at.1 1, (M.out.2.2.2.2.2.2.2.2.2.1).at.1 2, (M.out.2.2.2.2.2.2.2.2.2.1).at.1 3, (M.out.2.2.2.2.2.2.2.2.2.1).at.1 4, (M.out.2.2.2.2.2.2.2.2.2.1).at.1 5, (M.out.2.2.2.2.2.2.2.2.2.1).at.1 6, (M.out.2.2.2.2.2.2.2.2.2.1).at.1 7, (M.out.2.2.2.2.2.2.2.2.2.2.2.1).at.1 0, (M.out.2.2.2.2.2.2.2.2.2.2.2.1).at.1 1, (M.out.2.2.2.2.2.2.2.2.2.2.2.1).at.1 2, (M.out.2.2.2.2.2.2.2.2.2.2.2.1).at.1 3, (M.out.2.2.2.2.2.2.2.2.2.2.2.1).at.1 4, (M.out.2.2.2.2.2.2.2.2.2.2.2.1).at.1 5, (M.out.2.2.2.2.2.2.2.2.2.2.2.1).at.1 6, (M.out.2.2.2.2.2.2.2.2.2.2.2.1).at.1 7, (M.out.2.2.2.2.2.2.2.2.2.2.2.2.1).at.1 0, (M.out.2.2.2.2.2.2.2.2.2.2.2.2.1).at.1 1, (M.out.2.2.2.2.2.2.2.2.2.2.2.2.1).at.1 2, (M.out.2.2.2.2.2.2.2.2.2.2.2.2.1).at.1 3, (M.out.2.2.2.2.2.2.2.2.2.2.2.2.1).at.1 4, (M.out.2.2.2.2.2.2.2.2.2.2.2.2.1).at.1 5, (M.out.2.2.2.2.2.2.2.2.2.2.2.2.1).at.1 6, (M.out.2.2.2.2.2.2.2.2.2.2.2.2.1).at.1 7, (M.out.2.2.2.2.2.2.2.2.2.2.2.2.2.1).at.1 0, (M.out.2.2.2.2.2.2.2.2.2.2.2.2.2.1).at.1 1, (M.out.2.2.2.2.2.2.2.2.2.2.2.2.2.1).at.1 2, (M.out.2.2.2.2.2.2.2.2.2.2.2.2.2.1).at.1 3, (M.out.2.2.2.2.2.2.2.2.2.2.2.2.2.1).at.1 4, (M.out.2.2.2.2.2.2.2.2.2.2.2.2.2.1).at.1 5, (M.out.2.2.2.2.2.2.2.2.2.2.2.2.2.1).at.1 6, (M.out.2.2.2.2.2.2.2.2.2.2.2.2.2.1).at.1 7, (M.out.2.1).at.1 0, (M.out.2.1).at.1 1, (M.out.2.1).at.1 2, (M.out.2.1).at.1 3⟩) (fun hH147 => ?_)
    clear hK K hH140
    (try simp only [Act.put, List.setIfInBounds_toArray, List.set_cons_zero, List.set_cons_succ])
    refine wpAnyH_ready (rs := [18]) (by kernel_rfl) (by simp) ?_
    refine AllReadyH.cons at18 (fun K hK => ?_) AllReadyH.nil
    go_simp
    refine (rfsame_qq (G := G) (q := q145) (r := q53) (M.out.1) (M.out.2.2.1) (Fz.mono Sq145.out (by omega)) (by rw [Eq145.out, Eq53.out, Eq47.out, Eq41.out, Eq10.out, Eq9.out]; grind)).mono ?_
    rintro e w15 ⟨rfl, hb⟩
    replace M := Lib.hid (Goes.go M.out hb)
    clear hb
    (try go_wp2_with fail)
    refine hK.out _ _ (⟨(M.out.2.2.2.2.2.2.2.2.2.1).at.1 0, (M.out.2.2.2.2.2.2.2.2.2.1).at.1 1, (M.out.2.2.2.2.2.2.2.2.2.1).at.1 2, (M.out.2.2.2.2.2.2.2.2.2.1).at.1 3, (M.out.2.2.2.2.2.2.2.2.2.1).at.1 4, (M.out.2.2.2.2.2.2.2.2.2.1).at.1 5, (M.out.2.2.2.2.2.2.2.2.2.1).at.1 6, (M.out.2.2.2.2.2.2.2.2.2.1).at.1 7, (M.out.2.2.2.2.2.2.2.2.2.2.2.1).at.1 0, (M.out.2.2.2.2.2.2.2.2.2.2.2.1).at.1 1, (M.out.2.2.2.2.2.2.2.2.2.2.2.1).at.1 2, (M.out.2.2.2.2.2.2.2.2.2.2.2.1).at.1 3, (M.out.2.2.2.2.2.2.2.2.2.2.2.1).at.1 4, (M.out.2.2.2.2.2.2.2.2.2.2.2.1).at.1 5, (M.out.2.2.2.2.2.2.2.2.2.2.2.1).at.1 6, (M.out.2.2.2.2.2.2.2.2.2.2.2.1).at.1 7, (M.out.2.2.2.2.2.2.2.2.2.2.2.2.1).at.1 0, (M.out.2.2.2.2.2.2.2.2.2.2.2.2.1).at.1 1, (M.out.2.2.2.2.2.2.2.2.2.2.2.2.1).at.1 2, (M.out.2.2.2.2.2.2.2.2.2.2.2.2.1).at.1 3, (M.out.2.2.2.2.2.2.2.2.2.2.2.2.1).at.1 4, (M.out.2.2.2.2.2.2.2.2.2.2.2.2.1).at.1 5, (M.out.2.2.2.2.2.2.2.2.2.2.2.2.1).at.1 6, (M.out.2.2.2.2.2.2.2.2.2.2.2.2.1).at.1 7, (M.out.2.2.2.2.2.2.2.2.2.2.2.2.2.1).at.1 0, (M.out.2.2.2.2.2.2.2.2.2.2.2.2.2.1).at.1 1, (M.out.2.2.2.2.2.2.2.2.2.2.2.2.2.1).at.1 2, (M.out.2.2.2.2.2.2.2.2.2.2.2.2.2.1).at.1 3, (M.out.2.2.2.2.2.2.2.2.2.2.2.2.2.1).at.1 4, (M.out.2.2.2.2.2.2.2.2.2.2.2.2.2.1).at.1 5, (M.out.2.2.2.2.2.2.2.2.2.2.2.2.2.1).at.1 6, (M.out.2.2.2.2.2.2.2.2.2.2.2.2.2.1).at.1 7, (M.out.2.1).at.1 0, (M.out.2.1).at.1 1, (M.out.2.1).at.1 2, (M.out.2.1).at.1 3⟩) (fun hH148 => ?_)
    clear hK K hH147
    (try simp only [Act.put, List.setIfInBounds_toArray, List.set_cons_zero, List.set_cons_succ])
    refine tk at19 ?_
    refine tk at20 ?_
    refine tk at21 ?_
    refine tk at22 ?_
    refine tk at24 ?_
    refine wpAnyH_ready (rs := [23]) (by kernel_rfl) (by simp) ?_
    refine AllReadyH.cons at23 (fun K hK => ?_) AllReadyH.nil
    go_simp
    obtain ⟨q153, eq153⟩ : ∃ v_ : Rat, v_ = (q22 - q21) := ⟨_, rfl⟩
    refine (spWidth_q (G := G) (p := q21) (q := q22) (Nat.le_trans hG (M.out.2.2.2.2.2.2.2.2.2.2.2.2.2.2).size) (M.out.2.2.2.2.2.1) (M.out.2.2.2.2.2.2.1) (Fz.mono Sq21.out (by omega)) (Fz.mono Sq22.out (by omega)) (by rw [Eq22.out, Eq21.out]; have h1_ := right_le HC1.out; have h2_ := right_le HC2.out; grind)).mono ?_
    rintro e w16 ⟨x_149, x_150, x_151, x_152, rfl, hd154, hb⟩
    rw [← eq153] at hd154
    have Sq153 : Hid (Fz q153 19) := by show Fz q153 19; rw [eq153]; exact (Fz.sub Sq22.out Sq21.out)
    have Eq153 := Lib.hid eq153; clear eq153
    replace M := Lib.hid (And.intro hd154 (Goes.go M.out hb))
    clear hb hd154
    (try go_wp2_with fail)
    refine hK.out _ _ (⟨(M.out.2.2.2.2.2.2.2.2.2.2.1).at.1 0, (M.out.2.2.2.2.2.2.2.2.2.2.1).at.1 1, (M.out.2.2.2.2.2.2.2.2.2.2.1).at.1 2, (M.out.2.2.2.2.2.2.2.2.2.2.1).at.1 3, (M.out.2.2.2.2.2.2.2.2.2.2.1).at.1 4, (M.out.2.2.2.2.2.2.2.2.2.2.1).at.1 5, (M.out.2.2.2.2.2.2.2.2.2.2.1).at.1 6, (M.out.2.2.2.2.2.2.2.2.2.2.1).at.1 7, (M.out.2.2.2.2.2.2.2.2.2.2.2.2.1).at.1 0, (M.out.2.2.2.2.2.2.2.2.2.2.2.2.1).at.1 1, (M.out.2.2.2.2.2.2.2.2.2.2.2.2.1).at.1 2, (M.out.2.2.2.2.2.2.2.2.2.2.2.2.1).at.1 3, (M.out.2.2.2.2.2.2.2.2.2.2.2.2.1).at.1 4, (M.out.2.2.2.2.2.2.2.2.2.2.2.2.1).at.1 5, (M.out.2.2.2.2.2.2.2.2.2.2.2.2.1).at.1 6, (M.out.2.2.2.2.2.2.2.2.2.2.2.2.1).at.1 7, (M.out.2.2.2.2.2.2.2.2.2.2.2.2.2.1).at.1 0, (M.out.2.2.2.2.2.2.2.2.2.2.2.2.2.1).at.1 1, (M.out.2.2.2.2.2.2.2.2.2.2.2.2.2.1).at.1 2, (M.out.2.2.2.2.2.2.2.2.2.2.2.2.2.1).at.1 3, (M.out.2.2.2.2.2.2.2.2.2.2.2.2.2.1).at.1 4, (M.out.2.2.2.2.2.2.2.2.2.2.2.2.2.1).at.1 5, (M.out.2.2.2.2.2.2.2.2.2.2.2.2.2.1).at.1 6, (M.out.2.2.2.2.2.2.2.2.2.2.2.2.2.1).at.1 7, (M.out.2.2.2.2.2.2.2.2.2.2.2.2.2.2.1).at.1 0, (M.out.2.2.2.2.2.2.2.2.2.2.2.2.2.2.1).at.1 1, (M.out.2.2.2.2.2.2.2.2.2.2.2.2.2.2.1).at.1 2, (M.out.2.2.2.2.2.2.2.2.2.2.2.2.2.2.1).at.1 3, (M.out.2.2.2.2.2.2.2.2.2.2.2.2.2.2.1).at.1 4, (M.out.2.2.2.2.2.2.2.2.2.2.2.2.2.2.1).at.1 5, (M.out.2.2.2.2.2.2.2.2.2.2.2.2.2.2.1).at.1 6, (M.out.2.2.2.2.2.2.2.2.2.2.2.2.2.2.1).at.1 7, (M.out.2.2.1).at.1 0, (M.out.2.2.1).at.1 1, (M.out.2.2.1).at.1 2, (M.out.2.2.1).at.1 3⟩) (fun hH155 => ?_)
    clear hK K hH148
    (try simp only [Act.put, List.setIfInBounds_toArray, List.set_cons_zero, List.set_cons_succ])
    refine wpAnyH_ready (rs := [25]) (by kernel_rfl) (by simp) ?_
    refine AllReadyH.cons at25 (fun K hK => ?_) AllReadyH.nil
    go_simp
    refine (rfsame_qq (G := G) (q := q153) (r := q53) (M.out.1) (M.out.2.2.2.1) (Fz.mono Sq153.out (by omega)) (by rw [Eq153.out, Eq53.out, Eq47.out, Eq41.out, Eq22.out, Eq21.out]; grind)).mono ?_
    rintro e w17 ⟨rfl, hb⟩
    replace M := Lib.hid (Goes.go M.out hb)
    clear hb
    (try go_wp2_with fail)
    refine hK.out _ _ (⟨(M.out.2.2.2.2.2.2.2.2.2.2.1).at.1 0, (M.out.2.2.2.2.2.2.2.2.2.2.1).at.1 1, (M.out.2.2.2.2.2.2.2.2.2.2.1).at.1 2, (M.out.2.2.2.2.2.2.2.2.2.2.1).at.1 3, (M.out.2.2.2.2.2.2.2.2.2.2.1).at.1 4, (M.out.2.2.2.2.2.2.2.2.2.2.1).at.1 5, (M.out.2.2.2.2.2.2.2.2.2.2.1).at.1 6, (M.out.2.2.2.2.2.2.2.2.2.2.1).at.1 7, (M.out.2.2.2.2.2.2.2.2.2.2.2.2.1).at.1 0, (M.out.2.2.2.2.2.2.2.2.2.2.2.2.1).at.1 1, (M.out.2.2.2.2.2.2.2.2.2.2.2.2.1).at.1 2, (M.out.2.2.2.2.2.2.2.2.2.2.2.2.1).at.1 3, (M.out.2.2.2.2.2.2.2.2.2.2.2.2.1).at.1 4, (M.out.2.2.2.2.2.2.2.2.2.2.2.2.1).at.1 5, (M.out.2.2.2.2.2.2.2.2.2.2.2.2.1).at.1 6, (M.out.2.2.2.2.2.2.2.2.2.2.2.2.1).at.1 7, (M.out.2.2.2.2.2.2.2.2.2.2.2.2.2.1).at.1 0, (M.out.2.2.2.2.2.2.2.2.2.2.2.2.2.1).at.1 1, (M.out.2.2.2.2.2.2.2.2.2.2.2.2.2.1).at.1 2, (M.out.2.2.2.2.2.2.2.2.2.2.2.2.2.1).at.1 3, (M.out.2.2.2.2.2.2.2.2.2.2.2.2.2.1).at.1 4, (M.out.2.2.2.2.2.2.2.2.2.2.2.2.2.1).at.1 5, (M.out.2.2.2.2.2.2.2.2.2.2.2.2.2.1).at.1 6, (M.out.2.2.2.2.2.2.2.2.2.2.2.2.2.1).at.1 7, (M.out.2.2.2.2.2.2.2.2.2.2.2.2.2.2.1).at.1 0, (M.out.2.2.2.2.2.2.2.2.2.2.2.2.2.2.1).at.1 1, (M.out.2.2.2.2.2.2.2.2.2.2.2.2.2.2.1).at.1 2, (M.out.2.2.2.2.2.2.2.2.2.2.2.2.2.2.1).at.1 3, (M.out.2.2.2.2.2.2.2.2.2.2.2.2.2.2.1).at.1 4, (M.out.2.2.2.2.2.2.2.2.2.2.2.2.2.2.1).at.1 5, (M.out.2.2.2.2.2.2.2.2.2.2.2.2.2.2.1).at.1 6, (M.out.2.2.2.2.2.2.2.2.2.2.2.2.2.2.1).at.1 7, (M.out.2.2.1).at.1 0, (M.out.2.2.1).at.1 1, (M.out.2.2.1).at.1 2, (M.out.2.2.1).at.1 3⟩) (fun hH156 => ?_)
    clear hK K hH155
    (try simp only [Act.put, List.setIfInBounds_toArray, List.set_cons_zero, List.set_cons_succ])
    refine tk at26 ?_
    refine tk at27 ?_
    refine tk at28 ?_
    refine tk at29 ?_
    refine tk at30 ?_
    refine wpAnyH_ready (rs := [31]) (by kernel_rfl) (by simp) ?_
    refine AllReadyH.cons at31 (fun K hK => ?_) AllReadyH.nil
    go_simp
    refine (spInside_q (G := G) (p := p1) (q := p2) (r := q33) (s := q34) (b_ := true) (Nat.le_trans hG (M.out.2.2.2.2.2.2.2.2.2.2.2.2.2.2.2).size) (K1.out.keep (M.out.2.2.2.2.2.2.2.2.2.2.2.2.2.2.2)) (K2.out.keep (M.out.2.2.2.2.2.2.2.2.2.2.2.2.2.2.2)) (M.out.2.2.2.2.1) (M.out.2.2.2.2.2.1) (Fz.mono Z1.out (by omega)) (Fz.mono Z2.out (by omega)) (Fz.mono Sq33.out (by omega)) (Fz.mono Sq34.out (by omega)) (right_le HC1.out) (by rw [Eq34.out, Eq33.out, Eq10.out, Eq9.out]; have h1_ := right_le HC1.out; have h2_ := right_le HC2.out; grind) (by rw [Eq34.out, Eq33.out, Eq10.out, Eq9.out]; exact back_in1 (right_le HC2.out))).mono ?_
    rintro e w18 ⟨rfl, hb⟩
    replace M := Lib.hid (Goes.go M.out hb)
    clear hb
    (try go_wp2_with fail)
    refine hK.out _ _ (⟨(M.out.2.2.2.2.2.2.2.2.2.2.1).at.1 0, (M.out.2.2.2.2.2.2.2.2.2.2.1).at.1 1, (M.out.2.2.2.2.2.2.2.2.2.2.1).at.1 2, (M.out.2.2.2.2.2.2.2.2.2.2.1).at.1 3, (M.out.2.2.2.2.2.2.2.2.2.2.1).at.1 4, (M.out.2.2.2.2.2.2.2.2.2.2.1).at.1 5, (M.out.2.2.2.2.2.2.2.2.2.2.1).at.1 6, (M.out.2.2.2.2.2.2.2.2.2.2.1).at.1 7, (M.out.2.2.2.2.2.2.2.2.2.2.2.2.1).at.1 0, (M.out.2.2.2.2.2.2.2.2.2.2.2.2.1).at.1 1, (M.out.2.2.2.2.2.2.2.2.2.2.2.2.1).at.1 2, (M.out.2.2.2.2.2.2.2.2.2.2.2.2.1).at.1 3, (M.out.2.2.2.2.2.2.2.2.2.2.2.2.1).at.1 4, (M.out.2.2.2.2.2.2.2.2.2.2.2.2.1).at.1 5, (M.out.2.2.2.2.2.2.2.2.2.2.2.2.1).at.1 6, (M.out.2.2.2.2.2.2.2.2.2.2.2.2.1).at.1 7, (M.out.2.2.2.2.2.2.2.2.2.2.2.2.2.1).at.1 0, (M.out.2.2.2.2.2.2.2.2.2.2.2.2.2.1).at.1 1, (M.out.2.2.2.2.2.2.2.2.2.2.2.2.2.1).at.1 2, (M.out.2.2.2.2.2.2.2.2.2.2.2.2.2.1).at.1 3, (M.out.2.2.2.2.2.2.2.2.2.2.2.2.2.1).at.1 4, (M.out.2.2.2.2.2.2.2.2.2.2.2.2.2.1).at.1 5, (M.out.2.2.2.2.2.2.2.2.2.2.2.2.2.1).at.1 6, (M.out.2.2.2.2.2.2.2.2.2.2.2.2.2.1).at.1 7, (M.out.2.2.2.2.2.2.2.2.2.2.2.2.2.2.1).at.1 0, (M.out.2.2.2.2.2.2.2.2.2.2.2.2.2.2.1).at.1 1, (M.out.2.2.2.2.2.2.2.2.2.2.2.2.2.2.1).at.1 2, (M.out.2.2.2.2.2.2.2.2.2.2.2.2.2.2.1).at.1 3, (M.out.2.2.2.2.2.2.2.2.2.2.2.2.2.2.1).at.1 4, (M.out.2.2.2.2.2.2.2.2.2.2.2.2.2.2.1).at.1 5, (M.out.2.2.2.2.2.2.2.2.2.2.2.2.2.2.1).at.1 6, (M.out.2.2.2.2.2.2.2.2.2.2.2.2.2.2.1).at.1 7, (M.out.2.2.1).at.1 0, (M.out.2.2.1).at.1 1, (M.out.2.2.1).at.1 2, (M.out.2.2.1).at.1 3⟩) (fun hH157 => ?_)
    clear hK K hH156
    (try simp only [Act.put, List.setIfInBounds_toArray, List.set_cons_zero, List.set_cons_succ])
    refine tk at32 ?_
    refine tk at33 ?_
    refine wpAnyH_done (by kernel_rfl) ?_ _
    clear hH157
    have y0 := (M.out.2.2.2.2.2.2.2.2.2.2.1).d8; have p0_0 := y0.1; have p0_1 := y0.2.1; have p0_2 := y0.2.2.1; have p0_3 := y0.2.2.2.1; have p0_4 := y0.2.2.2.2.1; have p0_5 := y0.2.2.2.2.2.1; have p0_6 := y0.2.2.2.2.2.2.1; have p0_7 := y0.2.2.2.2.2.2.2; clear y0
    have y1 := (M.out.2.2.2.2.2.2.2.2.2.2.2.1).d8; have p1_0 := y1.1; have p1_1 := y1.2.1; have p1_2 := y1.2.2.1; have p1_3 := y1.2.2.2.1; have p1_4 := y1.2.2.2.2.1; have p1_5 := y1.2.2.2.2.2.1; have p1_6 := y1.2.2.2.2.2.2.1; have p1_7 := y1.2.2.2.2.2.2.2; clear y1
    go_wp2_with fail
    clear p0_0 p0_1 p0_2 p0_3 p0_4 p0_5 p0_6 p0_7 p1_0 p1_1 p1_2 p1_3 p1_4 p1_5 p1_6 p1_7
    replace M := Lib.hid (And.intro (M.out.2.2.2.2.2.2.2.2.2.2.1) (And.intro (M.out.2.2.2.2.2.2.2.2.2.2.2.1) (M.out.2.2.2.2.2.2.2.2.2.2.2.2.2.2.2)))
    refine (spMul_q (G := G) (p := p1) (q := p2) (r := r1) (s := r2) (lo := ml) (hi := mh) (Nat.le_trans hG (M.out.2.2).size) (K1.out.keep (M.out.2.2)) (K2.out.keep (M.out.2.2)) (K3.out.keep (M.out.2.2)) (K4.out.keep (M.out.2.2)) (Fz.mono Z1.out (by omega)) (Fz.mono Z2.out (by omega)) (Fz.mono Z3.out (by omega)) (Fz.mono Z4.out (by omega)) (right_le HC1.out) (right_le HC2.out) HMLO.out HMHI.out).mono ?_
    rintro e w19 ⟨x_158, x_159, x_160, x_161, x_162, x_163, x_164, x_165, rfl, hd166, hd167, hb⟩
    replace M := Lib.hid (And.intro hd166 (And.intro hd167 (Goes.go M.out hb)))
    clear hb hd166 hd167
    have ys_x_158 := TQ.st (M.out.1); have st_x_158 := ys_x_158.1; have st_x_159 := ys_x_158.2.1; have st_x_160 := ys_x_158.2.2.1; have st_x_161 := ys_x_158.2.2.2; clear ys_x_158
    have ys_x_162 := TQ.st (M.out.2.1); have st_x_162 := ys_x_162.1; have st_x_163 := ys_x_162.2.1; have st_x_164 := ys_x_162.2.2.1; have st_x_165 := ys_x_162.2.2.2; clear ys_x_162
    go_upto_region 11 with fail
    clear st_x_158 st_x_159 st_x_160 st_x_161 st_x_162 st_x_163 st_x_164 st_x_165
    obtain ⟨w20, hv⟩ : ∃ w_ : World, w_ = (w19.alloc (.cells #[x_158, x_159, x_160, x_161, x_162, x_163, x_164, x_165] 28)) := ⟨_, rfl⟩
    rw [← hv]
    have ow6_ : w.heap.size + 1 < w19.heap.size := ((M.out.2.2.2.1)).lt
    replace M := Lib.hid (And.intro (hv ▸ bx1 w19 28 #[x_158, x_159, x_160, x_161, x_162, x_163, x_164, x_165]) (Goes.go M.out (hv ▸ below_alloc _ _ : Below w19.heap.size w19 w20)))
    clear hv
    have y6 := (M.out.1).d8; have p6_0 := y6.1; have p6_1 := y6.2.1; have p6_2 := y6.2.2.1; have p6_3 := y6.2.2.2.1; have p6_4 := y6.2.2.2.2.1; have p6_5 := y6.2.2.2.2.2.1; have p6_6 := y6.2.2.2.2.2.2.1; have p6_7 := y6.2.2.2.2.2.2.2; clear y6
    have y1 := (M.out.2.2.2.2.1).d8; have p1_0 := y1.1; have p1_1 := y1.2.1; have p1_2 := y1.2.2.1; have p1_3 := y1.2.2.2.1; have p1_4 := y1.2.2.2.2.1; have p1_5 := y1.2.2.2.2.2.1; have p1_6 := y1.2.2.2.2.2.2.1; have p1_7 := y1.2.2.2.2.2.2.2; clear y1
    go_wp2_with fail
    clear p6_0 p6_1 p6_2 p6_3 p6_4 p6_5 p6_6 p6_7 p1_0 p1_1 p1_2 p1_3 p1_4 p1_5 p1_6 p1_7
    refine (spDiv_none (G := G) (p := ml) (q := mh) (r := r1) (s := r2) (Nat.le_trans hG (M.out.2.2.2.2.2).size) (M.out.2.1) (M.out.2.2.1) (K3.out.keep (M.out.2.2.2.2.2)) (K4.out.keep (M.out.2.2.2.2.2)) (Fz.mono HSZL.out (by omega)) (Fz.mono HSZH.out (by omega)) (Fz.mono Z3.out (by omega)) (Fz.mono Z4.out (by omega)) HML.out (right_le HC2.out) H0.out).mono ?_
    rintro e w21 ⟨rfl, hb⟩
    replace M := Lib.hid (Goes.go M.out hb)
    clear hb
    go_wp2_with fail
    obtain ⟨w22, hv⟩ : ∃ w_ : World, w_ = (w21.alloc (.cells #[.int .i64 0, .slice none 0 0, .int .i64 0, .slice none 0 0, .int .i64 0, .slice none 0 0, .int .i64 0, .slice none 0 0] 28)) := ⟨_, rfl⟩
    rw [← hv]
    have ow7_ : w19.heap.size < w21.heap.size := ((M.out.1)).lt
    replace M := Lib.hid (And.intro (hv ▸ bx1 w21 28 #[.int .i64 0, .slice none 0 0, .int .i64 0, .slice none 0 0, .int .i64 0, .slice none 0 0, .int .i64 0, .slice none 0 0]) (Goes.go M.out (hv ▸ below_alloc _ _ : Below w21.heap.size w21 w22)))
    clear hv
    replace M := Lib.hid (And.intro (M.out.1) (And.intro (M.out.2.2.2.2.1) (And.intro (M.out.2.2.2.2.2.1) (M.out.2.2.2.2.2.2))))
    obtain ⟨w23, hv⟩ : ∃ w_ : World, w_ = w22.drew := ⟨_, rfl⟩
    replace M := Lib.hid (Goes.go M.out (hv ▸ below_drew _ : Below w22.heap.size w22 w23))
    refine wp_region_held_drew (S := (fun w' => w'.cell? ⟨w.heap.size + 1, 0, none⟩ = some (v0) ∧ w'.cell? ⟨w.heap.size + 1, 1, none⟩ = some (v1) ∧ w'.cell? ⟨w.heap.size + 1, 2, none⟩ = some (v2) ∧ w'.cell? ⟨w.heap.size + 1, 3, none⟩ = some (v3) ∧ w'.cell? ⟨w.heap.size + 1, 4, none⟩ = some (v4) ∧ w'.cell? ⟨w.heap.size + 1, 5, none⟩ = some (v5) ∧ w'.cell? ⟨w.heap.size + 1, 6, none⟩ = some (v6) ∧ w'.cell? ⟨w.heap.size + 1, 7, none⟩ = some (v7))) (by kernel_rfl) (by rw [← hv]; exact ⟨(M.out.2.2.1).at.1 0, (M.out.2.2.1).at.1 1, (M.out.2.2.1).at.1 2, (M.out.2.2.1).at.1 3, (M.out.2.2.1).at.1 4, (M.out.2.2.1).at.1 5, (M.out.2.2.1).at.1 6, (M.out.2.2.1).at.1 7⟩) (fun hH174 => ?_)
    rw [← hv] at hH174 ⊢
    clear hv
    refine tk at0 ?_
    refine tk at1 ?_
    refine tk at2 ?_
    refine tk at3 ?_
    refine tk at4 ?_
    refine tk at5 ?_
    refine tk at6 ?_
    refine tk at7 ?_
    refine tk at8 ?_
    refine tk at9 ?_
    refine tk at10 ?_
    refine tk at11 ?_
    refine tk at12 ?_
    refine tk at13 ?_
    refine wpAnyH_ready (rs := [14]) (by kernel_rfl) (by simp) ?_
    refine AllReadyH.cons at14 (fun K hK => ?_) AllReadyH.nil
    go_simp
    obtain ⟨q179, eq179⟩ : ∃ v_ : Rat, v_ = ((0 : Int) : Rat) := ⟨_, rfl⟩
    refine (rqInt (G := G) (x := 0) (by decide)).mono ?_
    rintro e w24 ⟨x_175, x_176, x_177, x_178, rfl, hd180, hb⟩
    rw [← eq179] at hd180
    have Sq179 : Hid (Fz q179 4) := by show Fz q179 4; rw [eq179]; exact (Fz.int64 (by decide))
    have Eq179 := Lib.hid eq179; clear eq179
    replace M := Lib.hid (And.intro hd180 (Goes.go M.out hb))
    clear hb hd180
    (try go_wp2_with fail)
    refine hK.out _ _ (⟨(M.out.2.2.2.1).at.1 0, (M.out.2.2.2.1).at.1 1, (M.out.2.2.2.1).at.1 2, (M.out.2.2.2.1).at.1 3, (M.out.2.2.2.1).at.1 4, (M.out.2.2.2.1).at.1 5, (M.out.2.2.2.1).at.1 6, (M.out.2.2.2.1).at.1 7⟩) (fun hH181 => ?_)
    clear hK K hH174
    (try simp only [Act.put, List.setIfInBounds_toArray, List.set_cons_zero, List.set_cons_succ])
    refine wpAnyH_ready (rs := [15]) (by kernel_rfl) (by simp) ?_
    refine AllReadyH.cons at15 (fun K hK => ?_) AllReadyH.nil
    go_simp
    refine (spHas_q (G := G) (p := r1) (q := r2) (x := q179) (b_ := true) (Nat.le_trans hG (M.out.2.2.2.2).size) (K3.out.keep (M.out.2.2.2.2)) (K4.out.keep (M.out.2.2.2.2)) (Fz.mono Z3.out (by omega)) (Fz.mono Z4.out (by omega)) (right_le HC2.out) (M.out.1) (Fz.mono Sq179.out (by omega)) (by rw [Eq179.out]; exact HZ.out)).mono ?_
    rintro e w25 ⟨rfl, hb⟩
    replace M := Lib.hid (Goes.go M.out hb)
    clear hb
    (try go_wp2_with fail)
    refine hK.out _ _ (⟨(M.out.2.2.2.1).at.1 0, (M.out.2.2.2.1).at.1 1, (M.out.2.2.2.1).at.1 2, (M.out.2.2.2.1).at.1 3, (M.out.2.2.2.1).at.1 4, (M.out.2.2.2.1).at.1 5, (M.out.2.2.2.1).at.1 6, (M.out.2.2.2.1).at.1 7⟩) (fun hH182 => ?_)
    clear hK K hH181
    (try simp only [Act.put, List.setIfInBounds_toArray, List.set_cons_zero, List.set_cons_succ])
    refine tk at16 ?_
    refine tk at17 ?_
    refine wpAnyH_done (by kernel_rfl) ?_ _
    clear hH182
    go_wp2_with fail
    go_ret
    exact ⟨rfl, (M.out.2.2.2.2)⟩
set_option maxRecDepth 100000 in
set_option maxHeartbeats 4000000 in
theorem back_n {u0 u1 u2 u3 u4 u5 u6 u7 v0 v1 v2 v3 v4 v5 v6 v7 : Value} {n1 m1 n2 m2 n3 m3 n4 m4 : Nat} {p1 p2 r1 r2 : Rat} {w : World} (hG : G ≤ w.heap.size) (h1 : FX w u0 u1 u2 u3 n1 m1 (some p1)) (k1 : FQ G w u0 u1 u2 u3 p1) (z1 : Fz p1 4) (h2 : FX w u4 u5 u6 u7 n2 m2 (some p2)) (k2 : FQ G w u4 u5 u6 u7 p2) (z2 : Fz p2 4) (h3 : FX w v0 v1 v2 v3 n3 m3 (some r1)) (k3 : FQ G w v0 v1 v2 v3 r1) (z3 : Fz r1 4) (h4 : FX w v4 v5 v6 v7 n4 m4 (some r2)) (k4 : FQ G w v4 v5 v6 v7 r2) (z4 : Fz r2 4) (hc0 : few4 n1 m1 n2 m2 n3 m3 n4 m4 = true) (hc1 : rightX (some p1) (some p2) = true) (hc2 : rightX (some r1) (some r2) = true) (h0 : ¬ (r1 ≤ 0 ∧ 0 ≤ r2)) :
    Calls Try.prog 6 #[.agg #[u0, u1, u2, u3, u4, u5, u6, u7], .agg #[v0, v1, v2, v3, v4, v5, v6, v7]] w fun e w' => e = .returned (.bool true) ∧ Below w.heap.size w w' := by
  have h1_ := right_le hc1
  have h2_ := right_le hc2
  obtain ⟨ml, hml⟩ : ∃ x, min4 (p1 * r1) (p1 * r2) (p2 * r1) (p2 * r2) = x := ⟨_, rfl⟩
  obtain ⟨mh, hmh⟩ : ∃ x, max4 (p1 * r1) (p1 * r2) (p2 * r1) (p2 * r2) = x := ⟨_, rfl⟩
  have HML : Hid (ml ≤ mh) := by show _ ≤ _; rw [← hml, ← hmh]; exact mulS_ok (a := ⟨p1, p2⟩) (b := ⟨r1, r2⟩) h1_ h2_
  have HSZL : Hid (Fz ml 8) := by show Fz _ _; rw [← hml]; exact Fz.min4 (z1.mul z3) (z1.mul z4) (z2.mul z3) (z2.mul z4)
  have HSZH : Hid (Fz mh 8) := by show Fz _ _; rw [← hmh]; exact Fz.max4 (z1.mul z3) (z1.mul z4) (z2.mul z3) (z2.mul z4)
  have HZ : Hid ((decide (r1 ≤ ((0 : Int) : Rat)) && decide (((0 : Int) : Rat) ≤ r2)) = false) := by show _ = _; rw [← Bool.decide_and]; exact decide_eq_false h0
  obtain ⟨dl, hdl⟩ : ∃ x, min4 (ml * (1 / r2)) (ml * (1 / r1)) (mh * (1 / r2)) (mh * (1 / r1)) = x := ⟨_, rfl⟩
  obtain ⟨dh, hdh⟩ : ∃ x, max4 (ml * (1 / r2)) (ml * (1 / r1)) (mh * (1 / r2)) (mh * (1 / r1)) = x := ⟨_, rfl⟩
  have HIN : Hid ((decide (dl ≤ p1) && decide (p2 ≤ dh)) = true) := by
    show _ = _
    rw [← hdl, ← hdh, ← hml, ← hmh]
    exact inB.2 (mul_back (a := ⟨p1, p2⟩) (b := ⟨r1, r2⟩) h1_ h2_ h0)
  have HDS := Lib.hid (op_size (k := 3) HSZL.out HSZH.out z3 z4 (show divS ⟨ml, mh⟩ ⟨r1, r2⟩ = some ⟨dl, dh⟩ by unfold divS; rw [if_neg h0, ← hdl, ← hdh]; rfl))
  have HDL : Hid (dl ≤ dh) := by
    show _ ≤ _
    rw [← hdl, ← hdh]
    exact mulS_ok (a := ⟨ml, mh⟩) (b := invS ⟨r1, r2⟩) HML.out (invS_ok (b := ⟨r1, r2⟩) h2_ h0)
  have HDLO := Lib.hid hdl; have HDHI := Lib.hid hdh; clear hdl hdh
  have HMLO := Lib.hid hml; have HMHI := Lib.hid hmh; have H0 := Lib.hid h0; clear hml hmh h1_ h2_ h0
  have Z1 := Lib.hid z1; clear z1
  have Z2 := Lib.hid z2; clear z2
  have Z3 := Lib.hid z3; clear z3
  have Z4 := Lib.hid z4; clear z4
  have HC0 := Lib.hid hc0; clear hc0
  have HC1 := Lib.hid hc1; clear hc1
  have HC2 := Lib.hid hc2; clear hc2
  have H1 : Hid (FX w u0 u1 u2 u3 n1 m1 (some p1)) := h1
  have K1 : Hid (FQ G w u0 u1 u2 u3 p1) := k1
  have H2 : Hid (FX w u4 u5 u6 u7 n2 m2 (some p2)) := h2
  have K2 : Hid (FQ G w u4 u5 u6 u7 p2) := k2
  have H3 : Hid (FX w v0 v1 v2 v3 n3 m3 (some r1)) := h3
  have K3 : Hid (FQ G w v0 v1 v2 v3 r1) := k3
  have H4 : Hid (FX w v4 v5 v6 v7 n4 m4 (some r2)) := h4
  have K4 : Hid (FQ G w v4 v5 v6 v7 r2) := k4
  clear h1 k1 h2 k2 h3 k3 h4 k4
  have M : Hid (Below w.heap.size w w) := Below.refl _ _
  go_enter Try.func6, Try.ntmps6
  go_upto_region 1 with fail
  obtain ⟨w1, hv⟩ : ∃ w_ : World, w_ = ((w.alloc (.cells #[u0, u1, u2, u3, u4, u5, u6, u7] 28)).alloc (.cells #[v0, v1, v2, v3, v4, v5, v6, v7] 28)) := ⟨_, rfl⟩
  rw [← hv]
  have hbx := bx2 w 28 28 #[u0, u1, u2, u3, u4, u5, u6, u7] #[v0, v1, v2, v3, v4, v5, v6, v7]
  rw [← hv] at hbx
  have hbn : Below w.heap.size w w1 := by rw [hv]; exact (Below.alloc (Below.alloc (Below.refl _ _) (by simp <;> omega) _) (by simp <;> omega) _)
  replace M := Lib.hid (And.intro hbx.2 (And.intro hbx.1 (Goes.go M.out hbn)))
  clear hbx hbn
  clear hv
  go_wp2_with fail
  refine (spanSmall_ok (G := G) (Nat.le_trans hG (M.out.2.2).size)).mono ?_
  rintro e w2 ⟨rfl, hb⟩
  replace M := Lib.hid (Goes.go M.out hb)
  clear hb
  have y0 := (M.out.2.1).d8; have p0_0 := y0.1; have p0_1 := y0.2.1; have p0_2 := y0.2.2.1; have p0_3 := y0.2.2.2.1; have p0_4 := y0.2.2.2.2.1; have p0_5 := y0.2.2.2.2.2.1; have p0_6 := y0.2.2.2.2.2.2.1; have p0_7 := y0.2.2.2.2.2.2.2; clear y0
  have y1 := (M.out.1).d8; have p1_0 := y1.1; have p1_1 := y1.2.1; have p1_2 := y1.2.2.1; have p1_3 := y1.2.2.2.1; have p1_4 := y1.2.2.2.2.1; have p1_5 := y1.2.2.2.2.2.1; have p1_6 := y1.2.2.2.2.2.2.1; have p1_7 := y1.2.2.2.2.2.2.2; clear y1
  go_wp2_with fail
  clear p0_0 p0_1 p0_2 p0_3 p0_4 p0_5 p0_6 p0_7 p1_0 p1_1 p1_2 p1_3 p1_4 p1_5 p1_6 p1_7
  refine (few_s (o1 := (some p1)) (o2 := (some p2)) (o3 := (some r1)) (o4 := (some r2)) (b_ := true) (H1.out.keep (M.out.2.2)) (H2.out.keep (M.out.2.2)) (H3.out.keep (M.out.2.2)) (H4.out.keep (M.out.2.2)) HC0.out).mono ?_
  rintro e w3 ⟨rfl, hb⟩
  replace M := Lib.hid (Goes.go M.out hb)
  clear hb
  have y0 := (M.out.2.1).d8; have p0_0 := y0.1; have p0_1 := y0.2.1; have p0_2 := y0.2.2.1; have p0_3 := y0.2.2.2.1; have p0_4 := y0.2.2.2.2.1; have p0_5 := y0.2.2.2.2.2.1; have p0_6 := y0.2.2.2.2.2.2.1; have p0_7 := y0.2.2.2.2.2.2.2; clear y0
  go_wp2_with fail
  clear p0_0 p0_1 p0_2 p0_3 p0_4 p0_5 p0_6 p0_7
  refine (spRight_x (o1 := (some p1)) (o2 := (some p2)) (b_ := true) (H1.out.keep (M.out.2.2)) (H2.out.keep (M.out.2.2)) (few4_1 HC0.out) (few4_2 HC0.out) HC1.out).mono ?_
  rintro e w4 ⟨rfl, hb⟩
  replace M := Lib.hid (Goes.go M.out hb)
  clear hb
  have y1 := (M.out.1).d8; have p1_0 := y1.1; have p1_1 := y1.2.1; have p1_2 := y1.2.2.1; have p1_3 := y1.2.2.2.1; have p1_4 := y1.2.2.2.2.1; have p1_5 := y1.2.2.2.2.2.1; have p1_6 := y1.2.2.2.2.2.2.1; have p1_7 := y1.2.2.2.2.2.2.2; clear y1
  go_wp2_with fail
  clear p1_0 p1_1 p1_2 p1_3 p1_4 p1_5 p1_6 p1_7
  refine (spRight_x (o1 := (some r1)) (o2 := (some r2)) (b_ := true) (H3.out.keep (M.out.2.2)) (H4.out.keep (M.out.2.2)) (few4_3 HC0.out) (few4_4 HC0.out) HC2.out).mono ?_
  rintro e w5 ⟨rfl, hb⟩
  replace M := Lib.hid (Goes.go M.out hb)
  clear hb
  have y0 := (M.out.2.1).d8; have p0_0 := y0.1; have p0_1 := y0.2.1; have p0_2 := y0.2.2.1; have p0_3 := y0.2.2.2.1; have p0_4 := y0.2.2.2.2.1; have p0_5 := y0.2.2.2.2.2.1; have p0_6 := y0.2.2.2.2.2.2.1; have p0_7 := y0.2.2.2.2.2.2.2; clear y0
  have y1 := (M.out.1).d8; have p1_0 := y1.1; have p1_1 := y1.2.1; have p1_2 := y1.2.2.1; have p1_3 := y1.2.2.2.1; have p1_4 := y1.2.2.2.2.1; have p1_5 := y1.2.2.2.2.2.1; have p1_6 := y1.2.2.2.2.2.2.1; have p1_7 := y1.2.2.2.2.2.2.2; clear y1
  go_wp2_with fail
  clear p0_0 p0_1 p0_2 p0_3 p0_4 p0_5 p0_6 p0_7 p1_0 p1_1 p1_2 p1_3 p1_4 p1_5 p1_6 p1_7
  obtain ⟨q9, eq9⟩ : ∃ v_ : Rat, v_ = (p1 + r1) := ⟨_, rfl⟩
  obtain ⟨q10, eq10⟩ : ∃ v_ : Rat, v_ = (p2 + r2) := ⟨_, rfl⟩
  refine (spAdd_q (G := G) (p := p1) (q := p2) (r := r1) (s := r2) (Nat.le_trans hG (M.out.2.2).size) (K1.out.keep (M.out.2.2)) (K2.out.keep (M.out.2.2)) (K3.out.keep (M.out.2.2)) (K4.out.keep (M.out.2.2)) (Fz.mono Z1.out (by omega)) (Fz.mono Z2.out (by omega)) (Fz.mono Z3.out (by omega)) (Fz.mono Z4.out (by omega)) (right_le HC1.out) (right_le HC2.out)).mono ?_
  rintro e w6 ⟨x_1, x_2, x_3, x_4, x_5, x_6, x_7, x_8, rfl, hd11, hd12, hb⟩
  rw [← eq9] at hd11
  have Sq9 : Hid (Fz q9 9) := by show Fz q9 9; rw [eq9]; exact (Fz.add Z1.out Z3.out)
  have Eq9 := Lib.hid eq9; clear eq9
  rw [← eq10] at hd12
  have Sq10 : Hid (Fz q10 9) := by show Fz q10 9; rw [eq10]; exact (Fz.add Z2.out Z4.out)
  have Eq10 := Lib.hid eq10; clear eq10
  replace M := Lib.hid (And.intro hd11 (And.intro hd12 (Goes.go M.out hb)))
  clear hb hd11 hd12
  have ys_x_1 := TQ.st (M.out.1); have st_x_1 := ys_x_1.1; have st_x_2 := ys_x_1.2.1; have st_x_3 := ys_x_1.2.2.1; have st_x_4 := ys_x_1.2.2.2; clear ys_x_1
  have ys_x_5 := TQ.st (M.out.2.1); have st_x_5 := ys_x_5.1; have st_x_6 := ys_x_5.2.1; have st_x_7 := ys_x_5.2.2.1; have st_x_8 := ys_x_5.2.2.2; clear ys_x_5
  go_upto_region 5 with fail
  clear st_x_1 st_x_2 st_x_3 st_x_4 st_x_5 st_x_6 st_x_7 st_x_8
  obtain ⟨w7, hv⟩ : ∃ w_ : World, w_ = (w6.alloc (.cells #[x_1, x_2, x_3, x_4, x_5, x_6, x_7, x_8] 28)) := ⟨_, rfl⟩
  rw [← hv]
  have ow2_ : w.heap.size + 1 < w6.heap.size := ((M.out.2.2.1)).lt
  replace M := Lib.hid (And.intro (hv ▸ bx1 w6 28 #[x_1, x_2, x_3, x_4, x_5, x_6, x_7, x_8]) (Goes.go M.out (hv ▸ below_alloc _ _ : Below w6.heap.size w6 w7)))
  clear hv
  have y0 := (M.out.2.2.2.2.1).d8; have p0_0 := y0.1; have p0_1 := y0.2.1; have p0_2 := y0.2.2.1; have p0_3 := y0.2.2.2.1; have p0_4 := y0.2.2.2.2.1; have p0_5 := y0.2.2.2.2.2.1; have p0_6 := y0.2.2.2.2.2.2.1; have p0_7 := y0.2.2.2.2.2.2.2; clear y0
  have y1 := (M.out.2.2.2.1).d8; have p1_0 := y1.1; have p1_1 := y1.2.1; have p1_2 := y1.2.2.1; have p1_3 := y1.2.2.2.1; have p1_4 := y1.2.2.2.2.1; have p1_5 := y1.2.2.2.2.2.1; have p1_6 := y1.2.2.2.2.2.2.1; have p1_7 := y1.2.2.2.2.2.2.2; clear y1
  go_wp2_with fail
  clear p0_0 p0_1 p0_2 p0_3 p0_4 p0_5 p0_6 p0_7 p1_0 p1_1 p1_2 p1_3 p1_4 p1_5 p1_6 p1_7
  obtain ⟨q21, eq21⟩ : ∃ v_ : Rat, v_ = (p1 - r2) := ⟨_, rfl⟩
  obtain ⟨q22, eq22⟩ : ∃ v_ : Rat, v_ = (p2 - r1) := ⟨_, rfl⟩
  refine (spSub_q (G := G) (p := p1) (q := p2) (r := r1) (s := r2) (Nat.le_trans hG (M.out.2.2.2.2.2).size) (K1.out.keep (M.out.2.2.2.2.2)) (K2.out.keep (M.out.2.2.2.2.2)) (K3.out.keep (M.out.2.2.2.2.2)) (K4.out.keep (M.out.2.2.2.2.2)) (Fz.mono Z1.out (by omega)) (Fz.mono Z2.out (by omega)) (Fz.mono Z3.out (by omega)) (Fz.mono Z4.out (by omega)) (right_le HC1.out) (right_le HC2.out)).mono ?_
  rintro e w8 ⟨x_13, x_14, x_15, x_16, x_17, x_18, x_19, x_20, rfl, hd23, hd24, hb⟩
  rw [← eq21] at hd23
  have Sq21 : Hid (Fz q21 9) := by show Fz q21 9; rw [eq21]; exact (Fz.sub Z1.out Z4.out)
  have Eq21 := Lib.hid eq21; clear eq21
  rw [← eq22] at hd24
  have Sq22 : Hid (Fz q22 9) := by show Fz q22 9; rw [eq22]; exact (Fz.sub Z2.out Z3.out)
  have Eq22 := Lib.hid eq22; clear eq22
  replace M := Lib.hid (And.intro hd23 (And.intro hd24 (Goes.go M.out hb)))
  clear hb hd23 hd24
  have ys_x_13 := TQ.st (M.out.1); have st_x_13 := ys_x_13.1; have st_x_14 := ys_x_13.2.1; have st_x_15 := ys_x_13.2.2.1; have st_x_16 := ys_x_13.2.2.2; clear ys_x_13
  have ys_x_17 := TQ.st (M.out.2.1); have st_x_17 := ys_x_17.1; have st_x_18 := ys_x_17.2.1; have st_x_19 := ys_x_17.2.2.1; have st_x_20 := ys_x_17.2.2.2; clear ys_x_17
  go_upto_region 6 with fail
  clear st_x_13 st_x_14 st_x_15 st_x_16 st_x_17 st_x_18 st_x_19 st_x_20
  obtain ⟨w9, hv⟩ : ∃ w_ : World, w_ = (w8.alloc (.cells #[x_13, x_14, x_15, x_16, x_17, x_18, x_19, x_20] 28)) := ⟨_, rfl⟩
  rw [← hv]
  have ow3_ : w6.heap.size < w8.heap.size := ((M.out.2.2.1)).lt
  replace M := Lib.hid (And.intro (hv ▸ bx1 w8 28 #[x_13, x_14, x_15, x_16, x_17, x_18, x_19, x_20]) (Goes.go M.out (hv ▸ below_alloc _ _ : Below w8.heap.size w8 w9)))
  clear hv
  have y2 := (M.out.2.2.2.1).d8; have p2_0 := y2.1; have p2_1 := y2.2.1; have p2_2 := y2.2.2.1; have p2_3 := y2.2.2.2.1; have p2_4 := y2.2.2.2.2.1; have p2_5 := y2.2.2.2.2.2.1; have p2_6 := y2.2.2.2.2.2.2.1; have p2_7 := y2.2.2.2.2.2.2.2; clear y2
  have y1 := (M.out.2.2.2.2.2.2.1).d8; have p1_0 := y1.1; have p1_1 := y1.2.1; have p1_2 := y1.2.2.1; have p1_3 := y1.2.2.2.1; have p1_4 := y1.2.2.2.2.1; have p1_5 := y1.2.2.2.2.2.1; have p1_6 := y1.2.2.2.2.2.2.1; have p1_7 := y1.2.2.2.2.2.2.2; clear y1
  go_wp2_with fail
  clear p2_0 p2_1 p2_2 p2_3 p2_4 p2_5 p2_6 p2_7 p1_0 p1_1 p1_2 p1_3 p1_4 p1_5 p1_6 p1_7
  obtain ⟨q33, eq33⟩ : ∃ v_ : Rat, v_ = (q9 - r2) := ⟨_, rfl⟩
  obtain ⟨q34, eq34⟩ : ∃ v_ : Rat, v_ = (q10 - r1) := ⟨_, rfl⟩
  refine (spSub_q (G := G) (p := q9) (q := q10) (r := r1) (s := r2) (Nat.le_trans hG (M.out.2.2.2.2.2.2.2.2).size) (M.out.2.2.2.2.1) (M.out.2.2.2.2.2.1) (K3.out.keep (M.out.2.2.2.2.2.2.2.2)) (K4.out.keep (M.out.2.2.2.2.2.2.2.2)) (Fz.mono Sq9.out (by omega)) (Fz.mono Sq10.out (by omega)) (Fz.mono Z3.out (by omega)) (Fz.mono Z4.out (by omega)) (by rw [Eq10.out, Eq9.out]; have h1_ := right_le HC1.out; have h2_ := right_le HC2.out; grind) (right_le HC2.out)).mono ?_
  rintro e w10 ⟨x_25, x_26, x_27, x_28, x_29, x_30, x_31, x_32, rfl, hd35, hd36, hb⟩
  rw [← eq33] at hd35
  have Sq33 : Hid (Fz q33 14) := by show Fz q33 14; rw [eq33]; exact (Fz.sub Sq9.out Z4.out)
  have Eq33 := Lib.hid eq33; clear eq33
  rw [← eq34] at hd36
  have Sq34 : Hid (Fz q34 14) := by show Fz q34 14; rw [eq34]; exact (Fz.sub Sq10.out Z3.out)
  have Eq34 := Lib.hid eq34; clear eq34
  replace M := Lib.hid (And.intro hd35 (And.intro hd36 (Goes.go M.out hb)))
  clear hb hd35 hd36
  have ys_x_25 := TQ.st (M.out.1); have st_x_25 := ys_x_25.1; have st_x_26 := ys_x_25.2.1; have st_x_27 := ys_x_25.2.2.1; have st_x_28 := ys_x_25.2.2.2; clear ys_x_25
  have ys_x_29 := TQ.st (M.out.2.1); have st_x_29 := ys_x_29.1; have st_x_30 := ys_x_29.2.1; have st_x_31 := ys_x_29.2.2.1; have st_x_32 := ys_x_29.2.2.2; clear ys_x_29
  go_upto_region 7 with fail
  clear st_x_25 st_x_26 st_x_27 st_x_28 st_x_29 st_x_30 st_x_31 st_x_32
  obtain ⟨w11, hv⟩ : ∃ w_ : World, w_ = (w10.alloc (.cells #[x_25, x_26, x_27, x_28, x_29, x_30, x_31, x_32] 28)) := ⟨_, rfl⟩
  rw [← hv]
  have ow4_ : w8.heap.size < w10.heap.size := ((M.out.2.2.1)).lt
  replace M := Lib.hid (And.intro (hv ▸ bx1 w10 28 #[x_25, x_26, x_27, x_28, x_29, x_30, x_31, x_32]) (Goes.go M.out (hv ▸ below_alloc _ _ : Below w10.heap.size w10 w11)))
  clear hv
  go_cut [12, 13] (fun s12 s13 wx => ∃ (A55 : Nat), ∃ (x_37 : Value), ∃ (x_38 : Value), ∃ (x_39 : Value), ∃ (x_40 : Value), ∃ (q41 : Rat), ∃ (x_43 : Value), ∃ (x_44 : Value), ∃ (x_45 : Value), ∃ (x_46 : Value), ∃ (q47 : Rat), ∃ (x_49 : Value), ∃ (x_50 : Value), ∃ (x_51 : Value), ∃ (x_52 : Value), ∃ (q53 : Rat), s12 = .pointer (some ⟨A55, 0, none⟩) ∧ s13 = .int .i64 0 ∧ Hid (q41 = (p2 - p1)) ∧ Hid (q47 = (r2 - r1)) ∧ Hid (q53 = (q41 + q47)) ∧ Hid (Fz q41 9) ∧ Hid (Fz q47 9) ∧ Hid (Fz q53 19) ∧ w10.heap.size < A55 ∧ Hid (Bx wx A55 26 #[x_49, x_50, x_51, x_52] ∧ FQ G wx x_49 x_50 x_51 x_52 q53 ∧ FQ G wx x_43 x_44 x_45 x_46 q47 ∧ FQ G wx x_37 x_38 x_39 x_40 q41 ∧ FQ G wx x_25 x_26 x_27 x_28 q33 ∧ FQ G wx x_29 x_30 x_31 x_32 q34 ∧ FQ G wx x_13 x_14 x_15 x_16 q21 ∧ FQ G wx x_17 x_18 x_19 x_20 q22 ∧ FQ G wx x_1 x_2 x_3 x_4 q9 ∧ FQ G wx x_5 x_6 x_7 x_8 q10 ∧ Bx wx w.heap.size 28 #[u0, u1, u2, u3, u4, u5, u6, u7] ∧ Bx wx (w.heap.size + 1) 28 #[v0, v1, v2, v3, v4, v5, v6, v7] ∧ Bx wx w6.heap.size 28 #[x_1, x_2, x_3, x_4, x_5, x_6, x_7, x_8] ∧ Bx wx w8.heap.size 28 #[x_13, x_14, x_15, x_16, x_17, x_18, x_19, x_20] ∧ Bx wx w10.heap.size 28 #[x_25, x_26, x_27, x_28, x_29, x_30, x_31, x_32] ∧ Below w.heap.size w wx))
  case first =>
    obtain ⟨w12, hv⟩ : ∃ w_ : World, w_ = w11.drew := ⟨_, rfl⟩
    replace M := Lib.hid (Goes.go M.out (hv ▸ below_drew _ : Below w11.heap.size w11 w12))
    refine wp_region_held_drew (S := (fun w' => w'.cell? ⟨w.heap.size, 0, none⟩ = some (u0) ∧ w'.cell? ⟨w.heap.size, 1, none⟩ = some (u1) ∧ w'.cell? ⟨w.heap.size, 2, none⟩ = some (u2) ∧ w'.cell? ⟨w.heap.size, 3, none⟩ = some (u3) ∧ w'.cell? ⟨w.heap.size, 4, none⟩ = some (u4) ∧ w'.cell? ⟨w.heap.size, 5, none⟩ = some (u5) ∧ w'.cell? ⟨w.heap.size, 6, none⟩ = some (u6) ∧ w'.cell? ⟨w.heap.size, 7, none⟩ = some (u7) ∧ w'.cell? ⟨w.heap.size + 1, 0, none⟩ = some (v0) ∧ w'.cell? ⟨w.heap.size + 1, 1, none⟩ = some (v1) ∧ w'.cell? ⟨w.heap.size + 1, 2, none⟩ = some (v2) ∧ w'.cell? ⟨w.heap.size + 1, 3, none⟩ = some (v3) ∧ w'.cell? ⟨w.heap.size + 1, 4, none⟩ = some (v4) ∧ w'.cell? ⟨w.heap.size + 1, 5, none⟩ = some (v5) ∧ w'.cell? ⟨w.heap.size + 1, 6, none⟩ = some (v6) ∧ w'.cell? ⟨w.heap.size + 1, 7, none⟩ = some (v7))) (by kernel_rfl) (by rw [← hv]; exact ⟨(M.out.2.2.2.2.2.2.2.2.2.2.1).at.1 0, (M.out.2.2.2.2.2.2.2.2.2.2.1).at.1 1, (M.out.2.2.2.2.2.2.2.2.2.2.1).at.1 2, (M.out.2.2.2.2.2.2.2.2.2.2.1).at.1 3, (M.out.2.2.2.2.2.2.2.2.2.2.1).at.1 4, (M.out.2.2.2.2.2.2.2.2.2.2.1).at.1 5, (M.out.2.2.2.2.2.2.2.2.2.2.1).at.1 6, (M.out.2.2.2.2.2.2.2.2.2.2.1).at.1 7, (M.out.2.2.2.2.2.2.2.2.2.1).at.1 0, (M.out.2.2.2.2.2.2.2.2.2.1).at.1 1, (M.out.2.2.2.2.2.2.2.2.2.1).at.1 2, (M.out.2.2.2.2.2.2.2.2.2.1).at.1 3, (M.out.2.2.2.2.2.2.2.2.2.1).at.1 4, (M.out.2.2.2.2.2.2.2.2.2.1).at.1 5, (M.out.2.2.2.2.2.2.2.2.2.1).at.1 6, (M.out.2.2.2.2.2.2.2.2.2.1).at.1 7⟩) (fun hH56 => ?_)
    rw [← hv] at hH56 ⊢
    clear hv
    refine tk at0 ?_
    refine tk at2 ?_
    refine wpAnyH_ready (rs := [1, 8]) (by kernel_rfl) (by simp) ?_
    refine AllReadyH.cons at1 (fun K hK => ?_) ?_
    ·
      go_simp
      obtain ⟨q61, eq61⟩ : ∃ v_ : Rat, v_ = (p2 - p1) := ⟨_, rfl⟩
      refine (spWidth_q (G := G) (p := p1) (q := p2) (Nat.le_trans hG (M.out.2.2.2.2.2.2.2.2.2.2.2).size) (K1.out.keep (M.out.2.2.2.2.2.2.2.2.2.2.2)) (K2.out.keep (M.out.2.2.2.2.2.2.2.2.2.2.2)) (Fz.mono Z1.out (by omega)) (Fz.mono Z2.out (by omega)) (right_le HC1.out)).mono ?_
      rintro e w13 ⟨x_57, x_58, x_59, x_60, rfl, hd62, hb⟩
      rw [← eq61] at hd62
      have Sq61 : Hid (Fz q61 9) := by show Fz q61 9; rw [eq61]; exact (Fz.sub Z2.out Z1.out)
      have Eq61 := Lib.hid eq61; clear eq61
      replace M := Lib.hid (And.intro hd62 (Goes.go M.out hb))
      clear hb hd62
      (try go_wp2_with fail)
      refine hK.out _ _ (⟨(M.out.2.2.2.2.2.2.2.2.2.2.2.1).at.1 0, (M.out.2.2.2.2.2.2.2.2.2.2.2.1).at.1 1, (M.out.2.2.2.2.2.2.2.2.2.2.2.1).at.1 2, (M.out.2.2.2.2.2.2.2.2.2.2.2.1).at.1 3, (M.out.2.2.2.2.2.2.2.2.2.2.2.1).at.1 4, (M.out.2.2.2.2.2.2.2.2.2.2.2.1).at.1 5, (M.out.2.2.2.2.2.2.2.2.2.2.2.1).at.1 6, (M.out.2.2.2.2.2.2.2.2.2.2.2.1).at.1 7, (M.out.2.2.2.2.2.2.2.2.2.2.1).at.1 0, (M.out.2.2.2.2.2.2.2.2.2.2.1).at.1 1, (M.out.2.2.2.2.2.2.2.2.2.2.1).at.1 2, (M.out.2.2.2.2.2.2.2.2.2.2.1).at.1 3, (M.out.2.2.2.2.2.2.2.2.2.2.1).at.1 4, (M.out.2.2.2.2.2.2.2.2.2.2.1).at.1 5, (M.out.2.2.2.2.2.2.2.2.2.2.1).at.1 6, (M.out.2.2.2.2.2.2.2.2.2.2.1).at.1 7⟩) (fun hH63 => ?_)
      clear hK K hH56
      (try simp only [Act.put, List.setIfInBounds_toArray, List.set_cons_zero, List.set_cons_succ])
      refine wpAnyH_ready (rs := [3, 8]) (by kernel_rfl) (by simp) ?_
      refine AllReadyH.cons at3 (fun K hK => ?_) ?_
      ·
        go_simp
        obtain ⟨q68, eq68⟩ : ∃ v_ : Rat, v_ = (r2 - r1) := ⟨_, rfl⟩
        refine (spWidth_q (G := G) (p := r1) (q := r2) (Nat.le_trans hG (M.out.2.2.2.2.2.2.2.2.2.2.2.2).size) (K3.out.keep (M.out.2.2.2.2.2.2.2.2.2.2.2.2)) (K4.out.keep (M.out.2.2.2.2.2.2.2.2.2.2.2.2)) (Fz.mono Z3.out (by omega)) (Fz.mono Z4.out (by omega)) (right_le HC2.out)).mono ?_
        rintro e w14 ⟨x_64, x_65, x_66, x_67, rfl, hd69, hb⟩
        rw [← eq68] at hd69
        have Sq68 : Hid (Fz q68 9) := by show Fz q68 9; rw [eq68]; exact (Fz.sub Z4.out Z3.out)
        have Eq68 := Lib.hid eq68; clear eq68
        replace M := Lib.hid (And.intro hd69 (Goes.go M.out hb))
        clear hb hd69
        (try go_wp2_with fail)
        refine hK.out _ _ (⟨(M.out.2.2.2.2.2.2.2.2.2.2.2.2.1).at.1 0, (M.out.2.2.2.2.2.2.2.2.2.2.2.2.1).at.1 1, (M.out.2.2.2.2.2.2.2.2.2.2.2.2.1).at.1 2, (M.out.2.2.2.2.2.2.2.2.2.2.2.2.1).at.1 3, (M.out.2.2.2.2.2.2.2.2.2.2.2.2.1).at.1 4, (M.out.2.2.2.2.2.2.2.2.2.2.2.2.1).at.1 5, (M.out.2.2.2.2.2.2.2.2.2.2.2.2.1).at.1 6, (M.out.2.2.2.2.2.2.2.2.2.2.2.2.1).at.1 7, (M.out.2.2.2.2.2.2.2.2.2.2.2.1).at.1 0, (M.out.2.2.2.2.2.2.2.2.2.2.2.1).at.1 1, (M.out.2.2.2.2.2.2.2.2.2.2.2.1).at.1 2, (M.out.2.2.2.2.2.2.2.2.2.2.2.1).at.1 3, (M.out.2.2.2.2.2.2.2.2.2.2.2.1).at.1 4, (M.out.2.2.2.2.2.2.2.2.2.2.2.1).at.1 5, (M.out.2.2.2.2.2.2.2.2.2.2.2.1).at.1 6, (M.out.2.2.2.2.2.2.2.2.2.2.2.1).at.1 7⟩) (fun hH70 => ?_)
        clear hK K hH63
        (try simp only [Act.put, List.setIfInBounds_toArray, List.set_cons_zero, List.set_cons_succ])
        refine wpAnyH_ready (rs := [4, 8]) (by kernel_rfl) (by simp) ?_
        refine AllReadyH.cons at4 (fun K hK => ?_) ?_
        ·
          go_simp
          obtain ⟨q75, eq75⟩ : ∃ v_ : Rat, v_ = (q61 + q68) := ⟨_, rfl⟩
          refine (fqAdd (G := G) (q := q61) (r := q68) (M.out.2.1) (M.out.1) (Fz.mono Sq61.out (by omega)) (Fz.mono Sq68.out (by omega))).mono ?_
          rintro e w15 ⟨x_71, x_72, x_73, x_74, rfl, hd76, hb⟩
          rw [← eq75] at hd76
          have Sq75 : Hid (Fz q75 19) := by show Fz q75 19; rw [eq75]; exact (Fz.add Sq61.out Sq68.out)
          have Eq75 := Lib.hid eq75; clear eq75
          replace M := Lib.hid (And.intro hd76 (Goes.go M.out hb))
          clear hb hd76
          (try go_wp2_with fail)
          refine hK.out _ _ (⟨(M.out.2.2.2.2.2.2.2.2.2.2.2.2.2.1).at.1 0, (M.out.2.2.2.2.2.2.2.2.2.2.2.2.2.1).at.1 1, (M.out.2.2.2.2.2.2.2.2.2.2.2.2.2.1).at.1 2, (M.out.2.2.2.2.2.2.2.2.2.2.2.2.2.1).at.1 3, (M.out.2.2.2.2.2.2.2.2.2.2.2.2.2.1).at.1 4, (M.out.2.2.2.2.2.2.2.2.2.2.2.2.2.1).at.1 5, (M.out.2.2.2.2.2.2.2.2.2.2.2.2.2.1).at.1 6, (M.out.2.2.2.2.2.2.2.2.2.2.2.2.2.1).at.1 7, (M.out.2.2.2.2.2.2.2.2.2.2.2.2.1).at.1 0, (M.out.2.2.2.2.2.2.2.2.2.2.2.2.1).at.1 1, (M.out.2.2.2.2.2.2.2.2.2.2.2.2.1).at.1 2, (M.out.2.2.2.2.2.2.2.2.2.2.2.2.1).at.1 3, (M.out.2.2.2.2.2.2.2.2.2.2.2.2.1).at.1 4, (M.out.2.2.2.2.2.2.2.2.2.2.2.2.1).at.1 5, (M.out.2.2.2.2.2.2.2.2.2.2.2.2.1).at.1 6, (M.out.2.2.2.2.2.2.2.2.2.2.2.2.1).at.1 7⟩) (fun hH77 => ?_)
          clear hK K hH70
          (try simp only [Act.put, List.setIfInBounds_toArray, List.set_cons_zero, List.set_cons_succ])
          refine tk at5 ?_
          refine tk at6 ?_
          refine tk at7 ?_
          refine wpAnyH_ready (rs := [8]) (by kernel_rfl) (by simp) ?_
          refine AllReadyH.cons at8 (fun K hK => ?_) AllReadyH.nil
          go_simp
          obtain ⟨w16, hv⟩ : ∃ w_ : World, w_ = (w15.alloc (.cells #[.int .i64 0, .slice none 0 0, .int .i64 0, .slice none 0 0] 26)) := ⟨_, rfl⟩
          rw [← hv]
          have ow5_ : w10.heap.size < w15.heap.size := ((M.out.2.2.2.1)).lt
          replace M := Lib.hid (And.intro (hv ▸ bx1 w15 26 #[.int .i64 0, .slice none 0 0, .int .i64 0, .slice none 0 0]) (Goes.go M.out (hv ▸ below_alloc _ _ : Below w15.heap.size w15 w16)))
          clear hv
          refine hK.out _ _ (⟨(M.out.2.2.2.2.2.2.2.2.2.2.2.2.2.2.1).at.1 0, (M.out.2.2.2.2.2.2.2.2.2.2.2.2.2.2.1).at.1 1, (M.out.2.2.2.2.2.2.2.2.2.2.2.2.2.2.1).at.1 2, (M.out.2.2.2.2.2.2.2.2.2.2.2.2.2.2.1).at.1 3, (M.out.2.2.2.2.2.2.2.2.2.2.2.2.2.2.1).at.1 4, (M.out.2.2.2.2.2.2.2.2.2.2.2.2.2.2.1).at.1 5, (M.out.2.2.2.2.2.2.2.2.2.2.2.2.2.2.1).at.1 6, (M.out.2.2.2.2.2.2.2.2.2.2.2.2.2.2.1).at.1 7, (M.out.2.2.2.2.2.2.2.2.2.2.2.2.2.1).at.1 0, (M.out.2.2.2.2.2.2.2.2.2.2.2.2.2.1).at.1 1, (M.out.2.2.2.2.2.2.2.2.2.2.2.2.2.1).at.1 2, (M.out.2.2.2.2.2.2.2.2.2.2.2.2.2.1).at.1 3, (M.out.2.2.2.2.2.2.2.2.2.2.2.2.2.1).at.1 4, (M.out.2.2.2.2.2.2.2.2.2.2.2.2.2.1).at.1 5, (M.out.2.2.2.2.2.2.2.2.2.2.2.2.2.1).at.1 6, (M.out.2.2.2.2.2.2.2.2.2.2.2.2.2.1).at.1 7⟩) (fun hH78 => ?_)
          clear hK K hH77
          (try simp only [Act.put, List.setIfInBounds_toArray, List.set_cons_zero, List.set_cons_succ])
          refine wpAnyH_ready (rs := [9]) (by kernel_rfl) (by simp) ?_
          refine AllReadyH.cons at9 (fun K hK => ?_) AllReadyH.nil
          have y5 := (M.out.1).c4; have p5_0 := y5.1; have q5_0 := y5.2.1; have p5_1 := y5.2.2.1; have q5_1 := y5.2.2.2.1; have p5_2 := y5.2.2.2.2.1; have q5_2 := y5.2.2.2.2.2.1; have p5_3 := y5.2.2.2.2.2.2.1; have q5_3 := y5.2.2.2.2.2.2.2; clear y5
          have ys_x_71 := TQ.st (M.out.2.1); have st_x_71 := ys_x_71.1; have st_x_72 := ys_x_71.2.1; have st_x_73 := ys_x_71.2.2.1; have st_x_74 := ys_x_71.2.2.2; clear ys_x_71
          go_simp
          clear p5_0 q5_0 p5_1 q5_1 p5_2 q5_2 p5_3 q5_3 st_x_71 st_x_72 st_x_73 st_x_74
          obtain ⟨w17, hv⟩ : ∃ w_ : World, w_ = ((((w16.setCell ⟨w15.heap.size, 0, none⟩ (x_71)).setCell ⟨w15.heap.size, 1, none⟩ (x_72)).setCell ⟨w15.heap.size, 2, none⟩ (x_73)).setCell ⟨w15.heap.size, 3, none⟩ (x_74)) := ⟨_, rfl⟩
          rw [← hv]
          have og : w16.grownBy w17 (some w15.heap.size) := by rw [hv]; exact (only_setCell (only_setCell (only_setCell (only_setCell (World.grownBy.refl _ _) _) _) _) _)
          have hz : w.heap.size ≤ w15.heap.size := by omega
          have hk : Bx w17 w15.heap.size 26 #[x_71, x_72, x_73, x_74] := by rw [hv]; exact (((((M.out.1).set 0 _).set 1 _).set 2 _).set 3 _)
          have hbw : Below w.heap.size w w17 := by rw [hv]; exact (Below.setCell (Below.setCell (Below.setCell (Below.setCell (M.out.2.2.2.2.2.2.2.2.2.2.2.2.2.2.2) (by omega) _) (by omega) _) (by omega) _) (by omega) _)
          replace M := Lib.hid (And.intro hk (And.intro ((M.out.2.1).far (M.out.1) (by rfl) (by omega) og) (And.intro ((M.out.2.2.1).far (M.out.1) (by rfl) (by omega) og) (And.intro ((M.out.2.2.2.1).far (M.out.1) (by rfl) (by omega) og) (And.intro ((M.out.2.2.2.2.1).only og (by omega)) (And.intro ((M.out.2.2.2.2.2.1).far (M.out.1) (by rfl) (by omega) og) (And.intro ((M.out.2.2.2.2.2.2.1).far (M.out.1) (by rfl) (by omega) og) (And.intro ((M.out.2.2.2.2.2.2.2.1).only og (by omega)) (And.intro ((M.out.2.2.2.2.2.2.2.2.1).far (M.out.1) (by rfl) (by omega) og) (And.intro ((M.out.2.2.2.2.2.2.2.2.2.1).far (M.out.1) (by rfl) (by omega) og) (And.intro ((M.out.2.2.2.2.2.2.2.2.2.2.1).only og (by omega)) (And.intro ((M.out.2.2.2.2.2.2.2.2.2.2.2.1).far (M.out.1) (by rfl) (by omega) og) (And.intro ((M.out.2.2.2.2.2.2.2.2.2.2.2.2.1).far (M.out.1) (by rfl) (by omega) og) (And.intro ((M.out.2.2.2.2.2.2.2.2.2.2.2.2.2.1).only og (by omega)) (And.intro ((M.out.2.2.2.2.2.2.2.2.2.2.2.2.2.2.1).only og (by omega)) hbw)))))))))))))))
          clear hk hbw og hv hz
          refine hK.out _ _ (⟨(M.out.2.2.2.2.2.2.2.2.2.2.2.2.2.2.1).at.1 0, (M.out.2.2.2.2.2.2.2.2.2.2.2.2.2.2.1).at.1 1, (M.out.2.2.2.2.2.2.2.2.2.2.2.2.2.2.1).at.1 2, (M.out.2.2.2.2.2.2.2.2.2.2.2.2.2.2.1).at.1 3, (M.out.2.2.2.2.2.2.2.2.2.2.2.2.2.2.1).at.1 4, (M.out.2.2.2.2.2.2.2.2.2.2.2.2.2.2.1).at.1 5, (M.out.2.2.2.2.2.2.2.2.2.2.2.2.2.2.1).at.1 6, (M.out.2.2.2.2.2.2.2.2.2.2.2.2.2.2.1).at.1 7, (M.out.2.2.2.2.2.2.2.2.2.2.2.2.2.1).at.1 0, (M.out.2.2.2.2.2.2.2.2.2.2.2.2.2.1).at.1 1, (M.out.2.2.2.2.2.2.2.2.2.2.2.2.2.1).at.1 2, (M.out.2.2.2.2.2.2.2.2.2.2.2.2.2.1).at.1 3, (M.out.2.2.2.2.2.2.2.2.2.2.2.2.2.1).at.1 4, (M.out.2.2.2.2.2.2.2.2.2.2.2.2.2.1).at.1 5, (M.out.2.2.2.2.2.2.2.2.2.2.2.2.2.1).at.1 6, (M.out.2.2.2.2.2.2.2.2.2.2.2.2.2.1).at.1 7⟩) (fun hH79 => ?_)
          clear hK K hH78
          (try simp only [Act.put, List.setIfInBounds_toArray, List.set_cons_zero, List.set_cons_succ])
          refine tk at10 ?_
          refine wpAnyH_done (by kernel_rfl) ?_ _
          clear hH79
          go_wp2_with fail
          go_meet
          exact ⟨w15.heap.size, x_57, x_58, x_59, x_60, q61, x_64, x_65, x_66, x_67, q68, x_71, x_72, x_73, x_74, q75, rfl, rfl, Eq61, Eq68, Eq75, Sq61, Sq68, Sq75, (by omega), (M.out.1), (M.out.2.1), (M.out.2.2.1), (M.out.2.2.2.1), (M.out.2.2.2.2.2.1), (M.out.2.2.2.2.2.2.1), (M.out.2.2.2.2.2.2.2.2.1), (M.out.2.2.2.2.2.2.2.2.2.1), (M.out.2.2.2.2.2.2.2.2.2.2.2.1), (M.out.2.2.2.2.2.2.2.2.2.2.2.2.1), (M.out.2.2.2.2.2.2.2.2.2.2.2.2.2.2.1), (M.out.2.2.2.2.2.2.2.2.2.2.2.2.2.1), (M.out.2.2.2.2.2.2.2.2.2.2.1), (M.out.2.2.2.2.2.2.2.1), (M.out.2.2.2.2.1), (M.out.2.2.2.2.2.2.2.2.2.2.2.2.2.2.2)⟩
        refine AllReadyH.cons at8 (fun K hK => ?_) AllReadyH.nil
        go_simp
        obtain ⟨w15, hv⟩ : ∃ w_ : World, w_ = (w14.alloc (.cells #[.int .i64 0, .slice none 0 0, .int .i64 0, .slice none 0 0] 26)) := ⟨_, rfl⟩
        rw [← hv]
        have ow5_ : w10.heap.size < w14.heap.size := ((M.out.2.2.1)).lt
        replace M := Lib.hid (And.intro (hv ▸ bx1 w14 26 #[.int .i64 0, .slice none 0 0, .int .i64 0, .slice none 0 0]) (Goes.go M.out (hv ▸ below_alloc _ _ : Below w14.heap.size w14 w15)))
        clear hv
        refine hK.out _ _ (⟨(M.out.2.2.2.2.2.2.2.2.2.2.2.2.2.1).at.1 0, (M.out.2.2.2.2.2.2.2.2.2.2.2.2.2.1).at.1 1, (M.out.2.2.2.2.2.2.2.2.2.2.2.2.2.1).at.1 2, (M.out.2.2.2.2.2.2.2.2.2.2.2.2.2.1).at.1 3, (M.out.2.2.2.2.2.2.2.2.2.2.2.2.2.1).at.1 4, (M.out.2.2.2.2.2.2.2.2.2.2.2.2.2.1).at.1 5, (M.out.2.2.2.2.2.2.2.2.2.2.2.2.2.1).at.1 6, (M.out.2.2.2.2.2.2.2.2.2.2.2.2.2.1).at.1 7, (M.out.2.2.2.2.2.2.2.2.2.2.2.2.1).at.1 0, (M.out.2.2.2.2.2.2.2.2.2.2.2.2.1).at.1 1, (M.out.2.2.2.2.2.2.2.2.2.2.2.2.1).at.1 2, (M.out.2.2.2.2.2.2.2.2.2.2.2.2.1).at.1 3, (M.out.2.2.2.2.2.2.2.2.2.2.2.2.1).at.1 4, (M.out.2.2.2.2.2.2.2.2.2.2.2.2.1).at.1 5, (M.out.2.2.2.2.2.2.2.2.2.2.2.2.1).at.1 6, (M.out.2.2.2.2.2.2.2.2.2.2.2.2.1).at.1 7⟩) (fun hH80 => ?_)
        clear hK K hH70
        (try simp only [Act.put, List.setIfInBounds_toArray, List.set_cons_zero, List.set_cons_succ])
        refine wpAnyH_ready (rs := [4]) (by kernel_rfl) (by simp) ?_
        refine AllReadyH.cons at4 (fun K hK => ?_) AllReadyH.nil
        go_simp
        obtain ⟨q85, eq85⟩ : ∃ v_ : Rat, v_ = (q61 + q68) := ⟨_, rfl⟩
        refine (fqAdd (G := G) (q := q61) (r := q68) (M.out.2.2.1) (M.out.2.1) (Fz.mono Sq61.out (by omega)) (Fz.mono Sq68.out (by omega))).mono ?_
        rintro e w16 ⟨x_81, x_82, x_83, x_84, rfl, hd86, hb⟩
        rw [← eq85] at hd86
        have Sq85 : Hid (Fz q85 19) := by show Fz q85 19; rw [eq85]; exact (Fz.add Sq61.out Sq68.out)
        have Eq85 := Lib.hid eq85; clear eq85
        replace M := Lib.hid (And.intro hd86 (Goes.go M.out hb))
        clear hb hd86
        (try go_wp2_with fail)
        refine hK.out _ _ (⟨(M.out.2.2.2.2.2.2.2.2.2.2.2.2.2.2.1).at.1 0, (M.out.2.2.2.2.2.2.2.2.2.2.2.2.2.2.1).at.1 1, (M.out.2.2.2.2.2.2.2.2.2.2.2.2.2.2.1).at.1 2, (M.out.2.2.2.2.2.2.2.2.2.2.2.2.2.2.1).at.1 3, (M.out.2.2.2.2.2.2.2.2.2.2.2.2.2.2.1).at.1 4, (M.out.2.2.2.2.2.2.2.2.2.2.2.2.2.2.1).at.1 5, (M.out.2.2.2.2.2.2.2.2.2.2.2.2.2.2.1).at.1 6, (M.out.2.2.2.2.2.2.2.2.2.2.2.2.2.2.1).at.1 7, (M.out.2.2.2.2.2.2.2.2.2.2.2.2.2.1).at.1 0, (M.out.2.2.2.2.2.2.2.2.2.2.2.2.2.1).at.1 1, (M.out.2.2.2.2.2.2.2.2.2.2.2.2.2.1).at.1 2, (M.out.2.2.2.2.2.2.2.2.2.2.2.2.2.1).at.1 3, (M.out.2.2.2.2.2.2.2.2.2.2.2.2.2.1).at.1 4, (M.out.2.2.2.2.2.2.2.2.2.2.2.2.2.1).at.1 5, (M.out.2.2.2.2.2.2.2.2.2.2.2.2.2.1).at.1 6, (M.out.2.2.2.2.2.2.2.2.2.2.2.2.2.1).at.1 7⟩) (fun hH87 => ?_)
        clear hK K hH80
        (try simp only [Act.put, List.setIfInBounds_toArray, List.set_cons_zero, List.set_cons_succ])
        refine tk at5 ?_
        refine tk at6 ?_
        refine tk at7 ?_
        refine wpAnyH_ready (rs := [9]) (by kernel_rfl) (by simp) ?_
        refine AllReadyH.cons at9 (fun K hK => ?_) AllReadyH.nil
        have y5 := (M.out.2.1).c4; have p5_0 := y5.1; have q5_0 := y5.2.1; have p5_1 := y5.2.2.1; have q5_1 := y5.2.2.2.1; have p5_2 := y5.2.2.2.2.1; have q5_2 := y5.2.2.2.2.2.1; have p5_3 := y5.2.2.2.2.2.2.1; have q5_3 := y5.2.2.2.2.2.2.2; clear y5
        have ys_x_81 := TQ.st (M.out.1); have st_x_81 := ys_x_81.1; have st_x_82 := ys_x_81.2.1; have st_x_83 := ys_x_81.2.2.1; have st_x_84 := ys_x_81.2.2.2; clear ys_x_81
        go_simp
        clear p5_0 q5_0 p5_1 q5_1 p5_2 q5_2 p5_3 q5_3 st_x_81 st_x_82 st_x_83 st_x_84
        obtain ⟨w17, hv⟩ : ∃ w_ : World, w_ = ((((w16.setCell ⟨w14.heap.size, 0, none⟩ (x_81)).setCell ⟨w14.heap.size, 1, none⟩ (x_82)).setCell ⟨w14.heap.size, 2, none⟩ (x_83)).setCell ⟨w14.heap.size, 3, none⟩ (x_84)) := ⟨_, rfl⟩
        rw [← hv]
        have og : w16.grownBy w17 (some w14.heap.size) := by rw [hv]; exact (only_setCell (only_setCell (only_setCell (only_setCell (World.grownBy.refl _ _) _) _) _) _)
        have hz : w.heap.size ≤ w14.heap.size := by omega
        have hk : Bx w17 w14.heap.size 26 #[x_81, x_82, x_83, x_84] := by rw [hv]; exact (((((M.out.2.1).set 0 _).set 1 _).set 2 _).set 3 _)
        have hbw : Below w.heap.size w w17 := by rw [hv]; exact (Below.setCell (Below.setCell (Below.setCell (Below.setCell (M.out.2.2.2.2.2.2.2.2.2.2.2.2.2.2.2) (by omega) _) (by omega) _) (by omega) _) (by omega) _)
        replace M := Lib.hid (And.intro ((M.out.1).far (M.out.2.1) (by rfl) (by omega) og) (And.intro hk (And.intro ((M.out.2.2.1).far (M.out.2.1) (by rfl) (by omega) og) (And.intro ((M.out.2.2.2.1).far (M.out.2.1) (by rfl) (by omega) og) (And.intro ((M.out.2.2.2.2.1).only og (by omega)) (And.intro ((M.out.2.2.2.2.2.1).far (M.out.2.1) (by rfl) (by omega) og) (And.intro ((M.out.2.2.2.2.2.2.1).far (M.out.2.1) (by rfl) (by omega) og) (And.intro ((M.out.2.2.2.2.2.2.2.1).only og (by omega)) (And.intro ((M.out.2.2.2.2.2.2.2.2.1).far (M.out.2.1) (by rfl) (by omega) og) (And.intro ((M.out.2.2.2.2.2.2.2.2.2.1).far (M.out.2.1) (by rfl) (by omega) og) (And.intro ((M.out.2.2.2.2.2.2.2.2.2.2.1).only og (by omega)) (And.intro ((M.out.2.2.2.2.2.2.2.2.2.2.2.1).far (M.out.2.1) (by rfl) (by omega) og) (And.intro ((M.out.2.2.2.2.2.2.2.2.2.2.2.2.1).far (M.out.2.1) (by rfl) (by omega) og) (And.intro ((M.out.2.2.2.2.2.2.2.2.2.2.2.2.2.1).only og (by omega)) (And.intro ((M.out.2.2.2.2.2.2.2.2.2.2.2.2.2.2.1).only og (by omega)) hbw)))))))))))))))
        clear hk hbw og hv hz
        refine hK.out _ _ (⟨(M.out.2.2.2.2.2.2.2.2.2.2.2.2.2.2.1).at.1 0, (M.out.2.2.2.2.2.2.2.2.2.2.2.2.2.2.1).at.1 1, (M.out.2.2.2.2.2.2.2.2.2.2.2.2.2.2.1).at.1 2, (M.out.2.2.2.2.2.2.2.2.2.2.2.2.2.2.1).at.1 3, (M.out.2.2.2.2.2.2.2.2.2.2.2.2.2.2.1).at.1 4, (M.out.2.2.2.2.2.2.2.2.2.2.2.2.2.2.1).at.1 5, (M.out.2.2.2.2.2.2.2.2.2.2.2.2.2.2.1).at.1 6, (M.out.2.2.2.2.2.2.2.2.2.2.2.2.2.2.1).at.1 7, (M.out.2.2.2.2.2.2.2.2.2.2.2.2.2.1).at.1 0, (M.out.2.2.2.2.2.2.2.2.2.2.2.2.2.1).at.1 1, (M.out.2.2.2.2.2.2.2.2.2.2.2.2.2.1).at.1 2, (M.out.2.2.2.2.2.2.2.2.2.2.2.2.2.1).at.1 3, (M.out.2.2.2.2.2.2.2.2.2.2.2.2.2.1).at.1 4, (M.out.2.2.2.2.2.2.2.2.2.2.2.2.2.1).at.1 5, (M.out.2.2.2.2.2.2.2.2.2.2.2.2.2.1).at.1 6, (M.out.2.2.2.2.2.2.2.2.2.2.2.2.2.1).at.1 7⟩) (fun hH88 => ?_)
        clear hK K hH87
        (try simp only [Act.put, List.setIfInBounds_toArray, List.set_cons_zero, List.set_cons_succ])
        refine tk at10 ?_
        refine wpAnyH_done (by kernel_rfl) ?_ _
        clear hH88
        go_wp2_with fail
        go_meet
        exact ⟨w14.heap.size, x_57, x_58, x_59, x_60, q61, x_64, x_65, x_66, x_67, q68, x_81, x_82, x_83, x_84, q85, rfl, rfl, Eq61, Eq68, Eq85, Sq61, Sq68, Sq85, (by omega), (M.out.2.1), (M.out.1), (M.out.2.2.1), (M.out.2.2.2.1), (M.out.2.2.2.2.2.1), (M.out.2.2.2.2.2.2.1), (M.out.2.2.2.2.2.2.2.2.1), (M.out.2.2.2.2.2.2.2.2.2.1), (M.out.2.2.2.2.2.2.2.2.2.2.2.1), (M.out.2.2.2.2.2.2.2.2.2.2.2.2.1), (M.out.2.2.2.2.2.2.2.2.2.2.2.2.2.2.1), (M.out.2.2.2.2.2.2.2.2.2.2.2.2.2.1), (M.out.2.2.2.2.2.2.2.2.2.2.1), (M.out.2.2.2.2.2.2.2.1), (M.out.2.2.2.2.1), (M.out.2.2.2.2.2.2.2.2.2.2.2.2.2.2.2)⟩
      refine AllReadyH.cons at8 (fun K hK => ?_) AllReadyH.nil
      go_simp
      obtain ⟨w14, hv⟩ : ∃ w_ : World, w_ = (w13.alloc (.cells #[.int .i64 0, .slice none 0 0, .int .i64 0, .slice none 0 0] 26)) := ⟨_, rfl⟩
      rw [← hv]
      have ow5_ : w10.heap.size < w13.heap.size := ((M.out.2.1)).lt
      replace M := Lib.hid (And.intro (hv ▸ bx1 w13 26 #[.int .i64 0, .slice none 0 0, .int .i64 0, .slice none 0 0]) (Goes.go M.out (hv ▸ below_alloc _ _ : Below w13.heap.size w13 w14)))
      clear hv
      refine hK.out _ _ (⟨(M.out.2.2.2.2.2.2.2.2.2.2.2.2.1).at.1 0, (M.out.2.2.2.2.2.2.2.2.2.2.2.2.1).at.1 1, (M.out.2.2.2.2.2.2.2.2.2.2.2.2.1).at.1 2, (M.out.2.2.2.2.2.2.2.2.2.2.2.2.1).at.1 3, (M.out.2.2.2.2.2.2.2.2.2.2.2.2.1).at.1 4, (M.out.2.2.2.2.2.2.2.2.2.2.2.2.1).at.1 5, (M.out.2.2.2.2.2.2.2.2.2.2.2.2.1).at.1 6, (M.out.2.2.2.2.2.2.2.2.2.2.2.2.1).at.1 7, (M.out.2.2.2.2.2.2.2.2.2.2.2.1).at.1 0, (M.out.2.2.2.2.2.2.2.2.2.2.2.1).at.1 1, (M.out.2.2.2.2.2.2.2.2.2.2.2.1).at.1 2, (M.out.2.2.2.2.2.2.2.2.2.2.2.1).at.1 3, (M.out.2.2.2.2.2.2.2.2.2.2.2.1).at.1 4, (M.out.2.2.2.2.2.2.2.2.2.2.2.1).at.1 5, (M.out.2.2.2.2.2.2.2.2.2.2.2.1).at.1 6, (M.out.2.2.2.2.2.2.2.2.2.2.2.1).at.1 7⟩) (fun hH89 => ?_)
      clear hK K hH63
      (try simp only [Act.put, List.setIfInBounds_toArray, List.set_cons_zero, List.set_cons_succ])
      refine wpAnyH_ready (rs := [3]) (by kernel_rfl) (by simp) ?_
      refine AllReadyH.cons at3 (fun K hK => ?_) AllReadyH.nil
      go_simp
      obtain ⟨q94, eq94⟩ : ∃ v_ : Rat, v_ = (r2 - r1) := ⟨_, rfl⟩
      refine (spWidth_q (G := G) (p := r1) (q := r2) (Nat.le_trans hG (M.out.2.2.2.2.2.2.2.2.2.2.2.2.2).size) (K3.out.keep (M.out.2.2.2.2.2.2.2.2.2.2.2.2.2)) (K4.out.keep (M.out.2.2.2.2.2.2.2.2.2.2.2.2.2)) (Fz.mono Z3.out (by omega)) (Fz.mono Z4.out (by omega)) (right_le HC2.out)).mono ?_
      rintro e w15 ⟨x_90, x_91, x_92, x_93, rfl, hd95, hb⟩
      rw [← eq94] at hd95
      have Sq94 : Hid (Fz q94 9) := by show Fz q94 9; rw [eq94]; exact (Fz.sub Z4.out Z3.out)
      have Eq94 := Lib.hid eq94; clear eq94
      replace M := Lib.hid (And.intro hd95 (Goes.go M.out hb))
      clear hb hd95
      (try go_wp2_with fail)
      refine hK.out _ _ (⟨(M.out.2.2.2.2.2.2.2.2.2.2.2.2.2.1).at.1 0, (M.out.2.2.2.2.2.2.2.2.2.2.2.2.2.1).at.1 1, (M.out.2.2.2.2.2.2.2.2.2.2.2.2.2.1).at.1 2, (M.out.2.2.2.2.2.2.2.2.2.2.2.2.2.1).at.1 3, (M.out.2.2.2.2.2.2.2.2.2.2.2.2.2.1).at.1 4, (M.out.2.2.2.2.2.2.2.2.2.2.2.2.2.1).at.1 5, (M.out.2.2.2.2.2.2.2.2.2.2.2.2.2.1).at.1 6, (M.out.2.2.2.2.2.2.2.2.2.2.2.2.2.1).at.1 7, (M.out.2.2.2.2.2.2.2.2.2.2.2.2.1).at.1 0, (M.out.2.2.2.2.2.2.2.2.2.2.2.2.1).at.1 1, (M.out.2.2.2.2.2.2.2.2.2.2.2.2.1).at.1 2, (M.out.2.2.2.2.2.2.2.2.2.2.2.2.1).at.1 3, (M.out.2.2.2.2.2.2.2.2.2.2.2.2.1).at.1 4, (M.out.2.2.2.2.2.2.2.2.2.2.2.2.1).at.1 5, (M.out.2.2.2.2.2.2.2.2.2.2.2.2.1).at.1 6, (M.out.2.2.2.2.2.2.2.2.2.2.2.2.1).at.1 7⟩) (fun hH96 => ?_)
      clear hK K hH89
      (try simp only [Act.put, List.setIfInBounds_toArray, List.set_cons_zero, List.set_cons_succ])
      refine wpAnyH_ready (rs := [4]) (by kernel_rfl) (by simp) ?_
      refine AllReadyH.cons at4 (fun K hK => ?_) AllReadyH.nil
      go_simp
      obtain ⟨q101, eq101⟩ : ∃ v_ : Rat, v_ = (q61 + q94) := ⟨_, rfl⟩
      refine (fqAdd (G := G) (q := q61) (r := q94) (M.out.2.2.1) (M.out.1) (Fz.mono Sq61.out (by omega)) (Fz.mono Sq94.out (by omega))).mono ?_
      rintro e w16 ⟨x_97, x_98, x_99, x_100, rfl, hd102, hb⟩
      rw [← eq101] at hd102
      have Sq101 : Hid (Fz q101 19) := by show Fz q101 19; rw [eq101]; exact (Fz.add Sq61.out Sq94.out)
      have Eq101 := Lib.hid eq101; clear eq101
      replace M := Lib.hid (And.intro hd102 (Goes.go M.out hb))
      clear hb hd102
      (try go_wp2_with fail)
      refine hK.out _ _ (⟨(M.out.2.2.2.2.2.2.2.2.2.2.2.2.2.2.1).at.1 0, (M.out.2.2.2.2.2.2.2.2.2.2.2.2.2.2.1).at.1 1, (M.out.2.2.2.2.2.2.2.2.2.2.2.2.2.2.1).at.1 2, (M.out.2.2.2.2.2.2.2.2.2.2.2.2.2.2.1).at.1 3, (M.out.2.2.2.2.2.2.2.2.2.2.2.2.2.2.1).at.1 4, (M.out.2.2.2.2.2.2.2.2.2.2.2.2.2.2.1).at.1 5, (M.out.2.2.2.2.2.2.2.2.2.2.2.2.2.2.1).at.1 6, (M.out.2.2.2.2.2.2.2.2.2.2.2.2.2.2.1).at.1 7, (M.out.2.2.2.2.2.2.2.2.2.2.2.2.2.1).at.1 0, (M.out.2.2.2.2.2.2.2.2.2.2.2.2.2.1).at.1 1, (M.out.2.2.2.2.2.2.2.2.2.2.2.2.2.1).at.1 2, (M.out.2.2.2.2.2.2.2.2.2.2.2.2.2.1).at.1 3, (M.out.2.2.2.2.2.2.2.2.2.2.2.2.2.1).at.1 4, (M.out.2.2.2.2.2.2.2.2.2.2.2.2.2.1).at.1 5, (M.out.2.2.2.2.2.2.2.2.2.2.2.2.2.1).at.1 6, (M.out.2.2.2.2.2.2.2.2.2.2.2.2.2.1).at.1 7⟩) (fun hH103 => ?_)
      clear hK K hH96
      (try simp only [Act.put, List.setIfInBounds_toArray, List.set_cons_zero, List.set_cons_succ])
      refine tk at5 ?_
      refine tk at6 ?_
      refine tk at7 ?_
      refine wpAnyH_ready (rs := [9]) (by kernel_rfl) (by simp) ?_
      refine AllReadyH.cons at9 (fun K hK => ?_) AllReadyH.nil
      have y5 := (M.out.2.2.1).c4; have p5_0 := y5.1; have q5_0 := y5.2.1; have p5_1 := y5.2.2.1; have q5_1 := y5.2.2.2.1; have p5_2 := y5.2.2.2.2.1; have q5_2 := y5.2.2.2.2.2.1; have p5_3 := y5.2.2.2.2.2.2.1; have q5_3 := y5.2.2.2.2.2.2.2; clear y5
      have ys_x_97 := TQ.st (M.out.1); have st_x_97 := ys_x_97.1; have st_x_98 := ys_x_97.2.1; have st_x_99 := ys_x_97.2.2.1; have st_x_100 := ys_x_97.2.2.2; clear ys_x_97
      go_simp
      clear p5_0 q5_0 p5_1 q5_1 p5_2 q5_2 p5_3 q5_3 st_x_97 st_x_98 st_x_99 st_x_100
      obtain ⟨w17, hv⟩ : ∃ w_ : World, w_ = ((((w16.setCell ⟨w13.heap.size, 0, none⟩ (x_97)).setCell ⟨w13.heap.size, 1, none⟩ (x_98)).setCell ⟨w13.heap.size, 2, none⟩ (x_99)).setCell ⟨w13.heap.size, 3, none⟩ (x_100)) := ⟨_, rfl⟩
      rw [← hv]
      have og : w16.grownBy w17 (some w13.heap.size) := by rw [hv]; exact (only_setCell (only_setCell (only_setCell (only_setCell (World.grownBy.refl _ _) _) _) _) _)
      have hz : w.heap.size ≤ w13.heap.size := by omega
      have hk : Bx w17 w13.heap.size 26 #[x_97, x_98, x_99, x_100] := by rw [hv]; exact (((((M.out.2.2.1).set 0 _).set 1 _).set 2 _).set 3 _)
      have hbw : Below w.heap.size w w17 := by rw [hv]; exact (Below.setCell (Below.setCell (Below.setCell (Below.setCell (M.out.2.2.2.2.2.2.2.2.2.2.2.2.2.2.2) (by omega) _) (by omega) _) (by omega) _) (by omega) _)
      replace M := Lib.hid (And.intro ((M.out.1).far (M.out.2.2.1) (by rfl) (by omega) og) (And.intro ((M.out.2.1).far (M.out.2.2.1) (by rfl) (by omega) og) (And.intro hk (And.intro ((M.out.2.2.2.1).far (M.out.2.2.1) (by rfl) (by omega) og) (And.intro ((M.out.2.2.2.2.1).only og (by omega)) (And.intro ((M.out.2.2.2.2.2.1).far (M.out.2.2.1) (by rfl) (by omega) og) (And.intro ((M.out.2.2.2.2.2.2.1).far (M.out.2.2.1) (by rfl) (by omega) og) (And.intro ((M.out.2.2.2.2.2.2.2.1).only og (by omega)) (And.intro ((M.out.2.2.2.2.2.2.2.2.1).far (M.out.2.2.1) (by rfl) (by omega) og) (And.intro ((M.out.2.2.2.2.2.2.2.2.2.1).far (M.out.2.2.1) (by rfl) (by omega) og) (And.intro ((M.out.2.2.2.2.2.2.2.2.2.2.1).only og (by omega)) (And.intro ((M.out.2.2.2.2.2.2.2.2.2.2.2.1).far (M.out.2.2.1) (by rfl) (by omega) og) (And.intro ((M.out.2.2.2.2.2.2.2.2.2.2.2.2.1).far (M.out.2.2.1) (by rfl) (by omega) og) (And.intro ((M.out.2.2.2.2.2.2.2.2.2.2.2.2.2.1).only og (by omega)) (And.intro ((M.out.2.2.2.2.2.2.2.2.2.2.2.2.2.2.1).only og (by omega)) hbw)))))))))))))))
      clear hk hbw og hv hz
      refine hK.out _ _ (⟨(M.out.2.2.2.2.2.2.2.2.2.2.2.2.2.2.1).at.1 0, (M.out.2.2.2.2.2.2.2.2.2.2.2.2.2.2.1).at.1 1, (M.out.2.2.2.2.2.2.2.2.2.2.2.2.2.2.1).at.1 2, (M.out.2.2.2.2.2.2.2.2.2.2.2.2.2.2.1).at.1 3, (M.out.2.2.2.2.2.2.2.2.2.2.2.2.2.2.1).at.1 4, (M.out.2.2.2.2.2.2.2.2.2.2.2.2.2.2.1).at.1 5, (M.out.2.2.2.2.2.2.2.2.2.2.2.2.2.2.1).at.1 6, (M.out.2.2.2.2.2.2.2.2.2.2.2.2.2.2.1).at.1 7, (M.out.2.2.2.2.2.2.2.2.2.2.2.2.2.1).at.1 0, (M.out.2.2.2.2.2.2.2.2.2.2.2.2.2.1).at.1 1, (M.out.2.2.2.2.2.2.2.2.2.2.2.2.2.1).at.1 2, (M.out.2.2.2.2.2.2.2.2.2.2.2.2.2.1).at.1 3, (M.out.2.2.2.2.2.2.2.2.2.2.2.2.2.1).at.1 4, (M.out.2.2.2.2.2.2.2.2.2.2.2.2.2.1).at.1 5, (M.out.2.2.2.2.2.2.2.2.2.2.2.2.2.1).at.1 6, (M.out.2.2.2.2.2.2.2.2.2.2.2.2.2.1).at.1 7⟩) (fun hH104 => ?_)
      clear hK K hH103
      (try simp only [Act.put, List.setIfInBounds_toArray, List.set_cons_zero, List.set_cons_succ])
      refine tk at10 ?_
      refine wpAnyH_done (by kernel_rfl) ?_ _
      clear hH104
      go_wp2_with fail
      go_meet
      exact ⟨w13.heap.size, x_57, x_58, x_59, x_60, q61, x_90, x_91, x_92, x_93, q94, x_97, x_98, x_99, x_100, q101, rfl, rfl, Eq61, Eq94, Eq101, Sq61, Sq94, Sq101, (by omega), (M.out.2.2.1), (M.out.1), (M.out.2.1), (M.out.2.2.2.1), (M.out.2.2.2.2.2.1), (M.out.2.2.2.2.2.2.1), (M.out.2.2.2.2.2.2.2.2.1), (M.out.2.2.2.2.2.2.2.2.2.1), (M.out.2.2.2.2.2.2.2.2.2.2.2.1), (M.out.2.2.2.2.2.2.2.2.2.2.2.2.1), (M.out.2.2.2.2.2.2.2.2.2.2.2.2.2.2.1), (M.out.2.2.2.2.2.2.2.2.2.2.2.2.2.1), (M.out.2.2.2.2.2.2.2.2.2.2.1), (M.out.2.2.2.2.2.2.2.1), (M.out.2.2.2.2.1), (M.out.2.2.2.2.2.2.2.2.2.2.2.2.2.2.2)⟩
    refine AllReadyH.cons at8 (fun K hK => ?_) AllReadyH.nil
    go_simp
    obtain ⟨w13, hv⟩ : ∃ w_ : World, w_ = (w12.alloc (.cells #[.int .i64 0, .slice none 0 0, .int .i64 0, .slice none 0 0] 26)) := ⟨_, rfl⟩
    rw [← hv]
    have ow5_ : w10.heap.size < w12.heap.size := ((M.out.1)).lt
    replace M := Lib.hid (And.intro (hv ▸ bx1 w12 26 #[.int .i64 0, .slice none 0 0, .int .i64 0, .slice none 0 0]) (Goes.go M.out (hv ▸ below_alloc _ _ : Below w12.heap.size w12 w13)))
    clear hv
    refine hK.out _ _ (⟨(M.out.2.2.2.2.2.2.2.2.2.2.2.1).at.1 0, (M.out.2.2.2.2.2.2.2.2.2.2.2.1).at.1 1, (M.out.2.2.2.2.2.2.2.2.2.2.2.1).at.1 2, (M.out.2.2.2.2.2.2.2.2.2.2.2.1).at.1 3, (M.out.2.2.2.2.2.2.2.2.2.2.2.1).at.1 4, (M.out.2.2.2.2.2.2.2.2.2.2.2.1).at.1 5, (M.out.2.2.2.2.2.2.2.2.2.2.2.1).at.1 6, (M.out.2.2.2.2.2.2.2.2.2.2.2.1).at.1 7, (M.out.2.2.2.2.2.2.2.2.2.2.1).at.1 0, (M.out.2.2.2.2.2.2.2.2.2.2.1).at.1 1, (M.out.2.2.2.2.2.2.2.2.2.2.1).at.1 2, (M.out.2.2.2.2.2.2.2.2.2.2.1).at.1 3, (M.out.2.2.2.2.2.2.2.2.2.2.1).at.1 4, (M.out.2.2.2.2.2.2.2.2.2.2.1).at.1 5, (M.out.2.2.2.2.2.2.2.2.2.2.1).at.1 6, (M.out.2.2.2.2.2.2.2.2.2.2.1).at.1 7⟩) (fun hH105 => ?_)
    clear hK K hH56
    (try simp only [Act.put, List.setIfInBounds_toArray, List.set_cons_zero, List.set_cons_succ])
    refine wpAnyH_ready (rs := [1]) (by kernel_rfl) (by simp) ?_
    refine AllReadyH.cons at1 (fun K hK => ?_) AllReadyH.nil
    go_simp
    obtain ⟨q110, eq110⟩ : ∃ v_ : Rat, v_ = (p2 - p1) := ⟨_, rfl⟩
    refine (spWidth_q (G := G) (p := p1) (q := p2) (Nat.le_trans hG (M.out.2.2.2.2.2.2.2.2.2.2.2.2).size) (K1.out.keep (M.out.2.2.2.2.2.2.2.2.2.2.2.2)) (K2.out.keep (M.out.2.2.2.2.2.2.2.2.2.2.2.2)) (Fz.mono Z1.out (by omega)) (Fz.mono Z2.out (by omega)) (right_le HC1.out)).mono ?_
    rintro e w14 ⟨x_106, x_107, x_108, x_109, rfl, hd111, hb⟩
    rw [← eq110] at hd111
    have Sq110 : Hid (Fz q110 9) := by show Fz q110 9; rw [eq110]; exact (Fz.sub Z2.out Z1.out)
    have Eq110 := Lib.hid eq110; clear eq110
    replace M := Lib.hid (And.intro hd111 (Goes.go M.out hb))
    clear hb hd111
    (try go_wp2_with fail)
    refine hK.out _ _ (⟨(M.out.2.2.2.2.2.2.2.2.2.2.2.2.1).at.1 0, (M.out.2.2.2.2.2.2.2.2.2.2.2.2.1).at.1 1, (M.out.2.2.2.2.2.2.2.2.2.2.2.2.1).at.1 2, (M.out.2.2.2.2.2.2.2.2.2.2.2.2.1).at.1 3, (M.out.2.2.2.2.2.2.2.2.2.2.2.2.1).at.1 4, (M.out.2.2.2.2.2.2.2.2.2.2.2.2.1).at.1 5, (M.out.2.2.2.2.2.2.2.2.2.2.2.2.1).at.1 6, (M.out.2.2.2.2.2.2.2.2.2.2.2.2.1).at.1 7, (M.out.2.2.2.2.2.2.2.2.2.2.2.1).at.1 0, (M.out.2.2.2.2.2.2.2.2.2.2.2.1).at.1 1, (M.out.2.2.2.2.2.2.2.2.2.2.2.1).at.1 2, (M.out.2.2.2.2.2.2.2.2.2.2.2.1).at.1 3, (M.out.2.2.2.2.2.2.2.2.2.2.2.1).at.1 4, (M.out.2.2.2.2.2.2.2.2.2.2.2.1).at.1 5, (M.out.2.2.2.2.2.2.2.2.2.2.2.1).at.1 6, (M.out.2.2.2.2.2.2.2.2.2.2.2.1).at.1 7⟩) (fun hH112 => ?_)
    clear hK K hH105
    (try simp only [Act.put, List.setIfInBounds_toArray, List.set_cons_zero, List.set_cons_succ])
    refine wpAnyH_ready (rs := [3]) (by kernel_rfl) (by simp) ?_
    refine AllReadyH.cons at3 (fun K hK => ?_) AllReadyH.nil
    go_simp
    obtain ⟨q117, eq117⟩ : ∃ v_ : Rat, v_ = (r2 - r1) := ⟨_, rfl⟩
    refine (spWidth_q (G := G) (p := r1) (q := r2) (Nat.le_trans hG (M.out.2.2.2.2.2.2.2.2.2.2.2.2.2).size) (K3.out.keep (M.out.2.2.2.2.2.2.2.2.2.2.2.2.2)) (K4.out.keep (M.out.2.2.2.2.2.2.2.2.2.2.2.2.2)) (Fz.mono Z3.out (by omega)) (Fz.mono Z4.out (by omega)) (right_le HC2.out)).mono ?_
    rintro e w15 ⟨x_113, x_114, x_115, x_116, rfl, hd118, hb⟩
    rw [← eq117] at hd118
    have Sq117 : Hid (Fz q117 9) := by show Fz q117 9; rw [eq117]; exact (Fz.sub Z4.out Z3.out)
    have Eq117 := Lib.hid eq117; clear eq117
    replace M := Lib.hid (And.intro hd118 (Goes.go M.out hb))
    clear hb hd118
    (try go_wp2_with fail)
    refine hK.out _ _ (⟨(M.out.2.2.2.2.2.2.2.2.2.2.2.2.2.1).at.1 0, (M.out.2.2.2.2.2.2.2.2.2.2.2.2.2.1).at.1 1, (M.out.2.2.2.2.2.2.2.2.2.2.2.2.2.1).at.1 2, (M.out.2.2.2.2.2.2.2.2.2.2.2.2.2.1).at.1 3, (M.out.2.2.2.2.2.2.2.2.2.2.2.2.2.1).at.1 4, (M.out.2.2.2.2.2.2.2.2.2.2.2.2.2.1).at.1 5, (M.out.2.2.2.2.2.2.2.2.2.2.2.2.2.1).at.1 6, (M.out.2.2.2.2.2.2.2.2.2.2.2.2.2.1).at.1 7, (M.out.2.2.2.2.2.2.2.2.2.2.2.2.1).at.1 0, (M.out.2.2.2.2.2.2.2.2.2.2.2.2.1).at.1 1, (M.out.2.2.2.2.2.2.2.2.2.2.2.2.1).at.1 2, (M.out.2.2.2.2.2.2.2.2.2.2.2.2.1).at.1 3, (M.out.2.2.2.2.2.2.2.2.2.2.2.2.1).at.1 4, (M.out.2.2.2.2.2.2.2.2.2.2.2.2.1).at.1 5, (M.out.2.2.2.2.2.2.2.2.2.2.2.2.1).at.1 6, (M.out.2.2.2.2.2.2.2.2.2.2.2.2.1).at.1 7⟩) (fun hH119 => ?_)
    clear hK K hH112
    (try simp only [Act.put, List.setIfInBounds_toArray, List.set_cons_zero, List.set_cons_succ])
    refine wpAnyH_ready (rs := [4]) (by kernel_rfl) (by simp) ?_
    refine AllReadyH.cons at4 (fun K hK => ?_) AllReadyH.nil
    go_simp
    obtain ⟨q124, eq124⟩ : ∃ v_ : Rat, v_ = (q110 + q117) := ⟨_, rfl⟩
    refine (fqAdd (G := G) (q := q110) (r := q117) (M.out.2.1) (M.out.1) (Fz.mono Sq110.out (by omega)) (Fz.mono Sq117.out (by omega))).mono ?_
    rintro e w16 ⟨x_120, x_121, x_122, x_123, rfl, hd125, hb⟩
    rw [← eq124] at hd125
    have Sq124 : Hid (Fz q124 19) := by show Fz q124 19; rw [eq124]; exact (Fz.add Sq110.out Sq117.out)
    have Eq124 := Lib.hid eq124; clear eq124
    replace M := Lib.hid (And.intro hd125 (Goes.go M.out hb))
    clear hb hd125
    (try go_wp2_with fail)
    refine hK.out _ _ (⟨(M.out.2.2.2.2.2.2.2.2.2.2.2.2.2.2.1).at.1 0, (M.out.2.2.2.2.2.2.2.2.2.2.2.2.2.2.1).at.1 1, (M.out.2.2.2.2.2.2.2.2.2.2.2.2.2.2.1).at.1 2, (M.out.2.2.2.2.2.2.2.2.2.2.2.2.2.2.1).at.1 3, (M.out.2.2.2.2.2.2.2.2.2.2.2.2.2.2.1).at.1 4, (M.out.2.2.2.2.2.2.2.2.2.2.2.2.2.2.1).at.1 5, (M.out.2.2.2.2.2.2.2.2.2.2.2.2.2.2.1).at.1 6, (M.out.2.2.2.2.2.2.2.2.2.2.2.2.2.2.1).at.1 7, (M.out.2.2.2.2.2.2.2.2.2.2.2.2.2.1).at.1 0, (M.out.2.2.2.2.2.2.2.2.2.2.2.2.2.1).at.1 1, (M.out.2.2.2.2.2.2.2.2.2.2.2.2.2.1).at.1 2, (M.out.2.2.2.2.2.2.2.2.2.2.2.2.2.1).at.1 3, (M.out.2.2.2.2.2.2.2.2.2.2.2.2.2.1).at.1 4, (M.out.2.2.2.2.2.2.2.2.2.2.2.2.2.1).at.1 5, (M.out.2.2.2.2.2.2.2.2.2.2.2.2.2.1).at.1 6, (M.out.2.2.2.2.2.2.2.2.2.2.2.2.2.1).at.1 7⟩) (fun hH126 => ?_)
    clear hK K hH119
    (try simp only [Act.put, List.setIfInBounds_toArray, List.set_cons_zero, List.set_cons_succ])
    refine tk at5 ?_
    refine tk at6 ?_
    refine tk at7 ?_
    refine wpAnyH_ready (rs := [9]) (by kernel_rfl) (by simp) ?_
    refine AllReadyH.cons at9 (fun K hK => ?_) AllReadyH.nil
    have y5 := (M.out.2.2.2.1).c4; have p5_0 := y5.1; have q5_0 := y5.2.1; have p5_1 := y5.2.2.1; have q5_1 := y5.2.2.2.1; have p5_2 := y5.2.2.2.2.1; have q5_2 := y5.2.2.2.2.2.1; have p5_3 := y5.2.2.2.2.2.2.1; have q5_3 := y5.2.2.2.2.2.2.2; clear y5
    have ys_x_120 := TQ.st (M.out.1); have st_x_120 := ys_x_120.1; have st_x_121 := ys_x_120.2.1; have st_x_122 := ys_x_120.2.2.1; have st_x_123 := ys_x_120.2.2.2; clear ys_x_120
    go_simp
    clear p5_0 q5_0 p5_1 q5_1 p5_2 q5_2 p5_3 q5_3 st_x_120 st_x_121 st_x_122 st_x_123
    obtain ⟨w17, hv⟩ : ∃ w_ : World, w_ = ((((w16.setCell ⟨w12.heap.size, 0, none⟩ (x_120)).setCell ⟨w12.heap.size, 1, none⟩ (x_121)).setCell ⟨w12.heap.size, 2, none⟩ (x_122)).setCell ⟨w12.heap.size, 3, none⟩ (x_123)) := ⟨_, rfl⟩
    rw [← hv]
    have og : w16.grownBy w17 (some w12.heap.size) := by rw [hv]; exact (only_setCell (only_setCell (only_setCell (only_setCell (World.grownBy.refl _ _) _) _) _) _)
    have hz : w.heap.size ≤ w12.heap.size := by omega
    have hk : Bx w17 w12.heap.size 26 #[x_120, x_121, x_122, x_123] := by rw [hv]; exact (((((M.out.2.2.2.1).set 0 _).set 1 _).set 2 _).set 3 _)
    have hbw : Below w.heap.size w w17 := by rw [hv]; exact (Below.setCell (Below.setCell (Below.setCell (Below.setCell (M.out.2.2.2.2.2.2.2.2.2.2.2.2.2.2.2) (by omega) _) (by omega) _) (by omega) _) (by omega) _)
    replace M := Lib.hid (And.intro ((M.out.1).far (M.out.2.2.2.1) (by rfl) (by omega) og) (And.intro ((M.out.2.1).far (M.out.2.2.2.1) (by rfl) (by omega) og) (And.intro ((M.out.2.2.1).far (M.out.2.2.2.1) (by rfl) (by omega) og) (And.intro hk (And.intro ((M.out.2.2.2.2.1).only og (by omega)) (And.intro ((M.out.2.2.2.2.2.1).far (M.out.2.2.2.1) (by rfl) (by omega) og) (And.intro ((M.out.2.2.2.2.2.2.1).far (M.out.2.2.2.1) (by rfl) (by omega) og) (And.intro ((M.out.2.2.2.2.2.2.2.1).only og (by omega)) (And.intro ((M.out.2.2.2.2.2.2.2.2.1).far (M.out.2.2.2.1) (by rfl) (by omega) og) (And.intro ((M.out.2.2.2.2.2.2.2.2.2.1).far (M.out.2.2.2.1) (by rfl) (by omega) og) (And.intro ((M.out.2.2.2.2.2.2.2.2.2.2.1).only og (by omega)) (And.intro ((M.out.2.2.2.2.2.2.2.2.2.2.2.1).far (M.out.2.2.2.1) (by rfl) (by omega) og) (And.intro ((M.out.2.2.2.2.2.2.2.2.2.2.2.2.1).far (M.out.2.2.2.1) (by rfl) (by omega) og) (And.intro ((M.out.2.2.2.2.2.2.2.2.2.2.2.2.2.1).only og (by omega)) (And.intro ((M.out.2.2.2.2.2.2.2.2.2.2.2.2.2.2.1).only og (by omega)) hbw)))))))))))))))
    clear hk hbw og hv hz
    refine hK.out _ _ (⟨(M.out.2.2.2.2.2.2.2.2.2.2.2.2.2.2.1).at.1 0, (M.out.2.2.2.2.2.2.2.2.2.2.2.2.2.2.1).at.1 1, (M.out.2.2.2.2.2.2.2.2.2.2.2.2.2.2.1).at.1 2, (M.out.2.2.2.2.2.2.2.2.2.2.2.2.2.2.1).at.1 3, (M.out.2.2.2.2.2.2.2.2.2.2.2.2.2.2.1).at.1 4, (M.out.2.2.2.2.2.2.2.2.2.2.2.2.2.2.1).at.1 5, (M.out.2.2.2.2.2.2.2.2.2.2.2.2.2.2.1).at.1 6, (M.out.2.2.2.2.2.2.2.2.2.2.2.2.2.2.1).at.1 7, (M.out.2.2.2.2.2.2.2.2.2.2.2.2.2.1).at.1 0, (M.out.2.2.2.2.2.2.2.2.2.2.2.2.2.1).at.1 1, (M.out.2.2.2.2.2.2.2.2.2.2.2.2.2.1).at.1 2, (M.out.2.2.2.2.2.2.2.2.2.2.2.2.2.1).at.1 3, (M.out.2.2.2.2.2.2.2.2.2.2.2.2.2.1).at.1 4, (M.out.2.2.2.2.2.2.2.2.2.2.2.2.2.1).at.1 5, (M.out.2.2.2.2.2.2.2.2.2.2.2.2.2.1).at.1 6, (M.out.2.2.2.2.2.2.2.2.2.2.2.2.2.1).at.1 7⟩) (fun hH127 => ?_)
    clear hK K hH126
    (try simp only [Act.put, List.setIfInBounds_toArray, List.set_cons_zero, List.set_cons_succ])
    refine tk at10 ?_
    refine wpAnyH_done (by kernel_rfl) ?_ _
    clear hH127
    go_wp2_with fail
    go_meet
    exact ⟨w12.heap.size, x_106, x_107, x_108, x_109, q110, x_113, x_114, x_115, x_116, q117, x_120, x_121, x_122, x_123, q124, rfl, rfl, Eq110, Eq117, Eq124, Sq110, Sq117, Sq124, (by omega), (M.out.2.2.2.1), (M.out.1), (M.out.2.1), (M.out.2.2.1), (M.out.2.2.2.2.2.1), (M.out.2.2.2.2.2.2.1), (M.out.2.2.2.2.2.2.2.2.1), (M.out.2.2.2.2.2.2.2.2.2.1), (M.out.2.2.2.2.2.2.2.2.2.2.2.1), (M.out.2.2.2.2.2.2.2.2.2.2.2.2.1), (M.out.2.2.2.2.2.2.2.2.2.2.2.2.2.2.1), (M.out.2.2.2.2.2.2.2.2.2.2.2.2.2.1), (M.out.2.2.2.2.2.2.2.2.2.2.1), (M.out.2.2.2.2.2.2.2.1), (M.out.2.2.2.2.1), (M.out.2.2.2.2.2.2.2.2.2.2.2.2.2.2.2)⟩
  case rest =>
    obtain ⟨A55, x_37, x_38, x_39, x_40, q41, x_43, x_44, x_45, x_46, q47, x_49, x_50, x_51, x_52, q53, rfl, rfl, Eq41, Eq47, Eq53, Sq41, Sq47, Sq53, oA55, M⟩ := hcut
    obtain ⟨w12, rfl⟩ : ∃ w_ : World, w_ = wc := ⟨_, rfl⟩
    go_wp2_with fail
    replace M := Lib.hid (And.intro (M.out.1) (And.intro (M.out.2.1) (And.intro (M.out.2.2.2.2.1) (And.intro (M.out.2.2.2.2.2.1) (And.intro (M.out.2.2.2.2.2.2.1) (And.intro (M.out.2.2.2.2.2.2.2.1) (And.intro (M.out.2.2.2.2.2.2.2.2.1) (And.intro (M.out.2.2.2.2.2.2.2.2.2.1) (And.intro (M.out.2.2.2.2.2.2.2.2.2.2.1) (And.intro (M.out.2.2.2.2.2.2.2.2.2.2.2.1) (And.intro (M.out.2.2.2.2.2.2.2.2.2.2.2.2.1) (And.intro (M.out.2.2.2.2.2.2.2.2.2.2.2.2.2.1) (And.intro (M.out.2.2.2.2.2.2.2.2.2.2.2.2.2.2.1) (M.out.2.2.2.2.2.2.2.2.2.2.2.2.2.2.2))))))))))))))
    obtain ⟨w13, hv⟩ : ∃ w_ : World, w_ = w12.drew := ⟨_, rfl⟩
    replace M := Lib.hid (Goes.go M.out (hv ▸ below_drew _ : Below w12.heap.size w12 w13))
    refine wp_region_held_drew (S := (fun w' => w'.cell? ⟨w.heap.size, 0, none⟩ = some (u0) ∧ w'.cell? ⟨w.heap.size, 1, none⟩ = some (u1) ∧ w'.cell? ⟨w.heap.size, 2, none⟩ = some (u2) ∧ w'.cell? ⟨w.heap.size, 3, none⟩ = some (u3) ∧ w'.cell? ⟨w.heap.size, 4, none⟩ = some (u4) ∧ w'.cell? ⟨w.heap.size, 5, none⟩ = some (u5) ∧ w'.cell? ⟨w.heap.size, 6, none⟩ = some (u6) ∧ w'.cell? ⟨w.heap.size, 7, none⟩ = some (u7) ∧ w'.cell? ⟨w6.heap.size, 0, none⟩ = some (x_1) ∧ w'.cell? ⟨w6.heap.size, 1, none⟩ = some (x_2) ∧ w'.cell? ⟨w6.heap.size, 2, none⟩ = some (x_3) ∧ w'.cell? ⟨w6.heap.size, 3, none⟩ = some (x_4) ∧ w'.cell? ⟨w6.heap.size, 4, none⟩ = some (x_5) ∧ w'.cell? ⟨w6.heap.size, 5, none⟩ = some (x_6) ∧ w'.cell? ⟨w6.heap.size, 6, none⟩ = some (x_7) ∧ w'.cell? ⟨w6.heap.size, 7, none⟩ = some (x_8) ∧ w'.cell? ⟨w8.heap.size, 0, none⟩ = some (x_13) ∧ w'.cell? ⟨w8.heap.size, 1, none⟩ = some (x_14) ∧ w'.cell? ⟨w8.heap.size, 2, none⟩ = some (x_15) ∧ w'.cell? ⟨w8.heap.size, 3, none⟩ = some (x_16) ∧ w'.cell? ⟨w8.heap.size, 4, none⟩ = some (x_17) ∧ w'.cell? ⟨w8.heap.size, 5, none⟩ = some (x_18) ∧ w'.cell? ⟨w8.heap.size, 6, none⟩ = some (x_19) ∧ w'.cell? ⟨w8.heap.size, 7, none⟩ = some (x_20) ∧ w'.cell? ⟨w10.heap.size, 0, none⟩ = some (x_25) ∧ w'.cell? ⟨w10.heap.size, 1, none⟩ = some (x_26) ∧ w'.cell? ⟨w10.heap.size, 2, none⟩ = some (x_27) ∧ w'.cell? ⟨w10.heap.size, 3, none⟩ = some (x_28) ∧ w'.cell? ⟨w10.heap.size, 4, none⟩ = some (x_29) ∧ w'.cell? ⟨w10.heap.size, 5, none⟩ = some (x_30) ∧ w'.cell? ⟨w10.heap.size, 6, none⟩ = some (x_31) ∧ w'.cell? ⟨w10.heap.size, 7, none⟩ = some (x_32) ∧ w'.cell? ⟨A55, 0, none⟩ = some (x_49) ∧ w'.cell? ⟨A55, 1, none⟩ = some (x_50) ∧ w'.cell? ⟨A55, 2, none⟩ = some (x_51) ∧ w'.cell? ⟨A55, 3, none⟩ = some (x_52))) (by kernel_rfl) (by rw [← hv]; exact ⟨(M.out.2.2.2.2.2.2.2.2.1).at.1 0, (M.out.2.2.2.2.2.2.2.2.1).at.1 1, (M.out.2.2.2.2.2.2.2.2.1).at.1 2, (M.out.2.2.2.2.2.2.2.2.1).at.1 3, (M.out.2.2.2.2.2.2.2.2.1).at.1 4, (M.out.2.2.2.2.2.2.2.2.1).at.1 5, (M.out.2.2.2.2.2.2.2.2.1).at.1 6, (M.out.2.2.2.2.2.2.2.2.1).at.1 7, (M.out.2.2.2.2.2.2.2.2.2.2.1).at.1 0, (M.out.2.2.2.2.2.2.2.2.2.2.1).at.1 1, (M.out.2.2.2.2.2.2.2.2.2.2.1).at.1 2, (M.out.2.2.2.2.2.2.2.2.2.2.1).at.1 3, (M.out.2.2.2.2.2.2.2.2.2.2.1).at.1 4, (M.out.2.2.2.2.2.2.2.2.2.2.1).at.1 5, (M.out.2.2.2.2.2.2.2.2.2.2.1).at.1 6, (M.out.2.2.2.2.2.2.2.2.2.2.1).at.1 7, (M.out.2.2.2.2.2.2.2.2.2.2.2.1).at.1 0, (M.out.2.2.2.2.2.2.2.2.2.2.2.1).at.1 1, (M.out.2.2.2.2.2.2.2.2.2.2.2.1).at.1 2, (M.out.2.2.2.2.2.2.2.2.2.2.2.1).at.1 3, (M.out.2.2.2.2.2.2.2.2.2.2.2.1).at.1 4, (M.out.2.2.2.2.2.2.2.2.2.2.2.1).at.1 5, (M.out.2.2.2.2.2.2.2.2.2.2.2.1).at.1 6, (M.out.2.2.2.2.2.2.2.2.2.2.2.1).at.1 7, (M.out.2.2.2.2.2.2.2.2.2.2.2.2.1).at.1 0, (M.out.2.2.2.2.2.2.2.2.2.2.2.2.1).at.1 1, (M.out.2.2.2.2.2.2.2.2.2.2.2.2.1).at.1 2, (M.out.2.2.2.2.2.2.2.2.2.2.2.2.1).at.1 3, (M.out.2.2.2.2.2.2.2.2.2.2.2.2.1).at.1 4, (M.out.2.2.2.2.2.2.2.2.2.2.2.2.1).at.1 5, (M.out.2.2.2.2.2.2.2.2.2.2.2.2.1).at.1 6, (M.out.2.2.2.2.2.2.2.2.2.2.2.2.1).at.1 7, (M.out.1).at.1 0, (M.out.1).at.1 1, (M.out.1).at.1 2, (M.out.1).at.1 3⟩) (fun hH140 => ?_)
    rw [← hv] at hH140 ⊢
    clear hv
    refine tk at0 ?_
    refine tk at1 ?_
    refine tk at2 ?_
    refine tk at3 ?_
    refine tk at4 ?_
    refine tk at5 ?_
    refine tk at6 ?_
    refine tk at7 ?_
    refine tk at8 ?_
    refine tk at9 ?_
    refine tk at10 ?_
    refine tk at11 ?_
    refine tk at12 ?_
    refine tk at13 ?_
    refine tk at14 ?_
    refine tk at15 ?_
    refine tk at17 ?_
    refine wpAnyH_ready (rs := [16]) (by kernel_rfl) (by simp) ?_
    refine AllReadyH.cons at16 (fun K hK => ?_) AllReadyH.nil
    go_simp
    obtain ⟨q145, eq145⟩ : ∃ v_ : Rat, v_ = (q10 - q9) := ⟨_, rfl⟩
    refine (spWidth_q (G := G) (p := q9) (q := q10) (Nat.le_trans hG (M.out.2.2.2.2.2.2.2.2.2.2.2.2.2).size) (M.out.2.2.2.2.2.2.1) (M.out.2.2.2.2.2.2.2.1) (Fz.mono Sq9.out (by omega)) (Fz.mono Sq10.out (by omega)) (by rw [Eq10.out, Eq9.out]; have h1_ := right_le HC1.out; have h2_ := right_le HC2.out; grind)).mono ?_
    rintro e w14 ⟨x_141, x_142, x_143, x_144, rfl, hd146, hb⟩
    rw [← eq145] at hd146
    have Sq145 : Hid (Fz q145 19) := by show Fz q145 19; rw [eq145]; exact (Fz.sub Sq10.out Sq9.out)
    have Eq145 := Lib.hid eq145; clear eq145
    replace M := Lib.hid (And.intro hd146 (Goes.go M.out hb))
    clear hb hd146
    (try go_wp2_with fail)
    refine hK.out _ _ (⟨(M.out.2.2.2.2.2.2.2.2.2.1).at.1 0, (M.out.2.2.2.2.2.2.2.2.2.1).at.1 1, (M.out.2.2.2.2.2.2.2.2.2.1).at.1 2, (M.out.2.2.2.2.2.2.2.2.2.1).at.1 3, (M.out.2.2.2.2.2.2.2.2.2.1).at.1 4, (M.out.2.2.2.2.2.2.2.2.2.1).at.1 5, (M.out.2.2.2.2.2.2.2.2.2.1).at.1 6, (M.out.2.2.2.2.2.2.2.2.2.1).at.1 7, (M.out.2.2.2.2.2.2.2.2.2.2.2.1).at.1 0, (M.out.2.2.2.2.2.2.2.2.2.2.2.1).at.1 1, (M.out.2.2.2.2.2.2.2.2.2.2.2.1).at.1 2, (M.out.2.2.2.2.2.2.2.2.2.2.2.1).at.1 3, (M.out.2.2.2.2.2.2.2.2.2.2.2.1).at.1 4, (M.out.2.2.2.2.2.2.2.2.2.2.2.1).at.1 5, (M.out.2.2.2.2.2.2.2.2.2.2.2.1).at.1 6, (M.out.2.2.2.2.2.2.2.2.2.2.2.1).at.1 7, (M.out.2.2.2.2.2.2.2.2.2.2.2.2.1).at.1 0, (M.out.2.2.2.2.2.2.2.2.2.2.2.2.1).at.1 1, (M.out.2.2.2.2.2.2.2.2.2.2.2.2.1).at.1 2, (M.out.2.2.2.2.2.2.2.2.2.2.2.2.1).at.1 3, (M.out.2.2.2.2.2.2.2.2.2.2.2.2.1).at.1 4, (M.out.2.2.2.2.2.2.2.2.2.2.2.2.1).at.1 5, (M.out.2.2.2.2.2.2.2.2.2.2.2.2.1).at.1 6, (M.out.2.2.2.2.2.2.2.2.2.2.2.2.1).at.1 7, (M.out.2.2.2.2.2.2.2.2.2.2.2.2.2.1).at.1 0, (M.out.2.2.2.2.2.2.2.2.2.2.2.2.2.1).at.1 1, (M.out.2.2.2.2.2.2.2.2.2.2.2.2.2.1).at.1 2, (M.out.2.2.2.2.2.2.2.2.2.2.2.2.2.1).at.1 3, (M.out.2.2.2.2.2.2.2.2.2.2.2.2.2.1).at.1 4, (M.out.2.2.2.2.2.2.2.2.2.2.2.2.2.1).at.1 5, (M.out.2.2.2.2.2.2.2.2.2.2.2.2.2.1).at.1 6, (M.out.2.2.2.2.2.2.2.2.2.2.2.2.2.1).at.1 7, (M.out.2.1).at.1 0, (M.out.2.1).at.1 1, (M.out.2.1).at.1 2, (M.out.2.1).at.1 3⟩) (fun hH147 => ?_)
    clear hK K hH140
    (try simp only [Act.put, List.setIfInBounds_toArray, List.set_cons_zero, List.set_cons_succ])
    refine wpAnyH_ready (rs := [18]) (by kernel_rfl) (by simp) ?_
    refine AllReadyH.cons at18 (fun K hK => ?_) AllReadyH.nil
    go_simp
    refine (rfsame_qq (G := G) (q := q145) (r := q53) (M.out.1) (M.out.2.2.1) (Fz.mono Sq145.out (by omega)) (by rw [Eq145.out, Eq53.out, Eq47.out, Eq41.out, Eq10.out, Eq9.out]; grind)).mono ?_
    rintro e w15 ⟨rfl, hb⟩
    replace M := Lib.hid (Goes.go M.out hb)
    clear hb
    (try go_wp2_with fail)
    refine hK.out _ _ (⟨(M.out.2.2.2.2.2.2.2.2.2.1).at.1 0, (M.out.2.2.2.2.2.2.2.2.2.1).at.1 1, (M.out.2.2.2.2.2.2.2.2.2.1).at.1 2, (M.out.2.2.2.2.2.2.2.2.2.1).at.1 3, (M.out.2.2.2.2.2.2.2.2.2.1).at.1 4, (M.out.2.2.2.2.2.2.2.2.2.1).at.1 5, (M.out.2.2.2.2.2.2.2.2.2.1).at.1 6, (M.out.2.2.2.2.2.2.2.2.2.1).at.1 7, (M.out.2.2.2.2.2.2.2.2.2.2.2.1).at.1 0, (M.out.2.2.2.2.2.2.2.2.2.2.2.1).at.1 1, (M.out.2.2.2.2.2.2.2.2.2.2.2.1).at.1 2, (M.out.2.2.2.2.2.2.2.2.2.2.2.1).at.1 3, (M.out.2.2.2.2.2.2.2.2.2.2.2.1).at.1 4, (M.out.2.2.2.2.2.2.2.2.2.2.2.1).at.1 5, (M.out.2.2.2.2.2.2.2.2.2.2.2.1).at.1 6, (M.out.2.2.2.2.2.2.2.2.2.2.2.1).at.1 7, (M.out.2.2.2.2.2.2.2.2.2.2.2.2.1).at.1 0, (M.out.2.2.2.2.2.2.2.2.2.2.2.2.1).at.1 1, (M.out.2.2.2.2.2.2.2.2.2.2.2.2.1).at.1 2, (M.out.2.2.2.2.2.2.2.2.2.2.2.2.1).at.1 3, (M.out.2.2.2.2.2.2.2.2.2.2.2.2.1).at.1 4, (M.out.2.2.2.2.2.2.2.2.2.2.2.2.1).at.1 5, (M.out.2.2.2.2.2.2.2.2.2.2.2.2.1).at.1 6, (M.out.2.2.2.2.2.2.2.2.2.2.2.2.1).at.1 7, (M.out.2.2.2.2.2.2.2.2.2.2.2.2.2.1).at.1 0, (M.out.2.2.2.2.2.2.2.2.2.2.2.2.2.1).at.1 1, (M.out.2.2.2.2.2.2.2.2.2.2.2.2.2.1).at.1 2, (M.out.2.2.2.2.2.2.2.2.2.2.2.2.2.1).at.1 3, (M.out.2.2.2.2.2.2.2.2.2.2.2.2.2.1).at.1 4, (M.out.2.2.2.2.2.2.2.2.2.2.2.2.2.1).at.1 5, (M.out.2.2.2.2.2.2.2.2.2.2.2.2.2.1).at.1 6, (M.out.2.2.2.2.2.2.2.2.2.2.2.2.2.1).at.1 7, (M.out.2.1).at.1 0, (M.out.2.1).at.1 1, (M.out.2.1).at.1 2, (M.out.2.1).at.1 3⟩) (fun hH148 => ?_)
    clear hK K hH147
    (try simp only [Act.put, List.setIfInBounds_toArray, List.set_cons_zero, List.set_cons_succ])
    refine tk at19 ?_
    refine tk at20 ?_
    refine tk at21 ?_
    refine tk at22 ?_
    refine tk at24 ?_
    refine wpAnyH_ready (rs := [23]) (by kernel_rfl) (by simp) ?_
    refine AllReadyH.cons at23 (fun K hK => ?_) AllReadyH.nil
    go_simp
    obtain ⟨q153, eq153⟩ : ∃ v_ : Rat, v_ = (q22 - q21) := ⟨_, rfl⟩
    refine (spWidth_q (G := G) (p := q21) (q := q22) (Nat.le_trans hG (M.out.2.2.2.2.2.2.2.2.2.2.2.2.2.2).size) (M.out.2.2.2.2.2.1) (M.out.2.2.2.2.2.2.1) (Fz.mono Sq21.out (by omega)) (Fz.mono Sq22.out (by omega)) (by rw [Eq22.out, Eq21.out]; have h1_ := right_le HC1.out; have h2_ := right_le HC2.out; grind)).mono ?_
    rintro e w16 ⟨x_149, x_150, x_151, x_152, rfl, hd154, hb⟩
    rw [← eq153] at hd154
    have Sq153 : Hid (Fz q153 19) := by show Fz q153 19; rw [eq153]; exact (Fz.sub Sq22.out Sq21.out)
    have Eq153 := Lib.hid eq153; clear eq153
    replace M := Lib.hid (And.intro hd154 (Goes.go M.out hb))
    clear hb hd154
    (try go_wp2_with fail)
    refine hK.out _ _ (⟨(M.out.2.2.2.2.2.2.2.2.2.2.1).at.1 0, (M.out.2.2.2.2.2.2.2.2.2.2.1).at.1 1, (M.out.2.2.2.2.2.2.2.2.2.2.1).at.1 2, (M.out.2.2.2.2.2.2.2.2.2.2.1).at.1 3, (M.out.2.2.2.2.2.2.2.2.2.2.1).at.1 4, (M.out.2.2.2.2.2.2.2.2.2.2.1).at.1 5, (M.out.2.2.2.2.2.2.2.2.2.2.1).at.1 6, (M.out.2.2.2.2.2.2.2.2.2.2.1).at.1 7, (M.out.2.2.2.2.2.2.2.2.2.2.2.2.1).at.1 0, (M.out.2.2.2.2.2.2.2.2.2.2.2.2.1).at.1 1, (M.out.2.2.2.2.2.2.2.2.2.2.2.2.1).at.1 2, (M.out.2.2.2.2.2.2.2.2.2.2.2.2.1).at.1 3, (M.out.2.2.2.2.2.2.2.2.2.2.2.2.1).at.1 4, (M.out.2.2.2.2.2.2.2.2.2.2.2.2.1).at.1 5, (M.out.2.2.2.2.2.2.2.2.2.2.2.2.1).at.1 6, (M.out.2.2.2.2.2.2.2.2.2.2.2.2.1).at.1 7, (M.out.2.2.2.2.2.2.2.2.2.2.2.2.2.1).at.1 0, (M.out.2.2.2.2.2.2.2.2.2.2.2.2.2.1).at.1 1, (M.out.2.2.2.2.2.2.2.2.2.2.2.2.2.1).at.1 2, (M.out.2.2.2.2.2.2.2.2.2.2.2.2.2.1).at.1 3, (M.out.2.2.2.2.2.2.2.2.2.2.2.2.2.1).at.1 4, (M.out.2.2.2.2.2.2.2.2.2.2.2.2.2.1).at.1 5, (M.out.2.2.2.2.2.2.2.2.2.2.2.2.2.1).at.1 6, (M.out.2.2.2.2.2.2.2.2.2.2.2.2.2.1).at.1 7, (M.out.2.2.2.2.2.2.2.2.2.2.2.2.2.2.1).at.1 0, (M.out.2.2.2.2.2.2.2.2.2.2.2.2.2.2.1).at.1 1, (M.out.2.2.2.2.2.2.2.2.2.2.2.2.2.2.1).at.1 2, (M.out.2.2.2.2.2.2.2.2.2.2.2.2.2.2.1).at.1 3, (M.out.2.2.2.2.2.2.2.2.2.2.2.2.2.2.1).at.1 4, (M.out.2.2.2.2.2.2.2.2.2.2.2.2.2.2.1).at.1 5, (M.out.2.2.2.2.2.2.2.2.2.2.2.2.2.2.1).at.1 6, (M.out.2.2.2.2.2.2.2.2.2.2.2.2.2.2.1).at.1 7, (M.out.2.2.1).at.1 0, (M.out.2.2.1).at.1 1, (M.out.2.2.1).at.1 2, (M.out.2.2.1).at.1 3⟩) (fun hH155 => ?_)
    clear hK K hH148
    (try simp only [Act.put, List.setIfInBounds_toArray, List.set_cons_zero, List.set_cons_succ])
    refine wpAnyH_ready (rs := [25]) (by kernel_rfl) (by simp) ?_
    refine AllReadyH.cons at25 (fun K hK => ?_) AllReadyH.nil
    go_simp
    refine (rfsame_qq (G := G) (q := q153) (r := q53) (M.out.1) (M.out.2.2.2.1) (Fz.mono Sq153.out (by omega)) (by rw [Eq153.out, Eq53.out, Eq47.out, Eq41.out, Eq22.out, Eq21.out]; grind)).mono ?_
    rintro e w17 ⟨rfl, hb⟩
    replace M := Lib.hid (Goes.go M.out hb)
    clear hb
    (try go_wp2_with fail)
    refine hK.out _ _ (⟨(M.out.2.2.2.2.2.2.2.2.2.2.1).at.1 0, (M.out.2.2.2.2.2.2.2.2.2.2.1).at.1 1, (M.out.2.2.2.2.2.2.2.2.2.2.1).at.1 2, (M.out.2.2.2.2.2.2.2.2.2.2.1).at.1 3, (M.out.2.2.2.2.2.2.2.2.2.2.1).at.1 4, (M.out.2.2.2.2.2.2.2.2.2.2.1).at.1 5, (M.out.2.2.2.2.2.2.2.2.2.2.1).at.1 6, (M.out.2.2.2.2.2.2.2.2.2.2.1).at.1 7, (M.out.2.2.2.2.2.2.2.2.2.2.2.2.1).at.1 0, (M.out.2.2.2.2.2.2.2.2.2.2.2.2.1).at.1 1, (M.out.2.2.2.2.2.2.2.2.2.2.2.2.1).at.1 2, (M.out.2.2.2.2.2.2.2.2.2.2.2.2.1).at.1 3, (M.out.2.2.2.2.2.2.2.2.2.2.2.2.1).at.1 4, (M.out.2.2.2.2.2.2.2.2.2.2.2.2.1).at.1 5, (M.out.2.2.2.2.2.2.2.2.2.2.2.2.1).at.1 6, (M.out.2.2.2.2.2.2.2.2.2.2.2.2.1).at.1 7, (M.out.2.2.2.2.2.2.2.2.2.2.2.2.2.1).at.1 0, (M.out.2.2.2.2.2.2.2.2.2.2.2.2.2.1).at.1 1, (M.out.2.2.2.2.2.2.2.2.2.2.2.2.2.1).at.1 2, (M.out.2.2.2.2.2.2.2.2.2.2.2.2.2.1).at.1 3, (M.out.2.2.2.2.2.2.2.2.2.2.2.2.2.1).at.1 4, (M.out.2.2.2.2.2.2.2.2.2.2.2.2.2.1).at.1 5, (M.out.2.2.2.2.2.2.2.2.2.2.2.2.2.1).at.1 6, (M.out.2.2.2.2.2.2.2.2.2.2.2.2.2.1).at.1 7, (M.out.2.2.2.2.2.2.2.2.2.2.2.2.2.2.1).at.1 0, (M.out.2.2.2.2.2.2.2.2.2.2.2.2.2.2.1).at.1 1, (M.out.2.2.2.2.2.2.2.2.2.2.2.2.2.2.1).at.1 2, (M.out.2.2.2.2.2.2.2.2.2.2.2.2.2.2.1).at.1 3, (M.out.2.2.2.2.2.2.2.2.2.2.2.2.2.2.1).at.1 4, (M.out.2.2.2.2.2.2.2.2.2.2.2.2.2.2.1).at.1 5, (M.out.2.2.2.2.2.2.2.2.2.2.2.2.2.2.1).at.1 6, (M.out.2.2.2.2.2.2.2.2.2.2.2.2.2.2.1).at.1 7, (M.out.2.2.1).at.1 0, (M.out.2.2.1).at.1 1, (M.out.2.2.1).at.1 2, (M.out.2.2.1).at.1 3⟩) (fun hH156 => ?_)
    clear hK K hH155
    (try simp only [Act.put, List.setIfInBounds_toArray, List.set_cons_zero, List.set_cons_succ])
    refine tk at26 ?_
    refine tk at27 ?_
    refine tk at28 ?_
    refine tk at29 ?_
    refine tk at30 ?_
    refine wpAnyH_ready (rs := [31]) (by kernel_rfl) (by simp) ?_
    refine AllReadyH.cons at31 (fun K hK => ?_) AllReadyH.nil
    go_simp
    refine (spInside_q (G := G) (p := p1) (q := p2) (r := q33) (s := q34) (b_ := true) (Nat.le_trans hG (M.out.2.2.2.2.2.2.2.2.2.2.2.2.2.2.2).size) (K1.out.keep (M.out.2.2.2.2.2.2.2.2.2.2.2.2.2.2.2)) (K2.out.keep (M.out.2.2.2.2.2.2.2.2.2.2.2.2.2.2.2)) (M.out.2.2.2.2.1) (M.out.2.2.2.2.2.1) (Fz.mono Z1.out (by omega)) (Fz.mono Z2.out (by omega)) (Fz.mono Sq33.out (by omega)) (Fz.mono Sq34.out (by omega)) (right_le HC1.out) (by rw [Eq34.out, Eq33.out, Eq10.out, Eq9.out]; have h1_ := right_le HC1.out; have h2_ := right_le HC2.out; grind) (by rw [Eq34.out, Eq33.out, Eq10.out, Eq9.out]; exact back_in1 (right_le HC2.out))).mono ?_
    rintro e w18 ⟨rfl, hb⟩
    replace M := Lib.hid (Goes.go M.out hb)
    clear hb
    (try go_wp2_with fail)
    refine hK.out _ _ (⟨(M.out.2.2.2.2.2.2.2.2.2.2.1).at.1 0, (M.out.2.2.2.2.2.2.2.2.2.2.1).at.1 1, (M.out.2.2.2.2.2.2.2.2.2.2.1).at.1 2, (M.out.2.2.2.2.2.2.2.2.2.2.1).at.1 3, (M.out.2.2.2.2.2.2.2.2.2.2.1).at.1 4, (M.out.2.2.2.2.2.2.2.2.2.2.1).at.1 5, (M.out.2.2.2.2.2.2.2.2.2.2.1).at.1 6, (M.out.2.2.2.2.2.2.2.2.2.2.1).at.1 7, (M.out.2.2.2.2.2.2.2.2.2.2.2.2.1).at.1 0, (M.out.2.2.2.2.2.2.2.2.2.2.2.2.1).at.1 1, (M.out.2.2.2.2.2.2.2.2.2.2.2.2.1).at.1 2, (M.out.2.2.2.2.2.2.2.2.2.2.2.2.1).at.1 3, (M.out.2.2.2.2.2.2.2.2.2.2.2.2.1).at.1 4, (M.out.2.2.2.2.2.2.2.2.2.2.2.2.1).at.1 5, (M.out.2.2.2.2.2.2.2.2.2.2.2.2.1).at.1 6, (M.out.2.2.2.2.2.2.2.2.2.2.2.2.1).at.1 7, (M.out.2.2.2.2.2.2.2.2.2.2.2.2.2.1).at.1 0, (M.out.2.2.2.2.2.2.2.2.2.2.2.2.2.1).at.1 1, (M.out.2.2.2.2.2.2.2.2.2.2.2.2.2.1).at.1 2, (M.out.2.2.2.2.2.2.2.2.2.2.2.2.2.1).at.1 3, (M.out.2.2.2.2.2.2.2.2.2.2.2.2.2.1).at.1 4, (M.out.2.2.2.2.2.2.2.2.2.2.2.2.2.1).at.1 5, (M.out.2.2.2.2.2.2.2.2.2.2.2.2.2.1).at.1 6, (M.out.2.2.2.2.2.2.2.2.2.2.2.2.2.1).at.1 7, (M.out.2.2.2.2.2.2.2.2.2.2.2.2.2.2.1).at.1 0, (M.out.2.2.2.2.2.2.2.2.2.2.2.2.2.2.1).at.1 1, (M.out.2.2.2.2.2.2.2.2.2.2.2.2.2.2.1).at.1 2, (M.out.2.2.2.2.2.2.2.2.2.2.2.2.2.2.1).at.1 3, (M.out.2.2.2.2.2.2.2.2.2.2.2.2.2.2.1).at.1 4, (M.out.2.2.2.2.2.2.2.2.2.2.2.2.2.2.1).at.1 5, (M.out.2.2.2.2.2.2.2.2.2.2.2.2.2.2.1).at.1 6, (M.out.2.2.2.2.2.2.2.2.2.2.2.2.2.2.1).at.1 7, (M.out.2.2.1).at.1 0, (M.out.2.2.1).at.1 1, (M.out.2.2.1).at.1 2, (M.out.2.2.1).at.1 3⟩) (fun hH157 => ?_)
    clear hK K hH156
    (try simp only [Act.put, List.setIfInBounds_toArray, List.set_cons_zero, List.set_cons_succ])
    refine tk at32 ?_
    refine tk at33 ?_
    refine wpAnyH_done (by kernel_rfl) ?_ _
    clear hH157
    have y0 := (M.out.2.2.2.2.2.2.2.2.2.2.1).d8; have p0_0 := y0.1; have p0_1 := y0.2.1; have p0_2 := y0.2.2.1; have p0_3 := y0.2.2.2.1; have p0_4 := y0.2.2.2.2.1; have p0_5 := y0.2.2.2.2.2.1; have p0_6 := y0.2.2.2.2.2.2.1; have p0_7 := y0.2.2.2.2.2.2.2; clear y0
    have y1 := (M.out.2.2.2.2.2.2.2.2.2.2.2.1).d8; have p1_0 := y1.1; have p1_1 := y1.2.1; have p1_2 := y1.2.2.1; have p1_3 := y1.2.2.2.1; have p1_4 := y1.2.2.2.2.1; have p1_5 := y1.2.2.2.2.2.1; have p1_6 := y1.2.2.2.2.2.2.1; have p1_7 := y1.2.2.2.2.2.2.2; clear y1
    go_wp2_with fail
    clear p0_0 p0_1 p0_2 p0_3 p0_4 p0_5 p0_6 p0_7 p1_0 p1_1 p1_2 p1_3 p1_4 p1_5 p1_6 p1_7
    replace M := Lib.hid (And.intro (M.out.2.2.2.2.2.2.2.2.2.2.1) (And.intro (M.out.2.2.2.2.2.2.2.2.2.2.2.1) (M.out.2.2.2.2.2.2.2.2.2.2.2.2.2.2.2)))
    refine (spMul_q (G := G) (p := p1) (q := p2) (r := r1) (s := r2) (lo := ml) (hi := mh) (Nat.le_trans hG (M.out.2.2).size) (K1.out.keep (M.out.2.2)) (K2.out.keep (M.out.2.2)) (K3.out.keep (M.out.2.2)) (K4.out.keep (M.out.2.2)) (Fz.mono Z1.out (by omega)) (Fz.mono Z2.out (by omega)) (Fz.mono Z3.out (by omega)) (Fz.mono Z4.out (by omega)) (right_le HC1.out) (right_le HC2.out) HMLO.out HMHI.out).mono ?_
    rintro e w19 ⟨x_158, x_159, x_160, x_161, x_162, x_163, x_164, x_165, rfl, hd166, hd167, hb⟩
    replace M := Lib.hid (And.intro hd166 (And.intro hd167 (Goes.go M.out hb)))
    clear hb hd166 hd167
    have ys_x_158 := TQ.st (M.out.1); have st_x_158 := ys_x_158.1; have st_x_159 := ys_x_158.2.1; have st_x_160 := ys_x_158.2.2.1; have st_x_161 := ys_x_158.2.2.2; clear ys_x_158
    have ys_x_162 := TQ.st (M.out.2.1); have st_x_162 := ys_x_162.1; have st_x_163 := ys_x_162.2.1; have st_x_164 := ys_x_162.2.2.1; have st_x_165 := ys_x_162.2.2.2; clear ys_x_162
    go_upto_region 11 with fail
    clear st_x_158 st_x_159 st_x_160 st_x_161 st_x_162 st_x_163 st_x_164 st_x_165
    obtain ⟨w20, hv⟩ : ∃ w_ : World, w_ = (w19.alloc (.cells #[x_158, x_159, x_160, x_161, x_162, x_163, x_164, x_165] 28)) := ⟨_, rfl⟩
    rw [← hv]
    have ow6_ : w.heap.size + 1 < w19.heap.size := ((M.out.2.2.2.1)).lt
    replace M := Lib.hid (And.intro (hv ▸ bx1 w19 28 #[x_158, x_159, x_160, x_161, x_162, x_163, x_164, x_165]) (Goes.go M.out (hv ▸ below_alloc _ _ : Below w19.heap.size w19 w20)))
    clear hv
    have y6 := (M.out.1).d8; have p6_0 := y6.1; have p6_1 := y6.2.1; have p6_2 := y6.2.2.1; have p6_3 := y6.2.2.2.1; have p6_4 := y6.2.2.2.2.1; have p6_5 := y6.2.2.2.2.2.1; have p6_6 := y6.2.2.2.2.2.2.1; have p6_7 := y6.2.2.2.2.2.2.2; clear y6
    have y1 := (M.out.2.2.2.2.1).d8; have p1_0 := y1.1; have p1_1 := y1.2.1; have p1_2 := y1.2.2.1; have p1_3 := y1.2.2.2.1; have p1_4 := y1.2.2.2.2.1; have p1_5 := y1.2.2.2.2.2.1; have p1_6 := y1.2.2.2.2.2.2.1; have p1_7 := y1.2.2.2.2.2.2.2; clear y1
    go_wp2_with fail
    clear p6_0 p6_1 p6_2 p6_3 p6_4 p6_5 p6_6 p6_7 p1_0 p1_1 p1_2 p1_3 p1_4 p1_5 p1_6 p1_7
    refine (spDiv_q (G := G) (p := ml) (q := mh) (r := r1) (s := r2) (lo := dl) (hi := dh) (Nat.le_trans hG (M.out.2.2.2.2.2).size) (M.out.2.1) (M.out.2.2.1) (K3.out.keep (M.out.2.2.2.2.2)) (K4.out.keep (M.out.2.2.2.2.2)) (Fz.mono HSZL.out (by omega)) (Fz.mono HSZH.out (by omega)) (Fz.mono Z3.out (by omega)) (Fz.mono Z4.out (by omega)) HML.out (right_le HC2.out) H0.out HDLO.out HDHI.out).mono ?_
    rintro e w21 ⟨x_168, x_169, x_170, x_171, x_172, x_173, x_174, x_175, rfl, hd176, hd177, hb⟩
    replace M := Lib.hid (And.intro hd176 (And.intro hd177 (Goes.go M.out hb)))
    clear hb hd176 hd177
    have ys_x_168 := TQ.st (M.out.1); have st_x_168 := ys_x_168.1; have st_x_169 := ys_x_168.2.1; have st_x_170 := ys_x_168.2.2.1; have st_x_171 := ys_x_168.2.2.2; clear ys_x_168
    have ys_x_172 := TQ.st (M.out.2.1); have st_x_172 := ys_x_172.1; have st_x_173 := ys_x_172.2.1; have st_x_174 := ys_x_172.2.2.1; have st_x_175 := ys_x_172.2.2.2; clear ys_x_172
    go_wp2_with fail
    clear st_x_168 st_x_169 st_x_170 st_x_171 st_x_172 st_x_173 st_x_174 st_x_175
    obtain ⟨w22, hv⟩ : ∃ w_ : World, w_ = (w21.alloc (.cells #[x_168, x_169, x_170, x_171, x_172, x_173, x_174, x_175] 28)) := ⟨_, rfl⟩
    rw [← hv]
    have ow7_ : w19.heap.size < w21.heap.size := ((M.out.2.2.1)).lt
    replace M := Lib.hid (And.intro (hv ▸ bx1 w21 28 #[x_168, x_169, x_170, x_171, x_172, x_173, x_174, x_175]) (Goes.go M.out (hv ▸ below_alloc _ _ : Below w21.heap.size w21 w22)))
    clear hv
    replace M := Lib.hid (And.intro (M.out.1) (And.intro (M.out.2.1) (And.intro (M.out.2.2.1) (And.intro (M.out.2.2.2.2.2.2.1) (And.intro (M.out.2.2.2.2.2.2.2.1) (M.out.2.2.2.2.2.2.2.2))))))
    obtain ⟨w23, hv⟩ : ∃ w_ : World, w_ = w22.drew := ⟨_, rfl⟩
    replace M := Lib.hid (Goes.go M.out (hv ▸ below_drew _ : Below w22.heap.size w22 w23))
    refine wp_region_held_drew (S := (fun w' => w'.cell? ⟨w.heap.size + 1, 0, none⟩ = some (v0) ∧ w'.cell? ⟨w.heap.size + 1, 1, none⟩ = some (v1) ∧ w'.cell? ⟨w.heap.size + 1, 2, none⟩ = some (v2) ∧ w'.cell? ⟨w.heap.size + 1, 3, none⟩ = some (v3) ∧ w'.cell? ⟨w.heap.size + 1, 4, none⟩ = some (v4) ∧ w'.cell? ⟨w.heap.size + 1, 5, none⟩ = some (v5) ∧ w'.cell? ⟨w.heap.size + 1, 6, none⟩ = some (v6) ∧ w'.cell? ⟨w.heap.size + 1, 7, none⟩ = some (v7))) (by kernel_rfl) (by rw [← hv]; exact ⟨(M.out.2.2.2.2.1).at.1 0, (M.out.2.2.2.2.1).at.1 1, (M.out.2.2.2.2.1).at.1 2, (M.out.2.2.2.2.1).at.1 3, (M.out.2.2.2.2.1).at.1 4, (M.out.2.2.2.2.1).at.1 5, (M.out.2.2.2.2.1).at.1 6, (M.out.2.2.2.2.1).at.1 7⟩) (fun hH184 => ?_)
    rw [← hv] at hH184 ⊢
    clear hv
    refine tk at0 ?_
    refine tk at1 ?_
    refine tk at2 ?_
    refine tk at3 ?_
    refine tk at4 ?_
    refine tk at5 ?_
    refine tu at6 ?_
    refine tu at7 ?_
    refine tk at8 ?_
    refine tk at9 ?_
    refine tk at10 ?_
    refine tk at11 ?_
    refine tk at12 ?_
    refine tk at13 ?_
    refine wpAnyH_ready (rs := [14]) (by kernel_rfl) (by simp) ?_
    refine AllReadyH.cons at14 (fun K hK => ?_) AllReadyH.nil
    go_simp
    obtain ⟨q189, eq189⟩ : ∃ v_ : Rat, v_ = ((0 : Int) : Rat) := ⟨_, rfl⟩
    refine (rqInt (G := G) (x := 0) (by decide)).mono ?_
    rintro e w24 ⟨x_185, x_186, x_187, x_188, rfl, hd190, hb⟩
    rw [← eq189] at hd190
    have Sq189 : Hid (Fz q189 4) := by show Fz q189 4; rw [eq189]; exact (Fz.int64 (by decide))
    have Eq189 := Lib.hid eq189; clear eq189
    replace M := Lib.hid (And.intro hd190 (Goes.go M.out hb))
    clear hb hd190
    (try go_wp2_with fail)
    refine hK.out _ _ (⟨(M.out.2.2.2.2.2.1).at.1 0, (M.out.2.2.2.2.2.1).at.1 1, (M.out.2.2.2.2.2.1).at.1 2, (M.out.2.2.2.2.2.1).at.1 3, (M.out.2.2.2.2.2.1).at.1 4, (M.out.2.2.2.2.2.1).at.1 5, (M.out.2.2.2.2.2.1).at.1 6, (M.out.2.2.2.2.2.1).at.1 7⟩) (fun hH191 => ?_)
    clear hK K hH184
    (try simp only [Act.put, List.setIfInBounds_toArray, List.set_cons_zero, List.set_cons_succ])
    refine wpAnyH_ready (rs := [15]) (by kernel_rfl) (by simp) ?_
    refine AllReadyH.cons at15 (fun K hK => ?_) AllReadyH.nil
    go_simp
    refine (spHas_q (G := G) (p := r1) (q := r2) (x := q189) (b_ := false) (Nat.le_trans hG (M.out.2.2.2.2.2.2).size) (K3.out.keep (M.out.2.2.2.2.2.2)) (K4.out.keep (M.out.2.2.2.2.2.2)) (Fz.mono Z3.out (by omega)) (Fz.mono Z4.out (by omega)) (right_le HC2.out) (M.out.1) (Fz.mono Sq189.out (by omega)) (by rw [Eq189.out]; exact HZ.out)).mono ?_
    rintro e w25 ⟨rfl, hb⟩
    replace M := Lib.hid (Goes.go M.out hb)
    clear hb
    (try go_wp2_with fail)
    refine hK.out _ _ (⟨(M.out.2.2.2.2.2.1).at.1 0, (M.out.2.2.2.2.2.1).at.1 1, (M.out.2.2.2.2.2.1).at.1 2, (M.out.2.2.2.2.2.1).at.1 3, (M.out.2.2.2.2.2.1).at.1 4, (M.out.2.2.2.2.2.1).at.1 5, (M.out.2.2.2.2.2.1).at.1 6, (M.out.2.2.2.2.2.1).at.1 7⟩) (fun hH192 => ?_)
    clear hK K hH191
    (try simp only [Act.put, List.setIfInBounds_toArray, List.set_cons_zero, List.set_cons_succ])
    refine tk at16 ?_
    refine tk at17 ?_
    refine wpAnyH_done (by kernel_rfl) ?_ _
    clear hH192
    have y0 := (M.out.2.2.2.2.1).d8; have p0_0 := y0.1; have p0_1 := y0.2.1; have p0_2 := y0.2.2.1; have p0_3 := y0.2.2.2.1; have p0_4 := y0.2.2.2.2.1; have p0_5 := y0.2.2.2.2.2.1; have p0_6 := y0.2.2.2.2.2.2.1; have p0_7 := y0.2.2.2.2.2.2.2; clear y0
    have y7 := (M.out.2.1).d8; have p7_0 := y7.1; have p7_1 := y7.2.1; have p7_2 := y7.2.2.1; have p7_3 := y7.2.2.2.1; have p7_4 := y7.2.2.2.2.1; have p7_5 := y7.2.2.2.2.2.1; have p7_6 := y7.2.2.2.2.2.2.1; have p7_7 := y7.2.2.2.2.2.2.2; clear y7
    go_wp2_with fail
    clear p0_0 p0_1 p0_2 p0_3 p0_4 p0_5 p0_6 p0_7 p7_0 p7_1 p7_2 p7_3 p7_4 p7_5 p7_6 p7_7
    replace M := Lib.hid (And.intro (M.out.2.2.1) (And.intro (M.out.2.2.2.1) (M.out.2.2.2.2.2.2)))
    refine (spInside_q (G := G) (p := p1) (q := p2) (r := dl) (s := dh) (b_ := true) (Nat.le_trans hG (M.out.2.2).size) (K1.out.keep (M.out.2.2)) (K2.out.keep (M.out.2.2)) (M.out.1) (M.out.2.1) (Fz.mono Z1.out (by omega)) (Fz.mono Z2.out (by omega)) (Fz.mono HDS.out.1 (by omega)) (Fz.mono HDS.out.2 (by omega)) (right_le HC1.out) HDL.out HIN.out).mono ?_
    rintro e w26 ⟨rfl, hb⟩
    replace M := Lib.hid (Goes.go M.out hb)
    clear hb
    go_wp2_with fail
    go_ret
    exact ⟨rfl, (M.out.2.2)⟩
theorem back_walk {u0 u1 u2 u3 u4 u5 u6 u7 v0 v1 v2 v3 v4 v5 v6 v7 : Value} {n1 m1 n2 m2 n3 m3 n4 m4 : Nat} {o1 o2 o3 o4 : Option Rat} {w : World} (h1 : FX w u0 u1 u2 u3 n1 m1 o1) (h2 : FX w u4 u5 u6 u7 n2 m2 o2) (h3 : FX w v0 v1 v2 v3 n3 m3 o3) (h4 : FX w v4 v5 v6 v7 n4 m4 o4) :
    Calls Try.prog 6 #[.agg #[u0, u1, u2, u3, u4, u5, u6, u7], .agg #[v0, v1, v2, v3, v4, v5, v6, v7]] w fun e w' => e = .returned (.bool true) ∧ Below w.heap.size w w' := by
  cases hn : (few4 n1 m1 n2 m2 n3 m3 n4 m4 && (rightX o1 o2 && rightX o3 o4)) with
  | false => exact back_not (G := w.heap.size) (Nat.le_refl _) h1 h2 h3 h4 hn
  | true =>
    simp only [Bool.and_eq_true] at hn
    obtain ⟨hc0, hc1, hc2⟩ := hn
    obtain ⟨p1, p2, rfl, rfl, -⟩ := right_some hc1
    obtain ⟨r1, r2, rfl, rfl, -⟩ := right_some hc2
    by_cases h0 : r1 ≤ 0 ∧ 0 ≤ r2
    · exact back_z (G := w.heap.size) (Nat.le_refl _) h1 h1.fq (h1.z4 (few4_1 hc0)) h2 h2.fq (h2.z4 (few4_2 hc0)) h3 h3.fq (h3.z4 (few4_3 hc0)) h4 h4.fq (h4.z4 (few4_4 hc0)) hc0 hc1 hc2 h0
    · exact back_n (G := w.heap.size) (Nat.le_refl _) h1 h1.fq (h1.z4 (few4_1 hc0)) h2 h2.fq (h2.z4 (few4_2 hc0)) h3 h3.fq (h3.z4 (few4_3 hc0)) h4 h4.fq (h4.z4 (few4_4 hc0)) hc0 hc1 hc2 h0
end Go.Proofs.Ytjbfngjlepafgaa
