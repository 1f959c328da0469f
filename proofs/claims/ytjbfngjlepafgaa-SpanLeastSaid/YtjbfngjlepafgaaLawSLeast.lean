/- The walk of SpanLeast: whatever the arguments, it returns true. -/
import Derived.Test.YtjbfngjlepafgaaBase
import Derived.Test.YtjbfngjlepafgaaBigSpec
import Derived.Test.YtjbfngjlepafgaaBigB
import Derived.Test.YtjbfngjlepafgaaBigC
import Derived.Test.YtjbfngjlepafgaaBigD
import Derived.Test.YtjbfngjlepafgaaBigL
import Derived.Test.YtjbfngjlepafgaaBigQ
import Derived.Test.YtjbfngjlepafgaaFracA
import Derived.Test.YtjbfngjlepafgaaFz
import Derived.Test.YtjbfngjlepafgaaHeld
import Derived.Test.YtjbfngjlepafgaaAw
import Derived.Test.YtjbfngjlepafgaaFracR
import Derived.Test.YtjbfngjlepafgaaRefJ
import Derived.Test.YtjbfngjlepafgaaFq
import Derived.Test.YtjbfngjlepafgaaSpanPlain
import Derived.Test.YtjbfngjlepafgaaSpanB
import Derived.Test.YtjbfngjlepafgaaSpanE
import Derived.Test.YtjbfngjlepafgaaSpanF
import Derived.Test.YtjbfngjlepafgaaSpanG
import Derived.Test.YtjbfngjlepafgaaSpanI
import Derived.Test.YtjbfngjlepafgaaProg
import Derived.WalkKit
import Derived.WalkSpells
import Derived.WalkLawsBesides
import Derived.Handy
import Derived.Lib.Hide
import Derived.Lib.Strings
import Derived.Lib.Builder
import Derived.BigQuiet
import Derived.OwnWalk
import Derived.Laws.BitsLemmas
import Derived.WalkSmall
import Derived.Deep.QuietTactic
import Derived.StillTailTactics
import Derived.Maps.AppendAt
import Derived.IntWalk
import Derived.Deep.RegionHeld3
import Derived.Deep.DeepFit
import Derived.Deep.LoopGhost
import Derived.Deep.DeepCutAuto
import Derived.Lib.ItoaNum
import Derived.Lib.Repeat
import Derived.Lib.AppendIntMem
import Derived.Sort.OwnSorted
import Derived.Shelf.Strings.SlTrimAscii
import Derived.Lib.ConvBytes
import Derived.Lib.CutLaws
namespace Go.Proofs.Ytjbfngjlepafgaa
open Go.RowKit Go.Lib
variable {G : Nat}

set_option maxRecDepth 100000 in
set_option maxHeartbeats 4000000 in
theorem least_not {u0 u1 u2 u3 u4 u5 u6 u7 v0 v1 v2 v3 v4 v5 v6 v7 e0 e1 e2 e3 f0 f1 f2 f3 : Value} {n1 m1 n2 m2 n3 m3 n4 m4 n5 m5 n6 m6 : Nat} {o1 o2 o3 o4 o5 o6 : Option Rat} {w : World} (hG : G ≤ w.heap.size) (h1 : FX w u0 u1 u2 u3 n1 m1 o1) (h2 : FX w u4 u5 u6 u7 n2 m2 o2) (h3 : FX w v0 v1 v2 v3 n3 m3 o3) (h4 : FX w v4 v5 v6 v7 n4 m4 o4) (h5 : FX w e0 e1 e2 e3 n5 m5 o5) (h6 : FX w f0 f1 f2 f3 n6 m6 o6) (hn : (few4 n1 m1 n2 m2 n3 m3 n4 m4 && (fewF n5 m5 && (fewF n6 m6 && (hasX o1 o2 o5 && hasX o3 o4 o6)))) = false) :
    Calls Try.prog 7 #[.agg #[u0, u1, u2, u3, u4, u5, u6, u7], .agg #[v0, v1, v2, v3, v4, v5, v6, v7], .agg #[e0, e1, e2, e3], .agg #[f0, f1, f2, f3]] w fun e w' => e = .returned (.bool true) ∧ Below w.heap.size w w' := by
  obtain ⟨c0, hc0⟩ : ∃ b, few4 n1 m1 n2 m2 n3 m3 n4 m4 = b := ⟨_, rfl⟩
  obtain ⟨c1, hc1⟩ : ∃ b, fewF n5 m5 = b := ⟨_, rfl⟩
  obtain ⟨c2, hc2⟩ : ∃ b, fewF n6 m6 = b := ⟨_, rfl⟩
  obtain ⟨c3, hc3⟩ : ∃ b, hasX o1 o2 o5 = b := ⟨_, rfl⟩
  obtain ⟨c4, hc4⟩ : ∃ b, hasX o3 o4 o6 = b := ⟨_, rfl⟩
  rw [hc0, hc1, hc2, hc3, hc4] at hn
  have HC0 := Lib.hid hc0
  have HC1 := Lib.hid hc1
  have HC2 := Lib.hid hc2
  have HC3 := Lib.hid hc3
  have HC4 := Lib.hid hc4
  have HN := Lib.hid hn
  clear hn hc0 hc1 hc2 hc3 hc4
  have H1 : Hid (FX w u0 u1 u2 u3 n1 m1 o1) := h1
  have H2 : Hid (FX w u4 u5 u6 u7 n2 m2 o2) := h2
  have H3 : Hid (FX w v0 v1 v2 v3 n3 m3 o3) := h3
  have H4 : Hid (FX w v4 v5 v6 v7 n4 m4 o4) := h4
  have H5 : Hid (FX w e0 e1 e2 e3 n5 m5 o5) := h5
  have H6 : Hid (FX w f0 f1 f2 f3 n6 m6 o6) := h6
  clear h1 h2 h3 h4 h5 h6
  have M : Hid (Below w.heap.size w w) := Below.refl _ _
  go_enter Try.func7, Try.ntmps7
  go_upto_region 1 with fail
  obtain ⟨w1, hv⟩ : ∃ w_ : World, w_ = ((((w.alloc (.cells #[u0, u1, u2, u3, u4, u5, u6, u7] 28)).alloc (.cells #[v0, v1, v2, v3, v4, v5, v6, v7] 28)).alloc (.cells #[e0, e1, e2, e3] 26)).alloc (.cells #[f0, f1, f2, f3] 26)) := ⟨_, rfl⟩
  rw [← hv]
  have hbx := bx4 w 28 28 26 26 #[u0, u1, u2, u3, u4, u5, u6, u7] #[v0, v1, v2, v3, v4, v5, v6, v7] #[e0, e1, e2, e3] #[f0, f1, f2, f3]
  rw [← hv] at hbx
  have hbn : Below w.heap.size w w1 := by rw [hv]; exact (Below.alloc (Below.alloc (Below.alloc (Below.alloc (Below.refl _ _) (by simp <;> omega) _) (by simp <;> omega) _) (by simp <;> omega) _) (by simp <;> omega) _)
  replace M := Lib.hid (And.intro hbx.2.2.2 (And.intro hbx.2.2.1 (And.intro hbx.2.1 (And.intro hbx.1 (Goes.go M.out hbn)))))
  clear hbx hbn
  clear hv
  go_wp2_with fail
  refine (spanSmall_ok (G := G) (Nat.le_trans hG (M.out.2.2.2.2).size)).mono ?_
  rintro e w2 ⟨rfl, hb⟩
  replace M := Lib.hid (Goes.go M.out hb)
  clear hb
  have y0 := (M.out.2.2.2.1).d8; have p0_0 := y0.1; have p0_1 := y0.2.1; have p0_2 := y0.2.2.1; have p0_3 := y0.2.2.2.1; have p0_4 := y0.2.2.2.2.1; have p0_5 := y0.2.2.2.2.2.1; have p0_6 := y0.2.2.2.2.2.2.1; have p0_7 := y0.2.2.2.2.2.2.2; clear y0
  have y1 := (M.out.2.2.1).d8; have p1_0 := y1.1; have p1_1 := y1.2.1; have p1_2 := y1.2.2.1; have p1_3 := y1.2.2.2.1; have p1_4 := y1.2.2.2.2.1; have p1_5 := y1.2.2.2.2.2.1; have p1_6 := y1.2.2.2.2.2.2.1; have p1_7 := y1.2.2.2.2.2.2.2; clear y1
  go_wp2_with fail
  clear p0_0 p0_1 p0_2 p0_3 p0_4 p0_5 p0_6 p0_7 p1_0 p1_1 p1_2 p1_3 p1_4 p1_5 p1_6 p1_7
  refine (few_s (o1 := o1) (o2 := o2) (o3 := o3) (o4 := o4) (b_ := c0) (H1.out.keep (M.out.2.2.2.2)) (H2.out.keep (M.out.2.2.2.2)) (H3.out.keep (M.out.2.2.2.2)) (H4.out.keep (M.out.2.2.2.2)) HC0.out).mono ?_
  rintro e w3 ⟨rfl, hb⟩
  replace M := Lib.hid (Goes.go M.out hb)
  clear hb
  cases c0 with
  | false =>
    go_wp2_with fail
    go_ret
    exact ⟨rfl, (M.out.2.2.2.2)⟩
  | true =>
    have y2 := (M.out.2.1).d4; have p2_0 := y2.1; have p2_1 := y2.2.1; have p2_2 := y2.2.2.1; have p2_3 := y2.2.2.2; clear y2
    go_wp2_with fail
    clear p2_0 p2_1 p2_2 p2_3
    refine (fxFew_ok (o := o5) (k := 4) (r := c1) (H5.out.keep (M.out.2.2.2.2)) HC1.out).mono ?_
    rintro e w4 ⟨rfl, hb⟩
    replace M := Lib.hid (Goes.go M.out hb)
    clear hb
    cases c1 with
    | false =>
      go_wp2_with fail
      go_ret
      exact ⟨rfl, (M.out.2.2.2.2)⟩
    | true =>
      have y3 := (M.out.1).d4; have p3_0 := y3.1; have p3_1 := y3.2.1; have p3_2 := y3.2.2.1; have p3_3 := y3.2.2.2; clear y3
      go_wp2_with fail
      clear p3_0 p3_1 p3_2 p3_3
      refine (fxFew_ok (o := o6) (k := 4) (r := c2) (H6.out.keep (M.out.2.2.2.2)) HC2.out).mono ?_
      rintro e w5 ⟨rfl, hb⟩
      replace M := Lib.hid (Goes.go M.out hb)
      clear hb
      cases c2 with
      | false =>
        go_wp2_with fail
        go_ret
        exact ⟨rfl, (M.out.2.2.2.2)⟩
      | true =>
        have y0 := (M.out.2.2.2.1).d8; have p0_0 := y0.1; have p0_1 := y0.2.1; have p0_2 := y0.2.2.1; have p0_3 := y0.2.2.2.1; have p0_4 := y0.2.2.2.2.1; have p0_5 := y0.2.2.2.2.2.1; have p0_6 := y0.2.2.2.2.2.2.1; have p0_7 := y0.2.2.2.2.2.2.2; clear y0
        have y2 := (M.out.2.1).d4; have p2_0 := y2.1; have p2_1 := y2.2.1; have p2_2 := y2.2.2.1; have p2_3 := y2.2.2.2; clear y2
        go_wp2_with fail
        clear p0_0 p0_1 p0_2 p0_3 p0_4 p0_5 p0_6 p0_7 p2_0 p2_1 p2_2 p2_3
        refine (spHas_x (o1 := o1) (o2 := o2) (o3 := o5) (b_ := c3) (H1.out.keep (M.out.2.2.2.2)) (H2.out.keep (M.out.2.2.2.2)) (H5.out.keep (M.out.2.2.2.2)) (few4_1 HC0.out) (few4_2 HC0.out) HC1.out HC3.out).mono ?_
        rintro e w6 ⟨rfl, hb⟩
        replace M := Lib.hid (Goes.go M.out hb)
        clear hb
        cases c3 with
        | false =>
          go_wp2_with fail
          go_ret
          exact ⟨rfl, (M.out.2.2.2.2)⟩
        | true =>
          have y1 := (M.out.2.2.1).d8; have p1_0 := y1.1; have p1_1 := y1.2.1; have p1_2 := y1.2.2.1; have p1_3 := y1.2.2.2.1; have p1_4 := y1.2.2.2.2.1; have p1_5 := y1.2.2.2.2.2.1; have p1_6 := y1.2.2.2.2.2.2.1; have p1_7 := y1.2.2.2.2.2.2.2; clear y1
          have y3 := (M.out.1).d4; have p3_0 := y3.1; have p3_1 := y3.2.1; have p3_2 := y3.2.2.1; have p3_3 := y3.2.2.2; clear y3
          go_wp2_with fail
          clear p1_0 p1_1 p1_2 p1_3 p1_4 p1_5 p1_6 p1_7 p3_0 p3_1 p3_2 p3_3
          refine (spHas_x (o1 := o3) (o2 := o4) (o3 := o6) (b_ := c4) (H3.out.keep (M.out.2.2.2.2)) (H4.out.keep (M.out.2.2.2.2)) (H6.out.keep (M.out.2.2.2.2)) (few4_3 HC0.out) (few4_4 HC0.out) HC2.out HC4.out).mono ?_
          rintro e w7 ⟨rfl, hb⟩
          replace M := Lib.hid (Goes.go M.out hb)
          clear hb
          cases c4 with
          | false =>
            go_wp2_with fail
            go_ret
            exact ⟨rfl, (M.out.2.2.2.2)⟩
          | true =>
            go_upto_region 4 with fail
            exact absurd HN.out (by decide)
set_option maxRecDepth 100000 in
set_option maxHeartbeats 4000000 in
theorem least_all {u0 u1 u2 u3 u4 u5 u6 u7 v0 v1 v2 v3 v4 v5 v6 v7 e0 e1 e2 e3 f0 f1 f2 f3 : Value} {n1 m1 n2 m2 n3 m3 n4 m4 n5 m5 n6 m6 : Nat} {p1 p2 r1 r2 x1 x2 : Rat} {w : World} (hG : G ≤ w.heap.size) (h1 : FX w u0 u1 u2 u3 n1 m1 (some p1)) (k1 : FQ G w u0 u1 u2 u3 p1) (z1 : Fz p1 4) (h2 : FX w u4 u5 u6 u7 n2 m2 (some p2)) (k2 : FQ G w u4 u5 u6 u7 p2) (z2 : Fz p2 4) (h3 : FX w v0 v1 v2 v3 n3 m3 (some r1)) (k3 : FQ G w v0 v1 v2 v3 r1) (z3 : Fz r1 4) (h4 : FX w v4 v5 v6 v7 n4 m4 (some r2)) (k4 : FQ G w v4 v5 v6 v7 r2) (z4 : Fz r2 4) (h5 : FX w e0 e1 e2 e3 n5 m5 (some x1)) (k5 : FQ G w e0 e1 e2 e3 x1) (z5 : Fz x1 4) (h6 : FX w f0 f1 f2 f3 n6 m6 (some x2)) (k6 : FQ G w f0 f1 f2 f3 x2) (z6 : Fz x2 4) (hc0 : few4 n1 m1 n2 m2 n3 m3 n4 m4 = true) (hc1 : fewF n5 m5 = true) (hc2 : fewF n6 m6 = true) (hc3 : hasX (some p1) (some p2) (some x1) = true) (hc4 : hasX (some r1) (some r2) (some x2) = true)  :
    Calls Try.prog 7 #[.agg #[u0, u1, u2, u3, u4, u5, u6, u7], .agg #[v0, v1, v2, v3, v4, v5, v6, v7], .agg #[e0, e1, e2, e3], .agg #[f0, f1, f2, f3]] w fun e w' => e = .returned (.bool true) ∧ Below w.heap.size w w' := by
  obtain ⟨_, _, _, e1_, e2_, e3_, ho1_, hx_⟩ := has_some hc3
  cases e1_; cases e2_; cases e3_
  obtain ⟨_, _, _, e1_, e2_, e3_, ho2_, hy_⟩ := has_some hc4
  cases e1_; cases e2_; cases e3_
  have HAO := Lib.hid ho1_; have HBO := Lib.hid ho2_; have HX := Lib.hid hx_; have HY := Lib.hid hy_; clear ho1_ ho2_ hx_ hy_
  have Z1 := Lib.hid z1; clear z1
  have Z2 := Lib.hid z2; clear z2
  have Z3 := Lib.hid z3; clear z3
  have Z4 := Lib.hid z4; clear z4
  have Z5 := Lib.hid z5; clear z5
  have Z6 := Lib.hid z6; clear z6
  have HC0 := Lib.hid hc0; clear hc0
  have HC1 := Lib.hid hc1; clear hc1
  have HC2 := Lib.hid hc2; clear hc2
  have HC3 := Lib.hid hc3; clear hc3
  have HC4 := Lib.hid hc4; clear hc4
  have H1 : Hid (FX w u0 u1 u2 u3 n1 m1 (some p1)) := h1
  have K1 : Hid (FQ G w u0 u1 u2 u3 p1) := k1
  have H2 : Hid (FX w u4 u5 u6 u7 n2 m2 (some p2)) := h2
  have K2 : Hid (FQ G w u4 u5 u6 u7 p2) := k2
  have H3 : Hid (FX w v0 v1 v2 v3 n3 m3 (some r1)) := h3
  have K3 : Hid (FQ G w v0 v1 v2 v3 r1) := k3
  have H4 : Hid (FX w v4 v5 v6 v7 n4 m4 (some r2)) := h4
  have K4 : Hid (FQ G w v4 v5 v6 v7 r2) := k4
  have H5 : Hid (FX w e0 e1 e2 e3 n5 m5 (some x1)) := h5
  have K5 : Hid (FQ G w e0 e1 e2 e3 x1) := k5
  have H6 : Hid (FX w f0 f1 f2 f3 n6 m6 (some x2)) := h6
  have K6 : Hid (FQ G w f0 f1 f2 f3 x2) := k6
  clear h1 k1 h2 k2 h3 k3 h4 k4 h5 k5 h6 k6
  have M : Hid (Below w.heap.size w w) := Below.refl _ _
  go_enter Try.func7, Try.ntmps7
  go_upto_region 1 with fail
  obtain ⟨w1, hv⟩ : ∃ w_ : World, w_ = ((((w.alloc (.cells #[u0, u1, u2, u3, u4, u5, u6, u7] 28)).alloc (.cells #[v0, v1, v2, v3, v4, v5, v6, v7] 28)).alloc (.cells #[e0, e1, e2, e3] 26)).alloc (.cells #[f0, f1, f2, f3] 26)) := ⟨_, rfl⟩
  rw [← hv]
  have hbx := bx4 w 28 28 26 26 #[u0, u1, u2, u3, u4, u5, u6, u7] #[v0, v1, v2, v3, v4, v5, v6, v7] #[e0, e1, e2, e3] #[f0, f1, f2, f3]
  rw [← hv] at hbx
  have hbn : Below w.heap.size w w1 := by rw [hv]; exact (Below.alloc (Below.alloc (Below.alloc (Below.alloc (Below.refl _ _) (by simp <;> omega) _) (by simp <;> omega) _) (by simp <;> omega) _) (by simp <;> omega) _)
  replace M := Lib.hid (And.intro hbx.2.2.2 (And.intro hbx.2.2.1 (And.intro hbx.2.1 (And.intro hbx.1 (Goes.go M.out hbn)))))
  clear hbx hbn
  clear hv
  go_wp2_with fail
  refine (spanSmall_ok (G := G) (Nat.le_trans hG (M.out.2.2.2.2).size)).mono ?_
  rintro e w2 ⟨rfl, hb⟩
  replace M := Lib.hid (Goes.go M.out hb)
  clear hb
  have y0 := (M.out.2.2.2.1).d8; have p0_0 := y0.1; have p0_1 := y0.2.1; have p0_2 := y0.2.2.1; have p0_3 := y0.2.2.2.1; have p0_4 := y0.2.2.2.2.1; have p0_5 := y0.2.2.2.2.2.1; have p0_6 := y0.2.2.2.2.2.2.1; have p0_7 := y0.2.2.2.2.2.2.2; clear y0
  have y1 := (M.out.2.2.1).d8; have p1_0 := y1.1; have p1_1 := y1.2.1; have p1_2 := y1.2.2.1; have p1_3 := y1.2.2.2.1; have p1_4 := y1.2.2.2.2.1; have p1_5 := y1.2.2.2.2.2.1; have p1_6 := y1.2.2.2.2.2.2.1; have p1_7 := y1.2.2.2.2.2.2.2; clear y1
  go_wp2_with fail
  clear p0_0 p0_1 p0_2 p0_3 p0_4 p0_5 p0_6 p0_7 p1_0 p1_1 p1_2 p1_3 p1_4 p1_5 p1_6 p1_7
  refine (few_s (o1 := (some p1)) (o2 := (some p2)) (o3 := (some r1)) (o4 := (some r2)) (b_ := true) (H1.out.keep (M.out.2.2.2.2)) (H2.out.keep (M.out.2.2.2.2)) (H3.out.keep (M.out.2.2.2.2)) (H4.out.keep (M.out.2.2.2.2)) HC0.out).mono ?_
  rintro e w3 ⟨rfl, hb⟩
  replace M := Lib.hid (Goes.go M.out hb)
  clear hb
  have y2 := (M.out.2.1).d4; have p2_0 := y2.1; have p2_1 := y2.2.1; have p2_2 := y2.2.2.1; have p2_3 := y2.2.2.2; clear y2
  go_wp2_with fail
  clear p2_0 p2_1 p2_2 p2_3
  refine (fxFew_ok (o := (some x1)) (k := 4) (r := true) (H5.out.keep (M.out.2.2.2.2)) HC1.out).mono ?_
  rintro e w4 ⟨rfl, hb⟩
  replace M := Lib.hid (Goes.go M.out hb)
  clear hb
  have y3 := (M.out.1).d4; have p3_0 := y3.1; have p3_1 := y3.2.1; have p3_2 := y3.2.2.1; have p3_3 := y3.2.2.2; clear y3
  go_wp2_with fail
  clear p3_0 p3_1 p3_2 p3_3
  refine (fxFew_ok (o := (some x2)) (k := 4) (r := true) (H6.out.keep (M.out.2.2.2.2)) HC2.out).mono ?_
  rintro e w5 ⟨rfl, hb⟩
  replace M := Lib.hid (Goes.go M.out hb)
  clear hb
  have y0 := (M.out.2.2.2.1).d8; have p0_0 := y0.1; have p0_1 := y0.2.1; have p0_2 := y0.2.2.1; have p0_3 := y0.2.2.2.1; have p0_4 := y0.2.2.2.2.1; have p0_5 := y0.2.2.2.2.2.1; have p0_6 := y0.2.2.2.2.2.2.1; have p0_7 := y0.2.2.2.2.2.2.2; clear y0
  have y2 := (M.out.2.1).d4; have p2_0 := y2.1; have p2_1 := y2.2.1; have p2_2 := y2.2.2.1; have p2_3 := y2.2.2.2; clear y2
  go_wp2_with fail
  clear p0_0 p0_1 p0_2 p0_3 p0_4 p0_5 p0_6 p0_7 p2_0 p2_1 p2_2 p2_3
  refine (spHas_x (o1 := (some p1)) (o2 := (some p2)) (o3 := (some x1)) (b_ := true) (H1.out.keep (M.out.2.2.2.2)) (H2.out.keep (M.out.2.2.2.2)) (H5.out.keep (M.out.2.2.2.2)) (few4_1 HC0.out) (few4_2 HC0.out) HC1.out HC3.out).mono ?_
  rintro e w6 ⟨rfl, hb⟩
  replace M := Lib.hid (Goes.go M.out hb)
  clear hb
  have y1 := (M.out.2.2.1).d8; have p1_0 := y1.1; have p1_1 := y1.2.1; have p1_2 := y1.2.2.1; have p1_3 := y1.2.2.2.1; have p1_4 := y1.2.2.2.2.1; have p1_5 := y1.2.2.2.2.2.1; have p1_6 := y1.2.2.2.2.2.2.1; have p1_7 := y1.2.2.2.2.2.2.2; clear y1
  have y3 := (M.out.1).d4; have p3_0 := y3.1; have p3_1 := y3.2.1; have p3_2 := y3.2.2.1; have p3_3 := y3.2.2.2; clear y3
  go_wp2_with fail
  clear p1_0 p1_1 p1_2 p1_3 p1_4 p1_5 p1_6 p1_7 p3_0 p3_1 p3_2 p3_3
  refine (spHas_x (o1 := (some r1)) (o2 := (some r2)) (o3 := (some x2)) (b_ := true) (H3.out.keep (M.out.2.2.2.2)) (H4.out.keep (M.out.2.2.2.2)) (H6.out.keep (M.out.2.2.2.2)) (few4_3 HC0.out) (few4_4 HC0.out) HC2.out HC4.out).mono ?_
  rintro e w7 ⟨rfl, hb⟩
  replace M := Lib.hid (Goes.go M.out hb)
  clear hb
  go_wp2_with fail
  go_loopw [10] (fun i10 wr => ∃ (n : Nat), i10 = .int .i64 (n : Int) ∧ Hid (Bx wr (w.heap.size + 1 + 1 + 1) 26 #[f0, f1, f2, f3] ∧ Bx wr (w.heap.size + 1 + 1) 26 #[e0, e1, e2, e3] ∧ Bx wr (w.heap.size + 1) 28 #[v0, v1, v2, v3, v4, v5, v6, v7] ∧ Bx wr w.heap.size 28 #[u0, u1, u2, u3, u4, u5, u6, u7] ∧ Below w.heap.size w wr)) (fun i10 _ => 6 - (RowKit.intOf i10).toNat)
  case atStart =>
    exact ⟨0, rfl, Lib.hid (And.intro (M.out.1) (And.intro (M.out.2.1) (And.intro (M.out.2.2.1) (And.intro (M.out.2.2.2.1) (M.out.2.2.2.2)))))⟩
  case round =>
    obtain ⟨w8, rfl⟩ : ∃ x, x = wr := ⟨_, rfl⟩
    clear M
    obtain ⟨n, rfl, M⟩ := hrel
    by_cases hlt : n < 6
    ·
      have hI : (n : Int) < 6 := by omega
      rcases ho : opS n ⟨p1, p2⟩ ⟨r1, r2⟩ with _ | ⟨lo, hi⟩
      ·
        obtain ⟨rfl, h0_⟩ := op_none ho
        have HON := Lib.hid ho
        have HZ : Hid ((decide (r1 ≤ ((0 : Int) : Rat)) && decide (((0 : Int) : Rat) ≤ r2)) = true) := hasB.2 h0_
        clear ho h0_
        have y0 := (M.out.2.2.2.1).d8; have p0_0 := y0.1; have p0_1 := y0.2.1; have p0_2 := y0.2.2.1; have p0_3 := y0.2.2.2.1; have p0_4 := y0.2.2.2.2.1; have p0_5 := y0.2.2.2.2.2.1; have p0_6 := y0.2.2.2.2.2.2.1; have p0_7 := y0.2.2.2.2.2.2.2; clear y0
        have y1 := (M.out.2.2.1).d8; have p1_0 := y1.1; have p1_1 := y1.2.1; have p1_2 := y1.2.2.1; have p1_3 := y1.2.2.2.1; have p1_4 := y1.2.2.2.2.1; have p1_5 := y1.2.2.2.2.2.1; have p1_6 := y1.2.2.2.2.2.2.1; have p1_7 := y1.2.2.2.2.2.2.2; clear y1
        go_wp2_with fail
        clear p0_0 p0_1 p0_2 p0_3 p0_4 p0_5 p0_6 p0_7 p1_0 p1_1 p1_2 p1_3 p1_4 p1_5 p1_6 p1_7
        refine (play_none (G := G) (p := p1) (q := p2) (r := r1) (s := r2) (i := 3) (Nat.le_trans hG (M.out.2.2.2.2).size) (K1.out.keep (M.out.2.2.2.2)) (K2.out.keep (M.out.2.2.2.2)) (K3.out.keep (M.out.2.2.2.2)) (K4.out.keep (M.out.2.2.2.2)) (Fz.mono Z1.out (by omega)) (Fz.mono Z2.out (by omega)) (Fz.mono Z3.out (by omega)) (Fz.mono Z4.out (by omega)) HAO.out HBO.out rfl HON.out).mono ?_
        rintro e w9 ⟨rfl, hb⟩
        replace M := Lib.hid (Goes.go M.out hb)
        clear hb
        go_upto_region 8 with fail
        obtain ⟨w10, hv⟩ : ∃ w_ : World, w_ = (w9.alloc (.cells #[.int .i64 0, .slice none 0 0, .int .i64 0, .slice none 0 0, .int .i64 0, .slice none 0 0, .int .i64 0, .slice none 0 0] 28)) := ⟨_, rfl⟩
        rw [← hv]
        have ow4_ : w.heap.size + 1 + 1 + 1 < w9.heap.size := ((M.out.1)).lt
        replace M := Lib.hid (And.intro (hv ▸ bx1 w9 28 #[.int .i64 0, .slice none 0 0, .int .i64 0, .slice none 0 0, .int .i64 0, .slice none 0 0, .int .i64 0, .slice none 0 0]) (Goes.go M.out (hv ▸ below_alloc _ _ : Below w9.heap.size w9 w10)))
        clear hv
        go_wp2_with fail
        obtain ⟨w11, hv⟩ : ∃ w_ : World, w_ = w10.drew := ⟨_, rfl⟩
        replace M := Lib.hid (Goes.go M.out (hv ▸ below_drew _ : Below w10.heap.size w10 w11))
        refine wp_region_held_drew (S := (fun w' => w'.cell? ⟨w.heap.size + 1, 0, none⟩ = some (v0) ∧ w'.cell? ⟨w.heap.size + 1, 1, none⟩ = some (v1) ∧ w'.cell? ⟨w.heap.size + 1, 2, none⟩ = some (v2) ∧ w'.cell? ⟨w.heap.size + 1, 3, none⟩ = some (v3) ∧ w'.cell? ⟨w.heap.size + 1, 4, none⟩ = some (v4) ∧ w'.cell? ⟨w.heap.size + 1, 5, none⟩ = some (v5) ∧ w'.cell? ⟨w.heap.size + 1, 6, none⟩ = some (v6) ∧ w'.cell? ⟨w.heap.size + 1, 7, none⟩ = some (v7))) (by kernel_rfl) (by rw [← hv]; exact ⟨(M.out.2.2.2.1).at.1 0, (M.out.2.2.2.1).at.1 1, (M.out.2.2.2.1).at.1 2, (M.out.2.2.2.1).at.1 3, (M.out.2.2.2.1).at.1 4, (M.out.2.2.2.1).at.1 5, (M.out.2.2.2.1).at.1 6, (M.out.2.2.2.1).at.1 7⟩) (fun hH7 => ?_)
        rw [← hv] at hH7 ⊢
        clear hv
        refine tk at0 ?_
        refine tk at1 ?_
        refine tk at2 ?_
        refine tk at3 ?_
        refine tk at4 ?_
        refine tk at5 ?_
        refine tk at6 ?_
        refine tk at7 ?_
        refine wpAnyH_ready (rs := [8]) (by kernel_rfl) (by simp) ?_
        refine AllReadyH.cons at8 (fun K hK => ?_) AllReadyH.nil
        go_simp
        obtain ⟨q12, eq12⟩ : ∃ v_ : Rat, v_ = ((0 : Int) : Rat) := ⟨_, rfl⟩
        refine (rqInt (G := G) (x := 0) (by decide)).mono ?_
        rintro e w12 ⟨x_8, x_9, x_10, x_11, rfl, hd13, hb⟩
        rw [← eq12] at hd13
        have Sq12 : Hid (Fz q12 4) := by show Fz q12 4; rw [eq12]; exact (Fz.int64 (by decide))
        have Eq12 := Lib.hid eq12; clear eq12
        replace M := Lib.hid (And.intro hd13 (Goes.go M.out hb))
        clear hb hd13
        (try go_wp2_with fail)
        refine hK.out _ _ (⟨(M.out.2.2.2.2.1).at.1 0, (M.out.2.2.2.2.1).at.1 1, (M.out.2.2.2.2.1).at.1 2, (M.out.2.2.2.2.1).at.1 3, (M.out.2.2.2.2.1).at.1 4, (M.out.2.2.2.2.1).at.1 5, (M.out.2.2.2.2.1).at.1 6, (M.out.2.2.2.2.1).at.1 7⟩) (fun hH14 => ?_)
        clear hK K hH7
        (try simp only [Act.put, List.setIfInBounds_toArray, List.set_cons_zero, List.set_cons_succ])
        refine wpAnyH_ready (rs := [9]) (by kernel_rfl) (by simp) ?_
        refine AllReadyH.cons at9 (fun K hK => ?_) AllReadyH.nil
        go_simp
        refine (spHas_q (G := G) (p := r1) (q := r2) (x := q12) (b_ := true) (Nat.le_trans hG (M.out.2.2.2.2.2.2).size) (K3.out.keep (M.out.2.2.2.2.2.2)) (K4.out.keep (M.out.2.2.2.2.2.2)) (Fz.mono Z3.out (by omega)) (Fz.mono Z4.out (by omega)) HBO.out (M.out.1) (Fz.mono Sq12.out (by omega)) (by rw [Eq12.out]; exact HZ.out)).mono ?_
        rintro e w13 ⟨rfl, hb⟩
        replace M := Lib.hid (Goes.go M.out hb)
        clear hb
        (try go_wp2_with fail)
        refine hK.out _ _ (⟨(M.out.2.2.2.2.1).at.1 0, (M.out.2.2.2.2.1).at.1 1, (M.out.2.2.2.2.1).at.1 2, (M.out.2.2.2.2.1).at.1 3, (M.out.2.2.2.2.1).at.1 4, (M.out.2.2.2.2.1).at.1 5, (M.out.2.2.2.2.1).at.1 6, (M.out.2.2.2.2.1).at.1 7⟩) (fun hH15 => ?_)
        clear hK K hH14
        (try simp only [Act.put, List.setIfInBounds_toArray, List.set_cons_zero, List.set_cons_succ])
        refine tk at10 ?_
        refine tk at11 ?_
        refine wpAnyH_done (by kernel_rfl) ?_ _
        clear hH15
        go_wp2_with fail
        go_roundw
        case rel => exact ⟨(3 + 1), by go_num, Lib.hid (And.intro (M.out.2.2.1) (And.intro (M.out.2.2.2.1) (And.intro (M.out.2.2.2.2.1) (And.intro (M.out.2.2.2.2.2.1) (M.out.2.2.2.2.2.2)))))⟩
        case measure => simp [RowKit.intOf] <;> omega
      ·
        have HO := Lib.hid ho; have hz_ := op_size Z1.out Z2.out Z3.out Z4.out ho
        have HLS : Hid (Fz lo 12) := hz_.1
        have HHS : Hid (Fz hi 12) := hz_.2
        have HOK : Hid (lo ≤ hi) := op_ok (a := ⟨p1, p2⟩) (b := ⟨r1, r2⟩) (s := ⟨lo, hi⟩) HAO.out HBO.out ho
        obtain ⟨z, hz1_, hz2_⟩ := op_has (a := ⟨p1, p2⟩) (b := ⟨r1, r2⟩) HBO.out HX.out HY.out ho
        have HZC := Lib.hid hz1_
        have HZH : Hid ((decide (lo ≤ z) && decide (z ≤ hi)) = true) := hasB.2 hz2_
        have HZS : Hid (Fz z 137438953472) := calc_size (Z5.out.mono (by omega)) (Z6.out.mono (by omega)) hz1_
        have HM1 := Lib.hid (op_met (a := ⟨p1, p2⟩) (b := ⟨r1, r2⟩) (s := ⟨lo, hi⟩) (v := lo) HBO.out ho (.inl rfl))
        have HM2 := Lib.hid (op_met (a := ⟨p1, p2⟩) (b := ⟨r1, r2⟩) (s := ⟨lo, hi⟩) (v := hi) HBO.out ho (.inr rfl))
        clear ho hz_ hz1_ hz2_
        have y0 := (M.out.2.2.2.1).d8; have p0_0 := y0.1; have p0_1 := y0.2.1; have p0_2 := y0.2.2.1; have p0_3 := y0.2.2.2.1; have p0_4 := y0.2.2.2.2.1; have p0_5 := y0.2.2.2.2.2.1; have p0_6 := y0.2.2.2.2.2.2.1; have p0_7 := y0.2.2.2.2.2.2.2; clear y0
        have y1 := (M.out.2.2.1).d8; have p1_0 := y1.1; have p1_1 := y1.2.1; have p1_2 := y1.2.2.1; have p1_3 := y1.2.2.2.1; have p1_4 := y1.2.2.2.2.1; have p1_5 := y1.2.2.2.2.2.1; have p1_6 := y1.2.2.2.2.2.2.1; have p1_7 := y1.2.2.2.2.2.2.2; clear y1
        go_wp2_with fail
        clear p0_0 p0_1 p0_2 p0_3 p0_4 p0_5 p0_6 p0_7 p1_0 p1_1 p1_2 p1_3 p1_4 p1_5 p1_6 p1_7
        refine (play_some (G := G) (p := p1) (q := p2) (r := r1) (s := r2) (lo := lo) (hi := hi) (i := (n : Int)) (Nat.le_trans hG (M.out.2.2.2.2).size) (K1.out.keep (M.out.2.2.2.2)) (K2.out.keep (M.out.2.2.2.2)) (K3.out.keep (M.out.2.2.2.2)) (K4.out.keep (M.out.2.2.2.2)) (Fz.mono Z1.out (by omega)) (Fz.mono Z2.out (by omega)) (Fz.mono Z3.out (by omega)) (Fz.mono Z4.out (by omega)) HAO.out HBO.out hlt rfl HO.out).mono ?_
        rintro e w9 ⟨x_16, x_17, x_18, x_19, x_20, x_21, x_22, x_23, rfl, hd24, hd25, hb⟩
        replace M := Lib.hid (And.intro hd24 (And.intro hd25 (Goes.go M.out hb)))
        clear hb hd24 hd25
        have ys_x_16 := TQ.st (M.out.1); have st_x_16 := ys_x_16.1; have st_x_17 := ys_x_16.2.1; have st_x_18 := ys_x_16.2.2.1; have st_x_19 := ys_x_16.2.2.2; clear ys_x_16
        have ys_x_20 := TQ.st (M.out.2.1); have st_x_20 := ys_x_20.1; have st_x_21 := ys_x_20.2.1; have st_x_22 := ys_x_20.2.2.1; have st_x_23 := ys_x_20.2.2.2; clear ys_x_20
        go_upto_region 8 with fail
        clear st_x_16 st_x_17 st_x_18 st_x_19 st_x_20 st_x_21 st_x_22 st_x_23
        obtain ⟨w10, hv⟩ : ∃ w_ : World, w_ = (w9.alloc (.cells #[x_16, x_17, x_18, x_19, x_20, x_21, x_22, x_23] 28)) := ⟨_, rfl⟩
        rw [← hv]
        have ow4_ : w.heap.size + 1 + 1 + 1 < w9.heap.size := ((M.out.2.2.1)).lt
        replace M := Lib.hid (And.intro (hv ▸ bx1 w9 28 #[x_16, x_17, x_18, x_19, x_20, x_21, x_22, x_23]) (Goes.go M.out (hv ▸ below_alloc _ _ : Below w9.heap.size w9 w10)))
        clear hv
        have y2 := (M.out.2.2.2.2.1).d4; have p2_0 := y2.1; have p2_1 := y2.2.1; have p2_2 := y2.2.2.1; have p2_3 := y2.2.2.2; clear y2
        have y3 := (M.out.2.2.2.1).d4; have p3_0 := y3.1; have p3_1 := y3.2.1; have p3_2 := y3.2.2.1; have p3_3 := y3.2.2.2; clear y3
        go_wp2_with fail
        clear p2_0 p2_1 p2_2 p2_3 p3_0 p3_1 p3_2 p3_3
        refine (calc_some (G := G) (q := x1) (r := x2) (z := z) (i := (n : Int)) (Nat.le_trans hG (M.out.2.2.2.2.2.2.2).size) (K5.out.keep (M.out.2.2.2.2.2.2.2)) (K6.out.keep (M.out.2.2.2.2.2.2.2)) (Fz.mono Z5.out (by omega)) (Fz.mono Z6.out (by omega)) hlt rfl HZC.out).mono ?_
        rintro e w11 ⟨x_26, x_27, x_28, x_29, rfl, hd30, hb⟩
        replace M := Lib.hid (And.intro hd30 (Goes.go M.out hb))
        clear hb hd30
        have ys_x_26 := TQ.st (M.out.1); have st_x_26 := ys_x_26.1; have st_x_27 := ys_x_26.2.1; have st_x_28 := ys_x_26.2.2.1; have st_x_29 := ys_x_26.2.2.2; clear ys_x_26
        go_upto_region 12 with fail
        clear st_x_26 st_x_27 st_x_28 st_x_29
        obtain ⟨w12, hv⟩ : ∃ w_ : World, w_ = (w11.alloc (.cells #[x_26, x_27, x_28, x_29] 26)) := ⟨_, rfl⟩
        rw [← hv]
        have ow5_ : w9.heap.size < w11.heap.size := ((M.out.2.1)).lt
        replace M := Lib.hid (And.intro (hv ▸ bx1 w11 26 #[x_26, x_27, x_28, x_29]) (Goes.go M.out (hv ▸ below_alloc _ _ : Below w11.heap.size w11 w12)))
        clear hv
        have y4 := (M.out.2.2.1).d8; have p4_0 := y4.1; have p4_1 := y4.2.1; have p4_2 := y4.2.2.1; have p4_3 := y4.2.2.2.1; have p4_4 := y4.2.2.2.2.1; have p4_5 := y4.2.2.2.2.2.1; have p4_6 := y4.2.2.2.2.2.2.1; have p4_7 := y4.2.2.2.2.2.2.2; clear y4
        have y5 := (M.out.1).d4; have p5_0 := y5.1; have p5_1 := y5.2.1; have p5_2 := y5.2.2.1; have p5_3 := y5.2.2.2; clear y5
        go_wp2_with fail
        clear p4_0 p4_1 p4_2 p4_3 p4_4 p4_5 p4_6 p4_7 p5_0 p5_1 p5_2 p5_3
        refine (spHas_q (G := G) (p := lo) (q := hi) (x := z) (b_ := true) (Nat.le_trans hG (M.out.2.2.2.2.2.2.2.2.2).size) (M.out.2.2.2.1) (M.out.2.2.2.2.1) (Fz.mono HLS.out (by omega)) (Fz.mono HHS.out (by omega)) HOK.out (M.out.2.1) HZS.out (by exact HZH.out)).mono ?_
        rintro e w13 ⟨rfl, hb⟩
        replace M := Lib.hid (Goes.go M.out hb)
        clear hb
        have y0 := (M.out.2.2.2.2.2.2.2.2.1).d8; have p0_0 := y0.1; have p0_1 := y0.2.1; have p0_2 := y0.2.2.1; have p0_3 := y0.2.2.2.1; have p0_4 := y0.2.2.2.2.1; have p0_5 := y0.2.2.2.2.2.1; have p0_6 := y0.2.2.2.2.2.2.1; have p0_7 := y0.2.2.2.2.2.2.2; clear y0
        have y1 := (M.out.2.2.2.2.2.2.2.1).d8; have p1_0 := y1.1; have p1_1 := y1.2.1; have p1_2 := y1.2.2.1; have p1_3 := y1.2.2.2.1; have p1_4 := y1.2.2.2.2.1; have p1_5 := y1.2.2.2.2.2.1; have p1_6 := y1.2.2.2.2.2.2.1; have p1_7 := y1.2.2.2.2.2.2.2; clear y1
        have y4 := (M.out.2.2.1).d8; have p4_0 := y4.1; have p4_1 := y4.2.1; have p4_2 := y4.2.2.1; have p4_3 := y4.2.2.2.1; have p4_4 := y4.2.2.2.2.1; have p4_5 := y4.2.2.2.2.2.1; have p4_6 := y4.2.2.2.2.2.2.1; have p4_7 := y4.2.2.2.2.2.2.2; clear y4
        go_wp2_with fail
        clear p0_0 p0_1 p0_2 p0_3 p0_4 p0_5 p0_6 p0_7 p1_0 p1_1 p1_2 p1_3 p1_4 p1_5 p1_6 p1_7 p4_0 p4_1 p4_2 p4_3 p4_4 p4_5 p4_6 p4_7
        refine (met_ok (G := G) (i := (n : Int)) (p := p1) (q := p2) (r := r1) (s := r2) (f := lo) (Nat.le_trans hG (M.out.2.2.2.2.2.2.2.2.2).size) (K1.out.keep (M.out.2.2.2.2.2.2.2.2.2)) (K2.out.keep (M.out.2.2.2.2.2.2.2.2.2)) (K3.out.keep (M.out.2.2.2.2.2.2.2.2.2)) (K4.out.keep (M.out.2.2.2.2.2.2.2.2.2)) (Fz.mono Z1.out (by omega)) (Fz.mono Z2.out (by omega)) (Fz.mono Z3.out (by omega)) (Fz.mono Z4.out (by omega)) (M.out.2.2.2.1) (Fz.mono HLS.out (by omega)) hlt rfl HM1.out).mono ?_
        rintro e w14 ⟨rfl, hb⟩
        replace M := Lib.hid (Goes.go M.out hb)
        clear hb
        have y0 := (M.out.2.2.2.2.2.2.2.2.1).d8; have p0_0 := y0.1; have p0_1 := y0.2.1; have p0_2 := y0.2.2.1; have p0_3 := y0.2.2.2.1; have p0_4 := y0.2.2.2.2.1; have p0_5 := y0.2.2.2.2.2.1; have p0_6 := y0.2.2.2.2.2.2.1; have p0_7 := y0.2.2.2.2.2.2.2; clear y0
        have y1 := (M.out.2.2.2.2.2.2.2.1).d8; have p1_0 := y1.1; have p1_1 := y1.2.1; have p1_2 := y1.2.2.1; have p1_3 := y1.2.2.2.1; have p1_4 := y1.2.2.2.2.1; have p1_5 := y1.2.2.2.2.2.1; have p1_6 := y1.2.2.2.2.2.2.1; have p1_7 := y1.2.2.2.2.2.2.2; clear y1
        have y4 := (M.out.2.2.1).d8; have p4_0 := y4.1; have p4_1 := y4.2.1; have p4_2 := y4.2.2.1; have p4_3 := y4.2.2.2.1; have p4_4 := y4.2.2.2.2.1; have p4_5 := y4.2.2.2.2.2.1; have p4_6 := y4.2.2.2.2.2.2.1; have p4_7 := y4.2.2.2.2.2.2.2; clear y4
        go_wp2_with fail
        clear p0_0 p0_1 p0_2 p0_3 p0_4 p0_5 p0_6 p0_7 p1_0 p1_1 p1_2 p1_3 p1_4 p1_5 p1_6 p1_7 p4_0 p4_1 p4_2 p4_3 p4_4 p4_5 p4_6 p4_7
        refine (met_ok (G := G) (i := (n : Int)) (p := p1) (q := p2) (r := r1) (s := r2) (f := hi) (Nat.le_trans hG (M.out.2.2.2.2.2.2.2.2.2).size) (K1.out.keep (M.out.2.2.2.2.2.2.2.2.2)) (K2.out.keep (M.out.2.2.2.2.2.2.2.2.2)) (K3.out.keep (M.out.2.2.2.2.2.2.2.2.2)) (K4.out.keep (M.out.2.2.2.2.2.2.2.2.2)) (Fz.mono Z1.out (by omega)) (Fz.mono Z2.out (by omega)) (Fz.mono Z3.out (by omega)) (Fz.mono Z4.out (by omega)) (M.out.2.2.2.2.1) (Fz.mono HHS.out (by omega)) hlt rfl HM2.out).mono ?_
        rintro e w15 ⟨rfl, hb⟩
        replace M := Lib.hid (Goes.go M.out hb)
        clear hb
        go_wp2_with fail
        go_roundw
        case rel => exact ⟨(n + 1), by go_num, Lib.hid (And.intro (M.out.2.2.2.2.2.1) (And.intro (M.out.2.2.2.2.2.2.1) (And.intro (M.out.2.2.2.2.2.2.2.1) (And.intro (M.out.2.2.2.2.2.2.2.2.1) (M.out.2.2.2.2.2.2.2.2.2)))))⟩
        case measure => simp [RowKit.intOf] <;> omega
    ·
      have hI : ¬ (n : Int) < 6 := by omega
      go_wp2_with fail
      go_ret
      exact ⟨rfl, (M.out.2.2.2.2)⟩
theorem least_walk {u0 u1 u2 u3 u4 u5 u6 u7 v0 v1 v2 v3 v4 v5 v6 v7 e0 e1 e2 e3 f0 f1 f2 f3 : Value} {n1 m1 n2 m2 n3 m3 n4 m4 n5 m5 n6 m6 : Nat} {o1 o2 o3 o4 o5 o6 : Option Rat} {w : World} (h1 : FX w u0 u1 u2 u3 n1 m1 o1) (h2 : FX w u4 u5 u6 u7 n2 m2 o2) (h3 : FX w v0 v1 v2 v3 n3 m3 o3) (h4 : FX w v4 v5 v6 v7 n4 m4 o4) (h5 : FX w e0 e1 e2 e3 n5 m5 o5) (h6 : FX w f0 f1 f2 f3 n6 m6 o6) :
    Calls Try.prog 7 #[.agg #[u0, u1, u2, u3, u4, u5, u6, u7], .agg #[v0, v1, v2, v3, v4, v5, v6, v7], .agg #[e0, e1, e2, e3], .agg #[f0, f1, f2, f3]] w fun e w' => e = .returned (.bool true) ∧ Below w.heap.size w w' := by
  cases hn : (few4 n1 m1 n2 m2 n3 m3 n4 m4 && (fewF n5 m5 && (fewF n6 m6 && (hasX o1 o2 o5 && hasX o3 o4 o6)))) with
  | false => exact least_not (G := w.heap.size) (Nat.le_refl _) h1 h2 h3 h4 h5 h6 hn
  | true =>
    simp only [Bool.and_eq_true] at hn
    obtain ⟨hc0, hc1, hc2, hc3, hc4⟩ := hn
    obtain ⟨p1, p2, x1, rfl, rfl, rfl, -, -⟩ := has_some hc3
    obtain ⟨r1, r2, x2, rfl, rfl, rfl, -, -⟩ := has_some hc4
    exact least_all (G := w.heap.size) (Nat.le_refl _) h1 h1.fq (h1.z4 (few4_1 hc0)) h2 h2.fq (h2.z4 (few4_2 hc0)) h3 h3.fq (h3.z4 (few4_3 hc0)) h4 h4.fq (h4.z4 (few4_4 hc0)) h5 h5.fq (h5.z4 hc1) h6 h6.fq (h6.z4 hc2) hc0 hc1 hc2 hc3 hc4
end Go.Proofs.Ytjbfngjlepafgaa
