/- The walk of SpanHull: whatever the arguments, it returns true. -/
import Derived.Test.YtjbfngjlepafgaaBase
import Derived.Test.YtjbfngjlepafgaaBigSpec
import Derived.Test.YtjbfngjlepafgaaBigB
import Derived.Test.YtjbfngjlepafgaaBigC
import Derived.Test.YtjbfngjlepafgaaBigD
import Derived.Test.YtjbfngjlepafgaaBigL
import Derived.Test.YtjbfngjlepafgaaBigQ
import Derived.Test.YtjbfngjlepafgaaFracA
import Derived.Test.YtjbfngjlepafgaaFz
import Derived.Test.YtjbfngjlepafgaaHeld
import Derived.Test.YtjbfngjlepafgaaAw
import Derived.Test.YtjbfngjlepafgaaFracR
import Derived.Test.YtjbfngjlepafgaaRefJ
import Derived.Test.YtjbfngjlepafgaaStage
import Derived.Test.YtjbfngjlepafgaaFq
import Derived.Test.YtjbfngjlepafgaaSpanPlain
import Derived.Test.YtjbfngjlepafgaaSpanB
import Derived.Test.YtjbfngjlepafgaaSpanC
import Derived.Test.YtjbfngjlepafgaaSpanE
import Derived.Test.YtjbfngjlepafgaaSpanI
import Derived.Test.YtjbfngjlepafgaaProg
import Derived.WalkKit
import Derived.WalkSpells
import Derived.WalkLawsBesides
import Derived.Handy
import Derived.Lib.Hide
import Derived.Lib.Strings
import Derived.Lib.Builder
import Derived.BigQuiet
import Derived.OwnWalk
import Derived.Laws.BitsLemmas
import Derived.WalkSmall
import Derived.Deep.QuietTactic
import Derived.StillTailTactics
import Derived.Maps.AppendAt
import Derived.IntWalk
import Derived.Deep.RegionHeld3
import Derived.Deep.DeepFit
import Derived.Deep.LoopGhost
import Derived.Deep.DeepCutAuto
import Derived.Lib.ItoaNum
import Derived.Lib.Repeat
import Derived.Lib.AppendIntMem
import Derived.Sort.OwnSorted
import Derived.Shelf.Strings.SlTrimAscii
import Derived.Lib.ConvBytes
import Derived.Lib.CutLaws
namespace Go.Proofs.Ytjbfngjlepafgaa
open Go.RowKit Go.Lib
variable {G : Nat}

set_option maxRecDepth 100000 in
set_option maxHeartbeats 4000000 in
theorem hull_not {u0 u1 u2 u3 u4 u5 u6 u7 v0 v1 v2 v3 v4 v5 v6 v7 y0 y1 y2 y3 y4 y5 y6 y7 e0 e1 e2 e3 : Value} {n1 m1 n2 m2 n3 m3 n4 m4 n5 m5 n6 m6 n7 m7 : Nat} {o1 o2 o3 o4 o5 o6 o7 : Option Rat} {w : World} (hG : G ≤ w.heap.size) (h1 : FX w u0 u1 u2 u3 n1 m1 o1) (h2 : FX w u4 u5 u6 u7 n2 m2 o2) (h3 : FX w v0 v1 v2 v3 n3 m3 o3) (h4 : FX w v4 v5 v6 v7 n4 m4 o4) (h5 : FX w y0 y1 y2 y3 n5 m5 o5) (h6 : FX w y4 y5 y6 y7 n6 m6 o6) (h7 : FX w e0 e1 e2 e3 n7 m7 o7) (hn : (few4 n1 m1 n2 m2 n3 m3 n4 m4 && (few2 n5 m5 n6 m6 && (fewF n7 m7 && (rightX o1 o2 && rightX o3 o4)))) = false) :
    Calls Try.prog 5 #[.agg #[u0, u1, u2, u3, u4, u5, u6, u7], .agg #[v0, v1, v2, v3, v4, v5, v6, v7], .agg #[y0, y1, y2, y3, y4, y5, y6, y7], .agg #[e0, e1, e2, e3]] w fun e w' => e = .returned (.bool true) ∧ Below w.heap.size w w' := by
  obtain ⟨c0, hc0⟩ : ∃ b, few4 n1 m1 n2 m2 n3 m3 n4 m4 = b := ⟨_, rfl⟩
  obtain ⟨c1, hc1⟩ : ∃ b, few2 n5 m5 n6 m6 = b := ⟨_, rfl⟩
  obtain ⟨c2, hc2⟩ : ∃ b, fewF n7 m7 = b := ⟨_, rfl⟩
  obtain ⟨c3, hc3⟩ : ∃ b, rightX o1 o2 = b := ⟨_, rfl⟩
  obtain ⟨c4, hc4⟩ : ∃ b, rightX o3 o4 = b := ⟨_, rfl⟩
  rw [hc0, hc1, hc2, hc3, hc4] at hn
  have HC0 := Lib.hid hc0
  have HC1 := Lib.hid hc1
  have HC2 := Lib.hid hc2
  have HC3 := Lib.hid hc3
  have HC4 := Lib.hid hc4
  have HN := Lib.hid hn
  clear hn hc0 hc1 hc2 hc3 hc4
  have H1 : Hid (FX w u0 u1 u2 u3 n1 m1 o1) := h1
  have H2 : Hid (FX w u4 u5 u6 u7 n2 m2 o2) := h2
  have H3 : Hid (FX w v0 v1 v2 v3 n3 m3 o3) := h3
  have H4 : Hid (FX w v4 v5 v6 v7 n4 m4 o4) := h4
  have H5 : Hid (FX w y0 y1 y2 y3 n5 m5 o5) := h5
  have H6 : Hid (FX w y4 y5 y6 y7 n6 m6 o6) := h6
  have H7 : Hid (FX w e0 e1 e2 e3 n7 m7 o7) := h7
  clear h1 h2 h3 h4 h5 h6 h7
  have M : Hid (Below w.heap.size w w) := Below.refl _ _
  go_enter Try.func5, Try.ntmps5
  go_upto_region 1 with fail
  obtain ⟨w1, hv⟩ : ∃ w_ : World, w_ = ((((w.alloc (.cells #[u0, u1, u2, u3, u4, u5, u6, u7] 28)).alloc (.cells #[v0, v1, v2, v3, v4, v5, v6, v7] 28)).alloc (.cells #[y0, y1, y2, y3, y4, y5, y6, y7] 28)).alloc (.cells #[e0, e1, e2, e3] 26)) := ⟨_, rfl⟩
  rw [← hv]
  have hbx := bx4 w 28 28 28 26 #[u0, u1, u2, u3, u4, u5, u6, u7] #[v0, v1, v2, v3, v4, v5, v6, v7] #[y0, y1, y2, y3, y4, y5, y6, y7] #[e0, e1, e2, e3]
  rw [← hv] at hbx
  have hbn : Below w.heap.size w w1 := by rw [hv]; exact (Below.alloc (Below.alloc (Below.alloc (Below.alloc (Below.refl _ _) (by simp <;> omega) _) (by simp <;> omega) _) (by simp <;> omega) _) (by simp <;> omega) _)
  replace M := Lib.hid (And.intro hbx.2.2.2 (And.intro hbx.2.2.1 (And.intro hbx.2.1 (And.intro hbx.1 (Goes.go M.out hbn)))))
  clear hbx hbn
  clear hv
  go_wp2_with fail
  refine (spanSmall_ok (G := G) (Nat.le_trans hG (M.out.2.2.2.2).size)).mono ?_
  rintro e w2 ⟨rfl, hb⟩
  replace M := Lib.hid (Goes.go M.out hb)
  clear hb
  have y0 := (M.out.2.2.2.1).d8; have p0_0 := y0.1; have p0_1 := y0.2.1; have p0_2 := y0.2.2.1; have p0_3 := y0.2.2.2.1; have p0_4 := y0.2.2.2.2.1; have p0_5 := y0.2.2.2.2.2.1; have p0_6 := y0.2.2.2.2.2.2.1; have p0_7 := y0.2.2.2.2.2.2.2; clear y0
  have y1 := (M.out.2.2.1).d8; have p1_0 := y1.1; have p1_1 := y1.2.1; have p1_2 := y1.2.2.1; have p1_3 := y1.2.2.2.1; have p1_4 := y1.2.2.2.2.1; have p1_5 := y1.2.2.2.2.2.1; have p1_6 := y1.2.2.2.2.2.2.1; have p1_7 := y1.2.2.2.2.2.2.2; clear y1
  go_wp2_with fail
  clear p0_0 p0_1 p0_2 p0_3 p0_4 p0_5 p0_6 p0_7 p1_0 p1_1 p1_2 p1_3 p1_4 p1_5 p1_6 p1_7
  refine (few_s (o1 := o1) (o2 := o2) (o3 := o3) (o4 := o4) (b_ := c0) (H1.out.keep (M.out.2.2.2.2)) (H2.out.keep (M.out.2.2.2.2)) (H3.out.keep (M.out.2.2.2.2)) (H4.out.keep (M.out.2.2.2.2)) HC0.out).mono ?_
  rintro e w3 ⟨rfl, hb⟩
  replace M := Lib.hid (Goes.go M.out hb)
  clear hb
  cases c0 with
  | false =>
    go_wp2_with fail
    go_ret
    exact ⟨rfl, (M.out.2.2.2.2)⟩
  | true =>
    have y2 := (M.out.2.1).d8; have p2_0 := y2.1; have p2_1 := y2.2.1; have p2_2 := y2.2.2.1; have p2_3 := y2.2.2.2.1; have p2_4 := y2.2.2.2.2.1; have p2_5 := y2.2.2.2.2.2.1; have p2_6 := y2.2.2.2.2.2.2.1; have p2_7 := y2.2.2.2.2.2.2.2; clear y2
    go_wp2_with fail
    clear p2_0 p2_1 p2_2 p2_3 p2_4 p2_5 p2_6 p2_7
    refine (rFew_s (o1 := o5) (o2 := o6) (b_ := c1) (H5.out.keep (M.out.2.2.2.2)) (H6.out.keep (M.out.2.2.2.2)) HC1.out).mono ?_
    rintro e w4 ⟨rfl, hb⟩
    replace M := Lib.hid (Goes.go M.out hb)
    clear hb
    cases c1 with
    | false =>
      go_wp2_with fail
      go_ret
      exact ⟨rfl, (M.out.2.2.2.2)⟩
    | true =>
      have y3 := (M.out.1).d4; have p3_0 := y3.1; have p3_1 := y3.2.1; have p3_2 := y3.2.2.1; have p3_3 := y3.2.2.2; clear y3
      go_wp2_with fail
      clear p3_0 p3_1 p3_2 p3_3
      refine (fxFew_ok (o := o7) (k := 4) (r := c2) (H7.out.keep (M.out.2.2.2.2)) HC2.out).mono ?_
      rintro e w5 ⟨rfl, hb⟩
      replace M := Lib.hid (Goes.go M.out hb)
      clear hb
      cases c2 with
      | false =>
        go_wp2_with fail
        go_ret
        exact ⟨rfl, (M.out.2.2.2.2)⟩
      | true =>
        have y0 := (M.out.2.2.2.1).d8; have p0_0 := y0.1; have p0_1 := y0.2.1; have p0_2 := y0.2.2.1; have p0_3 := y0.2.2.2.1; have p0_4 := y0.2.2.2.2.1; have p0_5 := y0.2.2.2.2.2.1; have p0_6 := y0.2.2.2.2.2.2.1; have p0_7 := y0.2.2.2.2.2.2.2; clear y0
        go_wp2_with fail
        clear p0_0 p0_1 p0_2 p0_3 p0_4 p0_5 p0_6 p0_7
        refine (spRight_x (o1 := o1) (o2 := o2) (b_ := c3) (H1.out.keep (M.out.2.2.2.2)) (H2.out.keep (M.out.2.2.2.2)) (few4_1 HC0.out) (few4_2 HC0.out) HC3.out).mono ?_
        rintro e w6 ⟨rfl, hb⟩
        replace M := Lib.hid (Goes.go M.out hb)
        clear hb
        cases c3 with
        | false =>
          go_wp2_with fail
          go_ret
          exact ⟨rfl, (M.out.2.2.2.2)⟩
        | true =>
          have y1 := (M.out.2.2.1).d8; have p1_0 := y1.1; have p1_1 := y1.2.1; have p1_2 := y1.2.2.1; have p1_3 := y1.2.2.2.1; have p1_4 := y1.2.2.2.2.1; have p1_5 := y1.2.2.2.2.2.1; have p1_6 := y1.2.2.2.2.2.2.1; have p1_7 := y1.2.2.2.2.2.2.2; clear y1
          go_wp2_with fail
          clear p1_0 p1_1 p1_2 p1_3 p1_4 p1_5 p1_6 p1_7
          refine (spRight_x (o1 := o3) (o2 := o4) (b_ := c4) (H3.out.keep (M.out.2.2.2.2)) (H4.out.keep (M.out.2.2.2.2)) (few4_3 HC0.out) (few4_4 HC0.out) HC4.out).mono ?_
          rintro e w7 ⟨rfl, hb⟩
          replace M := Lib.hid (Goes.go M.out hb)
          clear hb
          cases c4 with
          | false =>
            go_wp2_with fail
            go_ret
            exact ⟨rfl, (M.out.2.2.2.2)⟩
          | true =>
            go_upto_region 4 with fail
            exact absurd HN.out (by decide)
set_option maxRecDepth 100000 in
set_option maxHeartbeats 4000000 in
theorem insx_3 {u0 u1 u2 u3 u4 u5 u6 u7 v0 v1 v2 v3 v4 v5 v6 v7 : Value} {p q : Rat} {n3 m3 n4 m4 : Nat} {o3 o4 : Option Rat} {w : World} (h1 : FQ G w u0 u1 u2 u3 p) (h2 : FQ G w u4 u5 u6 u7 q) (hp : Fz p 8589934592) (hq : Fz q 8589934592) (ha : p ≤ q) (h3 : FX w v0 v1 v2 v3 n3 m3 o3) (h4 : FX w v4 v5 v6 v7 n4 m4 o4) (hz3 : fewF n3 m3 = true) (hz4 : fewF n4 m4 = true) (hr : rightX o3 o4 = false) :
    Calls Try.prog 10 #[.agg #[u0, u1, u2, u3, u4, u5, u6, u7], .agg #[v0, v1, v2, v3, v4, v5, v6, v7]] w fun e w' => e = .returned (.bool false) ∧ Below w.heap.size w w' := by
  have HP := Lib.hid hp; have HQ := Lib.hid hq; have HA := Lib.hid (decide_eq_true ha); clear hp hq ha
  have HZ3 := Lib.hid hz3; have HZ4 := Lib.hid hz4; have HR := Lib.hid hr; clear hz3 hz4 hr
  have H1 : Hid (FQ G w u0 u1 u2 u3 p) := h1
  have H2 : Hid (FQ G w u4 u5 u6 u7 q) := h2
  have H3 : Hid (FX w v0 v1 v2 v3 n3 m3 o3) := h3
  have H4 : Hid (FX w v4 v5 v6 v7 n4 m4 o4) := h4
  clear h1 h2 h3 h4
  have M : Hid (Below w.heap.size w w) := Below.refl _ _
  go_enter Try.func10, Try.ntmps10
  go_upto_region 1 with fail
  obtain ⟨w1, hv⟩ : ∃ w_ : World, w_ = ((w.alloc (.cells #[u0, u1, u2, u3, u4, u5, u6, u7] 28)).alloc (.cells #[v0, v1, v2, v3, v4, v5, v6, v7] 28)) := ⟨_, rfl⟩
  rw [← hv]
  have hbx := bx2 w 28 28 #[u0, u1, u2, u3, u4, u5, u6, u7] #[v0, v1, v2, v3, v4, v5, v6, v7]
  rw [← hv] at hbx
  have hbn : Below w.heap.size w w1 := by rw [hv]; exact (Below.alloc (Below.alloc (Below.refl _ _) (by simp <;> omega) _) (by simp <;> omega) _)
  replace M := Lib.hid (And.intro hbx.2 (And.intro hbx.1 (Goes.go M.out hbn)))
  clear hbx hbn
  clear hv
  have y0 := (M.out.2.1).d8; have p0_0 := y0.1; have p0_1 := y0.2.1; have p0_2 := y0.2.2.1; have p0_3 := y0.2.2.2.1; have p0_4 := y0.2.2.2.2.1; have p0_5 := y0.2.2.2.2.2.1; have p0_6 := y0.2.2.2.2.2.2.1; have p0_7 := y0.2.2.2.2.2.2.2; clear y0
  go_wp2_with fail
  clear p0_0 p0_1 p0_2 p0_3 p0_4 p0_5 p0_6 p0_7
  refine (spRight_q (G := G) (p := p) (q := q) (b_ := true) (H1.out.keep (M.out.2.2)) (H2.out.keep (M.out.2.2)) (Fz.mono HP.out (by omega)) (Fz.mono HQ.out (by omega)) HA.out).mono ?_
  rintro e w2 ⟨rfl, hb⟩
  replace M := Lib.hid (Goes.go M.out hb)
  clear hb
  have y1 := (M.out.1).d8; have p1_0 := y1.1; have p1_1 := y1.2.1; have p1_2 := y1.2.2.1; have p1_3 := y1.2.2.2.1; have p1_4 := y1.2.2.2.2.1; have p1_5 := y1.2.2.2.2.2.1; have p1_6 := y1.2.2.2.2.2.2.1; have p1_7 := y1.2.2.2.2.2.2.2; clear y1
  go_wp2_with fail
  clear p1_0 p1_1 p1_2 p1_3 p1_4 p1_5 p1_6 p1_7
  refine (spRight_x (o1 := o3) (o2 := o4) (b_ := false) (H3.out.keep (M.out.2.2)) (H4.out.keep (M.out.2.2)) HZ3.out HZ4.out HR.out).mono ?_
  rintro e w3 ⟨rfl, hb⟩
  replace M := Lib.hid (Goes.go M.out hb)
  clear hb
  go_wp2_with fail
  go_ret
  exact ⟨rfl, (M.out.2.2)⟩
set_option maxRecDepth 100000 in
set_option maxHeartbeats 4000000 in
theorem insx_4 {u0 u1 u2 u3 u4 u5 u6 u7 v0 v1 v2 v3 v4 v5 v6 v7 : Value} {n1 m1 n2 m2 : Nat} {o1 o2 : Option Rat} {w : World} (h1 : FX w u0 u1 u2 u3 n1 m1 o1) (h2 : FX w u4 u5 u6 u7 n2 m2 o2) (hz1 : fewF n1 m1 = true) (hz2 : fewF n2 m2 = true) (hr : rightX o1 o2 = false) :
    Calls Try.prog 10 #[.agg #[u0, u1, u2, u3, u4, u5, u6, u7], .agg #[v0, v1, v2, v3, v4, v5, v6, v7]] w fun e w' => e = .returned (.bool false) ∧ Below w.heap.size w w' := by
  have HZ1 := Lib.hid hz1; have HZ2 := Lib.hid hz2; have HR := Lib.hid hr; clear hz1 hz2 hr
  have H1 : Hid (FX w u0 u1 u2 u3 n1 m1 o1) := h1
  have H2 : Hid (FX w u4 u5 u6 u7 n2 m2 o2) := h2
  clear h1 h2
  have M : Hid (Below w.heap.size w w) := Below.refl _ _
  go_enter Try.func10, Try.ntmps10
  go_upto_region 1 with fail
  obtain ⟨w1, hv⟩ : ∃ w_ : World, w_ = ((w.alloc (.cells #[u0, u1, u2, u3, u4, u5, u6, u7] 28)).alloc (.cells #[v0, v1, v2, v3, v4, v5, v6, v7] 28)) := ⟨_, rfl⟩
  rw [← hv]
  have hbx := bx2 w 28 28 #[u0, u1, u2, u3, u4, u5, u6, u7] #[v0, v1, v2, v3, v4, v5, v6, v7]
  rw [← hv] at hbx
  have hbn : Below w.heap.size w w1 := by rw [hv]; exact (Below.alloc (Below.alloc (Below.refl _ _) (by simp <;> omega) _) (by simp <;> omega) _)
  replace M := Lib.hid (And.intro hbx.2 (And.intro hbx.1 (Goes.go M.out hbn)))
  clear hbx hbn
  clear hv
  have y0 := (M.out.2.1).d8; have p0_0 := y0.1; have p0_1 := y0.2.1; have p0_2 := y0.2.2.1; have p0_3 := y0.2.2.2.1; have p0_4 := y0.2.2.2.2.1; have p0_5 := y0.2.2.2.2.2.1; have p0_6 := y0.2.2.2.2.2.2.1; have p0_7 := y0.2.2.2.2.2.2.2; clear y0
  go_wp2_with fail
  clear p0_0 p0_1 p0_2 p0_3 p0_4 p0_5 p0_6 p0_7
  refine (spRight_x (o1 := o1) (o2 := o2) (b_ := false) (H1.out.keep (M.out.2.2)) (H2.out.keep (M.out.2.2)) HZ1.out HZ2.out HR.out).mono ?_
  rintro e w2 ⟨rfl, hb⟩
  replace M := Lib.hid (Goes.go M.out hb)
  clear hb
  go_wp2_with fail
  go_ret
  exact ⟨rfl, (M.out.2.2)⟩
set_option maxRecDepth 100000 in
set_option maxHeartbeats 4000000 in
theorem hasx_3 {u0 u1 u2 u3 u4 u5 u6 u7 v0 v1 v2 v3 : Value} {p q : Rat} {n3 m3 : Nat} {o3 : Option Rat} {w : World} (h1 : FQ G w u0 u1 u2 u3 p) (h2 : FQ G w u4 u5 u6 u7 q) (hp : Fz p 8589934592) (hq : Fz q 8589934592) (ha : p ≤ q) (h3 : FX w v0 v1 v2 v3 n3 m3 o3) (hz3 : fewF n3 m3 = true) (ho : o3.isSome = false) :
    Calls Try.prog 23 #[.agg #[u0, u1, u2, u3, u4, u5, u6, u7], .agg #[v0, v1, v2, v3]] w fun e w' => e = .returned (.bool false) ∧ Below w.heap.size w w' := by
  have HP := Lib.hid hp; have HQ := Lib.hid hq; have HA := Lib.hid (decide_eq_true ha); clear hp hq ha
  have hz_ := few_le hz3; have HO := Lib.hid ho; clear ho hz3
  have H1 : Hid (FQ G w u0 u1 u2 u3 p) := h1
  have H2 : Hid (FQ G w u4 u5 u6 u7 q) := h2
  have H3 : Hid (FX w v0 v1 v2 v3 n3 m3 o3) := h3
  clear h1 h2 h3
  have M : Hid (Below w.heap.size w w) := Below.refl _ _
  go_enter Try.func23, Try.ntmps23
  go_upto_region 1 with fail
  obtain ⟨w1, hv⟩ : ∃ w_ : World, w_ = ((w.alloc (.cells #[u0, u1, u2, u3, u4, u5, u6, u7] 28)).alloc (.cells #[v0, v1, v2, v3] 26)) := ⟨_, rfl⟩
  rw [← hv]
  have hbx := bx2 w 28 26 #[u0, u1, u2, u3, u4, u5, u6, u7] #[v0, v1, v2, v3]
  rw [← hv] at hbx
  have hbn : Below w.heap.size w w1 := by rw [hv]; exact (Below.alloc (Below.alloc (Below.refl _ _) (by simp <;> omega) _) (by simp <;> omega) _)
  replace M := Lib.hid (And.intro hbx.2 (And.intro hbx.1 (Goes.go M.out hbn)))
  clear hbx hbn
  clear hv
  have y0 := (M.out.2.1).d8; have p0_0 := y0.1; have p0_1 := y0.2.1; have p0_2 := y0.2.2.1; have p0_3 := y0.2.2.2.1; have p0_4 := y0.2.2.2.2.1; have p0_5 := y0.2.2.2.2.2.1; have p0_6 := y0.2.2.2.2.2.2.1; have p0_7 := y0.2.2.2.2.2.2.2; clear y0
  go_wp2_with fail
  clear p0_0 p0_1 p0_2 p0_3 p0_4 p0_5 p0_6 p0_7
  refine (spRight_q (G := G) (p := p) (q := q) (b_ := true) (H1.out.keep (M.out.2.2)) (H2.out.keep (M.out.2.2)) (Fz.mono HP.out (by omega)) (Fz.mono HQ.out (by omega)) HA.out).mono ?_
  rintro e w2 ⟨rfl, hb⟩
  replace M := Lib.hid (Goes.go M.out hb)
  clear hb
  have y1 := (M.out.1).d4; have p1_0 := y1.1; have p1_1 := y1.2.1; have p1_2 := y1.2.2.1; have p1_3 := y1.2.2.2; clear y1
  go_wp2_with fail
  clear p1_0 p1_1 p1_2 p1_3
  refine (fxRight_ok (o := o3) (b_ := false) (H3.out.keep (M.out.2.2)) (by omega) (by omega) HO.out).mono ?_
  rintro e w3 ⟨rfl, hb⟩
  replace M := Lib.hid (Goes.go M.out hb)
  clear hb
  go_wp2_with fail
  go_ret
  exact ⟨rfl, (M.out.2.2)⟩
theorem spInside_fx {u0 u1 u2 u3 u4 u5 u6 u7 v0 v1 v2 v3 v4 v5 v6 v7 : Value} {p q : Rat} {n3 m3 n4 m4 : Nat} {o3 o4 : Option Rat} {b_ : Bool} {w : World} (hG : G ≤ w.heap.size) (h1 : FQ G w u0 u1 u2 u3 p) (h2 : FQ G w u4 u5 u6 u7 q) (hp : Fz p 8589934592) (hq : Fz q 8589934592) (ha : p ≤ q) (h3 : FX w v0 v1 v2 v3 n3 m3 o3) (h4 : FX w v4 v5 v6 v7 n4 m4 o4) (hz3 : fewF n3 m3 = true) (hz4 : fewF n4 m4 = true) (hb : insX (some p) (some q) o3 o4 = b_) :
    Calls Try.prog 10 #[.agg #[u0, u1, u2, u3, u4, u5, u6, u7], .agg #[v0, v1, v2, v3, v4, v5, v6, v7]] w fun e w' => e = .returned (.bool b_) ∧ Below w.heap.size w w' := by
  subst hb
  cases hr : rightX o3 o4 with
  | false =>
    rw [show insX (some p) (some q) o3 o4 = false by cases o3 <;> cases o4 <;> simp_all [insX, rightX]]
    exact insx_3 h1 h2 hp hq ha h3 h4 hz3 hz4 hr
  | true =>
    obtain ⟨r, s, rfl, rfl, hrs⟩ := right_some hr
    refine spInside_q (G := w.heap.size) (Nat.le_refl _) (h1.up hG) (h2.up hG) h3.fq h4.fq (hp.mono (by omega)) (hq.mono (by omega)) ((h3.z4 hz3).mono (by omega)) ((h4.z4 hz4).mono (by omega)) ha hrs ?_
    show _ = ((decide (p ≤ q) && decide (r ≤ s)) && _)
    rw [decide_eq_true ha, decide_eq_true hrs]; rfl
theorem spInside_xf {u0 u1 u2 u3 u4 u5 u6 u7 v0 v1 v2 v3 v4 v5 v6 v7 : Value} {r s : Rat} {n1 m1 n2 m2 : Nat} {o1 o2 : Option Rat} {b_ : Bool} {w : World} (hG : G ≤ w.heap.size) (h1 : FX w u0 u1 u2 u3 n1 m1 o1) (h2 : FX w u4 u5 u6 u7 n2 m2 o2) (hz1 : fewF n1 m1 = true) (hz2 : fewF n2 m2 = true) (h3 : FQ G w v0 v1 v2 v3 r) (h4 : FQ G w v4 v5 v6 v7 s) (hr : Fz r 8589934592) (hs : Fz s 8589934592) (ha : r ≤ s) (hb : insX o1 o2 (some r) (some s) = b_) :
    Calls Try.prog 10 #[.agg #[u0, u1, u2, u3, u4, u5, u6, u7], .agg #[v0, v1, v2, v3, v4, v5, v6, v7]] w fun e w' => e = .returned (.bool b_) ∧ Below w.heap.size w w' := by
  subst hb
  cases hr_ : rightX o1 o2 with
  | false =>
    rw [show insX o1 o2 (some r) (some s) = false by cases o1 <;> cases o2 <;> simp_all [insX, rightX]]
    exact insx_4 h1 h2 hz1 hz2 hr_
  | true =>
    obtain ⟨p, q, rfl, rfl, hpq⟩ := right_some hr_
    refine spInside_q (G := w.heap.size) (Nat.le_refl _) h1.fq h2.fq (h3.up hG) (h4.up hG) ((h1.z4 hz1).mono (by omega)) ((h2.z4 hz2).mono (by omega)) (hr.mono (by omega)) (hs.mono (by omega)) hpq ha ?_
    show _ = ((decide (p ≤ q) && decide (r ≤ s)) && _)
    rw [decide_eq_true ha, decide_eq_true hpq]; rfl
theorem spHas_fx {u0 u1 u2 u3 u4 u5 u6 u7 v0 v1 v2 v3 : Value} {p q : Rat} {n3 m3 : Nat} {o3 : Option Rat} {b_ : Bool} {w : World} (hG : G ≤ w.heap.size) (h1 : FQ G w u0 u1 u2 u3 p) (h2 : FQ G w u4 u5 u6 u7 q) (hp : Fz p 8589934592) (hq : Fz q 8589934592) (ha : p ≤ q) (h3 : FX w v0 v1 v2 v3 n3 m3 o3) (hz3 : fewF n3 m3 = true) (hb : hasX (some p) (some q) o3 = b_) :
    Calls Try.prog 23 #[.agg #[u0, u1, u2, u3, u4, u5, u6, u7], .agg #[v0, v1, v2, v3]] w fun e w' => e = .returned (.bool b_) ∧ Below w.heap.size w w' := by
  subst hb
  cases o3 with
  | none => exact hasx_3 h1 h2 hp hq ha h3 hz3 rfl
  | some x =>
    refine spHas_q (G := w.heap.size) (Nat.le_refl _) (h1.up hG) (h2.up hG) (hp.mono (by omega)) (hq.mono (by omega)) ha h3.fq ((h3.z4 hz3).mono (by omega)) ?_
    show _ = (decide (p ≤ q) && _)
    rw [decide_eq_true ha]; rfl
theorem meet_b {p q r s x y : Rat} : (decide (maxQ p r ≤ x) && decide (y ≤ minQ q s)) = ((decide (p ≤ x) && decide (y ≤ q)) && (decide (r ≤ x) && decide (y ≤ s))) := by
  rw [Bool.eq_iff_iff]; simp only [Bool.and_eq_true, decide_eq_true_eq, maxQ_le, le_minQ]; grind
theorem hull_bool {p q r s : Rat} (h1 : p ≤ q) (h2 : r ≤ s) : (decide (min4 p q r s = r) && decide (max4 p q r s = s)) = (decide (r ≤ p) && decide (q ≤ s)) := by
  rw [Bool.eq_iff_iff, inB]
  simp only [Bool.and_eq_true, decide_eq_true_eq]
  rw [hull_is (a := ⟨p, q⟩) (b := ⟨r, s⟩) h1 h2]
  exact ⟨fun h => Sp.ext' h.1 h.2, fun h => ⟨congrArg Sp.lo h, congrArg Sp.hi h⟩⟩
theorem meet_none2 {p q r s x : Rat} (hm : minQ q s < maxQ p r) (h : hasS ⟨p, q⟩ x) (k : hasS ⟨r, s⟩ x) : False :=
  meet_none (a := ⟨p, q⟩) (b := ⟨r, s⟩) (x := x) (by unfold meetS; rw [if_pos hm]) ⟨h, k⟩
theorem meet_nin2 {p q r s x y : Rat} (hxy : x ≤ y) (hm : minQ q s < maxQ p r) (h : inS ⟨x, y⟩ ⟨p, q⟩) (k : inS ⟨x, y⟩ ⟨r, s⟩) : False :=
  meet_ninS (a := ⟨p, q⟩) (b := ⟨r, s⟩) (c := ⟨x, y⟩) hxy (by unfold meetS; rw [if_pos hm]) ⟨h, k⟩
def HullIn (p1 p2 r1 r2 hl hh : Rat) (o5 o6 : Option Rat) : Prop := insX (some p1) (some p2) o5 o6 = true → insX (some r1) (some r2) o5 o6 = true → insX (some hl) (some hh) o5 o6 = true
theorem hull_inn {p1 p2 r1 r2 : Rat} {o5 o6 : Option Rat} (h1 : p1 ≤ p2) (h2 : r1 ≤ r2) : HullIn p1 p2 r1 r2 (min4 p1 p2 r1 r2) (max4 p1 p2 r1 r2) o5 o6 := by
  intro e1 e2
  obtain ⟨_, _, s1, s2, k1, k2, rfl, rfl, -, hs, i1⟩ := ins_some e1
  cases k1; cases k2
  obtain ⟨_, _, _, _, k1, k2, k3, k4, -, -, i2⟩ := ins_some e2
  cases k1; cases k2; cases k3; cases k4
  have h3 := hullS_ok (a := ⟨p1, p2⟩) (b := ⟨r1, r2⟩) h1 h2
  have h4 := inB.2 (hull_least (a := ⟨p1, p2⟩) (b := ⟨r1, r2⟩) (c := ⟨s1, s2⟩) h1 h2 i1 i2)
  show ((decide (min4 p1 p2 r1 r2 ≤ max4 p1 p2 r1 r2) && decide (s1 ≤ s2)) && _) = true
  rw [decide_eq_true hs, decide_eq_true (show min4 p1 p2 r1 r2 ≤ max4 p1 p2 r1 r2 from h3)]
  exact h4
theorem has_meet {p q r s : Rat} {o : Option Rat} (h1 : p ≤ q) (h2 : r ≤ s) (hm : ¬ minQ q s < maxQ p r) : hasX (some (maxQ p r)) (some (minQ q s)) o = (hasX (some p) (some q) o && hasX (some r) (some s) o) := by
  cases o with
  | none => rfl
  | some x =>
    show (decide _ && _) = ((decide _ && _) && (decide _ && _))
    rw [decide_eq_true h1, decide_eq_true h2, decide_eq_true (Rat.not_lt.1 hm)]
    exact meet_b
theorem ins_meet {p q r s : Rat} {o1 o2 : Option Rat} (h1 : p ≤ q) (h2 : r ≤ s) (hm : ¬ minQ q s < maxQ p r) : insX o1 o2 (some (maxQ p r)) (some (minQ q s)) = (insX o1 o2 (some p) (some q) && insX o1 o2 (some r) (some s)) := by
  cases o1 with
  | none => rfl
  | some x =>
    cases o2 with
    | none => rfl
    | some y =>
      show ((decide _ && decide _) && _) = (((decide _ && decide _) && _) && ((decide _ && decide _) && _))
      rw [decide_eq_true h1, decide_eq_true h2, decide_eq_true (Rat.not_lt.1 hm), Bool.and_true, meet_b]
      cases decide (x ≤ y) <;> rfl
theorem has_nomeet {p q r s : Rat} {o : Option Rat} (hm : minQ q s < maxQ p r) (e1 : hasX (some p) (some q) o = true) (e2 : hasX (some r) (some s) o = true) : False := by
  obtain ⟨_, _, x, k1, k2, rfl, -, i1⟩ := has_some e1
  cases k1; cases k2
  obtain ⟨_, _, _, k1, k2, k3, -, i2⟩ := has_some e2
  cases k1; cases k2; cases k3
  exact meet_none2 hm i1 i2
theorem ins_nomeet {p q r s : Rat} {o1 o2 : Option Rat} (hm : minQ q s < maxQ p r) (e1 : insX o1 o2 (some p) (some q) = true) (e2 : insX o1 o2 (some r) (some s) = true) : False := by
  obtain ⟨x, y, _, _, rfl, rfl, k1, k2, hxy, -, i1⟩ := ins_some e1
  cases k1; cases k2
  obtain ⟨_, _, _, _, k1, k2, k3, k4, -, -, i2⟩ := ins_some e2
  cases k1; cases k2; cases k3; cases k4
  exact meet_nin2 hxy hm i1 i2
set_option maxRecDepth 100000 in
set_option maxHeartbeats 4000000 in
theorem hull_n_s10 {u0 u1 u2 u3 u4 u5 u6 u7 v0 v1 v2 v3 v4 v5 v6 v7 y0 y1 y2 y3 y4 y5 y6 y7 e0 e1 e2 e3 : Value} {n1 m1 n2 m2 n3 m3 n4 m4 n5 m5 n6 m6 n7 m7 : Nat} {p1 p2 r1 r2 hl hh : Rat} {o5 o6 o7 : Option Rat} {bi b4 b5 b6 b7 : Bool} {w : World}  {w17 : World}  {B0 B1 B2 B3 B5 : Nat} {x0_ x1_ x2_ x3_ x10_ x11_ x14_ x15_ x16_ x17_ x18_ x19_ x20_ x21_ x22_ x23_ x24_ x25_ x26_ x27_ x28_ x29_ x30_ x31_ x32_ x33_ x34_ x35_ x36_ x37_ x38_ x39_ x40_ x41_ x42_ x43_ x44_ x45_ x46_ x47_ x48_ x49_ x50_ x51_ x52_ x53_ x54_ x55_ x56_ x57_ x58_ x59_ x60_ x61_ x62_ x63_ x64_ x65_ x66_ x67_ x68_ x69_ x70_ x71_ x72_ x73_ x74_ x75_ x76_ x77_ x78_ x79_ x80_ x81_ x82_ x83_ x84_ x85_ x86_ x87_ x88_ x89_ : Value} (hG : G ≤ w.heap.size) (Z1 : Hid (Fz p1 4)) (Z2 : Hid (Fz p2 4)) (Z3 : Hid (Fz r1 4)) (Z4 : Hid (Fz r2 4)) (_HC0 : Hid (few4 n1 m1 n2 m2 n3 m3 n4 m4 = true)) (HC1 : Hid (few2 n5 m5 n6 m6 = true)) (HC2 : Hid (fewF n7 m7 = true)) (HC3 : Hid (rightX (some p1) (some p2) = true)) (HC4 : Hid (rightX (some r1) (some r2) = true)) (_HH1 : Hid ((decide (hl ≤ p1) && decide (p2 ≤ hh)) = true)) (_HH2 : Hid ((decide (hl ≤ r1) && decide (r2 ≤ hh)) = true)) (_HHO : Hid (hl ≤ hh)) (_HSa : Hid (Fz hl 4)) (_HSb : Hid (Fz hh 4)) (_HBI : Hid ((decide (r1 ≤ p1) && decide (p2 ≤ r2)) = bi)) (_HBJ : Hid ((decide (hl = r1) && decide (hh = r2)) = bi)) (_HHL : Hid (min4 p1 p2 r1 r2 = hl)) (_HHH : Hid (max4 p1 p2 r1 r2 = hh)) (HM1 : Hid (minQ p2 r2 < maxQ p1 r1)) (HB6 : Hid (insX o5 o6 (some p1) (some p2) = b6)) (HB7 : Hid (insX o5 o6 (some r1) (some r2) = b7)) (HB4 : Hid (hasX (some p1) (some p2) o7 = b4)) (HB5 : Hid (hasX (some r1) (some r2) o7 = b5)) (_H1 : Hid (FX w u0 u1 u2 u3 n1 m1 (some p1))) (K1 : Hid (FQ G w u0 u1 u2 u3 p1)) (_H2 : Hid (FX w u4 u5 u6 u7 n2 m2 (some p2))) (K2 : Hid (FQ G w u4 u5 u6 u7 p2)) (_H3 : Hid (FX w v0 v1 v2 v3 n3 m3 (some r1))) (K3 : Hid (FQ G w v0 v1 v2 v3 r1)) (_H4 : Hid (FX w v4 v5 v6 v7 n4 m4 (some r2))) (K4 : Hid (FQ G w v4 v5 v6 v7 r2)) (H5 : Hid (FX w y0 y1 y2 y3 n5 m5 o5)) (H6 : Hid (FX w y4 y5 y6 y7 n6 m6 o6)) (H7 : Hid (FX w e0 e1 e2 e3 n7 m7 o7)) (_oB0 : w.heap.size ≤ B0) (_oB1 : B0 < B1) (_oB2 : B1 < B2) (_oB3 : B2 < B3) (_oB5 : B3 < B5) (M : Hid (Bx w17 B5 28 #[.int .i64 0, .slice none 0 0, .int .i64 0, .slice none 0 0, .int .i64 0, .slice none 0 0, .int .i64 0, .slice none 0 0] ∧ Bx w17 B3 26 #[e0, e1, e2, e3] ∧ Bx w17 B2 28 #[y0, y1, y2, y3, y4, y5, y6, y7] ∧ Bx w17 B1 28 #[v0, v1, v2, v3, v4, v5, v6, v7] ∧ Bx w17 B0 28 #[u0, u1, u2, u3, u4, u5, u6, u7] ∧ Below w.heap.size w w17)) :
    ∀ K : Act → World → Prop, (∀ a_ w_, Code.wp Try.prog (restAt Try.f5 10) (bodyPost Try.prog Try.f5 fun e w' => e = .returned (.bool true) ∧ Below w.heap.size w w') a_ w_ → K a_ w_) → Code.wp Try.prog (regAt Try.f5 10) (Exit.then K (bodyPost Try.prog Try.f5 fun e w' => e = .returned (.bool true) ∧ Below w.heap.size w w')) ⟨List.toArray (x0_ :: x1_ :: x2_ :: x3_ :: .pointer (some ⟨B0, 0, none⟩) :: .pointer (some ⟨B1, 0, none⟩) :: .pointer (some ⟨B2, 0, none⟩) :: .pointer (some ⟨B3, 0, none⟩) :: .bool false :: .bool true :: x10_ :: x11_ :: .pointer (some ⟨B5, 0, none⟩) :: .bool false :: x14_ :: x15_ :: x16_ :: x17_ :: x18_ :: x19_ :: x20_ :: x21_ :: x22_ :: x23_ :: x24_ :: x25_ :: x26_ :: x27_ :: x28_ :: x29_ :: x30_ :: x31_ :: x32_ :: x33_ :: x34_ :: x35_ :: x36_ :: x37_ :: x38_ :: x39_ :: x40_ :: x41_ :: x42_ :: x43_ :: x44_ :: x45_ :: x46_ :: x47_ :: x48_ :: x49_ :: x50_ :: x51_ :: x52_ :: x53_ :: x54_ :: x55_ :: x56_ :: x57_ :: x58_ :: x59_ :: x60_ :: x61_ :: x62_ :: x63_ :: x64_ :: x65_ :: x66_ :: x67_ :: x68_ :: x69_ :: x70_ :: x71_ :: x72_ :: x73_ :: x74_ :: x75_ :: x76_ :: x77_ :: x78_ :: x79_ :: x80_ :: x81_ :: x82_ :: x83_ :: x84_ :: x85_ :: x86_ :: x87_ :: x88_ :: x89_ :: undef :: undef :: undef :: undef :: undef :: undef :: undef :: undef :: undef :: undef :: undef :: undef :: undef :: undef :: undef :: undef :: undef :: undef :: undef :: undef :: undef :: undef :: undef :: undef :: undef :: undef :: undef :: undef :: undef :: undef :: undef :: undef :: undef :: undef :: undef :: undef :: undef :: undef :: undef :: undef :: undef :: undef :: undef :: undef :: undef :: undef :: undef :: undef :: undef :: []), []⟩ w17 := by
  intro Kst_ hst_
  conv => arg 2; whnf
  conv at hst_ => enter [a_, w_, 1, 2]; whnf
  have y0 := (M.out.2.2.2.2.1).d8; have p0_0 := y0.1; have p0_1 := y0.2.1; have p0_2 := y0.2.2.1; have p0_3 := y0.2.2.2.1; have p0_4 := y0.2.2.2.2.1; have p0_5 := y0.2.2.2.2.2.1; have p0_6 := y0.2.2.2.2.2.2.1; have p0_7 := y0.2.2.2.2.2.2.2; clear y0
  have y3 := (M.out.2.1).d4; have p3_0 := y3.1; have p3_1 := y3.2.1; have p3_2 := y3.2.2.1; have p3_3 := y3.2.2.2; clear y3
  go_wp2_with fail
  clear p0_0 p0_1 p0_2 p0_3 p0_4 p0_5 p0_6 p0_7 p3_0 p3_1 p3_2 p3_3
  refine (spHas_fx (G := G) (p := p1) (q := p2) (o3 := o7) (b_ := b4) (Nat.le_trans hG (M.out.2.2.2.2.2).size) (K1.out.keep (M.out.2.2.2.2.2)) (K2.out.keep (M.out.2.2.2.2.2)) (Fz.mono Z1.out (by omega)) (Fz.mono Z2.out (by omega)) (right_le HC3.out) (H7.out.keep (M.out.2.2.2.2.2)) HC2.out HB4.out).mono ?_
  rintro e w18 ⟨rfl, hb⟩
  replace M := Lib.hid (Goes.go M.out hb)
  clear hb
  cases b4 with
  | false =>
    have y2 := (M.out.2.2.1).d8; have p2_0 := y2.1; have p2_1 := y2.2.1; have p2_2 := y2.2.2.1; have p2_3 := y2.2.2.2.1; have p2_4 := y2.2.2.2.2.1; have p2_5 := y2.2.2.2.2.2.1; have p2_6 := y2.2.2.2.2.2.2.1; have p2_7 := y2.2.2.2.2.2.2.2; clear y2
    have y0 := (M.out.2.2.2.2.1).d8; have p0_0 := y0.1; have p0_1 := y0.2.1; have p0_2 := y0.2.2.1; have p0_3 := y0.2.2.2.1; have p0_4 := y0.2.2.2.2.1; have p0_5 := y0.2.2.2.2.2.1; have p0_6 := y0.2.2.2.2.2.2.1; have p0_7 := y0.2.2.2.2.2.2.2; clear y0
    go_wp2_with fail
    clear p2_0 p2_1 p2_2 p2_3 p2_4 p2_5 p2_6 p2_7 p0_0 p0_1 p0_2 p0_3 p0_4 p0_5 p0_6 p0_7
    refine (spInside_xf (G := G) (r := p1) (s := p2) (o1 := o5) (o2 := o6) (b_ := b6) (Nat.le_trans hG (M.out.2.2.2.2.2).size) (H5.out.keep (M.out.2.2.2.2.2)) (H6.out.keep (M.out.2.2.2.2.2)) (few2_1 HC1.out) (few2_2 HC1.out) (K1.out.keep (M.out.2.2.2.2.2)) (K2.out.keep (M.out.2.2.2.2.2)) (Fz.mono Z1.out (by omega)) (Fz.mono Z2.out (by omega)) (right_le HC3.out) HB6.out).mono ?_
    rintro e w19 ⟨rfl, hb⟩
    replace M := Lib.hid (Goes.go M.out hb)
    clear hb
    cases b6 with
    | false =>
      go_wp2_with fail
      go_ret
      exact ⟨rfl, (M.out.2.2.2.2.2)⟩
    | true =>
      have y2 := (M.out.2.2.1).d8; have p2_0 := y2.1; have p2_1 := y2.2.1; have p2_2 := y2.2.2.1; have p2_3 := y2.2.2.2.1; have p2_4 := y2.2.2.2.2.1; have p2_5 := y2.2.2.2.2.2.1; have p2_6 := y2.2.2.2.2.2.2.1; have p2_7 := y2.2.2.2.2.2.2.2; clear y2
      have y1 := (M.out.2.2.2.1).d8; have p1_0 := y1.1; have p1_1 := y1.2.1; have p1_2 := y1.2.2.1; have p1_3 := y1.2.2.2.1; have p1_4 := y1.2.2.2.2.1; have p1_5 := y1.2.2.2.2.2.1; have p1_6 := y1.2.2.2.2.2.2.1; have p1_7 := y1.2.2.2.2.2.2.2; clear y1
      go_wp2_with fail
      clear p2_0 p2_1 p2_2 p2_3 p2_4 p2_5 p2_6 p2_7 p1_0 p1_1 p1_2 p1_3 p1_4 p1_5 p1_6 p1_7
      refine (spInside_xf (G := G) (r := r1) (s := r2) (o1 := o5) (o2 := o6) (b_ := b7) (Nat.le_trans hG (M.out.2.2.2.2.2).size) (H5.out.keep (M.out.2.2.2.2.2)) (H6.out.keep (M.out.2.2.2.2.2)) (few2_1 HC1.out) (few2_2 HC1.out) (K3.out.keep (M.out.2.2.2.2.2)) (K4.out.keep (M.out.2.2.2.2.2)) (Fz.mono Z3.out (by omega)) (Fz.mono Z4.out (by omega)) (right_le HC4.out) HB7.out).mono ?_
      rintro e w20 ⟨rfl, hb⟩
      replace M := Lib.hid (Goes.go M.out hb)
      clear hb
      cases b7 with
      | false =>
        go_wp2_with fail
        go_ret
        exact ⟨rfl, (M.out.2.2.2.2.2)⟩
      | true =>
        go_wp2_with fail
        go_ret
        exact (ins_nomeet HM1.out HB6.out HB7.out).elim
  | true =>
    have y1 := (M.out.2.2.2.1).d8; have p1_0 := y1.1; have p1_1 := y1.2.1; have p1_2 := y1.2.2.1; have p1_3 := y1.2.2.2.1; have p1_4 := y1.2.2.2.2.1; have p1_5 := y1.2.2.2.2.2.1; have p1_6 := y1.2.2.2.2.2.2.1; have p1_7 := y1.2.2.2.2.2.2.2; clear y1
    have y3 := (M.out.2.1).d4; have p3_0 := y3.1; have p3_1 := y3.2.1; have p3_2 := y3.2.2.1; have p3_3 := y3.2.2.2; clear y3
    go_wp2_with fail
    clear p1_0 p1_1 p1_2 p1_3 p1_4 p1_5 p1_6 p1_7 p3_0 p3_1 p3_2 p3_3
    refine (spHas_fx (G := G) (p := r1) (q := r2) (o3 := o7) (b_ := b5) (Nat.le_trans hG (M.out.2.2.2.2.2).size) (K3.out.keep (M.out.2.2.2.2.2)) (K4.out.keep (M.out.2.2.2.2.2)) (Fz.mono Z3.out (by omega)) (Fz.mono Z4.out (by omega)) (right_le HC4.out) (H7.out.keep (M.out.2.2.2.2.2)) HC2.out HB5.out).mono ?_
    rintro e w19 ⟨rfl, hb⟩
    replace M := Lib.hid (Goes.go M.out hb)
    clear hb
    cases b5 with
    | false =>
      have y2 := (M.out.2.2.1).d8; have p2_0 := y2.1; have p2_1 := y2.2.1; have p2_2 := y2.2.2.1; have p2_3 := y2.2.2.2.1; have p2_4 := y2.2.2.2.2.1; have p2_5 := y2.2.2.2.2.2.1; have p2_6 := y2.2.2.2.2.2.2.1; have p2_7 := y2.2.2.2.2.2.2.2; clear y2
      have y0 := (M.out.2.2.2.2.1).d8; have p0_0 := y0.1; have p0_1 := y0.2.1; have p0_2 := y0.2.2.1; have p0_3 := y0.2.2.2.1; have p0_4 := y0.2.2.2.2.1; have p0_5 := y0.2.2.2.2.2.1; have p0_6 := y0.2.2.2.2.2.2.1; have p0_7 := y0.2.2.2.2.2.2.2; clear y0
      go_wp2_with fail
      clear p2_0 p2_1 p2_2 p2_3 p2_4 p2_5 p2_6 p2_7 p0_0 p0_1 p0_2 p0_3 p0_4 p0_5 p0_6 p0_7
      refine (spInside_xf (G := G) (r := p1) (s := p2) (o1 := o5) (o2 := o6) (b_ := b6) (Nat.le_trans hG (M.out.2.2.2.2.2).size) (H5.out.keep (M.out.2.2.2.2.2)) (H6.out.keep (M.out.2.2.2.2.2)) (few2_1 HC1.out) (few2_2 HC1.out) (K1.out.keep (M.out.2.2.2.2.2)) (K2.out.keep (M.out.2.2.2.2.2)) (Fz.mono Z1.out (by omega)) (Fz.mono Z2.out (by omega)) (right_le HC3.out) HB6.out).mono ?_
      rintro e w20 ⟨rfl, hb⟩
      replace M := Lib.hid (Goes.go M.out hb)
      clear hb
      cases b6 with
      | false =>
        go_wp2_with fail
        go_ret
        exact ⟨rfl, (M.out.2.2.2.2.2)⟩
      | true =>
        have y2 := (M.out.2.2.1).d8; have p2_0 := y2.1; have p2_1 := y2.2.1; have p2_2 := y2.2.2.1; have p2_3 := y2.2.2.2.1; have p2_4 := y2.2.2.2.2.1; have p2_5 := y2.2.2.2.2.2.1; have p2_6 := y2.2.2.2.2.2.2.1; have p2_7 := y2.2.2.2.2.2.2.2; clear y2
        have y1 := (M.out.2.2.2.1).d8; have p1_0 := y1.1; have p1_1 := y1.2.1; have p1_2 := y1.2.2.1; have p1_3 := y1.2.2.2.1; have p1_4 := y1.2.2.2.2.1; have p1_5 := y1.2.2.2.2.2.1; have p1_6 := y1.2.2.2.2.2.2.1; have p1_7 := y1.2.2.2.2.2.2.2; clear y1
        go_wp2_with fail
        clear p2_0 p2_1 p2_2 p2_3 p2_4 p2_5 p2_6 p2_7 p1_0 p1_1 p1_2 p1_3 p1_4 p1_5 p1_6 p1_7
        refine (spInside_xf (G := G) (r := r1) (s := r2) (o1 := o5) (o2 := o6) (b_ := b7) (Nat.le_trans hG (M.out.2.2.2.2.2).size) (H5.out.keep (M.out.2.2.2.2.2)) (H6.out.keep (M.out.2.2.2.2.2)) (few2_1 HC1.out) (few2_2 HC1.out) (K3.out.keep (M.out.2.2.2.2.2)) (K4.out.keep (M.out.2.2.2.2.2)) (Fz.mono Z3.out (by omega)) (Fz.mono Z4.out (by omega)) (right_le HC4.out) HB7.out).mono ?_
        rintro e w21 ⟨rfl, hb⟩
        replace M := Lib.hid (Goes.go M.out hb)
        clear hb
        cases b7 with
        | false =>
          go_wp2_with fail
          go_ret
          exact ⟨rfl, (M.out.2.2.2.2.2)⟩
        | true =>
          go_wp2_with fail
          go_ret
          exact (ins_nomeet HM1.out HB6.out HB7.out).elim
    | true =>
      go_wp2_with fail
      go_ret
      exact (has_nomeet HM1.out HB4.out HB5.out).elim
set_option maxRecDepth 100000 in
set_option maxHeartbeats 4000000 in
theorem hull_n {u0 u1 u2 u3 u4 u5 u6 u7 v0 v1 v2 v3 v4 v5 v6 v7 y0 y1 y2 y3 y4 y5 y6 y7 e0 e1 e2 e3 : Value} {n1 m1 n2 m2 n3 m3 n4 m4 n5 m5 n6 m6 n7 m7 : Nat} {p1 p2 r1 r2 hl hh : Rat} {o5 o6 o7 : Option Rat} {bi b1 b2 b4 b5 b6 b7 : Bool} {w : World}  (hG : G ≤ w.heap.size) (Z1 : Hid (Fz p1 4)) (Z2 : Hid (Fz p2 4)) (Z3 : Hid (Fz r1 4)) (Z4 : Hid (Fz r2 4)) (HC0 : Hid (few4 n1 m1 n2 m2 n3 m3 n4 m4 = true)) (HC1 : Hid (few2 n5 m5 n6 m6 = true)) (HC2 : Hid (fewF n7 m7 = true)) (HC3 : Hid (rightX (some p1) (some p2) = true)) (HC4 : Hid (rightX (some r1) (some r2) = true)) (HH1 : Hid ((decide (hl ≤ p1) && decide (p2 ≤ hh)) = true)) (HH2 : Hid ((decide (hl ≤ r1) && decide (r2 ≤ hh)) = true)) (HHO : Hid (hl ≤ hh)) (HSa : Hid (Fz hl 4)) (HSb : Hid (Fz hh 4)) (HBI : Hid ((decide (r1 ≤ p1) && decide (p2 ≤ r2)) = bi)) (HBJ : Hid ((decide (hl = r1) && decide (hh = r2)) = bi)) (HHL : Hid (min4 p1 p2 r1 r2 = hl)) (HHH : Hid (max4 p1 p2 r1 r2 = hh)) (HM1 : Hid (minQ p2 r2 < maxQ p1 r1)) (HB1 : Hid (insX (some p1) (some p2) o5 o6 = b1)) (HB2 : Hid (insX (some r1) (some r2) o5 o6 = b2)) (HHC : Hid (HullIn p1 p2 r1 r2 hl hh o5 o6)) (HB6 : Hid (insX o5 o6 (some p1) (some p2) = b6)) (HB7 : Hid (insX o5 o6 (some r1) (some r2) = b7)) (HB4 : Hid (hasX (some p1) (some p2) o7 = b4)) (HB5 : Hid (hasX (some r1) (some r2) o7 = b5)) (h1 : FX w u0 u1 u2 u3 n1 m1 (some p1)) (k1 : FQ G w u0 u1 u2 u3 p1) (h2 : FX w u4 u5 u6 u7 n2 m2 (some p2)) (k2 : FQ G w u4 u5 u6 u7 p2) (h3 : FX w v0 v1 v2 v3 n3 m3 (some r1)) (k3 : FQ G w v0 v1 v2 v3 r1) (h4 : FX w v4 v5 v6 v7 n4 m4 (some r2)) (k4 : FQ G w v4 v5 v6 v7 r2) (h5 : FX w y0 y1 y2 y3 n5 m5 o5) (h6 : FX w y4 y5 y6 y7 n6 m6 o6) (h7 : FX w e0 e1 e2 e3 n7 m7 o7)  :
    Calls Try.prog 5 #[.agg #[u0, u1, u2, u3, u4, u5, u6, u7], .agg #[v0, v1, v2, v3, v4, v5, v6, v7], .agg #[y0, y1, y2, y3, y4, y5, y6, y7], .agg #[e0, e1, e2, e3]] w fun e w' => e = .returned (.bool true) ∧ Below w.heap.size w w' := by
  have H1 : Hid (FX w u0 u1 u2 u3 n1 m1 (some p1)) := h1
  have K1 : Hid (FQ G w u0 u1 u2 u3 p1) := k1
  have H2 : Hid (FX w u4 u5 u6 u7 n2 m2 (some p2)) := h2
  have K2 : Hid (FQ G w u4 u5 u6 u7 p2) := k2
  have H3 : Hid (FX w v0 v1 v2 v3 n3 m3 (some r1)) := h3
  have K3 : Hid (FQ G w v0 v1 v2 v3 r1) := k3
  have H4 : Hid (FX w v4 v5 v6 v7 n4 m4 (some r2)) := h4
  have K4 : Hid (FQ G w v4 v5 v6 v7 r2) := k4
  have H5 : Hid (FX w y0 y1 y2 y3 n5 m5 o5) := h5
  have H6 : Hid (FX w y4 y5 y6 y7 n6 m6 o6) := h6
  have H7 : Hid (FX w e0 e1 e2 e3 n7 m7 o7) := h7
  clear h1 k1 h2 k2 h3 k3 h4 k4 h5 h6 h7
  have M : Hid (Below w.heap.size w w) := Below.refl _ _
  go_enter Try.func5, Try.ntmps5
  go_upto_region 1 with fail
  obtain ⟨w1, hv⟩ : ∃ w_ : World, w_ = ((((w.alloc (.cells #[u0, u1, u2, u3, u4, u5, u6, u7] 28)).alloc (.cells #[v0, v1, v2, v3, v4, v5, v6, v7] 28)).alloc (.cells #[y0, y1, y2, y3, y4, y5, y6, y7] 28)).alloc (.cells #[e0, e1, e2, e3] 26)) := ⟨_, rfl⟩
  rw [← hv]
  have hbx := bx4 w 28 28 28 26 #[u0, u1, u2, u3, u4, u5, u6, u7] #[v0, v1, v2, v3, v4, v5, v6, v7] #[y0, y1, y2, y3, y4, y5, y6, y7] #[e0, e1, e2, e3]
  rw [← hv] at hbx
  have hbn : Below w.heap.size w w1 := by rw [hv]; exact (Below.alloc (Below.alloc (Below.alloc (Below.alloc (Below.refl _ _) (by simp <;> omega) _) (by simp <;> omega) _) (by simp <;> omega) _) (by simp <;> omega) _)
  replace M := Lib.hid (And.intro hbx.2.2.2 (And.intro hbx.2.2.1 (And.intro hbx.2.1 (And.intro hbx.1 (Goes.go M.out hbn)))))
  clear hbx hbn
  clear hv
  go_wp2_with fail
  refine (spanSmall_ok (G := G) (Nat.le_trans hG (M.out.2.2.2.2).size)).mono ?_
  rintro e w2 ⟨rfl, hb⟩
  replace M := Lib.hid (Goes.go M.out hb)
  clear hb
  have y0 := (M.out.2.2.2.1).d8; have p0_0 := y0.1; have p0_1 := y0.2.1; have p0_2 := y0.2.2.1; have p0_3 := y0.2.2.2.1; have p0_4 := y0.2.2.2.2.1; have p0_5 := y0.2.2.2.2.2.1; have p0_6 := y0.2.2.2.2.2.2.1; have p0_7 := y0.2.2.2.2.2.2.2; clear y0
  have y1 := (M.out.2.2.1).d8; have p1_0 := y1.1; have p1_1 := y1.2.1; have p1_2 := y1.2.2.1; have p1_3 := y1.2.2.2.1; have p1_4 := y1.2.2.2.2.1; have p1_5 := y1.2.2.2.2.2.1; have p1_6 := y1.2.2.2.2.2.2.1; have p1_7 := y1.2.2.2.2.2.2.2; clear y1
  go_wp2_with fail
  clear p0_0 p0_1 p0_2 p0_3 p0_4 p0_5 p0_6 p0_7 p1_0 p1_1 p1_2 p1_3 p1_4 p1_5 p1_6 p1_7
  refine (few_s (o1 := (some p1)) (o2 := (some p2)) (o3 := (some r1)) (o4 := (some r2)) (b_ := true) (H1.out.keep (M.out.2.2.2.2)) (H2.out.keep (M.out.2.2.2.2)) (H3.out.keep (M.out.2.2.2.2)) (H4.out.keep (M.out.2.2.2.2)) HC0.out).mono ?_
  rintro e w3 ⟨rfl, hb⟩
  replace M := Lib.hid (Goes.go M.out hb)
  clear hb
  have y2 := (M.out.2.1).d8; have p2_0 := y2.1; have p2_1 := y2.2.1; have p2_2 := y2.2.2.1; have p2_3 := y2.2.2.2.1; have p2_4 := y2.2.2.2.2.1; have p2_5 := y2.2.2.2.2.2.1; have p2_6 := y2.2.2.2.2.2.2.1; have p2_7 := y2.2.2.2.2.2.2.2; clear y2
  go_wp2_with fail
  clear p2_0 p2_1 p2_2 p2_3 p2_4 p2_5 p2_6 p2_7
  refine (rFew_s (o1 := o5) (o2 := o6) (b_ := true) (H5.out.keep (M.out.2.2.2.2)) (H6.out.keep (M.out.2.2.2.2)) HC1.out).mono ?_
  rintro e w4 ⟨rfl, hb⟩
  replace M := Lib.hid (Goes.go M.out hb)
  clear hb
  have y3 := (M.out.1).d4; have p3_0 := y3.1; have p3_1 := y3.2.1; have p3_2 := y3.2.2.1; have p3_3 := y3.2.2.2; clear y3
  go_wp2_with fail
  clear p3_0 p3_1 p3_2 p3_3
  refine (fxFew_ok (o := o7) (k := 4) (r := true) (H7.out.keep (M.out.2.2.2.2)) HC2.out).mono ?_
  rintro e w5 ⟨rfl, hb⟩
  replace M := Lib.hid (Goes.go M.out hb)
  clear hb
  have y0 := (M.out.2.2.2.1).d8; have p0_0 := y0.1; have p0_1 := y0.2.1; have p0_2 := y0.2.2.1; have p0_3 := y0.2.2.2.1; have p0_4 := y0.2.2.2.2.1; have p0_5 := y0.2.2.2.2.2.1; have p0_6 := y0.2.2.2.2.2.2.1; have p0_7 := y0.2.2.2.2.2.2.2; clear y0
  go_wp2_with fail
  clear p0_0 p0_1 p0_2 p0_3 p0_4 p0_5 p0_6 p0_7
  refine (spRight_x (o1 := (some p1)) (o2 := (some p2)) (b_ := true) (H1.out.keep (M.out.2.2.2.2)) (H2.out.keep (M.out.2.2.2.2)) (few4_1 HC0.out) (few4_2 HC0.out) HC3.out).mono ?_
  rintro e w6 ⟨rfl, hb⟩
  replace M := Lib.hid (Goes.go M.out hb)
  clear hb
  have y1 := (M.out.2.2.1).d8; have p1_0 := y1.1; have p1_1 := y1.2.1; have p1_2 := y1.2.2.1; have p1_3 := y1.2.2.2.1; have p1_4 := y1.2.2.2.2.1; have p1_5 := y1.2.2.2.2.2.1; have p1_6 := y1.2.2.2.2.2.2.1; have p1_7 := y1.2.2.2.2.2.2.2; clear y1
  go_wp2_with fail
  clear p1_0 p1_1 p1_2 p1_3 p1_4 p1_5 p1_6 p1_7
  refine (spRight_x (o1 := (some r1)) (o2 := (some r2)) (b_ := true) (H3.out.keep (M.out.2.2.2.2)) (H4.out.keep (M.out.2.2.2.2)) (few4_3 HC0.out) (few4_4 HC0.out) HC4.out).mono ?_
  rintro e w7 ⟨rfl, hb⟩
  replace M := Lib.hid (Goes.go M.out hb)
  clear hb
  have y0 := (M.out.2.2.2.1).d8; have p0_0 := y0.1; have p0_1 := y0.2.1; have p0_2 := y0.2.2.1; have p0_3 := y0.2.2.2.1; have p0_4 := y0.2.2.2.2.1; have p0_5 := y0.2.2.2.2.2.1; have p0_6 := y0.2.2.2.2.2.2.1; have p0_7 := y0.2.2.2.2.2.2.2; clear y0
  have y1 := (M.out.2.2.1).d8; have p1_0 := y1.1; have p1_1 := y1.2.1; have p1_2 := y1.2.2.1; have p1_3 := y1.2.2.2.1; have p1_4 := y1.2.2.2.2.1; have p1_5 := y1.2.2.2.2.2.1; have p1_6 := y1.2.2.2.2.2.2.1; have p1_7 := y1.2.2.2.2.2.2.2; clear y1
  go_wp2_with fail
  clear p0_0 p0_1 p0_2 p0_3 p0_4 p0_5 p0_6 p0_7 p1_0 p1_1 p1_2 p1_3 p1_4 p1_5 p1_6 p1_7
  refine (spHull_q (G := G) (p := p1) (q := p2) (r := r1) (s := r2) (lo := hl) (hi := hh) (Nat.le_trans hG (M.out.2.2.2.2).size) (K1.out.keep (M.out.2.2.2.2)) (K2.out.keep (M.out.2.2.2.2)) (K3.out.keep (M.out.2.2.2.2)) (K4.out.keep (M.out.2.2.2.2)) (Fz.mono Z1.out (by omega)) (Fz.mono Z2.out (by omega)) (Fz.mono Z3.out (by omega)) (Fz.mono Z4.out (by omega)) (right_le HC3.out) (right_le HC4.out) HHL.out HHH.out).mono ?_
  rintro e w8 ⟨x_1, x_2, x_3, x_4, x_5, x_6, x_7, x_8, rfl, hd9, hd10, hb⟩
  replace M := Lib.hid (And.intro hd9 (And.intro hd10 (Goes.go M.out hb)))
  clear hb hd9 hd10
  have ys_x_1 := TQ.st (M.out.1); have st_x_1 := ys_x_1.1; have st_x_2 := ys_x_1.2.1; have st_x_3 := ys_x_1.2.2.1; have st_x_4 := ys_x_1.2.2.2; clear ys_x_1
  have ys_x_5 := TQ.st (M.out.2.1); have st_x_5 := ys_x_5.1; have st_x_6 := ys_x_5.2.1; have st_x_7 := ys_x_5.2.2.1; have st_x_8 := ys_x_5.2.2.2; clear ys_x_5
  go_upto_region 5 with fail
  clear st_x_1 st_x_2 st_x_3 st_x_4 st_x_5 st_x_6 st_x_7 st_x_8
  obtain ⟨w9, hv⟩ : ∃ w_ : World, w_ = (w8.alloc (.cells #[x_1, x_2, x_3, x_4, x_5, x_6, x_7, x_8] 28)) := ⟨_, rfl⟩
  rw [← hv]
  have ow4_ : w.heap.size + 1 + 1 + 1 < w8.heap.size := ((M.out.2.2.1)).lt
  replace M := Lib.hid (And.intro (hv ▸ bx1 w8 28 #[x_1, x_2, x_3, x_4, x_5, x_6, x_7, x_8]) (Goes.go M.out (hv ▸ below_alloc _ _ : Below w8.heap.size w8 w9)))
  clear hv
  have y0 := (M.out.2.2.2.2.2.2.1).d8; have p0_0 := y0.1; have p0_1 := y0.2.1; have p0_2 := y0.2.2.1; have p0_3 := y0.2.2.2.1; have p0_4 := y0.2.2.2.2.1; have p0_5 := y0.2.2.2.2.2.1; have p0_6 := y0.2.2.2.2.2.2.1; have p0_7 := y0.2.2.2.2.2.2.2; clear y0
  have y1 := (M.out.2.2.2.2.2.1).d8; have p1_0 := y1.1; have p1_1 := y1.2.1; have p1_2 := y1.2.2.1; have p1_3 := y1.2.2.2.1; have p1_4 := y1.2.2.2.2.1; have p1_5 := y1.2.2.2.2.2.1; have p1_6 := y1.2.2.2.2.2.2.1; have p1_7 := y1.2.2.2.2.2.2.2; clear y1
  go_wp2_with fail
  clear p0_0 p0_1 p0_2 p0_3 p0_4 p0_5 p0_6 p0_7 p1_0 p1_1 p1_2 p1_3 p1_4 p1_5 p1_6 p1_7
  refine (spMeet_none (G := G) (p := p1) (q := p2) (r := r1) (s := r2) (Nat.le_trans hG (M.out.2.2.2.2.2.2.2).size) (K1.out.keep (M.out.2.2.2.2.2.2.2)) (K2.out.keep (M.out.2.2.2.2.2.2.2)) (K3.out.keep (M.out.2.2.2.2.2.2.2)) (K4.out.keep (M.out.2.2.2.2.2.2.2)) (Fz.mono Z1.out (by omega)) (Fz.mono Z2.out (by omega)) (Fz.mono Z3.out (by omega)) (Fz.mono Z4.out (by omega)) (right_le HC3.out) (right_le HC4.out) HM1.out).mono ?_
  rintro e w10 ⟨rfl, hb⟩
  replace M := Lib.hid (Goes.go M.out hb)
  clear hb
  go_wp2_with fail
  obtain ⟨w11, hv⟩ : ∃ w_ : World, w_ = (w10.alloc (.cells #[.int .i64 0, .slice none 0 0, .int .i64 0, .slice none 0 0, .int .i64 0, .slice none 0 0, .int .i64 0, .slice none 0 0] 28)) := ⟨_, rfl⟩
  rw [← hv]
  have ow5_ : w8.heap.size < w10.heap.size := ((M.out.1)).lt
  replace M := Lib.hid (And.intro (hv ▸ bx1 w10 28 #[.int .i64 0, .slice none 0 0, .int .i64 0, .slice none 0 0, .int .i64 0, .slice none 0 0, .int .i64 0, .slice none 0 0]) (Goes.go M.out (hv ▸ below_alloc _ _ : Below w10.heap.size w10 w11)))
  clear hv
  obtain ⟨w12, hv⟩ : ∃ w_ : World, w_ = w11.drew := ⟨_, rfl⟩
  replace M := Lib.hid (Goes.go M.out (hv ▸ below_drew _ : Below w11.heap.size w11 w12))
  refine wp_region_held_drew (S := (fun w' => w'.cell? ⟨w.heap.size, 0, none⟩ = some (u0) ∧ w'.cell? ⟨w.heap.size, 1, none⟩ = some (u1) ∧ w'.cell? ⟨w.heap.size, 2, none⟩ = some (u2) ∧ w'.cell? ⟨w.heap.size, 3, none⟩ = some (u3) ∧ w'.cell? ⟨w.heap.size, 4, none⟩ = some (u4) ∧ w'.cell? ⟨w.heap.size, 5, none⟩ = some (u5) ∧ w'.cell? ⟨w.heap.size, 6, none⟩ = some (u6) ∧ w'.cell? ⟨w.heap.size, 7, none⟩ = some (u7) ∧ w'.cell? ⟨w.heap.size + 1, 0, none⟩ = some (v0) ∧ w'.cell? ⟨w.heap.size + 1, 1, none⟩ = some (v1) ∧ w'.cell? ⟨w.heap.size + 1, 2, none⟩ = some (v2) ∧ w'.cell? ⟨w.heap.size + 1, 3, none⟩ = some (v3) ∧ w'.cell? ⟨w.heap.size + 1, 4, none⟩ = some (v4) ∧ w'.cell? ⟨w.heap.size + 1, 5, none⟩ = some (v5) ∧ w'.cell? ⟨w.heap.size + 1, 6, none⟩ = some (v6) ∧ w'.cell? ⟨w.heap.size + 1, 7, none⟩ = some (v7) ∧ w'.cell? ⟨w8.heap.size, 0, none⟩ = some (x_1) ∧ w'.cell? ⟨w8.heap.size, 1, none⟩ = some (x_2) ∧ w'.cell? ⟨w8.heap.size, 2, none⟩ = some (x_3) ∧ w'.cell? ⟨w8.heap.size, 3, none⟩ = some (x_4) ∧ w'.cell? ⟨w8.heap.size, 4, none⟩ = some (x_5) ∧ w'.cell? ⟨w8.heap.size, 5, none⟩ = some (x_6) ∧ w'.cell? ⟨w8.heap.size, 6, none⟩ = some (x_7) ∧ w'.cell? ⟨w8.heap.size, 7, none⟩ = some (x_8))) (by kernel_rfl) (by rw [← hv]; exact ⟨(M.out.2.2.2.2.2.2.2.1).at.1 0, (M.out.2.2.2.2.2.2.2.1).at.1 1, (M.out.2.2.2.2.2.2.2.1).at.1 2, (M.out.2.2.2.2.2.2.2.1).at.1 3, (M.out.2.2.2.2.2.2.2.1).at.1 4, (M.out.2.2.2.2.2.2.2.1).at.1 5, (M.out.2.2.2.2.2.2.2.1).at.1 6, (M.out.2.2.2.2.2.2.2.1).at.1 7, (M.out.2.2.2.2.2.2.1).at.1 0, (M.out.2.2.2.2.2.2.1).at.1 1, (M.out.2.2.2.2.2.2.1).at.1 2, (M.out.2.2.2.2.2.2.1).at.1 3, (M.out.2.2.2.2.2.2.1).at.1 4, (M.out.2.2.2.2.2.2.1).at.1 5, (M.out.2.2.2.2.2.2.1).at.1 6, (M.out.2.2.2.2.2.2.1).at.1 7, (M.out.2.1).at.1 0, (M.out.2.1).at.1 1, (M.out.2.1).at.1 2, (M.out.2.1).at.1 3, (M.out.2.1).at.1 4, (M.out.2.1).at.1 5, (M.out.2.1).at.1 6, (M.out.2.1).at.1 7⟩) (fun hH11 => ?_)
  rw [← hv] at hH11 ⊢
  clear hv
  refine tk at0 ?_
  refine tk at1 ?_
  refine tk at2 ?_
  refine tk at3 ?_
  refine tk at4 ?_
  refine wpAnyH_ready (rs := [5]) (by kernel_rfl) (by simp) ?_
  refine AllReadyH.cons at5 (fun K hK => ?_) AllReadyH.nil
  go_simp
  refine (spInside_q (G := G) (p := p1) (q := p2) (r := hl) (s := hh) (b_ := true) (Nat.le_trans hG (M.out.2.2.2.2.2.2.2.2).size) (K1.out.keep (M.out.2.2.2.2.2.2.2.2)) (K2.out.keep (M.out.2.2.2.2.2.2.2.2)) (M.out.2.2.1) (M.out.2.2.2.1) (Fz.mono Z1.out (by omega)) (Fz.mono Z2.out (by omega)) (Fz.mono HSa.out (by omega)) (Fz.mono HSb.out (by omega)) (right_le HC3.out) HHO.out HH1.out).mono ?_
  rintro e w13 ⟨rfl, hb⟩
  replace M := Lib.hid (Goes.go M.out hb)
  clear hb
  (try go_wp2_with fail)
  refine hK.out _ _ (⟨(M.out.2.2.2.2.2.2.2.1).at.1 0, (M.out.2.2.2.2.2.2.2.1).at.1 1, (M.out.2.2.2.2.2.2.2.1).at.1 2, (M.out.2.2.2.2.2.2.2.1).at.1 3, (M.out.2.2.2.2.2.2.2.1).at.1 4, (M.out.2.2.2.2.2.2.2.1).at.1 5, (M.out.2.2.2.2.2.2.2.1).at.1 6, (M.out.2.2.2.2.2.2.2.1).at.1 7, (M.out.2.2.2.2.2.2.1).at.1 0, (M.out.2.2.2.2.2.2.1).at.1 1, (M.out.2.2.2.2.2.2.1).at.1 2, (M.out.2.2.2.2.2.2.1).at.1 3, (M.out.2.2.2.2.2.2.1).at.1 4, (M.out.2.2.2.2.2.2.1).at.1 5, (M.out.2.2.2.2.2.2.1).at.1 6, (M.out.2.2.2.2.2.2.1).at.1 7, (M.out.2.1).at.1 0, (M.out.2.1).at.1 1, (M.out.2.1).at.1 2, (M.out.2.1).at.1 3, (M.out.2.1).at.1 4, (M.out.2.1).at.1 5, (M.out.2.1).at.1 6, (M.out.2.1).at.1 7⟩) (fun hH12 => ?_)
  clear hK K hH11
  (try simp only [Act.put, List.setIfInBounds_toArray, List.set_cons_zero, List.set_cons_succ])
  refine tk at6 ?_
  refine tk at7 ?_
  refine tk at8 ?_
  refine tk at9 ?_
  refine tk at10 ?_
  refine wpAnyH_ready (rs := [11]) (by kernel_rfl) (by simp) ?_
  refine AllReadyH.cons at11 (fun K hK => ?_) AllReadyH.nil
  go_simp
  refine (spInside_q (G := G) (p := r1) (q := r2) (r := hl) (s := hh) (b_ := true) (Nat.le_trans hG (M.out.2.2.2.2.2.2.2.2).size) (K3.out.keep (M.out.2.2.2.2.2.2.2.2)) (K4.out.keep (M.out.2.2.2.2.2.2.2.2)) (M.out.2.2.1) (M.out.2.2.2.1) (Fz.mono Z3.out (by omega)) (Fz.mono Z4.out (by omega)) (Fz.mono HSa.out (by omega)) (Fz.mono HSb.out (by omega)) (right_le HC4.out) HHO.out HH2.out).mono ?_
  rintro e w14 ⟨rfl, hb⟩
  replace M := Lib.hid (Goes.go M.out hb)
  clear hb
  (try go_wp2_with fail)
  refine hK.out _ _ (⟨(M.out.2.2.2.2.2.2.2.1).at.1 0, (M.out.2.2.2.2.2.2.2.1).at.1 1, (M.out.2.2.2.2.2.2.2.1).at.1 2, (M.out.2.2.2.2.2.2.2.1).at.1 3, (M.out.2.2.2.2.2.2.2.1).at.1 4, (M.out.2.2.2.2.2.2.2.1).at.1 5, (M.out.2.2.2.2.2.2.2.1).at.1 6, (M.out.2.2.2.2.2.2.2.1).at.1 7, (M.out.2.2.2.2.2.2.1).at.1 0, (M.out.2.2.2.2.2.2.1).at.1 1, (M.out.2.2.2.2.2.2.1).at.1 2, (M.out.2.2.2.2.2.2.1).at.1 3, (M.out.2.2.2.2.2.2.1).at.1 4, (M.out.2.2.2.2.2.2.1).at.1 5, (M.out.2.2.2.2.2.2.1).at.1 6, (M.out.2.2.2.2.2.2.1).at.1 7, (M.out.2.1).at.1 0, (M.out.2.1).at.1 1, (M.out.2.1).at.1 2, (M.out.2.1).at.1 3, (M.out.2.1).at.1 4, (M.out.2.1).at.1 5, (M.out.2.1).at.1 6, (M.out.2.1).at.1 7⟩) (fun hH13 => ?_)
  clear hK K hH12
  (try simp only [Act.put, List.setIfInBounds_toArray, List.set_cons_zero, List.set_cons_succ])
  refine tk at12 ?_
  refine tk at13 ?_
  refine tk at14 ?_
  refine tk at15 ?_
  refine tk at16 ?_
  refine tk at18 ?_
  refine tk at19 ?_
  refine wpAnyH_ready (rs := [17]) (by kernel_rfl) (by simp) ?_
  refine AllReadyH.cons at17 (fun K hK => ?_) AllReadyH.nil
  go_simp
  refine (spInside_q (G := G) (p := p1) (q := p2) (r := r1) (s := r2) (b_ := bi) (Nat.le_trans hG (M.out.2.2.2.2.2.2.2.2).size) (K1.out.keep (M.out.2.2.2.2.2.2.2.2)) (K2.out.keep (M.out.2.2.2.2.2.2.2.2)) (K3.out.keep (M.out.2.2.2.2.2.2.2.2)) (K4.out.keep (M.out.2.2.2.2.2.2.2.2)) (Fz.mono Z1.out (by omega)) (Fz.mono Z2.out (by omega)) (Fz.mono Z3.out (by omega)) (Fz.mono Z4.out (by omega)) (right_le HC3.out) (right_le HC4.out) HBI.out).mono ?_
  rintro e w15 ⟨rfl, hb⟩
  replace M := Lib.hid (Goes.go M.out hb)
  clear hb
  (try go_wp2_with fail)
  refine hK.out _ _ (⟨(M.out.2.2.2.2.2.2.2.1).at.1 0, (M.out.2.2.2.2.2.2.2.1).at.1 1, (M.out.2.2.2.2.2.2.2.1).at.1 2, (M.out.2.2.2.2.2.2.2.1).at.1 3, (M.out.2.2.2.2.2.2.2.1).at.1 4, (M.out.2.2.2.2.2.2.2.1).at.1 5, (M.out.2.2.2.2.2.2.2.1).at.1 6, (M.out.2.2.2.2.2.2.2.1).at.1 7, (M.out.2.2.2.2.2.2.1).at.1 0, (M.out.2.2.2.2.2.2.1).at.1 1, (M.out.2.2.2.2.2.2.1).at.1 2, (M.out.2.2.2.2.2.2.1).at.1 3, (M.out.2.2.2.2.2.2.1).at.1 4, (M.out.2.2.2.2.2.2.1).at.1 5, (M.out.2.2.2.2.2.2.1).at.1 6, (M.out.2.2.2.2.2.2.1).at.1 7, (M.out.2.1).at.1 0, (M.out.2.1).at.1 1, (M.out.2.1).at.1 2, (M.out.2.1).at.1 3, (M.out.2.1).at.1 4, (M.out.2.1).at.1 5, (M.out.2.1).at.1 6, (M.out.2.1).at.1 7⟩) (fun hH14 => ?_)
  clear hK K hH13
  (try simp only [Act.put, List.setIfInBounds_toArray, List.set_cons_zero, List.set_cons_succ])
  refine wpAnyH_ready (rs := [20]) (by kernel_rfl) (by simp) ?_
  refine AllReadyH.cons at20 (fun K hK => ?_) AllReadyH.nil
  go_simp
  refine (spSame_b (G := G) (p := hl) (q := hh) (r := r1) (s := r2) (b_ := bi) (M.out.2.2.1) (M.out.2.2.2.1) (K3.out.keep (M.out.2.2.2.2.2.2.2.2)) (K4.out.keep (M.out.2.2.2.2.2.2.2.2)) (Fz.mono HSa.out (by omega)) (Fz.mono HSb.out (by omega)) (Fz.mono Z3.out (by omega)) (Fz.mono Z4.out (by omega)) HBJ.out).mono ?_
  rintro e w16 ⟨rfl, hb⟩
  replace M := Lib.hid (Goes.go M.out hb)
  clear hb
  (try go_wp2_with fail)
  refine hK.out _ _ (⟨(M.out.2.2.2.2.2.2.2.1).at.1 0, (M.out.2.2.2.2.2.2.2.1).at.1 1, (M.out.2.2.2.2.2.2.2.1).at.1 2, (M.out.2.2.2.2.2.2.2.1).at.1 3, (M.out.2.2.2.2.2.2.2.1).at.1 4, (M.out.2.2.2.2.2.2.2.1).at.1 5, (M.out.2.2.2.2.2.2.2.1).at.1 6, (M.out.2.2.2.2.2.2.2.1).at.1 7, (M.out.2.2.2.2.2.2.1).at.1 0, (M.out.2.2.2.2.2.2.1).at.1 1, (M.out.2.2.2.2.2.2.1).at.1 2, (M.out.2.2.2.2.2.2.1).at.1 3, (M.out.2.2.2.2.2.2.1).at.1 4, (M.out.2.2.2.2.2.2.1).at.1 5, (M.out.2.2.2.2.2.2.1).at.1 6, (M.out.2.2.2.2.2.2.1).at.1 7, (M.out.2.1).at.1 0, (M.out.2.1).at.1 1, (M.out.2.1).at.1 2, (M.out.2.1).at.1 3, (M.out.2.1).at.1 4, (M.out.2.1).at.1 5, (M.out.2.1).at.1 6, (M.out.2.1).at.1 7⟩) (fun hH15 => ?_)
  clear hK K hH14
  (try simp only [Act.put, List.setIfInBounds_toArray, List.set_cons_zero, List.set_cons_succ])
  refine tk at21 ?_
  refine tk at22 ?_
  refine wpAnyH_done (by kernel_rfl) ?_ _
  clear hH15
  have y0 := (M.out.2.2.2.2.2.2.2.1).d8; have p0_0 := y0.1; have p0_1 := y0.2.1; have p0_2 := y0.2.2.1; have p0_3 := y0.2.2.2.1; have p0_4 := y0.2.2.2.2.1; have p0_5 := y0.2.2.2.2.2.1; have p0_6 := y0.2.2.2.2.2.2.1; have p0_7 := y0.2.2.2.2.2.2.2; clear y0
  have y2 := (M.out.2.2.2.2.2.1).d8; have p2_0 := y2.1; have p2_1 := y2.2.1; have p2_2 := y2.2.2.1; have p2_3 := y2.2.2.2.1; have p2_4 := y2.2.2.2.2.1; have p2_5 := y2.2.2.2.2.2.1; have p2_6 := y2.2.2.2.2.2.2.1; have p2_7 := y2.2.2.2.2.2.2.2; clear y2
  go_wp2_with fail
  clear p0_0 p0_1 p0_2 p0_3 p0_4 p0_5 p0_6 p0_7 p2_0 p2_1 p2_2 p2_3 p2_4 p2_5 p2_6 p2_7
  refine (spInside_fx (G := G) (p := p1) (q := p2) (o3 := o5) (o4 := o6) (b_ := b1) (Nat.le_trans hG (M.out.2.2.2.2.2.2.2.2).size) (K1.out.keep (M.out.2.2.2.2.2.2.2.2)) (K2.out.keep (M.out.2.2.2.2.2.2.2.2)) (Fz.mono Z1.out (by omega)) (Fz.mono Z2.out (by omega)) (right_le HC3.out) (H5.out.keep (M.out.2.2.2.2.2.2.2.2)) (H6.out.keep (M.out.2.2.2.2.2.2.2.2)) (few2_1 HC1.out) (few2_2 HC1.out) HB1.out).mono ?_
  rintro e w17 ⟨rfl, hb⟩
  replace M := Lib.hid (Goes.go M.out hb)
  clear hb
  cases b1 with
  | false =>
    go_upto_region 10 with fail
    replace M := Lib.hid (And.intro (M.out.1) (And.intro (M.out.2.2.2.2.1) (And.intro (M.out.2.2.2.2.2.1) (And.intro (M.out.2.2.2.2.2.2.1) (And.intro (M.out.2.2.2.2.2.2.2.1) (M.out.2.2.2.2.2.2.2.2))))))
    rename_i Kst_ hst_
    exact hull_n_s10 hG Z1 Z2 Z3 Z4 HC0 HC1 HC2 HC3 HC4 HH1 HH2 HHO HSa HSb HBI HBJ HHL HHH HM1 HB6 HB7 HB4 HB5 H1 K1 H2 K2 H3 K3 H4 K4 H5 H6 H7 (by omega) (by omega) (by omega) (by omega) (by omega) M Kst_ hst_
  | true =>
    have y1 := (M.out.2.2.2.2.2.2.1).d8; have p1_0 := y1.1; have p1_1 := y1.2.1; have p1_2 := y1.2.2.1; have p1_3 := y1.2.2.2.1; have p1_4 := y1.2.2.2.2.1; have p1_5 := y1.2.2.2.2.2.1; have p1_6 := y1.2.2.2.2.2.2.1; have p1_7 := y1.2.2.2.2.2.2.2; clear y1
    have y2 := (M.out.2.2.2.2.2.1).d8; have p2_0 := y2.1; have p2_1 := y2.2.1; have p2_2 := y2.2.2.1; have p2_3 := y2.2.2.2.1; have p2_4 := y2.2.2.2.2.1; have p2_5 := y2.2.2.2.2.2.1; have p2_6 := y2.2.2.2.2.2.2.1; have p2_7 := y2.2.2.2.2.2.2.2; clear y2
    go_wp2_with fail
    clear p1_0 p1_1 p1_2 p1_3 p1_4 p1_5 p1_6 p1_7 p2_0 p2_1 p2_2 p2_3 p2_4 p2_5 p2_6 p2_7
    refine (spInside_fx (G := G) (p := r1) (q := r2) (o3 := o5) (o4 := o6) (b_ := b2) (Nat.le_trans hG (M.out.2.2.2.2.2.2.2.2).size) (K3.out.keep (M.out.2.2.2.2.2.2.2.2)) (K4.out.keep (M.out.2.2.2.2.2.2.2.2)) (Fz.mono Z3.out (by omega)) (Fz.mono Z4.out (by omega)) (right_le HC4.out) (H5.out.keep (M.out.2.2.2.2.2.2.2.2)) (H6.out.keep (M.out.2.2.2.2.2.2.2.2)) (few2_1 HC1.out) (few2_2 HC1.out) HB2.out).mono ?_
    rintro e w18 ⟨rfl, hb⟩
    replace M := Lib.hid (Goes.go M.out hb)
    clear hb
    cases b2 with
    | false =>
      go_upto_region 10 with fail
      replace M := Lib.hid (And.intro (M.out.1) (And.intro (M.out.2.2.2.2.1) (And.intro (M.out.2.2.2.2.2.1) (And.intro (M.out.2.2.2.2.2.2.1) (And.intro (M.out.2.2.2.2.2.2.2.1) (M.out.2.2.2.2.2.2.2.2))))))
      rename_i Kst_ hst_
      exact hull_n_s10 hG Z1 Z2 Z3 Z4 HC0 HC1 HC2 HC3 HC4 HH1 HH2 HHO HSa HSb HBI HBJ HHL HHH HM1 HB6 HB7 HB4 HB5 H1 K1 H2 K2 H3 K3 H4 K4 H5 H6 H7 (by omega) (by omega) (by omega) (by omega) (by omega) M Kst_ hst_
    | true =>
      have y4 := (M.out.2.1).d8; have p4_0 := y4.1; have p4_1 := y4.2.1; have p4_2 := y4.2.2.1; have p4_3 := y4.2.2.2.1; have p4_4 := y4.2.2.2.2.1; have p4_5 := y4.2.2.2.2.2.1; have p4_6 := y4.2.2.2.2.2.2.1; have p4_7 := y4.2.2.2.2.2.2.2; clear y4
      have y2 := (M.out.2.2.2.2.2.1).d8; have p2_0 := y2.1; have p2_1 := y2.2.1; have p2_2 := y2.2.2.1; have p2_3 := y2.2.2.2.1; have p2_4 := y2.2.2.2.2.1; have p2_5 := y2.2.2.2.2.2.1; have p2_6 := y2.2.2.2.2.2.2.1; have p2_7 := y2.2.2.2.2.2.2.2; clear y2
      go_wp2_with fail
      clear p4_0 p4_1 p4_2 p4_3 p4_4 p4_5 p4_6 p4_7 p2_0 p2_1 p2_2 p2_3 p2_4 p2_5 p2_6 p2_7
      refine (spInside_fx (G := G) (p := hl) (q := hh) (o3 := o5) (o4 := o6) (b_ := true) (Nat.le_trans hG (M.out.2.2.2.2.2.2.2.2).size) (M.out.2.2.1) (M.out.2.2.2.1) (Fz.mono HSa.out (by omega)) (Fz.mono HSb.out (by omega)) HHO.out (H5.out.keep (M.out.2.2.2.2.2.2.2.2)) (H6.out.keep (M.out.2.2.2.2.2.2.2.2)) (few2_1 HC1.out) (few2_2 HC1.out) (HHC.out HB1.out HB2.out)).mono ?_
      rintro e w19 ⟨rfl, hb⟩
      replace M := Lib.hid (Goes.go M.out hb)
      clear hb
      go_upto_region 10 with fail
      replace M := Lib.hid (And.intro (M.out.1) (And.intro (M.out.2.2.2.2.1) (And.intro (M.out.2.2.2.2.2.1) (And.intro (M.out.2.2.2.2.2.2.1) (And.intro (M.out.2.2.2.2.2.2.2.1) (M.out.2.2.2.2.2.2.2.2))))))
      rename_i Kst_ hst_
      exact hull_n_s10 hG Z1 Z2 Z3 Z4 HC0 HC1 HC2 HC3 HC4 HH1 HH2 HHO HSa HSb HBI HBJ HHL HHH HM1 HB6 HB7 HB4 HB5 H1 K1 H2 K2 H3 K3 H4 K4 H5 H6 H7 (by omega) (by omega) (by omega) (by omega) (by omega) M Kst_ hst_
theorem hull_nw {u0 u1 u2 u3 u4 u5 u6 u7 v0 v1 v2 v3 v4 v5 v6 v7 y0 y1 y2 y3 y4 y5 y6 y7 e0 e1 e2 e3 : Value} {n1 m1 n2 m2 n3 m3 n4 m4 n5 m5 n6 m6 n7 m7 : Nat} {p1 p2 r1 r2 : Rat} {o5 o6 o7 : Option Rat} {w : World} (hG : G ≤ w.heap.size) (h1 : FX w u0 u1 u2 u3 n1 m1 (some p1)) (k1 : FQ G w u0 u1 u2 u3 p1) (z1 : Fz p1 4) (h2 : FX w u4 u5 u6 u7 n2 m2 (some p2)) (k2 : FQ G w u4 u5 u6 u7 p2) (z2 : Fz p2 4) (h3 : FX w v0 v1 v2 v3 n3 m3 (some r1)) (k3 : FQ G w v0 v1 v2 v3 r1) (z3 : Fz r1 4) (h4 : FX w v4 v5 v6 v7 n4 m4 (some r2)) (k4 : FQ G w v4 v5 v6 v7 r2) (z4 : Fz r2 4) (h5 : FX w y0 y1 y2 y3 n5 m5 o5) (h6 : FX w y4 y5 y6 y7 n6 m6 o6) (h7 : FX w e0 e1 e2 e3 n7 m7 o7) (hc0 : few4 n1 m1 n2 m2 n3 m3 n4 m4 = true) (hc1 : few2 n5 m5 n6 m6 = true) (hc2 : fewF n7 m7 = true) (hc3 : rightX (some p1) (some p2) = true) (hc4 : rightX (some r1) (some r2) = true) (hm : minQ p2 r2 < maxQ p1 r1) :
    Calls Try.prog 5 #[.agg #[u0, u1, u2, u3, u4, u5, u6, u7], .agg #[v0, v1, v2, v3, v4, v5, v6, v7], .agg #[y0, y1, y2, y3, y4, y5, y6, y7], .agg #[e0, e1, e2, e3]] w fun e w' => e = .returned (.bool true) ∧ Below w.heap.size w w' :=
  hull_n hG (Lib.hid z1) (Lib.hid z2) (Lib.hid z3) (Lib.hid z4) (Lib.hid hc0) (Lib.hid hc1) (Lib.hid hc2) (Lib.hid hc3) (Lib.hid hc4) (Lib.hid (inB.2 (hull_in1 (a := ⟨p1, p2⟩) (b := ⟨r1, r2⟩) (right_le hc3) (right_le hc4)).1)) (Lib.hid (inB.2 (hull_in1 (a := ⟨p1, p2⟩) (b := ⟨r1, r2⟩) (right_le hc3) (right_le hc4)).2)) (Lib.hid (hullS_ok (a := ⟨p1, p2⟩) (b := ⟨r1, r2⟩) (right_le hc3) (right_le hc4))) (Lib.hid (Fz.min4 z1 z2 z3 z4)) (Lib.hid (Fz.max4 z1 z2 z3 z4)) (Lib.hid rfl) (Lib.hid (hull_bool (right_le hc3) (right_le hc4))) (Lib.hid rfl) (Lib.hid rfl) (Lib.hid hm) (Lib.hid rfl) (Lib.hid rfl) (Lib.hid (hull_inn (right_le hc3) (right_le hc4))) (Lib.hid rfl) (Lib.hid rfl) (Lib.hid rfl) (Lib.hid rfl) h1 k1 h2 k2 h3 k3 h4 k4 h5 h6 h7
set_option maxRecDepth 100000 in
set_option maxHeartbeats 4000000 in
theorem hull_s_s10 {u0 u1 u2 u3 u4 u5 u6 u7 v0 v1 v2 v3 v4 v5 v6 v7 y0 y1 y2 y3 y4 y5 y6 y7 e0 e1 e2 e3 : Value} {n1 m1 n2 m2 n3 m3 n4 m4 n5 m5 n6 m6 n7 m7 : Nat} {p1 p2 r1 r2 hl hh : Rat} {o5 o6 o7 : Option Rat} {bi b4 b5 b6 b7 : Bool} {w : World}  {w17 : World} {x_11 x_12 x_13 x_14 x_15 x_16 x_17 x_18 : Value} {q19 q20 : Rat} {B0 B1 B2 B3 B5 : Nat} {x0_ x1_ x2_ x3_ x10_ x11_ x14_ x15_ x16_ x17_ x18_ x19_ x20_ x21_ x22_ x23_ x24_ x25_ x26_ x27_ x28_ x29_ x30_ x31_ x32_ x33_ x34_ x35_ x36_ x37_ x38_ x39_ x40_ x41_ x42_ x43_ x44_ x45_ x46_ x47_ x48_ x49_ x50_ x51_ x52_ x53_ x54_ x55_ x56_ x57_ x58_ x59_ x60_ x61_ x62_ x63_ x64_ x65_ x66_ x67_ x68_ x69_ x70_ x71_ x72_ x73_ x74_ x75_ x76_ x77_ x78_ x79_ x80_ x81_ x82_ x83_ x84_ x85_ x86_ x87_ x88_ x89_ : Value} (hG : G ≤ w.heap.size) (Z1 : Hid (Fz p1 4)) (Z2 : Hid (Fz p2 4)) (Z3 : Hid (Fz r1 4)) (Z4 : Hid (Fz r2 4)) (_HC0 : Hid (few4 n1 m1 n2 m2 n3 m3 n4 m4 = true)) (HC1 : Hid (few2 n5 m5 n6 m6 = true)) (HC2 : Hid (fewF n7 m7 = true)) (HC3 : Hid (rightX (some p1) (some p2) = true)) (HC4 : Hid (rightX (some r1) (some r2) = true)) (_HH1 : Hid ((decide (hl ≤ p1) && decide (p2 ≤ hh)) = true)) (_HH2 : Hid ((decide (hl ≤ r1) && decide (r2 ≤ hh)) = true)) (_HHO : Hid (hl ≤ hh)) (_HSa : Hid (Fz hl 4)) (_HSb : Hid (Fz hh 4)) (_HBI : Hid ((decide (r1 ≤ p1) && decide (p2 ≤ r2)) = bi)) (_HBJ : Hid ((decide (hl = r1) && decide (hh = r2)) = bi)) (_HHL : Hid (min4 p1 p2 r1 r2 = hl)) (_HHH : Hid (max4 p1 p2 r1 r2 = hh)) (HM1 : Hid (¬ minQ p2 r2 < maxQ p1 r1)) (HB6 : Hid (insX o5 o6 (some p1) (some p2) = b6)) (HB7 : Hid (insX o5 o6 (some r1) (some r2) = b7)) (HB4 : Hid (hasX (some p1) (some p2) o7 = b4)) (HB5 : Hid (hasX (some r1) (some r2) o7 = b5)) (_H1 : Hid (FX w u0 u1 u2 u3 n1 m1 (some p1))) (K1 : Hid (FQ G w u0 u1 u2 u3 p1)) (_H2 : Hid (FX w u4 u5 u6 u7 n2 m2 (some p2))) (K2 : Hid (FQ G w u4 u5 u6 u7 p2)) (_H3 : Hid (FX w v0 v1 v2 v3 n3 m3 (some r1))) (K3 : Hid (FQ G w v0 v1 v2 v3 r1)) (_H4 : Hid (FX w v4 v5 v6 v7 n4 m4 (some r2))) (K4 : Hid (FQ G w v4 v5 v6 v7 r2)) (H5 : Hid (FX w y0 y1 y2 y3 n5 m5 o5)) (H6 : Hid (FX w y4 y5 y6 y7 n6 m6 o6)) (H7 : Hid (FX w e0 e1 e2 e3 n7 m7 o7)) (Eq19 : Hid (q19 = ((maxQ p1 r1)))) (Sq19 : Hid (Fz q19 4)) (Eq20 : Hid (q20 = ((minQ p2 r2)))) (Sq20 : Hid (Fz q20 4)) (_oB0 : w.heap.size ≤ B0) (_oB1 : B0 < B1) (_oB2 : B1 < B2) (_oB3 : B2 < B3) (_oB5 : B3 < B5) (M : Hid (Bx w17 B5 28 #[x_11, x_12, x_13, x_14, x_15, x_16, x_17, x_18] ∧ FQ G w17 x_11 x_12 x_13 x_14 q19 ∧ FQ G w17 x_15 x_16 x_17 x_18 q20 ∧ Bx w17 B3 26 #[e0, e1, e2, e3] ∧ Bx w17 B2 28 #[y0, y1, y2, y3, y4, y5, y6, y7] ∧ Bx w17 B1 28 #[v0, v1, v2, v3, v4, v5, v6, v7] ∧ Bx w17 B0 28 #[u0, u1, u2, u3, u4, u5, u6, u7] ∧ Below w.heap.size w w17)) :
    ∀ K : Act → World → Prop, (∀ a_ w_, Code.wp Try.prog (restAt Try.f5 10) (bodyPost Try.prog Try.f5 fun e w' => e = .returned (.bool true) ∧ Below w.heap.size w w') a_ w_ → K a_ w_) → Code.wp Try.prog (regAt Try.f5 10) (Exit.then K (bodyPost Try.prog Try.f5 fun e w' => e = .returned (.bool true) ∧ Below w.heap.size w w')) ⟨List.toArray (x0_ :: x1_ :: x2_ :: x3_ :: .pointer (some ⟨B0, 0, none⟩) :: .pointer (some ⟨B1, 0, none⟩) :: .pointer (some ⟨B2, 0, none⟩) :: .pointer (some ⟨B3, 0, none⟩) :: .bool false :: .bool true :: x10_ :: x11_ :: .pointer (some ⟨B5, 0, none⟩) :: .bool true :: x14_ :: x15_ :: x16_ :: x17_ :: x18_ :: x19_ :: x20_ :: x21_ :: x22_ :: x23_ :: x24_ :: x25_ :: x26_ :: x27_ :: x28_ :: x29_ :: x30_ :: x31_ :: x32_ :: x33_ :: x34_ :: x35_ :: x36_ :: x37_ :: x38_ :: x39_ :: x40_ :: x41_ :: x42_ :: x43_ :: x44_ :: x45_ :: x46_ :: x47_ :: x48_ :: x49_ :: x50_ :: x51_ :: x52_ :: x53_ :: x54_ :: x55_ :: x56_ :: x57_ :: x58_ :: x59_ :: x60_ :: x61_ :: x62_ :: x63_ :: x64_ :: x65_ :: x66_ :: x67_ :: x68_ :: x69_ :: x70_ :: x71_ :: x72_ :: x73_ :: x74_ :: x75_ :: x76_ :: x77_ :: x78_ :: x79_ :: x80_ :: x81_ :: x82_ :: x83_ :: x84_ :: x85_ :: x86_ :: x87_ :: x88_ :: x89_ :: undef :: undef :: undef :: undef :: undef :: undef :: undef :: undef :: undef :: undef :: undef :: undef :: undef :: undef :: undef :: undef :: undef :: undef :: undef :: undef :: undef :: undef :: undef :: undef :: undef :: undef :: undef :: undef :: undef :: undef :: undef :: undef :: undef :: undef :: undef :: undef :: undef :: undef :: undef :: undef :: undef :: undef :: undef :: undef :: undef :: undef :: undef :: undef :: undef :: []), []⟩ w17 := by
  intro Kst_ hst_
  conv => arg 2; whnf
  conv at hst_ => enter [a_, w_, 1, 2]; whnf
  have y0 := (M.out.2.2.2.2.2.2.1).d8; have p0_0 := y0.1; have p0_1 := y0.2.1; have p0_2 := y0.2.2.1; have p0_3 := y0.2.2.2.1; have p0_4 := y0.2.2.2.2.1; have p0_5 := y0.2.2.2.2.2.1; have p0_6 := y0.2.2.2.2.2.2.1; have p0_7 := y0.2.2.2.2.2.2.2; clear y0
  have y3 := (M.out.2.2.2.1).d4; have p3_0 := y3.1; have p3_1 := y3.2.1; have p3_2 := y3.2.2.1; have p3_3 := y3.2.2.2; clear y3
  go_wp2_with fail
  clear p0_0 p0_1 p0_2 p0_3 p0_4 p0_5 p0_6 p0_7 p3_0 p3_1 p3_2 p3_3
  refine (spHas_fx (G := G) (p := p1) (q := p2) (o3 := o7) (b_ := b4) (Nat.le_trans hG (M.out.2.2.2.2.2.2.2).size) (K1.out.keep (M.out.2.2.2.2.2.2.2)) (K2.out.keep (M.out.2.2.2.2.2.2.2)) (Fz.mono Z1.out (by omega)) (Fz.mono Z2.out (by omega)) (right_le HC3.out) (H7.out.keep (M.out.2.2.2.2.2.2.2)) HC2.out HB4.out).mono ?_
  rintro e w18 ⟨rfl, hb⟩
  replace M := Lib.hid (Goes.go M.out hb)
  clear hb
  cases b4 with
  | false =>
    cases b6 with
    | false =>
      go_wp2_with fail
      obtain ⟨w19, hv⟩ : ∃ w_ : World, w_ = w18.drew := ⟨_, rfl⟩
      replace M := Lib.hid (Goes.go M.out (hv ▸ below_drew _ : Below w18.heap.size w18 w19))
      refine wp_region_held_drew (S := (fun w' => w'.cell? ⟨B0, 0, none⟩ = some (u0) ∧ w'.cell? ⟨B0, 1, none⟩ = some (u1) ∧ w'.cell? ⟨B0, 2, none⟩ = some (u2) ∧ w'.cell? ⟨B0, 3, none⟩ = some (u3) ∧ w'.cell? ⟨B0, 4, none⟩ = some (u4) ∧ w'.cell? ⟨B0, 5, none⟩ = some (u5) ∧ w'.cell? ⟨B0, 6, none⟩ = some (u6) ∧ w'.cell? ⟨B0, 7, none⟩ = some (u7) ∧ w'.cell? ⟨B2, 0, none⟩ = some (y0) ∧ w'.cell? ⟨B2, 1, none⟩ = some (y1) ∧ w'.cell? ⟨B2, 2, none⟩ = some (y2) ∧ w'.cell? ⟨B2, 3, none⟩ = some (y3) ∧ w'.cell? ⟨B2, 4, none⟩ = some (y4) ∧ w'.cell? ⟨B2, 5, none⟩ = some (y5) ∧ w'.cell? ⟨B2, 6, none⟩ = some (y6) ∧ w'.cell? ⟨B2, 7, none⟩ = some (y7) ∧ w'.cell? ⟨B3, 0, none⟩ = some (e0) ∧ w'.cell? ⟨B3, 1, none⟩ = some (e1) ∧ w'.cell? ⟨B3, 2, none⟩ = some (e2) ∧ w'.cell? ⟨B3, 3, none⟩ = some (e3) ∧ w'.cell? ⟨B5, 0, none⟩ = some (x_11) ∧ w'.cell? ⟨B5, 1, none⟩ = some (x_12) ∧ w'.cell? ⟨B5, 2, none⟩ = some (x_13) ∧ w'.cell? ⟨B5, 3, none⟩ = some (x_14) ∧ w'.cell? ⟨B5, 4, none⟩ = some (x_15) ∧ w'.cell? ⟨B5, 5, none⟩ = some (x_16) ∧ w'.cell? ⟨B5, 6, none⟩ = some (x_17) ∧ w'.cell? ⟨B5, 7, none⟩ = some (x_18))) (by kernel_rfl) (by rw [← hv]; exact ⟨(M.out.2.2.2.2.2.2.1).at.1 0, (M.out.2.2.2.2.2.2.1).at.1 1, (M.out.2.2.2.2.2.2.1).at.1 2, (M.out.2.2.2.2.2.2.1).at.1 3, (M.out.2.2.2.2.2.2.1).at.1 4, (M.out.2.2.2.2.2.2.1).at.1 5, (M.out.2.2.2.2.2.2.1).at.1 6, (M.out.2.2.2.2.2.2.1).at.1 7, (M.out.2.2.2.2.1).at.1 0, (M.out.2.2.2.2.1).at.1 1, (M.out.2.2.2.2.1).at.1 2, (M.out.2.2.2.2.1).at.1 3, (M.out.2.2.2.2.1).at.1 4, (M.out.2.2.2.2.1).at.1 5, (M.out.2.2.2.2.1).at.1 6, (M.out.2.2.2.2.1).at.1 7, (M.out.2.2.2.1).at.1 0, (M.out.2.2.2.1).at.1 1, (M.out.2.2.2.1).at.1 2, (M.out.2.2.2.1).at.1 3, (M.out.1).at.1 0, (M.out.1).at.1 1, (M.out.1).at.1 2, (M.out.1).at.1 3, (M.out.1).at.1 4, (M.out.1).at.1 5, (M.out.1).at.1 6, (M.out.1).at.1 7⟩) (fun hH28 => ?_)
      rw [← hv] at hH28 ⊢
      clear hv
      refine tk at0 ?_
      refine tk at1 ?_
      refine tk at2 ?_
      refine tk at3 ?_
      refine tk at4 ?_
      refine wpAnyH_ready (rs := [5]) (by kernel_rfl) (by simp) ?_
      refine AllReadyH.cons at5 (fun K hK => ?_) AllReadyH.nil
      go_simp
      refine (spHas_fx (G := G) (p := q19) (q := q20) (o3 := o7) (b_ := false) (Nat.le_trans hG (M.out.2.2.2.2.2.2.2).size) (M.out.2.1) (M.out.2.2.1) (Fz.mono Sq19.out (by omega)) (Fz.mono Sq20.out (by omega)) (by rw [Eq20.out, Eq19.out]; exact Rat.not_lt.1 HM1.out) (H7.out.keep (M.out.2.2.2.2.2.2.2)) HC2.out (by rw [Eq20.out, Eq19.out]; rw [has_meet (right_le HC3.out) (right_le HC4.out) HM1.out, HB4.out, HB5.out]; rfl)).mono ?_
      rintro e w20 ⟨rfl, hb⟩
      replace M := Lib.hid (Goes.go M.out hb)
      clear hb
      (try go_wp2_with fail)
      refine hK.out _ _ (⟨(M.out.2.2.2.2.2.2.1).at.1 0, (M.out.2.2.2.2.2.2.1).at.1 1, (M.out.2.2.2.2.2.2.1).at.1 2, (M.out.2.2.2.2.2.2.1).at.1 3, (M.out.2.2.2.2.2.2.1).at.1 4, (M.out.2.2.2.2.2.2.1).at.1 5, (M.out.2.2.2.2.2.2.1).at.1 6, (M.out.2.2.2.2.2.2.1).at.1 7, (M.out.2.2.2.2.1).at.1 0, (M.out.2.2.2.2.1).at.1 1, (M.out.2.2.2.2.1).at.1 2, (M.out.2.2.2.2.1).at.1 3, (M.out.2.2.2.2.1).at.1 4, (M.out.2.2.2.2.1).at.1 5, (M.out.2.2.2.2.1).at.1 6, (M.out.2.2.2.2.1).at.1 7, (M.out.2.2.2.1).at.1 0, (M.out.2.2.2.1).at.1 1, (M.out.2.2.2.1).at.1 2, (M.out.2.2.2.1).at.1 3, (M.out.1).at.1 0, (M.out.1).at.1 1, (M.out.1).at.1 2, (M.out.1).at.1 3, (M.out.1).at.1 4, (M.out.1).at.1 5, (M.out.1).at.1 6, (M.out.1).at.1 7⟩) (fun hH29 => ?_)
      clear hK K hH28
      (try simp only [Act.put, List.setIfInBounds_toArray, List.set_cons_zero, List.set_cons_succ])
      refine tk at6 ?_
      refine tk at7 ?_
      refine tk at8 ?_
      refine tk at9 ?_
      refine tk at10 ?_
      refine tk at17 ?_
      refine tk at18 ?_
      refine wpAnyH_ready (rs := [11]) (by kernel_rfl) (by simp) ?_
      refine AllReadyH.cons at11 (fun K hK => ?_) AllReadyH.nil
      go_simp
      refine (spInside_xf (G := G) (r := p1) (s := p2) (o1 := o5) (o2 := o6) (b_ := false) (Nat.le_trans hG (M.out.2.2.2.2.2.2.2).size) (H5.out.keep (M.out.2.2.2.2.2.2.2)) (H6.out.keep (M.out.2.2.2.2.2.2.2)) (few2_1 HC1.out) (few2_2 HC1.out) (K1.out.keep (M.out.2.2.2.2.2.2.2)) (K2.out.keep (M.out.2.2.2.2.2.2.2)) (Fz.mono Z1.out (by omega)) (Fz.mono Z2.out (by omega)) (right_le HC3.out) HB6.out).mono ?_
      rintro e w21 ⟨rfl, hb⟩
      replace M := Lib.hid (Goes.go M.out hb)
      clear hb
      (try go_wp2_with fail)
      refine hK.out _ _ (⟨(M.out.2.2.2.2.2.2.1).at.1 0, (M.out.2.2.2.2.2.2.1).at.1 1, (M.out.2.2.2.2.2.2.1).at.1 2, (M.out.2.2.2.2.2.2.1).at.1 3, (M.out.2.2.2.2.2.2.1).at.1 4, (M.out.2.2.2.2.2.2.1).at.1 5, (M.out.2.2.2.2.2.2.1).at.1 6, (M.out.2.2.2.2.2.2.1).at.1 7, (M.out.2.2.2.2.1).at.1 0, (M.out.2.2.2.2.1).at.1 1, (M.out.2.2.2.2.1).at.1 2, (M.out.2.2.2.2.1).at.1 3, (M.out.2.2.2.2.1).at.1 4, (M.out.2.2.2.2.1).at.1 5, (M.out.2.2.2.2.1).at.1 6, (M.out.2.2.2.2.1).at.1 7, (M.out.2.2.2.1).at.1 0, (M.out.2.2.2.1).at.1 1, (M.out.2.2.2.1).at.1 2, (M.out.2.2.2.1).at.1 3, (M.out.1).at.1 0, (M.out.1).at.1 1, (M.out.1).at.1 2, (M.out.1).at.1 3, (M.out.1).at.1 4, (M.out.1).at.1 5, (M.out.1).at.1 6, (M.out.1).at.1 7⟩) (fun hH30 => ?_)
      clear hK K hH29
      (try simp only [Act.put, List.setIfInBounds_toArray, List.set_cons_zero, List.set_cons_succ])
      refine tk at12 ?_
      refine tu at13 ?_
      refine tu at14 ?_
      refine wpAnyH_ready (rs := [15]) (by kernel_rfl) (by simp) ?_
      refine AllReadyH.cons at15 (fun K hK => ?_) AllReadyH.nil
      rw [if_neg]
      rotate_left
      focus (intro h; exact Bool.noConfusion h)
      refine hK.out _ _ hH30 (fun _ => ?_)
      clear hK K
      (try simp only [Act.put, List.setIfInBounds_toArray, List.set_cons_zero, List.set_cons_succ])
      refine tk at16 ?_
      refine wpAnyH_ready (rs := [19]) (by kernel_rfl) (by simp) ?_
      refine AllReadyH.cons at19 (fun K hK => ?_) AllReadyH.nil
      go_simp
      refine (spInside_xf (G := G) (r := q19) (s := q20) (o1 := o5) (o2 := o6) (b_ := false) (Nat.le_trans hG (M.out.2.2.2.2.2.2.2).size) (H5.out.keep (M.out.2.2.2.2.2.2.2)) (H6.out.keep (M.out.2.2.2.2.2.2.2)) (few2_1 HC1.out) (few2_2 HC1.out) (M.out.2.1) (M.out.2.2.1) (Fz.mono Sq19.out (by omega)) (Fz.mono Sq20.out (by omega)) (by rw [Eq20.out, Eq19.out]; exact Rat.not_lt.1 HM1.out) (by rw [Eq20.out, Eq19.out]; rw [ins_meet (right_le HC3.out) (right_le HC4.out) HM1.out, HB6.out, HB7.out]; rfl)).mono ?_
      rintro e w22 ⟨rfl, hb⟩
      replace M := Lib.hid (Goes.go M.out hb)
      clear hb
      (try go_wp2_with fail)
      refine hK.out _ _ (⟨(M.out.2.2.2.2.2.2.1).at.1 0, (M.out.2.2.2.2.2.2.1).at.1 1, (M.out.2.2.2.2.2.2.1).at.1 2, (M.out.2.2.2.2.2.2.1).at.1 3, (M.out.2.2.2.2.2.2.1).at.1 4, (M.out.2.2.2.2.2.2.1).at.1 5, (M.out.2.2.2.2.2.2.1).at.1 6, (M.out.2.2.2.2.2.2.1).at.1 7, (M.out.2.2.2.2.1).at.1 0, (M.out.2.2.2.2.1).at.1 1, (M.out.2.2.2.2.1).at.1 2, (M.out.2.2.2.2.1).at.1 3, (M.out.2.2.2.2.1).at.1 4, (M.out.2.2.2.2.1).at.1 5, (M.out.2.2.2.2.1).at.1 6, (M.out.2.2.2.2.1).at.1 7, (M.out.2.2.2.1).at.1 0, (M.out.2.2.2.1).at.1 1, (M.out.2.2.2.1).at.1 2, (M.out.2.2.2.1).at.1 3, (M.out.1).at.1 0, (M.out.1).at.1 1, (M.out.1).at.1 2, (M.out.1).at.1 3, (M.out.1).at.1 4, (M.out.1).at.1 5, (M.out.1).at.1 6, (M.out.1).at.1 7⟩) (fun hH31 => ?_)
      clear hK K hH30
      (try simp only [Act.put, List.setIfInBounds_toArray, List.set_cons_zero, List.set_cons_succ])
      refine tk at20 ?_
      refine tk at21 ?_
      refine tk at22 ?_
      refine wpAnyH_done (by kernel_rfl) ?_ _
      clear hH31
      go_wp2_with fail
      go_ret
      exact ⟨rfl, (M.out.2.2.2.2.2.2.2)⟩
    | true =>
      cases b7 with
      | false =>
        go_wp2_with fail
        obtain ⟨w19, hv⟩ : ∃ w_ : World, w_ = w18.drew := ⟨_, rfl⟩
        replace M := Lib.hid (Goes.go M.out (hv ▸ below_drew _ : Below w18.heap.size w18 w19))
        refine wp_region_held_drew (S := (fun w' => w'.cell? ⟨B0, 0, none⟩ = some (u0) ∧ w'.cell? ⟨B0, 1, none⟩ = some (u1) ∧ w'.cell? ⟨B0, 2, none⟩ = some (u2) ∧ w'.cell? ⟨B0, 3, none⟩ = some (u3) ∧ w'.cell? ⟨B0, 4, none⟩ = some (u4) ∧ w'.cell? ⟨B0, 5, none⟩ = some (u5) ∧ w'.cell? ⟨B0, 6, none⟩ = some (u6) ∧ w'.cell? ⟨B0, 7, none⟩ = some (u7) ∧ w'.cell? ⟨B1, 0, none⟩ = some (v0) ∧ w'.cell? ⟨B1, 1, none⟩ = some (v1) ∧ w'.cell? ⟨B1, 2, none⟩ = some (v2) ∧ w'.cell? ⟨B1, 3, none⟩ = some (v3) ∧ w'.cell? ⟨B1, 4, none⟩ = some (v4) ∧ w'.cell? ⟨B1, 5, none⟩ = some (v5) ∧ w'.cell? ⟨B1, 6, none⟩ = some (v6) ∧ w'.cell? ⟨B1, 7, none⟩ = some (v7) ∧ w'.cell? ⟨B2, 0, none⟩ = some (y0) ∧ w'.cell? ⟨B2, 1, none⟩ = some (y1) ∧ w'.cell? ⟨B2, 2, none⟩ = some (y2) ∧ w'.cell? ⟨B2, 3, none⟩ = some (y3) ∧ w'.cell? ⟨B2, 4, none⟩ = some (y4) ∧ w'.cell? ⟨B2, 5, none⟩ = some (y5) ∧ w'.cell? ⟨B2, 6, none⟩ = some (y6) ∧ w'.cell? ⟨B2, 7, none⟩ = some (y7) ∧ w'.cell? ⟨B3, 0, none⟩ = some (e0) ∧ w'.cell? ⟨B3, 1, none⟩ = some (e1) ∧ w'.cell? ⟨B3, 2, none⟩ = some (e2) ∧ w'.cell? ⟨B3, 3, none⟩ = some (e3) ∧ w'.cell? ⟨B5, 0, none⟩ = some (x_11) ∧ w'.cell? ⟨B5, 1, none⟩ = some (x_12) ∧ w'.cell? ⟨B5, 2, none⟩ = some (x_13) ∧ w'.cell? ⟨B5, 3, none⟩ = some (x_14) ∧ w'.cell? ⟨B5, 4, none⟩ = some (x_15) ∧ w'.cell? ⟨B5, 5, none⟩ = some (x_16) ∧ w'.cell? ⟨B5, 6, none⟩ = some (x_17) ∧ w'.cell? ⟨B5, 7, none⟩ = some (x_18))) (by kernel_rfl) (by rw [← hv]; exact ⟨(M.out.2.2.2.2.2.2.1).at.1 0, (M.out.2.2.2.2.2.2.1).at.1 1, (M.out.2.2.2.2.2.2.1).at.1 2, (M.out.2.2.2.2.2.2.1).at.1 3, (M.out.2.2.2.2.2.2.1).at.1 4, (M.out.2.2.2.2.2.2.1).at.1 5, (M.out.2.2.2.2.2.2.1).at.1 6, (M.out.2.2.2.2.2.2.1).at.1 7, (M.out.2.2.2.2.2.1).at.1 0, (M.out.2.2.2.2.2.1).at.1 1, (M.out.2.2.2.2.2.1).at.1 2, (M.out.2.2.2.2.2.1).at.1 3, (M.out.2.2.2.2.2.1).at.1 4, (M.out.2.2.2.2.2.1).at.1 5, (M.out.2.2.2.2.2.1).at.1 6, (M.out.2.2.2.2.2.1).at.1 7, (M.out.2.2.2.2.1).at.1 0, (M.out.2.2.2.2.1).at.1 1, (M.out.2.2.2.2.1).at.1 2, (M.out.2.2.2.2.1).at.1 3, (M.out.2.2.2.2.1).at.1 4, (M.out.2.2.2.2.1).at.1 5, (M.out.2.2.2.2.1).at.1 6, (M.out.2.2.2.2.1).at.1 7, (M.out.2.2.2.1).at.1 0, (M.out.2.2.2.1).at.1 1, (M.out.2.2.2.1).at.1 2, (M.out.2.2.2.1).at.1 3, (M.out.1).at.1 0, (M.out.1).at.1 1, (M.out.1).at.1 2, (M.out.1).at.1 3, (M.out.1).at.1 4, (M.out.1).at.1 5, (M.out.1).at.1 6, (M.out.1).at.1 7⟩) (fun hH32 => ?_)
        rw [← hv] at hH32 ⊢
        clear hv
        refine tk at0 ?_
        refine tk at1 ?_
        refine tk at2 ?_
        refine tk at3 ?_
        refine tk at4 ?_
        refine wpAnyH_ready (rs := [5]) (by kernel_rfl) (by simp) ?_
        refine AllReadyH.cons at5 (fun K hK => ?_) AllReadyH.nil
        go_simp
        refine (spHas_fx (G := G) (p := q19) (q := q20) (o3 := o7) (b_ := false) (Nat.le_trans hG (M.out.2.2.2.2.2.2.2).size) (M.out.2.1) (M.out.2.2.1) (Fz.mono Sq19.out (by omega)) (Fz.mono Sq20.out (by omega)) (by rw [Eq20.out, Eq19.out]; exact Rat.not_lt.1 HM1.out) (H7.out.keep (M.out.2.2.2.2.2.2.2)) HC2.out (by rw [Eq20.out, Eq19.out]; rw [has_meet (right_le HC3.out) (right_le HC4.out) HM1.out, HB4.out, HB5.out]; rfl)).mono ?_
        rintro e w20 ⟨rfl, hb⟩
        replace M := Lib.hid (Goes.go M.out hb)
        clear hb
        (try go_wp2_with fail)
        refine hK.out _ _ (⟨(M.out.2.2.2.2.2.2.1).at.1 0, (M.out.2.2.2.2.2.2.1).at.1 1, (M.out.2.2.2.2.2.2.1).at.1 2, (M.out.2.2.2.2.2.2.1).at.1 3, (M.out.2.2.2.2.2.2.1).at.1 4, (M.out.2.2.2.2.2.2.1).at.1 5, (M.out.2.2.2.2.2.2.1).at.1 6, (M.out.2.2.2.2.2.2.1).at.1 7, (M.out.2.2.2.2.2.1).at.1 0, (M.out.2.2.2.2.2.1).at.1 1, (M.out.2.2.2.2.2.1).at.1 2, (M.out.2.2.2.2.2.1).at.1 3, (M.out.2.2.2.2.2.1).at.1 4, (M.out.2.2.2.2.2.1).at.1 5, (M.out.2.2.2.2.2.1).at.1 6, (M.out.2.2.2.2.2.1).at.1 7, (M.out.2.2.2.2.1).at.1 0, (M.out.2.2.2.2.1).at.1 1, (M.out.2.2.2.2.1).at.1 2, (M.out.2.2.2.2.1).at.1 3, (M.out.2.2.2.2.1).at.1 4, (M.out.2.2.2.2.1).at.1 5, (M.out.2.2.2.2.1).at.1 6, (M.out.2.2.2.2.1).at.1 7, (M.out.2.2.2.1).at.1 0, (M.out.2.2.2.1).at.1 1, (M.out.2.2.2.1).at.1 2, (M.out.2.2.2.1).at.1 3, (M.out.1).at.1 0, (M.out.1).at.1 1, (M.out.1).at.1 2, (M.out.1).at.1 3, (M.out.1).at.1 4, (M.out.1).at.1 5, (M.out.1).at.1 6, (M.out.1).at.1 7⟩) (fun hH33 => ?_)
        clear hK K hH32
        (try simp only [Act.put, List.setIfInBounds_toArray, List.set_cons_zero, List.set_cons_succ])
        refine tk at6 ?_
        refine tk at7 ?_
        refine tk at8 ?_
        refine tk at9 ?_
        refine tk at10 ?_
        refine tk at17 ?_
        refine tk at18 ?_
        refine wpAnyH_ready (rs := [11]) (by kernel_rfl) (by simp) ?_
        refine AllReadyH.cons at11 (fun K hK => ?_) AllReadyH.nil
        go_simp
        refine (spInside_xf (G := G) (r := p1) (s := p2) (o1 := o5) (o2 := o6) (b_ := true) (Nat.le_trans hG (M.out.2.2.2.2.2.2.2).size) (H5.out.keep (M.out.2.2.2.2.2.2.2)) (H6.out.keep (M.out.2.2.2.2.2.2.2)) (few2_1 HC1.out) (few2_2 HC1.out) (K1.out.keep (M.out.2.2.2.2.2.2.2)) (K2.out.keep (M.out.2.2.2.2.2.2.2)) (Fz.mono Z1.out (by omega)) (Fz.mono Z2.out (by omega)) (right_le HC3.out) HB6.out).mono ?_
        rintro e w21 ⟨rfl, hb⟩
        replace M := Lib.hid (Goes.go M.out hb)
        clear hb
        (try go_wp2_with fail)
        refine hK.out _ _ (⟨(M.out.2.2.2.2.2.2.1).at.1 0, (M.out.2.2.2.2.2.2.1).at.1 1, (M.out.2.2.2.2.2.2.1).at.1 2, (M.out.2.2.2.2.2.2.1).at.1 3, (M.out.2.2.2.2.2.2.1).at.1 4, (M.out.2.2.2.2.2.2.1).at.1 5, (M.out.2.2.2.2.2.2.1).at.1 6, (M.out.2.2.2.2.2.2.1).at.1 7, (M.out.2.2.2.2.2.1).at.1 0, (M.out.2.2.2.2.2.1).at.1 1, (M.out.2.2.2.2.2.1).at.1 2, (M.out.2.2.2.2.2.1).at.1 3, (M.out.2.2.2.2.2.1).at.1 4, (M.out.2.2.2.2.2.1).at.1 5, (M.out.2.2.2.2.2.1).at.1 6, (M.out.2.2.2.2.2.1).at.1 7, (M.out.2.2.2.2.1).at.1 0, (M.out.2.2.2.2.1).at.1 1, (M.out.2.2.2.2.1).at.1 2, (M.out.2.2.2.2.1).at.1 3, (M.out.2.2.2.2.1).at.1 4, (M.out.2.2.2.2.1).at.1 5, (M.out.2.2.2.2.1).at.1 6, (M.out.2.2.2.2.1).at.1 7, (M.out.2.2.2.1).at.1 0, (M.out.2.2.2.1).at.1 1, (M.out.2.2.2.1).at.1 2, (M.out.2.2.2.1).at.1 3, (M.out.1).at.1 0, (M.out.1).at.1 1, (M.out.1).at.1 2, (M.out.1).at.1 3, (M.out.1).at.1 4, (M.out.1).at.1 5, (M.out.1).at.1 6, (M.out.1).at.1 7⟩) (fun hH34 => ?_)
        clear hK K hH33
        (try simp only [Act.put, List.setIfInBounds_toArray, List.set_cons_zero, List.set_cons_succ])
        refine tk at12 ?_
        refine tk at13 ?_
        refine tk at14 ?_
        refine wpAnyH_ready (rs := [15]) (by kernel_rfl) (by simp) ?_
        refine AllReadyH.cons at15 (fun K hK => ?_) AllReadyH.nil
        go_simp
        refine (spInside_xf (G := G) (r := r1) (s := r2) (o1 := o5) (o2 := o6) (b_ := false) (Nat.le_trans hG (M.out.2.2.2.2.2.2.2).size) (H5.out.keep (M.out.2.2.2.2.2.2.2)) (H6.out.keep (M.out.2.2.2.2.2.2.2)) (few2_1 HC1.out) (few2_2 HC1.out) (K3.out.keep (M.out.2.2.2.2.2.2.2)) (K4.out.keep (M.out.2.2.2.2.2.2.2)) (Fz.mono Z3.out (by omega)) (Fz.mono Z4.out (by omega)) (right_le HC4.out) HB7.out).mono ?_
        rintro e w22 ⟨rfl, hb⟩
        replace M := Lib.hid (Goes.go M.out hb)
        clear hb
        (try go_wp2_with fail)
        refine hK.out _ _ (⟨(M.out.2.2.2.2.2.2.1).at.1 0, (M.out.2.2.2.2.2.2.1).at.1 1, (M.out.2.2.2.2.2.2.1).at.1 2, (M.out.2.2.2.2.2.2.1).at.1 3, (M.out.2.2.2.2.2.2.1).at.1 4, (M.out.2.2.2.2.2.2.1).at.1 5, (M.out.2.2.2.2.2.2.1).at.1 6, (M.out.2.2.2.2.2.2.1).at.1 7, (M.out.2.2.2.2.2.1).at.1 0, (M.out.2.2.2.2.2.1).at.1 1, (M.out.2.2.2.2.2.1).at.1 2, (M.out.2.2.2.2.2.1).at.1 3, (M.out.2.2.2.2.2.1).at.1 4, (M.out.2.2.2.2.2.1).at.1 5, (M.out.2.2.2.2.2.1).at.1 6, (M.out.2.2.2.2.2.1).at.1 7, (M.out.2.2.2.2.1).at.1 0, (M.out.2.2.2.2.1).at.1 1, (M.out.2.2.2.2.1).at.1 2, (M.out.2.2.2.2.1).at.1 3, (M.out.2.2.2.2.1).at.1 4, (M.out.2.2.2.2.1).at.1 5, (M.out.2.2.2.2.1).at.1 6, (M.out.2.2.2.2.1).at.1 7, (M.out.2.2.2.1).at.1 0, (M.out.2.2.2.1).at.1 1, (M.out.2.2.2.1).at.1 2, (M.out.2.2.2.1).at.1 3, (M.out.1).at.1 0, (M.out.1).at.1 1, (M.out.1).at.1 2, (M.out.1).at.1 3, (M.out.1).at.1 4, (M.out.1).at.1 5, (M.out.1).at.1 6, (M.out.1).at.1 7⟩) (fun hH35 => ?_)
        clear hK K hH34
        (try simp only [Act.put, List.setIfInBounds_toArray, List.set_cons_zero, List.set_cons_succ])
        refine tk at16 ?_
        refine wpAnyH_ready (rs := [19]) (by kernel_rfl) (by simp) ?_
        refine AllReadyH.cons at19 (fun K hK => ?_) AllReadyH.nil
        go_simp
        refine (spInside_xf (G := G) (r := q19) (s := q20) (o1 := o5) (o2 := o6) (b_ := false) (Nat.le_trans hG (M.out.2.2.2.2.2.2.2).size) (H5.out.keep (M.out.2.2.2.2.2.2.2)) (H6.out.keep (M.out.2.2.2.2.2.2.2)) (few2_1 HC1.out) (few2_2 HC1.out) (M.out.2.1) (M.out.2.2.1) (Fz.mono Sq19.out (by omega)) (Fz.mono Sq20.out (by omega)) (by rw [Eq20.out, Eq19.out]; exact Rat.not_lt.1 HM1.out) (by rw [Eq20.out, Eq19.out]; rw [ins_meet (right_le HC3.out) (right_le HC4.out) HM1.out, HB6.out, HB7.out]; rfl)).mono ?_
        rintro e w23 ⟨rfl, hb⟩
        replace M := Lib.hid (Goes.go M.out hb)
        clear hb
        (try go_wp2_with fail)
        refine hK.out _ _ (⟨(M.out.2.2.2.2.2.2.1).at.1 0, (M.out.2.2.2.2.2.2.1).at.1 1, (M.out.2.2.2.2.2.2.1).at.1 2, (M.out.2.2.2.2.2.2.1).at.1 3, (M.out.2.2.2.2.2.2.1).at.1 4, (M.out.2.2.2.2.2.2.1).at.1 5, (M.out.2.2.2.2.2.2.1).at.1 6, (M.out.2.2.2.2.2.2.1).at.1 7, (M.out.2.2.2.2.2.1).at.1 0, (M.out.2.2.2.2.2.1).at.1 1, (M.out.2.2.2.2.2.1).at.1 2, (M.out.2.2.2.2.2.1).at.1 3, (M.out.2.2.2.2.2.1).at.1 4, (M.out.2.2.2.2.2.1).at.1 5, (M.out.2.2.2.2.2.1).at.1 6, (M.out.2.2.2.2.2.1).at.1 7, (M.out.2.2.2.2.1).at.1 0, (M.out.2.2.2.2.1).at.1 1, (M.out.2.2.2.2.1).at.1 2, (M.out.2.2.2.2.1).at.1 3, (M.out.2.2.2.2.1).at.1 4, (M.out.2.2.2.2.1).at.1 5, (M.out.2.2.2.2.1).at.1 6, (M.out.2.2.2.2.1).at.1 7, (M.out.2.2.2.1).at.1 0, (M.out.2.2.2.1).at.1 1, (M.out.2.2.2.1).at.1 2, (M.out.2.2.2.1).at.1 3, (M.out.1).at.1 0, (M.out.1).at.1 1, (M.out.1).at.1 2, (M.out.1).at.1 3, (M.out.1).at.1 4, (M.out.1).at.1 5, (M.out.1).at.1 6, (M.out.1).at.1 7⟩) (fun hH36 => ?_)
        clear hK K hH35
        (try simp only [Act.put, List.setIfInBounds_toArray, List.set_cons_zero, List.set_cons_succ])
        refine tk at20 ?_
        refine tk at21 ?_
        refine tk at22 ?_
        refine wpAnyH_done (by kernel_rfl) ?_ _
        clear hH36
        go_wp2_with fail
        go_ret
        exact ⟨rfl, (M.out.2.2.2.2.2.2.2)⟩
      | true =>
        go_wp2_with fail
        obtain ⟨w19, hv⟩ : ∃ w_ : World, w_ = w18.drew := ⟨_, rfl⟩
        replace M := Lib.hid (Goes.go M.out (hv ▸ below_drew _ : Below w18.heap.size w18 w19))
        refine wp_region_held_drew (S := (fun w' => w'.cell? ⟨B0, 0, none⟩ = some (u0) ∧ w'.cell? ⟨B0, 1, none⟩ = some (u1) ∧ w'.cell? ⟨B0, 2, none⟩ = some (u2) ∧ w'.cell? ⟨B0, 3, none⟩ = some (u3) ∧ w'.cell? ⟨B0, 4, none⟩ = some (u4) ∧ w'.cell? ⟨B0, 5, none⟩ = some (u5) ∧ w'.cell? ⟨B0, 6, none⟩ = some (u6) ∧ w'.cell? ⟨B0, 7, none⟩ = some (u7) ∧ w'.cell? ⟨B1, 0, none⟩ = some (v0) ∧ w'.cell? ⟨B1, 1, none⟩ = some (v1) ∧ w'.cell? ⟨B1, 2, none⟩ = some (v2) ∧ w'.cell? ⟨B1, 3, none⟩ = some (v3) ∧ w'.cell? ⟨B1, 4, none⟩ = some (v4) ∧ w'.cell? ⟨B1, 5, none⟩ = some (v5) ∧ w'.cell? ⟨B1, 6, none⟩ = some (v6) ∧ w'.cell? ⟨B1, 7, none⟩ = some (v7) ∧ w'.cell? ⟨B2, 0, none⟩ = some (y0) ∧ w'.cell? ⟨B2, 1, none⟩ = some (y1) ∧ w'.cell? ⟨B2, 2, none⟩ = some (y2) ∧ w'.cell? ⟨B2, 3, none⟩ = some (y3) ∧ w'.cell? ⟨B2, 4, none⟩ = some (y4) ∧ w'.cell? ⟨B2, 5, none⟩ = some (y5) ∧ w'.cell? ⟨B2, 6, none⟩ = some (y6) ∧ w'.cell? ⟨B2, 7, none⟩ = some (y7) ∧ w'.cell? ⟨B3, 0, none⟩ = some (e0) ∧ w'.cell? ⟨B3, 1, none⟩ = some (e1) ∧ w'.cell? ⟨B3, 2, none⟩ = some (e2) ∧ w'.cell? ⟨B3, 3, none⟩ = some (e3) ∧ w'.cell? ⟨B5, 0, none⟩ = some (x_11) ∧ w'.cell? ⟨B5, 1, none⟩ = some (x_12) ∧ w'.cell? ⟨B5, 2, none⟩ = some (x_13) ∧ w'.cell? ⟨B5, 3, none⟩ = some (x_14) ∧ w'.cell? ⟨B5, 4, none⟩ = some (x_15) ∧ w'.cell? ⟨B5, 5, none⟩ = some (x_16) ∧ w'.cell? ⟨B5, 6, none⟩ = some (x_17) ∧ w'.cell? ⟨B5, 7, none⟩ = some (x_18))) (by kernel_rfl) (by rw [← hv]; exact ⟨(M.out.2.2.2.2.2.2.1).at.1 0, (M.out.2.2.2.2.2.2.1).at.1 1, (M.out.2.2.2.2.2.2.1).at.1 2, (M.out.2.2.2.2.2.2.1).at.1 3, (M.out.2.2.2.2.2.2.1).at.1 4, (M.out.2.2.2.2.2.2.1).at.1 5, (M.out.2.2.2.2.2.2.1).at.1 6, (M.out.2.2.2.2.2.2.1).at.1 7, (M.out.2.2.2.2.2.1).at.1 0, (M.out.2.2.2.2.2.1).at.1 1, (M.out.2.2.2.2.2.1).at.1 2, (M.out.2.2.2.2.2.1).at.1 3, (M.out.2.2.2.2.2.1).at.1 4, (M.out.2.2.2.2.2.1).at.1 5, (M.out.2.2.2.2.2.1).at.1 6, (M.out.2.2.2.2.2.1).at.1 7, (M.out.2.2.2.2.1).at.1 0, (M.out.2.2.2.2.1).at.1 1, (M.out.2.2.2.2.1).at.1 2, (M.out.2.2.2.2.1).at.1 3, (M.out.2.2.2.2.1).at.1 4, (M.out.2.2.2.2.1).at.1 5, (M.out.2.2.2.2.1).at.1 6, (M.out.2.2.2.2.1).at.1 7, (M.out.2.2.2.1).at.1 0, (M.out.2.2.2.1).at.1 1, (M.out.2.2.2.1).at.1 2, (M.out.2.2.2.1).at.1 3, (M.out.1).at.1 0, (M.out.1).at.1 1, (M.out.1).at.1 2, (M.out.1).at.1 3, (M.out.1).at.1 4, (M.out.1).at.1 5, (M.out.1).at.1 6, (M.out.1).at.1 7⟩) (fun hH37 => ?_)
        rw [← hv] at hH37 ⊢
        clear hv
        refine tk at0 ?_
        refine tk at1 ?_
        refine tk at2 ?_
        refine tk at3 ?_
        refine tk at4 ?_
        refine wpAnyH_ready (rs := [5]) (by kernel_rfl) (by simp) ?_
        refine AllReadyH.cons at5 (fun K hK => ?_) AllReadyH.nil
        go_simp
        refine (spHas_fx (G := G) (p := q19) (q := q20) (o3 := o7) (b_ := false) (Nat.le_trans hG (M.out.2.2.2.2.2.2.2).size) (M.out.2.1) (M.out.2.2.1) (Fz.mono Sq19.out (by omega)) (Fz.mono Sq20.out (by omega)) (by rw [Eq20.out, Eq19.out]; exact Rat.not_lt.1 HM1.out) (H7.out.keep (M.out.2.2.2.2.2.2.2)) HC2.out (by rw [Eq20.out, Eq19.out]; rw [has_meet (right_le HC3.out) (right_le HC4.out) HM1.out, HB4.out, HB5.out]; rfl)).mono ?_
        rintro e w20 ⟨rfl, hb⟩
        replace M := Lib.hid (Goes.go M.out hb)
        clear hb
        (try go_wp2_with fail)
        refine hK.out _ _ (⟨(M.out.2.2.2.2.2.2.1).at.1 0, (M.out.2.2.2.2.2.2.1).at.1 1, (M.out.2.2.2.2.2.2.1).at.1 2, (M.out.2.2.2.2.2.2.1).at.1 3, (M.out.2.2.2.2.2.2.1).at.1 4, (M.out.2.2.2.2.2.2.1).at.1 5, (M.out.2.2.2.2.2.2.1).at.1 6, (M.out.2.2.2.2.2.2.1).at.1 7, (M.out.2.2.2.2.2.1).at.1 0, (M.out.2.2.2.2.2.1).at.1 1, (M.out.2.2.2.2.2.1).at.1 2, (M.out.2.2.2.2.2.1).at.1 3, (M.out.2.2.2.2.2.1).at.1 4, (M.out.2.2.2.2.2.1).at.1 5, (M.out.2.2.2.2.2.1).at.1 6, (M.out.2.2.2.2.2.1).at.1 7, (M.out.2.2.2.2.1).at.1 0, (M.out.2.2.2.2.1).at.1 1, (M.out.2.2.2.2.1).at.1 2, (M.out.2.2.2.2.1).at.1 3, (M.out.2.2.2.2.1).at.1 4, (M.out.2.2.2.2.1).at.1 5, (M.out.2.2.2.2.1).at.1 6, (M.out.2.2.2.2.1).at.1 7, (M.out.2.2.2.1).at.1 0, (M.out.2.2.2.1).at.1 1, (M.out.2.2.2.1).at.1 2, (M.out.2.2.2.1).at.1 3, (M.out.1).at.1 0, (M.out.1).at.1 1, (M.out.1).at.1 2, (M.out.1).at.1 3, (M.out.1).at.1 4, (M.out.1).at.1 5, (M.out.1).at.1 6, (M.out.1).at.1 7⟩) (fun hH38 => ?_)
        clear hK K hH37
        (try simp only [Act.put, List.setIfInBounds_toArray, List.set_cons_zero, List.set_cons_succ])
        refine tk at6 ?_
        refine tk at7 ?_
        refine tk at8 ?_
        refine tk at9 ?_
        refine tk at10 ?_
        refine tk at17 ?_
        refine tk at18 ?_
        refine wpAnyH_ready (rs := [11]) (by kernel_rfl) (by simp) ?_
        refine AllReadyH.cons at11 (fun K hK => ?_) AllReadyH.nil
        go_simp
        refine (spInside_xf (G := G) (r := p1) (s := p2) (o1 := o5) (o2 := o6) (b_ := true) (Nat.le_trans hG (M.out.2.2.2.2.2.2.2).size) (H5.out.keep (M.out.2.2.2.2.2.2.2)) (H6.out.keep (M.out.2.2.2.2.2.2.2)) (few2_1 HC1.out) (few2_2 HC1.out) (K1.out.keep (M.out.2.2.2.2.2.2.2)) (K2.out.keep (M.out.2.2.2.2.2.2.2)) (Fz.mono Z1.out (by omega)) (Fz.mono Z2.out (by omega)) (right_le HC3.out) HB6.out).mono ?_
        rintro e w21 ⟨rfl, hb⟩
        replace M := Lib.hid (Goes.go M.out hb)
        clear hb
        (try go_wp2_with fail)
        refine hK.out _ _ (⟨(M.out.2.2.2.2.2.2.1).at.1 0, (M.out.2.2.2.2.2.2.1).at.1 1, (M.out.2.2.2.2.2.2.1).at.1 2, (M.out.2.2.2.2.2.2.1).at.1 3, (M.out.2.2.2.2.2.2.1).at.1 4, (M.out.2.2.2.2.2.2.1).at.1 5, (M.out.2.2.2.2.2.2.1).at.1 6, (M.out.2.2.2.2.2.2.1).at.1 7, (M.out.2.2.2.2.2.1).at.1 0, (M.out.2.2.2.2.2.1).at.1 1, (M.out.2.2.2.2.2.1).at.1 2, (M.out.2.2.2.2.2.1).at.1 3, (M.out.2.2.2.2.2.1).at.1 4, (M.out.2.2.2.2.2.1).at.1 5, (M.out.2.2.2.2.2.1).at.1 6, (M.out.2.2.2.2.2.1).at.1 7, (M.out.2.2.2.2.1).at.1 0, (M.out.2.2.2.2.1).at.1 1, (M.out.2.2.2.2.1).at.1 2, (M.out.2.2.2.2.1).at.1 3, (M.out.2.2.2.2.1).at.1 4, (M.out.2.2.2.2.1).at.1 5, (M.out.2.2.2.2.1).at.1 6, (M.out.2.2.2.2.1).at.1 7, (M.out.2.2.2.1).at.1 0, (M.out.2.2.2.1).at.1 1, (M.out.2.2.2.1).at.1 2, (M.out.2.2.2.1).at.1 3, (M.out.1).at.1 0, (M.out.1).at.1 1, (M.out.1).at.1 2, (M.out.1).at.1 3, (M.out.1).at.1 4, (M.out.1).at.1 5, (M.out.1).at.1 6, (M.out.1).at.1 7⟩) (fun hH39 => ?_)
        clear hK K hH38
        (try simp only [Act.put, List.setIfInBounds_toArray, List.set_cons_zero, List.set_cons_succ])
        refine tk at12 ?_
        refine tk at13 ?_
        refine tk at14 ?_
        refine wpAnyH_ready (rs := [15]) (by kernel_rfl) (by simp) ?_
        refine AllReadyH.cons at15 (fun K hK => ?_) AllReadyH.nil
        go_simp
        refine (spInside_xf (G := G) (r := r1) (s := r2) (o1 := o5) (o2 := o6) (b_ := true) (Nat.le_trans hG (M.out.2.2.2.2.2.2.2).size) (H5.out.keep (M.out.2.2.2.2.2.2.2)) (H6.out.keep (M.out.2.2.2.2.2.2.2)) (few2_1 HC1.out) (few2_2 HC1.out) (K3.out.keep (M.out.2.2.2.2.2.2.2)) (K4.out.keep (M.out.2.2.2.2.2.2.2)) (Fz.mono Z3.out (by omega)) (Fz.mono Z4.out (by omega)) (right_le HC4.out) HB7.out).mono ?_
        rintro e w22 ⟨rfl, hb⟩
        replace M := Lib.hid (Goes.go M.out hb)
        clear hb
        (try go_wp2_with fail)
        refine hK.out _ _ (⟨(M.out.2.2.2.2.2.2.1).at.1 0, (M.out.2.2.2.2.2.2.1).at.1 1, (M.out.2.2.2.2.2.2.1).at.1 2, (M.out.2.2.2.2.2.2.1).at.1 3, (M.out.2.2.2.2.2.2.1).at.1 4, (M.out.2.2.2.2.2.2.1).at.1 5, (M.out.2.2.2.2.2.2.1).at.1 6, (M.out.2.2.2.2.2.2.1).at.1 7, (M.out.2.2.2.2.2.1).at.1 0, (M.out.2.2.2.2.2.1).at.1 1, (M.out.2.2.2.2.2.1).at.1 2, (M.out.2.2.2.2.2.1).at.1 3, (M.out.2.2.2.2.2.1).at.1 4, (M.out.2.2.2.2.2.1).at.1 5, (M.out.2.2.2.2.2.1).at.1 6, (M.out.2.2.2.2.2.1).at.1 7, (M.out.2.2.2.2.1).at.1 0, (M.out.2.2.2.2.1).at.1 1, (M.out.2.2.2.2.1).at.1 2, (M.out.2.2.2.2.1).at.1 3, (M.out.2.2.2.2.1).at.1 4, (M.out.2.2.2.2.1).at.1 5, (M.out.2.2.2.2.1).at.1 6, (M.out.2.2.2.2.1).at.1 7, (M.out.2.2.2.1).at.1 0, (M.out.2.2.2.1).at.1 1, (M.out.2.2.2.1).at.1 2, (M.out.2.2.2.1).at.1 3, (M.out.1).at.1 0, (M.out.1).at.1 1, (M.out.1).at.1 2, (M.out.1).at.1 3, (M.out.1).at.1 4, (M.out.1).at.1 5, (M.out.1).at.1 6, (M.out.1).at.1 7⟩) (fun hH40 => ?_)
        clear hK K hH39
        (try simp only [Act.put, List.setIfInBounds_toArray, List.set_cons_zero, List.set_cons_succ])
        refine tk at16 ?_
        refine wpAnyH_ready (rs := [19]) (by kernel_rfl) (by simp) ?_
        refine AllReadyH.cons at19 (fun K hK => ?_) AllReadyH.nil
        go_simp
        refine (spInside_xf (G := G) (r := q19) (s := q20) (o1 := o5) (o2 := o6) (b_ := true) (Nat.le_trans hG (M.out.2.2.2.2.2.2.2).size) (H5.out.keep (M.out.2.2.2.2.2.2.2)) (H6.out.keep (M.out.2.2.2.2.2.2.2)) (few2_1 HC1.out) (few2_2 HC1.out) (M.out.2.1) (M.out.2.2.1) (Fz.mono Sq19.out (by omega)) (Fz.mono Sq20.out (by omega)) (by rw [Eq20.out, Eq19.out]; exact Rat.not_lt.1 HM1.out) (by rw [Eq20.out, Eq19.out]; rw [ins_meet (right_le HC3.out) (right_le HC4.out) HM1.out, HB6.out, HB7.out]; rfl)).mono ?_
        rintro e w23 ⟨rfl, hb⟩
        replace M := Lib.hid (Goes.go M.out hb)
        clear hb
        (try go_wp2_with fail)
        refine hK.out _ _ (⟨(M.out.2.2.2.2.2.2.1).at.1 0, (M.out.2.2.2.2.2.2.1).at.1 1, (M.out.2.2.2.2.2.2.1).at.1 2, (M.out.2.2.2.2.2.2.1).at.1 3, (M.out.2.2.2.2.2.2.1).at.1 4, (M.out.2.2.2.2.2.2.1).at.1 5, (M.out.2.2.2.2.2.2.1).at.1 6, (M.out.2.2.2.2.2.2.1).at.1 7, (M.out.2.2.2.2.2.1).at.1 0, (M.out.2.2.2.2.2.1).at.1 1, (M.out.2.2.2.2.2.1).at.1 2, (M.out.2.2.2.2.2.1).at.1 3, (M.out.2.2.2.2.2.1).at.1 4, (M.out.2.2.2.2.2.1).at.1 5, (M.out.2.2.2.2.2.1).at.1 6, (M.out.2.2.2.2.2.1).at.1 7, (M.out.2.2.2.2.1).at.1 0, (M.out.2.2.2.2.1).at.1 1, (M.out.2.2.2.2.1).at.1 2, (M.out.2.2.2.2.1).at.1 3, (M.out.2.2.2.2.1).at.1 4, (M.out.2.2.2.2.1).at.1 5, (M.out.2.2.2.2.1).at.1 6, (M.out.2.2.2.2.1).at.1 7, (M.out.2.2.2.1).at.1 0, (M.out.2.2.2.1).at.1 1, (M.out.2.2.2.1).at.1 2, (M.out.2.2.2.1).at.1 3, (M.out.1).at.1 0, (M.out.1).at.1 1, (M.out.1).at.1 2, (M.out.1).at.1 3, (M.out.1).at.1 4, (M.out.1).at.1 5, (M.out.1).at.1 6, (M.out.1).at.1 7⟩) (fun hH41 => ?_)
        clear hK K hH40
        (try simp only [Act.put, List.setIfInBounds_toArray, List.set_cons_zero, List.set_cons_succ])
        refine tk at20 ?_
        refine tk at21 ?_
        refine tk at22 ?_
        refine wpAnyH_done (by kernel_rfl) ?_ _
        clear hH41
        go_wp2_with fail
        go_ret
        exact ⟨rfl, (M.out.2.2.2.2.2.2.2)⟩
  | true =>
    have y1 := (M.out.2.2.2.2.2.1).d8; have p1_0 := y1.1; have p1_1 := y1.2.1; have p1_2 := y1.2.2.1; have p1_3 := y1.2.2.2.1; have p1_4 := y1.2.2.2.2.1; have p1_5 := y1.2.2.2.2.2.1; have p1_6 := y1.2.2.2.2.2.2.1; have p1_7 := y1.2.2.2.2.2.2.2; clear y1
    have y3 := (M.out.2.2.2.1).d4; have p3_0 := y3.1; have p3_1 := y3.2.1; have p3_2 := y3.2.2.1; have p3_3 := y3.2.2.2; clear y3
    go_wp2_with fail
    clear p1_0 p1_1 p1_2 p1_3 p1_4 p1_5 p1_6 p1_7 p3_0 p3_1 p3_2 p3_3
    refine (spHas_fx (G := G) (p := r1) (q := r2) (o3 := o7) (b_ := b5) (Nat.le_trans hG (M.out.2.2.2.2.2.2.2).size) (K3.out.keep (M.out.2.2.2.2.2.2.2)) (K4.out.keep (M.out.2.2.2.2.2.2.2)) (Fz.mono Z3.out (by omega)) (Fz.mono Z4.out (by omega)) (right_le HC4.out) (H7.out.keep (M.out.2.2.2.2.2.2.2)) HC2.out HB5.out).mono ?_
    rintro e w19 ⟨rfl, hb⟩
    replace M := Lib.hid (Goes.go M.out hb)
    clear hb
    cases b5 with
    | false =>
      cases b6 with
      | false =>
        go_wp2_with fail
        obtain ⟨w20, hv⟩ : ∃ w_ : World, w_ = w19.drew := ⟨_, rfl⟩
        replace M := Lib.hid (Goes.go M.out (hv ▸ below_drew _ : Below w19.heap.size w19 w20))
        refine wp_region_held_drew (S := (fun w' => w'.cell? ⟨B0, 0, none⟩ = some (u0) ∧ w'.cell? ⟨B0, 1, none⟩ = some (u1) ∧ w'.cell? ⟨B0, 2, none⟩ = some (u2) ∧ w'.cell? ⟨B0, 3, none⟩ = some (u3) ∧ w'.cell? ⟨B0, 4, none⟩ = some (u4) ∧ w'.cell? ⟨B0, 5, none⟩ = some (u5) ∧ w'.cell? ⟨B0, 6, none⟩ = some (u6) ∧ w'.cell? ⟨B0, 7, none⟩ = some (u7) ∧ w'.cell? ⟨B2, 0, none⟩ = some (y0) ∧ w'.cell? ⟨B2, 1, none⟩ = some (y1) ∧ w'.cell? ⟨B2, 2, none⟩ = some (y2) ∧ w'.cell? ⟨B2, 3, none⟩ = some (y3) ∧ w'.cell? ⟨B2, 4, none⟩ = some (y4) ∧ w'.cell? ⟨B2, 5, none⟩ = some (y5) ∧ w'.cell? ⟨B2, 6, none⟩ = some (y6) ∧ w'.cell? ⟨B2, 7, none⟩ = some (y7) ∧ w'.cell? ⟨B3, 0, none⟩ = some (e0) ∧ w'.cell? ⟨B3, 1, none⟩ = some (e1) ∧ w'.cell? ⟨B3, 2, none⟩ = some (e2) ∧ w'.cell? ⟨B3, 3, none⟩ = some (e3) ∧ w'.cell? ⟨B5, 0, none⟩ = some (x_11) ∧ w'.cell? ⟨B5, 1, none⟩ = some (x_12) ∧ w'.cell? ⟨B5, 2, none⟩ = some (x_13) ∧ w'.cell? ⟨B5, 3, none⟩ = some (x_14) ∧ w'.cell? ⟨B5, 4, none⟩ = some (x_15) ∧ w'.cell? ⟨B5, 5, none⟩ = some (x_16) ∧ w'.cell? ⟨B5, 6, none⟩ = some (x_17) ∧ w'.cell? ⟨B5, 7, none⟩ = some (x_18))) (by kernel_rfl) (by rw [← hv]; exact ⟨(M.out.2.2.2.2.2.2.1).at.1 0, (M.out.2.2.2.2.2.2.1).at.1 1, (M.out.2.2.2.2.2.2.1).at.1 2, (M.out.2.2.2.2.2.2.1).at.1 3, (M.out.2.2.2.2.2.2.1).at.1 4, (M.out.2.2.2.2.2.2.1).at.1 5, (M.out.2.2.2.2.2.2.1).at.1 6, (M.out.2.2.2.2.2.2.1).at.1 7, (M.out.2.2.2.2.1).at.1 0, (M.out.2.2.2.2.1).at.1 1, (M.out.2.2.2.2.1).at.1 2, (M.out.2.2.2.2.1).at.1 3, (M.out.2.2.2.2.1).at.1 4, (M.out.2.2.2.2.1).at.1 5, (M.out.2.2.2.2.1).at.1 6, (M.out.2.2.2.2.1).at.1 7, (M.out.2.2.2.1).at.1 0, (M.out.2.2.2.1).at.1 1, (M.out.2.2.2.1).at.1 2, (M.out.2.2.2.1).at.1 3, (M.out.1).at.1 0, (M.out.1).at.1 1, (M.out.1).at.1 2, (M.out.1).at.1 3, (M.out.1).at.1 4, (M.out.1).at.1 5, (M.out.1).at.1 6, (M.out.1).at.1 7⟩) (fun hH42 => ?_)
        rw [← hv] at hH42 ⊢
        clear hv
        refine tk at0 ?_
        refine tk at1 ?_
        refine tk at2 ?_
        refine tk at3 ?_
        refine tk at4 ?_
        refine wpAnyH_ready (rs := [5]) (by kernel_rfl) (by simp) ?_
        refine AllReadyH.cons at5 (fun K hK => ?_) AllReadyH.nil
        go_simp
        refine (spHas_fx (G := G) (p := q19) (q := q20) (o3 := o7) (b_ := false) (Nat.le_trans hG (M.out.2.2.2.2.2.2.2).size) (M.out.2.1) (M.out.2.2.1) (Fz.mono Sq19.out (by omega)) (Fz.mono Sq20.out (by omega)) (by rw [Eq20.out, Eq19.out]; exact Rat.not_lt.1 HM1.out) (H7.out.keep (M.out.2.2.2.2.2.2.2)) HC2.out (by rw [Eq20.out, Eq19.out]; rw [has_meet (right_le HC3.out) (right_le HC4.out) HM1.out, HB4.out, HB5.out]; rfl)).mono ?_
        rintro e w21 ⟨rfl, hb⟩
        replace M := Lib.hid (Goes.go M.out hb)
        clear hb
        (try go_wp2_with fail)
        refine hK.out _ _ (⟨(M.out.2.2.2.2.2.2.1).at.1 0, (M.out.2.2.2.2.2.2.1).at.1 1, (M.out.2.2.2.2.2.2.1).at.1 2, (M.out.2.2.2.2.2.2.1).at.1 3, (M.out.2.2.2.2.2.2.1).at.1 4, (M.out.2.2.2.2.2.2.1).at.1 5, (M.out.2.2.2.2.2.2.1).at.1 6, (M.out.2.2.2.2.2.2.1).at.1 7, (M.out.2.2.2.2.1).at.1 0, (M.out.2.2.2.2.1).at.1 1, (M.out.2.2.2.2.1).at.1 2, (M.out.2.2.2.2.1).at.1 3, (M.out.2.2.2.2.1).at.1 4, (M.out.2.2.2.2.1).at.1 5, (M.out.2.2.2.2.1).at.1 6, (M.out.2.2.2.2.1).at.1 7, (M.out.2.2.2.1).at.1 0, (M.out.2.2.2.1).at.1 1, (M.out.2.2.2.1).at.1 2, (M.out.2.2.2.1).at.1 3, (M.out.1).at.1 0, (M.out.1).at.1 1, (M.out.1).at.1 2, (M.out.1).at.1 3, (M.out.1).at.1 4, (M.out.1).at.1 5, (M.out.1).at.1 6, (M.out.1).at.1 7⟩) (fun hH43 => ?_)
        clear hK K hH42
        (try simp only [Act.put, List.setIfInBounds_toArray, List.set_cons_zero, List.set_cons_succ])
        refine tk at6 ?_
        refine tk at7 ?_
        refine tk at8 ?_
        refine tk at9 ?_
        refine tk at10 ?_
        refine tk at17 ?_
        refine tk at18 ?_
        refine wpAnyH_ready (rs := [11]) (by kernel_rfl) (by simp) ?_
        refine AllReadyH.cons at11 (fun K hK => ?_) AllReadyH.nil
        go_simp
        refine (spInside_xf (G := G) (r := p1) (s := p2) (o1 := o5) (o2 := o6) (b_ := false) (Nat.le_trans hG (M.out.2.2.2.2.2.2.2).size) (H5.out.keep (M.out.2.2.2.2.2.2.2)) (H6.out.keep (M.out.2.2.2.2.2.2.2)) (few2_1 HC1.out) (few2_2 HC1.out) (K1.out.keep (M.out.2.2.2.2.2.2.2)) (K2.out.keep (M.out.2.2.2.2.2.2.2)) (Fz.mono Z1.out (by omega)) (Fz.mono Z2.out (by omega)) (right_le HC3.out) HB6.out).mono ?_
        rintro e w22 ⟨rfl, hb⟩
        replace M := Lib.hid (Goes.go M.out hb)
        clear hb
        (try go_wp2_with fail)
        refine hK.out _ _ (⟨(M.out.2.2.2.2.2.2.1).at.1 0, (M.out.2.2.2.2.2.2.1).at.1 1, (M.out.2.2.2.2.2.2.1).at.1 2, (M.out.2.2.2.2.2.2.1).at.1 3, (M.out.2.2.2.2.2.2.1).at.1 4, (M.out.2.2.2.2.2.2.1).at.1 5, (M.out.2.2.2.2.2.2.1).at.1 6, (M.out.2.2.2.2.2.2.1).at.1 7, (M.out.2.2.2.2.1).at.1 0, (M.out.2.2.2.2.1).at.1 1, (M.out.2.2.2.2.1).at.1 2, (M.out.2.2.2.2.1).at.1 3, (M.out.2.2.2.2.1).at.1 4, (M.out.2.2.2.2.1).at.1 5, (M.out.2.2.2.2.1).at.1 6, (M.out.2.2.2.2.1).at.1 7, (M.out.2.2.2.1).at.1 0, (M.out.2.2.2.1).at.1 1, (M.out.2.2.2.1).at.1 2, (M.out.2.2.2.1).at.1 3, (M.out.1).at.1 0, (M.out.1).at.1 1, (M.out.1).at.1 2, (M.out.1).at.1 3, (M.out.1).at.1 4, (M.out.1).at.1 5, (M.out.1).at.1 6, (M.out.1).at.1 7⟩) (fun hH44 => ?_)
        clear hK K hH43
        (try simp only [Act.put, List.setIfInBounds_toArray, List.set_cons_zero, List.set_cons_succ])
        refine tk at12 ?_
        refine tu at13 ?_
        refine tu at14 ?_
        refine wpAnyH_ready (rs := [15]) (by kernel_rfl) (by simp) ?_
        refine AllReadyH.cons at15 (fun K hK => ?_) AllReadyH.nil
        rw [if_neg]
        rotate_left
        focus (intro h; exact Bool.noConfusion h)
        refine hK.out _ _ hH44 (fun _ => ?_)
        clear hK K
        (try simp only [Act.put, List.setIfInBounds_toArray, List.set_cons_zero, List.set_cons_succ])
        refine tk at16 ?_
        refine wpAnyH_ready (rs := [19]) (by kernel_rfl) (by simp) ?_
        refine AllReadyH.cons at19 (fun K hK => ?_) AllReadyH.nil
        go_simp
        refine (spInside_xf (G := G) (r := q19) (s := q20) (o1 := o5) (o2 := o6) (b_ := false) (Nat.le_trans hG (M.out.2.2.2.2.2.2.2).size) (H5.out.keep (M.out.2.2.2.2.2.2.2)) (H6.out.keep (M.out.2.2.2.2.2.2.2)) (few2_1 HC1.out) (few2_2 HC1.out) (M.out.2.1) (M.out.2.2.1) (Fz.mono Sq19.out (by omega)) (Fz.mono Sq20.out (by omega)) (by rw [Eq20.out, Eq19.out]; exact Rat.not_lt.1 HM1.out) (by rw [Eq20.out, Eq19.out]; rw [ins_meet (right_le HC3.out) (right_le HC4.out) HM1.out, HB6.out, HB7.out]; rfl)).mono ?_
        rintro e w23 ⟨rfl, hb⟩
        replace M := Lib.hid (Goes.go M.out hb)
        clear hb
        (try go_wp2_with fail)
        refine hK.out _ _ (⟨(M.out.2.2.2.2.2.2.1).at.1 0, (M.out.2.2.2.2.2.2.1).at.1 1, (M.out.2.2.2.2.2.2.1).at.1 2, (M.out.2.2.2.2.2.2.1).at.1 3, (M.out.2.2.2.2.2.2.1).at.1 4, (M.out.2.2.2.2.2.2.1).at.1 5, (M.out.2.2.2.2.2.2.1).at.1 6, (M.out.2.2.2.2.2.2.1).at.1 7, (M.out.2.2.2.2.1).at.1 0, (M.out.2.2.2.2.1).at.1 1, (M.out.2.2.2.2.1).at.1 2, (M.out.2.2.2.2.1).at.1 3, (M.out.2.2.2.2.1).at.1 4, (M.out.2.2.2.2.1).at.1 5, (M.out.2.2.2.2.1).at.1 6, (M.out.2.2.2.2.1).at.1 7, (M.out.2.2.2.1).at.1 0, (M.out.2.2.2.1).at.1 1, (M.out.2.2.2.1).at.1 2, (M.out.2.2.2.1).at.1 3, (M.out.1).at.1 0, (M.out.1).at.1 1, (M.out.1).at.1 2, (M.out.1).at.1 3, (M.out.1).at.1 4, (M.out.1).at.1 5, (M.out.1).at.1 6, (M.out.1).at.1 7⟩) (fun hH45 => ?_)
        clear hK K hH44
        (try simp only [Act.put, List.setIfInBounds_toArray, List.set_cons_zero, List.set_cons_succ])
        refine tk at20 ?_
        refine tk at21 ?_
        refine tk at22 ?_
        refine wpAnyH_done (by kernel_rfl) ?_ _
        clear hH45
        go_wp2_with fail
        go_ret
        exact ⟨rfl, (M.out.2.2.2.2.2.2.2)⟩
      | true =>
        cases b7 with
        | false =>
          go_wp2_with fail
          obtain ⟨w20, hv⟩ : ∃ w_ : World, w_ = w19.drew := ⟨_, rfl⟩
          replace M := Lib.hid (Goes.go M.out (hv ▸ below_drew _ : Below w19.heap.size w19 w20))
          refine wp_region_held_drew (S := (fun w' => w'.cell? ⟨B0, 0, none⟩ = some (u0) ∧ w'.cell? ⟨B0, 1, none⟩ = some (u1) ∧ w'.cell? ⟨B0, 2, none⟩ = some (u2) ∧ w'.cell? ⟨B0, 3, none⟩ = some (u3) ∧ w'.cell? ⟨B0, 4, none⟩ = some (u4) ∧ w'.cell? ⟨B0, 5, none⟩ = some (u5) ∧ w'.cell? ⟨B0, 6, none⟩ = some (u6) ∧ w'.cell? ⟨B0, 7, none⟩ = some (u7) ∧ w'.cell? ⟨B1, 0, none⟩ = some (v0) ∧ w'.cell? ⟨B1, 1, none⟩ = some (v1) ∧ w'.cell? ⟨B1, 2, none⟩ = some (v2) ∧ w'.cell? ⟨B1, 3, none⟩ = some (v3) ∧ w'.cell? ⟨B1, 4, none⟩ = some (v4) ∧ w'.cell? ⟨B1, 5, none⟩ = some (v5) ∧ w'.cell? ⟨B1, 6, none⟩ = some (v6) ∧ w'.cell? ⟨B1, 7, none⟩ = some (v7) ∧ w'.cell? ⟨B2, 0, none⟩ = some (y0) ∧ w'.cell? ⟨B2, 1, none⟩ = some (y1) ∧ w'.cell? ⟨B2, 2, none⟩ = some (y2) ∧ w'.cell? ⟨B2, 3, none⟩ = some (y3) ∧ w'.cell? ⟨B2, 4, none⟩ = some (y4) ∧ w'.cell? ⟨B2, 5, none⟩ = some (y5) ∧ w'.cell? ⟨B2, 6, none⟩ = some (y6) ∧ w'.cell? ⟨B2, 7, none⟩ = some (y7) ∧ w'.cell? ⟨B3, 0, none⟩ = some (e0) ∧ w'.cell? ⟨B3, 1, none⟩ = some (e1) ∧ w'.cell? ⟨B3, 2, none⟩ = some (e2) ∧ w'.cell? ⟨B3, 3, none⟩ = some (e3) ∧ w'.cell? ⟨B5, 0, none⟩ = some (x_11) ∧ w'.cell? ⟨B5, 1, none⟩ = some (x_12) ∧ w'.cell? ⟨B5, 2, none⟩ = some (x_13) ∧ w'.cell? ⟨B5, 3, none⟩ = some (x_14) ∧ w'.cell? ⟨B5, 4, none⟩ = some (x_15) ∧ w'.cell? ⟨B5, 5, none⟩ = some (x_16) ∧ w'.cell? ⟨B5, 6, none⟩ = some (x_17) ∧ w'.cell? ⟨B5, 7, none⟩ = some (x_18))) (by kernel_rfl) (by rw [← hv]; exact ⟨(M.out.2.2.2.2.2.2.1).at.1 0, (M.out.2.2.2.2.2.2.1).at.1 1, (M.out.2.2.2.2.2.2.1).at.1 2, (M.out.2.2.2.2.2.2.1).at.1 3, (M.out.2.2.2.2.2.2.1).at.1 4, (M.out.2.2.2.2.2.2.1).at.1 5, (M.out.2.2.2.2.2.2.1).at.1 6, (M.out.2.2.2.2.2.2.1).at.1 7, (M.out.2.2.2.2.2.1).at.1 0, (M.out.2.2.2.2.2.1).at.1 1, (M.out.2.2.2.2.2.1).at.1 2, (M.out.2.2.2.2.2.1).at.1 3, (M.out.2.2.2.2.2.1).at.1 4, (M.out.2.2.2.2.2.1).at.1 5, (M.out.2.2.2.2.2.1).at.1 6, (M.out.2.2.2.2.2.1).at.1 7, (M.out.2.2.2.2.1).at.1 0, (M.out.2.2.2.2.1).at.1 1, (M.out.2.2.2.2.1).at.1 2, (M.out.2.2.2.2.1).at.1 3, (M.out.2.2.2.2.1).at.1 4, (M.out.2.2.2.2.1).at.1 5, (M.out.2.2.2.2.1).at.1 6, (M.out.2.2.2.2.1).at.1 7, (M.out.2.2.2.1).at.1 0, (M.out.2.2.2.1).at.1 1, (M.out.2.2.2.1).at.1 2, (M.out.2.2.2.1).at.1 3, (M.out.1).at.1 0, (M.out.1).at.1 1, (M.out.1).at.1 2, (M.out.1).at.1 3, (M.out.1).at.1 4, (M.out.1).at.1 5, (M.out.1).at.1 6, (M.out.1).at.1 7⟩) (fun hH46 => ?_)
          rw [← hv] at hH46 ⊢
          clear hv
          refine tk at0 ?_
          refine tk at1 ?_
          refine tk at2 ?_
          refine tk at3 ?_
          refine tk at4 ?_
          refine wpAnyH_ready (rs := [5]) (by kernel_rfl) (by simp) ?_
          refine AllReadyH.cons at5 (fun K hK => ?_) AllReadyH.nil
          go_simp
          refine (spHas_fx (G := G) (p := q19) (q := q20) (o3 := o7) (b_ := false) (Nat.le_trans hG (M.out.2.2.2.2.2.2.2).size) (M.out.2.1) (M.out.2.2.1) (Fz.mono Sq19.out (by omega)) (Fz.mono Sq20.out (by omega)) (by rw [Eq20.out, Eq19.out]; exact Rat.not_lt.1 HM1.out) (H7.out.keep (M.out.2.2.2.2.2.2.2)) HC2.out (by rw [Eq20.out, Eq19.out]; rw [has_meet (right_le HC3.out) (right_le HC4.out) HM1.out, HB4.out, HB5.out]; rfl)).mono ?_
          rintro e w21 ⟨rfl, hb⟩
          replace M := Lib.hid (Goes.go M.out hb)
          clear hb
          (try go_wp2_with fail)
          refine hK.out _ _ (⟨(M.out.2.2.2.2.2.2.1).at.1 0, (M.out.2.2.2.2.2.2.1).at.1 1, (M.out.2.2.2.2.2.2.1).at.1 2, (M.out.2.2.2.2.2.2.1).at.1 3, (M.out.2.2.2.2.2.2.1).at.1 4, (M.out.2.2.2.2.2.2.1).at.1 5, (M.out.2.2.2.2.2.2.1).at.1 6, (M.out.2.2.2.2.2.2.1).at.1 7, (M.out.2.2.2.2.2.1).at.1 0, (M.out.2.2.2.2.2.1).at.1 1, (M.out.2.2.2.2.2.1).at.1 2, (M.out.2.2.2.2.2.1).at.1 3, (M.out.2.2.2.2.2.1).at.1 4, (M.out.2.2.2.2.2.1).at.1 5, (M.out.2.2.2.2.2.1).at.1 6, (M.out.2.2.2.2.2.1).at.1 7, (M.out.2.2.2.2.1).at.1 0, (M.out.2.2.2.2.1).at.1 1, (M.out.2.2.2.2.1).at.1 2, (M.out.2.2.2.2.1).at.1 3, (M.out.2.2.2.2.1).at.1 4, (M.out.2.2.2.2.1).at.1 5, (M.out.2.2.2.2.1).at.1 6, (M.out.2.2.2.2.1).at.1 7, (M.out.2.2.2.1).at.1 0, (M.out.2.2.2.1).at.1 1, (M.out.2.2.2.1).at.1 2, (M.out.2.2.2.1).at.1 3, (M.out.1).at.1 0, (M.out.1).at.1 1, (M.out.1).at.1 2, (M.out.1).at.1 3, (M.out.1).at.1 4, (M.out.1).at.1 5, (M.out.1).at.1 6, (M.out.1).at.1 7⟩) (fun hH47 => ?_)
          clear hK K hH46
          (try simp only [Act.put, List.setIfInBounds_toArray, List.set_cons_zero, List.set_cons_succ])
          refine tk at6 ?_
          refine tk at7 ?_
          refine tk at8 ?_
          refine tk at9 ?_
          refine tk at10 ?_
          refine tk at17 ?_
          refine tk at18 ?_
          refine wpAnyH_ready (rs := [11]) (by kernel_rfl) (by simp) ?_
          refine AllReadyH.cons at11 (fun K hK => ?_) AllReadyH.nil
          go_simp
          refine (spInside_xf (G := G) (r := p1) (s := p2) (o1 := o5) (o2 := o6) (b_ := true) (Nat.le_trans hG (M.out.2.2.2.2.2.2.2).size) (H5.out.keep (M.out.2.2.2.2.2.2.2)) (H6.out.keep (M.out.2.2.2.2.2.2.2)) (few2_1 HC1.out) (few2_2 HC1.out) (K1.out.keep (M.out.2.2.2.2.2.2.2)) (K2.out.keep (M.out.2.2.2.2.2.2.2)) (Fz.mono Z1.out (by omega)) (Fz.mono Z2.out (by omega)) (right_le HC3.out) HB6.out).mono ?_
          rintro e w22 ⟨rfl, hb⟩
          replace M := Lib.hid (Goes.go M.out hb)
          clear hb
          (try go_wp2_with fail)
          refine hK.out _ _ (⟨(M.out.2.2.2.2.2.2.1).at.1 0, (M.out.2.2.2.2.2.2.1).at.1 1, (M.out.2.2.2.2.2.2.1).at.1 2, (M.out.2.2.2.2.2.2.1).at.1 3, (M.out.2.2.2.2.2.2.1).at.1 4, (M.out.2.2.2.2.2.2.1).at.1 5, (M.out.2.2.2.2.2.2.1).at.1 6, (M.out.2.2.2.2.2.2.1).at.1 7, (M.out.2.2.2.2.2.1).at.1 0, (M.out.2.2.2.2.2.1).at.1 1, (M.out.2.2.2.2.2.1).at.1 2, (M.out.2.2.2.2.2.1).at.1 3, (M.out.2.2.2.2.2.1).at.1 4, (M.out.2.2.2.2.2.1).at.1 5, (M.out.2.2.2.2.2.1).at.1 6, (M.out.2.2.2.2.2.1).at.1 7, (M.out.2.2.2.2.1).at.1 0, (M.out.2.2.2.2.1).at.1 1, (M.out.2.2.2.2.1).at.1 2, (M.out.2.2.2.2.1).at.1 3, (M.out.2.2.2.2.1).at.1 4, (M.out.2.2.2.2.1).at.1 5, (M.out.2.2.2.2.1).at.1 6, (M.out.2.2.2.2.1).at.1 7, (M.out.2.2.2.1).at.1 0, (M.out.2.2.2.1).at.1 1, (M.out.2.2.2.1).at.1 2, (M.out.2.2.2.1).at.1 3, (M.out.1).at.1 0, (M.out.1).at.1 1, (M.out.1).at.1 2, (M.out.1).at.1 3, (M.out.1).at.1 4, (M.out.1).at.1 5, (M.out.1).at.1 6, (M.out.1).at.1 7⟩) (fun hH48 => ?_)
          clear hK K hH47
          (try simp only [Act.put, List.setIfInBounds_toArray, List.set_cons_zero, List.set_cons_succ])
          refine tk at12 ?_
          refine tk at13 ?_
          refine tk at14 ?_
          refine wpAnyH_ready (rs := [15]) (by kernel_rfl) (by simp) ?_
          refine AllReadyH.cons at15 (fun K hK => ?_) AllReadyH.nil
          go_simp
          refine (spInside_xf (G := G) (r := r1) (s := r2) (o1 := o5) (o2 := o6) (b_ := false) (Nat.le_trans hG (M.out.2.2.2.2.2.2.2).size) (H5.out.keep (M.out.2.2.2.2.2.2.2)) (H6.out.keep (M.out.2.2.2.2.2.2.2)) (few2_1 HC1.out) (few2_2 HC1.out) (K3.out.keep (M.out.2.2.2.2.2.2.2)) (K4.out.keep (M.out.2.2.2.2.2.2.2)) (Fz.mono Z3.out (by omega)) (Fz.mono Z4.out (by omega)) (right_le HC4.out) HB7.out).mono ?_
          rintro e w23 ⟨rfl, hb⟩
          replace M := Lib.hid (Goes.go M.out hb)
          clear hb
          (try go_wp2_with fail)
          refine hK.out _ _ (⟨(M.out.2.2.2.2.2.2.1).at.1 0, (M.out.2.2.2.2.2.2.1).at.1 1, (M.out.2.2.2.2.2.2.1).at.1 2, (M.out.2.2.2.2.2.2.1).at.1 3, (M.out.2.2.2.2.2.2.1).at.1 4, (M.out.2.2.2.2.2.2.1).at.1 5, (M.out.2.2.2.2.2.2.1).at.1 6, (M.out.2.2.2.2.2.2.1).at.1 7, (M.out.2.2.2.2.2.1).at.1 0, (M.out.2.2.2.2.2.1).at.1 1, (M.out.2.2.2.2.2.1).at.1 2, (M.out.2.2.2.2.2.1).at.1 3, (M.out.2.2.2.2.2.1).at.1 4, (M.out.2.2.2.2.2.1).at.1 5, (M.out.2.2.2.2.2.1).at.1 6, (M.out.2.2.2.2.2.1).at.1 7, (M.out.2.2.2.2.1).at.1 0, (M.out.2.2.2.2.1).at.1 1, (M.out.2.2.2.2.1).at.1 2, (M.out.2.2.2.2.1).at.1 3, (M.out.2.2.2.2.1).at.1 4, (M.out.2.2.2.2.1).at.1 5, (M.out.2.2.2.2.1).at.1 6, (M.out.2.2.2.2.1).at.1 7, (M.out.2.2.2.1).at.1 0, (M.out.2.2.2.1).at.1 1, (M.out.2.2.2.1).at.1 2, (M.out.2.2.2.1).at.1 3, (M.out.1).at.1 0, (M.out.1).at.1 1, (M.out.1).at.1 2, (M.out.1).at.1 3, (M.out.1).at.1 4, (M.out.1).at.1 5, (M.out.1).at.1 6, (M.out.1).at.1 7⟩) (fun hH49 => ?_)
          clear hK K hH48
          (try simp only [Act.put, List.setIfInBounds_toArray, List.set_cons_zero, List.set_cons_succ])
          refine tk at16 ?_
          refine wpAnyH_ready (rs := [19]) (by kernel_rfl) (by simp) ?_
          refine AllReadyH.cons at19 (fun K hK => ?_) AllReadyH.nil
          go_simp
          refine (spInside_xf (G := G) (r := q19) (s := q20) (o1 := o5) (o2 := o6) (b_ := false) (Nat.le_trans hG (M.out.2.2.2.2.2.2.2).size) (H5.out.keep (M.out.2.2.2.2.2.2.2)) (H6.out.keep (M.out.2.2.2.2.2.2.2)) (few2_1 HC1.out) (few2_2 HC1.out) (M.out.2.1) (M.out.2.2.1) (Fz.mono Sq19.out (by omega)) (Fz.mono Sq20.out (by omega)) (by rw [Eq20.out, Eq19.out]; exact Rat.not_lt.1 HM1.out) (by rw [Eq20.out, Eq19.out]; rw [ins_meet (right_le HC3.out) (right_le HC4.out) HM1.out, HB6.out, HB7.out]; rfl)).mono ?_
          rintro e w24 ⟨rfl, hb⟩
          replace M := Lib.hid (Goes.go M.out hb)
          clear hb
          (try go_wp2_with fail)
          refine hK.out _ _ (⟨(M.out.2.2.2.2.2.2.1).at.1 0, (M.out.2.2.2.2.2.2.1).at.1 1, (M.out.2.2.2.2.2.2.1).at.1 2, (M.out.2.2.2.2.2.2.1).at.1 3, (M.out.2.2.2.2.2.2.1).at.1 4, (M.out.2.2.2.2.2.2.1).at.1 5, (M.out.2.2.2.2.2.2.1).at.1 6, (M.out.2.2.2.2.2.2.1).at.1 7, (M.out.2.2.2.2.2.1).at.1 0, (M.out.2.2.2.2.2.1).at.1 1, (M.out.2.2.2.2.2.1).at.1 2, (M.out.2.2.2.2.2.1).at.1 3, (M.out.2.2.2.2.2.1).at.1 4, (M.out.2.2.2.2.2.1).at.1 5, (M.out.2.2.2.2.2.1).at.1 6, (M.out.2.2.2.2.2.1).at.1 7, (M.out.2.2.2.2.1).at.1 0, (M.out.2.2.2.2.1).at.1 1, (M.out.2.2.2.2.1).at.1 2, (M.out.2.2.2.2.1).at.1 3, (M.out.2.2.2.2.1).at.1 4, (M.out.2.2.2.2.1).at.1 5, (M.out.2.2.2.2.1).at.1 6, (M.out.2.2.2.2.1).at.1 7, (M.out.2.2.2.1).at.1 0, (M.out.2.2.2.1).at.1 1, (M.out.2.2.2.1).at.1 2, (M.out.2.2.2.1).at.1 3, (M.out.1).at.1 0, (M.out.1).at.1 1, (M.out.1).at.1 2, (M.out.1).at.1 3, (M.out.1).at.1 4, (M.out.1).at.1 5, (M.out.1).at.1 6, (M.out.1).at.1 7⟩) (fun hH50 => ?_)
          clear hK K hH49
          (try simp only [Act.put, List.setIfInBounds_toArray, List.set_cons_zero, List.set_cons_succ])
          refine tk at20 ?_
          refine tk at21 ?_
          refine tk at22 ?_
          refine wpAnyH_done (by kernel_rfl) ?_ _
          clear hH50
          go_wp2_with fail
          go_ret
          exact ⟨rfl, (M.out.2.2.2.2.2.2.2)⟩
        | true =>
          go_wp2_with fail
          obtain ⟨w20, hv⟩ : ∃ w_ : World, w_ = w19.drew := ⟨_, rfl⟩
          replace M := Lib.hid (Goes.go M.out (hv ▸ below_drew _ : Below w19.heap.size w19 w20))
          refine wp_region_held_drew (S := (fun w' => w'.cell? ⟨B0, 0, none⟩ = some (u0) ∧ w'.cell? ⟨B0, 1, none⟩ = some (u1) ∧ w'.cell? ⟨B0, 2, none⟩ = some (u2) ∧ w'.cell? ⟨B0, 3, none⟩ = some (u3) ∧ w'.cell? ⟨B0, 4, none⟩ = some (u4) ∧ w'.cell? ⟨B0, 5, none⟩ = some (u5) ∧ w'.cell? ⟨B0, 6, none⟩ = some (u6) ∧ w'.cell? ⟨B0, 7, none⟩ = some (u7) ∧ w'.cell? ⟨B1, 0, none⟩ = some (v0) ∧ w'.cell? ⟨B1, 1, none⟩ = some (v1) ∧ w'.cell? ⟨B1, 2, none⟩ = some (v2) ∧ w'.cell? ⟨B1, 3, none⟩ = some (v3) ∧ w'.cell? ⟨B1, 4, none⟩ = some (v4) ∧ w'.cell? ⟨B1, 5, none⟩ = some (v5) ∧ w'.cell? ⟨B1, 6, none⟩ = some (v6) ∧ w'.cell? ⟨B1, 7, none⟩ = some (v7) ∧ w'.cell? ⟨B2, 0, none⟩ = some (y0) ∧ w'.cell? ⟨B2, 1, none⟩ = some (y1) ∧ w'.cell? ⟨B2, 2, none⟩ = some (y2) ∧ w'.cell? ⟨B2, 3, none⟩ = some (y3) ∧ w'.cell? ⟨B2, 4, none⟩ = some (y4) ∧ w'.cell? ⟨B2, 5, none⟩ = some (y5) ∧ w'.cell? ⟨B2, 6, none⟩ = some (y6) ∧ w'.cell? ⟨B2, 7, none⟩ = some (y7) ∧ w'.cell? ⟨B3, 0, none⟩ = some (e0) ∧ w'.cell? ⟨B3, 1, none⟩ = some (e1) ∧ w'.cell? ⟨B3, 2, none⟩ = some (e2) ∧ w'.cell? ⟨B3, 3, none⟩ = some (e3) ∧ w'.cell? ⟨B5, 0, none⟩ = some (x_11) ∧ w'.cell? ⟨B5, 1, none⟩ = some (x_12) ∧ w'.cell? ⟨B5, 2, none⟩ = some (x_13) ∧ w'.cell? ⟨B5, 3, none⟩ = some (x_14) ∧ w'.cell? ⟨B5, 4, none⟩ = some (x_15) ∧ w'.cell? ⟨B5, 5, none⟩ = some (x_16) ∧ w'.cell? ⟨B5, 6, none⟩ = some (x_17) ∧ w'.cell? ⟨B5, 7, none⟩ = some (x_18))) (by kernel_rfl) (by rw [← hv]; exact ⟨(M.out.2.2.2.2.2.2.1).at.1 0, (M.out.2.2.2.2.2.2.1).at.1 1, (M.out.2.2.2.2.2.2.1).at.1 2, (M.out.2.2.2.2.2.2.1).at.1 3, (M.out.2.2.2.2.2.2.1).at.1 4, (M.out.2.2.2.2.2.2.1).at.1 5, (M.out.2.2.2.2.2.2.1).at.1 6, (M.out.2.2.2.2.2.2.1).at.1 7, (M.out.2.2.2.2.2.1).at.1 0, (M.out.2.2.2.2.2.1).at.1 1, (M.out.2.2.2.2.2.1).at.1 2, (M.out.2.2.2.2.2.1).at.1 3, (M.out.2.2.2.2.2.1).at.1 4, (M.out.2.2.2.2.2.1).at.1 5, (M.out.2.2.2.2.2.1).at.1 6, (M.out.2.2.2.2.2.1).at.1 7, (M.out.2.2.2.2.1).at.1 0, (M.out.2.2.2.2.1).at.1 1, (M.out.2.2.2.2.1).at.1 2, (M.out.2.2.2.2.1).at.1 3, (M.out.2.2.2.2.1).at.1 4, (M.out.2.2.2.2.1).at.1 5, (M.out.2.2.2.2.1).at.1 6, (M.out.2.2.2.2.1).at.1 7, (M.out.2.2.2.1).at.1 0, (M.out.2.2.2.1).at.1 1, (M.out.2.2.2.1).at.1 2, (M.out.2.2.2.1).at.1 3, (M.out.1).at.1 0, (M.out.1).at.1 1, (M.out.1).at.1 2, (M.out.1).at.1 3, (M.out.1).at.1 4, (M.out.1).at.1 5, (M.out.1).at.1 6, (M.out.1).at.1 7⟩) (fun hH51 => ?_)
          rw [← hv] at hH51 ⊢
          clear hv
          refine tk at0 ?_
          refine tk at1 ?_
          refine tk at2 ?_
          refine tk at3 ?_
          refine tk at4 ?_
          refine wpAnyH_ready (rs := [5]) (by kernel_rfl) (by simp) ?_
          refine AllReadyH.cons at5 (fun K hK => ?_) AllReadyH.nil
          go_simp
          refine (spHas_fx (G := G) (p := q19) (q := q20) (o3 := o7) (b_ := false) (Nat.le_trans hG (M.out.2.2.2.2.2.2.2).size) (M.out.2.1) (M.out.2.2.1) (Fz.mono Sq19.out (by omega)) (Fz.mono Sq20.out (by omega)) (by rw [Eq20.out, Eq19.out]; exact Rat.not_lt.1 HM1.out) (H7.out.keep (M.out.2.2.2.2.2.2.2)) HC2.out (by rw [Eq20.out, Eq19.out]; rw [has_meet (right_le HC3.out) (right_le HC4.out) HM1.out, HB4.out, HB5.out]; rfl)).mono ?_
          rintro e w21 ⟨rfl, hb⟩
          replace M := Lib.hid (Goes.go M.out hb)
          clear hb
          (try go_wp2_with fail)
          refine hK.out _ _ (⟨(M.out.2.2.2.2.2.2.1).at.1 0, (M.out.2.2.2.2.2.2.1).at.1 1, (M.out.2.2.2.2.2.2.1).at.1 2, (M.out.2.2.2.2.2.2.1).at.1 3, (M.out.2.2.2.2.2.2.1).at.1 4, (M.out.2.2.2.2.2.2.1).at.1 5, (M.out.2.2.2.2.2.2.1).at.1 6, (M.out.2.2.2.2.2.2.1).at.1 7, (M.out.2.2.2.2.2.1).at.1 0, (M.out.2.2.2.2.2.1).at.1 1, (M.out.2.2.2.2.2.1).at.1 2, (M.out.2.2.2.2.2.1).at.1 3, (M.out.2.2.2.2.2.1).at.1 4, (M.out.2.2.2.2.2.1).at.1 5, (M.out.2.2.2.2.2.1).at.1 6, (M.out.2.2.2.2.2.1).at.1 7, (M.out.2.2.2.2.1).at.1 0, (M.out.2.2.2.2.1).at.1 1, (M.out.2.2.2.2.1).at.1 2, (M.out.2.2.2.2.1).at.1 3, (M.out.2.2.2.2.1).at.1 4, (M.out.2.2.2.2.1).at.1 5, (M.out.2.2.2.2.1).at.1 6, (M.out.2.2.2.2.1).at.1 7, (M.out.2.2.2.1).at.1 0, (M.out.2.2.2.1).at.1 1, (M.out.2.2.2.1).at.1 2, (M.out.2.2.2.1).at.1 3, (M.out.1).at.1 0, (M.out.1).at.1 1, (M.out.1).at.1 2, (M.out.1).at.1 3, (M.out.1).at.1 4, (M.out.1).at.1 5, (M.out.1).at.1 6, (M.out.1).at.1 7⟩) (fun hH52 => ?_)
          clear hK K hH51
          (try simp only [Act.put, List.setIfInBounds_toArray, List.set_cons_zero, List.set_cons_succ])
          refine tk at6 ?_
          refine tk at7 ?_
          refine tk at8 ?_
          refine tk at9 ?_
          refine tk at10 ?_
          refine tk at17 ?_
          refine tk at18 ?_
          refine wpAnyH_ready (rs := [11]) (by kernel_rfl) (by simp) ?_
          refine AllReadyH.cons at11 (fun K hK => ?_) AllReadyH.nil
          go_simp
          refine (spInside_xf (G := G) (r := p1) (s := p2) (o1 := o5) (o2 := o6) (b_ := true) (Nat.le_trans hG (M.out.2.2.2.2.2.2.2).size) (H5.out.keep (M.out.2.2.2.2.2.2.2)) (H6.out.keep (M.out.2.2.2.2.2.2.2)) (few2_1 HC1.out) (few2_2 HC1.out) (K1.out.keep (M.out.2.2.2.2.2.2.2)) (K2.out.keep (M.out.2.2.2.2.2.2.2)) (Fz.mono Z1.out (by omega)) (Fz.mono Z2.out (by omega)) (right_le HC3.out) HB6.out).mono ?_
          rintro e w22 ⟨rfl, hb⟩
          replace M := Lib.hid (Goes.go M.out hb)
          clear hb
          (try go_wp2_with fail)
          refine hK.out _ _ (⟨(M.out.2.2.2.2.2.2.1).at.1 0, (M.out.2.2.2.2.2.2.1).at.1 1, (M.out.2.2.2.2.2.2.1).at.1 2, (M.out.2.2.2.2.2.2.1).at.1 3, (M.out.2.2.2.2.2.2.1).at.1 4, (M.out.2.2.2.2.2.2.1).at.1 5, (M.out.2.2.2.2.2.2.1).at.1 6, (M.out.2.2.2.2.2.2.1).at.1 7, (M.out.2.2.2.2.2.1).at.1 0, (M.out.2.2.2.2.2.1).at.1 1, (M.out.2.2.2.2.2.1).at.1 2, (M.out.2.2.2.2.2.1).at.1 3, (M.out.2.2.2.2.2.1).at.1 4, (M.out.2.2.2.2.2.1).at.1 5, (M.out.2.2.2.2.2.1).at.1 6, (M.out.2.2.2.2.2.1).at.1 7, (M.out.2.2.2.2.1).at.1 0, (M.out.2.2.2.2.1).at.1 1, (M.out.2.2.2.2.1).at.1 2, (M.out.2.2.2.2.1).at.1 3, (M.out.2.2.2.2.1).at.1 4, (M.out.2.2.2.2.1).at.1 5, (M.out.2.2.2.2.1).at.1 6, (M.out.2.2.2.2.1).at.1 7, (M.out.2.2.2.1).at.1 0, (M.out.2.2.2.1).at.1 1, (M.out.2.2.2.1).at.1 2, (M.out.2.2.2.1).at.1 3, (M.out.1).at.1 0, (M.out.1).at.1 1, (M.out.1).at.1 2, (M.out.1).at.1 3, (M.out.1).at.1 4, (M.out.1).at.1 5, (M.out.1).at.1 6, (M.out.1).at.1 7⟩) (fun hH53 => ?_)
          clear hK K hH52
          (try simp only [Act.put, List.setIfInBounds_toArray, List.set_cons_zero, List.set_cons_succ])
          refine tk at12 ?_
          refine tk at13 ?_
          refine tk at14 ?_
          refine wpAnyH_ready (rs := [15]) (by kernel_rfl) (by simp) ?_
          refine AllReadyH.cons at15 (fun K hK => ?_) AllReadyH.nil
          go_simp
          refine (spInside_xf (G := G) (r := r1) (s := r2) (o1 := o5) (o2 := o6) (b_ := true) (Nat.le_trans hG (M.out.2.2.2.2.2.2.2).size) (H5.out.keep (M.out.2.2.2.2.2.2.2)) (H6.out.keep (M.out.2.2.2.2.2.2.2)) (few2_1 HC1.out) (few2_2 HC1.out) (K3.out.keep (M.out.2.2.2.2.2.2.2)) (K4.out.keep (M.out.2.2.2.2.2.2.2)) (Fz.mono Z3.out (by omega)) (Fz.mono Z4.out (by omega)) (right_le HC4.out) HB7.out).mono ?_
          rintro e w23 ⟨rfl, hb⟩
          replace M := Lib.hid (Goes.go M.out hb)
          clear hb
          (try go_wp2_with fail)
          refine hK.out _ _ (⟨(M.out.2.2.2.2.2.2.1).at.1 0, (M.out.2.2.2.2.2.2.1).at.1 1, (M.out.2.2.2.2.2.2.1).at.1 2, (M.out.2.2.2.2.2.2.1).at.1 3, (M.out.2.2.2.2.2.2.1).at.1 4, (M.out.2.2.2.2.2.2.1).at.1 5, (M.out.2.2.2.2.2.2.1).at.1 6, (M.out.2.2.2.2.2.2.1).at.1 7, (M.out.2.2.2.2.2.1).at.1 0, (M.out.2.2.2.2.2.1).at.1 1, (M.out.2.2.2.2.2.1).at.1 2, (M.out.2.2.2.2.2.1).at.1 3, (M.out.2.2.2.2.2.1).at.1 4, (M.out.2.2.2.2.2.1).at.1 5, (M.out.2.2.2.2.2.1).at.1 6, (M.out.2.2.2.2.2.1).at.1 7, (M.out.2.2.2.2.1).at.1 0, (M.out.2.2.2.2.1).at.1 1, (M.out.2.2.2.2.1).at.1 2, (M.out.2.2.2.2.1).at.1 3, (M.out.2.2.2.2.1).at.1 4, (M.out.2.2.2.2.1).at.1 5, (M.out.2.2.2.2.1).at.1 6, (M.out.2.2.2.2.1).at.1 7, (M.out.2.2.2.1).at.1 0, (M.out.2.2.2.1).at.1 1, (M.out.2.2.2.1).at.1 2, (M.out.2.2.2.1).at.1 3, (M.out.1).at.1 0, (M.out.1).at.1 1, (M.out.1).at.1 2, (M.out.1).at.1 3, (M.out.1).at.1 4, (M.out.1).at.1 5, (M.out.1).at.1 6, (M.out.1).at.1 7⟩) (fun hH54 => ?_)
          clear hK K hH53
          (try simp only [Act.put, List.setIfInBounds_toArray, List.set_cons_zero, List.set_cons_succ])
          refine tk at16 ?_
          refine wpAnyH_ready (rs := [19]) (by kernel_rfl) (by simp) ?_
          refine AllReadyH.cons at19 (fun K hK => ?_) AllReadyH.nil
          go_simp
          refine (spInside_xf (G := G) (r := q19) (s := q20) (o1 := o5) (o2 := o6) (b_ := true) (Nat.le_trans hG (M.out.2.2.2.2.2.2.2).size) (H5.out.keep (M.out.2.2.2.2.2.2.2)) (H6.out.keep (M.out.2.2.2.2.2.2.2)) (few2_1 HC1.out) (few2_2 HC1.out) (M.out.2.1) (M.out.2.2.1) (Fz.mono Sq19.out (by omega)) (Fz.mono Sq20.out (by omega)) (by rw [Eq20.out, Eq19.out]; exact Rat.not_lt.1 HM1.out) (by rw [Eq20.out, Eq19.out]; rw [ins_meet (right_le HC3.out) (right_le HC4.out) HM1.out, HB6.out, HB7.out]; rfl)).mono ?_
          rintro e w24 ⟨rfl, hb⟩
          replace M := Lib.hid (Goes.go M.out hb)
          clear hb
          (try go_wp2_with fail)
          refine hK.out _ _ (⟨(M.out.2.2.2.2.2.2.1).at.1 0, (M.out.2.2.2.2.2.2.1).at.1 1, (M.out.2.2.2.2.2.2.1).at.1 2, (M.out.2.2.2.2.2.2.1).at.1 3, (M.out.2.2.2.2.2.2.1).at.1 4, (M.out.2.2.2.2.2.2.1).at.1 5, (M.out.2.2.2.2.2.2.1).at.1 6, (M.out.2.2.2.2.2.2.1).at.1 7, (M.out.2.2.2.2.2.1).at.1 0, (M.out.2.2.2.2.2.1).at.1 1, (M.out.2.2.2.2.2.1).at.1 2, (M.out.2.2.2.2.2.1).at.1 3, (M.out.2.2.2.2.2.1).at.1 4, (M.out.2.2.2.2.2.1).at.1 5, (M.out.2.2.2.2.2.1).at.1 6, (M.out.2.2.2.2.2.1).at.1 7, (M.out.2.2.2.2.1).at.1 0, (M.out.2.2.2.2.1).at.1 1, (M.out.2.2.2.2.1).at.1 2, (M.out.2.2.2.2.1).at.1 3, (M.out.2.2.2.2.1).at.1 4, (M.out.2.2.2.2.1).at.1 5, (M.out.2.2.2.2.1).at.1 6, (M.out.2.2.2.2.1).at.1 7, (M.out.2.2.2.1).at.1 0, (M.out.2.2.2.1).at.1 1, (M.out.2.2.2.1).at.1 2, (M.out.2.2.2.1).at.1 3, (M.out.1).at.1 0, (M.out.1).at.1 1, (M.out.1).at.1 2, (M.out.1).at.1 3, (M.out.1).at.1 4, (M.out.1).at.1 5, (M.out.1).at.1 6, (M.out.1).at.1 7⟩) (fun hH55 => ?_)
          clear hK K hH54
          (try simp only [Act.put, List.setIfInBounds_toArray, List.set_cons_zero, List.set_cons_succ])
          refine tk at20 ?_
          refine tk at21 ?_
          refine tk at22 ?_
          refine wpAnyH_done (by kernel_rfl) ?_ _
          clear hH55
          go_wp2_with fail
          go_ret
          exact ⟨rfl, (M.out.2.2.2.2.2.2.2)⟩
    | true =>
      cases b6 with
      | false =>
        go_wp2_with fail
        obtain ⟨w20, hv⟩ : ∃ w_ : World, w_ = w19.drew := ⟨_, rfl⟩
        replace M := Lib.hid (Goes.go M.out (hv ▸ below_drew _ : Below w19.heap.size w19 w20))
        refine wp_region_held_drew (S := (fun w' => w'.cell? ⟨B0, 0, none⟩ = some (u0) ∧ w'.cell? ⟨B0, 1, none⟩ = some (u1) ∧ w'.cell? ⟨B0, 2, none⟩ = some (u2) ∧ w'.cell? ⟨B0, 3, none⟩ = some (u3) ∧ w'.cell? ⟨B0, 4, none⟩ = some (u4) ∧ w'.cell? ⟨B0, 5, none⟩ = some (u5) ∧ w'.cell? ⟨B0, 6, none⟩ = some (u6) ∧ w'.cell? ⟨B0, 7, none⟩ = some (u7) ∧ w'.cell? ⟨B2, 0, none⟩ = some (y0) ∧ w'.cell? ⟨B2, 1, none⟩ = some (y1) ∧ w'.cell? ⟨B2, 2, none⟩ = some (y2) ∧ w'.cell? ⟨B2, 3, none⟩ = some (y3) ∧ w'.cell? ⟨B2, 4, none⟩ = some (y4) ∧ w'.cell? ⟨B2, 5, none⟩ = some (y5) ∧ w'.cell? ⟨B2, 6, none⟩ = some (y6) ∧ w'.cell? ⟨B2, 7, none⟩ = some (y7) ∧ w'.cell? ⟨B3, 0, none⟩ = some (e0) ∧ w'.cell? ⟨B3, 1, none⟩ = some (e1) ∧ w'.cell? ⟨B3, 2, none⟩ = some (e2) ∧ w'.cell? ⟨B3, 3, none⟩ = some (e3) ∧ w'.cell? ⟨B5, 0, none⟩ = some (x_11) ∧ w'.cell? ⟨B5, 1, none⟩ = some (x_12) ∧ w'.cell? ⟨B5, 2, none⟩ = some (x_13) ∧ w'.cell? ⟨B5, 3, none⟩ = some (x_14) ∧ w'.cell? ⟨B5, 4, none⟩ = some (x_15) ∧ w'.cell? ⟨B5, 5, none⟩ = some (x_16) ∧ w'.cell? ⟨B5, 6, none⟩ = some (x_17) ∧ w'.cell? ⟨B5, 7, none⟩ = some (x_18))) (by kernel_rfl) (by rw [← hv]; exact ⟨(M.out.2.2.2.2.2.2.1).at.1 0, (M.out.2.2.2.2.2.2.1).at.1 1, (M.out.2.2.2.2.2.2.1).at.1 2, (M.out.2.2.2.2.2.2.1).at.1 3, (M.out.2.2.2.2.2.2.1).at.1 4, (M.out.2.2.2.2.2.2.1).at.1 5, (M.out.2.2.2.2.2.2.1).at.1 6, (M.out.2.2.2.2.2.2.1).at.1 7, (M.out.2.2.2.2.1).at.1 0, (M.out.2.2.2.2.1).at.1 1, (M.out.2.2.2.2.1).at.1 2, (M.out.2.2.2.2.1).at.1 3, (M.out.2.2.2.2.1).at.1 4, (M.out.2.2.2.2.1).at.1 5, (M.out.2.2.2.2.1).at.1 6, (M.out.2.2.2.2.1).at.1 7, (M.out.2.2.2.1).at.1 0, (M.out.2.2.2.1).at.1 1, (M.out.2.2.2.1).at.1 2, (M.out.2.2.2.1).at.1 3, (M.out.1).at.1 0, (M.out.1).at.1 1, (M.out.1).at.1 2, (M.out.1).at.1 3, (M.out.1).at.1 4, (M.out.1).at.1 5, (M.out.1).at.1 6, (M.out.1).at.1 7⟩) (fun hH56 => ?_)
        rw [← hv] at hH56 ⊢
        clear hv
        refine tk at0 ?_
        refine tk at1 ?_
        refine tk at2 ?_
        refine tk at3 ?_
        refine tk at4 ?_
        refine wpAnyH_ready (rs := [5]) (by kernel_rfl) (by simp) ?_
        refine AllReadyH.cons at5 (fun K hK => ?_) AllReadyH.nil
        go_simp
        refine (spHas_fx (G := G) (p := q19) (q := q20) (o3 := o7) (b_ := true) (Nat.le_trans hG (M.out.2.2.2.2.2.2.2).size) (M.out.2.1) (M.out.2.2.1) (Fz.mono Sq19.out (by omega)) (Fz.mono Sq20.out (by omega)) (by rw [Eq20.out, Eq19.out]; exact Rat.not_lt.1 HM1.out) (H7.out.keep (M.out.2.2.2.2.2.2.2)) HC2.out (by rw [Eq20.out, Eq19.out]; rw [has_meet (right_le HC3.out) (right_le HC4.out) HM1.out, HB4.out, HB5.out]; rfl)).mono ?_
        rintro e w21 ⟨rfl, hb⟩
        replace M := Lib.hid (Goes.go M.out hb)
        clear hb
        (try go_wp2_with fail)
        refine hK.out _ _ (⟨(M.out.2.2.2.2.2.2.1).at.1 0, (M.out.2.2.2.2.2.2.1).at.1 1, (M.out.2.2.2.2.2.2.1).at.1 2, (M.out.2.2.2.2.2.2.1).at.1 3, (M.out.2.2.2.2.2.2.1).at.1 4, (M.out.2.2.2.2.2.2.1).at.1 5, (M.out.2.2.2.2.2.2.1).at.1 6, (M.out.2.2.2.2.2.2.1).at.1 7, (M.out.2.2.2.2.1).at.1 0, (M.out.2.2.2.2.1).at.1 1, (M.out.2.2.2.2.1).at.1 2, (M.out.2.2.2.2.1).at.1 3, (M.out.2.2.2.2.1).at.1 4, (M.out.2.2.2.2.1).at.1 5, (M.out.2.2.2.2.1).at.1 6, (M.out.2.2.2.2.1).at.1 7, (M.out.2.2.2.1).at.1 0, (M.out.2.2.2.1).at.1 1, (M.out.2.2.2.1).at.1 2, (M.out.2.2.2.1).at.1 3, (M.out.1).at.1 0, (M.out.1).at.1 1, (M.out.1).at.1 2, (M.out.1).at.1 3, (M.out.1).at.1 4, (M.out.1).at.1 5, (M.out.1).at.1 6, (M.out.1).at.1 7⟩) (fun hH57 => ?_)
        clear hK K hH56
        (try simp only [Act.put, List.setIfInBounds_toArray, List.set_cons_zero, List.set_cons_succ])
        refine tk at6 ?_
        refine tk at7 ?_
        refine tk at8 ?_
        refine tk at9 ?_
        refine tk at10 ?_
        refine tk at17 ?_
        refine tk at18 ?_
        refine wpAnyH_ready (rs := [11]) (by kernel_rfl) (by simp) ?_
        refine AllReadyH.cons at11 (fun K hK => ?_) AllReadyH.nil
        go_simp
        refine (spInside_xf (G := G) (r := p1) (s := p2) (o1 := o5) (o2 := o6) (b_ := false) (Nat.le_trans hG (M.out.2.2.2.2.2.2.2).size) (H5.out.keep (M.out.2.2.2.2.2.2.2)) (H6.out.keep (M.out.2.2.2.2.2.2.2)) (few2_1 HC1.out) (few2_2 HC1.out) (K1.out.keep (M.out.2.2.2.2.2.2.2)) (K2.out.keep (M.out.2.2.2.2.2.2.2)) (Fz.mono Z1.out (by omega)) (Fz.mono Z2.out (by omega)) (right_le HC3.out) HB6.out).mono ?_
        rintro e w22 ⟨rfl, hb⟩
        replace M := Lib.hid (Goes.go M.out hb)
        clear hb
        (try go_wp2_with fail)
        refine hK.out _ _ (⟨(M.out.2.2.2.2.2.2.1).at.1 0, (M.out.2.2.2.2.2.2.1).at.1 1, (M.out.2.2.2.2.2.2.1).at.1 2, (M.out.2.2.2.2.2.2.1).at.1 3, (M.out.2.2.2.2.2.2.1).at.1 4, (M.out.2.2.2.2.2.2.1).at.1 5, (M.out.2.2.2.2.2.2.1).at.1 6, (M.out.2.2.2.2.2.2.1).at.1 7, (M.out.2.2.2.2.1).at.1 0, (M.out.2.2.2.2.1).at.1 1, (M.out.2.2.2.2.1).at.1 2, (M.out.2.2.2.2.1).at.1 3, (M.out.2.2.2.2.1).at.1 4, (M.out.2.2.2.2.1).at.1 5, (M.out.2.2.2.2.1).at.1 6, (M.out.2.2.2.2.1).at.1 7, (M.out.2.2.2.1).at.1 0, (M.out.2.2.2.1).at.1 1, (M.out.2.2.2.1).at.1 2, (M.out.2.2.2.1).at.1 3, (M.out.1).at.1 0, (M.out.1).at.1 1, (M.out.1).at.1 2, (M.out.1).at.1 3, (M.out.1).at.1 4, (M.out.1).at.1 5, (M.out.1).at.1 6, (M.out.1).at.1 7⟩) (fun hH58 => ?_)
        clear hK K hH57
        (try simp only [Act.put, List.setIfInBounds_toArray, List.set_cons_zero, List.set_cons_succ])
        refine tk at12 ?_
        refine tu at13 ?_
        refine tu at14 ?_
        refine wpAnyH_ready (rs := [15]) (by kernel_rfl) (by simp) ?_
        refine AllReadyH.cons at15 (fun K hK => ?_) AllReadyH.nil
        rw [if_neg]
        rotate_left
        focus (intro h; exact Bool.noConfusion h)
        refine hK.out _ _ hH58 (fun _ => ?_)
        clear hK K
        (try simp only [Act.put, List.setIfInBounds_toArray, List.set_cons_zero, List.set_cons_succ])
        refine tk at16 ?_
        refine wpAnyH_ready (rs := [19]) (by kernel_rfl) (by simp) ?_
        refine AllReadyH.cons at19 (fun K hK => ?_) AllReadyH.nil
        go_simp
        refine (spInside_xf (G := G) (r := q19) (s := q20) (o1 := o5) (o2 := o6) (b_ := false) (Nat.le_trans hG (M.out.2.2.2.2.2.2.2).size) (H5.out.keep (M.out.2.2.2.2.2.2.2)) (H6.out.keep (M.out.2.2.2.2.2.2.2)) (few2_1 HC1.out) (few2_2 HC1.out) (M.out.2.1) (M.out.2.2.1) (Fz.mono Sq19.out (by omega)) (Fz.mono Sq20.out (by omega)) (by rw [Eq20.out, Eq19.out]; exact Rat.not_lt.1 HM1.out) (by rw [Eq20.out, Eq19.out]; rw [ins_meet (right_le HC3.out) (right_le HC4.out) HM1.out, HB6.out, HB7.out]; rfl)).mono ?_
        rintro e w23 ⟨rfl, hb⟩
        replace M := Lib.hid (Goes.go M.out hb)
        clear hb
        (try go_wp2_with fail)
        refine hK.out _ _ (⟨(M.out.2.2.2.2.2.2.1).at.1 0, (M.out.2.2.2.2.2.2.1).at.1 1, (M.out.2.2.2.2.2.2.1).at.1 2, (M.out.2.2.2.2.2.2.1).at.1 3, (M.out.2.2.2.2.2.2.1).at.1 4, (M.out.2.2.2.2.2.2.1).at.1 5, (M.out.2.2.2.2.2.2.1).at.1 6, (M.out.2.2.2.2.2.2.1).at.1 7, (M.out.2.2.2.2.1).at.1 0, (M.out.2.2.2.2.1).at.1 1, (M.out.2.2.2.2.1).at.1 2, (M.out.2.2.2.2.1).at.1 3, (M.out.2.2.2.2.1).at.1 4, (M.out.2.2.2.2.1).at.1 5, (M.out.2.2.2.2.1).at.1 6, (M.out.2.2.2.2.1).at.1 7, (M.out.2.2.2.1).at.1 0, (M.out.2.2.2.1).at.1 1, (M.out.2.2.2.1).at.1 2, (M.out.2.2.2.1).at.1 3, (M.out.1).at.1 0, (M.out.1).at.1 1, (M.out.1).at.1 2, (M.out.1).at.1 3, (M.out.1).at.1 4, (M.out.1).at.1 5, (M.out.1).at.1 6, (M.out.1).at.1 7⟩) (fun hH59 => ?_)
        clear hK K hH58
        (try simp only [Act.put, List.setIfInBounds_toArray, List.set_cons_zero, List.set_cons_succ])
        refine tk at20 ?_
        refine tk at21 ?_
        refine tk at22 ?_
        refine wpAnyH_done (by kernel_rfl) ?_ _
        clear hH59
        go_wp2_with fail
        go_ret
        exact ⟨rfl, (M.out.2.2.2.2.2.2.2)⟩
      | true =>
        cases b7 with
        | false =>
          go_wp2_with fail
          obtain ⟨w20, hv⟩ : ∃ w_ : World, w_ = w19.drew := ⟨_, rfl⟩
          replace M := Lib.hid (Goes.go M.out (hv ▸ below_drew _ : Below w19.heap.size w19 w20))
          refine wp_region_held_drew (S := (fun w' => w'.cell? ⟨B0, 0, none⟩ = some (u0) ∧ w'.cell? ⟨B0, 1, none⟩ = some (u1) ∧ w'.cell? ⟨B0, 2, none⟩ = some (u2) ∧ w'.cell? ⟨B0, 3, none⟩ = some (u3) ∧ w'.cell? ⟨B0, 4, none⟩ = some (u4) ∧ w'.cell? ⟨B0, 5, none⟩ = some (u5) ∧ w'.cell? ⟨B0, 6, none⟩ = some (u6) ∧ w'.cell? ⟨B0, 7, none⟩ = some (u7) ∧ w'.cell? ⟨B1, 0, none⟩ = some (v0) ∧ w'.cell? ⟨B1, 1, none⟩ = some (v1) ∧ w'.cell? ⟨B1, 2, none⟩ = some (v2) ∧ w'.cell? ⟨B1, 3, none⟩ = some (v3) ∧ w'.cell? ⟨B1, 4, none⟩ = some (v4) ∧ w'.cell? ⟨B1, 5, none⟩ = some (v5) ∧ w'.cell? ⟨B1, 6, none⟩ = some (v6) ∧ w'.cell? ⟨B1, 7, none⟩ = some (v7) ∧ w'.cell? ⟨B2, 0, none⟩ = some (y0) ∧ w'.cell? ⟨B2, 1, none⟩ = some (y1) ∧ w'.cell? ⟨B2, 2, none⟩ = some (y2) ∧ w'.cell? ⟨B2, 3, none⟩ = some (y3) ∧ w'.cell? ⟨B2, 4, none⟩ = some (y4) ∧ w'.cell? ⟨B2, 5, none⟩ = some (y5) ∧ w'.cell? ⟨B2, 6, none⟩ = some (y6) ∧ w'.cell? ⟨B2, 7, none⟩ = some (y7) ∧ w'.cell? ⟨B3, 0, none⟩ = some (e0) ∧ w'.cell? ⟨B3, 1, none⟩ = some (e1) ∧ w'.cell? ⟨B3, 2, none⟩ = some (e2) ∧ w'.cell? ⟨B3, 3, none⟩ = some (e3) ∧ w'.cell? ⟨B5, 0, none⟩ = some (x_11) ∧ w'.cell? ⟨B5, 1, none⟩ = some (x_12) ∧ w'.cell? ⟨B5, 2, none⟩ = some (x_13) ∧ w'.cell? ⟨B5, 3, none⟩ = some (x_14) ∧ w'.cell? ⟨B5, 4, none⟩ = some (x_15) ∧ w'.cell? ⟨B5, 5, none⟩ = some (x_16) ∧ w'.cell? ⟨B5, 6, none⟩ = some (x_17) ∧ w'.cell? ⟨B5, 7, none⟩ = some (x_18))) (by kernel_rfl) (by rw [← hv]; exact ⟨(M.out.2.2.2.2.2.2.1).at.1 0, (M.out.2.2.2.2.2.2.1).at.1 1, (M.out.2.2.2.2.2.2.1).at.1 2, (M.out.2.2.2.2.2.2.1).at.1 3, (M.out.2.2.2.2.2.2.1).at.1 4, (M.out.2.2.2.2.2.2.1).at.1 5, (M.out.2.2.2.2.2.2.1).at.1 6, (M.out.2.2.2.2.2.2.1).at.1 7, (M.out.2.2.2.2.2.1).at.1 0, (M.out.2.2.2.2.2.1).at.1 1, (M.out.2.2.2.2.2.1).at.1 2, (M.out.2.2.2.2.2.1).at.1 3, (M.out.2.2.2.2.2.1).at.1 4, (M.out.2.2.2.2.2.1).at.1 5, (M.out.2.2.2.2.2.1).at.1 6, (M.out.2.2.2.2.2.1).at.1 7, (M.out.2.2.2.2.1).at.1 0, (M.out.2.2.2.2.1).at.1 1, (M.out.2.2.2.2.1).at.1 2, (M.out.2.2.2.2.1).at.1 3, (M.out.2.2.2.2.1).at.1 4, (M.out.2.2.2.2.1).at.1 5, (M.out.2.2.2.2.1).at.1 6, (M.out.2.2.2.2.1).at.1 7, (M.out.2.2.2.1).at.1 0, (M.out.2.2.2.1).at.1 1, (M.out.2.2.2.1).at.1 2, (M.out.2.2.2.1).at.1 3, (M.out.1).at.1 0, (M.out.1).at.1 1, (M.out.1).at.1 2, (M.out.1).at.1 3, (M.out.1).at.1 4, (M.out.1).at.1 5, (M.out.1).at.1 6, (M.out.1).at.1 7⟩) (fun hH60 => ?_)
          rw [← hv] at hH60 ⊢
          clear hv
          refine tk at0 ?_
          refine tk at1 ?_
          refine tk at2 ?_
          refine tk at3 ?_
          refine tk at4 ?_
          refine wpAnyH_ready (rs := [5]) (by kernel_rfl) (by simp) ?_
          refine AllReadyH.cons at5 (fun K hK => ?_) AllReadyH.nil
          go_simp
          refine (spHas_fx (G := G) (p := q19) (q := q20) (o3 := o7) (b_ := true) (Nat.le_trans hG (M.out.2.2.2.2.2.2.2).size) (M.out.2.1) (M.out.2.2.1) (Fz.mono Sq19.out (by omega)) (Fz.mono Sq20.out (by omega)) (by rw [Eq20.out, Eq19.out]; exact Rat.not_lt.1 HM1.out) (H7.out.keep (M.out.2.2.2.2.2.2.2)) HC2.out (by rw [Eq20.out, Eq19.out]; rw [has_meet (right_le HC3.out) (right_le HC4.out) HM1.out, HB4.out, HB5.out]; rfl)).mono ?_
          rintro e w21 ⟨rfl, hb⟩
          replace M := Lib.hid (Goes.go M.out hb)
          clear hb
          (try go_wp2_with fail)
          refine hK.out _ _ (⟨(M.out.2.2.2.2.2.2.1).at.1 0, (M.out.2.2.2.2.2.2.1).at.1 1, (M.out.2.2.2.2.2.2.1).at.1 2, (M.out.2.2.2.2.2.2.1).at.1 3, (M.out.2.2.2.2.2.2.1).at.1 4, (M.out.2.2.2.2.2.2.1).at.1 5, (M.out.2.2.2.2.2.2.1).at.1 6, (M.out.2.2.2.2.2.2.1).at.1 7, (M.out.2.2.2.2.2.1).at.1 0, (M.out.2.2.2.2.2.1).at.1 1, (M.out.2.2.2.2.2.1).at.1 2, (M.out.2.2.2.2.2.1).at.1 3, (M.out.2.2.2.2.2.1).at.1 4, (M.out.2.2.2.2.2.1).at.1 5, (M.out.2.2.2.2.2.1).at.1 6, (M.out.2.2.2.2.2.1).at.1 7, (M.out.2.2.2.2.1).at.1 0, (M.out.2.2.2.2.1).at.1 1, (M.out.2.2.2.2.1).at.1 2, (M.out.2.2.2.2.1).at.1 3, (M.out.2.2.2.2.1).at.1 4, (M.out.2.2.2.2.1).at.1 5, (M.out.2.2.2.2.1).at.1 6, (M.out.2.2.2.2.1).at.1 7, (M.out.2.2.2.1).at.1 0, (M.out.2.2.2.1).at.1 1, (M.out.2.2.2.1).at.1 2, (M.out.2.2.2.1).at.1 3, (M.out.1).at.1 0, (M.out.1).at.1 1, (M.out.1).at.1 2, (M.out.1).at.1 3, (M.out.1).at.1 4, (M.out.1).at.1 5, (M.out.1).at.1 6, (M.out.1).at.1 7⟩) (fun hH61 => ?_)
          clear hK K hH60
          (try simp only [Act.put, List.setIfInBounds_toArray, List.set_cons_zero, List.set_cons_succ])
          refine tk at6 ?_
          refine tk at7 ?_
          refine tk at8 ?_
          refine tk at9 ?_
          refine tk at10 ?_
          refine tk at17 ?_
          refine tk at18 ?_
          refine wpAnyH_ready (rs := [11]) (by kernel_rfl) (by simp) ?_
          refine AllReadyH.cons at11 (fun K hK => ?_) AllReadyH.nil
          go_simp
          refine (spInside_xf (G := G) (r := p1) (s := p2) (o1 := o5) (o2 := o6) (b_ := true) (Nat.le_trans hG (M.out.2.2.2.2.2.2.2).size) (H5.out.keep (M.out.2.2.2.2.2.2.2)) (H6.out.keep (M.out.2.2.2.2.2.2.2)) (few2_1 HC1.out) (few2_2 HC1.out) (K1.out.keep (M.out.2.2.2.2.2.2.2)) (K2.out.keep (M.out.2.2.2.2.2.2.2)) (Fz.mono Z1.out (by omega)) (Fz.mono Z2.out (by omega)) (right_le HC3.out) HB6.out).mono ?_
          rintro e w22 ⟨rfl, hb⟩
          replace M := Lib.hid (Goes.go M.out hb)
          clear hb
          (try go_wp2_with fail)
          refine hK.out _ _ (⟨(M.out.2.2.2.2.2.2.1).at.1 0, (M.out.2.2.2.2.2.2.1).at.1 1, (M.out.2.2.2.2.2.2.1).at.1 2, (M.out.2.2.2.2.2.2.1).at.1 3, (M.out.2.2.2.2.2.2.1).at.1 4, (M.out.2.2.2.2.2.2.1).at.1 5, (M.out.2.2.2.2.2.2.1).at.1 6, (M.out.2.2.2.2.2.2.1).at.1 7, (M.out.2.2.2.2.2.1).at.1 0, (M.out.2.2.2.2.2.1).at.1 1, (M.out.2.2.2.2.2.1).at.1 2, (M.out.2.2.2.2.2.1).at.1 3, (M.out.2.2.2.2.2.1).at.1 4, (M.out.2.2.2.2.2.1).at.1 5, (M.out.2.2.2.2.2.1).at.1 6, (M.out.2.2.2.2.2.1).at.1 7, (M.out.2.2.2.2.1).at.1 0, (M.out.2.2.2.2.1).at.1 1, (M.out.2.2.2.2.1).at.1 2, (M.out.2.2.2.2.1).at.1 3, (M.out.2.2.2.2.1).at.1 4, (M.out.2.2.2.2.1).at.1 5, (M.out.2.2.2.2.1).at.1 6, (M.out.2.2.2.2.1).at.1 7, (M.out.2.2.2.1).at.1 0, (M.out.2.2.2.1).at.1 1, (M.out.2.2.2.1).at.1 2, (M.out.2.2.2.1).at.1 3, (M.out.1).at.1 0, (M.out.1).at.1 1, (M.out.1).at.1 2, (M.out.1).at.1 3, (M.out.1).at.1 4, (M.out.1).at.1 5, (M.out.1).at.1 6, (M.out.1).at.1 7⟩) (fun hH62 => ?_)
          clear hK K hH61
          (try simp only [Act.put, List.setIfInBounds_toArray, List.set_cons_zero, List.set_cons_succ])
          refine tk at12 ?_
          refine tk at13 ?_
          refine tk at14 ?_
          refine wpAnyH_ready (rs := [15]) (by kernel_rfl) (by simp) ?_
          refine AllReadyH.cons at15 (fun K hK => ?_) AllReadyH.nil
          go_simp
          refine (spInside_xf (G := G) (r := r1) (s := r2) (o1 := o5) (o2 := o6) (b_ := false) (Nat.le_trans hG (M.out.2.2.2.2.2.2.2).size) (H5.out.keep (M.out.2.2.2.2.2.2.2)) (H6.out.keep (M.out.2.2.2.2.2.2.2)) (few2_1 HC1.out) (few2_2 HC1.out) (K3.out.keep (M.out.2.2.2.2.2.2.2)) (K4.out.keep (M.out.2.2.2.2.2.2.2)) (Fz.mono Z3.out (by omega)) (Fz.mono Z4.out (by omega)) (right_le HC4.out) HB7.out).mono ?_
          rintro e w23 ⟨rfl, hb⟩
          replace M := Lib.hid (Goes.go M.out hb)
          clear hb
          (try go_wp2_with fail)
          refine hK.out _ _ (⟨(M.out.2.2.2.2.2.2.1).at.1 0, (M.out.2.2.2.2.2.2.1).at.1 1, (M.out.2.2.2.2.2.2.1).at.1 2, (M.out.2.2.2.2.2.2.1).at.1 3, (M.out.2.2.2.2.2.2.1).at.1 4, (M.out.2.2.2.2.2.2.1).at.1 5, (M.out.2.2.2.2.2.2.1).at.1 6, (M.out.2.2.2.2.2.2.1).at.1 7, (M.out.2.2.2.2.2.1).at.1 0, (M.out.2.2.2.2.2.1).at.1 1, (M.out.2.2.2.2.2.1).at.1 2, (M.out.2.2.2.2.2.1).at.1 3, (M.out.2.2.2.2.2.1).at.1 4, (M.out.2.2.2.2.2.1).at.1 5, (M.out.2.2.2.2.2.1).at.1 6, (M.out.2.2.2.2.2.1).at.1 7, (M.out.2.2.2.2.1).at.1 0, (M.out.2.2.2.2.1).at.1 1, (M.out.2.2.2.2.1).at.1 2, (M.out.2.2.2.2.1).at.1 3, (M.out.2.2.2.2.1).at.1 4, (M.out.2.2.2.2.1).at.1 5, (M.out.2.2.2.2.1).at.1 6, (M.out.2.2.2.2.1).at.1 7, (M.out.2.2.2.1).at.1 0, (M.out.2.2.2.1).at.1 1, (M.out.2.2.2.1).at.1 2, (M.out.2.2.2.1).at.1 3, (M.out.1).at.1 0, (M.out.1).at.1 1, (M.out.1).at.1 2, (M.out.1).at.1 3, (M.out.1).at.1 4, (M.out.1).at.1 5, (M.out.1).at.1 6, (M.out.1).at.1 7⟩) (fun hH63 => ?_)
          clear hK K hH62
          (try simp only [Act.put, List.setIfInBounds_toArray, List.set_cons_zero, List.set_cons_succ])
          refine tk at16 ?_
          refine wpAnyH_ready (rs := [19]) (by kernel_rfl) (by simp) ?_
          refine AllReadyH.cons at19 (fun K hK => ?_) AllReadyH.nil
          go_simp
          refine (spInside_xf (G := G) (r := q19) (s := q20) (o1 := o5) (o2 := o6) (b_ := false) (Nat.le_trans hG (M.out.2.2.2.2.2.2.2).size) (H5.out.keep (M.out.2.2.2.2.2.2.2)) (H6.out.keep (M.out.2.2.2.2.2.2.2)) (few2_1 HC1.out) (few2_2 HC1.out) (M.out.2.1) (M.out.2.2.1) (Fz.mono Sq19.out (by omega)) (Fz.mono Sq20.out (by omega)) (by rw [Eq20.out, Eq19.out]; exact Rat.not_lt.1 HM1.out) (by rw [Eq20.out, Eq19.out]; rw [ins_meet (right_le HC3.out) (right_le HC4.out) HM1.out, HB6.out, HB7.out]; rfl)).mono ?_
          rintro e w24 ⟨rfl, hb⟩
          replace M := Lib.hid (Goes.go M.out hb)
          clear hb
          (try go_wp2_with fail)
          refine hK.out _ _ (⟨(M.out.2.2.2.2.2.2.1).at.1 0, (M.out.2.2.2.2.2.2.1).at.1 1, (M.out.2.2.2.2.2.2.1).at.1 2, (M.out.2.2.2.2.2.2.1).at.1 3, (M.out.2.2.2.2.2.2.1).at.1 4, (M.out.2.2.2.2.2.2.1).at.1 5, (M.out.2.2.2.2.2.2.1).at.1 6, (M.out.2.2.2.2.2.2.1).at.1 7, (M.out.2.2.2.2.2.1).at.1 0, (M.out.2.2.2.2.2.1).at.1 1, (M.out.2.2.2.2.2.1).at.1 2, (M.out.2.2.2.2.2.1).at.1 3, (M.out.2.2.2.2.2.1).at.1 4, (M.out.2.2.2.2.2.1).at.1 5, (M.out.2.2.2.2.2.1).at.1 6, (M.out.2.2.2.2.2.1).at.1 7, (M.out.2.2.2.2.1).at.1 0, (M.out.2.2.2.2.1).at.1 1, (M.out.2.2.2.2.1).at.1 2, (M.out.2.2.2.2.1).at.1 3, (M.out.2.2.2.2.1).at.1 4, (M.out.2.2.2.2.1).at.1 5, (M.out.2.2.2.2.1).at.1 6, (M.out.2.2.2.2.1).at.1 7, (M.out.2.2.2.1).at.1 0, (M.out.2.2.2.1).at.1 1, (M.out.2.2.2.1).at.1 2, (M.out.2.2.2.1).at.1 3, (M.out.1).at.1 0, (M.out.1).at.1 1, (M.out.1).at.1 2, (M.out.1).at.1 3, (M.out.1).at.1 4, (M.out.1).at.1 5, (M.out.1).at.1 6, (M.out.1).at.1 7⟩) (fun hH64 => ?_)
          clear hK K hH63
          (try simp only [Act.put, List.setIfInBounds_toArray, List.set_cons_zero, List.set_cons_succ])
          refine tk at20 ?_
          refine tk at21 ?_
          refine tk at22 ?_
          refine wpAnyH_done (by kernel_rfl) ?_ _
          clear hH64
          go_wp2_with fail
          go_ret
          exact ⟨rfl, (M.out.2.2.2.2.2.2.2)⟩
        | true =>
          go_wp2_with fail
          obtain ⟨w20, hv⟩ : ∃ w_ : World, w_ = w19.drew := ⟨_, rfl⟩
          replace M := Lib.hid (Goes.go M.out (hv ▸ below_drew _ : Below w19.heap.size w19 w20))
          refine wp_region_held_drew (S := (fun w' => w'.cell? ⟨B0, 0, none⟩ = some (u0) ∧ w'.cell? ⟨B0, 1, none⟩ = some (u1) ∧ w'.cell? ⟨B0, 2, none⟩ = some (u2) ∧ w'.cell? ⟨B0, 3, none⟩ = some (u3) ∧ w'.cell? ⟨B0, 4, none⟩ = some (u4) ∧ w'.cell? ⟨B0, 5, none⟩ = some (u5) ∧ w'.cell? ⟨B0, 6, none⟩ = some (u6) ∧ w'.cell? ⟨B0, 7, none⟩ = some (u7) ∧ w'.cell? ⟨B1, 0, none⟩ = some (v0) ∧ w'.cell? ⟨B1, 1, none⟩ = some (v1) ∧ w'.cell? ⟨B1, 2, none⟩ = some (v2) ∧ w'.cell? ⟨B1, 3, none⟩ = some (v3) ∧ w'.cell? ⟨B1, 4, none⟩ = some (v4) ∧ w'.cell? ⟨B1, 5, none⟩ = some (v5) ∧ w'.cell? ⟨B1, 6, none⟩ = some (v6) ∧ w'.cell? ⟨B1, 7, none⟩ = some (v7) ∧ w'.cell? ⟨B2, 0, none⟩ = some (y0) ∧ w'.cell? ⟨B2, 1, none⟩ = some (y1) ∧ w'.cell? ⟨B2, 2, none⟩ = some (y2) ∧ w'.cell? ⟨B2, 3, none⟩ = some (y3) ∧ w'.cell? ⟨B2, 4, none⟩ = some (y4) ∧ w'.cell? ⟨B2, 5, none⟩ = some (y5) ∧ w'.cell? ⟨B2, 6, none⟩ = some (y6) ∧ w'.cell? ⟨B2, 7, none⟩ = some (y7) ∧ w'.cell? ⟨B3, 0, none⟩ = some (e0) ∧ w'.cell? ⟨B3, 1, none⟩ = some (e1) ∧ w'.cell? ⟨B3, 2, none⟩ = some (e2) ∧ w'.cell? ⟨B3, 3, none⟩ = some (e3) ∧ w'.cell? ⟨B5, 0, none⟩ = some (x_11) ∧ w'.cell? ⟨B5, 1, none⟩ = some (x_12) ∧ w'.cell? ⟨B5, 2, none⟩ = some (x_13) ∧ w'.cell? ⟨B5, 3, none⟩ = some (x_14) ∧ w'.cell? ⟨B5, 4, none⟩ = some (x_15) ∧ w'.cell? ⟨B5, 5, none⟩ = some (x_16) ∧ w'.cell? ⟨B5, 6, none⟩ = some (x_17) ∧ w'.cell? ⟨B5, 7, none⟩ = some (x_18))) (by kernel_rfl) (by rw [← hv]; exact ⟨(M.out.2.2.2.2.2.2.1).at.1 0, (M.out.2.2.2.2.2.2.1).at.1 1, (M.out.2.2.2.2.2.2.1).at.1 2, (M.out.2.2.2.2.2.2.1).at.1 3, (M.out.2.2.2.2.2.2.1).at.1 4, (M.out.2.2.2.2.2.2.1).at.1 5, (M.out.2.2.2.2.2.2.1).at.1 6, (M.out.2.2.2.2.2.2.1).at.1 7, (M.out.2.2.2.2.2.1).at.1 0, (M.out.2.2.2.2.2.1).at.1 1, (M.out.2.2.2.2.2.1).at.1 2, (M.out.2.2.2.2.2.1).at.1 3, (M.out.2.2.2.2.2.1).at.1 4, (M.out.2.2.2.2.2.1).at.1 5, (M.out.2.2.2.2.2.1).at.1 6, (M.out.2.2.2.2.2.1).at.1 7, (M.out.2.2.2.2.1).at.1 0, (M.out.2.2.2.2.1).at.1 1, (M.out.2.2.2.2.1).at.1 2, (M.out.2.2.2.2.1).at.1 3, (M.out.2.2.2.2.1).at.1 4, (M.out.2.2.2.2.1).at.1 5, (M.out.2.2.2.2.1).at.1 6, (M.out.2.2.2.2.1).at.1 7, (M.out.2.2.2.1).at.1 0, (M.out.2.2.2.1).at.1 1, (M.out.2.2.2.1).at.1 2, (M.out.2.2.2.1).at.1 3, (M.out.1).at.1 0, (M.out.1).at.1 1, (M.out.1).at.1 2, (M.out.1).at.1 3, (M.out.1).at.1 4, (M.out.1).at.1 5, (M.out.1).at.1 6, (M.out.1).at.1 7⟩) (fun hH65 => ?_)
          rw [← hv] at hH65 ⊢
          clear hv
          refine tk at0 ?_
          refine tk at1 ?_
          refine tk at2 ?_
          refine tk at3 ?_
          refine tk at4 ?_
          refine wpAnyH_ready (rs := [5]) (by kernel_rfl) (by simp) ?_
          refine AllReadyH.cons at5 (fun K hK => ?_) AllReadyH.nil
          go_simp
          refine (spHas_fx (G := G) (p := q19) (q := q20) (o3 := o7) (b_ := true) (Nat.le_trans hG (M.out.2.2.2.2.2.2.2).size) (M.out.2.1) (M.out.2.2.1) (Fz.mono Sq19.out (by omega)) (Fz.mono Sq20.out (by omega)) (by rw [Eq20.out, Eq19.out]; exact Rat.not_lt.1 HM1.out) (H7.out.keep (M.out.2.2.2.2.2.2.2)) HC2.out (by rw [Eq20.out, Eq19.out]; rw [has_meet (right_le HC3.out) (right_le HC4.out) HM1.out, HB4.out, HB5.out]; rfl)).mono ?_
          rintro e w21 ⟨rfl, hb⟩
          replace M := Lib.hid (Goes.go M.out hb)
          clear hb
          (try go_wp2_with fail)
          refine hK.out _ _ (⟨(M.out.2.2.2.2.2.2.1).at.1 0, (M.out.2.2.2.2.2.2.1).at.1 1, (M.out.2.2.2.2.2.2.1).at.1 2, (M.out.2.2.2.2.2.2.1).at.1 3, (M.out.2.2.2.2.2.2.1).at.1 4, (M.out.2.2.2.2.2.2.1).at.1 5, (M.out.2.2.2.2.2.2.1).at.1 6, (M.out.2.2.2.2.2.2.1).at.1 7, (M.out.2.2.2.2.2.1).at.1 0, (M.out.2.2.2.2.2.1).at.1 1, (M.out.2.2.2.2.2.1).at.1 2, (M.out.2.2.2.2.2.1).at.1 3, (M.out.2.2.2.2.2.1).at.1 4, (M.out.2.2.2.2.2.1).at.1 5, (M.out.2.2.2.2.2.1).at.1 6, (M.out.2.2.2.2.2.1).at.1 7, (M.out.2.2.2.2.1).at.1 0, (M.out.2.2.2.2.1).at.1 1, (M.out.2.2.2.2.1).at.1 2, (M.out.2.2.2.2.1).at.1 3, (M.out.2.2.2.2.1).at.1 4, (M.out.2.2.2.2.1).at.1 5, (M.out.2.2.2.2.1).at.1 6, (M.out.2.2.2.2.1).at.1 7, (M.out.2.2.2.1).at.1 0, (M.out.2.2.2.1).at.1 1, (M.out.2.2.2.1).at.1 2, (M.out.2.2.2.1).at.1 3, (M.out.1).at.1 0, (M.out.1).at.1 1, (M.out.1).at.1 2, (M.out.1).at.1 3, (M.out.1).at.1 4, (M.out.1).at.1 5, (M.out.1).at.1 6, (M.out.1).at.1 7⟩) (fun hH66 => ?_)
          clear hK K hH65
          (try simp only [Act.put, List.setIfInBounds_toArray, List.set_cons_zero, List.set_cons_succ])
          refine tk at6 ?_
          refine tk at7 ?_
          refine tk at8 ?_
          refine tk at9 ?_
          refine tk at10 ?_
          refine tk at17 ?_
          refine tk at18 ?_
          refine wpAnyH_ready (rs := [11]) (by kernel_rfl) (by simp) ?_
          refine AllReadyH.cons at11 (fun K hK => ?_) AllReadyH.nil
          go_simp
          refine (spInside_xf (G := G) (r := p1) (s := p2) (o1 := o5) (o2 := o6) (b_ := true) (Nat.le_trans hG (M.out.2.2.2.2.2.2.2).size) (H5.out.keep (M.out.2.2.2.2.2.2.2)) (H6.out.keep (M.out.2.2.2.2.2.2.2)) (few2_1 HC1.out) (few2_2 HC1.out) (K1.out.keep (M.out.2.2.2.2.2.2.2)) (K2.out.keep (M.out.2.2.2.2.2.2.2)) (Fz.mono Z1.out (by omega)) (Fz.mono Z2.out (by omega)) (right_le HC3.out) HB6.out).mono ?_
          rintro e w22 ⟨rfl, hb⟩
          replace M := Lib.hid (Goes.go M.out hb)
          clear hb
          (try go_wp2_with fail)
          refine hK.out _ _ (⟨(M.out.2.2.2.2.2.2.1).at.1 0, (M.out.2.2.2.2.2.2.1).at.1 1, (M.out.2.2.2.2.2.2.1).at.1 2, (M.out.2.2.2.2.2.2.1).at.1 3, (M.out.2.2.2.2.2.2.1).at.1 4, (M.out.2.2.2.2.2.2.1).at.1 5, (M.out.2.2.2.2.2.2.1).at.1 6, (M.out.2.2.2.2.2.2.1).at.1 7, (M.out.2.2.2.2.2.1).at.1 0, (M.out.2.2.2.2.2.1).at.1 1, (M.out.2.2.2.2.2.1).at.1 2, (M.out.2.2.2.2.2.1).at.1 3, (M.out.2.2.2.2.2.1).at.1 4, (M.out.2.2.2.2.2.1).at.1 5, (M.out.2.2.2.2.2.1).at.1 6, (M.out.2.2.2.2.2.1).at.1 7, (M.out.2.2.2.2.1).at.1 0, (M.out.2.2.2.2.1).at.1 1, (M.out.2.2.2.2.1).at.1 2, (M.out.2.2.2.2.1).at.1 3, (M.out.2.2.2.2.1).at.1 4, (M.out.2.2.2.2.1).at.1 5, (M.out.2.2.2.2.1).at.1 6, (M.out.2.2.2.2.1).at.1 7, (M.out.2.2.2.1).at.1 0, (M.out.2.2.2.1).at.1 1, (M.out.2.2.2.1).at.1 2, (M.out.2.2.2.1).at.1 3, (M.out.1).at.1 0, (M.out.1).at.1 1, (M.out.1).at.1 2, (M.out.1).at.1 3, (M.out.1).at.1 4, (M.out.1).at.1 5, (M.out.1).at.1 6, (M.out.1).at.1 7⟩) (fun hH67 => ?_)
          clear hK K hH66
          (try simp only [Act.put, List.setIfInBounds_toArray, List.set_cons_zero, List.set_cons_succ])
          refine tk at12 ?_
          refine tk at13 ?_
          refine tk at14 ?_
          refine wpAnyH_ready (rs := [15]) (by kernel_rfl) (by simp) ?_
          refine AllReadyH.cons at15 (fun K hK => ?_) AllReadyH.nil
          go_simp
          refine (spInside_xf (G := G) (r := r1) (s := r2) (o1 := o5) (o2 := o6) (b_ := true) (Nat.le_trans hG (M.out.2.2.2.2.2.2.2).size) (H5.out.keep (M.out.2.2.2.2.2.2.2)) (H6.out.keep (M.out.2.2.2.2.2.2.2)) (few2_1 HC1.out) (few2_2 HC1.out) (K3.out.keep (M.out.2.2.2.2.2.2.2)) (K4.out.keep (M.out.2.2.2.2.2.2.2)) (Fz.mono Z3.out (by omega)) (Fz.mono Z4.out (by omega)) (right_le HC4.out) HB7.out).mono ?_
          rintro e w23 ⟨rfl, hb⟩
          replace M := Lib.hid (Goes.go M.out hb)
          clear hb
          (try go_wp2_with fail)
          refine hK.out _ _ (⟨(M.out.2.2.2.2.2.2.1).at.1 0, (M.out.2.2.2.2.2.2.1).at.1 1, (M.out.2.2.2.2.2.2.1).at.1 2, (M.out.2.2.2.2.2.2.1).at.1 3, (M.out.2.2.2.2.2.2.1).at.1 4, (M.out.2.2.2.2.2.2.1).at.1 5, (M.out.2.2.2.2.2.2.1).at.1 6, (M.out.2.2.2.2.2.2.1).at.1 7, (M.out.2.2.2.2.2.1).at.1 0, (M.out.2.2.2.2.2.1).at.1 1, (M.out.2.2.2.2.2.1).at.1 2, (M.out.2.2.2.2.2.1).at.1 3, (M.out.2.2.2.2.2.1).at.1 4, (M.out.2.2.2.2.2.1).at.1 5, (M.out.2.2.2.2.2.1).at.1 6, (M.out.2.2.2.2.2.1).at.1 7, (M.out.2.2.2.2.1).at.1 0, (M.out.2.2.2.2.1).at.1 1, (M.out.2.2.2.2.1).at.1 2, (M.out.2.2.2.2.1).at.1 3, (M.out.2.2.2.2.1).at.1 4, (M.out.2.2.2.2.1).at.1 5, (M.out.2.2.2.2.1).at.1 6, (M.out.2.2.2.2.1).at.1 7, (M.out.2.2.2.1).at.1 0, (M.out.2.2.2.1).at.1 1, (M.out.2.2.2.1).at.1 2, (M.out.2.2.2.1).at.1 3, (M.out.1).at.1 0, (M.out.1).at.1 1, (M.out.1).at.1 2, (M.out.1).at.1 3, (M.out.1).at.1 4, (M.out.1).at.1 5, (M.out.1).at.1 6, (M.out.1).at.1 7⟩) (fun hH68 => ?_)
          clear hK K hH67
          (try simp only [Act.put, List.setIfInBounds_toArray, List.set_cons_zero, List.set_cons_succ])
          refine tk at16 ?_
          refine wpAnyH_ready (rs := [19]) (by kernel_rfl) (by simp) ?_
          refine AllReadyH.cons at19 (fun K hK => ?_) AllReadyH.nil
          go_simp
          refine (spInside_xf (G := G) (r := q19) (s := q20) (o1 := o5) (o2 := o6) (b_ := true) (Nat.le_trans hG (M.out.2.2.2.2.2.2.2).size) (H5.out.keep (M.out.2.2.2.2.2.2.2)) (H6.out.keep (M.out.2.2.2.2.2.2.2)) (few2_1 HC1.out) (few2_2 HC1.out) (M.out.2.1) (M.out.2.2.1) (Fz.mono Sq19.out (by omega)) (Fz.mono Sq20.out (by omega)) (by rw [Eq20.out, Eq19.out]; exact Rat.not_lt.1 HM1.out) (by rw [Eq20.out, Eq19.out]; rw [ins_meet (right_le HC3.out) (right_le HC4.out) HM1.out, HB6.out, HB7.out]; rfl)).mono ?_
          rintro e w24 ⟨rfl, hb⟩
          replace M := Lib.hid (Goes.go M.out hb)
          clear hb
          (try go_wp2_with fail)
          refine hK.out _ _ (⟨(M.out.2.2.2.2.2.2.1).at.1 0, (M.out.2.2.2.2.2.2.1).at.1 1, (M.out.2.2.2.2.2.2.1).at.1 2, (M.out.2.2.2.2.2.2.1).at.1 3, (M.out.2.2.2.2.2.2.1).at.1 4, (M.out.2.2.2.2.2.2.1).at.1 5, (M.out.2.2.2.2.2.2.1).at.1 6, (M.out.2.2.2.2.2.2.1).at.1 7, (M.out.2.2.2.2.2.1).at.1 0, (M.out.2.2.2.2.2.1).at.1 1, (M.out.2.2.2.2.2.1).at.1 2, (M.out.2.2.2.2.2.1).at.1 3, (M.out.2.2.2.2.2.1).at.1 4, (M.out.2.2.2.2.2.1).at.1 5, (M.out.2.2.2.2.2.1).at.1 6, (M.out.2.2.2.2.2.1).at.1 7, (M.out.2.2.2.2.1).at.1 0, (M.out.2.2.2.2.1).at.1 1, (M.out.2.2.2.2.1).at.1 2, (M.out.2.2.2.2.1).at.1 3, (M.out.2.2.2.2.1).at.1 4, (M.out.2.2.2.2.1).at.1 5, (M.out.2.2.2.2.1).at.1 6, (M.out.2.2.2.2.1).at.1 7, (M.out.2.2.2.1).at.1 0, (M.out.2.2.2.1).at.1 1, (M.out.2.2.2.1).at.1 2, (M.out.2.2.2.1).at.1 3, (M.out.1).at.1 0, (M.out.1).at.1 1, (M.out.1).at.1 2, (M.out.1).at.1 3, (M.out.1).at.1 4, (M.out.1).at.1 5, (M.out.1).at.1 6, (M.out.1).at.1 7⟩) (fun hH69 => ?_)
          clear hK K hH68
          (try simp only [Act.put, List.setIfInBounds_toArray, List.set_cons_zero, List.set_cons_succ])
          refine tk at20 ?_
          refine tk at21 ?_
          refine tk at22 ?_
          refine wpAnyH_done (by kernel_rfl) ?_ _
          clear hH69
          go_wp2_with fail
          go_ret
          exact ⟨rfl, (M.out.2.2.2.2.2.2.2)⟩
set_option maxRecDepth 100000 in
set_option maxHeartbeats 4000000 in
theorem hull_s {u0 u1 u2 u3 u4 u5 u6 u7 v0 v1 v2 v3 v4 v5 v6 v7 y0 y1 y2 y3 y4 y5 y6 y7 e0 e1 e2 e3 : Value} {n1 m1 n2 m2 n3 m3 n4 m4 n5 m5 n6 m6 n7 m7 : Nat} {p1 p2 r1 r2 hl hh : Rat} {o5 o6 o7 : Option Rat} {bi b1 b2 b4 b5 b6 b7 : Bool} {w : World}  (hG : G ≤ w.heap.size) (Z1 : Hid (Fz p1 4)) (Z2 : Hid (Fz p2 4)) (Z3 : Hid (Fz r1 4)) (Z4 : Hid (Fz r2 4)) (HC0 : Hid (few4 n1 m1 n2 m2 n3 m3 n4 m4 = true)) (HC1 : Hid (few2 n5 m5 n6 m6 = true)) (HC2 : Hid (fewF n7 m7 = true)) (HC3 : Hid (rightX (some p1) (some p2) = true)) (HC4 : Hid (rightX (some r1) (some r2) = true)) (HH1 : Hid ((decide (hl ≤ p1) && decide (p2 ≤ hh)) = true)) (HH2 : Hid ((decide (hl ≤ r1) && decide (r2 ≤ hh)) = true)) (HHO : Hid (hl ≤ hh)) (HSa : Hid (Fz hl 4)) (HSb : Hid (Fz hh 4)) (HBI : Hid ((decide (r1 ≤ p1) && decide (p2 ≤ r2)) = bi)) (HBJ : Hid ((decide (hl = r1) && decide (hh = r2)) = bi)) (HHL : Hid (min4 p1 p2 r1 r2 = hl)) (HHH : Hid (max4 p1 p2 r1 r2 = hh)) (HM1 : Hid (¬ minQ p2 r2 < maxQ p1 r1)) (HB1 : Hid (insX (some p1) (some p2) o5 o6 = b1)) (HB2 : Hid (insX (some r1) (some r2) o5 o6 = b2)) (HHC : Hid (HullIn p1 p2 r1 r2 hl hh o5 o6)) (HB6 : Hid (insX o5 o6 (some p1) (some p2) = b6)) (HB7 : Hid (insX o5 o6 (some r1) (some r2) = b7)) (HB4 : Hid (hasX (some p1) (some p2) o7 = b4)) (HB5 : Hid (hasX (some r1) (some r2) o7 = b5)) (h1 : FX w u0 u1 u2 u3 n1 m1 (some p1)) (k1 : FQ G w u0 u1 u2 u3 p1) (h2 : FX w u4 u5 u6 u7 n2 m2 (some p2)) (k2 : FQ G w u4 u5 u6 u7 p2) (h3 : FX w v0 v1 v2 v3 n3 m3 (some r1)) (k3 : FQ G w v0 v1 v2 v3 r1) (h4 : FX w v4 v5 v6 v7 n4 m4 (some r2)) (k4 : FQ G w v4 v5 v6 v7 r2) (h5 : FX w y0 y1 y2 y3 n5 m5 o5) (h6 : FX w y4 y5 y6 y7 n6 m6 o6) (h7 : FX w e0 e1 e2 e3 n7 m7 o7)  :
    Calls Try.prog 5 #[.agg #[u0, u1, u2, u3, u4, u5, u6, u7], .agg #[v0, v1, v2, v3, v4, v5, v6, v7], .agg #[y0, y1, y2, y3, y4, y5, y6, y7], .agg #[e0, e1, e2, e3]] w fun e w' => e = .returned (.bool true) ∧ Below w.heap.size w w' := by
  have H1 : Hid (FX w u0 u1 u2 u3 n1 m1 (some p1)) := h1
  have K1 : Hid (FQ G w u0 u1 u2 u3 p1) := k1
  have H2 : Hid (FX w u4 u5 u6 u7 n2 m2 (some p2)) := h2
  have K2 : Hid (FQ G w u4 u5 u6 u7 p2) := k2
  have H3 : Hid (FX w v0 v1 v2 v3 n3 m3 (some r1)) := h3
  have K3 : Hid (FQ G w v0 v1 v2 v3 r1) := k3
  have H4 : Hid (FX w v4 v5 v6 v7 n4 m4 (some r2)) := h4
  have K4 : Hid (FQ G w v4 v5 v6 v7 r2) := k4
  have H5 : Hid (FX w y0 y1 y2 y3 n5 m5 o5) := h5
  have H6 : Hid (FX w y4 y5 y6 y7 n6 m6 o6) := h6
  have H7 : Hid (FX w e0 e1 e2 e3 n7 m7 o7) := h7
  clear h1 k1 h2 k2 h3 k3 h4 k4 h5 h6 h7
  have M : Hid (Below w.heap.size w w) := Below.refl _ _
  go_enter Try.func5, Try.ntmps5
  go_upto_region 1 with fail
  obtain ⟨w1, hv⟩ : ∃ w_ : World, w_ = ((((w.alloc (.cells #[u0, u1, u2, u3, u4, u5, u6, u7] 28)).alloc (.cells #[v0, v1, v2, v3, v4, v5, v6, v7] 28)).alloc (.cells #[y0, y1, y2, y3, y4, y5, y6, y7] 28)).alloc (.cells #[e0, e1, e2, e3] 26)) := ⟨_, rfl⟩
  rw [← hv]
  have hbx := bx4 w 28 28 28 26 #[u0, u1, u2, u3, u4, u5, u6, u7] #[v0, v1, v2, v3, v4, v5, v6, v7] #[y0, y1, y2, y3, y4, y5, y6, y7] #[e0, e1, e2, e3]
  rw [← hv] at hbx
  have hbn : Below w.heap.size w w1 := by rw [hv]; exact (Below.alloc (Below.alloc (Below.alloc (Below.alloc (Below.refl _ _) (by simp <;> omega) _) (by simp <;> omega) _) (by simp <;> omega) _) (by simp <;> omega) _)
  replace M := Lib.hid (And.intro hbx.2.2.2 (And.intro hbx.2.2.1 (And.intro hbx.2.1 (And.intro hbx.1 (Goes.go M.out hbn)))))
  clear hbx hbn
  clear hv
  go_wp2_with fail
  refine (spanSmall_ok (G := G) (Nat.le_trans hG (M.out.2.2.2.2).size)).mono ?_
  rintro e w2 ⟨rfl, hb⟩
  replace M := Lib.hid (Goes.go M.out hb)
  clear hb
  have y0 := (M.out.2.2.2.1).d8; have p0_0 := y0.1; have p0_1 := y0.2.1; have p0_2 := y0.2.2.1; have p0_3 := y0.2.2.2.1; have p0_4 := y0.2.2.2.2.1; have p0_5 := y0.2.2.2.2.2.1; have p0_6 := y0.2.2.2.2.2.2.1; have p0_7 := y0.2.2.2.2.2.2.2; clear y0
  have y1 := (M.out.2.2.1).d8; have p1_0 := y1.1; have p1_1 := y1.2.1; have p1_2 := y1.2.2.1; have p1_3 := y1.2.2.2.1; have p1_4 := y1.2.2.2.2.1; have p1_5 := y1.2.2.2.2.2.1; have p1_6 := y1.2.2.2.2.2.2.1; have p1_7 := y1.2.2.2.2.2.2.2; clear y1
  go_wp2_with fail
  clear p0_0 p0_1 p0_2 p0_3 p0_4 p0_5 p0_6 p0_7 p1_0 p1_1 p1_2 p1_3 p1_4 p1_5 p1_6 p1_7
  refine (few_s (o1 := (some p1)) (o2 := (some p2)) (o3 := (some r1)) (o4 := (some r2)) (b_ := true) (H1.out.keep (M.out.2.2.2.2)) (H2.out.keep (M.out.2.2.2.2)) (H3.out.keep (M.out.2.2.2.2)) (H4.out.keep (M.out.2.2.2.2)) HC0.out).mono ?_
  rintro e w3 ⟨rfl, hb⟩
  replace M := Lib.hid (Goes.go M.out hb)
  clear hb
  have y2 := (M.out.2.1).d8; have p2_0 := y2.1; have p2_1 := y2.2.1; have p2_2 := y2.2.2.1; have p2_3 := y2.2.2.2.1; have p2_4 := y2.2.2.2.2.1; have p2_5 := y2.2.2.2.2.2.1; have p2_6 := y2.2.2.2.2.2.2.1; have p2_7 := y2.2.2.2.2.2.2.2; clear y2
  go_wp2_with fail
  clear p2_0 p2_1 p2_2 p2_3 p2_4 p2_5 p2_6 p2_7
  refine (rFew_s (o1 := o5) (o2 := o6) (b_ := true) (H5.out.keep (M.out.2.2.2.2)) (H6.out.keep (M.out.2.2.2.2)) HC1.out).mono ?_
  rintro e w4 ⟨rfl, hb⟩
  replace M := Lib.hid (Goes.go M.out hb)
  clear hb
  have y3 := (M.out.1).d4; have p3_0 := y3.1; have p3_1 := y3.2.1; have p3_2 := y3.2.2.1; have p3_3 := y3.2.2.2; clear y3
  go_wp2_with fail
  clear p3_0 p3_1 p3_2 p3_3
  refine (fxFew_ok (o := o7) (k := 4) (r := true) (H7.out.keep (M.out.2.2.2.2)) HC2.out).mono ?_
  rintro e w5 ⟨rfl, hb⟩
  replace M := Lib.hid (Goes.go M.out hb)
  clear hb
  have y0 := (M.out.2.2.2.1).d8; have p0_0 := y0.1; have p0_1 := y0.2.1; have p0_2 := y0.2.2.1; have p0_3 := y0.2.2.2.1; have p0_4 := y0.2.2.2.2.1; have p0_5 := y0.2.2.2.2.2.1; have p0_6 := y0.2.2.2.2.2.2.1; have p0_7 := y0.2.2.2.2.2.2.2; clear y0
  go_wp2_with fail
  clear p0_0 p0_1 p0_2 p0_3 p0_4 p0_5 p0_6 p0_7
  refine (spRight_x (o1 := (some p1)) (o2 := (some p2)) (b_ := true) (H1.out.keep (M.out.2.2.2.2)) (H2.out.keep (M.out.2.2.2.2)) (few4_1 HC0.out) (few4_2 HC0.out) HC3.out).mono ?_
  rintro e w6 ⟨rfl, hb⟩
  replace M := Lib.hid (Goes.go M.out hb)
  clear hb
  have y1 := (M.out.2.2.1).d8; have p1_0 := y1.1; have p1_1 := y1.2.1; have p1_2 := y1.2.2.1; have p1_3 := y1.2.2.2.1; have p1_4 := y1.2.2.2.2.1; have p1_5 := y1.2.2.2.2.2.1; have p1_6 := y1.2.2.2.2.2.2.1; have p1_7 := y1.2.2.2.2.2.2.2; clear y1
  go_wp2_with fail
  clear p1_0 p1_1 p1_2 p1_3 p1_4 p1_5 p1_6 p1_7
  refine (spRight_x (o1 := (some r1)) (o2 := (some r2)) (b_ := true) (H3.out.keep (M.out.2.2.2.2)) (H4.out.keep (M.out.2.2.2.2)) (few4_3 HC0.out) (few4_4 HC0.out) HC4.out).mono ?_
  rintro e w7 ⟨rfl, hb⟩
  replace M := Lib.hid (Goes.go M.out hb)
  clear hb
  have y0 := (M.out.2.2.2.1).d8; have p0_0 := y0.1; have p0_1 := y0.2.1; have p0_2 := y0.2.2.1; have p0_3 := y0.2.2.2.1; have p0_4 := y0.2.2.2.2.1; have p0_5 := y0.2.2.2.2.2.1; have p0_6 := y0.2.2.2.2.2.2.1; have p0_7 := y0.2.2.2.2.2.2.2; clear y0
  have y1 := (M.out.2.2.1).d8; have p1_0 := y1.1; have p1_1 := y1.2.1; have p1_2 := y1.2.2.1; have p1_3 := y1.2.2.2.1; have p1_4 := y1.2.2.2.2.1; have p1_5 := y1.2.2.2.2.2.1; have p1_6 := y1.2.2.2.2.2.2.1; have p1_7 := y1.2.2.2.2.2.2.2; clear y1
  go_wp2_with fail
  clear p0_0 p0_1 p0_2 p0_3 p0_4 p0_5 p0_6 p0_7 p1_0 p1_1 p1_2 p1_3 p1_4 p1_5 p1_6 p1_7
  refine (spHull_q (G := G) (p := p1) (q := p2) (r := r1) (s := r2) (lo := hl) (hi := hh) (Nat.le_trans hG (M.out.2.2.2.2).size) (K1.out.keep (M.out.2.2.2.2)) (K2.out.keep (M.out.2.2.2.2)) (K3.out.keep (M.out.2.2.2.2)) (K4.out.keep (M.out.2.2.2.2)) (Fz.mono Z1.out (by omega)) (Fz.mono Z2.out (by omega)) (Fz.mono Z3.out (by omega)) (Fz.mono Z4.out (by omega)) (right_le HC3.out) (right_le HC4.out) HHL.out HHH.out).mono ?_
  rintro e w8 ⟨x_1, x_2, x_3, x_4, x_5, x_6, x_7, x_8, rfl, hd9, hd10, hb⟩
  replace M := Lib.hid (And.intro hd9 (And.intro hd10 (Goes.go M.out hb)))
  clear hb hd9 hd10
  have ys_x_1 := TQ.st (M.out.1); have st_x_1 := ys_x_1.1; have st_x_2 := ys_x_1.2.1; have st_x_3 := ys_x_1.2.2.1; have st_x_4 := ys_x_1.2.2.2; clear ys_x_1
  have ys_x_5 := TQ.st (M.out.2.1); have st_x_5 := ys_x_5.1; have st_x_6 := ys_x_5.2.1; have st_x_7 := ys_x_5.2.2.1; have st_x_8 := ys_x_5.2.2.2; clear ys_x_5
  go_upto_region 5 with fail
  clear st_x_1 st_x_2 st_x_3 st_x_4 st_x_5 st_x_6 st_x_7 st_x_8
  obtain ⟨w9, hv⟩ : ∃ w_ : World, w_ = (w8.alloc (.cells #[x_1, x_2, x_3, x_4, x_5, x_6, x_7, x_8] 28)) := ⟨_, rfl⟩
  rw [← hv]
  have ow4_ : w.heap.size + 1 + 1 + 1 < w8.heap.size := ((M.out.2.2.1)).lt
  replace M := Lib.hid (And.intro (hv ▸ bx1 w8 28 #[x_1, x_2, x_3, x_4, x_5, x_6, x_7, x_8]) (Goes.go M.out (hv ▸ below_alloc _ _ : Below w8.heap.size w8 w9)))
  clear hv
  have y0 := (M.out.2.2.2.2.2.2.1).d8; have p0_0 := y0.1; have p0_1 := y0.2.1; have p0_2 := y0.2.2.1; have p0_3 := y0.2.2.2.1; have p0_4 := y0.2.2.2.2.1; have p0_5 := y0.2.2.2.2.2.1; have p0_6 := y0.2.2.2.2.2.2.1; have p0_7 := y0.2.2.2.2.2.2.2; clear y0
  have y1 := (M.out.2.2.2.2.2.1).d8; have p1_0 := y1.1; have p1_1 := y1.2.1; have p1_2 := y1.2.2.1; have p1_3 := y1.2.2.2.1; have p1_4 := y1.2.2.2.2.1; have p1_5 := y1.2.2.2.2.2.1; have p1_6 := y1.2.2.2.2.2.2.1; have p1_7 := y1.2.2.2.2.2.2.2; clear y1
  go_wp2_with fail
  clear p0_0 p0_1 p0_2 p0_3 p0_4 p0_5 p0_6 p0_7 p1_0 p1_1 p1_2 p1_3 p1_4 p1_5 p1_6 p1_7
  obtain ⟨q19, eq19⟩ : ∃ v_ : Rat, v_ = (maxQ p1 r1) := ⟨_, rfl⟩
  obtain ⟨q20, eq20⟩ : ∃ v_ : Rat, v_ = (minQ p2 r2) := ⟨_, rfl⟩
  refine (spMeet_q (G := G) (p := p1) (q := p2) (r := r1) (s := r2) (Nat.le_trans hG (M.out.2.2.2.2.2.2.2).size) (K1.out.keep (M.out.2.2.2.2.2.2.2)) (K2.out.keep (M.out.2.2.2.2.2.2.2)) (K3.out.keep (M.out.2.2.2.2.2.2.2)) (K4.out.keep (M.out.2.2.2.2.2.2.2)) (Fz.mono Z1.out (by omega)) (Fz.mono Z2.out (by omega)) (Fz.mono Z3.out (by omega)) (Fz.mono Z4.out (by omega)) (right_le HC3.out) (right_le HC4.out) HM1.out).mono ?_
  rintro e w10 ⟨x_11, x_12, x_13, x_14, x_15, x_16, x_17, x_18, rfl, hd21, hd22, hb⟩
  rw [← eq19] at hd21
  have Sq19 : Hid (Fz q19 4) := by show Fz q19 4; rw [eq19]; exact (Fz.maxQ Z1.out Z3.out)
  have Eq19 := Lib.hid eq19; clear eq19
  rw [← eq20] at hd22
  have Sq20 : Hid (Fz q20 4) := by show Fz q20 4; rw [eq20]; exact (Fz.minQ Z2.out Z4.out)
  have Eq20 := Lib.hid eq20; clear eq20
  replace M := Lib.hid (And.intro hd21 (And.intro hd22 (Goes.go M.out hb)))
  clear hb hd21 hd22
  have ys_x_11 := TQ.st (M.out.1); have st_x_11 := ys_x_11.1; have st_x_12 := ys_x_11.2.1; have st_x_13 := ys_x_11.2.2.1; have st_x_14 := ys_x_11.2.2.2; clear ys_x_11
  have ys_x_15 := TQ.st (M.out.2.1); have st_x_15 := ys_x_15.1; have st_x_16 := ys_x_15.2.1; have st_x_17 := ys_x_15.2.2.1; have st_x_18 := ys_x_15.2.2.2; clear ys_x_15
  go_wp2_with fail
  clear st_x_11 st_x_12 st_x_13 st_x_14 st_x_15 st_x_16 st_x_17 st_x_18
  obtain ⟨w11, hv⟩ : ∃ w_ : World, w_ = (w10.alloc (.cells #[x_11, x_12, x_13, x_14, x_15, x_16, x_17, x_18] 28)) := ⟨_, rfl⟩
  rw [← hv]
  have ow5_ : w8.heap.size < w10.heap.size := ((M.out.2.2.1)).lt
  replace M := Lib.hid (And.intro (hv ▸ bx1 w10 28 #[x_11, x_12, x_13, x_14, x_15, x_16, x_17, x_18]) (Goes.go M.out (hv ▸ below_alloc _ _ : Below w10.heap.size w10 w11)))
  clear hv
  obtain ⟨w12, hv⟩ : ∃ w_ : World, w_ = w11.drew := ⟨_, rfl⟩
  replace M := Lib.hid (Goes.go M.out (hv ▸ below_drew _ : Below w11.heap.size w11 w12))
  refine wp_region_held_drew (S := (fun w' => w'.cell? ⟨w.heap.size, 0, none⟩ = some (u0) ∧ w'.cell? ⟨w.heap.size, 1, none⟩ = some (u1) ∧ w'.cell? ⟨w.heap.size, 2, none⟩ = some (u2) ∧ w'.cell? ⟨w.heap.size, 3, none⟩ = some (u3) ∧ w'.cell? ⟨w.heap.size, 4, none⟩ = some (u4) ∧ w'.cell? ⟨w.heap.size, 5, none⟩ = some (u5) ∧ w'.cell? ⟨w.heap.size, 6, none⟩ = some (u6) ∧ w'.cell? ⟨w.heap.size, 7, none⟩ = some (u7) ∧ w'.cell? ⟨w.heap.size + 1, 0, none⟩ = some (v0) ∧ w'.cell? ⟨w.heap.size + 1, 1, none⟩ = some (v1) ∧ w'.cell? ⟨w.heap.size + 1, 2, none⟩ = some (v2) ∧ w'.cell? ⟨w.heap.size + 1, 3, none⟩ = some (v3) ∧ w'.cell? ⟨w.heap.size + 1, 4, none⟩ = some (v4) ∧ w'.cell? ⟨w.heap.size + 1, 5, none⟩ = some (v5) ∧ w'.cell? ⟨w.heap.size + 1, 6, none⟩ = some (v6) ∧ w'.cell? ⟨w.heap.size + 1, 7, none⟩ = some (v7) ∧ w'.cell? ⟨w8.heap.size, 0, none⟩ = some (x_1) ∧ w'.cell? ⟨w8.heap.size, 1, none⟩ = some (x_2) ∧ w'.cell? ⟨w8.heap.size, 2, none⟩ = some (x_3) ∧ w'.cell? ⟨w8.heap.size, 3, none⟩ = some (x_4) ∧ w'.cell? ⟨w8.heap.size, 4, none⟩ = some (x_5) ∧ w'.cell? ⟨w8.heap.size, 5, none⟩ = some (x_6) ∧ w'.cell? ⟨w8.heap.size, 6, none⟩ = some (x_7) ∧ w'.cell? ⟨w8.heap.size, 7, none⟩ = some (x_8))) (by kernel_rfl) (by rw [← hv]; exact ⟨(M.out.2.2.2.2.2.2.2.2.2.1).at.1 0, (M.out.2.2.2.2.2.2.2.2.2.1).at.1 1, (M.out.2.2.2.2.2.2.2.2.2.1).at.1 2, (M.out.2.2.2.2.2.2.2.2.2.1).at.1 3, (M.out.2.2.2.2.2.2.2.2.2.1).at.1 4, (M.out.2.2.2.2.2.2.2.2.2.1).at.1 5, (M.out.2.2.2.2.2.2.2.2.2.1).at.1 6, (M.out.2.2.2.2.2.2.2.2.2.1).at.1 7, (M.out.2.2.2.2.2.2.2.2.1).at.1 0, (M.out.2.2.2.2.2.2.2.2.1).at.1 1, (M.out.2.2.2.2.2.2.2.2.1).at.1 2, (M.out.2.2.2.2.2.2.2.2.1).at.1 3, (M.out.2.2.2.2.2.2.2.2.1).at.1 4, (M.out.2.2.2.2.2.2.2.2.1).at.1 5, (M.out.2.2.2.2.2.2.2.2.1).at.1 6, (M.out.2.2.2.2.2.2.2.2.1).at.1 7, (M.out.2.2.2.1).at.1 0, (M.out.2.2.2.1).at.1 1, (M.out.2.2.2.1).at.1 2, (M.out.2.2.2.1).at.1 3, (M.out.2.2.2.1).at.1 4, (M.out.2.2.2.1).at.1 5, (M.out.2.2.2.1).at.1 6, (M.out.2.2.2.1).at.1 7⟩) (fun hH23 => ?_)
  rw [← hv] at hH23 ⊢
  clear hv
  refine tk at0 ?_
  refine tk at1 ?_
  refine tk at2 ?_
  refine tk at3 ?_
  refine tk at4 ?_
  refine wpAnyH_ready (rs := [5]) (by kernel_rfl) (by simp) ?_
  refine AllReadyH.cons at5 (fun K hK => ?_) AllReadyH.nil
  go_simp
  refine (spInside_q (G := G) (p := p1) (q := p2) (r := hl) (s := hh) (b_ := true) (Nat.le_trans hG (M.out.2.2.2.2.2.2.2.2.2.2).size) (K1.out.keep (M.out.2.2.2.2.2.2.2.2.2.2)) (K2.out.keep (M.out.2.2.2.2.2.2.2.2.2.2)) (M.out.2.2.2.2.1) (M.out.2.2.2.2.2.1) (Fz.mono Z1.out (by omega)) (Fz.mono Z2.out (by omega)) (Fz.mono HSa.out (by omega)) (Fz.mono HSb.out (by omega)) (right_le HC3.out) HHO.out HH1.out).mono ?_
  rintro e w13 ⟨rfl, hb⟩
  replace M := Lib.hid (Goes.go M.out hb)
  clear hb
  (try go_wp2_with fail)
  refine hK.out _ _ (⟨(M.out.2.2.2.2.2.2.2.2.2.1).at.1 0, (M.out.2.2.2.2.2.2.2.2.2.1).at.1 1, (M.out.2.2.2.2.2.2.2.2.2.1).at.1 2, (M.out.2.2.2.2.2.2.2.2.2.1).at.1 3, (M.out.2.2.2.2.2.2.2.2.2.1).at.1 4, (M.out.2.2.2.2.2.2.2.2.2.1).at.1 5, (M.out.2.2.2.2.2.2.2.2.2.1).at.1 6, (M.out.2.2.2.2.2.2.2.2.2.1).at.1 7, (M.out.2.2.2.2.2.2.2.2.1).at.1 0, (M.out.2.2.2.2.2.2.2.2.1).at.1 1, (M.out.2.2.2.2.2.2.2.2.1).at.1 2, (M.out.2.2.2.2.2.2.2.2.1).at.1 3, (M.out.2.2.2.2.2.2.2.2.1).at.1 4, (M.out.2.2.2.2.2.2.2.2.1).at.1 5, (M.out.2.2.2.2.2.2.2.2.1).at.1 6, (M.out.2.2.2.2.2.2.2.2.1).at.1 7, (M.out.2.2.2.1).at.1 0, (M.out.2.2.2.1).at.1 1, (M.out.2.2.2.1).at.1 2, (M.out.2.2.2.1).at.1 3, (M.out.2.2.2.1).at.1 4, (M.out.2.2.2.1).at.1 5, (M.out.2.2.2.1).at.1 6, (M.out.2.2.2.1).at.1 7⟩) (fun hH24 => ?_)
  clear hK K hH23
  (try simp only [Act.put, List.setIfInBounds_toArray, List.set_cons_zero, List.set_cons_succ])
  refine tk at6 ?_
  refine tk at7 ?_
  refine tk at8 ?_
  refine tk at9 ?_
  refine tk at10 ?_
  refine wpAnyH_ready (rs := [11]) (by kernel_rfl) (by simp) ?_
  refine AllReadyH.cons at11 (fun K hK => ?_) AllReadyH.nil
  go_simp
  refine (spInside_q (G := G) (p := r1) (q := r2) (r := hl) (s := hh) (b_ := true) (Nat.le_trans hG (M.out.2.2.2.2.2.2.2.2.2.2).size) (K3.out.keep (M.out.2.2.2.2.2.2.2.2.2.2)) (K4.out.keep (M.out.2.2.2.2.2.2.2.2.2.2)) (M.out.2.2.2.2.1) (M.out.2.2.2.2.2.1) (Fz.mono Z3.out (by omega)) (Fz.mono Z4.out (by omega)) (Fz.mono HSa.out (by omega)) (Fz.mono HSb.out (by omega)) (right_le HC4.out) HHO.out HH2.out).mono ?_
  rintro e w14 ⟨rfl, hb⟩
  replace M := Lib.hid (Goes.go M.out hb)
  clear hb
  (try go_wp2_with fail)
  refine hK.out _ _ (⟨(M.out.2.2.2.2.2.2.2.2.2.1).at.1 0, (M.out.2.2.2.2.2.2.2.2.2.1).at.1 1, (M.out.2.2.2.2.2.2.2.2.2.1).at.1 2, (M.out.2.2.2.2.2.2.2.2.2.1).at.1 3, (M.out.2.2.2.2.2.2.2.2.2.1).at.1 4, (M.out.2.2.2.2.2.2.2.2.2.1).at.1 5, (M.out.2.2.2.2.2.2.2.2.2.1).at.1 6, (M.out.2.2.2.2.2.2.2.2.2.1).at.1 7, (M.out.2.2.2.2.2.2.2.2.1).at.1 0, (M.out.2.2.2.2.2.2.2.2.1).at.1 1, (M.out.2.2.2.2.2.2.2.2.1).at.1 2, (M.out.2.2.2.2.2.2.2.2.1).at.1 3, (M.out.2.2.2.2.2.2.2.2.1).at.1 4, (M.out.2.2.2.2.2.2.2.2.1).at.1 5, (M.out.2.2.2.2.2.2.2.2.1).at.1 6, (M.out.2.2.2.2.2.2.2.2.1).at.1 7, (M.out.2.2.2.1).at.1 0, (M.out.2.2.2.1).at.1 1, (M.out.2.2.2.1).at.1 2, (M.out.2.2.2.1).at.1 3, (M.out.2.2.2.1).at.1 4, (M.out.2.2.2.1).at.1 5, (M.out.2.2.2.1).at.1 6, (M.out.2.2.2.1).at.1 7⟩) (fun hH25 => ?_)
  clear hK K hH24
  (try simp only [Act.put, List.setIfInBounds_toArray, List.set_cons_zero, List.set_cons_succ])
  refine tk at12 ?_
  refine tk at13 ?_
  refine tk at14 ?_
  refine tk at15 ?_
  refine tk at16 ?_
  refine tk at18 ?_
  refine tk at19 ?_
  refine wpAnyH_ready (rs := [17]) (by kernel_rfl) (by simp) ?_
  refine AllReadyH.cons at17 (fun K hK => ?_) AllReadyH.nil
  go_simp
  refine (spInside_q (G := G) (p := p1) (q := p2) (r := r1) (s := r2) (b_ := bi) (Nat.le_trans hG (M.out.2.2.2.2.2.2.2.2.2.2).size) (K1.out.keep (M.out.2.2.2.2.2.2.2.2.2.2)) (K2.out.keep (M.out.2.2.2.2.2.2.2.2.2.2)) (K3.out.keep (M.out.2.2.2.2.2.2.2.2.2.2)) (K4.out.keep (M.out.2.2.2.2.2.2.2.2.2.2)) (Fz.mono Z1.out (by omega)) (Fz.mono Z2.out (by omega)) (Fz.mono Z3.out (by omega)) (Fz.mono Z4.out (by omega)) (right_le HC3.out) (right_le HC4.out) HBI.out).mono ?_
  rintro e w15 ⟨rfl, hb⟩
  replace M := Lib.hid (Goes.go M.out hb)
  clear hb
  (try go_wp2_with fail)
  refine hK.out _ _ (⟨(M.out.2.2.2.2.2.2.2.2.2.1).at.1 0, (M.out.2.2.2.2.2.2.2.2.2.1).at.1 1, (M.out.2.2.2.2.2.2.2.2.2.1).at.1 2, (M.out.2.2.2.2.2.2.2.2.2.1).at.1 3, (M.out.2.2.2.2.2.2.2.2.2.1).at.1 4, (M.out.2.2.2.2.2.2.2.2.2.1).at.1 5, (M.out.2.2.2.2.2.2.2.2.2.1).at.1 6, (M.out.2.2.2.2.2.2.2.2.2.1).at.1 7, (M.out.2.2.2.2.2.2.2.2.1).at.1 0, (M.out.2.2.2.2.2.2.2.2.1).at.1 1, (M.out.2.2.2.2.2.2.2.2.1).at.1 2, (M.out.2.2.2.2.2.2.2.2.1).at.1 3, (M.out.2.2.2.2.2.2.2.2.1).at.1 4, (M.out.2.2.2.2.2.2.2.2.1).at.1 5, (M.out.2.2.2.2.2.2.2.2.1).at.1 6, (M.out.2.2.2.2.2.2.2.2.1).at.1 7, (M.out.2.2.2.1).at.1 0, (M.out.2.2.2.1).at.1 1, (M.out.2.2.2.1).at.1 2, (M.out.2.2.2.1).at.1 3, (M.out.2.2.2.1).at.1 4, (M.out.2.2.2.1).at.1 5, (M.out.2.2.2.1).at.1 6, (M.out.2.2.2.1).at.1 7⟩) (fun hH26 => ?_)
  clear hK K hH25
  (try simp only [Act.put, List.setIfInBounds_toArray, List.set_cons_zero, List.set_cons_succ])
  refine wpAnyH_ready (rs := [20]) (by kernel_rfl) (by simp) ?_
  refine AllReadyH.cons at20 (fun K hK => ?_) AllReadyH.nil
  go_simp
  refine (spSame_b (G := G) (p := hl) (q := hh) (r := r1) (s := r2) (b_ := bi) (M.out.2.2.2.2.1) (M.out.2.2.2.2.2.1) (K3.out.keep (M.out.2.2.2.2.2.2.2.2.2.2)) (K4.out.keep (M.out.2.2.2.2.2.2.2.2.2.2)) (Fz.mono HSa.out (by omega)) (Fz.mono HSb.out (by omega)) (Fz.mono Z3.out (by omega)) (Fz.mono Z4.out (by omega)) HBJ.out).mono ?_
  rintro e w16 ⟨rfl, hb⟩
  replace M := Lib.hid (Goes.go M.out hb)
  clear hb
  (try go_wp2_with fail)
  refine hK.out _ _ (⟨(M.out.2.2.2.2.2.2.2.2.2.1).at.1 0, (M.out.2.2.2.2.2.2.2.2.2.1).at.1 1, (M.out.2.2.2.2.2.2.2.2.2.1).at.1 2, (M.out.2.2.2.2.2.2.2.2.2.1).at.1 3, (M.out.2.2.2.2.2.2.2.2.2.1).at.1 4, (M.out.2.2.2.2.2.2.2.2.2.1).at.1 5, (M.out.2.2.2.2.2.2.2.2.2.1).at.1 6, (M.out.2.2.2.2.2.2.2.2.2.1).at.1 7, (M.out.2.2.2.2.2.2.2.2.1).at.1 0, (M.out.2.2.2.2.2.2.2.2.1).at.1 1, (M.out.2.2.2.2.2.2.2.2.1).at.1 2, (M.out.2.2.2.2.2.2.2.2.1).at.1 3, (M.out.2.2.2.2.2.2.2.2.1).at.1 4, (M.out.2.2.2.2.2.2.2.2.1).at.1 5, (M.out.2.2.2.2.2.2.2.2.1).at.1 6, (M.out.2.2.2.2.2.2.2.2.1).at.1 7, (M.out.2.2.2.1).at.1 0, (M.out.2.2.2.1).at.1 1, (M.out.2.2.2.1).at.1 2, (M.out.2.2.2.1).at.1 3, (M.out.2.2.2.1).at.1 4, (M.out.2.2.2.1).at.1 5, (M.out.2.2.2.1).at.1 6, (M.out.2.2.2.1).at.1 7⟩) (fun hH27 => ?_)
  clear hK K hH26
  (try simp only [Act.put, List.setIfInBounds_toArray, List.set_cons_zero, List.set_cons_succ])
  refine tk at21 ?_
  refine tk at22 ?_
  refine wpAnyH_done (by kernel_rfl) ?_ _
  clear hH27
  have y0 := (M.out.2.2.2.2.2.2.2.2.2.1).d8; have p0_0 := y0.1; have p0_1 := y0.2.1; have p0_2 := y0.2.2.1; have p0_3 := y0.2.2.2.1; have p0_4 := y0.2.2.2.2.1; have p0_5 := y0.2.2.2.2.2.1; have p0_6 := y0.2.2.2.2.2.2.1; have p0_7 := y0.2.2.2.2.2.2.2; clear y0
  have y2 := (M.out.2.2.2.2.2.2.2.1).d8; have p2_0 := y2.1; have p2_1 := y2.2.1; have p2_2 := y2.2.2.1; have p2_3 := y2.2.2.2.1; have p2_4 := y2.2.2.2.2.1; have p2_5 := y2.2.2.2.2.2.1; have p2_6 := y2.2.2.2.2.2.2.1; have p2_7 := y2.2.2.2.2.2.2.2; clear y2
  go_wp2_with fail
  clear p0_0 p0_1 p0_2 p0_3 p0_4 p0_5 p0_6 p0_7 p2_0 p2_1 p2_2 p2_3 p2_4 p2_5 p2_6 p2_7
  refine (spInside_fx (G := G) (p := p1) (q := p2) (o3 := o5) (o4 := o6) (b_ := b1) (Nat.le_trans hG (M.out.2.2.2.2.2.2.2.2.2.2).size) (K1.out.keep (M.out.2.2.2.2.2.2.2.2.2.2)) (K2.out.keep (M.out.2.2.2.2.2.2.2.2.2.2)) (Fz.mono Z1.out (by omega)) (Fz.mono Z2.out (by omega)) (right_le HC3.out) (H5.out.keep (M.out.2.2.2.2.2.2.2.2.2.2)) (H6.out.keep (M.out.2.2.2.2.2.2.2.2.2.2)) (few2_1 HC1.out) (few2_2 HC1.out) HB1.out).mono ?_
  rintro e w17 ⟨rfl, hb⟩
  replace M := Lib.hid (Goes.go M.out hb)
  clear hb
  cases b1 with
  | false =>
    go_upto_region 10 with fail
    replace M := Lib.hid (And.intro (M.out.1) (And.intro (M.out.2.1) (And.intro (M.out.2.2.1) (And.intro (M.out.2.2.2.2.2.2.1) (And.intro (M.out.2.2.2.2.2.2.2.1) (And.intro (M.out.2.2.2.2.2.2.2.2.1) (And.intro (M.out.2.2.2.2.2.2.2.2.2.1) (M.out.2.2.2.2.2.2.2.2.2.2))))))))
    rename_i Kst_ hst_
    exact hull_s_s10 hG Z1 Z2 Z3 Z4 HC0 HC1 HC2 HC3 HC4 HH1 HH2 HHO HSa HSb HBI HBJ HHL HHH HM1 HB6 HB7 HB4 HB5 H1 K1 H2 K2 H3 K3 H4 K4 H5 H6 H7 Eq19 Sq19 Eq20 Sq20 (by omega) (by omega) (by omega) (by omega) (by omega) M Kst_ hst_
  | true =>
    have y1 := (M.out.2.2.2.2.2.2.2.2.1).d8; have p1_0 := y1.1; have p1_1 := y1.2.1; have p1_2 := y1.2.2.1; have p1_3 := y1.2.2.2.1; have p1_4 := y1.2.2.2.2.1; have p1_5 := y1.2.2.2.2.2.1; have p1_6 := y1.2.2.2.2.2.2.1; have p1_7 := y1.2.2.2.2.2.2.2; clear y1
    have y2 := (M.out.2.2.2.2.2.2.2.1).d8; have p2_0 := y2.1; have p2_1 := y2.2.1; have p2_2 := y2.2.2.1; have p2_3 := y2.2.2.2.1; have p2_4 := y2.2.2.2.2.1; have p2_5 := y2.2.2.2.2.2.1; have p2_6 := y2.2.2.2.2.2.2.1; have p2_7 := y2.2.2.2.2.2.2.2; clear y2
    go_wp2_with fail
    clear p1_0 p1_1 p1_2 p1_3 p1_4 p1_5 p1_6 p1_7 p2_0 p2_1 p2_2 p2_3 p2_4 p2_5 p2_6 p2_7
    refine (spInside_fx (G := G) (p := r1) (q := r2) (o3 := o5) (o4 := o6) (b_ := b2) (Nat.le_trans hG (M.out.2.2.2.2.2.2.2.2.2.2).size) (K3.out.keep (M.out.2.2.2.2.2.2.2.2.2.2)) (K4.out.keep (M.out.2.2.2.2.2.2.2.2.2.2)) (Fz.mono Z3.out (by omega)) (Fz.mono Z4.out (by omega)) (right_le HC4.out) (H5.out.keep (M.out.2.2.2.2.2.2.2.2.2.2)) (H6.out.keep (M.out.2.2.2.2.2.2.2.2.2.2)) (few2_1 HC1.out) (few2_2 HC1.out) HB2.out).mono ?_
    rintro e w18 ⟨rfl, hb⟩
    replace M := Lib.hid (Goes.go M.out hb)
    clear hb
    cases b2 with
    | false =>
      go_upto_region 10 with fail
      replace M := Lib.hid (And.intro (M.out.1) (And.intro (M.out.2.1) (And.intro (M.out.2.2.1) (And.intro (M.out.2.2.2.2.2.2.1) (And.intro (M.out.2.2.2.2.2.2.2.1) (And.intro (M.out.2.2.2.2.2.2.2.2.1) (And.intro (M.out.2.2.2.2.2.2.2.2.2.1) (M.out.2.2.2.2.2.2.2.2.2.2))))))))
      rename_i Kst_ hst_
      exact hull_s_s10 hG Z1 Z2 Z3 Z4 HC0 HC1 HC2 HC3 HC4 HH1 HH2 HHO HSa HSb HBI HBJ HHL HHH HM1 HB6 HB7 HB4 HB5 H1 K1 H2 K2 H3 K3 H4 K4 H5 H6 H7 Eq19 Sq19 Eq20 Sq20 (by omega) (by omega) (by omega) (by omega) (by omega) M Kst_ hst_
    | true =>
      have y4 := (M.out.2.2.2.1).d8; have p4_0 := y4.1; have p4_1 := y4.2.1; have p4_2 := y4.2.2.1; have p4_3 := y4.2.2.2.1; have p4_4 := y4.2.2.2.2.1; have p4_5 := y4.2.2.2.2.2.1; have p4_6 := y4.2.2.2.2.2.2.1; have p4_7 := y4.2.2.2.2.2.2.2; clear y4
      have y2 := (M.out.2.2.2.2.2.2.2.1).d8; have p2_0 := y2.1; have p2_1 := y2.2.1; have p2_2 := y2.2.2.1; have p2_3 := y2.2.2.2.1; have p2_4 := y2.2.2.2.2.1; have p2_5 := y2.2.2.2.2.2.1; have p2_6 := y2.2.2.2.2.2.2.1; have p2_7 := y2.2.2.2.2.2.2.2; clear y2
      go_wp2_with fail
      clear p4_0 p4_1 p4_2 p4_3 p4_4 p4_5 p4_6 p4_7 p2_0 p2_1 p2_2 p2_3 p2_4 p2_5 p2_6 p2_7
      refine (spInside_fx (G := G) (p := hl) (q := hh) (o3 := o5) (o4 := o6) (b_ := true) (Nat.le_trans hG (M.out.2.2.2.2.2.2.2.2.2.2).size) (M.out.2.2.2.2.1) (M.out.2.2.2.2.2.1) (Fz.mono HSa.out (by omega)) (Fz.mono HSb.out (by omega)) HHO.out (H5.out.keep (M.out.2.2.2.2.2.2.2.2.2.2)) (H6.out.keep (M.out.2.2.2.2.2.2.2.2.2.2)) (few2_1 HC1.out) (few2_2 HC1.out) (HHC.out HB1.out HB2.out)).mono ?_
      rintro e w19 ⟨rfl, hb⟩
      replace M := Lib.hid (Goes.go M.out hb)
      clear hb
      go_upto_region 10 with fail
      replace M := Lib.hid (And.intro (M.out.1) (And.intro (M.out.2.1) (And.intro (M.out.2.2.1) (And.intro (M.out.2.2.2.2.2.2.1) (And.intro (M.out.2.2.2.2.2.2.2.1) (And.intro (M.out.2.2.2.2.2.2.2.2.1) (And.intro (M.out.2.2.2.2.2.2.2.2.2.1) (M.out.2.2.2.2.2.2.2.2.2.2))))))))
      rename_i Kst_ hst_
      exact hull_s_s10 hG Z1 Z2 Z3 Z4 HC0 HC1 HC2 HC3 HC4 HH1 HH2 HHO HSa HSb HBI HBJ HHL HHH HM1 HB6 HB7 HB4 HB5 H1 K1 H2 K2 H3 K3 H4 K4 H5 H6 H7 Eq19 Sq19 Eq20 Sq20 (by omega) (by omega) (by omega) (by omega) (by omega) M Kst_ hst_
theorem hull_sw {u0 u1 u2 u3 u4 u5 u6 u7 v0 v1 v2 v3 v4 v5 v6 v7 y0 y1 y2 y3 y4 y5 y6 y7 e0 e1 e2 e3 : Value} {n1 m1 n2 m2 n3 m3 n4 m4 n5 m5 n6 m6 n7 m7 : Nat} {p1 p2 r1 r2 : Rat} {o5 o6 o7 : Option Rat} {w : World} (hG : G ≤ w.heap.size) (h1 : FX w u0 u1 u2 u3 n1 m1 (some p1)) (k1 : FQ G w u0 u1 u2 u3 p1) (z1 : Fz p1 4) (h2 : FX w u4 u5 u6 u7 n2 m2 (some p2)) (k2 : FQ G w u4 u5 u6 u7 p2) (z2 : Fz p2 4) (h3 : FX w v0 v1 v2 v3 n3 m3 (some r1)) (k3 : FQ G w v0 v1 v2 v3 r1) (z3 : Fz r1 4) (h4 : FX w v4 v5 v6 v7 n4 m4 (some r2)) (k4 : FQ G w v4 v5 v6 v7 r2) (z4 : Fz r2 4) (h5 : FX w y0 y1 y2 y3 n5 m5 o5) (h6 : FX w y4 y5 y6 y7 n6 m6 o6) (h7 : FX w e0 e1 e2 e3 n7 m7 o7) (hc0 : few4 n1 m1 n2 m2 n3 m3 n4 m4 = true) (hc1 : few2 n5 m5 n6 m6 = true) (hc2 : fewF n7 m7 = true) (hc3 : rightX (some p1) (some p2) = true) (hc4 : rightX (some r1) (some r2) = true) (hm : ¬ minQ p2 r2 < maxQ p1 r1) :
    Calls Try.prog 5 #[.agg #[u0, u1, u2, u3, u4, u5, u6, u7], .agg #[v0, v1, v2, v3, v4, v5, v6, v7], .agg #[y0, y1, y2, y3, y4, y5, y6, y7], .agg #[e0, e1, e2, e3]] w fun e w' => e = .returned (.bool true) ∧ Below w.heap.size w w' :=
  hull_s hG (Lib.hid z1) (Lib.hid z2) (Lib.hid z3) (Lib.hid z4) (Lib.hid hc0) (Lib.hid hc1) (Lib.hid hc2) (Lib.hid hc3) (Lib.hid hc4) (Lib.hid (inB.2 (hull_in1 (a := ⟨p1, p2⟩) (b := ⟨r1, r2⟩) (right_le hc3) (right_le hc4)).1)) (Lib.hid (inB.2 (hull_in1 (a := ⟨p1, p2⟩) (b := ⟨r1, r2⟩) (right_le hc3) (right_le hc4)).2)) (Lib.hid (hullS_ok (a := ⟨p1, p2⟩) (b := ⟨r1, r2⟩) (right_le hc3) (right_le hc4))) (Lib.hid (Fz.min4 z1 z2 z3 z4)) (Lib.hid (Fz.max4 z1 z2 z3 z4)) (Lib.hid rfl) (Lib.hid (hull_bool (right_le hc3) (right_le hc4))) (Lib.hid rfl) (Lib.hid rfl) (Lib.hid hm) (Lib.hid rfl) (Lib.hid rfl) (Lib.hid (hull_inn (right_le hc3) (right_le hc4))) (Lib.hid rfl) (Lib.hid rfl) (Lib.hid rfl) (Lib.hid rfl) h1 k1 h2 k2 h3 k3 h4 k4 h5 h6 h7
theorem hull_walk {u0 u1 u2 u3 u4 u5 u6 u7 v0 v1 v2 v3 v4 v5 v6 v7 y0 y1 y2 y3 y4 y5 y6 y7 e0 e1 e2 e3 : Value} {n1 m1 n2 m2 n3 m3 n4 m4 n5 m5 n6 m6 n7 m7 : Nat} {o1 o2 o3 o4 o5 o6 o7 : Option Rat} {w : World} (h1 : FX w u0 u1 u2 u3 n1 m1 o1) (h2 : FX w u4 u5 u6 u7 n2 m2 o2) (h3 : FX w v0 v1 v2 v3 n3 m3 o3) (h4 : FX w v4 v5 v6 v7 n4 m4 o4) (h5 : FX w y0 y1 y2 y3 n5 m5 o5) (h6 : FX w y4 y5 y6 y7 n6 m6 o6) (h7 : FX w e0 e1 e2 e3 n7 m7 o7) :
    Calls Try.prog 5 #[.agg #[u0, u1, u2, u3, u4, u5, u6, u7], .agg #[v0, v1, v2, v3, v4, v5, v6, v7], .agg #[y0, y1, y2, y3, y4, y5, y6, y7], .agg #[e0, e1, e2, e3]] w fun e w' => e = .returned (.bool true) ∧ Below w.heap.size w w' := by
  cases hn : (few4 n1 m1 n2 m2 n3 m3 n4 m4 && (few2 n5 m5 n6 m6 && (fewF n7 m7 && (rightX o1 o2 && rightX o3 o4)))) with
  | false => exact hull_not (G := w.heap.size) (Nat.le_refl _) h1 h2 h3 h4 h5 h6 h7 hn
  | true =>
    simp only [Bool.and_eq_true] at hn
    obtain ⟨hc0, hc1, hc2, hc3, hc4⟩ := hn
    obtain ⟨p1, p2, rfl, rfl, -⟩ := right_some hc3
    obtain ⟨r1, r2, rfl, rfl, -⟩ := right_some hc4
    by_cases hm : minQ p2 r2 < maxQ p1 r1
    · exact hull_nw (G := w.heap.size) (Nat.le_refl _) h1 h1.fq (h1.z4 (few4_1 hc0)) h2 h2.fq (h2.z4 (few4_2 hc0)) h3 h3.fq (h3.z4 (few4_3 hc0)) h4 h4.fq (h4.z4 (few4_4 hc0)) h5 h6 h7 hc0 hc1 hc2 hc3 hc4 hm
    · exact hull_sw (G := w.heap.size) (Nat.le_refl _) h1 h1.fq (h1.z4 (few4_1 hc0)) h2 h2.fq (h2.z4 (few4_2 hc0)) h3 h3.fq (h3.z4 (few4_3 hc0)) h4 h4.fq (h4.z4 (few4_4 hc0)) h5 h6 h7 hc0 hc1 hc2 hc3 hc4 hm
end Go.Proofs.Ytjbfngjlepafgaa
