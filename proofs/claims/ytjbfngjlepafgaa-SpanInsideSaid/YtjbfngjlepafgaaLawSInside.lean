/- The walk of SpanInside: whatever the arguments, it returns true. -/
import Derived.Test.YtjbfngjlepafgaaBase
import Derived.Test.YtjbfngjlepafgaaBigSpec
import Derived.Test.YtjbfngjlepafgaaBigB
import Derived.Test.YtjbfngjlepafgaaBigC
import Derived.Test.YtjbfngjlepafgaaBigD
import Derived.Test.YtjbfngjlepafgaaBigL
import Derived.Test.YtjbfngjlepafgaaBigQ
import Derived.Test.YtjbfngjlepafgaaFracA
import Derived.Test.YtjbfngjlepafgaaFz
import Derived.Test.YtjbfngjlepafgaaHeld
import Derived.Test.YtjbfngjlepafgaaAw
import Derived.Test.YtjbfngjlepafgaaFracR
import Derived.Test.YtjbfngjlepafgaaRefJ
import Derived.Test.YtjbfngjlepafgaaFq
import Derived.Test.YtjbfngjlepafgaaSpanPlain
import Derived.Test.YtjbfngjlepafgaaSpanB
import Derived.Test.YtjbfngjlepafgaaSpanC
import Derived.Test.YtjbfngjlepafgaaSpanE
import Derived.Test.YtjbfngjlepafgaaSpanF
import Derived.Test.YtjbfngjlepafgaaSpanI
import Derived.Test.YtjbfngjlepafgaaProg
import Derived.WalkKit
import Derived.WalkSpells
import Derived.WalkLawsBesides
import Derived.Handy
import Derived.Lib.Hide
import Derived.Lib.Strings
import Derived.Lib.Builder
import Derived.BigQuiet
import Derived.OwnWalk
import Derived.Laws.BitsLemmas
import Derived.WalkSmall
import Derived.Deep.QuietTactic
import Derived.StillTailTactics
import Derived.Maps.AppendAt
import Derived.IntWalk
import Derived.Deep.RegionHeld3
import Derived.Deep.DeepFit
import Derived.Deep.LoopGhost
import Derived.Deep.DeepCutAuto
import Derived.Lib.ItoaNum
import Derived.Lib.Repeat
import Derived.Lib.AppendIntMem
import Derived.Sort.OwnSorted
import Derived.Shelf.Strings.SlTrimAscii
import Derived.Lib.ConvBytes
import Derived.Lib.CutLaws
namespace Go.Proofs.Ytjbfngjlepafgaa
open Go.RowKit Go.Lib
variable {G : Nat}

set_option maxRecDepth 100000 in
set_option maxHeartbeats 4000000 in
theorem inside_not {u0 u1 u2 u3 u4 u5 u6 u7 v0 v1 v2 v3 v4 v5 v6 v7 y0 y1 y2 y3 y4 y5 y6 y7 d0 d1 d2 d3 d4 d5 d6 d7 : Value} {n1 m1 n2 m2 n3 m3 n4 m4 n5 m5 n6 m6 n7 m7 n8 m8 : Nat} {o1 o2 o3 o4 o5 o6 o7 o8 : Option Rat} {w : World} (hG : G ≤ w.heap.size) (h1 : FX w u0 u1 u2 u3 n1 m1 o1) (h2 : FX w u4 u5 u6 u7 n2 m2 o2) (h3 : FX w v0 v1 v2 v3 n3 m3 o3) (h4 : FX w v4 v5 v6 v7 n4 m4 o4) (h5 : FX w y0 y1 y2 y3 n5 m5 o5) (h6 : FX w y4 y5 y6 y7 n6 m6 o6) (h7 : FX w d0 d1 d2 d3 n7 m7 o7) (h8 : FX w d4 d5 d6 d7 n8 m8 o8) (hn : (few4 n1 m1 n2 m2 n3 m3 n4 m4 && (few4 n5 m5 n6 m6 n7 m7 n8 m8 && (insX o1 o2 o5 o6 && insX o3 o4 o7 o8))) = false) :
    Calls Try.prog 3 #[.agg #[u0, u1, u2, u3, u4, u5, u6, u7], .agg #[v0, v1, v2, v3, v4, v5, v6, v7], .agg #[y0, y1, y2, y3, y4, y5, y6, y7], .agg #[d0, d1, d2, d3, d4, d5, d6, d7]] w fun e w' => e = .returned (.bool true) ∧ Below w.heap.size w w' := by
  obtain ⟨c0, hc0⟩ : ∃ b, few4 n1 m1 n2 m2 n3 m3 n4 m4 = b := ⟨_, rfl⟩
  obtain ⟨c1, hc1⟩ : ∃ b, few4 n5 m5 n6 m6 n7 m7 n8 m8 = b := ⟨_, rfl⟩
  obtain ⟨c2, hc2⟩ : ∃ b, insX o1 o2 o5 o6 = b := ⟨_, rfl⟩
  obtain ⟨c3, hc3⟩ : ∃ b, insX o3 o4 o7 o8 = b := ⟨_, rfl⟩
  rw [hc0, hc1, hc2, hc3] at hn
  have HC0 := Lib.hid hc0
  have HC1 := Lib.hid hc1
  have HC2 := Lib.hid hc2
  have HC3 := Lib.hid hc3
  have HN := Lib.hid hn
  clear hn hc0 hc1 hc2 hc3
  have H1 : Hid (FX w u0 u1 u2 u3 n1 m1 o1) := h1
  have H2 : Hid (FX w u4 u5 u6 u7 n2 m2 o2) := h2
  have H3 : Hid (FX w v0 v1 v2 v3 n3 m3 o3) := h3
  have H4 : Hid (FX w v4 v5 v6 v7 n4 m4 o4) := h4
  have H5 : Hid (FX w y0 y1 y2 y3 n5 m5 o5) := h5
  have H6 : Hid (FX w y4 y5 y6 y7 n6 m6 o6) := h6
  have H7 : Hid (FX w d0 d1 d2 d3 n7 m7 o7) := h7
  have H8 : Hid (FX w d4 d5 d6 d7 n8 m8 o8) := h8
  clear h1 h2 h3 h4 h5 h6 h7 h8
  have M : Hid (Below w.heap.size w w) := Below.refl _ _
  go_enter Try.func3, Try.ntmps3
  go_upto_region 1 with fail
  obtain ⟨w1, hv⟩ : ∃ w_ : World, w_ = ((((w.alloc (.cells #[u0, u1, u2, u3, u4, u5, u6, u7] 28)).alloc (.cells #[v0, v1, v2, v3, v4, v5, v6, v7] 28)).alloc (.cells #[y0, y1, y2, y3, y4, y5, y6, y7] 28)).alloc (.cells #[d0, d1, d2, d3, d4, d5, d6, d7] 28)) := ⟨_, rfl⟩
  rw [← hv]
  have hbx := bx4 w 28 28 28 28 #[u0, u1, u2, u3, u4, u5, u6, u7] #[v0, v1, v2, v3, v4, v5, v6, v7] #[y0, y1, y2, y3, y4, y5, y6, y7] #[d0, d1, d2, d3, d4, d5, d6, d7]
  rw [← hv] at hbx
  have hbn : Below w.heap.size w w1 := by rw [hv]; exact (Below.alloc (Below.alloc (Below.alloc (Below.alloc (Below.refl _ _) (by simp <;> omega) _) (by simp <;> omega) _) (by simp <;> omega) _) (by simp <;> omega) _)
  replace M := Lib.hid (And.intro hbx.2.2.2 (And.intro hbx.2.2.1 (And.intro hbx.2.1 (And.intro hbx.1 (Goes.go M.out hbn)))))
  clear hbx hbn
  clear hv
  go_wp2_with fail
  refine (spanSmall_ok (G := G) (Nat.le_trans hG (M.out.2.2.2.2).size)).mono ?_
  rintro e w2 ⟨rfl, hb⟩
  replace M := Lib.hid (Goes.go M.out hb)
  clear hb
  have y0 := (M.out.2.2.2.1).d8; have p0_0 := y0.1; have p0_1 := y0.2.1; have p0_2 := y0.2.2.1; have p0_3 := y0.2.2.2.1; have p0_4 := y0.2.2.2.2.1; have p0_5 := y0.2.2.2.2.2.1; have p0_6 := y0.2.2.2.2.2.2.1; have p0_7 := y0.2.2.2.2.2.2.2; clear y0
  have y1 := (M.out.2.2.1).d8; have p1_0 := y1.1; have p1_1 := y1.2.1; have p1_2 := y1.2.2.1; have p1_3 := y1.2.2.2.1; have p1_4 := y1.2.2.2.2.1; have p1_5 := y1.2.2.2.2.2.1; have p1_6 := y1.2.2.2.2.2.2.1; have p1_7 := y1.2.2.2.2.2.2.2; clear y1
  go_wp2_with fail
  clear p0_0 p0_1 p0_2 p0_3 p0_4 p0_5 p0_6 p0_7 p1_0 p1_1 p1_2 p1_3 p1_4 p1_5 p1_6 p1_7
  refine (few_s (o1 := o1) (o2 := o2) (o3 := o3) (o4 := o4) (b_ := c0) (H1.out.keep (M.out.2.2.2.2)) (H2.out.keep (M.out.2.2.2.2)) (H3.out.keep (M.out.2.2.2.2)) (H4.out.keep (M.out.2.2.2.2)) HC0.out).mono ?_
  rintro e w3 ⟨rfl, hb⟩
  replace M := Lib.hid (Goes.go M.out hb)
  clear hb
  cases c0 with
  | false =>
    go_wp2_with fail
    go_ret
    exact ⟨rfl, (M.out.2.2.2.2)⟩
  | true =>
    have y2 := (M.out.2.1).d8; have p2_0 := y2.1; have p2_1 := y2.2.1; have p2_2 := y2.2.2.1; have p2_3 := y2.2.2.2.1; have p2_4 := y2.2.2.2.2.1; have p2_5 := y2.2.2.2.2.2.1; have p2_6 := y2.2.2.2.2.2.2.1; have p2_7 := y2.2.2.2.2.2.2.2; clear y2
    have y3 := (M.out.1).d8; have p3_0 := y3.1; have p3_1 := y3.2.1; have p3_2 := y3.2.2.1; have p3_3 := y3.2.2.2.1; have p3_4 := y3.2.2.2.2.1; have p3_5 := y3.2.2.2.2.2.1; have p3_6 := y3.2.2.2.2.2.2.1; have p3_7 := y3.2.2.2.2.2.2.2; clear y3
    go_wp2_with fail
    clear p2_0 p2_1 p2_2 p2_3 p2_4 p2_5 p2_6 p2_7 p3_0 p3_1 p3_2 p3_3 p3_4 p3_5 p3_6 p3_7
    refine (few_s (o1 := o5) (o2 := o6) (o3 := o7) (o4 := o8) (b_ := c1) (H5.out.keep (M.out.2.2.2.2)) (H6.out.keep (M.out.2.2.2.2)) (H7.out.keep (M.out.2.2.2.2)) (H8.out.keep (M.out.2.2.2.2)) HC1.out).mono ?_
    rintro e w4 ⟨rfl, hb⟩
    replace M := Lib.hid (Goes.go M.out hb)
    clear hb
    cases c1 with
    | false =>
      go_wp2_with fail
      go_ret
      exact ⟨rfl, (M.out.2.2.2.2)⟩
    | true =>
      have y0 := (M.out.2.2.2.1).d8; have p0_0 := y0.1; have p0_1 := y0.2.1; have p0_2 := y0.2.2.1; have p0_3 := y0.2.2.2.1; have p0_4 := y0.2.2.2.2.1; have p0_5 := y0.2.2.2.2.2.1; have p0_6 := y0.2.2.2.2.2.2.1; have p0_7 := y0.2.2.2.2.2.2.2; clear y0
      have y2 := (M.out.2.1).d8; have p2_0 := y2.1; have p2_1 := y2.2.1; have p2_2 := y2.2.2.1; have p2_3 := y2.2.2.2.1; have p2_4 := y2.2.2.2.2.1; have p2_5 := y2.2.2.2.2.2.1; have p2_6 := y2.2.2.2.2.2.2.1; have p2_7 := y2.2.2.2.2.2.2.2; clear y2
      go_wp2_with fail
      clear p0_0 p0_1 p0_2 p0_3 p0_4 p0_5 p0_6 p0_7 p2_0 p2_1 p2_2 p2_3 p2_4 p2_5 p2_6 p2_7
      refine (spInside_x (o1 := o1) (o2 := o2) (o3 := o5) (o4 := o6) (b_ := c2) (H1.out.keep (M.out.2.2.2.2)) (H2.out.keep (M.out.2.2.2.2)) (H5.out.keep (M.out.2.2.2.2)) (H6.out.keep (M.out.2.2.2.2)) (few4_1 HC0.out) (few4_2 HC0.out) (few4_1 HC1.out) (few4_2 HC1.out) HC2.out).mono ?_
      rintro e w5 ⟨rfl, hb⟩
      replace M := Lib.hid (Goes.go M.out hb)
      clear hb
      cases c2 with
      | false =>
        go_wp2_with fail
        go_ret
        exact ⟨rfl, (M.out.2.2.2.2)⟩
      | true =>
        have y1 := (M.out.2.2.1).d8; have p1_0 := y1.1; have p1_1 := y1.2.1; have p1_2 := y1.2.2.1; have p1_3 := y1.2.2.2.1; have p1_4 := y1.2.2.2.2.1; have p1_5 := y1.2.2.2.2.2.1; have p1_6 := y1.2.2.2.2.2.2.1; have p1_7 := y1.2.2.2.2.2.2.2; clear y1
        have y3 := (M.out.1).d8; have p3_0 := y3.1; have p3_1 := y3.2.1; have p3_2 := y3.2.2.1; have p3_3 := y3.2.2.2.1; have p3_4 := y3.2.2.2.2.1; have p3_5 := y3.2.2.2.2.2.1; have p3_6 := y3.2.2.2.2.2.2.1; have p3_7 := y3.2.2.2.2.2.2.2; clear y3
        go_wp2_with fail
        clear p1_0 p1_1 p1_2 p1_3 p1_4 p1_5 p1_6 p1_7 p3_0 p3_1 p3_2 p3_3 p3_4 p3_5 p3_6 p3_7
        refine (spInside_x (o1 := o3) (o2 := o4) (o3 := o7) (o4 := o8) (b_ := c3) (H3.out.keep (M.out.2.2.2.2)) (H4.out.keep (M.out.2.2.2.2)) (H7.out.keep (M.out.2.2.2.2)) (H8.out.keep (M.out.2.2.2.2)) (few4_3 HC0.out) (few4_4 HC0.out) (few4_3 HC1.out) (few4_4 HC1.out) HC3.out).mono ?_
        rintro e w6 ⟨rfl, hb⟩
        replace M := Lib.hid (Goes.go M.out hb)
        clear hb
        cases c3 with
        | false =>
          go_wp2_with fail
          go_ret
          exact ⟨rfl, (M.out.2.2.2.2)⟩
        | true =>
          go_upto_region 4 with fail
          exact absurd HN.out (by decide)
theorem meet_in2 {p q r s p' q' r' s' : Rat} (h : inS ⟨p, q⟩ ⟨p', q'⟩) (k : inS ⟨r, s⟩ ⟨r', s'⟩) (hm : ¬ minQ q s < maxQ p r) : ¬ minQ q' s' < maxQ p' r' ∧ inS ⟨maxQ p r, minQ q s⟩ ⟨maxQ p' r', minQ q' s'⟩ := by
  have e0 : meetS ⟨p, q⟩ ⟨r, s⟩ = some ⟨maxQ p r, minQ q s⟩ := by unfold meetS; rw [if_neg hm]
  obtain ⟨t, e, ht⟩ := meet_in h k e0
  by_cases h2 : minQ q' s' < maxQ p' r'
  · unfold meetS at e; rw [if_pos h2] at e; cases e
  · unfold meetS at e; rw [if_neg h2] at e; cases e; exact ⟨h2, ht⟩
set_option maxRecDepth 100000 in
set_option maxHeartbeats 4000000 in
theorem inside_all {u0 u1 u2 u3 u4 u5 u6 u7 v0 v1 v2 v3 v4 v5 v6 v7 y0 y1 y2 y3 y4 y5 y6 y7 d0 d1 d2 d3 d4 d5 d6 d7 : Value} {n1 m1 n2 m2 n3 m3 n4 m4 n5 m5 n6 m6 n7 m7 n8 m8 : Nat} {p1 p2 r1 r2 s1 s2 t1 t2 : Rat} {w : World} (hG : G ≤ w.heap.size) (h1 : FX w u0 u1 u2 u3 n1 m1 (some p1)) (k1 : FQ G w u0 u1 u2 u3 p1) (z1 : Fz p1 4) (h2 : FX w u4 u5 u6 u7 n2 m2 (some p2)) (k2 : FQ G w u4 u5 u6 u7 p2) (z2 : Fz p2 4) (h3 : FX w v0 v1 v2 v3 n3 m3 (some r1)) (k3 : FQ G w v0 v1 v2 v3 r1) (z3 : Fz r1 4) (h4 : FX w v4 v5 v6 v7 n4 m4 (some r2)) (k4 : FQ G w v4 v5 v6 v7 r2) (z4 : Fz r2 4) (h5 : FX w y0 y1 y2 y3 n5 m5 (some s1)) (k5 : FQ G w y0 y1 y2 y3 s1) (z5 : Fz s1 4) (h6 : FX w y4 y5 y6 y7 n6 m6 (some s2)) (k6 : FQ G w y4 y5 y6 y7 s2) (z6 : Fz s2 4) (h7 : FX w d0 d1 d2 d3 n7 m7 (some t1)) (k7 : FQ G w d0 d1 d2 d3 t1) (z7 : Fz t1 4) (h8 : FX w d4 d5 d6 d7 n8 m8 (some t2)) (k8 : FQ G w d4 d5 d6 d7 t2) (z8 : Fz t2 4) (hc0 : few4 n1 m1 n2 m2 n3 m3 n4 m4 = true) (hc1 : few4 n5 m5 n6 m6 n7 m7 n8 m8 = true) (hc2 : insX (some p1) (some p2) (some s1) (some s2) = true) (hc3 : insX (some r1) (some r2) (some t1) (some t2) = true)  :
    Calls Try.prog 3 #[.agg #[u0, u1, u2, u3, u4, u5, u6, u7], .agg #[v0, v1, v2, v3, v4, v5, v6, v7], .agg #[y0, y1, y2, y3, y4, y5, y6, y7], .agg #[d0, d1, d2, d3, d4, d5, d6, d7]] w fun e w' => e = .returned (.bool true) ∧ Below w.heap.size w w' := by
  obtain ⟨_, _, _, _, e1_, e2_, e3_, e4_, ha_, hc_, hi_⟩ := ins_some hc2
  cases e1_; cases e2_; cases e3_; cases e4_
  obtain ⟨_, _, _, _, e1_, e2_, e3_, e4_, hb_, hd_, hj_⟩ := ins_some hc3
  cases e1_; cases e2_; cases e3_; cases e4_
  have HAO := Lib.hid ha_; have HBO := Lib.hid hb_; have HCO := Lib.hid hc_; have HDO := Lib.hid hd_; have HIAC := Lib.hid hi_; have HIBD := Lib.hid hj_
  have HNI : Hid ((decide (-s2 ≤ -p2) && decide (-p1 ≤ -s1)) = true) := inB.2 (negS_in (a := ⟨p1, p2⟩) (c := ⟨s1, s2⟩) hi_)
  obtain ⟨hl, hhl⟩ : ∃ x, min4 p1 p2 r1 r2 = x := ⟨_, rfl⟩
  obtain ⟨hh, hhh⟩ : ∃ x, max4 p1 p2 r1 r2 = x := ⟨_, rfl⟩
  obtain ⟨il, hil⟩ : ∃ x, min4 s1 s2 t1 t2 = x := ⟨_, rfl⟩
  obtain ⟨ih, hih⟩ : ∃ x, max4 s1 s2 t1 t2 = x := ⟨_, rfl⟩
  have HHI : Hid ((decide (il ≤ hl) && decide (hh ≤ ih)) = true) := by
    show _ = _
    rw [← hhl, ← hhh, ← hil, ← hih]
    exact inB.2 (hullS_in (a := ⟨p1, p2⟩) (b := ⟨r1, r2⟩) (c := ⟨s1, s2⟩) (d := ⟨t1, t2⟩) ha_ hb_ hc_ hd_ hi_ hj_)
  have HHO : Hid (hl ≤ hh) := by show _ ≤ _; rw [← hhl, ← hhh]; exact hullS_ok (a := ⟨p1, p2⟩) (b := ⟨r1, r2⟩) ha_ hb_
  have HIO : Hid (il ≤ ih) := by show _ ≤ _; rw [← hil, ← hih]; exact hullS_ok (a := ⟨s1, s2⟩) (b := ⟨t1, t2⟩) hc_ hd_
  have HSa : Hid (Fz hl 4) := by show Fz _ _; rw [← hhl]; exact Fz.min4 z1 z2 z3 z4
  have HSb : Hid (Fz hh 4) := by show Fz _ _; rw [← hhh]; exact Fz.max4 z1 z2 z3 z4
  have HSc : Hid (Fz il 4) := by show Fz _ _; rw [← hil]; exact Fz.min4 z5 z6 z7 z8
  have HSd : Hid (Fz ih 4) := by show Fz _ _; rw [← hih]; exact Fz.max4 z5 z6 z7 z8
  have HHL := Lib.hid hhl; have HHH := Lib.hid hhh; have HIL := Lib.hid hil; have HIH := Lib.hid hih
  clear ha_ hb_ hc_ hd_ hi_ hj_ hhl hhh hil hih
  have Z1 := Lib.hid z1; clear z1
  have Z2 := Lib.hid z2; clear z2
  have Z3 := Lib.hid z3; clear z3
  have Z4 := Lib.hid z4; clear z4
  have Z5 := Lib.hid z5; clear z5
  have Z6 := Lib.hid z6; clear z6
  have Z7 := Lib.hid z7; clear z7
  have Z8 := Lib.hid z8; clear z8
  have HC0 := Lib.hid hc0; clear hc0
  have HC1 := Lib.hid hc1; clear hc1
  have HC2 := Lib.hid hc2; clear hc2
  have HC3 := Lib.hid hc3; clear hc3
  have H1 : Hid (FX w u0 u1 u2 u3 n1 m1 (some p1)) := h1
  have K1 : Hid (FQ G w u0 u1 u2 u3 p1) := k1
  have H2 : Hid (FX w u4 u5 u6 u7 n2 m2 (some p2)) := h2
  have K2 : Hid (FQ G w u4 u5 u6 u7 p2) := k2
  have H3 : Hid (FX w v0 v1 v2 v3 n3 m3 (some r1)) := h3
  have K3 : Hid (FQ G w v0 v1 v2 v3 r1) := k3
  have H4 : Hid (FX w v4 v5 v6 v7 n4 m4 (some r2)) := h4
  have K4 : Hid (FQ G w v4 v5 v6 v7 r2) := k4
  have H5 : Hid (FX w y0 y1 y2 y3 n5 m5 (some s1)) := h5
  have K5 : Hid (FQ G w y0 y1 y2 y3 s1) := k5
  have H6 : Hid (FX w y4 y5 y6 y7 n6 m6 (some s2)) := h6
  have K6 : Hid (FQ G w y4 y5 y6 y7 s2) := k6
  have H7 : Hid (FX w d0 d1 d2 d3 n7 m7 (some t1)) := h7
  have K7 : Hid (FQ G w d0 d1 d2 d3 t1) := k7
  have H8 : Hid (FX w d4 d5 d6 d7 n8 m8 (some t2)) := h8
  have K8 : Hid (FQ G w d4 d5 d6 d7 t2) := k8
  clear h1 k1 h2 k2 h3 k3 h4 k4 h5 k5 h6 k6 h7 k7 h8 k8
  have M : Hid (Below w.heap.size w w) := Below.refl _ _
  go_enter Try.func3, Try.ntmps3
  go_upto_region 1 with fail
  obtain ⟨w1, hv⟩ : ∃ w_ : World, w_ = ((((w.alloc (.cells #[u0, u1, u2, u3, u4, u5, u6, u7] 28)).alloc (.cells #[v0, v1, v2, v3, v4, v5, v6, v7] 28)).alloc (.cells #[y0, y1, y2, y3, y4, y5, y6, y7] 28)).alloc (.cells #[d0, d1, d2, d3, d4, d5, d6, d7] 28)) := ⟨_, rfl⟩
  rw [← hv]
  have hbx := bx4 w 28 28 28 28 #[u0, u1, u2, u3, u4, u5, u6, u7] #[v0, v1, v2, v3, v4, v5, v6, v7] #[y0, y1, y2, y3, y4, y5, y6, y7] #[d0, d1, d2, d3, d4, d5, d6, d7]
  rw [← hv] at hbx
  have hbn : Below w.heap.size w w1 := by rw [hv]; exact (Below.alloc (Below.alloc (Below.alloc (Below.alloc (Below.refl _ _) (by simp <;> omega) _) (by simp <;> omega) _) (by simp <;> omega) _) (by simp <;> omega) _)
  replace M := Lib.hid (And.intro hbx.2.2.2 (And.intro hbx.2.2.1 (And.intro hbx.2.1 (And.intro hbx.1 (Goes.go M.out hbn)))))
  clear hbx hbn
  clear hv
  go_wp2_with fail
  refine (spanSmall_ok (G := G) (Nat.le_trans hG (M.out.2.2.2.2).size)).mono ?_
  rintro e w2 ⟨rfl, hb⟩
  replace M := Lib.hid (Goes.go M.out hb)
  clear hb
  have y0 := (M.out.2.2.2.1).d8; have p0_0 := y0.1; have p0_1 := y0.2.1; have p0_2 := y0.2.2.1; have p0_3 := y0.2.2.2.1; have p0_4 := y0.2.2.2.2.1; have p0_5 := y0.2.2.2.2.2.1; have p0_6 := y0.2.2.2.2.2.2.1; have p0_7 := y0.2.2.2.2.2.2.2; clear y0
  have y1 := (M.out.2.2.1).d8; have p1_0 := y1.1; have p1_1 := y1.2.1; have p1_2 := y1.2.2.1; have p1_3 := y1.2.2.2.1; have p1_4 := y1.2.2.2.2.1; have p1_5 := y1.2.2.2.2.2.1; have p1_6 := y1.2.2.2.2.2.2.1; have p1_7 := y1.2.2.2.2.2.2.2; clear y1
  go_wp2_with fail
  clear p0_0 p0_1 p0_2 p0_3 p0_4 p0_5 p0_6 p0_7 p1_0 p1_1 p1_2 p1_3 p1_4 p1_5 p1_6 p1_7
  refine (few_s (o1 := (some p1)) (o2 := (some p2)) (o3 := (some r1)) (o4 := (some r2)) (b_ := true) (H1.out.keep (M.out.2.2.2.2)) (H2.out.keep (M.out.2.2.2.2)) (H3.out.keep (M.out.2.2.2.2)) (H4.out.keep (M.out.2.2.2.2)) HC0.out).mono ?_
  rintro e w3 ⟨rfl, hb⟩
  replace M := Lib.hid (Goes.go M.out hb)
  clear hb
  have y2 := (M.out.2.1).d8; have p2_0 := y2.1; have p2_1 := y2.2.1; have p2_2 := y2.2.2.1; have p2_3 := y2.2.2.2.1; have p2_4 := y2.2.2.2.2.1; have p2_5 := y2.2.2.2.2.2.1; have p2_6 := y2.2.2.2.2.2.2.1; have p2_7 := y2.2.2.2.2.2.2.2; clear y2
  have y3 := (M.out.1).d8; have p3_0 := y3.1; have p3_1 := y3.2.1; have p3_2 := y3.2.2.1; have p3_3 := y3.2.2.2.1; have p3_4 := y3.2.2.2.2.1; have p3_5 := y3.2.2.2.2.2.1; have p3_6 := y3.2.2.2.2.2.2.1; have p3_7 := y3.2.2.2.2.2.2.2; clear y3
  go_wp2_with fail
  clear p2_0 p2_1 p2_2 p2_3 p2_4 p2_5 p2_6 p2_7 p3_0 p3_1 p3_2 p3_3 p3_4 p3_5 p3_6 p3_7
  refine (few_s (o1 := (some s1)) (o2 := (some s2)) (o3 := (some t1)) (o4 := (some t2)) (b_ := true) (H5.out.keep (M.out.2.2.2.2)) (H6.out.keep (M.out.2.2.2.2)) (H7.out.keep (M.out.2.2.2.2)) (H8.out.keep (M.out.2.2.2.2)) HC1.out).mono ?_
  rintro e w4 ⟨rfl, hb⟩
  replace M := Lib.hid (Goes.go M.out hb)
  clear hb
  have y0 := (M.out.2.2.2.1).d8; have p0_0 := y0.1; have p0_1 := y0.2.1; have p0_2 := y0.2.2.1; have p0_3 := y0.2.2.2.1; have p0_4 := y0.2.2.2.2.1; have p0_5 := y0.2.2.2.2.2.1; have p0_6 := y0.2.2.2.2.2.2.1; have p0_7 := y0.2.2.2.2.2.2.2; clear y0
  have y2 := (M.out.2.1).d8; have p2_0 := y2.1; have p2_1 := y2.2.1; have p2_2 := y2.2.2.1; have p2_3 := y2.2.2.2.1; have p2_4 := y2.2.2.2.2.1; have p2_5 := y2.2.2.2.2.2.1; have p2_6 := y2.2.2.2.2.2.2.1; have p2_7 := y2.2.2.2.2.2.2.2; clear y2
  go_wp2_with fail
  clear p0_0 p0_1 p0_2 p0_3 p0_4 p0_5 p0_6 p0_7 p2_0 p2_1 p2_2 p2_3 p2_4 p2_5 p2_6 p2_7
  refine (spInside_x (o1 := (some p1)) (o2 := (some p2)) (o3 := (some s1)) (o4 := (some s2)) (b_ := true) (H1.out.keep (M.out.2.2.2.2)) (H2.out.keep (M.out.2.2.2.2)) (H5.out.keep (M.out.2.2.2.2)) (H6.out.keep (M.out.2.2.2.2)) (few4_1 HC0.out) (few4_2 HC0.out) (few4_1 HC1.out) (few4_2 HC1.out) HC2.out).mono ?_
  rintro e w5 ⟨rfl, hb⟩
  replace M := Lib.hid (Goes.go M.out hb)
  clear hb
  have y1 := (M.out.2.2.1).d8; have p1_0 := y1.1; have p1_1 := y1.2.1; have p1_2 := y1.2.2.1; have p1_3 := y1.2.2.2.1; have p1_4 := y1.2.2.2.2.1; have p1_5 := y1.2.2.2.2.2.1; have p1_6 := y1.2.2.2.2.2.2.1; have p1_7 := y1.2.2.2.2.2.2.2; clear y1
  have y3 := (M.out.1).d8; have p3_0 := y3.1; have p3_1 := y3.2.1; have p3_2 := y3.2.2.1; have p3_3 := y3.2.2.2.1; have p3_4 := y3.2.2.2.2.1; have p3_5 := y3.2.2.2.2.2.1; have p3_6 := y3.2.2.2.2.2.2.1; have p3_7 := y3.2.2.2.2.2.2.2; clear y3
  go_wp2_with fail
  clear p1_0 p1_1 p1_2 p1_3 p1_4 p1_5 p1_6 p1_7 p3_0 p3_1 p3_2 p3_3 p3_4 p3_5 p3_6 p3_7
  refine (spInside_x (o1 := (some r1)) (o2 := (some r2)) (o3 := (some t1)) (o4 := (some t2)) (b_ := true) (H3.out.keep (M.out.2.2.2.2)) (H4.out.keep (M.out.2.2.2.2)) (H7.out.keep (M.out.2.2.2.2)) (H8.out.keep (M.out.2.2.2.2)) (few4_3 HC0.out) (few4_4 HC0.out) (few4_3 HC1.out) (few4_4 HC1.out) HC3.out).mono ?_
  rintro e w6 ⟨rfl, hb⟩
  replace M := Lib.hid (Goes.go M.out hb)
  clear hb
  go_wp2_with fail
  go_loopw [10] (fun i10 wr => ∃ (n : Nat), i10 = .int .i64 (n : Int) ∧ Hid (Bx wr (w.heap.size + 1 + 1 + 1) 28 #[d0, d1, d2, d3, d4, d5, d6, d7] ∧ Bx wr (w.heap.size + 1 + 1) 28 #[y0, y1, y2, y3, y4, y5, y6, y7] ∧ Bx wr (w.heap.size + 1) 28 #[v0, v1, v2, v3, v4, v5, v6, v7] ∧ Bx wr w.heap.size 28 #[u0, u1, u2, u3, u4, u5, u6, u7] ∧ Below w.heap.size w wr)) (fun i10 _ => 6 - (RowKit.intOf i10).toNat)
  case atStart =>
    exact ⟨0, rfl, Lib.hid (And.intro (M.out.1) (And.intro (M.out.2.1) (And.intro (M.out.2.2.1) (And.intro (M.out.2.2.2.1) (M.out.2.2.2.2)))))⟩
  case round =>
    obtain ⟨w7, rfl⟩ : ∃ x, x = wr := ⟨_, rfl⟩
    clear M
    obtain ⟨n, rfl, M⟩ := hrel
    by_cases hlt : n < 6
    ·
      have hI : (n : Int) < 6 := by omega
      rcases ho2 : opS n ⟨s1, s2⟩ ⟨t1, t2⟩ with _ | ⟨tl, th⟩
      ·
        obtain ⟨rfl, -⟩ := op_none ho2
        have HO2 := Lib.hid ho2; clear ho2
        rcases ho1 : opS 3 ⟨p1, p2⟩ ⟨r1, r2⟩ with _ | ⟨lo, hi⟩
        ·
          have HO1 := Lib.hid ho1; clear ho1
          have y0 := (M.out.2.2.2.1).d8; have p0_0 := y0.1; have p0_1 := y0.2.1; have p0_2 := y0.2.2.1; have p0_3 := y0.2.2.2.1; have p0_4 := y0.2.2.2.2.1; have p0_5 := y0.2.2.2.2.2.1; have p0_6 := y0.2.2.2.2.2.2.1; have p0_7 := y0.2.2.2.2.2.2.2; clear y0
          have y1 := (M.out.2.2.1).d8; have p1_0 := y1.1; have p1_1 := y1.2.1; have p1_2 := y1.2.2.1; have p1_3 := y1.2.2.2.1; have p1_4 := y1.2.2.2.2.1; have p1_5 := y1.2.2.2.2.2.1; have p1_6 := y1.2.2.2.2.2.2.1; have p1_7 := y1.2.2.2.2.2.2.2; clear y1
          go_wp2_with fail
          clear p0_0 p0_1 p0_2 p0_3 p0_4 p0_5 p0_6 p0_7 p1_0 p1_1 p1_2 p1_3 p1_4 p1_5 p1_6 p1_7
          refine (play_none (G := G) (p := p1) (q := p2) (r := r1) (s := r2) (i := 3) (Nat.le_trans hG (M.out.2.2.2.2).size) (K1.out.keep (M.out.2.2.2.2)) (K2.out.keep (M.out.2.2.2.2)) (K3.out.keep (M.out.2.2.2.2)) (K4.out.keep (M.out.2.2.2.2)) (Fz.mono Z1.out (by omega)) (Fz.mono Z2.out (by omega)) (Fz.mono Z3.out (by omega)) (Fz.mono Z4.out (by omega)) HAO.out HBO.out rfl HO1.out).mono ?_
          rintro e w8 ⟨rfl, hb⟩
          replace M := Lib.hid (Goes.go M.out hb)
          clear hb
          go_upto_region 8 with fail
          obtain ⟨w9, hv⟩ : ∃ w_ : World, w_ = (w8.alloc (.cells #[.int .i64 0, .slice none 0 0, .int .i64 0, .slice none 0 0, .int .i64 0, .slice none 0 0, .int .i64 0, .slice none 0 0] 28)) := ⟨_, rfl⟩
          rw [← hv]
          have ow4_ : w.heap.size + 1 + 1 + 1 < w8.heap.size := ((M.out.1)).lt
          replace M := Lib.hid (And.intro (hv ▸ bx1 w8 28 #[.int .i64 0, .slice none 0 0, .int .i64 0, .slice none 0 0, .int .i64 0, .slice none 0 0, .int .i64 0, .slice none 0 0]) (Goes.go M.out (hv ▸ below_alloc _ _ : Below w8.heap.size w8 w9)))
          clear hv
          have y2 := (M.out.2.2.1).d8; have p2_0 := y2.1; have p2_1 := y2.2.1; have p2_2 := y2.2.2.1; have p2_3 := y2.2.2.2.1; have p2_4 := y2.2.2.2.2.1; have p2_5 := y2.2.2.2.2.2.1; have p2_6 := y2.2.2.2.2.2.2.1; have p2_7 := y2.2.2.2.2.2.2.2; clear y2
          have y3 := (M.out.2.1).d8; have p3_0 := y3.1; have p3_1 := y3.2.1; have p3_2 := y3.2.2.1; have p3_3 := y3.2.2.2.1; have p3_4 := y3.2.2.2.2.1; have p3_5 := y3.2.2.2.2.2.1; have p3_6 := y3.2.2.2.2.2.2.1; have p3_7 := y3.2.2.2.2.2.2.2; clear y3
          go_wp2_with fail
          clear p2_0 p2_1 p2_2 p2_3 p2_4 p2_5 p2_6 p2_7 p3_0 p3_1 p3_2 p3_3 p3_4 p3_5 p3_6 p3_7
          refine (play_none (G := G) (p := s1) (q := s2) (r := t1) (s := t2) (i := 3) (Nat.le_trans hG (M.out.2.2.2.2.2).size) (K5.out.keep (M.out.2.2.2.2.2)) (K6.out.keep (M.out.2.2.2.2.2)) (K7.out.keep (M.out.2.2.2.2.2)) (K8.out.keep (M.out.2.2.2.2.2)) (Fz.mono Z5.out (by omega)) (Fz.mono Z6.out (by omega)) (Fz.mono Z7.out (by omega)) (Fz.mono Z8.out (by omega)) HCO.out HDO.out rfl HO2.out).mono ?_
          rintro e w10 ⟨rfl, hb⟩
          replace M := Lib.hid (Goes.go M.out hb)
          clear hb
          go_upto_region 9 with fail
          obtain ⟨w11, hv⟩ : ∃ w_ : World, w_ = (w10.alloc (.cells #[.int .i64 0, .slice none 0 0, .int .i64 0, .slice none 0 0, .int .i64 0, .slice none 0 0, .int .i64 0, .slice none 0 0] 28)) := ⟨_, rfl⟩
          rw [← hv]
          have ow5_ : w8.heap.size < w10.heap.size := ((M.out.1)).lt
          replace M := Lib.hid (And.intro (hv ▸ bx1 w10 28 #[.int .i64 0, .slice none 0 0, .int .i64 0, .slice none 0 0, .int .i64 0, .slice none 0 0, .int .i64 0, .slice none 0 0]) (Goes.go M.out (hv ▸ below_alloc _ _ : Below w10.heap.size w10 w11)))
          clear hv
          go_wp2_with fail
          go_roundw
          case rel => exact ⟨(3 + 1), by go_num, Lib.hid (And.intro (M.out.2.2.1) (And.intro (M.out.2.2.2.1) (And.intro (M.out.2.2.2.2.1) (And.intro (M.out.2.2.2.2.2.1) (M.out.2.2.2.2.2.2)))))⟩
          case measure => simp [RowKit.intOf] <;> omega
        ·
          have HO1 := Lib.hid ho1; have hz_ := op_size Z1.out Z2.out Z3.out Z4.out ho1
          have HLS1 : Hid (Fz lo 12) := hz_.1
          have HHS1 : Hid (Fz hi 12) := hz_.2
          have HOK1 : Hid (lo ≤ hi) := op_ok (a := ⟨p1, p2⟩) (b := ⟨r1, r2⟩) (s := ⟨lo, hi⟩) HAO.out HBO.out ho1
          clear hz_
          clear ho1
          have y0 := (M.out.2.2.2.1).d8; have p0_0 := y0.1; have p0_1 := y0.2.1; have p0_2 := y0.2.2.1; have p0_3 := y0.2.2.2.1; have p0_4 := y0.2.2.2.2.1; have p0_5 := y0.2.2.2.2.2.1; have p0_6 := y0.2.2.2.2.2.2.1; have p0_7 := y0.2.2.2.2.2.2.2; clear y0
          have y1 := (M.out.2.2.1).d8; have p1_0 := y1.1; have p1_1 := y1.2.1; have p1_2 := y1.2.2.1; have p1_3 := y1.2.2.2.1; have p1_4 := y1.2.2.2.2.1; have p1_5 := y1.2.2.2.2.2.1; have p1_6 := y1.2.2.2.2.2.2.1; have p1_7 := y1.2.2.2.2.2.2.2; clear y1
          go_wp2_with fail
          clear p0_0 p0_1 p0_2 p0_3 p0_4 p0_5 p0_6 p0_7 p1_0 p1_1 p1_2 p1_3 p1_4 p1_5 p1_6 p1_7
          refine (play_some (G := G) (p := p1) (q := p2) (r := r1) (s := r2) (lo := lo) (hi := hi) (i := 3) (Nat.le_trans hG (M.out.2.2.2.2).size) (K1.out.keep (M.out.2.2.2.2)) (K2.out.keep (M.out.2.2.2.2)) (K3.out.keep (M.out.2.2.2.2)) (K4.out.keep (M.out.2.2.2.2)) (Fz.mono Z1.out (by omega)) (Fz.mono Z2.out (by omega)) (Fz.mono Z3.out (by omega)) (Fz.mono Z4.out (by omega)) HAO.out HBO.out (by decide) rfl HO1.out).mono ?_
          rintro e w8 ⟨x_1, x_2, x_3, x_4, x_5, x_6, x_7, x_8, rfl, hd9, hd10, hb⟩
          replace M := Lib.hid (And.intro hd9 (And.intro hd10 (Goes.go M.out hb)))
          clear hb hd9 hd10
          have ys_x_1 := TQ.st (M.out.1); have st_x_1 := ys_x_1.1; have st_x_2 := ys_x_1.2.1; have st_x_3 := ys_x_1.2.2.1; have st_x_4 := ys_x_1.2.2.2; clear ys_x_1
          have ys_x_5 := TQ.st (M.out.2.1); have st_x_5 := ys_x_5.1; have st_x_6 := ys_x_5.2.1; have st_x_7 := ys_x_5.2.2.1; have st_x_8 := ys_x_5.2.2.2; clear ys_x_5
          go_upto_region 8 with fail
          clear st_x_1 st_x_2 st_x_3 st_x_4 st_x_5 st_x_6 st_x_7 st_x_8
          obtain ⟨w9, hv⟩ : ∃ w_ : World, w_ = (w8.alloc (.cells #[x_1, x_2, x_3, x_4, x_5, x_6, x_7, x_8] 28)) := ⟨_, rfl⟩
          rw [← hv]
          have ow4_ : w.heap.size + 1 + 1 + 1 < w8.heap.size := ((M.out.2.2.1)).lt
          replace M := Lib.hid (And.intro (hv ▸ bx1 w8 28 #[x_1, x_2, x_3, x_4, x_5, x_6, x_7, x_8]) (Goes.go M.out (hv ▸ below_alloc _ _ : Below w8.heap.size w8 w9)))
          clear hv
          have y2 := (M.out.2.2.2.2.1).d8; have p2_0 := y2.1; have p2_1 := y2.2.1; have p2_2 := y2.2.2.1; have p2_3 := y2.2.2.2.1; have p2_4 := y2.2.2.2.2.1; have p2_5 := y2.2.2.2.2.2.1; have p2_6 := y2.2.2.2.2.2.2.1; have p2_7 := y2.2.2.2.2.2.2.2; clear y2
          have y3 := (M.out.2.2.2.1).d8; have p3_0 := y3.1; have p3_1 := y3.2.1; have p3_2 := y3.2.2.1; have p3_3 := y3.2.2.2.1; have p3_4 := y3.2.2.2.2.1; have p3_5 := y3.2.2.2.2.2.1; have p3_6 := y3.2.2.2.2.2.2.1; have p3_7 := y3.2.2.2.2.2.2.2; clear y3
          go_wp2_with fail
          clear p2_0 p2_1 p2_2 p2_3 p2_4 p2_5 p2_6 p2_7 p3_0 p3_1 p3_2 p3_3 p3_4 p3_5 p3_6 p3_7
          refine (play_none (G := G) (p := s1) (q := s2) (r := t1) (s := t2) (i := 3) (Nat.le_trans hG (M.out.2.2.2.2.2.2.2).size) (K5.out.keep (M.out.2.2.2.2.2.2.2)) (K6.out.keep (M.out.2.2.2.2.2.2.2)) (K7.out.keep (M.out.2.2.2.2.2.2.2)) (K8.out.keep (M.out.2.2.2.2.2.2.2)) (Fz.mono Z5.out (by omega)) (Fz.mono Z6.out (by omega)) (Fz.mono Z7.out (by omega)) (Fz.mono Z8.out (by omega)) HCO.out HDO.out rfl HO2.out).mono ?_
          rintro e w10 ⟨rfl, hb⟩
          replace M := Lib.hid (Goes.go M.out hb)
          clear hb
          go_upto_region 9 with fail
          obtain ⟨w11, hv⟩ : ∃ w_ : World, w_ = (w10.alloc (.cells #[.int .i64 0, .slice none 0 0, .int .i64 0, .slice none 0 0, .int .i64 0, .slice none 0 0, .int .i64 0, .slice none 0 0] 28)) := ⟨_, rfl⟩
          rw [← hv]
          have ow5_ : w8.heap.size < w10.heap.size := ((M.out.1)).lt
          replace M := Lib.hid (And.intro (hv ▸ bx1 w10 28 #[.int .i64 0, .slice none 0 0, .int .i64 0, .slice none 0 0, .int .i64 0, .slice none 0 0, .int .i64 0, .slice none 0 0]) (Goes.go M.out (hv ▸ below_alloc _ _ : Below w10.heap.size w10 w11)))
          clear hv
          go_wp2_with fail
          go_roundw
          case rel => exact ⟨(3 + 1), by go_num, Lib.hid (And.intro (M.out.2.2.2.2.1) (And.intro (M.out.2.2.2.2.2.1) (And.intro (M.out.2.2.2.2.2.2.1) (And.intro (M.out.2.2.2.2.2.2.2.1) (M.out.2.2.2.2.2.2.2.2)))))⟩
          case measure => simp [RowKit.intOf] <;> omega
      ·
        obtain ⟨⟨lo, hi⟩, ho1, hin_⟩ := op_in (a := ⟨p1, p2⟩) (b := ⟨r1, r2⟩) (c := ⟨s1, s2⟩) (d := ⟨t1, t2⟩) HAO.out HBO.out HDO.out HIAC.out HIBD.out ho2
        have HIN : Hid ((decide (tl ≤ lo) && decide (hi ≤ th)) = true) := inB.2 hin_
        clear hin_
        have HO2 := Lib.hid ho2; have hz_ := op_size Z5.out Z6.out Z7.out Z8.out ho2
        have HLS2 : Hid (Fz tl 12) := hz_.1
        have HHS2 : Hid (Fz th 12) := hz_.2
        have HOK2 : Hid (tl ≤ th) := op_ok (a := ⟨s1, s2⟩) (b := ⟨t1, t2⟩) (s := ⟨tl, th⟩) HCO.out HDO.out ho2
        clear hz_
        clear ho2
        have HO1 := Lib.hid ho1; have hz_ := op_size Z1.out Z2.out Z3.out Z4.out ho1
        have HLS1 : Hid (Fz lo 12) := hz_.1
        have HHS1 : Hid (Fz hi 12) := hz_.2
        have HOK1 : Hid (lo ≤ hi) := op_ok (a := ⟨p1, p2⟩) (b := ⟨r1, r2⟩) (s := ⟨lo, hi⟩) HAO.out HBO.out ho1
        clear hz_
        clear ho1
        have y0 := (M.out.2.2.2.1).d8; have p0_0 := y0.1; have p0_1 := y0.2.1; have p0_2 := y0.2.2.1; have p0_3 := y0.2.2.2.1; have p0_4 := y0.2.2.2.2.1; have p0_5 := y0.2.2.2.2.2.1; have p0_6 := y0.2.2.2.2.2.2.1; have p0_7 := y0.2.2.2.2.2.2.2; clear y0
        have y1 := (M.out.2.2.1).d8; have p1_0 := y1.1; have p1_1 := y1.2.1; have p1_2 := y1.2.2.1; have p1_3 := y1.2.2.2.1; have p1_4 := y1.2.2.2.2.1; have p1_5 := y1.2.2.2.2.2.1; have p1_6 := y1.2.2.2.2.2.2.1; have p1_7 := y1.2.2.2.2.2.2.2; clear y1
        go_wp2_with fail
        clear p0_0 p0_1 p0_2 p0_3 p0_4 p0_5 p0_6 p0_7 p1_0 p1_1 p1_2 p1_3 p1_4 p1_5 p1_6 p1_7
        refine (play_some (G := G) (p := p1) (q := p2) (r := r1) (s := r2) (lo := lo) (hi := hi) (i := (n : Int)) (Nat.le_trans hG (M.out.2.2.2.2).size) (K1.out.keep (M.out.2.2.2.2)) (K2.out.keep (M.out.2.2.2.2)) (K3.out.keep (M.out.2.2.2.2)) (K4.out.keep (M.out.2.2.2.2)) (Fz.mono Z1.out (by omega)) (Fz.mono Z2.out (by omega)) (Fz.mono Z3.out (by omega)) (Fz.mono Z4.out (by omega)) HAO.out HBO.out hlt rfl HO1.out).mono ?_
        rintro e w8 ⟨x_11, x_12, x_13, x_14, x_15, x_16, x_17, x_18, rfl, hd19, hd20, hb⟩
        replace M := Lib.hid (And.intro hd19 (And.intro hd20 (Goes.go M.out hb)))
        clear hb hd19 hd20
        have ys_x_11 := TQ.st (M.out.1); have st_x_11 := ys_x_11.1; have st_x_12 := ys_x_11.2.1; have st_x_13 := ys_x_11.2.2.1; have st_x_14 := ys_x_11.2.2.2; clear ys_x_11
        have ys_x_15 := TQ.st (M.out.2.1); have st_x_15 := ys_x_15.1; have st_x_16 := ys_x_15.2.1; have st_x_17 := ys_x_15.2.2.1; have st_x_18 := ys_x_15.2.2.2; clear ys_x_15
        go_upto_region 8 with fail
        clear st_x_11 st_x_12 st_x_13 st_x_14 st_x_15 st_x_16 st_x_17 st_x_18
        obtain ⟨w9, hv⟩ : ∃ w_ : World, w_ = (w8.alloc (.cells #[x_11, x_12, x_13, x_14, x_15, x_16, x_17, x_18] 28)) := ⟨_, rfl⟩
        rw [← hv]
        have ow4_ : w.heap.size + 1 + 1 + 1 < w8.heap.size := ((M.out.2.2.1)).lt
        replace M := Lib.hid (And.intro (hv ▸ bx1 w8 28 #[x_11, x_12, x_13, x_14, x_15, x_16, x_17, x_18]) (Goes.go M.out (hv ▸ below_alloc _ _ : Below w8.heap.size w8 w9)))
        clear hv
        have y2 := (M.out.2.2.2.2.1).d8; have p2_0 := y2.1; have p2_1 := y2.2.1; have p2_2 := y2.2.2.1; have p2_3 := y2.2.2.2.1; have p2_4 := y2.2.2.2.2.1; have p2_5 := y2.2.2.2.2.2.1; have p2_6 := y2.2.2.2.2.2.2.1; have p2_7 := y2.2.2.2.2.2.2.2; clear y2
        have y3 := (M.out.2.2.2.1).d8; have p3_0 := y3.1; have p3_1 := y3.2.1; have p3_2 := y3.2.2.1; have p3_3 := y3.2.2.2.1; have p3_4 := y3.2.2.2.2.1; have p3_5 := y3.2.2.2.2.2.1; have p3_6 := y3.2.2.2.2.2.2.1; have p3_7 := y3.2.2.2.2.2.2.2; clear y3
        go_wp2_with fail
        clear p2_0 p2_1 p2_2 p2_3 p2_4 p2_5 p2_6 p2_7 p3_0 p3_1 p3_2 p3_3 p3_4 p3_5 p3_6 p3_7
        refine (play_some (G := G) (p := s1) (q := s2) (r := t1) (s := t2) (lo := tl) (hi := th) (i := (n : Int)) (Nat.le_trans hG (M.out.2.2.2.2.2.2.2).size) (K5.out.keep (M.out.2.2.2.2.2.2.2)) (K6.out.keep (M.out.2.2.2.2.2.2.2)) (K7.out.keep (M.out.2.2.2.2.2.2.2)) (K8.out.keep (M.out.2.2.2.2.2.2.2)) (Fz.mono Z5.out (by omega)) (Fz.mono Z6.out (by omega)) (Fz.mono Z7.out (by omega)) (Fz.mono Z8.out (by omega)) HCO.out HDO.out hlt rfl HO2.out).mono ?_
        rintro e w10 ⟨x_21, x_22, x_23, x_24, x_25, x_26, x_27, x_28, rfl, hd29, hd30, hb⟩
        replace M := Lib.hid (And.intro hd29 (And.intro hd30 (Goes.go M.out hb)))
        clear hb hd29 hd30
        have ys_x_21 := TQ.st (M.out.1); have st_x_21 := ys_x_21.1; have st_x_22 := ys_x_21.2.1; have st_x_23 := ys_x_21.2.2.1; have st_x_24 := ys_x_21.2.2.2; clear ys_x_21
        have ys_x_25 := TQ.st (M.out.2.1); have st_x_25 := ys_x_25.1; have st_x_26 := ys_x_25.2.1; have st_x_27 := ys_x_25.2.2.1; have st_x_28 := ys_x_25.2.2.2; clear ys_x_25
        go_upto_region 9 with fail
        clear st_x_21 st_x_22 st_x_23 st_x_24 st_x_25 st_x_26 st_x_27 st_x_28
        obtain ⟨w11, hv⟩ : ∃ w_ : World, w_ = (w10.alloc (.cells #[x_21, x_22, x_23, x_24, x_25, x_26, x_27, x_28] 28)) := ⟨_, rfl⟩
        rw [← hv]
        have ow5_ : w8.heap.size < w10.heap.size := ((M.out.2.2.1)).lt
        replace M := Lib.hid (And.intro (hv ▸ bx1 w10 28 #[x_21, x_22, x_23, x_24, x_25, x_26, x_27, x_28]) (Goes.go M.out (hv ▸ below_alloc _ _ : Below w10.heap.size w10 w11)))
        clear hv
        have y4 := (M.out.2.2.2.1).d8; have p4_0 := y4.1; have p4_1 := y4.2.1; have p4_2 := y4.2.2.1; have p4_3 := y4.2.2.2.1; have p4_4 := y4.2.2.2.2.1; have p4_5 := y4.2.2.2.2.2.1; have p4_6 := y4.2.2.2.2.2.2.1; have p4_7 := y4.2.2.2.2.2.2.2; clear y4
        have y5 := (M.out.1).d8; have p5_0 := y5.1; have p5_1 := y5.2.1; have p5_2 := y5.2.2.1; have p5_3 := y5.2.2.2.1; have p5_4 := y5.2.2.2.2.1; have p5_5 := y5.2.2.2.2.2.1; have p5_6 := y5.2.2.2.2.2.2.1; have p5_7 := y5.2.2.2.2.2.2.2; clear y5
        go_wp2_with fail
        clear p4_0 p4_1 p4_2 p4_3 p4_4 p4_5 p4_6 p4_7 p5_0 p5_1 p5_2 p5_3 p5_4 p5_5 p5_6 p5_7
        refine (spInside_q (G := G) (p := lo) (q := hi) (r := tl) (s := th) (b_ := true) (Nat.le_trans hG (M.out.2.2.2.2.2.2.2.2.2.2).size) (M.out.2.2.2.2.1) (M.out.2.2.2.2.2.1) (M.out.2.1) (M.out.2.2.1) (Fz.mono HLS1.out (by omega)) (Fz.mono HHS1.out (by omega)) (Fz.mono HLS2.out (by omega)) (Fz.mono HHS2.out (by omega)) HOK1.out HOK2.out HIN.out).mono ?_
        rintro e w12 ⟨rfl, hb⟩
        replace M := Lib.hid (Goes.go M.out hb)
        clear hb
        go_wp2_with fail
        go_roundw
        case rel => exact ⟨(n + 1), by go_num, Lib.hid (And.intro (M.out.2.2.2.2.2.2.1) (And.intro (M.out.2.2.2.2.2.2.2.1) (And.intro (M.out.2.2.2.2.2.2.2.2.1) (And.intro (M.out.2.2.2.2.2.2.2.2.2.1) (M.out.2.2.2.2.2.2.2.2.2.2)))))⟩
        case measure => simp [RowKit.intOf] <;> omega
    ·
      have hI : ¬ (n : Int) < 6 := by omega
      have y0 := (M.out.2.2.2.1).d8; have p0_0 := y0.1; have p0_1 := y0.2.1; have p0_2 := y0.2.2.1; have p0_3 := y0.2.2.2.1; have p0_4 := y0.2.2.2.2.1; have p0_5 := y0.2.2.2.2.2.1; have p0_6 := y0.2.2.2.2.2.2.1; have p0_7 := y0.2.2.2.2.2.2.2; clear y0
      have y1 := (M.out.2.2.1).d8; have p1_0 := y1.1; have p1_1 := y1.2.1; have p1_2 := y1.2.2.1; have p1_3 := y1.2.2.2.1; have p1_4 := y1.2.2.2.2.1; have p1_5 := y1.2.2.2.2.2.1; have p1_6 := y1.2.2.2.2.2.2.1; have p1_7 := y1.2.2.2.2.2.2.2; clear y1
      go_wp2_with fail
      clear p0_0 p0_1 p0_2 p0_3 p0_4 p0_5 p0_6 p0_7 p1_0 p1_1 p1_2 p1_3 p1_4 p1_5 p1_6 p1_7
      refine (spHull_q (G := G) (p := p1) (q := p2) (r := r1) (s := r2) (lo := hl) (hi := hh) (Nat.le_trans hG (M.out.2.2.2.2).size) (K1.out.keep (M.out.2.2.2.2)) (K2.out.keep (M.out.2.2.2.2)) (K3.out.keep (M.out.2.2.2.2)) (K4.out.keep (M.out.2.2.2.2)) (Fz.mono Z1.out (by omega)) (Fz.mono Z2.out (by omega)) (Fz.mono Z3.out (by omega)) (Fz.mono Z4.out (by omega)) HAO.out HBO.out HHL.out HHH.out).mono ?_
      rintro e w8 ⟨x_31, x_32, x_33, x_34, x_35, x_36, x_37, x_38, rfl, hd39, hd40, hb⟩
      replace M := Lib.hid (And.intro hd39 (And.intro hd40 (Goes.go M.out hb)))
      clear hb hd39 hd40
      have ys_x_31 := TQ.st (M.out.1); have st_x_31 := ys_x_31.1; have st_x_32 := ys_x_31.2.1; have st_x_33 := ys_x_31.2.2.1; have st_x_34 := ys_x_31.2.2.2; clear ys_x_31
      have ys_x_35 := TQ.st (M.out.2.1); have st_x_35 := ys_x_35.1; have st_x_36 := ys_x_35.2.1; have st_x_37 := ys_x_35.2.2.1; have st_x_38 := ys_x_35.2.2.2; clear ys_x_35
      go_upto_region 12 with fail
      clear st_x_31 st_x_32 st_x_33 st_x_34 st_x_35 st_x_36 st_x_37 st_x_38
      obtain ⟨w9, hv⟩ : ∃ w_ : World, w_ = (w8.alloc (.cells #[x_31, x_32, x_33, x_34, x_35, x_36, x_37, x_38] 28)) := ⟨_, rfl⟩
      rw [← hv]
      have ow4_ : w.heap.size + 1 + 1 + 1 < w8.heap.size := ((M.out.2.2.1)).lt
      replace M := Lib.hid (And.intro (hv ▸ bx1 w8 28 #[x_31, x_32, x_33, x_34, x_35, x_36, x_37, x_38]) (Goes.go M.out (hv ▸ below_alloc _ _ : Below w8.heap.size w8 w9)))
      clear hv
      have y2 := (M.out.2.2.2.2.1).d8; have p2_0 := y2.1; have p2_1 := y2.2.1; have p2_2 := y2.2.2.1; have p2_3 := y2.2.2.2.1; have p2_4 := y2.2.2.2.2.1; have p2_5 := y2.2.2.2.2.2.1; have p2_6 := y2.2.2.2.2.2.2.1; have p2_7 := y2.2.2.2.2.2.2.2; clear y2
      have y3 := (M.out.2.2.2.1).d8; have p3_0 := y3.1; have p3_1 := y3.2.1; have p3_2 := y3.2.2.1; have p3_3 := y3.2.2.2.1; have p3_4 := y3.2.2.2.2.1; have p3_5 := y3.2.2.2.2.2.1; have p3_6 := y3.2.2.2.2.2.2.1; have p3_7 := y3.2.2.2.2.2.2.2; clear y3
      go_wp2_with fail
      clear p2_0 p2_1 p2_2 p2_3 p2_4 p2_5 p2_6 p2_7 p3_0 p3_1 p3_2 p3_3 p3_4 p3_5 p3_6 p3_7
      refine (spHull_q (G := G) (p := s1) (q := s2) (r := t1) (s := t2) (lo := il) (hi := ih) (Nat.le_trans hG (M.out.2.2.2.2.2.2.2).size) (K5.out.keep (M.out.2.2.2.2.2.2.2)) (K6.out.keep (M.out.2.2.2.2.2.2.2)) (K7.out.keep (M.out.2.2.2.2.2.2.2)) (K8.out.keep (M.out.2.2.2.2.2.2.2)) (Fz.mono Z5.out (by omega)) (Fz.mono Z6.out (by omega)) (Fz.mono Z7.out (by omega)) (Fz.mono Z8.out (by omega)) HCO.out HDO.out HIL.out HIH.out).mono ?_
      rintro e w10 ⟨x_41, x_42, x_43, x_44, x_45, x_46, x_47, x_48, rfl, hd49, hd50, hb⟩
      replace M := Lib.hid (And.intro hd49 (And.intro hd50 (Goes.go M.out hb)))
      clear hb hd49 hd50
      have ys_x_41 := TQ.st (M.out.1); have st_x_41 := ys_x_41.1; have st_x_42 := ys_x_41.2.1; have st_x_43 := ys_x_41.2.2.1; have st_x_44 := ys_x_41.2.2.2; clear ys_x_41
      have ys_x_45 := TQ.st (M.out.2.1); have st_x_45 := ys_x_45.1; have st_x_46 := ys_x_45.2.1; have st_x_47 := ys_x_45.2.2.1; have st_x_48 := ys_x_45.2.2.2; clear ys_x_45
      go_upto_region 13 with fail
      clear st_x_41 st_x_42 st_x_43 st_x_44 st_x_45 st_x_46 st_x_47 st_x_48
      obtain ⟨w11, hv⟩ : ∃ w_ : World, w_ = (w10.alloc (.cells #[x_41, x_42, x_43, x_44, x_45, x_46, x_47, x_48] 28)) := ⟨_, rfl⟩
      rw [← hv]
      have ow5_ : w8.heap.size < w10.heap.size := ((M.out.2.2.1)).lt
      replace M := Lib.hid (And.intro (hv ▸ bx1 w10 28 #[x_41, x_42, x_43, x_44, x_45, x_46, x_47, x_48]) (Goes.go M.out (hv ▸ below_alloc _ _ : Below w10.heap.size w10 w11)))
      clear hv
      by_cases hm1 : minQ p2 r2 < maxQ p1 r1
      ·
        have HM1 := Lib.hid hm1; clear hm1
        by_cases hm2 : minQ s2 t2 < maxQ s1 t1
        ·
          have HM2 := Lib.hid hm2; clear hm2
          have y0 := (M.out.2.2.2.2.2.2.2.2.2.1).d8; have p0_0 := y0.1; have p0_1 := y0.2.1; have p0_2 := y0.2.2.1; have p0_3 := y0.2.2.2.1; have p0_4 := y0.2.2.2.2.1; have p0_5 := y0.2.2.2.2.2.1; have p0_6 := y0.2.2.2.2.2.2.1; have p0_7 := y0.2.2.2.2.2.2.2; clear y0
          have y1 := (M.out.2.2.2.2.2.2.2.2.1).d8; have p1_0 := y1.1; have p1_1 := y1.2.1; have p1_2 := y1.2.2.1; have p1_3 := y1.2.2.2.1; have p1_4 := y1.2.2.2.2.1; have p1_5 := y1.2.2.2.2.2.1; have p1_6 := y1.2.2.2.2.2.2.1; have p1_7 := y1.2.2.2.2.2.2.2; clear y1
          go_wp2_with fail
          clear p0_0 p0_1 p0_2 p0_3 p0_4 p0_5 p0_6 p0_7 p1_0 p1_1 p1_2 p1_3 p1_4 p1_5 p1_6 p1_7
          refine (spMeet_none (G := G) (p := p1) (q := p2) (r := r1) (s := r2) (Nat.le_trans hG (M.out.2.2.2.2.2.2.2.2.2.2).size) (K1.out.keep (M.out.2.2.2.2.2.2.2.2.2.2)) (K2.out.keep (M.out.2.2.2.2.2.2.2.2.2.2)) (K3.out.keep (M.out.2.2.2.2.2.2.2.2.2.2)) (K4.out.keep (M.out.2.2.2.2.2.2.2.2.2.2)) (Fz.mono Z1.out (by omega)) (Fz.mono Z2.out (by omega)) (Fz.mono Z3.out (by omega)) (Fz.mono Z4.out (by omega)) HAO.out HBO.out HM1.out).mono ?_
          rintro e w12 ⟨rfl, hb⟩
          replace M := Lib.hid (Goes.go M.out hb)
          clear hb
          go_upto_region 14 with fail
          obtain ⟨w13, hv⟩ : ∃ w_ : World, w_ = (w12.alloc (.cells #[.int .i64 0, .slice none 0 0, .int .i64 0, .slice none 0 0, .int .i64 0, .slice none 0 0, .int .i64 0, .slice none 0 0] 28)) := ⟨_, rfl⟩
          rw [← hv]
          have ow6_ : w10.heap.size < w12.heap.size := ((M.out.1)).lt
          replace M := Lib.hid (And.intro (hv ▸ bx1 w12 28 #[.int .i64 0, .slice none 0 0, .int .i64 0, .slice none 0 0, .int .i64 0, .slice none 0 0, .int .i64 0, .slice none 0 0]) (Goes.go M.out (hv ▸ below_alloc _ _ : Below w12.heap.size w12 w13)))
          clear hv
          have y2 := (M.out.2.2.2.2.2.2.2.2.1).d8; have p2_0 := y2.1; have p2_1 := y2.2.1; have p2_2 := y2.2.2.1; have p2_3 := y2.2.2.2.1; have p2_4 := y2.2.2.2.2.1; have p2_5 := y2.2.2.2.2.2.1; have p2_6 := y2.2.2.2.2.2.2.1; have p2_7 := y2.2.2.2.2.2.2.2; clear y2
          have y3 := (M.out.2.2.2.2.2.2.2.1).d8; have p3_0 := y3.1; have p3_1 := y3.2.1; have p3_2 := y3.2.2.1; have p3_3 := y3.2.2.2.1; have p3_4 := y3.2.2.2.2.1; have p3_5 := y3.2.2.2.2.2.1; have p3_6 := y3.2.2.2.2.2.2.1; have p3_7 := y3.2.2.2.2.2.2.2; clear y3
          go_wp2_with fail
          clear p2_0 p2_1 p2_2 p2_3 p2_4 p2_5 p2_6 p2_7 p3_0 p3_1 p3_2 p3_3 p3_4 p3_5 p3_6 p3_7
          refine (spMeet_none (G := G) (p := s1) (q := s2) (r := t1) (s := t2) (Nat.le_trans hG (M.out.2.2.2.2.2.2.2.2.2.2.2).size) (K5.out.keep (M.out.2.2.2.2.2.2.2.2.2.2.2)) (K6.out.keep (M.out.2.2.2.2.2.2.2.2.2.2.2)) (K7.out.keep (M.out.2.2.2.2.2.2.2.2.2.2.2)) (K8.out.keep (M.out.2.2.2.2.2.2.2.2.2.2.2)) (Fz.mono Z5.out (by omega)) (Fz.mono Z6.out (by omega)) (Fz.mono Z7.out (by omega)) (Fz.mono Z8.out (by omega)) HCO.out HDO.out HM2.out).mono ?_
          rintro e w14 ⟨rfl, hb⟩
          replace M := Lib.hid (Goes.go M.out hb)
          clear hb
          go_upto_region 15 with fail
          obtain ⟨w15, hv⟩ : ∃ w_ : World, w_ = (w14.alloc (.cells #[.int .i64 0, .slice none 0 0, .int .i64 0, .slice none 0 0, .int .i64 0, .slice none 0 0, .int .i64 0, .slice none 0 0] 28)) := ⟨_, rfl⟩
          rw [← hv]
          have ow7_ : w12.heap.size < w14.heap.size := ((M.out.1)).lt
          replace M := Lib.hid (And.intro (hv ▸ bx1 w14 28 #[.int .i64 0, .slice none 0 0, .int .i64 0, .slice none 0 0, .int .i64 0, .slice none 0 0, .int .i64 0, .slice none 0 0]) (Goes.go M.out (hv ▸ below_alloc _ _ : Below w14.heap.size w14 w15)))
          clear hv
          go_wp2_with fail
          replace M := Lib.hid (And.intro (M.out.2.2.1) (And.intro (M.out.2.2.2.1) (And.intro (M.out.2.2.2.2.1) (And.intro (M.out.2.2.2.2.2.1) (And.intro (M.out.2.2.2.2.2.2.1) (And.intro (M.out.2.2.2.2.2.2.2.1) (And.intro (M.out.2.2.2.2.2.2.2.2.2.1) (And.intro (M.out.2.2.2.2.2.2.2.2.2.2.2.1) (M.out.2.2.2.2.2.2.2.2.2.2.2.2)))))))))
          obtain ⟨w16, hv⟩ : ∃ w_ : World, w_ = w15.drew := ⟨_, rfl⟩
          replace M := Lib.hid (Goes.go M.out (hv ▸ below_drew _ : Below w15.heap.size w15 w16))
          refine wp_region_held_drew (S := (fun w' => w'.cell? ⟨w.heap.size, 0, none⟩ = some (u0) ∧ w'.cell? ⟨w.heap.size, 1, none⟩ = some (u1) ∧ w'.cell? ⟨w.heap.size, 2, none⟩ = some (u2) ∧ w'.cell? ⟨w.heap.size, 3, none⟩ = some (u3) ∧ w'.cell? ⟨w.heap.size, 4, none⟩ = some (u4) ∧ w'.cell? ⟨w.heap.size, 5, none⟩ = some (u5) ∧ w'.cell? ⟨w.heap.size, 6, none⟩ = some (u6) ∧ w'.cell? ⟨w.heap.size, 7, none⟩ = some (u7) ∧ w'.cell? ⟨w.heap.size + 1 + 1, 0, none⟩ = some (y0) ∧ w'.cell? ⟨w.heap.size + 1 + 1, 1, none⟩ = some (y1) ∧ w'.cell? ⟨w.heap.size + 1 + 1, 2, none⟩ = some (y2) ∧ w'.cell? ⟨w.heap.size + 1 + 1, 3, none⟩ = some (y3) ∧ w'.cell? ⟨w.heap.size + 1 + 1, 4, none⟩ = some (y4) ∧ w'.cell? ⟨w.heap.size + 1 + 1, 5, none⟩ = some (y5) ∧ w'.cell? ⟨w.heap.size + 1 + 1, 6, none⟩ = some (y6) ∧ w'.cell? ⟨w.heap.size + 1 + 1, 7, none⟩ = some (y7) ∧ w'.cell? ⟨w8.heap.size, 0, none⟩ = some (x_31) ∧ w'.cell? ⟨w8.heap.size, 1, none⟩ = some (x_32) ∧ w'.cell? ⟨w8.heap.size, 2, none⟩ = some (x_33) ∧ w'.cell? ⟨w8.heap.size, 3, none⟩ = some (x_34) ∧ w'.cell? ⟨w8.heap.size, 4, none⟩ = some (x_35) ∧ w'.cell? ⟨w8.heap.size, 5, none⟩ = some (x_36) ∧ w'.cell? ⟨w8.heap.size, 6, none⟩ = some (x_37) ∧ w'.cell? ⟨w8.heap.size, 7, none⟩ = some (x_38) ∧ w'.cell? ⟨w10.heap.size, 0, none⟩ = some (x_41) ∧ w'.cell? ⟨w10.heap.size, 1, none⟩ = some (x_42) ∧ w'.cell? ⟨w10.heap.size, 2, none⟩ = some (x_43) ∧ w'.cell? ⟨w10.heap.size, 3, none⟩ = some (x_44) ∧ w'.cell? ⟨w10.heap.size, 4, none⟩ = some (x_45) ∧ w'.cell? ⟨w10.heap.size, 5, none⟩ = some (x_46) ∧ w'.cell? ⟨w10.heap.size, 6, none⟩ = some (x_47) ∧ w'.cell? ⟨w10.heap.size, 7, none⟩ = some (x_48))) (by kernel_rfl) (by rw [← hv]; exact ⟨(M.out.2.2.2.2.2.2.2.1).at.1 0, (M.out.2.2.2.2.2.2.2.1).at.1 1, (M.out.2.2.2.2.2.2.2.1).at.1 2, (M.out.2.2.2.2.2.2.2.1).at.1 3, (M.out.2.2.2.2.2.2.2.1).at.1 4, (M.out.2.2.2.2.2.2.2.1).at.1 5, (M.out.2.2.2.2.2.2.2.1).at.1 6, (M.out.2.2.2.2.2.2.2.1).at.1 7, (M.out.2.2.2.2.2.2.1).at.1 0, (M.out.2.2.2.2.2.2.1).at.1 1, (M.out.2.2.2.2.2.2.1).at.1 2, (M.out.2.2.2.2.2.2.1).at.1 3, (M.out.2.2.2.2.2.2.1).at.1 4, (M.out.2.2.2.2.2.2.1).at.1 5, (M.out.2.2.2.2.2.2.1).at.1 6, (M.out.2.2.2.2.2.2.1).at.1 7, (M.out.2.2.2.1).at.1 0, (M.out.2.2.2.1).at.1 1, (M.out.2.2.2.1).at.1 2, (M.out.2.2.2.1).at.1 3, (M.out.2.2.2.1).at.1 4, (M.out.2.2.2.1).at.1 5, (M.out.2.2.2.1).at.1 6, (M.out.2.2.2.1).at.1 7, (M.out.1).at.1 0, (M.out.1).at.1 1, (M.out.1).at.1 2, (M.out.1).at.1 3, (M.out.1).at.1 4, (M.out.1).at.1 5, (M.out.1).at.1 6, (M.out.1).at.1 7⟩) (fun hH75 => ?_)
          rw [← hv] at hH75 ⊢
          clear hv
          refine tk at0 ?_
          refine tk at1 ?_
          refine tk at2 ?_
          refine tk at3 ?_
          refine tk at4 ?_
          refine tk at5 ?_
          refine tk at6 ?_
          refine tk at7 ?_
          refine tk at8 ?_
          refine tk at9 ?_
          refine tk at10 ?_
          refine tk at11 ?_
          refine wpAnyH_ready (rs := [12]) (by kernel_rfl) (by simp) ?_
          refine AllReadyH.cons at12 (fun K hK => ?_) AllReadyH.nil
          go_simp
          refine (spInside_q (G := G) (p := hl) (q := hh) (r := il) (s := ih) (b_ := true) (Nat.le_trans hG (M.out.2.2.2.2.2.2.2.2).size) (M.out.2.2.2.2.1) (M.out.2.2.2.2.2.1) (M.out.2.1) (M.out.2.2.1) (Fz.mono HSa.out (by omega)) (Fz.mono HSb.out (by omega)) (Fz.mono HSc.out (by omega)) (Fz.mono HSd.out (by omega)) HHO.out HIO.out HHI.out).mono ?_
          rintro e w17 ⟨rfl, hb⟩
          replace M := Lib.hid (Goes.go M.out hb)
          clear hb
          (try go_wp2_with fail)
          refine hK.out _ _ (⟨(M.out.2.2.2.2.2.2.2.1).at.1 0, (M.out.2.2.2.2.2.2.2.1).at.1 1, (M.out.2.2.2.2.2.2.2.1).at.1 2, (M.out.2.2.2.2.2.2.2.1).at.1 3, (M.out.2.2.2.2.2.2.2.1).at.1 4, (M.out.2.2.2.2.2.2.2.1).at.1 5, (M.out.2.2.2.2.2.2.2.1).at.1 6, (M.out.2.2.2.2.2.2.2.1).at.1 7, (M.out.2.2.2.2.2.2.1).at.1 0, (M.out.2.2.2.2.2.2.1).at.1 1, (M.out.2.2.2.2.2.2.1).at.1 2, (M.out.2.2.2.2.2.2.1).at.1 3, (M.out.2.2.2.2.2.2.1).at.1 4, (M.out.2.2.2.2.2.2.1).at.1 5, (M.out.2.2.2.2.2.2.1).at.1 6, (M.out.2.2.2.2.2.2.1).at.1 7, (M.out.2.2.2.1).at.1 0, (M.out.2.2.2.1).at.1 1, (M.out.2.2.2.1).at.1 2, (M.out.2.2.2.1).at.1 3, (M.out.2.2.2.1).at.1 4, (M.out.2.2.2.1).at.1 5, (M.out.2.2.2.1).at.1 6, (M.out.2.2.2.1).at.1 7, (M.out.1).at.1 0, (M.out.1).at.1 1, (M.out.1).at.1 2, (M.out.1).at.1 3, (M.out.1).at.1 4, (M.out.1).at.1 5, (M.out.1).at.1 6, (M.out.1).at.1 7⟩) (fun hH76 => ?_)
          clear hK K hH75
          (try simp only [Act.put, List.setIfInBounds_toArray, List.set_cons_zero, List.set_cons_succ])
          refine tk at13 ?_
          refine tk at14 ?_
          refine tk at15 ?_
          refine tk at17 ?_
          refine wpAnyH_ready (rs := [16]) (by kernel_rfl) (by simp) ?_
          refine AllReadyH.cons at16 (fun K hK => ?_) AllReadyH.nil
          go_simp
          obtain ⟨q85, eq85⟩ : ∃ v_ : Rat, v_ = (-p2) := ⟨_, rfl⟩
          obtain ⟨q86, eq86⟩ : ∃ v_ : Rat, v_ = (-p1) := ⟨_, rfl⟩
          refine (spNeg_q (G := G) (p := p1) (q := p2) (Nat.le_trans hG (M.out.2.2.2.2.2.2.2.2).size) (K1.out.keep (M.out.2.2.2.2.2.2.2.2)) (K2.out.keep (M.out.2.2.2.2.2.2.2.2)) (Fz.mono Z1.out (by omega)) (Fz.mono Z2.out (by omega)) HAO.out).mono ?_
          rintro e w18 ⟨x_77, x_78, x_79, x_80, x_81, x_82, x_83, x_84, rfl, hd87, hd88, hb⟩
          rw [← eq85] at hd87
          have Sq85 : Hid (Fz q85 4) := by show Fz q85 4; rw [eq85]; exact (Fz.neg Z2.out)
          have Eq85 := Lib.hid eq85; clear eq85
          rw [← eq86] at hd88
          have Sq86 : Hid (Fz q86 4) := by show Fz q86 4; rw [eq86]; exact (Fz.neg Z1.out)
          have Eq86 := Lib.hid eq86; clear eq86
          replace M := Lib.hid (And.intro hd87 (And.intro hd88 (Goes.go M.out hb)))
          clear hb hd87 hd88
          (try go_wp2_with fail)
          refine hK.out _ _ (⟨(M.out.2.2.2.2.2.2.2.2.2.1).at.1 0, (M.out.2.2.2.2.2.2.2.2.2.1).at.1 1, (M.out.2.2.2.2.2.2.2.2.2.1).at.1 2, (M.out.2.2.2.2.2.2.2.2.2.1).at.1 3, (M.out.2.2.2.2.2.2.2.2.2.1).at.1 4, (M.out.2.2.2.2.2.2.2.2.2.1).at.1 5, (M.out.2.2.2.2.2.2.2.2.2.1).at.1 6, (M.out.2.2.2.2.2.2.2.2.2.1).at.1 7, (M.out.2.2.2.2.2.2.2.2.1).at.1 0, (M.out.2.2.2.2.2.2.2.2.1).at.1 1, (M.out.2.2.2.2.2.2.2.2.1).at.1 2, (M.out.2.2.2.2.2.2.2.2.1).at.1 3, (M.out.2.2.2.2.2.2.2.2.1).at.1 4, (M.out.2.2.2.2.2.2.2.2.1).at.1 5, (M.out.2.2.2.2.2.2.2.2.1).at.1 6, (M.out.2.2.2.2.2.2.2.2.1).at.1 7, (M.out.2.2.2.2.2.1).at.1 0, (M.out.2.2.2.2.2.1).at.1 1, (M.out.2.2.2.2.2.1).at.1 2, (M.out.2.2.2.2.2.1).at.1 3, (M.out.2.2.2.2.2.1).at.1 4, (M.out.2.2.2.2.2.1).at.1 5, (M.out.2.2.2.2.2.1).at.1 6, (M.out.2.2.2.2.2.1).at.1 7, (M.out.2.2.1).at.1 0, (M.out.2.2.1).at.1 1, (M.out.2.2.1).at.1 2, (M.out.2.2.1).at.1 3, (M.out.2.2.1).at.1 4, (M.out.2.2.1).at.1 5, (M.out.2.2.1).at.1 6, (M.out.2.2.1).at.1 7⟩) (fun hH89 => ?_)
          clear hK K hH76
          (try simp only [Act.put, List.setIfInBounds_toArray, List.set_cons_zero, List.set_cons_succ])
          refine wpAnyH_ready (rs := [18]) (by kernel_rfl) (by simp) ?_
          refine AllReadyH.cons at18 (fun K hK => ?_) AllReadyH.nil
          go_simp
          obtain ⟨q98, eq98⟩ : ∃ v_ : Rat, v_ = (-s2) := ⟨_, rfl⟩
          obtain ⟨q99, eq99⟩ : ∃ v_ : Rat, v_ = (-s1) := ⟨_, rfl⟩
          refine (spNeg_q (G := G) (p := s1) (q := s2) (Nat.le_trans hG (M.out.2.2.2.2.2.2.2.2.2.2).size) (K5.out.keep (M.out.2.2.2.2.2.2.2.2.2.2)) (K6.out.keep (M.out.2.2.2.2.2.2.2.2.2.2)) (Fz.mono Z5.out (by omega)) (Fz.mono Z6.out (by omega)) HCO.out).mono ?_
          rintro e w19 ⟨x_90, x_91, x_92, x_93, x_94, x_95, x_96, x_97, rfl, hd100, hd101, hb⟩
          rw [← eq98] at hd100
          have Sq98 : Hid (Fz q98 4) := by show Fz q98 4; rw [eq98]; exact (Fz.neg Z6.out)
          have Eq98 := Lib.hid eq98; clear eq98
          rw [← eq99] at hd101
          have Sq99 : Hid (Fz q99 4) := by show Fz q99 4; rw [eq99]; exact (Fz.neg Z5.out)
          have Eq99 := Lib.hid eq99; clear eq99
          replace M := Lib.hid (And.intro hd100 (And.intro hd101 (Goes.go M.out hb)))
          clear hb hd100 hd101
          (try go_wp2_with fail)
          refine hK.out _ _ (⟨(M.out.2.2.2.2.2.2.2.2.2.2.2.1).at.1 0, (M.out.2.2.2.2.2.2.2.2.2.2.2.1).at.1 1, (M.out.2.2.2.2.2.2.2.2.2.2.2.1).at.1 2, (M.out.2.2.2.2.2.2.2.2.2.2.2.1).at.1 3, (M.out.2.2.2.2.2.2.2.2.2.2.2.1).at.1 4, (M.out.2.2.2.2.2.2.2.2.2.2.2.1).at.1 5, (M.out.2.2.2.2.2.2.2.2.2.2.2.1).at.1 6, (M.out.2.2.2.2.2.2.2.2.2.2.2.1).at.1 7, (M.out.2.2.2.2.2.2.2.2.2.2.1).at.1 0, (M.out.2.2.2.2.2.2.2.2.2.2.1).at.1 1, (M.out.2.2.2.2.2.2.2.2.2.2.1).at.1 2, (M.out.2.2.2.2.2.2.2.2.2.2.1).at.1 3, (M.out.2.2.2.2.2.2.2.2.2.2.1).at.1 4, (M.out.2.2.2.2.2.2.2.2.2.2.1).at.1 5, (M.out.2.2.2.2.2.2.2.2.2.2.1).at.1 6, (M.out.2.2.2.2.2.2.2.2.2.2.1).at.1 7, (M.out.2.2.2.2.2.2.2.1).at.1 0, (M.out.2.2.2.2.2.2.2.1).at.1 1, (M.out.2.2.2.2.2.2.2.1).at.1 2, (M.out.2.2.2.2.2.2.2.1).at.1 3, (M.out.2.2.2.2.2.2.2.1).at.1 4, (M.out.2.2.2.2.2.2.2.1).at.1 5, (M.out.2.2.2.2.2.2.2.1).at.1 6, (M.out.2.2.2.2.2.2.2.1).at.1 7, (M.out.2.2.2.2.1).at.1 0, (M.out.2.2.2.2.1).at.1 1, (M.out.2.2.2.2.1).at.1 2, (M.out.2.2.2.2.1).at.1 3, (M.out.2.2.2.2.1).at.1 4, (M.out.2.2.2.2.1).at.1 5, (M.out.2.2.2.2.1).at.1 6, (M.out.2.2.2.2.1).at.1 7⟩) (fun hH102 => ?_)
          clear hK K hH89
          (try simp only [Act.put, List.setIfInBounds_toArray, List.set_cons_zero, List.set_cons_succ])
          refine wpAnyH_ready (rs := [19]) (by kernel_rfl) (by simp) ?_
          refine AllReadyH.cons at19 (fun K hK => ?_) AllReadyH.nil
          go_simp
          refine (spInside_q (G := G) (p := q85) (q := q86) (r := q98) (s := q99) (b_ := true) (Nat.le_trans hG (M.out.2.2.2.2.2.2.2.2.2.2.2.2).size) (M.out.2.2.1) (M.out.2.2.2.1) (M.out.1) (M.out.2.1) (Fz.mono Sq85.out (by omega)) (Fz.mono Sq86.out (by omega)) (Fz.mono Sq98.out (by omega)) (Fz.mono Sq99.out (by omega)) (by rw [Eq86.out, Eq85.out]; exact Rat.neg_le_neg HAO.out) (by rw [Eq99.out, Eq98.out]; exact Rat.neg_le_neg HCO.out) (by rw [Eq99.out, Eq98.out, Eq86.out, Eq85.out]; exact HNI.out)).mono ?_
          rintro e w20 ⟨rfl, hb⟩
          replace M := Lib.hid (Goes.go M.out hb)
          clear hb
          (try go_wp2_with fail)
          refine hK.out _ _ (⟨(M.out.2.2.2.2.2.2.2.2.2.2.2.1).at.1 0, (M.out.2.2.2.2.2.2.2.2.2.2.2.1).at.1 1, (M.out.2.2.2.2.2.2.2.2.2.2.2.1).at.1 2, (M.out.2.2.2.2.2.2.2.2.2.2.2.1).at.1 3, (M.out.2.2.2.2.2.2.2.2.2.2.2.1).at.1 4, (M.out.2.2.2.2.2.2.2.2.2.2.2.1).at.1 5, (M.out.2.2.2.2.2.2.2.2.2.2.2.1).at.1 6, (M.out.2.2.2.2.2.2.2.2.2.2.2.1).at.1 7, (M.out.2.2.2.2.2.2.2.2.2.2.1).at.1 0, (M.out.2.2.2.2.2.2.2.2.2.2.1).at.1 1, (M.out.2.2.2.2.2.2.2.2.2.2.1).at.1 2, (M.out.2.2.2.2.2.2.2.2.2.2.1).at.1 3, (M.out.2.2.2.2.2.2.2.2.2.2.1).at.1 4, (M.out.2.2.2.2.2.2.2.2.2.2.1).at.1 5, (M.out.2.2.2.2.2.2.2.2.2.2.1).at.1 6, (M.out.2.2.2.2.2.2.2.2.2.2.1).at.1 7, (M.out.2.2.2.2.2.2.2.1).at.1 0, (M.out.2.2.2.2.2.2.2.1).at.1 1, (M.out.2.2.2.2.2.2.2.1).at.1 2, (M.out.2.2.2.2.2.2.2.1).at.1 3, (M.out.2.2.2.2.2.2.2.1).at.1 4, (M.out.2.2.2.2.2.2.2.1).at.1 5, (M.out.2.2.2.2.2.2.2.1).at.1 6, (M.out.2.2.2.2.2.2.2.1).at.1 7, (M.out.2.2.2.2.1).at.1 0, (M.out.2.2.2.2.1).at.1 1, (M.out.2.2.2.2.1).at.1 2, (M.out.2.2.2.2.1).at.1 3, (M.out.2.2.2.2.1).at.1 4, (M.out.2.2.2.2.1).at.1 5, (M.out.2.2.2.2.1).at.1 6, (M.out.2.2.2.2.1).at.1 7⟩) (fun hH103 => ?_)
          clear hK K hH102
          (try simp only [Act.put, List.setIfInBounds_toArray, List.set_cons_zero, List.set_cons_succ])
          refine tk at20 ?_
          refine tk at21 ?_
          refine wpAnyH_done (by kernel_rfl) ?_ _
          clear hH103
          go_wp2_with fail
          go_ret
          exact ⟨rfl, (M.out.2.2.2.2.2.2.2.2.2.2.2.2)⟩
        ·
          have HM2 := Lib.hid hm2; clear hm2
          have y0 := (M.out.2.2.2.2.2.2.2.2.2.1).d8; have p0_0 := y0.1; have p0_1 := y0.2.1; have p0_2 := y0.2.2.1; have p0_3 := y0.2.2.2.1; have p0_4 := y0.2.2.2.2.1; have p0_5 := y0.2.2.2.2.2.1; have p0_6 := y0.2.2.2.2.2.2.1; have p0_7 := y0.2.2.2.2.2.2.2; clear y0
          have y1 := (M.out.2.2.2.2.2.2.2.2.1).d8; have p1_0 := y1.1; have p1_1 := y1.2.1; have p1_2 := y1.2.2.1; have p1_3 := y1.2.2.2.1; have p1_4 := y1.2.2.2.2.1; have p1_5 := y1.2.2.2.2.2.1; have p1_6 := y1.2.2.2.2.2.2.1; have p1_7 := y1.2.2.2.2.2.2.2; clear y1
          go_wp2_with fail
          clear p0_0 p0_1 p0_2 p0_3 p0_4 p0_5 p0_6 p0_7 p1_0 p1_1 p1_2 p1_3 p1_4 p1_5 p1_6 p1_7
          refine (spMeet_none (G := G) (p := p1) (q := p2) (r := r1) (s := r2) (Nat.le_trans hG (M.out.2.2.2.2.2.2.2.2.2.2).size) (K1.out.keep (M.out.2.2.2.2.2.2.2.2.2.2)) (K2.out.keep (M.out.2.2.2.2.2.2.2.2.2.2)) (K3.out.keep (M.out.2.2.2.2.2.2.2.2.2.2)) (K4.out.keep (M.out.2.2.2.2.2.2.2.2.2.2)) (Fz.mono Z1.out (by omega)) (Fz.mono Z2.out (by omega)) (Fz.mono Z3.out (by omega)) (Fz.mono Z4.out (by omega)) HAO.out HBO.out HM1.out).mono ?_
          rintro e w12 ⟨rfl, hb⟩
          replace M := Lib.hid (Goes.go M.out hb)
          clear hb
          go_upto_region 14 with fail
          obtain ⟨w13, hv⟩ : ∃ w_ : World, w_ = (w12.alloc (.cells #[.int .i64 0, .slice none 0 0, .int .i64 0, .slice none 0 0, .int .i64 0, .slice none 0 0, .int .i64 0, .slice none 0 0] 28)) := ⟨_, rfl⟩
          rw [← hv]
          have ow6_ : w10.heap.size < w12.heap.size := ((M.out.1)).lt
          replace M := Lib.hid (And.intro (hv ▸ bx1 w12 28 #[.int .i64 0, .slice none 0 0, .int .i64 0, .slice none 0 0, .int .i64 0, .slice none 0 0, .int .i64 0, .slice none 0 0]) (Goes.go M.out (hv ▸ below_alloc _ _ : Below w12.heap.size w12 w13)))
          clear hv
          have y2 := (M.out.2.2.2.2.2.2.2.2.1).d8; have p2_0 := y2.1; have p2_1 := y2.2.1; have p2_2 := y2.2.2.1; have p2_3 := y2.2.2.2.1; have p2_4 := y2.2.2.2.2.1; have p2_5 := y2.2.2.2.2.2.1; have p2_6 := y2.2.2.2.2.2.2.1; have p2_7 := y2.2.2.2.2.2.2.2; clear y2
          have y3 := (M.out.2.2.2.2.2.2.2.1).d8; have p3_0 := y3.1; have p3_1 := y3.2.1; have p3_2 := y3.2.2.1; have p3_3 := y3.2.2.2.1; have p3_4 := y3.2.2.2.2.1; have p3_5 := y3.2.2.2.2.2.1; have p3_6 := y3.2.2.2.2.2.2.1; have p3_7 := y3.2.2.2.2.2.2.2; clear y3
          go_wp2_with fail
          clear p2_0 p2_1 p2_2 p2_3 p2_4 p2_5 p2_6 p2_7 p3_0 p3_1 p3_2 p3_3 p3_4 p3_5 p3_6 p3_7
          obtain ⟨q112, eq112⟩ : ∃ v_ : Rat, v_ = (maxQ s1 t1) := ⟨_, rfl⟩
          obtain ⟨q113, eq113⟩ : ∃ v_ : Rat, v_ = (minQ s2 t2) := ⟨_, rfl⟩
          refine (spMeet_q (G := G) (p := s1) (q := s2) (r := t1) (s := t2) (Nat.le_trans hG (M.out.2.2.2.2.2.2.2.2.2.2.2).size) (K5.out.keep (M.out.2.2.2.2.2.2.2.2.2.2.2)) (K6.out.keep (M.out.2.2.2.2.2.2.2.2.2.2.2)) (K7.out.keep (M.out.2.2.2.2.2.2.2.2.2.2.2)) (K8.out.keep (M.out.2.2.2.2.2.2.2.2.2.2.2)) (Fz.mono Z5.out (by omega)) (Fz.mono Z6.out (by omega)) (Fz.mono Z7.out (by omega)) (Fz.mono Z8.out (by omega)) HCO.out HDO.out HM2.out).mono ?_
          rintro e w14 ⟨x_104, x_105, x_106, x_107, x_108, x_109, x_110, x_111, rfl, hd114, hd115, hb⟩
          rw [← eq112] at hd114
          have Sq112 : Hid (Fz q112 4) := by show Fz q112 4; rw [eq112]; exact (Fz.maxQ Z5.out Z7.out)
          have Eq112 := Lib.hid eq112; clear eq112
          rw [← eq113] at hd115
          have Sq113 : Hid (Fz q113 4) := by show Fz q113 4; rw [eq113]; exact (Fz.minQ Z6.out Z8.out)
          have Eq113 := Lib.hid eq113; clear eq113
          replace M := Lib.hid (And.intro hd114 (And.intro hd115 (Goes.go M.out hb)))
          clear hb hd114 hd115
          have ys_x_104 := TQ.st (M.out.1); have st_x_104 := ys_x_104.1; have st_x_105 := ys_x_104.2.1; have st_x_106 := ys_x_104.2.2.1; have st_x_107 := ys_x_104.2.2.2; clear ys_x_104
          have ys_x_108 := TQ.st (M.out.2.1); have st_x_108 := ys_x_108.1; have st_x_109 := ys_x_108.2.1; have st_x_110 := ys_x_108.2.2.1; have st_x_111 := ys_x_108.2.2.2; clear ys_x_108
          go_upto_region 15 with fail
          clear st_x_104 st_x_105 st_x_106 st_x_107 st_x_108 st_x_109 st_x_110 st_x_111
          obtain ⟨w15, hv⟩ : ∃ w_ : World, w_ = (w14.alloc (.cells #[x_104, x_105, x_106, x_107, x_108, x_109, x_110, x_111] 28)) := ⟨_, rfl⟩
          rw [← hv]
          have ow7_ : w12.heap.size < w14.heap.size := ((M.out.2.2.1)).lt
          replace M := Lib.hid (And.intro (hv ▸ bx1 w14 28 #[x_104, x_105, x_106, x_107, x_108, x_109, x_110, x_111]) (Goes.go M.out (hv ▸ below_alloc _ _ : Below w14.heap.size w14 w15)))
          clear hv
          go_wp2_with fail
          replace M := Lib.hid (And.intro (M.out.2.2.2.2.1) (And.intro (M.out.2.2.2.2.2.1) (And.intro (M.out.2.2.2.2.2.2.1) (And.intro (M.out.2.2.2.2.2.2.2.1) (And.intro (M.out.2.2.2.2.2.2.2.2.1) (And.intro (M.out.2.2.2.2.2.2.2.2.2.1) (And.intro (M.out.2.2.2.2.2.2.2.2.2.2.2.1) (And.intro (M.out.2.2.2.2.2.2.2.2.2.2.2.2.2.1) (M.out.2.2.2.2.2.2.2.2.2.2.2.2.2.2)))))))))
          obtain ⟨w16, hv⟩ : ∃ w_ : World, w_ = w15.drew := ⟨_, rfl⟩
          replace M := Lib.hid (Goes.go M.out (hv ▸ below_drew _ : Below w15.heap.size w15 w16))
          refine wp_region_held_drew (S := (fun w' => w'.cell? ⟨w.heap.size, 0, none⟩ = some (u0) ∧ w'.cell? ⟨w.heap.size, 1, none⟩ = some (u1) ∧ w'.cell? ⟨w.heap.size, 2, none⟩ = some (u2) ∧ w'.cell? ⟨w.heap.size, 3, none⟩ = some (u3) ∧ w'.cell? ⟨w.heap.size, 4, none⟩ = some (u4) ∧ w'.cell? ⟨w.heap.size, 5, none⟩ = some (u5) ∧ w'.cell? ⟨w.heap.size, 6, none⟩ = some (u6) ∧ w'.cell? ⟨w.heap.size, 7, none⟩ = some (u7) ∧ w'.cell? ⟨w.heap.size + 1 + 1, 0, none⟩ = some (y0) ∧ w'.cell? ⟨w.heap.size + 1 + 1, 1, none⟩ = some (y1) ∧ w'.cell? ⟨w.heap.size + 1 + 1, 2, none⟩ = some (y2) ∧ w'.cell? ⟨w.heap.size + 1 + 1, 3, none⟩ = some (y3) ∧ w'.cell? ⟨w.heap.size + 1 + 1, 4, none⟩ = some (y4) ∧ w'.cell? ⟨w.heap.size + 1 + 1, 5, none⟩ = some (y5) ∧ w'.cell? ⟨w.heap.size + 1 + 1, 6, none⟩ = some (y6) ∧ w'.cell? ⟨w.heap.size + 1 + 1, 7, none⟩ = some (y7) ∧ w'.cell? ⟨w8.heap.size, 0, none⟩ = some (x_31) ∧ w'.cell? ⟨w8.heap.size, 1, none⟩ = some (x_32) ∧ w'.cell? ⟨w8.heap.size, 2, none⟩ = some (x_33) ∧ w'.cell? ⟨w8.heap.size, 3, none⟩ = some (x_34) ∧ w'.cell? ⟨w8.heap.size, 4, none⟩ = some (x_35) ∧ w'.cell? ⟨w8.heap.size, 5, none⟩ = some (x_36) ∧ w'.cell? ⟨w8.heap.size, 6, none⟩ = some (x_37) ∧ w'.cell? ⟨w8.heap.size, 7, none⟩ = some (x_38) ∧ w'.cell? ⟨w10.heap.size, 0, none⟩ = some (x_41) ∧ w'.cell? ⟨w10.heap.size, 1, none⟩ = some (x_42) ∧ w'.cell? ⟨w10.heap.size, 2, none⟩ = some (x_43) ∧ w'.cell? ⟨w10.heap.size, 3, none⟩ = some (x_44) ∧ w'.cell? ⟨w10.heap.size, 4, none⟩ = some (x_45) ∧ w'.cell? ⟨w10.heap.size, 5, none⟩ = some (x_46) ∧ w'.cell? ⟨w10.heap.size, 6, none⟩ = some (x_47) ∧ w'.cell? ⟨w10.heap.size, 7, none⟩ = some (x_48))) (by kernel_rfl) (by rw [← hv]; exact ⟨(M.out.2.2.2.2.2.2.2.1).at.1 0, (M.out.2.2.2.2.2.2.2.1).at.1 1, (M.out.2.2.2.2.2.2.2.1).at.1 2, (M.out.2.2.2.2.2.2.2.1).at.1 3, (M.out.2.2.2.2.2.2.2.1).at.1 4, (M.out.2.2.2.2.2.2.2.1).at.1 5, (M.out.2.2.2.2.2.2.2.1).at.1 6, (M.out.2.2.2.2.2.2.2.1).at.1 7, (M.out.2.2.2.2.2.2.1).at.1 0, (M.out.2.2.2.2.2.2.1).at.1 1, (M.out.2.2.2.2.2.2.1).at.1 2, (M.out.2.2.2.2.2.2.1).at.1 3, (M.out.2.2.2.2.2.2.1).at.1 4, (M.out.2.2.2.2.2.2.1).at.1 5, (M.out.2.2.2.2.2.2.1).at.1 6, (M.out.2.2.2.2.2.2.1).at.1 7, (M.out.2.2.2.1).at.1 0, (M.out.2.2.2.1).at.1 1, (M.out.2.2.2.1).at.1 2, (M.out.2.2.2.1).at.1 3, (M.out.2.2.2.1).at.1 4, (M.out.2.2.2.1).at.1 5, (M.out.2.2.2.1).at.1 6, (M.out.2.2.2.1).at.1 7, (M.out.1).at.1 0, (M.out.1).at.1 1, (M.out.1).at.1 2, (M.out.1).at.1 3, (M.out.1).at.1 4, (M.out.1).at.1 5, (M.out.1).at.1 6, (M.out.1).at.1 7⟩) (fun hH140 => ?_)
          rw [← hv] at hH140 ⊢
          clear hv
          refine tk at0 ?_
          refine tk at1 ?_
          refine tk at2 ?_
          refine tk at3 ?_
          refine tk at4 ?_
          refine tk at5 ?_
          refine tk at6 ?_
          refine tk at7 ?_
          refine tk at8 ?_
          refine tk at9 ?_
          refine tk at10 ?_
          refine tk at11 ?_
          refine wpAnyH_ready (rs := [12]) (by kernel_rfl) (by simp) ?_
          refine AllReadyH.cons at12 (fun K hK => ?_) AllReadyH.nil
          go_simp
          refine (spInside_q (G := G) (p := hl) (q := hh) (r := il) (s := ih) (b_ := true) (Nat.le_trans hG (M.out.2.2.2.2.2.2.2.2).size) (M.out.2.2.2.2.1) (M.out.2.2.2.2.2.1) (M.out.2.1) (M.out.2.2.1) (Fz.mono HSa.out (by omega)) (Fz.mono HSb.out (by omega)) (Fz.mono HSc.out (by omega)) (Fz.mono HSd.out (by omega)) HHO.out HIO.out HHI.out).mono ?_
          rintro e w17 ⟨rfl, hb⟩
          replace M := Lib.hid (Goes.go M.out hb)
          clear hb
          (try go_wp2_with fail)
          refine hK.out _ _ (⟨(M.out.2.2.2.2.2.2.2.1).at.1 0, (M.out.2.2.2.2.2.2.2.1).at.1 1, (M.out.2.2.2.2.2.2.2.1).at.1 2, (M.out.2.2.2.2.2.2.2.1).at.1 3, (M.out.2.2.2.2.2.2.2.1).at.1 4, (M.out.2.2.2.2.2.2.2.1).at.1 5, (M.out.2.2.2.2.2.2.2.1).at.1 6, (M.out.2.2.2.2.2.2.2.1).at.1 7, (M.out.2.2.2.2.2.2.1).at.1 0, (M.out.2.2.2.2.2.2.1).at.1 1, (M.out.2.2.2.2.2.2.1).at.1 2, (M.out.2.2.2.2.2.2.1).at.1 3, (M.out.2.2.2.2.2.2.1).at.1 4, (M.out.2.2.2.2.2.2.1).at.1 5, (M.out.2.2.2.2.2.2.1).at.1 6, (M.out.2.2.2.2.2.2.1).at.1 7, (M.out.2.2.2.1).at.1 0, (M.out.2.2.2.1).at.1 1, (M.out.2.2.2.1).at.1 2, (M.out.2.2.2.1).at.1 3, (M.out.2.2.2.1).at.1 4, (M.out.2.2.2.1).at.1 5, (M.out.2.2.2.1).at.1 6, (M.out.2.2.2.1).at.1 7, (M.out.1).at.1 0, (M.out.1).at.1 1, (M.out.1).at.1 2, (M.out.1).at.1 3, (M.out.1).at.1 4, (M.out.1).at.1 5, (M.out.1).at.1 6, (M.out.1).at.1 7⟩) (fun hH141 => ?_)
          clear hK K hH140
          (try simp only [Act.put, List.setIfInBounds_toArray, List.set_cons_zero, List.set_cons_succ])
          refine tk at13 ?_
          refine tk at14 ?_
          refine tk at15 ?_
          refine tk at17 ?_
          refine wpAnyH_ready (rs := [16]) (by kernel_rfl) (by simp) ?_
          refine AllReadyH.cons at16 (fun K hK => ?_) AllReadyH.nil
          go_simp
          obtain ⟨q150, eq150⟩ : ∃ v_ : Rat, v_ = (-p2) := ⟨_, rfl⟩
          obtain ⟨q151, eq151⟩ : ∃ v_ : Rat, v_ = (-p1) := ⟨_, rfl⟩
          refine (spNeg_q (G := G) (p := p1) (q := p2) (Nat.le_trans hG (M.out.2.2.2.2.2.2.2.2).size) (K1.out.keep (M.out.2.2.2.2.2.2.2.2)) (K2.out.keep (M.out.2.2.2.2.2.2.2.2)) (Fz.mono Z1.out (by omega)) (Fz.mono Z2.out (by omega)) HAO.out).mono ?_
          rintro e w18 ⟨x_142, x_143, x_144, x_145, x_146, x_147, x_148, x_149, rfl, hd152, hd153, hb⟩
          rw [← eq150] at hd152
          have Sq150 : Hid (Fz q150 4) := by show Fz q150 4; rw [eq150]; exact (Fz.neg Z2.out)
          have Eq150 := Lib.hid eq150; clear eq150
          rw [← eq151] at hd153
          have Sq151 : Hid (Fz q151 4) := by show Fz q151 4; rw [eq151]; exact (Fz.neg Z1.out)
          have Eq151 := Lib.hid eq151; clear eq151
          replace M := Lib.hid (And.intro hd152 (And.intro hd153 (Goes.go M.out hb)))
          clear hb hd152 hd153
          (try go_wp2_with fail)
          refine hK.out _ _ (⟨(M.out.2.2.2.2.2.2.2.2.2.1).at.1 0, (M.out.2.2.2.2.2.2.2.2.2.1).at.1 1, (M.out.2.2.2.2.2.2.2.2.2.1).at.1 2, (M.out.2.2.2.2.2.2.2.2.2.1).at.1 3, (M.out.2.2.2.2.2.2.2.2.2.1).at.1 4, (M.out.2.2.2.2.2.2.2.2.2.1).at.1 5, (M.out.2.2.2.2.2.2.2.2.2.1).at.1 6, (M.out.2.2.2.2.2.2.2.2.2.1).at.1 7, (M.out.2.2.2.2.2.2.2.2.1).at.1 0, (M.out.2.2.2.2.2.2.2.2.1).at.1 1, (M.out.2.2.2.2.2.2.2.2.1).at.1 2, (M.out.2.2.2.2.2.2.2.2.1).at.1 3, (M.out.2.2.2.2.2.2.2.2.1).at.1 4, (M.out.2.2.2.2.2.2.2.2.1).at.1 5, (M.out.2.2.2.2.2.2.2.2.1).at.1 6, (M.out.2.2.2.2.2.2.2.2.1).at.1 7, (M.out.2.2.2.2.2.1).at.1 0, (M.out.2.2.2.2.2.1).at.1 1, (M.out.2.2.2.2.2.1).at.1 2, (M.out.2.2.2.2.2.1).at.1 3, (M.out.2.2.2.2.2.1).at.1 4, (M.out.2.2.2.2.2.1).at.1 5, (M.out.2.2.2.2.2.1).at.1 6, (M.out.2.2.2.2.2.1).at.1 7, (M.out.2.2.1).at.1 0, (M.out.2.2.1).at.1 1, (M.out.2.2.1).at.1 2, (M.out.2.2.1).at.1 3, (M.out.2.2.1).at.1 4, (M.out.2.2.1).at.1 5, (M.out.2.2.1).at.1 6, (M.out.2.2.1).at.1 7⟩) (fun hH154 => ?_)
          clear hK K hH141
          (try simp only [Act.put, List.setIfInBounds_toArray, List.set_cons_zero, List.set_cons_succ])
          refine wpAnyH_ready (rs := [18]) (by kernel_rfl) (by simp) ?_
          refine AllReadyH.cons at18 (fun K hK => ?_) AllReadyH.nil
          go_simp
          obtain ⟨q163, eq163⟩ : ∃ v_ : Rat, v_ = (-s2) := ⟨_, rfl⟩
          obtain ⟨q164, eq164⟩ : ∃ v_ : Rat, v_ = (-s1) := ⟨_, rfl⟩
          refine (spNeg_q (G := G) (p := s1) (q := s2) (Nat.le_trans hG (M.out.2.2.2.2.2.2.2.2.2.2).size) (K5.out.keep (M.out.2.2.2.2.2.2.2.2.2.2)) (K6.out.keep (M.out.2.2.2.2.2.2.2.2.2.2)) (Fz.mono Z5.out (by omega)) (Fz.mono Z6.out (by omega)) HCO.out).mono ?_
          rintro e w19 ⟨x_155, x_156, x_157, x_158, x_159, x_160, x_161, x_162, rfl, hd165, hd166, hb⟩
          rw [← eq163] at hd165
          have Sq163 : Hid (Fz q163 4) := by show Fz q163 4; rw [eq163]; exact (Fz.neg Z6.out)
          have Eq163 := Lib.hid eq163; clear eq163
          rw [← eq164] at hd166
          have Sq164 : Hid (Fz q164 4) := by show Fz q164 4; rw [eq164]; exact (Fz.neg Z5.out)
          have Eq164 := Lib.hid eq164; clear eq164
          replace M := Lib.hid (And.intro hd165 (And.intro hd166 (Goes.go M.out hb)))
          clear hb hd165 hd166
          (try go_wp2_with fail)
          refine hK.out _ _ (⟨(M.out.2.2.2.2.2.2.2.2.2.2.2.1).at.1 0, (M.out.2.2.2.2.2.2.2.2.2.2.2.1).at.1 1, (M.out.2.2.2.2.2.2.2.2.2.2.2.1).at.1 2, (M.out.2.2.2.2.2.2.2.2.2.2.2.1).at.1 3, (M.out.2.2.2.2.2.2.2.2.2.2.2.1).at.1 4, (M.out.2.2.2.2.2.2.2.2.2.2.2.1).at.1 5, (M.out.2.2.2.2.2.2.2.2.2.2.2.1).at.1 6, (M.out.2.2.2.2.2.2.2.2.2.2.2.1).at.1 7, (M.out.2.2.2.2.2.2.2.2.2.2.1).at.1 0, (M.out.2.2.2.2.2.2.2.2.2.2.1).at.1 1, (M.out.2.2.2.2.2.2.2.2.2.2.1).at.1 2, (M.out.2.2.2.2.2.2.2.2.2.2.1).at.1 3, (M.out.2.2.2.2.2.2.2.2.2.2.1).at.1 4, (M.out.2.2.2.2.2.2.2.2.2.2.1).at.1 5, (M.out.2.2.2.2.2.2.2.2.2.2.1).at.1 6, (M.out.2.2.2.2.2.2.2.2.2.2.1).at.1 7, (M.out.2.2.2.2.2.2.2.1).at.1 0, (M.out.2.2.2.2.2.2.2.1).at.1 1, (M.out.2.2.2.2.2.2.2.1).at.1 2, (M.out.2.2.2.2.2.2.2.1).at.1 3, (M.out.2.2.2.2.2.2.2.1).at.1 4, (M.out.2.2.2.2.2.2.2.1).at.1 5, (M.out.2.2.2.2.2.2.2.1).at.1 6, (M.out.2.2.2.2.2.2.2.1).at.1 7, (M.out.2.2.2.2.1).at.1 0, (M.out.2.2.2.2.1).at.1 1, (M.out.2.2.2.2.1).at.1 2, (M.out.2.2.2.2.1).at.1 3, (M.out.2.2.2.2.1).at.1 4, (M.out.2.2.2.2.1).at.1 5, (M.out.2.2.2.2.1).at.1 6, (M.out.2.2.2.2.1).at.1 7⟩) (fun hH167 => ?_)
          clear hK K hH154
          (try simp only [Act.put, List.setIfInBounds_toArray, List.set_cons_zero, List.set_cons_succ])
          refine wpAnyH_ready (rs := [19]) (by kernel_rfl) (by simp) ?_
          refine AllReadyH.cons at19 (fun K hK => ?_) AllReadyH.nil
          go_simp
          refine (spInside_q (G := G) (p := q150) (q := q151) (r := q163) (s := q164) (b_ := true) (Nat.le_trans hG (M.out.2.2.2.2.2.2.2.2.2.2.2.2).size) (M.out.2.2.1) (M.out.2.2.2.1) (M.out.1) (M.out.2.1) (Fz.mono Sq150.out (by omega)) (Fz.mono Sq151.out (by omega)) (Fz.mono Sq163.out (by omega)) (Fz.mono Sq164.out (by omega)) (by rw [Eq151.out, Eq150.out]; exact Rat.neg_le_neg HAO.out) (by rw [Eq164.out, Eq163.out]; exact Rat.neg_le_neg HCO.out) (by rw [Eq164.out, Eq163.out, Eq151.out, Eq150.out]; exact HNI.out)).mono ?_
          rintro e w20 ⟨rfl, hb⟩
          replace M := Lib.hid (Goes.go M.out hb)
          clear hb
          (try go_wp2_with fail)
          refine hK.out _ _ (⟨(M.out.2.2.2.2.2.2.2.2.2.2.2.1).at.1 0, (M.out.2.2.2.2.2.2.2.2.2.2.2.1).at.1 1, (M.out.2.2.2.2.2.2.2.2.2.2.2.1).at.1 2, (M.out.2.2.2.2.2.2.2.2.2.2.2.1).at.1 3, (M.out.2.2.2.2.2.2.2.2.2.2.2.1).at.1 4, (M.out.2.2.2.2.2.2.2.2.2.2.2.1).at.1 5, (M.out.2.2.2.2.2.2.2.2.2.2.2.1).at.1 6, (M.out.2.2.2.2.2.2.2.2.2.2.2.1).at.1 7, (M.out.2.2.2.2.2.2.2.2.2.2.1).at.1 0, (M.out.2.2.2.2.2.2.2.2.2.2.1).at.1 1, (M.out.2.2.2.2.2.2.2.2.2.2.1).at.1 2, (M.out.2.2.2.2.2.2.2.2.2.2.1).at.1 3, (M.out.2.2.2.2.2.2.2.2.2.2.1).at.1 4, (M.out.2.2.2.2.2.2.2.2.2.2.1).at.1 5, (M.out.2.2.2.2.2.2.2.2.2.2.1).at.1 6, (M.out.2.2.2.2.2.2.2.2.2.2.1).at.1 7, (M.out.2.2.2.2.2.2.2.1).at.1 0, (M.out.2.2.2.2.2.2.2.1).at.1 1, (M.out.2.2.2.2.2.2.2.1).at.1 2, (M.out.2.2.2.2.2.2.2.1).at.1 3, (M.out.2.2.2.2.2.2.2.1).at.1 4, (M.out.2.2.2.2.2.2.2.1).at.1 5, (M.out.2.2.2.2.2.2.2.1).at.1 6, (M.out.2.2.2.2.2.2.2.1).at.1 7, (M.out.2.2.2.2.1).at.1 0, (M.out.2.2.2.2.1).at.1 1, (M.out.2.2.2.2.1).at.1 2, (M.out.2.2.2.2.1).at.1 3, (M.out.2.2.2.2.1).at.1 4, (M.out.2.2.2.2.1).at.1 5, (M.out.2.2.2.2.1).at.1 6, (M.out.2.2.2.2.1).at.1 7⟩) (fun hH168 => ?_)
          clear hK K hH167
          (try simp only [Act.put, List.setIfInBounds_toArray, List.set_cons_zero, List.set_cons_succ])
          refine tk at20 ?_
          refine tk at21 ?_
          refine wpAnyH_done (by kernel_rfl) ?_ _
          clear hH168
          go_wp2_with fail
          go_ret
          exact ⟨rfl, (M.out.2.2.2.2.2.2.2.2.2.2.2.2)⟩
      ·
        have HM1 := Lib.hid hm1
        have hm_ := meet_in2 HIAC.out HIBD.out hm1
        have HM2 := Lib.hid hm_.1
        have HMI := Lib.hid (inB.2 hm_.2)
        clear hm1 hm_
        have y0 := (M.out.2.2.2.2.2.2.2.2.2.1).d8; have p0_0 := y0.1; have p0_1 := y0.2.1; have p0_2 := y0.2.2.1; have p0_3 := y0.2.2.2.1; have p0_4 := y0.2.2.2.2.1; have p0_5 := y0.2.2.2.2.2.1; have p0_6 := y0.2.2.2.2.2.2.1; have p0_7 := y0.2.2.2.2.2.2.2; clear y0
        have y1 := (M.out.2.2.2.2.2.2.2.2.1).d8; have p1_0 := y1.1; have p1_1 := y1.2.1; have p1_2 := y1.2.2.1; have p1_3 := y1.2.2.2.1; have p1_4 := y1.2.2.2.2.1; have p1_5 := y1.2.2.2.2.2.1; have p1_6 := y1.2.2.2.2.2.2.1; have p1_7 := y1.2.2.2.2.2.2.2; clear y1
        go_wp2_with fail
        clear p0_0 p0_1 p0_2 p0_3 p0_4 p0_5 p0_6 p0_7 p1_0 p1_1 p1_2 p1_3 p1_4 p1_5 p1_6 p1_7
        obtain ⟨q177, eq177⟩ : ∃ v_ : Rat, v_ = (maxQ p1 r1) := ⟨_, rfl⟩
        obtain ⟨q178, eq178⟩ : ∃ v_ : Rat, v_ = (minQ p2 r2) := ⟨_, rfl⟩
        refine (spMeet_q (G := G) (p := p1) (q := p2) (r := r1) (s := r2) (Nat.le_trans hG (M.out.2.2.2.2.2.2.2.2.2.2).size) (K1.out.keep (M.out.2.2.2.2.2.2.2.2.2.2)) (K2.out.keep (M.out.2.2.2.2.2.2.2.2.2.2)) (K3.out.keep (M.out.2.2.2.2.2.2.2.2.2.2)) (K4.out.keep (M.out.2.2.2.2.2.2.2.2.2.2)) (Fz.mono Z1.out (by omega)) (Fz.mono Z2.out (by omega)) (Fz.mono Z3.out (by omega)) (Fz.mono Z4.out (by omega)) HAO.out HBO.out HM1.out).mono ?_
        rintro e w12 ⟨x_169, x_170, x_171, x_172, x_173, x_174, x_175, x_176, rfl, hd179, hd180, hb⟩
        rw [← eq177] at hd179
        have Sq177 : Hid (Fz q177 4) := by show Fz q177 4; rw [eq177]; exact (Fz.maxQ Z1.out Z3.out)
        have Eq177 := Lib.hid eq177; clear eq177
        rw [← eq178] at hd180
        have Sq178 : Hid (Fz q178 4) := by show Fz q178 4; rw [eq178]; exact (Fz.minQ Z2.out Z4.out)
        have Eq178 := Lib.hid eq178; clear eq178
        replace M := Lib.hid (And.intro hd179 (And.intro hd180 (Goes.go M.out hb)))
        clear hb hd179 hd180
        have ys_x_169 := TQ.st (M.out.1); have st_x_169 := ys_x_169.1; have st_x_170 := ys_x_169.2.1; have st_x_171 := ys_x_169.2.2.1; have st_x_172 := ys_x_169.2.2.2; clear ys_x_169
        have ys_x_173 := TQ.st (M.out.2.1); have st_x_173 := ys_x_173.1; have st_x_174 := ys_x_173.2.1; have st_x_175 := ys_x_173.2.2.1; have st_x_176 := ys_x_173.2.2.2; clear ys_x_173
        go_upto_region 14 with fail
        clear st_x_169 st_x_170 st_x_171 st_x_172 st_x_173 st_x_174 st_x_175 st_x_176
        obtain ⟨w13, hv⟩ : ∃ w_ : World, w_ = (w12.alloc (.cells #[x_169, x_170, x_171, x_172, x_173, x_174, x_175, x_176] 28)) := ⟨_, rfl⟩
        rw [← hv]
        have ow6_ : w10.heap.size < w12.heap.size := ((M.out.2.2.1)).lt
        replace M := Lib.hid (And.intro (hv ▸ bx1 w12 28 #[x_169, x_170, x_171, x_172, x_173, x_174, x_175, x_176]) (Goes.go M.out (hv ▸ below_alloc _ _ : Below w12.heap.size w12 w13)))
        clear hv
        have y2 := (M.out.2.2.2.2.2.2.2.2.2.2.1).d8; have p2_0 := y2.1; have p2_1 := y2.2.1; have p2_2 := y2.2.2.1; have p2_3 := y2.2.2.2.1; have p2_4 := y2.2.2.2.2.1; have p2_5 := y2.2.2.2.2.2.1; have p2_6 := y2.2.2.2.2.2.2.1; have p2_7 := y2.2.2.2.2.2.2.2; clear y2
        have y3 := (M.out.2.2.2.2.2.2.2.2.2.1).d8; have p3_0 := y3.1; have p3_1 := y3.2.1; have p3_2 := y3.2.2.1; have p3_3 := y3.2.2.2.1; have p3_4 := y3.2.2.2.2.1; have p3_5 := y3.2.2.2.2.2.1; have p3_6 := y3.2.2.2.2.2.2.1; have p3_7 := y3.2.2.2.2.2.2.2; clear y3
        go_wp2_with fail
        clear p2_0 p2_1 p2_2 p2_3 p2_4 p2_5 p2_6 p2_7 p3_0 p3_1 p3_2 p3_3 p3_4 p3_5 p3_6 p3_7
        obtain ⟨q189, eq189⟩ : ∃ v_ : Rat, v_ = (maxQ s1 t1) := ⟨_, rfl⟩
        obtain ⟨q190, eq190⟩ : ∃ v_ : Rat, v_ = (minQ s2 t2) := ⟨_, rfl⟩
        refine (spMeet_q (G := G) (p := s1) (q := s2) (r := t1) (s := t2) (Nat.le_trans hG (M.out.2.2.2.2.2.2.2.2.2.2.2.2.2).size) (K5.out.keep (M.out.2.2.2.2.2.2.2.2.2.2.2.2.2)) (K6.out.keep (M.out.2.2.2.2.2.2.2.2.2.2.2.2.2)) (K7.out.keep (M.out.2.2.2.2.2.2.2.2.2.2.2.2.2)) (K8.out.keep (M.out.2.2.2.2.2.2.2.2.2.2.2.2.2)) (Fz.mono Z5.out (by omega)) (Fz.mono Z6.out (by omega)) (Fz.mono Z7.out (by omega)) (Fz.mono Z8.out (by omega)) HCO.out HDO.out HM2.out).mono ?_
        rintro e w14 ⟨x_181, x_182, x_183, x_184, x_185, x_186, x_187, x_188, rfl, hd191, hd192, hb⟩
        rw [← eq189] at hd191
        have Sq189 : Hid (Fz q189 4) := by show Fz q189 4; rw [eq189]; exact (Fz.maxQ Z5.out Z7.out)
        have Eq189 := Lib.hid eq189; clear eq189
        rw [← eq190] at hd192
        have Sq190 : Hid (Fz q190 4) := by show Fz q190 4; rw [eq190]; exact (Fz.minQ Z6.out Z8.out)
        have Eq190 := Lib.hid eq190; clear eq190
        replace M := Lib.hid (And.intro hd191 (And.intro hd192 (Goes.go M.out hb)))
        clear hb hd191 hd192
        have ys_x_181 := TQ.st (M.out.1); have st_x_181 := ys_x_181.1; have st_x_182 := ys_x_181.2.1; have st_x_183 := ys_x_181.2.2.1; have st_x_184 := ys_x_181.2.2.2; clear ys_x_181
        have ys_x_185 := TQ.st (M.out.2.1); have st_x_185 := ys_x_185.1; have st_x_186 := ys_x_185.2.1; have st_x_187 := ys_x_185.2.2.1; have st_x_188 := ys_x_185.2.2.2; clear ys_x_185
        go_upto_region 15 with fail
        clear st_x_181 st_x_182 st_x_183 st_x_184 st_x_185 st_x_186 st_x_187 st_x_188
        obtain ⟨w15, hv⟩ : ∃ w_ : World, w_ = (w14.alloc (.cells #[x_181, x_182, x_183, x_184, x_185, x_186, x_187, x_188] 28)) := ⟨_, rfl⟩
        rw [← hv]
        have ow7_ : w12.heap.size < w14.heap.size := ((M.out.2.2.1)).lt
        replace M := Lib.hid (And.intro (hv ▸ bx1 w14 28 #[x_181, x_182, x_183, x_184, x_185, x_186, x_187, x_188]) (Goes.go M.out (hv ▸ below_alloc _ _ : Below w14.heap.size w14 w15)))
        clear hv
        have y6 := (M.out.2.2.2.1).d8; have p6_0 := y6.1; have p6_1 := y6.2.1; have p6_2 := y6.2.2.1; have p6_3 := y6.2.2.2.1; have p6_4 := y6.2.2.2.2.1; have p6_5 := y6.2.2.2.2.2.1; have p6_6 := y6.2.2.2.2.2.2.1; have p6_7 := y6.2.2.2.2.2.2.2; clear y6
        have y7 := (M.out.1).d8; have p7_0 := y7.1; have p7_1 := y7.2.1; have p7_2 := y7.2.2.1; have p7_3 := y7.2.2.2.1; have p7_4 := y7.2.2.2.2.1; have p7_5 := y7.2.2.2.2.2.1; have p7_6 := y7.2.2.2.2.2.2.1; have p7_7 := y7.2.2.2.2.2.2.2; clear y7
        go_wp2_with fail
        clear p6_0 p6_1 p6_2 p6_3 p6_4 p6_5 p6_6 p6_7 p7_0 p7_1 p7_2 p7_3 p7_4 p7_5 p7_6 p7_7
        replace M := Lib.hid (And.intro (M.out.2.1) (And.intro (M.out.2.2.1) (And.intro (M.out.2.2.2.2.1) (And.intro (M.out.2.2.2.2.2.1) (And.intro (M.out.2.2.2.2.2.2.1) (And.intro (M.out.2.2.2.2.2.2.2.1) (And.intro (M.out.2.2.2.2.2.2.2.2.1) (And.intro (M.out.2.2.2.2.2.2.2.2.2.1) (And.intro (M.out.2.2.2.2.2.2.2.2.2.2.1) (And.intro (M.out.2.2.2.2.2.2.2.2.2.2.2.1) (And.intro (M.out.2.2.2.2.2.2.2.2.2.2.2.2.2.1) (And.intro (M.out.2.2.2.2.2.2.2.2.2.2.2.2.2.2.2.1) (M.out.2.2.2.2.2.2.2.2.2.2.2.2.2.2.2.2)))))))))))))
        refine (spInside_q (G := G) (p := q177) (q := q178) (r := q189) (s := q190) (b_ := true) (Nat.le_trans hG (M.out.2.2.2.2.2.2.2.2.2.2.2.2).size) (M.out.2.2.1) (M.out.2.2.2.1) (M.out.1) (M.out.2.1) (Fz.mono Sq177.out (by omega)) (Fz.mono Sq178.out (by omega)) (Fz.mono Sq189.out (by omega)) (Fz.mono Sq190.out (by omega)) (by rw [Eq178.out, Eq177.out]; exact Rat.not_lt.1 HM1.out) (by rw [Eq190.out, Eq189.out]; exact Rat.not_lt.1 HM2.out) (by rw [Eq190.out, Eq189.out, Eq178.out, Eq177.out]; exact HMI.out)).mono ?_
        rintro e w16 ⟨rfl, hb⟩
        replace M := Lib.hid (Goes.go M.out hb)
        clear hb
        go_wp2_with fail
        replace M := Lib.hid (And.intro (M.out.2.2.2.2.1) (And.intro (M.out.2.2.2.2.2.1) (And.intro (M.out.2.2.2.2.2.2.1) (And.intro (M.out.2.2.2.2.2.2.2.1) (And.intro (M.out.2.2.2.2.2.2.2.2.1) (And.intro (M.out.2.2.2.2.2.2.2.2.2.1) (And.intro (M.out.2.2.2.2.2.2.2.2.2.2.1) (And.intro (M.out.2.2.2.2.2.2.2.2.2.2.2.1) (M.out.2.2.2.2.2.2.2.2.2.2.2.2)))))))))
        obtain ⟨w17, hv⟩ : ∃ w_ : World, w_ = w16.drew := ⟨_, rfl⟩
        replace M := Lib.hid (Goes.go M.out (hv ▸ below_drew _ : Below w16.heap.size w16 w17))
        refine wp_region_held_drew (S := (fun w' => w'.cell? ⟨w.heap.size, 0, none⟩ = some (u0) ∧ w'.cell? ⟨w.heap.size, 1, none⟩ = some (u1) ∧ w'.cell? ⟨w.heap.size, 2, none⟩ = some (u2) ∧ w'.cell? ⟨w.heap.size, 3, none⟩ = some (u3) ∧ w'.cell? ⟨w.heap.size, 4, none⟩ = some (u4) ∧ w'.cell? ⟨w.heap.size, 5, none⟩ = some (u5) ∧ w'.cell? ⟨w.heap.size, 6, none⟩ = some (u6) ∧ w'.cell? ⟨w.heap.size, 7, none⟩ = some (u7) ∧ w'.cell? ⟨w.heap.size + 1 + 1, 0, none⟩ = some (y0) ∧ w'.cell? ⟨w.heap.size + 1 + 1, 1, none⟩ = some (y1) ∧ w'.cell? ⟨w.heap.size + 1 + 1, 2, none⟩ = some (y2) ∧ w'.cell? ⟨w.heap.size + 1 + 1, 3, none⟩ = some (y3) ∧ w'.cell? ⟨w.heap.size + 1 + 1, 4, none⟩ = some (y4) ∧ w'.cell? ⟨w.heap.size + 1 + 1, 5, none⟩ = some (y5) ∧ w'.cell? ⟨w.heap.size + 1 + 1, 6, none⟩ = some (y6) ∧ w'.cell? ⟨w.heap.size + 1 + 1, 7, none⟩ = some (y7) ∧ w'.cell? ⟨w8.heap.size, 0, none⟩ = some (x_31) ∧ w'.cell? ⟨w8.heap.size, 1, none⟩ = some (x_32) ∧ w'.cell? ⟨w8.heap.size, 2, none⟩ = some (x_33) ∧ w'.cell? ⟨w8.heap.size, 3, none⟩ = some (x_34) ∧ w'.cell? ⟨w8.heap.size, 4, none⟩ = some (x_35) ∧ w'.cell? ⟨w8.heap.size, 5, none⟩ = some (x_36) ∧ w'.cell? ⟨w8.heap.size, 6, none⟩ = some (x_37) ∧ w'.cell? ⟨w8.heap.size, 7, none⟩ = some (x_38) ∧ w'.cell? ⟨w10.heap.size, 0, none⟩ = some (x_41) ∧ w'.cell? ⟨w10.heap.size, 1, none⟩ = some (x_42) ∧ w'.cell? ⟨w10.heap.size, 2, none⟩ = some (x_43) ∧ w'.cell? ⟨w10.heap.size, 3, none⟩ = some (x_44) ∧ w'.cell? ⟨w10.heap.size, 4, none⟩ = some (x_45) ∧ w'.cell? ⟨w10.heap.size, 5, none⟩ = some (x_46) ∧ w'.cell? ⟨w10.heap.size, 6, none⟩ = some (x_47) ∧ w'.cell? ⟨w10.heap.size, 7, none⟩ = some (x_48))) (by kernel_rfl) (by rw [← hv]; exact ⟨(M.out.2.2.2.2.2.2.2.1).at.1 0, (M.out.2.2.2.2.2.2.2.1).at.1 1, (M.out.2.2.2.2.2.2.2.1).at.1 2, (M.out.2.2.2.2.2.2.2.1).at.1 3, (M.out.2.2.2.2.2.2.2.1).at.1 4, (M.out.2.2.2.2.2.2.2.1).at.1 5, (M.out.2.2.2.2.2.2.2.1).at.1 6, (M.out.2.2.2.2.2.2.2.1).at.1 7, (M.out.2.2.2.2.2.2.1).at.1 0, (M.out.2.2.2.2.2.2.1).at.1 1, (M.out.2.2.2.2.2.2.1).at.1 2, (M.out.2.2.2.2.2.2.1).at.1 3, (M.out.2.2.2.2.2.2.1).at.1 4, (M.out.2.2.2.2.2.2.1).at.1 5, (M.out.2.2.2.2.2.2.1).at.1 6, (M.out.2.2.2.2.2.2.1).at.1 7, (M.out.2.2.2.1).at.1 0, (M.out.2.2.2.1).at.1 1, (M.out.2.2.2.1).at.1 2, (M.out.2.2.2.1).at.1 3, (M.out.2.2.2.1).at.1 4, (M.out.2.2.2.1).at.1 5, (M.out.2.2.2.1).at.1 6, (M.out.2.2.2.1).at.1 7, (M.out.1).at.1 0, (M.out.1).at.1 1, (M.out.1).at.1 2, (M.out.1).at.1 3, (M.out.1).at.1 4, (M.out.1).at.1 5, (M.out.1).at.1 6, (M.out.1).at.1 7⟩) (fun hH217 => ?_)
        rw [← hv] at hH217 ⊢
        clear hv
        refine tk at0 ?_
        refine tk at1 ?_
        refine tk at2 ?_
        refine tk at3 ?_
        refine tk at4 ?_
        refine tk at5 ?_
        refine tk at6 ?_
        refine tk at7 ?_
        refine tk at8 ?_
        refine tk at9 ?_
        refine tk at10 ?_
        refine tk at11 ?_
        refine wpAnyH_ready (rs := [12]) (by kernel_rfl) (by simp) ?_
        refine AllReadyH.cons at12 (fun K hK => ?_) AllReadyH.nil
        go_simp
        refine (spInside_q (G := G) (p := hl) (q := hh) (r := il) (s := ih) (b_ := true) (Nat.le_trans hG (M.out.2.2.2.2.2.2.2.2).size) (M.out.2.2.2.2.1) (M.out.2.2.2.2.2.1) (M.out.2.1) (M.out.2.2.1) (Fz.mono HSa.out (by omega)) (Fz.mono HSb.out (by omega)) (Fz.mono HSc.out (by omega)) (Fz.mono HSd.out (by omega)) HHO.out HIO.out HHI.out).mono ?_
        rintro e w18 ⟨rfl, hb⟩
        replace M := Lib.hid (Goes.go M.out hb)
        clear hb
        (try go_wp2_with fail)
        refine hK.out _ _ (⟨(M.out.2.2.2.2.2.2.2.1).at.1 0, (M.out.2.2.2.2.2.2.2.1).at.1 1, (M.out.2.2.2.2.2.2.2.1).at.1 2, (M.out.2.2.2.2.2.2.2.1).at.1 3, (M.out.2.2.2.2.2.2.2.1).at.1 4, (M.out.2.2.2.2.2.2.2.1).at.1 5, (M.out.2.2.2.2.2.2.2.1).at.1 6, (M.out.2.2.2.2.2.2.2.1).at.1 7, (M.out.2.2.2.2.2.2.1).at.1 0, (M.out.2.2.2.2.2.2.1).at.1 1, (M.out.2.2.2.2.2.2.1).at.1 2, (M.out.2.2.2.2.2.2.1).at.1 3, (M.out.2.2.2.2.2.2.1).at.1 4, (M.out.2.2.2.2.2.2.1).at.1 5, (M.out.2.2.2.2.2.2.1).at.1 6, (M.out.2.2.2.2.2.2.1).at.1 7, (M.out.2.2.2.1).at.1 0, (M.out.2.2.2.1).at.1 1, (M.out.2.2.2.1).at.1 2, (M.out.2.2.2.1).at.1 3, (M.out.2.2.2.1).at.1 4, (M.out.2.2.2.1).at.1 5, (M.out.2.2.2.1).at.1 6, (M.out.2.2.2.1).at.1 7, (M.out.1).at.1 0, (M.out.1).at.1 1, (M.out.1).at.1 2, (M.out.1).at.1 3, (M.out.1).at.1 4, (M.out.1).at.1 5, (M.out.1).at.1 6, (M.out.1).at.1 7⟩) (fun hH218 => ?_)
        clear hK K hH217
        (try simp only [Act.put, List.setIfInBounds_toArray, List.set_cons_zero, List.set_cons_succ])
        refine tk at13 ?_
        refine tk at14 ?_
        refine tk at15 ?_
        refine tk at17 ?_
        refine wpAnyH_ready (rs := [16]) (by kernel_rfl) (by simp) ?_
        refine AllReadyH.cons at16 (fun K hK => ?_) AllReadyH.nil
        go_simp
        obtain ⟨q227, eq227⟩ : ∃ v_ : Rat, v_ = (-p2) := ⟨_, rfl⟩
        obtain ⟨q228, eq228⟩ : ∃ v_ : Rat, v_ = (-p1) := ⟨_, rfl⟩
        refine (spNeg_q (G := G) (p := p1) (q := p2) (Nat.le_trans hG (M.out.2.2.2.2.2.2.2.2).size) (K1.out.keep (M.out.2.2.2.2.2.2.2.2)) (K2.out.keep (M.out.2.2.2.2.2.2.2.2)) (Fz.mono Z1.out (by omega)) (Fz.mono Z2.out (by omega)) HAO.out).mono ?_
        rintro e w19 ⟨x_219, x_220, x_221, x_222, x_223, x_224, x_225, x_226, rfl, hd229, hd230, hb⟩
        rw [← eq227] at hd229
        have Sq227 : Hid (Fz q227 4) := by show Fz q227 4; rw [eq227]; exact (Fz.neg Z2.out)
        have Eq227 := Lib.hid eq227; clear eq227
        rw [← eq228] at hd230
        have Sq228 : Hid (Fz q228 4) := by show Fz q228 4; rw [eq228]; exact (Fz.neg Z1.out)
        have Eq228 := Lib.hid eq228; clear eq228
        replace M := Lib.hid (And.intro hd229 (And.intro hd230 (Goes.go M.out hb)))
        clear hb hd229 hd230
        (try go_wp2_with fail)
        refine hK.out _ _ (⟨(M.out.2.2.2.2.2.2.2.2.2.1).at.1 0, (M.out.2.2.2.2.2.2.2.2.2.1).at.1 1, (M.out.2.2.2.2.2.2.2.2.2.1).at.1 2, (M.out.2.2.2.2.2.2.2.2.2.1).at.1 3, (M.out.2.2.2.2.2.2.2.2.2.1).at.1 4, (M.out.2.2.2.2.2.2.2.2.2.1).at.1 5, (M.out.2.2.2.2.2.2.2.2.2.1).at.1 6, (M.out.2.2.2.2.2.2.2.2.2.1).at.1 7, (M.out.2.2.2.2.2.2.2.2.1).at.1 0, (M.out.2.2.2.2.2.2.2.2.1).at.1 1, (M.out.2.2.2.2.2.2.2.2.1).at.1 2, (M.out.2.2.2.2.2.2.2.2.1).at.1 3, (M.out.2.2.2.2.2.2.2.2.1).at.1 4, (M.out.2.2.2.2.2.2.2.2.1).at.1 5, (M.out.2.2.2.2.2.2.2.2.1).at.1 6, (M.out.2.2.2.2.2.2.2.2.1).at.1 7, (M.out.2.2.2.2.2.1).at.1 0, (M.out.2.2.2.2.2.1).at.1 1, (M.out.2.2.2.2.2.1).at.1 2, (M.out.2.2.2.2.2.1).at.1 3, (M.out.2.2.2.2.2.1).at.1 4, (M.out.2.2.2.2.2.1).at.1 5, (M.out.2.2.2.2.2.1).at.1 6, (M.out.2.2.2.2.2.1).at.1 7, (M.out.2.2.1).at.1 0, (M.out.2.2.1).at.1 1, (M.out.2.2.1).at.1 2, (M.out.2.2.1).at.1 3, (M.out.2.2.1).at.1 4, (M.out.2.2.1).at.1 5, (M.out.2.2.1).at.1 6, (M.out.2.2.1).at.1 7⟩) (fun hH231 => ?_)
        clear hK K hH218
        (try simp only [Act.put, List.setIfInBounds_toArray, List.set_cons_zero, List.set_cons_succ])
        refine wpAnyH_ready (rs := [18]) (by kernel_rfl) (by simp) ?_
        refine AllReadyH.cons at18 (fun K hK => ?_) AllReadyH.nil
        go_simp
        obtain ⟨q240, eq240⟩ : ∃ v_ : Rat, v_ = (-s2) := ⟨_, rfl⟩
        obtain ⟨q241, eq241⟩ : ∃ v_ : Rat, v_ = (-s1) := ⟨_, rfl⟩
        refine (spNeg_q (G := G) (p := s1) (q := s2) (Nat.le_trans hG (M.out.2.2.2.2.2.2.2.2.2.2).size) (K5.out.keep (M.out.2.2.2.2.2.2.2.2.2.2)) (K6.out.keep (M.out.2.2.2.2.2.2.2.2.2.2)) (Fz.mono Z5.out (by omega)) (Fz.mono Z6.out (by omega)) HCO.out).mono ?_
        rintro e w20 ⟨x_232, x_233, x_234, x_235, x_236, x_237, x_238, x_239, rfl, hd242, hd243, hb⟩
        rw [← eq240] at hd242
        have Sq240 : Hid (Fz q240 4) := by show Fz q240 4; rw [eq240]; exact (Fz.neg Z6.out)
        have Eq240 := Lib.hid eq240; clear eq240
        rw [← eq241] at hd243
        have Sq241 : Hid (Fz q241 4) := by show Fz q241 4; rw [eq241]; exact (Fz.neg Z5.out)
        have Eq241 := Lib.hid eq241; clear eq241
        replace M := Lib.hid (And.intro hd242 (And.intro hd243 (Goes.go M.out hb)))
        clear hb hd242 hd243
        (try go_wp2_with fail)
        refine hK.out _ _ (⟨(M.out.2.2.2.2.2.2.2.2.2.2.2.1).at.1 0, (M.out.2.2.2.2.2.2.2.2.2.2.2.1).at.1 1, (M.out.2.2.2.2.2.2.2.2.2.2.2.1).at.1 2, (M.out.2.2.2.2.2.2.2.2.2.2.2.1).at.1 3, (M.out.2.2.2.2.2.2.2.2.2.2.2.1).at.1 4, (M.out.2.2.2.2.2.2.2.2.2.2.2.1).at.1 5, (M.out.2.2.2.2.2.2.2.2.2.2.2.1).at.1 6, (M.out.2.2.2.2.2.2.2.2.2.2.2.1).at.1 7, (M.out.2.2.2.2.2.2.2.2.2.2.1).at.1 0, (M.out.2.2.2.2.2.2.2.2.2.2.1).at.1 1, (M.out.2.2.2.2.2.2.2.2.2.2.1).at.1 2, (M.out.2.2.2.2.2.2.2.2.2.2.1).at.1 3, (M.out.2.2.2.2.2.2.2.2.2.2.1).at.1 4, (M.out.2.2.2.2.2.2.2.2.2.2.1).at.1 5, (M.out.2.2.2.2.2.2.2.2.2.2.1).at.1 6, (M.out.2.2.2.2.2.2.2.2.2.2.1).at.1 7, (M.out.2.2.2.2.2.2.2.1).at.1 0, (M.out.2.2.2.2.2.2.2.1).at.1 1, (M.out.2.2.2.2.2.2.2.1).at.1 2, (M.out.2.2.2.2.2.2.2.1).at.1 3, (M.out.2.2.2.2.2.2.2.1).at.1 4, (M.out.2.2.2.2.2.2.2.1).at.1 5, (M.out.2.2.2.2.2.2.2.1).at.1 6, (M.out.2.2.2.2.2.2.2.1).at.1 7, (M.out.2.2.2.2.1).at.1 0, (M.out.2.2.2.2.1).at.1 1, (M.out.2.2.2.2.1).at.1 2, (M.out.2.2.2.2.1).at.1 3, (M.out.2.2.2.2.1).at.1 4, (M.out.2.2.2.2.1).at.1 5, (M.out.2.2.2.2.1).at.1 6, (M.out.2.2.2.2.1).at.1 7⟩) (fun hH244 => ?_)
        clear hK K hH231
        (try simp only [Act.put, List.setIfInBounds_toArray, List.set_cons_zero, List.set_cons_succ])
        refine wpAnyH_ready (rs := [19]) (by kernel_rfl) (by simp) ?_
        refine AllReadyH.cons at19 (fun K hK => ?_) AllReadyH.nil
        go_simp
        refine (spInside_q (G := G) (p := q227) (q := q228) (r := q240) (s := q241) (b_ := true) (Nat.le_trans hG (M.out.2.2.2.2.2.2.2.2.2.2.2.2).size) (M.out.2.2.1) (M.out.2.2.2.1) (M.out.1) (M.out.2.1) (Fz.mono Sq227.out (by omega)) (Fz.mono Sq228.out (by omega)) (Fz.mono Sq240.out (by omega)) (Fz.mono Sq241.out (by omega)) (by rw [Eq228.out, Eq227.out]; exact Rat.neg_le_neg HAO.out) (by rw [Eq241.out, Eq240.out]; exact Rat.neg_le_neg HCO.out) (by rw [Eq241.out, Eq240.out, Eq228.out, Eq227.out]; exact HNI.out)).mono ?_
        rintro e w21 ⟨rfl, hb⟩
        replace M := Lib.hid (Goes.go M.out hb)
        clear hb
        (try go_wp2_with fail)
        refine hK.out _ _ (⟨(M.out.2.2.2.2.2.2.2.2.2.2.2.1).at.1 0, (M.out.2.2.2.2.2.2.2.2.2.2.2.1).at.1 1, (M.out.2.2.2.2.2.2.2.2.2.2.2.1).at.1 2, (M.out.2.2.2.2.2.2.2.2.2.2.2.1).at.1 3, (M.out.2.2.2.2.2.2.2.2.2.2.2.1).at.1 4, (M.out.2.2.2.2.2.2.2.2.2.2.2.1).at.1 5, (M.out.2.2.2.2.2.2.2.2.2.2.2.1).at.1 6, (M.out.2.2.2.2.2.2.2.2.2.2.2.1).at.1 7, (M.out.2.2.2.2.2.2.2.2.2.2.1).at.1 0, (M.out.2.2.2.2.2.2.2.2.2.2.1).at.1 1, (M.out.2.2.2.2.2.2.2.2.2.2.1).at.1 2, (M.out.2.2.2.2.2.2.2.2.2.2.1).at.1 3, (M.out.2.2.2.2.2.2.2.2.2.2.1).at.1 4, (M.out.2.2.2.2.2.2.2.2.2.2.1).at.1 5, (M.out.2.2.2.2.2.2.2.2.2.2.1).at.1 6, (M.out.2.2.2.2.2.2.2.2.2.2.1).at.1 7, (M.out.2.2.2.2.2.2.2.1).at.1 0, (M.out.2.2.2.2.2.2.2.1).at.1 1, (M.out.2.2.2.2.2.2.2.1).at.1 2, (M.out.2.2.2.2.2.2.2.1).at.1 3, (M.out.2.2.2.2.2.2.2.1).at.1 4, (M.out.2.2.2.2.2.2.2.1).at.1 5, (M.out.2.2.2.2.2.2.2.1).at.1 6, (M.out.2.2.2.2.2.2.2.1).at.1 7, (M.out.2.2.2.2.1).at.1 0, (M.out.2.2.2.2.1).at.1 1, (M.out.2.2.2.2.1).at.1 2, (M.out.2.2.2.2.1).at.1 3, (M.out.2.2.2.2.1).at.1 4, (M.out.2.2.2.2.1).at.1 5, (M.out.2.2.2.2.1).at.1 6, (M.out.2.2.2.2.1).at.1 7⟩) (fun hH245 => ?_)
        clear hK K hH244
        (try simp only [Act.put, List.setIfInBounds_toArray, List.set_cons_zero, List.set_cons_succ])
        refine tk at20 ?_
        refine tk at21 ?_
        refine wpAnyH_done (by kernel_rfl) ?_ _
        clear hH245
        go_wp2_with fail
        go_ret
        exact ⟨rfl, (M.out.2.2.2.2.2.2.2.2.2.2.2.2)⟩
theorem inside_walk {u0 u1 u2 u3 u4 u5 u6 u7 v0 v1 v2 v3 v4 v5 v6 v7 y0 y1 y2 y3 y4 y5 y6 y7 d0 d1 d2 d3 d4 d5 d6 d7 : Value} {n1 m1 n2 m2 n3 m3 n4 m4 n5 m5 n6 m6 n7 m7 n8 m8 : Nat} {o1 o2 o3 o4 o5 o6 o7 o8 : Option Rat} {w : World} (h1 : FX w u0 u1 u2 u3 n1 m1 o1) (h2 : FX w u4 u5 u6 u7 n2 m2 o2) (h3 : FX w v0 v1 v2 v3 n3 m3 o3) (h4 : FX w v4 v5 v6 v7 n4 m4 o4) (h5 : FX w y0 y1 y2 y3 n5 m5 o5) (h6 : FX w y4 y5 y6 y7 n6 m6 o6) (h7 : FX w d0 d1 d2 d3 n7 m7 o7) (h8 : FX w d4 d5 d6 d7 n8 m8 o8) :
    Calls Try.prog 3 #[.agg #[u0, u1, u2, u3, u4, u5, u6, u7], .agg #[v0, v1, v2, v3, v4, v5, v6, v7], .agg #[y0, y1, y2, y3, y4, y5, y6, y7], .agg #[d0, d1, d2, d3, d4, d5, d6, d7]] w fun e w' => e = .returned (.bool true) ∧ Below w.heap.size w w' := by
  cases hn : (few4 n1 m1 n2 m2 n3 m3 n4 m4 && (few4 n5 m5 n6 m6 n7 m7 n8 m8 && (insX o1 o2 o5 o6 && insX o3 o4 o7 o8))) with
  | false => exact inside_not (G := w.heap.size) (Nat.le_refl _) h1 h2 h3 h4 h5 h6 h7 h8 hn
  | true =>
    simp only [Bool.and_eq_true] at hn
    obtain ⟨hc0, hc1, hc2, hc3⟩ := hn
    obtain ⟨p1, p2, s1, s2, rfl, rfl, rfl, rfl, -, -, -⟩ := ins_some hc2
    obtain ⟨r1, r2, t1, t2, rfl, rfl, rfl, rfl, -, -, -⟩ := ins_some hc3
    exact inside_all (G := w.heap.size) (Nat.le_refl _) h1 h1.fq (h1.z4 (few4_1 hc0)) h2 h2.fq (h2.z4 (few4_2 hc0)) h3 h3.fq (h3.z4 (few4_3 hc0)) h4 h4.fq (h4.z4 (few4_4 hc0)) h5 h5.fq (h5.z4 (few4_1 hc1)) h6 h6.fq (h6.z4 (few4_2 hc1)) h7 h7.fq (h7.z4 (few4_3 hc1)) h8 h8.fq (h8.z4 (few4_4 hc1)) hc0 hc1 hc2 hc3
end Go.Proofs.Ytjbfngjlepafgaa
