/- The walk of SpanLaws: whatever the arguments, it returns true. -/
import Derived.Test.YtjbfngjlepafgaaBase
import Derived.Test.YtjbfngjlepafgaaBigSpec
import Derived.Test.YtjbfngjlepafgaaBigB
import Derived.Test.YtjbfngjlepafgaaBigC
import Derived.Test.YtjbfngjlepafgaaBigD
import Derived.Test.YtjbfngjlepafgaaBigK
import Derived.Test.YtjbfngjlepafgaaBigL
import Derived.Test.YtjbfngjlepafgaaBigQ
import Derived.Test.YtjbfngjlepafgaaFracA
import Derived.Test.YtjbfngjlepafgaaFz
import Derived.Test.YtjbfngjlepafgaaHeld
import Derived.Test.YtjbfngjlepafgaaAw
import Derived.Test.YtjbfngjlepafgaaFracR
import Derived.Test.YtjbfngjlepafgaaRefJ
import Derived.Test.YtjbfngjlepafgaaFq
import Derived.Test.YtjbfngjlepafgaaSpanPlain
import Derived.Test.YtjbfngjlepafgaaSpanB
import Derived.Test.YtjbfngjlepafgaaSpanC
import Derived.Test.YtjbfngjlepafgaaSpanE
import Derived.Test.YtjbfngjlepafgaaSpanG
import Derived.Test.YtjbfngjlepafgaaSpanI
import Derived.Test.YtjbfngjlepafgaaProg
import Derived.WalkKit
import Derived.WalkSpells
import Derived.WalkLawsBesides
import Derived.Handy
import Derived.Lib.Hide
import Derived.Lib.Strings
import Derived.Lib.Builder
import Derived.BigQuiet
import Derived.OwnWalk
import Derived.Laws.BitsLemmas
import Derived.WalkSmall
import Derived.Deep.QuietTactic
import Derived.StillTailTactics
import Derived.Maps.AppendAt
import Derived.IntWalk
import Derived.Deep.RegionHeld3
import Derived.Deep.DeepFit
import Derived.Deep.LoopGhost
import Derived.Deep.DeepCutAuto
import Derived.Lib.ItoaNum
import Derived.Lib.Repeat
import Derived.Lib.AppendIntMem
import Derived.Sort.OwnSorted
import Derived.Shelf.Strings.SlTrimAscii
import Derived.Lib.ConvBytes
import Derived.Lib.CutLaws
namespace Go.Proofs.Ytjbfngjlepafgaa
open Go.RowKit Go.Lib
variable {G : Nat}

set_option maxRecDepth 100000 in
set_option maxHeartbeats 4000000 in
theorem laws_not {u0 u1 u2 u3 u4 u5 u6 u7 v0 v1 v2 v3 v4 v5 v6 v7 y0 y1 y2 y3 y4 y5 y6 y7 : Value} {n1 m1 n2 m2 n3 m3 n4 m4 n5 m5 n6 m6 : Nat} {o1 o2 o3 o4 o5 o6 : Option Rat} {w : World} (hG : G ≤ w.heap.size) (h1 : FX w u0 u1 u2 u3 n1 m1 o1) (h2 : FX w u4 u5 u6 u7 n2 m2 o2) (h3 : FX w v0 v1 v2 v3 n3 m3 o3) (h4 : FX w v4 v5 v6 v7 n4 m4 o4) (h5 : FX w y0 y1 y2 y3 n5 m5 o5) (h6 : FX w y4 y5 y6 y7 n6 m6 o6) (hn : (few4 n1 m1 n2 m2 n3 m3 n4 m4 && (few2 n5 m5 n6 m6 && (rightX o1 o2 && (rightX o3 o4 && rightX o5 o6)))) = false) :
    Calls Try.prog 4 #[.agg #[u0, u1, u2, u3, u4, u5, u6, u7], .agg #[v0, v1, v2, v3, v4, v5, v6, v7], .agg #[y0, y1, y2, y3, y4, y5, y6, y7]] w fun e w' => e = .returned (.bool true) ∧ Below w.heap.size w w' := by
  obtain ⟨c0, hc0⟩ : ∃ b, few4 n1 m1 n2 m2 n3 m3 n4 m4 = b := ⟨_, rfl⟩
  obtain ⟨c1, hc1⟩ : ∃ b, few2 n5 m5 n6 m6 = b := ⟨_, rfl⟩
  obtain ⟨c2, hc2⟩ : ∃ b, rightX o1 o2 = b := ⟨_, rfl⟩
  obtain ⟨c3, hc3⟩ : ∃ b, rightX o3 o4 = b := ⟨_, rfl⟩
  obtain ⟨c4, hc4⟩ : ∃ b, rightX o5 o6 = b := ⟨_, rfl⟩
  rw [hc0, hc1, hc2, hc3, hc4] at hn
  have HC0 := Lib.hid hc0
  have HC1 := Lib.hid hc1
  have HC2 := Lib.hid hc2
  have HC3 := Lib.hid hc3
  have HC4 := Lib.hid hc4
  have HN := Lib.hid hn
  clear hn hc0 hc1 hc2 hc3 hc4
  have H1 : Hid (FX w u0 u1 u2 u3 n1 m1 o1) := h1
  have H2 : Hid (FX w u4 u5 u6 u7 n2 m2 o2) := h2
  have H3 : Hid (FX w v0 v1 v2 v3 n3 m3 o3) := h3
  have H4 : Hid (FX w v4 v5 v6 v7 n4 m4 o4) := h4
  have H5 : Hid (FX w y0 y1 y2 y3 n5 m5 o5) := h5
  have H6 : Hid (FX w y4 y5 y6 y7 n6 m6 o6) := h6
  clear h1 h2 h3 h4 h5 h6
  have M : Hid (Below w.heap.size w w) := Below.refl _ _
  go_enter Try.func4, Try.ntmps4
  go_upto_region 1 with fail
  obtain ⟨w1, hv⟩ : ∃ w_ : World, w_ = (((w.alloc (.cells #[u0, u1, u2, u3, u4, u5, u6, u7] 28)).alloc (.cells #[v0, v1, v2, v3, v4, v5, v6, v7] 28)).alloc (.cells #[y0, y1, y2, y3, y4, y5, y6, y7] 28)) := ⟨_, rfl⟩
  rw [← hv]
  have hbx := bx3 w 28 28 28 #[u0, u1, u2, u3, u4, u5, u6, u7] #[v0, v1, v2, v3, v4, v5, v6, v7] #[y0, y1, y2, y3, y4, y5, y6, y7]
  rw [← hv] at hbx
  have hbn : Below w.heap.size w w1 := by rw [hv]; exact (Below.alloc (Below.alloc (Below.alloc (Below.refl _ _) (by simp <;> omega) _) (by simp <;> omega) _) (by simp <;> omega) _)
  replace M := Lib.hid (And.intro hbx.2.2 (And.intro hbx.2.1 (And.intro hbx.1 (Goes.go M.out hbn))))
  clear hbx hbn
  clear hv
  go_wp2_with fail
  refine (spanSmall_ok (G := G) (Nat.le_trans hG (M.out.2.2.2).size)).mono ?_
  rintro e w2 ⟨rfl, hb⟩
  replace M := Lib.hid (Goes.go M.out hb)
  clear hb
  have y0 := (M.out.2.2.1).d8; have p0_0 := y0.1; have p0_1 := y0.2.1; have p0_2 := y0.2.2.1; have p0_3 := y0.2.2.2.1; have p0_4 := y0.2.2.2.2.1; have p0_5 := y0.2.2.2.2.2.1; have p0_6 := y0.2.2.2.2.2.2.1; have p0_7 := y0.2.2.2.2.2.2.2; clear y0
  have y1 := (M.out.2.1).d8; have p1_0 := y1.1; have p1_1 := y1.2.1; have p1_2 := y1.2.2.1; have p1_3 := y1.2.2.2.1; have p1_4 := y1.2.2.2.2.1; have p1_5 := y1.2.2.2.2.2.1; have p1_6 := y1.2.2.2.2.2.2.1; have p1_7 := y1.2.2.2.2.2.2.2; clear y1
  go_wp2_with fail
  clear p0_0 p0_1 p0_2 p0_3 p0_4 p0_5 p0_6 p0_7 p1_0 p1_1 p1_2 p1_3 p1_4 p1_5 p1_6 p1_7
  refine (few_s (o1 := o1) (o2 := o2) (o3 := o3) (o4 := o4) (b_ := c0) (H1.out.keep (M.out.2.2.2)) (H2.out.keep (M.out.2.2.2)) (H3.out.keep (M.out.2.2.2)) (H4.out.keep (M.out.2.2.2)) HC0.out).mono ?_
  rintro e w3 ⟨rfl, hb⟩
  replace M := Lib.hid (Goes.go M.out hb)
  clear hb
  cases c0 with
  | false =>
    go_wp2_with fail
    go_ret
    exact ⟨rfl, (M.out.2.2.2)⟩
  | true =>
    have y2 := (M.out.1).d8; have p2_0 := y2.1; have p2_1 := y2.2.1; have p2_2 := y2.2.2.1; have p2_3 := y2.2.2.2.1; have p2_4 := y2.2.2.2.2.1; have p2_5 := y2.2.2.2.2.2.1; have p2_6 := y2.2.2.2.2.2.2.1; have p2_7 := y2.2.2.2.2.2.2.2; clear y2
    go_wp2_with fail
    clear p2_0 p2_1 p2_2 p2_3 p2_4 p2_5 p2_6 p2_7
    refine (rFew_s (o1 := o5) (o2 := o6) (b_ := c1) (H5.out.keep (M.out.2.2.2)) (H6.out.keep (M.out.2.2.2)) HC1.out).mono ?_
    rintro e w4 ⟨rfl, hb⟩
    replace M := Lib.hid (Goes.go M.out hb)
    clear hb
    cases c1 with
    | false =>
      go_wp2_with fail
      go_ret
      exact ⟨rfl, (M.out.2.2.2)⟩
    | true =>
      have y0 := (M.out.2.2.1).d8; have p0_0 := y0.1; have p0_1 := y0.2.1; have p0_2 := y0.2.2.1; have p0_3 := y0.2.2.2.1; have p0_4 := y0.2.2.2.2.1; have p0_5 := y0.2.2.2.2.2.1; have p0_6 := y0.2.2.2.2.2.2.1; have p0_7 := y0.2.2.2.2.2.2.2; clear y0
      go_wp2_with fail
      clear p0_0 p0_1 p0_2 p0_3 p0_4 p0_5 p0_6 p0_7
      refine (spRight_x (o1 := o1) (o2 := o2) (b_ := c2) (H1.out.keep (M.out.2.2.2)) (H2.out.keep (M.out.2.2.2)) (few4_1 HC0.out) (few4_2 HC0.out) HC2.out).mono ?_
      rintro e w5 ⟨rfl, hb⟩
      replace M := Lib.hid (Goes.go M.out hb)
      clear hb
      cases c2 with
      | false =>
        go_wp2_with fail
        go_ret
        exact ⟨rfl, (M.out.2.2.2)⟩
      | true =>
        have y1 := (M.out.2.1).d8; have p1_0 := y1.1; have p1_1 := y1.2.1; have p1_2 := y1.2.2.1; have p1_3 := y1.2.2.2.1; have p1_4 := y1.2.2.2.2.1; have p1_5 := y1.2.2.2.2.2.1; have p1_6 := y1.2.2.2.2.2.2.1; have p1_7 := y1.2.2.2.2.2.2.2; clear y1
        go_wp2_with fail
        clear p1_0 p1_1 p1_2 p1_3 p1_4 p1_5 p1_6 p1_7
        refine (spRight_x (o1 := o3) (o2 := o4) (b_ := c3) (H3.out.keep (M.out.2.2.2)) (H4.out.keep (M.out.2.2.2)) (few4_3 HC0.out) (few4_4 HC0.out) HC3.out).mono ?_
        rintro e w6 ⟨rfl, hb⟩
        replace M := Lib.hid (Goes.go M.out hb)
        clear hb
        cases c3 with
        | false =>
          go_wp2_with fail
          go_ret
          exact ⟨rfl, (M.out.2.2.2)⟩
        | true =>
          have y2 := (M.out.1).d8; have p2_0 := y2.1; have p2_1 := y2.2.1; have p2_2 := y2.2.2.1; have p2_3 := y2.2.2.2.1; have p2_4 := y2.2.2.2.2.1; have p2_5 := y2.2.2.2.2.2.1; have p2_6 := y2.2.2.2.2.2.2.1; have p2_7 := y2.2.2.2.2.2.2.2; clear y2
          go_wp2_with fail
          clear p2_0 p2_1 p2_2 p2_3 p2_4 p2_5 p2_6 p2_7
          refine (spRight_x (o1 := o5) (o2 := o6) (b_ := c4) (H5.out.keep (M.out.2.2.2)) (H6.out.keep (M.out.2.2.2)) (few2_1 HC1.out) (few2_2 HC1.out) HC4.out).mono ?_
          rintro e w7 ⟨rfl, hb⟩
          replace M := Lib.hid (Goes.go M.out hb)
          clear hb
          cases c4 with
          | false =>
            go_wp2_with fail
            go_ret
            exact ⟨rfl, (M.out.2.2.2)⟩
          | true =>
            go_upto_region 4 with fail
            exact absurd HN.out (by decide)
theorem add_le2 {a b c d : Rat} (h : a ≤ b) (k : c ≤ d) : a + c ≤ b + d := by grind
def turnK (k : Nat) : Bool := k == 0 || k == 2 || k == 4 || k == 5
theorem op_turn {k : Nat} {a b c : Sp} (ha : okS a) (hb : okS b) (hc : okS c) (hk : turnK k = true) :
    ∃ x z l, opS k a b = some x ∧ opS k b a = some x ∧ opS k b c = some z ∧ opS k x c = some l ∧ opS k a z = some l := by
  match k, hk with
  | 0, _ => exact ⟨addS a b, addS b c, addS (addS a b) c, rfl, congrArg some (addS_comm b a), rfl, rfl, congrArg some (addS_assoc a b c).symm⟩
  | 2, _ => exact ⟨mulS a b, mulS b c, mulS (mulS a b) c, rfl, congrArg some (mulS_comm b a), rfl, rfl, congrArg some (mulS_assoc ha hb hc).symm⟩
  | 4, _ => exact ⟨minS a b, minS b c, minS (minS a b) c, rfl, congrArg some (minS_comm b a), rfl, rfl, congrArg some (minS_assoc a b c).symm⟩
  | 5, _ => exact ⟨maxS a b, maxS b c, maxS (maxS a b) c, rfl, congrArg some (maxS_comm b a), rfl, rfl, congrArg some (maxS_assoc a b c).symm⟩
  | 1, h => cases h
  | 3, h => cases h
  | k + 6, h => simp [turnK] at h
theorem turns_law {u0 u1 u2 u3 u4 u5 u6 u7 v0 v1 v2 v3 v4 v5 v6 v7 y0 y1 y2 y3 y4 y5 y6 y7 : Value} {k : Nat} {i : Int} {p q r s t u : Rat} {w : World} (hG : G ≤ w.heap.size) (h1 : FQ G w u0 u1 u2 u3 p) (h2 : FQ G w u4 u5 u6 u7 q) (h3 : FQ G w v0 v1 v2 v3 r) (h4 : FQ G w v4 v5 v6 v7 s) (h5 : FQ G w y0 y1 y2 y3 t) (h6 : FQ G w y4 y5 y6 y7 u)
    (hp : Fz p 4) (hq : Fz q 4) (hr : Fz r 4) (hs : Fz s 4) (ht : Fz t 4) (hu : Fz u 4) (ha : p ≤ q) (hb : r ≤ s) (hc : t ≤ u) (hi : i = (k : Int)) (hk : turnK k = true) :
    Calls Try.prog 17 #[.int .i64 i, .agg #[u0, u1, u2, u3, u4, u5, u6, u7], .agg #[v0, v1, v2, v3, v4, v5, v6, v7], .agg #[y0, y1, y2, y3, y4, y5, y6, y7]] w fun e w' => e = .returned (.bool true) ∧ Below w.heap.size w w' := by
  obtain ⟨⟨xl, xh⟩, ⟨zl, zh⟩, ⟨ll, lh⟩, e1, e2, e3, e4, e5⟩ := op_turn (a := ⟨p, q⟩) (b := ⟨r, s⟩) (c := ⟨t, u⟩) ha hb hc hk
  have hk6 : k < 6 := by
    rcases Nat.lt_or_ge k 6 with h | h
    · exact h
    · exfalso
      obtain ⟨j, rfl⟩ : ∃ j, k = j + 6 := ⟨k - 6, by omega⟩
      simp [turnK] at hk
  exact turns_ok hG h1 h2 h3 h4 hp hq hr hs h5 h6 ht hu ha hb hc hk6 hi.symm e1 e2 e3 e4 e5
set_option maxRecDepth 100000 in
set_option maxHeartbeats 4000000 in
theorem laws_all {u0 u1 u2 u3 u4 u5 u6 u7 v0 v1 v2 v3 v4 v5 v6 v7 y0 y1 y2 y3 y4 y5 y6 y7 : Value} {n1 m1 n2 m2 n3 m3 n4 m4 n5 m5 n6 m6 : Nat} {p1 p2 r1 r2 s1 s2 : Rat} {w : World} (hG : G ≤ w.heap.size) (h1 : FX w u0 u1 u2 u3 n1 m1 (some p1)) (k1 : FQ G w u0 u1 u2 u3 p1) (z1 : Fz p1 4) (h2 : FX w u4 u5 u6 u7 n2 m2 (some p2)) (k2 : FQ G w u4 u5 u6 u7 p2) (z2 : Fz p2 4) (h3 : FX w v0 v1 v2 v3 n3 m3 (some r1)) (k3 : FQ G w v0 v1 v2 v3 r1) (z3 : Fz r1 4) (h4 : FX w v4 v5 v6 v7 n4 m4 (some r2)) (k4 : FQ G w v4 v5 v6 v7 r2) (z4 : Fz r2 4) (h5 : FX w y0 y1 y2 y3 n5 m5 (some s1)) (k5 : FQ G w y0 y1 y2 y3 s1) (z5 : Fz s1 4) (h6 : FX w y4 y5 y6 y7 n6 m6 (some s2)) (k6 : FQ G w y4 y5 y6 y7 s2) (z6 : Fz s2 4) (hc0 : few4 n1 m1 n2 m2 n3 m3 n4 m4 = true) (hc1 : few2 n5 m5 n6 m6 = true) (hc2 : rightX (some p1) (some p2) = true) (hc3 : rightX (some r1) (some r2) = true) (hc4 : rightX (some s1) (some s2) = true)  :
    Calls Try.prog 4 #[.agg #[u0, u1, u2, u3, u4, u5, u6, u7], .agg #[v0, v1, v2, v3, v4, v5, v6, v7], .agg #[y0, y1, y2, y3, y4, y5, y6, y7]] w fun e w' => e = .returned (.bool true) ∧ Below w.heap.size w w' := by
  have h1_ := right_le hc2
  have h2_ := right_le hc3
  have h3_ := right_le hc4
  obtain ⟨hl, hhl⟩ : ∃ x, min4 p1 p2 r1 r2 = x := ⟨_, rfl⟩
  obtain ⟨hh, hhh⟩ : ∃ x, max4 p1 p2 r1 r2 = x := ⟨_, rfl⟩
  obtain ⟨kl, hkl⟩ : ∃ x, min4 r1 r2 s1 s2 = x := ⟨_, rfl⟩
  obtain ⟨kh, hkh⟩ : ∃ x, max4 r1 r2 s1 s2 = x := ⟨_, rfl⟩
  obtain ⟨jl, hjl⟩ : ∃ x, min4 hl hh s1 s2 = x := ⟨_, rfl⟩
  obtain ⟨jh, hjh⟩ : ∃ x, max4 hl hh s1 s2 = x := ⟨_, rfl⟩
  have HH : Hid (hullS ⟨p1, p2⟩ ⟨r1, r2⟩ = ⟨hl, hh⟩) := by show _ = _; rw [← hhl, ← hhh]; rfl
  have HK : Hid (hullS ⟨r1, r2⟩ ⟨s1, s2⟩ = ⟨kl, kh⟩) := by show _ = _; rw [← hkl, ← hkh]; rfl
  have HJ : Hid (hullS ⟨hl, hh⟩ ⟨s1, s2⟩ = ⟨jl, jh⟩) := by show _ = _; rw [← hjl, ← hjh]; rfl
  have HC_ : Hid (hullS ⟨r1, r2⟩ ⟨p1, p2⟩ = ⟨hl, hh⟩) := by show _ = _; rw [← HH.out]; exact hullS_comm h2_ h1_
  have HA_ : Hid (hullS ⟨p1, p2⟩ ⟨kl, kh⟩ = ⟨jl, jh⟩) := by show _ = _; rw [← HJ.out, ← HH.out, ← HK.out]; exact (hullS_assoc (a := ⟨p1, p2⟩) (b := ⟨r1, r2⟩) (c := ⟨s1, s2⟩) h1_ h2_ h3_).symm
  have HHO : Hid (hl ≤ hh) := by have h_ := hullS_ok (a := ⟨p1, p2⟩) (b := ⟨r1, r2⟩) h1_ h2_; rw [HH.out] at h_; exact h_
  have HKO : Hid (kl ≤ kh) := by have h_ := hullS_ok (a := ⟨r1, r2⟩) (b := ⟨s1, s2⟩) h2_ h3_; rw [HK.out] at h_; exact h_
  have HHSl : Hid (Fz hl 4) := by show Fz _ _; rw [← hhl]; exact Fz.min4 z1 z2 z3 z4
  have HHSh : Hid (Fz hh 4) := by show Fz _ _; rw [← hhh]; exact Fz.max4 z1 z2 z3 z4
  have HKSl : Hid (Fz kl 4) := by show Fz _ _; rw [← hkl]; exact Fz.min4 z3 z4 z5 z6
  have HKSh : Hid (Fz kh 4) := by show Fz _ _; rw [← hkh]; exact Fz.max4 z3 z4 z5 z6
  have HJSl : Hid (Fz jl 4) := by show Fz _ _; rw [← hjl]; exact Fz.min4 HHSl.out HHSh.out z5 z6
  have HJSh : Hid (Fz jh 4) := by show Fz _ _; rw [← hjh]; exact Fz.max4 HHSl.out HHSh.out z5 z6
  obtain ⟨wl, hwl⟩ : ∃ x, min4 (p1 * (r1 + s1)) (p1 * (r2 + s2)) (p2 * (r1 + s1)) (p2 * (r2 + s2)) = x := ⟨_, rfl⟩
  obtain ⟨wh, hwh⟩ : ∃ x, max4 (p1 * (r1 + s1)) (p1 * (r2 + s2)) (p2 * (r1 + s1)) (p2 * (r2 + s2)) = x := ⟨_, rfl⟩
  obtain ⟨ml, hml⟩ : ∃ x, min4 (p1 * r1) (p1 * r2) (p2 * r1) (p2 * r2) = x := ⟨_, rfl⟩
  obtain ⟨mh, hmh⟩ : ∃ x, max4 (p1 * r1) (p1 * r2) (p2 * r1) (p2 * r2) = x := ⟨_, rfl⟩
  obtain ⟨nl, hnl⟩ : ∃ x, min4 (p1 * s1) (p1 * s2) (p2 * s1) (p2 * s2) = x := ⟨_, rfl⟩
  obtain ⟨nh, hnh⟩ : ∃ x, max4 (p1 * s1) (p1 * s2) (p2 * s1) (p2 * s2) = x := ⟨_, rfl⟩
  have HDI : Hid ((decide (ml + nl ≤ wl) && decide (wh ≤ mh + nh)) = true) := by
    show _ = _
    rw [← hwl, ← hwh, ← hml, ← hmh, ← hnl, ← hnh]
    exact inB.2 (distr (a := ⟨p1, p2⟩) (b := ⟨r1, r2⟩) (c := ⟨s1, s2⟩) h1_ h2_ h3_)
  have HWO : Hid (wl ≤ wh) := by show _ ≤ _; rw [← hwl, ← hwh]; exact mulS_ok (a := ⟨p1, p2⟩) (b := ⟨r1 + s1, r2 + s2⟩) h1_ (addS_ok (a := ⟨r1, r2⟩) (b := ⟨s1, s2⟩) h2_ h3_)
  have HMO : Hid (ml ≤ mh) := by show _ ≤ _; rw [← hml, ← hmh]; exact mulS_ok (a := ⟨p1, p2⟩) (b := ⟨r1, r2⟩) h1_ h2_
  have HNO : Hid (nl ≤ nh) := by show _ ≤ _; rw [← hnl, ← hnh]; exact mulS_ok (a := ⟨p1, p2⟩) (b := ⟨s1, s2⟩) h1_ h3_
  have HWSl : Hid (Fz wl 13) := by show Fz _ _; rw [← hwl]; exact Fz.min4 (z1.mul (z3.add z5)) (z1.mul (z4.add z6)) (z2.mul (z3.add z5)) (z2.mul (z4.add z6))
  have HWSh : Hid (Fz wh 13) := by show Fz _ _; rw [← hwh]; exact Fz.max4 (z1.mul (z3.add z5)) (z1.mul (z4.add z6)) (z2.mul (z3.add z5)) (z2.mul (z4.add z6))
  have HMSl : Hid (Fz ml 8) := by show Fz _ _; rw [← hml]; exact Fz.min4 (z1.mul z3) (z1.mul z4) (z2.mul z3) (z2.mul z4)
  have HMSh : Hid (Fz mh 8) := by show Fz _ _; rw [← hmh]; exact Fz.max4 (z1.mul z3) (z1.mul z4) (z2.mul z3) (z2.mul z4)
  have HNSl : Hid (Fz nl 8) := by show Fz _ _; rw [← hnl]; exact Fz.min4 (z1.mul z5) (z1.mul z6) (z2.mul z5) (z2.mul z6)
  have HNSh : Hid (Fz nh 8) := by show Fz _ _; rw [← hnh]; exact Fz.max4 (z1.mul z5) (z1.mul z6) (z2.mul z5) (z2.mul z6)
  have HWL := Lib.hid hwl; have HWH := Lib.hid hwh; have HML := Lib.hid hml; have HMH := Lib.hid hmh; have HNL := Lib.hid hnl; have HNH := Lib.hid hnh
  clear h1_ h2_ h3_ hhl hhh hkl hkh hjl hjh hwl hwh hml hmh hnl hnh
  have Z1 := Lib.hid z1; clear z1
  have Z2 := Lib.hid z2; clear z2
  have Z3 := Lib.hid z3; clear z3
  have Z4 := Lib.hid z4; clear z4
  have Z5 := Lib.hid z5; clear z5
  have Z6 := Lib.hid z6; clear z6
  have HC0 := Lib.hid hc0; clear hc0
  have HC1 := Lib.hid hc1; clear hc1
  have HC2 := Lib.hid hc2; clear hc2
  have HC3 := Lib.hid hc3; clear hc3
  have HC4 := Lib.hid hc4; clear hc4
  have H1 : Hid (FX w u0 u1 u2 u3 n1 m1 (some p1)) := h1
  have K1 : Hid (FQ G w u0 u1 u2 u3 p1) := k1
  have H2 : Hid (FX w u4 u5 u6 u7 n2 m2 (some p2)) := h2
  have K2 : Hid (FQ G w u4 u5 u6 u7 p2) := k2
  have H3 : Hid (FX w v0 v1 v2 v3 n3 m3 (some r1)) := h3
  have K3 : Hid (FQ G w v0 v1 v2 v3 r1) := k3
  have H4 : Hid (FX w v4 v5 v6 v7 n4 m4 (some r2)) := h4
  have K4 : Hid (FQ G w v4 v5 v6 v7 r2) := k4
  have H5 : Hid (FX w y0 y1 y2 y3 n5 m5 (some s1)) := h5
  have K5 : Hid (FQ G w y0 y1 y2 y3 s1) := k5
  have H6 : Hid (FX w y4 y5 y6 y7 n6 m6 (some s2)) := h6
  have K6 : Hid (FQ G w y4 y5 y6 y7 s2) := k6
  clear h1 k1 h2 k2 h3 k3 h4 k4 h5 k5 h6 k6
  have M : Hid (Below w.heap.size w w) := Below.refl _ _
  go_enter Try.func4, Try.ntmps4
  go_upto_region 1 with fail
  obtain ⟨w1, hv⟩ : ∃ w_ : World, w_ = (((w.alloc (.cells #[u0, u1, u2, u3, u4, u5, u6, u7] 28)).alloc (.cells #[v0, v1, v2, v3, v4, v5, v6, v7] 28)).alloc (.cells #[y0, y1, y2, y3, y4, y5, y6, y7] 28)) := ⟨_, rfl⟩
  rw [← hv]
  have hbx := bx3 w 28 28 28 #[u0, u1, u2, u3, u4, u5, u6, u7] #[v0, v1, v2, v3, v4, v5, v6, v7] #[y0, y1, y2, y3, y4, y5, y6, y7]
  rw [← hv] at hbx
  have hbn : Below w.heap.size w w1 := by rw [hv]; exact (Below.alloc (Below.alloc (Below.alloc (Below.refl _ _) (by simp <;> omega) _) (by simp <;> omega) _) (by simp <;> omega) _)
  replace M := Lib.hid (And.intro hbx.2.2 (And.intro hbx.2.1 (And.intro hbx.1 (Goes.go M.out hbn))))
  clear hbx hbn
  clear hv
  go_wp2_with fail
  refine (spanSmall_ok (G := G) (Nat.le_trans hG (M.out.2.2.2).size)).mono ?_
  rintro e w2 ⟨rfl, hb⟩
  replace M := Lib.hid (Goes.go M.out hb)
  clear hb
  have y0 := (M.out.2.2.1).d8; have p0_0 := y0.1; have p0_1 := y0.2.1; have p0_2 := y0.2.2.1; have p0_3 := y0.2.2.2.1; have p0_4 := y0.2.2.2.2.1; have p0_5 := y0.2.2.2.2.2.1; have p0_6 := y0.2.2.2.2.2.2.1; have p0_7 := y0.2.2.2.2.2.2.2; clear y0
  have y1 := (M.out.2.1).d8; have p1_0 := y1.1; have p1_1 := y1.2.1; have p1_2 := y1.2.2.1; have p1_3 := y1.2.2.2.1; have p1_4 := y1.2.2.2.2.1; have p1_5 := y1.2.2.2.2.2.1; have p1_6 := y1.2.2.2.2.2.2.1; have p1_7 := y1.2.2.2.2.2.2.2; clear y1
  go_wp2_with fail
  clear p0_0 p0_1 p0_2 p0_3 p0_4 p0_5 p0_6 p0_7 p1_0 p1_1 p1_2 p1_3 p1_4 p1_5 p1_6 p1_7
  refine (few_s (o1 := (some p1)) (o2 := (some p2)) (o3 := (some r1)) (o4 := (some r2)) (b_ := true) (H1.out.keep (M.out.2.2.2)) (H2.out.keep (M.out.2.2.2)) (H3.out.keep (M.out.2.2.2)) (H4.out.keep (M.out.2.2.2)) HC0.out).mono ?_
  rintro e w3 ⟨rfl, hb⟩
  replace M := Lib.hid (Goes.go M.out hb)
  clear hb
  have y2 := (M.out.1).d8; have p2_0 := y2.1; have p2_1 := y2.2.1; have p2_2 := y2.2.2.1; have p2_3 := y2.2.2.2.1; have p2_4 := y2.2.2.2.2.1; have p2_5 := y2.2.2.2.2.2.1; have p2_6 := y2.2.2.2.2.2.2.1; have p2_7 := y2.2.2.2.2.2.2.2; clear y2
  go_wp2_with fail
  clear p2_0 p2_1 p2_2 p2_3 p2_4 p2_5 p2_6 p2_7
  refine (rFew_s (o1 := (some s1)) (o2 := (some s2)) (b_ := true) (H5.out.keep (M.out.2.2.2)) (H6.out.keep (M.out.2.2.2)) HC1.out).mono ?_
  rintro e w4 ⟨rfl, hb⟩
  replace M := Lib.hid (Goes.go M.out hb)
  clear hb
  have y0 := (M.out.2.2.1).d8; have p0_0 := y0.1; have p0_1 := y0.2.1; have p0_2 := y0.2.2.1; have p0_3 := y0.2.2.2.1; have p0_4 := y0.2.2.2.2.1; have p0_5 := y0.2.2.2.2.2.1; have p0_6 := y0.2.2.2.2.2.2.1; have p0_7 := y0.2.2.2.2.2.2.2; clear y0
  go_wp2_with fail
  clear p0_0 p0_1 p0_2 p0_3 p0_4 p0_5 p0_6 p0_7
  refine (spRight_x (o1 := (some p1)) (o2 := (some p2)) (b_ := true) (H1.out.keep (M.out.2.2.2)) (H2.out.keep (M.out.2.2.2)) (few4_1 HC0.out) (few4_2 HC0.out) HC2.out).mono ?_
  rintro e w5 ⟨rfl, hb⟩
  replace M := Lib.hid (Goes.go M.out hb)
  clear hb
  have y1 := (M.out.2.1).d8; have p1_0 := y1.1; have p1_1 := y1.2.1; have p1_2 := y1.2.2.1; have p1_3 := y1.2.2.2.1; have p1_4 := y1.2.2.2.2.1; have p1_5 := y1.2.2.2.2.2.1; have p1_6 := y1.2.2.2.2.2.2.1; have p1_7 := y1.2.2.2.2.2.2.2; clear y1
  go_wp2_with fail
  clear p1_0 p1_1 p1_2 p1_3 p1_4 p1_5 p1_6 p1_7
  refine (spRight_x (o1 := (some r1)) (o2 := (some r2)) (b_ := true) (H3.out.keep (M.out.2.2.2)) (H4.out.keep (M.out.2.2.2)) (few4_3 HC0.out) (few4_4 HC0.out) HC3.out).mono ?_
  rintro e w6 ⟨rfl, hb⟩
  replace M := Lib.hid (Goes.go M.out hb)
  clear hb
  have y2 := (M.out.1).d8; have p2_0 := y2.1; have p2_1 := y2.2.1; have p2_2 := y2.2.2.1; have p2_3 := y2.2.2.2.1; have p2_4 := y2.2.2.2.2.1; have p2_5 := y2.2.2.2.2.2.1; have p2_6 := y2.2.2.2.2.2.2.1; have p2_7 := y2.2.2.2.2.2.2.2; clear y2
  go_wp2_with fail
  clear p2_0 p2_1 p2_2 p2_3 p2_4 p2_5 p2_6 p2_7
  refine (spRight_x (o1 := (some s1)) (o2 := (some s2)) (b_ := true) (H5.out.keep (M.out.2.2.2)) (H6.out.keep (M.out.2.2.2)) (few2_1 HC1.out) (few2_2 HC1.out) HC4.out).mono ?_
  rintro e w7 ⟨rfl, hb⟩
  replace M := Lib.hid (Goes.go M.out hb)
  clear hb
  have y0 := (M.out.2.2.1).d8; have p0_0 := y0.1; have p0_1 := y0.2.1; have p0_2 := y0.2.2.1; have p0_3 := y0.2.2.2.1; have p0_4 := y0.2.2.2.2.1; have p0_5 := y0.2.2.2.2.2.1; have p0_6 := y0.2.2.2.2.2.2.1; have p0_7 := y0.2.2.2.2.2.2.2; clear y0
  have y1 := (M.out.2.1).d8; have p1_0 := y1.1; have p1_1 := y1.2.1; have p1_2 := y1.2.2.1; have p1_3 := y1.2.2.2.1; have p1_4 := y1.2.2.2.2.1; have p1_5 := y1.2.2.2.2.2.1; have p1_6 := y1.2.2.2.2.2.2.1; have p1_7 := y1.2.2.2.2.2.2.2; clear y1
  have y2 := (M.out.1).d8; have p2_0 := y2.1; have p2_1 := y2.2.1; have p2_2 := y2.2.2.1; have p2_3 := y2.2.2.2.1; have p2_4 := y2.2.2.2.2.1; have p2_5 := y2.2.2.2.2.2.1; have p2_6 := y2.2.2.2.2.2.2.1; have p2_7 := y2.2.2.2.2.2.2.2; clear y2
  go_wp2_with fail
  clear p0_0 p0_1 p0_2 p0_3 p0_4 p0_5 p0_6 p0_7 p1_0 p1_1 p1_2 p1_3 p1_4 p1_5 p1_6 p1_7 p2_0 p2_1 p2_2 p2_3 p2_4 p2_5 p2_6 p2_7
  refine (turns_law (G := G) (i := 0) (p := p1) (q := p2) (r := r1) (s := r2) (t := s1) (u := s2) (Nat.le_trans hG (M.out.2.2.2).size) (K1.out.keep (M.out.2.2.2)) (K2.out.keep (M.out.2.2.2)) (K3.out.keep (M.out.2.2.2)) (K4.out.keep (M.out.2.2.2)) (K5.out.keep (M.out.2.2.2)) (K6.out.keep (M.out.2.2.2)) Z1.out Z2.out Z3.out Z4.out Z5.out Z6.out (right_le HC2.out) (right_le HC3.out) (right_le HC4.out) rfl rfl).mono ?_
  rintro e w8 ⟨rfl, hb⟩
  replace M := Lib.hid (Goes.go M.out hb)
  clear hb
  have y0 := (M.out.2.2.1).d8; have p0_0 := y0.1; have p0_1 := y0.2.1; have p0_2 := y0.2.2.1; have p0_3 := y0.2.2.2.1; have p0_4 := y0.2.2.2.2.1; have p0_5 := y0.2.2.2.2.2.1; have p0_6 := y0.2.2.2.2.2.2.1; have p0_7 := y0.2.2.2.2.2.2.2; clear y0
  have y1 := (M.out.2.1).d8; have p1_0 := y1.1; have p1_1 := y1.2.1; have p1_2 := y1.2.2.1; have p1_3 := y1.2.2.2.1; have p1_4 := y1.2.2.2.2.1; have p1_5 := y1.2.2.2.2.2.1; have p1_6 := y1.2.2.2.2.2.2.1; have p1_7 := y1.2.2.2.2.2.2.2; clear y1
  have y2 := (M.out.1).d8; have p2_0 := y2.1; have p2_1 := y2.2.1; have p2_2 := y2.2.2.1; have p2_3 := y2.2.2.2.1; have p2_4 := y2.2.2.2.2.1; have p2_5 := y2.2.2.2.2.2.1; have p2_6 := y2.2.2.2.2.2.2.1; have p2_7 := y2.2.2.2.2.2.2.2; clear y2
  go_wp2_with fail
  clear p0_0 p0_1 p0_2 p0_3 p0_4 p0_5 p0_6 p0_7 p1_0 p1_1 p1_2 p1_3 p1_4 p1_5 p1_6 p1_7 p2_0 p2_1 p2_2 p2_3 p2_4 p2_5 p2_6 p2_7
  refine (turns_law (G := G) (i := 2) (p := p1) (q := p2) (r := r1) (s := r2) (t := s1) (u := s2) (Nat.le_trans hG (M.out.2.2.2).size) (K1.out.keep (M.out.2.2.2)) (K2.out.keep (M.out.2.2.2)) (K3.out.keep (M.out.2.2.2)) (K4.out.keep (M.out.2.2.2)) (K5.out.keep (M.out.2.2.2)) (K6.out.keep (M.out.2.2.2)) Z1.out Z2.out Z3.out Z4.out Z5.out Z6.out (right_le HC2.out) (right_le HC3.out) (right_le HC4.out) rfl rfl).mono ?_
  rintro e w9 ⟨rfl, hb⟩
  replace M := Lib.hid (Goes.go M.out hb)
  clear hb
  have y0 := (M.out.2.2.1).d8; have p0_0 := y0.1; have p0_1 := y0.2.1; have p0_2 := y0.2.2.1; have p0_3 := y0.2.2.2.1; have p0_4 := y0.2.2.2.2.1; have p0_5 := y0.2.2.2.2.2.1; have p0_6 := y0.2.2.2.2.2.2.1; have p0_7 := y0.2.2.2.2.2.2.2; clear y0
  have y1 := (M.out.2.1).d8; have p1_0 := y1.1; have p1_1 := y1.2.1; have p1_2 := y1.2.2.1; have p1_3 := y1.2.2.2.1; have p1_4 := y1.2.2.2.2.1; have p1_5 := y1.2.2.2.2.2.1; have p1_6 := y1.2.2.2.2.2.2.1; have p1_7 := y1.2.2.2.2.2.2.2; clear y1
  have y2 := (M.out.1).d8; have p2_0 := y2.1; have p2_1 := y2.2.1; have p2_2 := y2.2.2.1; have p2_3 := y2.2.2.2.1; have p2_4 := y2.2.2.2.2.1; have p2_5 := y2.2.2.2.2.2.1; have p2_6 := y2.2.2.2.2.2.2.1; have p2_7 := y2.2.2.2.2.2.2.2; clear y2
  go_wp2_with fail
  clear p0_0 p0_1 p0_2 p0_3 p0_4 p0_5 p0_6 p0_7 p1_0 p1_1 p1_2 p1_3 p1_4 p1_5 p1_6 p1_7 p2_0 p2_1 p2_2 p2_3 p2_4 p2_5 p2_6 p2_7
  refine (turns_law (G := G) (i := 4) (p := p1) (q := p2) (r := r1) (s := r2) (t := s1) (u := s2) (Nat.le_trans hG (M.out.2.2.2).size) (K1.out.keep (M.out.2.2.2)) (K2.out.keep (M.out.2.2.2)) (K3.out.keep (M.out.2.2.2)) (K4.out.keep (M.out.2.2.2)) (K5.out.keep (M.out.2.2.2)) (K6.out.keep (M.out.2.2.2)) Z1.out Z2.out Z3.out Z4.out Z5.out Z6.out (right_le HC2.out) (right_le HC3.out) (right_le HC4.out) rfl rfl).mono ?_
  rintro e w10 ⟨rfl, hb⟩
  replace M := Lib.hid (Goes.go M.out hb)
  clear hb
  have y0 := (M.out.2.2.1).d8; have p0_0 := y0.1; have p0_1 := y0.2.1; have p0_2 := y0.2.2.1; have p0_3 := y0.2.2.2.1; have p0_4 := y0.2.2.2.2.1; have p0_5 := y0.2.2.2.2.2.1; have p0_6 := y0.2.2.2.2.2.2.1; have p0_7 := y0.2.2.2.2.2.2.2; clear y0
  have y1 := (M.out.2.1).d8; have p1_0 := y1.1; have p1_1 := y1.2.1; have p1_2 := y1.2.2.1; have p1_3 := y1.2.2.2.1; have p1_4 := y1.2.2.2.2.1; have p1_5 := y1.2.2.2.2.2.1; have p1_6 := y1.2.2.2.2.2.2.1; have p1_7 := y1.2.2.2.2.2.2.2; clear y1
  have y2 := (M.out.1).d8; have p2_0 := y2.1; have p2_1 := y2.2.1; have p2_2 := y2.2.2.1; have p2_3 := y2.2.2.2.1; have p2_4 := y2.2.2.2.2.1; have p2_5 := y2.2.2.2.2.2.1; have p2_6 := y2.2.2.2.2.2.2.1; have p2_7 := y2.2.2.2.2.2.2.2; clear y2
  go_wp2_with fail
  clear p0_0 p0_1 p0_2 p0_3 p0_4 p0_5 p0_6 p0_7 p1_0 p1_1 p1_2 p1_3 p1_4 p1_5 p1_6 p1_7 p2_0 p2_1 p2_2 p2_3 p2_4 p2_5 p2_6 p2_7
  refine (turns_law (G := G) (i := 5) (p := p1) (q := p2) (r := r1) (s := r2) (t := s1) (u := s2) (Nat.le_trans hG (M.out.2.2.2).size) (K1.out.keep (M.out.2.2.2)) (K2.out.keep (M.out.2.2.2)) (K3.out.keep (M.out.2.2.2)) (K4.out.keep (M.out.2.2.2)) (K5.out.keep (M.out.2.2.2)) (K6.out.keep (M.out.2.2.2)) Z1.out Z2.out Z3.out Z4.out Z5.out Z6.out (right_le HC2.out) (right_le HC3.out) (right_le HC4.out) rfl rfl).mono ?_
  rintro e w11 ⟨rfl, hb⟩
  replace M := Lib.hid (Goes.go M.out hb)
  clear hb
  have y0 := (M.out.2.2.1).d8; have p0_0 := y0.1; have p0_1 := y0.2.1; have p0_2 := y0.2.2.1; have p0_3 := y0.2.2.2.1; have p0_4 := y0.2.2.2.2.1; have p0_5 := y0.2.2.2.2.2.1; have p0_6 := y0.2.2.2.2.2.2.1; have p0_7 := y0.2.2.2.2.2.2.2; clear y0
  have y1 := (M.out.2.1).d8; have p1_0 := y1.1; have p1_1 := y1.2.1; have p1_2 := y1.2.2.1; have p1_3 := y1.2.2.2.1; have p1_4 := y1.2.2.2.2.1; have p1_5 := y1.2.2.2.2.2.1; have p1_6 := y1.2.2.2.2.2.2.1; have p1_7 := y1.2.2.2.2.2.2.2; clear y1
  go_wp2_with fail
  clear p0_0 p0_1 p0_2 p0_3 p0_4 p0_5 p0_6 p0_7 p1_0 p1_1 p1_2 p1_3 p1_4 p1_5 p1_6 p1_7
  obtain ⟨q9, eq9⟩ : ∃ v_ : Rat, v_ = (p1 - r2) := ⟨_, rfl⟩
  obtain ⟨q10, eq10⟩ : ∃ v_ : Rat, v_ = (p2 - r1) := ⟨_, rfl⟩
  refine (spSub_q (G := G) (p := p1) (q := p2) (r := r1) (s := r2) (Nat.le_trans hG (M.out.2.2.2).size) (K1.out.keep (M.out.2.2.2)) (K2.out.keep (M.out.2.2.2)) (K3.out.keep (M.out.2.2.2)) (K4.out.keep (M.out.2.2.2)) (Fz.mono Z1.out (by omega)) (Fz.mono Z2.out (by omega)) (Fz.mono Z3.out (by omega)) (Fz.mono Z4.out (by omega)) (right_le HC2.out) (right_le HC3.out)).mono ?_
  rintro e w12 ⟨x_1, x_2, x_3, x_4, x_5, x_6, x_7, x_8, rfl, hd11, hd12, hb⟩
  rw [← eq9] at hd11
  have Sq9 : Hid (Fz q9 9) := by show Fz q9 9; rw [eq9]; exact (Fz.sub Z1.out Z4.out)
  have Eq9 := Lib.hid eq9; clear eq9
  rw [← eq10] at hd12
  have Sq10 : Hid (Fz q10 9) := by show Fz q10 9; rw [eq10]; exact (Fz.sub Z2.out Z3.out)
  have Eq10 := Lib.hid eq10; clear eq10
  replace M := Lib.hid (And.intro hd11 (And.intro hd12 (Goes.go M.out hb)))
  clear hb hd11 hd12
  have ys_x_1 := TQ.st (M.out.1); have st_x_1 := ys_x_1.1; have st_x_2 := ys_x_1.2.1; have st_x_3 := ys_x_1.2.2.1; have st_x_4 := ys_x_1.2.2.2; clear ys_x_1
  have ys_x_5 := TQ.st (M.out.2.1); have st_x_5 := ys_x_5.1; have st_x_6 := ys_x_5.2.1; have st_x_7 := ys_x_5.2.2.1; have st_x_8 := ys_x_5.2.2.2; clear ys_x_5
  go_upto_region 7 with fail
  clear st_x_1 st_x_2 st_x_3 st_x_4 st_x_5 st_x_6 st_x_7 st_x_8
  obtain ⟨w13, hv⟩ : ∃ w_ : World, w_ = (w12.alloc (.cells #[x_1, x_2, x_3, x_4, x_5, x_6, x_7, x_8] 28)) := ⟨_, rfl⟩
  rw [← hv]
  have ow3_ : w.heap.size + 1 + 1 < w12.heap.size := ((M.out.2.2.1)).lt
  replace M := Lib.hid (And.intro (hv ▸ bx1 w12 28 #[x_1, x_2, x_3, x_4, x_5, x_6, x_7, x_8]) (Goes.go M.out (hv ▸ below_alloc _ _ : Below w12.heap.size w12 w13)))
  clear hv
  go_cut [10, 11] (fun s10 s11 wx => ∃ (A37 : Nat), ∃ (x_13 : Value), ∃ (x_14 : Value), ∃ (x_15 : Value), ∃ (x_16 : Value), ∃ (x_17 : Value), ∃ (x_18 : Value), ∃ (x_19 : Value), ∃ (x_20 : Value), ∃ (q21 : Rat), ∃ (q22 : Rat), ∃ (x_25 : Value), ∃ (x_26 : Value), ∃ (x_27 : Value), ∃ (x_28 : Value), ∃ (x_29 : Value), ∃ (x_30 : Value), ∃ (x_31 : Value), ∃ (x_32 : Value), ∃ (q33 : Rat), ∃ (q34 : Rat), s10 = .pointer (some ⟨A37, 0, none⟩) ∧ s11 = .int .i64 0 ∧ Hid (q21 = (-r2)) ∧ Hid (q22 = (-r1)) ∧ Hid (q33 = (p1 + q21)) ∧ Hid (q34 = (p2 + q22)) ∧ Hid (Fz q21 4) ∧ Hid (Fz q22 4) ∧ Hid (Fz q33 9) ∧ Hid (Fz q34 9) ∧ w12.heap.size < A37 ∧ Hid (Bx wx A37 28 #[x_25, x_26, x_27, x_28, x_29, x_30, x_31, x_32] ∧ FQ G wx x_25 x_26 x_27 x_28 q33 ∧ FQ G wx x_29 x_30 x_31 x_32 q34 ∧ FQ G wx x_13 x_14 x_15 x_16 q21 ∧ FQ G wx x_17 x_18 x_19 x_20 q22 ∧ FQ G wx x_1 x_2 x_3 x_4 q9 ∧ FQ G wx x_5 x_6 x_7 x_8 q10 ∧ Bx wx w.heap.size 28 #[u0, u1, u2, u3, u4, u5, u6, u7] ∧ Bx wx (w.heap.size + 1) 28 #[v0, v1, v2, v3, v4, v5, v6, v7] ∧ Bx wx (w.heap.size + 1 + 1) 28 #[y0, y1, y2, y3, y4, y5, y6, y7] ∧ Bx wx w12.heap.size 28 #[x_1, x_2, x_3, x_4, x_5, x_6, x_7, x_8] ∧ Below w.heap.size w wx))
  case first =>
    obtain ⟨w14, hv⟩ : ∃ w_ : World, w_ = w13.drew := ⟨_, rfl⟩
    replace M := Lib.hid (Goes.go M.out (hv ▸ below_drew _ : Below w13.heap.size w13 w14))
    refine wp_region_held_drew (S := (fun w' => w'.cell? ⟨w.heap.size, 0, none⟩ = some (u0) ∧ w'.cell? ⟨w.heap.size, 1, none⟩ = some (u1) ∧ w'.cell? ⟨w.heap.size, 2, none⟩ = some (u2) ∧ w'.cell? ⟨w.heap.size, 3, none⟩ = some (u3) ∧ w'.cell? ⟨w.heap.size, 4, none⟩ = some (u4) ∧ w'.cell? ⟨w.heap.size, 5, none⟩ = some (u5) ∧ w'.cell? ⟨w.heap.size, 6, none⟩ = some (u6) ∧ w'.cell? ⟨w.heap.size, 7, none⟩ = some (u7) ∧ w'.cell? ⟨w.heap.size + 1, 0, none⟩ = some (v0) ∧ w'.cell? ⟨w.heap.size + 1, 1, none⟩ = some (v1) ∧ w'.cell? ⟨w.heap.size + 1, 2, none⟩ = some (v2) ∧ w'.cell? ⟨w.heap.size + 1, 3, none⟩ = some (v3) ∧ w'.cell? ⟨w.heap.size + 1, 4, none⟩ = some (v4) ∧ w'.cell? ⟨w.heap.size + 1, 5, none⟩ = some (v5) ∧ w'.cell? ⟨w.heap.size + 1, 6, none⟩ = some (v6) ∧ w'.cell? ⟨w.heap.size + 1, 7, none⟩ = some (v7))) (by kernel_rfl) (by rw [← hv]; exact ⟨(M.out.2.2.2.2.2.1).at.1 0, (M.out.2.2.2.2.2.1).at.1 1, (M.out.2.2.2.2.2.1).at.1 2, (M.out.2.2.2.2.2.1).at.1 3, (M.out.2.2.2.2.2.1).at.1 4, (M.out.2.2.2.2.2.1).at.1 5, (M.out.2.2.2.2.2.1).at.1 6, (M.out.2.2.2.2.2.1).at.1 7, (M.out.2.2.2.2.1).at.1 0, (M.out.2.2.2.2.1).at.1 1, (M.out.2.2.2.2.1).at.1 2, (M.out.2.2.2.2.1).at.1 3, (M.out.2.2.2.2.1).at.1 4, (M.out.2.2.2.2.1).at.1 5, (M.out.2.2.2.2.1).at.1 6, (M.out.2.2.2.2.1).at.1 7⟩) (fun hH38 => ?_)
    rw [← hv] at hH38 ⊢
    clear hv
    refine tk at0 ?_
    refine tk at1 ?_
    refine wpAnyH_ready (rs := [2, 7]) (by kernel_rfl) (by simp) ?_
    refine AllReadyH.cons at2 (fun K hK => ?_) ?_
    ·
      go_simp
      obtain ⟨q47, eq47⟩ : ∃ v_ : Rat, v_ = (-r2) := ⟨_, rfl⟩
      obtain ⟨q48, eq48⟩ : ∃ v_ : Rat, v_ = (-r1) := ⟨_, rfl⟩
      refine (spNeg_q (G := G) (p := r1) (q := r2) (Nat.le_trans hG (M.out.2.2.2.2.2.2).size) (K3.out.keep (M.out.2.2.2.2.2.2)) (K4.out.keep (M.out.2.2.2.2.2.2)) (Fz.mono Z3.out (by omega)) (Fz.mono Z4.out (by omega)) (right_le HC3.out)).mono ?_
      rintro e w15 ⟨x_39, x_40, x_41, x_42, x_43, x_44, x_45, x_46, rfl, hd49, hd50, hb⟩
      rw [← eq47] at hd49
      have Sq47 : Hid (Fz q47 4) := by show Fz q47 4; rw [eq47]; exact (Fz.neg Z4.out)
      have Eq47 := Lib.hid eq47; clear eq47
      rw [← eq48] at hd50
      have Sq48 : Hid (Fz q48 4) := by show Fz q48 4; rw [eq48]; exact (Fz.neg Z3.out)
      have Eq48 := Lib.hid eq48; clear eq48
      replace M := Lib.hid (And.intro hd49 (And.intro hd50 (Goes.go M.out hb)))
      clear hb hd49 hd50
      (try go_wp2_with fail)
      refine hK.out _ _ (⟨(M.out.2.2.2.2.2.2.2.1).at.1 0, (M.out.2.2.2.2.2.2.2.1).at.1 1, (M.out.2.2.2.2.2.2.2.1).at.1 2, (M.out.2.2.2.2.2.2.2.1).at.1 3, (M.out.2.2.2.2.2.2.2.1).at.1 4, (M.out.2.2.2.2.2.2.2.1).at.1 5, (M.out.2.2.2.2.2.2.2.1).at.1 6, (M.out.2.2.2.2.2.2.2.1).at.1 7, (M.out.2.2.2.2.2.2.1).at.1 0, (M.out.2.2.2.2.2.2.1).at.1 1, (M.out.2.2.2.2.2.2.1).at.1 2, (M.out.2.2.2.2.2.2.1).at.1 3, (M.out.2.2.2.2.2.2.1).at.1 4, (M.out.2.2.2.2.2.2.1).at.1 5, (M.out.2.2.2.2.2.2.1).at.1 6, (M.out.2.2.2.2.2.2.1).at.1 7⟩) (fun hH51 => ?_)
      clear hK K hH38
      (try simp only [Act.put, List.setIfInBounds_toArray, List.set_cons_zero, List.set_cons_succ])
      refine wpAnyH_ready (rs := [3, 7]) (by kernel_rfl) (by simp) ?_
      refine AllReadyH.cons at3 (fun K hK => ?_) ?_
      ·
        go_simp
        obtain ⟨q60, eq60⟩ : ∃ v_ : Rat, v_ = (p1 + q47) := ⟨_, rfl⟩
        obtain ⟨q61, eq61⟩ : ∃ v_ : Rat, v_ = (p2 + q48) := ⟨_, rfl⟩
        refine (spAdd_q (G := G) (p := p1) (q := p2) (r := q47) (s := q48) (Nat.le_trans hG (M.out.2.2.2.2.2.2.2.2).size) (K1.out.keep (M.out.2.2.2.2.2.2.2.2)) (K2.out.keep (M.out.2.2.2.2.2.2.2.2)) (M.out.1) (M.out.2.1) (Fz.mono Z1.out (by omega)) (Fz.mono Z2.out (by omega)) (Fz.mono Sq47.out (by omega)) (Fz.mono Sq48.out (by omega)) (right_le HC2.out) (by rw [Eq48.out, Eq47.out]; exact Rat.neg_le_neg (right_le HC3.out))).mono ?_
        rintro e w16 ⟨x_52, x_53, x_54, x_55, x_56, x_57, x_58, x_59, rfl, hd62, hd63, hb⟩
        rw [← eq60] at hd62
        have Sq60 : Hid (Fz q60 9) := by show Fz q60 9; rw [eq60]; exact (Fz.add Z1.out Sq47.out)
        have Eq60 := Lib.hid eq60; clear eq60
        rw [← eq61] at hd63
        have Sq61 : Hid (Fz q61 9) := by show Fz q61 9; rw [eq61]; exact (Fz.add Z2.out Sq48.out)
        have Eq61 := Lib.hid eq61; clear eq61
        replace M := Lib.hid (And.intro hd62 (And.intro hd63 (Goes.go M.out hb)))
        clear hb hd62 hd63
        (try go_wp2_with fail)
        refine hK.out _ _ (⟨(M.out.2.2.2.2.2.2.2.2.2.1).at.1 0, (M.out.2.2.2.2.2.2.2.2.2.1).at.1 1, (M.out.2.2.2.2.2.2.2.2.2.1).at.1 2, (M.out.2.2.2.2.2.2.2.2.2.1).at.1 3, (M.out.2.2.2.2.2.2.2.2.2.1).at.1 4, (M.out.2.2.2.2.2.2.2.2.2.1).at.1 5, (M.out.2.2.2.2.2.2.2.2.2.1).at.1 6, (M.out.2.2.2.2.2.2.2.2.2.1).at.1 7, (M.out.2.2.2.2.2.2.2.2.1).at.1 0, (M.out.2.2.2.2.2.2.2.2.1).at.1 1, (M.out.2.2.2.2.2.2.2.2.1).at.1 2, (M.out.2.2.2.2.2.2.2.2.1).at.1 3, (M.out.2.2.2.2.2.2.2.2.1).at.1 4, (M.out.2.2.2.2.2.2.2.2.1).at.1 5, (M.out.2.2.2.2.2.2.2.2.1).at.1 6, (M.out.2.2.2.2.2.2.2.2.1).at.1 7⟩) (fun hH64 => ?_)
        clear hK K hH51
        (try simp only [Act.put, List.setIfInBounds_toArray, List.set_cons_zero, List.set_cons_succ])
        refine tk at4 ?_
        refine tk at5 ?_
        refine tk at6 ?_
        refine wpAnyH_ready (rs := [7]) (by kernel_rfl) (by simp) ?_
        refine AllReadyH.cons at7 (fun K hK => ?_) AllReadyH.nil
        go_simp
        obtain ⟨w17, hv⟩ : ∃ w_ : World, w_ = (w16.alloc (.cells #[.int .i64 0, .slice none 0 0, .int .i64 0, .slice none 0 0, .int .i64 0, .slice none 0 0, .int .i64 0, .slice none 0 0] 28)) := ⟨_, rfl⟩
        rw [← hv]
        have ow4_ : w12.heap.size < w16.heap.size := ((M.out.2.2.2.2.1)).lt
        replace M := Lib.hid (And.intro (hv ▸ bx1 w16 28 #[.int .i64 0, .slice none 0 0, .int .i64 0, .slice none 0 0, .int .i64 0, .slice none 0 0, .int .i64 0, .slice none 0 0]) (Goes.go M.out (hv ▸ below_alloc _ _ : Below w16.heap.size w16 w17)))
        clear hv
        refine hK.out _ _ (⟨(M.out.2.2.2.2.2.2.2.2.2.2.1).at.1 0, (M.out.2.2.2.2.2.2.2.2.2.2.1).at.1 1, (M.out.2.2.2.2.2.2.2.2.2.2.1).at.1 2, (M.out.2.2.2.2.2.2.2.2.2.2.1).at.1 3, (M.out.2.2.2.2.2.2.2.2.2.2.1).at.1 4, (M.out.2.2.2.2.2.2.2.2.2.2.1).at.1 5, (M.out.2.2.2.2.2.2.2.2.2.2.1).at.1 6, (M.out.2.2.2.2.2.2.2.2.2.2.1).at.1 7, (M.out.2.2.2.2.2.2.2.2.2.1).at.1 0, (M.out.2.2.2.2.2.2.2.2.2.1).at.1 1, (M.out.2.2.2.2.2.2.2.2.2.1).at.1 2, (M.out.2.2.2.2.2.2.2.2.2.1).at.1 3, (M.out.2.2.2.2.2.2.2.2.2.1).at.1 4, (M.out.2.2.2.2.2.2.2.2.2.1).at.1 5, (M.out.2.2.2.2.2.2.2.2.2.1).at.1 6, (M.out.2.2.2.2.2.2.2.2.2.1).at.1 7⟩) (fun hH65 => ?_)
        clear hK K hH64
        (try simp only [Act.put, List.setIfInBounds_toArray, List.set_cons_zero, List.set_cons_succ])
        refine wpAnyH_ready (rs := [8]) (by kernel_rfl) (by simp) ?_
        refine AllReadyH.cons at8 (fun K hK => ?_) AllReadyH.nil
        have y4 := (M.out.1).c8; have p4_0 := y4.1; have q4_0 := y4.2.1; have p4_1 := y4.2.2.1; have q4_1 := y4.2.2.2.1; have p4_2 := y4.2.2.2.2.1; have q4_2 := y4.2.2.2.2.2.1; have p4_3 := y4.2.2.2.2.2.2.1; have q4_3 := y4.2.2.2.2.2.2.2.1; have p4_4 := y4.2.2.2.2.2.2.2.2.1; have q4_4 := y4.2.2.2.2.2.2.2.2.2.1; have p4_5 := y4.2.2.2.2.2.2.2.2.2.2.1; have q4_5 := y4.2.2.2.2.2.2.2.2.2.2.2.1; have p4_6 := y4.2.2.2.2.2.2.2.2.2.2.2.2.1; have q4_6 := y4.2.2.2.2.2.2.2.2.2.2.2.2.2.1; have p4_7 := y4.2.2.2.2.2.2.2.2.2.2.2.2.2.2.1; have q4_7 := y4.2.2.2.2.2.2.2.2.2.2.2.2.2.2.2; clear y4
        have ys_x_52 := TQ.st (M.out.2.1); have st_x_52 := ys_x_52.1; have st_x_53 := ys_x_52.2.1; have st_x_54 := ys_x_52.2.2.1; have st_x_55 := ys_x_52.2.2.2; clear ys_x_52
        have ys_x_56 := TQ.st (M.out.2.2.1); have st_x_56 := ys_x_56.1; have st_x_57 := ys_x_56.2.1; have st_x_58 := ys_x_56.2.2.1; have st_x_59 := ys_x_56.2.2.2; clear ys_x_56
        go_simp
        clear p4_0 q4_0 p4_1 q4_1 p4_2 q4_2 p4_3 q4_3 p4_4 q4_4 p4_5 q4_5 p4_6 q4_6 p4_7 q4_7 st_x_52 st_x_53 st_x_54 st_x_55 st_x_56 st_x_57 st_x_58 st_x_59
        obtain ⟨w18, hv⟩ : ∃ w_ : World, w_ = ((((((((w17.setCell ⟨w16.heap.size, 0, none⟩ (x_52)).setCell ⟨w16.heap.size, 1, none⟩ (x_53)).setCell ⟨w16.heap.size, 2, none⟩ (x_54)).setCell ⟨w16.heap.size, 3, none⟩ (x_55)).setCell ⟨w16.heap.size, 4, none⟩ (x_56)).setCell ⟨w16.heap.size, 5, none⟩ (x_57)).setCell ⟨w16.heap.size, 6, none⟩ (x_58)).setCell ⟨w16.heap.size, 7, none⟩ (x_59)) := ⟨_, rfl⟩
        rw [← hv]
        have og : w17.grownBy w18 (some w16.heap.size) := by rw [hv]; exact (only_setCell (only_setCell (only_setCell (only_setCell (only_setCell (only_setCell (only_setCell (only_setCell (World.grownBy.refl _ _) _) _) _) _) _) _) _) _)
        have hz : w.heap.size ≤ w16.heap.size := by omega
        have hk : Bx w18 w16.heap.size 28 #[x_52, x_53, x_54, x_55, x_56, x_57, x_58, x_59] := by rw [hv]; exact (((((((((M.out.1).set 0 _).set 1 _).set 2 _).set 3 _).set 4 _).set 5 _).set 6 _).set 7 _)
        have hbw : Below w.heap.size w w18 := by rw [hv]; exact (Below.setCell (Below.setCell (Below.setCell (Below.setCell (Below.setCell (Below.setCell (Below.setCell (Below.setCell (M.out.2.2.2.2.2.2.2.2.2.2.2) (by omega) _) (by omega) _) (by omega) _) (by omega) _) (by omega) _) (by omega) _) (by omega) _) (by omega) _)
        replace M := Lib.hid (And.intro hk (And.intro ((M.out.2.1).far (M.out.1) (by rfl) (by omega) og) (And.intro ((M.out.2.2.1).far (M.out.1) (by rfl) (by omega) og) (And.intro ((M.out.2.2.2.1).far (M.out.1) (by rfl) (by omega) og) (And.intro ((M.out.2.2.2.2.1).far (M.out.1) (by rfl) (by omega) og) (And.intro ((M.out.2.2.2.2.2.1).only og (by omega)) (And.intro ((M.out.2.2.2.2.2.2.1).far (M.out.1) (by rfl) (by omega) og) (And.intro ((M.out.2.2.2.2.2.2.2.1).far (M.out.1) (by rfl) (by omega) og) (And.intro ((M.out.2.2.2.2.2.2.2.2.1).only og (by omega)) (And.intro ((M.out.2.2.2.2.2.2.2.2.2.1).only og (by omega)) (And.intro ((M.out.2.2.2.2.2.2.2.2.2.2.1).only og (by omega)) hbw)))))))))))
        clear hk hbw og hv hz
        refine hK.out _ _ (⟨(M.out.2.2.2.2.2.2.2.2.2.2.1).at.1 0, (M.out.2.2.2.2.2.2.2.2.2.2.1).at.1 1, (M.out.2.2.2.2.2.2.2.2.2.2.1).at.1 2, (M.out.2.2.2.2.2.2.2.2.2.2.1).at.1 3, (M.out.2.2.2.2.2.2.2.2.2.2.1).at.1 4, (M.out.2.2.2.2.2.2.2.2.2.2.1).at.1 5, (M.out.2.2.2.2.2.2.2.2.2.2.1).at.1 6, (M.out.2.2.2.2.2.2.2.2.2.2.1).at.1 7, (M.out.2.2.2.2.2.2.2.2.2.1).at.1 0, (M.out.2.2.2.2.2.2.2.2.2.1).at.1 1, (M.out.2.2.2.2.2.2.2.2.2.1).at.1 2, (M.out.2.2.2.2.2.2.2.2.2.1).at.1 3, (M.out.2.2.2.2.2.2.2.2.2.1).at.1 4, (M.out.2.2.2.2.2.2.2.2.2.1).at.1 5, (M.out.2.2.2.2.2.2.2.2.2.1).at.1 6, (M.out.2.2.2.2.2.2.2.2.2.1).at.1 7⟩) (fun hH66 => ?_)
        clear hK K hH65
        (try simp only [Act.put, List.setIfInBounds_toArray, List.set_cons_zero, List.set_cons_succ])
        refine tk at9 ?_
        refine wpAnyH_done (by kernel_rfl) ?_ _
        clear hH66
        go_wp2_with fail
        go_meet
        exact ⟨w16.heap.size, x_39, x_40, x_41, x_42, x_43, x_44, x_45, x_46, q47, q48, x_52, x_53, x_54, x_55, x_56, x_57, x_58, x_59, q60, q61, rfl, rfl, Eq47, Eq48, Eq60, Eq61, Sq47, Sq48, Sq60, Sq61, (by omega), (M.out.1), (M.out.2.1), (M.out.2.2.1), (M.out.2.2.2.1), (M.out.2.2.2.2.1), (M.out.2.2.2.2.2.2.1), (M.out.2.2.2.2.2.2.2.1), (M.out.2.2.2.2.2.2.2.2.2.2.1), (M.out.2.2.2.2.2.2.2.2.2.1), (M.out.2.2.2.2.2.2.2.2.1), (M.out.2.2.2.2.2.1), (M.out.2.2.2.2.2.2.2.2.2.2.2)⟩
      refine AllReadyH.cons at7 (fun K hK => ?_) AllReadyH.nil
      go_simp
      obtain ⟨w16, hv⟩ : ∃ w_ : World, w_ = (w15.alloc (.cells #[.int .i64 0, .slice none 0 0, .int .i64 0, .slice none 0 0, .int .i64 0, .slice none 0 0, .int .i64 0, .slice none 0 0] 28)) := ⟨_, rfl⟩
      rw [← hv]
      have ow4_ : w12.heap.size < w15.heap.size := ((M.out.2.2.1)).lt
      replace M := Lib.hid (And.intro (hv ▸ bx1 w15 28 #[.int .i64 0, .slice none 0 0, .int .i64 0, .slice none 0 0, .int .i64 0, .slice none 0 0, .int .i64 0, .slice none 0 0]) (Goes.go M.out (hv ▸ below_alloc _ _ : Below w15.heap.size w15 w16)))
      clear hv
      refine hK.out _ _ (⟨(M.out.2.2.2.2.2.2.2.2.1).at.1 0, (M.out.2.2.2.2.2.2.2.2.1).at.1 1, (M.out.2.2.2.2.2.2.2.2.1).at.1 2, (M.out.2.2.2.2.2.2.2.2.1).at.1 3, (M.out.2.2.2.2.2.2.2.2.1).at.1 4, (M.out.2.2.2.2.2.2.2.2.1).at.1 5, (M.out.2.2.2.2.2.2.2.2.1).at.1 6, (M.out.2.2.2.2.2.2.2.2.1).at.1 7, (M.out.2.2.2.2.2.2.2.1).at.1 0, (M.out.2.2.2.2.2.2.2.1).at.1 1, (M.out.2.2.2.2.2.2.2.1).at.1 2, (M.out.2.2.2.2.2.2.2.1).at.1 3, (M.out.2.2.2.2.2.2.2.1).at.1 4, (M.out.2.2.2.2.2.2.2.1).at.1 5, (M.out.2.2.2.2.2.2.2.1).at.1 6, (M.out.2.2.2.2.2.2.2.1).at.1 7⟩) (fun hH67 => ?_)
      clear hK K hH51
      (try simp only [Act.put, List.setIfInBounds_toArray, List.set_cons_zero, List.set_cons_succ])
      refine wpAnyH_ready (rs := [3]) (by kernel_rfl) (by simp) ?_
      refine AllReadyH.cons at3 (fun K hK => ?_) AllReadyH.nil
      go_simp
      obtain ⟨q76, eq76⟩ : ∃ v_ : Rat, v_ = (p1 + q47) := ⟨_, rfl⟩
      obtain ⟨q77, eq77⟩ : ∃ v_ : Rat, v_ = (p2 + q48) := ⟨_, rfl⟩
      refine (spAdd_q (G := G) (p := p1) (q := p2) (r := q47) (s := q48) (Nat.le_trans hG (M.out.2.2.2.2.2.2.2.2.2).size) (K1.out.keep (M.out.2.2.2.2.2.2.2.2.2)) (K2.out.keep (M.out.2.2.2.2.2.2.2.2.2)) (M.out.2.1) (M.out.2.2.1) (Fz.mono Z1.out (by omega)) (Fz.mono Z2.out (by omega)) (Fz.mono Sq47.out (by omega)) (Fz.mono Sq48.out (by omega)) (right_le HC2.out) (by rw [Eq48.out, Eq47.out]; exact Rat.neg_le_neg (right_le HC3.out))).mono ?_
      rintro e w17 ⟨x_68, x_69, x_70, x_71, x_72, x_73, x_74, x_75, rfl, hd78, hd79, hb⟩
      rw [← eq76] at hd78
      have Sq76 : Hid (Fz q76 9) := by show Fz q76 9; rw [eq76]; exact (Fz.add Z1.out Sq47.out)
      have Eq76 := Lib.hid eq76; clear eq76
      rw [← eq77] at hd79
      have Sq77 : Hid (Fz q77 9) := by show Fz q77 9; rw [eq77]; exact (Fz.add Z2.out Sq48.out)
      have Eq77 := Lib.hid eq77; clear eq77
      replace M := Lib.hid (And.intro hd78 (And.intro hd79 (Goes.go M.out hb)))
      clear hb hd78 hd79
      (try go_wp2_with fail)
      refine hK.out _ _ (⟨(M.out.2.2.2.2.2.2.2.2.2.2.1).at.1 0, (M.out.2.2.2.2.2.2.2.2.2.2.1).at.1 1, (M.out.2.2.2.2.2.2.2.2.2.2.1).at.1 2, (M.out.2.2.2.2.2.2.2.2.2.2.1).at.1 3, (M.out.2.2.2.2.2.2.2.2.2.2.1).at.1 4, (M.out.2.2.2.2.2.2.2.2.2.2.1).at.1 5, (M.out.2.2.2.2.2.2.2.2.2.2.1).at.1 6, (M.out.2.2.2.2.2.2.2.2.2.2.1).at.1 7, (M.out.2.2.2.2.2.2.2.2.2.1).at.1 0, (M.out.2.2.2.2.2.2.2.2.2.1).at.1 1, (M.out.2.2.2.2.2.2.2.2.2.1).at.1 2, (M.out.2.2.2.2.2.2.2.2.2.1).at.1 3, (M.out.2.2.2.2.2.2.2.2.2.1).at.1 4, (M.out.2.2.2.2.2.2.2.2.2.1).at.1 5, (M.out.2.2.2.2.2.2.2.2.2.1).at.1 6, (M.out.2.2.2.2.2.2.2.2.2.1).at.1 7⟩) (fun hH80 => ?_)
      clear hK K hH67
      (try simp only [Act.put, List.setIfInBounds_toArray, List.set_cons_zero, List.set_cons_succ])
      refine tk at4 ?_
      refine tk at5 ?_
      refine tk at6 ?_
      refine wpAnyH_ready (rs := [8]) (by kernel_rfl) (by simp) ?_
      refine AllReadyH.cons at8 (fun K hK => ?_) AllReadyH.nil
      have y4 := (M.out.2.2.1).c8; have p4_0 := y4.1; have q4_0 := y4.2.1; have p4_1 := y4.2.2.1; have q4_1 := y4.2.2.2.1; have p4_2 := y4.2.2.2.2.1; have q4_2 := y4.2.2.2.2.2.1; have p4_3 := y4.2.2.2.2.2.2.1; have q4_3 := y4.2.2.2.2.2.2.2.1; have p4_4 := y4.2.2.2.2.2.2.2.2.1; have q4_4 := y4.2.2.2.2.2.2.2.2.2.1; have p4_5 := y4.2.2.2.2.2.2.2.2.2.2.1; have q4_5 := y4.2.2.2.2.2.2.2.2.2.2.2.1; have p4_6 := y4.2.2.2.2.2.2.2.2.2.2.2.2.1; have q4_6 := y4.2.2.2.2.2.2.2.2.2.2.2.2.2.1; have p4_7 := y4.2.2.2.2.2.2.2.2.2.2.2.2.2.2.1; have q4_7 := y4.2.2.2.2.2.2.2.2.2.2.2.2.2.2.2; clear y4
      have ys_x_68 := TQ.st (M.out.1); have st_x_68 := ys_x_68.1; have st_x_69 := ys_x_68.2.1; have st_x_70 := ys_x_68.2.2.1; have st_x_71 := ys_x_68.2.2.2; clear ys_x_68
      have ys_x_72 := TQ.st (M.out.2.1); have st_x_72 := ys_x_72.1; have st_x_73 := ys_x_72.2.1; have st_x_74 := ys_x_72.2.2.1; have st_x_75 := ys_x_72.2.2.2; clear ys_x_72
      go_simp
      clear p4_0 q4_0 p4_1 q4_1 p4_2 q4_2 p4_3 q4_3 p4_4 q4_4 p4_5 q4_5 p4_6 q4_6 p4_7 q4_7 st_x_68 st_x_69 st_x_70 st_x_71 st_x_72 st_x_73 st_x_74 st_x_75
      obtain ⟨w18, hv⟩ : ∃ w_ : World, w_ = ((((((((w17.setCell ⟨w15.heap.size, 0, none⟩ (x_68)).setCell ⟨w15.heap.size, 1, none⟩ (x_69)).setCell ⟨w15.heap.size, 2, none⟩ (x_70)).setCell ⟨w15.heap.size, 3, none⟩ (x_71)).setCell ⟨w15.heap.size, 4, none⟩ (x_72)).setCell ⟨w15.heap.size, 5, none⟩ (x_73)).setCell ⟨w15.heap.size, 6, none⟩ (x_74)).setCell ⟨w15.heap.size, 7, none⟩ (x_75)) := ⟨_, rfl⟩
      rw [← hv]
      have og : w17.grownBy w18 (some w15.heap.size) := by rw [hv]; exact (only_setCell (only_setCell (only_setCell (only_setCell (only_setCell (only_setCell (only_setCell (only_setCell (World.grownBy.refl _ _) _) _) _) _) _) _) _) _)
      have hz : w.heap.size ≤ w15.heap.size := by omega
      have hk : Bx w18 w15.heap.size 28 #[x_68, x_69, x_70, x_71, x_72, x_73, x_74, x_75] := by rw [hv]; exact (((((((((M.out.2.2.1).set 0 _).set 1 _).set 2 _).set 3 _).set 4 _).set 5 _).set 6 _).set 7 _)
      have hbw : Below w.heap.size w w18 := by rw [hv]; exact (Below.setCell (Below.setCell (Below.setCell (Below.setCell (Below.setCell (Below.setCell (Below.setCell (Below.setCell (M.out.2.2.2.2.2.2.2.2.2.2.2) (by omega) _) (by omega) _) (by omega) _) (by omega) _) (by omega) _) (by omega) _) (by omega) _) (by omega) _)
      replace M := Lib.hid (And.intro ((M.out.1).far (M.out.2.2.1) (by rfl) (by omega) og) (And.intro ((M.out.2.1).far (M.out.2.2.1) (by rfl) (by omega) og) (And.intro hk (And.intro ((M.out.2.2.2.1).far (M.out.2.2.1) (by rfl) (by omega) og) (And.intro ((M.out.2.2.2.2.1).far (M.out.2.2.1) (by rfl) (by omega) og) (And.intro ((M.out.2.2.2.2.2.1).only og (by omega)) (And.intro ((M.out.2.2.2.2.2.2.1).far (M.out.2.2.1) (by rfl) (by omega) og) (And.intro ((M.out.2.2.2.2.2.2.2.1).far (M.out.2.2.1) (by rfl) (by omega) og) (And.intro ((M.out.2.2.2.2.2.2.2.2.1).only og (by omega)) (And.intro ((M.out.2.2.2.2.2.2.2.2.2.1).only og (by omega)) (And.intro ((M.out.2.2.2.2.2.2.2.2.2.2.1).only og (by omega)) hbw)))))))))))
      clear hk hbw og hv hz
      refine hK.out _ _ (⟨(M.out.2.2.2.2.2.2.2.2.2.2.1).at.1 0, (M.out.2.2.2.2.2.2.2.2.2.2.1).at.1 1, (M.out.2.2.2.2.2.2.2.2.2.2.1).at.1 2, (M.out.2.2.2.2.2.2.2.2.2.2.1).at.1 3, (M.out.2.2.2.2.2.2.2.2.2.2.1).at.1 4, (M.out.2.2.2.2.2.2.2.2.2.2.1).at.1 5, (M.out.2.2.2.2.2.2.2.2.2.2.1).at.1 6, (M.out.2.2.2.2.2.2.2.2.2.2.1).at.1 7, (M.out.2.2.2.2.2.2.2.2.2.1).at.1 0, (M.out.2.2.2.2.2.2.2.2.2.1).at.1 1, (M.out.2.2.2.2.2.2.2.2.2.1).at.1 2, (M.out.2.2.2.2.2.2.2.2.2.1).at.1 3, (M.out.2.2.2.2.2.2.2.2.2.1).at.1 4, (M.out.2.2.2.2.2.2.2.2.2.1).at.1 5, (M.out.2.2.2.2.2.2.2.2.2.1).at.1 6, (M.out.2.2.2.2.2.2.2.2.2.1).at.1 7⟩) (fun hH81 => ?_)
      clear hK K hH80
      (try simp only [Act.put, List.setIfInBounds_toArray, List.set_cons_zero, List.set_cons_succ])
      refine tk at9 ?_
      refine wpAnyH_done (by kernel_rfl) ?_ _
      clear hH81
      go_wp2_with fail
      go_meet
      exact ⟨w15.heap.size, x_39, x_40, x_41, x_42, x_43, x_44, x_45, x_46, q47, q48, x_68, x_69, x_70, x_71, x_72, x_73, x_74, x_75, q76, q77, rfl, rfl, Eq47, Eq48, Eq76, Eq77, Sq47, Sq48, Sq76, Sq77, (by omega), (M.out.2.2.1), (M.out.1), (M.out.2.1), (M.out.2.2.2.1), (M.out.2.2.2.2.1), (M.out.2.2.2.2.2.2.1), (M.out.2.2.2.2.2.2.2.1), (M.out.2.2.2.2.2.2.2.2.2.2.1), (M.out.2.2.2.2.2.2.2.2.2.1), (M.out.2.2.2.2.2.2.2.2.1), (M.out.2.2.2.2.2.1), (M.out.2.2.2.2.2.2.2.2.2.2.2)⟩
    refine AllReadyH.cons at7 (fun K hK => ?_) AllReadyH.nil
    go_simp
    obtain ⟨w15, hv⟩ : ∃ w_ : World, w_ = (w14.alloc (.cells #[.int .i64 0, .slice none 0 0, .int .i64 0, .slice none 0 0, .int .i64 0, .slice none 0 0, .int .i64 0, .slice none 0 0] 28)) := ⟨_, rfl⟩
    rw [← hv]
    have ow4_ : w12.heap.size < w14.heap.size := ((M.out.1)).lt
    replace M := Lib.hid (And.intro (hv ▸ bx1 w14 28 #[.int .i64 0, .slice none 0 0, .int .i64 0, .slice none 0 0, .int .i64 0, .slice none 0 0, .int .i64 0, .slice none 0 0]) (Goes.go M.out (hv ▸ below_alloc _ _ : Below w14.heap.size w14 w15)))
    clear hv
    refine hK.out _ _ (⟨(M.out.2.2.2.2.2.2.1).at.1 0, (M.out.2.2.2.2.2.2.1).at.1 1, (M.out.2.2.2.2.2.2.1).at.1 2, (M.out.2.2.2.2.2.2.1).at.1 3, (M.out.2.2.2.2.2.2.1).at.1 4, (M.out.2.2.2.2.2.2.1).at.1 5, (M.out.2.2.2.2.2.2.1).at.1 6, (M.out.2.2.2.2.2.2.1).at.1 7, (M.out.2.2.2.2.2.1).at.1 0, (M.out.2.2.2.2.2.1).at.1 1, (M.out.2.2.2.2.2.1).at.1 2, (M.out.2.2.2.2.2.1).at.1 3, (M.out.2.2.2.2.2.1).at.1 4, (M.out.2.2.2.2.2.1).at.1 5, (M.out.2.2.2.2.2.1).at.1 6, (M.out.2.2.2.2.2.1).at.1 7⟩) (fun hH82 => ?_)
    clear hK K hH38
    (try simp only [Act.put, List.setIfInBounds_toArray, List.set_cons_zero, List.set_cons_succ])
    refine wpAnyH_ready (rs := [2]) (by kernel_rfl) (by simp) ?_
    refine AllReadyH.cons at2 (fun K hK => ?_) AllReadyH.nil
    go_simp
    obtain ⟨q91, eq91⟩ : ∃ v_ : Rat, v_ = (-r2) := ⟨_, rfl⟩
    obtain ⟨q92, eq92⟩ : ∃ v_ : Rat, v_ = (-r1) := ⟨_, rfl⟩
    refine (spNeg_q (G := G) (p := r1) (q := r2) (Nat.le_trans hG (M.out.2.2.2.2.2.2.2).size) (K3.out.keep (M.out.2.2.2.2.2.2.2)) (K4.out.keep (M.out.2.2.2.2.2.2.2)) (Fz.mono Z3.out (by omega)) (Fz.mono Z4.out (by omega)) (right_le HC3.out)).mono ?_
    rintro e w16 ⟨x_83, x_84, x_85, x_86, x_87, x_88, x_89, x_90, rfl, hd93, hd94, hb⟩
    rw [← eq91] at hd93
    have Sq91 : Hid (Fz q91 4) := by show Fz q91 4; rw [eq91]; exact (Fz.neg Z4.out)
    have Eq91 := Lib.hid eq91; clear eq91
    rw [← eq92] at hd94
    have Sq92 : Hid (Fz q92 4) := by show Fz q92 4; rw [eq92]; exact (Fz.neg Z3.out)
    have Eq92 := Lib.hid eq92; clear eq92
    replace M := Lib.hid (And.intro hd93 (And.intro hd94 (Goes.go M.out hb)))
    clear hb hd93 hd94
    (try go_wp2_with fail)
    refine hK.out _ _ (⟨(M.out.2.2.2.2.2.2.2.2.1).at.1 0, (M.out.2.2.2.2.2.2.2.2.1).at.1 1, (M.out.2.2.2.2.2.2.2.2.1).at.1 2, (M.out.2.2.2.2.2.2.2.2.1).at.1 3, (M.out.2.2.2.2.2.2.2.2.1).at.1 4, (M.out.2.2.2.2.2.2.2.2.1).at.1 5, (M.out.2.2.2.2.2.2.2.2.1).at.1 6, (M.out.2.2.2.2.2.2.2.2.1).at.1 7, (M.out.2.2.2.2.2.2.2.1).at.1 0, (M.out.2.2.2.2.2.2.2.1).at.1 1, (M.out.2.2.2.2.2.2.2.1).at.1 2, (M.out.2.2.2.2.2.2.2.1).at.1 3, (M.out.2.2.2.2.2.2.2.1).at.1 4, (M.out.2.2.2.2.2.2.2.1).at.1 5, (M.out.2.2.2.2.2.2.2.1).at.1 6, (M.out.2.2.2.2.2.2.2.1).at.1 7⟩) (fun hH95 => ?_)
    clear hK K hH82
    (try simp only [Act.put, List.setIfInBounds_toArray, List.set_cons_zero, List.set_cons_succ])
    refine wpAnyH_ready (rs := [3]) (by kernel_rfl) (by simp) ?_
    refine AllReadyH.cons at3 (fun K hK => ?_) AllReadyH.nil
    go_simp
    obtain ⟨q104, eq104⟩ : ∃ v_ : Rat, v_ = (p1 + q91) := ⟨_, rfl⟩
    obtain ⟨q105, eq105⟩ : ∃ v_ : Rat, v_ = (p2 + q92) := ⟨_, rfl⟩
    refine (spAdd_q (G := G) (p := p1) (q := p2) (r := q91) (s := q92) (Nat.le_trans hG (M.out.2.2.2.2.2.2.2.2.2).size) (K1.out.keep (M.out.2.2.2.2.2.2.2.2.2)) (K2.out.keep (M.out.2.2.2.2.2.2.2.2.2)) (M.out.1) (M.out.2.1) (Fz.mono Z1.out (by omega)) (Fz.mono Z2.out (by omega)) (Fz.mono Sq91.out (by omega)) (Fz.mono Sq92.out (by omega)) (right_le HC2.out) (by rw [Eq92.out, Eq91.out]; exact Rat.neg_le_neg (right_le HC3.out))).mono ?_
    rintro e w17 ⟨x_96, x_97, x_98, x_99, x_100, x_101, x_102, x_103, rfl, hd106, hd107, hb⟩
    rw [← eq104] at hd106
    have Sq104 : Hid (Fz q104 9) := by show Fz q104 9; rw [eq104]; exact (Fz.add Z1.out Sq91.out)
    have Eq104 := Lib.hid eq104; clear eq104
    rw [← eq105] at hd107
    have Sq105 : Hid (Fz q105 9) := by show Fz q105 9; rw [eq105]; exact (Fz.add Z2.out Sq92.out)
    have Eq105 := Lib.hid eq105; clear eq105
    replace M := Lib.hid (And.intro hd106 (And.intro hd107 (Goes.go M.out hb)))
    clear hb hd106 hd107
    (try go_wp2_with fail)
    refine hK.out _ _ (⟨(M.out.2.2.2.2.2.2.2.2.2.2.1).at.1 0, (M.out.2.2.2.2.2.2.2.2.2.2.1).at.1 1, (M.out.2.2.2.2.2.2.2.2.2.2.1).at.1 2, (M.out.2.2.2.2.2.2.2.2.2.2.1).at.1 3, (M.out.2.2.2.2.2.2.2.2.2.2.1).at.1 4, (M.out.2.2.2.2.2.2.2.2.2.2.1).at.1 5, (M.out.2.2.2.2.2.2.2.2.2.2.1).at.1 6, (M.out.2.2.2.2.2.2.2.2.2.2.1).at.1 7, (M.out.2.2.2.2.2.2.2.2.2.1).at.1 0, (M.out.2.2.2.2.2.2.2.2.2.1).at.1 1, (M.out.2.2.2.2.2.2.2.2.2.1).at.1 2, (M.out.2.2.2.2.2.2.2.2.2.1).at.1 3, (M.out.2.2.2.2.2.2.2.2.2.1).at.1 4, (M.out.2.2.2.2.2.2.2.2.2.1).at.1 5, (M.out.2.2.2.2.2.2.2.2.2.1).at.1 6, (M.out.2.2.2.2.2.2.2.2.2.1).at.1 7⟩) (fun hH108 => ?_)
    clear hK K hH95
    (try simp only [Act.put, List.setIfInBounds_toArray, List.set_cons_zero, List.set_cons_succ])
    refine tk at4 ?_
    refine tk at5 ?_
    refine tk at6 ?_
    refine wpAnyH_ready (rs := [8]) (by kernel_rfl) (by simp) ?_
    refine AllReadyH.cons at8 (fun K hK => ?_) AllReadyH.nil
    have y4 := (M.out.2.2.2.2.1).c8; have p4_0 := y4.1; have q4_0 := y4.2.1; have p4_1 := y4.2.2.1; have q4_1 := y4.2.2.2.1; have p4_2 := y4.2.2.2.2.1; have q4_2 := y4.2.2.2.2.2.1; have p4_3 := y4.2.2.2.2.2.2.1; have q4_3 := y4.2.2.2.2.2.2.2.1; have p4_4 := y4.2.2.2.2.2.2.2.2.1; have q4_4 := y4.2.2.2.2.2.2.2.2.2.1; have p4_5 := y4.2.2.2.2.2.2.2.2.2.2.1; have q4_5 := y4.2.2.2.2.2.2.2.2.2.2.2.1; have p4_6 := y4.2.2.2.2.2.2.2.2.2.2.2.2.1; have q4_6 := y4.2.2.2.2.2.2.2.2.2.2.2.2.2.1; have p4_7 := y4.2.2.2.2.2.2.2.2.2.2.2.2.2.2.1; have q4_7 := y4.2.2.2.2.2.2.2.2.2.2.2.2.2.2.2; clear y4
    have ys_x_96 := TQ.st (M.out.1); have st_x_96 := ys_x_96.1; have st_x_97 := ys_x_96.2.1; have st_x_98 := ys_x_96.2.2.1; have st_x_99 := ys_x_96.2.2.2; clear ys_x_96
    have ys_x_100 := TQ.st (M.out.2.1); have st_x_100 := ys_x_100.1; have st_x_101 := ys_x_100.2.1; have st_x_102 := ys_x_100.2.2.1; have st_x_103 := ys_x_100.2.2.2; clear ys_x_100
    go_simp
    clear p4_0 q4_0 p4_1 q4_1 p4_2 q4_2 p4_3 q4_3 p4_4 q4_4 p4_5 q4_5 p4_6 q4_6 p4_7 q4_7 st_x_96 st_x_97 st_x_98 st_x_99 st_x_100 st_x_101 st_x_102 st_x_103
    obtain ⟨w18, hv⟩ : ∃ w_ : World, w_ = ((((((((w17.setCell ⟨w14.heap.size, 0, none⟩ (x_96)).setCell ⟨w14.heap.size, 1, none⟩ (x_97)).setCell ⟨w14.heap.size, 2, none⟩ (x_98)).setCell ⟨w14.heap.size, 3, none⟩ (x_99)).setCell ⟨w14.heap.size, 4, none⟩ (x_100)).setCell ⟨w14.heap.size, 5, none⟩ (x_101)).setCell ⟨w14.heap.size, 6, none⟩ (x_102)).setCell ⟨w14.heap.size, 7, none⟩ (x_103)) := ⟨_, rfl⟩
    rw [← hv]
    have og : w17.grownBy w18 (some w14.heap.size) := by rw [hv]; exact (only_setCell (only_setCell (only_setCell (only_setCell (only_setCell (only_setCell (only_setCell (only_setCell (World.grownBy.refl _ _) _) _) _) _) _) _) _) _)
    have hz : w.heap.size ≤ w14.heap.size := by omega
    have hk : Bx w18 w14.heap.size 28 #[x_96, x_97, x_98, x_99, x_100, x_101, x_102, x_103] := by rw [hv]; exact (((((((((M.out.2.2.2.2.1).set 0 _).set 1 _).set 2 _).set 3 _).set 4 _).set 5 _).set 6 _).set 7 _)
    have hbw : Below w.heap.size w w18 := by rw [hv]; exact (Below.setCell (Below.setCell (Below.setCell (Below.setCell (Below.setCell (Below.setCell (Below.setCell (Below.setCell (M.out.2.2.2.2.2.2.2.2.2.2.2) (by omega) _) (by omega) _) (by omega) _) (by omega) _) (by omega) _) (by omega) _) (by omega) _) (by omega) _)
    replace M := Lib.hid (And.intro ((M.out.1).far (M.out.2.2.2.2.1) (by rfl) (by omega) og) (And.intro ((M.out.2.1).far (M.out.2.2.2.2.1) (by rfl) (by omega) og) (And.intro ((M.out.2.2.1).far (M.out.2.2.2.2.1) (by rfl) (by omega) og) (And.intro ((M.out.2.2.2.1).far (M.out.2.2.2.2.1) (by rfl) (by omega) og) (And.intro hk (And.intro ((M.out.2.2.2.2.2.1).only og (by omega)) (And.intro ((M.out.2.2.2.2.2.2.1).far (M.out.2.2.2.2.1) (by rfl) (by omega) og) (And.intro ((M.out.2.2.2.2.2.2.2.1).far (M.out.2.2.2.2.1) (by rfl) (by omega) og) (And.intro ((M.out.2.2.2.2.2.2.2.2.1).only og (by omega)) (And.intro ((M.out.2.2.2.2.2.2.2.2.2.1).only og (by omega)) (And.intro ((M.out.2.2.2.2.2.2.2.2.2.2.1).only og (by omega)) hbw)))))))))))
    clear hk hbw og hv hz
    refine hK.out _ _ (⟨(M.out.2.2.2.2.2.2.2.2.2.2.1).at.1 0, (M.out.2.2.2.2.2.2.2.2.2.2.1).at.1 1, (M.out.2.2.2.2.2.2.2.2.2.2.1).at.1 2, (M.out.2.2.2.2.2.2.2.2.2.2.1).at.1 3, (M.out.2.2.2.2.2.2.2.2.2.2.1).at.1 4, (M.out.2.2.2.2.2.2.2.2.2.2.1).at.1 5, (M.out.2.2.2.2.2.2.2.2.2.2.1).at.1 6, (M.out.2.2.2.2.2.2.2.2.2.2.1).at.1 7, (M.out.2.2.2.2.2.2.2.2.2.1).at.1 0, (M.out.2.2.2.2.2.2.2.2.2.1).at.1 1, (M.out.2.2.2.2.2.2.2.2.2.1).at.1 2, (M.out.2.2.2.2.2.2.2.2.2.1).at.1 3, (M.out.2.2.2.2.2.2.2.2.2.1).at.1 4, (M.out.2.2.2.2.2.2.2.2.2.1).at.1 5, (M.out.2.2.2.2.2.2.2.2.2.1).at.1 6, (M.out.2.2.2.2.2.2.2.2.2.1).at.1 7⟩) (fun hH109 => ?_)
    clear hK K hH108
    (try simp only [Act.put, List.setIfInBounds_toArray, List.set_cons_zero, List.set_cons_succ])
    refine tk at9 ?_
    refine wpAnyH_done (by kernel_rfl) ?_ _
    clear hH109
    go_wp2_with fail
    go_meet
    exact ⟨w14.heap.size, x_83, x_84, x_85, x_86, x_87, x_88, x_89, x_90, q91, q92, x_96, x_97, x_98, x_99, x_100, x_101, x_102, x_103, q104, q105, rfl, rfl, Eq91, Eq92, Eq104, Eq105, Sq91, Sq92, Sq104, Sq105, (by omega), (M.out.2.2.2.2.1), (M.out.1), (M.out.2.1), (M.out.2.2.1), (M.out.2.2.2.1), (M.out.2.2.2.2.2.2.1), (M.out.2.2.2.2.2.2.2.1), (M.out.2.2.2.2.2.2.2.2.2.2.1), (M.out.2.2.2.2.2.2.2.2.2.1), (M.out.2.2.2.2.2.2.2.2.1), (M.out.2.2.2.2.2.1), (M.out.2.2.2.2.2.2.2.2.2.2.2)⟩
  case rest =>
    obtain ⟨A37, x_13, x_14, x_15, x_16, x_17, x_18, x_19, x_20, q21, q22, x_25, x_26, x_27, x_28, x_29, x_30, x_31, x_32, q33, q34, rfl, rfl, Eq21, Eq22, Eq33, Eq34, Sq21, Sq22, Sq33, Sq34, oA37, M⟩ := hcut
    obtain ⟨w14, rfl⟩ : ∃ w_ : World, w_ = wc := ⟨_, rfl⟩
    go_wp2_with fail
    replace M := Lib.hid (And.intro (M.out.1) (And.intro (M.out.2.1) (And.intro (M.out.2.2.1) (And.intro (M.out.2.2.2.2.2.1) (And.intro (M.out.2.2.2.2.2.2.1) (And.intro (M.out.2.2.2.2.2.2.2.1) (And.intro (M.out.2.2.2.2.2.2.2.2.1) (And.intro (M.out.2.2.2.2.2.2.2.2.2.1) (And.intro (M.out.2.2.2.2.2.2.2.2.2.2.1) (M.out.2.2.2.2.2.2.2.2.2.2.2))))))))))
    obtain ⟨w15, hv⟩ : ∃ w_ : World, w_ = w14.drew := ⟨_, rfl⟩
    replace M := Lib.hid (Goes.go M.out (hv ▸ below_drew _ : Below w14.heap.size w14 w15))
    refine wp_region_held_drew (S := (fun w' => w'.cell? ⟨w.heap.size, 0, none⟩ = some (u0) ∧ w'.cell? ⟨w.heap.size, 1, none⟩ = some (u1) ∧ w'.cell? ⟨w.heap.size, 2, none⟩ = some (u2) ∧ w'.cell? ⟨w.heap.size, 3, none⟩ = some (u3) ∧ w'.cell? ⟨w.heap.size, 4, none⟩ = some (u4) ∧ w'.cell? ⟨w.heap.size, 5, none⟩ = some (u5) ∧ w'.cell? ⟨w.heap.size, 6, none⟩ = some (u6) ∧ w'.cell? ⟨w.heap.size, 7, none⟩ = some (u7) ∧ w'.cell? ⟨w12.heap.size, 0, none⟩ = some (x_1) ∧ w'.cell? ⟨w12.heap.size, 1, none⟩ = some (x_2) ∧ w'.cell? ⟨w12.heap.size, 2, none⟩ = some (x_3) ∧ w'.cell? ⟨w12.heap.size, 3, none⟩ = some (x_4) ∧ w'.cell? ⟨w12.heap.size, 4, none⟩ = some (x_5) ∧ w'.cell? ⟨w12.heap.size, 5, none⟩ = some (x_6) ∧ w'.cell? ⟨w12.heap.size, 6, none⟩ = some (x_7) ∧ w'.cell? ⟨w12.heap.size, 7, none⟩ = some (x_8) ∧ w'.cell? ⟨A37, 0, none⟩ = some (x_25) ∧ w'.cell? ⟨A37, 1, none⟩ = some (x_26) ∧ w'.cell? ⟨A37, 2, none⟩ = some (x_27) ∧ w'.cell? ⟨A37, 3, none⟩ = some (x_28) ∧ w'.cell? ⟨A37, 4, none⟩ = some (x_29) ∧ w'.cell? ⟨A37, 5, none⟩ = some (x_30) ∧ w'.cell? ⟨A37, 6, none⟩ = some (x_31) ∧ w'.cell? ⟨A37, 7, none⟩ = some (x_32))) (by kernel_rfl) (by rw [← hv]; exact ⟨(M.out.2.2.2.2.2.1).at.1 0, (M.out.2.2.2.2.2.1).at.1 1, (M.out.2.2.2.2.2.1).at.1 2, (M.out.2.2.2.2.2.1).at.1 3, (M.out.2.2.2.2.2.1).at.1 4, (M.out.2.2.2.2.2.1).at.1 5, (M.out.2.2.2.2.2.1).at.1 6, (M.out.2.2.2.2.2.1).at.1 7, (M.out.2.2.2.2.2.2.2.2.1).at.1 0, (M.out.2.2.2.2.2.2.2.2.1).at.1 1, (M.out.2.2.2.2.2.2.2.2.1).at.1 2, (M.out.2.2.2.2.2.2.2.2.1).at.1 3, (M.out.2.2.2.2.2.2.2.2.1).at.1 4, (M.out.2.2.2.2.2.2.2.2.1).at.1 5, (M.out.2.2.2.2.2.2.2.2.1).at.1 6, (M.out.2.2.2.2.2.2.2.2.1).at.1 7, (M.out.1).at.1 0, (M.out.1).at.1 1, (M.out.1).at.1 2, (M.out.1).at.1 3, (M.out.1).at.1 4, (M.out.1).at.1 5, (M.out.1).at.1 6, (M.out.1).at.1 7⟩) (fun hH134 => ?_)
    rw [← hv] at hH134 ⊢
    clear hv
    refine tk at0 ?_
    refine tk at1 ?_
    refine wpAnyH_ready (rs := [2]) (by kernel_rfl) (by simp) ?_
    refine AllReadyH.cons at2 (fun K hK => ?_) AllReadyH.nil
    go_simp
    refine (spSame_q (G := G) (p := q9) (q := q10) (r := q33) (s := q34) (M.out.2.2.2.1) (M.out.2.2.2.2.1) (M.out.2.1) (M.out.2.2.1) (Fz.mono Sq9.out (by omega)) (Fz.mono Sq10.out (by omega)) (by rw [Eq33.out, Eq21.out, Eq9.out]; grind) (by rw [Eq34.out, Eq22.out, Eq10.out]; grind)).mono ?_
    rintro e w16 ⟨rfl, hb⟩
    replace M := Lib.hid (Goes.go M.out hb)
    clear hb
    (try go_wp2_with fail)
    refine hK.out _ _ (⟨(M.out.2.2.2.2.2.1).at.1 0, (M.out.2.2.2.2.2.1).at.1 1, (M.out.2.2.2.2.2.1).at.1 2, (M.out.2.2.2.2.2.1).at.1 3, (M.out.2.2.2.2.2.1).at.1 4, (M.out.2.2.2.2.2.1).at.1 5, (M.out.2.2.2.2.2.1).at.1 6, (M.out.2.2.2.2.2.1).at.1 7, (M.out.2.2.2.2.2.2.2.2.1).at.1 0, (M.out.2.2.2.2.2.2.2.2.1).at.1 1, (M.out.2.2.2.2.2.2.2.2.1).at.1 2, (M.out.2.2.2.2.2.2.2.2.1).at.1 3, (M.out.2.2.2.2.2.2.2.2.1).at.1 4, (M.out.2.2.2.2.2.2.2.2.1).at.1 5, (M.out.2.2.2.2.2.2.2.2.1).at.1 6, (M.out.2.2.2.2.2.2.2.2.1).at.1 7, (M.out.1).at.1 0, (M.out.1).at.1 1, (M.out.1).at.1 2, (M.out.1).at.1 3, (M.out.1).at.1 4, (M.out.1).at.1 5, (M.out.1).at.1 6, (M.out.1).at.1 7⟩) (fun hH135 => ?_)
    clear hK K hH134
    (try simp only [Act.put, List.setIfInBounds_toArray, List.set_cons_zero, List.set_cons_succ])
    refine tk at3 ?_
    refine tk at4 ?_
    refine tk at5 ?_
    refine tk at8 ?_
    refine wpAnyH_ready (rs := [6]) (by kernel_rfl) (by simp) ?_
    refine AllReadyH.cons at6 (fun K hK => ?_) AllReadyH.nil
    go_simp
    obtain ⟨q144, eq144⟩ : ∃ v_ : Rat, v_ = (-p2) := ⟨_, rfl⟩
    obtain ⟨q145, eq145⟩ : ∃ v_ : Rat, v_ = (-p1) := ⟨_, rfl⟩
    refine (spNeg_q (G := G) (p := p1) (q := p2) (Nat.le_trans hG (M.out.2.2.2.2.2.2.2.2.2).size) (K1.out.keep (M.out.2.2.2.2.2.2.2.2.2)) (K2.out.keep (M.out.2.2.2.2.2.2.2.2.2)) (Fz.mono Z1.out (by omega)) (Fz.mono Z2.out (by omega)) (right_le HC2.out)).mono ?_
    rintro e w17 ⟨x_136, x_137, x_138, x_139, x_140, x_141, x_142, x_143, rfl, hd146, hd147, hb⟩
    rw [← eq144] at hd146
    have Sq144 : Hid (Fz q144 4) := by show Fz q144 4; rw [eq144]; exact (Fz.neg Z2.out)
    have Eq144 := Lib.hid eq144; clear eq144
    rw [← eq145] at hd147
    have Sq145 : Hid (Fz q145 4) := by show Fz q145 4; rw [eq145]; exact (Fz.neg Z1.out)
    have Eq145 := Lib.hid eq145; clear eq145
    replace M := Lib.hid (And.intro hd146 (And.intro hd147 (Goes.go M.out hb)))
    clear hb hd146 hd147
    (try go_wp2_with fail)
    refine hK.out _ _ (⟨(M.out.2.2.2.2.2.2.2.1).at.1 0, (M.out.2.2.2.2.2.2.2.1).at.1 1, (M.out.2.2.2.2.2.2.2.1).at.1 2, (M.out.2.2.2.2.2.2.2.1).at.1 3, (M.out.2.2.2.2.2.2.2.1).at.1 4, (M.out.2.2.2.2.2.2.2.1).at.1 5, (M.out.2.2.2.2.2.2.2.1).at.1 6, (M.out.2.2.2.2.2.2.2.1).at.1 7, (M.out.2.2.2.2.2.2.2.2.2.2.1).at.1 0, (M.out.2.2.2.2.2.2.2.2.2.2.1).at.1 1, (M.out.2.2.2.2.2.2.2.2.2.2.1).at.1 2, (M.out.2.2.2.2.2.2.2.2.2.2.1).at.1 3, (M.out.2.2.2.2.2.2.2.2.2.2.1).at.1 4, (M.out.2.2.2.2.2.2.2.2.2.2.1).at.1 5, (M.out.2.2.2.2.2.2.2.2.2.2.1).at.1 6, (M.out.2.2.2.2.2.2.2.2.2.2.1).at.1 7, (M.out.2.2.1).at.1 0, (M.out.2.2.1).at.1 1, (M.out.2.2.1).at.1 2, (M.out.2.2.1).at.1 3, (M.out.2.2.1).at.1 4, (M.out.2.2.1).at.1 5, (M.out.2.2.1).at.1 6, (M.out.2.2.1).at.1 7⟩) (fun hH148 => ?_)
    clear hK K hH135
    (try simp only [Act.put, List.setIfInBounds_toArray, List.set_cons_zero, List.set_cons_succ])
    refine wpAnyH_ready (rs := [7]) (by kernel_rfl) (by simp) ?_
    refine AllReadyH.cons at7 (fun K hK => ?_) AllReadyH.nil
    go_simp
    obtain ⟨q157, eq157⟩ : ∃ v_ : Rat, v_ = (-q145) := ⟨_, rfl⟩
    obtain ⟨q158, eq158⟩ : ∃ v_ : Rat, v_ = (-q144) := ⟨_, rfl⟩
    refine (spNeg_q (G := G) (p := q144) (q := q145) (Nat.le_trans hG (M.out.2.2.2.2.2.2.2.2.2.2.2).size) (M.out.1) (M.out.2.1) (Fz.mono Sq144.out (by omega)) (Fz.mono Sq145.out (by omega)) (by rw [Eq145.out, Eq144.out]; exact Rat.neg_le_neg (right_le HC2.out))).mono ?_
    rintro e w18 ⟨x_149, x_150, x_151, x_152, x_153, x_154, x_155, x_156, rfl, hd159, hd160, hb⟩
    rw [← eq157] at hd159
    have Sq157 : Hid (Fz q157 4) := by show Fz q157 4; rw [eq157]; exact (Fz.neg Sq145.out)
    have Eq157 := Lib.hid eq157; clear eq157
    rw [← eq158] at hd160
    have Sq158 : Hid (Fz q158 4) := by show Fz q158 4; rw [eq158]; exact (Fz.neg Sq144.out)
    have Eq158 := Lib.hid eq158; clear eq158
    replace M := Lib.hid (And.intro hd159 (And.intro hd160 (Goes.go M.out hb)))
    clear hb hd159 hd160
    (try go_wp2_with fail)
    refine hK.out _ _ (⟨(M.out.2.2.2.2.2.2.2.2.2.1).at.1 0, (M.out.2.2.2.2.2.2.2.2.2.1).at.1 1, (M.out.2.2.2.2.2.2.2.2.2.1).at.1 2, (M.out.2.2.2.2.2.2.2.2.2.1).at.1 3, (M.out.2.2.2.2.2.2.2.2.2.1).at.1 4, (M.out.2.2.2.2.2.2.2.2.2.1).at.1 5, (M.out.2.2.2.2.2.2.2.2.2.1).at.1 6, (M.out.2.2.2.2.2.2.2.2.2.1).at.1 7, (M.out.2.2.2.2.2.2.2.2.2.2.2.2.1).at.1 0, (M.out.2.2.2.2.2.2.2.2.2.2.2.2.1).at.1 1, (M.out.2.2.2.2.2.2.2.2.2.2.2.2.1).at.1 2, (M.out.2.2.2.2.2.2.2.2.2.2.2.2.1).at.1 3, (M.out.2.2.2.2.2.2.2.2.2.2.2.2.1).at.1 4, (M.out.2.2.2.2.2.2.2.2.2.2.2.2.1).at.1 5, (M.out.2.2.2.2.2.2.2.2.2.2.2.2.1).at.1 6, (M.out.2.2.2.2.2.2.2.2.2.2.2.2.1).at.1 7, (M.out.2.2.2.2.1).at.1 0, (M.out.2.2.2.2.1).at.1 1, (M.out.2.2.2.2.1).at.1 2, (M.out.2.2.2.2.1).at.1 3, (M.out.2.2.2.2.1).at.1 4, (M.out.2.2.2.2.1).at.1 5, (M.out.2.2.2.2.1).at.1 6, (M.out.2.2.2.2.1).at.1 7⟩) (fun hH161 => ?_)
    clear hK K hH148
    (try simp only [Act.put, List.setIfInBounds_toArray, List.set_cons_zero, List.set_cons_succ])
    refine wpAnyH_ready (rs := [9]) (by kernel_rfl) (by simp) ?_
    refine AllReadyH.cons at9 (fun K hK => ?_) AllReadyH.nil
    go_simp
    refine (spSame_q (G := G) (p := q157) (q := q158) (r := p1) (s := p2) (M.out.1) (M.out.2.1) (K1.out.keep (M.out.2.2.2.2.2.2.2.2.2.2.2.2.2)) (K2.out.keep (M.out.2.2.2.2.2.2.2.2.2.2.2.2.2)) (Fz.mono Sq157.out (by omega)) (Fz.mono Sq158.out (by omega)) (by rw [Eq157.out, Eq145.out]; grind) (by rw [Eq158.out, Eq144.out]; grind)).mono ?_
    rintro e w19 ⟨rfl, hb⟩
    replace M := Lib.hid (Goes.go M.out hb)
    clear hb
    (try go_wp2_with fail)
    refine hK.out _ _ (⟨(M.out.2.2.2.2.2.2.2.2.2.1).at.1 0, (M.out.2.2.2.2.2.2.2.2.2.1).at.1 1, (M.out.2.2.2.2.2.2.2.2.2.1).at.1 2, (M.out.2.2.2.2.2.2.2.2.2.1).at.1 3, (M.out.2.2.2.2.2.2.2.2.2.1).at.1 4, (M.out.2.2.2.2.2.2.2.2.2.1).at.1 5, (M.out.2.2.2.2.2.2.2.2.2.1).at.1 6, (M.out.2.2.2.2.2.2.2.2.2.1).at.1 7, (M.out.2.2.2.2.2.2.2.2.2.2.2.2.1).at.1 0, (M.out.2.2.2.2.2.2.2.2.2.2.2.2.1).at.1 1, (M.out.2.2.2.2.2.2.2.2.2.2.2.2.1).at.1 2, (M.out.2.2.2.2.2.2.2.2.2.2.2.2.1).at.1 3, (M.out.2.2.2.2.2.2.2.2.2.2.2.2.1).at.1 4, (M.out.2.2.2.2.2.2.2.2.2.2.2.2.1).at.1 5, (M.out.2.2.2.2.2.2.2.2.2.2.2.2.1).at.1 6, (M.out.2.2.2.2.2.2.2.2.2.2.2.2.1).at.1 7, (M.out.2.2.2.2.1).at.1 0, (M.out.2.2.2.2.1).at.1 1, (M.out.2.2.2.2.1).at.1 2, (M.out.2.2.2.2.1).at.1 3, (M.out.2.2.2.2.1).at.1 4, (M.out.2.2.2.2.1).at.1 5, (M.out.2.2.2.2.1).at.1 6, (M.out.2.2.2.2.1).at.1 7⟩) (fun hH162 => ?_)
    clear hK K hH161
    (try simp only [Act.put, List.setIfInBounds_toArray, List.set_cons_zero, List.set_cons_succ])
    refine tk at10 ?_
    refine tk at11 ?_
    refine wpAnyH_done (by kernel_rfl) ?_ _
    clear hH162
    have y0 := (M.out.2.2.2.2.2.2.2.2.2.1).d8; have p0_0 := y0.1; have p0_1 := y0.2.1; have p0_2 := y0.2.2.1; have p0_3 := y0.2.2.2.1; have p0_4 := y0.2.2.2.2.1; have p0_5 := y0.2.2.2.2.2.1; have p0_6 := y0.2.2.2.2.2.2.1; have p0_7 := y0.2.2.2.2.2.2.2; clear y0
    have y1 := (M.out.2.2.2.2.2.2.2.2.2.2.1).d8; have p1_0 := y1.1; have p1_1 := y1.2.1; have p1_2 := y1.2.2.1; have p1_3 := y1.2.2.2.1; have p1_4 := y1.2.2.2.2.1; have p1_5 := y1.2.2.2.2.2.1; have p1_6 := y1.2.2.2.2.2.2.1; have p1_7 := y1.2.2.2.2.2.2.2; clear y1
    go_wp2_with fail
    clear p0_0 p0_1 p0_2 p0_3 p0_4 p0_5 p0_6 p0_7 p1_0 p1_1 p1_2 p1_3 p1_4 p1_5 p1_6 p1_7
    replace M := Lib.hid (And.intro (M.out.2.2.2.2.2.2.2.2.2.1) (And.intro (M.out.2.2.2.2.2.2.2.2.2.2.1) (And.intro (M.out.2.2.2.2.2.2.2.2.2.2.2.1) (M.out.2.2.2.2.2.2.2.2.2.2.2.2.2))))
    refine (spHull_q (G := G) (p := p1) (q := p2) (r := r1) (s := r2) (lo := hl) (hi := hh) (Nat.le_trans hG (M.out.2.2.2).size) (K1.out.keep (M.out.2.2.2)) (K2.out.keep (M.out.2.2.2)) (K3.out.keep (M.out.2.2.2)) (K4.out.keep (M.out.2.2.2)) (Fz.mono Z1.out (by omega)) (Fz.mono Z2.out (by omega)) (Fz.mono Z3.out (by omega)) (Fz.mono Z4.out (by omega)) (right_le HC2.out) (right_le HC3.out) (congrArg Sp.lo HH.out) (congrArg Sp.hi HH.out)).mono ?_
    rintro e w20 ⟨x_163, x_164, x_165, x_166, x_167, x_168, x_169, x_170, rfl, hd171, hd172, hb⟩
    replace M := Lib.hid (And.intro hd171 (And.intro hd172 (Goes.go M.out hb)))
    clear hb hd171 hd172
    have ys_x_163 := TQ.st (M.out.1); have st_x_163 := ys_x_163.1; have st_x_164 := ys_x_163.2.1; have st_x_165 := ys_x_163.2.2.1; have st_x_166 := ys_x_163.2.2.2; clear ys_x_163
    have ys_x_167 := TQ.st (M.out.2.1); have st_x_167 := ys_x_167.1; have st_x_168 := ys_x_167.2.1; have st_x_169 := ys_x_167.2.2.1; have st_x_170 := ys_x_167.2.2.2; clear ys_x_167
    go_upto_region 11 with fail
    clear st_x_163 st_x_164 st_x_165 st_x_166 st_x_167 st_x_168 st_x_169 st_x_170
    obtain ⟨w21, hv⟩ : ∃ w_ : World, w_ = (w20.alloc (.cells #[x_163, x_164, x_165, x_166, x_167, x_168, x_169, x_170] 28)) := ⟨_, rfl⟩
    rw [← hv]
    have ow5_ : w.heap.size + 1 + 1 < w20.heap.size := ((M.out.2.2.2.2.1)).lt
    replace M := Lib.hid (And.intro (hv ▸ bx1 w20 28 #[x_163, x_164, x_165, x_166, x_167, x_168, x_169, x_170]) (Goes.go M.out (hv ▸ below_alloc _ _ : Below w20.heap.size w20 w21)))
    clear hv
    have y1 := (M.out.2.2.2.2.1).d8; have p1_0 := y1.1; have p1_1 := y1.2.1; have p1_2 := y1.2.2.1; have p1_3 := y1.2.2.2.1; have p1_4 := y1.2.2.2.2.1; have p1_5 := y1.2.2.2.2.2.1; have p1_6 := y1.2.2.2.2.2.2.1; have p1_7 := y1.2.2.2.2.2.2.2; clear y1
    have y0 := (M.out.2.2.2.1).d8; have p0_0 := y0.1; have p0_1 := y0.2.1; have p0_2 := y0.2.2.1; have p0_3 := y0.2.2.2.1; have p0_4 := y0.2.2.2.2.1; have p0_5 := y0.2.2.2.2.2.1; have p0_6 := y0.2.2.2.2.2.2.1; have p0_7 := y0.2.2.2.2.2.2.2; clear y0
    go_wp2_with fail
    clear p1_0 p1_1 p1_2 p1_3 p1_4 p1_5 p1_6 p1_7 p0_0 p0_1 p0_2 p0_3 p0_4 p0_5 p0_6 p0_7
    refine (spHull_q (G := G) (p := r1) (q := r2) (r := p1) (s := p2) (lo := hl) (hi := hh) (Nat.le_trans hG (M.out.2.2.2.2.2.2).size) (K3.out.keep (M.out.2.2.2.2.2.2)) (K4.out.keep (M.out.2.2.2.2.2.2)) (K1.out.keep (M.out.2.2.2.2.2.2)) (K2.out.keep (M.out.2.2.2.2.2.2)) (Fz.mono Z3.out (by omega)) (Fz.mono Z4.out (by omega)) (Fz.mono Z1.out (by omega)) (Fz.mono Z2.out (by omega)) (right_le HC3.out) (right_le HC2.out) (congrArg Sp.lo HC_.out) (congrArg Sp.hi HC_.out)).mono ?_
    rintro e w22 ⟨x_173, x_174, x_175, x_176, x_177, x_178, x_179, x_180, rfl, hd181, hd182, hb⟩
    replace M := Lib.hid (And.intro hd181 (And.intro hd182 (Goes.go M.out hb)))
    clear hb hd181 hd182
    have ys_x_173 := TQ.st (M.out.1); have st_x_173 := ys_x_173.1; have st_x_174 := ys_x_173.2.1; have st_x_175 := ys_x_173.2.2.1; have st_x_176 := ys_x_173.2.2.2; clear ys_x_173
    have ys_x_177 := TQ.st (M.out.2.1); have st_x_177 := ys_x_177.1; have st_x_178 := ys_x_177.2.1; have st_x_179 := ys_x_177.2.2.1; have st_x_180 := ys_x_177.2.2.2; clear ys_x_177
    go_upto_region 12 with fail
    clear st_x_173 st_x_174 st_x_175 st_x_176 st_x_177 st_x_178 st_x_179 st_x_180
    obtain ⟨w23, hv⟩ : ∃ w_ : World, w_ = (w22.alloc (.cells #[x_173, x_174, x_175, x_176, x_177, x_178, x_179, x_180] 28)) := ⟨_, rfl⟩
    rw [← hv]
    have ow6_ : w20.heap.size < w22.heap.size := ((M.out.2.2.1)).lt
    replace M := Lib.hid (And.intro (hv ▸ bx1 w22 28 #[x_173, x_174, x_175, x_176, x_177, x_178, x_179, x_180]) (Goes.go M.out (hv ▸ below_alloc _ _ : Below w22.heap.size w22 w23)))
    clear hv
    have y5 := (M.out.2.2.2.1).d8; have p5_0 := y5.1; have p5_1 := y5.2.1; have p5_2 := y5.2.2.1; have p5_3 := y5.2.2.2.1; have p5_4 := y5.2.2.2.2.1; have p5_5 := y5.2.2.2.2.2.1; have p5_6 := y5.2.2.2.2.2.2.1; have p5_7 := y5.2.2.2.2.2.2.2; clear y5
    have y2 := (M.out.2.2.2.2.2.2.2.2.1).d8; have p2_0 := y2.1; have p2_1 := y2.2.1; have p2_2 := y2.2.2.1; have p2_3 := y2.2.2.2.1; have p2_4 := y2.2.2.2.2.1; have p2_5 := y2.2.2.2.2.2.1; have p2_6 := y2.2.2.2.2.2.2.1; have p2_7 := y2.2.2.2.2.2.2.2; clear y2
    go_wp2_with fail
    clear p5_0 p5_1 p5_2 p5_3 p5_4 p5_5 p5_6 p5_7 p2_0 p2_1 p2_2 p2_3 p2_4 p2_5 p2_6 p2_7
    refine (spHull_q (G := G) (p := hl) (q := hh) (r := s1) (s := s2) (lo := jl) (hi := jh) (Nat.le_trans hG (M.out.2.2.2.2.2.2.2.2.2).size) (M.out.2.2.2.2.1) (M.out.2.2.2.2.2.1) (K5.out.keep (M.out.2.2.2.2.2.2.2.2.2)) (K6.out.keep (M.out.2.2.2.2.2.2.2.2.2)) (Fz.mono HHSl.out (by omega)) (Fz.mono HHSh.out (by omega)) (Fz.mono Z5.out (by omega)) (Fz.mono Z6.out (by omega)) HHO.out (right_le HC4.out) (congrArg Sp.lo HJ.out) (congrArg Sp.hi HJ.out)).mono ?_
    rintro e w24 ⟨x_183, x_184, x_185, x_186, x_187, x_188, x_189, x_190, rfl, hd191, hd192, hb⟩
    replace M := Lib.hid (And.intro hd191 (And.intro hd192 (Goes.go M.out hb)))
    clear hb hd191 hd192
    have ys_x_183 := TQ.st (M.out.1); have st_x_183 := ys_x_183.1; have st_x_184 := ys_x_183.2.1; have st_x_185 := ys_x_183.2.2.1; have st_x_186 := ys_x_183.2.2.2; clear ys_x_183
    have ys_x_187 := TQ.st (M.out.2.1); have st_x_187 := ys_x_187.1; have st_x_188 := ys_x_187.2.1; have st_x_189 := ys_x_187.2.2.1; have st_x_190 := ys_x_187.2.2.2; clear ys_x_187
    go_upto_region 13 with fail
    clear st_x_183 st_x_184 st_x_185 st_x_186 st_x_187 st_x_188 st_x_189 st_x_190
    obtain ⟨w25, hv⟩ : ∃ w_ : World, w_ = (w24.alloc (.cells #[x_183, x_184, x_185, x_186, x_187, x_188, x_189, x_190] 28)) := ⟨_, rfl⟩
    rw [← hv]
    have ow7_ : w22.heap.size < w24.heap.size := ((M.out.2.2.1)).lt
    replace M := Lib.hid (And.intro (hv ▸ bx1 w24 28 #[x_183, x_184, x_185, x_186, x_187, x_188, x_189, x_190]) (Goes.go M.out (hv ▸ below_alloc _ _ : Below w24.heap.size w24 w25)))
    clear hv
    have y1 := (M.out.2.2.2.2.2.2.2.2.2.2.1).d8; have p1_0 := y1.1; have p1_1 := y1.2.1; have p1_2 := y1.2.2.1; have p1_3 := y1.2.2.2.1; have p1_4 := y1.2.2.2.2.1; have p1_5 := y1.2.2.2.2.2.1; have p1_6 := y1.2.2.2.2.2.2.1; have p1_7 := y1.2.2.2.2.2.2.2; clear y1
    have y2 := (M.out.2.2.2.2.2.2.2.2.2.2.2.1).d8; have p2_0 := y2.1; have p2_1 := y2.2.1; have p2_2 := y2.2.2.1; have p2_3 := y2.2.2.2.1; have p2_4 := y2.2.2.2.2.1; have p2_5 := y2.2.2.2.2.2.1; have p2_6 := y2.2.2.2.2.2.2.1; have p2_7 := y2.2.2.2.2.2.2.2; clear y2
    go_wp2_with fail
    clear p1_0 p1_1 p1_2 p1_3 p1_4 p1_5 p1_6 p1_7 p2_0 p2_1 p2_2 p2_3 p2_4 p2_5 p2_6 p2_7
    refine (spHull_q (G := G) (p := r1) (q := r2) (r := s1) (s := s2) (lo := kl) (hi := kh) (Nat.le_trans hG (M.out.2.2.2.2.2.2.2.2.2.2.2.2).size) (K3.out.keep (M.out.2.2.2.2.2.2.2.2.2.2.2.2)) (K4.out.keep (M.out.2.2.2.2.2.2.2.2.2.2.2.2)) (K5.out.keep (M.out.2.2.2.2.2.2.2.2.2.2.2.2)) (K6.out.keep (M.out.2.2.2.2.2.2.2.2.2.2.2.2)) (Fz.mono Z3.out (by omega)) (Fz.mono Z4.out (by omega)) (Fz.mono Z5.out (by omega)) (Fz.mono Z6.out (by omega)) (right_le HC3.out) (right_le HC4.out) (congrArg Sp.lo HK.out) (congrArg Sp.hi HK.out)).mono ?_
    rintro e w26 ⟨x_193, x_194, x_195, x_196, x_197, x_198, x_199, x_200, rfl, hd201, hd202, hb⟩
    replace M := Lib.hid (And.intro hd201 (And.intro hd202 (Goes.go M.out hb)))
    clear hb hd201 hd202
    have ys_x_193 := TQ.st (M.out.1); have st_x_193 := ys_x_193.1; have st_x_194 := ys_x_193.2.1; have st_x_195 := ys_x_193.2.2.1; have st_x_196 := ys_x_193.2.2.2; clear ys_x_193
    have ys_x_197 := TQ.st (M.out.2.1); have st_x_197 := ys_x_197.1; have st_x_198 := ys_x_197.2.1; have st_x_199 := ys_x_197.2.2.1; have st_x_200 := ys_x_197.2.2.2; clear ys_x_197
    go_upto_region 14 with fail
    clear st_x_193 st_x_194 st_x_195 st_x_196 st_x_197 st_x_198 st_x_199 st_x_200
    obtain ⟨w27, hv⟩ : ∃ w_ : World, w_ = (w26.alloc (.cells #[x_193, x_194, x_195, x_196, x_197, x_198, x_199, x_200] 28)) := ⟨_, rfl⟩
    rw [← hv]
    have ow8_ : w24.heap.size < w26.heap.size := ((M.out.2.2.1)).lt
    replace M := Lib.hid (And.intro (hv ▸ bx1 w26 28 #[x_193, x_194, x_195, x_196, x_197, x_198, x_199, x_200]) (Goes.go M.out (hv ▸ below_alloc _ _ : Below w26.heap.size w26 w27)))
    clear hv
    have y0 := (M.out.2.2.2.2.2.2.2.2.2.2.2.2.1).d8; have p0_0 := y0.1; have p0_1 := y0.2.1; have p0_2 := y0.2.2.1; have p0_3 := y0.2.2.2.1; have p0_4 := y0.2.2.2.2.1; have p0_5 := y0.2.2.2.2.2.1; have p0_6 := y0.2.2.2.2.2.2.1; have p0_7 := y0.2.2.2.2.2.2.2; clear y0
    have y8 := (M.out.1).d8; have p8_0 := y8.1; have p8_1 := y8.2.1; have p8_2 := y8.2.2.1; have p8_3 := y8.2.2.2.1; have p8_4 := y8.2.2.2.2.1; have p8_5 := y8.2.2.2.2.2.1; have p8_6 := y8.2.2.2.2.2.2.1; have p8_7 := y8.2.2.2.2.2.2.2; clear y8
    go_wp2_with fail
    clear p0_0 p0_1 p0_2 p0_3 p0_4 p0_5 p0_6 p0_7 p8_0 p8_1 p8_2 p8_3 p8_4 p8_5 p8_6 p8_7
    refine (spHull_q (G := G) (p := p1) (q := p2) (r := kl) (s := kh) (lo := jl) (hi := jh) (Nat.le_trans hG (M.out.2.2.2.2.2.2.2.2.2.2.2.2.2.2.2).size) (K1.out.keep (M.out.2.2.2.2.2.2.2.2.2.2.2.2.2.2.2)) (K2.out.keep (M.out.2.2.2.2.2.2.2.2.2.2.2.2.2.2.2)) (M.out.2.1) (M.out.2.2.1) (Fz.mono Z1.out (by omega)) (Fz.mono Z2.out (by omega)) (Fz.mono HKSl.out (by omega)) (Fz.mono HKSh.out (by omega)) (right_le HC2.out) HKO.out (congrArg Sp.lo HA_.out) (congrArg Sp.hi HA_.out)).mono ?_
    rintro e w28 ⟨x_203, x_204, x_205, x_206, x_207, x_208, x_209, x_210, rfl, hd211, hd212, hb⟩
    replace M := Lib.hid (And.intro hd211 (And.intro hd212 (Goes.go M.out hb)))
    clear hb hd211 hd212
    have ys_x_203 := TQ.st (M.out.1); have st_x_203 := ys_x_203.1; have st_x_204 := ys_x_203.2.1; have st_x_205 := ys_x_203.2.2.1; have st_x_206 := ys_x_203.2.2.2; clear ys_x_203
    have ys_x_207 := TQ.st (M.out.2.1); have st_x_207 := ys_x_207.1; have st_x_208 := ys_x_207.2.1; have st_x_209 := ys_x_207.2.2.1; have st_x_210 := ys_x_207.2.2.2; clear ys_x_207
    go_upto_region 15 with fail
    clear st_x_203 st_x_204 st_x_205 st_x_206 st_x_207 st_x_208 st_x_209 st_x_210
    obtain ⟨w29, hv⟩ : ∃ w_ : World, w_ = (w28.alloc (.cells #[x_203, x_204, x_205, x_206, x_207, x_208, x_209, x_210] 28)) := ⟨_, rfl⟩
    rw [← hv]
    have ow9_ : w26.heap.size < w28.heap.size := ((M.out.2.2.1)).lt
    replace M := Lib.hid (And.intro (hv ▸ bx1 w28 28 #[x_203, x_204, x_205, x_206, x_207, x_208, x_209, x_210]) (Goes.go M.out (hv ▸ below_alloc _ _ : Below w28.heap.size w28 w29)))
    clear hv
    have y5 := (M.out.2.2.2.2.2.2.2.2.2.2.2.2.1).d8; have p5_0 := y5.1; have p5_1 := y5.2.1; have p5_2 := y5.2.2.1; have p5_3 := y5.2.2.2.1; have p5_4 := y5.2.2.2.2.1; have p5_5 := y5.2.2.2.2.2.1; have p5_6 := y5.2.2.2.2.2.2.1; have p5_7 := y5.2.2.2.2.2.2.2; clear y5
    have y6 := (M.out.2.2.2.2.2.2.2.2.2.1).d8; have p6_0 := y6.1; have p6_1 := y6.2.1; have p6_2 := y6.2.2.1; have p6_3 := y6.2.2.2.1; have p6_4 := y6.2.2.2.2.1; have p6_5 := y6.2.2.2.2.2.1; have p6_6 := y6.2.2.2.2.2.2.1; have p6_7 := y6.2.2.2.2.2.2.2; clear y6
    go_wp2_with fail
    clear p5_0 p5_1 p5_2 p5_3 p5_4 p5_5 p5_6 p5_7 p6_0 p6_1 p6_2 p6_3 p6_4 p6_5 p6_6 p6_7
    replace M := Lib.hid (And.intro (M.out.1) (And.intro (M.out.2.1) (And.intro (M.out.2.2.1) (And.intro (M.out.2.2.2.2.2.2.1) (And.intro (M.out.2.2.2.2.2.2.2.1) (And.intro (M.out.2.2.2.2.2.2.2.2.1) (And.intro (M.out.2.2.2.2.2.2.2.2.2.2.1) (And.intro (M.out.2.2.2.2.2.2.2.2.2.2.2.1) (And.intro (M.out.2.2.2.2.2.2.2.2.2.2.2.2.2.1) (And.intro (M.out.2.2.2.2.2.2.2.2.2.2.2.2.2.2.1) (And.intro (M.out.2.2.2.2.2.2.2.2.2.2.2.2.2.2.2.1) (And.intro (M.out.2.2.2.2.2.2.2.2.2.2.2.2.2.2.2.2.1) (And.intro (M.out.2.2.2.2.2.2.2.2.2.2.2.2.2.2.2.2.2.1) (M.out.2.2.2.2.2.2.2.2.2.2.2.2.2.2.2.2.2.2))))))))))))))
    refine (spSame_q (G := G) (p := hl) (q := hh) (r := hl) (s := hh) (M.out.2.2.2.2.2.2.2.2.1) (M.out.2.2.2.2.2.2.2.2.2.1) (M.out.2.2.2.2.2.2.1) (M.out.2.2.2.2.2.2.2.1) (Fz.mono HHSl.out (by omega)) (Fz.mono HHSh.out (by omega)) rfl rfl).mono ?_
    rintro e w30 ⟨rfl, hb⟩
    replace M := Lib.hid (Goes.go M.out hb)
    clear hb
    have y7 := (M.out.2.2.2.1).d8; have p7_0 := y7.1; have p7_1 := y7.2.1; have p7_2 := y7.2.2.1; have p7_3 := y7.2.2.2.1; have p7_4 := y7.2.2.2.2.1; have p7_5 := y7.2.2.2.2.2.1; have p7_6 := y7.2.2.2.2.2.2.1; have p7_7 := y7.2.2.2.2.2.2.2; clear y7
    have y9 := (M.out.1).d8; have p9_0 := y9.1; have p9_1 := y9.2.1; have p9_2 := y9.2.2.1; have p9_3 := y9.2.2.2.1; have p9_4 := y9.2.2.2.2.1; have p9_5 := y9.2.2.2.2.2.1; have p9_6 := y9.2.2.2.2.2.2.1; have p9_7 := y9.2.2.2.2.2.2.2; clear y9
    go_wp2_with fail
    clear p7_0 p7_1 p7_2 p7_3 p7_4 p7_5 p7_6 p7_7 p9_0 p9_1 p9_2 p9_3 p9_4 p9_5 p9_6 p9_7
    replace M := Lib.hid (And.intro (M.out.2.1) (And.intro (M.out.2.2.1) (And.intro (M.out.2.2.2.2.1) (And.intro (M.out.2.2.2.2.2.1) (And.intro (M.out.2.2.2.2.2.2.2.2.2.2.1) (And.intro (M.out.2.2.2.2.2.2.2.2.2.2.2.1) (And.intro (M.out.2.2.2.2.2.2.2.2.2.2.2.2.1) (M.out.2.2.2.2.2.2.2.2.2.2.2.2.2))))))))
    refine (spSame_q (G := G) (p := jl) (q := jh) (r := jl) (s := jh) (M.out.2.2.1) (M.out.2.2.2.1) (M.out.1) (M.out.2.1) (Fz.mono HJSl.out (by omega)) (Fz.mono HJSh.out (by omega)) rfl rfl).mono ?_
    rintro e w31 ⟨rfl, hb⟩
    replace M := Lib.hid (Goes.go M.out hb)
    clear hb
    have y1 := (M.out.2.2.2.2.2.1).d8; have p1_0 := y1.1; have p1_1 := y1.2.1; have p1_2 := y1.2.2.1; have p1_3 := y1.2.2.2.1; have p1_4 := y1.2.2.2.2.1; have p1_5 := y1.2.2.2.2.2.1; have p1_6 := y1.2.2.2.2.2.2.1; have p1_7 := y1.2.2.2.2.2.2.2; clear y1
    have y2 := (M.out.2.2.2.2.2.2.1).d8; have p2_0 := y2.1; have p2_1 := y2.2.1; have p2_2 := y2.2.2.1; have p2_3 := y2.2.2.2.1; have p2_4 := y2.2.2.2.2.1; have p2_5 := y2.2.2.2.2.2.1; have p2_6 := y2.2.2.2.2.2.2.1; have p2_7 := y2.2.2.2.2.2.2.2; clear y2
    go_wp2_with fail
    clear p1_0 p1_1 p1_2 p1_3 p1_4 p1_5 p1_6 p1_7 p2_0 p2_1 p2_2 p2_3 p2_4 p2_5 p2_6 p2_7
    replace M := Lib.hid (And.intro (M.out.2.2.2.2.1) (And.intro (M.out.2.2.2.2.2.1) (And.intro (M.out.2.2.2.2.2.2.1) (M.out.2.2.2.2.2.2.2))))
    obtain ⟨q221, eq221⟩ : ∃ v_ : Rat, v_ = (r1 + s1) := ⟨_, rfl⟩
    obtain ⟨q222, eq222⟩ : ∃ v_ : Rat, v_ = (r2 + s2) := ⟨_, rfl⟩
    refine (spAdd_q (G := G) (p := r1) (q := r2) (r := s1) (s := s2) (Nat.le_trans hG (M.out.2.2.2).size) (K3.out.keep (M.out.2.2.2)) (K4.out.keep (M.out.2.2.2)) (K5.out.keep (M.out.2.2.2)) (K6.out.keep (M.out.2.2.2)) (Fz.mono Z3.out (by omega)) (Fz.mono Z4.out (by omega)) (Fz.mono Z5.out (by omega)) (Fz.mono Z6.out (by omega)) (right_le HC3.out) (right_le HC4.out)).mono ?_
    rintro e w32 ⟨x_213, x_214, x_215, x_216, x_217, x_218, x_219, x_220, rfl, hd223, hd224, hb⟩
    rw [← eq221] at hd223
    have Sq221 : Hid (Fz q221 9) := by show Fz q221 9; rw [eq221]; exact (Fz.add Z3.out Z5.out)
    have Eq221 := Lib.hid eq221; clear eq221
    rw [← eq222] at hd224
    have Sq222 : Hid (Fz q222 9) := by show Fz q222 9; rw [eq222]; exact (Fz.add Z4.out Z6.out)
    have Eq222 := Lib.hid eq222; clear eq222
    replace M := Lib.hid (And.intro hd223 (And.intro hd224 (Goes.go M.out hb)))
    clear hb hd223 hd224
    have ys_x_213 := TQ.st (M.out.1); have st_x_213 := ys_x_213.1; have st_x_214 := ys_x_213.2.1; have st_x_215 := ys_x_213.2.2.1; have st_x_216 := ys_x_213.2.2.2; clear ys_x_213
    have ys_x_217 := TQ.st (M.out.2.1); have st_x_217 := ys_x_217.1; have st_x_218 := ys_x_217.2.1; have st_x_219 := ys_x_217.2.2.1; have st_x_220 := ys_x_217.2.2.2; clear ys_x_217
    go_upto_region 18 with fail
    clear st_x_213 st_x_214 st_x_215 st_x_216 st_x_217 st_x_218 st_x_219 st_x_220
    obtain ⟨w33, hv⟩ : ∃ w_ : World, w_ = (w32.alloc (.cells #[x_213, x_214, x_215, x_216, x_217, x_218, x_219, x_220] 28)) := ⟨_, rfl⟩
    rw [← hv]
    have ow10_ : w.heap.size + 1 + 1 < w32.heap.size := ((M.out.2.2.2.2.1)).lt
    replace M := Lib.hid (And.intro (hv ▸ bx1 w32 28 #[x_213, x_214, x_215, x_216, x_217, x_218, x_219, x_220]) (Goes.go M.out (hv ▸ below_alloc _ _ : Below w32.heap.size w32 w33)))
    clear hv
    have y0 := (M.out.2.2.2.1).d8; have p0_0 := y0.1; have p0_1 := y0.2.1; have p0_2 := y0.2.2.1; have p0_3 := y0.2.2.2.1; have p0_4 := y0.2.2.2.2.1; have p0_5 := y0.2.2.2.2.2.1; have p0_6 := y0.2.2.2.2.2.2.1; have p0_7 := y0.2.2.2.2.2.2.2; clear y0
    have y10 := (M.out.1).d8; have p10_0 := y10.1; have p10_1 := y10.2.1; have p10_2 := y10.2.2.1; have p10_3 := y10.2.2.2.1; have p10_4 := y10.2.2.2.2.1; have p10_5 := y10.2.2.2.2.2.1; have p10_6 := y10.2.2.2.2.2.2.1; have p10_7 := y10.2.2.2.2.2.2.2; clear y10
    go_wp2_with fail
    clear p0_0 p0_1 p0_2 p0_3 p0_4 p0_5 p0_6 p0_7 p10_0 p10_1 p10_2 p10_3 p10_4 p10_5 p10_6 p10_7
    refine (spMul_q (G := G) (p := p1) (q := p2) (r := q221) (s := q222) (lo := wl) (hi := wh) (Nat.le_trans hG (M.out.2.2.2.2.2.2).size) (K1.out.keep (M.out.2.2.2.2.2.2)) (K2.out.keep (M.out.2.2.2.2.2.2)) (M.out.2.1) (M.out.2.2.1) (Fz.mono Z1.out (by omega)) (Fz.mono Z2.out (by omega)) (Fz.mono Sq221.out (by omega)) (Fz.mono Sq222.out (by omega)) (right_le HC2.out) (by rw [Eq222.out, Eq221.out]; exact add_le2 (right_le HC3.out) (right_le HC4.out)) (by rw [Eq222.out, Eq221.out]; exact HWL.out) (by rw [Eq222.out, Eq221.out]; exact HWH.out)).mono ?_
    rintro e w34 ⟨x_225, x_226, x_227, x_228, x_229, x_230, x_231, x_232, rfl, hd233, hd234, hb⟩
    replace M := Lib.hid (And.intro hd233 (And.intro hd234 (Goes.go M.out hb)))
    clear hb hd233 hd234
    have ys_x_225 := TQ.st (M.out.1); have st_x_225 := ys_x_225.1; have st_x_226 := ys_x_225.2.1; have st_x_227 := ys_x_225.2.2.1; have st_x_228 := ys_x_225.2.2.2; clear ys_x_225
    have ys_x_229 := TQ.st (M.out.2.1); have st_x_229 := ys_x_229.1; have st_x_230 := ys_x_229.2.1; have st_x_231 := ys_x_229.2.2.1; have st_x_232 := ys_x_229.2.2.2; clear ys_x_229
    go_upto_region 19 with fail
    clear st_x_225 st_x_226 st_x_227 st_x_228 st_x_229 st_x_230 st_x_231 st_x_232
    obtain ⟨w35, hv⟩ : ∃ w_ : World, w_ = (w34.alloc (.cells #[x_225, x_226, x_227, x_228, x_229, x_230, x_231, x_232] 28)) := ⟨_, rfl⟩
    rw [← hv]
    have ow11_ : w32.heap.size < w34.heap.size := ((M.out.2.2.1)).lt
    replace M := Lib.hid (And.intro (hv ▸ bx1 w34 28 #[x_225, x_226, x_227, x_228, x_229, x_230, x_231, x_232]) (Goes.go M.out (hv ▸ below_alloc _ _ : Below w34.heap.size w34 w35)))
    clear hv
    have y0 := (M.out.2.2.2.2.2.2.1).d8; have p0_0 := y0.1; have p0_1 := y0.2.1; have p0_2 := y0.2.2.1; have p0_3 := y0.2.2.2.1; have p0_4 := y0.2.2.2.2.1; have p0_5 := y0.2.2.2.2.2.1; have p0_6 := y0.2.2.2.2.2.2.1; have p0_7 := y0.2.2.2.2.2.2.2; clear y0
    have y1 := (M.out.2.2.2.2.2.2.2.1).d8; have p1_0 := y1.1; have p1_1 := y1.2.1; have p1_2 := y1.2.2.1; have p1_3 := y1.2.2.2.1; have p1_4 := y1.2.2.2.2.1; have p1_5 := y1.2.2.2.2.2.1; have p1_6 := y1.2.2.2.2.2.2.1; have p1_7 := y1.2.2.2.2.2.2.2; clear y1
    go_wp2_with fail
    clear p0_0 p0_1 p0_2 p0_3 p0_4 p0_5 p0_6 p0_7 p1_0 p1_1 p1_2 p1_3 p1_4 p1_5 p1_6 p1_7
    replace M := Lib.hid (And.intro (M.out.1) (And.intro (M.out.2.1) (And.intro (M.out.2.2.1) (And.intro (M.out.2.2.2.2.2.2.1) (And.intro (M.out.2.2.2.2.2.2.2.2.1) (M.out.2.2.2.2.2.2.2.2.2))))))
    refine (spMul_q (G := G) (p := p1) (q := p2) (r := r1) (s := r2) (lo := ml) (hi := mh) (Nat.le_trans hG (M.out.2.2.2.2.2).size) (K1.out.keep (M.out.2.2.2.2.2)) (K2.out.keep (M.out.2.2.2.2.2)) (K3.out.keep (M.out.2.2.2.2.2)) (K4.out.keep (M.out.2.2.2.2.2)) (Fz.mono Z1.out (by omega)) (Fz.mono Z2.out (by omega)) (Fz.mono Z3.out (by omega)) (Fz.mono Z4.out (by omega)) (right_le HC2.out) (right_le HC3.out) (by exact HML.out) (by exact HMH.out)).mono ?_
    rintro e w36 ⟨x_235, x_236, x_237, x_238, x_239, x_240, x_241, x_242, rfl, hd243, hd244, hb⟩
    replace M := Lib.hid (And.intro hd243 (And.intro hd244 (Goes.go M.out hb)))
    clear hb hd243 hd244
    have ys_x_235 := TQ.st (M.out.1); have st_x_235 := ys_x_235.1; have st_x_236 := ys_x_235.2.1; have st_x_237 := ys_x_235.2.2.1; have st_x_238 := ys_x_235.2.2.2; clear ys_x_235
    have ys_x_239 := TQ.st (M.out.2.1); have st_x_239 := ys_x_239.1; have st_x_240 := ys_x_239.2.1; have st_x_241 := ys_x_239.2.2.1; have st_x_242 := ys_x_239.2.2.2; clear ys_x_239
    go_upto_region 20 with fail
    clear st_x_235 st_x_236 st_x_237 st_x_238 st_x_239 st_x_240 st_x_241 st_x_242
    obtain ⟨w37, hv⟩ : ∃ w_ : World, w_ = (w36.alloc (.cells #[x_235, x_236, x_237, x_238, x_239, x_240, x_241, x_242] 28)) := ⟨_, rfl⟩
    rw [← hv]
    have ow12_ : w34.heap.size < w36.heap.size := ((M.out.2.2.1)).lt
    replace M := Lib.hid (And.intro (hv ▸ bx1 w36 28 #[x_235, x_236, x_237, x_238, x_239, x_240, x_241, x_242]) (Goes.go M.out (hv ▸ below_alloc _ _ : Below w36.heap.size w36 w37)))
    clear hv
    have y0 := (M.out.2.2.2.2.2.2.1).d8; have p0_0 := y0.1; have p0_1 := y0.2.1; have p0_2 := y0.2.2.1; have p0_3 := y0.2.2.2.1; have p0_4 := y0.2.2.2.2.1; have p0_5 := y0.2.2.2.2.2.1; have p0_6 := y0.2.2.2.2.2.2.1; have p0_7 := y0.2.2.2.2.2.2.2; clear y0
    have y2 := (M.out.2.2.2.2.2.2.2.1).d8; have p2_0 := y2.1; have p2_1 := y2.2.1; have p2_2 := y2.2.2.1; have p2_3 := y2.2.2.2.1; have p2_4 := y2.2.2.2.2.1; have p2_5 := y2.2.2.2.2.2.1; have p2_6 := y2.2.2.2.2.2.2.1; have p2_7 := y2.2.2.2.2.2.2.2; clear y2
    go_wp2_with fail
    clear p0_0 p0_1 p0_2 p0_3 p0_4 p0_5 p0_6 p0_7 p2_0 p2_1 p2_2 p2_3 p2_4 p2_5 p2_6 p2_7
    refine (spMul_q (G := G) (p := p1) (q := p2) (r := s1) (s := s2) (lo := nl) (hi := nh) (Nat.le_trans hG (M.out.2.2.2.2.2.2.2.2).size) (K1.out.keep (M.out.2.2.2.2.2.2.2.2)) (K2.out.keep (M.out.2.2.2.2.2.2.2.2)) (K5.out.keep (M.out.2.2.2.2.2.2.2.2)) (K6.out.keep (M.out.2.2.2.2.2.2.2.2)) (Fz.mono Z1.out (by omega)) (Fz.mono Z2.out (by omega)) (Fz.mono Z5.out (by omega)) (Fz.mono Z6.out (by omega)) (right_le HC2.out) (right_le HC4.out) (by exact HNL.out) (by exact HNH.out)).mono ?_
    rintro e w38 ⟨x_245, x_246, x_247, x_248, x_249, x_250, x_251, x_252, rfl, hd253, hd254, hb⟩
    replace M := Lib.hid (And.intro hd253 (And.intro hd254 (Goes.go M.out hb)))
    clear hb hd253 hd254
    have ys_x_245 := TQ.st (M.out.1); have st_x_245 := ys_x_245.1; have st_x_246 := ys_x_245.2.1; have st_x_247 := ys_x_245.2.2.1; have st_x_248 := ys_x_245.2.2.2; clear ys_x_245
    have ys_x_249 := TQ.st (M.out.2.1); have st_x_249 := ys_x_249.1; have st_x_250 := ys_x_249.2.1; have st_x_251 := ys_x_249.2.2.1; have st_x_252 := ys_x_249.2.2.2; clear ys_x_249
    go_upto_region 21 with fail
    clear st_x_245 st_x_246 st_x_247 st_x_248 st_x_249 st_x_250 st_x_251 st_x_252
    obtain ⟨w39, hv⟩ : ∃ w_ : World, w_ = (w38.alloc (.cells #[x_245, x_246, x_247, x_248, x_249, x_250, x_251, x_252] 28)) := ⟨_, rfl⟩
    rw [← hv]
    have ow13_ : w36.heap.size < w38.heap.size := ((M.out.2.2.1)).lt
    replace M := Lib.hid (And.intro (hv ▸ bx1 w38 28 #[x_245, x_246, x_247, x_248, x_249, x_250, x_251, x_252]) (Goes.go M.out (hv ▸ below_alloc _ _ : Below w38.heap.size w38 w39)))
    clear hv
    have y12 := (M.out.2.2.2.1).d8; have p12_0 := y12.1; have p12_1 := y12.2.1; have p12_2 := y12.2.2.1; have p12_3 := y12.2.2.2.1; have p12_4 := y12.2.2.2.2.1; have p12_5 := y12.2.2.2.2.2.1; have p12_6 := y12.2.2.2.2.2.2.1; have p12_7 := y12.2.2.2.2.2.2.2; clear y12
    have y13 := (M.out.1).d8; have p13_0 := y13.1; have p13_1 := y13.2.1; have p13_2 := y13.2.2.1; have p13_3 := y13.2.2.2.1; have p13_4 := y13.2.2.2.2.1; have p13_5 := y13.2.2.2.2.2.1; have p13_6 := y13.2.2.2.2.2.2.1; have p13_7 := y13.2.2.2.2.2.2.2; clear y13
    go_wp2_with fail
    clear p12_0 p12_1 p12_2 p12_3 p12_4 p12_5 p12_6 p12_7 p13_0 p13_1 p13_2 p13_3 p13_4 p13_5 p13_6 p13_7
    replace M := Lib.hid (And.intro (M.out.2.1) (And.intro (M.out.2.2.1) (And.intro (M.out.2.2.2.2.1) (And.intro (M.out.2.2.2.2.2.1) (And.intro (M.out.2.2.2.2.2.2.1) (And.intro (M.out.2.2.2.2.2.2.2.1) (And.intro (M.out.2.2.2.2.2.2.2.2.1) (M.out.2.2.2.2.2.2.2.2.2.2.2))))))))
    obtain ⟨q263, eq263⟩ : ∃ v_ : Rat, v_ = (ml + nl) := ⟨_, rfl⟩
    obtain ⟨q264, eq264⟩ : ∃ v_ : Rat, v_ = (mh + nh) := ⟨_, rfl⟩
    refine (spAdd_q (G := G) (p := ml) (q := mh) (r := nl) (s := nh) (Nat.le_trans hG (M.out.2.2.2.2.2.2.2).size) (M.out.2.2.1) (M.out.2.2.2.1) (M.out.1) (M.out.2.1) (Fz.mono HMSl.out (by omega)) (Fz.mono HMSh.out (by omega)) (Fz.mono HNSl.out (by omega)) (Fz.mono HNSh.out (by omega)) HMO.out HNO.out).mono ?_
    rintro e w40 ⟨x_255, x_256, x_257, x_258, x_259, x_260, x_261, x_262, rfl, hd265, hd266, hb⟩
    rw [← eq263] at hd265
    have Sq263 : Hid (Fz q263 17) := by show Fz q263 17; rw [eq263]; exact (Fz.add HMSl.out HNSl.out)
    have Eq263 := Lib.hid eq263; clear eq263
    rw [← eq264] at hd266
    have Sq264 : Hid (Fz q264 17) := by show Fz q264 17; rw [eq264]; exact (Fz.add HMSh.out HNSh.out)
    have Eq264 := Lib.hid eq264; clear eq264
    replace M := Lib.hid (And.intro hd265 (And.intro hd266 (Goes.go M.out hb)))
    clear hb hd265 hd266
    have ys_x_255 := TQ.st (M.out.1); have st_x_255 := ys_x_255.1; have st_x_256 := ys_x_255.2.1; have st_x_257 := ys_x_255.2.2.1; have st_x_258 := ys_x_255.2.2.2; clear ys_x_255
    have ys_x_259 := TQ.st (M.out.2.1); have st_x_259 := ys_x_259.1; have st_x_260 := ys_x_259.2.1; have st_x_261 := ys_x_259.2.2.1; have st_x_262 := ys_x_259.2.2.2; clear ys_x_259
    go_upto_region 22 with fail
    clear st_x_255 st_x_256 st_x_257 st_x_258 st_x_259 st_x_260 st_x_261 st_x_262
    obtain ⟨w41, hv⟩ : ∃ w_ : World, w_ = (w40.alloc (.cells #[x_255, x_256, x_257, x_258, x_259, x_260, x_261, x_262] 28)) := ⟨_, rfl⟩
    rw [← hv]
    have ow14_ : w34.heap.size < w40.heap.size := ((M.out.2.2.2.2.2.2.1)).lt
    replace M := Lib.hid (And.intro (hv ▸ bx1 w40 28 #[x_255, x_256, x_257, x_258, x_259, x_260, x_261, x_262]) (Goes.go M.out (hv ▸ below_alloc _ _ : Below w40.heap.size w40 w41)))
    clear hv
    have y11 := (M.out.2.2.2.2.2.2.2.1).d8; have p11_0 := y11.1; have p11_1 := y11.2.1; have p11_2 := y11.2.2.1; have p11_3 := y11.2.2.2.1; have p11_4 := y11.2.2.2.2.1; have p11_5 := y11.2.2.2.2.2.1; have p11_6 := y11.2.2.2.2.2.2.1; have p11_7 := y11.2.2.2.2.2.2.2; clear y11
    have y14 := (M.out.1).d8; have p14_0 := y14.1; have p14_1 := y14.2.1; have p14_2 := y14.2.2.1; have p14_3 := y14.2.2.2.1; have p14_4 := y14.2.2.2.2.1; have p14_5 := y14.2.2.2.2.2.1; have p14_6 := y14.2.2.2.2.2.2.1; have p14_7 := y14.2.2.2.2.2.2.2; clear y14
    go_wp2_with fail
    clear p11_0 p11_1 p11_2 p11_3 p11_4 p11_5 p11_6 p11_7 p14_0 p14_1 p14_2 p14_3 p14_4 p14_5 p14_6 p14_7
    replace M := Lib.hid (And.intro (M.out.2.1) (And.intro (M.out.2.2.1) (And.intro (M.out.2.2.2.2.2.2.2.2.1) (And.intro (M.out.2.2.2.2.2.2.2.2.2.1) (M.out.2.2.2.2.2.2.2.2.2.2)))))
    refine (spInside_q (G := G) (p := wl) (q := wh) (r := q263) (s := q264) (b_ := true) (Nat.le_trans hG (M.out.2.2.2.2).size) (M.out.2.2.1) (M.out.2.2.2.1) (M.out.1) (M.out.2.1) (Fz.mono HWSl.out (by omega)) (Fz.mono HWSh.out (by omega)) (Fz.mono Sq263.out (by omega)) (Fz.mono Sq264.out (by omega)) HWO.out (by rw [Eq264.out, Eq263.out]; exact add_le2 HMO.out HNO.out) (by rw [Eq264.out, Eq263.out]; exact HDI.out)).mono ?_
    rintro e w42 ⟨rfl, hb⟩
    replace M := Lib.hid (Goes.go M.out hb)
    clear hb
    go_wp2_with fail
    go_ret
    exact ⟨rfl, (M.out.2.2.2.2)⟩
theorem laws_walk {u0 u1 u2 u3 u4 u5 u6 u7 v0 v1 v2 v3 v4 v5 v6 v7 y0 y1 y2 y3 y4 y5 y6 y7 : Value} {n1 m1 n2 m2 n3 m3 n4 m4 n5 m5 n6 m6 : Nat} {o1 o2 o3 o4 o5 o6 : Option Rat} {w : World} (h1 : FX w u0 u1 u2 u3 n1 m1 o1) (h2 : FX w u4 u5 u6 u7 n2 m2 o2) (h3 : FX w v0 v1 v2 v3 n3 m3 o3) (h4 : FX w v4 v5 v6 v7 n4 m4 o4) (h5 : FX w y0 y1 y2 y3 n5 m5 o5) (h6 : FX w y4 y5 y6 y7 n6 m6 o6) :
    Calls Try.prog 4 #[.agg #[u0, u1, u2, u3, u4, u5, u6, u7], .agg #[v0, v1, v2, v3, v4, v5, v6, v7], .agg #[y0, y1, y2, y3, y4, y5, y6, y7]] w fun e w' => e = .returned (.bool true) ∧ Below w.heap.size w w' := by
  cases hn : (few4 n1 m1 n2 m2 n3 m3 n4 m4 && (few2 n5 m5 n6 m6 && (rightX o1 o2 && (rightX o3 o4 && rightX o5 o6)))) with
  | false => exact laws_not (G := w.heap.size) (Nat.le_refl _) h1 h2 h3 h4 h5 h6 hn
  | true =>
    simp only [Bool.and_eq_true] at hn
    obtain ⟨hc0, hc1, hc2, hc3, hc4⟩ := hn
    obtain ⟨p1, p2, rfl, rfl, -⟩ := right_some hc2
    obtain ⟨r1, r2, rfl, rfl, -⟩ := right_some hc3
    obtain ⟨s1, s2, rfl, rfl, -⟩ := right_some hc4
    exact laws_all (G := w.heap.size) (Nat.le_refl _) h1 h1.fq (h1.z4 (few4_1 hc0)) h2 h2.fq (h2.z4 (few4_2 hc0)) h3 h3.fq (h3.z4 (few4_3 hc0)) h4 h4.fq (h4.z4 (few4_4 hc0)) h5 h5.fq (h5.z4 (few2_1 hc1)) h6 h6.fq (h6.z4 (few2_2 hc1)) hc0 hc1 hc2 hc3 hc4
end Go.Proofs.Ytjbfngjlepafgaa
