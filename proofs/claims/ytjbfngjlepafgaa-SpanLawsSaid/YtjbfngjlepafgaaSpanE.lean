/- What the laws of spans call: an operation by its number; whether a result is one of ends; raw spans. -/
import Derived.Test.YtjbfngjlepafgaaBase
import Derived.Test.YtjbfngjlepafgaaBigSpec
import Derived.Test.YtjbfngjlepafgaaBigB
import Derived.Test.YtjbfngjlepafgaaBigC
import Derived.Test.YtjbfngjlepafgaaBigD
import Derived.Test.YtjbfngjlepafgaaBigK
import Derived.Test.YtjbfngjlepafgaaBigL
import Derived.Test.YtjbfngjlepafgaaBigQ
import Derived.Test.YtjbfngjlepafgaaFracA
import Derived.Test.YtjbfngjlepafgaaFracC
import Derived.Test.YtjbfngjlepafgaaFz
import Derived.Test.YtjbfngjlepafgaaHeld
import Derived.Test.YtjbfngjlepafgaaAw
import Derived.Test.YtjbfngjlepafgaaFracD
import Derived.Test.YtjbfngjlepafgaaFracR
import Derived.Test.YtjbfngjlepafgaaRefJ
import Derived.Test.YtjbfngjlepafgaaFq
import Derived.Test.YtjbfngjlepafgaaSpanPlain
import Derived.Test.YtjbfngjlepafgaaSpanB
import Derived.Test.YtjbfngjlepafgaaSpanC
import Derived.Test.YtjbfngjlepafgaaProg
import Derived.WalkKit
import Derived.WalkSpells
import Derived.WalkLawsBesides
import Derived.Handy
import Derived.Lib.Hide
import Derived.Lib.Strings
import Derived.Lib.Builder
import Derived.BigQuiet
import Derived.OwnWalk
import Derived.Laws.BitsLemmas
import Derived.WalkSmall
import Derived.Deep.QuietTactic
import Derived.StillTailTactics
import Derived.Maps.AppendAt
import Derived.IntWalk
import Derived.Deep.RegionHeld3
import Derived.Deep.DeepFit
import Derived.Deep.LoopGhost
import Derived.Deep.DeepCutAuto
import Derived.Lib.ItoaNum
import Derived.Lib.Repeat
import Derived.Lib.AppendIntMem
import Derived.Sort.OwnSorted
import Derived.Shelf.Strings.SlTrimAscii
import Derived.Lib.ConvBytes
import Derived.Lib.CutLaws
namespace Go.Proofs.Ytjbfngjlepafgaa
open Go.RowKit Go.Lib
variable {G : Nat}

set_option maxRecDepth 100000 in
set_option maxHeartbeats 4000000 in
theorem spHas_q {u0 u1 u2 u3 u4 u5 u6 u7 v0 v1 v2 v3 : Value} {p q x : Rat} {b_ : Bool} {w : World} (_hG : G ≤ w.heap.size) (h1 : FQ G w u0 u1 u2 u3 p) (h2 : FQ G w u4 u5 u6 u7 q) (hp : Fz p 137438953472) (hq : Fz q 137438953472) (ha : p ≤ q) (h3 : FQ G w v0 v1 v2 v3 x) (hx : Fz x 137438953472) (hb : (decide (p ≤ x) && decide (x ≤ q)) = b_) :
    Calls Try.prog 23 #[.agg #[u0, u1, u2, u3, u4, u5, u6, u7], .agg #[v0, v1, v2, v3]] w fun e w' => e = .returned (.bool b_) ∧ Below w.heap.size w w' := by
  have HP := Lib.hid hp; have HQ := Lib.hid hq; have HA := Lib.hid (decide_eq_true ha); have HAA := Lib.hid ha; clear hp hq ha
  have HX := Lib.hid hx; clear hx
  obtain ⟨k1, hk1⟩ : ∃ k, ordQ p x = k := ⟨_, rfl⟩
  obtain ⟨b1, hb1⟩ : ∃ b, decide (p ≤ x) = b := ⟨_, rfl⟩
  have hd1 : decide (k1 ≤ 0) = b1 := by rw [← hb1, ← hk1]; exact ordQ_le0 p x
  have Hk1 := Lib.hid hk1; have HB1 := Lib.hid hb1; clear hk1 hb1
  obtain ⟨k2, hk2⟩ : ∃ k, ordQ x q = k := ⟨_, rfl⟩
  obtain ⟨b2, hb2⟩ : ∃ b, decide (x ≤ q) = b := ⟨_, rfl⟩
  have hd2 : decide (k2 ≤ 0) = b2 := by rw [← hb2, ← hk2]; exact ordQ_le0 x q
  have Hk2 := Lib.hid hk2; have HB2 := Lib.hid hb2; clear hk2 hb2
  rw [HB1.out, HB2.out] at hb; subst hb
  have H1 : Hid (FQ G w u0 u1 u2 u3 p) := h1
  have H2 : Hid (FQ G w u4 u5 u6 u7 q) := h2
  have H3 : Hid (FQ G w v0 v1 v2 v3 x) := h3
  clear h1 h2 h3
  have M : Hid (Below w.heap.size w w) := Below.refl _ _
  go_enter Try.func23, Try.ntmps23
  go_upto_region 1 with fail
  obtain ⟨w1, hv⟩ : ∃ w_ : World, w_ = ((w.alloc (.cells #[u0, u1, u2, u3, u4, u5, u6, u7] 28)).alloc (.cells #[v0, v1, v2, v3] 26)) := ⟨_, rfl⟩
  rw [← hv]
  have hbx := bx2 w 28 26 #[u0, u1, u2, u3, u4, u5, u6, u7] #[v0, v1, v2, v3]
  rw [← hv] at hbx
  have hbn : Below w.heap.size w w1 := by rw [hv]; exact (Below.alloc (Below.alloc (Below.refl _ _) (by simp <;> omega) _) (by simp <;> omega) _)
  replace M := Lib.hid (And.intro hbx.2 (And.intro hbx.1 (Goes.go M.out hbn)))
  clear hbx hbn
  clear hv
  have y0 := (M.out.2.1).d8; have p0_0 := y0.1; have p0_1 := y0.2.1; have p0_2 := y0.2.2.1; have p0_3 := y0.2.2.2.1; have p0_4 := y0.2.2.2.2.1; have p0_5 := y0.2.2.2.2.2.1; have p0_6 := y0.2.2.2.2.2.2.1; have p0_7 := y0.2.2.2.2.2.2.2; clear y0
  go_wp2_with fail
  clear p0_0 p0_1 p0_2 p0_3 p0_4 p0_5 p0_6 p0_7
  refine (spRight_q (G := G) (p := p) (q := q) (b_ := true) (H1.out.keep (M.out.2.2)) (H2.out.keep (M.out.2.2)) HP.out HQ.out HA.out).mono ?_
  rintro e w2 ⟨rfl, hb⟩
  replace M := Lib.hid (Goes.go M.out hb)
  clear hb
  have y1 := (M.out.1).d4; have p1_0 := y1.1; have p1_1 := y1.2.1; have p1_2 := y1.2.2.1; have p1_3 := y1.2.2.2; clear y1
  go_wp2_with fail
  clear p1_0 p1_1 p1_2 p1_3
  refine (fqRight (G := G) (q := x) (H3.out.keep (M.out.2.2)) (Fz.mono HX.out (by omega))).mono ?_
  rintro e w3 ⟨rfl, hb⟩
  replace M := Lib.hid (Goes.go M.out hb)
  clear hb
  have y0 := (M.out.2.1).d8; have p0_0 := y0.1; have p0_1 := y0.2.1; have p0_2 := y0.2.2.1; have p0_3 := y0.2.2.2.1; have p0_4 := y0.2.2.2.2.1; have p0_5 := y0.2.2.2.2.2.1; have p0_6 := y0.2.2.2.2.2.2.1; have p0_7 := y0.2.2.2.2.2.2.2; clear y0
  have y1 := (M.out.1).d4; have p1_0 := y1.1; have p1_1 := y1.2.1; have p1_2 := y1.2.2.1; have p1_3 := y1.2.2.2; clear y1
  go_wp2_with fail
  clear p0_0 p0_1 p0_2 p0_3 p0_4 p0_5 p0_6 p0_7 p1_0 p1_1 p1_2 p1_3
  refine (fqCompare (G := G) (q := p) (r := x) (k := k1) (H1.out.keep (M.out.2.2)) (H3.out.keep (M.out.2.2)) HP.out HX.out Hk1.out).mono ?_
  rintro e w4 ⟨rfl, hb⟩
  replace M := Lib.hid (Goes.go M.out hb)
  clear hb
  cases b1 with
  | false =>
    go_wp2_with fail
    go_ret
    exact ⟨rfl, (M.out.2.2)⟩
  | true =>
    have y1 := (M.out.1).d4; have p1_0 := y1.1; have p1_1 := y1.2.1; have p1_2 := y1.2.2.1; have p1_3 := y1.2.2.2; clear y1
    have y0 := (M.out.2.1).d8; have p0_0 := y0.1; have p0_1 := y0.2.1; have p0_2 := y0.2.2.1; have p0_3 := y0.2.2.2.1; have p0_4 := y0.2.2.2.2.1; have p0_5 := y0.2.2.2.2.2.1; have p0_6 := y0.2.2.2.2.2.2.1; have p0_7 := y0.2.2.2.2.2.2.2; clear y0
    go_wp2_with fail
    clear p1_0 p1_1 p1_2 p1_3 p0_0 p0_1 p0_2 p0_3 p0_4 p0_5 p0_6 p0_7
    refine (fqCompare (G := G) (q := x) (r := q) (k := k2) (H3.out.keep (M.out.2.2)) (H2.out.keep (M.out.2.2)) HX.out HQ.out Hk2.out).mono ?_
    rintro e w5 ⟨rfl, hb⟩
    replace M := Lib.hid (Goes.go M.out hb)
    clear hb
    go_wp2_with fail
    go_ret
    exact ⟨rfl, (M.out.2.2)⟩
set_option maxRecDepth 100000 in
set_option maxHeartbeats 4000000 in
theorem spInside_q {u0 u1 u2 u3 u4 u5 u6 u7 v0 v1 v2 v3 v4 v5 v6 v7 : Value} {p q r s : Rat} {b_ : Bool} {w : World} (_hG : G ≤ w.heap.size) (h1 : FQ G w u0 u1 u2 u3 p) (h2 : FQ G w u4 u5 u6 u7 q) (h3 : FQ G w v0 v1 v2 v3 r) (h4 : FQ G w v4 v5 v6 v7 s) (hp : Fz p 137438953472) (hq : Fz q 137438953472) (hr : Fz r 137438953472) (hs : Fz s 137438953472) (ha : p ≤ q) (hb : r ≤ s) (hi : (decide (r ≤ p) && decide (q ≤ s)) = b_) :
    Calls Try.prog 10 #[.agg #[u0, u1, u2, u3, u4, u5, u6, u7], .agg #[v0, v1, v2, v3, v4, v5, v6, v7]] w fun e w' => e = .returned (.bool b_) ∧ Below w.heap.size w w' := by
  have HP := Lib.hid hp; have HQ := Lib.hid hq; have HR := Lib.hid hr; have HS := Lib.hid hs; have HA := Lib.hid (decide_eq_true ha); have HB := Lib.hid (decide_eq_true hb); have HAA := Lib.hid ha; have HBB := Lib.hid hb; clear hp hq hr hs ha hb
  obtain ⟨k1, hk1⟩ : ∃ k, ordQ r p = k := ⟨_, rfl⟩
  obtain ⟨b1, hb1⟩ : ∃ b, decide (r ≤ p) = b := ⟨_, rfl⟩
  have hd1 : decide (k1 ≤ 0) = b1 := by rw [← hb1, ← hk1]; exact ordQ_le0 r p
  have Hk1 := Lib.hid hk1; have HB1 := Lib.hid hb1; clear hk1 hb1
  obtain ⟨k2, hk2⟩ : ∃ k, ordQ q s = k := ⟨_, rfl⟩
  obtain ⟨b2, hb2⟩ : ∃ b, decide (q ≤ s) = b := ⟨_, rfl⟩
  have hd2 : decide (k2 ≤ 0) = b2 := by rw [← hb2, ← hk2]; exact ordQ_le0 q s
  have Hk2 := Lib.hid hk2; have HB2 := Lib.hid hb2; clear hk2 hb2
  rw [HB1.out, HB2.out] at hi; subst hi
  have H1 : Hid (FQ G w u0 u1 u2 u3 p) := h1
  have H2 : Hid (FQ G w u4 u5 u6 u7 q) := h2
  have H3 : Hid (FQ G w v0 v1 v2 v3 r) := h3
  have H4 : Hid (FQ G w v4 v5 v6 v7 s) := h4
  clear h1 h2 h3 h4
  have M : Hid (Below w.heap.size w w) := Below.refl _ _
  go_enter Try.func10, Try.ntmps10
  go_upto_region 1 with fail
  obtain ⟨w1, hv⟩ : ∃ w_ : World, w_ = ((w.alloc (.cells #[u0, u1, u2, u3, u4, u5, u6, u7] 28)).alloc (.cells #[v0, v1, v2, v3, v4, v5, v6, v7] 28)) := ⟨_, rfl⟩
  rw [← hv]
  have hbx := bx2 w 28 28 #[u0, u1, u2, u3, u4, u5, u6, u7] #[v0, v1, v2, v3, v4, v5, v6, v7]
  rw [← hv] at hbx
  have hbn : Below w.heap.size w w1 := by rw [hv]; exact (Below.alloc (Below.alloc (Below.refl _ _) (by simp <;> omega) _) (by simp <;> omega) _)
  replace M := Lib.hid (And.intro hbx.2 (And.intro hbx.1 (Goes.go M.out hbn)))
  clear hbx hbn
  clear hv
  have y0 := (M.out.2.1).d8; have p0_0 := y0.1; have p0_1 := y0.2.1; have p0_2 := y0.2.2.1; have p0_3 := y0.2.2.2.1; have p0_4 := y0.2.2.2.2.1; have p0_5 := y0.2.2.2.2.2.1; have p0_6 := y0.2.2.2.2.2.2.1; have p0_7 := y0.2.2.2.2.2.2.2; clear y0
  go_wp2_with fail
  clear p0_0 p0_1 p0_2 p0_3 p0_4 p0_5 p0_6 p0_7
  refine (spRight_q (G := G) (p := p) (q := q) (b_ := true) (H1.out.keep (M.out.2.2)) (H2.out.keep (M.out.2.2)) HP.out HQ.out HA.out).mono ?_
  rintro e w2 ⟨rfl, hb⟩
  replace M := Lib.hid (Goes.go M.out hb)
  clear hb
  have y1 := (M.out.1).d8; have p1_0 := y1.1; have p1_1 := y1.2.1; have p1_2 := y1.2.2.1; have p1_3 := y1.2.2.2.1; have p1_4 := y1.2.2.2.2.1; have p1_5 := y1.2.2.2.2.2.1; have p1_6 := y1.2.2.2.2.2.2.1; have p1_7 := y1.2.2.2.2.2.2.2; clear y1
  go_wp2_with fail
  clear p1_0 p1_1 p1_2 p1_3 p1_4 p1_5 p1_6 p1_7
  refine (spRight_q (G := G) (p := r) (q := s) (b_ := true) (H3.out.keep (M.out.2.2)) (H4.out.keep (M.out.2.2)) HR.out HS.out HB.out).mono ?_
  rintro e w3 ⟨rfl, hb⟩
  replace M := Lib.hid (Goes.go M.out hb)
  clear hb
  have y1 := (M.out.1).d8; have p1_0 := y1.1; have p1_1 := y1.2.1; have p1_2 := y1.2.2.1; have p1_3 := y1.2.2.2.1; have p1_4 := y1.2.2.2.2.1; have p1_5 := y1.2.2.2.2.2.1; have p1_6 := y1.2.2.2.2.2.2.1; have p1_7 := y1.2.2.2.2.2.2.2; clear y1
  have y0 := (M.out.2.1).d8; have p0_0 := y0.1; have p0_1 := y0.2.1; have p0_2 := y0.2.2.1; have p0_3 := y0.2.2.2.1; have p0_4 := y0.2.2.2.2.1; have p0_5 := y0.2.2.2.2.2.1; have p0_6 := y0.2.2.2.2.2.2.1; have p0_7 := y0.2.2.2.2.2.2.2; clear y0
  go_wp2_with fail
  clear p1_0 p1_1 p1_2 p1_3 p1_4 p1_5 p1_6 p1_7 p0_0 p0_1 p0_2 p0_3 p0_4 p0_5 p0_6 p0_7
  refine (fqCompare (G := G) (q := r) (r := p) (k := k1) (H3.out.keep (M.out.2.2)) (H1.out.keep (M.out.2.2)) HR.out HP.out Hk1.out).mono ?_
  rintro e w4 ⟨rfl, hb⟩
  replace M := Lib.hid (Goes.go M.out hb)
  clear hb
  cases b1 with
  | false =>
    go_wp2_with fail
    go_ret
    exact ⟨rfl, (M.out.2.2)⟩
  | true =>
    have y0 := (M.out.2.1).d8; have p0_0 := y0.1; have p0_1 := y0.2.1; have p0_2 := y0.2.2.1; have p0_3 := y0.2.2.2.1; have p0_4 := y0.2.2.2.2.1; have p0_5 := y0.2.2.2.2.2.1; have p0_6 := y0.2.2.2.2.2.2.1; have p0_7 := y0.2.2.2.2.2.2.2; clear y0
    have y1 := (M.out.1).d8; have p1_0 := y1.1; have p1_1 := y1.2.1; have p1_2 := y1.2.2.1; have p1_3 := y1.2.2.2.1; have p1_4 := y1.2.2.2.2.1; have p1_5 := y1.2.2.2.2.2.1; have p1_6 := y1.2.2.2.2.2.2.1; have p1_7 := y1.2.2.2.2.2.2.2; clear y1
    go_wp2_with fail
    clear p0_0 p0_1 p0_2 p0_3 p0_4 p0_5 p0_6 p0_7 p1_0 p1_1 p1_2 p1_3 p1_4 p1_5 p1_6 p1_7
    refine (fqCompare (G := G) (q := q) (r := s) (k := k2) (H2.out.keep (M.out.2.2)) (H4.out.keep (M.out.2.2)) HQ.out HS.out Hk2.out).mono ?_
    rintro e w5 ⟨rfl, hb⟩
    replace M := Lib.hid (Goes.go M.out hb)
    clear hb
    go_wp2_with fail
    go_ret
    exact ⟨rfl, (M.out.2.2)⟩
set_option maxRecDepth 100000 in
set_option maxHeartbeats 4000000 in
theorem spPoint_q {u0 u1 u2 u3 : Value} {q : Rat} {w : World} (hG : G ≤ w.heap.size) (h1 : FQ G w u0 u1 u2 u3 q) (hx : Fz q 137438953472) :
    Calls Try.prog 36 #[.agg #[u0, u1, u2, u3]] w fun e w' => ∃ x0 x1 x2 x3 x4 x5 x6 x7, e = .returned (.agg #[x0, x1, x2, x3, x4, x5, x6, x7]) ∧ FQ G w' x0 x1 x2 x3 q ∧ FQ G w' x4 x5 x6 x7 q ∧ Below w.heap.size w w' := by
  have HX := Lib.hid hx; clear hx
  have H1 : Hid (FQ G w u0 u1 u2 u3 q) := h1
  clear h1
  have M : Hid (Below w.heap.size w w) := Below.refl _ _
  go_enter Try.func36, Try.ntmps36
  go_upto_region 1 with fail
  obtain ⟨w1, hv⟩ : ∃ w_ : World, w_ = ((w.alloc (.cells #[u0, u1, u2, u3] 26)).alloc (.cells #[.int .i64 0, .slice none 0 0, .int .i64 0, .slice none 0 0, .int .i64 0, .slice none 0 0, .int .i64 0, .slice none 0 0] 28)) := ⟨_, rfl⟩
  rw [← hv]
  have hbx := bx2 w 26 28 #[u0, u1, u2, u3] #[.int .i64 0, .slice none 0 0, .int .i64 0, .slice none 0 0, .int .i64 0, .slice none 0 0, .int .i64 0, .slice none 0 0]
  rw [← hv] at hbx
  have hbn : Below w.heap.size w w1 := by rw [hv]; exact (Below.alloc (Below.alloc (Below.refl _ _) (by simp <;> omega) _) (by simp <;> omega) _)
  replace M := Lib.hid (And.intro hbx.2 (And.intro hbx.1 (Goes.go M.out hbn)))
  clear hbx hbn
  clear hv
  have y0 := (M.out.2.1).d4; have p0_0 := y0.1; have p0_1 := y0.2.1; have p0_2 := y0.2.2.1; have p0_3 := y0.2.2.2; clear y0
  go_wp2_with fail
  clear p0_0 p0_1 p0_2 p0_3
  refine (fqRight (G := G) (q := q) (H1.out.keep (M.out.2.2)) (Fz.mono HX.out (by omega))).mono ?_
  rintro e w2 ⟨rfl, hb⟩
  replace M := Lib.hid (Goes.go M.out hb)
  clear hb
  go_wp2_with fail
  obtain ⟨w3, hv⟩ : ∃ w_ : World, w_ = w2.drew := ⟨_, rfl⟩
  replace M := Lib.hid (Goes.go M.out (hv ▸ below_drew _ : Below w2.heap.size w2 w3))
  refine wp_region_held_drew (S := (fun w' => w'.cell? ⟨w.heap.size, 0, none⟩ = some (u0) ∧ w'.cell? ⟨w.heap.size, 1, none⟩ = some (u1) ∧ w'.cell? ⟨w.heap.size, 2, none⟩ = some (u2) ∧ w'.cell? ⟨w.heap.size, 3, none⟩ = some (u3))) (by kernel_rfl) (by rw [← hv]; exact ⟨(M.out.2.1).at.1 0, (M.out.2.1).at.1 1, (M.out.2.1).at.1 2, (M.out.2.1).at.1 3⟩) (fun hH11 => ?_)
  rw [← hv] at hH11 ⊢
  clear hv
  refine tk at0 ?_
  refine tk at2 ?_
  refine wpAnyH_ready (rs := [1]) (by kernel_rfl) (by simp) ?_
  refine AllReadyH.cons at1 (fun K hK => ?_) AllReadyH.nil
  go_simp
  refine (fresh_ok (G := G) (q := q) (Nat.le_trans hG (M.out.2.2).size) (H1.out.keep (M.out.2.2)) HX.out).mono ?_
  rintro e w4 ⟨x_12, x_13, x_14, x_15, rfl, hd16, hb⟩
  replace M := Lib.hid (And.intro hd16 (Goes.go M.out hb))
  clear hb hd16
  (try go_wp2_with fail)
  refine hK.out _ _ (⟨(M.out.2.2.1).at.1 0, (M.out.2.2.1).at.1 1, (M.out.2.2.1).at.1 2, (M.out.2.2.1).at.1 3⟩) (fun hH17 => ?_)
  clear hK K hH11
  (try simp only [Act.put, List.setIfInBounds_toArray, List.set_cons_zero, List.set_cons_succ])
  refine wpAnyH_ready (rs := [3]) (by kernel_rfl) (by simp) ?_
  refine AllReadyH.cons at3 (fun K hK => ?_) AllReadyH.nil
  go_simp
  refine (fresh_ok (G := G) (q := q) (Nat.le_trans hG (M.out.2.2.2).size) (H1.out.keep (M.out.2.2.2)) HX.out).mono ?_
  rintro e w5 ⟨x_18, x_19, x_20, x_21, rfl, hd22, hb⟩
  replace M := Lib.hid (And.intro hd22 (Goes.go M.out hb))
  clear hb hd22
  (try go_wp2_with fail)
  refine hK.out _ _ (⟨(M.out.2.2.2.1).at.1 0, (M.out.2.2.2.1).at.1 1, (M.out.2.2.2.1).at.1 2, (M.out.2.2.2.1).at.1 3⟩) (fun hH23 => ?_)
  clear hK K hH17
  (try simp only [Act.put, List.setIfInBounds_toArray, List.set_cons_zero, List.set_cons_succ])
  refine tk at4 ?_
  refine wpAnyH_ready (rs := [5]) (by kernel_rfl) (by simp) ?_
  refine AllReadyH.cons at5 (fun K hK => ?_) AllReadyH.nil
  have y1 := (M.out.2.2.1).c8; have p1_0 := y1.1; have q1_0 := y1.2.1; have p1_1 := y1.2.2.1; have q1_1 := y1.2.2.2.1; have p1_2 := y1.2.2.2.2.1; have q1_2 := y1.2.2.2.2.2.1; have p1_3 := y1.2.2.2.2.2.2.1; have q1_3 := y1.2.2.2.2.2.2.2.1; have p1_4 := y1.2.2.2.2.2.2.2.2.1; have q1_4 := y1.2.2.2.2.2.2.2.2.2.1; have p1_5 := y1.2.2.2.2.2.2.2.2.2.2.1; have q1_5 := y1.2.2.2.2.2.2.2.2.2.2.2.1; have p1_6 := y1.2.2.2.2.2.2.2.2.2.2.2.2.1; have q1_6 := y1.2.2.2.2.2.2.2.2.2.2.2.2.2.1; have p1_7 := y1.2.2.2.2.2.2.2.2.2.2.2.2.2.2.1; have q1_7 := y1.2.2.2.2.2.2.2.2.2.2.2.2.2.2.2; clear y1
  have ys_x_12 := TQ.st (M.out.2.1); have st_x_12 := ys_x_12.1; have st_x_13 := ys_x_12.2.1; have st_x_14 := ys_x_12.2.2.1; have st_x_15 := ys_x_12.2.2.2; clear ys_x_12
  have ys_x_18 := TQ.st (M.out.1); have st_x_18 := ys_x_18.1; have st_x_19 := ys_x_18.2.1; have st_x_20 := ys_x_18.2.2.1; have st_x_21 := ys_x_18.2.2.2; clear ys_x_18
  go_simp
  clear p1_0 q1_0 p1_1 q1_1 p1_2 q1_2 p1_3 q1_3 p1_4 q1_4 p1_5 q1_5 p1_6 q1_6 p1_7 q1_7 st_x_12 st_x_13 st_x_14 st_x_15 st_x_18 st_x_19 st_x_20 st_x_21
  obtain ⟨w6, hv⟩ : ∃ w_ : World, w_ = ((((((((w5.setCell ⟨w.heap.size + 1, 0, none⟩ (x_12)).setCell ⟨w.heap.size + 1, 1, none⟩ (x_13)).setCell ⟨w.heap.size + 1, 2, none⟩ (x_14)).setCell ⟨w.heap.size + 1, 3, none⟩ (x_15)).setCell ⟨w.heap.size + 1, 4, none⟩ (x_18)).setCell ⟨w.heap.size + 1, 5, none⟩ (x_19)).setCell ⟨w.heap.size + 1, 6, none⟩ (x_20)).setCell ⟨w.heap.size + 1, 7, none⟩ (x_21)) := ⟨_, rfl⟩
  rw [← hv]
  have og : w5.grownBy w6 (some (w.heap.size + 1)) := by rw [hv]; exact (only_setCell (only_setCell (only_setCell (only_setCell (only_setCell (only_setCell (only_setCell (only_setCell (World.grownBy.refl _ _) _) _) _) _) _) _) _) _)
  have hz : w.heap.size ≤ w.heap.size + 1 := by omega
  have hk : Bx w6 (w.heap.size + 1) 28 #[x_12, x_13, x_14, x_15, x_18, x_19, x_20, x_21] := by rw [hv]; exact (((((((((M.out.2.2.1).set 0 _).set 1 _).set 2 _).set 3 _).set 4 _).set 5 _).set 6 _).set 7 _)
  have hbw : Below w.heap.size w w6 := by rw [hv]; exact (Below.setCell (Below.setCell (Below.setCell (Below.setCell (Below.setCell (Below.setCell (Below.setCell (Below.setCell (M.out.2.2.2.2) (by omega) _) (by omega) _) (by omega) _) (by omega) _) (by omega) _) (by omega) _) (by omega) _) (by omega) _)
  replace M := Lib.hid (And.intro ((M.out.1).far (M.out.2.2.1) (by rfl) (by omega) og) (And.intro ((M.out.2.1).far (M.out.2.2.1) (by rfl) (by omega) og) (And.intro hk (And.intro ((M.out.2.2.2.1).only og (by omega)) hbw))))
  clear hk hbw og hv hz
  refine hK.out _ _ (⟨(M.out.2.2.2.1).at.1 0, (M.out.2.2.2.1).at.1 1, (M.out.2.2.2.1).at.1 2, (M.out.2.2.2.1).at.1 3⟩) (fun hH24 => ?_)
  clear hK K hH23
  (try simp only [Act.put, List.setIfInBounds_toArray, List.set_cons_zero, List.set_cons_succ])
  refine wpAnyH_done (by kernel_rfl) ?_ _
  clear hH24
  go_wp2_with fail
  refine bodyPost_ret (results_box1 rfl _ _ (w.heap.size + 1) 28 _ _ _ rfl (M.out.2.2.1) Try.underlying28 rfl (by kernel_rfl)) rfl ?_
  exact ⟨x_12, x_13, x_14, x_15, x_18, x_19, x_20, x_21, rfl, (M.out.2.1), (M.out.1), (M.out.2.2.2.2)⟩
set_option maxRecDepth 100000 in
set_option maxHeartbeats 4000000 in
theorem spDiv_none {u0 u1 u2 u3 u4 u5 u6 u7 v0 v1 v2 v3 v4 v5 v6 v7 : Value} {p q r s : Rat} {w : World} (hG : G ≤ w.heap.size) (h1 : FQ G w u0 u1 u2 u3 p) (h2 : FQ G w u4 u5 u6 u7 q) (h3 : FQ G w v0 v1 v2 v3 r) (h4 : FQ G w v4 v5 v6 v7 s) (hp : Fz p 17179869184) (hq : Fz q 17179869184) (hr : Fz r 17179869184) (hs : Fz s 17179869184) (ha : p ≤ q) (hb : r ≤ s) (h0 : r ≤ 0 ∧ 0 ≤ s)  :
    Calls Try.prog 27 #[.agg #[u0, u1, u2, u3, u4, u5, u6, u7], .agg #[v0, v1, v2, v3, v4, v5, v6, v7]] w fun e w' => e = .returned (.tuple #[.agg #[.int .i64 0, .slice none 0 0, .int .i64 0, .slice none 0 0, .int .i64 0, .slice none 0 0, .int .i64 0, .slice none 0 0], .int .i64 15]) ∧ Below w.heap.size w w' := by
  have HZ : Hid ((decide (r ≤ ((0 : Int) : Rat)) && decide (((0 : Int) : Rat) ≤ s)) = true) := by show _ = _; rw [← Bool.decide_and]; exact decide_eq_true h0
  clear h0
  have HP := Lib.hid hp; have HQ := Lib.hid hq; have HR := Lib.hid hr; have HS := Lib.hid hs; have HA := Lib.hid (decide_eq_true ha); have HB := Lib.hid (decide_eq_true hb); have HAA := Lib.hid ha; have HBB := Lib.hid hb; clear hp hq hr hs ha hb
  have H1 : Hid (FQ G w u0 u1 u2 u3 p) := h1
  have H2 : Hid (FQ G w u4 u5 u6 u7 q) := h2
  have H3 : Hid (FQ G w v0 v1 v2 v3 r) := h3
  have H4 : Hid (FQ G w v4 v5 v6 v7 s) := h4
  clear h1 h2 h3 h4
  have M : Hid (Below w.heap.size w w) := Below.refl _ _
  go_enter Try.func27, Try.ntmps27
  go_upto_region 1 with fail
  obtain ⟨w1, hv⟩ : ∃ w_ : World, w_ = (((w.alloc (.cells #[u0, u1, u2, u3, u4, u5, u6, u7] 28)).alloc (.cells #[v0, v1, v2, v3, v4, v5, v6, v7] 28)).alloc (.cells #[.int .i64 0, .slice none 0 0, .int .i64 0, .slice none 0 0, .int .i64 0, .slice none 0 0, .int .i64 0, .slice none 0 0] 28)) := ⟨_, rfl⟩
  rw [← hv]
  have hbx := bx3 w 28 28 28 #[u0, u1, u2, u3, u4, u5, u6, u7] #[v0, v1, v2, v3, v4, v5, v6, v7] #[.int .i64 0, .slice none 0 0, .int .i64 0, .slice none 0 0, .int .i64 0, .slice none 0 0, .int .i64 0, .slice none 0 0]
  rw [← hv] at hbx
  have hbn : Below w.heap.size w w1 := by rw [hv]; exact (Below.alloc (Below.alloc (Below.alloc (Below.refl _ _) (by simp <;> omega) _) (by simp <;> omega) _) (by simp <;> omega) _)
  replace M := Lib.hid (And.intro hbx.2.2 (And.intro hbx.2.1 (And.intro hbx.1 (Goes.go M.out hbn))))
  clear hbx hbn
  clear hv
  have y0 := (M.out.2.2.1).d8; have p0_0 := y0.1; have p0_1 := y0.2.1; have p0_2 := y0.2.2.1; have p0_3 := y0.2.2.2.1; have p0_4 := y0.2.2.2.2.1; have p0_5 := y0.2.2.2.2.2.1; have p0_6 := y0.2.2.2.2.2.2.1; have p0_7 := y0.2.2.2.2.2.2.2; clear y0
  go_wp2_with fail
  clear p0_0 p0_1 p0_2 p0_3 p0_4 p0_5 p0_6 p0_7
  refine (spRight_q (G := G) (p := p) (q := q) (b_ := true) (H1.out.keep (M.out.2.2.2)) (H2.out.keep (M.out.2.2.2)) (Fz.mono HP.out (by omega)) (Fz.mono HQ.out (by omega)) HA.out).mono ?_
  rintro e w2 ⟨rfl, hb⟩
  replace M := Lib.hid (Goes.go M.out hb)
  clear hb
  have y1 := (M.out.2.1).d8; have p1_0 := y1.1; have p1_1 := y1.2.1; have p1_2 := y1.2.2.1; have p1_3 := y1.2.2.2.1; have p1_4 := y1.2.2.2.2.1; have p1_5 := y1.2.2.2.2.2.1; have p1_6 := y1.2.2.2.2.2.2.1; have p1_7 := y1.2.2.2.2.2.2.2; clear y1
  go_wp2_with fail
  clear p1_0 p1_1 p1_2 p1_3 p1_4 p1_5 p1_6 p1_7
  refine (spRight_q (G := G) (p := r) (q := s) (b_ := true) (H3.out.keep (M.out.2.2.2)) (H4.out.keep (M.out.2.2.2)) (Fz.mono HR.out (by omega)) (Fz.mono HS.out (by omega)) HB.out).mono ?_
  rintro e w3 ⟨rfl, hb⟩
  replace M := Lib.hid (Goes.go M.out hb)
  clear hb
  go_wp2_with fail
  obtain ⟨w4, hv⟩ : ∃ w_ : World, w_ = w3.drew := ⟨_, rfl⟩
  replace M := Lib.hid (Goes.go M.out (hv ▸ below_drew _ : Below w3.heap.size w3 w4))
  refine wp_region_held_drew (S := (fun w' => w'.cell? ⟨w.heap.size + 1, 0, none⟩ = some (v0) ∧ w'.cell? ⟨w.heap.size + 1, 1, none⟩ = some (v1) ∧ w'.cell? ⟨w.heap.size + 1, 2, none⟩ = some (v2) ∧ w'.cell? ⟨w.heap.size + 1, 3, none⟩ = some (v3) ∧ w'.cell? ⟨w.heap.size + 1, 4, none⟩ = some (v4) ∧ w'.cell? ⟨w.heap.size + 1, 5, none⟩ = some (v5) ∧ w'.cell? ⟨w.heap.size + 1, 6, none⟩ = some (v6) ∧ w'.cell? ⟨w.heap.size + 1, 7, none⟩ = some (v7))) (by kernel_rfl) (by rw [← hv]; exact ⟨(M.out.2.1).at.1 0, (M.out.2.1).at.1 1, (M.out.2.1).at.1 2, (M.out.2.1).at.1 3, (M.out.2.1).at.1 4, (M.out.2.1).at.1 5, (M.out.2.1).at.1 6, (M.out.2.1).at.1 7⟩) (fun hH7 => ?_)
  rw [← hv] at hH7 ⊢
  clear hv
  refine tk at0 ?_
  refine wpAnyH_ready (rs := [1]) (by kernel_rfl) (by simp) ?_
  refine AllReadyH.cons at1 (fun K hK => ?_) AllReadyH.nil
  go_simp
  obtain ⟨q12, eq12⟩ : ∃ v_ : Rat, v_ = ((0 : Int) : Rat) := ⟨_, rfl⟩
  refine (fqInt (G := G) (x := 0) (by decide)).mono ?_
  rintro e w5 ⟨x_8, x_9, x_10, x_11, rfl, hd13, hb⟩
  rw [← eq12] at hd13
  have Sq12 : Hid (Fz q12 4) := by show Fz q12 4; rw [eq12]; exact (Fz.int64 (by decide))
  have Eq12 := Lib.hid eq12; clear eq12
  replace M := Lib.hid (And.intro hd13 (Goes.go M.out hb))
  clear hb hd13
  (try go_wp2_with fail)
  refine hK.out _ _ (⟨(M.out.2.2.1).at.1 0, (M.out.2.2.1).at.1 1, (M.out.2.2.1).at.1 2, (M.out.2.2.1).at.1 3, (M.out.2.2.1).at.1 4, (M.out.2.2.1).at.1 5, (M.out.2.2.1).at.1 6, (M.out.2.2.1).at.1 7⟩) (fun hH14 => ?_)
  clear hK K hH7
  (try simp only [Act.put, List.setIfInBounds_toArray, List.set_cons_zero, List.set_cons_succ])
  refine wpAnyH_ready (rs := [2]) (by kernel_rfl) (by simp) ?_
  refine AllReadyH.cons at2 (fun K hK => ?_) AllReadyH.nil
  go_simp
  refine (spHas_q (G := G) (p := r) (q := s) (x := q12) (b_ := true) (Nat.le_trans hG (M.out.2.2.2.2).size) (H3.out.keep (M.out.2.2.2.2)) (H4.out.keep (M.out.2.2.2.2)) (Fz.mono HR.out (by omega)) (Fz.mono HS.out (by omega)) HBB.out (M.out.1) (Fz.mono Sq12.out (by omega)) (by rw [Eq12.out]; exact HZ.out)).mono ?_
  rintro e w6 ⟨rfl, hb⟩
  replace M := Lib.hid (Goes.go M.out hb)
  clear hb
  (try go_wp2_with fail)
  refine hK.out _ _ (⟨(M.out.2.2.1).at.1 0, (M.out.2.2.1).at.1 1, (M.out.2.2.1).at.1 2, (M.out.2.2.1).at.1 3, (M.out.2.2.1).at.1 4, (M.out.2.2.1).at.1 5, (M.out.2.2.1).at.1 6, (M.out.2.2.1).at.1 7⟩) (fun hH15 => ?_)
  clear hK K hH14
  (try simp only [Act.put, List.setIfInBounds_toArray, List.set_cons_zero, List.set_cons_succ])
  refine tk at3 ?_
  refine wpAnyH_done (by kernel_rfl) ?_ _
  clear hH15
  have y2 := (M.out.2.1).c8; have p2_0 := y2.1; have q2_0 := y2.2.1; have p2_1 := y2.2.2.1; have q2_1 := y2.2.2.2.1; have p2_2 := y2.2.2.2.2.1; have q2_2 := y2.2.2.2.2.2.1; have p2_3 := y2.2.2.2.2.2.2.1; have q2_3 := y2.2.2.2.2.2.2.2.1; have p2_4 := y2.2.2.2.2.2.2.2.2.1; have q2_4 := y2.2.2.2.2.2.2.2.2.2.1; have p2_5 := y2.2.2.2.2.2.2.2.2.2.2.1; have q2_5 := y2.2.2.2.2.2.2.2.2.2.2.2.1; have p2_6 := y2.2.2.2.2.2.2.2.2.2.2.2.2.1; have q2_6 := y2.2.2.2.2.2.2.2.2.2.2.2.2.2.1; have p2_7 := y2.2.2.2.2.2.2.2.2.2.2.2.2.2.2.1; have q2_7 := y2.2.2.2.2.2.2.2.2.2.2.2.2.2.2.2; clear y2
  go_wp2_with fail
  clear p2_0 q2_0 p2_1 q2_1 p2_2 q2_2 p2_3 q2_3 p2_4 q2_4 p2_5 q2_5 p2_6 q2_6 p2_7 q2_7
  obtain ⟨w7, hv⟩ : ∃ w_ : World, w_ = ((((((((w6.setCell ⟨w.heap.size + 1 + 1, 0, none⟩ (.int .i64 0)).setCell ⟨w.heap.size + 1 + 1, 1, none⟩ (.slice none 0 0)).setCell ⟨w.heap.size + 1 + 1, 2, none⟩ (.int .i64 0)).setCell ⟨w.heap.size + 1 + 1, 3, none⟩ (.slice none 0 0)).setCell ⟨w.heap.size + 1 + 1, 4, none⟩ (.int .i64 0)).setCell ⟨w.heap.size + 1 + 1, 5, none⟩ (.slice none 0 0)).setCell ⟨w.heap.size + 1 + 1, 6, none⟩ (.int .i64 0)).setCell ⟨w.heap.size + 1 + 1, 7, none⟩ (.slice none 0 0)) := ⟨_, rfl⟩
  rw [← hv]
  have og : w6.grownBy w7 (some (w.heap.size + 1 + 1)) := by rw [hv]; exact (only_setCell (only_setCell (only_setCell (only_setCell (only_setCell (only_setCell (only_setCell (only_setCell (World.grownBy.refl _ _) _) _) _) _) _) _) _) _)
  have hz : w.heap.size ≤ w.heap.size + 1 + 1 := by omega
  have hk : Bx w7 (w.heap.size + 1 + 1) 28 #[.int .i64 0, .slice none 0 0, .int .i64 0, .slice none 0 0, .int .i64 0, .slice none 0 0, .int .i64 0, .slice none 0 0] := by rw [hv]; exact (((((((((M.out.2.1).set 0 _).set 1 _).set 2 _).set 3 _).set 4 _).set 5 _).set 6 _).set 7 _)
  have hbw : Below w.heap.size w w7 := by rw [hv]; exact (Below.setCell (Below.setCell (Below.setCell (Below.setCell (Below.setCell (Below.setCell (Below.setCell (Below.setCell (M.out.2.2.2.2) (by omega) _) (by omega) _) (by omega) _) (by omega) _) (by omega) _) (by omega) _) (by omega) _) (by omega) _)
  replace M := Lib.hid (And.intro ((M.out.1).far (M.out.2.1) (by rfl) (by omega) og) (And.intro hk (And.intro ((M.out.2.2.1).only og (by omega)) (And.intro ((M.out.2.2.2.1).only og (by omega)) hbw))))
  clear hk hbw og hv hz
  refine bodyPost_ret (results_box2 rfl _ _ (w.heap.size + 1 + 1) 28 _ _ _ rfl (M.out.2.1) Try.underlying28 rfl (by kernel_rfl)) rfl ?_
  exact ⟨rfl, (M.out.2.2.2.2)⟩
set_option maxRecDepth 100000 in
set_option maxHeartbeats 4000000 in
theorem spDiv_q {u0 u1 u2 u3 u4 u5 u6 u7 v0 v1 v2 v3 v4 v5 v6 v7 : Value} {p q r s : Rat} {lo hi : Rat} {w : World} (hG : G ≤ w.heap.size) (h1 : FQ G w u0 u1 u2 u3 p) (h2 : FQ G w u4 u5 u6 u7 q) (h3 : FQ G w v0 v1 v2 v3 r) (h4 : FQ G w v4 v5 v6 v7 s) (hp : Fz p 17179869184) (hq : Fz q 17179869184) (hr : Fz r 17179869184) (hs : Fz s 17179869184) (ha : p ≤ q) (hb : r ≤ s) (h0 : ¬ (r ≤ 0 ∧ 0 ≤ s)) (hlo : min4 (p * (1 / s)) (p * (1 / r)) (q * (1 / s)) (q * (1 / r)) = lo) (hhi : max4 (p * (1 / s)) (p * (1 / r)) (q * (1 / s)) (q * (1 / r)) = hi)  :
    Calls Try.prog 27 #[.agg #[u0, u1, u2, u3, u4, u5, u6, u7], .agg #[v0, v1, v2, v3, v4, v5, v6, v7]] w fun e w' => ∃ x0 x1 x2 x3 x4 x5 x6 x7, e = .returned (.tuple #[.agg #[x0, x1, x2, x3, x4, x5, x6, x7], .int .i64 0]) ∧ FQ G w' x0 x1 x2 x3 lo ∧ FQ G w' x4 x5 x6 x7 hi ∧ Below w.heap.size w w' := by
  have HZ : Hid ((decide (r ≤ ((0 : Int) : Rat)) && decide (((0 : Int) : Rat) ≤ s)) = false) := by show _ = _; rw [← Bool.decide_and]; exact decide_eq_false h0
  have hnr : r ≠ 0 := has_ne (b := ⟨r, s⟩) h0 (has_lo hb)
  have hns : s ≠ 0 := has_ne (b := ⟨r, s⟩) h0 (has_hi hb)
  have HNr := Lib.hid hnr; have HNs := Lib.hid hns; clear hnr hns
  have HIV : Hid (((1 : Int) : Rat) / s ≤ ((1 : Int) : Rat) / r) := invS_ok (b := ⟨r, s⟩) hb h0
  clear h0
  have HP := Lib.hid hp; have HQ := Lib.hid hq; have HR := Lib.hid hr; have HS := Lib.hid hs; have HA := Lib.hid (decide_eq_true ha); have HB := Lib.hid (decide_eq_true hb); have HAA := Lib.hid ha; have HBB := Lib.hid hb; clear hp hq hr hs ha hb
  have HLO := Lib.hid hlo; have HHI := Lib.hid hhi; clear hlo hhi
  have H1 : Hid (FQ G w u0 u1 u2 u3 p) := h1
  have H2 : Hid (FQ G w u4 u5 u6 u7 q) := h2
  have H3 : Hid (FQ G w v0 v1 v2 v3 r) := h3
  have H4 : Hid (FQ G w v4 v5 v6 v7 s) := h4
  clear h1 h2 h3 h4
  have M : Hid (Below w.heap.size w w) := Below.refl _ _
  go_enter Try.func27, Try.ntmps27
  go_upto_region 1 with fail
  obtain ⟨w1, hv⟩ : ∃ w_ : World, w_ = (((w.alloc (.cells #[u0, u1, u2, u3, u4, u5, u6, u7] 28)).alloc (.cells #[v0, v1, v2, v3, v4, v5, v6, v7] 28)).alloc (.cells #[.int .i64 0, .slice none 0 0, .int .i64 0, .slice none 0 0, .int .i64 0, .slice none 0 0, .int .i64 0, .slice none 0 0] 28)) := ⟨_, rfl⟩
  rw [← hv]
  have hbx := bx3 w 28 28 28 #[u0, u1, u2, u3, u4, u5, u6, u7] #[v0, v1, v2, v3, v4, v5, v6, v7] #[.int .i64 0, .slice none 0 0, .int .i64 0, .slice none 0 0, .int .i64 0, .slice none 0 0, .int .i64 0, .slice none 0 0]
  rw [← hv] at hbx
  have hbn : Below w.heap.size w w1 := by rw [hv]; exact (Below.alloc (Below.alloc (Below.alloc (Below.refl _ _) (by simp <;> omega) _) (by simp <;> omega) _) (by simp <;> omega) _)
  replace M := Lib.hid (And.intro hbx.2.2 (And.intro hbx.2.1 (And.intro hbx.1 (Goes.go M.out hbn))))
  clear hbx hbn
  clear hv
  have y0 := (M.out.2.2.1).d8; have p0_0 := y0.1; have p0_1 := y0.2.1; have p0_2 := y0.2.2.1; have p0_3 := y0.2.2.2.1; have p0_4 := y0.2.2.2.2.1; have p0_5 := y0.2.2.2.2.2.1; have p0_6 := y0.2.2.2.2.2.2.1; have p0_7 := y0.2.2.2.2.2.2.2; clear y0
  go_wp2_with fail
  clear p0_0 p0_1 p0_2 p0_3 p0_4 p0_5 p0_6 p0_7
  refine (spRight_q (G := G) (p := p) (q := q) (b_ := true) (H1.out.keep (M.out.2.2.2)) (H2.out.keep (M.out.2.2.2)) (Fz.mono HP.out (by omega)) (Fz.mono HQ.out (by omega)) HA.out).mono ?_
  rintro e w2 ⟨rfl, hb⟩
  replace M := Lib.hid (Goes.go M.out hb)
  clear hb
  have y1 := (M.out.2.1).d8; have p1_0 := y1.1; have p1_1 := y1.2.1; have p1_2 := y1.2.2.1; have p1_3 := y1.2.2.2.1; have p1_4 := y1.2.2.2.2.1; have p1_5 := y1.2.2.2.2.2.1; have p1_6 := y1.2.2.2.2.2.2.1; have p1_7 := y1.2.2.2.2.2.2.2; clear y1
  go_wp2_with fail
  clear p1_0 p1_1 p1_2 p1_3 p1_4 p1_5 p1_6 p1_7
  refine (spRight_q (G := G) (p := r) (q := s) (b_ := true) (H3.out.keep (M.out.2.2.2)) (H4.out.keep (M.out.2.2.2)) (Fz.mono HR.out (by omega)) (Fz.mono HS.out (by omega)) HB.out).mono ?_
  rintro e w3 ⟨rfl, hb⟩
  replace M := Lib.hid (Goes.go M.out hb)
  clear hb
  go_wp2_with fail
  obtain ⟨w4, hv⟩ : ∃ w_ : World, w_ = w3.drew := ⟨_, rfl⟩
  replace M := Lib.hid (Goes.go M.out (hv ▸ below_drew _ : Below w3.heap.size w3 w4))
  refine wp_region_held_drew (S := (fun w' => w'.cell? ⟨w.heap.size + 1, 0, none⟩ = some (v0) ∧ w'.cell? ⟨w.heap.size + 1, 1, none⟩ = some (v1) ∧ w'.cell? ⟨w.heap.size + 1, 2, none⟩ = some (v2) ∧ w'.cell? ⟨w.heap.size + 1, 3, none⟩ = some (v3) ∧ w'.cell? ⟨w.heap.size + 1, 4, none⟩ = some (v4) ∧ w'.cell? ⟨w.heap.size + 1, 5, none⟩ = some (v5) ∧ w'.cell? ⟨w.heap.size + 1, 6, none⟩ = some (v6) ∧ w'.cell? ⟨w.heap.size + 1, 7, none⟩ = some (v7))) (by kernel_rfl) (by rw [← hv]; exact ⟨(M.out.2.1).at.1 0, (M.out.2.1).at.1 1, (M.out.2.1).at.1 2, (M.out.2.1).at.1 3, (M.out.2.1).at.1 4, (M.out.2.1).at.1 5, (M.out.2.1).at.1 6, (M.out.2.1).at.1 7⟩) (fun hH7 => ?_)
  rw [← hv] at hH7 ⊢
  clear hv
  refine tk at0 ?_
  refine wpAnyH_ready (rs := [1]) (by kernel_rfl) (by simp) ?_
  refine AllReadyH.cons at1 (fun K hK => ?_) AllReadyH.nil
  go_simp
  obtain ⟨q12, eq12⟩ : ∃ v_ : Rat, v_ = ((0 : Int) : Rat) := ⟨_, rfl⟩
  refine (fqInt (G := G) (x := 0) (by decide)).mono ?_
  rintro e w5 ⟨x_8, x_9, x_10, x_11, rfl, hd13, hb⟩
  rw [← eq12] at hd13
  have Sq12 : Hid (Fz q12 4) := by show Fz q12 4; rw [eq12]; exact (Fz.int64 (by decide))
  have Eq12 := Lib.hid eq12; clear eq12
  replace M := Lib.hid (And.intro hd13 (Goes.go M.out hb))
  clear hb hd13
  (try go_wp2_with fail)
  refine hK.out _ _ (⟨(M.out.2.2.1).at.1 0, (M.out.2.2.1).at.1 1, (M.out.2.2.1).at.1 2, (M.out.2.2.1).at.1 3, (M.out.2.2.1).at.1 4, (M.out.2.2.1).at.1 5, (M.out.2.2.1).at.1 6, (M.out.2.2.1).at.1 7⟩) (fun hH14 => ?_)
  clear hK K hH7
  (try simp only [Act.put, List.setIfInBounds_toArray, List.set_cons_zero, List.set_cons_succ])
  refine wpAnyH_ready (rs := [2]) (by kernel_rfl) (by simp) ?_
  refine AllReadyH.cons at2 (fun K hK => ?_) AllReadyH.nil
  go_simp
  refine (spHas_q (G := G) (p := r) (q := s) (x := q12) (b_ := false) (Nat.le_trans hG (M.out.2.2.2.2).size) (H3.out.keep (M.out.2.2.2.2)) (H4.out.keep (M.out.2.2.2.2)) (Fz.mono HR.out (by omega)) (Fz.mono HS.out (by omega)) HBB.out (M.out.1) (Fz.mono Sq12.out (by omega)) (by rw [Eq12.out]; exact HZ.out)).mono ?_
  rintro e w6 ⟨rfl, hb⟩
  replace M := Lib.hid (Goes.go M.out hb)
  clear hb
  (try go_wp2_with fail)
  refine hK.out _ _ (⟨(M.out.2.2.1).at.1 0, (M.out.2.2.1).at.1 1, (M.out.2.2.1).at.1 2, (M.out.2.2.1).at.1 3, (M.out.2.2.1).at.1 4, (M.out.2.2.1).at.1 5, (M.out.2.2.1).at.1 6, (M.out.2.2.1).at.1 7⟩) (fun hH15 => ?_)
  clear hK K hH14
  (try simp only [Act.put, List.setIfInBounds_toArray, List.set_cons_zero, List.set_cons_succ])
  refine tk at3 ?_
  refine wpAnyH_done (by kernel_rfl) ?_ _
  clear hH15
  go_upto_region 5 with fail
  go_cut [6, 7] (fun s6 s7 wx => ∃ (A28 : Nat), ∃ (x_16 : Value), ∃ (x_17 : Value), ∃ (x_18 : Value), ∃ (x_19 : Value), ∃ (q20 : Rat), ∃ (x_22 : Value), ∃ (x_23 : Value), ∃ (x_24 : Value), ∃ (x_25 : Value), ∃ (q26 : Rat), s6 = .pointer (some ⟨A28, 0, none⟩) ∧ s7 = .int .i64 0 ∧ Hid (q20 = ((1 : Int) : Rat)) ∧ Hid (q26 = (q20 / s)) ∧ Hid (Fz q20 4) ∧ Hid (Fz q26 17179869188) ∧ w.heap.size + 1 + 1 < A28 ∧ Hid (Bx wx A28 26 #[x_22, x_23, x_24, x_25] ∧ FQ G wx x_22 x_23 x_24 x_25 q26 ∧ FQ G wx x_16 x_17 x_18 x_19 q20 ∧ FQ G wx x_8 x_9 x_10 x_11 q12 ∧ Bx wx w.heap.size 28 #[u0, u1, u2, u3, u4, u5, u6, u7] ∧ Bx wx (w.heap.size + 1) 28 #[v0, v1, v2, v3, v4, v5, v6, v7] ∧ Bx wx (w.heap.size + 1 + 1) 28 #[.int .i64 0, .slice none 0 0, .int .i64 0, .slice none 0 0, .int .i64 0, .slice none 0 0, .int .i64 0, .slice none 0 0] ∧ Below w.heap.size w wx))
  case first =>
    obtain ⟨w7, hv⟩ : ∃ w_ : World, w_ = w6.drew := ⟨_, rfl⟩
    replace M := Lib.hid (Goes.go M.out (hv ▸ below_drew _ : Below w6.heap.size w6 w7))
    refine wp_region_held_drew (S := (fun w' => w'.cell? ⟨w.heap.size + 1, 0, none⟩ = some (v0) ∧ w'.cell? ⟨w.heap.size + 1, 1, none⟩ = some (v1) ∧ w'.cell? ⟨w.heap.size + 1, 2, none⟩ = some (v2) ∧ w'.cell? ⟨w.heap.size + 1, 3, none⟩ = some (v3) ∧ w'.cell? ⟨w.heap.size + 1, 4, none⟩ = some (v4) ∧ w'.cell? ⟨w.heap.size + 1, 5, none⟩ = some (v5) ∧ w'.cell? ⟨w.heap.size + 1, 6, none⟩ = some (v6) ∧ w'.cell? ⟨w.heap.size + 1, 7, none⟩ = some (v7))) (by kernel_rfl) (by rw [← hv]; exact ⟨(M.out.2.2.1).at.1 0, (M.out.2.2.1).at.1 1, (M.out.2.2.1).at.1 2, (M.out.2.2.1).at.1 3, (M.out.2.2.1).at.1 4, (M.out.2.2.1).at.1 5, (M.out.2.2.1).at.1 6, (M.out.2.2.1).at.1 7⟩) (fun hH29 => ?_)
    rw [← hv] at hH29 ⊢
    clear hv
    refine tk at1 ?_
    refine tk at2 ?_
    refine wpAnyH_ready (rs := [0, 7]) (by kernel_rfl) (by simp) ?_
    refine AllReadyH.cons at0 (fun K hK => ?_) ?_
    ·
      go_simp
      obtain ⟨q34, eq34⟩ : ∃ v_ : Rat, v_ = ((1 : Int) : Rat) := ⟨_, rfl⟩
      refine (fqInt (G := G) (x := 1) (by decide)).mono ?_
      rintro e w8 ⟨x_30, x_31, x_32, x_33, rfl, hd35, hb⟩
      rw [← eq34] at hd35
      have Sq34 : Hid (Fz q34 4) := by show Fz q34 4; rw [eq34]; exact (Fz.int64 (by decide))
      have Eq34 := Lib.hid eq34; clear eq34
      replace M := Lib.hid (And.intro hd35 (Goes.go M.out hb))
      clear hb hd35
      (try go_wp2_with fail)
      refine hK.out _ _ (⟨(M.out.2.2.2.1).at.1 0, (M.out.2.2.2.1).at.1 1, (M.out.2.2.2.1).at.1 2, (M.out.2.2.2.1).at.1 3, (M.out.2.2.2.1).at.1 4, (M.out.2.2.2.1).at.1 5, (M.out.2.2.2.1).at.1 6, (M.out.2.2.2.1).at.1 7⟩) (fun hH36 => ?_)
      clear hK K hH29
      (try simp only [Act.put, List.setIfInBounds_toArray, List.set_cons_zero, List.set_cons_succ])
      refine wpAnyH_ready (rs := [3, 7]) (by kernel_rfl) (by simp) ?_
      refine AllReadyH.cons at3 (fun K hK => ?_) ?_
      ·
        go_simp
        obtain ⟨q41, eq41⟩ : ∃ v_ : Rat, v_ = (q34 / s) := ⟨_, rfl⟩
        refine (fqDiv (G := G) (q := q34) (r := s) (Nat.le_trans hG (M.out.2.2.2.2.2).size) (M.out.1) (H4.out.keep (M.out.2.2.2.2.2)) (Fz.mono Sq34.out (by omega)) (Fz.mono HS.out (by omega)) HNs.out).mono ?_
        rintro e w9 ⟨x_37, x_38, x_39, x_40, rfl, hd42, hb⟩
        rw [← eq41] at hd42
        have Sq41 : Hid (Fz q41 17179869188) := by show Fz q41 17179869188; rw [eq41]; exact (Fz.div Sq34.out HS.out HNs.out)
        have Eq41 := Lib.hid eq41; clear eq41
        replace M := Lib.hid (And.intro hd42 (Goes.go M.out hb))
        clear hb hd42
        (try go_wp2_with fail)
        refine hK.out _ _ (⟨(M.out.2.2.2.2.1).at.1 0, (M.out.2.2.2.2.1).at.1 1, (M.out.2.2.2.2.1).at.1 2, (M.out.2.2.2.2.1).at.1 3, (M.out.2.2.2.2.1).at.1 4, (M.out.2.2.2.2.1).at.1 5, (M.out.2.2.2.2.1).at.1 6, (M.out.2.2.2.2.1).at.1 7⟩) (fun hH43 => ?_)
        clear hK K hH36
        (try simp only [Act.put, List.setIfInBounds_toArray, List.set_cons_zero, List.set_cons_succ])
        refine tk at4 ?_
        refine tk at5 ?_
        refine tk at6 ?_
        refine wpAnyH_ready (rs := [7]) (by kernel_rfl) (by simp) ?_
        refine AllReadyH.cons at7 (fun K hK => ?_) AllReadyH.nil
        go_simp
        obtain ⟨w10, hv⟩ : ∃ w_ : World, w_ = (w9.alloc (.cells #[.int .i64 0, .slice none 0 0, .int .i64 0, .slice none 0 0] 26)) := ⟨_, rfl⟩
        rw [← hv]
        have ow3_ : w.heap.size + 1 + 1 < w9.heap.size := ((M.out.2.2.2.1)).lt
        replace M := Lib.hid (And.intro (hv ▸ bx1 w9 26 #[.int .i64 0, .slice none 0 0, .int .i64 0, .slice none 0 0]) (Goes.go M.out (hv ▸ below_alloc _ _ : Below w9.heap.size w9 w10)))
        clear hv
        refine hK.out _ _ (⟨(M.out.2.2.2.2.2.1).at.1 0, (M.out.2.2.2.2.2.1).at.1 1, (M.out.2.2.2.2.2.1).at.1 2, (M.out.2.2.2.2.2.1).at.1 3, (M.out.2.2.2.2.2.1).at.1 4, (M.out.2.2.2.2.2.1).at.1 5, (M.out.2.2.2.2.2.1).at.1 6, (M.out.2.2.2.2.2.1).at.1 7⟩) (fun hH44 => ?_)
        clear hK K hH43
        (try simp only [Act.put, List.setIfInBounds_toArray, List.set_cons_zero, List.set_cons_succ])
        refine wpAnyH_ready (rs := [8]) (by kernel_rfl) (by simp) ?_
        refine AllReadyH.cons at8 (fun K hK => ?_) AllReadyH.nil
        have y3 := (M.out.1).c4; have p3_0 := y3.1; have q3_0 := y3.2.1; have p3_1 := y3.2.2.1; have q3_1 := y3.2.2.2.1; have p3_2 := y3.2.2.2.2.1; have q3_2 := y3.2.2.2.2.2.1; have p3_3 := y3.2.2.2.2.2.2.1; have q3_3 := y3.2.2.2.2.2.2.2; clear y3
        have ys_x_37 := TQ.st (M.out.2.1); have st_x_37 := ys_x_37.1; have st_x_38 := ys_x_37.2.1; have st_x_39 := ys_x_37.2.2.1; have st_x_40 := ys_x_37.2.2.2; clear ys_x_37
        go_simp
        clear p3_0 q3_0 p3_1 q3_1 p3_2 q3_2 p3_3 q3_3 st_x_37 st_x_38 st_x_39 st_x_40
        obtain ⟨w11, hv⟩ : ∃ w_ : World, w_ = ((((w10.setCell ⟨w9.heap.size, 0, none⟩ (x_37)).setCell ⟨w9.heap.size, 1, none⟩ (x_38)).setCell ⟨w9.heap.size, 2, none⟩ (x_39)).setCell ⟨w9.heap.size, 3, none⟩ (x_40)) := ⟨_, rfl⟩
        rw [← hv]
        have og : w10.grownBy w11 (some w9.heap.size) := by rw [hv]; exact (only_setCell (only_setCell (only_setCell (only_setCell (World.grownBy.refl _ _) _) _) _) _)
        have hz : w.heap.size ≤ w9.heap.size := by omega
        have hk : Bx w11 w9.heap.size 26 #[x_37, x_38, x_39, x_40] := by rw [hv]; exact (((((M.out.1).set 0 _).set 1 _).set 2 _).set 3 _)
        have hbw : Below w.heap.size w w11 := by rw [hv]; exact (Below.setCell (Below.setCell (Below.setCell (Below.setCell (M.out.2.2.2.2.2.2.2) (by omega) _) (by omega) _) (by omega) _) (by omega) _)
        replace M := Lib.hid (And.intro hk (And.intro ((M.out.2.1).far (M.out.1) (by rfl) (by omega) og) (And.intro ((M.out.2.2.1).far (M.out.1) (by rfl) (by omega) og) (And.intro ((M.out.2.2.2.1).far (M.out.1) (by rfl) (by omega) og) (And.intro ((M.out.2.2.2.2.1).only og (by omega)) (And.intro ((M.out.2.2.2.2.2.1).only og (by omega)) (And.intro ((M.out.2.2.2.2.2.2.1).only og (by omega)) hbw)))))))
        clear hk hbw og hv hz
        refine hK.out _ _ (⟨(M.out.2.2.2.2.2.1).at.1 0, (M.out.2.2.2.2.2.1).at.1 1, (M.out.2.2.2.2.2.1).at.1 2, (M.out.2.2.2.2.2.1).at.1 3, (M.out.2.2.2.2.2.1).at.1 4, (M.out.2.2.2.2.2.1).at.1 5, (M.out.2.2.2.2.2.1).at.1 6, (M.out.2.2.2.2.2.1).at.1 7⟩) (fun hH45 => ?_)
        clear hK K hH44
        (try simp only [Act.put, List.setIfInBounds_toArray, List.set_cons_zero, List.set_cons_succ])
        refine tk at9 ?_
        refine wpAnyH_done (by kernel_rfl) ?_ _
        clear hH45
        go_wp2_with fail
        go_meet
        exact ⟨w9.heap.size, x_30, x_31, x_32, x_33, q34, x_37, x_38, x_39, x_40, q41, rfl, rfl, Eq34, Eq41, Sq34, Sq41, (by omega), (M.out.1), (M.out.2.1), (M.out.2.2.1), (M.out.2.2.2.1), (M.out.2.2.2.2.2.2.1), (M.out.2.2.2.2.2.1), (M.out.2.2.2.2.1), (M.out.2.2.2.2.2.2.2)⟩
      refine AllReadyH.cons at7 (fun K hK => ?_) AllReadyH.nil
      go_simp
      obtain ⟨w9, hv⟩ : ∃ w_ : World, w_ = (w8.alloc (.cells #[.int .i64 0, .slice none 0 0, .int .i64 0, .slice none 0 0] 26)) := ⟨_, rfl⟩
      rw [← hv]
      have ow3_ : w.heap.size + 1 + 1 < w8.heap.size := ((M.out.2.2.1)).lt
      replace M := Lib.hid (And.intro (hv ▸ bx1 w8 26 #[.int .i64 0, .slice none 0 0, .int .i64 0, .slice none 0 0]) (Goes.go M.out (hv ▸ below_alloc _ _ : Below w8.heap.size w8 w9)))
      clear hv
      refine hK.out _ _ (⟨(M.out.2.2.2.2.1).at.1 0, (M.out.2.2.2.2.1).at.1 1, (M.out.2.2.2.2.1).at.1 2, (M.out.2.2.2.2.1).at.1 3, (M.out.2.2.2.2.1).at.1 4, (M.out.2.2.2.2.1).at.1 5, (M.out.2.2.2.2.1).at.1 6, (M.out.2.2.2.2.1).at.1 7⟩) (fun hH46 => ?_)
      clear hK K hH36
      (try simp only [Act.put, List.setIfInBounds_toArray, List.set_cons_zero, List.set_cons_succ])
      refine wpAnyH_ready (rs := [3]) (by kernel_rfl) (by simp) ?_
      refine AllReadyH.cons at3 (fun K hK => ?_) AllReadyH.nil
      go_simp
      obtain ⟨q51, eq51⟩ : ∃ v_ : Rat, v_ = (q34 / s) := ⟨_, rfl⟩
      refine (fqDiv (G := G) (q := q34) (r := s) (Nat.le_trans hG (M.out.2.2.2.2.2.2).size) (M.out.2.1) (H4.out.keep (M.out.2.2.2.2.2.2)) (Fz.mono Sq34.out (by omega)) (Fz.mono HS.out (by omega)) HNs.out).mono ?_
      rintro e w10 ⟨x_47, x_48, x_49, x_50, rfl, hd52, hb⟩
      rw [← eq51] at hd52
      have Sq51 : Hid (Fz q51 17179869188) := by show Fz q51 17179869188; rw [eq51]; exact (Fz.div Sq34.out HS.out HNs.out)
      have Eq51 := Lib.hid eq51; clear eq51
      replace M := Lib.hid (And.intro hd52 (Goes.go M.out hb))
      clear hb hd52
      (try go_wp2_with fail)
      refine hK.out _ _ (⟨(M.out.2.2.2.2.2.1).at.1 0, (M.out.2.2.2.2.2.1).at.1 1, (M.out.2.2.2.2.2.1).at.1 2, (M.out.2.2.2.2.2.1).at.1 3, (M.out.2.2.2.2.2.1).at.1 4, (M.out.2.2.2.2.2.1).at.1 5, (M.out.2.2.2.2.2.1).at.1 6, (M.out.2.2.2.2.2.1).at.1 7⟩) (fun hH53 => ?_)
      clear hK K hH46
      (try simp only [Act.put, List.setIfInBounds_toArray, List.set_cons_zero, List.set_cons_succ])
      refine tk at4 ?_
      refine tk at5 ?_
      refine tk at6 ?_
      refine wpAnyH_ready (rs := [8]) (by kernel_rfl) (by simp) ?_
      refine AllReadyH.cons at8 (fun K hK => ?_) AllReadyH.nil
      have y3 := (M.out.2.1).c4; have p3_0 := y3.1; have q3_0 := y3.2.1; have p3_1 := y3.2.2.1; have q3_1 := y3.2.2.2.1; have p3_2 := y3.2.2.2.2.1; have q3_2 := y3.2.2.2.2.2.1; have p3_3 := y3.2.2.2.2.2.2.1; have q3_3 := y3.2.2.2.2.2.2.2; clear y3
      have ys_x_47 := TQ.st (M.out.1); have st_x_47 := ys_x_47.1; have st_x_48 := ys_x_47.2.1; have st_x_49 := ys_x_47.2.2.1; have st_x_50 := ys_x_47.2.2.2; clear ys_x_47
      go_simp
      clear p3_0 q3_0 p3_1 q3_1 p3_2 q3_2 p3_3 q3_3 st_x_47 st_x_48 st_x_49 st_x_50
      obtain ⟨w11, hv⟩ : ∃ w_ : World, w_ = ((((w10.setCell ⟨w8.heap.size, 0, none⟩ (x_47)).setCell ⟨w8.heap.size, 1, none⟩ (x_48)).setCell ⟨w8.heap.size, 2, none⟩ (x_49)).setCell ⟨w8.heap.size, 3, none⟩ (x_50)) := ⟨_, rfl⟩
      rw [← hv]
      have og : w10.grownBy w11 (some w8.heap.size) := by rw [hv]; exact (only_setCell (only_setCell (only_setCell (only_setCell (World.grownBy.refl _ _) _) _) _) _)
      have hz : w.heap.size ≤ w8.heap.size := by omega
      have hk : Bx w11 w8.heap.size 26 #[x_47, x_48, x_49, x_50] := by rw [hv]; exact (((((M.out.2.1).set 0 _).set 1 _).set 2 _).set 3 _)
      have hbw : Below w.heap.size w w11 := by rw [hv]; exact (Below.setCell (Below.setCell (Below.setCell (Below.setCell (M.out.2.2.2.2.2.2.2) (by omega) _) (by omega) _) (by omega) _) (by omega) _)
      replace M := Lib.hid (And.intro ((M.out.1).far (M.out.2.1) (by rfl) (by omega) og) (And.intro hk (And.intro ((M.out.2.2.1).far (M.out.2.1) (by rfl) (by omega) og) (And.intro ((M.out.2.2.2.1).far (M.out.2.1) (by rfl) (by omega) og) (And.intro ((M.out.2.2.2.2.1).only og (by omega)) (And.intro ((M.out.2.2.2.2.2.1).only og (by omega)) (And.intro ((M.out.2.2.2.2.2.2.1).only og (by omega)) hbw)))))))
      clear hk hbw og hv hz
      refine hK.out _ _ (⟨(M.out.2.2.2.2.2.1).at.1 0, (M.out.2.2.2.2.2.1).at.1 1, (M.out.2.2.2.2.2.1).at.1 2, (M.out.2.2.2.2.2.1).at.1 3, (M.out.2.2.2.2.2.1).at.1 4, (M.out.2.2.2.2.2.1).at.1 5, (M.out.2.2.2.2.2.1).at.1 6, (M.out.2.2.2.2.2.1).at.1 7⟩) (fun hH54 => ?_)
      clear hK K hH53
      (try simp only [Act.put, List.setIfInBounds_toArray, List.set_cons_zero, List.set_cons_succ])
      refine tk at9 ?_
      refine wpAnyH_done (by kernel_rfl) ?_ _
      clear hH54
      go_wp2_with fail
      go_meet
      exact ⟨w8.heap.size, x_30, x_31, x_32, x_33, q34, x_47, x_48, x_49, x_50, q51, rfl, rfl, Eq34, Eq51, Sq34, Sq51, (by omega), (M.out.2.1), (M.out.1), (M.out.2.2.1), (M.out.2.2.2.1), (M.out.2.2.2.2.2.2.1), (M.out.2.2.2.2.2.1), (M.out.2.2.2.2.1), (M.out.2.2.2.2.2.2.2)⟩
    refine AllReadyH.cons at7 (fun K hK => ?_) AllReadyH.nil
    go_simp
    obtain ⟨w8, hv⟩ : ∃ w_ : World, w_ = (w7.alloc (.cells #[.int .i64 0, .slice none 0 0, .int .i64 0, .slice none 0 0] 26)) := ⟨_, rfl⟩
    rw [← hv]
    have ow3_ : w.heap.size + 1 + 1 < w7.heap.size := ((M.out.2.1)).lt
    replace M := Lib.hid (And.intro (hv ▸ bx1 w7 26 #[.int .i64 0, .slice none 0 0, .int .i64 0, .slice none 0 0]) (Goes.go M.out (hv ▸ below_alloc _ _ : Below w7.heap.size w7 w8)))
    clear hv
    refine hK.out _ _ (⟨(M.out.2.2.2.1).at.1 0, (M.out.2.2.2.1).at.1 1, (M.out.2.2.2.1).at.1 2, (M.out.2.2.2.1).at.1 3, (M.out.2.2.2.1).at.1 4, (M.out.2.2.2.1).at.1 5, (M.out.2.2.2.1).at.1 6, (M.out.2.2.2.1).at.1 7⟩) (fun hH55 => ?_)
    clear hK K hH29
    (try simp only [Act.put, List.setIfInBounds_toArray, List.set_cons_zero, List.set_cons_succ])
    refine wpAnyH_ready (rs := [0]) (by kernel_rfl) (by simp) ?_
    refine AllReadyH.cons at0 (fun K hK => ?_) AllReadyH.nil
    go_simp
    obtain ⟨q60, eq60⟩ : ∃ v_ : Rat, v_ = ((1 : Int) : Rat) := ⟨_, rfl⟩
    refine (fqInt (G := G) (x := 1) (by decide)).mono ?_
    rintro e w9 ⟨x_56, x_57, x_58, x_59, rfl, hd61, hb⟩
    rw [← eq60] at hd61
    have Sq60 : Hid (Fz q60 4) := by show Fz q60 4; rw [eq60]; exact (Fz.int64 (by decide))
    have Eq60 := Lib.hid eq60; clear eq60
    replace M := Lib.hid (And.intro hd61 (Goes.go M.out hb))
    clear hb hd61
    (try go_wp2_with fail)
    refine hK.out _ _ (⟨(M.out.2.2.2.2.1).at.1 0, (M.out.2.2.2.2.1).at.1 1, (M.out.2.2.2.2.1).at.1 2, (M.out.2.2.2.2.1).at.1 3, (M.out.2.2.2.2.1).at.1 4, (M.out.2.2.2.2.1).at.1 5, (M.out.2.2.2.2.1).at.1 6, (M.out.2.2.2.2.1).at.1 7⟩) (fun hH62 => ?_)
    clear hK K hH55
    (try simp only [Act.put, List.setIfInBounds_toArray, List.set_cons_zero, List.set_cons_succ])
    refine wpAnyH_ready (rs := [3]) (by kernel_rfl) (by simp) ?_
    refine AllReadyH.cons at3 (fun K hK => ?_) AllReadyH.nil
    go_simp
    obtain ⟨q67, eq67⟩ : ∃ v_ : Rat, v_ = (q60 / s) := ⟨_, rfl⟩
    refine (fqDiv (G := G) (q := q60) (r := s) (Nat.le_trans hG (M.out.2.2.2.2.2.2).size) (M.out.1) (H4.out.keep (M.out.2.2.2.2.2.2)) (Fz.mono Sq60.out (by omega)) (Fz.mono HS.out (by omega)) HNs.out).mono ?_
    rintro e w10 ⟨x_63, x_64, x_65, x_66, rfl, hd68, hb⟩
    rw [← eq67] at hd68
    have Sq67 : Hid (Fz q67 17179869188) := by show Fz q67 17179869188; rw [eq67]; exact (Fz.div Sq60.out HS.out HNs.out)
    have Eq67 := Lib.hid eq67; clear eq67
    replace M := Lib.hid (And.intro hd68 (Goes.go M.out hb))
    clear hb hd68
    (try go_wp2_with fail)
    refine hK.out _ _ (⟨(M.out.2.2.2.2.2.1).at.1 0, (M.out.2.2.2.2.2.1).at.1 1, (M.out.2.2.2.2.2.1).at.1 2, (M.out.2.2.2.2.2.1).at.1 3, (M.out.2.2.2.2.2.1).at.1 4, (M.out.2.2.2.2.2.1).at.1 5, (M.out.2.2.2.2.2.1).at.1 6, (M.out.2.2.2.2.2.1).at.1 7⟩) (fun hH69 => ?_)
    clear hK K hH62
    (try simp only [Act.put, List.setIfInBounds_toArray, List.set_cons_zero, List.set_cons_succ])
    refine tk at4 ?_
    refine tk at5 ?_
    refine tk at6 ?_
    refine wpAnyH_ready (rs := [8]) (by kernel_rfl) (by simp) ?_
    refine AllReadyH.cons at8 (fun K hK => ?_) AllReadyH.nil
    have y3 := (M.out.2.2.1).c4; have p3_0 := y3.1; have q3_0 := y3.2.1; have p3_1 := y3.2.2.1; have q3_1 := y3.2.2.2.1; have p3_2 := y3.2.2.2.2.1; have q3_2 := y3.2.2.2.2.2.1; have p3_3 := y3.2.2.2.2.2.2.1; have q3_3 := y3.2.2.2.2.2.2.2; clear y3
    have ys_x_63 := TQ.st (M.out.1); have st_x_63 := ys_x_63.1; have st_x_64 := ys_x_63.2.1; have st_x_65 := ys_x_63.2.2.1; have st_x_66 := ys_x_63.2.2.2; clear ys_x_63
    go_simp
    clear p3_0 q3_0 p3_1 q3_1 p3_2 q3_2 p3_3 q3_3 st_x_63 st_x_64 st_x_65 st_x_66
    obtain ⟨w11, hv⟩ : ∃ w_ : World, w_ = ((((w10.setCell ⟨w7.heap.size, 0, none⟩ (x_63)).setCell ⟨w7.heap.size, 1, none⟩ (x_64)).setCell ⟨w7.heap.size, 2, none⟩ (x_65)).setCell ⟨w7.heap.size, 3, none⟩ (x_66)) := ⟨_, rfl⟩
    rw [← hv]
    have og : w10.grownBy w11 (some w7.heap.size) := by rw [hv]; exact (only_setCell (only_setCell (only_setCell (only_setCell (World.grownBy.refl _ _) _) _) _) _)
    have hz : w.heap.size ≤ w7.heap.size := by omega
    have hk : Bx w11 w7.heap.size 26 #[x_63, x_64, x_65, x_66] := by rw [hv]; exact (((((M.out.2.2.1).set 0 _).set 1 _).set 2 _).set 3 _)
    have hbw : Below w.heap.size w w11 := by rw [hv]; exact (Below.setCell (Below.setCell (Below.setCell (Below.setCell (M.out.2.2.2.2.2.2.2) (by omega) _) (by omega) _) (by omega) _) (by omega) _)
    replace M := Lib.hid (And.intro ((M.out.1).far (M.out.2.2.1) (by rfl) (by omega) og) (And.intro ((M.out.2.1).far (M.out.2.2.1) (by rfl) (by omega) og) (And.intro hk (And.intro ((M.out.2.2.2.1).far (M.out.2.2.1) (by rfl) (by omega) og) (And.intro ((M.out.2.2.2.2.1).only og (by omega)) (And.intro ((M.out.2.2.2.2.2.1).only og (by omega)) (And.intro ((M.out.2.2.2.2.2.2.1).only og (by omega)) hbw)))))))
    clear hk hbw og hv hz
    refine hK.out _ _ (⟨(M.out.2.2.2.2.2.1).at.1 0, (M.out.2.2.2.2.2.1).at.1 1, (M.out.2.2.2.2.2.1).at.1 2, (M.out.2.2.2.2.2.1).at.1 3, (M.out.2.2.2.2.2.1).at.1 4, (M.out.2.2.2.2.2.1).at.1 5, (M.out.2.2.2.2.2.1).at.1 6, (M.out.2.2.2.2.2.1).at.1 7⟩) (fun hH70 => ?_)
    clear hK K hH69
    (try simp only [Act.put, List.setIfInBounds_toArray, List.set_cons_zero, List.set_cons_succ])
    refine tk at9 ?_
    refine wpAnyH_done (by kernel_rfl) ?_ _
    clear hH70
    go_wp2_with fail
    go_meet
    exact ⟨w7.heap.size, x_56, x_57, x_58, x_59, q60, x_63, x_64, x_65, x_66, q67, rfl, rfl, Eq60, Eq67, Sq60, Sq67, (by omega), (M.out.2.2.1), (M.out.1), (M.out.2.1), (M.out.2.2.2.1), (M.out.2.2.2.2.2.2.1), (M.out.2.2.2.2.2.1), (M.out.2.2.2.2.1), (M.out.2.2.2.2.2.2.2)⟩
  case rest =>
    obtain ⟨A28, x_16, x_17, x_18, x_19, q20, x_22, x_23, x_24, x_25, q26, rfl, rfl, Eq20, Eq26, Sq20, Sq26, oA28, M⟩ := hcut
    obtain ⟨w7, rfl⟩ : ∃ w_ : World, w_ = wc := ⟨_, rfl⟩
    go_upto_region 6 with fail
    go_cut [8, 9] (fun s8 s9 wx => ∃ (A83 : Nat), ∃ (x_71 : Value), ∃ (x_72 : Value), ∃ (x_73 : Value), ∃ (x_74 : Value), ∃ (q75 : Rat), ∃ (x_77 : Value), ∃ (x_78 : Value), ∃ (x_79 : Value), ∃ (x_80 : Value), ∃ (q81 : Rat), s8 = .pointer (some ⟨A83, 0, none⟩) ∧ s9 = .int .i64 0 ∧ Hid (q75 = ((1 : Int) : Rat)) ∧ Hid (q81 = (q75 / r)) ∧ Hid (Fz q75 4) ∧ Hid (Fz q81 17179869188) ∧ A28 < A83 ∧ Hid (Bx wx A83 26 #[x_77, x_78, x_79, x_80] ∧ FQ G wx x_77 x_78 x_79 x_80 q81 ∧ FQ G wx x_71 x_72 x_73 x_74 q75 ∧ FQ G wx x_22 x_23 x_24 x_25 q26 ∧ FQ G wx x_16 x_17 x_18 x_19 q20 ∧ FQ G wx x_8 x_9 x_10 x_11 q12 ∧ Bx wx w.heap.size 28 #[u0, u1, u2, u3, u4, u5, u6, u7] ∧ Bx wx (w.heap.size + 1) 28 #[v0, v1, v2, v3, v4, v5, v6, v7] ∧ Bx wx (w.heap.size + 1 + 1) 28 #[.int .i64 0, .slice none 0 0, .int .i64 0, .slice none 0 0, .int .i64 0, .slice none 0 0, .int .i64 0, .slice none 0 0] ∧ Bx wx A28 26 #[x_22, x_23, x_24, x_25] ∧ Below w.heap.size w wx))
    case first =>
      obtain ⟨w8, hv⟩ : ∃ w_ : World, w_ = w7.drew := ⟨_, rfl⟩
      replace M := Lib.hid (Goes.go M.out (hv ▸ below_drew _ : Below w7.heap.size w7 w8))
      refine wp_region_held_drew (S := (fun w' => w'.cell? ⟨w.heap.size + 1, 0, none⟩ = some (v0) ∧ w'.cell? ⟨w.heap.size + 1, 1, none⟩ = some (v1) ∧ w'.cell? ⟨w.heap.size + 1, 2, none⟩ = some (v2) ∧ w'.cell? ⟨w.heap.size + 1, 3, none⟩ = some (v3) ∧ w'.cell? ⟨w.heap.size + 1, 4, none⟩ = some (v4) ∧ w'.cell? ⟨w.heap.size + 1, 5, none⟩ = some (v5) ∧ w'.cell? ⟨w.heap.size + 1, 6, none⟩ = some (v6) ∧ w'.cell? ⟨w.heap.size + 1, 7, none⟩ = some (v7))) (by kernel_rfl) (by rw [← hv]; exact ⟨(M.out.2.2.2.2.2.1).at.1 0, (M.out.2.2.2.2.2.1).at.1 1, (M.out.2.2.2.2.2.1).at.1 2, (M.out.2.2.2.2.2.1).at.1 3, (M.out.2.2.2.2.2.1).at.1 4, (M.out.2.2.2.2.2.1).at.1 5, (M.out.2.2.2.2.2.1).at.1 6, (M.out.2.2.2.2.2.1).at.1 7⟩) (fun hH84 => ?_)
      rw [← hv] at hH84 ⊢
      clear hv
      refine tk at1 ?_
      refine tk at2 ?_
      refine wpAnyH_ready (rs := [0, 7]) (by kernel_rfl) (by simp) ?_
      refine AllReadyH.cons at0 (fun K hK => ?_) ?_
      ·
        go_simp
        obtain ⟨q89, eq89⟩ : ∃ v_ : Rat, v_ = ((1 : Int) : Rat) := ⟨_, rfl⟩
        refine (fqInt (G := G) (x := 1) (by decide)).mono ?_
        rintro e w9 ⟨x_85, x_86, x_87, x_88, rfl, hd90, hb⟩
        rw [← eq89] at hd90
        have Sq89 : Hid (Fz q89 4) := by show Fz q89 4; rw [eq89]; exact (Fz.int64 (by decide))
        have Eq89 := Lib.hid eq89; clear eq89
        replace M := Lib.hid (And.intro hd90 (Goes.go M.out hb))
        clear hb hd90
        (try go_wp2_with fail)
        refine hK.out _ _ (⟨(M.out.2.2.2.2.2.2.1).at.1 0, (M.out.2.2.2.2.2.2.1).at.1 1, (M.out.2.2.2.2.2.2.1).at.1 2, (M.out.2.2.2.2.2.2.1).at.1 3, (M.out.2.2.2.2.2.2.1).at.1 4, (M.out.2.2.2.2.2.2.1).at.1 5, (M.out.2.2.2.2.2.2.1).at.1 6, (M.out.2.2.2.2.2.2.1).at.1 7⟩) (fun hH91 => ?_)
        clear hK K hH84
        (try simp only [Act.put, List.setIfInBounds_toArray, List.set_cons_zero, List.set_cons_succ])
        refine wpAnyH_ready (rs := [3, 7]) (by kernel_rfl) (by simp) ?_
        refine AllReadyH.cons at3 (fun K hK => ?_) ?_
        ·
          go_simp
          obtain ⟨q96, eq96⟩ : ∃ v_ : Rat, v_ = (q89 / r) := ⟨_, rfl⟩
          refine (fqDiv (G := G) (q := q89) (r := r) (Nat.le_trans hG (M.out.2.2.2.2.2.2.2.2).size) (M.out.1) (H3.out.keep (M.out.2.2.2.2.2.2.2.2)) (Fz.mono Sq89.out (by omega)) (Fz.mono HR.out (by omega)) HNr.out).mono ?_
          rintro e w10 ⟨x_92, x_93, x_94, x_95, rfl, hd97, hb⟩
          rw [← eq96] at hd97
          have Sq96 : Hid (Fz q96 17179869188) := by show Fz q96 17179869188; rw [eq96]; exact (Fz.div Sq89.out HR.out HNr.out)
          have Eq96 := Lib.hid eq96; clear eq96
          replace M := Lib.hid (And.intro hd97 (Goes.go M.out hb))
          clear hb hd97
          (try go_wp2_with fail)
          refine hK.out _ _ (⟨(M.out.2.2.2.2.2.2.2.1).at.1 0, (M.out.2.2.2.2.2.2.2.1).at.1 1, (M.out.2.2.2.2.2.2.2.1).at.1 2, (M.out.2.2.2.2.2.2.2.1).at.1 3, (M.out.2.2.2.2.2.2.2.1).at.1 4, (M.out.2.2.2.2.2.2.2.1).at.1 5, (M.out.2.2.2.2.2.2.2.1).at.1 6, (M.out.2.2.2.2.2.2.2.1).at.1 7⟩) (fun hH98 => ?_)
          clear hK K hH91
          (try simp only [Act.put, List.setIfInBounds_toArray, List.set_cons_zero, List.set_cons_succ])
          refine tk at4 ?_
          refine tk at5 ?_
          refine tk at6 ?_
          refine wpAnyH_ready (rs := [7]) (by kernel_rfl) (by simp) ?_
          refine AllReadyH.cons at7 (fun K hK => ?_) AllReadyH.nil
          go_simp
          obtain ⟨w11, hv⟩ : ∃ w_ : World, w_ = (w10.alloc (.cells #[.int .i64 0, .slice none 0 0, .int .i64 0, .slice none 0 0] 26)) := ⟨_, rfl⟩
          rw [← hv]
          have ow4_ : A28 < w10.heap.size := ((M.out.2.2.1)).lt
          replace M := Lib.hid (And.intro (hv ▸ bx1 w10 26 #[.int .i64 0, .slice none 0 0, .int .i64 0, .slice none 0 0]) (Goes.go M.out (hv ▸ below_alloc _ _ : Below w10.heap.size w10 w11)))
          clear hv
          refine hK.out _ _ (⟨(M.out.2.2.2.2.2.2.2.2.1).at.1 0, (M.out.2.2.2.2.2.2.2.2.1).at.1 1, (M.out.2.2.2.2.2.2.2.2.1).at.1 2, (M.out.2.2.2.2.2.2.2.2.1).at.1 3, (M.out.2.2.2.2.2.2.2.2.1).at.1 4, (M.out.2.2.2.2.2.2.2.2.1).at.1 5, (M.out.2.2.2.2.2.2.2.2.1).at.1 6, (M.out.2.2.2.2.2.2.2.2.1).at.1 7⟩) (fun hH99 => ?_)
          clear hK K hH98
          (try simp only [Act.put, List.setIfInBounds_toArray, List.set_cons_zero, List.set_cons_succ])
          refine wpAnyH_ready (rs := [8]) (by kernel_rfl) (by simp) ?_
          refine AllReadyH.cons at8 (fun K hK => ?_) AllReadyH.nil
          have y4 := (M.out.1).c4; have p4_0 := y4.1; have q4_0 := y4.2.1; have p4_1 := y4.2.2.1; have q4_1 := y4.2.2.2.1; have p4_2 := y4.2.2.2.2.1; have q4_2 := y4.2.2.2.2.2.1; have p4_3 := y4.2.2.2.2.2.2.1; have q4_3 := y4.2.2.2.2.2.2.2; clear y4
          have ys_x_92 := TQ.st (M.out.2.1); have st_x_92 := ys_x_92.1; have st_x_93 := ys_x_92.2.1; have st_x_94 := ys_x_92.2.2.1; have st_x_95 := ys_x_92.2.2.2; clear ys_x_92
          go_simp
          clear p4_0 q4_0 p4_1 q4_1 p4_2 q4_2 p4_3 q4_3 st_x_92 st_x_93 st_x_94 st_x_95
          obtain ⟨w12, hv⟩ : ∃ w_ : World, w_ = ((((w11.setCell ⟨w10.heap.size, 0, none⟩ (x_92)).setCell ⟨w10.heap.size, 1, none⟩ (x_93)).setCell ⟨w10.heap.size, 2, none⟩ (x_94)).setCell ⟨w10.heap.size, 3, none⟩ (x_95)) := ⟨_, rfl⟩
          rw [← hv]
          have og : w11.grownBy w12 (some w10.heap.size) := by rw [hv]; exact (only_setCell (only_setCell (only_setCell (only_setCell (World.grownBy.refl _ _) _) _) _) _)
          have hz : w.heap.size ≤ w10.heap.size := by omega
          have hk : Bx w12 w10.heap.size 26 #[x_92, x_93, x_94, x_95] := by rw [hv]; exact (((((M.out.1).set 0 _).set 1 _).set 2 _).set 3 _)
          have hbw : Below w.heap.size w w12 := by rw [hv]; exact (Below.setCell (Below.setCell (Below.setCell (Below.setCell (M.out.2.2.2.2.2.2.2.2.2.2) (by omega) _) (by omega) _) (by omega) _) (by omega) _)
          replace M := Lib.hid (And.intro hk (And.intro ((M.out.2.1).far (M.out.1) (by rfl) (by omega) og) (And.intro ((M.out.2.2.1).far (M.out.1) (by rfl) (by omega) og) (And.intro ((M.out.2.2.2.1).only og (by omega)) (And.intro ((M.out.2.2.2.2.1).far (M.out.1) (by rfl) (by omega) og) (And.intro ((M.out.2.2.2.2.2.1).far (M.out.1) (by rfl) (by omega) og) (And.intro ((M.out.2.2.2.2.2.2.1).far (M.out.1) (by rfl) (by omega) og) (And.intro ((M.out.2.2.2.2.2.2.2.1).only og (by omega)) (And.intro ((M.out.2.2.2.2.2.2.2.2.1).only og (by omega)) (And.intro ((M.out.2.2.2.2.2.2.2.2.2.1).only og (by omega)) hbw))))))))))
          clear hk hbw og hv hz
          refine hK.out _ _ (⟨(M.out.2.2.2.2.2.2.2.2.1).at.1 0, (M.out.2.2.2.2.2.2.2.2.1).at.1 1, (M.out.2.2.2.2.2.2.2.2.1).at.1 2, (M.out.2.2.2.2.2.2.2.2.1).at.1 3, (M.out.2.2.2.2.2.2.2.2.1).at.1 4, (M.out.2.2.2.2.2.2.2.2.1).at.1 5, (M.out.2.2.2.2.2.2.2.2.1).at.1 6, (M.out.2.2.2.2.2.2.2.2.1).at.1 7⟩) (fun hH100 => ?_)
          clear hK K hH99
          (try simp only [Act.put, List.setIfInBounds_toArray, List.set_cons_zero, List.set_cons_succ])
          refine tk at9 ?_
          refine wpAnyH_done (by kernel_rfl) ?_ _
          clear hH100
          go_wp2_with fail
          go_meet
          exact ⟨w10.heap.size, x_85, x_86, x_87, x_88, q89, x_92, x_93, x_94, x_95, q96, rfl, rfl, Eq89, Eq96, Sq89, Sq96, (by omega), (M.out.1), (M.out.2.1), (M.out.2.2.1), (M.out.2.2.2.2.1), (M.out.2.2.2.2.2.1), (M.out.2.2.2.2.2.2.1), (M.out.2.2.2.2.2.2.2.1), (M.out.2.2.2.2.2.2.2.2.1), (M.out.2.2.2.2.2.2.2.2.2.1), (M.out.2.2.2.1), (M.out.2.2.2.2.2.2.2.2.2.2)⟩
        refine AllReadyH.cons at7 (fun K hK => ?_) AllReadyH.nil
        go_simp
        obtain ⟨w10, hv⟩ : ∃ w_ : World, w_ = (w9.alloc (.cells #[.int .i64 0, .slice none 0 0, .int .i64 0, .slice none 0 0] 26)) := ⟨_, rfl⟩
        rw [← hv]
        have ow4_ : A28 < w9.heap.size := ((M.out.2.1)).lt
        replace M := Lib.hid (And.intro (hv ▸ bx1 w9 26 #[.int .i64 0, .slice none 0 0, .int .i64 0, .slice none 0 0]) (Goes.go M.out (hv ▸ below_alloc _ _ : Below w9.heap.size w9 w10)))
        clear hv
        refine hK.out _ _ (⟨(M.out.2.2.2.2.2.2.2.1).at.1 0, (M.out.2.2.2.2.2.2.2.1).at.1 1, (M.out.2.2.2.2.2.2.2.1).at.1 2, (M.out.2.2.2.2.2.2.2.1).at.1 3, (M.out.2.2.2.2.2.2.2.1).at.1 4, (M.out.2.2.2.2.2.2.2.1).at.1 5, (M.out.2.2.2.2.2.2.2.1).at.1 6, (M.out.2.2.2.2.2.2.2.1).at.1 7⟩) (fun hH101 => ?_)
        clear hK K hH91
        (try simp only [Act.put, List.setIfInBounds_toArray, List.set_cons_zero, List.set_cons_succ])
        refine wpAnyH_ready (rs := [3]) (by kernel_rfl) (by simp) ?_
        refine AllReadyH.cons at3 (fun K hK => ?_) AllReadyH.nil
        go_simp
        obtain ⟨q106, eq106⟩ : ∃ v_ : Rat, v_ = (q89 / r) := ⟨_, rfl⟩
        refine (fqDiv (G := G) (q := q89) (r := r) (Nat.le_trans hG (M.out.2.2.2.2.2.2.2.2.2).size) (M.out.2.1) (H3.out.keep (M.out.2.2.2.2.2.2.2.2.2)) (Fz.mono Sq89.out (by omega)) (Fz.mono HR.out (by omega)) HNr.out).mono ?_
        rintro e w11 ⟨x_102, x_103, x_104, x_105, rfl, hd107, hb⟩
        rw [← eq106] at hd107
        have Sq106 : Hid (Fz q106 17179869188) := by show Fz q106 17179869188; rw [eq106]; exact (Fz.div Sq89.out HR.out HNr.out)
        have Eq106 := Lib.hid eq106; clear eq106
        replace M := Lib.hid (And.intro hd107 (Goes.go M.out hb))
        clear hb hd107
        (try go_wp2_with fail)
        refine hK.out _ _ (⟨(M.out.2.2.2.2.2.2.2.2.1).at.1 0, (M.out.2.2.2.2.2.2.2.2.1).at.1 1, (M.out.2.2.2.2.2.2.2.2.1).at.1 2, (M.out.2.2.2.2.2.2.2.2.1).at.1 3, (M.out.2.2.2.2.2.2.2.2.1).at.1 4, (M.out.2.2.2.2.2.2.2.2.1).at.1 5, (M.out.2.2.2.2.2.2.2.2.1).at.1 6, (M.out.2.2.2.2.2.2.2.2.1).at.1 7⟩) (fun hH108 => ?_)
        clear hK K hH101
        (try simp only [Act.put, List.setIfInBounds_toArray, List.set_cons_zero, List.set_cons_succ])
        refine tk at4 ?_
        refine tk at5 ?_
        refine tk at6 ?_
        refine wpAnyH_ready (rs := [8]) (by kernel_rfl) (by simp) ?_
        refine AllReadyH.cons at8 (fun K hK => ?_) AllReadyH.nil
        have y4 := (M.out.2.1).c4; have p4_0 := y4.1; have q4_0 := y4.2.1; have p4_1 := y4.2.2.1; have q4_1 := y4.2.2.2.1; have p4_2 := y4.2.2.2.2.1; have q4_2 := y4.2.2.2.2.2.1; have p4_3 := y4.2.2.2.2.2.2.1; have q4_3 := y4.2.2.2.2.2.2.2; clear y4
        have ys_x_102 := TQ.st (M.out.1); have st_x_102 := ys_x_102.1; have st_x_103 := ys_x_102.2.1; have st_x_104 := ys_x_102.2.2.1; have st_x_105 := ys_x_102.2.2.2; clear ys_x_102
        go_simp
        clear p4_0 q4_0 p4_1 q4_1 p4_2 q4_2 p4_3 q4_3 st_x_102 st_x_103 st_x_104 st_x_105
        obtain ⟨w12, hv⟩ : ∃ w_ : World, w_ = ((((w11.setCell ⟨w9.heap.size, 0, none⟩ (x_102)).setCell ⟨w9.heap.size, 1, none⟩ (x_103)).setCell ⟨w9.heap.size, 2, none⟩ (x_104)).setCell ⟨w9.heap.size, 3, none⟩ (x_105)) := ⟨_, rfl⟩
        rw [← hv]
        have og : w11.grownBy w12 (some w9.heap.size) := by rw [hv]; exact (only_setCell (only_setCell (only_setCell (only_setCell (World.grownBy.refl _ _) _) _) _) _)
        have hz : w.heap.size ≤ w9.heap.size := by omega
        have hk : Bx w12 w9.heap.size 26 #[x_102, x_103, x_104, x_105] := by rw [hv]; exact (((((M.out.2.1).set 0 _).set 1 _).set 2 _).set 3 _)
        have hbw : Below w.heap.size w w12 := by rw [hv]; exact (Below.setCell (Below.setCell (Below.setCell (Below.setCell (M.out.2.2.2.2.2.2.2.2.2.2) (by omega) _) (by omega) _) (by omega) _) (by omega) _)
        replace M := Lib.hid (And.intro ((M.out.1).far (M.out.2.1) (by rfl) (by omega) og) (And.intro hk (And.intro ((M.out.2.2.1).far (M.out.2.1) (by rfl) (by omega) og) (And.intro ((M.out.2.2.2.1).only og (by omega)) (And.intro ((M.out.2.2.2.2.1).far (M.out.2.1) (by rfl) (by omega) og) (And.intro ((M.out.2.2.2.2.2.1).far (M.out.2.1) (by rfl) (by omega) og) (And.intro ((M.out.2.2.2.2.2.2.1).far (M.out.2.1) (by rfl) (by omega) og) (And.intro ((M.out.2.2.2.2.2.2.2.1).only og (by omega)) (And.intro ((M.out.2.2.2.2.2.2.2.2.1).only og (by omega)) (And.intro ((M.out.2.2.2.2.2.2.2.2.2.1).only og (by omega)) hbw))))))))))
        clear hk hbw og hv hz
        refine hK.out _ _ (⟨(M.out.2.2.2.2.2.2.2.2.1).at.1 0, (M.out.2.2.2.2.2.2.2.2.1).at.1 1, (M.out.2.2.2.2.2.2.2.2.1).at.1 2, (M.out.2.2.2.2.2.2.2.2.1).at.1 3, (M.out.2.2.2.2.2.2.2.2.1).at.1 4, (M.out.2.2.2.2.2.2.2.2.1).at.1 5, (M.out.2.2.2.2.2.2.2.2.1).at.1 6, (M.out.2.2.2.2.2.2.2.2.1).at.1 7⟩) (fun hH109 => ?_)
        clear hK K hH108
        (try simp only [Act.put, List.setIfInBounds_toArray, List.set_cons_zero, List.set_cons_succ])
        refine tk at9 ?_
        refine wpAnyH_done (by kernel_rfl) ?_ _
        clear hH109
        go_wp2_with fail
        go_meet
        exact ⟨w9.heap.size, x_85, x_86, x_87, x_88, q89, x_102, x_103, x_104, x_105, q106, rfl, rfl, Eq89, Eq106, Sq89, Sq106, (by omega), (M.out.2.1), (M.out.1), (M.out.2.2.1), (M.out.2.2.2.2.1), (M.out.2.2.2.2.2.1), (M.out.2.2.2.2.2.2.1), (M.out.2.2.2.2.2.2.2.1), (M.out.2.2.2.2.2.2.2.2.1), (M.out.2.2.2.2.2.2.2.2.2.1), (M.out.2.2.2.1), (M.out.2.2.2.2.2.2.2.2.2.2)⟩
      refine AllReadyH.cons at7 (fun K hK => ?_) AllReadyH.nil
      go_simp
      obtain ⟨w9, hv⟩ : ∃ w_ : World, w_ = (w8.alloc (.cells #[.int .i64 0, .slice none 0 0, .int .i64 0, .slice none 0 0] 26)) := ⟨_, rfl⟩
      rw [← hv]
      have ow4_ : A28 < w8.heap.size := ((M.out.1)).lt
      replace M := Lib.hid (And.intro (hv ▸ bx1 w8 26 #[.int .i64 0, .slice none 0 0, .int .i64 0, .slice none 0 0]) (Goes.go M.out (hv ▸ below_alloc _ _ : Below w8.heap.size w8 w9)))
      clear hv
      refine hK.out _ _ (⟨(M.out.2.2.2.2.2.2.1).at.1 0, (M.out.2.2.2.2.2.2.1).at.1 1, (M.out.2.2.2.2.2.2.1).at.1 2, (M.out.2.2.2.2.2.2.1).at.1 3, (M.out.2.2.2.2.2.2.1).at.1 4, (M.out.2.2.2.2.2.2.1).at.1 5, (M.out.2.2.2.2.2.2.1).at.1 6, (M.out.2.2.2.2.2.2.1).at.1 7⟩) (fun hH110 => ?_)
      clear hK K hH84
      (try simp only [Act.put, List.setIfInBounds_toArray, List.set_cons_zero, List.set_cons_succ])
      refine wpAnyH_ready (rs := [0]) (by kernel_rfl) (by simp) ?_
      refine AllReadyH.cons at0 (fun K hK => ?_) AllReadyH.nil
      go_simp
      obtain ⟨q115, eq115⟩ : ∃ v_ : Rat, v_ = ((1 : Int) : Rat) := ⟨_, rfl⟩
      refine (fqInt (G := G) (x := 1) (by decide)).mono ?_
      rintro e w10 ⟨x_111, x_112, x_113, x_114, rfl, hd116, hb⟩
      rw [← eq115] at hd116
      have Sq115 : Hid (Fz q115 4) := by show Fz q115 4; rw [eq115]; exact (Fz.int64 (by decide))
      have Eq115 := Lib.hid eq115; clear eq115
      replace M := Lib.hid (And.intro hd116 (Goes.go M.out hb))
      clear hb hd116
      (try go_wp2_with fail)
      refine hK.out _ _ (⟨(M.out.2.2.2.2.2.2.2.1).at.1 0, (M.out.2.2.2.2.2.2.2.1).at.1 1, (M.out.2.2.2.2.2.2.2.1).at.1 2, (M.out.2.2.2.2.2.2.2.1).at.1 3, (M.out.2.2.2.2.2.2.2.1).at.1 4, (M.out.2.2.2.2.2.2.2.1).at.1 5, (M.out.2.2.2.2.2.2.2.1).at.1 6, (M.out.2.2.2.2.2.2.2.1).at.1 7⟩) (fun hH117 => ?_)
      clear hK K hH110
      (try simp only [Act.put, List.setIfInBounds_toArray, List.set_cons_zero, List.set_cons_succ])
      refine wpAnyH_ready (rs := [3]) (by kernel_rfl) (by simp) ?_
      refine AllReadyH.cons at3 (fun K hK => ?_) AllReadyH.nil
      go_simp
      obtain ⟨q122, eq122⟩ : ∃ v_ : Rat, v_ = (q115 / r) := ⟨_, rfl⟩
      refine (fqDiv (G := G) (q := q115) (r := r) (Nat.le_trans hG (M.out.2.2.2.2.2.2.2.2.2).size) (M.out.1) (H3.out.keep (M.out.2.2.2.2.2.2.2.2.2)) (Fz.mono Sq115.out (by omega)) (Fz.mono HR.out (by omega)) HNr.out).mono ?_
      rintro e w11 ⟨x_118, x_119, x_120, x_121, rfl, hd123, hb⟩
      rw [← eq122] at hd123
      have Sq122 : Hid (Fz q122 17179869188) := by show Fz q122 17179869188; rw [eq122]; exact (Fz.div Sq115.out HR.out HNr.out)
      have Eq122 := Lib.hid eq122; clear eq122
      replace M := Lib.hid (And.intro hd123 (Goes.go M.out hb))
      clear hb hd123
      (try go_wp2_with fail)
      refine hK.out _ _ (⟨(M.out.2.2.2.2.2.2.2.2.1).at.1 0, (M.out.2.2.2.2.2.2.2.2.1).at.1 1, (M.out.2.2.2.2.2.2.2.2.1).at.1 2, (M.out.2.2.2.2.2.2.2.2.1).at.1 3, (M.out.2.2.2.2.2.2.2.2.1).at.1 4, (M.out.2.2.2.2.2.2.2.2.1).at.1 5, (M.out.2.2.2.2.2.2.2.2.1).at.1 6, (M.out.2.2.2.2.2.2.2.2.1).at.1 7⟩) (fun hH124 => ?_)
      clear hK K hH117
      (try simp only [Act.put, List.setIfInBounds_toArray, List.set_cons_zero, List.set_cons_succ])
      refine tk at4 ?_
      refine tk at5 ?_
      refine tk at6 ?_
      refine wpAnyH_ready (rs := [8]) (by kernel_rfl) (by simp) ?_
      refine AllReadyH.cons at8 (fun K hK => ?_) AllReadyH.nil
      have y4 := (M.out.2.2.1).c4; have p4_0 := y4.1; have q4_0 := y4.2.1; have p4_1 := y4.2.2.1; have q4_1 := y4.2.2.2.1; have p4_2 := y4.2.2.2.2.1; have q4_2 := y4.2.2.2.2.2.1; have p4_3 := y4.2.2.2.2.2.2.1; have q4_3 := y4.2.2.2.2.2.2.2; clear y4
      have ys_x_118 := TQ.st (M.out.1); have st_x_118 := ys_x_118.1; have st_x_119 := ys_x_118.2.1; have st_x_120 := ys_x_118.2.2.1; have st_x_121 := ys_x_118.2.2.2; clear ys_x_118
      go_simp
      clear p4_0 q4_0 p4_1 q4_1 p4_2 q4_2 p4_3 q4_3 st_x_118 st_x_119 st_x_120 st_x_121
      obtain ⟨w12, hv⟩ : ∃ w_ : World, w_ = ((((w11.setCell ⟨w8.heap.size, 0, none⟩ (x_118)).setCell ⟨w8.heap.size, 1, none⟩ (x_119)).setCell ⟨w8.heap.size, 2, none⟩ (x_120)).setCell ⟨w8.heap.size, 3, none⟩ (x_121)) := ⟨_, rfl⟩
      rw [← hv]
      have og : w11.grownBy w12 (some w8.heap.size) := by rw [hv]; exact (only_setCell (only_setCell (only_setCell (only_setCell (World.grownBy.refl _ _) _) _) _) _)
      have hz : w.heap.size ≤ w8.heap.size := by omega
      have hk : Bx w12 w8.heap.size 26 #[x_118, x_119, x_120, x_121] := by rw [hv]; exact (((((M.out.2.2.1).set 0 _).set 1 _).set 2 _).set 3 _)
      have hbw : Below w.heap.size w w12 := by rw [hv]; exact (Below.setCell (Below.setCell (Below.setCell (Below.setCell (M.out.2.2.2.2.2.2.2.2.2.2) (by omega) _) (by omega) _) (by omega) _) (by omega) _)
      replace M := Lib.hid (And.intro ((M.out.1).far (M.out.2.2.1) (by rfl) (by omega) og) (And.intro ((M.out.2.1).far (M.out.2.2.1) (by rfl) (by omega) og) (And.intro hk (And.intro ((M.out.2.2.2.1).only og (by omega)) (And.intro ((M.out.2.2.2.2.1).far (M.out.2.2.1) (by rfl) (by omega) og) (And.intro ((M.out.2.2.2.2.2.1).far (M.out.2.2.1) (by rfl) (by omega) og) (And.intro ((M.out.2.2.2.2.2.2.1).far (M.out.2.2.1) (by rfl) (by omega) og) (And.intro ((M.out.2.2.2.2.2.2.2.1).only og (by omega)) (And.intro ((M.out.2.2.2.2.2.2.2.2.1).only og (by omega)) (And.intro ((M.out.2.2.2.2.2.2.2.2.2.1).only og (by omega)) hbw))))))))))
      clear hk hbw og hv hz
      refine hK.out _ _ (⟨(M.out.2.2.2.2.2.2.2.2.1).at.1 0, (M.out.2.2.2.2.2.2.2.2.1).at.1 1, (M.out.2.2.2.2.2.2.2.2.1).at.1 2, (M.out.2.2.2.2.2.2.2.2.1).at.1 3, (M.out.2.2.2.2.2.2.2.2.1).at.1 4, (M.out.2.2.2.2.2.2.2.2.1).at.1 5, (M.out.2.2.2.2.2.2.2.2.1).at.1 6, (M.out.2.2.2.2.2.2.2.2.1).at.1 7⟩) (fun hH125 => ?_)
      clear hK K hH124
      (try simp only [Act.put, List.setIfInBounds_toArray, List.set_cons_zero, List.set_cons_succ])
      refine tk at9 ?_
      refine wpAnyH_done (by kernel_rfl) ?_ _
      clear hH125
      go_wp2_with fail
      go_meet
      exact ⟨w8.heap.size, x_111, x_112, x_113, x_114, q115, x_118, x_119, x_120, x_121, q122, rfl, rfl, Eq115, Eq122, Sq115, Sq122, (by omega), (M.out.2.2.1), (M.out.1), (M.out.2.1), (M.out.2.2.2.2.1), (M.out.2.2.2.2.2.1), (M.out.2.2.2.2.2.2.1), (M.out.2.2.2.2.2.2.2.1), (M.out.2.2.2.2.2.2.2.2.1), (M.out.2.2.2.2.2.2.2.2.2.1), (M.out.2.2.2.1), (M.out.2.2.2.2.2.2.2.2.2.2)⟩
    case rest =>
      obtain ⟨A83, x_71, x_72, x_73, x_74, q75, x_77, x_78, x_79, x_80, q81, rfl, rfl, Eq75, Eq81, Sq75, Sq81, oA83, M⟩ := hcut
      obtain ⟨w8, rfl⟩ : ∃ w_ : World, w_ = wc := ⟨_, rfl⟩
      have y0 := (M.out.2.2.2.2.2.2.1).d8; have p0_0 := y0.1; have p0_1 := y0.2.1; have p0_2 := y0.2.2.1; have p0_3 := y0.2.2.2.1; have p0_4 := y0.2.2.2.2.1; have p0_5 := y0.2.2.2.2.2.1; have p0_6 := y0.2.2.2.2.2.2.1; have p0_7 := y0.2.2.2.2.2.2.2; clear y0
      have y3 := (M.out.2.2.2.2.2.2.2.2.2.1).d4; have p3_0 := y3.1; have p3_1 := y3.2.1; have p3_2 := y3.2.2.1; have p3_3 := y3.2.2.2; clear y3
      have y4 := (M.out.1).d4; have p4_0 := y4.1; have p4_1 := y4.2.1; have p4_2 := y4.2.2.1; have p4_3 := y4.2.2.2; clear y4
      go_wp2_with fail
      clear p0_0 p0_1 p0_2 p0_3 p0_4 p0_5 p0_6 p0_7 p3_0 p3_1 p3_2 p3_3 p4_0 p4_1 p4_2 p4_3
      refine (spMul_q (G := G) (p := p) (q := q) (r := q26) (s := q81) (lo := lo) (hi := hi) (Nat.le_trans hG (M.out.2.2.2.2.2.2.2.2.2.2).size) (H1.out.keep (M.out.2.2.2.2.2.2.2.2.2.2)) (H2.out.keep (M.out.2.2.2.2.2.2.2.2.2.2)) (M.out.2.2.2.1) (M.out.2.1) (Fz.mono HP.out (by omega)) (Fz.mono HQ.out (by omega)) (Fz.mono Sq26.out (by omega)) (Fz.mono Sq81.out (by omega)) HAA.out (by rw [Eq81.out, Eq75.out, Eq26.out, Eq20.out]; exact HIV.out) (by rw [Eq81.out, Eq75.out, Eq26.out, Eq20.out]; exact HLO.out) (by rw [Eq81.out, Eq75.out, Eq26.out, Eq20.out]; exact HHI.out)).mono ?_
      rintro e w9 ⟨x_126, x_127, x_128, x_129, x_130, x_131, x_132, x_133, rfl, hd134, hd135, hb⟩
      replace M := Lib.hid (And.intro hd134 (And.intro hd135 (Goes.go M.out hb)))
      clear hb hd134 hd135
      have y2 := (M.out.2.2.2.2.2.2.2.2.2.2.1).c8; have p2_0 := y2.1; have q2_0 := y2.2.1; have p2_1 := y2.2.2.1; have q2_1 := y2.2.2.2.1; have p2_2 := y2.2.2.2.2.1; have q2_2 := y2.2.2.2.2.2.1; have p2_3 := y2.2.2.2.2.2.2.1; have q2_3 := y2.2.2.2.2.2.2.2.1; have p2_4 := y2.2.2.2.2.2.2.2.2.1; have q2_4 := y2.2.2.2.2.2.2.2.2.2.1; have p2_5 := y2.2.2.2.2.2.2.2.2.2.2.1; have q2_5 := y2.2.2.2.2.2.2.2.2.2.2.2.1; have p2_6 := y2.2.2.2.2.2.2.2.2.2.2.2.2.1; have q2_6 := y2.2.2.2.2.2.2.2.2.2.2.2.2.2.1; have p2_7 := y2.2.2.2.2.2.2.2.2.2.2.2.2.2.2.1; have q2_7 := y2.2.2.2.2.2.2.2.2.2.2.2.2.2.2.2; clear y2
      have ys_x_126 := TQ.st (M.out.1); have st_x_126 := ys_x_126.1; have st_x_127 := ys_x_126.2.1; have st_x_128 := ys_x_126.2.2.1; have st_x_129 := ys_x_126.2.2.2; clear ys_x_126
      have ys_x_130 := TQ.st (M.out.2.1); have st_x_130 := ys_x_130.1; have st_x_131 := ys_x_130.2.1; have st_x_132 := ys_x_130.2.2.1; have st_x_133 := ys_x_130.2.2.2; clear ys_x_130
      go_wp2_with fail
      clear p2_0 q2_0 p2_1 q2_1 p2_2 q2_2 p2_3 q2_3 p2_4 q2_4 p2_5 q2_5 p2_6 q2_6 p2_7 q2_7 st_x_126 st_x_127 st_x_128 st_x_129 st_x_130 st_x_131 st_x_132 st_x_133
      obtain ⟨w10, hv⟩ : ∃ w_ : World, w_ = ((((((((w9.setCell ⟨w.heap.size + 1 + 1, 0, none⟩ (x_126)).setCell ⟨w.heap.size + 1 + 1, 1, none⟩ (x_127)).setCell ⟨w.heap.size + 1 + 1, 2, none⟩ (x_128)).setCell ⟨w.heap.size + 1 + 1, 3, none⟩ (x_129)).setCell ⟨w.heap.size + 1 + 1, 4, none⟩ (x_130)).setCell ⟨w.heap.size + 1 + 1, 5, none⟩ (x_131)).setCell ⟨w.heap.size + 1 + 1, 6, none⟩ (x_132)).setCell ⟨w.heap.size + 1 + 1, 7, none⟩ (x_133)) := ⟨_, rfl⟩
      rw [← hv]
      have og : w9.grownBy w10 (some (w.heap.size + 1 + 1)) := by rw [hv]; exact (only_setCell (only_setCell (only_setCell (only_setCell (only_setCell (only_setCell (only_setCell (only_setCell (World.grownBy.refl _ _) _) _) _) _) _) _) _) _)
      have hz : w.heap.size ≤ w.heap.size + 1 + 1 := by omega
      have hk : Bx w10 (w.heap.size + 1 + 1) 28 #[x_126, x_127, x_128, x_129, x_130, x_131, x_132, x_133] := by rw [hv]; exact (((((((((M.out.2.2.2.2.2.2.2.2.2.2.1).set 0 _).set 1 _).set 2 _).set 3 _).set 4 _).set 5 _).set 6 _).set 7 _)
      have hbw : Below w.heap.size w w10 := by rw [hv]; exact (Below.setCell (Below.setCell (Below.setCell (Below.setCell (Below.setCell (Below.setCell (Below.setCell (Below.setCell (M.out.2.2.2.2.2.2.2.2.2.2.2.2) (by omega) _) (by omega) _) (by omega) _) (by omega) _) (by omega) _) (by omega) _) (by omega) _) (by omega) _)
      replace M := Lib.hid (And.intro ((M.out.1).far (M.out.2.2.2.2.2.2.2.2.2.2.1) (by rfl) (by omega) og) (And.intro ((M.out.2.1).far (M.out.2.2.2.2.2.2.2.2.2.2.1) (by rfl) (by omega) og) (And.intro ((M.out.2.2.1).only og (by omega)) (And.intro ((M.out.2.2.2.1).far (M.out.2.2.2.2.2.2.2.2.2.2.1) (by rfl) (by omega) og) (And.intro ((M.out.2.2.2.2.1).far (M.out.2.2.2.2.2.2.2.2.2.2.1) (by rfl) (by omega) og) (And.intro ((M.out.2.2.2.2.2.1).far (M.out.2.2.2.2.2.2.2.2.2.2.1) (by rfl) (by omega) og) (And.intro ((M.out.2.2.2.2.2.2.1).far (M.out.2.2.2.2.2.2.2.2.2.2.1) (by rfl) (by omega) og) (And.intro ((M.out.2.2.2.2.2.2.2.1).far (M.out.2.2.2.2.2.2.2.2.2.2.1) (by rfl) (by omega) og) (And.intro ((M.out.2.2.2.2.2.2.2.2.1).only og (by omega)) (And.intro ((M.out.2.2.2.2.2.2.2.2.2.1).only og (by omega)) (And.intro hk (And.intro ((M.out.2.2.2.2.2.2.2.2.2.2.2.1).only og (by omega)) hbw))))))))))))
      clear hk hbw og hv hz
      refine bodyPost_ret (results_box2 rfl _ _ (w.heap.size + 1 + 1) 28 _ _ _ rfl (M.out.2.2.2.2.2.2.2.2.2.2.1) Try.underlying28 rfl (by kernel_rfl)) rfl ?_
      exact ⟨x_126, x_127, x_128, x_129, x_130, x_131, x_132, x_133, rfl, (M.out.1), (M.out.2.1), (M.out.2.2.2.2.2.2.2.2.2.2.2.2)⟩
end Go.Proofs.Ytjbfngjlepafgaa
namespace Go.Proofs.Ytjbfngjlepafgaa
open Go.RowKit Go.Lib
variable {G : Nat}

theorem op_size {k : Nat} {p q r s lo hi : Rat} {n m : Nat} (hp : Fz p n) (hq : Fz q n) (hr : Fz r m) (hs : Fz s m) (h : opS k ⟨p, q⟩ ⟨r, s⟩ = some ⟨lo, hi⟩) : Fz lo (n + m + 4) ∧ Fz hi (n + m + 4) := by
  match k, h with
  | 0, h => cases h; exact ⟨(hp.add hr).mono (by omega), (hq.add hs).mono (by omega)⟩
  | 1, h => cases h; exact ⟨(hp.add hs.neg).mono (by omega), (hq.add hr.neg).mono (by omega)⟩
  | 2, h =>
    cases h
    exact ⟨(Fz.min4 (hp.mul hr) (hp.mul hs) (hq.mul hr) (hq.mul hs)).mono (by omega), (Fz.max4 (hp.mul hr) (hp.mul hs) (hq.mul hr) (hq.mul hs)).mono (by omega)⟩
  | 3, h =>
    obtain ⟨h0, h⟩ := divS_some h
    cases h
    have h1 : Fz 1 1 := Fz.int (x := 1) (n := 1) (by unfold Sz; decide) (by omega)
    have hd : ∀ y, hasS ⟨r, s⟩ y → Fz y m → Fz (1 / y) (1 + m) := fun y hy hz => h1.div hz (has_ne h0 hy)
    by_cases hrs : r ≤ s
    · have e1 := hd r (has_lo (a := ⟨r, s⟩) hrs) hr
      have e2 := hd s (has_hi (a := ⟨r, s⟩) hrs) hs
      exact ⟨(Fz.min4 (hp.mul e2) (hp.mul e1) (hq.mul e2) (hq.mul e1)).mono (by omega), (Fz.max4 (hp.mul e2) (hp.mul e1) (hq.mul e2) (hq.mul e1)).mono (by omega)⟩
    · have hr0 : r ≠ 0 ∨ r = 0 := by grind
      have hz : ∀ y : Rat, Fz y m → Fz (1 / y) (1 + m) := by
        intro y hy
        by_cases h2 : y = 0
        · subst h2
          rw [show (1 : Rat) / 0 = 0 by rw [Rat.div_def, Rat.inv_zero, Rat.mul_zero]]
          exact fz_zero (by omega)
        · exact h1.div hy h2
      exact ⟨(Fz.min4 (hp.mul (hz s hs)) (hp.mul (hz r hr)) (hq.mul (hz s hs)) (hq.mul (hz r hr))).mono (by omega), (Fz.max4 (hp.mul (hz s hs)) (hp.mul (hz r hr)) (hq.mul (hz s hs)) (hq.mul (hz r hr))).mono (by omega)⟩
  | 4, h => cases h; exact ⟨(Fz.minQ (hp.mono (by omega)) (hr.mono (by omega))), (Fz.minQ (hq.mono (by omega)) (hs.mono (by omega)))⟩
  | _ + 5, h => cases h; exact ⟨(Fz.maxQ (hp.mono (by omega)) (hr.mono (by omega))), (Fz.maxQ (hq.mono (by omega)) (hs.mono (by omega)))⟩
def fewF (n m : Nat) : Bool := decide ((n : Int) ≤ 4) && decide ((m : Int) ≤ 4)
theorem few_le {n m : Nat} (h : fewF n m = true) : n ≤ 4 ∧ m ≤ 4 := by simp [fewF] at h; omega
def rightX : Option Rat → Option Rat → Bool | some p, some q => decide (p ≤ q) | _, _ => false
theorem right_some {o1 o2 : Option Rat} (h : rightX o1 o2 = true) : ∃ p q, o1 = some p ∧ o2 = some q ∧ p ≤ q := by
  cases o1 <;> cases o2 <;> simp_all [rightX]
set_option maxRecDepth 100000 in
set_option maxHeartbeats 4000000 in
theorem spSame_o {u0 u1 u2 u3 u4 u5 u6 u7 v0 v1 v2 v3 v4 v5 v6 v7 : Value} {o1 o2 o3 o4 : Option Rat} {b_ : Bool} {w : World} (h1 : OQ G w u0 u1 u2 u3 o1) (h2 : OQ G w u4 u5 u6 u7 o2) (h3 : OQ G w v0 v1 v2 v3 o3) (h4 : OQ G w v4 v5 v6 v7 o4) (hz1 : Oz o1 1099511627776) (hz2 : Oz o2 1099511627776) (hz3 : Oz o3 1099511627776) (hz4 : Oz o4 1099511627776) (hb : (decide (o1 = o3) && decide (o2 = o4)) = b_) :
    Calls Try.prog 20 #[.agg #[u0, u1, u2, u3, u4, u5, u6, u7], .agg #[v0, v1, v2, v3, v4, v5, v6, v7]] w fun e w' => e = .returned (.bool b_) ∧ Below w.heap.size w w' := by
  have HZ1 := Lib.hid hz1; have HZ2 := Lib.hid hz2; have HZ3 := Lib.hid hz3; have HZ4 := Lib.hid hz4; clear hz1 hz2 hz3 hz4
  obtain ⟨b1, hb1⟩ : ∃ b, decide (o1 = o3) = b := ⟨_, rfl⟩
  obtain ⟨b2, hb2⟩ : ∃ b, decide (o2 = o4) = b := ⟨_, rfl⟩
  rw [hb1, hb2] at hb; subst hb
  have HB1 := Lib.hid hb1; have HB2 := Lib.hid hb2; clear hb1 hb2
  have H1 : Hid (OQ G w u0 u1 u2 u3 o1) := h1
  have H2 : Hid (OQ G w u4 u5 u6 u7 o2) := h2
  have H3 : Hid (OQ G w v0 v1 v2 v3 o3) := h3
  have H4 : Hid (OQ G w v4 v5 v6 v7 o4) := h4
  clear h1 h2 h3 h4
  have M : Hid (Below w.heap.size w w) := Below.refl _ _
  go_enter Try.func20, Try.ntmps20
  go_upto_region 1 with fail
  obtain ⟨w1, hv⟩ : ∃ w_ : World, w_ = ((w.alloc (.cells #[u0, u1, u2, u3, u4, u5, u6, u7] 28)).alloc (.cells #[v0, v1, v2, v3, v4, v5, v6, v7] 28)) := ⟨_, rfl⟩
  rw [← hv]
  have hbx := bx2 w 28 28 #[u0, u1, u2, u3, u4, u5, u6, u7] #[v0, v1, v2, v3, v4, v5, v6, v7]
  rw [← hv] at hbx
  have hbn : Below w.heap.size w w1 := by rw [hv]; exact (Below.alloc (Below.alloc (Below.refl _ _) (by simp <;> omega) _) (by simp <;> omega) _)
  replace M := Lib.hid (And.intro hbx.2 (And.intro hbx.1 (Goes.go M.out hbn)))
  clear hbx hbn
  clear hv
  have y0 := (M.out.2.1).d8; have p0_0 := y0.1; have p0_1 := y0.2.1; have p0_2 := y0.2.2.1; have p0_3 := y0.2.2.2.1; have p0_4 := y0.2.2.2.2.1; have p0_5 := y0.2.2.2.2.2.1; have p0_6 := y0.2.2.2.2.2.2.1; have p0_7 := y0.2.2.2.2.2.2.2; clear y0
  have y1 := (M.out.1).d8; have p1_0 := y1.1; have p1_1 := y1.2.1; have p1_2 := y1.2.2.1; have p1_3 := y1.2.2.2.1; have p1_4 := y1.2.2.2.2.1; have p1_5 := y1.2.2.2.2.2.1; have p1_6 := y1.2.2.2.2.2.2.1; have p1_7 := y1.2.2.2.2.2.2.2; clear y1
  go_wp2_with fail
  clear p0_0 p0_1 p0_2 p0_3 p0_4 p0_5 p0_6 p0_7 p1_0 p1_1 p1_2 p1_3 p1_4 p1_5 p1_6 p1_7
  refine (rfsame_o (G := G) (o := o1) (p := o3) (b_ := b1) (H1.out.keep (M.out.2.2)) (H3.out.keep (M.out.2.2)) (Oz.mono HZ1.out (by omega)) (Oz.mono HZ3.out (by omega)) HB1.out).mono ?_
  rintro e w2 ⟨rfl, hb⟩
  replace M := Lib.hid (Goes.go M.out hb)
  clear hb
  cases b1 with
  | false =>
    go_wp2_with fail
    go_ret
    exact ⟨rfl, (M.out.2.2)⟩
  | true =>
    have y0 := (M.out.2.1).d8; have p0_0 := y0.1; have p0_1 := y0.2.1; have p0_2 := y0.2.2.1; have p0_3 := y0.2.2.2.1; have p0_4 := y0.2.2.2.2.1; have p0_5 := y0.2.2.2.2.2.1; have p0_6 := y0.2.2.2.2.2.2.1; have p0_7 := y0.2.2.2.2.2.2.2; clear y0
    have y1 := (M.out.1).d8; have p1_0 := y1.1; have p1_1 := y1.2.1; have p1_2 := y1.2.2.1; have p1_3 := y1.2.2.2.1; have p1_4 := y1.2.2.2.2.1; have p1_5 := y1.2.2.2.2.2.1; have p1_6 := y1.2.2.2.2.2.2.1; have p1_7 := y1.2.2.2.2.2.2.2; clear y1
    go_wp2_with fail
    clear p0_0 p0_1 p0_2 p0_3 p0_4 p0_5 p0_6 p0_7 p1_0 p1_1 p1_2 p1_3 p1_4 p1_5 p1_6 p1_7
    refine (rfsame_o (G := G) (o := o2) (p := o4) (b_ := b2) (H2.out.keep (M.out.2.2)) (H4.out.keep (M.out.2.2)) (Oz.mono HZ2.out (by omega)) (Oz.mono HZ4.out (by omega)) HB2.out).mono ?_
    rintro e w3 ⟨rfl, hb⟩
    replace M := Lib.hid (Goes.go M.out hb)
    clear hb
    go_wp2_with fail
    go_ret
    exact ⟨rfl, (M.out.2.2)⟩
theorem spSame_q {u0 u1 u2 u3 u4 u5 u6 u7 v0 v1 v2 v3 v4 v5 v6 v7 : Value} {p q r s : Rat} {w : World} (h1 : FQ G w u0 u1 u2 u3 p) (h2 : FQ G w u4 u5 u6 u7 q) (h3 : FQ G w v0 v1 v2 v3 r) (h4 : FQ G w v4 v5 v6 v7 s) (hp : Fz p 1099511627776) (hq : Fz q 1099511627776) (e1 : p = r) (e2 : q = s) :
    Calls Try.prog 20 #[.agg #[u0, u1, u2, u3, u4, u5, u6, u7], .agg #[v0, v1, v2, v3, v4, v5, v6, v7]] w fun e w' => e = .returned (.bool true) ∧ Below w.heap.size w w' := by
  subst e1 e2
  exact spSame_o (o1 := some p) (o2 := some q) (o3 := some p) (o4 := some q) h1 h2 h3 h4 hp hq hp hq (by simp)
set_option maxRecDepth 100000 in
set_option maxHeartbeats 4000000 in
theorem spOf_q {x y : Int} {w : World} (_hG : G ≤ w.heap.size) (hx : (-9223372036854775808 ≤ x ∧ x ≤ 9223372036854775807)) (hy : (-9223372036854775808 ≤ y ∧ y ≤ 9223372036854775807)) :
    Calls Try.prog 31 #[.int .i64 x, .int .i64 y] w fun e w' => ∃ x0 x1 x2 x3 x4 x5 x6 x7, e = .returned (.agg #[x0, x1, x2, x3, x4, x5, x6, x7]) ∧ FQ G w' x0 x1 x2 x3 (x : Rat) ∧ FQ G w' x4 x5 x6 x7 (y : Rat) ∧ Below w.heap.size w w' := by
  have HX := Lib.hid hx; have HY := Lib.hid hy; clear hx hy
  have M : Hid (Below w.heap.size w w) := Below.refl _ _
  go_enter Try.func31, Try.ntmps31
  go_upto_region 1 with fail
  obtain ⟨w1, hv⟩ : ∃ w_ : World, w_ = (w.alloc (.cells #[.int .i64 0, .slice none 0 0, .int .i64 0, .slice none 0 0, .int .i64 0, .slice none 0 0, .int .i64 0, .slice none 0 0] 28)) := ⟨_, rfl⟩
  rw [← hv]
  replace M := Lib.hid (And.intro (hv ▸ bx1 w 28 #[.int .i64 0, .slice none 0 0, .int .i64 0, .slice none 0 0, .int .i64 0, .slice none 0 0, .int .i64 0, .slice none 0 0]) (Goes.go M.out (hv ▸ below_alloc _ _ : Below w.heap.size w w1)))
  clear hv
  go_wp2_with fail
  obtain ⟨q5, eq5⟩ : ∃ v_ : Rat, v_ = (x : Rat) := ⟨_, rfl⟩
  refine (rqInt (G := G) (x := x) HX.out).mono ?_
  rintro e w2 ⟨x_1, x_2, x_3, x_4, rfl, hd6, hb⟩
  rw [← eq5] at hd6
  have Sq5 : Hid (Fz q5 4) := by show Fz q5 4; rw [eq5]; exact (Fz.int64 HX.out)
  have Eq5 := Lib.hid eq5; clear eq5
  replace M := Lib.hid (And.intro hd6 (Goes.go M.out hb))
  clear hb hd6
  go_wp2_with fail
  obtain ⟨q11, eq11⟩ : ∃ v_ : Rat, v_ = (y : Rat) := ⟨_, rfl⟩
  refine (rqInt (G := G) (x := y) HY.out).mono ?_
  rintro e w3 ⟨x_7, x_8, x_9, x_10, rfl, hd12, hb⟩
  rw [← eq11] at hd12
  have Sq11 : Hid (Fz q11 4) := by show Fz q11 4; rw [eq11]; exact (Fz.int64 HY.out)
  have Eq11 := Lib.hid eq11; clear eq11
  replace M := Lib.hid (And.intro hd12 (Goes.go M.out hb))
  clear hb hd12
  have y0 := (M.out.2.2.1).c8; have p0_0 := y0.1; have q0_0 := y0.2.1; have p0_1 := y0.2.2.1; have q0_1 := y0.2.2.2.1; have p0_2 := y0.2.2.2.2.1; have q0_2 := y0.2.2.2.2.2.1; have p0_3 := y0.2.2.2.2.2.2.1; have q0_3 := y0.2.2.2.2.2.2.2.1; have p0_4 := y0.2.2.2.2.2.2.2.2.1; have q0_4 := y0.2.2.2.2.2.2.2.2.2.1; have p0_5 := y0.2.2.2.2.2.2.2.2.2.2.1; have q0_5 := y0.2.2.2.2.2.2.2.2.2.2.2.1; have p0_6 := y0.2.2.2.2.2.2.2.2.2.2.2.2.1; have q0_6 := y0.2.2.2.2.2.2.2.2.2.2.2.2.2.1; have p0_7 := y0.2.2.2.2.2.2.2.2.2.2.2.2.2.2.1; have q0_7 := y0.2.2.2.2.2.2.2.2.2.2.2.2.2.2.2; clear y0
  have ys_x_1 := TQ.st (M.out.2.1); have st_x_1 := ys_x_1.1; have st_x_2 := ys_x_1.2.1; have st_x_3 := ys_x_1.2.2.1; have st_x_4 := ys_x_1.2.2.2; clear ys_x_1
  have ys_x_7 := TQ.st (M.out.1); have st_x_7 := ys_x_7.1; have st_x_8 := ys_x_7.2.1; have st_x_9 := ys_x_7.2.2.1; have st_x_10 := ys_x_7.2.2.2; clear ys_x_7
  go_wp2_with fail
  clear p0_0 q0_0 p0_1 q0_1 p0_2 q0_2 p0_3 q0_3 p0_4 q0_4 p0_5 q0_5 p0_6 q0_6 p0_7 q0_7 st_x_1 st_x_2 st_x_3 st_x_4 st_x_7 st_x_8 st_x_9 st_x_10
  obtain ⟨w4, hv⟩ : ∃ w_ : World, w_ = ((((((((w3.setCell ⟨w.heap.size, 0, none⟩ (x_1)).setCell ⟨w.heap.size, 1, none⟩ (x_2)).setCell ⟨w.heap.size, 2, none⟩ (x_3)).setCell ⟨w.heap.size, 3, none⟩ (x_4)).setCell ⟨w.heap.size, 4, none⟩ (x_7)).setCell ⟨w.heap.size, 5, none⟩ (x_8)).setCell ⟨w.heap.size, 6, none⟩ (x_9)).setCell ⟨w.heap.size, 7, none⟩ (x_10)) := ⟨_, rfl⟩
  rw [← hv]
  have og : w3.grownBy w4 (some w.heap.size) := by rw [hv]; exact (only_setCell (only_setCell (only_setCell (only_setCell (only_setCell (only_setCell (only_setCell (only_setCell (World.grownBy.refl _ _) _) _) _) _) _) _) _) _)
  have hz : w.heap.size ≤ w.heap.size := by exact Nat.le_refl _
  have hk : Bx w4 w.heap.size 28 #[x_1, x_2, x_3, x_4, x_7, x_8, x_9, x_10] := by rw [hv]; exact (((((((((M.out.2.2.1).set 0 _).set 1 _).set 2 _).set 3 _).set 4 _).set 5 _).set 6 _).set 7 _)
  have hbw : Below w.heap.size w w4 := by rw [hv]; exact (Below.setCell (Below.setCell (Below.setCell (Below.setCell (Below.setCell (Below.setCell (Below.setCell (Below.setCell (M.out.2.2.2) (by omega) _) (by omega) _) (by omega) _) (by omega) _) (by omega) _) (by omega) _) (by omega) _) (by omega) _)
  replace M := Lib.hid (And.intro ((M.out.1).far (M.out.2.2.1) (by rfl) (by omega) og) (And.intro ((M.out.2.1).far (M.out.2.2.1) (by rfl) (by omega) og) (And.intro hk hbw)))
  clear hk hbw og hv hz
  refine bodyPost_ret (results_box1 rfl _ _ w.heap.size 28 _ _ _ rfl (M.out.2.2.1) Try.underlying28 rfl (by kernel_rfl)) rfl ?_
  exact ⟨x_1, x_2, x_3, x_4, x_7, x_8, x_9, x_10, rfl, (by have h_ := (M.out.2.1); rw [Eq5.out] at h_; exact h_), (by have h_ := (M.out.1); rw [Eq11.out] at h_; exact h_), (M.out.2.2.2)⟩
set_option maxRecDepth 100000 in
set_option maxHeartbeats 4000000 in
theorem spIs_q {u0 u1 u2 u3 u4 u5 u6 u7 : Value} {p q : Rat} {x y : Int} {w : World} (hG : G ≤ w.heap.size) (h1 : FQ G w u0 u1 u2 u3 p) (h2 : FQ G w u4 u5 u6 u7 q) (hp : Fz p 137438953472) (hq : Fz q 137438953472) (hx : (-9223372036854775808 ≤ x ∧ x ≤ 9223372036854775807)) (hy : (-9223372036854775808 ≤ y ∧ y ≤ 9223372036854775807)) (e1 : p = (x : Rat)) (e2 : q = (y : Rat)) :
    Calls Try.prog 35 #[.agg #[u0, u1, u2, u3, u4, u5, u6, u7], .int .i64 x, .int .i64 y] w fun e w' => e = .returned (.bool true) ∧ Below w.heap.size w w' := by
  have HP := Lib.hid hp; have HQ := Lib.hid hq; have HX := Lib.hid hx; have HY := Lib.hid hy; have HPE := Lib.hid e1; have HQE := Lib.hid e2; clear hp hq hx hy e1 e2
  have H1 : Hid (FQ G w u0 u1 u2 u3 p) := h1
  have H2 : Hid (FQ G w u4 u5 u6 u7 q) := h2
  clear h1 h2
  have M : Hid (Below w.heap.size w w) := Below.refl _ _
  go_enter Try.func35, Try.ntmps35
  go_wp2_with fail
  obtain ⟨w1, hv⟩ : ∃ w_ : World, w_ = (w.alloc (.cells #[u0, u1, u2, u3, u4, u5, u6, u7] 28)) := ⟨_, rfl⟩
  rw [← hv]
  replace M := Lib.hid (And.intro (hv ▸ bx1 w 28 #[u0, u1, u2, u3, u4, u5, u6, u7]) (Goes.go M.out (hv ▸ below_alloc _ _ : Below w.heap.size w w1)))
  clear hv
  obtain ⟨w2, hv⟩ : ∃ w_ : World, w_ = w1.drew := ⟨_, rfl⟩
  replace M := Lib.hid (Goes.go M.out (hv ▸ below_drew _ : Below w1.heap.size w1 w2))
  refine wp_region_held_drew (S := (fun w' => w'.cell? ⟨w.heap.size, 0, none⟩ = some (u0) ∧ w'.cell? ⟨w.heap.size, 1, none⟩ = some (u1) ∧ w'.cell? ⟨w.heap.size, 2, none⟩ = some (u2) ∧ w'.cell? ⟨w.heap.size, 3, none⟩ = some (u3) ∧ w'.cell? ⟨w.heap.size, 4, none⟩ = some (u4) ∧ w'.cell? ⟨w.heap.size, 5, none⟩ = some (u5) ∧ w'.cell? ⟨w.heap.size, 6, none⟩ = some (u6) ∧ w'.cell? ⟨w.heap.size, 7, none⟩ = some (u7))) (by kernel_rfl) (by rw [← hv]; exact ⟨(M.out.1).at.1 0, (M.out.1).at.1 1, (M.out.1).at.1 2, (M.out.1).at.1 3, (M.out.1).at.1 4, (M.out.1).at.1 5, (M.out.1).at.1 6, (M.out.1).at.1 7⟩) (fun hH13 => ?_)
  rw [← hv] at hH13 ⊢
  clear hv
  refine tk at0 ?_
  refine tk at1 ?_
  refine tk at2 ?_
  refine wpAnyH_ready (rs := [3]) (by kernel_rfl) (by simp) ?_
  refine AllReadyH.cons at3 (fun K hK => ?_) AllReadyH.nil
  go_simp
  obtain ⟨q22, eq22⟩ : ∃ v_ : Rat, v_ = (x : Rat) := ⟨_, rfl⟩
  obtain ⟨q23, eq23⟩ : ∃ v_ : Rat, v_ = (y : Rat) := ⟨_, rfl⟩
  refine (spOf_q (G := G) (x := x) (y := y) (Nat.le_trans hG (M.out.2).size) HX.out HY.out).mono ?_
  rintro e w3 ⟨x_14, x_15, x_16, x_17, x_18, x_19, x_20, x_21, rfl, hd24, hd25, hb⟩
  rw [← eq22] at hd24
  have Sq22 : Hid (Fz q22 4) := by show Fz q22 4; rw [eq22]; exact (Fz.int64 HX.out)
  have Eq22 := Lib.hid eq22; clear eq22
  rw [← eq23] at hd25
  have Sq23 : Hid (Fz q23 4) := by show Fz q23 4; rw [eq23]; exact (Fz.int64 HY.out)
  have Eq23 := Lib.hid eq23; clear eq23
  replace M := Lib.hid (And.intro hd24 (And.intro hd25 (Goes.go M.out hb)))
  clear hb hd24 hd25
  (try go_wp2_with fail)
  refine hK.out _ _ (⟨(M.out.2.2.1).at.1 0, (M.out.2.2.1).at.1 1, (M.out.2.2.1).at.1 2, (M.out.2.2.1).at.1 3, (M.out.2.2.1).at.1 4, (M.out.2.2.1).at.1 5, (M.out.2.2.1).at.1 6, (M.out.2.2.1).at.1 7⟩) (fun hH26 => ?_)
  clear hK K hH13
  (try simp only [Act.put, List.setIfInBounds_toArray, List.set_cons_zero, List.set_cons_succ])
  refine wpAnyH_ready (rs := [4]) (by kernel_rfl) (by simp) ?_
  refine AllReadyH.cons at4 (fun K hK => ?_) AllReadyH.nil
  go_simp
  refine (spSame_q (G := G) (p := p) (q := q) (r := q22) (s := q23) (H1.out.keep (M.out.2.2.2)) (H2.out.keep (M.out.2.2.2)) (M.out.1) (M.out.2.1) (Fz.mono HP.out (by omega)) (Fz.mono HQ.out (by omega)) (Eq22.out.trans HPE.out.symm).symm (Eq23.out.trans HQE.out.symm).symm).mono ?_
  rintro e w4 ⟨rfl, hb⟩
  replace M := Lib.hid (Goes.go M.out hb)
  clear hb
  (try go_wp2_with fail)
  refine hK.out _ _ (⟨(M.out.2.2.1).at.1 0, (M.out.2.2.1).at.1 1, (M.out.2.2.1).at.1 2, (M.out.2.2.1).at.1 3, (M.out.2.2.1).at.1 4, (M.out.2.2.1).at.1 5, (M.out.2.2.1).at.1 6, (M.out.2.2.1).at.1 7⟩) (fun hH27 => ?_)
  clear hK K hH26
  (try simp only [Act.put, List.setIfInBounds_toArray, List.set_cons_zero, List.set_cons_succ])
  refine tk at5 ?_
  refine wpAnyH_done (by kernel_rfl) ?_ _
  clear hH27
  go_wp2_with fail
  go_ret
  exact ⟨rfl, (M.out.2.2.2)⟩
set_option maxRecDepth 100000 in
set_option maxHeartbeats 4000000 in
theorem rFew_x {u0 u1 u2 u3 u4 u5 u6 u7 : Value} {n1 m1 n2 m2 : Nat} {o1 o2 : Option Rat} {f1 f2 b_ : Bool} {w : World} (h1 : FX w u0 u1 u2 u3 n1 m1 o1) (h2 : FX w u4 u5 u6 u7 n2 m2 o2) (hf1 : fewF n1 m1 = f1) (hf2 : fewF n2 m2 = f2) (hb : (f1 && f2) = b_) :
    Calls Try.prog 15 #[.agg #[u0, u1, u2, u3, u4, u5, u6, u7], .int .i64 4] w fun e w' => e = .returned (.bool b_) ∧ Below w.heap.size w w' := by
  have HF1 := Lib.hid hf1; have HF2 := Lib.hid hf2; clear hf1 hf2; subst hb
  have H1 : Hid (FX w u0 u1 u2 u3 n1 m1 o1) := h1
  have H2 : Hid (FX w u4 u5 u6 u7 n2 m2 o2) := h2
  clear h1 h2
  have M : Hid (Below w.heap.size w w) := Below.refl _ _
  go_enter Try.func15, Try.ntmps15
  go_upto_region 1 with fail
  obtain ⟨w1, hv⟩ : ∃ w_ : World, w_ = (w.alloc (.cells #[u0, u1, u2, u3, u4, u5, u6, u7] 28)) := ⟨_, rfl⟩
  rw [← hv]
  replace M := Lib.hid (And.intro (hv ▸ bx1 w 28 #[u0, u1, u2, u3, u4, u5, u6, u7]) (Goes.go M.out (hv ▸ below_alloc _ _ : Below w.heap.size w w1)))
  clear hv
  have y0 := (M.out.1).d8; have p0_0 := y0.1; have p0_1 := y0.2.1; have p0_2 := y0.2.2.1; have p0_3 := y0.2.2.2.1; have p0_4 := y0.2.2.2.2.1; have p0_5 := y0.2.2.2.2.2.1; have p0_6 := y0.2.2.2.2.2.2.1; have p0_7 := y0.2.2.2.2.2.2.2; clear y0
  go_wp2_with fail
  clear p0_0 p0_1 p0_2 p0_3 p0_4 p0_5 p0_6 p0_7
  refine (fxFew_ok (o := o1) (k := 4) (r := f1) (H1.out.keep (M.out.2)) HF1.out).mono ?_
  rintro e w2 ⟨rfl, hb⟩
  replace M := Lib.hid (Goes.go M.out hb)
  clear hb
  cases f1 with
  | false =>
    go_wp2_with fail
    go_ret
    exact ⟨rfl, (M.out.2)⟩
  | true =>
    have y0 := (M.out.1).d8; have p0_0 := y0.1; have p0_1 := y0.2.1; have p0_2 := y0.2.2.1; have p0_3 := y0.2.2.2.1; have p0_4 := y0.2.2.2.2.1; have p0_5 := y0.2.2.2.2.2.1; have p0_6 := y0.2.2.2.2.2.2.1; have p0_7 := y0.2.2.2.2.2.2.2; clear y0
    go_wp2_with fail
    clear p0_0 p0_1 p0_2 p0_3 p0_4 p0_5 p0_6 p0_7
    refine (fxFew_ok (o := o2) (k := 4) (r := f2) (H2.out.keep (M.out.2)) HF2.out).mono ?_
    rintro e w3 ⟨rfl, hb⟩
    replace M := Lib.hid (Goes.go M.out hb)
    clear hb
    go_wp2_with fail
    go_ret
    exact ⟨rfl, (M.out.2)⟩
set_option maxRecDepth 100000 in
set_option maxHeartbeats 4000000 in
theorem few_x {u0 u1 u2 u3 u4 u5 u6 u7 v0 v1 v2 v3 v4 v5 v6 v7 : Value} {n1 m1 n2 m2 n3 m3 n4 m4 : Nat} {o1 o2 o3 o4 : Option Rat} {f1 f2 f3 f4 fa fb b_ : Bool} {w : World} (h1 : FX w u0 u1 u2 u3 n1 m1 o1) (h2 : FX w u4 u5 u6 u7 n2 m2 o2) (h3 : FX w v0 v1 v2 v3 n3 m3 o3) (h4 : FX w v4 v5 v6 v7 n4 m4 o4) (hf1 : fewF n1 m1 = f1) (hf2 : fewF n2 m2 = f2) (hf3 : fewF n3 m3 = f3) (hf4 : fewF n4 m4 = f4) (ha : (f1 && f2) = fa) (hb : (f3 && f4) = fb) (hc : (fa && fb) = b_) :
    Calls Try.prog 9 #[.agg #[u0, u1, u2, u3, u4, u5, u6, u7], .agg #[v0, v1, v2, v3, v4, v5, v6, v7]] w fun e w' => e = .returned (.bool b_) ∧ Below w.heap.size w w' := by
  have HF1 := Lib.hid hf1; have HF2 := Lib.hid hf2; have HF3 := Lib.hid hf3; have HF4 := Lib.hid hf4; have HA := Lib.hid ha; have HB := Lib.hid hb; clear hf1 hf2 hf3 hf4 ha hb; subst hc
  have H1 : Hid (FX w u0 u1 u2 u3 n1 m1 o1) := h1
  have H2 : Hid (FX w u4 u5 u6 u7 n2 m2 o2) := h2
  have H3 : Hid (FX w v0 v1 v2 v3 n3 m3 o3) := h3
  have H4 : Hid (FX w v4 v5 v6 v7 n4 m4 o4) := h4
  clear h1 h2 h3 h4
  have M : Hid (Below w.heap.size w w) := Below.refl _ _
  go_enter Try.func9, Try.ntmps9
  go_upto_region 1 with fail
  obtain ⟨w1, hv⟩ : ∃ w_ : World, w_ = ((w.alloc (.cells #[u0, u1, u2, u3, u4, u5, u6, u7] 28)).alloc (.cells #[v0, v1, v2, v3, v4, v5, v6, v7] 28)) := ⟨_, rfl⟩
  rw [← hv]
  have hbx := bx2 w 28 28 #[u0, u1, u2, u3, u4, u5, u6, u7] #[v0, v1, v2, v3, v4, v5, v6, v7]
  rw [← hv] at hbx
  have hbn : Below w.heap.size w w1 := by rw [hv]; exact (Below.alloc (Below.alloc (Below.refl _ _) (by simp <;> omega) _) (by simp <;> omega) _)
  replace M := Lib.hid (And.intro hbx.2 (And.intro hbx.1 (Goes.go M.out hbn)))
  clear hbx hbn
  clear hv
  have y0 := (M.out.2.1).d8; have p0_0 := y0.1; have p0_1 := y0.2.1; have p0_2 := y0.2.2.1; have p0_3 := y0.2.2.2.1; have p0_4 := y0.2.2.2.2.1; have p0_5 := y0.2.2.2.2.2.1; have p0_6 := y0.2.2.2.2.2.2.1; have p0_7 := y0.2.2.2.2.2.2.2; clear y0
  go_wp2_with fail
  clear p0_0 p0_1 p0_2 p0_3 p0_4 p0_5 p0_6 p0_7
  refine (rFew_x (o1 := o1) (o2 := o2) (f1 := f1) (f2 := f2) (b_ := fa) (H1.out.keep (M.out.2.2)) (H2.out.keep (M.out.2.2)) HF1.out HF2.out HA.out).mono ?_
  rintro e w2 ⟨rfl, hb⟩
  replace M := Lib.hid (Goes.go M.out hb)
  clear hb
  cases fa with
  | false =>
    go_wp2_with fail
    go_ret
    exact ⟨rfl, (M.out.2.2)⟩
  | true =>
    have y1 := (M.out.1).d8; have p1_0 := y1.1; have p1_1 := y1.2.1; have p1_2 := y1.2.2.1; have p1_3 := y1.2.2.2.1; have p1_4 := y1.2.2.2.2.1; have p1_5 := y1.2.2.2.2.2.1; have p1_6 := y1.2.2.2.2.2.2.1; have p1_7 := y1.2.2.2.2.2.2.2; clear y1
    go_wp2_with fail
    clear p1_0 p1_1 p1_2 p1_3 p1_4 p1_5 p1_6 p1_7
    refine (rFew_x (o1 := o3) (o2 := o4) (f1 := f3) (f2 := f4) (b_ := fb) (H3.out.keep (M.out.2.2)) (H4.out.keep (M.out.2.2)) HF3.out HF4.out HB.out).mono ?_
    rintro e w3 ⟨rfl, hb⟩
    replace M := Lib.hid (Goes.go M.out hb)
    clear hb
    go_wp2_with fail
    go_ret
    exact ⟨rfl, (M.out.2.2)⟩
set_option maxRecDepth 100000 in
set_option maxHeartbeats 4000000 in
theorem rightx_1 {u0 u1 u2 u3 u4 u5 u6 u7 : Value} {n1 m1 n2 m2 : Nat} {o1 o2 : Option Rat} {w : World} (h1 : FX w u0 u1 u2 u3 n1 m1 o1) (h2 : FX w u4 u5 u6 u7 n2 m2 o2) (hz1 : fewF n1 m1 = true) (ho : o1.isSome = false) :
    Calls Try.prog 16 #[.agg #[u0, u1, u2, u3, u4, u5, u6, u7]] w fun e w' => e = .returned (.bool false) ∧ Below w.heap.size w w' := by
  have hz := few_le hz1; have HO := Lib.hid ho; clear ho hz1
  have H1 : Hid (FX w u0 u1 u2 u3 n1 m1 o1) := h1
  have H2 : Hid (FX w u4 u5 u6 u7 n2 m2 o2) := h2
  clear h1 h2
  have M : Hid (Below w.heap.size w w) := Below.refl _ _
  go_enter Try.func16, Try.ntmps16
  go_upto_region 1 with fail
  obtain ⟨w1, hv⟩ : ∃ w_ : World, w_ = (w.alloc (.cells #[u0, u1, u2, u3, u4, u5, u6, u7] 28)) := ⟨_, rfl⟩
  rw [← hv]
  replace M := Lib.hid (And.intro (hv ▸ bx1 w 28 #[u0, u1, u2, u3, u4, u5, u6, u7]) (Goes.go M.out (hv ▸ below_alloc _ _ : Below w.heap.size w w1)))
  clear hv
  have y0 := (M.out.1).d8; have p0_0 := y0.1; have p0_1 := y0.2.1; have p0_2 := y0.2.2.1; have p0_3 := y0.2.2.2.1; have p0_4 := y0.2.2.2.2.1; have p0_5 := y0.2.2.2.2.2.1; have p0_6 := y0.2.2.2.2.2.2.1; have p0_7 := y0.2.2.2.2.2.2.2; clear y0
  go_wp2_with fail
  clear p0_0 p0_1 p0_2 p0_3 p0_4 p0_5 p0_6 p0_7
  refine (fxRight_ok (o := o1) (b_ := false) (H1.out.keep (M.out.2)) (by omega) (by omega) HO.out).mono ?_
  rintro e w2 ⟨rfl, hb⟩
  replace M := Lib.hid (Goes.go M.out hb)
  clear hb
  go_wp2_with fail
  go_ret
  exact ⟨rfl, (M.out.2)⟩
set_option maxRecDepth 100000 in
set_option maxHeartbeats 4000000 in
theorem rightx_2 {u0 u1 u2 u3 u4 u5 u6 u7 : Value} {n1 m1 n2 m2 : Nat} {o1 o2 : Option Rat} {w : World} (h1 : FX w u0 u1 u2 u3 n1 m1 o1) (h2 : FX w u4 u5 u6 u7 n2 m2 o2) (hz1 : fewF n1 m1 = true) (hz2 : fewF n2 m2 = true) (ho : o1.isSome = true) (ho2 : o2.isSome = false) :
    Calls Try.prog 16 #[.agg #[u0, u1, u2, u3, u4, u5, u6, u7]] w fun e w' => e = .returned (.bool false) ∧ Below w.heap.size w w' := by
  have hz := few_le hz1; have hz3 := few_le hz2; have HO := Lib.hid ho; have HO2 := Lib.hid ho2; clear ho ho2 hz1 hz2
  have H1 : Hid (FX w u0 u1 u2 u3 n1 m1 o1) := h1
  have H2 : Hid (FX w u4 u5 u6 u7 n2 m2 o2) := h2
  clear h1 h2
  have M : Hid (Below w.heap.size w w) := Below.refl _ _
  go_enter Try.func16, Try.ntmps16
  go_upto_region 1 with fail
  obtain ⟨w1, hv⟩ : ∃ w_ : World, w_ = (w.alloc (.cells #[u0, u1, u2, u3, u4, u5, u6, u7] 28)) := ⟨_, rfl⟩
  rw [← hv]
  replace M := Lib.hid (And.intro (hv ▸ bx1 w 28 #[u0, u1, u2, u3, u4, u5, u6, u7]) (Goes.go M.out (hv ▸ below_alloc _ _ : Below w.heap.size w w1)))
  clear hv
  have y0 := (M.out.1).d8; have p0_0 := y0.1; have p0_1 := y0.2.1; have p0_2 := y0.2.2.1; have p0_3 := y0.2.2.2.1; have p0_4 := y0.2.2.2.2.1; have p0_5 := y0.2.2.2.2.2.1; have p0_6 := y0.2.2.2.2.2.2.1; have p0_7 := y0.2.2.2.2.2.2.2; clear y0
  go_wp2_with fail
  clear p0_0 p0_1 p0_2 p0_3 p0_4 p0_5 p0_6 p0_7
  refine (fxRight_ok (o := o1) (b_ := true) (H1.out.keep (M.out.2)) (by omega) (by omega) HO.out).mono ?_
  rintro e w2 ⟨rfl, hb⟩
  replace M := Lib.hid (Goes.go M.out hb)
  clear hb
  have y0 := (M.out.1).d8; have p0_0 := y0.1; have p0_1 := y0.2.1; have p0_2 := y0.2.2.1; have p0_3 := y0.2.2.2.1; have p0_4 := y0.2.2.2.2.1; have p0_5 := y0.2.2.2.2.2.1; have p0_6 := y0.2.2.2.2.2.2.1; have p0_7 := y0.2.2.2.2.2.2.2; clear y0
  go_wp2_with fail
  clear p0_0 p0_1 p0_2 p0_3 p0_4 p0_5 p0_6 p0_7
  refine (fxRight_ok (o := o2) (b_ := false) (H2.out.keep (M.out.2)) (by omega) (by omega) HO2.out).mono ?_
  rintro e w3 ⟨rfl, hb⟩
  replace M := Lib.hid (Goes.go M.out hb)
  clear hb
  go_wp2_with fail
  go_ret
  exact ⟨rfl, (M.out.2)⟩
theorem spRight_x {u0 u1 u2 u3 u4 u5 u6 u7 : Value} {n1 m1 n2 m2 : Nat} {o1 o2 : Option Rat} {b_ : Bool} {w : World} (h1 : FX w u0 u1 u2 u3 n1 m1 o1) (h2 : FX w u4 u5 u6 u7 n2 m2 o2) (hz1 : fewF n1 m1 = true) (hz2 : fewF n2 m2 = true) (hb : rightX o1 o2 = b_) :
    Calls Try.prog 16 #[.agg #[u0, u1, u2, u3, u4, u5, u6, u7]] w fun e w' => e = .returned (.bool b_) ∧ Below w.heap.size w w' := by
  have k1 := few_le hz1
  have k2 := few_le hz2
  subst hb
  cases o1 with
  | none => exact rightx_1 h1 h2 hz1 rfl
  | some p =>
    cases o2 with
    | none => exact rightx_2 h1 h2 hz1 hz2 rfl rfl
    | some q => exact spRight_q h1.fq h2.fq (h1.fz (by omega) (by omega)) (h2.fz (by omega) (by omega)) rfl
end Go.Proofs.Ytjbfngjlepafgaa
