/- Walks: an operation by its number, on spans and on fractions. -/
import Derived.Test.YtjbfngjlepafgaaBase
import Derived.Test.YtjbfngjlepafgaaBigSpec
import Derived.Test.YtjbfngjlepafgaaBigB
import Derived.Test.YtjbfngjlepafgaaBigC
import Derived.Test.YtjbfngjlepafgaaBigD
import Derived.Test.YtjbfngjlepafgaaBigK
import Derived.Test.YtjbfngjlepafgaaBigL
import Derived.Test.YtjbfngjlepafgaaBigQ
import Derived.Test.YtjbfngjlepafgaaFracA
import Derived.Test.YtjbfngjlepafgaaFracC
import Derived.Test.YtjbfngjlepafgaaFz
import Derived.Test.YtjbfngjlepafgaaAw
import Derived.Test.YtjbfngjlepafgaaFracD
import Derived.Test.YtjbfngjlepafgaaFracR
import Derived.Test.YtjbfngjlepafgaaRefJ
import Derived.Test.YtjbfngjlepafgaaFq
import Derived.Test.YtjbfngjlepafgaaSpanPlain
import Derived.Test.YtjbfngjlepafgaaSpanB
import Derived.Test.YtjbfngjlepafgaaSpanC
import Derived.Test.YtjbfngjlepafgaaSpanE
import Derived.Test.YtjbfngjlepafgaaProg
import Derived.WalkKit
import Derived.WalkSpells
import Derived.WalkLawsBesides
import Derived.Handy
import Derived.Lib.Hide
import Derived.Lib.Strings
import Derived.Lib.Builder
import Derived.BigQuiet
import Derived.OwnWalk
import Derived.Laws.BitsLemmas
import Derived.WalkSmall
import Derived.Deep.QuietTactic
import Derived.StillTailTactics
import Derived.Maps.AppendAt
import Derived.IntWalk
import Derived.Deep.RegionHeld3
import Derived.Deep.DeepFit
import Derived.Deep.LoopGhost
import Derived.Deep.DeepCutAuto
import Derived.Lib.ItoaNum
import Derived.Lib.Repeat
import Derived.Lib.AppendIntMem
import Derived.Sort.OwnSorted
import Derived.Shelf.Strings.SlTrimAscii
import Derived.Lib.ConvBytes
import Derived.Lib.CutLaws
namespace Go.Proofs.Ytjbfngjlepafgaa
open Go.RowKit Go.Lib
variable {G : Nat}

set_option maxRecDepth 100000 in
set_option maxHeartbeats 4000000 in
theorem play_0 {u0 u1 u2 u3 u4 u5 u6 u7 v0 v1 v2 v3 v4 v5 v6 v7 : Value} {p q r s : Rat} {lo hi : Rat} {w : World} (hG : G ≤ w.heap.size) (h1 : FQ G w u0 u1 u2 u3 p) (h2 : FQ G w u4 u5 u6 u7 q) (h3 : FQ G w v0 v1 v2 v3 r) (h4 : FQ G w v4 v5 v6 v7 s) (hp : Fz p 17179869184) (hq : Fz q 17179869184) (hr : Fz r 17179869184) (hs : Fz s 17179869184) (ha : p ≤ q) (hb : r ≤ s) (hlo : p + r = lo) (hhi : q + s = hi)  :
    Calls Try.prog 11 #[.int .i64 0, .agg #[u0, u1, u2, u3, u4, u5, u6, u7], .agg #[v0, v1, v2, v3, v4, v5, v6, v7]] w fun e w' => ∃ x0 x1 x2 x3 x4 x5 x6 x7, e = .returned (.tuple #[.agg #[x0, x1, x2, x3, x4, x5, x6, x7], .int .i64 0]) ∧ FQ G w' x0 x1 x2 x3 lo ∧ FQ G w' x4 x5 x6 x7 hi ∧ Below w.heap.size w w' := by
  have HP := Lib.hid hp; have HQ := Lib.hid hq; have HR := Lib.hid hr; have HS := Lib.hid hs; have HAA := Lib.hid ha; have HBB := Lib.hid hb; clear hp hq hr hs ha hb
  have HLO := Lib.hid hlo; have HHI := Lib.hid hhi; clear hlo hhi
  have H1 : Hid (FQ G w u0 u1 u2 u3 p) := h1
  have H2 : Hid (FQ G w u4 u5 u6 u7 q) := h2
  have H3 : Hid (FQ G w v0 v1 v2 v3 r) := h3
  have H4 : Hid (FQ G w v4 v5 v6 v7 s) := h4
  clear h1 h2 h3 h4
  have M : Hid (Below w.heap.size w w) := Below.refl _ _
  go_enter Try.func11, Try.ntmps11
  go_upto_region 1 with fail
  obtain ⟨w1, hv⟩ : ∃ w_ : World, w_ = (((w.alloc (.cells #[u0, u1, u2, u3, u4, u5, u6, u7] 28)).alloc (.cells #[v0, v1, v2, v3, v4, v5, v6, v7] 28)).alloc (.cells #[.int .i64 0, .slice none 0 0, .int .i64 0, .slice none 0 0, .int .i64 0, .slice none 0 0, .int .i64 0, .slice none 0 0] 28)) := ⟨_, rfl⟩
  rw [← hv]
  have hbx := bx3 w 28 28 28 #[u0, u1, u2, u3, u4, u5, u6, u7] #[v0, v1, v2, v3, v4, v5, v6, v7] #[.int .i64 0, .slice none 0 0, .int .i64 0, .slice none 0 0, .int .i64 0, .slice none 0 0, .int .i64 0, .slice none 0 0]
  rw [← hv] at hbx
  have hbn : Below w.heap.size w w1 := by rw [hv]; exact (Below.alloc (Below.alloc (Below.alloc (Below.refl _ _) (by simp <;> omega) _) (by simp <;> omega) _) (by simp <;> omega) _)
  replace M := Lib.hid (And.intro hbx.2.2 (And.intro hbx.2.1 (And.intro hbx.1 (Goes.go M.out hbn))))
  clear hbx hbn
  clear hv
  have y0 := (M.out.2.2.1).d8; have p0_0 := y0.1; have p0_1 := y0.2.1; have p0_2 := y0.2.2.1; have p0_3 := y0.2.2.2.1; have p0_4 := y0.2.2.2.2.1; have p0_5 := y0.2.2.2.2.2.1; have p0_6 := y0.2.2.2.2.2.2.1; have p0_7 := y0.2.2.2.2.2.2.2; clear y0
  have y1 := (M.out.2.1).d8; have p1_0 := y1.1; have p1_1 := y1.2.1; have p1_2 := y1.2.2.1; have p1_3 := y1.2.2.2.1; have p1_4 := y1.2.2.2.2.1; have p1_5 := y1.2.2.2.2.2.1; have p1_6 := y1.2.2.2.2.2.2.1; have p1_7 := y1.2.2.2.2.2.2.2; clear y1
  go_wp2_with fail
  clear p0_0 p0_1 p0_2 p0_3 p0_4 p0_5 p0_6 p0_7 p1_0 p1_1 p1_2 p1_3 p1_4 p1_5 p1_6 p1_7
  obtain ⟨q9, eq9⟩ : ∃ v_ : Rat, v_ = (p + r) := ⟨_, rfl⟩
  obtain ⟨q10, eq10⟩ : ∃ v_ : Rat, v_ = (q + s) := ⟨_, rfl⟩
  refine (spAdd_q (G := G) (p := p) (q := q) (r := r) (s := s) (Nat.le_trans hG (M.out.2.2.2).size) (H1.out.keep (M.out.2.2.2)) (H2.out.keep (M.out.2.2.2)) (H3.out.keep (M.out.2.2.2)) (H4.out.keep (M.out.2.2.2)) (Fz.mono HP.out (by omega)) (Fz.mono HQ.out (by omega)) (Fz.mono HR.out (by omega)) (Fz.mono HS.out (by omega)) HAA.out HBB.out).mono ?_
  rintro e w2 ⟨x_1, x_2, x_3, x_4, x_5, x_6, x_7, x_8, rfl, hd11, hd12, hb⟩
  rw [← eq9] at hd11
  have Sq9 : Hid (Fz q9 34359738369) := by show Fz q9 34359738369; rw [eq9]; exact (Fz.add HP.out HR.out)
  have Eq9 := Lib.hid eq9; clear eq9
  rw [← eq10] at hd12
  have Sq10 : Hid (Fz q10 34359738369) := by show Fz q10 34359738369; rw [eq10]; exact (Fz.add HQ.out HS.out)
  have Eq10 := Lib.hid eq10; clear eq10
  replace M := Lib.hid (And.intro hd11 (And.intro hd12 (Goes.go M.out hb)))
  clear hb hd11 hd12
  have ys_x_1 := TQ.st (M.out.1); have st_x_1 := ys_x_1.1; have st_x_2 := ys_x_1.2.1; have st_x_3 := ys_x_1.2.2.1; have st_x_4 := ys_x_1.2.2.2; clear ys_x_1
  have ys_x_5 := TQ.st (M.out.2.1); have st_x_5 := ys_x_5.1; have st_x_6 := ys_x_5.2.1; have st_x_7 := ys_x_5.2.2.1; have st_x_8 := ys_x_5.2.2.2; clear ys_x_5
  go_upto_region 4 with fail
  clear st_x_1 st_x_2 st_x_3 st_x_4 st_x_5 st_x_6 st_x_7 st_x_8
  obtain ⟨w3, hv⟩ : ∃ w_ : World, w_ = (w2.alloc (.cells #[x_1, x_2, x_3, x_4, x_5, x_6, x_7, x_8] 28)) := ⟨_, rfl⟩
  rw [← hv]
  have ow3_ : w.heap.size + 1 + 1 < w2.heap.size := ((M.out.2.2.1)).lt
  replace M := Lib.hid (And.intro (hv ▸ bx1 w2 28 #[x_1, x_2, x_3, x_4, x_5, x_6, x_7, x_8]) (Goes.go M.out (hv ▸ below_alloc _ _ : Below w2.heap.size w2 w3)))
  clear hv
  have y3 := (M.out.1).d8; have p3_0 := y3.1; have p3_1 := y3.2.1; have p3_2 := y3.2.2.1; have p3_3 := y3.2.2.2.1; have p3_4 := y3.2.2.2.2.1; have p3_5 := y3.2.2.2.2.2.1; have p3_6 := y3.2.2.2.2.2.2.1; have p3_7 := y3.2.2.2.2.2.2.2; clear y3
  have y2 := (M.out.2.2.2.1).c8; have p2_0 := y2.1; have q2_0 := y2.2.1; have p2_1 := y2.2.2.1; have q2_1 := y2.2.2.2.1; have p2_2 := y2.2.2.2.2.1; have q2_2 := y2.2.2.2.2.2.1; have p2_3 := y2.2.2.2.2.2.2.1; have q2_3 := y2.2.2.2.2.2.2.2.1; have p2_4 := y2.2.2.2.2.2.2.2.2.1; have q2_4 := y2.2.2.2.2.2.2.2.2.2.1; have p2_5 := y2.2.2.2.2.2.2.2.2.2.2.1; have q2_5 := y2.2.2.2.2.2.2.2.2.2.2.2.1; have p2_6 := y2.2.2.2.2.2.2.2.2.2.2.2.2.1; have q2_6 := y2.2.2.2.2.2.2.2.2.2.2.2.2.2.1; have p2_7 := y2.2.2.2.2.2.2.2.2.2.2.2.2.2.2.1; have q2_7 := y2.2.2.2.2.2.2.2.2.2.2.2.2.2.2.2; clear y2
  have ys_x_1 := TQ.st (M.out.2.1); have st_x_1 := ys_x_1.1; have st_x_2 := ys_x_1.2.1; have st_x_3 := ys_x_1.2.2.1; have st_x_4 := ys_x_1.2.2.2; clear ys_x_1
  have ys_x_5 := TQ.st (M.out.2.2.1); have st_x_5 := ys_x_5.1; have st_x_6 := ys_x_5.2.1; have st_x_7 := ys_x_5.2.2.1; have st_x_8 := ys_x_5.2.2.2; clear ys_x_5
  go_wp2_with fail
  clear p3_0 p3_1 p3_2 p3_3 p3_4 p3_5 p3_6 p3_7 p2_0 q2_0 p2_1 q2_1 p2_2 q2_2 p2_3 q2_3 p2_4 q2_4 p2_5 q2_5 p2_6 q2_6 p2_7 q2_7 st_x_1 st_x_2 st_x_3 st_x_4 st_x_5 st_x_6 st_x_7 st_x_8
  obtain ⟨w4, hv⟩ : ∃ w_ : World, w_ = ((((((((w3.setCell ⟨w.heap.size + 1 + 1, 0, none⟩ (x_1)).setCell ⟨w.heap.size + 1 + 1, 1, none⟩ (x_2)).setCell ⟨w.heap.size + 1 + 1, 2, none⟩ (x_3)).setCell ⟨w.heap.size + 1 + 1, 3, none⟩ (x_4)).setCell ⟨w.heap.size + 1 + 1, 4, none⟩ (x_5)).setCell ⟨w.heap.size + 1 + 1, 5, none⟩ (x_6)).setCell ⟨w.heap.size + 1 + 1, 6, none⟩ (x_7)).setCell ⟨w.heap.size + 1 + 1, 7, none⟩ (x_8)) := ⟨_, rfl⟩
  rw [← hv]
  have og : w3.grownBy w4 (some (w.heap.size + 1 + 1)) := by rw [hv]; exact (only_setCell (only_setCell (only_setCell (only_setCell (only_setCell (only_setCell (only_setCell (only_setCell (World.grownBy.refl _ _) _) _) _) _) _) _) _) _)
  have hz : w.heap.size ≤ w.heap.size + 1 + 1 := by omega
  have hk : Bx w4 (w.heap.size + 1 + 1) 28 #[x_1, x_2, x_3, x_4, x_5, x_6, x_7, x_8] := by rw [hv]; exact (((((((((M.out.2.2.2.1).set 0 _).set 1 _).set 2 _).set 3 _).set 4 _).set 5 _).set 6 _).set 7 _)
  have hbw : Below w.heap.size w w4 := by rw [hv]; exact (Below.setCell (Below.setCell (Below.setCell (Below.setCell (Below.setCell (Below.setCell (Below.setCell (Below.setCell (M.out.2.2.2.2.2.2) (by omega) _) (by omega) _) (by omega) _) (by omega) _) (by omega) _) (by omega) _) (by omega) _) (by omega) _)
  replace M := Lib.hid (And.intro ((M.out.1).only og (by omega)) (And.intro ((M.out.2.1).far (M.out.2.2.2.1) (by rfl) (by omega) og) (And.intro ((M.out.2.2.1).far (M.out.2.2.2.1) (by rfl) (by omega) og) (And.intro hk (And.intro ((M.out.2.2.2.2.1).only og (by omega)) (And.intro ((M.out.2.2.2.2.2.1).only og (by omega)) hbw))))))
  clear hk hbw og hv hz
  refine bodyPost_ret (results_box2 rfl _ _ (w.heap.size + 1 + 1) 28 _ _ _ rfl (M.out.2.2.2.1) Try.underlying28 rfl (by kernel_rfl)) rfl ?_
  exact ⟨x_1, x_2, x_3, x_4, x_5, x_6, x_7, x_8, rfl, (by have h_ := (M.out.2.1); rw [Eq9.out] at h_; rw [HLO.out] at h_; exact h_), (by have h_ := (M.out.2.2.1); rw [Eq10.out] at h_; rw [HHI.out] at h_; exact h_), (M.out.2.2.2.2.2.2)⟩
set_option maxRecDepth 100000 in
set_option maxHeartbeats 4000000 in
theorem play_1 {u0 u1 u2 u3 u4 u5 u6 u7 v0 v1 v2 v3 v4 v5 v6 v7 : Value} {p q r s : Rat} {lo hi : Rat} {w : World} (hG : G ≤ w.heap.size) (h1 : FQ G w u0 u1 u2 u3 p) (h2 : FQ G w u4 u5 u6 u7 q) (h3 : FQ G w v0 v1 v2 v3 r) (h4 : FQ G w v4 v5 v6 v7 s) (hp : Fz p 17179869184) (hq : Fz q 17179869184) (hr : Fz r 17179869184) (hs : Fz s 17179869184) (ha : p ≤ q) (hb : r ≤ s) (hlo : p - s = lo) (hhi : q - r = hi)  :
    Calls Try.prog 11 #[.int .i64 1, .agg #[u0, u1, u2, u3, u4, u5, u6, u7], .agg #[v0, v1, v2, v3, v4, v5, v6, v7]] w fun e w' => ∃ x0 x1 x2 x3 x4 x5 x6 x7, e = .returned (.tuple #[.agg #[x0, x1, x2, x3, x4, x5, x6, x7], .int .i64 0]) ∧ FQ G w' x0 x1 x2 x3 lo ∧ FQ G w' x4 x5 x6 x7 hi ∧ Below w.heap.size w w' := by
  have HP := Lib.hid hp; have HQ := Lib.hid hq; have HR := Lib.hid hr; have HS := Lib.hid hs; have HAA := Lib.hid ha; have HBB := Lib.hid hb; clear hp hq hr hs ha hb
  have HLO := Lib.hid hlo; have HHI := Lib.hid hhi; clear hlo hhi
  have H1 : Hid (FQ G w u0 u1 u2 u3 p) := h1
  have H2 : Hid (FQ G w u4 u5 u6 u7 q) := h2
  have H3 : Hid (FQ G w v0 v1 v2 v3 r) := h3
  have H4 : Hid (FQ G w v4 v5 v6 v7 s) := h4
  clear h1 h2 h3 h4
  have M : Hid (Below w.heap.size w w) := Below.refl _ _
  go_enter Try.func11, Try.ntmps11
  go_upto_region 1 with fail
  obtain ⟨w1, hv⟩ : ∃ w_ : World, w_ = (((w.alloc (.cells #[u0, u1, u2, u3, u4, u5, u6, u7] 28)).alloc (.cells #[v0, v1, v2, v3, v4, v5, v6, v7] 28)).alloc (.cells #[.int .i64 0, .slice none 0 0, .int .i64 0, .slice none 0 0, .int .i64 0, .slice none 0 0, .int .i64 0, .slice none 0 0] 28)) := ⟨_, rfl⟩
  rw [← hv]
  have hbx := bx3 w 28 28 28 #[u0, u1, u2, u3, u4, u5, u6, u7] #[v0, v1, v2, v3, v4, v5, v6, v7] #[.int .i64 0, .slice none 0 0, .int .i64 0, .slice none 0 0, .int .i64 0, .slice none 0 0, .int .i64 0, .slice none 0 0]
  rw [← hv] at hbx
  have hbn : Below w.heap.size w w1 := by rw [hv]; exact (Below.alloc (Below.alloc (Below.alloc (Below.refl _ _) (by simp <;> omega) _) (by simp <;> omega) _) (by simp <;> omega) _)
  replace M := Lib.hid (And.intro hbx.2.2 (And.intro hbx.2.1 (And.intro hbx.1 (Goes.go M.out hbn))))
  clear hbx hbn
  clear hv
  have y0 := (M.out.2.2.1).d8; have p0_0 := y0.1; have p0_1 := y0.2.1; have p0_2 := y0.2.2.1; have p0_3 := y0.2.2.2.1; have p0_4 := y0.2.2.2.2.1; have p0_5 := y0.2.2.2.2.2.1; have p0_6 := y0.2.2.2.2.2.2.1; have p0_7 := y0.2.2.2.2.2.2.2; clear y0
  have y1 := (M.out.2.1).d8; have p1_0 := y1.1; have p1_1 := y1.2.1; have p1_2 := y1.2.2.1; have p1_3 := y1.2.2.2.1; have p1_4 := y1.2.2.2.2.1; have p1_5 := y1.2.2.2.2.2.1; have p1_6 := y1.2.2.2.2.2.2.1; have p1_7 := y1.2.2.2.2.2.2.2; clear y1
  go_wp2_with fail
  clear p0_0 p0_1 p0_2 p0_3 p0_4 p0_5 p0_6 p0_7 p1_0 p1_1 p1_2 p1_3 p1_4 p1_5 p1_6 p1_7
  obtain ⟨q9, eq9⟩ : ∃ v_ : Rat, v_ = (p - s) := ⟨_, rfl⟩
  obtain ⟨q10, eq10⟩ : ∃ v_ : Rat, v_ = (q - r) := ⟨_, rfl⟩
  refine (spSub_q (G := G) (p := p) (q := q) (r := r) (s := s) (Nat.le_trans hG (M.out.2.2.2).size) (H1.out.keep (M.out.2.2.2)) (H2.out.keep (M.out.2.2.2)) (H3.out.keep (M.out.2.2.2)) (H4.out.keep (M.out.2.2.2)) (Fz.mono HP.out (by omega)) (Fz.mono HQ.out (by omega)) (Fz.mono HR.out (by omega)) (Fz.mono HS.out (by omega)) HAA.out HBB.out).mono ?_
  rintro e w2 ⟨x_1, x_2, x_3, x_4, x_5, x_6, x_7, x_8, rfl, hd11, hd12, hb⟩
  rw [← eq9] at hd11
  have Sq9 : Hid (Fz q9 34359738369) := by show Fz q9 34359738369; rw [eq9]; exact (Fz.sub HP.out HS.out)
  have Eq9 := Lib.hid eq9; clear eq9
  rw [← eq10] at hd12
  have Sq10 : Hid (Fz q10 34359738369) := by show Fz q10 34359738369; rw [eq10]; exact (Fz.sub HQ.out HR.out)
  have Eq10 := Lib.hid eq10; clear eq10
  replace M := Lib.hid (And.intro hd11 (And.intro hd12 (Goes.go M.out hb)))
  clear hb hd11 hd12
  have ys_x_1 := TQ.st (M.out.1); have st_x_1 := ys_x_1.1; have st_x_2 := ys_x_1.2.1; have st_x_3 := ys_x_1.2.2.1; have st_x_4 := ys_x_1.2.2.2; clear ys_x_1
  have ys_x_5 := TQ.st (M.out.2.1); have st_x_5 := ys_x_5.1; have st_x_6 := ys_x_5.2.1; have st_x_7 := ys_x_5.2.2.1; have st_x_8 := ys_x_5.2.2.2; clear ys_x_5
  go_upto_region 7 with fail
  clear st_x_1 st_x_2 st_x_3 st_x_4 st_x_5 st_x_6 st_x_7 st_x_8
  obtain ⟨w3, hv⟩ : ∃ w_ : World, w_ = (w2.alloc (.cells #[x_1, x_2, x_3, x_4, x_5, x_6, x_7, x_8] 28)) := ⟨_, rfl⟩
  rw [← hv]
  have ow3_ : w.heap.size + 1 + 1 < w2.heap.size := ((M.out.2.2.1)).lt
  replace M := Lib.hid (And.intro (hv ▸ bx1 w2 28 #[x_1, x_2, x_3, x_4, x_5, x_6, x_7, x_8]) (Goes.go M.out (hv ▸ below_alloc _ _ : Below w2.heap.size w2 w3)))
  clear hv
  have y3 := (M.out.1).d8; have p3_0 := y3.1; have p3_1 := y3.2.1; have p3_2 := y3.2.2.1; have p3_3 := y3.2.2.2.1; have p3_4 := y3.2.2.2.2.1; have p3_5 := y3.2.2.2.2.2.1; have p3_6 := y3.2.2.2.2.2.2.1; have p3_7 := y3.2.2.2.2.2.2.2; clear y3
  have y2 := (M.out.2.2.2.1).c8; have p2_0 := y2.1; have q2_0 := y2.2.1; have p2_1 := y2.2.2.1; have q2_1 := y2.2.2.2.1; have p2_2 := y2.2.2.2.2.1; have q2_2 := y2.2.2.2.2.2.1; have p2_3 := y2.2.2.2.2.2.2.1; have q2_3 := y2.2.2.2.2.2.2.2.1; have p2_4 := y2.2.2.2.2.2.2.2.2.1; have q2_4 := y2.2.2.2.2.2.2.2.2.2.1; have p2_5 := y2.2.2.2.2.2.2.2.2.2.2.1; have q2_5 := y2.2.2.2.2.2.2.2.2.2.2.2.1; have p2_6 := y2.2.2.2.2.2.2.2.2.2.2.2.2.1; have q2_6 := y2.2.2.2.2.2.2.2.2.2.2.2.2.2.1; have p2_7 := y2.2.2.2.2.2.2.2.2.2.2.2.2.2.2.1; have q2_7 := y2.2.2.2.2.2.2.2.2.2.2.2.2.2.2.2; clear y2
  have ys_x_1 := TQ.st (M.out.2.1); have st_x_1 := ys_x_1.1; have st_x_2 := ys_x_1.2.1; have st_x_3 := ys_x_1.2.2.1; have st_x_4 := ys_x_1.2.2.2; clear ys_x_1
  have ys_x_5 := TQ.st (M.out.2.2.1); have st_x_5 := ys_x_5.1; have st_x_6 := ys_x_5.2.1; have st_x_7 := ys_x_5.2.2.1; have st_x_8 := ys_x_5.2.2.2; clear ys_x_5
  go_wp2_with fail
  clear p3_0 p3_1 p3_2 p3_3 p3_4 p3_5 p3_6 p3_7 p2_0 q2_0 p2_1 q2_1 p2_2 q2_2 p2_3 q2_3 p2_4 q2_4 p2_5 q2_5 p2_6 q2_6 p2_7 q2_7 st_x_1 st_x_2 st_x_3 st_x_4 st_x_5 st_x_6 st_x_7 st_x_8
  obtain ⟨w4, hv⟩ : ∃ w_ : World, w_ = ((((((((w3.setCell ⟨w.heap.size + 1 + 1, 0, none⟩ (x_1)).setCell ⟨w.heap.size + 1 + 1, 1, none⟩ (x_2)).setCell ⟨w.heap.size + 1 + 1, 2, none⟩ (x_3)).setCell ⟨w.heap.size + 1 + 1, 3, none⟩ (x_4)).setCell ⟨w.heap.size + 1 + 1, 4, none⟩ (x_5)).setCell ⟨w.heap.size + 1 + 1, 5, none⟩ (x_6)).setCell ⟨w.heap.size + 1 + 1, 6, none⟩ (x_7)).setCell ⟨w.heap.size + 1 + 1, 7, none⟩ (x_8)) := ⟨_, rfl⟩
  rw [← hv]
  have og : w3.grownBy w4 (some (w.heap.size + 1 + 1)) := by rw [hv]; exact (only_setCell (only_setCell (only_setCell (only_setCell (only_setCell (only_setCell (only_setCell (only_setCell (World.grownBy.refl _ _) _) _) _) _) _) _) _) _)
  have hz : w.heap.size ≤ w.heap.size + 1 + 1 := by omega
  have hk : Bx w4 (w.heap.size + 1 + 1) 28 #[x_1, x_2, x_3, x_4, x_5, x_6, x_7, x_8] := by rw [hv]; exact (((((((((M.out.2.2.2.1).set 0 _).set 1 _).set 2 _).set 3 _).set 4 _).set 5 _).set 6 _).set 7 _)
  have hbw : Below w.heap.size w w4 := by rw [hv]; exact (Below.setCell (Below.setCell (Below.setCell (Below.setCell (Below.setCell (Below.setCell (Below.setCell (Below.setCell (M.out.2.2.2.2.2.2) (by omega) _) (by omega) _) (by omega) _) (by omega) _) (by omega) _) (by omega) _) (by omega) _) (by omega) _)
  replace M := Lib.hid (And.intro ((M.out.1).only og (by omega)) (And.intro ((M.out.2.1).far (M.out.2.2.2.1) (by rfl) (by omega) og) (And.intro ((M.out.2.2.1).far (M.out.2.2.2.1) (by rfl) (by omega) og) (And.intro hk (And.intro ((M.out.2.2.2.2.1).only og (by omega)) (And.intro ((M.out.2.2.2.2.2.1).only og (by omega)) hbw))))))
  clear hk hbw og hv hz
  refine bodyPost_ret (results_box2 rfl _ _ (w.heap.size + 1 + 1) 28 _ _ _ rfl (M.out.2.2.2.1) Try.underlying28 rfl (by kernel_rfl)) rfl ?_
  exact ⟨x_1, x_2, x_3, x_4, x_5, x_6, x_7, x_8, rfl, (by have h_ := (M.out.2.1); rw [Eq9.out] at h_; rw [HLO.out] at h_; exact h_), (by have h_ := (M.out.2.2.1); rw [Eq10.out] at h_; rw [HHI.out] at h_; exact h_), (M.out.2.2.2.2.2.2)⟩
set_option maxRecDepth 100000 in
set_option maxHeartbeats 4000000 in
theorem play_2 {u0 u1 u2 u3 u4 u5 u6 u7 v0 v1 v2 v3 v4 v5 v6 v7 : Value} {p q r s : Rat} {lo hi : Rat} {w : World} (hG : G ≤ w.heap.size) (h1 : FQ G w u0 u1 u2 u3 p) (h2 : FQ G w u4 u5 u6 u7 q) (h3 : FQ G w v0 v1 v2 v3 r) (h4 : FQ G w v4 v5 v6 v7 s) (hp : Fz p 17179869184) (hq : Fz q 17179869184) (hr : Fz r 17179869184) (hs : Fz s 17179869184) (ha : p ≤ q) (hb : r ≤ s) (hlo : min4 (p * r) (p * s) (q * r) (q * s) = lo) (hhi : max4 (p * r) (p * s) (q * r) (q * s) = hi)  :
    Calls Try.prog 11 #[.int .i64 2, .agg #[u0, u1, u2, u3, u4, u5, u6, u7], .agg #[v0, v1, v2, v3, v4, v5, v6, v7]] w fun e w' => ∃ x0 x1 x2 x3 x4 x5 x6 x7, e = .returned (.tuple #[.agg #[x0, x1, x2, x3, x4, x5, x6, x7], .int .i64 0]) ∧ FQ G w' x0 x1 x2 x3 lo ∧ FQ G w' x4 x5 x6 x7 hi ∧ Below w.heap.size w w' := by
  have HP := Lib.hid hp; have HQ := Lib.hid hq; have HR := Lib.hid hr; have HS := Lib.hid hs; have HAA := Lib.hid ha; have HBB := Lib.hid hb; clear hp hq hr hs ha hb
  have HLO := Lib.hid hlo; have HHI := Lib.hid hhi; clear hlo hhi
  have H1 : Hid (FQ G w u0 u1 u2 u3 p) := h1
  have H2 : Hid (FQ G w u4 u5 u6 u7 q) := h2
  have H3 : Hid (FQ G w v0 v1 v2 v3 r) := h3
  have H4 : Hid (FQ G w v4 v5 v6 v7 s) := h4
  clear h1 h2 h3 h4
  have M : Hid (Below w.heap.size w w) := Below.refl _ _
  go_enter Try.func11, Try.ntmps11
  go_upto_region 1 with fail
  obtain ⟨w1, hv⟩ : ∃ w_ : World, w_ = (((w.alloc (.cells #[u0, u1, u2, u3, u4, u5, u6, u7] 28)).alloc (.cells #[v0, v1, v2, v3, v4, v5, v6, v7] 28)).alloc (.cells #[.int .i64 0, .slice none 0 0, .int .i64 0, .slice none 0 0, .int .i64 0, .slice none 0 0, .int .i64 0, .slice none 0 0] 28)) := ⟨_, rfl⟩
  rw [← hv]
  have hbx := bx3 w 28 28 28 #[u0, u1, u2, u3, u4, u5, u6, u7] #[v0, v1, v2, v3, v4, v5, v6, v7] #[.int .i64 0, .slice none 0 0, .int .i64 0, .slice none 0 0, .int .i64 0, .slice none 0 0, .int .i64 0, .slice none 0 0]
  rw [← hv] at hbx
  have hbn : Below w.heap.size w w1 := by rw [hv]; exact (Below.alloc (Below.alloc (Below.alloc (Below.refl _ _) (by simp <;> omega) _) (by simp <;> omega) _) (by simp <;> omega) _)
  replace M := Lib.hid (And.intro hbx.2.2 (And.intro hbx.2.1 (And.intro hbx.1 (Goes.go M.out hbn))))
  clear hbx hbn
  clear hv
  have y0 := (M.out.2.2.1).d8; have p0_0 := y0.1; have p0_1 := y0.2.1; have p0_2 := y0.2.2.1; have p0_3 := y0.2.2.2.1; have p0_4 := y0.2.2.2.2.1; have p0_5 := y0.2.2.2.2.2.1; have p0_6 := y0.2.2.2.2.2.2.1; have p0_7 := y0.2.2.2.2.2.2.2; clear y0
  have y1 := (M.out.2.1).d8; have p1_0 := y1.1; have p1_1 := y1.2.1; have p1_2 := y1.2.2.1; have p1_3 := y1.2.2.2.1; have p1_4 := y1.2.2.2.2.1; have p1_5 := y1.2.2.2.2.2.1; have p1_6 := y1.2.2.2.2.2.2.1; have p1_7 := y1.2.2.2.2.2.2.2; clear y1
  go_wp2_with fail
  clear p0_0 p0_1 p0_2 p0_3 p0_4 p0_5 p0_6 p0_7 p1_0 p1_1 p1_2 p1_3 p1_4 p1_5 p1_6 p1_7
  refine (spMul_q (G := G) (p := p) (q := q) (r := r) (s := s) (lo := lo) (hi := hi) (Nat.le_trans hG (M.out.2.2.2).size) (H1.out.keep (M.out.2.2.2)) (H2.out.keep (M.out.2.2.2)) (H3.out.keep (M.out.2.2.2)) (H4.out.keep (M.out.2.2.2)) (Fz.mono HP.out (by omega)) (Fz.mono HQ.out (by omega)) (Fz.mono HR.out (by omega)) (Fz.mono HS.out (by omega)) HAA.out HBB.out HLO.out HHI.out).mono ?_
  rintro e w2 ⟨x_1, x_2, x_3, x_4, x_5, x_6, x_7, x_8, rfl, hd9, hd10, hb⟩
  replace M := Lib.hid (And.intro hd9 (And.intro hd10 (Goes.go M.out hb)))
  clear hb hd9 hd10
  have ys_x_1 := TQ.st (M.out.1); have st_x_1 := ys_x_1.1; have st_x_2 := ys_x_1.2.1; have st_x_3 := ys_x_1.2.2.1; have st_x_4 := ys_x_1.2.2.2; clear ys_x_1
  have ys_x_5 := TQ.st (M.out.2.1); have st_x_5 := ys_x_5.1; have st_x_6 := ys_x_5.2.1; have st_x_7 := ys_x_5.2.2.1; have st_x_8 := ys_x_5.2.2.2; clear ys_x_5
  go_upto_region 10 with fail
  clear st_x_1 st_x_2 st_x_3 st_x_4 st_x_5 st_x_6 st_x_7 st_x_8
  obtain ⟨w3, hv⟩ : ∃ w_ : World, w_ = (w2.alloc (.cells #[x_1, x_2, x_3, x_4, x_5, x_6, x_7, x_8] 28)) := ⟨_, rfl⟩
  rw [← hv]
  have ow3_ : w.heap.size + 1 + 1 < w2.heap.size := ((M.out.2.2.1)).lt
  replace M := Lib.hid (And.intro (hv ▸ bx1 w2 28 #[x_1, x_2, x_3, x_4, x_5, x_6, x_7, x_8]) (Goes.go M.out (hv ▸ below_alloc _ _ : Below w2.heap.size w2 w3)))
  clear hv
  have y3 := (M.out.1).d8; have p3_0 := y3.1; have p3_1 := y3.2.1; have p3_2 := y3.2.2.1; have p3_3 := y3.2.2.2.1; have p3_4 := y3.2.2.2.2.1; have p3_5 := y3.2.2.2.2.2.1; have p3_6 := y3.2.2.2.2.2.2.1; have p3_7 := y3.2.2.2.2.2.2.2; clear y3
  have y2 := (M.out.2.2.2.1).c8; have p2_0 := y2.1; have q2_0 := y2.2.1; have p2_1 := y2.2.2.1; have q2_1 := y2.2.2.2.1; have p2_2 := y2.2.2.2.2.1; have q2_2 := y2.2.2.2.2.2.1; have p2_3 := y2.2.2.2.2.2.2.1; have q2_3 := y2.2.2.2.2.2.2.2.1; have p2_4 := y2.2.2.2.2.2.2.2.2.1; have q2_4 := y2.2.2.2.2.2.2.2.2.2.1; have p2_5 := y2.2.2.2.2.2.2.2.2.2.2.1; have q2_5 := y2.2.2.2.2.2.2.2.2.2.2.2.1; have p2_6 := y2.2.2.2.2.2.2.2.2.2.2.2.2.1; have q2_6 := y2.2.2.2.2.2.2.2.2.2.2.2.2.2.1; have p2_7 := y2.2.2.2.2.2.2.2.2.2.2.2.2.2.2.1; have q2_7 := y2.2.2.2.2.2.2.2.2.2.2.2.2.2.2.2; clear y2
  have ys_x_1 := TQ.st (M.out.2.1); have st_x_1 := ys_x_1.1; have st_x_2 := ys_x_1.2.1; have st_x_3 := ys_x_1.2.2.1; have st_x_4 := ys_x_1.2.2.2; clear ys_x_1
  have ys_x_5 := TQ.st (M.out.2.2.1); have st_x_5 := ys_x_5.1; have st_x_6 := ys_x_5.2.1; have st_x_7 := ys_x_5.2.2.1; have st_x_8 := ys_x_5.2.2.2; clear ys_x_5
  go_wp2_with fail
  clear p3_0 p3_1 p3_2 p3_3 p3_4 p3_5 p3_6 p3_7 p2_0 q2_0 p2_1 q2_1 p2_2 q2_2 p2_3 q2_3 p2_4 q2_4 p2_5 q2_5 p2_6 q2_6 p2_7 q2_7 st_x_1 st_x_2 st_x_3 st_x_4 st_x_5 st_x_6 st_x_7 st_x_8
  obtain ⟨w4, hv⟩ : ∃ w_ : World, w_ = ((((((((w3.setCell ⟨w.heap.size + 1 + 1, 0, none⟩ (x_1)).setCell ⟨w.heap.size + 1 + 1, 1, none⟩ (x_2)).setCell ⟨w.heap.size + 1 + 1, 2, none⟩ (x_3)).setCell ⟨w.heap.size + 1 + 1, 3, none⟩ (x_4)).setCell ⟨w.heap.size + 1 + 1, 4, none⟩ (x_5)).setCell ⟨w.heap.size + 1 + 1, 5, none⟩ (x_6)).setCell ⟨w.heap.size + 1 + 1, 6, none⟩ (x_7)).setCell ⟨w.heap.size + 1 + 1, 7, none⟩ (x_8)) := ⟨_, rfl⟩
  rw [← hv]
  have og : w3.grownBy w4 (some (w.heap.size + 1 + 1)) := by rw [hv]; exact (only_setCell (only_setCell (only_setCell (only_setCell (only_setCell (only_setCell (only_setCell (only_setCell (World.grownBy.refl _ _) _) _) _) _) _) _) _) _)
  have hz : w.heap.size ≤ w.heap.size + 1 + 1 := by omega
  have hk : Bx w4 (w.heap.size + 1 + 1) 28 #[x_1, x_2, x_3, x_4, x_5, x_6, x_7, x_8] := by rw [hv]; exact (((((((((M.out.2.2.2.1).set 0 _).set 1 _).set 2 _).set 3 _).set 4 _).set 5 _).set 6 _).set 7 _)
  have hbw : Below w.heap.size w w4 := by rw [hv]; exact (Below.setCell (Below.setCell (Below.setCell (Below.setCell (Below.setCell (Below.setCell (Below.setCell (Below.setCell (M.out.2.2.2.2.2.2) (by omega) _) (by omega) _) (by omega) _) (by omega) _) (by omega) _) (by omega) _) (by omega) _) (by omega) _)
  replace M := Lib.hid (And.intro ((M.out.1).only og (by omega)) (And.intro ((M.out.2.1).far (M.out.2.2.2.1) (by rfl) (by omega) og) (And.intro ((M.out.2.2.1).far (M.out.2.2.2.1) (by rfl) (by omega) og) (And.intro hk (And.intro ((M.out.2.2.2.2.1).only og (by omega)) (And.intro ((M.out.2.2.2.2.2.1).only og (by omega)) hbw))))))
  clear hk hbw og hv hz
  refine bodyPost_ret (results_box2 rfl _ _ (w.heap.size + 1 + 1) 28 _ _ _ rfl (M.out.2.2.2.1) Try.underlying28 rfl (by kernel_rfl)) rfl ?_
  exact ⟨x_1, x_2, x_3, x_4, x_5, x_6, x_7, x_8, rfl, (M.out.2.1), (M.out.2.2.1), (M.out.2.2.2.2.2.2)⟩
set_option maxRecDepth 100000 in
set_option maxHeartbeats 4000000 in
theorem play_3 {u0 u1 u2 u3 u4 u5 u6 u7 v0 v1 v2 v3 v4 v5 v6 v7 : Value} {p q r s : Rat} {lo hi : Rat} {w : World} (hG : G ≤ w.heap.size) (h1 : FQ G w u0 u1 u2 u3 p) (h2 : FQ G w u4 u5 u6 u7 q) (h3 : FQ G w v0 v1 v2 v3 r) (h4 : FQ G w v4 v5 v6 v7 s) (hp : Fz p 17179869184) (hq : Fz q 17179869184) (hr : Fz r 17179869184) (hs : Fz s 17179869184) (ha : p ≤ q) (hb : r ≤ s) (h0 : ¬ (r ≤ 0 ∧ 0 ≤ s)) (hlo : min4 (p * (1 / s)) (p * (1 / r)) (q * (1 / s)) (q * (1 / r)) = lo) (hhi : max4 (p * (1 / s)) (p * (1 / r)) (q * (1 / s)) (q * (1 / r)) = hi)  :
    Calls Try.prog 11 #[.int .i64 3, .agg #[u0, u1, u2, u3, u4, u5, u6, u7], .agg #[v0, v1, v2, v3, v4, v5, v6, v7]] w fun e w' => ∃ x0 x1 x2 x3 x4 x5 x6 x7, e = .returned (.tuple #[.agg #[x0, x1, x2, x3, x4, x5, x6, x7], .int .i64 0]) ∧ FQ G w' x0 x1 x2 x3 lo ∧ FQ G w' x4 x5 x6 x7 hi ∧ Below w.heap.size w w' := by
  have H0 := Lib.hid h0; clear h0
  have HP := Lib.hid hp; have HQ := Lib.hid hq; have HR := Lib.hid hr; have HS := Lib.hid hs; have HAA := Lib.hid ha; have HBB := Lib.hid hb; clear hp hq hr hs ha hb
  have HLO := Lib.hid hlo; have HHI := Lib.hid hhi; clear hlo hhi
  have H1 : Hid (FQ G w u0 u1 u2 u3 p) := h1
  have H2 : Hid (FQ G w u4 u5 u6 u7 q) := h2
  have H3 : Hid (FQ G w v0 v1 v2 v3 r) := h3
  have H4 : Hid (FQ G w v4 v5 v6 v7 s) := h4
  clear h1 h2 h3 h4
  have M : Hid (Below w.heap.size w w) := Below.refl _ _
  go_enter Try.func11, Try.ntmps11
  go_upto_region 1 with fail
  obtain ⟨w1, hv⟩ : ∃ w_ : World, w_ = (((w.alloc (.cells #[u0, u1, u2, u3, u4, u5, u6, u7] 28)).alloc (.cells #[v0, v1, v2, v3, v4, v5, v6, v7] 28)).alloc (.cells #[.int .i64 0, .slice none 0 0, .int .i64 0, .slice none 0 0, .int .i64 0, .slice none 0 0, .int .i64 0, .slice none 0 0] 28)) := ⟨_, rfl⟩
  rw [← hv]
  have hbx := bx3 w 28 28 28 #[u0, u1, u2, u3, u4, u5, u6, u7] #[v0, v1, v2, v3, v4, v5, v6, v7] #[.int .i64 0, .slice none 0 0, .int .i64 0, .slice none 0 0, .int .i64 0, .slice none 0 0, .int .i64 0, .slice none 0 0]
  rw [← hv] at hbx
  have hbn : Below w.heap.size w w1 := by rw [hv]; exact (Below.alloc (Below.alloc (Below.alloc (Below.refl _ _) (by simp <;> omega) _) (by simp <;> omega) _) (by simp <;> omega) _)
  replace M := Lib.hid (And.intro hbx.2.2 (And.intro hbx.2.1 (And.intro hbx.1 (Goes.go M.out hbn))))
  clear hbx hbn
  clear hv
  have y0 := (M.out.2.2.1).d8; have p0_0 := y0.1; have p0_1 := y0.2.1; have p0_2 := y0.2.2.1; have p0_3 := y0.2.2.2.1; have p0_4 := y0.2.2.2.2.1; have p0_5 := y0.2.2.2.2.2.1; have p0_6 := y0.2.2.2.2.2.2.1; have p0_7 := y0.2.2.2.2.2.2.2; clear y0
  have y1 := (M.out.2.1).d8; have p1_0 := y1.1; have p1_1 := y1.2.1; have p1_2 := y1.2.2.1; have p1_3 := y1.2.2.2.1; have p1_4 := y1.2.2.2.2.1; have p1_5 := y1.2.2.2.2.2.1; have p1_6 := y1.2.2.2.2.2.2.1; have p1_7 := y1.2.2.2.2.2.2.2; clear y1
  go_wp2_with fail
  clear p0_0 p0_1 p0_2 p0_3 p0_4 p0_5 p0_6 p0_7 p1_0 p1_1 p1_2 p1_3 p1_4 p1_5 p1_6 p1_7
  refine (spDiv_q (G := G) (p := p) (q := q) (r := r) (s := s) (lo := lo) (hi := hi) (Nat.le_trans hG (M.out.2.2.2).size) (H1.out.keep (M.out.2.2.2)) (H2.out.keep (M.out.2.2.2)) (H3.out.keep (M.out.2.2.2)) (H4.out.keep (M.out.2.2.2)) HP.out HQ.out HR.out HS.out HAA.out HBB.out H0.out HLO.out HHI.out).mono ?_
  rintro e w2 ⟨x_1, x_2, x_3, x_4, x_5, x_6, x_7, x_8, rfl, hd9, hd10, hb⟩
  replace M := Lib.hid (And.intro hd9 (And.intro hd10 (Goes.go M.out hb)))
  clear hb hd9 hd10
  have ys_x_1 := TQ.st (M.out.1); have st_x_1 := ys_x_1.1; have st_x_2 := ys_x_1.2.1; have st_x_3 := ys_x_1.2.2.1; have st_x_4 := ys_x_1.2.2.2; clear ys_x_1
  have ys_x_5 := TQ.st (M.out.2.1); have st_x_5 := ys_x_5.1; have st_x_6 := ys_x_5.2.1; have st_x_7 := ys_x_5.2.2.1; have st_x_8 := ys_x_5.2.2.2; clear ys_x_5
  go_upto_region 13 with fail
  clear st_x_1 st_x_2 st_x_3 st_x_4 st_x_5 st_x_6 st_x_7 st_x_8
  obtain ⟨w3, hv⟩ : ∃ w_ : World, w_ = (w2.alloc (.cells #[x_1, x_2, x_3, x_4, x_5, x_6, x_7, x_8] 28)) := ⟨_, rfl⟩
  rw [← hv]
  have ow3_ : w.heap.size + 1 + 1 < w2.heap.size := ((M.out.2.2.1)).lt
  replace M := Lib.hid (And.intro (hv ▸ bx1 w2 28 #[x_1, x_2, x_3, x_4, x_5, x_6, x_7, x_8]) (Goes.go M.out (hv ▸ below_alloc _ _ : Below w2.heap.size w2 w3)))
  clear hv
  have y3 := (M.out.1).d8; have p3_0 := y3.1; have p3_1 := y3.2.1; have p3_2 := y3.2.2.1; have p3_3 := y3.2.2.2.1; have p3_4 := y3.2.2.2.2.1; have p3_5 := y3.2.2.2.2.2.1; have p3_6 := y3.2.2.2.2.2.2.1; have p3_7 := y3.2.2.2.2.2.2.2; clear y3
  have y2 := (M.out.2.2.2.1).c8; have p2_0 := y2.1; have q2_0 := y2.2.1; have p2_1 := y2.2.2.1; have q2_1 := y2.2.2.2.1; have p2_2 := y2.2.2.2.2.1; have q2_2 := y2.2.2.2.2.2.1; have p2_3 := y2.2.2.2.2.2.2.1; have q2_3 := y2.2.2.2.2.2.2.2.1; have p2_4 := y2.2.2.2.2.2.2.2.2.1; have q2_4 := y2.2.2.2.2.2.2.2.2.2.1; have p2_5 := y2.2.2.2.2.2.2.2.2.2.2.1; have q2_5 := y2.2.2.2.2.2.2.2.2.2.2.2.1; have p2_6 := y2.2.2.2.2.2.2.2.2.2.2.2.2.1; have q2_6 := y2.2.2.2.2.2.2.2.2.2.2.2.2.2.1; have p2_7 := y2.2.2.2.2.2.2.2.2.2.2.2.2.2.2.1; have q2_7 := y2.2.2.2.2.2.2.2.2.2.2.2.2.2.2.2; clear y2
  have ys_x_1 := TQ.st (M.out.2.1); have st_x_1 := ys_x_1.1; have st_x_2 := ys_x_1.2.1; have st_x_3 := ys_x_1.2.2.1; have st_x_4 := ys_x_1.2.2.2; clear ys_x_1
  have ys_x_5 := TQ.st (M.out.2.2.1); have st_x_5 := ys_x_5.1; have st_x_6 := ys_x_5.2.1; have st_x_7 := ys_x_5.2.2.1; have st_x_8 := ys_x_5.2.2.2; clear ys_x_5
  go_wp2_with fail
  clear p3_0 p3_1 p3_2 p3_3 p3_4 p3_5 p3_6 p3_7 p2_0 q2_0 p2_1 q2_1 p2_2 q2_2 p2_3 q2_3 p2_4 q2_4 p2_5 q2_5 p2_6 q2_6 p2_7 q2_7 st_x_1 st_x_2 st_x_3 st_x_4 st_x_5 st_x_6 st_x_7 st_x_8
  obtain ⟨w4, hv⟩ : ∃ w_ : World, w_ = ((((((((w3.setCell ⟨w.heap.size + 1 + 1, 0, none⟩ (x_1)).setCell ⟨w.heap.size + 1 + 1, 1, none⟩ (x_2)).setCell ⟨w.heap.size + 1 + 1, 2, none⟩ (x_3)).setCell ⟨w.heap.size + 1 + 1, 3, none⟩ (x_4)).setCell ⟨w.heap.size + 1 + 1, 4, none⟩ (x_5)).setCell ⟨w.heap.size + 1 + 1, 5, none⟩ (x_6)).setCell ⟨w.heap.size + 1 + 1, 6, none⟩ (x_7)).setCell ⟨w.heap.size + 1 + 1, 7, none⟩ (x_8)) := ⟨_, rfl⟩
  rw [← hv]
  have og : w3.grownBy w4 (some (w.heap.size + 1 + 1)) := by rw [hv]; exact (only_setCell (only_setCell (only_setCell (only_setCell (only_setCell (only_setCell (only_setCell (only_setCell (World.grownBy.refl _ _) _) _) _) _) _) _) _) _)
  have hz : w.heap.size ≤ w.heap.size + 1 + 1 := by omega
  have hk : Bx w4 (w.heap.size + 1 + 1) 28 #[x_1, x_2, x_3, x_4, x_5, x_6, x_7, x_8] := by rw [hv]; exact (((((((((M.out.2.2.2.1).set 0 _).set 1 _).set 2 _).set 3 _).set 4 _).set 5 _).set 6 _).set 7 _)
  have hbw : Below w.heap.size w w4 := by rw [hv]; exact (Below.setCell (Below.setCell (Below.setCell (Below.setCell (Below.setCell (Below.setCell (Below.setCell (Below.setCell (M.out.2.2.2.2.2.2) (by omega) _) (by omega) _) (by omega) _) (by omega) _) (by omega) _) (by omega) _) (by omega) _) (by omega) _)
  replace M := Lib.hid (And.intro ((M.out.1).only og (by omega)) (And.intro ((M.out.2.1).far (M.out.2.2.2.1) (by rfl) (by omega) og) (And.intro ((M.out.2.2.1).far (M.out.2.2.2.1) (by rfl) (by omega) og) (And.intro hk (And.intro ((M.out.2.2.2.2.1).only og (by omega)) (And.intro ((M.out.2.2.2.2.2.1).only og (by omega)) hbw))))))
  clear hk hbw og hv hz
  refine bodyPost_ret (results_box2 rfl _ _ (w.heap.size + 1 + 1) 28 _ _ _ rfl (M.out.2.2.2.1) Try.underlying28 rfl (by kernel_rfl)) rfl ?_
  exact ⟨x_1, x_2, x_3, x_4, x_5, x_6, x_7, x_8, rfl, (M.out.2.1), (M.out.2.2.1), (M.out.2.2.2.2.2.2)⟩
set_option maxRecDepth 100000 in
set_option maxHeartbeats 4000000 in
theorem play_4 {u0 u1 u2 u3 u4 u5 u6 u7 v0 v1 v2 v3 v4 v5 v6 v7 : Value} {p q r s : Rat} {lo hi : Rat} {w : World} (hG : G ≤ w.heap.size) (h1 : FQ G w u0 u1 u2 u3 p) (h2 : FQ G w u4 u5 u6 u7 q) (h3 : FQ G w v0 v1 v2 v3 r) (h4 : FQ G w v4 v5 v6 v7 s) (hp : Fz p 17179869184) (hq : Fz q 17179869184) (hr : Fz r 17179869184) (hs : Fz s 17179869184) (ha : p ≤ q) (hb : r ≤ s) (hlo : minQ p r = lo) (hhi : minQ q s = hi)  :
    Calls Try.prog 11 #[.int .i64 4, .agg #[u0, u1, u2, u3, u4, u5, u6, u7], .agg #[v0, v1, v2, v3, v4, v5, v6, v7]] w fun e w' => ∃ x0 x1 x2 x3 x4 x5 x6 x7, e = .returned (.tuple #[.agg #[x0, x1, x2, x3, x4, x5, x6, x7], .int .i64 0]) ∧ FQ G w' x0 x1 x2 x3 lo ∧ FQ G w' x4 x5 x6 x7 hi ∧ Below w.heap.size w w' := by
  have HP := Lib.hid hp; have HQ := Lib.hid hq; have HR := Lib.hid hr; have HS := Lib.hid hs; have HAA := Lib.hid ha; have HBB := Lib.hid hb; clear hp hq hr hs ha hb
  have HLO := Lib.hid hlo; have HHI := Lib.hid hhi; clear hlo hhi
  have H1 : Hid (FQ G w u0 u1 u2 u3 p) := h1
  have H2 : Hid (FQ G w u4 u5 u6 u7 q) := h2
  have H3 : Hid (FQ G w v0 v1 v2 v3 r) := h3
  have H4 : Hid (FQ G w v4 v5 v6 v7 s) := h4
  clear h1 h2 h3 h4
  have M : Hid (Below w.heap.size w w) := Below.refl _ _
  go_enter Try.func11, Try.ntmps11
  go_upto_region 1 with fail
  obtain ⟨w1, hv⟩ : ∃ w_ : World, w_ = (((w.alloc (.cells #[u0, u1, u2, u3, u4, u5, u6, u7] 28)).alloc (.cells #[v0, v1, v2, v3, v4, v5, v6, v7] 28)).alloc (.cells #[.int .i64 0, .slice none 0 0, .int .i64 0, .slice none 0 0, .int .i64 0, .slice none 0 0, .int .i64 0, .slice none 0 0] 28)) := ⟨_, rfl⟩
  rw [← hv]
  have hbx := bx3 w 28 28 28 #[u0, u1, u2, u3, u4, u5, u6, u7] #[v0, v1, v2, v3, v4, v5, v6, v7] #[.int .i64 0, .slice none 0 0, .int .i64 0, .slice none 0 0, .int .i64 0, .slice none 0 0, .int .i64 0, .slice none 0 0]
  rw [← hv] at hbx
  have hbn : Below w.heap.size w w1 := by rw [hv]; exact (Below.alloc (Below.alloc (Below.alloc (Below.refl _ _) (by simp <;> omega) _) (by simp <;> omega) _) (by simp <;> omega) _)
  replace M := Lib.hid (And.intro hbx.2.2 (And.intro hbx.2.1 (And.intro hbx.1 (Goes.go M.out hbn))))
  clear hbx hbn
  clear hv
  have y0 := (M.out.2.2.1).d8; have p0_0 := y0.1; have p0_1 := y0.2.1; have p0_2 := y0.2.2.1; have p0_3 := y0.2.2.2.1; have p0_4 := y0.2.2.2.2.1; have p0_5 := y0.2.2.2.2.2.1; have p0_6 := y0.2.2.2.2.2.2.1; have p0_7 := y0.2.2.2.2.2.2.2; clear y0
  have y1 := (M.out.2.1).d8; have p1_0 := y1.1; have p1_1 := y1.2.1; have p1_2 := y1.2.2.1; have p1_3 := y1.2.2.2.1; have p1_4 := y1.2.2.2.2.1; have p1_5 := y1.2.2.2.2.2.1; have p1_6 := y1.2.2.2.2.2.2.1; have p1_7 := y1.2.2.2.2.2.2.2; clear y1
  go_wp2_with fail
  clear p0_0 p0_1 p0_2 p0_3 p0_4 p0_5 p0_6 p0_7 p1_0 p1_1 p1_2 p1_3 p1_4 p1_5 p1_6 p1_7
  obtain ⟨q9, eq9⟩ : ∃ v_ : Rat, v_ = (minQ p r) := ⟨_, rfl⟩
  obtain ⟨q10, eq10⟩ : ∃ v_ : Rat, v_ = (minQ q s) := ⟨_, rfl⟩
  refine (spMin_q (G := G) (p := p) (q := q) (r := r) (s := s) (Nat.le_trans hG (M.out.2.2.2).size) (H1.out.keep (M.out.2.2.2)) (H2.out.keep (M.out.2.2.2)) (H3.out.keep (M.out.2.2.2)) (H4.out.keep (M.out.2.2.2)) (Fz.mono HP.out (by omega)) (Fz.mono HQ.out (by omega)) (Fz.mono HR.out (by omega)) (Fz.mono HS.out (by omega)) HAA.out HBB.out).mono ?_
  rintro e w2 ⟨x_1, x_2, x_3, x_4, x_5, x_6, x_7, x_8, rfl, hd11, hd12, hb⟩
  rw [← eq9] at hd11
  have Sq9 : Hid (Fz q9 17179869184) := by show Fz q9 17179869184; rw [eq9]; exact (Fz.minQ HP.out HR.out)
  have Eq9 := Lib.hid eq9; clear eq9
  rw [← eq10] at hd12
  have Sq10 : Hid (Fz q10 17179869184) := by show Fz q10 17179869184; rw [eq10]; exact (Fz.minQ HQ.out HS.out)
  have Eq10 := Lib.hid eq10; clear eq10
  replace M := Lib.hid (And.intro hd11 (And.intro hd12 (Goes.go M.out hb)))
  clear hb hd11 hd12
  have ys_x_1 := TQ.st (M.out.1); have st_x_1 := ys_x_1.1; have st_x_2 := ys_x_1.2.1; have st_x_3 := ys_x_1.2.2.1; have st_x_4 := ys_x_1.2.2.2; clear ys_x_1
  have ys_x_5 := TQ.st (M.out.2.1); have st_x_5 := ys_x_5.1; have st_x_6 := ys_x_5.2.1; have st_x_7 := ys_x_5.2.2.1; have st_x_8 := ys_x_5.2.2.2; clear ys_x_5
  go_upto_region 16 with fail
  clear st_x_1 st_x_2 st_x_3 st_x_4 st_x_5 st_x_6 st_x_7 st_x_8
  obtain ⟨w3, hv⟩ : ∃ w_ : World, w_ = (w2.alloc (.cells #[x_1, x_2, x_3, x_4, x_5, x_6, x_7, x_8] 28)) := ⟨_, rfl⟩
  rw [← hv]
  have ow3_ : w.heap.size + 1 + 1 < w2.heap.size := ((M.out.2.2.1)).lt
  replace M := Lib.hid (And.intro (hv ▸ bx1 w2 28 #[x_1, x_2, x_3, x_4, x_5, x_6, x_7, x_8]) (Goes.go M.out (hv ▸ below_alloc _ _ : Below w2.heap.size w2 w3)))
  clear hv
  have y3 := (M.out.1).d8; have p3_0 := y3.1; have p3_1 := y3.2.1; have p3_2 := y3.2.2.1; have p3_3 := y3.2.2.2.1; have p3_4 := y3.2.2.2.2.1; have p3_5 := y3.2.2.2.2.2.1; have p3_6 := y3.2.2.2.2.2.2.1; have p3_7 := y3.2.2.2.2.2.2.2; clear y3
  have y2 := (M.out.2.2.2.1).c8; have p2_0 := y2.1; have q2_0 := y2.2.1; have p2_1 := y2.2.2.1; have q2_1 := y2.2.2.2.1; have p2_2 := y2.2.2.2.2.1; have q2_2 := y2.2.2.2.2.2.1; have p2_3 := y2.2.2.2.2.2.2.1; have q2_3 := y2.2.2.2.2.2.2.2.1; have p2_4 := y2.2.2.2.2.2.2.2.2.1; have q2_4 := y2.2.2.2.2.2.2.2.2.2.1; have p2_5 := y2.2.2.2.2.2.2.2.2.2.2.1; have q2_5 := y2.2.2.2.2.2.2.2.2.2.2.2.1; have p2_6 := y2.2.2.2.2.2.2.2.2.2.2.2.2.1; have q2_6 := y2.2.2.2.2.2.2.2.2.2.2.2.2.2.1; have p2_7 := y2.2.2.2.2.2.2.2.2.2.2.2.2.2.2.1; have q2_7 := y2.2.2.2.2.2.2.2.2.2.2.2.2.2.2.2; clear y2
  have ys_x_1 := TQ.st (M.out.2.1); have st_x_1 := ys_x_1.1; have st_x_2 := ys_x_1.2.1; have st_x_3 := ys_x_1.2.2.1; have st_x_4 := ys_x_1.2.2.2; clear ys_x_1
  have ys_x_5 := TQ.st (M.out.2.2.1); have st_x_5 := ys_x_5.1; have st_x_6 := ys_x_5.2.1; have st_x_7 := ys_x_5.2.2.1; have st_x_8 := ys_x_5.2.2.2; clear ys_x_5
  go_wp2_with fail
  clear p3_0 p3_1 p3_2 p3_3 p3_4 p3_5 p3_6 p3_7 p2_0 q2_0 p2_1 q2_1 p2_2 q2_2 p2_3 q2_3 p2_4 q2_4 p2_5 q2_5 p2_6 q2_6 p2_7 q2_7 st_x_1 st_x_2 st_x_3 st_x_4 st_x_5 st_x_6 st_x_7 st_x_8
  obtain ⟨w4, hv⟩ : ∃ w_ : World, w_ = ((((((((w3.setCell ⟨w.heap.size + 1 + 1, 0, none⟩ (x_1)).setCell ⟨w.heap.size + 1 + 1, 1, none⟩ (x_2)).setCell ⟨w.heap.size + 1 + 1, 2, none⟩ (x_3)).setCell ⟨w.heap.size + 1 + 1, 3, none⟩ (x_4)).setCell ⟨w.heap.size + 1 + 1, 4, none⟩ (x_5)).setCell ⟨w.heap.size + 1 + 1, 5, none⟩ (x_6)).setCell ⟨w.heap.size + 1 + 1, 6, none⟩ (x_7)).setCell ⟨w.heap.size + 1 + 1, 7, none⟩ (x_8)) := ⟨_, rfl⟩
  rw [← hv]
  have og : w3.grownBy w4 (some (w.heap.size + 1 + 1)) := by rw [hv]; exact (only_setCell (only_setCell (only_setCell (only_setCell (only_setCell (only_setCell (only_setCell (only_setCell (World.grownBy.refl _ _) _) _) _) _) _) _) _) _)
  have hz : w.heap.size ≤ w.heap.size + 1 + 1 := by omega
  have hk : Bx w4 (w.heap.size + 1 + 1) 28 #[x_1, x_2, x_3, x_4, x_5, x_6, x_7, x_8] := by rw [hv]; exact (((((((((M.out.2.2.2.1).set 0 _).set 1 _).set 2 _).set 3 _).set 4 _).set 5 _).set 6 _).set 7 _)
  have hbw : Below w.heap.size w w4 := by rw [hv]; exact (Below.setCell (Below.setCell (Below.setCell (Below.setCell (Below.setCell (Below.setCell (Below.setCell (Below.setCell (M.out.2.2.2.2.2.2) (by omega) _) (by omega) _) (by omega) _) (by omega) _) (by omega) _) (by omega) _) (by omega) _) (by omega) _)
  replace M := Lib.hid (And.intro ((M.out.1).only og (by omega)) (And.intro ((M.out.2.1).far (M.out.2.2.2.1) (by rfl) (by omega) og) (And.intro ((M.out.2.2.1).far (M.out.2.2.2.1) (by rfl) (by omega) og) (And.intro hk (And.intro ((M.out.2.2.2.2.1).only og (by omega)) (And.intro ((M.out.2.2.2.2.2.1).only og (by omega)) hbw))))))
  clear hk hbw og hv hz
  refine bodyPost_ret (results_box2 rfl _ _ (w.heap.size + 1 + 1) 28 _ _ _ rfl (M.out.2.2.2.1) Try.underlying28 rfl (by kernel_rfl)) rfl ?_
  exact ⟨x_1, x_2, x_3, x_4, x_5, x_6, x_7, x_8, rfl, (by have h_ := (M.out.2.1); rw [Eq9.out] at h_; rw [HLO.out] at h_; exact h_), (by have h_ := (M.out.2.2.1); rw [Eq10.out] at h_; rw [HHI.out] at h_; exact h_), (M.out.2.2.2.2.2.2)⟩
set_option maxRecDepth 100000 in
set_option maxHeartbeats 4000000 in
theorem play_5 {u0 u1 u2 u3 u4 u5 u6 u7 v0 v1 v2 v3 v4 v5 v6 v7 : Value} {p q r s : Rat} {lo hi : Rat} {w : World} (hG : G ≤ w.heap.size) (h1 : FQ G w u0 u1 u2 u3 p) (h2 : FQ G w u4 u5 u6 u7 q) (h3 : FQ G w v0 v1 v2 v3 r) (h4 : FQ G w v4 v5 v6 v7 s) (hp : Fz p 17179869184) (hq : Fz q 17179869184) (hr : Fz r 17179869184) (hs : Fz s 17179869184) (ha : p ≤ q) (hb : r ≤ s) (hlo : maxQ p r = lo) (hhi : maxQ q s = hi)  :
    Calls Try.prog 11 #[.int .i64 5, .agg #[u0, u1, u2, u3, u4, u5, u6, u7], .agg #[v0, v1, v2, v3, v4, v5, v6, v7]] w fun e w' => ∃ x0 x1 x2 x3 x4 x5 x6 x7, e = .returned (.tuple #[.agg #[x0, x1, x2, x3, x4, x5, x6, x7], .int .i64 0]) ∧ FQ G w' x0 x1 x2 x3 lo ∧ FQ G w' x4 x5 x6 x7 hi ∧ Below w.heap.size w w' := by
  have HP := Lib.hid hp; have HQ := Lib.hid hq; have HR := Lib.hid hr; have HS := Lib.hid hs; have HAA := Lib.hid ha; have HBB := Lib.hid hb; clear hp hq hr hs ha hb
  have HLO := Lib.hid hlo; have HHI := Lib.hid hhi; clear hlo hhi
  have H1 : Hid (FQ G w u0 u1 u2 u3 p) := h1
  have H2 : Hid (FQ G w u4 u5 u6 u7 q) := h2
  have H3 : Hid (FQ G w v0 v1 v2 v3 r) := h3
  have H4 : Hid (FQ G w v4 v5 v6 v7 s) := h4
  clear h1 h2 h3 h4
  have M : Hid (Below w.heap.size w w) := Below.refl _ _
  go_enter Try.func11, Try.ntmps11
  go_upto_region 1 with fail
  obtain ⟨w1, hv⟩ : ∃ w_ : World, w_ = (((w.alloc (.cells #[u0, u1, u2, u3, u4, u5, u6, u7] 28)).alloc (.cells #[v0, v1, v2, v3, v4, v5, v6, v7] 28)).alloc (.cells #[.int .i64 0, .slice none 0 0, .int .i64 0, .slice none 0 0, .int .i64 0, .slice none 0 0, .int .i64 0, .slice none 0 0] 28)) := ⟨_, rfl⟩
  rw [← hv]
  have hbx := bx3 w 28 28 28 #[u0, u1, u2, u3, u4, u5, u6, u7] #[v0, v1, v2, v3, v4, v5, v6, v7] #[.int .i64 0, .slice none 0 0, .int .i64 0, .slice none 0 0, .int .i64 0, .slice none 0 0, .int .i64 0, .slice none 0 0]
  rw [← hv] at hbx
  have hbn : Below w.heap.size w w1 := by rw [hv]; exact (Below.alloc (Below.alloc (Below.alloc (Below.refl _ _) (by simp <;> omega) _) (by simp <;> omega) _) (by simp <;> omega) _)
  replace M := Lib.hid (And.intro hbx.2.2 (And.intro hbx.2.1 (And.intro hbx.1 (Goes.go M.out hbn))))
  clear hbx hbn
  clear hv
  have y0 := (M.out.2.2.1).d8; have p0_0 := y0.1; have p0_1 := y0.2.1; have p0_2 := y0.2.2.1; have p0_3 := y0.2.2.2.1; have p0_4 := y0.2.2.2.2.1; have p0_5 := y0.2.2.2.2.2.1; have p0_6 := y0.2.2.2.2.2.2.1; have p0_7 := y0.2.2.2.2.2.2.2; clear y0
  have y1 := (M.out.2.1).d8; have p1_0 := y1.1; have p1_1 := y1.2.1; have p1_2 := y1.2.2.1; have p1_3 := y1.2.2.2.1; have p1_4 := y1.2.2.2.2.1; have p1_5 := y1.2.2.2.2.2.1; have p1_6 := y1.2.2.2.2.2.2.1; have p1_7 := y1.2.2.2.2.2.2.2; clear y1
  go_wp2_with fail
  clear p0_0 p0_1 p0_2 p0_3 p0_4 p0_5 p0_6 p0_7 p1_0 p1_1 p1_2 p1_3 p1_4 p1_5 p1_6 p1_7
  obtain ⟨q9, eq9⟩ : ∃ v_ : Rat, v_ = (maxQ p r) := ⟨_, rfl⟩
  obtain ⟨q10, eq10⟩ : ∃ v_ : Rat, v_ = (maxQ q s) := ⟨_, rfl⟩
  refine (spMax_q (G := G) (p := p) (q := q) (r := r) (s := s) (Nat.le_trans hG (M.out.2.2.2).size) (H1.out.keep (M.out.2.2.2)) (H2.out.keep (M.out.2.2.2)) (H3.out.keep (M.out.2.2.2)) (H4.out.keep (M.out.2.2.2)) (Fz.mono HP.out (by omega)) (Fz.mono HQ.out (by omega)) (Fz.mono HR.out (by omega)) (Fz.mono HS.out (by omega)) HAA.out HBB.out).mono ?_
  rintro e w2 ⟨x_1, x_2, x_3, x_4, x_5, x_6, x_7, x_8, rfl, hd11, hd12, hb⟩
  rw [← eq9] at hd11
  have Sq9 : Hid (Fz q9 17179869184) := by show Fz q9 17179869184; rw [eq9]; exact (Fz.maxQ HP.out HR.out)
  have Eq9 := Lib.hid eq9; clear eq9
  rw [← eq10] at hd12
  have Sq10 : Hid (Fz q10 17179869184) := by show Fz q10 17179869184; rw [eq10]; exact (Fz.maxQ HQ.out HS.out)
  have Eq10 := Lib.hid eq10; clear eq10
  replace M := Lib.hid (And.intro hd11 (And.intro hd12 (Goes.go M.out hb)))
  clear hb hd11 hd12
  have ys_x_1 := TQ.st (M.out.1); have st_x_1 := ys_x_1.1; have st_x_2 := ys_x_1.2.1; have st_x_3 := ys_x_1.2.2.1; have st_x_4 := ys_x_1.2.2.2; clear ys_x_1
  have ys_x_5 := TQ.st (M.out.2.1); have st_x_5 := ys_x_5.1; have st_x_6 := ys_x_5.2.1; have st_x_7 := ys_x_5.2.2.1; have st_x_8 := ys_x_5.2.2.2; clear ys_x_5
  go_upto_region 18 with fail
  clear st_x_1 st_x_2 st_x_3 st_x_4 st_x_5 st_x_6 st_x_7 st_x_8
  obtain ⟨w3, hv⟩ : ∃ w_ : World, w_ = (w2.alloc (.cells #[x_1, x_2, x_3, x_4, x_5, x_6, x_7, x_8] 28)) := ⟨_, rfl⟩
  rw [← hv]
  have ow3_ : w.heap.size + 1 + 1 < w2.heap.size := ((M.out.2.2.1)).lt
  replace M := Lib.hid (And.intro (hv ▸ bx1 w2 28 #[x_1, x_2, x_3, x_4, x_5, x_6, x_7, x_8]) (Goes.go M.out (hv ▸ below_alloc _ _ : Below w2.heap.size w2 w3)))
  clear hv
  have y3 := (M.out.1).d8; have p3_0 := y3.1; have p3_1 := y3.2.1; have p3_2 := y3.2.2.1; have p3_3 := y3.2.2.2.1; have p3_4 := y3.2.2.2.2.1; have p3_5 := y3.2.2.2.2.2.1; have p3_6 := y3.2.2.2.2.2.2.1; have p3_7 := y3.2.2.2.2.2.2.2; clear y3
  have y2 := (M.out.2.2.2.1).c8; have p2_0 := y2.1; have q2_0 := y2.2.1; have p2_1 := y2.2.2.1; have q2_1 := y2.2.2.2.1; have p2_2 := y2.2.2.2.2.1; have q2_2 := y2.2.2.2.2.2.1; have p2_3 := y2.2.2.2.2.2.2.1; have q2_3 := y2.2.2.2.2.2.2.2.1; have p2_4 := y2.2.2.2.2.2.2.2.2.1; have q2_4 := y2.2.2.2.2.2.2.2.2.2.1; have p2_5 := y2.2.2.2.2.2.2.2.2.2.2.1; have q2_5 := y2.2.2.2.2.2.2.2.2.2.2.2.1; have p2_6 := y2.2.2.2.2.2.2.2.2.2.2.2.2.1; have q2_6 := y2.2.2.2.2.2.2.2.2.2.2.2.2.2.1; have p2_7 := y2.2.2.2.2.2.2.2.2.2.2.2.2.2.2.1; have q2_7 := y2.2.2.2.2.2.2.2.2.2.2.2.2.2.2.2; clear y2
  have ys_x_1 := TQ.st (M.out.2.1); have st_x_1 := ys_x_1.1; have st_x_2 := ys_x_1.2.1; have st_x_3 := ys_x_1.2.2.1; have st_x_4 := ys_x_1.2.2.2; clear ys_x_1
  have ys_x_5 := TQ.st (M.out.2.2.1); have st_x_5 := ys_x_5.1; have st_x_6 := ys_x_5.2.1; have st_x_7 := ys_x_5.2.2.1; have st_x_8 := ys_x_5.2.2.2; clear ys_x_5
  go_wp2_with fail
  clear p3_0 p3_1 p3_2 p3_3 p3_4 p3_5 p3_6 p3_7 p2_0 q2_0 p2_1 q2_1 p2_2 q2_2 p2_3 q2_3 p2_4 q2_4 p2_5 q2_5 p2_6 q2_6 p2_7 q2_7 st_x_1 st_x_2 st_x_3 st_x_4 st_x_5 st_x_6 st_x_7 st_x_8
  obtain ⟨w4, hv⟩ : ∃ w_ : World, w_ = ((((((((w3.setCell ⟨w.heap.size + 1 + 1, 0, none⟩ (x_1)).setCell ⟨w.heap.size + 1 + 1, 1, none⟩ (x_2)).setCell ⟨w.heap.size + 1 + 1, 2, none⟩ (x_3)).setCell ⟨w.heap.size + 1 + 1, 3, none⟩ (x_4)).setCell ⟨w.heap.size + 1 + 1, 4, none⟩ (x_5)).setCell ⟨w.heap.size + 1 + 1, 5, none⟩ (x_6)).setCell ⟨w.heap.size + 1 + 1, 6, none⟩ (x_7)).setCell ⟨w.heap.size + 1 + 1, 7, none⟩ (x_8)) := ⟨_, rfl⟩
  rw [← hv]
  have og : w3.grownBy w4 (some (w.heap.size + 1 + 1)) := by rw [hv]; exact (only_setCell (only_setCell (only_setCell (only_setCell (only_setCell (only_setCell (only_setCell (only_setCell (World.grownBy.refl _ _) _) _) _) _) _) _) _) _)
  have hz : w.heap.size ≤ w.heap.size + 1 + 1 := by omega
  have hk : Bx w4 (w.heap.size + 1 + 1) 28 #[x_1, x_2, x_3, x_4, x_5, x_6, x_7, x_8] := by rw [hv]; exact (((((((((M.out.2.2.2.1).set 0 _).set 1 _).set 2 _).set 3 _).set 4 _).set 5 _).set 6 _).set 7 _)
  have hbw : Below w.heap.size w w4 := by rw [hv]; exact (Below.setCell (Below.setCell (Below.setCell (Below.setCell (Below.setCell (Below.setCell (Below.setCell (Below.setCell (M.out.2.2.2.2.2.2) (by omega) _) (by omega) _) (by omega) _) (by omega) _) (by omega) _) (by omega) _) (by omega) _) (by omega) _)
  replace M := Lib.hid (And.intro ((M.out.1).only og (by omega)) (And.intro ((M.out.2.1).far (M.out.2.2.2.1) (by rfl) (by omega) og) (And.intro ((M.out.2.2.1).far (M.out.2.2.2.1) (by rfl) (by omega) og) (And.intro hk (And.intro ((M.out.2.2.2.2.1).only og (by omega)) (And.intro ((M.out.2.2.2.2.2.1).only og (by omega)) hbw))))))
  clear hk hbw og hv hz
  refine bodyPost_ret (results_box2 rfl _ _ (w.heap.size + 1 + 1) 28 _ _ _ rfl (M.out.2.2.2.1) Try.underlying28 rfl (by kernel_rfl)) rfl ?_
  exact ⟨x_1, x_2, x_3, x_4, x_5, x_6, x_7, x_8, rfl, (by have h_ := (M.out.2.1); rw [Eq9.out] at h_; rw [HLO.out] at h_; exact h_), (by have h_ := (M.out.2.2.1); rw [Eq10.out] at h_; rw [HHI.out] at h_; exact h_), (M.out.2.2.2.2.2.2)⟩
set_option maxRecDepth 100000 in
set_option maxHeartbeats 4000000 in
theorem play_none3 {u0 u1 u2 u3 u4 u5 u6 u7 v0 v1 v2 v3 v4 v5 v6 v7 : Value} {p q r s : Rat} {w : World} (hG : G ≤ w.heap.size) (h1 : FQ G w u0 u1 u2 u3 p) (h2 : FQ G w u4 u5 u6 u7 q) (h3 : FQ G w v0 v1 v2 v3 r) (h4 : FQ G w v4 v5 v6 v7 s) (hp : Fz p 17179869184) (hq : Fz q 17179869184) (hr : Fz r 17179869184) (hs : Fz s 17179869184) (ha : p ≤ q) (hb : r ≤ s) (h0 : r ≤ 0 ∧ 0 ≤ s)  :
    Calls Try.prog 11 #[.int .i64 3, .agg #[u0, u1, u2, u3, u4, u5, u6, u7], .agg #[v0, v1, v2, v3, v4, v5, v6, v7]] w fun e w' => e = .returned (.tuple #[.agg #[.int .i64 0, .slice none 0 0, .int .i64 0, .slice none 0 0, .int .i64 0, .slice none 0 0, .int .i64 0, .slice none 0 0], .int .i64 15]) ∧ Below w.heap.size w w' := by
  have H0 := Lib.hid h0; clear h0
  have HP := Lib.hid hp; have HQ := Lib.hid hq; have HR := Lib.hid hr; have HS := Lib.hid hs; have HAA := Lib.hid ha; have HBB := Lib.hid hb; clear hp hq hr hs ha hb
  have H1 : Hid (FQ G w u0 u1 u2 u3 p) := h1
  have H2 : Hid (FQ G w u4 u5 u6 u7 q) := h2
  have H3 : Hid (FQ G w v0 v1 v2 v3 r) := h3
  have H4 : Hid (FQ G w v4 v5 v6 v7 s) := h4
  clear h1 h2 h3 h4
  have M : Hid (Below w.heap.size w w) := Below.refl _ _
  go_enter Try.func11, Try.ntmps11
  go_upto_region 1 with fail
  obtain ⟨w1, hv⟩ : ∃ w_ : World, w_ = (((w.alloc (.cells #[u0, u1, u2, u3, u4, u5, u6, u7] 28)).alloc (.cells #[v0, v1, v2, v3, v4, v5, v6, v7] 28)).alloc (.cells #[.int .i64 0, .slice none 0 0, .int .i64 0, .slice none 0 0, .int .i64 0, .slice none 0 0, .int .i64 0, .slice none 0 0] 28)) := ⟨_, rfl⟩
  rw [← hv]
  have hbx := bx3 w 28 28 28 #[u0, u1, u2, u3, u4, u5, u6, u7] #[v0, v1, v2, v3, v4, v5, v6, v7] #[.int .i64 0, .slice none 0 0, .int .i64 0, .slice none 0 0, .int .i64 0, .slice none 0 0, .int .i64 0, .slice none 0 0]
  rw [← hv] at hbx
  have hbn : Below w.heap.size w w1 := by rw [hv]; exact (Below.alloc (Below.alloc (Below.alloc (Below.refl _ _) (by simp <;> omega) _) (by simp <;> omega) _) (by simp <;> omega) _)
  replace M := Lib.hid (And.intro hbx.2.2 (And.intro hbx.2.1 (And.intro hbx.1 (Goes.go M.out hbn))))
  clear hbx hbn
  clear hv
  have y0 := (M.out.2.2.1).d8; have p0_0 := y0.1; have p0_1 := y0.2.1; have p0_2 := y0.2.2.1; have p0_3 := y0.2.2.2.1; have p0_4 := y0.2.2.2.2.1; have p0_5 := y0.2.2.2.2.2.1; have p0_6 := y0.2.2.2.2.2.2.1; have p0_7 := y0.2.2.2.2.2.2.2; clear y0
  have y1 := (M.out.2.1).d8; have p1_0 := y1.1; have p1_1 := y1.2.1; have p1_2 := y1.2.2.1; have p1_3 := y1.2.2.2.1; have p1_4 := y1.2.2.2.2.1; have p1_5 := y1.2.2.2.2.2.1; have p1_6 := y1.2.2.2.2.2.2.1; have p1_7 := y1.2.2.2.2.2.2.2; clear y1
  go_wp2_with fail
  clear p0_0 p0_1 p0_2 p0_3 p0_4 p0_5 p0_6 p0_7 p1_0 p1_1 p1_2 p1_3 p1_4 p1_5 p1_6 p1_7
  refine (spDiv_none (G := G) (p := p) (q := q) (r := r) (s := s) (Nat.le_trans hG (M.out.2.2.2).size) (H1.out.keep (M.out.2.2.2)) (H2.out.keep (M.out.2.2.2)) (H3.out.keep (M.out.2.2.2)) (H4.out.keep (M.out.2.2.2)) HP.out HQ.out HR.out HS.out HAA.out HBB.out H0.out).mono ?_
  rintro e w2 ⟨rfl, hb⟩
  replace M := Lib.hid (Goes.go M.out hb)
  clear hb
  go_upto_region 13 with fail
  obtain ⟨w3, hv⟩ : ∃ w_ : World, w_ = (w2.alloc (.cells #[.int .i64 0, .slice none 0 0, .int .i64 0, .slice none 0 0, .int .i64 0, .slice none 0 0, .int .i64 0, .slice none 0 0] 28)) := ⟨_, rfl⟩
  rw [← hv]
  have ow3_ : w.heap.size + 1 + 1 < w2.heap.size := ((M.out.1)).lt
  replace M := Lib.hid (And.intro (hv ▸ bx1 w2 28 #[.int .i64 0, .slice none 0 0, .int .i64 0, .slice none 0 0, .int .i64 0, .slice none 0 0, .int .i64 0, .slice none 0 0]) (Goes.go M.out (hv ▸ below_alloc _ _ : Below w2.heap.size w2 w3)))
  clear hv
  have y3 := (M.out.1).d8; have p3_0 := y3.1; have p3_1 := y3.2.1; have p3_2 := y3.2.2.1; have p3_3 := y3.2.2.2.1; have p3_4 := y3.2.2.2.2.1; have p3_5 := y3.2.2.2.2.2.1; have p3_6 := y3.2.2.2.2.2.2.1; have p3_7 := y3.2.2.2.2.2.2.2; clear y3
  have y2 := (M.out.2.1).c8; have p2_0 := y2.1; have q2_0 := y2.2.1; have p2_1 := y2.2.2.1; have q2_1 := y2.2.2.2.1; have p2_2 := y2.2.2.2.2.1; have q2_2 := y2.2.2.2.2.2.1; have p2_3 := y2.2.2.2.2.2.2.1; have q2_3 := y2.2.2.2.2.2.2.2.1; have p2_4 := y2.2.2.2.2.2.2.2.2.1; have q2_4 := y2.2.2.2.2.2.2.2.2.2.1; have p2_5 := y2.2.2.2.2.2.2.2.2.2.2.1; have q2_5 := y2.2.2.2.2.2.2.2.2.2.2.2.1; have p2_6 := y2.2.2.2.2.2.2.2.2.2.2.2.2.1; have q2_6 := y2.2.2.2.2.2.2.2.2.2.2.2.2.2.1; have p2_7 := y2.2.2.2.2.2.2.2.2.2.2.2.2.2.2.1; have q2_7 := y2.2.2.2.2.2.2.2.2.2.2.2.2.2.2.2; clear y2
  go_wp2_with fail
  clear p3_0 p3_1 p3_2 p3_3 p3_4 p3_5 p3_6 p3_7 p2_0 q2_0 p2_1 q2_1 p2_2 q2_2 p2_3 q2_3 p2_4 q2_4 p2_5 q2_5 p2_6 q2_6 p2_7 q2_7
  obtain ⟨w4, hv⟩ : ∃ w_ : World, w_ = ((((((((w3.setCell ⟨w.heap.size + 1 + 1, 0, none⟩ (.int .i64 0)).setCell ⟨w.heap.size + 1 + 1, 1, none⟩ (.slice none 0 0)).setCell ⟨w.heap.size + 1 + 1, 2, none⟩ (.int .i64 0)).setCell ⟨w.heap.size + 1 + 1, 3, none⟩ (.slice none 0 0)).setCell ⟨w.heap.size + 1 + 1, 4, none⟩ (.int .i64 0)).setCell ⟨w.heap.size + 1 + 1, 5, none⟩ (.slice none 0 0)).setCell ⟨w.heap.size + 1 + 1, 6, none⟩ (.int .i64 0)).setCell ⟨w.heap.size + 1 + 1, 7, none⟩ (.slice none 0 0)) := ⟨_, rfl⟩
  rw [← hv]
  have og : w3.grownBy w4 (some (w.heap.size + 1 + 1)) := by rw [hv]; exact (only_setCell (only_setCell (only_setCell (only_setCell (only_setCell (only_setCell (only_setCell (only_setCell (World.grownBy.refl _ _) _) _) _) _) _) _) _) _)
  have hz : w.heap.size ≤ w.heap.size + 1 + 1 := by omega
  have hk : Bx w4 (w.heap.size + 1 + 1) 28 #[.int .i64 0, .slice none 0 0, .int .i64 0, .slice none 0 0, .int .i64 0, .slice none 0 0, .int .i64 0, .slice none 0 0] := by rw [hv]; exact (((((((((M.out.2.1).set 0 _).set 1 _).set 2 _).set 3 _).set 4 _).set 5 _).set 6 _).set 7 _)
  have hbw : Below w.heap.size w w4 := by rw [hv]; exact (Below.setCell (Below.setCell (Below.setCell (Below.setCell (Below.setCell (Below.setCell (Below.setCell (Below.setCell (M.out.2.2.2.2) (by omega) _) (by omega) _) (by omega) _) (by omega) _) (by omega) _) (by omega) _) (by omega) _) (by omega) _)
  replace M := Lib.hid (And.intro ((M.out.1).only og (by omega)) (And.intro hk (And.intro ((M.out.2.2.1).only og (by omega)) (And.intro ((M.out.2.2.2.1).only og (by omega)) hbw))))
  clear hk hbw og hv hz
  refine bodyPost_ret (results_box2 rfl _ _ (w.heap.size + 1 + 1) 28 _ _ _ rfl (M.out.2.1) Try.underlying28 rfl (by kernel_rfl)) rfl ?_
  exact ⟨rfl, (M.out.2.2.2.2)⟩
theorem play_some {k : Nat} {u0 u1 u2 u3 u4 u5 u6 u7 v0 v1 v2 v3 v4 v5 v6 v7 : Value} {p q r s : Rat} {lo hi : Rat} {i : Int} {w : World} (hG : G ≤ w.heap.size) (h1 : FQ G w u0 u1 u2 u3 p) (h2 : FQ G w u4 u5 u6 u7 q) (h3 : FQ G w v0 v1 v2 v3 r) (h4 : FQ G w v4 v5 v6 v7 s) (hp : Fz p 17179869184) (hq : Fz q 17179869184) (hr : Fz r 17179869184) (hs : Fz s 17179869184) (ha : p ≤ q) (hb : r ≤ s) (hk : k < 6) (hi_ : (k : Int) = i) (ho : opS k ⟨p, q⟩ ⟨r, s⟩ = some ⟨lo, hi⟩) :
    Calls Try.prog 11 #[.int .i64 i, .agg #[u0, u1, u2, u3, u4, u5, u6, u7], .agg #[v0, v1, v2, v3, v4, v5, v6, v7]] w fun e w' => ∃ x0 x1 x2 x3 x4 x5 x6 x7, e = .returned (.tuple #[.agg #[x0, x1, x2, x3, x4, x5, x6, x7], .int .i64 0]) ∧ FQ G w' x0 x1 x2 x3 lo ∧ FQ G w' x4 x5 x6 x7 hi ∧ Below w.heap.size w w' := by
  subst hi_
  match k, ho with
  | 0, ho => cases ho; exact play_0 hG h1 h2 h3 h4 hp hq hr hs ha hb rfl rfl
  | 1, ho => cases ho; exact play_1 hG h1 h2 h3 h4 hp hq hr hs ha hb (Rat.sub_eq_add_neg _ _) (Rat.sub_eq_add_neg _ _)
  | 2, ho => cases ho; exact play_2 hG h1 h2 h3 h4 hp hq hr hs ha hb rfl rfl
  | 3, ho =>
    obtain ⟨h0, ho⟩ := divS_some ho
    cases ho; exact play_3 hG h1 h2 h3 h4 hp hq hr hs ha hb h0 rfl rfl
  | 4, ho => cases ho; exact play_4 hG h1 h2 h3 h4 hp hq hr hs ha hb rfl rfl
  | 5, ho => cases ho; exact play_5 hG h1 h2 h3 h4 hp hq hr hs ha hb rfl rfl
  | k + 6, _ => omega
theorem play_none {u0 u1 u2 u3 u4 u5 u6 u7 v0 v1 v2 v3 v4 v5 v6 v7 : Value} {p q r s : Rat} {k : Nat} {i : Int} {w : World} (hG : G ≤ w.heap.size) (h1 : FQ G w u0 u1 u2 u3 p) (h2 : FQ G w u4 u5 u6 u7 q) (h3 : FQ G w v0 v1 v2 v3 r) (h4 : FQ G w v4 v5 v6 v7 s) (hp : Fz p 17179869184) (hq : Fz q 17179869184) (hr : Fz r 17179869184) (hs : Fz s 17179869184) (ha : p ≤ q) (hb : r ≤ s) (hi_ : (k : Int) = i) (ho : opS k ⟨p, q⟩ ⟨r, s⟩ = none) :
    Calls Try.prog 11 #[.int .i64 i, .agg #[u0, u1, u2, u3, u4, u5, u6, u7], .agg #[v0, v1, v2, v3, v4, v5, v6, v7]] w fun e w' => e = .returned (.tuple #[.agg #[.int .i64 0, .slice none 0 0, .int .i64 0, .slice none 0 0, .int .i64 0, .slice none 0 0, .int .i64 0, .slice none 0 0], .int .i64 15]) ∧ Below w.heap.size w w' := by
  obtain ⟨rfl, h0⟩ := op_none ho
  subst hi_
  exact play_none3 hG h1 h2 h3 h4 hp hq hr hs ha hb h0
set_option maxRecDepth 100000 in
set_option maxHeartbeats 4000000 in
theorem calc_0 {u0 u1 u2 u3 v0 v1 v2 v3 : Value} {q r : Rat} {z : Rat} {w : World} (_hG : G ≤ w.heap.size) (h1 : FQ G w u0 u1 u2 u3 q) (h2 : FQ G w v0 v1 v2 v3 r) (hx : Fz q 137438953472) (hy : Fz r 137438953472) (hz : q + r = z)  :
    Calls Try.prog 29 #[.int .i64 0, .agg #[u0, u1, u2, u3], .agg #[v0, v1, v2, v3]] w fun e w' => ∃ x0 x1 x2 x3, e = .returned (.tuple #[.agg #[x0, x1, x2, x3], .int .i64 0]) ∧ FQ G w' x0 x1 x2 x3 z ∧ Below w.heap.size w w' := by
  have HX := Lib.hid hx; have HY := Lib.hid hy; have HZ := Lib.hid hz
  clear hx hy hz
  have H1 : Hid (FQ G w u0 u1 u2 u3 q) := h1
  have H2 : Hid (FQ G w v0 v1 v2 v3 r) := h2
  clear h1 h2
  have M : Hid (Below w.heap.size w w) := Below.refl _ _
  go_enter Try.func29, Try.ntmps29
  go_upto_region 1 with fail
  obtain ⟨w1, hv⟩ : ∃ w_ : World, w_ = (((w.alloc (.cells #[u0, u1, u2, u3] 26)).alloc (.cells #[v0, v1, v2, v3] 26)).alloc (.cells #[.int .i64 0, .slice none 0 0, .int .i64 0, .slice none 0 0] 26)) := ⟨_, rfl⟩
  rw [← hv]
  have hbx := bx3 w 26 26 26 #[u0, u1, u2, u3] #[v0, v1, v2, v3] #[.int .i64 0, .slice none 0 0, .int .i64 0, .slice none 0 0]
  rw [← hv] at hbx
  have hbn : Below w.heap.size w w1 := by rw [hv]; exact (Below.alloc (Below.alloc (Below.alloc (Below.refl _ _) (by simp <;> omega) _) (by simp <;> omega) _) (by simp <;> omega) _)
  replace M := Lib.hid (And.intro hbx.2.2 (And.intro hbx.2.1 (And.intro hbx.1 (Goes.go M.out hbn))))
  clear hbx hbn
  clear hv
  have y0 := (M.out.2.2.1).d4; have p0_0 := y0.1; have p0_1 := y0.2.1; have p0_2 := y0.2.2.1; have p0_3 := y0.2.2.2; clear y0
  have y1 := (M.out.2.1).d4; have p1_0 := y1.1; have p1_1 := y1.2.1; have p1_2 := y1.2.2.1; have p1_3 := y1.2.2.2; clear y1
  go_wp2_with fail
  clear p0_0 p0_1 p0_2 p0_3 p1_0 p1_1 p1_2 p1_3
  obtain ⟨q5, eq5⟩ : ∃ v_ : Rat, v_ = (q + r) := ⟨_, rfl⟩
  refine (fqAdd (G := G) (q := q) (r := r) (H1.out.keep (M.out.2.2.2)) (H2.out.keep (M.out.2.2.2)) HX.out HY.out).mono ?_
  rintro e w2 ⟨x_1, x_2, x_3, x_4, rfl, hd6, hb⟩
  rw [← eq5] at hd6
  have Sq5 : Hid (Fz q5 274877906945) := by show Fz q5 274877906945; rw [eq5]; exact (Fz.add HX.out HY.out)
  have Eq5 := Lib.hid eq5; clear eq5
  replace M := Lib.hid (And.intro hd6 (Goes.go M.out hb))
  clear hb hd6
  have ys_x_1 := TQ.st (M.out.1); have st_x_1 := ys_x_1.1; have st_x_2 := ys_x_1.2.1; have st_x_3 := ys_x_1.2.2.1; have st_x_4 := ys_x_1.2.2.2; clear ys_x_1
  go_upto_region 4 with fail
  clear st_x_1 st_x_2 st_x_3 st_x_4
  obtain ⟨w3, hv⟩ : ∃ w_ : World, w_ = (w2.alloc (.cells #[x_1, x_2, x_3, x_4] 26)) := ⟨_, rfl⟩
  rw [← hv]
  have ow3_ : w.heap.size + 1 + 1 < w2.heap.size := ((M.out.2.1)).lt
  replace M := Lib.hid (And.intro (hv ▸ bx1 w2 26 #[x_1, x_2, x_3, x_4]) (Goes.go M.out (hv ▸ below_alloc _ _ : Below w2.heap.size w2 w3)))
  clear hv
  have y3 := (M.out.1).d4; have p3_0 := y3.1; have p3_1 := y3.2.1; have p3_2 := y3.2.2.1; have p3_3 := y3.2.2.2; clear y3
  have y2 := (M.out.2.2.1).c4; have p2_0 := y2.1; have q2_0 := y2.2.1; have p2_1 := y2.2.2.1; have q2_1 := y2.2.2.2.1; have p2_2 := y2.2.2.2.2.1; have q2_2 := y2.2.2.2.2.2.1; have p2_3 := y2.2.2.2.2.2.2.1; have q2_3 := y2.2.2.2.2.2.2.2; clear y2
  have ys_x_1 := TQ.st (M.out.2.1); have st_x_1 := ys_x_1.1; have st_x_2 := ys_x_1.2.1; have st_x_3 := ys_x_1.2.2.1; have st_x_4 := ys_x_1.2.2.2; clear ys_x_1
  go_wp2_with fail
  clear p3_0 p3_1 p3_2 p3_3 p2_0 q2_0 p2_1 q2_1 p2_2 q2_2 p2_3 q2_3 st_x_1 st_x_2 st_x_3 st_x_4
  obtain ⟨w4, hv⟩ : ∃ w_ : World, w_ = ((((w3.setCell ⟨w.heap.size + 1 + 1, 0, none⟩ (x_1)).setCell ⟨w.heap.size + 1 + 1, 1, none⟩ (x_2)).setCell ⟨w.heap.size + 1 + 1, 2, none⟩ (x_3)).setCell ⟨w.heap.size + 1 + 1, 3, none⟩ (x_4)) := ⟨_, rfl⟩
  rw [← hv]
  have og : w3.grownBy w4 (some (w.heap.size + 1 + 1)) := by rw [hv]; exact (only_setCell (only_setCell (only_setCell (only_setCell (World.grownBy.refl _ _) _) _) _) _)
  have hz : w.heap.size ≤ w.heap.size + 1 + 1 := by omega
  have hk : Bx w4 (w.heap.size + 1 + 1) 26 #[x_1, x_2, x_3, x_4] := by rw [hv]; exact (((((M.out.2.2.1).set 0 _).set 1 _).set 2 _).set 3 _)
  have hbw : Below w.heap.size w w4 := by rw [hv]; exact (Below.setCell (Below.setCell (Below.setCell (Below.setCell (M.out.2.2.2.2.2) (by omega) _) (by omega) _) (by omega) _) (by omega) _)
  replace M := Lib.hid (And.intro ((M.out.1).only og (by omega)) (And.intro ((M.out.2.1).far (M.out.2.2.1) (by rfl) (by omega) og) (And.intro hk (And.intro ((M.out.2.2.2.1).only og (by omega)) (And.intro ((M.out.2.2.2.2.1).only og (by omega)) hbw)))))
  clear hk hbw og hv hz
  refine bodyPost_ret (results_box2 rfl _ _ (w.heap.size + 1 + 1) 26 _ _ _ rfl (M.out.2.2.1) Try.underlying26 rfl (by kernel_rfl)) rfl ?_
  exact ⟨x_1, x_2, x_3, x_4, rfl, (by have h_ := (M.out.2.1); rw [Eq5.out] at h_; rw [HZ.out] at h_; exact h_), (M.out.2.2.2.2.2)⟩
set_option maxRecDepth 100000 in
set_option maxHeartbeats 4000000 in
theorem calc_1 {u0 u1 u2 u3 v0 v1 v2 v3 : Value} {q r : Rat} {z : Rat} {w : World} (_hG : G ≤ w.heap.size) (h1 : FQ G w u0 u1 u2 u3 q) (h2 : FQ G w v0 v1 v2 v3 r) (hx : Fz q 137438953472) (hy : Fz r 137438953472) (hz : q - r = z)  :
    Calls Try.prog 29 #[.int .i64 1, .agg #[u0, u1, u2, u3], .agg #[v0, v1, v2, v3]] w fun e w' => ∃ x0 x1 x2 x3, e = .returned (.tuple #[.agg #[x0, x1, x2, x3], .int .i64 0]) ∧ FQ G w' x0 x1 x2 x3 z ∧ Below w.heap.size w w' := by
  have HX := Lib.hid hx; have HY := Lib.hid hy; have HZ := Lib.hid hz
  clear hx hy hz
  have H1 : Hid (FQ G w u0 u1 u2 u3 q) := h1
  have H2 : Hid (FQ G w v0 v1 v2 v3 r) := h2
  clear h1 h2
  have M : Hid (Below w.heap.size w w) := Below.refl _ _
  go_enter Try.func29, Try.ntmps29
  go_upto_region 1 with fail
  obtain ⟨w1, hv⟩ : ∃ w_ : World, w_ = (((w.alloc (.cells #[u0, u1, u2, u3] 26)).alloc (.cells #[v0, v1, v2, v3] 26)).alloc (.cells #[.int .i64 0, .slice none 0 0, .int .i64 0, .slice none 0 0] 26)) := ⟨_, rfl⟩
  rw [← hv]
  have hbx := bx3 w 26 26 26 #[u0, u1, u2, u3] #[v0, v1, v2, v3] #[.int .i64 0, .slice none 0 0, .int .i64 0, .slice none 0 0]
  rw [← hv] at hbx
  have hbn : Below w.heap.size w w1 := by rw [hv]; exact (Below.alloc (Below.alloc (Below.alloc (Below.refl _ _) (by simp <;> omega) _) (by simp <;> omega) _) (by simp <;> omega) _)
  replace M := Lib.hid (And.intro hbx.2.2 (And.intro hbx.2.1 (And.intro hbx.1 (Goes.go M.out hbn))))
  clear hbx hbn
  clear hv
  have y0 := (M.out.2.2.1).d4; have p0_0 := y0.1; have p0_1 := y0.2.1; have p0_2 := y0.2.2.1; have p0_3 := y0.2.2.2; clear y0
  have y1 := (M.out.2.1).d4; have p1_0 := y1.1; have p1_1 := y1.2.1; have p1_2 := y1.2.2.1; have p1_3 := y1.2.2.2; clear y1
  go_wp2_with fail
  clear p0_0 p0_1 p0_2 p0_3 p1_0 p1_1 p1_2 p1_3
  obtain ⟨q5, eq5⟩ : ∃ v_ : Rat, v_ = (q - r) := ⟨_, rfl⟩
  refine (fqSub (G := G) (q := q) (r := r) (H1.out.keep (M.out.2.2.2)) (H2.out.keep (M.out.2.2.2)) HX.out HY.out).mono ?_
  rintro e w2 ⟨x_1, x_2, x_3, x_4, rfl, hd6, hb⟩
  rw [← eq5] at hd6
  have Sq5 : Hid (Fz q5 274877906945) := by show Fz q5 274877906945; rw [eq5]; exact (Fz.sub HX.out HY.out)
  have Eq5 := Lib.hid eq5; clear eq5
  replace M := Lib.hid (And.intro hd6 (Goes.go M.out hb))
  clear hb hd6
  have ys_x_1 := TQ.st (M.out.1); have st_x_1 := ys_x_1.1; have st_x_2 := ys_x_1.2.1; have st_x_3 := ys_x_1.2.2.1; have st_x_4 := ys_x_1.2.2.2; clear ys_x_1
  go_upto_region 7 with fail
  clear st_x_1 st_x_2 st_x_3 st_x_4
  obtain ⟨w3, hv⟩ : ∃ w_ : World, w_ = (w2.alloc (.cells #[x_1, x_2, x_3, x_4] 26)) := ⟨_, rfl⟩
  rw [← hv]
  have ow3_ : w.heap.size + 1 + 1 < w2.heap.size := ((M.out.2.1)).lt
  replace M := Lib.hid (And.intro (hv ▸ bx1 w2 26 #[x_1, x_2, x_3, x_4]) (Goes.go M.out (hv ▸ below_alloc _ _ : Below w2.heap.size w2 w3)))
  clear hv
  have y3 := (M.out.1).d4; have p3_0 := y3.1; have p3_1 := y3.2.1; have p3_2 := y3.2.2.1; have p3_3 := y3.2.2.2; clear y3
  have y2 := (M.out.2.2.1).c4; have p2_0 := y2.1; have q2_0 := y2.2.1; have p2_1 := y2.2.2.1; have q2_1 := y2.2.2.2.1; have p2_2 := y2.2.2.2.2.1; have q2_2 := y2.2.2.2.2.2.1; have p2_3 := y2.2.2.2.2.2.2.1; have q2_3 := y2.2.2.2.2.2.2.2; clear y2
  have ys_x_1 := TQ.st (M.out.2.1); have st_x_1 := ys_x_1.1; have st_x_2 := ys_x_1.2.1; have st_x_3 := ys_x_1.2.2.1; have st_x_4 := ys_x_1.2.2.2; clear ys_x_1
  go_wp2_with fail
  clear p3_0 p3_1 p3_2 p3_3 p2_0 q2_0 p2_1 q2_1 p2_2 q2_2 p2_3 q2_3 st_x_1 st_x_2 st_x_3 st_x_4
  obtain ⟨w4, hv⟩ : ∃ w_ : World, w_ = ((((w3.setCell ⟨w.heap.size + 1 + 1, 0, none⟩ (x_1)).setCell ⟨w.heap.size + 1 + 1, 1, none⟩ (x_2)).setCell ⟨w.heap.size + 1 + 1, 2, none⟩ (x_3)).setCell ⟨w.heap.size + 1 + 1, 3, none⟩ (x_4)) := ⟨_, rfl⟩
  rw [← hv]
  have og : w3.grownBy w4 (some (w.heap.size + 1 + 1)) := by rw [hv]; exact (only_setCell (only_setCell (only_setCell (only_setCell (World.grownBy.refl _ _) _) _) _) _)
  have hz : w.heap.size ≤ w.heap.size + 1 + 1 := by omega
  have hk : Bx w4 (w.heap.size + 1 + 1) 26 #[x_1, x_2, x_3, x_4] := by rw [hv]; exact (((((M.out.2.2.1).set 0 _).set 1 _).set 2 _).set 3 _)
  have hbw : Below w.heap.size w w4 := by rw [hv]; exact (Below.setCell (Below.setCell (Below.setCell (Below.setCell (M.out.2.2.2.2.2) (by omega) _) (by omega) _) (by omega) _) (by omega) _)
  replace M := Lib.hid (And.intro ((M.out.1).only og (by omega)) (And.intro ((M.out.2.1).far (M.out.2.2.1) (by rfl) (by omega) og) (And.intro hk (And.intro ((M.out.2.2.2.1).only og (by omega)) (And.intro ((M.out.2.2.2.2.1).only og (by omega)) hbw)))))
  clear hk hbw og hv hz
  refine bodyPost_ret (results_box2 rfl _ _ (w.heap.size + 1 + 1) 26 _ _ _ rfl (M.out.2.2.1) Try.underlying26 rfl (by kernel_rfl)) rfl ?_
  exact ⟨x_1, x_2, x_3, x_4, rfl, (by have h_ := (M.out.2.1); rw [Eq5.out] at h_; rw [HZ.out] at h_; exact h_), (M.out.2.2.2.2.2)⟩
set_option maxRecDepth 100000 in
set_option maxHeartbeats 4000000 in
theorem calc_2 {u0 u1 u2 u3 v0 v1 v2 v3 : Value} {q r : Rat} {z : Rat} {w : World} (hG : G ≤ w.heap.size) (h1 : FQ G w u0 u1 u2 u3 q) (h2 : FQ G w v0 v1 v2 v3 r) (hx : Fz q 137438953472) (hy : Fz r 137438953472) (hz : q * r = z)  :
    Calls Try.prog 29 #[.int .i64 2, .agg #[u0, u1, u2, u3], .agg #[v0, v1, v2, v3]] w fun e w' => ∃ x0 x1 x2 x3, e = .returned (.tuple #[.agg #[x0, x1, x2, x3], .int .i64 0]) ∧ FQ G w' x0 x1 x2 x3 z ∧ Below w.heap.size w w' := by
  have HX := Lib.hid hx; have HY := Lib.hid hy; have HZ := Lib.hid hz
  clear hx hy hz
  have H1 : Hid (FQ G w u0 u1 u2 u3 q) := h1
  have H2 : Hid (FQ G w v0 v1 v2 v3 r) := h2
  clear h1 h2
  have M : Hid (Below w.heap.size w w) := Below.refl _ _
  go_enter Try.func29, Try.ntmps29
  go_upto_region 1 with fail
  obtain ⟨w1, hv⟩ : ∃ w_ : World, w_ = (((w.alloc (.cells #[u0, u1, u2, u3] 26)).alloc (.cells #[v0, v1, v2, v3] 26)).alloc (.cells #[.int .i64 0, .slice none 0 0, .int .i64 0, .slice none 0 0] 26)) := ⟨_, rfl⟩
  rw [← hv]
  have hbx := bx3 w 26 26 26 #[u0, u1, u2, u3] #[v0, v1, v2, v3] #[.int .i64 0, .slice none 0 0, .int .i64 0, .slice none 0 0]
  rw [← hv] at hbx
  have hbn : Below w.heap.size w w1 := by rw [hv]; exact (Below.alloc (Below.alloc (Below.alloc (Below.refl _ _) (by simp <;> omega) _) (by simp <;> omega) _) (by simp <;> omega) _)
  replace M := Lib.hid (And.intro hbx.2.2 (And.intro hbx.2.1 (And.intro hbx.1 (Goes.go M.out hbn))))
  clear hbx hbn
  clear hv
  have y0 := (M.out.2.2.1).d4; have p0_0 := y0.1; have p0_1 := y0.2.1; have p0_2 := y0.2.2.1; have p0_3 := y0.2.2.2; clear y0
  have y1 := (M.out.2.1).d4; have p1_0 := y1.1; have p1_1 := y1.2.1; have p1_2 := y1.2.2.1; have p1_3 := y1.2.2.2; clear y1
  go_wp2_with fail
  clear p0_0 p0_1 p0_2 p0_3 p1_0 p1_1 p1_2 p1_3
  obtain ⟨q5, eq5⟩ : ∃ v_ : Rat, v_ = (q * r) := ⟨_, rfl⟩
  refine (fqMul (G := G) (q := q) (r := r) (Nat.le_trans hG (M.out.2.2.2).size) (H1.out.keep (M.out.2.2.2)) (H2.out.keep (M.out.2.2.2)) HX.out HY.out).mono ?_
  rintro e w2 ⟨x_1, x_2, x_3, x_4, rfl, hd6, hb⟩
  rw [← eq5] at hd6
  have Sq5 : Hid (Fz q5 274877906944) := by show Fz q5 274877906944; rw [eq5]; exact (Fz.mul HX.out HY.out)
  have Eq5 := Lib.hid eq5; clear eq5
  replace M := Lib.hid (And.intro hd6 (Goes.go M.out hb))
  clear hb hd6
  have ys_x_1 := TQ.st (M.out.1); have st_x_1 := ys_x_1.1; have st_x_2 := ys_x_1.2.1; have st_x_3 := ys_x_1.2.2.1; have st_x_4 := ys_x_1.2.2.2; clear ys_x_1
  go_upto_region 10 with fail
  clear st_x_1 st_x_2 st_x_3 st_x_4
  obtain ⟨w3, hv⟩ : ∃ w_ : World, w_ = (w2.alloc (.cells #[x_1, x_2, x_3, x_4] 26)) := ⟨_, rfl⟩
  rw [← hv]
  have ow3_ : w.heap.size + 1 + 1 < w2.heap.size := ((M.out.2.1)).lt
  replace M := Lib.hid (And.intro (hv ▸ bx1 w2 26 #[x_1, x_2, x_3, x_4]) (Goes.go M.out (hv ▸ below_alloc _ _ : Below w2.heap.size w2 w3)))
  clear hv
  have y3 := (M.out.1).d4; have p3_0 := y3.1; have p3_1 := y3.2.1; have p3_2 := y3.2.2.1; have p3_3 := y3.2.2.2; clear y3
  have y2 := (M.out.2.2.1).c4; have p2_0 := y2.1; have q2_0 := y2.2.1; have p2_1 := y2.2.2.1; have q2_1 := y2.2.2.2.1; have p2_2 := y2.2.2.2.2.1; have q2_2 := y2.2.2.2.2.2.1; have p2_3 := y2.2.2.2.2.2.2.1; have q2_3 := y2.2.2.2.2.2.2.2; clear y2
  have ys_x_1 := TQ.st (M.out.2.1); have st_x_1 := ys_x_1.1; have st_x_2 := ys_x_1.2.1; have st_x_3 := ys_x_1.2.2.1; have st_x_4 := ys_x_1.2.2.2; clear ys_x_1
  go_wp2_with fail
  clear p3_0 p3_1 p3_2 p3_3 p2_0 q2_0 p2_1 q2_1 p2_2 q2_2 p2_3 q2_3 st_x_1 st_x_2 st_x_3 st_x_4
  obtain ⟨w4, hv⟩ : ∃ w_ : World, w_ = ((((w3.setCell ⟨w.heap.size + 1 + 1, 0, none⟩ (x_1)).setCell ⟨w.heap.size + 1 + 1, 1, none⟩ (x_2)).setCell ⟨w.heap.size + 1 + 1, 2, none⟩ (x_3)).setCell ⟨w.heap.size + 1 + 1, 3, none⟩ (x_4)) := ⟨_, rfl⟩
  rw [← hv]
  have og : w3.grownBy w4 (some (w.heap.size + 1 + 1)) := by rw [hv]; exact (only_setCell (only_setCell (only_setCell (only_setCell (World.grownBy.refl _ _) _) _) _) _)
  have hz : w.heap.size ≤ w.heap.size + 1 + 1 := by omega
  have hk : Bx w4 (w.heap.size + 1 + 1) 26 #[x_1, x_2, x_3, x_4] := by rw [hv]; exact (((((M.out.2.2.1).set 0 _).set 1 _).set 2 _).set 3 _)
  have hbw : Below w.heap.size w w4 := by rw [hv]; exact (Below.setCell (Below.setCell (Below.setCell (Below.setCell (M.out.2.2.2.2.2) (by omega) _) (by omega) _) (by omega) _) (by omega) _)
  replace M := Lib.hid (And.intro ((M.out.1).only og (by omega)) (And.intro ((M.out.2.1).far (M.out.2.2.1) (by rfl) (by omega) og) (And.intro hk (And.intro ((M.out.2.2.2.1).only og (by omega)) (And.intro ((M.out.2.2.2.2.1).only og (by omega)) hbw)))))
  clear hk hbw og hv hz
  refine bodyPost_ret (results_box2 rfl _ _ (w.heap.size + 1 + 1) 26 _ _ _ rfl (M.out.2.2.1) Try.underlying26 rfl (by kernel_rfl)) rfl ?_
  exact ⟨x_1, x_2, x_3, x_4, rfl, (by have h_ := (M.out.2.1); rw [Eq5.out] at h_; rw [HZ.out] at h_; exact h_), (M.out.2.2.2.2.2)⟩
set_option maxRecDepth 100000 in
set_option maxHeartbeats 4000000 in
theorem calc_3 {u0 u1 u2 u3 v0 v1 v2 v3 : Value} {q r : Rat} {z : Rat} {w : World} (hG : G ≤ w.heap.size) (h1 : FQ G w u0 u1 u2 u3 q) (h2 : FQ G w v0 v1 v2 v3 r) (hx : Fz q 137438953472) (hy : Fz r 137438953472) (h0 : r ≠ 0) (hz : q / r = z)  :
    Calls Try.prog 29 #[.int .i64 3, .agg #[u0, u1, u2, u3], .agg #[v0, v1, v2, v3]] w fun e w' => ∃ x0 x1 x2 x3, e = .returned (.tuple #[.agg #[x0, x1, x2, x3], .int .i64 0]) ∧ FQ G w' x0 x1 x2 x3 z ∧ Below w.heap.size w w' := by
  have H0 := Lib.hid h0; clear h0
  have HX := Lib.hid hx; have HY := Lib.hid hy; have HZ := Lib.hid hz
  clear hx hy hz
  have H1 : Hid (FQ G w u0 u1 u2 u3 q) := h1
  have H2 : Hid (FQ G w v0 v1 v2 v3 r) := h2
  clear h1 h2
  have M : Hid (Below w.heap.size w w) := Below.refl _ _
  go_enter Try.func29, Try.ntmps29
  go_upto_region 1 with fail
  obtain ⟨w1, hv⟩ : ∃ w_ : World, w_ = (((w.alloc (.cells #[u0, u1, u2, u3] 26)).alloc (.cells #[v0, v1, v2, v3] 26)).alloc (.cells #[.int .i64 0, .slice none 0 0, .int .i64 0, .slice none 0 0] 26)) := ⟨_, rfl⟩
  rw [← hv]
  have hbx := bx3 w 26 26 26 #[u0, u1, u2, u3] #[v0, v1, v2, v3] #[.int .i64 0, .slice none 0 0, .int .i64 0, .slice none 0 0]
  rw [← hv] at hbx
  have hbn : Below w.heap.size w w1 := by rw [hv]; exact (Below.alloc (Below.alloc (Below.alloc (Below.refl _ _) (by simp <;> omega) _) (by simp <;> omega) _) (by simp <;> omega) _)
  replace M := Lib.hid (And.intro hbx.2.2 (And.intro hbx.2.1 (And.intro hbx.1 (Goes.go M.out hbn))))
  clear hbx hbn
  clear hv
  have y0 := (M.out.2.2.1).d4; have p0_0 := y0.1; have p0_1 := y0.2.1; have p0_2 := y0.2.2.1; have p0_3 := y0.2.2.2; clear y0
  have y1 := (M.out.2.1).d4; have p1_0 := y1.1; have p1_1 := y1.2.1; have p1_2 := y1.2.2.1; have p1_3 := y1.2.2.2; clear y1
  go_wp2_with fail
  clear p0_0 p0_1 p0_2 p0_3 p1_0 p1_1 p1_2 p1_3
  obtain ⟨q5, eq5⟩ : ∃ v_ : Rat, v_ = (q / r) := ⟨_, rfl⟩
  refine (fqDiv (G := G) (q := q) (r := r) (Nat.le_trans hG (M.out.2.2.2).size) (H1.out.keep (M.out.2.2.2)) (H2.out.keep (M.out.2.2.2)) HX.out HY.out H0.out).mono ?_
  rintro e w2 ⟨x_1, x_2, x_3, x_4, rfl, hd6, hb⟩
  rw [← eq5] at hd6
  have Sq5 : Hid (Fz q5 274877906944) := by show Fz q5 274877906944; rw [eq5]; exact (Fz.div HX.out HY.out H0.out)
  have Eq5 := Lib.hid eq5; clear eq5
  replace M := Lib.hid (And.intro hd6 (Goes.go M.out hb))
  clear hb hd6
  have ys_x_1 := TQ.st (M.out.1); have st_x_1 := ys_x_1.1; have st_x_2 := ys_x_1.2.1; have st_x_3 := ys_x_1.2.2.1; have st_x_4 := ys_x_1.2.2.2; clear ys_x_1
  go_upto_region 13 with fail
  clear st_x_1 st_x_2 st_x_3 st_x_4
  obtain ⟨w3, hv⟩ : ∃ w_ : World, w_ = (w2.alloc (.cells #[x_1, x_2, x_3, x_4] 26)) := ⟨_, rfl⟩
  rw [← hv]
  have ow3_ : w.heap.size + 1 + 1 < w2.heap.size := ((M.out.2.1)).lt
  replace M := Lib.hid (And.intro (hv ▸ bx1 w2 26 #[x_1, x_2, x_3, x_4]) (Goes.go M.out (hv ▸ below_alloc _ _ : Below w2.heap.size w2 w3)))
  clear hv
  have y3 := (M.out.1).d4; have p3_0 := y3.1; have p3_1 := y3.2.1; have p3_2 := y3.2.2.1; have p3_3 := y3.2.2.2; clear y3
  have y2 := (M.out.2.2.1).c4; have p2_0 := y2.1; have q2_0 := y2.2.1; have p2_1 := y2.2.2.1; have q2_1 := y2.2.2.2.1; have p2_2 := y2.2.2.2.2.1; have q2_2 := y2.2.2.2.2.2.1; have p2_3 := y2.2.2.2.2.2.2.1; have q2_3 := y2.2.2.2.2.2.2.2; clear y2
  have ys_x_1 := TQ.st (M.out.2.1); have st_x_1 := ys_x_1.1; have st_x_2 := ys_x_1.2.1; have st_x_3 := ys_x_1.2.2.1; have st_x_4 := ys_x_1.2.2.2; clear ys_x_1
  go_wp2_with fail
  clear p3_0 p3_1 p3_2 p3_3 p2_0 q2_0 p2_1 q2_1 p2_2 q2_2 p2_3 q2_3 st_x_1 st_x_2 st_x_3 st_x_4
  obtain ⟨w4, hv⟩ : ∃ w_ : World, w_ = ((((w3.setCell ⟨w.heap.size + 1 + 1, 0, none⟩ (x_1)).setCell ⟨w.heap.size + 1 + 1, 1, none⟩ (x_2)).setCell ⟨w.heap.size + 1 + 1, 2, none⟩ (x_3)).setCell ⟨w.heap.size + 1 + 1, 3, none⟩ (x_4)) := ⟨_, rfl⟩
  rw [← hv]
  have og : w3.grownBy w4 (some (w.heap.size + 1 + 1)) := by rw [hv]; exact (only_setCell (only_setCell (only_setCell (only_setCell (World.grownBy.refl _ _) _) _) _) _)
  have hz : w.heap.size ≤ w.heap.size + 1 + 1 := by omega
  have hk : Bx w4 (w.heap.size + 1 + 1) 26 #[x_1, x_2, x_3, x_4] := by rw [hv]; exact (((((M.out.2.2.1).set 0 _).set 1 _).set 2 _).set 3 _)
  have hbw : Below w.heap.size w w4 := by rw [hv]; exact (Below.setCell (Below.setCell (Below.setCell (Below.setCell (M.out.2.2.2.2.2) (by omega) _) (by omega) _) (by omega) _) (by omega) _)
  replace M := Lib.hid (And.intro ((M.out.1).only og (by omega)) (And.intro ((M.out.2.1).far (M.out.2.2.1) (by rfl) (by omega) og) (And.intro hk (And.intro ((M.out.2.2.2.1).only og (by omega)) (And.intro ((M.out.2.2.2.2.1).only og (by omega)) hbw)))))
  clear hk hbw og hv hz
  refine bodyPost_ret (results_box2 rfl _ _ (w.heap.size + 1 + 1) 26 _ _ _ rfl (M.out.2.2.1) Try.underlying26 rfl (by kernel_rfl)) rfl ?_
  exact ⟨x_1, x_2, x_3, x_4, rfl, (by have h_ := (M.out.2.1); rw [Eq5.out] at h_; rw [HZ.out] at h_; exact h_), (M.out.2.2.2.2.2)⟩
set_option maxRecDepth 100000 in
set_option maxHeartbeats 4000000 in
theorem calc_4 {u0 u1 u2 u3 v0 v1 v2 v3 : Value} {q r : Rat} {z : Rat} {w : World} (hG : G ≤ w.heap.size) (h1 : FQ G w u0 u1 u2 u3 q) (h2 : FQ G w v0 v1 v2 v3 r) (hx : Fz q 137438953472) (hy : Fz r 137438953472) (hz : pick q r (-1) = z)  :
    Calls Try.prog 29 #[.int .i64 4, .agg #[u0, u1, u2, u3], .agg #[v0, v1, v2, v3]] w fun e w' => ∃ x0 x1 x2 x3, e = .returned (.tuple #[.agg #[x0, x1, x2, x3], .int .i64 0]) ∧ FQ G w' x0 x1 x2 x3 z ∧ Below w.heap.size w w' := by
  have HX := Lib.hid hx; have HY := Lib.hid hy; have HZ := Lib.hid hz
  have HZS : Hid (Fz z 137438953472) := by show Fz _ _; rw [← hz]; exact fz_pick hx hy
  clear hx hy hz
  have H1 : Hid (FQ G w u0 u1 u2 u3 q) := h1
  have H2 : Hid (FQ G w v0 v1 v2 v3 r) := h2
  clear h1 h2
  have M : Hid (Below w.heap.size w w) := Below.refl _ _
  go_enter Try.func29, Try.ntmps29
  go_upto_region 1 with fail
  obtain ⟨w1, hv⟩ : ∃ w_ : World, w_ = (((w.alloc (.cells #[u0, u1, u2, u3] 26)).alloc (.cells #[v0, v1, v2, v3] 26)).alloc (.cells #[.int .i64 0, .slice none 0 0, .int .i64 0, .slice none 0 0] 26)) := ⟨_, rfl⟩
  rw [← hv]
  have hbx := bx3 w 26 26 26 #[u0, u1, u2, u3] #[v0, v1, v2, v3] #[.int .i64 0, .slice none 0 0, .int .i64 0, .slice none 0 0]
  rw [← hv] at hbx
  have hbn : Below w.heap.size w w1 := by rw [hv]; exact (Below.alloc (Below.alloc (Below.alloc (Below.refl _ _) (by simp <;> omega) _) (by simp <;> omega) _) (by simp <;> omega) _)
  replace M := Lib.hid (And.intro hbx.2.2 (And.intro hbx.2.1 (And.intro hbx.1 (Goes.go M.out hbn))))
  clear hbx hbn
  clear hv
  have y0 := (M.out.2.2.1).d4; have p0_0 := y0.1; have p0_1 := y0.2.1; have p0_2 := y0.2.2.1; have p0_3 := y0.2.2.2; clear y0
  have y1 := (M.out.2.1).d4; have p1_0 := y1.1; have p1_1 := y1.2.1; have p1_2 := y1.2.2.1; have p1_3 := y1.2.2.2; clear y1
  go_wp2_with fail
  clear p0_0 p0_1 p0_2 p0_3 p1_0 p1_1 p1_2 p1_3
  refine (fqMin (G := G) (q := q) (r := r) (m := z) (Nat.le_trans hG (M.out.2.2.2).size) (H1.out.keep (M.out.2.2.2)) (H2.out.keep (M.out.2.2.2)) HX.out HY.out HZ.out).mono ?_
  rintro e w2 ⟨x_1, x_2, x_3, x_4, rfl, hd5, hb⟩
  replace M := Lib.hid (And.intro hd5 (Goes.go M.out hb))
  clear hb hd5
  have ys_x_1 := TQ.st (M.out.1); have st_x_1 := ys_x_1.1; have st_x_2 := ys_x_1.2.1; have st_x_3 := ys_x_1.2.2.1; have st_x_4 := ys_x_1.2.2.2; clear ys_x_1
  go_upto_region 16 with fail
  clear st_x_1 st_x_2 st_x_3 st_x_4
  obtain ⟨w3, hv⟩ : ∃ w_ : World, w_ = (w2.alloc (.cells #[x_1, x_2, x_3, x_4] 26)) := ⟨_, rfl⟩
  rw [← hv]
  have ow3_ : w.heap.size + 1 + 1 < w2.heap.size := ((M.out.2.1)).lt
  replace M := Lib.hid (And.intro (hv ▸ bx1 w2 26 #[x_1, x_2, x_3, x_4]) (Goes.go M.out (hv ▸ below_alloc _ _ : Below w2.heap.size w2 w3)))
  clear hv
  have y3 := (M.out.1).d4; have p3_0 := y3.1; have p3_1 := y3.2.1; have p3_2 := y3.2.2.1; have p3_3 := y3.2.2.2; clear y3
  have y2 := (M.out.2.2.1).c4; have p2_0 := y2.1; have q2_0 := y2.2.1; have p2_1 := y2.2.2.1; have q2_1 := y2.2.2.2.1; have p2_2 := y2.2.2.2.2.1; have q2_2 := y2.2.2.2.2.2.1; have p2_3 := y2.2.2.2.2.2.2.1; have q2_3 := y2.2.2.2.2.2.2.2; clear y2
  have ys_x_1 := TQ.st (M.out.2.1); have st_x_1 := ys_x_1.1; have st_x_2 := ys_x_1.2.1; have st_x_3 := ys_x_1.2.2.1; have st_x_4 := ys_x_1.2.2.2; clear ys_x_1
  go_wp2_with fail
  clear p3_0 p3_1 p3_2 p3_3 p2_0 q2_0 p2_1 q2_1 p2_2 q2_2 p2_3 q2_3 st_x_1 st_x_2 st_x_3 st_x_4
  obtain ⟨w4, hv⟩ : ∃ w_ : World, w_ = ((((w3.setCell ⟨w.heap.size + 1 + 1, 0, none⟩ (x_1)).setCell ⟨w.heap.size + 1 + 1, 1, none⟩ (x_2)).setCell ⟨w.heap.size + 1 + 1, 2, none⟩ (x_3)).setCell ⟨w.heap.size + 1 + 1, 3, none⟩ (x_4)) := ⟨_, rfl⟩
  rw [← hv]
  have og : w3.grownBy w4 (some (w.heap.size + 1 + 1)) := by rw [hv]; exact (only_setCell (only_setCell (only_setCell (only_setCell (World.grownBy.refl _ _) _) _) _) _)
  have hz : w.heap.size ≤ w.heap.size + 1 + 1 := by omega
  have hk : Bx w4 (w.heap.size + 1 + 1) 26 #[x_1, x_2, x_3, x_4] := by rw [hv]; exact (((((M.out.2.2.1).set 0 _).set 1 _).set 2 _).set 3 _)
  have hbw : Below w.heap.size w w4 := by rw [hv]; exact (Below.setCell (Below.setCell (Below.setCell (Below.setCell (M.out.2.2.2.2.2) (by omega) _) (by omega) _) (by omega) _) (by omega) _)
  replace M := Lib.hid (And.intro ((M.out.1).only og (by omega)) (And.intro ((M.out.2.1).far (M.out.2.2.1) (by rfl) (by omega) og) (And.intro hk (And.intro ((M.out.2.2.2.1).only og (by omega)) (And.intro ((M.out.2.2.2.2.1).only og (by omega)) hbw)))))
  clear hk hbw og hv hz
  refine bodyPost_ret (results_box2 rfl _ _ (w.heap.size + 1 + 1) 26 _ _ _ rfl (M.out.2.2.1) Try.underlying26 rfl (by kernel_rfl)) rfl ?_
  exact ⟨x_1, x_2, x_3, x_4, rfl, (M.out.2.1), (M.out.2.2.2.2.2)⟩
set_option maxRecDepth 100000 in
set_option maxHeartbeats 4000000 in
theorem calc_5 {u0 u1 u2 u3 v0 v1 v2 v3 : Value} {q r : Rat} {z : Rat} {w : World} (hG : G ≤ w.heap.size) (h1 : FQ G w u0 u1 u2 u3 q) (h2 : FQ G w v0 v1 v2 v3 r) (hx : Fz q 137438953472) (hy : Fz r 137438953472) (hz : pick q r 1 = z)  :
    Calls Try.prog 29 #[.int .i64 5, .agg #[u0, u1, u2, u3], .agg #[v0, v1, v2, v3]] w fun e w' => ∃ x0 x1 x2 x3, e = .returned (.tuple #[.agg #[x0, x1, x2, x3], .int .i64 0]) ∧ FQ G w' x0 x1 x2 x3 z ∧ Below w.heap.size w w' := by
  have HX := Lib.hid hx; have HY := Lib.hid hy; have HZ := Lib.hid hz
  have HZS : Hid (Fz z 137438953472) := by show Fz _ _; rw [← hz]; exact fz_pick hx hy
  clear hx hy hz
  have H1 : Hid (FQ G w u0 u1 u2 u3 q) := h1
  have H2 : Hid (FQ G w v0 v1 v2 v3 r) := h2
  clear h1 h2
  have M : Hid (Below w.heap.size w w) := Below.refl _ _
  go_enter Try.func29, Try.ntmps29
  go_upto_region 1 with fail
  obtain ⟨w1, hv⟩ : ∃ w_ : World, w_ = (((w.alloc (.cells #[u0, u1, u2, u3] 26)).alloc (.cells #[v0, v1, v2, v3] 26)).alloc (.cells #[.int .i64 0, .slice none 0 0, .int .i64 0, .slice none 0 0] 26)) := ⟨_, rfl⟩
  rw [← hv]
  have hbx := bx3 w 26 26 26 #[u0, u1, u2, u3] #[v0, v1, v2, v3] #[.int .i64 0, .slice none 0 0, .int .i64 0, .slice none 0 0]
  rw [← hv] at hbx
  have hbn : Below w.heap.size w w1 := by rw [hv]; exact (Below.alloc (Below.alloc (Below.alloc (Below.refl _ _) (by simp <;> omega) _) (by simp <;> omega) _) (by simp <;> omega) _)
  replace M := Lib.hid (And.intro hbx.2.2 (And.intro hbx.2.1 (And.intro hbx.1 (Goes.go M.out hbn))))
  clear hbx hbn
  clear hv
  have y0 := (M.out.2.2.1).d4; have p0_0 := y0.1; have p0_1 := y0.2.1; have p0_2 := y0.2.2.1; have p0_3 := y0.2.2.2; clear y0
  have y1 := (M.out.2.1).d4; have p1_0 := y1.1; have p1_1 := y1.2.1; have p1_2 := y1.2.2.1; have p1_3 := y1.2.2.2; clear y1
  go_wp2_with fail
  clear p0_0 p0_1 p0_2 p0_3 p1_0 p1_1 p1_2 p1_3
  refine (fqMax (G := G) (q := q) (r := r) (m := z) (Nat.le_trans hG (M.out.2.2.2).size) (H1.out.keep (M.out.2.2.2)) (H2.out.keep (M.out.2.2.2)) HX.out HY.out HZ.out).mono ?_
  rintro e w2 ⟨x_1, x_2, x_3, x_4, rfl, hd5, hb⟩
  replace M := Lib.hid (And.intro hd5 (Goes.go M.out hb))
  clear hb hd5
  have ys_x_1 := TQ.st (M.out.1); have st_x_1 := ys_x_1.1; have st_x_2 := ys_x_1.2.1; have st_x_3 := ys_x_1.2.2.1; have st_x_4 := ys_x_1.2.2.2; clear ys_x_1
  go_upto_region 18 with fail
  clear st_x_1 st_x_2 st_x_3 st_x_4
  obtain ⟨w3, hv⟩ : ∃ w_ : World, w_ = (w2.alloc (.cells #[x_1, x_2, x_3, x_4] 26)) := ⟨_, rfl⟩
  rw [← hv]
  have ow3_ : w.heap.size + 1 + 1 < w2.heap.size := ((M.out.2.1)).lt
  replace M := Lib.hid (And.intro (hv ▸ bx1 w2 26 #[x_1, x_2, x_3, x_4]) (Goes.go M.out (hv ▸ below_alloc _ _ : Below w2.heap.size w2 w3)))
  clear hv
  have y3 := (M.out.1).d4; have p3_0 := y3.1; have p3_1 := y3.2.1; have p3_2 := y3.2.2.1; have p3_3 := y3.2.2.2; clear y3
  have y2 := (M.out.2.2.1).c4; have p2_0 := y2.1; have q2_0 := y2.2.1; have p2_1 := y2.2.2.1; have q2_1 := y2.2.2.2.1; have p2_2 := y2.2.2.2.2.1; have q2_2 := y2.2.2.2.2.2.1; have p2_3 := y2.2.2.2.2.2.2.1; have q2_3 := y2.2.2.2.2.2.2.2; clear y2
  have ys_x_1 := TQ.st (M.out.2.1); have st_x_1 := ys_x_1.1; have st_x_2 := ys_x_1.2.1; have st_x_3 := ys_x_1.2.2.1; have st_x_4 := ys_x_1.2.2.2; clear ys_x_1
  go_wp2_with fail
  clear p3_0 p3_1 p3_2 p3_3 p2_0 q2_0 p2_1 q2_1 p2_2 q2_2 p2_3 q2_3 st_x_1 st_x_2 st_x_3 st_x_4
  obtain ⟨w4, hv⟩ : ∃ w_ : World, w_ = ((((w3.setCell ⟨w.heap.size + 1 + 1, 0, none⟩ (x_1)).setCell ⟨w.heap.size + 1 + 1, 1, none⟩ (x_2)).setCell ⟨w.heap.size + 1 + 1, 2, none⟩ (x_3)).setCell ⟨w.heap.size + 1 + 1, 3, none⟩ (x_4)) := ⟨_, rfl⟩
  rw [← hv]
  have og : w3.grownBy w4 (some (w.heap.size + 1 + 1)) := by rw [hv]; exact (only_setCell (only_setCell (only_setCell (only_setCell (World.grownBy.refl _ _) _) _) _) _)
  have hz : w.heap.size ≤ w.heap.size + 1 + 1 := by omega
  have hk : Bx w4 (w.heap.size + 1 + 1) 26 #[x_1, x_2, x_3, x_4] := by rw [hv]; exact (((((M.out.2.2.1).set 0 _).set 1 _).set 2 _).set 3 _)
  have hbw : Below w.heap.size w w4 := by rw [hv]; exact (Below.setCell (Below.setCell (Below.setCell (Below.setCell (M.out.2.2.2.2.2) (by omega) _) (by omega) _) (by omega) _) (by omega) _)
  replace M := Lib.hid (And.intro ((M.out.1).only og (by omega)) (And.intro ((M.out.2.1).far (M.out.2.2.1) (by rfl) (by omega) og) (And.intro hk (And.intro ((M.out.2.2.2.1).only og (by omega)) (And.intro ((M.out.2.2.2.2.1).only og (by omega)) hbw)))))
  clear hk hbw og hv hz
  refine bodyPost_ret (results_box2 rfl _ _ (w.heap.size + 1 + 1) 26 _ _ _ rfl (M.out.2.2.1) Try.underlying26 rfl (by kernel_rfl)) rfl ?_
  exact ⟨x_1, x_2, x_3, x_4, rfl, (M.out.2.1), (M.out.2.2.2.2.2)⟩
set_option maxRecDepth 100000 in
set_option maxHeartbeats 4000000 in
theorem calc_none3 {u0 u1 u2 u3 v0 v1 v2 v3 : Value} {q r : Rat} {w : World} (hG : G ≤ w.heap.size) (h1 : FQ G w u0 u1 u2 u3 q) (h2 : FQ G w v0 v1 v2 v3 r) (hx : Fz q 137438953472) (hy : Fz r 137438953472) (h0 : r = 0) :
    Calls Try.prog 29 #[.int .i64 3, .agg #[u0, u1, u2, u3], .agg #[v0, v1, v2, v3]] w fun e w' => ∃ x0 x1 x2 x3, e = .returned (.tuple #[.agg #[x0, x1, x2, x3], .int .i64 15]) ∧ OQ G w' x0 x1 x2 x3 none ∧ Below w.heap.size w w' := by
  have H0 := Lib.hid h0; clear h0
  have HX := Lib.hid hx; have HY := Lib.hid hy; clear hx hy
  have H1 : Hid (FQ G w u0 u1 u2 u3 q) := h1
  have H2 : Hid (FQ G w v0 v1 v2 v3 r) := h2
  clear h1 h2
  have M : Hid (Below w.heap.size w w) := Below.refl _ _
  go_enter Try.func29, Try.ntmps29
  go_upto_region 1 with fail
  obtain ⟨w1, hv⟩ : ∃ w_ : World, w_ = (((w.alloc (.cells #[u0, u1, u2, u3] 26)).alloc (.cells #[v0, v1, v2, v3] 26)).alloc (.cells #[.int .i64 0, .slice none 0 0, .int .i64 0, .slice none 0 0] 26)) := ⟨_, rfl⟩
  rw [← hv]
  have hbx := bx3 w 26 26 26 #[u0, u1, u2, u3] #[v0, v1, v2, v3] #[.int .i64 0, .slice none 0 0, .int .i64 0, .slice none 0 0]
  rw [← hv] at hbx
  have hbn : Below w.heap.size w w1 := by rw [hv]; exact (Below.alloc (Below.alloc (Below.alloc (Below.refl _ _) (by simp <;> omega) _) (by simp <;> omega) _) (by simp <;> omega) _)
  replace M := Lib.hid (And.intro hbx.2.2 (And.intro hbx.2.1 (And.intro hbx.1 (Goes.go M.out hbn))))
  clear hbx hbn
  clear hv
  have y0 := (M.out.2.2.1).d4; have p0_0 := y0.1; have p0_1 := y0.2.1; have p0_2 := y0.2.2.1; have p0_3 := y0.2.2.2; clear y0
  have y1 := (M.out.2.1).d4; have p1_0 := y1.1; have p1_1 := y1.2.1; have p1_2 := y1.2.2.1; have p1_3 := y1.2.2.2; clear y1
  go_wp2_with fail
  clear p0_0 p0_1 p0_2 p0_3 p1_0 p1_1 p1_2 p1_3
  refine (fqDivAny (G := G) (q := q) (r := r) (o := none) (er := 15) (Nat.le_trans hG (M.out.2.2.2).size) (H1.out.keep (M.out.2.2.2)) (H2.out.keep (M.out.2.2.2)) HX.out HY.out (if_pos H0.out) (if_pos H0.out)).mono ?_
  rintro e w2 ⟨x_1, x_2, x_3, x_4, rfl, hd5, hb⟩
  replace M := Lib.hid (And.intro hd5 (Goes.go M.out hb))
  clear hb hd5
  have ys_x_1 := TQ.st (M.out.1); have st_x_1 := ys_x_1.1; have st_x_2 := ys_x_1.2.1; have st_x_3 := ys_x_1.2.2.1; have st_x_4 := ys_x_1.2.2.2; clear ys_x_1
  go_upto_region 13 with fail
  clear st_x_1 st_x_2 st_x_3 st_x_4
  obtain ⟨w3, hv⟩ : ∃ w_ : World, w_ = (w2.alloc (.cells #[x_1, x_2, x_3, x_4] 26)) := ⟨_, rfl⟩
  rw [← hv]
  have ow3_ : w.heap.size + 1 + 1 < w2.heap.size := ((M.out.2.1)).lt
  replace M := Lib.hid (And.intro (hv ▸ bx1 w2 26 #[x_1, x_2, x_3, x_4]) (Goes.go M.out (hv ▸ below_alloc _ _ : Below w2.heap.size w2 w3)))
  clear hv
  have y3 := (M.out.1).d4; have p3_0 := y3.1; have p3_1 := y3.2.1; have p3_2 := y3.2.2.1; have p3_3 := y3.2.2.2; clear y3
  have y2 := (M.out.2.2.1).c4; have p2_0 := y2.1; have q2_0 := y2.2.1; have p2_1 := y2.2.2.1; have q2_1 := y2.2.2.2.1; have p2_2 := y2.2.2.2.2.1; have q2_2 := y2.2.2.2.2.2.1; have p2_3 := y2.2.2.2.2.2.2.1; have q2_3 := y2.2.2.2.2.2.2.2; clear y2
  have ys_x_1 := TQ.st (M.out.2.1); have st_x_1 := ys_x_1.1; have st_x_2 := ys_x_1.2.1; have st_x_3 := ys_x_1.2.2.1; have st_x_4 := ys_x_1.2.2.2; clear ys_x_1
  go_wp2_with fail
  clear p3_0 p3_1 p3_2 p3_3 p2_0 q2_0 p2_1 q2_1 p2_2 q2_2 p2_3 q2_3 st_x_1 st_x_2 st_x_3 st_x_4
  obtain ⟨w4, hv⟩ : ∃ w_ : World, w_ = ((((w3.setCell ⟨w.heap.size + 1 + 1, 0, none⟩ (x_1)).setCell ⟨w.heap.size + 1 + 1, 1, none⟩ (x_2)).setCell ⟨w.heap.size + 1 + 1, 2, none⟩ (x_3)).setCell ⟨w.heap.size + 1 + 1, 3, none⟩ (x_4)) := ⟨_, rfl⟩
  rw [← hv]
  have og : w3.grownBy w4 (some (w.heap.size + 1 + 1)) := by rw [hv]; exact (only_setCell (only_setCell (only_setCell (only_setCell (World.grownBy.refl _ _) _) _) _) _)
  have hz : w.heap.size ≤ w.heap.size + 1 + 1 := by omega
  have hk : Bx w4 (w.heap.size + 1 + 1) 26 #[x_1, x_2, x_3, x_4] := by rw [hv]; exact (((((M.out.2.2.1).set 0 _).set 1 _).set 2 _).set 3 _)
  have hbw : Below w.heap.size w w4 := by rw [hv]; exact (Below.setCell (Below.setCell (Below.setCell (Below.setCell (M.out.2.2.2.2.2) (by omega) _) (by omega) _) (by omega) _) (by omega) _)
  replace M := Lib.hid (And.intro ((M.out.1).only og (by omega)) (And.intro ((M.out.2.1).far (M.out.2.2.1) (by rfl) (by omega) og) (And.intro hk (And.intro ((M.out.2.2.2.1).only og (by omega)) (And.intro ((M.out.2.2.2.2.1).only og (by omega)) hbw)))))
  clear hk hbw og hv hz
  refine bodyPost_ret (results_box2 rfl _ _ (w.heap.size + 1 + 1) 26 _ _ _ rfl (M.out.2.2.1) Try.underlying26 rfl (by kernel_rfl)) rfl ?_
  exact ⟨x_1, x_2, x_3, x_4, rfl, (M.out.2.1), (M.out.2.2.2.2.2)⟩
theorem calc_some {k : Nat} {u0 u1 u2 u3 v0 v1 v2 v3 : Value} {q r : Rat} {z : Rat} {i : Int} {w : World} (hG : G ≤ w.heap.size) (h1 : FQ G w u0 u1 u2 u3 q) (h2 : FQ G w v0 v1 v2 v3 r) (hx : Fz q 137438953472) (hy : Fz r 137438953472) (hk : k < 6) (hi_ : (k : Int) = i) (ho : calcQ k q r = some z) :
    Calls Try.prog 29 #[.int .i64 i, .agg #[u0, u1, u2, u3], .agg #[v0, v1, v2, v3]] w fun e w' => ∃ x0 x1 x2 x3, e = .returned (.tuple #[.agg #[x0, x1, x2, x3], .int .i64 0]) ∧ FQ G w' x0 x1 x2 x3 z ∧ Below w.heap.size w w' := by
  subst hi_
  match k, ho with
  | 0, ho => cases ho; exact calc_0 hG h1 h2 hx hy rfl
  | 1, ho => cases ho; exact calc_1 hG h1 h2 hx hy rfl
  | 2, ho => cases ho; exact calc_2 hG h1 h2 hx hy rfl
  | 3, ho =>
    have ho' : (if r = 0 then none else some (q / r)) = some z := ho
    by_cases h0 : r = 0
    · rw [if_pos h0] at ho'; cases ho'
    · rw [if_neg h0] at ho'; cases ho'; exact calc_3 hG h1 h2 hx hy h0 rfl
  | 4, ho => cases ho; exact calc_4 hG h1 h2 hx hy (pick_min _ _)
  | 5, ho => cases ho; exact calc_5 hG h1 h2 hx hy (pick_max _ _)
  | k + 6, _ => omega
theorem calc_nil {k : Nat} {u0 u1 u2 u3 v0 v1 v2 v3 : Value} {q r : Rat} {i : Int} {w : World} (hG : G ≤ w.heap.size) (h1 : FQ G w u0 u1 u2 u3 q) (h2 : FQ G w v0 v1 v2 v3 r) (hx : Fz q 137438953472) (hy : Fz r 137438953472) (hi_ : (k : Int) = i) (ho : calcQ k q r = none) :
    Calls Try.prog 29 #[.int .i64 i, .agg #[u0, u1, u2, u3], .agg #[v0, v1, v2, v3]] w fun e w' => ∃ x0 x1 x2 x3, e = .returned (.tuple #[.agg #[x0, x1, x2, x3], .int .i64 15]) ∧ OQ G w' x0 x1 x2 x3 none ∧ Below w.heap.size w w' := by
  subst hi_
  match k, ho with
  | 0, ho => cases ho
  | 1, ho => cases ho
  | 2, ho => cases ho
  | 3, ho =>
    have ho' : (if r = 0 then none else some (q / r)) = none := ho
    by_cases h0 : r = 0
    · exact calc_none3 hG h1 h2 hx hy h0
    · rw [if_neg h0] at ho'; cases ho'
  | 4, ho => cases ho
  | k + 5, ho => cases ho
end Go.Proofs.Ytjbfngjlepafgaa
