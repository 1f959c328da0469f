/- Walks: whether a fraction is a result for ends; whether an operation turns; the examples. -/
import Derived.Test.YtjbfngjlepafgaaBase
import Derived.Test.YtjbfngjlepafgaaBigSpec
import Derived.Test.YtjbfngjlepafgaaBigB
import Derived.Test.YtjbfngjlepafgaaBigC
import Derived.Test.YtjbfngjlepafgaaBigD
import Derived.Test.YtjbfngjlepafgaaBigK
import Derived.Test.YtjbfngjlepafgaaBigL
import Derived.Test.YtjbfngjlepafgaaBigQ
import Derived.Test.YtjbfngjlepafgaaFracA
import Derived.Test.YtjbfngjlepafgaaFz
import Derived.Test.YtjbfngjlepafgaaAw
import Derived.Test.YtjbfngjlepafgaaFracR
import Derived.Test.YtjbfngjlepafgaaRefJ
import Derived.Test.YtjbfngjlepafgaaFq
import Derived.Test.YtjbfngjlepafgaaSpanPlain
import Derived.Test.YtjbfngjlepafgaaSpanB
import Derived.Test.YtjbfngjlepafgaaSpanC
import Derived.Test.YtjbfngjlepafgaaSpanE
import Derived.Test.YtjbfngjlepafgaaProg
import Derived.WalkKit
import Derived.WalkSpells
import Derived.WalkLawsBesides
import Derived.Handy
import Derived.Lib.Hide
import Derived.Lib.Strings
import Derived.Lib.Builder
import Derived.BigQuiet
import Derived.OwnWalk
import Derived.Laws.BitsLemmas
import Derived.WalkSmall
import Derived.Deep.QuietTactic
import Derived.StillTailTactics
import Derived.Maps.AppendAt
import Derived.IntWalk
import Derived.Deep.RegionHeld3
import Derived.Deep.DeepFit
import Derived.Deep.LoopGhost
import Derived.Deep.DeepCutAuto
import Derived.Lib.ItoaNum
import Derived.Lib.Repeat
import Derived.Lib.AppendIntMem
import Derived.Sort.OwnSorted
import Derived.Shelf.Strings.SlTrimAscii
import Derived.Lib.ConvBytes
import Derived.Lib.CutLaws
namespace Go.Proofs.Ytjbfngjlepafgaa
open Go.RowKit Go.Lib
variable {G : Nat}

set_option maxRecDepth 100000 in
set_option maxHeartbeats 4000000 in
theorem play_0 {u0 u1 u2 u3 u4 u5 u6 u7 v0 v1 v2 v3 v4 v5 v6 v7 : Value} {p q r s : Rat} {lo hi : Rat} {w : World} (hG : G ≤ w.heap.size) (h1 : FQ G w u0 u1 u2 u3 p) (h2 : FQ G w u4 u5 u6 u7 q) (h3 : FQ G w v0 v1 v2 v3 r) (h4 : FQ G w v4 v5 v6 v7 s) (hp : Fz p 17179869184) (hq : Fz q 17179869184) (hr : Fz r 17179869184) (hs : Fz s 17179869184) (ha : p ≤ q) (hb : r ≤ s) (hlo : p + r = lo) (hhi : q + s = hi)  :
    Calls Try.prog 11 #[.int .i64 0, .agg #[u0, u1, u2, u3, u4, u5, u6, u7], .agg #[v0, v1, v2, v3, v4, v5, v6, v7]] w fun e w' => ∃ x0 x1 x2 x3 x4 x5 x6 x7, e = .returned (.tuple #[.agg #[x0, x1, x2, x3, x4, x5, x6, x7], .int .i64 0]) ∧ FQ G w' x0 x1 x2 x3 lo ∧ FQ G w' x4 x5 x6 x7 hi ∧ Below w.heap.size w w' := by
  have HP := Lib.hid hp; have HQ := Lib.hid hq; have HR := Lib.hid hr; have HS := Lib.hid hs; have HAA := Lib.hid ha; have HBB := Lib.hid hb; clear hp hq hr hs ha hb
  have HLO := Lib.hid hlo; have HHI := Lib.hid hhi; clear hlo hhi
  have H1 : Hid (FQ G w u0 u1 u2 u3 p) := h1
  have H2 : Hid (FQ G w u4 u5 u6 u7 q) := h2
  have H3 : Hid (FQ G w v0 v1 v2 v3 r) := h3
  have H4 : Hid (FQ G w v4 v5 v6 v7 s) := h4
  clear h1 h2 h3 h4
  have M : Hid (Below w.heap.size w w) := Below.refl _ _
  go_enter Try.func11, Try.ntmps11
  go_upto_region 1 with fail
  obtain ⟨w1, hv⟩ : ∃ w_ : World, w_ = (((w.alloc (.cells #[u0, u1, u2, u3, u4, u5, u6, u7] 28)).alloc (.cells #[v0, v1, v2, v3, v4, v5, v6, v7] 28)).alloc (.cells #[.int .i64 0, .slice none 0 0, .int .i64 0, .slice none 0 0, .int .i64 0, .slice none 0 0, .int .i64 0, .slice none 0 0] 28)) := ⟨_, rfl⟩
  rw [← hv]
  have hbx := bx3 w 28 28 28 #[u0, u1, u2, u3, u4, u5, u6, u7] #[v0, v1, v2, v3, v4, v5, v6, v7] #[.int .i64 0, .slice none 0 0, .int .i64 0, .slice none 0 0, .int .i64 0, .slice none 0 0, .int .i64 0, .slice none 0 0]
  rw [← hv] at hbx
  have hbn : Below w.heap.size w w1 := by rw [hv]; exact (Below.alloc (Below.alloc (Below.alloc (Below.refl _ _) (by simp <;> omega) _) (by simp <;> omega) _) (by simp <;> omega) _)
  replace M := Lib.hid (And.intro hbx.2.2 (And.intro hbx.2.1 (And.intro hbx.1 (Goes.go M.out hbn))))
  clear hbx hbn
  clear hv
  have y0 := (M.out.2.2.1).d8; have p0_0 := y0.1; have p0_1 := y0.2.1; have p0_2 := y0.2.2.1; have p0_3 := y0.2.2.2.1; have p0_4 := y0.2.2.2.2.1; have p0_5 := y0.2.2.2.2.2.1; have p0_6 := y0.2.2.2.2.2.2.1; have p0_7 := y0.2.2.2.2.2.2.2; clear y0
  have y1 := (M.out.2.1).d8; have p1_0 := y1.1; have p1_1 := y1.2.1; have p1_2 := y1.2.2.1; have p1_3 := y1.2.2.2.1; have p1_4 := y1.2.2.2.2.1; have p1_5 := y1.2.2.2.2.2.1; have p1_6 := y1.2.2.2.2.2.2.1; have p1_7 := y1.2.2.2.2.2.2.2; clear y1
  go_wp2_with fail
  clear p0_0 p0_1 p0_2 p0_3 p0_4 p0_5 p0_6 p0_7 p1_0 p1_1 p1_2 p1_3 p1_4 p1_5 p1_6 p1_7
  obtain ⟨q9, eq9⟩ : ∃ v_ : Rat, v_ = (p + r) := ⟨_, rfl⟩
  obtain ⟨q10, eq10⟩ : ∃ v_ : Rat, v_ = (q + s) := ⟨_, rfl⟩
  refine (spAdd_q (G := G) (p := p) (q := q) (r := r) (s := s) (Nat.le_trans hG (M.out.2.2.2).size) (H1.out.keep (M.out.2.2.2)) (H2.out.keep (M.out.2.2.2)) (H3.out.keep (M.out.2.2.2)) (H4.out.keep (M.out.2.2.2)) (Fz.mono HP.out (by omega)) (Fz.mono HQ.out (by omega)) (Fz.mono HR.out (by omega)) (Fz.mono HS.out (by omega)) HAA.out HBB.out).mono ?_
  rintro e w2 ⟨x_1, x_2, x_3, x_4, x_5, x_6, x_7, x_8, rfl, hd11, hd12, hb⟩
  rw [← eq9] at hd11
  have Sq9 : Hid (Fz q9 34359738369) := by show Fz q9 34359738369; rw [eq9]; exact (Fz.add HP.out HR.out)
  have Eq9 := Lib.hid eq9; clear eq9
  rw [← eq10] at hd12
  have Sq10 : Hid (Fz q10 34359738369) := by show Fz q10 34359738369; rw [eq10]; exact (Fz.add HQ.out HS.out)
  have Eq10 := Lib.hid eq10; clear eq10
  replace M := Lib.hid (And.intro hd11 (And.intro hd12 (Goes.go M.out hb)))
  clear hb hd11 hd12
  have ys_x_1 := TQ.st (M.out.1); have st_x_1 := ys_x_1.1; have st_x_2 := ys_x_1.2.1; have st_x_3 := ys_x_1.2.2.1; have st_x_4 := ys_x_1.2.2.2; clear ys_x_1
  have ys_x_5 := TQ.st (M.out.2.1); have st_x_5 := ys_x_5.1; have st_x_6 := ys_x_5.2.1; have st_x_7 := ys_x_5.2.2.1; have st_x_8 := ys_x_5.2.2.2; clear ys_x_5
  go_upto_region 4 with fail
  clear st_x_1 st_x_2 st_x_3 st_x_4 st_x_5 st_x_6 st_x_7 st_x_8
  obtain ⟨w3, hv⟩ : ∃ w_ : World, w_ = (w2.alloc (.cells #[x_1, x_2, x_3, x_4, x_5, x_6, x_7, x_8] 28)) := ⟨_, rfl⟩
  rw [← hv]
  have ow3_ : w.heap.size + 1 + 1 < w2.heap.size := ((M.out.2.2.1)).lt
  replace M := Lib.hid (And.intro (hv ▸ bx1 w2 28 #[x_1, x_2, x_3, x_4, x_5, x_6, x_7, x_8]) (Goes.go M.out (hv ▸ below_alloc _ _ : Below w2.heap.size w2 w3)))
  clear hv
  have y3 := (M.out.1).d8; have p3_0 := y3.1; have p3_1 := y3.2.1; have p3_2 := y3.2.2.1; have p3_3 := y3.2.2.2.1; have p3_4 := y3.2.2.2.2.1; have p3_5 := y3.2.2.2.2.2.1; have p3_6 := y3.2.2.2.2.2.2.1; have p3_7 := y3.2.2.2.2.2.2.2; clear y3
  have y2 := (M.out.2.2.2.1).c8; have p2_0 := y2.1; have q2_0 := y2.2.1; have p2_1 := y2.2.2.1; have q2_1 := y2.2.2.2.1; have p2_2 := y2.2.2.2.2.1; have q2_2 := y2.2.2.2.2.2.1; have p2_3 := y2.2.2.2.2.2.2.1; have q2_3 := y2.2.2.2.2.2.2.2.1; have p2_4 := y2.2.2.2.2.2.2.2.2.1; have q2_4 := y2.2.2.2.2.2.2.2.2.2.1; have p2_5 := y2.2.2.2.2.2.2.2.2.2.2.1; have q2_5 := y2.2.2.2.2.2.2.2.2.2.2.2.1; have p2_6 := y2.2.2.2.2.2.2.2.2.2.2.2.2.1; have q2_6 := y2.2.2.2.2.2.2.2.2.2.2.2.2.2.1; have p2_7 := y2.2.2.2.2.2.2.2.2.2.2.2.2.2.2.1; have q2_7 := y2.2.2.2.2.2.2.2.2.2.2.2.2.2.2.2; clear y2
  have ys_x_1 := TQ.st (M.out.2.1); have st_x_1 := ys_x_1.1; have st_x_2 := ys_x_1.2.1; have st_x_3 := ys_x_1.2.2.1; have st_x_4 := ys_x_1.2.2.2; clear ys_x_1
  have ys_x_5 := TQ.st (M.out.2.2.1); have st_x_5 := ys_x_5.1; have st_x_6 := ys_x_5.2.1; have st_x_7 := ys_x_5.2.2.1; have st_x_8 := ys_x_5.2.2.2; clear ys_x_5
  go_wp2_with fail
  clear p3_0 p3_1 p3_2 p3_3 p3_4 p3_5 p3_6 p3_7 p2_0 q2_0 p2_1 q2_1 p2_2 q2_2 p2_3 q2_3 p2_4 q2_4 p2_5 q2_5 p2_6 q2_6 p2_7 q2_7 st_x_1 st_x_2 st_x_3 st_x_4 st_x_5 st_x_6 st_x_7 st_x_8
  obtain ⟨w4, hv⟩ : ∃ w_ : World, w_ = ((((((((w3.setCell ⟨w.heap.size + 1 + 1, 0, none⟩ (x_1)).setCell ⟨w.heap.size + 1 + 1, 1, none⟩ (x_2)).setCell ⟨w.heap.size + 1 + 1, 2, none⟩ (x_3)).setCell ⟨w.heap.size + 1 + 1, 3, none⟩ (x_4)).setCell ⟨w.heap.size + 1 + 1, 4, none⟩ (x_5)).setCell ⟨w.heap.size + 1 + 1, 5, none⟩ (x_6)).setCell ⟨w.heap.size + 1 + 1, 6, none⟩ (x_7)).setCell ⟨w.heap.size + 1 + 1, 7, none⟩ (x_8)) := ⟨_, rfl⟩
  rw [← hv]
  have og : w3.grownBy w4 (some (w.heap.size + 1 + 1)) := by rw [hv]; exact (only_setCell (only_setCell (only_setCell (only_setCell (only_setCell (only_setCell (only_setCell (only_setCell (World.grownBy.refl _ _) _) _) _) _) _) _) _) _)
  have hz : w.heap.size ≤ w.heap.size + 1 + 1 := by omega
  have hk : Bx w4 (w.heap.size + 1 + 1) 28 #[x_1, x_2, x_3, x_4, x_5, x_6, x_7, x_8] := by rw [hv]; exact (((((((((M.out.2.2.2.1).set 0 _).set 1 _).set 2 _).set 3 _).set 4 _).set 5 _).set 6 _).set 7 _)
  have hbw : Below w.heap.size w w4 := by rw [hv]; exact (Below.setCell (Below.setCell (Below.setCell (Below.setCell (Below.setCell (Below.setCell (Below.setCell (Below.setCell (M.out.2.2.2.2.2.2) (by omega) _) (by omega) _) (by omega) _) (by omega) _) (by omega) _) (by omega) _) (by omega) _) (by omega) _)
  replace M := Lib.hid (And.intro ((M.out.1).only og (by omega)) (And.intro ((M.out.2.1).far (M.out.2.2.2.1) (by rfl) (by omega) og) (And.intro ((M.out.2.2.1).far (M.out.2.2.2.1) (by rfl) (by omega) og) (And.intro hk (And.intro ((M.out.2.2.2.2.1).only og (by omega)) (And.intro ((M.out.2.2.2.2.2.1).only og (by omega)) hbw))))))
  clear hk hbw og hv hz
  refine bodyPost_ret (results_box2 rfl _ _ (w.heap.size + 1 + 1) 28 _ _ _ rfl (M.out.2.2.2.1) Try.underlying28 rfl (by kernel_rfl)) rfl ?_
  exact ⟨x_1, x_2, x_3, x_4, x_5, x_6, x_7, x_8, rfl, (by have h_ := (M.out.2.1); rw [Eq9.out] at h_; rw [HLO.out] at h_; exact h_), (by have h_ := (M.out.2.2.1); rw [Eq10.out] at h_; rw [HHI.out] at h_; exact h_), (M.out.2.2.2.2.2.2)⟩
set_option maxRecDepth 100000 in
set_option maxHeartbeats 4000000 in
theorem play_1 {u0 u1 u2 u3 u4 u5 u6 u7 v0 v1 v2 v3 v4 v5 v6 v7 : Value} {p q r s : Rat} {lo hi : Rat} {w : World} (hG : G ≤ w.heap.size) (h1 : FQ G w u0 u1 u2 u3 p) (h2 : FQ G w u4 u5 u6 u7 q) (h3 : FQ G w v0 v1 v2 v3 r) (h4 : FQ G w v4 v5 v6 v7 s) (hp : Fz p 17179869184) (hq : Fz q 17179869184) (hr : Fz r 17179869184) (hs : Fz s 17179869184) (ha : p ≤ q) (hb : r ≤ s) (hlo : p - s = lo) (hhi : q - r = hi)  :
    Calls Try.prog 11 #[.int .i64 1, .agg #[u0, u1, u2, u3, u4, u5, u6, u7], .agg #[v0, v1, v2, v3, v4, v5, v6, v7]] w fun e w' => ∃ x0 x1 x2 x3 x4 x5 x6 x7, e = .returned (.tuple #[.agg #[x0, x1, x2, x3, x4, x5, x6, x7], .int .i64 0]) ∧ FQ G w' x0 x1 x2 x3 lo ∧ FQ G w' x4 x5 x6 x7 hi ∧ Below w.heap.size w w' := by
  have HP := Lib.hid hp; have HQ := Lib.hid hq; have HR := Lib.hid hr; have HS := Lib.hid hs; have HAA := Lib.hid ha; have HBB := Lib.hid hb; clear hp hq hr hs ha hb
  have HLO := Lib.hid hlo; have HHI := Lib.hid hhi; clear hlo hhi
  have H1 : Hid (FQ G w u0 u1 u2 u3 p) := h1
  have H2 : Hid (FQ G w u4 u5 u6 u7 q) := h2
  have H3 : Hid (FQ G w v0 v1 v2 v3 r) := h3
  have H4 : Hid (FQ G w v4 v5 v6 v7 s) := h4
  clear h1 h2 h3 h4
  have M : Hid (Below w.heap.size w w) := Below.refl _ _
  go_enter Try.func11, Try.ntmps11
  go_upto_region 1 with fail
  obtain ⟨w1, hv⟩ : ∃ w_ : World, w_ = (((w.alloc (.cells #[u0, u1, u2, u3, u4, u5, u6, u7] 28)).alloc (.cells #[v0, v1, v2, v3, v4, v5, v6, v7] 28)).alloc (.cells #[.int .i64 0, .slice none 0 0, .int .i64 0, .slice none 0 0, .int .i64 0, .slice none 0 0, .int .i64 0, .slice none 0 0] 28)) := ⟨_, rfl⟩
  rw [← hv]
  have hbx := bx3 w 28 28 28 #[u0, u1, u2, u3, u4, u5, u6, u7] #[v0, v1, v2, v3, v4, v5, v6, v7] #[.int .i64 0, .slice none 0 0, .int .i64 0, .slice none 0 0, .int .i64 0, .slice none 0 0, .int .i64 0, .slice none 0 0]
  rw [← hv] at hbx
  have hbn : Below w.heap.size w w1 := by rw [hv]; exact (Below.alloc (Below.alloc (Below.alloc (Below.refl _ _) (by simp <;> omega) _) (by simp <;> omega) _) (by simp <;> omega) _)
  replace M := Lib.hid (And.intro hbx.2.2 (And.intro hbx.2.1 (And.intro hbx.1 (Goes.go M.out hbn))))
  clear hbx hbn
  clear hv
  have y0 := (M.out.2.2.1).d8; have p0_0 := y0.1; have p0_1 := y0.2.1; have p0_2 := y0.2.2.1; have p0_3 := y0.2.2.2.1; have p0_4 := y0.2.2.2.2.1; have p0_5 := y0.2.2.2.2.2.1; have p0_6 := y0.2.2.2.2.2.2.1; have p0_7 := y0.2.2.2.2.2.2.2; clear y0
  have y1 := (M.out.2.1).d8; have p1_0 := y1.1; have p1_1 := y1.2.1; have p1_2 := y1.2.2.1; have p1_3 := y1.2.2.2.1; have p1_4 := y1.2.2.2.2.1; have p1_5 := y1.2.2.2.2.2.1; have p1_6 := y1.2.2.2.2.2.2.1; have p1_7 := y1.2.2.2.2.2.2.2; clear y1
  go_wp2_with fail
  clear p0_0 p0_1 p0_2 p0_3 p0_4 p0_5 p0_6 p0_7 p1_0 p1_1 p1_2 p1_3 p1_4 p1_5 p1_6 p1_7
  obtain ⟨q9, eq9⟩ : ∃ v_ : Rat, v_ = (p - s) := ⟨_, rfl⟩
  obtain ⟨q10, eq10⟩ : ∃ v_ : Rat, v_ = (q - r) := ⟨_, rfl⟩
  refine (spSub_q (G := G) (p := p) (q := q) (r := r) (s := s) (Nat.le_trans hG (M.out.2.2.2).size) (H1.out.keep (M.out.2.2.2)) (H2.out.keep (M.out.2.2.2)) (H3.out.keep (M.out.2.2.2)) (H4.out.keep (M.out.2.2.2)) (Fz.mono HP.out (by omega)) (Fz.mono HQ.out (by omega)) (Fz.mono HR.out (by omega)) (Fz.mono HS.out (by omega)) HAA.out HBB.out).mono ?_
  rintro e w2 ⟨x_1, x_2, x_3, x_4, x_5, x_6, x_7, x_8, rfl, hd11, hd12, hb⟩
  rw [← eq9] at hd11
  have Sq9 : Hid (Fz q9 34359738369) := by show Fz q9 34359738369; rw [eq9]; exact (Fz.sub HP.out HS.out)
  have Eq9 := Lib.hid eq9; clear eq9
  rw [← eq10] at hd12
  have Sq10 : Hid (Fz q10 34359738369) := by show Fz q10 34359738369; rw [eq10]; exact (Fz.sub HQ.out HR.out)
  have Eq10 := Lib.hid eq10; clear eq10
  replace M := Lib.hid (And.intro hd11 (And.intro hd12 (Goes.go M.out hb)))
  clear hb hd11 hd12
  have ys_x_1 := TQ.st (M.out.1); have st_x_1 := ys_x_1.1; have st_x_2 := ys_x_1.2.1; have st_x_3 := ys_x_1.2.2.1; have st_x_4 := ys_x_1.2.2.2; clear ys_x_1
  have ys_x_5 := TQ.st (M.out.2.1); have st_x_5 := ys_x_5.1; have st_x_6 := ys_x_5.2.1; have st_x_7 := ys_x_5.2.2.1; have st_x_8 := ys_x_5.2.2.2; clear ys_x_5
  go_upto_region 7 with fail
  clear st_x_1 st_x_2 st_x_3 st_x_4 st_x_5 st_x_6 st_x_7 st_x_8
  obtain ⟨w3, hv⟩ : ∃ w_ : World, w_ = (w2.alloc (.cells #[x_1, x_2, x_3, x_4, x_5, x_6, x_7, x_8] 28)) := ⟨_, rfl⟩
  rw [← hv]
  have ow3_ : w.heap.size + 1 + 1 < w2.heap.size := ((M.out.2.2.1)).lt
  replace M := Lib.hid (And.intro (hv ▸ bx1 w2 28 #[x_1, x_2, x_3, x_4, x_5, x_6, x_7, x_8]) (Goes.go M.out (hv ▸ below_alloc _ _ : Below w2.heap.size w2 w3)))
  clear hv
  have y3 := (M.out.1).d8; have p3_0 := y3.1; have p3_1 := y3.2.1; have p3_2 := y3.2.2.1; have p3_3 := y3.2.2.2.1; have p3_4 := y3.2.2.2.2.1; have p3_5 := y3.2.2.2.2.2.1; have p3_6 := y3.2.2.2.2.2.2.1; have p3_7 := y3.2.2.2.2.2.2.2; clear y3
  have y2 := (M.out.2.2.2.1).c8; have p2_0 := y2.1; have q2_0 := y2.2.1; have p2_1 := y2.2.2.1; have q2_1 := y2.2.2.2.1; have p2_2 := y2.2.2.2.2.1; have q2_2 := y2.2.2.2.2.2.1; have p2_3 := y2.2.2.2.2.2.2.1; have q2_3 := y2.2.2.2.2.2.2.2.1; have p2_4 := y2.2.2.2.2.2.2.2.2.1; have q2_4 := y2.2.2.2.2.2.2.2.2.2.1; have p2_5 := y2.2.2.2.2.2.2.2.2.2.2.1; have q2_5 := y2.2.2.2.2.2.2.2.2.2.2.2.1; have p2_6 := y2.2.2.2.2.2.2.2.2.2.2.2.2.1; have q2_6 := y2.2.2.2.2.2.2.2.2.2.2.2.2.2.1; have p2_7 := y2.2.2.2.2.2.2.2.2.2.2.2.2.2.2.1; have q2_7 := y2.2.2.2.2.2.2.2.2.2.2.2.2.2.2.2; clear y2
  have ys_x_1 := TQ.st (M.out.2.1); have st_x_1 := ys_x_1.1; have st_x_2 := ys_x_1.2.1; have st_x_3 := ys_x_1.2.2.1; have st_x_4 := ys_x_1.2.2.2; clear ys_x_1
  have ys_x_5 := TQ.st (M.out.2.2.1); have st_x_5 := ys_x_5.1; have st_x_6 := ys_x_5.2.1; have st_x_7 := ys_x_5.2.2.1; have st_x_8 := ys_x_5.2.2.2; clear ys_x_5
  go_wp2_with fail
  clear p3_0 p3_1 p3_2 p3_3 p3_4 p3_5 p3_6 p3_7 p2_0 q2_0 p2_1 q2_1 p2_2 q2_2 p2_3 q2_3 p2_4 q2_4 p2_5 q2_5 p2_6 q2_6 p2_7 q2_7 st_x_1 st_x_2 st_x_3 st_x_4 st_x_5 st_x_6 st_x_7 st_x_8
  obtain ⟨w4, hv⟩ : ∃ w_ : World, w_ = ((((((((w3.setCell ⟨w.heap.size + 1 + 1, 0, none⟩ (x_1)).setCell ⟨w.heap.size + 1 + 1, 1, none⟩ (x_2)).setCell ⟨w.heap.size + 1 + 1, 2, none⟩ (x_3)).setCell ⟨w.heap.size + 1 + 1, 3, none⟩ (x_4)).setCell ⟨w.heap.size + 1 + 1, 4, none⟩ (x_5)).setCell ⟨w.heap.size + 1 + 1, 5, none⟩ (x_6)).setCell ⟨w.heap.size + 1 + 1, 6, none⟩ (x_7)).setCell ⟨w.heap.size + 1 + 1, 7, none⟩ (x_8)) := ⟨_, rfl⟩
  rw [← hv]
  have og : w3.grownBy w4 (some (w.heap.size + 1 + 1)) := by rw [hv]; exact (only_setCell (only_setCell (only_setCell (only_setCell (only_setCell (only_setCell (only_setCell (only_setCell (World.grownBy.refl _ _) _) _) _) _) _) _) _) _)
  have hz : w.heap.size ≤ w.heap.size + 1 + 1 := by omega
  have hk : Bx w4 (w.heap.size + 1 + 1) 28 #[x_1, x_2, x_3, x_4, x_5, x_6, x_7, x_8] := by rw [hv]; exact (((((((((M.out.2.2.2.1).set 0 _).set 1 _).set 2 _).set 3 _).set 4 _).set 5 _).set 6 _).set 7 _)
  have hbw : Below w.heap.size w w4 := by rw [hv]; exact (Below.setCell (Below.setCell (Below.setCell (Below.setCell (Below.setCell (Below.setCell (Below.setCell (Below.setCell (M.out.2.2.2.2.2.2) (by omega) _) (by omega) _) (by omega) _) (by omega) _) (by omega) _) (by omega) _) (by omega) _) (by omega) _)
  replace M := Lib.hid (And.intro ((M.out.1).only og (by omega)) (And.intro ((M.out.2.1).far (M.out.2.2.2.1) (by rfl) (by omega) og) (And.intro ((M.out.2.2.1).far (M.out.2.2.2.1) (by rfl) (by omega) og) (And.intro hk (And.intro ((M.out.2.2.2.2.1).only og (by omega)) (And.intro ((M.out.2.2.2.2.2.1).only og (by omega)) hbw))))))
  clear hk hbw og hv hz
  refine bodyPost_ret (results_box2 rfl _ _ (w.heap.size + 1 + 1) 28 _ _ _ rfl (M.out.2.2.2.1) Try.underlying28 rfl (by kernel_rfl)) rfl ?_
  exact ⟨x_1, x_2, x_3, x_4, x_5, x_6, x_7, x_8, rfl, (by have h_ := (M.out.2.1); rw [Eq9.out] at h_; rw [HLO.out] at h_; exact h_), (by have h_ := (M.out.2.2.1); rw [Eq10.out] at h_; rw [HHI.out] at h_; exact h_), (M.out.2.2.2.2.2.2)⟩
set_option maxRecDepth 100000 in
set_option maxHeartbeats 4000000 in
theorem play_2 {u0 u1 u2 u3 u4 u5 u6 u7 v0 v1 v2 v3 v4 v5 v6 v7 : Value} {p q r s : Rat} {lo hi : Rat} {w : World} (hG : G ≤ w.heap.size) (h1 : FQ G w u0 u1 u2 u3 p) (h2 : FQ G w u4 u5 u6 u7 q) (h3 : FQ G w v0 v1 v2 v3 r) (h4 : FQ G w v4 v5 v6 v7 s) (hp : Fz p 17179869184) (hq : Fz q 17179869184) (hr : Fz r 17179869184) (hs : Fz s 17179869184) (ha : p ≤ q) (hb : r ≤ s) (hlo : min4 (p * r) (p * s) (q * r) (q * s) = lo) (hhi : max4 (p * r) (p * s) (q * r) (q * s) = hi)  :
    Calls Try.prog 11 #[.int .i64 2, .agg #[u0, u1, u2, u3, u4, u5, u6, u7], .agg #[v0, v1, v2, v3, v4, v5, v6, v7]] w fun e w' => ∃ x0 x1 x2 x3 x4 x5 x6 x7, e = .returned (.tuple #[.agg #[x0, x1, x2, x3, x4, x5, x6, x7], .int .i64 0]) ∧ FQ G w' x0 x1 x2 x3 lo ∧ FQ G w' x4 x5 x6 x7 hi ∧ Below w.heap.size w w' := by
  have HP := Lib.hid hp; have HQ := Lib.hid hq; have HR := Lib.hid hr; have HS := Lib.hid hs; have HAA := Lib.hid ha; have HBB := Lib.hid hb; clear hp hq hr hs ha hb
  have HLO := Lib.hid hlo; have HHI := Lib.hid hhi; clear hlo hhi
  have H1 : Hid (FQ G w u0 u1 u2 u3 p) := h1
  have H2 : Hid (FQ G w u4 u5 u6 u7 q) := h2
  have H3 : Hid (FQ G w v0 v1 v2 v3 r) := h3
  have H4 : Hid (FQ G w v4 v5 v6 v7 s) := h4
  clear h1 h2 h3 h4
  have M : Hid (Below w.heap.size w w) := Below.refl _ _
  go_enter Try.func11, Try.ntmps11
  go_upto_region 1 with fail
  obtain ⟨w1, hv⟩ : ∃ w_ : World, w_ = (((w.alloc (.cells #[u0, u1, u2, u3, u4, u5, u6, u7] 28)).alloc (.cells #[v0, v1, v2, v3, v4, v5, v6, v7] 28)).alloc (.cells #[.int .i64 0, .slice none 0 0, .int .i64 0, .slice none 0 0, .int .i64 0, .slice none 0 0, .int .i64 0, .slice none 0 0] 28)) := ⟨_, rfl⟩
  rw [← hv]
  have hbx := bx3 w 28 28 28 #[u0, u1, u2, u3, u4, u5, u6, u7] #[v0, v1, v2, v3, v4, v5, v6, v7] #[.int .i64 0, .slice none 0 0, .int .i64 0, .slice none 0 0, .int .i64 0, .slice none 0 0, .int .i64 0, .slice none 0 0]
  rw [← hv] at hbx
  have hbn : Below w.heap.size w w1 := by rw [hv]; exact (Below.alloc (Below.alloc (Below.alloc (Below.refl _ _) (by simp <;> omega) _) (by simp <;> omega) _) (by simp <;> omega) _)
  replace M := Lib.hid (And.intro hbx.2.2 (And.intro hbx.2.1 (And.intro hbx.1 (Goes.go M.out hbn))))
  clear hbx hbn
  clear hv
  have y0 := (M.out.2.2.1).d8; have p0_0 := y0.1; have p0_1 := y0.2.1; have p0_2 := y0.2.2.1; have p0_3 := y0.2.2.2.1; have p0_4 := y0.2.2.2.2.1; have p0_5 := y0.2.2.2.2.2.1; have p0_6 := y0.2.2.2.2.2.2.1; have p0_7 := y0.2.2.2.2.2.2.2; clear y0
  have y1 := (M.out.2.1).d8; have p1_0 := y1.1; have p1_1 := y1.2.1; have p1_2 := y1.2.2.1; have p1_3 := y1.2.2.2.1; have p1_4 := y1.2.2.2.2.1; have p1_5 := y1.2.2.2.2.2.1; have p1_6 := y1.2.2.2.2.2.2.1; have p1_7 := y1.2.2.2.2.2.2.2; clear y1
  go_wp2_with fail
  clear p0_0 p0_1 p0_2 p0_3 p0_4 p0_5 p0_6 p0_7 p1_0 p1_1 p1_2 p1_3 p1_4 p1_5 p1_6 p1_7
  refine (spMul_q (G := G) (p := p) (q := q) (r := r) (s := s) (lo := lo) (hi := hi) (Nat.le_trans hG (M.out.2.2.2).size) (H1.out.keep (M.out.2.2.2)) (H2.out.keep (M.out.2.2.2)) (H3.out.keep (M.out.2.2.2)) (H4.out.keep (M.out.2.2.2)) (Fz.mono HP.out (by omega)) (Fz.mono HQ.out (by omega)) (Fz.mono HR.out (by omega)) (Fz.mono HS.out (by omega)) HAA.out HBB.out HLO.out HHI.out).mono ?_
  rintro e w2 ⟨x_1, x_2, x_3, x_4, x_5, x_6, x_7, x_8, rfl, hd9, hd10, hb⟩
  replace M := Lib.hid (And.intro hd9 (And.intro hd10 (Goes.go M.out hb)))
  clear hb hd9 hd10
  have ys_x_1 := TQ.st (M.out.1); have st_x_1 := ys_x_1.1; have st_x_2 := ys_x_1.2.1; have st_x_3 := ys_x_1.2.2.1; have st_x_4 := ys_x_1.2.2.2; clear ys_x_1
  have ys_x_5 := TQ.st (M.out.2.1); have st_x_5 := ys_x_5.1; have st_x_6 := ys_x_5.2.1; have st_x_7 := ys_x_5.2.2.1; have st_x_8 := ys_x_5.2.2.2; clear ys_x_5
  go_upto_region 10 with fail
  clear st_x_1 st_x_2 st_x_3 st_x_4 st_x_5 st_x_6 st_x_7 st_x_8
  obtain ⟨w3, hv⟩ : ∃ w_ : World, w_ = (w2.alloc (.cells #[x_1, x_2, x_3, x_4, x_5, x_6, x_7, x_8] 28)) := ⟨_, rfl⟩
  rw [← hv]
  have ow3_ : w.heap.size + 1 + 1 < w2.heap.size := ((M.out.2.2.1)).lt
  replace M := Lib.hid (And.intro (hv ▸ bx1 w2 28 #[x_1, x_2, x_3, x_4, x_5, x_6, x_7, x_8]) (Goes.go M.out (hv ▸ below_alloc _ _ : Below w2.heap.size w2 w3)))
  clear hv
  have y3 := (M.out.1).d8; have p3_0 := y3.1; have p3_1 := y3.2.1; have p3_2 := y3.2.2.1; have p3_3 := y3.2.2.2.1; have p3_4 := y3.2.2.2.2.1; have p3_5 := y3.2.2.2.2.2.1; have p3_6 := y3.2.2.2.2.2.2.1; have p3_7 := y3.2.2.2.2.2.2.2; clear y3
  have y2 := (M.out.2.2.2.1).c8; have p2_0 := y2.1; have q2_0 := y2.2.1; have p2_1 := y2.2.2.1; have q2_1 := y2.2.2.2.1; have p2_2 := y2.2.2.2.2.1; have q2_2 := y2.2.2.2.2.2.1; have p2_3 := y2.2.2.2.2.2.2.1; have q2_3 := y2.2.2.2.2.2.2.2.1; have p2_4 := y2.2.2.2.2.2.2.2.2.1; have q2_4 := y2.2.2.2.2.2.2.2.2.2.1; have p2_5 := y2.2.2.2.2.2.2.2.2.2.2.1; have q2_5 := y2.2.2.2.2.2.2.2.2.2.2.2.1; have p2_6 := y2.2.2.2.2.2.2.2.2.2.2.2.2.1; have q2_6 := y2.2.2.2.2.2.2.2.2.2.2.2.2.2.1; have p2_7 := y2.2.2.2.2.2.2.2.2.2.2.2.2.2.2.1; have q2_7 := y2.2.2.2.2.2.2.2.2.2.2.2.2.2.2.2; clear y2
  have ys_x_1 := TQ.st (M.out.2.1); have st_x_1 := ys_x_1.1; have st_x_2 := ys_x_1.2.1; have st_x_3 := ys_x_1.2.2.1; have st_x_4 := ys_x_1.2.2.2; clear ys_x_1
  have ys_x_5 := TQ.st (M.out.2.2.1); have st_x_5 := ys_x_5.1; have st_x_6 := ys_x_5.2.1; have st_x_7 := ys_x_5.2.2.1; have st_x_8 := ys_x_5.2.2.2; clear ys_x_5
  go_wp2_with fail
  clear p3_0 p3_1 p3_2 p3_3 p3_4 p3_5 p3_6 p3_7 p2_0 q2_0 p2_1 q2_1 p2_2 q2_2 p2_3 q2_3 p2_4 q2_4 p2_5 q2_5 p2_6 q2_6 p2_7 q2_7 st_x_1 st_x_2 st_x_3 st_x_4 st_x_5 st_x_6 st_x_7 st_x_8
  obtain ⟨w4, hv⟩ : ∃ w_ : World, w_ = ((((((((w3.setCell ⟨w.heap.size + 1 + 1, 0, none⟩ (x_1)).setCell ⟨w.heap.size + 1 + 1, 1, none⟩ (x_2)).setCell ⟨w.heap.size + 1 + 1, 2, none⟩ (x_3)).setCell ⟨w.heap.size + 1 + 1, 3, none⟩ (x_4)).setCell ⟨w.heap.size + 1 + 1, 4, none⟩ (x_5)).setCell ⟨w.heap.size + 1 + 1, 5, none⟩ (x_6)).setCell ⟨w.heap.size + 1 + 1, 6, none⟩ (x_7)).setCell ⟨w.heap.size + 1 + 1, 7, none⟩ (x_8)) := ⟨_, rfl⟩
  rw [← hv]
  have og : w3.grownBy w4 (some (w.heap.size + 1 + 1)) := by rw [hv]; exact (only_setCell (only_setCell (only_setCell (only_setCell (only_setCell (only_setCell (only_setCell (only_setCell (World.grownBy.refl _ _) _) _) _) _) _) _) _) _)
  have hz : w.heap.size ≤ w.heap.size + 1 + 1 := by omega
  have hk : Bx w4 (w.heap.size + 1 + 1) 28 #[x_1, x_2, x_3, x_4, x_5, x_6, x_7, x_8] := by rw [hv]; exact (((((((((M.out.2.2.2.1).set 0 _).set 1 _).set 2 _).set 3 _).set 4 _).set 5 _).set 6 _).set 7 _)
  have hbw : Below w.heap.size w w4 := by rw [hv]; exact (Below.setCell (Below.setCell (Below.setCell (Below.setCell (Below.setCell (Below.setCell (Below.setCell (Below.setCell (M.out.2.2.2.2.2.2) (by omega) _) (by omega) _) (by omega) _) (by omega) _) (by omega) _) (by omega) _) (by omega) _) (by omega) _)
  replace M := Lib.hid (And.intro ((M.out.1).only og (by omega)) (And.intro ((M.out.2.1).far (M.out.2.2.2.1) (by rfl) (by omega) og) (And.intro ((M.out.2.2.1).far (M.out.2.2.2.1) (by rfl) (by omega) og) (And.intro hk (And.intro ((M.out.2.2.2.2.1).only og (by omega)) (And.intro ((M.out.2.2.2.2.2.1).only og (by omega)) hbw))))))
  clear hk hbw og hv hz
  refine bodyPost_ret (results_box2 rfl _ _ (w.heap.size + 1 + 1) 28 _ _ _ rfl (M.out.2.2.2.1) Try.underlying28 rfl (by kernel_rfl)) rfl ?_
  exact ⟨x_1, x_2, x_3, x_4, x_5, x_6, x_7, x_8, rfl, (M.out.2.1), (M.out.2.2.1), (M.out.2.2.2.2.2.2)⟩
set_option maxRecDepth 100000 in
set_option maxHeartbeats 4000000 in
theorem play_3 {u0 u1 u2 u3 u4 u5 u6 u7 v0 v1 v2 v3 v4 v5 v6 v7 : Value} {p q r s : Rat} {lo hi : Rat} {w : World} (hG : G ≤ w.heap.size) (h1 : FQ G w u0 u1 u2 u3 p) (h2 : FQ G w u4 u5 u6 u7 q) (h3 : FQ G w v0 v1 v2 v3 r) (h4 : FQ G w v4 v5 v6 v7 s) (hp : Fz p 17179869184) (hq : Fz q 17179869184) (hr : Fz r 17179869184) (hs : Fz s 17179869184) (ha : p ≤ q) (hb : r ≤ s) (h0 : ¬ (r ≤ 0 ∧ 0 ≤ s)) (hlo : min4 (p * (1 / s)) (p * (1 / r)) (q * (1 / s)) (q * (1 / r)) = lo) (hhi : max4 (p * (1 / s)) (p * (1 / r)) (q * (1 / s)) (q * (1 / r)) = hi)  :
    Calls Try.prog 11 #[.int .i64 3, .agg #[u0, u1, u2, u3, u4, u5, u6, u7], .agg #[v0, v1, v2, v3, v4, v5, v6, v7]] w fun e w' => ∃ x0 x1 x2 x3 x4 x5 x6 x7, e = .returned (.tuple #[.agg #[x0, x1, x2, x3, x4, x5, x6, x7], .int .i64 0]) ∧ FQ G w' x0 x1 x2 x3 lo ∧ FQ G w' x4 x5 x6 x7 hi ∧ Below w.heap.size w w' := by
  have H0 := Lib.hid h0; clear h0
  have HP := Lib.hid hp; have HQ := Lib.hid hq; have HR := Lib.hid hr; have HS := Lib.hid hs; have HAA := Lib.hid ha; have HBB := Lib.hid hb; clear hp hq hr hs ha hb
  have HLO := Lib.hid hlo; have HHI := Lib.hid hhi; clear hlo hhi
  have H1 : Hid (FQ G w u0 u1 u2 u3 p) := h1
  have H2 : Hid (FQ G w u4 u5 u6 u7 q) := h2
  have H3 : Hid (FQ G w v0 v1 v2 v3 r) := h3
  have H4 : Hid (FQ G w v4 v5 v6 v7 s) := h4
  clear h1 h2 h3 h4
  have M : Hid (Below w.heap.size w w) := Below.refl _ _
  go_enter Try.func11, Try.ntmps11
  go_upto_region 1 with fail
  obtain ⟨w1, hv⟩ : ∃ w_ : World, w_ = (((w.alloc (.cells #[u0, u1, u2, u3, u4, u5, u6, u7] 28)).alloc (.cells #[v0, v1, v2, v3, v4, v5, v6, v7] 28)).alloc (.cells #[.int .i64 0, .slice none 0 0, .int .i64 0, .slice none 0 0, .int .i64 0, .slice none 0 0, .int .i64 0, .slice none 0 0] 28)) := ⟨_, rfl⟩
  rw [← hv]
  have hbx := bx3 w 28 28 28 #[u0, u1, u2, u3, u4, u5, u6, u7] #[v0, v1, v2, v3, v4, v5, v6, v7] #[.int .i64 0, .slice none 0 0, .int .i64 0, .slice none 0 0, .int .i64 0, .slice none 0 0, .int .i64 0, .slice none 0 0]
  rw [← hv] at hbx
  have hbn : Below w.heap.size w w1 := by rw [hv]; exact (Below.alloc (Below.alloc (Below.alloc (Below.refl _ _) (by simp <;> omega) _) (by simp <;> omega) _) (by simp <;> omega) _)
  replace M := Lib.hid (And.intro hbx.2.2 (And.intro hbx.2.1 (And.intro hbx.1 (Goes.go M.out hbn))))
  clear hbx hbn
  clear hv
  have y0 := (M.out.2.2.1).d8; have p0_0 := y0.1; have p0_1 := y0.2.1; have p0_2 := y0.2.2.1; have p0_3 := y0.2.2.2.1; have p0_4 := y0.2.2.2.2.1; have p0_5 := y0.2.2.2.2.2.1; have p0_6 := y0.2.2.2.2.2.2.1; have p0_7 := y0.2.2.2.2.2.2.2; clear y0
  have y1 := (M.out.2.1).d8; have p1_0 := y1.1; have p1_1 := y1.2.1; have p1_2 := y1.2.2.1; have p1_3 := y1.2.2.2.1; have p1_4 := y1.2.2.2.2.1; have p1_5 := y1.2.2.2.2.2.1; have p1_6 := y1.2.2.2.2.2.2.1; have p1_7 := y1.2.2.2.2.2.2.2; clear y1
  go_wp2_with fail
  clear p0_0 p0_1 p0_2 p0_3 p0_4 p0_5 p0_6 p0_7 p1_0 p1_1 p1_2 p1_3 p1_4 p1_5 p1_6 p1_7
  refine (spDiv_q (G := G) (p := p) (q := q) (r := r) (s := s) (lo := lo) (hi := hi) (Nat.le_trans hG (M.out.2.2.2).size) (H1.out.keep (M.out.2.2.2)) (H2.out.keep (M.out.2.2.2)) (H3.out.keep (M.out.2.2.2)) (H4.out.keep (M.out.2.2.2)) HP.out HQ.out HR.out HS.out HAA.out HBB.out H0.out HLO.out HHI.out).mono ?_
  rintro e w2 ⟨x_1, x_2, x_3, x_4, x_5, x_6, x_7, x_8, rfl, hd9, hd10, hb⟩
  replace M := Lib.hid (And.intro hd9 (And.intro hd10 (Goes.go M.out hb)))
  clear hb hd9 hd10
  have ys_x_1 := TQ.st (M.out.1); have st_x_1 := ys_x_1.1; have st_x_2 := ys_x_1.2.1; have st_x_3 := ys_x_1.2.2.1; have st_x_4 := ys_x_1.2.2.2; clear ys_x_1
  have ys_x_5 := TQ.st (M.out.2.1); have st_x_5 := ys_x_5.1; have st_x_6 := ys_x_5.2.1; have st_x_7 := ys_x_5.2.2.1; have st_x_8 := ys_x_5.2.2.2; clear ys_x_5
  go_upto_region 13 with fail
  clear st_x_1 st_x_2 st_x_3 st_x_4 st_x_5 st_x_6 st_x_7 st_x_8
  obtain ⟨w3, hv⟩ : ∃ w_ : World, w_ = (w2.alloc (.cells #[x_1, x_2, x_3, x_4, x_5, x_6, x_7, x_8] 28)) := ⟨_, rfl⟩
  rw [← hv]
  have ow3_ : w.heap.size + 1 + 1 < w2.heap.size := ((M.out.2.2.1)).lt
  replace M := Lib.hid (And.intro (hv ▸ bx1 w2 28 #[x_1, x_2, x_3, x_4, x_5, x_6, x_7, x_8]) (Goes.go M.out (hv ▸ below_alloc _ _ : Below w2.heap.size w2 w3)))
  clear hv
  have y3 := (M.out.1).d8; have p3_0 := y3.1; have p3_1 := y3.2.1; have p3_2 := y3.2.2.1; have p3_3 := y3.2.2.2.1; have p3_4 := y3.2.2.2.2.1; have p3_5 := y3.2.2.2.2.2.1; have p3_6 := y3.2.2.2.2.2.2.1; have p3_7 := y3.2.2.2.2.2.2.2; clear y3
  have y2 := (M.out.2.2.2.1).c8; have p2_0 := y2.1; have q2_0 := y2.2.1; have p2_1 := y2.2.2.1; have q2_1 := y2.2.2.2.1; have p2_2 := y2.2.2.2.2.1; have q2_2 := y2.2.2.2.2.2.1; have p2_3 := y2.2.2.2.2.2.2.1; have q2_3 := y2.2.2.2.2.2.2.2.1; have p2_4 := y2.2.2.2.2.2.2.2.2.1; have q2_4 := y2.2.2.2.2.2.2.2.2.2.1; have p2_5 := y2.2.2.2.2.2.2.2.2.2.2.1; have q2_5 := y2.2.2.2.2.2.2.2.2.2.2.2.1; have p2_6 := y2.2.2.2.2.2.2.2.2.2.2.2.2.1; have q2_6 := y2.2.2.2.2.2.2.2.2.2.2.2.2.2.1; have p2_7 := y2.2.2.2.2.2.2.2.2.2.2.2.2.2.2.1; have q2_7 := y2.2.2.2.2.2.2.2.2.2.2.2.2.2.2.2; clear y2
  have ys_x_1 := TQ.st (M.out.2.1); have st_x_1 := ys_x_1.1; have st_x_2 := ys_x_1.2.1; have st_x_3 := ys_x_1.2.2.1; have st_x_4 := ys_x_1.2.2.2; clear ys_x_1
  have ys_x_5 := TQ.st (M.out.2.2.1); have st_x_5 := ys_x_5.1; have st_x_6 := ys_x_5.2.1; have st_x_7 := ys_x_5.2.2.1; have st_x_8 := ys_x_5.2.2.2; clear ys_x_5
  go_wp2_with fail
  clear p3_0 p3_1 p3_2 p3_3 p3_4 p3_5 p3_6 p3_7 p2_0 q2_0 p2_1 q2_1 p2_2 q2_2 p2_3 q2_3 p2_4 q2_4 p2_5 q2_5 p2_6 q2_6 p2_7 q2_7 st_x_1 st_x_2 st_x_3 st_x_4 st_x_5 st_x_6 st_x_7 st_x_8
  obtain ⟨w4, hv⟩ : ∃ w_ : World, w_ = ((((((((w3.setCell ⟨w.heap.size + 1 + 1, 0, none⟩ (x_1)).setCell ⟨w.heap.size + 1 + 1, 1, none⟩ (x_2)).setCell ⟨w.heap.size + 1 + 1, 2, none⟩ (x_3)).setCell ⟨w.heap.size + 1 + 1, 3, none⟩ (x_4)).setCell ⟨w.heap.size + 1 + 1, 4, none⟩ (x_5)).setCell ⟨w.heap.size + 1 + 1, 5, none⟩ (x_6)).setCell ⟨w.heap.size + 1 + 1, 6, none⟩ (x_7)).setCell ⟨w.heap.size + 1 + 1, 7, none⟩ (x_8)) := ⟨_, rfl⟩
  rw [← hv]
  have og : w3.grownBy w4 (some (w.heap.size + 1 + 1)) := by rw [hv]; exact (only_setCell (only_setCell (only_setCell (only_setCell (only_setCell (only_setCell (only_setCell (only_setCell (World.grownBy.refl _ _) _) _) _) _) _) _) _) _)
  have hz : w.heap.size ≤ w.heap.size + 1 + 1 := by omega
  have hk : Bx w4 (w.heap.size + 1 + 1) 28 #[x_1, x_2, x_3, x_4, x_5, x_6, x_7, x_8] := by rw [hv]; exact (((((((((M.out.2.2.2.1).set 0 _).set 1 _).set 2 _).set 3 _).set 4 _).set 5 _).set 6 _).set 7 _)
  have hbw : Below w.heap.size w w4 := by rw [hv]; exact (Below.setCell (Below.setCell (Below.setCell (Below.setCell (Below.setCell (Below.setCell (Below.setCell (Below.setCell (M.out.2.2.2.2.2.2) (by omega) _) (by omega) _) (by omega) _) (by omega) _) (by omega) _) (by omega) _) (by omega) _) (by omega) _)
  replace M := Lib.hid (And.intro ((M.out.1).only og (by omega)) (And.intro ((M.out.2.1).far (M.out.2.2.2.1) (by rfl) (by omega) og) (And.intro ((M.out.2.2.1).far (M.out.2.2.2.1) (by rfl) (by omega) og) (And.intro hk (And.intro ((M.out.2.2.2.2.1).only og (by omega)) (And.intro ((M.out.2.2.2.2.2.1).only og (by omega)) hbw))))))
  clear hk hbw og hv hz
  refine bodyPost_ret (results_box2 rfl _ _ (w.heap.size + 1 + 1) 28 _ _ _ rfl (M.out.2.2.2.1) Try.underlying28 rfl (by kernel_rfl)) rfl ?_
  exact ⟨x_1, x_2, x_3, x_4, x_5, x_6, x_7, x_8, rfl, (M.out.2.1), (M.out.2.2.1), (M.out.2.2.2.2.2.2)⟩
set_option maxRecDepth 100000 in
set_option maxHeartbeats 4000000 in
theorem play_4 {u0 u1 u2 u3 u4 u5 u6 u7 v0 v1 v2 v3 v4 v5 v6 v7 : Value} {p q r s : Rat} {lo hi : Rat} {w : World} (hG : G ≤ w.heap.size) (h1 : FQ G w u0 u1 u2 u3 p) (h2 : FQ G w u4 u5 u6 u7 q) (h3 : FQ G w v0 v1 v2 v3 r) (h4 : FQ G w v4 v5 v6 v7 s) (hp : Fz p 17179869184) (hq : Fz q 17179869184) (hr : Fz r 17179869184) (hs : Fz s 17179869184) (ha : p ≤ q) (hb : r ≤ s) (hlo : minQ p r = lo) (hhi : minQ q s = hi)  :
    Calls Try.prog 11 #[.int .i64 4, .agg #[u0, u1, u2, u3, u4, u5, u6, u7], .agg #[v0, v1, v2, v3, v4, v5, v6, v7]] w fun e w' => ∃ x0 x1 x2 x3 x4 x5 x6 x7, e = .returned (.tuple #[.agg #[x0, x1, x2, x3, x4, x5, x6, x7], .int .i64 0]) ∧ FQ G w' x0 x1 x2 x3 lo ∧ FQ G w' x4 x5 x6 x7 hi ∧ Below w.heap.size w w' := by
  have HP := Lib.hid hp; have HQ := Lib.hid hq; have HR := Lib.hid hr; have HS := Lib.hid hs; have HAA := Lib.hid ha; have HBB := Lib.hid hb; clear hp hq hr hs ha hb
  have HLO := Lib.hid hlo; have HHI := Lib.hid hhi; clear hlo hhi
  have H1 : Hid (FQ G w u0 u1 u2 u3 p) := h1
  have H2 : Hid (FQ G w u4 u5 u6 u7 q) := h2
  have H3 : Hid (FQ G w v0 v1 v2 v3 r) := h3
  have H4 : Hid (FQ G w v4 v5 v6 v7 s) := h4
  clear h1 h2 h3 h4
  have M : Hid (Below w.heap.size w w) := Below.refl _ _
  go_enter Try.func11, Try.ntmps11
  go_upto_region 1 with fail
  obtain ⟨w1, hv⟩ : ∃ w_ : World, w_ = (((w.alloc (.cells #[u0, u1, u2, u3, u4, u5, u6, u7] 28)).alloc (.cells #[v0, v1, v2, v3, v4, v5, v6, v7] 28)).alloc (.cells #[.int .i64 0, .slice none 0 0, .int .i64 0, .slice none 0 0, .int .i64 0, .slice none 0 0, .int .i64 0, .slice none 0 0] 28)) := ⟨_, rfl⟩
  rw [← hv]
  have hbx := bx3 w 28 28 28 #[u0, u1, u2, u3, u4, u5, u6, u7] #[v0, v1, v2, v3, v4, v5, v6, v7] #[.int .i64 0, .slice none 0 0, .int .i64 0, .slice none 0 0, .int .i64 0, .slice none 0 0, .int .i64 0, .slice none 0 0]
  rw [← hv] at hbx
  have hbn : Below w.heap.size w w1 := by rw [hv]; exact (Below.alloc (Below.alloc (Below.alloc (Below.refl _ _) (by simp <;> omega) _) (by simp <;> omega) _) (by simp <;> omega) _)
  replace M := Lib.hid (And.intro hbx.2.2 (And.intro hbx.2.1 (And.intro hbx.1 (Goes.go M.out hbn))))
  clear hbx hbn
  clear hv
  have y0 := (M.out.2.2.1).d8; have p0_0 := y0.1; have p0_1 := y0.2.1; have p0_2 := y0.2.2.1; have p0_3 := y0.2.2.2.1; have p0_4 := y0.2.2.2.2.1; have p0_5 := y0.2.2.2.2.2.1; have p0_6 := y0.2.2.2.2.2.2.1; have p0_7 := y0.2.2.2.2.2.2.2; clear y0
  have y1 := (M.out.2.1).d8; have p1_0 := y1.1; have p1_1 := y1.2.1; have p1_2 := y1.2.2.1; have p1_3 := y1.2.2.2.1; have p1_4 := y1.2.2.2.2.1; have p1_5 := y1.2.2.2.2.2.1; have p1_6 := y1.2.2.2.2.2.2.1; have p1_7 := y1.2.2.2.2.2.2.2; clear y1
  go_wp2_with fail
  clear p0_0 p0_1 p0_2 p0_3 p0_4 p0_5 p0_6 p0_7 p1_0 p1_1 p1_2 p1_3 p1_4 p1_5 p1_6 p1_7
  obtain ⟨q9, eq9⟩ : ∃ v_ : Rat, v_ = (minQ p r) := ⟨_, rfl⟩
  obtain ⟨q10, eq10⟩ : ∃ v_ : Rat, v_ = (minQ q s) := ⟨_, rfl⟩
  refine (spMin_q (G := G) (p := p) (q := q) (r := r) (s := s) (Nat.le_trans hG (M.out.2.2.2).size) (H1.out.keep (M.out.2.2.2)) (H2.out.keep (M.out.2.2.2)) (H3.out.keep (M.out.2.2.2)) (H4.out.keep (M.out.2.2.2)) (Fz.mono HP.out (by omega)) (Fz.mono HQ.out (by omega)) (Fz.mono HR.out (by omega)) (Fz.mono HS.out (by omega)) HAA.out HBB.out).mono ?_
  rintro e w2 ⟨x_1, x_2, x_3, x_4, x_5, x_6, x_7, x_8, rfl, hd11, hd12, hb⟩
  rw [← eq9] at hd11
  have Sq9 : Hid (Fz q9 17179869184) := by show Fz q9 17179869184; rw [eq9]; exact (Fz.minQ HP.out HR.out)
  have Eq9 := Lib.hid eq9; clear eq9
  rw [← eq10] at hd12
  have Sq10 : Hid (Fz q10 17179869184) := by show Fz q10 17179869184; rw [eq10]; exact (Fz.minQ HQ.out HS.out)
  have Eq10 := Lib.hid eq10; clear eq10
  replace M := Lib.hid (And.intro hd11 (And.intro hd12 (Goes.go M.out hb)))
  clear hb hd11 hd12
  have ys_x_1 := TQ.st (M.out.1); have st_x_1 := ys_x_1.1; have st_x_2 := ys_x_1.2.1; have st_x_3 := ys_x_1.2.2.1; have st_x_4 := ys_x_1.2.2.2; clear ys_x_1
  have ys_x_5 := TQ.st (M.out.2.1); have st_x_5 := ys_x_5.1; have st_x_6 := ys_x_5.2.1; have st_x_7 := ys_x_5.2.2.1; have st_x_8 := ys_x_5.2.2.2; clear ys_x_5
  go_upto_region 16 with fail
  clear st_x_1 st_x_2 st_x_3 st_x_4 st_x_5 st_x_6 st_x_7 st_x_8
  obtain ⟨w3, hv⟩ : ∃ w_ : World, w_ = (w2.alloc (.cells #[x_1, x_2, x_3, x_4, x_5, x_6, x_7, x_8] 28)) := ⟨_, rfl⟩
  rw [← hv]
  have ow3_ : w.heap.size + 1 + 1 < w2.heap.size := ((M.out.2.2.1)).lt
  replace M := Lib.hid (And.intro (hv ▸ bx1 w2 28 #[x_1, x_2, x_3, x_4, x_5, x_6, x_7, x_8]) (Goes.go M.out (hv ▸ below_alloc _ _ : Below w2.heap.size w2 w3)))
  clear hv
  have y3 := (M.out.1).d8; have p3_0 := y3.1; have p3_1 := y3.2.1; have p3_2 := y3.2.2.1; have p3_3 := y3.2.2.2.1; have p3_4 := y3.2.2.2.2.1; have p3_5 := y3.2.2.2.2.2.1; have p3_6 := y3.2.2.2.2.2.2.1; have p3_7 := y3.2.2.2.2.2.2.2; clear y3
  have y2 := (M.out.2.2.2.1).c8; have p2_0 := y2.1; have q2_0 := y2.2.1; have p2_1 := y2.2.2.1; have q2_1 := y2.2.2.2.1; have p2_2 := y2.2.2.2.2.1; have q2_2 := y2.2.2.2.2.2.1; have p2_3 := y2.2.2.2.2.2.2.1; have q2_3 := y2.2.2.2.2.2.2.2.1; have p2_4 := y2.2.2.2.2.2.2.2.2.1; have q2_4 := y2.2.2.2.2.2.2.2.2.2.1; have p2_5 := y2.2.2.2.2.2.2.2.2.2.2.1; have q2_5 := y2.2.2.2.2.2.2.2.2.2.2.2.1; have p2_6 := y2.2.2.2.2.2.2.2.2.2.2.2.2.1; have q2_6 := y2.2.2.2.2.2.2.2.2.2.2.2.2.2.1; have p2_7 := y2.2.2.2.2.2.2.2.2.2.2.2.2.2.2.1; have q2_7 := y2.2.2.2.2.2.2.2.2.2.2.2.2.2.2.2; clear y2
  have ys_x_1 := TQ.st (M.out.2.1); have st_x_1 := ys_x_1.1; have st_x_2 := ys_x_1.2.1; have st_x_3 := ys_x_1.2.2.1; have st_x_4 := ys_x_1.2.2.2; clear ys_x_1
  have ys_x_5 := TQ.st (M.out.2.2.1); have st_x_5 := ys_x_5.1; have st_x_6 := ys_x_5.2.1; have st_x_7 := ys_x_5.2.2.1; have st_x_8 := ys_x_5.2.2.2; clear ys_x_5
  go_wp2_with fail
  clear p3_0 p3_1 p3_2 p3_3 p3_4 p3_5 p3_6 p3_7 p2_0 q2_0 p2_1 q2_1 p2_2 q2_2 p2_3 q2_3 p2_4 q2_4 p2_5 q2_5 p2_6 q2_6 p2_7 q2_7 st_x_1 st_x_2 st_x_3 st_x_4 st_x_5 st_x_6 st_x_7 st_x_8
  obtain ⟨w4, hv⟩ : ∃ w_ : World, w_ = ((((((((w3.setCell ⟨w.heap.size + 1 + 1, 0, none⟩ (x_1)).setCell ⟨w.heap.size + 1 + 1, 1, none⟩ (x_2)).setCell ⟨w.heap.size + 1 + 1, 2, none⟩ (x_3)).setCell ⟨w.heap.size + 1 + 1, 3, none⟩ (x_4)).setCell ⟨w.heap.size + 1 + 1, 4, none⟩ (x_5)).setCell ⟨w.heap.size + 1 + 1, 5, none⟩ (x_6)).setCell ⟨w.heap.size + 1 + 1, 6, none⟩ (x_7)).setCell ⟨w.heap.size + 1 + 1, 7, none⟩ (x_8)) := ⟨_, rfl⟩
  rw [← hv]
  have og : w3.grownBy w4 (some (w.heap.size + 1 + 1)) := by rw [hv]; exact (only_setCell (only_setCell (only_setCell (only_setCell (only_setCell (only_setCell (only_setCell (only_setCell (World.grownBy.refl _ _) _) _) _) _) _) _) _) _)
  have hz : w.heap.size ≤ w.heap.size + 1 + 1 := by omega
  have hk : Bx w4 (w.heap.size + 1 + 1) 28 #[x_1, x_2, x_3, x_4, x_5, x_6, x_7, x_8] := by rw [hv]; exact (((((((((M.out.2.2.2.1).set 0 _).set 1 _).set 2 _).set 3 _).set 4 _).set 5 _).set 6 _).set 7 _)
  have hbw : Below w.heap.size w w4 := by rw [hv]; exact (Below.setCell (Below.setCell (Below.setCell (Below.setCell (Below.setCell (Below.setCell (Below.setCell (Below.setCell (M.out.2.2.2.2.2.2) (by omega) _) (by omega) _) (by omega) _) (by omega) _) (by omega) _) (by omega) _) (by omega) _) (by omega) _)
  replace M := Lib.hid (And.intro ((M.out.1).only og (by omega)) (And.intro ((M.out.2.1).far (M.out.2.2.2.1) (by rfl) (by omega) og) (And.intro ((M.out.2.2.1).far (M.out.2.2.2.1) (by rfl) (by omega) og) (And.intro hk (And.intro ((M.out.2.2.2.2.1).only og (by omega)) (And.intro ((M.out.2.2.2.2.2.1).only og (by omega)) hbw))))))
  clear hk hbw og hv hz
  refine bodyPost_ret (results_box2 rfl _ _ (w.heap.size + 1 + 1) 28 _ _ _ rfl (M.out.2.2.2.1) Try.underlying28 rfl (by kernel_rfl)) rfl ?_
  exact ⟨x_1, x_2, x_3, x_4, x_5, x_6, x_7, x_8, rfl, (by have h_ := (M.out.2.1); rw [Eq9.out] at h_; rw [HLO.out] at h_; exact h_), (by have h_ := (M.out.2.2.1); rw [Eq10.out] at h_; rw [HHI.out] at h_; exact h_), (M.out.2.2.2.2.2.2)⟩
set_option maxRecDepth 100000 in
set_option maxHeartbeats 4000000 in
theorem play_5 {u0 u1 u2 u3 u4 u5 u6 u7 v0 v1 v2 v3 v4 v5 v6 v7 : Value} {p q r s : Rat} {lo hi : Rat} {w : World} (hG : G ≤ w.heap.size) (h1 : FQ G w u0 u1 u2 u3 p) (h2 : FQ G w u4 u5 u6 u7 q) (h3 : FQ G w v0 v1 v2 v3 r) (h4 : FQ G w v4 v5 v6 v7 s) (hp : Fz p 17179869184) (hq : Fz q 17179869184) (hr : Fz r 17179869184) (hs : Fz s 17179869184) (ha : p ≤ q) (hb : r ≤ s) (hlo : maxQ p r = lo) (hhi : maxQ q s = hi)  :
    Calls Try.prog 11 #[.int .i64 5, .agg #[u0, u1, u2, u3, u4, u5, u6, u7], .agg #[v0, v1, v2, v3, v4, v5, v6, v7]] w fun e w' => ∃ x0 x1 x2 x3 x4 x5 x6 x7, e = .returned (.tuple #[.agg #[x0, x1, x2, x3, x4, x5, x6, x7], .int .i64 0]) ∧ FQ G w' x0 x1 x2 x3 lo ∧ FQ G w' x4 x5 x6 x7 hi ∧ Below w.heap.size w w' := by
  have HP := Lib.hid hp; have HQ := Lib.hid hq; have HR := Lib.hid hr; have HS := Lib.hid hs; have HAA := Lib.hid ha; have HBB := Lib.hid hb; clear hp hq hr hs ha hb
  have HLO := Lib.hid hlo; have HHI := Lib.hid hhi; clear hlo hhi
  have H1 : Hid (FQ G w u0 u1 u2 u3 p) := h1
  have H2 : Hid (FQ G w u4 u5 u6 u7 q) := h2
  have H3 : Hid (FQ G w v0 v1 v2 v3 r) := h3
  have H4 : Hid (FQ G w v4 v5 v6 v7 s) := h4
  clear h1 h2 h3 h4
  have M : Hid (Below w.heap.size w w) := Below.refl _ _
  go_enter Try.func11, Try.ntmps11
  go_upto_region 1 with fail
  obtain ⟨w1, hv⟩ : ∃ w_ : World, w_ = (((w.alloc (.cells #[u0, u1, u2, u3, u4, u5, u6, u7] 28)).alloc (.cells #[v0, v1, v2, v3, v4, v5, v6, v7] 28)).alloc (.cells #[.int .i64 0, .slice none 0 0, .int .i64 0, .slice none 0 0, .int .i64 0, .slice none 0 0, .int .i64 0, .slice none 0 0] 28)) := ⟨_, rfl⟩
  rw [← hv]
  have hbx := bx3 w 28 28 28 #[u0, u1, u2, u3, u4, u5, u6, u7] #[v0, v1, v2, v3, v4, v5, v6, v7] #[.int .i64 0, .slice none 0 0, .int .i64 0, .slice none 0 0, .int .i64 0, .slice none 0 0, .int .i64 0, .slice none 0 0]
  rw [← hv] at hbx
  have hbn : Below w.heap.size w w1 := by rw [hv]; exact (Below.alloc (Below.alloc (Below.alloc (Below.refl _ _) (by simp <;> omega) _) (by simp <;> omega) _) (by simp <;> omega) _)
  replace M := Lib.hid (And.intro hbx.2.2 (And.intro hbx.2.1 (And.intro hbx.1 (Goes.go M.out hbn))))
  clear hbx hbn
  clear hv
  have y0 := (M.out.2.2.1).d8; have p0_0 := y0.1; have p0_1 := y0.2.1; have p0_2 := y0.2.2.1; have p0_3 := y0.2.2.2.1; have p0_4 := y0.2.2.2.2.1; have p0_5 := y0.2.2.2.2.2.1; have p0_6 := y0.2.2.2.2.2.2.1; have p0_7 := y0.2.2.2.2.2.2.2; clear y0
  have y1 := (M.out.2.1).d8; have p1_0 := y1.1; have p1_1 := y1.2.1; have p1_2 := y1.2.2.1; have p1_3 := y1.2.2.2.1; have p1_4 := y1.2.2.2.2.1; have p1_5 := y1.2.2.2.2.2.1; have p1_6 := y1.2.2.2.2.2.2.1; have p1_7 := y1.2.2.2.2.2.2.2; clear y1
  go_wp2_with fail
  clear p0_0 p0_1 p0_2 p0_3 p0_4 p0_5 p0_6 p0_7 p1_0 p1_1 p1_2 p1_3 p1_4 p1_5 p1_6 p1_7
  obtain ⟨q9, eq9⟩ : ∃ v_ : Rat, v_ = (maxQ p r) := ⟨_, rfl⟩
  obtain ⟨q10, eq10⟩ : ∃ v_ : Rat, v_ = (maxQ q s) := ⟨_, rfl⟩
  refine (spMax_q (G := G) (p := p) (q := q) (r := r) (s := s) (Nat.le_trans hG (M.out.2.2.2).size) (H1.out.keep (M.out.2.2.2)) (H2.out.keep (M.out.2.2.2)) (H3.out.keep (M.out.2.2.2)) (H4.out.keep (M.out.2.2.2)) (Fz.mono HP.out (by omega)) (Fz.mono HQ.out (by omega)) (Fz.mono HR.out (by omega)) (Fz.mono HS.out (by omega)) HAA.out HBB.out).mono ?_
  rintro e w2 ⟨x_1, x_2, x_3, x_4, x_5, x_6, x_7, x_8, rfl, hd11, hd12, hb⟩
  rw [← eq9] at hd11
  have Sq9 : Hid (Fz q9 17179869184) := by show Fz q9 17179869184; rw [eq9]; exact (Fz.maxQ HP.out HR.out)
  have Eq9 := Lib.hid eq9; clear eq9
  rw [← eq10] at hd12
  have Sq10 : Hid (Fz q10 17179869184) := by show Fz q10 17179869184; rw [eq10]; exact (Fz.maxQ HQ.out HS.out)
  have Eq10 := Lib.hid eq10; clear eq10
  replace M := Lib.hid (And.intro hd11 (And.intro hd12 (Goes.go M.out hb)))
  clear hb hd11 hd12
  have ys_x_1 := TQ.st (M.out.1); have st_x_1 := ys_x_1.1; have st_x_2 := ys_x_1.2.1; have st_x_3 := ys_x_1.2.2.1; have st_x_4 := ys_x_1.2.2.2; clear ys_x_1
  have ys_x_5 := TQ.st (M.out.2.1); have st_x_5 := ys_x_5.1; have st_x_6 := ys_x_5.2.1; have st_x_7 := ys_x_5.2.2.1; have st_x_8 := ys_x_5.2.2.2; clear ys_x_5
  go_upto_region 18 with fail
  clear st_x_1 st_x_2 st_x_3 st_x_4 st_x_5 st_x_6 st_x_7 st_x_8
  obtain ⟨w3, hv⟩ : ∃ w_ : World, w_ = (w2.alloc (.cells #[x_1, x_2, x_3, x_4, x_5, x_6, x_7, x_8] 28)) := ⟨_, rfl⟩
  rw [← hv]
  have ow3_ : w.heap.size + 1 + 1 < w2.heap.size := ((M.out.2.2.1)).lt
  replace M := Lib.hid (And.intro (hv ▸ bx1 w2 28 #[x_1, x_2, x_3, x_4, x_5, x_6, x_7, x_8]) (Goes.go M.out (hv ▸ below_alloc _ _ : Below w2.heap.size w2 w3)))
  clear hv
  have y3 := (M.out.1).d8; have p3_0 := y3.1; have p3_1 := y3.2.1; have p3_2 := y3.2.2.1; have p3_3 := y3.2.2.2.1; have p3_4 := y3.2.2.2.2.1; have p3_5 := y3.2.2.2.2.2.1; have p3_6 := y3.2.2.2.2.2.2.1; have p3_7 := y3.2.2.2.2.2.2.2; clear y3
  have y2 := (M.out.2.2.2.1).c8; have p2_0 := y2.1; have q2_0 := y2.2.1; have p2_1 := y2.2.2.1; have q2_1 := y2.2.2.2.1; have p2_2 := y2.2.2.2.2.1; have q2_2 := y2.2.2.2.2.2.1; have p2_3 := y2.2.2.2.2.2.2.1; have q2_3 := y2.2.2.2.2.2.2.2.1; have p2_4 := y2.2.2.2.2.2.2.2.2.1; have q2_4 := y2.2.2.2.2.2.2.2.2.2.1; have p2_5 := y2.2.2.2.2.2.2.2.2.2.2.1; have q2_5 := y2.2.2.2.2.2.2.2.2.2.2.2.1; have p2_6 := y2.2.2.2.2.2.2.2.2.2.2.2.2.1; have q2_6 := y2.2.2.2.2.2.2.2.2.2.2.2.2.2.1; have p2_7 := y2.2.2.2.2.2.2.2.2.2.2.2.2.2.2.1; have q2_7 := y2.2.2.2.2.2.2.2.2.2.2.2.2.2.2.2; clear y2
  have ys_x_1 := TQ.st (M.out.2.1); have st_x_1 := ys_x_1.1; have st_x_2 := ys_x_1.2.1; have st_x_3 := ys_x_1.2.2.1; have st_x_4 := ys_x_1.2.2.2; clear ys_x_1
  have ys_x_5 := TQ.st (M.out.2.2.1); have st_x_5 := ys_x_5.1; have st_x_6 := ys_x_5.2.1; have st_x_7 := ys_x_5.2.2.1; have st_x_8 := ys_x_5.2.2.2; clear ys_x_5
  go_wp2_with fail
  clear p3_0 p3_1 p3_2 p3_3 p3_4 p3_5 p3_6 p3_7 p2_0 q2_0 p2_1 q2_1 p2_2 q2_2 p2_3 q2_3 p2_4 q2_4 p2_5 q2_5 p2_6 q2_6 p2_7 q2_7 st_x_1 st_x_2 st_x_3 st_x_4 st_x_5 st_x_6 st_x_7 st_x_8
  obtain ⟨w4, hv⟩ : ∃ w_ : World, w_ = ((((((((w3.setCell ⟨w.heap.size + 1 + 1, 0, none⟩ (x_1)).setCell ⟨w.heap.size + 1 + 1, 1, none⟩ (x_2)).setCell ⟨w.heap.size + 1 + 1, 2, none⟩ (x_3)).setCell ⟨w.heap.size + 1 + 1, 3, none⟩ (x_4)).setCell ⟨w.heap.size + 1 + 1, 4, none⟩ (x_5)).setCell ⟨w.heap.size + 1 + 1, 5, none⟩ (x_6)).setCell ⟨w.heap.size + 1 + 1, 6, none⟩ (x_7)).setCell ⟨w.heap.size + 1 + 1, 7, none⟩ (x_8)) := ⟨_, rfl⟩
  rw [← hv]
  have og : w3.grownBy w4 (some (w.heap.size + 1 + 1)) := by rw [hv]; exact (only_setCell (only_setCell (only_setCell (only_setCell (only_setCell (only_setCell (only_setCell (only_setCell (World.grownBy.refl _ _) _) _) _) _) _) _) _) _)
  have hz : w.heap.size ≤ w.heap.size + 1 + 1 := by omega
  have hk : Bx w4 (w.heap.size + 1 + 1) 28 #[x_1, x_2, x_3, x_4, x_5, x_6, x_7, x_8] := by rw [hv]; exact (((((((((M.out.2.2.2.1).set 0 _).set 1 _).set 2 _).set 3 _).set 4 _).set 5 _).set 6 _).set 7 _)
  have hbw : Below w.heap.size w w4 := by rw [hv]; exact (Below.setCell (Below.setCell (Below.setCell (Below.setCell (Below.setCell (Below.setCell (Below.setCell (Below.setCell (M.out.2.2.2.2.2.2) (by omega) _) (by omega) _) (by omega) _) (by omega) _) (by omega) _) (by omega) _) (by omega) _) (by omega) _)
  replace M := Lib.hid (And.intro ((M.out.1).only og (by omega)) (And.intro ((M.out.2.1).far (M.out.2.2.2.1) (by rfl) (by omega) og) (And.intro ((M.out.2.2.1).far (M.out.2.2.2.1) (by rfl) (by omega) og) (And.intro hk (And.intro ((M.out.2.2.2.2.1).only og (by omega)) (And.intro ((M.out.2.2.2.2.2.1).only og (by omega)) hbw))))))
  clear hk hbw og hv hz
  refine bodyPost_ret (results_box2 rfl _ _ (w.heap.size + 1 + 1) 28 _ _ _ rfl (M.out.2.2.2.1) Try.underlying28 rfl (by kernel_rfl)) rfl ?_
  exact ⟨x_1, x_2, x_3, x_4, x_5, x_6, x_7, x_8, rfl, (by have h_ := (M.out.2.1); rw [Eq9.out] at h_; rw [HLO.out] at h_; exact h_), (by have h_ := (M.out.2.2.1); rw [Eq10.out] at h_; rw [HHI.out] at h_; exact h_), (M.out.2.2.2.2.2.2)⟩
theorem play_some {k : Nat} {u0 u1 u2 u3 u4 u5 u6 u7 v0 v1 v2 v3 v4 v5 v6 v7 : Value} {p q r s : Rat} {lo hi : Rat} {i : Int} {w : World} (hG : G ≤ w.heap.size) (h1 : FQ G w u0 u1 u2 u3 p) (h2 : FQ G w u4 u5 u6 u7 q) (h3 : FQ G w v0 v1 v2 v3 r) (h4 : FQ G w v4 v5 v6 v7 s) (hp : Fz p 17179869184) (hq : Fz q 17179869184) (hr : Fz r 17179869184) (hs : Fz s 17179869184) (ha : p ≤ q) (hb : r ≤ s) (hk : k < 6) (hi_ : (k : Int) = i) (ho : opS k ⟨p, q⟩ ⟨r, s⟩ = some ⟨lo, hi⟩) :
    Calls Try.prog 11 #[.int .i64 i, .agg #[u0, u1, u2, u3, u4, u5, u6, u7], .agg #[v0, v1, v2, v3, v4, v5, v6, v7]] w fun e w' => ∃ x0 x1 x2 x3 x4 x5 x6 x7, e = .returned (.tuple #[.agg #[x0, x1, x2, x3, x4, x5, x6, x7], .int .i64 0]) ∧ FQ G w' x0 x1 x2 x3 lo ∧ FQ G w' x4 x5 x6 x7 hi ∧ Below w.heap.size w w' := by
  subst hi_
  match k, ho with
  | 0, ho => cases ho; exact play_0 hG h1 h2 h3 h4 hp hq hr hs ha hb rfl rfl
  | 1, ho => cases ho; exact play_1 hG h1 h2 h3 h4 hp hq hr hs ha hb (Rat.sub_eq_add_neg _ _) (Rat.sub_eq_add_neg _ _)
  | 2, ho => cases ho; exact play_2 hG h1 h2 h3 h4 hp hq hr hs ha hb rfl rfl
  | 3, ho =>
    obtain ⟨h0, ho⟩ := divS_some ho
    cases ho; exact play_3 hG h1 h2 h3 h4 hp hq hr hs ha hb h0 rfl rfl
  | 4, ho => cases ho; exact play_4 hG h1 h2 h3 h4 hp hq hr hs ha hb rfl rfl
  | 5, ho => cases ho; exact play_5 hG h1 h2 h3 h4 hp hq hr hs ha hb rfl rfl
  | k + 6, _ => omega
end Go.Proofs.Ytjbfngjlepafgaa
namespace Go.Proofs.Ytjbfngjlepafgaa
open Go.RowKit Go.Lib
variable {G : Nat}

theorem op_le {k : Nat} {p q r s lo hi : Rat} (ha : p ≤ q) (hb : r ≤ s) (h : opS k ⟨p, q⟩ ⟨r, s⟩ = some ⟨lo, hi⟩) : lo ≤ hi := op_ok (a := ⟨p, q⟩) (b := ⟨r, s⟩) ha hb h
set_option maxRecDepth 100000 in
set_option maxHeartbeats 4000000 in
theorem turns_ok {u0 u1 u2 u3 u4 u5 u6 u7 v0 v1 v2 v3 v4 v5 v6 v7 y0 y1 y2 y3 y4 y5 y6 y7 : Value} {k : Nat} {i : Int} {p q r s t u xl xh zl zh ll lh : Rat} {w : World} (hG : G ≤ w.heap.size) (h1 : FQ G w u0 u1 u2 u3 p) (h2 : FQ G w u4 u5 u6 u7 q) (h3 : FQ G w v0 v1 v2 v3 r) (h4 : FQ G w v4 v5 v6 v7 s) (hp : Fz p 4) (hq : Fz q 4) (hr : Fz r 4) (hs : Fz s 4) (h5 : FQ G w y0 y1 y2 y3 t) (h6 : FQ G w y4 y5 y6 y7 u) (ht : Fz t 4) (hu : Fz u 4) (ha : p ≤ q) (hb : r ≤ s) (hc : t ≤ u) (hk : k < 6) (hi : (k : Int) = i) (ho1 : opS k ⟨p, q⟩ ⟨r, s⟩ = some ⟨xl, xh⟩) (ho2 : opS k ⟨r, s⟩ ⟨p, q⟩ = some ⟨xl, xh⟩) (ho3 : opS k ⟨r, s⟩ ⟨t, u⟩ = some ⟨zl, zh⟩) (ho4 : opS k ⟨xl, xh⟩ ⟨t, u⟩ = some ⟨ll, lh⟩) (ho5 : opS k ⟨p, q⟩ ⟨zl, zh⟩ = some ⟨ll, lh⟩)  :
    Calls Try.prog 17 #[.int .i64 i, .agg #[u0, u1, u2, u3, u4, u5, u6, u7], .agg #[v0, v1, v2, v3, v4, v5, v6, v7], .agg #[y0, y1, y2, y3, y4, y5, y6, y7]] w fun e w' => e = .returned (.bool true) ∧ Below w.heap.size w w' := by
  have HXS := Lib.hid (op_size hp hq hr hs ho1); have HZS := Lib.hid (op_size hr hs ht hu ho3); have HLS := Lib.hid (op_size HXS.out.1 HXS.out.2 ht hu ho4)
  have HP := Lib.hid hp; have HQ := Lib.hid hq; have HR := Lib.hid hr; have HS := Lib.hid hs; have HT := Lib.hid ht; have HU := Lib.hid hu
  have HPQ := Lib.hid ha; have HRS := Lib.hid hb; have HTU := Lib.hid hc; have HK := Lib.hid hk; have HI := Lib.hid hi
  have HO1 := Lib.hid ho1; have HO2 := Lib.hid ho2; have HO3 := Lib.hid ho3; have HO4 := Lib.hid ho4; have HO5 := Lib.hid ho5
  clear hp hq hr hs ht hu ha hb hc hk hi ho1 ho2 ho3 ho4 ho5
  have H1 : Hid (FQ G w u0 u1 u2 u3 p) := h1
  have H2 : Hid (FQ G w u4 u5 u6 u7 q) := h2
  have H3 : Hid (FQ G w v0 v1 v2 v3 r) := h3
  have H4 : Hid (FQ G w v4 v5 v6 v7 s) := h4
  have H5 : Hid (FQ G w y0 y1 y2 y3 t) := h5
  have H6 : Hid (FQ G w y4 y5 y6 y7 u) := h6
  clear h1 h2 h3 h4 h5 h6
  have M : Hid (Below w.heap.size w w) := Below.refl _ _
  go_enter Try.func17, Try.ntmps17
  go_upto_region 1 with fail
  obtain ⟨w1, hv⟩ : ∃ w_ : World, w_ = (((w.alloc (.cells #[u0, u1, u2, u3, u4, u5, u6, u7] 28)).alloc (.cells #[v0, v1, v2, v3, v4, v5, v6, v7] 28)).alloc (.cells #[y0, y1, y2, y3, y4, y5, y6, y7] 28)) := ⟨_, rfl⟩
  rw [← hv]
  have hbx := bx3 w 28 28 28 #[u0, u1, u2, u3, u4, u5, u6, u7] #[v0, v1, v2, v3, v4, v5, v6, v7] #[y0, y1, y2, y3, y4, y5, y6, y7]
  rw [← hv] at hbx
  have hbn : Below w.heap.size w w1 := by rw [hv]; exact (Below.alloc (Below.alloc (Below.alloc (Below.refl _ _) (by simp <;> omega) _) (by simp <;> omega) _) (by simp <;> omega) _)
  replace M := Lib.hid (And.intro hbx.2.2 (And.intro hbx.2.1 (And.intro hbx.1 (Goes.go M.out hbn))))
  clear hbx hbn
  clear hv
  have y0 := (M.out.2.2.1).d8; have p0_0 := y0.1; have p0_1 := y0.2.1; have p0_2 := y0.2.2.1; have p0_3 := y0.2.2.2.1; have p0_4 := y0.2.2.2.2.1; have p0_5 := y0.2.2.2.2.2.1; have p0_6 := y0.2.2.2.2.2.2.1; have p0_7 := y0.2.2.2.2.2.2.2; clear y0
  have y1 := (M.out.2.1).d8; have p1_0 := y1.1; have p1_1 := y1.2.1; have p1_2 := y1.2.2.1; have p1_3 := y1.2.2.2.1; have p1_4 := y1.2.2.2.2.1; have p1_5 := y1.2.2.2.2.2.1; have p1_6 := y1.2.2.2.2.2.2.1; have p1_7 := y1.2.2.2.2.2.2.2; clear y1
  go_wp2_with fail
  clear p0_0 p0_1 p0_2 p0_3 p0_4 p0_5 p0_6 p0_7 p1_0 p1_1 p1_2 p1_3 p1_4 p1_5 p1_6 p1_7
  refine (play_some (G := G) (p := p) (q := q) (r := r) (s := s) (lo := xl) (hi := xh) (i := i) (Nat.le_trans hG (M.out.2.2.2).size) (H1.out.keep (M.out.2.2.2)) (H2.out.keep (M.out.2.2.2)) (H3.out.keep (M.out.2.2.2)) (H4.out.keep (M.out.2.2.2)) (Fz.mono HP.out (by omega)) (Fz.mono HQ.out (by omega)) (Fz.mono HR.out (by omega)) (Fz.mono HS.out (by omega)) HPQ.out HRS.out HK.out HI.out HO1.out).mono ?_
  rintro e w2 ⟨x_1, x_2, x_3, x_4, x_5, x_6, x_7, x_8, rfl, hd9, hd10, hb⟩
  replace M := Lib.hid (And.intro hd9 (And.intro hd10 (Goes.go M.out hb)))
  clear hb hd9 hd10
  have ys_x_1 := TQ.st (M.out.1); have st_x_1 := ys_x_1.1; have st_x_2 := ys_x_1.2.1; have st_x_3 := ys_x_1.2.2.1; have st_x_4 := ys_x_1.2.2.2; clear ys_x_1
  have ys_x_5 := TQ.st (M.out.2.1); have st_x_5 := ys_x_5.1; have st_x_6 := ys_x_5.2.1; have st_x_7 := ys_x_5.2.2.1; have st_x_8 := ys_x_5.2.2.2; clear ys_x_5
  go_upto_region 2 with fail
  clear st_x_1 st_x_2 st_x_3 st_x_4 st_x_5 st_x_6 st_x_7 st_x_8
  obtain ⟨w3, hv⟩ : ∃ w_ : World, w_ = (w2.alloc (.cells #[x_1, x_2, x_3, x_4, x_5, x_6, x_7, x_8] 28)) := ⟨_, rfl⟩
  rw [← hv]
  have ow3_ : w.heap.size + 1 + 1 < w2.heap.size := ((M.out.2.2.1)).lt
  replace M := Lib.hid (And.intro (hv ▸ bx1 w2 28 #[x_1, x_2, x_3, x_4, x_5, x_6, x_7, x_8]) (Goes.go M.out (hv ▸ below_alloc _ _ : Below w2.heap.size w2 w3)))
  clear hv
  have y1 := (M.out.2.2.2.2.1).d8; have p1_0 := y1.1; have p1_1 := y1.2.1; have p1_2 := y1.2.2.1; have p1_3 := y1.2.2.2.1; have p1_4 := y1.2.2.2.2.1; have p1_5 := y1.2.2.2.2.2.1; have p1_6 := y1.2.2.2.2.2.2.1; have p1_7 := y1.2.2.2.2.2.2.2; clear y1
  have y0 := (M.out.2.2.2.2.2.1).d8; have p0_0 := y0.1; have p0_1 := y0.2.1; have p0_2 := y0.2.2.1; have p0_3 := y0.2.2.2.1; have p0_4 := y0.2.2.2.2.1; have p0_5 := y0.2.2.2.2.2.1; have p0_6 := y0.2.2.2.2.2.2.1; have p0_7 := y0.2.2.2.2.2.2.2; clear y0
  go_wp2_with fail
  clear p1_0 p1_1 p1_2 p1_3 p1_4 p1_5 p1_6 p1_7 p0_0 p0_1 p0_2 p0_3 p0_4 p0_5 p0_6 p0_7
  refine (play_some (G := G) (p := r) (q := s) (r := p) (s := q) (lo := xl) (hi := xh) (i := i) (Nat.le_trans hG (M.out.2.2.2.2.2.2).size) (H3.out.keep (M.out.2.2.2.2.2.2)) (H4.out.keep (M.out.2.2.2.2.2.2)) (H1.out.keep (M.out.2.2.2.2.2.2)) (H2.out.keep (M.out.2.2.2.2.2.2)) (Fz.mono HR.out (by omega)) (Fz.mono HS.out (by omega)) (Fz.mono HP.out (by omega)) (Fz.mono HQ.out (by omega)) HRS.out HPQ.out HK.out HI.out HO2.out).mono ?_
  rintro e w4 ⟨x_11, x_12, x_13, x_14, x_15, x_16, x_17, x_18, rfl, hd19, hd20, hb⟩
  replace M := Lib.hid (And.intro hd19 (And.intro hd20 (Goes.go M.out hb)))
  clear hb hd19 hd20
  have ys_x_11 := TQ.st (M.out.1); have st_x_11 := ys_x_11.1; have st_x_12 := ys_x_11.2.1; have st_x_13 := ys_x_11.2.2.1; have st_x_14 := ys_x_11.2.2.2; clear ys_x_11
  have ys_x_15 := TQ.st (M.out.2.1); have st_x_15 := ys_x_15.1; have st_x_16 := ys_x_15.2.1; have st_x_17 := ys_x_15.2.2.1; have st_x_18 := ys_x_15.2.2.2; clear ys_x_15
  go_upto_region 3 with fail
  clear st_x_11 st_x_12 st_x_13 st_x_14 st_x_15 st_x_16 st_x_17 st_x_18
  obtain ⟨w5, hv⟩ : ∃ w_ : World, w_ = (w4.alloc (.cells #[x_11, x_12, x_13, x_14, x_15, x_16, x_17, x_18] 28)) := ⟨_, rfl⟩
  rw [← hv]
  have ow4_ : w2.heap.size < w4.heap.size := ((M.out.2.2.1)).lt
  replace M := Lib.hid (And.intro (hv ▸ bx1 w4 28 #[x_11, x_12, x_13, x_14, x_15, x_16, x_17, x_18]) (Goes.go M.out (hv ▸ below_alloc _ _ : Below w4.heap.size w4 w5)))
  clear hv
  have y1 := (M.out.2.2.2.2.2.2.2.1).d8; have p1_0 := y1.1; have p1_1 := y1.2.1; have p1_2 := y1.2.2.1; have p1_3 := y1.2.2.2.1; have p1_4 := y1.2.2.2.2.1; have p1_5 := y1.2.2.2.2.2.1; have p1_6 := y1.2.2.2.2.2.2.1; have p1_7 := y1.2.2.2.2.2.2.2; clear y1
  have y2 := (M.out.2.2.2.2.2.2.1).d8; have p2_0 := y2.1; have p2_1 := y2.2.1; have p2_2 := y2.2.2.1; have p2_3 := y2.2.2.2.1; have p2_4 := y2.2.2.2.2.1; have p2_5 := y2.2.2.2.2.2.1; have p2_6 := y2.2.2.2.2.2.2.1; have p2_7 := y2.2.2.2.2.2.2.2; clear y2
  go_wp2_with fail
  clear p1_0 p1_1 p1_2 p1_3 p1_4 p1_5 p1_6 p1_7 p2_0 p2_1 p2_2 p2_3 p2_4 p2_5 p2_6 p2_7
  refine (play_some (G := G) (p := r) (q := s) (r := t) (s := u) (lo := zl) (hi := zh) (i := i) (Nat.le_trans hG (M.out.2.2.2.2.2.2.2.2.2).size) (H3.out.keep (M.out.2.2.2.2.2.2.2.2.2)) (H4.out.keep (M.out.2.2.2.2.2.2.2.2.2)) (H5.out.keep (M.out.2.2.2.2.2.2.2.2.2)) (H6.out.keep (M.out.2.2.2.2.2.2.2.2.2)) (Fz.mono HR.out (by omega)) (Fz.mono HS.out (by omega)) (Fz.mono HT.out (by omega)) (Fz.mono HU.out (by omega)) HRS.out HTU.out HK.out HI.out HO3.out).mono ?_
  rintro e w6 ⟨x_21, x_22, x_23, x_24, x_25, x_26, x_27, x_28, rfl, hd29, hd30, hb⟩
  replace M := Lib.hid (And.intro hd29 (And.intro hd30 (Goes.go M.out hb)))
  clear hb hd29 hd30
  have ys_x_21 := TQ.st (M.out.1); have st_x_21 := ys_x_21.1; have st_x_22 := ys_x_21.2.1; have st_x_23 := ys_x_21.2.2.1; have st_x_24 := ys_x_21.2.2.2; clear ys_x_21
  have ys_x_25 := TQ.st (M.out.2.1); have st_x_25 := ys_x_25.1; have st_x_26 := ys_x_25.2.1; have st_x_27 := ys_x_25.2.2.1; have st_x_28 := ys_x_25.2.2.2; clear ys_x_25
  go_upto_region 4 with fail
  clear st_x_21 st_x_22 st_x_23 st_x_24 st_x_25 st_x_26 st_x_27 st_x_28
  obtain ⟨w7, hv⟩ : ∃ w_ : World, w_ = (w6.alloc (.cells #[x_21, x_22, x_23, x_24, x_25, x_26, x_27, x_28] 28)) := ⟨_, rfl⟩
  rw [← hv]
  have ow5_ : w4.heap.size < w6.heap.size := ((M.out.2.2.1)).lt
  replace M := Lib.hid (And.intro (hv ▸ bx1 w6 28 #[x_21, x_22, x_23, x_24, x_25, x_26, x_27, x_28]) (Goes.go M.out (hv ▸ below_alloc _ _ : Below w6.heap.size w6 w7)))
  clear hv
  have y3 := (M.out.2.2.2.2.2.2.1).d8; have p3_0 := y3.1; have p3_1 := y3.2.1; have p3_2 := y3.2.2.1; have p3_3 := y3.2.2.2.1; have p3_4 := y3.2.2.2.2.1; have p3_5 := y3.2.2.2.2.2.1; have p3_6 := y3.2.2.2.2.2.2.1; have p3_7 := y3.2.2.2.2.2.2.2; clear y3
  have y2 := (M.out.2.2.2.2.2.2.2.2.2.1).d8; have p2_0 := y2.1; have p2_1 := y2.2.1; have p2_2 := y2.2.2.1; have p2_3 := y2.2.2.2.1; have p2_4 := y2.2.2.2.2.1; have p2_5 := y2.2.2.2.2.2.1; have p2_6 := y2.2.2.2.2.2.2.1; have p2_7 := y2.2.2.2.2.2.2.2; clear y2
  go_wp2_with fail
  clear p3_0 p3_1 p3_2 p3_3 p3_4 p3_5 p3_6 p3_7 p2_0 p2_1 p2_2 p2_3 p2_4 p2_5 p2_6 p2_7
  refine (play_some (G := G) (p := xl) (q := xh) (r := t) (s := u) (lo := ll) (hi := lh) (i := i) (Nat.le_trans hG (M.out.2.2.2.2.2.2.2.2.2.2.2.2).size) (M.out.2.2.2.2.2.2.2.1) (M.out.2.2.2.2.2.2.2.2.1) (H5.out.keep (M.out.2.2.2.2.2.2.2.2.2.2.2.2)) (H6.out.keep (M.out.2.2.2.2.2.2.2.2.2.2.2.2)) (Fz.mono HXS.out.1 (by omega)) (Fz.mono HXS.out.2 (by omega)) (Fz.mono HT.out (by omega)) (Fz.mono HU.out (by omega)) (op_le HPQ.out HRS.out HO1.out) HTU.out HK.out HI.out HO4.out).mono ?_
  rintro e w8 ⟨x_31, x_32, x_33, x_34, x_35, x_36, x_37, x_38, rfl, hd39, hd40, hb⟩
  replace M := Lib.hid (And.intro hd39 (And.intro hd40 (Goes.go M.out hb)))
  clear hb hd39 hd40
  have ys_x_31 := TQ.st (M.out.1); have st_x_31 := ys_x_31.1; have st_x_32 := ys_x_31.2.1; have st_x_33 := ys_x_31.2.2.1; have st_x_34 := ys_x_31.2.2.2; clear ys_x_31
  have ys_x_35 := TQ.st (M.out.2.1); have st_x_35 := ys_x_35.1; have st_x_36 := ys_x_35.2.1; have st_x_37 := ys_x_35.2.2.1; have st_x_38 := ys_x_35.2.2.2; clear ys_x_35
  go_upto_region 5 with fail
  clear st_x_31 st_x_32 st_x_33 st_x_34 st_x_35 st_x_36 st_x_37 st_x_38
  obtain ⟨w9, hv⟩ : ∃ w_ : World, w_ = (w8.alloc (.cells #[x_31, x_32, x_33, x_34, x_35, x_36, x_37, x_38] 28)) := ⟨_, rfl⟩
  rw [← hv]
  have ow6_ : w6.heap.size < w8.heap.size := ((M.out.2.2.1)).lt
  replace M := Lib.hid (And.intro (hv ▸ bx1 w8 28 #[x_31, x_32, x_33, x_34, x_35, x_36, x_37, x_38]) (Goes.go M.out (hv ▸ below_alloc _ _ : Below w8.heap.size w8 w9)))
  clear hv
  have y0 := (M.out.2.2.2.2.2.2.2.2.2.2.2.2.2.2.1).d8; have p0_0 := y0.1; have p0_1 := y0.2.1; have p0_2 := y0.2.2.1; have p0_3 := y0.2.2.2.1; have p0_4 := y0.2.2.2.2.1; have p0_5 := y0.2.2.2.2.2.1; have p0_6 := y0.2.2.2.2.2.2.1; have p0_7 := y0.2.2.2.2.2.2.2; clear y0
  have y5 := (M.out.2.2.2.1).d8; have p5_0 := y5.1; have p5_1 := y5.2.1; have p5_2 := y5.2.2.1; have p5_3 := y5.2.2.2.1; have p5_4 := y5.2.2.2.2.1; have p5_5 := y5.2.2.2.2.2.1; have p5_6 := y5.2.2.2.2.2.2.1; have p5_7 := y5.2.2.2.2.2.2.2; clear y5
  go_wp2_with fail
  clear p0_0 p0_1 p0_2 p0_3 p0_4 p0_5 p0_6 p0_7 p5_0 p5_1 p5_2 p5_3 p5_4 p5_5 p5_6 p5_7
  refine (play_some (G := G) (p := p) (q := q) (r := zl) (s := zh) (lo := ll) (hi := lh) (i := i) (Nat.le_trans hG (M.out.2.2.2.2.2.2.2.2.2.2.2.2.2.2.2).size) (H1.out.keep (M.out.2.2.2.2.2.2.2.2.2.2.2.2.2.2.2)) (H2.out.keep (M.out.2.2.2.2.2.2.2.2.2.2.2.2.2.2.2)) (M.out.2.2.2.2.1) (M.out.2.2.2.2.2.1) (Fz.mono HP.out (by omega)) (Fz.mono HQ.out (by omega)) (Fz.mono HZS.out.1 (by omega)) (Fz.mono HZS.out.2 (by omega)) HPQ.out (op_le HRS.out HTU.out HO3.out) HK.out HI.out HO5.out).mono ?_
  rintro e w10 ⟨x_41, x_42, x_43, x_44, x_45, x_46, x_47, x_48, rfl, hd49, hd50, hb⟩
  replace M := Lib.hid (And.intro hd49 (And.intro hd50 (Goes.go M.out hb)))
  clear hb hd49 hd50
  have ys_x_41 := TQ.st (M.out.1); have st_x_41 := ys_x_41.1; have st_x_42 := ys_x_41.2.1; have st_x_43 := ys_x_41.2.2.1; have st_x_44 := ys_x_41.2.2.2; clear ys_x_41
  have ys_x_45 := TQ.st (M.out.2.1); have st_x_45 := ys_x_45.1; have st_x_46 := ys_x_45.2.1; have st_x_47 := ys_x_45.2.2.1; have st_x_48 := ys_x_45.2.2.2; clear ys_x_45
  go_upto_region 6 with fail
  clear st_x_41 st_x_42 st_x_43 st_x_44 st_x_45 st_x_46 st_x_47 st_x_48
  obtain ⟨w11, hv⟩ : ∃ w_ : World, w_ = (w10.alloc (.cells #[x_41, x_42, x_43, x_44, x_45, x_46, x_47, x_48] 28)) := ⟨_, rfl⟩
  rw [← hv]
  have ow7_ : w8.heap.size < w10.heap.size := ((M.out.2.2.1)).lt
  replace M := Lib.hid (And.intro (hv ▸ bx1 w10 28 #[x_41, x_42, x_43, x_44, x_45, x_46, x_47, x_48]) (Goes.go M.out (hv ▸ below_alloc _ _ : Below w10.heap.size w10 w11)))
  clear hv
  have y3 := (M.out.2.2.2.2.2.2.2.2.2.2.2.2.1).d8; have p3_0 := y3.1; have p3_1 := y3.2.1; have p3_2 := y3.2.2.1; have p3_3 := y3.2.2.2.1; have p3_4 := y3.2.2.2.2.1; have p3_5 := y3.2.2.2.2.2.1; have p3_6 := y3.2.2.2.2.2.2.1; have p3_7 := y3.2.2.2.2.2.2.2; clear y3
  have y4 := (M.out.2.2.2.2.2.2.2.2.2.1).d8; have p4_0 := y4.1; have p4_1 := y4.2.1; have p4_2 := y4.2.2.1; have p4_3 := y4.2.2.2.1; have p4_4 := y4.2.2.2.2.1; have p4_5 := y4.2.2.2.2.2.1; have p4_6 := y4.2.2.2.2.2.2.1; have p4_7 := y4.2.2.2.2.2.2.2; clear y4
  go_wp2_with fail
  clear p3_0 p3_1 p3_2 p3_3 p3_4 p3_5 p3_6 p3_7 p4_0 p4_1 p4_2 p4_3 p4_4 p4_5 p4_6 p4_7
  refine (spSame_q (G := G) (p := xl) (q := xh) (r := xl) (s := xh) (M.out.2.2.2.2.2.2.2.2.2.2.2.2.2.1) (M.out.2.2.2.2.2.2.2.2.2.2.2.2.2.2.1) (M.out.2.2.2.2.2.2.2.2.2.2.1) (M.out.2.2.2.2.2.2.2.2.2.2.2.1) (Fz.mono HXS.out.1 (by omega)) (Fz.mono HXS.out.2 (by omega)) rfl rfl).mono ?_
  rintro e w12 ⟨rfl, hb⟩
  replace M := Lib.hid (Goes.go M.out hb)
  clear hb
  have y6 := (M.out.2.2.2.1).d8; have p6_0 := y6.1; have p6_1 := y6.2.1; have p6_2 := y6.2.2.1; have p6_3 := y6.2.2.2.1; have p6_4 := y6.2.2.2.2.1; have p6_5 := y6.2.2.2.2.2.1; have p6_6 := y6.2.2.2.2.2.2.1; have p6_7 := y6.2.2.2.2.2.2.2; clear y6
  have y7 := (M.out.1).d8; have p7_0 := y7.1; have p7_1 := y7.2.1; have p7_2 := y7.2.2.1; have p7_3 := y7.2.2.2.1; have p7_4 := y7.2.2.2.2.1; have p7_5 := y7.2.2.2.2.2.1; have p7_6 := y7.2.2.2.2.2.2.1; have p7_7 := y7.2.2.2.2.2.2.2; clear y7
  go_wp2_with fail
  clear p6_0 p6_1 p6_2 p6_3 p6_4 p6_5 p6_6 p6_7 p7_0 p7_1 p7_2 p7_3 p7_4 p7_5 p7_6 p7_7
  refine (spSame_q (G := G) (p := ll) (q := lh) (r := ll) (s := lh) (M.out.2.2.2.2.1) (M.out.2.2.2.2.2.1) (M.out.2.1) (M.out.2.2.1) (Fz.mono HLS.out.1 (by omega)) (Fz.mono HLS.out.2 (by omega)) rfl rfl).mono ?_
  rintro e w13 ⟨rfl, hb⟩
  replace M := Lib.hid (Goes.go M.out hb)
  clear hb
  go_wp2_with fail
  go_ret
  exact ⟨rfl, (M.out.2.2.2.2.2.2.2.2.2.2.2.2.2.2.2.2.2.2)⟩
end Go.Proofs.Ytjbfngjlepafgaa
