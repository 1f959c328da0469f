/- Walks: whether a fraction is a result for ends; whether an operation turns; the examples. -/
import Derived.Test.YtjbfngjlepafgaaBase
import Derived.Test.YtjbfngjlepafgaaBigSpec
import Derived.Test.YtjbfngjlepafgaaBigB
import Derived.Test.YtjbfngjlepafgaaBigC
import Derived.Test.YtjbfngjlepafgaaBigD
import Derived.Test.YtjbfngjlepafgaaBigK
import Derived.Test.YtjbfngjlepafgaaBigL
import Derived.Test.YtjbfngjlepafgaaBigQ
import Derived.Test.YtjbfngjlepafgaaFracA
import Derived.Test.YtjbfngjlepafgaaFz
import Derived.Test.YtjbfngjlepafgaaAw
import Derived.Test.YtjbfngjlepafgaaFracD
import Derived.Test.YtjbfngjlepafgaaFracR
import Derived.Test.YtjbfngjlepafgaaRefJ
import Derived.Test.YtjbfngjlepafgaaFq
import Derived.Test.YtjbfngjlepafgaaSpanPlain
import Derived.Test.YtjbfngjlepafgaaSpanB
import Derived.Test.YtjbfngjlepafgaaSpanE
import Derived.Test.YtjbfngjlepafgaaSpanF
import Derived.Test.YtjbfngjlepafgaaProg
import Derived.WalkKit
import Derived.WalkSpells
import Derived.WalkLawsBesides
import Derived.Handy
import Derived.Lib.Hide
import Derived.Lib.Strings
import Derived.Lib.Builder
import Derived.BigQuiet
import Derived.OwnWalk
import Derived.Laws.BitsLemmas
import Derived.WalkSmall
import Derived.Deep.QuietTactic
import Derived.StillTailTactics
import Derived.Maps.AppendAt
import Derived.IntWalk
import Derived.Deep.RegionHeld3
import Derived.Deep.DeepFit
import Derived.Deep.LoopGhost
import Derived.Deep.DeepCutAuto
import Derived.Lib.ItoaNum
import Derived.Lib.Repeat
import Derived.Lib.AppendIntMem
import Derived.Sort.OwnSorted
import Derived.Shelf.Strings.SlTrimAscii
import Derived.Lib.ConvBytes
import Derived.Lib.CutLaws
namespace Go.Proofs.Ytjbfngjlepafgaa
open Go.RowKit Go.Lib
variable {G : Nat}

theorem met_next {P : Nat → Option Rat} {f : Rat} {n : Nat} (h : ∃ j, n ≤ j ∧ j < 4 ∧ P j = some f) (hn : P n ≠ some f) : ∃ j, n + 1 ≤ j ∧ j < 4 ∧ P j = some f := by
  obtain ⟨j, h1, h2, h3⟩ := h
  refine ⟨j, ?_, h2, h3⟩
  rcases Nat.lt_or_ge n j with h4 | h4
  · exact h4
  · have : j = n := by omega
    subst this; exact absurd h3 hn
theorem met_lt {P : Nat → Option Rat} {f : Rat} {n : Nat} (h : ∃ j, n ≤ j ∧ j < 4 ∧ P j = some f) : n = 0 ∨ n = 1 ∨ n = 2 ∨ n = 3 := by
  obtain ⟨j, h1, h2, -⟩ := h; omega
def metP (k : Nat) (p q r s : Rat) (j : Nat) : Option Rat := calcQ k (endA ⟨p, q⟩ j) (endB ⟨r, s⟩ j)
theorem calc_size {k : Nat} {q r z : Rat} (hq : Fz q 8589934592) (hr : Fz r 8589934592) (h : calcQ k q r = some z) : Fz z 137438953472 := by
  match k, h with
  | 0, h => cases h; exact (hq.add hr).mono (by omega)
  | 1, h => cases h; exact (hq.sub hr).mono (by omega)
  | 2, h => cases h; exact (hq.mul hr).mono (by omega)
  | 3, h =>
    have ho' : (if r = 0 then none else some (q / r)) = some z := h
    by_cases h0 : r = 0
    · rw [if_pos h0] at ho'; cases ho'
    · rw [if_neg h0] at ho'; cases ho'; exact (hq.div hr h0).mono (by omega)
  | 4, h => cases h; exact (Fz.minQ hq hr).mono (by omega)
  | _ + 5, h => cases h; exact (Fz.maxQ hq hr).mono (by omega)
set_option maxRecDepth 100000 in
set_option maxHeartbeats 4000000 in
theorem met_ok {u0 u1 u2 u3 u4 u5 u6 u7 v0 v1 v2 v3 v4 v5 v6 v7 y0 y1 y2 y3 : Value} {k : Nat} {i : Int} {p q r s f : Rat} {w : World} (hG : G ≤ w.heap.size) (h1 : FQ G w u0 u1 u2 u3 p) (h2 : FQ G w u4 u5 u6 u7 q) (h3 : FQ G w v0 v1 v2 v3 r) (h4 : FQ G w v4 v5 v6 v7 s) (hp : Fz p 8589934592) (hq : Fz q 8589934592) (hr : Fz r 8589934592) (hs : Fz s 8589934592) (h5 : FQ G w y0 y1 y2 y3 f) (hf : Fz f 8589934592) (hk : k < 6) (hi : (k : Int) = i) (hm : ∃ j, j < 4 ∧ calcQ k (endA ⟨p, q⟩ j) (endB ⟨r, s⟩ j) = some f) :
    Calls Try.prog 30 #[.int .i64 i, .agg #[u0, u1, u2, u3, u4, u5, u6, u7], .agg #[v0, v1, v2, v3, v4, v5, v6, v7], .agg #[y0, y1, y2, y3]] w fun e w' => e = .returned (.bool true) ∧ Below w.heap.size w w' := by
  have HP := Lib.hid hp; have HQ := Lib.hid hq; have HR := Lib.hid hr; have HS := Lib.hid hs; have HF := Lib.hid hf; have HK := Lib.hid hk; have HI := Lib.hid hi; have HM := Lib.hid hm; clear hp hq hr hs hf hk hi hm
  have H1 : Hid (FQ G w u0 u1 u2 u3 p) := h1
  have H2 : Hid (FQ G w u4 u5 u6 u7 q) := h2
  have H3 : Hid (FQ G w v0 v1 v2 v3 r) := h3
  have H4 : Hid (FQ G w v4 v5 v6 v7 s) := h4
  have H5 : Hid (FQ G w y0 y1 y2 y3 f) := h5
  clear h1 h2 h3 h4 h5
  have M : Hid (Below w.heap.size w w) := Below.refl _ _
  go_enter Try.func30, Try.ntmps30
  go_upto_region 1 with fail
  obtain ⟨w1, hv⟩ : ∃ w_ : World, w_ = (((w.alloc (.cells #[u0, u1, u2, u3, u4, u5, u6, u7] 28)).alloc (.cells #[v0, v1, v2, v3, v4, v5, v6, v7] 28)).alloc (.cells #[y0, y1, y2, y3] 26)) := ⟨_, rfl⟩
  rw [← hv]
  have hbx := bx3 w 28 28 26 #[u0, u1, u2, u3, u4, u5, u6, u7] #[v0, v1, v2, v3, v4, v5, v6, v7] #[y0, y1, y2, y3]
  rw [← hv] at hbx
  have hbn : Below w.heap.size w w1 := by rw [hv]; exact (Below.alloc (Below.alloc (Below.alloc (Below.refl _ _) (by simp <;> omega) _) (by simp <;> omega) _) (by simp <;> omega) _)
  replace M := Lib.hid (And.intro hbx.2.2 (And.intro hbx.2.1 (And.intro hbx.1 (Goes.go M.out hbn))))
  clear hbx hbn
  clear hv
  go_wp2_with fail
  go_loopw [9] (fun i9 wr => ∃ (n : Nat), i9 = .int .i64 (n : Int) ∧ Hid (∃ j, n ≤ j ∧ j < 4 ∧ metP k p q r s j = some f) ∧ Hid (Bx wr (w.heap.size + 1 + 1) 26 #[y0, y1, y2, y3] ∧ Bx wr (w.heap.size + 1) 28 #[v0, v1, v2, v3, v4, v5, v6, v7] ∧ Bx wr w.heap.size 28 #[u0, u1, u2, u3, u4, u5, u6, u7] ∧ Below w.heap.size w wr)) (fun i9 _ => 4 - (RowKit.intOf i9).toNat)
  case atStart =>
    exact ⟨0, rfl, (show ∃ j, _ from by obtain ⟨j, h1_, h2_⟩ := HM.out; exact ⟨j, Nat.zero_le _, h1_, h2_⟩), Lib.hid (And.intro (M.out.1) (And.intro (M.out.2.1) (And.intro (M.out.2.2.1) (M.out.2.2.2))))⟩
  case round =>
    obtain ⟨w2, rfl⟩ : ∃ x, x = wr := ⟨_, rfl⟩
    clear M
    obtain ⟨n, rfl, HE, M⟩ := hrel
    rcases met_lt HE.out with rfl | rfl | rfl | rfl
    ·
      have e1_ : (bits BinOp.and IntKind.i64 0 1 == 1) = false := by decide
      have e2_ : (bits BinOp.and IntKind.i64 0 2 == 2) = false := by decide
      have y0 := (M.out.2.2.1).d8; have p0_0 := y0.1; have p0_1 := y0.2.1; have p0_2 := y0.2.2.1; have p0_3 := y0.2.2.2.1; have p0_4 := y0.2.2.2.2.1; have p0_5 := y0.2.2.2.2.2.1; have p0_6 := y0.2.2.2.2.2.2.1; have p0_7 := y0.2.2.2.2.2.2.2; clear y0
      have z0 : w.heap.size < w2.heap.size := (M.out.2.2.1).lt
      have ys_u0 := TQ.st (H1.out.keep (M.out.2.2.2)); have st_u0 := ys_u0.1; have st_u1 := ys_u0.2.1; have st_u2 := ys_u0.2.2.1; have st_u3 := ys_u0.2.2.2; clear ys_u0
      go_upto_region 5 with fail
      clear p0_0 p0_1 p0_2 p0_3 p0_4 p0_5 p0_6 p0_7 z0 st_u0 st_u1 st_u2 st_u3
      obtain ⟨w3, hv⟩ : ∃ w_ : World, w_ = (w2.alloc (.cells #[u0, u1, u2, u3] 26)) := ⟨_, rfl⟩
      rw [← hv]
      have ow3_ : w.heap.size + 1 + 1 < w2.heap.size := ((M.out.1)).lt
      replace M := Lib.hid (And.intro (hv ▸ bx1 w2 26 #[u0, u1, u2, u3]) (Goes.go M.out (hv ▸ below_alloc _ _ : Below w2.heap.size w2 w3)))
      clear hv
      have y1 := (M.out.2.2.1).d8; have p1_0 := y1.1; have p1_1 := y1.2.1; have p1_2 := y1.2.2.1; have p1_3 := y1.2.2.2.1; have p1_4 := y1.2.2.2.2.1; have p1_5 := y1.2.2.2.2.2.1; have p1_6 := y1.2.2.2.2.2.2.1; have p1_7 := y1.2.2.2.2.2.2.2; clear y1
      have z1 : w.heap.size + 1 < w3.heap.size := (M.out.2.2.1).lt
      have ys_v0 := TQ.st (H3.out.keep (M.out.2.2.2.2)); have st_v0 := ys_v0.1; have st_v1 := ys_v0.2.1; have st_v2 := ys_v0.2.2.1; have st_v3 := ys_v0.2.2.2; clear ys_v0
      go_upto_region 6 with fail
      clear p1_0 p1_1 p1_2 p1_3 p1_4 p1_5 p1_6 p1_7 z1 st_v0 st_v1 st_v2 st_v3
      obtain ⟨w4, hv⟩ : ∃ w_ : World, w_ = (w3.alloc (.cells #[v0, v1, v2, v3] 26)) := ⟨_, rfl⟩
      rw [← hv]
      have ow4_ : w2.heap.size < w3.heap.size := ((M.out.1)).lt
      replace M := Lib.hid (And.intro (hv ▸ bx1 w3 26 #[v0, v1, v2, v3]) (Goes.go M.out (hv ▸ below_alloc _ _ : Below w3.heap.size w3 w4)))
      clear hv
      go_upto_region 10 with fail
      rcases ho : calcQ k p r with _ | z
      ·
        have HC := Lib.hid ho; clear ho
        have y3 := (M.out.2.1).d4; have p3_0 := y3.1; have p3_1 := y3.2.1; have p3_2 := y3.2.2.1; have p3_3 := y3.2.2.2; clear y3
        have y4 := (M.out.1).d4; have p4_0 := y4.1; have p4_1 := y4.2.1; have p4_2 := y4.2.2.1; have p4_3 := y4.2.2.2; clear y4
        go_wp2_with fail
        clear p3_0 p3_1 p3_2 p3_3 p4_0 p4_1 p4_2 p4_3
        refine (calc_nil (G := G) (q := p) (r := r) (i := i) (Nat.le_trans hG (M.out.2.2.2.2.2).size) (H1.out.keep (M.out.2.2.2.2.2)) (H3.out.keep (M.out.2.2.2.2.2)) (Fz.mono HP.out (by omega)) (Fz.mono HR.out (by omega)) HI.out HC.out).mono ?_
        rintro e w5 ⟨x_1, x_2, x_3, x_4, rfl, hd5, hb⟩
        replace M := Lib.hid (And.intro hd5 (Goes.go M.out hb))
        clear hb hd5
        have ys_x_1 := TQ.st (M.out.1); have st_x_1 := ys_x_1.1; have st_x_2 := ys_x_1.2.1; have st_x_3 := ys_x_1.2.2.1; have st_x_4 := ys_x_1.2.2.2; clear ys_x_1
        go_upto_region 11 with fail
        clear st_x_1 st_x_2 st_x_3 st_x_4
        obtain ⟨w6, hv⟩ : ∃ w_ : World, w_ = (w5.alloc (.cells #[x_1, x_2, x_3, x_4] 26)) := ⟨_, rfl⟩
        rw [← hv]
        have ow5_ : w3.heap.size < w5.heap.size := ((M.out.2.1)).lt
        replace M := Lib.hid (And.intro (hv ▸ bx1 w5 26 #[x_1, x_2, x_3, x_4]) (Goes.go M.out (hv ▸ below_alloc _ _ : Below w5.heap.size w5 w6)))
        clear hv
        go_wp2_with fail
        go_roundw
        case rel => exact ⟨1, by go_num, (met_next (P := metP k p q r s) HE.out (by show calcQ k p r ≠ _; rw [HC.out]; intro h_; cases h_)), Lib.hid (And.intro (M.out.2.2.2.2.1) (And.intro (M.out.2.2.2.2.2.1) (And.intro (M.out.2.2.2.2.2.2.1) (M.out.2.2.2.2.2.2.2))))⟩
        case measure => simp [RowKit.intOf] <;> omega
      ·
        have HC := Lib.hid ho; clear ho
        have HZS : Hid (Fz z 137438953472) := calc_size HP.out HR.out HC.out
        obtain ⟨b1, hb1⟩ : ∃ b, decide (some f = some z) = b := ⟨_, rfl⟩
        have HB0 := Lib.hid hb1
        have HB1 : Hid (decide (f = z) = b1) := by show _ = _; rw [← hb1]; simp
        clear hb1
        have y3 := (M.out.2.1).d4; have p3_0 := y3.1; have p3_1 := y3.2.1; have p3_2 := y3.2.2.1; have p3_3 := y3.2.2.2; clear y3
        have y4 := (M.out.1).d4; have p4_0 := y4.1; have p4_1 := y4.2.1; have p4_2 := y4.2.2.1; have p4_3 := y4.2.2.2; clear y4
        go_wp2_with fail
        clear p3_0 p3_1 p3_2 p3_3 p4_0 p4_1 p4_2 p4_3
        refine (calc_some (G := G) (q := p) (r := r) (z := z) (i := i) (Nat.le_trans hG (M.out.2.2.2.2.2).size) (H1.out.keep (M.out.2.2.2.2.2)) (H3.out.keep (M.out.2.2.2.2.2)) (Fz.mono HP.out (by omega)) (Fz.mono HR.out (by omega)) HK.out HI.out HC.out).mono ?_
        rintro e w5 ⟨x_6, x_7, x_8, x_9, rfl, hd10, hb⟩
        replace M := Lib.hid (And.intro hd10 (Goes.go M.out hb))
        clear hb hd10
        have ys_x_6 := TQ.st (M.out.1); have st_x_6 := ys_x_6.1; have st_x_7 := ys_x_6.2.1; have st_x_8 := ys_x_6.2.2.1; have st_x_9 := ys_x_6.2.2.2; clear ys_x_6
        go_upto_region 11 with fail
        clear st_x_6 st_x_7 st_x_8 st_x_9
        obtain ⟨w6, hv⟩ : ∃ w_ : World, w_ = (w5.alloc (.cells #[x_6, x_7, x_8, x_9] 26)) := ⟨_, rfl⟩
        rw [← hv]
        have ow5_ : w3.heap.size < w5.heap.size := ((M.out.2.1)).lt
        replace M := Lib.hid (And.intro (hv ▸ bx1 w5 26 #[x_6, x_7, x_8, x_9]) (Goes.go M.out (hv ▸ below_alloc _ _ : Below w5.heap.size w5 w6)))
        clear hv
        have y2 := (M.out.2.2.2.2.1).d4; have p2_0 := y2.1; have p2_1 := y2.2.1; have p2_2 := y2.2.2.1; have p2_3 := y2.2.2.2; clear y2
        have y5 := (M.out.1).d4; have p5_0 := y5.1; have p5_1 := y5.2.1; have p5_2 := y5.2.2.1; have p5_3 := y5.2.2.2; clear y5
        go_wp2_with fail
        clear p2_0 p2_1 p2_2 p2_3 p5_0 p5_1 p5_2 p5_3
        refine (rfsame_o (G := G) (o := (some f)) (p := (some z)) (b_ := b1) (H5.out.keep (M.out.2.2.2.2.2.2.2)) (M.out.2.1) (Oz.mono (Oz.some_ HF.out) (by omega)) (Oz.mono (Oz.some_ HZS.out) (by omega)) HB0.out).mono ?_
        rintro e w7 ⟨rfl, hb⟩
        replace M := Lib.hid (Goes.go M.out hb)
        clear hb
        cases b1 with
        | false =>
          go_wp2_with fail
          go_roundw
          case rel => exact ⟨1, by go_num, (met_next (P := metP k p q r s) HE.out (by show calcQ k p r ≠ _; rw [HC.out]; intro h_; cases h_; exact absurd rfl (of_decide_eq_false HB1.out))), Lib.hid (And.intro (M.out.2.2.2.2.1) (And.intro (M.out.2.2.2.2.2.1) (And.intro (M.out.2.2.2.2.2.2.1) (M.out.2.2.2.2.2.2.2))))⟩
          case measure => simp [RowKit.intOf] <;> omega
        | true =>
          go_wp2_with fail
          go_ret
          exact ⟨rfl, (M.out.2.2.2.2.2.2.2)⟩
    ·
      have e1_ : (bits BinOp.and IntKind.i64 1 1 == 1) = true := by decide
      have e2_ : (bits BinOp.and IntKind.i64 1 2 == 2) = false := by decide
      have y0 := (M.out.2.2.1).d8; have p0_0 := y0.1; have p0_1 := y0.2.1; have p0_2 := y0.2.2.1; have p0_3 := y0.2.2.2.1; have p0_4 := y0.2.2.2.2.1; have p0_5 := y0.2.2.2.2.2.1; have p0_6 := y0.2.2.2.2.2.2.1; have p0_7 := y0.2.2.2.2.2.2.2; clear y0
      have z0 : w.heap.size < w2.heap.size := (M.out.2.2.1).lt
      have ys_u0 := TQ.st (H1.out.keep (M.out.2.2.2)); have st_u0 := ys_u0.1; have st_u1 := ys_u0.2.1; have st_u2 := ys_u0.2.2.1; have st_u3 := ys_u0.2.2.2; clear ys_u0
      go_upto_region 5 with fail
      clear p0_0 p0_1 p0_2 p0_3 p0_4 p0_5 p0_6 p0_7 z0 st_u0 st_u1 st_u2 st_u3
      obtain ⟨w3, hv⟩ : ∃ w_ : World, w_ = (w2.alloc (.cells #[u0, u1, u2, u3] 26)) := ⟨_, rfl⟩
      rw [← hv]
      have ow3_ : w.heap.size + 1 + 1 < w2.heap.size := ((M.out.1)).lt
      replace M := Lib.hid (And.intro (hv ▸ bx1 w2 26 #[u0, u1, u2, u3]) (Goes.go M.out (hv ▸ below_alloc _ _ : Below w2.heap.size w2 w3)))
      clear hv
      have y1 := (M.out.2.2.1).d8; have p1_0 := y1.1; have p1_1 := y1.2.1; have p1_2 := y1.2.2.1; have p1_3 := y1.2.2.2.1; have p1_4 := y1.2.2.2.2.1; have p1_5 := y1.2.2.2.2.2.1; have p1_6 := y1.2.2.2.2.2.2.1; have p1_7 := y1.2.2.2.2.2.2.2; clear y1
      have z1 : w.heap.size + 1 < w3.heap.size := (M.out.2.2.1).lt
      have ys_v0 := TQ.st (H3.out.keep (M.out.2.2.2.2)); have st_v0 := ys_v0.1; have st_v1 := ys_v0.2.1; have st_v2 := ys_v0.2.2.1; have st_v3 := ys_v0.2.2.2; clear ys_v0
      go_upto_region 6 with fail
      clear p1_0 p1_1 p1_2 p1_3 p1_4 p1_5 p1_6 p1_7 z1 st_v0 st_v1 st_v2 st_v3
      obtain ⟨w4, hv⟩ : ∃ w_ : World, w_ = (w3.alloc (.cells #[v0, v1, v2, v3] 26)) := ⟨_, rfl⟩
      rw [← hv]
      have ow4_ : w2.heap.size < w3.heap.size := ((M.out.1)).lt
      replace M := Lib.hid (And.intro (hv ▸ bx1 w3 26 #[v0, v1, v2, v3]) (Goes.go M.out (hv ▸ below_alloc _ _ : Below w3.heap.size w3 w4)))
      clear hv
      have y0 := (M.out.2.2.2.2.1).d8; have p0_0 := y0.1; have p0_1 := y0.2.1; have p0_2 := y0.2.2.1; have p0_3 := y0.2.2.2.1; have p0_4 := y0.2.2.2.2.1; have p0_5 := y0.2.2.2.2.2.1; have p0_6 := y0.2.2.2.2.2.2.1; have p0_7 := y0.2.2.2.2.2.2.2; clear y0
      have y3 := (M.out.2.1).c4; have p3_0 := y3.1; have q3_0 := y3.2.1; have p3_1 := y3.2.2.1; have q3_1 := y3.2.2.2.1; have p3_2 := y3.2.2.2.2.1; have q3_2 := y3.2.2.2.2.2.1; have p3_3 := y3.2.2.2.2.2.2.1; have q3_3 := y3.2.2.2.2.2.2.2; clear y3
      have ys_u4 := TQ.st (H2.out.keep (M.out.2.2.2.2.2)); have st_u4 := ys_u4.1; have st_u5 := ys_u4.2.1; have st_u6 := ys_u4.2.2.1; have st_u7 := ys_u4.2.2.2; clear ys_u4
      go_upto_region 8 with fail
      clear p0_0 p0_1 p0_2 p0_3 p0_4 p0_5 p0_6 p0_7 p3_0 q3_0 p3_1 q3_1 p3_2 q3_2 p3_3 q3_3 st_u4 st_u5 st_u6 st_u7
      obtain ⟨w5, hv⟩ : ∃ w_ : World, w_ = ((((w4.setCell ⟨w2.heap.size, 0, none⟩ (u4)).setCell ⟨w2.heap.size, 1, none⟩ (u5)).setCell ⟨w2.heap.size, 2, none⟩ (u6)).setCell ⟨w2.heap.size, 3, none⟩ (u7)) := ⟨_, rfl⟩
      rw [← hv]
      have og : w4.grownBy w5 (some w2.heap.size) := by rw [hv]; exact (only_setCell (only_setCell (only_setCell (only_setCell (World.grownBy.refl _ _) _) _) _) _)
      have hz : w.heap.size ≤ w2.heap.size := by omega
      have hk : Bx w5 w2.heap.size 26 #[u4, u5, u6, u7] := by rw [hv]; exact (((((M.out.2.1).set 0 _).set 1 _).set 2 _).set 3 _)
      have hbw : Below w.heap.size w w5 := by rw [hv]; exact (Below.setCell (Below.setCell (Below.setCell (Below.setCell (M.out.2.2.2.2.2) (by omega) _) (by omega) _) (by omega) _) (by omega) _)
      replace M := Lib.hid (And.intro ((M.out.1).only og (by omega)) (And.intro hk (And.intro ((M.out.2.2.1).only og (by omega)) (And.intro ((M.out.2.2.2.1).only og (by omega)) (And.intro ((M.out.2.2.2.2.1).only og (by omega)) hbw)))))
      clear hk hbw og hv hz
      go_upto_region 10 with fail
      rcases ho : calcQ k q r with _ | z
      ·
        have HC := Lib.hid ho; clear ho
        have y3 := (M.out.2.1).d4; have p3_0 := y3.1; have p3_1 := y3.2.1; have p3_2 := y3.2.2.1; have p3_3 := y3.2.2.2; clear y3
        have y4 := (M.out.1).d4; have p4_0 := y4.1; have p4_1 := y4.2.1; have p4_2 := y4.2.2.1; have p4_3 := y4.2.2.2; clear y4
        go_wp2_with fail
        clear p3_0 p3_1 p3_2 p3_3 p4_0 p4_1 p4_2 p4_3
        refine (calc_nil (G := G) (q := q) (r := r) (i := i) (Nat.le_trans hG (M.out.2.2.2.2.2).size) (H2.out.keep (M.out.2.2.2.2.2)) (H3.out.keep (M.out.2.2.2.2.2)) (Fz.mono HQ.out (by omega)) (Fz.mono HR.out (by omega)) HI.out HC.out).mono ?_
        rintro e w6 ⟨x_11, x_12, x_13, x_14, rfl, hd15, hb⟩
        replace M := Lib.hid (And.intro hd15 (Goes.go M.out hb))
        clear hb hd15
        have ys_x_11 := TQ.st (M.out.1); have st_x_11 := ys_x_11.1; have st_x_12 := ys_x_11.2.1; have st_x_13 := ys_x_11.2.2.1; have st_x_14 := ys_x_11.2.2.2; clear ys_x_11
        go_upto_region 11 with fail
        clear st_x_11 st_x_12 st_x_13 st_x_14
        obtain ⟨w7, hv⟩ : ∃ w_ : World, w_ = (w6.alloc (.cells #[x_11, x_12, x_13, x_14] 26)) := ⟨_, rfl⟩
        rw [← hv]
        have ow5_ : w3.heap.size < w6.heap.size := ((M.out.2.1)).lt
        replace M := Lib.hid (And.intro (hv ▸ bx1 w6 26 #[x_11, x_12, x_13, x_14]) (Goes.go M.out (hv ▸ below_alloc _ _ : Below w6.heap.size w6 w7)))
        clear hv
        go_wp2_with fail
        go_roundw
        case rel => exact ⟨2, by go_num, (met_next (P := metP k p q r s) HE.out (by show calcQ k q r ≠ _; rw [HC.out]; intro h_; cases h_)), Lib.hid (And.intro (M.out.2.2.2.2.1) (And.intro (M.out.2.2.2.2.2.1) (And.intro (M.out.2.2.2.2.2.2.1) (M.out.2.2.2.2.2.2.2))))⟩
        case measure => simp [RowKit.intOf] <;> omega
      ·
        have HC := Lib.hid ho; clear ho
        have HZS : Hid (Fz z 137438953472) := calc_size HQ.out HR.out HC.out
        obtain ⟨b1, hb1⟩ : ∃ b, decide (some f = some z) = b := ⟨_, rfl⟩
        have HB0 := Lib.hid hb1
        have HB1 : Hid (decide (f = z) = b1) := by show _ = _; rw [← hb1]; simp
        clear hb1
        have y3 := (M.out.2.1).d4; have p3_0 := y3.1; have p3_1 := y3.2.1; have p3_2 := y3.2.2.1; have p3_3 := y3.2.2.2; clear y3
        have y4 := (M.out.1).d4; have p4_0 := y4.1; have p4_1 := y4.2.1; have p4_2 := y4.2.2.1; have p4_3 := y4.2.2.2; clear y4
        go_wp2_with fail
        clear p3_0 p3_1 p3_2 p3_3 p4_0 p4_1 p4_2 p4_3
        refine (calc_some (G := G) (q := q) (r := r) (z := z) (i := i) (Nat.le_trans hG (M.out.2.2.2.2.2).size) (H2.out.keep (M.out.2.2.2.2.2)) (H3.out.keep (M.out.2.2.2.2.2)) (Fz.mono HQ.out (by omega)) (Fz.mono HR.out (by omega)) HK.out HI.out HC.out).mono ?_
        rintro e w6 ⟨x_16, x_17, x_18, x_19, rfl, hd20, hb⟩
        replace M := Lib.hid (And.intro hd20 (Goes.go M.out hb))
        clear hb hd20
        have ys_x_16 := TQ.st (M.out.1); have st_x_16 := ys_x_16.1; have st_x_17 := ys_x_16.2.1; have st_x_18 := ys_x_16.2.2.1; have st_x_19 := ys_x_16.2.2.2; clear ys_x_16
        go_upto_region 11 with fail
        clear st_x_16 st_x_17 st_x_18 st_x_19
        obtain ⟨w7, hv⟩ : ∃ w_ : World, w_ = (w6.alloc (.cells #[x_16, x_17, x_18, x_19] 26)) := ⟨_, rfl⟩
        rw [← hv]
        have ow5_ : w3.heap.size < w6.heap.size := ((M.out.2.1)).lt
        replace M := Lib.hid (And.intro (hv ▸ bx1 w6 26 #[x_16, x_17, x_18, x_19]) (Goes.go M.out (hv ▸ below_alloc _ _ : Below w6.heap.size w6 w7)))
        clear hv
        have y2 := (M.out.2.2.2.2.1).d4; have p2_0 := y2.1; have p2_1 := y2.2.1; have p2_2 := y2.2.2.1; have p2_3 := y2.2.2.2; clear y2
        have y5 := (M.out.1).d4; have p5_0 := y5.1; have p5_1 := y5.2.1; have p5_2 := y5.2.2.1; have p5_3 := y5.2.2.2; clear y5
        go_wp2_with fail
        clear p2_0 p2_1 p2_2 p2_3 p5_0 p5_1 p5_2 p5_3
        refine (rfsame_o (G := G) (o := (some f)) (p := (some z)) (b_ := b1) (H5.out.keep (M.out.2.2.2.2.2.2.2)) (M.out.2.1) (Oz.mono (Oz.some_ HF.out) (by omega)) (Oz.mono (Oz.some_ HZS.out) (by omega)) HB0.out).mono ?_
        rintro e w8 ⟨rfl, hb⟩
        replace M := Lib.hid (Goes.go M.out hb)
        clear hb
        cases b1 with
        | false =>
          go_wp2_with fail
          go_roundw
          case rel => exact ⟨2, by go_num, (met_next (P := metP k p q r s) HE.out (by show calcQ k q r ≠ _; rw [HC.out]; intro h_; cases h_; exact absurd rfl (of_decide_eq_false HB1.out))), Lib.hid (And.intro (M.out.2.2.2.2.1) (And.intro (M.out.2.2.2.2.2.1) (And.intro (M.out.2.2.2.2.2.2.1) (M.out.2.2.2.2.2.2.2))))⟩
          case measure => simp [RowKit.intOf] <;> omega
        | true =>
          go_wp2_with fail
          go_ret
          exact ⟨rfl, (M.out.2.2.2.2.2.2.2)⟩
    ·
      have e1_ : (bits BinOp.and IntKind.i64 2 1 == 1) = false := by decide
      have e2_ : (bits BinOp.and IntKind.i64 2 2 == 2) = true := by decide
      have y0 := (M.out.2.2.1).d8; have p0_0 := y0.1; have p0_1 := y0.2.1; have p0_2 := y0.2.2.1; have p0_3 := y0.2.2.2.1; have p0_4 := y0.2.2.2.2.1; have p0_5 := y0.2.2.2.2.2.1; have p0_6 := y0.2.2.2.2.2.2.1; have p0_7 := y0.2.2.2.2.2.2.2; clear y0
      have z0 : w.heap.size < w2.heap.size := (M.out.2.2.1).lt
      have ys_u0 := TQ.st (H1.out.keep (M.out.2.2.2)); have st_u0 := ys_u0.1; have st_u1 := ys_u0.2.1; have st_u2 := ys_u0.2.2.1; have st_u3 := ys_u0.2.2.2; clear ys_u0
      go_upto_region 5 with fail
      clear p0_0 p0_1 p0_2 p0_3 p0_4 p0_5 p0_6 p0_7 z0 st_u0 st_u1 st_u2 st_u3
      obtain ⟨w3, hv⟩ : ∃ w_ : World, w_ = (w2.alloc (.cells #[u0, u1, u2, u3] 26)) := ⟨_, rfl⟩
      rw [← hv]
      have ow3_ : w.heap.size + 1 + 1 < w2.heap.size := ((M.out.1)).lt
      replace M := Lib.hid (And.intro (hv ▸ bx1 w2 26 #[u0, u1, u2, u3]) (Goes.go M.out (hv ▸ below_alloc _ _ : Below w2.heap.size w2 w3)))
      clear hv
      have y1 := (M.out.2.2.1).d8; have p1_0 := y1.1; have p1_1 := y1.2.1; have p1_2 := y1.2.2.1; have p1_3 := y1.2.2.2.1; have p1_4 := y1.2.2.2.2.1; have p1_5 := y1.2.2.2.2.2.1; have p1_6 := y1.2.2.2.2.2.2.1; have p1_7 := y1.2.2.2.2.2.2.2; clear y1
      have z1 : w.heap.size + 1 < w3.heap.size := (M.out.2.2.1).lt
      have ys_v0 := TQ.st (H3.out.keep (M.out.2.2.2.2)); have st_v0 := ys_v0.1; have st_v1 := ys_v0.2.1; have st_v2 := ys_v0.2.2.1; have st_v3 := ys_v0.2.2.2; clear ys_v0
      go_upto_region 6 with fail
      clear p1_0 p1_1 p1_2 p1_3 p1_4 p1_5 p1_6 p1_7 z1 st_v0 st_v1 st_v2 st_v3
      obtain ⟨w4, hv⟩ : ∃ w_ : World, w_ = (w3.alloc (.cells #[v0, v1, v2, v3] 26)) := ⟨_, rfl⟩
      rw [← hv]
      have ow4_ : w2.heap.size < w3.heap.size := ((M.out.1)).lt
      replace M := Lib.hid (And.intro (hv ▸ bx1 w3 26 #[v0, v1, v2, v3]) (Goes.go M.out (hv ▸ below_alloc _ _ : Below w3.heap.size w3 w4)))
      clear hv
      have y1 := (M.out.2.2.2.1).d8; have p1_0 := y1.1; have p1_1 := y1.2.1; have p1_2 := y1.2.2.1; have p1_3 := y1.2.2.2.1; have p1_4 := y1.2.2.2.2.1; have p1_5 := y1.2.2.2.2.2.1; have p1_6 := y1.2.2.2.2.2.2.1; have p1_7 := y1.2.2.2.2.2.2.2; clear y1
      have y4 := (M.out.1).c4; have p4_0 := y4.1; have q4_0 := y4.2.1; have p4_1 := y4.2.2.1; have q4_1 := y4.2.2.2.1; have p4_2 := y4.2.2.2.2.1; have q4_2 := y4.2.2.2.2.2.1; have p4_3 := y4.2.2.2.2.2.2.1; have q4_3 := y4.2.2.2.2.2.2.2; clear y4
      have ys_v4 := TQ.st (H4.out.keep (M.out.2.2.2.2.2)); have st_v4 := ys_v4.1; have st_v5 := ys_v4.2.1; have st_v6 := ys_v4.2.2.1; have st_v7 := ys_v4.2.2.2; clear ys_v4
      go_upto_region 10 with fail
      clear p1_0 p1_1 p1_2 p1_3 p1_4 p1_5 p1_6 p1_7 p4_0 q4_0 p4_1 q4_1 p4_2 q4_2 p4_3 q4_3 st_v4 st_v5 st_v6 st_v7
      obtain ⟨w5, hv⟩ : ∃ w_ : World, w_ = ((((w4.setCell ⟨w3.heap.size, 0, none⟩ (v4)).setCell ⟨w3.heap.size, 1, none⟩ (v5)).setCell ⟨w3.heap.size, 2, none⟩ (v6)).setCell ⟨w3.heap.size, 3, none⟩ (v7)) := ⟨_, rfl⟩
      rw [← hv]
      have og : w4.grownBy w5 (some w3.heap.size) := by rw [hv]; exact (only_setCell (only_setCell (only_setCell (only_setCell (World.grownBy.refl _ _) _) _) _) _)
      have hz : w.heap.size ≤ w3.heap.size := by omega
      have hk : Bx w5 w3.heap.size 26 #[v4, v5, v6, v7] := by rw [hv]; exact (((((M.out.1).set 0 _).set 1 _).set 2 _).set 3 _)
      have hbw : Below w.heap.size w w5 := by rw [hv]; exact (Below.setCell (Below.setCell (Below.setCell (Below.setCell (M.out.2.2.2.2.2) (by omega) _) (by omega) _) (by omega) _) (by omega) _)
      replace M := Lib.hid (And.intro hk (And.intro ((M.out.2.1).only og (by omega)) (And.intro ((M.out.2.2.1).only og (by omega)) (And.intro ((M.out.2.2.2.1).only og (by omega)) (And.intro ((M.out.2.2.2.2.1).only og (by omega)) hbw)))))
      clear hk hbw og hv hz
      rcases ho : calcQ k p s with _ | z
      ·
        have HC := Lib.hid ho; clear ho
        have y3 := (M.out.2.1).d4; have p3_0 := y3.1; have p3_1 := y3.2.1; have p3_2 := y3.2.2.1; have p3_3 := y3.2.2.2; clear y3
        have y4 := (M.out.1).d4; have p4_0 := y4.1; have p4_1 := y4.2.1; have p4_2 := y4.2.2.1; have p4_3 := y4.2.2.2; clear y4
        go_wp2_with fail
        clear p3_0 p3_1 p3_2 p3_3 p4_0 p4_1 p4_2 p4_3
        refine (calc_nil (G := G) (q := p) (r := s) (i := i) (Nat.le_trans hG (M.out.2.2.2.2.2).size) (H1.out.keep (M.out.2.2.2.2.2)) (H4.out.keep (M.out.2.2.2.2.2)) (Fz.mono HP.out (by omega)) (Fz.mono HS.out (by omega)) HI.out HC.out).mono ?_
        rintro e w6 ⟨x_21, x_22, x_23, x_24, rfl, hd25, hb⟩
        replace M := Lib.hid (And.intro hd25 (Goes.go M.out hb))
        clear hb hd25
        have ys_x_21 := TQ.st (M.out.1); have st_x_21 := ys_x_21.1; have st_x_22 := ys_x_21.2.1; have st_x_23 := ys_x_21.2.2.1; have st_x_24 := ys_x_21.2.2.2; clear ys_x_21
        go_upto_region 11 with fail
        clear st_x_21 st_x_22 st_x_23 st_x_24
        obtain ⟨w7, hv⟩ : ∃ w_ : World, w_ = (w6.alloc (.cells #[x_21, x_22, x_23, x_24] 26)) := ⟨_, rfl⟩
        rw [← hv]
        have ow5_ : w3.heap.size < w6.heap.size := ((M.out.2.1)).lt
        replace M := Lib.hid (And.intro (hv ▸ bx1 w6 26 #[x_21, x_22, x_23, x_24]) (Goes.go M.out (hv ▸ below_alloc _ _ : Below w6.heap.size w6 w7)))
        clear hv
        go_wp2_with fail
        go_roundw
        case rel => exact ⟨3, by go_num, (met_next (P := metP k p q r s) HE.out (by show calcQ k p s ≠ _; rw [HC.out]; intro h_; cases h_)), Lib.hid (And.intro (M.out.2.2.2.2.1) (And.intro (M.out.2.2.2.2.2.1) (And.intro (M.out.2.2.2.2.2.2.1) (M.out.2.2.2.2.2.2.2))))⟩
        case measure => simp [RowKit.intOf] <;> omega
      ·
        have HC := Lib.hid ho; clear ho
        have HZS : Hid (Fz z 137438953472) := calc_size HP.out HS.out HC.out
        obtain ⟨b1, hb1⟩ : ∃ b, decide (some f = some z) = b := ⟨_, rfl⟩
        have HB0 := Lib.hid hb1
        have HB1 : Hid (decide (f = z) = b1) := by show _ = _; rw [← hb1]; simp
        clear hb1
        have y3 := (M.out.2.1).d4; have p3_0 := y3.1; have p3_1 := y3.2.1; have p3_2 := y3.2.2.1; have p3_3 := y3.2.2.2; clear y3
        have y4 := (M.out.1).d4; have p4_0 := y4.1; have p4_1 := y4.2.1; have p4_2 := y4.2.2.1; have p4_3 := y4.2.2.2; clear y4
        go_wp2_with fail
        clear p3_0 p3_1 p3_2 p3_3 p4_0 p4_1 p4_2 p4_3
        refine (calc_some (G := G) (q := p) (r := s) (z := z) (i := i) (Nat.le_trans hG (M.out.2.2.2.2.2).size) (H1.out.keep (M.out.2.2.2.2.2)) (H4.out.keep (M.out.2.2.2.2.2)) (Fz.mono HP.out (by omega)) (Fz.mono HS.out (by omega)) HK.out HI.out HC.out).mono ?_
        rintro e w6 ⟨x_26, x_27, x_28, x_29, rfl, hd30, hb⟩
        replace M := Lib.hid (And.intro hd30 (Goes.go M.out hb))
        clear hb hd30
        have ys_x_26 := TQ.st (M.out.1); have st_x_26 := ys_x_26.1; have st_x_27 := ys_x_26.2.1; have st_x_28 := ys_x_26.2.2.1; have st_x_29 := ys_x_26.2.2.2; clear ys_x_26
        go_upto_region 11 with fail
        clear st_x_26 st_x_27 st_x_28 st_x_29
        obtain ⟨w7, hv⟩ : ∃ w_ : World, w_ = (w6.alloc (.cells #[x_26, x_27, x_28, x_29] 26)) := ⟨_, rfl⟩
        rw [← hv]
        have ow5_ : w3.heap.size < w6.heap.size := ((M.out.2.1)).lt
        replace M := Lib.hid (And.intro (hv ▸ bx1 w6 26 #[x_26, x_27, x_28, x_29]) (Goes.go M.out (hv ▸ below_alloc _ _ : Below w6.heap.size w6 w7)))
        clear hv
        have y2 := (M.out.2.2.2.2.1).d4; have p2_0 := y2.1; have p2_1 := y2.2.1; have p2_2 := y2.2.2.1; have p2_3 := y2.2.2.2; clear y2
        have y5 := (M.out.1).d4; have p5_0 := y5.1; have p5_1 := y5.2.1; have p5_2 := y5.2.2.1; have p5_3 := y5.2.2.2; clear y5
        go_wp2_with fail
        clear p2_0 p2_1 p2_2 p2_3 p5_0 p5_1 p5_2 p5_3
        refine (rfsame_o (G := G) (o := (some f)) (p := (some z)) (b_ := b1) (H5.out.keep (M.out.2.2.2.2.2.2.2)) (M.out.2.1) (Oz.mono (Oz.some_ HF.out) (by omega)) (Oz.mono (Oz.some_ HZS.out) (by omega)) HB0.out).mono ?_
        rintro e w8 ⟨rfl, hb⟩
        replace M := Lib.hid (Goes.go M.out hb)
        clear hb
        cases b1 with
        | false =>
          go_wp2_with fail
          go_roundw
          case rel => exact ⟨3, by go_num, (met_next (P := metP k p q r s) HE.out (by show calcQ k p s ≠ _; rw [HC.out]; intro h_; cases h_; exact absurd rfl (of_decide_eq_false HB1.out))), Lib.hid (And.intro (M.out.2.2.2.2.1) (And.intro (M.out.2.2.2.2.2.1) (And.intro (M.out.2.2.2.2.2.2.1) (M.out.2.2.2.2.2.2.2))))⟩
          case measure => simp [RowKit.intOf] <;> omega
        | true =>
          go_wp2_with fail
          go_ret
          exact ⟨rfl, (M.out.2.2.2.2.2.2.2)⟩
    ·
      have e1_ : (bits BinOp.and IntKind.i64 3 1 == 1) = true := by decide
      have e2_ : (bits BinOp.and IntKind.i64 3 2 == 2) = true := by decide
      have y0 := (M.out.2.2.1).d8; have p0_0 := y0.1; have p0_1 := y0.2.1; have p0_2 := y0.2.2.1; have p0_3 := y0.2.2.2.1; have p0_4 := y0.2.2.2.2.1; have p0_5 := y0.2.2.2.2.2.1; have p0_6 := y0.2.2.2.2.2.2.1; have p0_7 := y0.2.2.2.2.2.2.2; clear y0
      have z0 : w.heap.size < w2.heap.size := (M.out.2.2.1).lt
      have ys_u0 := TQ.st (H1.out.keep (M.out.2.2.2)); have st_u0 := ys_u0.1; have st_u1 := ys_u0.2.1; have st_u2 := ys_u0.2.2.1; have st_u3 := ys_u0.2.2.2; clear ys_u0
      go_upto_region 5 with fail
      clear p0_0 p0_1 p0_2 p0_3 p0_4 p0_5 p0_6 p0_7 z0 st_u0 st_u1 st_u2 st_u3
      obtain ⟨w3, hv⟩ : ∃ w_ : World, w_ = (w2.alloc (.cells #[u0, u1, u2, u3] 26)) := ⟨_, rfl⟩
      rw [← hv]
      have ow3_ : w.heap.size + 1 + 1 < w2.heap.size := ((M.out.1)).lt
      replace M := Lib.hid (And.intro (hv ▸ bx1 w2 26 #[u0, u1, u2, u3]) (Goes.go M.out (hv ▸ below_alloc _ _ : Below w2.heap.size w2 w3)))
      clear hv
      have y1 := (M.out.2.2.1).d8; have p1_0 := y1.1; have p1_1 := y1.2.1; have p1_2 := y1.2.2.1; have p1_3 := y1.2.2.2.1; have p1_4 := y1.2.2.2.2.1; have p1_5 := y1.2.2.2.2.2.1; have p1_6 := y1.2.2.2.2.2.2.1; have p1_7 := y1.2.2.2.2.2.2.2; clear y1
      have z1 : w.heap.size + 1 < w3.heap.size := (M.out.2.2.1).lt
      have ys_v0 := TQ.st (H3.out.keep (M.out.2.2.2.2)); have st_v0 := ys_v0.1; have st_v1 := ys_v0.2.1; have st_v2 := ys_v0.2.2.1; have st_v3 := ys_v0.2.2.2; clear ys_v0
      go_upto_region 6 with fail
      clear p1_0 p1_1 p1_2 p1_3 p1_4 p1_5 p1_6 p1_7 z1 st_v0 st_v1 st_v2 st_v3
      obtain ⟨w4, hv⟩ : ∃ w_ : World, w_ = (w3.alloc (.cells #[v0, v1, v2, v3] 26)) := ⟨_, rfl⟩
      rw [← hv]
      have ow4_ : w2.heap.size < w3.heap.size := ((M.out.1)).lt
      replace M := Lib.hid (And.intro (hv ▸ bx1 w3 26 #[v0, v1, v2, v3]) (Goes.go M.out (hv ▸ below_alloc _ _ : Below w3.heap.size w3 w4)))
      clear hv
      have y0 := (M.out.2.2.2.2.1).d8; have p0_0 := y0.1; have p0_1 := y0.2.1; have p0_2 := y0.2.2.1; have p0_3 := y0.2.2.2.1; have p0_4 := y0.2.2.2.2.1; have p0_5 := y0.2.2.2.2.2.1; have p0_6 := y0.2.2.2.2.2.2.1; have p0_7 := y0.2.2.2.2.2.2.2; clear y0
      have y3 := (M.out.2.1).c4; have p3_0 := y3.1; have q3_0 := y3.2.1; have p3_1 := y3.2.2.1; have q3_1 := y3.2.2.2.1; have p3_2 := y3.2.2.2.2.1; have q3_2 := y3.2.2.2.2.2.1; have p3_3 := y3.2.2.2.2.2.2.1; have q3_3 := y3.2.2.2.2.2.2.2; clear y3
      have ys_u4 := TQ.st (H2.out.keep (M.out.2.2.2.2.2)); have st_u4 := ys_u4.1; have st_u5 := ys_u4.2.1; have st_u6 := ys_u4.2.2.1; have st_u7 := ys_u4.2.2.2; clear ys_u4
      go_upto_region 8 with fail
      clear p0_0 p0_1 p0_2 p0_3 p0_4 p0_5 p0_6 p0_7 p3_0 q3_0 p3_1 q3_1 p3_2 q3_2 p3_3 q3_3 st_u4 st_u5 st_u6 st_u7
      obtain ⟨w5, hv⟩ : ∃ w_ : World, w_ = ((((w4.setCell ⟨w2.heap.size, 0, none⟩ (u4)).setCell ⟨w2.heap.size, 1, none⟩ (u5)).setCell ⟨w2.heap.size, 2, none⟩ (u6)).setCell ⟨w2.heap.size, 3, none⟩ (u7)) := ⟨_, rfl⟩
      rw [← hv]
      have og : w4.grownBy w5 (some w2.heap.size) := by rw [hv]; exact (only_setCell (only_setCell (only_setCell (only_setCell (World.grownBy.refl _ _) _) _) _) _)
      have hz : w.heap.size ≤ w2.heap.size := by omega
      have hk : Bx w5 w2.heap.size 26 #[u4, u5, u6, u7] := by rw [hv]; exact (((((M.out.2.1).set 0 _).set 1 _).set 2 _).set 3 _)
      have hbw : Below w.heap.size w w5 := by rw [hv]; exact (Below.setCell (Below.setCell (Below.setCell (Below.setCell (M.out.2.2.2.2.2) (by omega) _) (by omega) _) (by omega) _) (by omega) _)
      replace M := Lib.hid (And.intro ((M.out.1).only og (by omega)) (And.intro hk (And.intro ((M.out.2.2.1).only og (by omega)) (And.intro ((M.out.2.2.2.1).only og (by omega)) (And.intro ((M.out.2.2.2.2.1).only og (by omega)) hbw)))))
      clear hk hbw og hv hz
      have y1 := (M.out.2.2.2.1).d8; have p1_0 := y1.1; have p1_1 := y1.2.1; have p1_2 := y1.2.2.1; have p1_3 := y1.2.2.2.1; have p1_4 := y1.2.2.2.2.1; have p1_5 := y1.2.2.2.2.2.1; have p1_6 := y1.2.2.2.2.2.2.1; have p1_7 := y1.2.2.2.2.2.2.2; clear y1
      have y4 := (M.out.1).c4; have p4_0 := y4.1; have q4_0 := y4.2.1; have p4_1 := y4.2.2.1; have q4_1 := y4.2.2.2.1; have p4_2 := y4.2.2.2.2.1; have q4_2 := y4.2.2.2.2.2.1; have p4_3 := y4.2.2.2.2.2.2.1; have q4_3 := y4.2.2.2.2.2.2.2; clear y4
      have ys_v4 := TQ.st (H4.out.keep (M.out.2.2.2.2.2)); have st_v4 := ys_v4.1; have st_v5 := ys_v4.2.1; have st_v6 := ys_v4.2.2.1; have st_v7 := ys_v4.2.2.2; clear ys_v4
      go_upto_region 10 with fail
      clear p1_0 p1_1 p1_2 p1_3 p1_4 p1_5 p1_6 p1_7 p4_0 q4_0 p4_1 q4_1 p4_2 q4_2 p4_3 q4_3 st_v4 st_v5 st_v6 st_v7
      obtain ⟨w6, hv⟩ : ∃ w_ : World, w_ = ((((w5.setCell ⟨w3.heap.size, 0, none⟩ (v4)).setCell ⟨w3.heap.size, 1, none⟩ (v5)).setCell ⟨w3.heap.size, 2, none⟩ (v6)).setCell ⟨w3.heap.size, 3, none⟩ (v7)) := ⟨_, rfl⟩
      rw [← hv]
      have og : w5.grownBy w6 (some w3.heap.size) := by rw [hv]; exact (only_setCell (only_setCell (only_setCell (only_setCell (World.grownBy.refl _ _) _) _) _) _)
      have hz : w.heap.size ≤ w3.heap.size := by omega
      have hk : Bx w6 w3.heap.size 26 #[v4, v5, v6, v7] := by rw [hv]; exact (((((M.out.1).set 0 _).set 1 _).set 2 _).set 3 _)
      have hbw : Below w.heap.size w w6 := by rw [hv]; exact (Below.setCell (Below.setCell (Below.setCell (Below.setCell (M.out.2.2.2.2.2) (by omega) _) (by omega) _) (by omega) _) (by omega) _)
      replace M := Lib.hid (And.intro hk (And.intro ((M.out.2.1).only og (by omega)) (And.intro ((M.out.2.2.1).only og (by omega)) (And.intro ((M.out.2.2.2.1).only og (by omega)) (And.intro ((M.out.2.2.2.2.1).only og (by omega)) hbw)))))
      clear hk hbw og hv hz
      rcases ho : calcQ k q s with _ | z
      ·
        have HC := Lib.hid ho; clear ho
        have y3 := (M.out.2.1).d4; have p3_0 := y3.1; have p3_1 := y3.2.1; have p3_2 := y3.2.2.1; have p3_3 := y3.2.2.2; clear y3
        have y4 := (M.out.1).d4; have p4_0 := y4.1; have p4_1 := y4.2.1; have p4_2 := y4.2.2.1; have p4_3 := y4.2.2.2; clear y4
        go_wp2_with fail
        clear p3_0 p3_1 p3_2 p3_3 p4_0 p4_1 p4_2 p4_3
        refine (calc_nil (G := G) (q := q) (r := s) (i := i) (Nat.le_trans hG (M.out.2.2.2.2.2).size) (H2.out.keep (M.out.2.2.2.2.2)) (H4.out.keep (M.out.2.2.2.2.2)) (Fz.mono HQ.out (by omega)) (Fz.mono HS.out (by omega)) HI.out HC.out).mono ?_
        rintro e w7 ⟨x_31, x_32, x_33, x_34, rfl, hd35, hb⟩
        replace M := Lib.hid (And.intro hd35 (Goes.go M.out hb))
        clear hb hd35
        have ys_x_31 := TQ.st (M.out.1); have st_x_31 := ys_x_31.1; have st_x_32 := ys_x_31.2.1; have st_x_33 := ys_x_31.2.2.1; have st_x_34 := ys_x_31.2.2.2; clear ys_x_31
        go_upto_region 11 with fail
        clear st_x_31 st_x_32 st_x_33 st_x_34
        obtain ⟨w8, hv⟩ : ∃ w_ : World, w_ = (w7.alloc (.cells #[x_31, x_32, x_33, x_34] 26)) := ⟨_, rfl⟩
        rw [← hv]
        have ow5_ : w3.heap.size < w7.heap.size := ((M.out.2.1)).lt
        replace M := Lib.hid (And.intro (hv ▸ bx1 w7 26 #[x_31, x_32, x_33, x_34]) (Goes.go M.out (hv ▸ below_alloc _ _ : Below w7.heap.size w7 w8)))
        clear hv
        go_wp2_with fail
        go_roundw
        case rel => exact ⟨4, by go_num, (met_next (P := metP k p q r s) HE.out (by show calcQ k q s ≠ _; rw [HC.out]; intro h_; cases h_)), Lib.hid (And.intro (M.out.2.2.2.2.1) (And.intro (M.out.2.2.2.2.2.1) (And.intro (M.out.2.2.2.2.2.2.1) (M.out.2.2.2.2.2.2.2))))⟩
        case measure => simp [RowKit.intOf] <;> omega
      ·
        have HC := Lib.hid ho; clear ho
        have HZS : Hid (Fz z 137438953472) := calc_size HQ.out HS.out HC.out
        obtain ⟨b1, hb1⟩ : ∃ b, decide (some f = some z) = b := ⟨_, rfl⟩
        have HB0 := Lib.hid hb1
        have HB1 : Hid (decide (f = z) = b1) := by show _ = _; rw [← hb1]; simp
        clear hb1
        have y3 := (M.out.2.1).d4; have p3_0 := y3.1; have p3_1 := y3.2.1; have p3_2 := y3.2.2.1; have p3_3 := y3.2.2.2; clear y3
        have y4 := (M.out.1).d4; have p4_0 := y4.1; have p4_1 := y4.2.1; have p4_2 := y4.2.2.1; have p4_3 := y4.2.2.2; clear y4
        go_wp2_with fail
        clear p3_0 p3_1 p3_2 p3_3 p4_0 p4_1 p4_2 p4_3
        refine (calc_some (G := G) (q := q) (r := s) (z := z) (i := i) (Nat.le_trans hG (M.out.2.2.2.2.2).size) (H2.out.keep (M.out.2.2.2.2.2)) (H4.out.keep (M.out.2.2.2.2.2)) (Fz.mono HQ.out (by omega)) (Fz.mono HS.out (by omega)) HK.out HI.out HC.out).mono ?_
        rintro e w7 ⟨x_36, x_37, x_38, x_39, rfl, hd40, hb⟩
        replace M := Lib.hid (And.intro hd40 (Goes.go M.out hb))
        clear hb hd40
        have ys_x_36 := TQ.st (M.out.1); have st_x_36 := ys_x_36.1; have st_x_37 := ys_x_36.2.1; have st_x_38 := ys_x_36.2.2.1; have st_x_39 := ys_x_36.2.2.2; clear ys_x_36
        go_upto_region 11 with fail
        clear st_x_36 st_x_37 st_x_38 st_x_39
        obtain ⟨w8, hv⟩ : ∃ w_ : World, w_ = (w7.alloc (.cells #[x_36, x_37, x_38, x_39] 26)) := ⟨_, rfl⟩
        rw [← hv]
        have ow5_ : w3.heap.size < w7.heap.size := ((M.out.2.1)).lt
        replace M := Lib.hid (And.intro (hv ▸ bx1 w7 26 #[x_36, x_37, x_38, x_39]) (Goes.go M.out (hv ▸ below_alloc _ _ : Below w7.heap.size w7 w8)))
        clear hv
        have y2 := (M.out.2.2.2.2.1).d4; have p2_0 := y2.1; have p2_1 := y2.2.1; have p2_2 := y2.2.2.1; have p2_3 := y2.2.2.2; clear y2
        have y5 := (M.out.1).d4; have p5_0 := y5.1; have p5_1 := y5.2.1; have p5_2 := y5.2.2.1; have p5_3 := y5.2.2.2; clear y5
        go_wp2_with fail
        clear p2_0 p2_1 p2_2 p2_3 p5_0 p5_1 p5_2 p5_3
        refine (rfsame_o (G := G) (o := (some f)) (p := (some z)) (b_ := b1) (H5.out.keep (M.out.2.2.2.2.2.2.2)) (M.out.2.1) (Oz.mono (Oz.some_ HF.out) (by omega)) (Oz.mono (Oz.some_ HZS.out) (by omega)) HB0.out).mono ?_
        rintro e w9 ⟨rfl, hb⟩
        replace M := Lib.hid (Goes.go M.out hb)
        clear hb
        cases b1 with
        | false =>
          go_wp2_with fail
          go_roundw
          case rel => exact ⟨4, by go_num, (met_next (P := metP k p q r s) HE.out (by show calcQ k q s ≠ _; rw [HC.out]; intro h_; cases h_; exact absurd rfl (of_decide_eq_false HB1.out))), Lib.hid (And.intro (M.out.2.2.2.2.1) (And.intro (M.out.2.2.2.2.2.1) (And.intro (M.out.2.2.2.2.2.2.1) (M.out.2.2.2.2.2.2.2))))⟩
          case measure => simp [RowKit.intOf] <;> omega
        | true =>
          go_wp2_with fail
          go_ret
          exact ⟨rfl, (M.out.2.2.2.2.2.2.2)⟩
theorem op_le {k : Nat} {p q r s lo hi : Rat} (ha : p ≤ q) (hb : r ≤ s) (h : opS k ⟨p, q⟩ ⟨r, s⟩ = some ⟨lo, hi⟩) : lo ≤ hi := op_ok (a := ⟨p, q⟩) (b := ⟨r, s⟩) ha hb h
set_option maxRecDepth 100000 in
set_option maxHeartbeats 4000000 in
theorem turns_ok {u0 u1 u2 u3 u4 u5 u6 u7 v0 v1 v2 v3 v4 v5 v6 v7 y0 y1 y2 y3 y4 y5 y6 y7 : Value} {k : Nat} {i : Int} {p q r s t u xl xh zl zh ll lh : Rat} {w : World} (hG : G ≤ w.heap.size) (h1 : FQ G w u0 u1 u2 u3 p) (h2 : FQ G w u4 u5 u6 u7 q) (h3 : FQ G w v0 v1 v2 v3 r) (h4 : FQ G w v4 v5 v6 v7 s) (hp : Fz p 4) (hq : Fz q 4) (hr : Fz r 4) (hs : Fz s 4) (h5 : FQ G w y0 y1 y2 y3 t) (h6 : FQ G w y4 y5 y6 y7 u) (ht : Fz t 4) (hu : Fz u 4) (ha : p ≤ q) (hb : r ≤ s) (hc : t ≤ u) (hk : k < 6) (hi : (k : Int) = i) (ho1 : opS k ⟨p, q⟩ ⟨r, s⟩ = some ⟨xl, xh⟩) (ho2 : opS k ⟨r, s⟩ ⟨p, q⟩ = some ⟨xl, xh⟩) (ho3 : opS k ⟨r, s⟩ ⟨t, u⟩ = some ⟨zl, zh⟩) (ho4 : opS k ⟨xl, xh⟩ ⟨t, u⟩ = some ⟨ll, lh⟩) (ho5 : opS k ⟨p, q⟩ ⟨zl, zh⟩ = some ⟨ll, lh⟩)  :
    Calls Try.prog 17 #[.int .i64 i, .agg #[u0, u1, u2, u3, u4, u5, u6, u7], .agg #[v0, v1, v2, v3, v4, v5, v6, v7], .agg #[y0, y1, y2, y3, y4, y5, y6, y7]] w fun e w' => e = .returned (.bool true) ∧ Below w.heap.size w w' := by
  have HXS := Lib.hid (op_size hp hq hr hs ho1); have HZS := Lib.hid (op_size hr hs ht hu ho3); have HLS := Lib.hid (op_size HXS.out.1 HXS.out.2 ht hu ho4)
  have HP := Lib.hid hp; have HQ := Lib.hid hq; have HR := Lib.hid hr; have HS := Lib.hid hs; have HT := Lib.hid ht; have HU := Lib.hid hu
  have HPQ := Lib.hid ha; have HRS := Lib.hid hb; have HTU := Lib.hid hc; have HK := Lib.hid hk; have HI := Lib.hid hi
  have HO1 := Lib.hid ho1; have HO2 := Lib.hid ho2; have HO3 := Lib.hid ho3; have HO4 := Lib.hid ho4; have HO5 := Lib.hid ho5
  clear hp hq hr hs ht hu ha hb hc hk hi ho1 ho2 ho3 ho4 ho5
  have H1 : Hid (FQ G w u0 u1 u2 u3 p) := h1
  have H2 : Hid (FQ G w u4 u5 u6 u7 q) := h2
  have H3 : Hid (FQ G w v0 v1 v2 v3 r) := h3
  have H4 : Hid (FQ G w v4 v5 v6 v7 s) := h4
  have H5 : Hid (FQ G w y0 y1 y2 y3 t) := h5
  have H6 : Hid (FQ G w y4 y5 y6 y7 u) := h6
  clear h1 h2 h3 h4 h5 h6
  have M : Hid (Below w.heap.size w w) := Below.refl _ _
  go_enter Try.func17, Try.ntmps17
  go_upto_region 1 with fail
  obtain ⟨w1, hv⟩ : ∃ w_ : World, w_ = (((w.alloc (.cells #[u0, u1, u2, u3, u4, u5, u6, u7] 28)).alloc (.cells #[v0, v1, v2, v3, v4, v5, v6, v7] 28)).alloc (.cells #[y0, y1, y2, y3, y4, y5, y6, y7] 28)) := ⟨_, rfl⟩
  rw [← hv]
  have hbx := bx3 w 28 28 28 #[u0, u1, u2, u3, u4, u5, u6, u7] #[v0, v1, v2, v3, v4, v5, v6, v7] #[y0, y1, y2, y3, y4, y5, y6, y7]
  rw [← hv] at hbx
  have hbn : Below w.heap.size w w1 := by rw [hv]; exact (Below.alloc (Below.alloc (Below.alloc (Below.refl _ _) (by simp <;> omega) _) (by simp <;> omega) _) (by simp <;> omega) _)
  replace M := Lib.hid (And.intro hbx.2.2 (And.intro hbx.2.1 (And.intro hbx.1 (Goes.go M.out hbn))))
  clear hbx hbn
  clear hv
  have y0 := (M.out.2.2.1).d8; have p0_0 := y0.1; have p0_1 := y0.2.1; have p0_2 := y0.2.2.1; have p0_3 := y0.2.2.2.1; have p0_4 := y0.2.2.2.2.1; have p0_5 := y0.2.2.2.2.2.1; have p0_6 := y0.2.2.2.2.2.2.1; have p0_7 := y0.2.2.2.2.2.2.2; clear y0
  have y1 := (M.out.2.1).d8; have p1_0 := y1.1; have p1_1 := y1.2.1; have p1_2 := y1.2.2.1; have p1_3 := y1.2.2.2.1; have p1_4 := y1.2.2.2.2.1; have p1_5 := y1.2.2.2.2.2.1; have p1_6 := y1.2.2.2.2.2.2.1; have p1_7 := y1.2.2.2.2.2.2.2; clear y1
  go_wp2_with fail
  clear p0_0 p0_1 p0_2 p0_3 p0_4 p0_5 p0_6 p0_7 p1_0 p1_1 p1_2 p1_3 p1_4 p1_5 p1_6 p1_7
  refine (play_some (G := G) (p := p) (q := q) (r := r) (s := s) (lo := xl) (hi := xh) (i := i) (Nat.le_trans hG (M.out.2.2.2).size) (H1.out.keep (M.out.2.2.2)) (H2.out.keep (M.out.2.2.2)) (H3.out.keep (M.out.2.2.2)) (H4.out.keep (M.out.2.2.2)) (Fz.mono HP.out (by omega)) (Fz.mono HQ.out (by omega)) (Fz.mono HR.out (by omega)) (Fz.mono HS.out (by omega)) HPQ.out HRS.out HK.out HI.out HO1.out).mono ?_
  rintro e w2 ⟨x_1, x_2, x_3, x_4, x_5, x_6, x_7, x_8, rfl, hd9, hd10, hb⟩
  replace M := Lib.hid (And.intro hd9 (And.intro hd10 (Goes.go M.out hb)))
  clear hb hd9 hd10
  have ys_x_1 := TQ.st (M.out.1); have st_x_1 := ys_x_1.1; have st_x_2 := ys_x_1.2.1; have st_x_3 := ys_x_1.2.2.1; have st_x_4 := ys_x_1.2.2.2; clear ys_x_1
  have ys_x_5 := TQ.st (M.out.2.1); have st_x_5 := ys_x_5.1; have st_x_6 := ys_x_5.2.1; have st_x_7 := ys_x_5.2.2.1; have st_x_8 := ys_x_5.2.2.2; clear ys_x_5
  go_upto_region 2 with fail
  clear st_x_1 st_x_2 st_x_3 st_x_4 st_x_5 st_x_6 st_x_7 st_x_8
  obtain ⟨w3, hv⟩ : ∃ w_ : World, w_ = (w2.alloc (.cells #[x_1, x_2, x_3, x_4, x_5, x_6, x_7, x_8] 28)) := ⟨_, rfl⟩
  rw [← hv]
  have ow3_ : w.heap.size + 1 + 1 < w2.heap.size := ((M.out.2.2.1)).lt
  replace M := Lib.hid (And.intro (hv ▸ bx1 w2 28 #[x_1, x_2, x_3, x_4, x_5, x_6, x_7, x_8]) (Goes.go M.out (hv ▸ below_alloc _ _ : Below w2.heap.size w2 w3)))
  clear hv
  have y1 := (M.out.2.2.2.2.1).d8; have p1_0 := y1.1; have p1_1 := y1.2.1; have p1_2 := y1.2.2.1; have p1_3 := y1.2.2.2.1; have p1_4 := y1.2.2.2.2.1; have p1_5 := y1.2.2.2.2.2.1; have p1_6 := y1.2.2.2.2.2.2.1; have p1_7 := y1.2.2.2.2.2.2.2; clear y1
  have y0 := (M.out.2.2.2.2.2.1).d8; have p0_0 := y0.1; have p0_1 := y0.2.1; have p0_2 := y0.2.2.1; have p0_3 := y0.2.2.2.1; have p0_4 := y0.2.2.2.2.1; have p0_5 := y0.2.2.2.2.2.1; have p0_6 := y0.2.2.2.2.2.2.1; have p0_7 := y0.2.2.2.2.2.2.2; clear y0
  go_wp2_with fail
  clear p1_0 p1_1 p1_2 p1_3 p1_4 p1_5 p1_6 p1_7 p0_0 p0_1 p0_2 p0_3 p0_4 p0_5 p0_6 p0_7
  refine (play_some (G := G) (p := r) (q := s) (r := p) (s := q) (lo := xl) (hi := xh) (i := i) (Nat.le_trans hG (M.out.2.2.2.2.2.2).size) (H3.out.keep (M.out.2.2.2.2.2.2)) (H4.out.keep (M.out.2.2.2.2.2.2)) (H1.out.keep (M.out.2.2.2.2.2.2)) (H2.out.keep (M.out.2.2.2.2.2.2)) (Fz.mono HR.out (by omega)) (Fz.mono HS.out (by omega)) (Fz.mono HP.out (by omega)) (Fz.mono HQ.out (by omega)) HRS.out HPQ.out HK.out HI.out HO2.out).mono ?_
  rintro e w4 ⟨x_11, x_12, x_13, x_14, x_15, x_16, x_17, x_18, rfl, hd19, hd20, hb⟩
  replace M := Lib.hid (And.intro hd19 (And.intro hd20 (Goes.go M.out hb)))
  clear hb hd19 hd20
  have ys_x_11 := TQ.st (M.out.1); have st_x_11 := ys_x_11.1; have st_x_12 := ys_x_11.2.1; have st_x_13 := ys_x_11.2.2.1; have st_x_14 := ys_x_11.2.2.2; clear ys_x_11
  have ys_x_15 := TQ.st (M.out.2.1); have st_x_15 := ys_x_15.1; have st_x_16 := ys_x_15.2.1; have st_x_17 := ys_x_15.2.2.1; have st_x_18 := ys_x_15.2.2.2; clear ys_x_15
  go_upto_region 3 with fail
  clear st_x_11 st_x_12 st_x_13 st_x_14 st_x_15 st_x_16 st_x_17 st_x_18
  obtain ⟨w5, hv⟩ : ∃ w_ : World, w_ = (w4.alloc (.cells #[x_11, x_12, x_13, x_14, x_15, x_16, x_17, x_18] 28)) := ⟨_, rfl⟩
  rw [← hv]
  have ow4_ : w2.heap.size < w4.heap.size := ((M.out.2.2.1)).lt
  replace M := Lib.hid (And.intro (hv ▸ bx1 w4 28 #[x_11, x_12, x_13, x_14, x_15, x_16, x_17, x_18]) (Goes.go M.out (hv ▸ below_alloc _ _ : Below w4.heap.size w4 w5)))
  clear hv
  have y1 := (M.out.2.2.2.2.2.2.2.1).d8; have p1_0 := y1.1; have p1_1 := y1.2.1; have p1_2 := y1.2.2.1; have p1_3 := y1.2.2.2.1; have p1_4 := y1.2.2.2.2.1; have p1_5 := y1.2.2.2.2.2.1; have p1_6 := y1.2.2.2.2.2.2.1; have p1_7 := y1.2.2.2.2.2.2.2; clear y1
  have y2 := (M.out.2.2.2.2.2.2.1).d8; have p2_0 := y2.1; have p2_1 := y2.2.1; have p2_2 := y2.2.2.1; have p2_3 := y2.2.2.2.1; have p2_4 := y2.2.2.2.2.1; have p2_5 := y2.2.2.2.2.2.1; have p2_6 := y2.2.2.2.2.2.2.1; have p2_7 := y2.2.2.2.2.2.2.2; clear y2
  go_wp2_with fail
  clear p1_0 p1_1 p1_2 p1_3 p1_4 p1_5 p1_6 p1_7 p2_0 p2_1 p2_2 p2_3 p2_4 p2_5 p2_6 p2_7
  refine (play_some (G := G) (p := r) (q := s) (r := t) (s := u) (lo := zl) (hi := zh) (i := i) (Nat.le_trans hG (M.out.2.2.2.2.2.2.2.2.2).size) (H3.out.keep (M.out.2.2.2.2.2.2.2.2.2)) (H4.out.keep (M.out.2.2.2.2.2.2.2.2.2)) (H5.out.keep (M.out.2.2.2.2.2.2.2.2.2)) (H6.out.keep (M.out.2.2.2.2.2.2.2.2.2)) (Fz.mono HR.out (by omega)) (Fz.mono HS.out (by omega)) (Fz.mono HT.out (by omega)) (Fz.mono HU.out (by omega)) HRS.out HTU.out HK.out HI.out HO3.out).mono ?_
  rintro e w6 ⟨x_21, x_22, x_23, x_24, x_25, x_26, x_27, x_28, rfl, hd29, hd30, hb⟩
  replace M := Lib.hid (And.intro hd29 (And.intro hd30 (Goes.go M.out hb)))
  clear hb hd29 hd30
  have ys_x_21 := TQ.st (M.out.1); have st_x_21 := ys_x_21.1; have st_x_22 := ys_x_21.2.1; have st_x_23 := ys_x_21.2.2.1; have st_x_24 := ys_x_21.2.2.2; clear ys_x_21
  have ys_x_25 := TQ.st (M.out.2.1); have st_x_25 := ys_x_25.1; have st_x_26 := ys_x_25.2.1; have st_x_27 := ys_x_25.2.2.1; have st_x_28 := ys_x_25.2.2.2; clear ys_x_25
  go_upto_region 4 with fail
  clear st_x_21 st_x_22 st_x_23 st_x_24 st_x_25 st_x_26 st_x_27 st_x_28
  obtain ⟨w7, hv⟩ : ∃ w_ : World, w_ = (w6.alloc (.cells #[x_21, x_22, x_23, x_24, x_25, x_26, x_27, x_28] 28)) := ⟨_, rfl⟩
  rw [← hv]
  have ow5_ : w4.heap.size < w6.heap.size := ((M.out.2.2.1)).lt
  replace M := Lib.hid (And.intro (hv ▸ bx1 w6 28 #[x_21, x_22, x_23, x_24, x_25, x_26, x_27, x_28]) (Goes.go M.out (hv ▸ below_alloc _ _ : Below w6.heap.size w6 w7)))
  clear hv
  have y3 := (M.out.2.2.2.2.2.2.1).d8; have p3_0 := y3.1; have p3_1 := y3.2.1; have p3_2 := y3.2.2.1; have p3_3 := y3.2.2.2.1; have p3_4 := y3.2.2.2.2.1; have p3_5 := y3.2.2.2.2.2.1; have p3_6 := y3.2.2.2.2.2.2.1; have p3_7 := y3.2.2.2.2.2.2.2; clear y3
  have y2 := (M.out.2.2.2.2.2.2.2.2.2.1).d8; have p2_0 := y2.1; have p2_1 := y2.2.1; have p2_2 := y2.2.2.1; have p2_3 := y2.2.2.2.1; have p2_4 := y2.2.2.2.2.1; have p2_5 := y2.2.2.2.2.2.1; have p2_6 := y2.2.2.2.2.2.2.1; have p2_7 := y2.2.2.2.2.2.2.2; clear y2
  go_wp2_with fail
  clear p3_0 p3_1 p3_2 p3_3 p3_4 p3_5 p3_6 p3_7 p2_0 p2_1 p2_2 p2_3 p2_4 p2_5 p2_6 p2_7
  refine (play_some (G := G) (p := xl) (q := xh) (r := t) (s := u) (lo := ll) (hi := lh) (i := i) (Nat.le_trans hG (M.out.2.2.2.2.2.2.2.2.2.2.2.2).size) (M.out.2.2.2.2.2.2.2.1) (M.out.2.2.2.2.2.2.2.2.1) (H5.out.keep (M.out.2.2.2.2.2.2.2.2.2.2.2.2)) (H6.out.keep (M.out.2.2.2.2.2.2.2.2.2.2.2.2)) (Fz.mono HXS.out.1 (by omega)) (Fz.mono HXS.out.2 (by omega)) (Fz.mono HT.out (by omega)) (Fz.mono HU.out (by omega)) (op_le HPQ.out HRS.out HO1.out) HTU.out HK.out HI.out HO4.out).mono ?_
  rintro e w8 ⟨x_31, x_32, x_33, x_34, x_35, x_36, x_37, x_38, rfl, hd39, hd40, hb⟩
  replace M := Lib.hid (And.intro hd39 (And.intro hd40 (Goes.go M.out hb)))
  clear hb hd39 hd40
  have ys_x_31 := TQ.st (M.out.1); have st_x_31 := ys_x_31.1; have st_x_32 := ys_x_31.2.1; have st_x_33 := ys_x_31.2.2.1; have st_x_34 := ys_x_31.2.2.2; clear ys_x_31
  have ys_x_35 := TQ.st (M.out.2.1); have st_x_35 := ys_x_35.1; have st_x_36 := ys_x_35.2.1; have st_x_37 := ys_x_35.2.2.1; have st_x_38 := ys_x_35.2.2.2; clear ys_x_35
  go_upto_region 5 with fail
  clear st_x_31 st_x_32 st_x_33 st_x_34 st_x_35 st_x_36 st_x_37 st_x_38
  obtain ⟨w9, hv⟩ : ∃ w_ : World, w_ = (w8.alloc (.cells #[x_31, x_32, x_33, x_34, x_35, x_36, x_37, x_38] 28)) := ⟨_, rfl⟩
  rw [← hv]
  have ow6_ : w6.heap.size < w8.heap.size := ((M.out.2.2.1)).lt
  replace M := Lib.hid (And.intro (hv ▸ bx1 w8 28 #[x_31, x_32, x_33, x_34, x_35, x_36, x_37, x_38]) (Goes.go M.out (hv ▸ below_alloc _ _ : Below w8.heap.size w8 w9)))
  clear hv
  have y0 := (M.out.2.2.2.2.2.2.2.2.2.2.2.2.2.2.1).d8; have p0_0 := y0.1; have p0_1 := y0.2.1; have p0_2 := y0.2.2.1; have p0_3 := y0.2.2.2.1; have p0_4 := y0.2.2.2.2.1; have p0_5 := y0.2.2.2.2.2.1; have p0_6 := y0.2.2.2.2.2.2.1; have p0_7 := y0.2.2.2.2.2.2.2; clear y0
  have y5 := (M.out.2.2.2.1).d8; have p5_0 := y5.1; have p5_1 := y5.2.1; have p5_2 := y5.2.2.1; have p5_3 := y5.2.2.2.1; have p5_4 := y5.2.2.2.2.1; have p5_5 := y5.2.2.2.2.2.1; have p5_6 := y5.2.2.2.2.2.2.1; have p5_7 := y5.2.2.2.2.2.2.2; clear y5
  go_wp2_with fail
  clear p0_0 p0_1 p0_2 p0_3 p0_4 p0_5 p0_6 p0_7 p5_0 p5_1 p5_2 p5_3 p5_4 p5_5 p5_6 p5_7
  refine (play_some (G := G) (p := p) (q := q) (r := zl) (s := zh) (lo := ll) (hi := lh) (i := i) (Nat.le_trans hG (M.out.2.2.2.2.2.2.2.2.2.2.2.2.2.2.2).size) (H1.out.keep (M.out.2.2.2.2.2.2.2.2.2.2.2.2.2.2.2)) (H2.out.keep (M.out.2.2.2.2.2.2.2.2.2.2.2.2.2.2.2)) (M.out.2.2.2.2.1) (M.out.2.2.2.2.2.1) (Fz.mono HP.out (by omega)) (Fz.mono HQ.out (by omega)) (Fz.mono HZS.out.1 (by omega)) (Fz.mono HZS.out.2 (by omega)) HPQ.out (op_le HRS.out HTU.out HO3.out) HK.out HI.out HO5.out).mono ?_
  rintro e w10 ⟨x_41, x_42, x_43, x_44, x_45, x_46, x_47, x_48, rfl, hd49, hd50, hb⟩
  replace M := Lib.hid (And.intro hd49 (And.intro hd50 (Goes.go M.out hb)))
  clear hb hd49 hd50
  have ys_x_41 := TQ.st (M.out.1); have st_x_41 := ys_x_41.1; have st_x_42 := ys_x_41.2.1; have st_x_43 := ys_x_41.2.2.1; have st_x_44 := ys_x_41.2.2.2; clear ys_x_41
  have ys_x_45 := TQ.st (M.out.2.1); have st_x_45 := ys_x_45.1; have st_x_46 := ys_x_45.2.1; have st_x_47 := ys_x_45.2.2.1; have st_x_48 := ys_x_45.2.2.2; clear ys_x_45
  go_upto_region 6 with fail
  clear st_x_41 st_x_42 st_x_43 st_x_44 st_x_45 st_x_46 st_x_47 st_x_48
  obtain ⟨w11, hv⟩ : ∃ w_ : World, w_ = (w10.alloc (.cells #[x_41, x_42, x_43, x_44, x_45, x_46, x_47, x_48] 28)) := ⟨_, rfl⟩
  rw [← hv]
  have ow7_ : w8.heap.size < w10.heap.size := ((M.out.2.2.1)).lt
  replace M := Lib.hid (And.intro (hv ▸ bx1 w10 28 #[x_41, x_42, x_43, x_44, x_45, x_46, x_47, x_48]) (Goes.go M.out (hv ▸ below_alloc _ _ : Below w10.heap.size w10 w11)))
  clear hv
  have y3 := (M.out.2.2.2.2.2.2.2.2.2.2.2.2.1).d8; have p3_0 := y3.1; have p3_1 := y3.2.1; have p3_2 := y3.2.2.1; have p3_3 := y3.2.2.2.1; have p3_4 := y3.2.2.2.2.1; have p3_5 := y3.2.2.2.2.2.1; have p3_6 := y3.2.2.2.2.2.2.1; have p3_7 := y3.2.2.2.2.2.2.2; clear y3
  have y4 := (M.out.2.2.2.2.2.2.2.2.2.1).d8; have p4_0 := y4.1; have p4_1 := y4.2.1; have p4_2 := y4.2.2.1; have p4_3 := y4.2.2.2.1; have p4_4 := y4.2.2.2.2.1; have p4_5 := y4.2.2.2.2.2.1; have p4_6 := y4.2.2.2.2.2.2.1; have p4_7 := y4.2.2.2.2.2.2.2; clear y4
  go_wp2_with fail
  clear p3_0 p3_1 p3_2 p3_3 p3_4 p3_5 p3_6 p3_7 p4_0 p4_1 p4_2 p4_3 p4_4 p4_5 p4_6 p4_7
  refine (spSame_q (G := G) (p := xl) (q := xh) (r := xl) (s := xh) (M.out.2.2.2.2.2.2.2.2.2.2.2.2.2.1) (M.out.2.2.2.2.2.2.2.2.2.2.2.2.2.2.1) (M.out.2.2.2.2.2.2.2.2.2.2.1) (M.out.2.2.2.2.2.2.2.2.2.2.2.1) (Fz.mono HXS.out.1 (by omega)) (Fz.mono HXS.out.2 (by omega)) rfl rfl).mono ?_
  rintro e w12 ⟨rfl, hb⟩
  replace M := Lib.hid (Goes.go M.out hb)
  clear hb
  have y6 := (M.out.2.2.2.1).d8; have p6_0 := y6.1; have p6_1 := y6.2.1; have p6_2 := y6.2.2.1; have p6_3 := y6.2.2.2.1; have p6_4 := y6.2.2.2.2.1; have p6_5 := y6.2.2.2.2.2.1; have p6_6 := y6.2.2.2.2.2.2.1; have p6_7 := y6.2.2.2.2.2.2.2; clear y6
  have y7 := (M.out.1).d8; have p7_0 := y7.1; have p7_1 := y7.2.1; have p7_2 := y7.2.2.1; have p7_3 := y7.2.2.2.1; have p7_4 := y7.2.2.2.2.1; have p7_5 := y7.2.2.2.2.2.1; have p7_6 := y7.2.2.2.2.2.2.1; have p7_7 := y7.2.2.2.2.2.2.2; clear y7
  go_wp2_with fail
  clear p6_0 p6_1 p6_2 p6_3 p6_4 p6_5 p6_6 p6_7 p7_0 p7_1 p7_2 p7_3 p7_4 p7_5 p7_6 p7_7
  refine (spSame_q (G := G) (p := ll) (q := lh) (r := ll) (s := lh) (M.out.2.2.2.2.1) (M.out.2.2.2.2.2.1) (M.out.2.1) (M.out.2.2.1) (Fz.mono HLS.out.1 (by omega)) (Fz.mono HLS.out.2 (by omega)) rfl rfl).mono ?_
  rintro e w13 ⟨rfl, hb⟩
  replace M := Lib.hid (Goes.go M.out hb)
  clear hb
  go_wp2_with fail
  go_ret
  exact ⟨rfl, (M.out.2.2.2.2.2.2.2.2.2.2.2.2.2.2.2.2.2.2)⟩
end Go.Proofs.Ytjbfngjlepafgaa
