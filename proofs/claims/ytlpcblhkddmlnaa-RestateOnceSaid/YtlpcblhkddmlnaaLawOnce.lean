/- RestateOnce: whatever the arguments, it returns true. -/
import Derived.Test.YtlpcblhkddmlnaaBase
import Derived.Test.YtlpcblhkddmlnaaBigSpec
import Derived.Test.YtlpcblhkddmlnaaBigB
import Derived.Test.YtlpcblhkddmlnaaBigD
import Derived.Test.YtlpcblhkddmlnaaBigL
import Derived.Test.YtlpcblhkddmlnaaBigQ
import Derived.Test.YtlpcblhkddmlnaaFd
import Derived.Test.YtlpcblhkddmlnaaBxD
import Derived.Test.YtlpcblhkddmlnaaFz
import Derived.Test.YtlpcblhkddmlnaaFracR
import Derived.Test.YtlpcblhkddmlnaaRw
import Derived.Test.YtlpcblhkddmlnaaReA
import Derived.Test.YtlpcblhkddmlnaaReB
import Derived.Test.YtlpcblhkddmlnaaReD
import Derived.Test.YtlpcblhkddmlnaaReP
import Derived.Test.YtlpcblhkddmlnaaReS
import Derived.Test.YtlpcblhkddmlnaaReQ
import Derived.Test.YtlpcblhkddmlnaaProg
import Derived.Test.YtlpcblhkddmlnaaShelf
import Derived.WalkKit
import Derived.WalkSpells
import Derived.WalkLawsBesides
import Derived.Handy
import Derived.Lib.Hide
import Derived.Lib.Strings
import Derived.Lib.Builder
import Derived.BigQuiet
import Derived.OwnWalk
import Derived.Laws.BitsLemmas
import Derived.WalkSmall
import Derived.Deep.QuietTactic
import Derived.StillTailTactics
import Derived.Maps.AppendAt
import Derived.IntWalk
import Derived.Deep.RegionHeld3
import Derived.Deep.DeepFit
import Derived.Deep.LoopGhost
import Derived.Deep.DeepCutAuto
import Derived.Lib.ItoaNum
import Derived.Lib.Repeat
import Derived.Lib.AppendIntMem
import Derived.Sort.OwnSorted
import Derived.Shelf.Strings.SlTrimAscii
import Derived.Lib.ConvBytes
import Derived.Lib.CutLaws
import Derived.Maps.Own
import Derived.Maps.Views
import Derived.Maps.OwnOps
import Derived.RangeFuncNested
import Derived.RangeFuncBound
import Derived.RangeFuncCalls
import Derived.RangeFuncLeaves
import Derived.Shelf.Abstract
import Derived.Shelf.RegionOpen
import Derived.OwnWalkIn
import Derived.TacticsInMore
import Derived.LoopNIn
import Derived.LoopIn
namespace Go.Proofs.Ytlpcblhkddmlnaa
open Go.RowKit Go.Lib
variable {G : Nat}

set_option maxRecDepth 100000 in
set_option maxHeartbeats 4000000 in
theorem once_walk {ls : List SR} {a : Option Addr} {n c : Nat} {w : World} (h : RdR w.heap.size w a n c ls) (_hn0 : n ≤ 9223372036854775807) {key other : ByteArray} {note lt : Int} (hlt : 0 ≤ lt ∧ lt < 256) {u0 u1 u2 u3 v0 v1 v2 v3 : Value} {n1 m1 n2 m2 : Nat} {o1 o2 : Option Rat} (h1 : FX w u0 u1 u2 u3 n1 m1 o1) (h2 : FX w v0 v1 v2 v3 n2 m2 o2)  :
    Calls Try.prog 5 #[.slice a n c, .string key, .string other, .int .i64 note, .int .u8 lt, .agg #[u0, u1, u2, u3, v0, v1, v2, v3]] w fun e w' => e = .returned (.bool true) ∧ Below w.heap.size w w' := by
  obtain ⟨G, hG0⟩ : ∃ G : Nat, G = w.heap.size := ⟨_, rfl⟩
  have hG : G ≤ w.heap.size := by omega
  have HL0 : Hid (RdR w.heap.size w a n c ls) := h
  obtain ⟨b1, hb1_⟩ : ∃ b, fewL 30 ls = b := ⟨_, rfl⟩
  have Hb1 := Lib.hid hb1_; clear hb1_
  obtain ⟨k1, hk1_⟩ : ∃ b, decide (70 < key.size) = b := ⟨_, rfl⟩
  have hk1i : decide ((70 : Int) < (key.size : Int)) = k1 := by rw [← hk1_]; exact decide_eq_decide.2 (by omega)
  obtain ⟨k2, hk2_⟩ : ∃ b, decide (70 < other.size) = b := ⟨_, rfl⟩
  have hk2i : decide ((70 : Int) < (other.size : Int)) = k2 := by rw [← hk2_]; exact decide_eq_decide.2 (by omega)
  obtain ⟨fs, hfs_⟩ : ∃ b, (decide (n1 ≤ 3) && decide (m1 ≤ 3) && (decide (n2 ≤ 3) && decide (m2 ≤ 3))) = b := ⟨_, rfl⟩
  have Hfs := Lib.hid hfs_; clear hfs_
  obtain ⟨rt, hrt_⟩ : ∃ b, rightL keyOk ls = b := ⟨_, rfl⟩
  have Hrt := Lib.hid hrt_; clear hrt_
  obtain ⟨b6, hb6_⟩ : ∃ b, (!decide (other = key)) = b := ⟨_, rfl⟩
  have Hb6 := Lib.hid hb6_; clear hb6_
  have hkt2 : (other.toList != key.toList) = b6 := by rw [← Hb6.out, bne, tl_eq]
  have hkt : (other.toList == key.toList) = !b6 := by rw [← Hb6.out, tl_eq, Bool.not_not]
  obtain ⟨b8, hb8⟩ : ∃ b, decide (1099511627476 < note) = b := ⟨_, rfl⟩
  have hlt0 := hlt.1; have hlt1 := hlt.2; clear hlt
  have HR0 : Hid (RdR G w a n c ls) := (by show RdR _ _ _ _ _ _; rw [hG0]; exact HL0.out)
  have H1 : Hid (FX w u0 u1 u2 u3 n1 m1 o1) := h1
  have H2 : Hid (FX w v0 v1 v2 v3 n2 m2 o2) := h2
  clear h h1 h2
  have M : Hid (Below w.heap.size w w) := Below.refl _ _
  go_enter Try.func5, Try.ntmps5
  go_upto_region 1 with fail
  obtain ⟨w1, hv⟩ : ∃ w_ : World, w_ = (w.alloc (.cells #[u0, u1, u2, u3, v0, v1, v2, v3] 29)) := ⟨_, rfl⟩
  rw [← hv]
  replace M := Lib.hid (And.intro (hv ▸ bx1 w 29 #[u0, u1, u2, u3, v0, v1, v2, v3]) (Goes.go M.out (hv ▸ below_alloc _ _ : Below w.heap.size w w1)))
  clear hv
  go_wp2_with fail
  refine (reSmall (G := G) (Nat.le_trans hG (M.out.2).size)).mono ?_
  rintro e w2 ⟨rfl, hb⟩
  replace M := Lib.hid (Goes.go M.out hb)
  clear hb
  go_wp2_with fail
  refine (reFew30 (G := G) (l := ls) (b_ := b1) (HR0.out.keep (M.out.2)) (by omega) Hb1.out).mono ?_
  rintro e w3 ⟨rfl, hb⟩
  replace M := Lib.hid (Goes.go M.out hb)
  clear hb
  cases b1 with
  | false =>
    go_wp2_with fail
    go_ret
    exact ⟨rfl, (M.out.2)⟩
  | true =>
    have hs_ := few_all Hb1.out
    have HSM := Lib.hid hs_.1
    have hn1 : n ≤ 30 := by have h_ := HL0.out.len; have h2_ := hs_.2; omega
    clear hs_
    cases k1 with
    | false =>
      cases k2 with
      | false =>
        have y0 := (M.out.1).d8; have p0_0 := y0.1; have p0_1 := y0.2.1; have p0_2 := y0.2.2.1; have p0_3 := y0.2.2.2.1; have p0_4 := y0.2.2.2.2.1; have p0_5 := y0.2.2.2.2.2.1; have p0_6 := y0.2.2.2.2.2.2.1; have p0_7 := y0.2.2.2.2.2.2.2; clear y0
        go_wp2_with fail
        clear p0_0 p0_1 p0_2 p0_3 p0_4 p0_5 p0_6 p0_7
        refine (reFewSpan (o1 := o1) (o2 := o2) (f1 := (decide (n1 ≤ 3) && decide (m1 ≤ 3))) (f2 := (decide (n2 ≤ 3) && decide (m2 ≤ 3))) (b_ := fs) (H1.out.keep (M.out.2)) (H2.out.keep (M.out.2)) rfl rfl Hfs.out).mono ?_
        rintro e w4 ⟨rfl, hb⟩
        replace M := Lib.hid (Goes.go M.out hb)
        clear hb
        cases fs with
        | false =>
          go_wp2_with fail
          go_ret
          exact ⟨rfl, (M.out.2)⟩
        | true =>
          go_wp2_with fail
          refine (reRight_g (G := G) (l := ls) (b_ := rt) (Nat.le_trans hG (M.out.2).size) (HR0.out.keep (M.out.2)) (by omega) HSM.out Hrt.out).mono ?_
          rintro e w5 ⟨rfl, hb⟩
          replace M := Lib.hid (Goes.go M.out hb)
          clear hb
          cases rt with
          | false =>
            go_wp2_with fail
            go_ret
            exact ⟨rfl, (M.out.2)⟩
          | true =>
            go_upto_region 4 with fail
            have hr_ := rightL_ok Hrt.out
            obtain ⟨l, hl⟩ : ∃ l, l = ls.map toC := ⟨_, rfl⟩
            have HC0 : Hid (RdC G w a n c l) := by show RdC _ _ _ _ _ _; rw [hG0, hl]; exact HL0.out.toC hr_.1
            have HOK : Hid (OkL keyOk (l.map SC.sh)) := by show OkL _ _; rw [hl, List.map_map]; exact hr_.2
            have HZ3 : Hid (FzL l 3) := by show FzL _ _; rw [hl]; exact fz_toC HL0.out hr_.1 HSM.out
            clear hr_ hl
            have hf_ := fx_few Hfs.out
            have HF1 := Lib.hid (few_of hf_.1); have HF2 := Lib.hid (few_of hf_.2)
            have HQ1 : Hid (∀ q, o1 = some q → FQ G w u0 u1 u2 u3 q ∧ Fz q 3) := by rw [hG0]; exact fx_q H1.out hf_.1
            have HQ2 : Hid (∀ q, o2 = some q → FQ G w v0 v1 v2 v3 q ∧ Fz q 3) := by rw [hG0]; exact fx_q H2.out hf_.2
            clear hf_
            rcases x_ways (l.map SC.sh) key note o1 o2 with hbad | ⟨q, r, rs, ho1_, ho2_, hos, hsh⟩
            ·
              have HBAD := Lib.hid hbad
              have y0 := (M.out.1).d8; have p0_0 := y0.1; have p0_1 := y0.2.1; have p0_2 := y0.2.2.1; have p0_3 := y0.2.2.2.1; have p0_4 := y0.2.2.2.2.1; have p0_5 := y0.2.2.2.2.2.1; have p0_6 := y0.2.2.2.2.2.2.1; have p0_7 := y0.2.2.2.2.2.2.2; clear y0
              go_wp2_with fail
              clear p0_0 p0_1 p0_2 p0_3 p0_4 p0_5 p0_6 p0_7
              refine (reShow_err (G := G) (key := key) (note := note) (o1 := o1) (o2 := o2) (l := l) (Nat.le_trans hG (M.out.2).size) (HC0.out.keep (M.out.2)) HOK.out (fun x_ hx_ => ⟨(HZ3.out x_ hx_).1.mono (by omega), (HZ3.out x_ hx_).2.mono (by omega)⟩) (H1.out.keep (M.out.2)) (H2.out.keep (M.out.2)) HF1.out HF2.out (fun q_ h_ => ⟨(HQ1.out q_ h_).1.keep (M.out.2), (HQ1.out q_ h_).2.mono (by omega)⟩) (fun q_ h_ => ⟨(HQ2.out q_ h_).1.keep (M.out.2), (HQ2.out q_ h_).2.mono (by omega)⟩) HBAD.out).mono ?_
              rintro e w6 ⟨a_1, c_2, er_3, rfl, hu4, hb⟩
              replace M := Lib.hid (Goes.go M.out hb)
              clear hb
              replace hu4 := Lib.hid hu4
              have en1_er_3 : (er_3 == 0) = false := beq_false_of_ne hu4.out
              have en2_er_3 : (er_3 != 0) = true := bne_iff_ne.2 hu4.out
              have en3_er_3 : ¬ er_3 = 0 := hu4.out
              go_wp2_with fail
              go_ret
              exact ⟨rfl, (M.out.2)⟩
            ·
              subst ho1_ ho2_
              have HQq : Hid (FQ G w u0 u1 u2 u3 q) := (HQ1.out q rfl).1
              have HQr : Hid (FQ G w v0 v1 v2 v3 r) := (HQ2.out r rfl).1
              have HZq : Hid (Fz q 3) := (HQ1.out q rfl).2
              have HZr : Hid (Fz r 3) := (HQ2.out r rfl).2
              have hnt0_ : 0 ≤ note := hos.2.1
              have HOS := Lib.hid hos
              have HSH := Lib.hid hsh
              obtain ⟨k1_, k2_, ⟨⟨yk, yn, yq, yr⟩, k3_, k4_, hyn⟩, k5_, k6_⟩ := show_ok HOK.out hos hsh
              dsimp only at k4_ hyn
              obtain ⟨rfl, rfl⟩ := k4_
              have HK1 := Lib.hid k1_; have HK2 := Lib.hid k2_; have HK3 := Lib.hid k3_; clear k1_ k2_ k3_ k5_ k6_ hsh hos
              have e8 : decide (note < yn) = false := decide_eq_false (by omega)
              have e8i : ¬ note < yn := by omega
              have y0 := (M.out.1).d8; have p0_0 := y0.1; have p0_1 := y0.2.1; have p0_2 := y0.2.2.1; have p0_3 := y0.2.2.2.1; have p0_4 := y0.2.2.2.2.1; have p0_5 := y0.2.2.2.2.2.1; have p0_6 := y0.2.2.2.2.2.2.1; have p0_7 := y0.2.2.2.2.2.2.2; clear y0
              go_wp2_with fail
              clear p0_0 p0_1 p0_2 p0_3 p0_4 p0_5 p0_6 p0_7
              refine (reShow_c (G := G) (key := key) (note := note) (q := yq) (r := yr) (er := 0) (rs := rs) (l := l) (Nat.le_trans hG (M.out.2).size) (HC0.out.keep (M.out.2)) HOK.out (fun x_ hx_ => ⟨(HZ3.out x_ hx_).1.mono (by omega), (HZ3.out x_ hx_).2.mono (by omega)⟩) (HQq.out.keep (M.out.2)) (HQr.out.keep (M.out.2)) (Fz.mono HZq.out (by omega)) (Fz.mono HZr.out (by omega)) HOS.out HSH.out).mono ?_
              rintro e w6 ⟨a_5, n_6, c_7, l_8, rfl, hd9, hu10, hb⟩
              replace M := Lib.hid (And.intro hd9 (Goes.go M.out hb))
              clear hb hd9
              replace hu10 := Lib.hid hu10
              have HL2 : Hid (OkL keyOk (l_8.map SC.sh)) := by show OkL _ _; rw [hu10.out]; exact HK1.out
              have HZL2 : Hid (FzL l_8 3) := (show_fz HK2.out HZ3.out.fzs HZq.out HZr.out).fzl hu10.out
              have hn2a_ : n ≤ n_6 ∧ n_6 ≤ n + 1 := by have h_ := show_len HK2.out; have h2_ := map_len hu10.out ((M.out.1)).len; rw [← h2_, List.length_map, HC0.out.len] at h_; exact h_
              have hn2b_ := hn2a_.1
              have hn2c_ := hn2a_.2
              have e9_0 : decide (n_6 < n) = false := decide_eq_false (by omega)
              have e9_1 : decide ((n_6 : Int) < (n : Int)) = false := decide_eq_false (by omega)
              have e9_i : ¬ (n_6 : Int) < (n : Int) := by omega
              have e10 : decide ((n : Int) + 1 < (n_6 : Int)) = false := decide_eq_false (by omega)
              have e10_ : decide (n + 1 < n_6) = false := decide_eq_false (by omega)
              have e10i : ¬ (n : Int) + 1 < (n_6 : Int) := by omega
              go_wp2_with fail
              refine (reLast_some (G := G) (key := key) (yk := yk) (yn := yn) (yq := yq) (yr := yr) (l := l_8) (Nat.le_trans hG (M.out.2.2).size) (M.out.1) HL2.out (fun x_ hx_ => ⟨(HZL2.out x_ hx_).1.mono (by omega), (HZL2.out x_ hx_).2.mono (by omega)⟩) (by rw [hu10.out]; exact HK3.out)).mono ?_
              rintro e w7 ⟨x_11, x_12, x_13, x_14, x_15, x_16, x_17, x_18, rfl, hd19, hd20, hb⟩
              replace M := Lib.hid (And.intro hd19 (And.intro hd20 (Goes.go M.out hb)))
              clear hb hd19 hd20
              have ys_x_11 := TQ.st (M.out.1); have st_x_11 := ys_x_11.1; have st_x_12 := ys_x_11.2.1; have st_x_13 := ys_x_11.2.2.1; have st_x_14 := ys_x_11.2.2.2; clear ys_x_11
              have ys_x_15 := TQ.st (M.out.2.1); have st_x_15 := ys_x_15.1; have st_x_16 := ys_x_15.2.1; have st_x_17 := ys_x_15.2.2.1; have st_x_18 := ys_x_15.2.2.2; clear ys_x_15
              go_upto_region 8 with fail
              clear st_x_11 st_x_12 st_x_13 st_x_14 st_x_15 st_x_16 st_x_17 st_x_18
              obtain ⟨w8, hv⟩ : ∃ w_ : World, w_ = (w7.alloc (.cells #[.string yk, .int .i64 yn, x_11, x_12, x_13, x_14, x_15, x_16, x_17, x_18] 37)) := ⟨_, rfl⟩
              rw [← hv]
              have ow1_ : w.heap.size < w7.heap.size := ((M.out.2.2.2.1)).lt
              replace M := Lib.hid (And.intro (hv ▸ bx1 w7 37 #[.string yk, .int .i64 yn, x_11, x_12, x_13, x_14, x_15, x_16, x_17, x_18]) (Goes.go M.out (hv ▸ below_alloc _ _ : Below w7.heap.size w7 w8)))
              clear hv
              have y1 := (M.out.1).d10; have p1_0 := y1.1; have p1_1 := y1.2.1; have p1_2 := y1.2.2.1; have p1_3 := y1.2.2.2.1; have p1_4 := y1.2.2.2.2.1; have p1_5 := y1.2.2.2.2.2.1; have p1_6 := y1.2.2.2.2.2.2.1; have p1_7 := y1.2.2.2.2.2.2.2.1; have p1_8 := y1.2.2.2.2.2.2.2.2.1; have p1_9 := y1.2.2.2.2.2.2.2.2.2; clear y1
              have y0 := (M.out.2.2.2.2.1).d8; have p0_0 := y0.1; have p0_1 := y0.2.1; have p0_2 := y0.2.2.1; have p0_3 := y0.2.2.2.1; have p0_4 := y0.2.2.2.2.1; have p0_5 := y0.2.2.2.2.2.1; have p0_6 := y0.2.2.2.2.2.2.1; have p0_7 := y0.2.2.2.2.2.2.2; clear y0
              go_wp2_with fail
              clear p1_0 p1_1 p1_2 p1_3 p1_4 p1_5 p1_6 p1_7 p1_8 p1_9 p0_0 p0_1 p0_2 p0_3 p0_4 p0_5 p0_6 p0_7
              refine (reSameSpan_b (G := G) (p := yq) (q := yr) (r := yq) (s := yr) (b_ := true) (M.out.2.1) (M.out.2.2.1) (HQq.out.keep (M.out.2.2.2.2.2)) (HQr.out.keep (M.out.2.2.2.2.2)) (Fz.mono HZq.out (by omega)) (Fz.mono HZr.out (by omega)) (Fz.mono HZq.out (by omega)) (Fz.mono HZr.out (by omega)) (eq_both ⟨rfl, rfl⟩)).mono ?_
              rintro e w9 ⟨rfl, hb⟩
              replace M := Lib.hid (Goes.go M.out hb)
              clear hb
              cases b6 with
              | false =>
                cases b8 with
                | false =>
                  have hb8i : note ≤ 1099511627476 := by have h_ := hb8; simp at h_; omega
                  have y1 := (M.out.1).d10; have p1_0 := y1.1; have p1_1 := y1.2.1; have p1_2 := y1.2.2.1; have p1_3 := y1.2.2.2.1; have p1_4 := y1.2.2.2.2.1; have p1_5 := y1.2.2.2.2.2.1; have p1_6 := y1.2.2.2.2.2.2.1; have p1_7 := y1.2.2.2.2.2.2.2.1; have p1_8 := y1.2.2.2.2.2.2.2.2.1; have p1_9 := y1.2.2.2.2.2.2.2.2.2; clear y1
                  have y0 := (M.out.2.2.2.2.1).d8; have p0_0 := y0.1; have p0_1 := y0.2.1; have p0_2 := y0.2.2.1; have p0_3 := y0.2.2.2.1; have p0_4 := y0.2.2.2.2.1; have p0_5 := y0.2.2.2.2.2.1; have p0_6 := y0.2.2.2.2.2.2.1; have p0_7 := y0.2.2.2.2.2.2.2; clear y0
                  go_wp2_with fail
                  clear p1_0 p1_1 p1_2 p1_3 p1_4 p1_5 p1_6 p1_7 p1_8 p1_9 p0_0 p0_1 p0_2 p0_3 p0_4 p0_5 p0_6 p0_7
                  replace M := Lib.hid (And.intro (M.out.2.2.2.1) (M.out.2.2.2.2.2))
                  refine (reShow_c (G := G) (key := key) (note := (note + lt)) (q := yq) (r := yr) (er := 0) (rs := rs) (l := l_8) (Nat.le_trans hG (M.out.2).size) (M.out.1) HL2.out (fun x_ hx_ => ⟨(HZL2.out x_ hx_).1.mono (by omega), (HZL2.out x_ hx_).2.mono (by omega)⟩) (HQq.out.keep (M.out.2)) (HQr.out.keep (M.out.2)) (Fz.mono HZq.out (by omega)) (Fz.mono HZr.out (by omega)) ⟨HOS.out.1, (by show 0 ≤ note + lt; omega), (by show note + lt ≤ 1099511627776; omega), HOS.out.2.2.2⟩ (by rw [hu10.out]; exact show_again HOK.out HOS.out HSH.out (show note ≤ note + lt by omega))).mono ?_
                  rintro e w10 ⟨a_21, n_22, c_23, l_24, rfl, hd25, hu26, hb⟩
                  replace M := Lib.hid (And.intro hd25 (Goes.go M.out hb))
                  clear hb hd25
                  replace hu26 := Lib.hid hu26
                  have hn3_ : n_22 ≤ 1000000 := by have h2_ := map_len hu26.out ((M.out.1)).len; have h3_ := map_len hu10.out ((M.out.2.1)).len; omega
                  go_wp2_with fail
                  refine (reSame (G := G) (l := l_8) (m := l_24) (b_ := true) (M.out.2.1) (M.out.1) (by omega) (by omega) (fun x_ hx_ => ⟨(HZL2.out x_ hx_).1.mono (by omega), (HZL2.out x_ hx_).2.mono (by omega)⟩) (FzS.fzl (fun x_ hx_ => ⟨(show_fz HK2.out HZ3.out.fzs HZq.out HZr.out x_ hx_).1.mono (by omega), (show_fz HK2.out HZ3.out.fzs HZq.out HZr.out x_ hx_).2.mono (by omega)⟩) hu26.out) (decide_eq_true (by rw [hu10.out, hu26.out]))).mono ?_
                  rintro e w11 ⟨rfl, hb⟩
                  replace M := Lib.hid (Goes.go M.out hb)
                  clear hb
                  go_wp2_with fail
                  go_ret
                  exact ⟨rfl, (M.out.2.2)⟩
                | true =>
                  have hb8i : 1099511627476 < note := by have h_ := hb8; simp at h_; omega
                  have y1 := (M.out.1).d10; have p1_0 := y1.1; have p1_1 := y1.2.1; have p1_2 := y1.2.2.1; have p1_3 := y1.2.2.2.1; have p1_4 := y1.2.2.2.2.1; have p1_5 := y1.2.2.2.2.2.1; have p1_6 := y1.2.2.2.2.2.2.1; have p1_7 := y1.2.2.2.2.2.2.2.1; have p1_8 := y1.2.2.2.2.2.2.2.2.1; have p1_9 := y1.2.2.2.2.2.2.2.2.2; clear y1
                  go_wp2_with fail
                  clear p1_0 p1_1 p1_2 p1_3 p1_4 p1_5 p1_6 p1_7 p1_8 p1_9
                  go_ret
                  exact ⟨rfl, (M.out.2.2.2.2.2)⟩
              | true =>
                have y1 := (M.out.1).d10; have p1_0 := y1.1; have p1_1 := y1.2.1; have p1_2 := y1.2.2.1; have p1_3 := y1.2.2.2.1; have p1_4 := y1.2.2.2.2.1; have p1_5 := y1.2.2.2.2.2.1; have p1_6 := y1.2.2.2.2.2.2.1; have p1_7 := y1.2.2.2.2.2.2.2.1; have p1_8 := y1.2.2.2.2.2.2.2.2.1; have p1_9 := y1.2.2.2.2.2.2.2.2.2; clear y1
                go_wp2_with fail
                clear p1_0 p1_1 p1_2 p1_3 p1_4 p1_5 p1_6 p1_7 p1_8 p1_9
                refine (reAll (G := G) (key := other) (l := l_8) (Nat.le_trans hG (M.out.2.2.2.2.2).size) (M.out.2.2.2.1) HL2.out (fun x_ hx_ => ⟨(HZL2.out x_ hx_).1.mono (by omega), (HZL2.out x_ hx_).2.mono (by omega)⟩)).mono ?_
                rintro e w10 ⟨a_27, n_28, c_29, l_30, rfl, hd31, hu32, hb⟩
                replace M := Lib.hid (And.intro hd31 (Goes.go M.out hb))
                clear hb hd31
                replace hu32 := Lib.hid hu32
                have hna_l_8 : n_28 ≤ 1000000 := by have h_ := all_len hu32.out; rw [((M.out.1)).len] at h_; have h2_ := ((M.out.2.2.2.2.1)).len; omega
                have HZA_l_8 : Hid (FzL l_30 3) := (HZL2.out.fzs.all).fzl hu32.out
                go_wp2_with fail
                refine (reAll (G := G) (key := other) (l := l) (Nat.le_trans hG (M.out.2.2.2.2.2.2).size) (HC0.out.keep (M.out.2.2.2.2.2.2)) HOK.out (fun x_ hx_ => ⟨(HZ3.out x_ hx_).1.mono (by omega), (HZ3.out x_ hx_).2.mono (by omega)⟩)).mono ?_
                rintro e w11 ⟨a_33, n_34, c_35, l_36, rfl, hd37, hu38, hb⟩
                replace M := Lib.hid (And.intro hd37 (Goes.go M.out hb))
                clear hb hd37
                replace hu38 := Lib.hid hu38
                have hna_l : n_34 ≤ 1000000 := by have h_ := all_len hu38.out; rw [((M.out.1)).len] at h_; have h2_ := HC0.out.len; omega
                have HZA_l : Hid (FzL l_36 3) := (HZ3.out.fzs.all).fzl hu38.out
                go_wp2_with fail
                refine (reSame (G := G) (l := l_30) (m := l_36) (b_ := true) (M.out.2.1) (M.out.1) (by omega) (by omega) (fun x_ hx_ => ⟨(HZA_l_8.out x_ hx_).1.mono (by omega), (HZA_l_8.out x_ hx_).2.mono (by omega)⟩) (fun x_ hx_ => ⟨(HZA_l.out x_ hx_).1.mono (by omega), (HZA_l.out x_ hx_).2.mono (by omega)⟩) (decide_eq_true (by rw [hu32.out, hu38.out, hu10.out]; exact all_other HK2.out (fun h_ => by have h2_ := Hb6.out; rw [h_] at h2_; simp at h2_)))).mono ?_
                rintro e w12 ⟨rfl, hb⟩
                replace M := Lib.hid (Goes.go M.out hb)
                clear hb
                cases b8 with
                | false =>
                  have hb8i : note ≤ 1099511627476 := by have h_ := hb8; simp at h_; omega
                  have y0 := (M.out.2.2.2.2.2.2.1).d8; have p0_0 := y0.1; have p0_1 := y0.2.1; have p0_2 := y0.2.2.1; have p0_3 := y0.2.2.2.1; have p0_4 := y0.2.2.2.2.1; have p0_5 := y0.2.2.2.2.2.1; have p0_6 := y0.2.2.2.2.2.2.1; have p0_7 := y0.2.2.2.2.2.2.2; clear y0
                  go_wp2_with fail
                  clear p0_0 p0_1 p0_2 p0_3 p0_4 p0_5 p0_6 p0_7
                  replace M := Lib.hid (And.intro (M.out.1) (And.intro (M.out.2.1) (And.intro (M.out.2.2.2.2.2.1) (M.out.2.2.2.2.2.2.2))))
                  refine (reShow_c (G := G) (key := key) (note := (note + lt)) (q := yq) (r := yr) (er := 0) (rs := rs) (l := l_8) (Nat.le_trans hG (M.out.2.2.2).size) (M.out.2.2.1) HL2.out (fun x_ hx_ => ⟨(HZL2.out x_ hx_).1.mono (by omega), (HZL2.out x_ hx_).2.mono (by omega)⟩) (HQq.out.keep (M.out.2.2.2)) (HQr.out.keep (M.out.2.2.2)) (Fz.mono HZq.out (by omega)) (Fz.mono HZr.out (by omega)) ⟨HOS.out.1, (by show 0 ≤ note + lt; omega), (by show note + lt ≤ 1099511627776; omega), HOS.out.2.2.2⟩ (by rw [hu10.out]; exact show_again HOK.out HOS.out HSH.out (show note ≤ note + lt by omega))).mono ?_
                  rintro e w13 ⟨a_39, n_40, c_41, l_42, rfl, hd43, hu44, hb⟩
                  replace M := Lib.hid (And.intro hd43 (Goes.go M.out hb))
                  clear hb hd43
                  replace hu44 := Lib.hid hu44
                  have hn3_ : n_40 ≤ 1000000 := by have h2_ := map_len hu44.out ((M.out.1)).len; have h3_ := map_len hu10.out ((M.out.2.2.2.1)).len; omega
                  go_wp2_with fail
                  refine (reSame (G := G) (l := l_8) (m := l_42) (b_ := true) (M.out.2.2.2.1) (M.out.1) (by omega) (by omega) (fun x_ hx_ => ⟨(HZL2.out x_ hx_).1.mono (by omega), (HZL2.out x_ hx_).2.mono (by omega)⟩) (FzS.fzl (fun x_ hx_ => ⟨(show_fz HK2.out HZ3.out.fzs HZq.out HZr.out x_ hx_).1.mono (by omega), (show_fz HK2.out HZ3.out.fzs HZq.out HZr.out x_ hx_).2.mono (by omega)⟩) hu44.out) (decide_eq_true (by rw [hu10.out, hu44.out]))).mono ?_
                  rintro e w14 ⟨rfl, hb⟩
                  replace M := Lib.hid (Goes.go M.out hb)
                  clear hb
                  go_wp2_with fail
                  go_ret
                  exact ⟨rfl, (M.out.2.2.2.2)⟩
                | true =>
                  have hb8i : 1099511627476 < note := by have h_ := hb8; simp at h_; omega
                  go_wp2_with fail
                  go_ret
                  exact ⟨rfl, (M.out.2.2.2.2.2.2.2)⟩
      | true =>
        go_wp2_with fail
        go_ret
        exact ⟨rfl, (M.out.2)⟩
    | true =>
      go_wp2_with fail
      go_ret
      exact ⟨rfl, (M.out.2)⟩
end Go.Proofs.Ytlpcblhkddmlnaa
