/- The walk of BigOrder: whatever the arguments, it returns true. -/
import Derived.Test.YtlinegodpoihoaaDoorLaw04c
namespace Go.Proofs.YtlinegodpoihoaaDoor
open Go.RowKit Go.Lib
variable {G : Nat}

theorem ord_sg (x y : Int) : ord x y = sg (x - y) := by
  unfold ord
  rcases Int.lt_trichotomy x y with h | h | h
  · rw [if_pos h, sg_neg (by omega)]
  · subst h; rw [if_neg (by omega), if_neg (by omega), Int.sub_self]; rfl
  · rw [if_neg (by omega), if_pos h, sg_pos (by omega)]
theorem ord_swap (x y : Int) : ord y x = -ord x y := by
  rw [ord_sg, ord_sg]; unfold sg
  rw [show y - x = -(x - y) by omega, Int.sign_neg]
theorem ord_plus (x y v : Int) : ord (x + v) (y + v) = ord x y := by
  rw [ord_sg, ord_sg]; congr 1; omega
theorem ord_times (x y v : Int) : ord (x * v) (y * v) = ord x y * sg v := by
  rw [ord_sg, ord_sg, ← Int.sub_mul]; unfold sg; rw [Int.sign_mul]
theorem ord_zero (x y : Int) : (ord x y == 0) = eqZ x y := by
  unfold ord eqZ
  rcases Int.lt_trichotomy x y with h | h | h
  · rw [if_pos h, decide_eq_false (by omega)]; rfl
  · subst h; rw [if_neg (by omega), if_neg (by omega)]; simp
  · rw [if_neg (by omega), if_pos h, decide_eq_false (by omega)]; rfl
theorem ord_range (x y : Int) : ord x y = -1 ∨ ord x y = 0 ∨ ord x y = 1 := by unfold ord; split <;> (try split) <;> simp
theorem ord_chain {x y v : Int} (h1 : ¬ 0 < ord x y) (h2 : ¬ 0 < ord y v) : ord x v ≤ 0 := by
  unfold ord at *
  split at h1 <;> split at h2 <;> split <;> (try split) <;> (try split at h1) <;> (try split at h2) <;> omega

set_option maxRecDepth 100000 in
set_option maxHeartbeats 4000000 in
theorem order_not {sa sb sc : Int} {la lb lc : List Int} {a1 a2 a3 : Option Addr} {c1 c2 c3 : Nat} {w : World} (hG : G ≤ w.heap.size) (ht : Tab w) (h1 : RdZ w (.slice a1 la.length c1) la) (h2 : RdZ w (.slice a2 lb.length c2) lb) (h3 : RdZ w (.slice a3 lc.length c3) lc) (hn : (decide ((la.length : Int) ≤ 25) && (decide ((lb.length : Int) ≤ 25) && (decide ((lc.length : Int) ≤ 25) && (rightB sa la && (rightB sb lb && rightB sc lc))))) = false) :
    Calls Tryd.prog 7 #[.agg #[.int .i64 sa, .slice a1 la.length c1], .agg #[.int .i64 sb, .slice a2 lb.length c2], .agg #[.int .i64 sc, .slice a3 lc.length c3]] w fun e w' => e = .returned (.bool true) ∧ Below w.heap.size w w' := by
  obtain ⟨fa, hfa⟩ : ∃ b, decide ((la.length : Int) ≤ 25) = b := ⟨_, rfl⟩
  obtain ⟨fb, hfb⟩ : ∃ b, decide ((lb.length : Int) ≤ 25) = b := ⟨_, rfl⟩
  obtain ⟨fc, hfc⟩ : ∃ b, decide ((lc.length : Int) ≤ 25) = b := ⟨_, rfl⟩
  obtain ⟨ra, hra⟩ : ∃ b, rightB sa la = b := ⟨_, rfl⟩
  obtain ⟨rb, hrb⟩ : ∃ b, rightB sb lb = b := ⟨_, rfl⟩
  obtain ⟨rc, hrc⟩ : ∃ b, rightB sc lc = b := ⟨_, rfl⟩
  rw [hfa, hfb, hfc, hra, hrb, hrc] at hn
  have HFa := Lib.hid hfa; have HFb := Lib.hid hfb; have HFc := Lib.hid hfc; have HRa := Lib.hid hra; have HRb := Lib.hid hrb; have HRc := Lib.hid hrc; have HN := Lib.hid hn
  clear hn hfa hfb hfc hra hrb hrc
  have HT : Hid (Tab w) := ht
  have H1 : Hid (RdZ w (.slice a1 la.length c1) la) := h1
  have H2 : Hid (RdZ w (.slice a2 lb.length c2) lb) := h2
  have H3 : Hid (RdZ w (.slice a3 lc.length c3) lc) := h3
  clear ht h1 h2 h3
  have M : Hid (Below w.heap.size w w) := Below.refl _ _
  go_enter Tryd.func7, Tryd.ntmps7
  go_upto_region 1 with fail
  obtain ⟨w1, hv⟩ : ∃ w_ : World, w_ = (((w.alloc (.cells #[.int .i64 sa, .slice a1 la.length c1] 24)).alloc (.cells #[.int .i64 sb, .slice a2 lb.length c2] 24)).alloc (.cells #[.int .i64 sc, .slice a3 lc.length c3] 24)) := ⟨_, rfl⟩
  rw [← hv]
  have hbx := bx3 w 24 24 24 #[.int .i64 sa, .slice a1 la.length c1] #[.int .i64 sb, .slice a2 lb.length c2] #[.int .i64 sc, .slice a3 lc.length c3]
  rw [← hv] at hbx
  have hbn : Below w.heap.size w w1 := by rw [hv]; exact (Below.alloc (Below.alloc (Below.alloc (Below.refl _ _) (by simp <;> omega) _) (by simp <;> omega) _) (by simp <;> omega) _)
  replace M := Lib.hid (And.intro hbx.2.2 (And.intro hbx.2.1 (And.intro hbx.1 (Goes.go M.out hbn))))
  clear hbx hbn
  clear hv
  go_wp2_with fail
  refine (small_ok (G := G) (Nat.le_trans hG (M.out.2.2.2).size) (HT.out.keep (M.out.2.2.2))).mono ?_
  rintro e w2 ⟨rfl, hb⟩
  replace M := Lib.hid (Goes.go M.out hb)
  clear hb
  obtain ⟨p0_0, q0_0, p0_1, q0_1⟩ := (M.out.2.2.1).c2
  go_wp2_with fail
  clear p0_0 q0_0 p0_1 q0_1
  refine (bigFew_ok (s := sa) (m := 25) (b := fa) HFa.out).mono ?_
  rintro e w3 ⟨rfl, hb⟩
  replace M := Lib.hid (Goes.go M.out hb)
  clear hb
  cases fa with
  | false =>
    go_wp2_with fail
    go_ret
    exact ⟨rfl, (M.out.2.2.2)⟩
  | true =>
    obtain ⟨p1_0, q1_0, p1_1, q1_1⟩ := (M.out.2.1).c2
    go_wp2_with fail
    clear p1_0 q1_0 p1_1 q1_1
    refine (bigFew_ok (s := sb) (m := 25) (b := fb) HFb.out).mono ?_
    rintro e w4 ⟨rfl, hb⟩
    replace M := Lib.hid (Goes.go M.out hb)
    clear hb
    cases fb with
    | false =>
      go_wp2_with fail
      go_ret
      exact ⟨rfl, (M.out.2.2.2)⟩
    | true =>
      obtain ⟨p2_0, q2_0, p2_1, q2_1⟩ := (M.out.1).c2
      go_wp2_with fail
      clear p2_0 q2_0 p2_1 q2_1
      refine (bigFew_ok (s := sc) (m := 25) (b := fc) HFc.out).mono ?_
      rintro e w5 ⟨rfl, hb⟩
      replace M := Lib.hid (Goes.go M.out hb)
      clear hb
      cases fc with
      | false =>
        go_wp2_with fail
        go_ret
        exact ⟨rfl, (M.out.2.2.2)⟩
      | true =>
        obtain ⟨p0_0, q0_0, p0_1, q0_1⟩ := (M.out.2.2.1).c2
        go_wp2_with fail
        clear p0_0 q0_0 p0_1 q0_1
        refine (bigRight_len (s := sa) (b := ra) (H1.out.keep (M.out.2.2.2)) (len_of HFa.out (by decide)) HRa.out).mono ?_
        rintro e w6 ⟨rfl, hb⟩
        replace M := Lib.hid (Goes.go M.out hb)
        clear hb
        cases ra with
        | false =>
          go_wp2_with fail
          go_ret
          exact ⟨rfl, (M.out.2.2.2)⟩
        | true =>
          obtain ⟨p1_0, q1_0, p1_1, q1_1⟩ := (M.out.2.1).c2
          go_wp2_with fail
          clear p1_0 q1_0 p1_1 q1_1
          refine (bigRight_len (s := sb) (b := rb) (H2.out.keep (M.out.2.2.2)) (len_of HFb.out (by decide)) HRb.out).mono ?_
          rintro e w7 ⟨rfl, hb⟩
          replace M := Lib.hid (Goes.go M.out hb)
          clear hb
          cases rb with
          | false =>
            go_wp2_with fail
            go_ret
            exact ⟨rfl, (M.out.2.2.2)⟩
          | true =>
            obtain ⟨p2_0, q2_0, p2_1, q2_1⟩ := (M.out.1).c2
            go_wp2_with fail
            clear p2_0 q2_0 p2_1 q2_1
            refine (bigRight_len (s := sc) (b := rc) (H3.out.keep (M.out.2.2.2)) (len_of HFc.out (by decide)) HRc.out).mono ?_
            rintro e w8 ⟨rfl, hb⟩
            replace M := Lib.hid (Goes.go M.out hb)
            clear hb
            cases rc with
            | false =>
              go_wp2_with fail
              go_ret
              exact ⟨rfl, (M.out.2.2.2)⟩
            | true =>
              go_upto_region 4 with fail
              exact absurd HN.out (by decide)

set_option maxRecDepth 100000 in
set_option maxHeartbeats 4000000 in
theorem order_all {x y z : Int} {a1 a2 a3 : Option Addr} {c1 c2 c3 : Nat} {w : World} (hG : G ≤ w.heap.size) (ht : Tab w) (h1 : BD G w a1 c1 x) (h2 : BD G w a2 c2 y) (h3 : BD G w a3 c3 z) (hx : Sz x 25) (hy : Sz y 25) (hz : Sz z 25)  :
    Calls Tryd.prog 7 #[.agg #[.int .i64 (sg x), .slice a1 (ln x) c1], .agg #[.int .i64 (sg y), .slice a2 (ln y) c2], .agg #[.int .i64 (sg z), .slice a3 (ln z) c3]] w fun e w' => e = .returned (.bool true) ∧ Below w.heap.size w w' := by
  obtain ⟨k, hk⟩ : ∃ k, ord x y = k := ⟨_, rfl⟩
  obtain ⟨k2, hk2⟩ : ∃ k, ord y z = k := ⟨_, rfl⟩
  obtain ⟨k3, hk3⟩ : ∃ k, ord x z = k := ⟨_, rfl⟩
  obtain ⟨m, hm⟩ : ∃ m, k * sg z = m := ⟨_, rfl⟩
  have hkr := ord_range x y
  rw [hk] at hkr
  have hzr := sg_cases z
  have wn : IntKind.i64.wrap (-k) = -k := IntWalk.i64_in _ (by omega)
  have wm : IntKind.i64.wrap (k * sg z) = m := by
    rw [hm]; apply IntWalk.i64_in
    rw [← hm]
    rcases hkr with h | h | h <;> rcases hzr with h' | h' | h' <;> rw [h, h'] <;> decide
  obtain ⟨bz, hbz⟩ : ∃ b, (k == 0) = b := ⟨_, rfl⟩
  have HBZ : Hid (eqZ x y = bz) := by show _ = _; rw [← hbz, ← hk, ord_zero]
  obtain ⟨p1, hp1⟩ : ∃ b, decide (0 < k) = b := ⟨_, rfl⟩
  obtain ⟨p2, hp2⟩ : ∃ b, decide (0 < k2) = b := ⟨_, rfl⟩
  obtain ⟨p3, hp3⟩ : ∃ b, decide (k3 ≤ 0) = b := ⟨_, rfl⟩
  have HC : Hid (p1 = false → p2 = false → p3 = true) := by
    show _ → _ → _
    intro h1 h2
    rw [← hp3]; rw [← hp1] at h1; rw [← hp2] at h2
    have h1 := of_decide_eq_false h1; have h2 := of_decide_eq_false h2
    rw [← hk] at h1; rw [← hk2] at h2; rw [← hk3]
    exact decide_eq_true (ord_chain h1 h2)
  have HK := Lib.hid hk; have HK2 := Lib.hid hk2; have HK3 := Lib.hid hk3; have HM := Lib.hid hm
  have HSUB : Hid (sg (x - y) = k) := by show _ = _; rw [← ord_sg, hk]
  have HSW : Hid (ord y x = -k) := by show _ = _; rw [ord_swap, hk]
  have HPL : Hid (ord (x + z) (y + z) = k) := by show _ = _; rw [ord_plus, hk]
  have HTM : Hid (ord (x * z) (y * z) = m) := by show _ = _; rw [ord_times, hk, hm]
  clear hk hk2 hk3 hm hkr hzr
  have HX := Lib.hid hx; have HY := Lib.hid hy; have HZ := Lib.hid hz
  clear hx hy hz
  have HT : Hid (Tab w) := ht
  have H1 : Hid (BD G w a1 c1 x) := h1
  have H2 : Hid (BD G w a2 c2 y) := h2
  have H3 : Hid (BD G w a3 c3 z) := h3
  clear ht h1 h2 h3
  have M : Hid (Below w.heap.size w w) := Below.refl _ _
  go_enter Tryd.func7, Tryd.ntmps7
  go_upto_region 1 with fail
  obtain ⟨w1, hv⟩ : ∃ w_ : World, w_ = (((w.alloc (.cells #[.int .i64 (sg x), .slice a1 (ln x) c1] 24)).alloc (.cells #[.int .i64 (sg y), .slice a2 (ln y) c2] 24)).alloc (.cells #[.int .i64 (sg z), .slice a3 (ln z) c3] 24)) := ⟨_, rfl⟩
  rw [← hv]
  have hbx := bx3 w 24 24 24 #[.int .i64 (sg x), .slice a1 (ln x) c1] #[.int .i64 (sg y), .slice a2 (ln y) c2] #[.int .i64 (sg z), .slice a3 (ln z) c3]
  rw [← hv] at hbx
  have hbn : Below w.heap.size w w1 := by rw [hv]; exact (Below.alloc (Below.alloc (Below.alloc (Below.refl _ _) (by simp <;> omega) _) (by simp <;> omega) _) (by simp <;> omega) _)
  replace M := Lib.hid (And.intro hbx.2.2 (And.intro hbx.2.1 (And.intro hbx.1 (Goes.go M.out hbn))))
  clear hbx hbn
  clear hv
  go_wp2_with fail
  refine (small_ok (G := G) (Nat.le_trans hG (M.out.2.2.2).size) (HT.out.keep (M.out.2.2.2))).mono ?_
  rintro e w2 ⟨rfl, hb⟩
  replace M := Lib.hid (Goes.go M.out hb)
  clear hb
  obtain ⟨p0_0, q0_0, p0_1, q0_1⟩ := (M.out.2.2.1).c2
  go_wp2_with fail
  clear p0_0 q0_0 p0_1 q0_1
  refine (bigFew_ok (s := (sg x)) (m := 25) (b := true) (few_sz HX.out rfl)).mono ?_
  rintro e w3 ⟨rfl, hb⟩
  replace M := Lib.hid (Goes.go M.out hb)
  clear hb
  obtain ⟨p1_0, q1_0, p1_1, q1_1⟩ := (M.out.2.1).c2
  go_wp2_with fail
  clear p1_0 q1_0 p1_1 q1_1
  refine (bigFew_ok (s := (sg y)) (m := 25) (b := true) (few_sz HY.out rfl)).mono ?_
  rintro e w4 ⟨rfl, hb⟩
  replace M := Lib.hid (Goes.go M.out hb)
  clear hb
  obtain ⟨p2_0, q2_0, p2_1, q2_1⟩ := (M.out.1).c2
  go_wp2_with fail
  clear p2_0 q2_0 p2_1 q2_1
  refine (bigFew_ok (s := (sg z)) (m := 25) (b := true) (few_sz HZ.out rfl)).mono ?_
  rintro e w5 ⟨rfl, hb⟩
  replace M := Lib.hid (Goes.go M.out hb)
  clear hb
  obtain ⟨p0_0, q0_0, p0_1, q0_1⟩ := (M.out.2.2.1).c2
  go_wp2_with fail
  clear p0_0 q0_0 p0_1 q0_1
  refine (bigRight_ok (G := G) (z := x) (H1.out.keep (M.out.2.2.2)) (Sz.mono HX.out (by omega))).mono ?_
  rintro e w6 ⟨rfl, hb⟩
  replace M := Lib.hid (Goes.go M.out hb)
  clear hb
  obtain ⟨p1_0, q1_0, p1_1, q1_1⟩ := (M.out.2.1).c2
  go_wp2_with fail
  clear p1_0 q1_0 p1_1 q1_1
  refine (bigRight_ok (G := G) (z := y) (H2.out.keep (M.out.2.2.2)) (Sz.mono HY.out (by omega))).mono ?_
  rintro e w7 ⟨rfl, hb⟩
  replace M := Lib.hid (Goes.go M.out hb)
  clear hb
  obtain ⟨p2_0, q2_0, p2_1, q2_1⟩ := (M.out.1).c2
  go_wp2_with fail
  clear p2_0 q2_0 p2_1 q2_1
  refine (bigRight_ok (G := G) (z := z) (H3.out.keep (M.out.2.2.2)) (Sz.mono HZ.out (by omega))).mono ?_
  rintro e w8 ⟨rfl, hb⟩
  replace M := Lib.hid (Goes.go M.out hb)
  clear hb
  obtain ⟨p0_0, q0_0, p0_1, q0_1⟩ := (M.out.2.2.1).c2
  obtain ⟨p1_0, q1_0, p1_1, q1_1⟩ := (M.out.2.1).c2
  go_wp2_with fail
  clear p0_0 q0_0 p0_1 q0_1 p1_0 q1_0 p1_1 q1_1
  refine (bigCompare_is (G := G) (x := x) (y := y) (k := k) (H1.out.keep (M.out.2.2.2)) (H2.out.keep (M.out.2.2.2)) (Sz.mono HX.out (by omega)) (Sz.mono HY.out (by omega)) (by exact HK.out)).mono ?_
  rintro e w9 ⟨rfl, hb⟩
  replace M := Lib.hid (Goes.go M.out hb)
  clear hb
  obtain ⟨p0_0, q0_0, p0_1, q0_1⟩ := (M.out.2.2.1).c2
  obtain ⟨p1_0, q1_0, p1_1, q1_1⟩ := (M.out.2.1).c2
  go_wp2_with fail
  clear p0_0 q0_0 p0_1 q0_1 p1_0 q1_0 p1_1 q1_1
  obtain ⟨z3, ez3⟩ : ∃ v_ : Int, v_ = (x - y) := ⟨_, rfl⟩
  refine (bigSub_k (G := G) (x := x) (y := y) (k := k) (H1.out.keep (M.out.2.2.2)) (H2.out.keep (M.out.2.2.2)) (Nat.le_trans hG (M.out.2.2.2).size) (Sz.mono HX.out (by omega)) (Sz.mono HY.out (by omega)) HSUB.out).mono ?_
  rintro e w10 ⟨a_1, c_2, rfl, hd4, hb⟩
  rw [← ez3] at hd4 ⊢
  have Sz3 : Hid (Sz z3 26) := by show Sz z3 26; rw [ez3]; exact (Sz.sub HX.out HY.out)
  have Ez3 := Lib.hid ez3; clear ez3
  replace M := Lib.hid (And.intro hd4 (Goes.go M.out hb))
  clear hb hd4
  go_upto_region 6 with fail
  obtain ⟨w11, hv⟩ : ∃ w_ : World, w_ = (w10.alloc (.cells #[.int .i64 k, .slice a_1 (ln z3) c_2] 24)) := ⟨_, rfl⟩
  rw [← hv]
  have o3 : w.heap.size + 1 + 1 < w10.heap.size := ((M.out.2.1)).lt
  replace M := Lib.hid (And.intro (hv ▸ bx1 w10 24 #[.int .i64 k, .slice a_1 (ln z3) c_2]) (Goes.go M.out (hv ▸ below_alloc _ _ : Below w10.heap.size w10 w11)))
  clear hv
  obtain ⟨p0_0, q0_0, p0_1, q0_1⟩ := (M.out.2.2.2.2.1).c2
  obtain ⟨p2_0, q2_0, p2_1, q2_1⟩ := (M.out.2.2.1).c2
  go_wp2_with fail
  clear p0_0 q0_0 p0_1 q0_1 p2_0 q2_0 p2_1 q2_1
  obtain ⟨z7, ez7⟩ : ∃ v_ : Int, v_ = (x + z) := ⟨_, rfl⟩
  refine (bigAdd_ok (G := G) (x := x) (y := z) (H1.out.keep (M.out.2.2.2.2.2)) (H3.out.keep (M.out.2.2.2.2.2)) (Sz.mono HX.out (by omega)) (Sz.mono HZ.out (by omega))).mono ?_
  rintro e w12 ⟨a_5, c_6, rfl, hd8, hb⟩
  rw [← ez7] at hd8 ⊢
  have Sz7 : Hid (Sz z7 26) := by show Sz z7 26; rw [ez7]; exact (Sz.add HX.out HZ.out)
  have Ez7 := Lib.hid ez7; clear ez7
  replace M := Lib.hid (And.intro hd8 (Goes.go M.out hb))
  clear hb hd8
  go_upto_region 7 with fail
  obtain ⟨w13, hv⟩ : ∃ w_ : World, w_ = (w12.alloc (.cells #[.int .i64 (sg z7), .slice a_5 (ln z7) c_6] 24)) := ⟨_, rfl⟩
  rw [← hv]
  have o4 : w10.heap.size < w12.heap.size := ((M.out.2.1)).lt
  replace M := Lib.hid (And.intro (hv ▸ bx1 w12 24 #[.int .i64 (sg z7), .slice a_5 (ln z7) c_6]) (Goes.go M.out (hv ▸ below_alloc _ _ : Below w12.heap.size w12 w13)))
  clear hv
  obtain ⟨p1_0, q1_0, p1_1, q1_1⟩ := (M.out.2.2.2.2.2.1).c2
  obtain ⟨p2_0, q2_0, p2_1, q2_1⟩ := (M.out.2.2.2.2.1).c2
  go_wp2_with fail
  clear p1_0 q1_0 p1_1 q1_1 p2_0 q2_0 p2_1 q2_1
  obtain ⟨z11, ez11⟩ : ∃ v_ : Int, v_ = (y + z) := ⟨_, rfl⟩
  refine (bigAdd_ok (G := G) (x := y) (y := z) (H2.out.keep (M.out.2.2.2.2.2.2.2)) (H3.out.keep (M.out.2.2.2.2.2.2.2)) (Sz.mono HY.out (by omega)) (Sz.mono HZ.out (by omega))).mono ?_
  rintro e w14 ⟨a_9, c_10, rfl, hd12, hb⟩
  rw [← ez11] at hd12 ⊢
  have Sz11 : Hid (Sz z11 26) := by show Sz z11 26; rw [ez11]; exact (Sz.add HY.out HZ.out)
  have Ez11 := Lib.hid ez11; clear ez11
  replace M := Lib.hid (And.intro hd12 (Goes.go M.out hb))
  clear hb hd12
  go_upto_region 8 with fail
  obtain ⟨w15, hv⟩ : ∃ w_ : World, w_ = (w14.alloc (.cells #[.int .i64 (sg z11), .slice a_9 (ln z11) c_10] 24)) := ⟨_, rfl⟩
  rw [← hv]
  have o5 : w12.heap.size < w14.heap.size := ((M.out.2.1)).lt
  replace M := Lib.hid (And.intro (hv ▸ bx1 w14 24 #[.int .i64 (sg z11), .slice a_9 (ln z11) c_10]) (Goes.go M.out (hv ▸ below_alloc _ _ : Below w14.heap.size w14 w15)))
  clear hv
  obtain ⟨p0_0, q0_0, p0_1, q0_1⟩ := (M.out.2.2.2.2.2.2.2.2.1).c2
  obtain ⟨p2_0, q2_0, p2_1, q2_1⟩ := (M.out.2.2.2.2.2.2.1).c2
  go_wp2_with fail
  clear p0_0 q0_0 p0_1 q0_1 p2_0 q2_0 p2_1 q2_1
  obtain ⟨z15, ez15⟩ : ∃ v_ : Int, v_ = (x * z) := ⟨_, rfl⟩
  refine (bigMul_ok (G := G) (x := x) (y := z) (H1.out.keep (M.out.2.2.2.2.2.2.2.2.2)) (H3.out.keep (M.out.2.2.2.2.2.2.2.2.2)) (Sz.mono HX.out (by omega)) (Sz.mono HZ.out (by omega))).mono ?_
  rintro e w16 ⟨a_13, c_14, rfl, hd16, hb⟩
  rw [← ez15] at hd16 ⊢
  have Sz15 : Hid (Sz z15 50) := by show Sz z15 50; rw [ez15]; exact (Sz.mul HX.out HZ.out)
  have Ez15 := Lib.hid ez15; clear ez15
  replace M := Lib.hid (And.intro hd16 (Goes.go M.out hb))
  clear hb hd16
  go_upto_region 9 with fail
  obtain ⟨w17, hv⟩ : ∃ w_ : World, w_ = (w16.alloc (.cells #[.int .i64 (sg z15), .slice a_13 (ln z15) c_14] 24)) := ⟨_, rfl⟩
  rw [← hv]
  have o6 : w14.heap.size < w16.heap.size := ((M.out.2.1)).lt
  replace M := Lib.hid (And.intro (hv ▸ bx1 w16 24 #[.int .i64 (sg z15), .slice a_13 (ln z15) c_14]) (Goes.go M.out (hv ▸ below_alloc _ _ : Below w16.heap.size w16 w17)))
  clear hv
  obtain ⟨p1_0, q1_0, p1_1, q1_1⟩ := (M.out.2.2.2.2.2.2.2.2.2.1).c2
  obtain ⟨p2_0, q2_0, p2_1, q2_1⟩ := (M.out.2.2.2.2.2.2.2.2.1).c2
  go_wp2_with fail
  clear p1_0 q1_0 p1_1 q1_1 p2_0 q2_0 p2_1 q2_1
  obtain ⟨z19, ez19⟩ : ∃ v_ : Int, v_ = (y * z) := ⟨_, rfl⟩
  refine (bigMul_ok (G := G) (x := y) (y := z) (H2.out.keep (M.out.2.2.2.2.2.2.2.2.2.2.2)) (H3.out.keep (M.out.2.2.2.2.2.2.2.2.2.2.2)) (Sz.mono HY.out (by omega)) (Sz.mono HZ.out (by omega))).mono ?_
  rintro e w18 ⟨a_17, c_18, rfl, hd20, hb⟩
  rw [← ez19] at hd20 ⊢
  have Sz19 : Hid (Sz z19 50) := by show Sz z19 50; rw [ez19]; exact (Sz.mul HY.out HZ.out)
  have Ez19 := Lib.hid ez19; clear ez19
  replace M := Lib.hid (And.intro hd20 (Goes.go M.out hb))
  clear hb hd20
  go_upto_region 10 with fail
  obtain ⟨w19, hv⟩ : ∃ w_ : World, w_ = (w18.alloc (.cells #[.int .i64 (sg z19), .slice a_17 (ln z19) c_18] 24)) := ⟨_, rfl⟩
  rw [← hv]
  have o7 : w16.heap.size < w18.heap.size := ((M.out.2.1)).lt
  replace M := Lib.hid (And.intro (hv ▸ bx1 w18 24 #[.int .i64 (sg z19), .slice a_17 (ln z19) c_18]) (Goes.go M.out (hv ▸ below_alloc _ _ : Below w18.heap.size w18 w19)))
  clear hv
  go_wp2_with fail
  obtain ⟨w20, hv⟩ : ∃ w_ : World, w_ = w19.drew := ⟨_, rfl⟩
  replace M := Lib.hid (Goes.go M.out (hv ▸ below_drew _ : Below w19.heap.size w19 w20))
  refine wp_region_held_drew (S := (fun w' => w'.cell? ⟨w.heap.size, 0, none⟩ = some (.int .i64 (sg x)) ∧ w'.cell? ⟨w.heap.size, 1, none⟩ = some (.slice a1 (ln x) c1) ∧ w'.cell? ⟨w.heap.size + 1, 0, none⟩ = some (.int .i64 (sg y)) ∧ w'.cell? ⟨w.heap.size + 1, 1, none⟩ = some (.slice a2 (ln y) c2) ∧ w'.cell? ⟨w.heap.size + 1 + 1, 0, none⟩ = some (.int .i64 (sg z)) ∧ w'.cell? ⟨w.heap.size + 1 + 1, 1, none⟩ = some (.slice a3 (ln z) c3) ∧ w'.cell? ⟨w10.heap.size, 0, none⟩ = some (.int .i64 k) ∧ w'.cell? ⟨w10.heap.size, 1, none⟩ = some (.slice a_1 (ln z3) c_2) ∧ w'.cell? ⟨w12.heap.size, 0, none⟩ = some (.int .i64 (sg z7)) ∧ w'.cell? ⟨w12.heap.size, 1, none⟩ = some (.slice a_5 (ln z7) c_6) ∧ w'.cell? ⟨w14.heap.size, 0, none⟩ = some (.int .i64 (sg z11)) ∧ w'.cell? ⟨w14.heap.size, 1, none⟩ = some (.slice a_9 (ln z11) c_10) ∧ w'.cell? ⟨w16.heap.size, 0, none⟩ = some (.int .i64 (sg z15)) ∧ w'.cell? ⟨w16.heap.size, 1, none⟩ = some (.slice a_13 (ln z15) c_14) ∧ w'.cell? ⟨w18.heap.size, 0, none⟩ = some (.int .i64 (sg z19)) ∧ w'.cell? ⟨w18.heap.size, 1, none⟩ = some (.slice a_17 (ln z19) c_18))) (by kernel_rfl) (by rw [← hv]; exact ⟨(M.out.2.2.2.2.2.2.2.2.2.2.2.2.1).at.1 0, (M.out.2.2.2.2.2.2.2.2.2.2.2.2.1).at.1 1, (M.out.2.2.2.2.2.2.2.2.2.2.2.1).at.1 0, (M.out.2.2.2.2.2.2.2.2.2.2.2.1).at.1 1, (M.out.2.2.2.2.2.2.2.2.2.2.1).at.1 0, (M.out.2.2.2.2.2.2.2.2.2.2.1).at.1 1, (M.out.2.2.2.2.2.2.2.2.1).at.1 0, (M.out.2.2.2.2.2.2.2.2.1).at.1 1, (M.out.2.2.2.2.2.2.1).at.1 0, (M.out.2.2.2.2.2.2.1).at.1 1, (M.out.2.2.2.2.1).at.1 0, (M.out.2.2.2.2.1).at.1 1, (M.out.2.2.1).at.1 0, (M.out.2.2.1).at.1 1, (M.out.1).at.1 0, (M.out.1).at.1 1⟩) (fun hH21 => ?_)
  rw [← hv] at hH21 ⊢
  clear hv
  refine tk at0 ?_
  refine tk at1 ?_
  refine tk at2 ?_
  refine tk at3 ?_
  refine wpAnyH_ready (rs := [4]) (by kernel_rfl) (by simp) ?_
  refine AllReadyH.cons at4 (fun K hK => ?_) AllReadyH.nil
  go_simp
  refine (bigSame_is (G := G) (x := x) (y := y) (b := bz) (H1.out.keep (M.out.2.2.2.2.2.2.2.2.2.2.2.2.2)) (H2.out.keep (M.out.2.2.2.2.2.2.2.2.2.2.2.2.2)) (Sz.mono HX.out (by omega)) (Sz.mono HY.out (by omega)) HBZ.out).mono ?_
  rintro e w21 ⟨rfl, hb⟩
  replace M := Lib.hid (Goes.go M.out hb)
  clear hb
  (try go_wp2_with fail)
  refine hK.out _ _ (⟨(M.out.2.2.2.2.2.2.2.2.2.2.2.2.1).at.1 0, (M.out.2.2.2.2.2.2.2.2.2.2.2.2.1).at.1 1, (M.out.2.2.2.2.2.2.2.2.2.2.2.1).at.1 0, (M.out.2.2.2.2.2.2.2.2.2.2.2.1).at.1 1, (M.out.2.2.2.2.2.2.2.2.2.2.1).at.1 0, (M.out.2.2.2.2.2.2.2.2.2.2.1).at.1 1, (M.out.2.2.2.2.2.2.2.2.1).at.1 0, (M.out.2.2.2.2.2.2.2.2.1).at.1 1, (M.out.2.2.2.2.2.2.1).at.1 0, (M.out.2.2.2.2.2.2.1).at.1 1, (M.out.2.2.2.2.1).at.1 0, (M.out.2.2.2.2.1).at.1 1, (M.out.2.2.1).at.1 0, (M.out.2.2.1).at.1 1, (M.out.1).at.1 0, (M.out.1).at.1 1⟩) (fun hH22 => ?_)
  clear hK K hH21
  (try simp only [Act.put, List.setIfInBounds_toArray, List.set_cons_zero, List.set_cons_succ])
  refine tk at5 ?_
  refine tk at6 ?_
  refine tk at7 ?_
  refine tk at8 ?_
  refine tk at10 ?_
  refine tk at11 ?_
  refine wpAnyH_ready (rs := [9]) (by kernel_rfl) (by simp) ?_
  refine AllReadyH.cons at9 (fun K hK => ?_) AllReadyH.nil
  go_simp
  refine (bigCompare_is (G := G) (x := y) (y := x) (k := (-k)) (H2.out.keep (M.out.2.2.2.2.2.2.2.2.2.2.2.2.2)) (H1.out.keep (M.out.2.2.2.2.2.2.2.2.2.2.2.2.2)) (Sz.mono HY.out (by omega)) (Sz.mono HX.out (by omega)) (by exact HSW.out)).mono ?_
  rintro e w22 ⟨rfl, hb⟩
  replace M := Lib.hid (Goes.go M.out hb)
  clear hb
  (try go_wp2_with fail)
  refine hK.out _ _ (⟨(M.out.2.2.2.2.2.2.2.2.2.2.2.2.1).at.1 0, (M.out.2.2.2.2.2.2.2.2.2.2.2.2.1).at.1 1, (M.out.2.2.2.2.2.2.2.2.2.2.2.1).at.1 0, (M.out.2.2.2.2.2.2.2.2.2.2.2.1).at.1 1, (M.out.2.2.2.2.2.2.2.2.2.2.1).at.1 0, (M.out.2.2.2.2.2.2.2.2.2.2.1).at.1 1, (M.out.2.2.2.2.2.2.2.2.1).at.1 0, (M.out.2.2.2.2.2.2.2.2.1).at.1 1, (M.out.2.2.2.2.2.2.1).at.1 0, (M.out.2.2.2.2.2.2.1).at.1 1, (M.out.2.2.2.2.1).at.1 0, (M.out.2.2.2.2.1).at.1 1, (M.out.2.2.1).at.1 0, (M.out.2.2.1).at.1 1, (M.out.1).at.1 0, (M.out.1).at.1 1⟩) (fun hH23 => ?_)
  clear hK K hH22
  (try simp only [Act.put, List.setIfInBounds_toArray, List.set_cons_zero, List.set_cons_succ])
  refine tk at12 ?_
  refine tk at13 ?_
  refine tk at14 ?_
  refine tk at15 ?_
  refine tk at16 ?_
  refine tk at17 ?_
  refine tk at18 ?_
  refine tk at19 ?_
  refine tk at20 ?_
  refine tk at21 ?_
  refine tk at22 ?_
  refine tk at24 ?_
  refine wpAnyH_ready (rs := [23]) (by kernel_rfl) (by simp) ?_
  refine AllReadyH.cons at23 (fun K hK => ?_) AllReadyH.nil
  go_simp
  refine (bigCompare_is (G := G) (x := z7) (y := z11) (k := k) (M.out.2.2.2.2.2.2.2.1) (M.out.2.2.2.2.2.1) (Sz.mono Sz7.out (by omega)) (Sz.mono Sz11.out (by omega)) (by rw [Ez7.out, Ez11.out]; exact HPL.out)).mono ?_
  rintro e w23 ⟨rfl, hb⟩
  replace M := Lib.hid (Goes.go M.out hb)
  clear hb
  (try go_wp2_with fail)
  refine hK.out _ _ (⟨(M.out.2.2.2.2.2.2.2.2.2.2.2.2.1).at.1 0, (M.out.2.2.2.2.2.2.2.2.2.2.2.2.1).at.1 1, (M.out.2.2.2.2.2.2.2.2.2.2.2.1).at.1 0, (M.out.2.2.2.2.2.2.2.2.2.2.2.1).at.1 1, (M.out.2.2.2.2.2.2.2.2.2.2.1).at.1 0, (M.out.2.2.2.2.2.2.2.2.2.2.1).at.1 1, (M.out.2.2.2.2.2.2.2.2.1).at.1 0, (M.out.2.2.2.2.2.2.2.2.1).at.1 1, (M.out.2.2.2.2.2.2.1).at.1 0, (M.out.2.2.2.2.2.2.1).at.1 1, (M.out.2.2.2.2.1).at.1 0, (M.out.2.2.2.2.1).at.1 1, (M.out.2.2.1).at.1 0, (M.out.2.2.1).at.1 1, (M.out.1).at.1 0, (M.out.1).at.1 1⟩) (fun hH24 => ?_)
  clear hK K hH23
  (try simp only [Act.put, List.setIfInBounds_toArray, List.set_cons_zero, List.set_cons_succ])
  refine tk at25 ?_
  refine tk at26 ?_
  refine tk at27 ?_
  refine tk at28 ?_
  refine tk at29 ?_
  refine tk at31 ?_
  refine tk at32 ?_
  refine tk at33 ?_
  refine tk at34 ?_
  refine wpAnyH_ready (rs := [30]) (by kernel_rfl) (by simp) ?_
  refine AllReadyH.cons at30 (fun K hK => ?_) AllReadyH.nil
  go_simp
  refine (bigCompare_is (G := G) (x := z15) (y := z19) (k := m) (M.out.2.2.2.1) (M.out.2.1) (Sz.mono Sz15.out (by omega)) (Sz.mono Sz19.out (by omega)) (by rw [Ez15.out, Ez19.out]; exact HTM.out)).mono ?_
  rintro e w24 ⟨rfl, hb⟩
  replace M := Lib.hid (Goes.go M.out hb)
  clear hb
  (try go_wp2_with fail)
  refine hK.out _ _ (⟨(M.out.2.2.2.2.2.2.2.2.2.2.2.2.1).at.1 0, (M.out.2.2.2.2.2.2.2.2.2.2.2.2.1).at.1 1, (M.out.2.2.2.2.2.2.2.2.2.2.2.1).at.1 0, (M.out.2.2.2.2.2.2.2.2.2.2.2.1).at.1 1, (M.out.2.2.2.2.2.2.2.2.2.2.1).at.1 0, (M.out.2.2.2.2.2.2.2.2.2.2.1).at.1 1, (M.out.2.2.2.2.2.2.2.2.1).at.1 0, (M.out.2.2.2.2.2.2.2.2.1).at.1 1, (M.out.2.2.2.2.2.2.1).at.1 0, (M.out.2.2.2.2.2.2.1).at.1 1, (M.out.2.2.2.2.1).at.1 0, (M.out.2.2.2.2.1).at.1 1, (M.out.2.2.1).at.1 0, (M.out.2.2.1).at.1 1, (M.out.1).at.1 0, (M.out.1).at.1 1⟩) (fun hH25 => ?_)
  clear hK K hH24
  (try simp only [Act.put, List.setIfInBounds_toArray, List.set_cons_zero, List.set_cons_succ])
  refine tk at35 ?_
  refine tk at36 ?_
  refine wpAnyH_done (by kernel_rfl) ?_ _
  clear hH25
  cases p1 with
  | false =>
    obtain ⟨p1_0, q1_0, p1_1, q1_1⟩ := (M.out.2.2.2.2.2.2.2.2.2.2.2.1).c2
    obtain ⟨p2_0, q2_0, p2_1, q2_1⟩ := (M.out.2.2.2.2.2.2.2.2.2.2.1).c2
    go_wp2_with fail
    clear p1_0 q1_0 p1_1 q1_1 p2_0 q2_0 p2_1 q2_1
    replace M := Lib.hid (And.intro (M.out.2.2.2.2.2.2.2.2.2.2.1) (And.intro (M.out.2.2.2.2.2.2.2.2.2.2.2.2.1) (M.out.2.2.2.2.2.2.2.2.2.2.2.2.2)))
    refine (bigCompare_is (G := G) (x := y) (y := z) (k := k2) (H2.out.keep (M.out.2.2)) (H3.out.keep (M.out.2.2)) (Sz.mono HY.out (by omega)) (Sz.mono HZ.out (by omega)) (by exact HK2.out)).mono ?_
    rintro e w25 ⟨rfl, hb⟩
    replace M := Lib.hid (Goes.go M.out hb)
    clear hb
    cases p2 with
    | false =>
      obtain ⟨p0_0, q0_0, p0_1, q0_1⟩ := (M.out.2.1).c2
      obtain ⟨p2_0, q2_0, p2_1, q2_1⟩ := (M.out.1).c2
      go_wp2_with fail
      clear p0_0 q0_0 p0_1 q0_1 p2_0 q2_0 p2_1 q2_1
      refine (bigCompare_is (G := G) (x := x) (y := z) (k := k3) (H1.out.keep (M.out.2.2)) (H3.out.keep (M.out.2.2)) (Sz.mono HX.out (by omega)) (Sz.mono HZ.out (by omega)) (by exact HK3.out)).mono ?_
      rintro e w26 ⟨rfl, hb⟩
      replace M := Lib.hid (Goes.go M.out hb)
      clear hb
      go_wp2_with fail
      go_ret
      exact ⟨ret_bool (HC.out (by trivial) (by trivial)), (M.out.2.2)⟩
    | true =>
      go_wp2_with fail
      go_ret
      exact ⟨rfl, (M.out.2.2)⟩
  | true =>
    go_wp2_with fail
    go_ret
    exact ⟨rfl, (M.out.2.2.2.2.2.2.2.2.2.2.2.2.2)⟩

theorem order_walk {sa sb sc : Int} {la lb lc : List Int} {a1 a2 a3 : Option Addr} {c1 c2 c3 : Nat} {w : World} (ht : Tab w) (h1 : RdZ w (.slice a1 la.length c1) la) (k1 : la.length ≤ c1) (h2 : RdZ w (.slice a2 lb.length c2) lb) (k2 : lb.length ≤ c2) (h3 : RdZ w (.slice a3 lc.length c3) lc) (k3 : lc.length ≤ c3) :
    Calls Tryd.prog 7 #[.agg #[.int .i64 sa, .slice a1 la.length c1], .agg #[.int .i64 sb, .slice a2 lb.length c2], .agg #[.int .i64 sc, .slice a3 lc.length c3]] w fun e w' => e = .returned (.bool true) ∧ Below w.heap.size w w' := by
  cases hn : (decide ((la.length : Int) ≤ 25) && (decide ((lb.length : Int) ≤ 25) && (decide ((lc.length : Int) ≤ 25) && (rightB sa la && (rightB sb lb && rightB sc lc))))) with
  | false => exact order_not (G := w.heap.size) (Nat.le_refl _) ht h1 h2 h3 hn
  | true =>
    simp only [Bool.and_eq_true] at hn
    obtain ⟨fa, fb, fc, ra, rb, rc⟩ := hn
    obtain ⟨x, ea, la_, ba⟩ := bd_of_right h1 k1 ra
    rw [la_] at fa
    rw [la_, ea]
    obtain ⟨y, eb, lb_, bb⟩ := bd_of_right h2 k2 rb
    rw [lb_] at fb
    rw [lb_, eb]
    obtain ⟨z, ec, lc_, bc⟩ := bd_of_right h3 k3 rc
    rw [lc_] at fc
    rw [lc_, ec]
    exact order_all (G := w.heap.size) (Nat.le_refl _) ht ba bb bc (few_sz_of fa rfl) (few_sz_of fb rfl) (few_sz_of fc rfl)

end Go.Proofs.YtlinegodpoihoaaDoor
