/- BigRing where an argument is not right, or too long. -/
import Derived.Test.YtlinegodpoihoaaDoorLaw04c
namespace Go.Proofs.YtlinegodpoihoaaDoor
open Go.RowKit Go.Lib
variable {G : Nat}

set_option maxRecDepth 100000 in
set_option maxHeartbeats 4000000 in
theorem ring_not {sa sb sc : Int} {la lb lc : List Int} {a1 a2 a3 : Option Addr} {c1 c2 c3 : Nat} {w : World} (hG : G ≤ w.heap.size) (ht : Tab w) (h1 : RdZ w (.slice a1 la.length c1) la) (h2 : RdZ w (.slice a2 lb.length c2) lb) (h3 : RdZ w (.slice a3 lc.length c3) lc) (hn : (decide ((la.length : Int) ≤ 25) && (decide ((lb.length : Int) ≤ 25) && (decide ((lc.length : Int) ≤ 25) && (rightB sa la && (rightB sb lb && rightB sc lc))))) = false) :
    Calls Tryd.prog 5 #[.agg #[.int .i64 sa, .slice a1 la.length c1], .agg #[.int .i64 sb, .slice a2 lb.length c2], .agg #[.int .i64 sc, .slice a3 lc.length c3]] w fun e w' => e = .returned (.bool true) ∧ Below w.heap.size w w' := by
  obtain ⟨fa, hfa⟩ : ∃ b, decide ((la.length : Int) ≤ 25) = b := ⟨_, rfl⟩
  obtain ⟨fb, hfb⟩ : ∃ b, decide ((lb.length : Int) ≤ 25) = b := ⟨_, rfl⟩
  obtain ⟨fc, hfc⟩ : ∃ b, decide ((lc.length : Int) ≤ 25) = b := ⟨_, rfl⟩
  obtain ⟨ra, hra⟩ : ∃ b, rightB sa la = b := ⟨_, rfl⟩
  obtain ⟨rb, hrb⟩ : ∃ b, rightB sb lb = b := ⟨_, rfl⟩
  obtain ⟨rc, hrc⟩ : ∃ b, rightB sc lc = b := ⟨_, rfl⟩
  rw [hfa, hfb, hfc, hra, hrb, hrc] at hn
  have HFa := Lib.hid hfa; have HFb := Lib.hid hfb; have HFc := Lib.hid hfc; have HRa := Lib.hid hra; have HRb := Lib.hid hrb; have HRc := Lib.hid hrc; have HN := Lib.hid hn
  clear hn hfa hfb hfc hra hrb hrc
  have HT : Hid (Tab w) := ht
  have H1 : Hid (RdZ w (.slice a1 la.length c1) la) := h1
  have H2 : Hid (RdZ w (.slice a2 lb.length c2) lb) := h2
  have H3 : Hid (RdZ w (.slice a3 lc.length c3) lc) := h3
  clear ht h1 h2 h3
  have M : Hid (Below w.heap.size w w) := Below.refl _ _
  go_enter Tryd.func5, Tryd.ntmps5
  go_upto_region 1 with fail
  obtain ⟨w1, hv⟩ : ∃ w_ : World, w_ = (((w.alloc (.cells #[.int .i64 sa, .slice a1 la.length c1] 24)).alloc (.cells #[.int .i64 sb, .slice a2 lb.length c2] 24)).alloc (.cells #[.int .i64 sc, .slice a3 lc.length c3] 24)) := ⟨_, rfl⟩
  rw [← hv]
  have hbx := bx3 w 24 24 24 #[.int .i64 sa, .slice a1 la.length c1] #[.int .i64 sb, .slice a2 lb.length c2] #[.int .i64 sc, .slice a3 lc.length c3]
  rw [← hv] at hbx
  have hbn : Below w.heap.size w w1 := by rw [hv]; exact (Below.alloc (Below.alloc (Below.alloc (Below.refl _ _) (by simp <;> omega) _) (by simp <;> omega) _) (by simp <;> omega) _)
  replace M := Lib.hid (And.intro hbx.2.2 (And.intro hbx.2.1 (And.intro hbx.1 (Goes.go M.out hbn))))
  clear hbx hbn
  clear hv
  go_wp2_with fail
  refine (small_ok (G := G) (Nat.le_trans hG (M.out.2.2.2).size) (HT.out.keep (M.out.2.2.2))).mono ?_
  rintro e w2 ⟨rfl, hb⟩
  replace M := Lib.hid (Goes.go M.out hb)
  clear hb
  obtain ⟨p0_0, q0_0, p0_1, q0_1⟩ := (M.out.2.2.1).c2
  go_wp2_with fail
  clear p0_0 q0_0 p0_1 q0_1
  refine (bigFew_ok (s := sa) (m := 25) (b := fa) HFa.out).mono ?_
  rintro e w3 ⟨rfl, hb⟩
  replace M := Lib.hid (Goes.go M.out hb)
  clear hb
  cases fa with
  | false =>
    go_wp2_with fail
    go_ret
    exact ⟨rfl, (M.out.2.2.2)⟩
  | true =>
    obtain ⟨p1_0, q1_0, p1_1, q1_1⟩ := (M.out.2.1).c2
    go_wp2_with fail
    clear p1_0 q1_0 p1_1 q1_1
    refine (bigFew_ok (s := sb) (m := 25) (b := fb) HFb.out).mono ?_
    rintro e w4 ⟨rfl, hb⟩
    replace M := Lib.hid (Goes.go M.out hb)
    clear hb
    cases fb with
    | false =>
      go_wp2_with fail
      go_ret
      exact ⟨rfl, (M.out.2.2.2)⟩
    | true =>
      obtain ⟨p2_0, q2_0, p2_1, q2_1⟩ := (M.out.1).c2
      go_wp2_with fail
      clear p2_0 q2_0 p2_1 q2_1
      refine (bigFew_ok (s := sc) (m := 25) (b := fc) HFc.out).mono ?_
      rintro e w5 ⟨rfl, hb⟩
      replace M := Lib.hid (Goes.go M.out hb)
      clear hb
      cases fc with
      | false =>
        go_wp2_with fail
        go_ret
        exact ⟨rfl, (M.out.2.2.2)⟩
      | true =>
        obtain ⟨p0_0, q0_0, p0_1, q0_1⟩ := (M.out.2.2.1).c2
        go_wp2_with fail
        clear p0_0 q0_0 p0_1 q0_1
        refine (bigRight_len (s := sa) (b := ra) (H1.out.keep (M.out.2.2.2)) (len_of HFa.out (by decide)) HRa.out).mono ?_
        rintro e w6 ⟨rfl, hb⟩
        replace M := Lib.hid (Goes.go M.out hb)
        clear hb
        cases ra with
        | false =>
          go_wp2_with fail
          go_ret
          exact ⟨rfl, (M.out.2.2.2)⟩
        | true =>
          obtain ⟨p1_0, q1_0, p1_1, q1_1⟩ := (M.out.2.1).c2
          go_wp2_with fail
          clear p1_0 q1_0 p1_1 q1_1
          refine (bigRight_len (s := sb) (b := rb) (H2.out.keep (M.out.2.2.2)) (len_of HFb.out (by decide)) HRb.out).mono ?_
          rintro e w7 ⟨rfl, hb⟩
          replace M := Lib.hid (Goes.go M.out hb)
          clear hb
          cases rb with
          | false =>
            go_wp2_with fail
            go_ret
            exact ⟨rfl, (M.out.2.2.2)⟩
          | true =>
            obtain ⟨p2_0, q2_0, p2_1, q2_1⟩ := (M.out.1).c2
            go_wp2_with fail
            clear p2_0 q2_0 p2_1 q2_1
            refine (bigRight_len (s := sc) (b := rc) (H3.out.keep (M.out.2.2.2)) (len_of HFc.out (by decide)) HRc.out).mono ?_
            rintro e w8 ⟨rfl, hb⟩
            replace M := Lib.hid (Goes.go M.out hb)
            clear hb
            cases rc with
            | false =>
              go_wp2_with fail
              go_ret
              exact ⟨rfl, (M.out.2.2.2)⟩
            | true =>
              go_upto_region 4 with fail
              exact absurd HN.out (by decide)

end Go.Proofs.YtlinegodpoihoaaDoor
