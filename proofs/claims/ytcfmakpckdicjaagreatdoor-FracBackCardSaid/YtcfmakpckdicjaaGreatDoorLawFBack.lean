/- The walk of FracBack: whatever the arguments, it returns true. -/
import Derived.Test.YtcfmakpckdicjaaGreatDoorLaw05a
namespace Go.Proofs.YtcfmakpckdicjaaGreatDoor
open Go.RowKit Go.Lib
variable {G : Nat}


set_option maxRecDepth 100000 in
set_option maxHeartbeats 4000000 in
theorem fracText_none {s t : Int} {l m : List Int} {n k : Nat} {a b : Option Addr} {c d : Nat} {w : World} (h1 : FR w a c b d l m) (hn : l.length = n) (hk : m.length = k) (hl : n ≤ 549755813888) (hm : k ≤ 549755813888) (hr : rightF s l t m = false) :
    Calls Tryz.prog 40 #[.agg #[.int .i64 s, .slice a n c, .int .i64 t, .slice b k d]] w fun e w' => e = .returned (.string {data := #[]}) ∧ Below w.heap.size w w' := by
  have HN := Lib.hid hn; have HK := Lib.hid hk; have HL := Lib.hid hl; have HM := Lib.hid hm; have HR := Lib.hid hr; clear hn hk hl hm hr
  have H1 : Hid (FR w a c b d l m) := h1
  clear h1
  have M : Hid (Below w.heap.size w w) := Below.refl _ _
  go_enter Tryz.func40, Tryz.ntmps40
  go_upto_region 1 with fail
  obtain ⟨w1, hv⟩ : ∃ w_ : World, w_ = (w.alloc (.cells #[.int .i64 s, .slice a n c, .int .i64 t, .slice b k d] 26)) := ⟨_, rfl⟩
  rw [← hv]
  replace M := Lib.hid (And.intro (hv ▸ bx1 w 26 #[.int .i64 s, .slice a n c, .int .i64 t, .slice b k d]) (Goes.go M.out (hv ▸ below_alloc _ _ : Below w.heap.size w w1)))
  clear hv
  have y0 := (M.out.1).c4; have p0_0 := y0.1; have q0_0 := y0.2.1; have p0_1 := y0.2.2.1; have q0_1 := y0.2.2.2.1; have p0_2 := y0.2.2.2.2.1; have q0_2 := y0.2.2.2.2.2.1; have p0_3 := y0.2.2.2.2.2.2.1; have q0_3 := y0.2.2.2.2.2.2.2; clear y0
  go_wp2_with fail
  clear p0_0 q0_0 p0_1 q0_1 p0_2 q0_2 p0_3 q0_3
  refine (fracRight_len (s := s) (t := t) (l := l) (m := m) (r := false) (H1.out.keep (M.out.2)) HN.out HK.out HL.out HM.out HR.out).mono ?_
  rintro e w2 ⟨rfl, hb⟩
  replace M := Lib.hid (Goes.go M.out hb)
  clear hb
  go_wp2_with fail
  go_ret
  exact ⟨rfl, (M.out.2)⟩

set_option maxRecDepth 100000 in
set_option maxHeartbeats 4000000 in
theorem back_not {v : Int} {S : ByteArray} {sa ta : Int} {la ma : List Int} {a1 b1 : Option Addr} {c1 d1 : Nat} {w : World} (hG : G ≤ w.heap.size) (ht : Tab w) (hm : Mx w) (h1 : FR w a1 c1 b1 d1 la ma) (hn : (!decide (300 < S.size) && (decide ((la.length : Int) ≤ 40) && decide ((ma.length : Int) ≤ 40))) = false) :
    Calls Tryz.prog 6 #[.agg #[.int .i64 sa, .slice a1 la.length c1, .int .i64 ta, .slice b1 ma.length d1], .int .i64 v, .string S] w fun e w' => e = .returned (.bool true) ∧ Below w.heap.size w w' := by
  obtain ⟨bl, hbl⟩ : ∃ b, decide (300 < S.size) = b := ⟨_, rfl⟩
  obtain ⟨fa, hfa⟩ : ∃ b, (decide ((la.length : Int) ≤ 40) && decide ((ma.length : Int) ≤ 40)) = b := ⟨_, rfl⟩
  rw [hbl, hfa] at hn
  have hbl2 : decide ((300 : Int) < (S.size : Int)) = bl := by rw [← hbl]; exact decide_eq_decide.2 (by omega)
  have HFa := Lib.hid hfa; have HN := Lib.hid hn
  clear hn hfa
  have HT : Hid (Tab w) := ht
  have HM : Hid (Mx w) := hm
  have H1 : Hid (FR w a1 c1 b1 d1 la ma) := h1
  clear ht hm h1
  have M : Hid (Below w.heap.size w w) := Below.refl _ _
  go_enter Tryz.func6, Tryz.ntmps6
  go_upto_region 1 with fail
  obtain ⟨w1, hv⟩ : ∃ w_ : World, w_ = (w.alloc (.cells #[.int .i64 sa, .slice a1 la.length c1, .int .i64 ta, .slice b1 ma.length d1] 26)) := ⟨_, rfl⟩
  rw [← hv]
  replace M := Lib.hid (And.intro (hv ▸ bx1 w 26 #[.int .i64 sa, .slice a1 la.length c1, .int .i64 ta, .slice b1 ma.length d1]) (Goes.go M.out (hv ▸ below_alloc _ _ : Below w.heap.size w w1)))
  clear hv
  go_wp2_with fail
  refine (small_ok (G := G) (Nat.le_trans hG (M.out.2).size) (HT.out.keep (M.out.2)) (HM.out.keep (M.out.2))).mono ?_
  rintro e w2 ⟨rfl, hb⟩
  replace M := Lib.hid (Goes.go M.out hb)
  clear hb
  have y0 := (M.out.1).c4; have p0_0 := y0.1; have q0_0 := y0.2.1; have p0_1 := y0.2.2.1; have q0_1 := y0.2.2.2.1; have p0_2 := y0.2.2.2.2.1; have q0_2 := y0.2.2.2.2.2.1; have p0_3 := y0.2.2.2.2.2.2.1; have q0_3 := y0.2.2.2.2.2.2.2; clear y0
  go_wp2_with fail
  clear p0_0 q0_0 p0_1 q0_1 p0_2 q0_2 p0_3 q0_3
  refine (rfFew_ok (s := sa) (t := ta) (m := 40) (r := fa) HFa.out).mono ?_
  rintro e w3 ⟨rfl, hb⟩
  replace M := Lib.hid (Goes.go M.out hb)
  clear hb
  cases fa with
  | false =>
    go_wp2_with fail
    go_ret
    exact ⟨rfl, (M.out.2)⟩
  | true =>
    cases bl with
    | false =>
      go_upto_region 4 with fail
      exact absurd HN.out (by decide)
    | true =>
      go_wp2_with fail
      go_ret
      exact ⟨rfl, (M.out.2)⟩

theorem read_sizes {l : List UInt8} {q : Rat} (h : readF l = some q) (hl : l.length ≤ 300) : Sz (nu q) 300 ∧ Sz (de q) 300 := by
  have ht := readF_is h
  have hlen := cutS_len l
  rw [← ht] at hlen
  unfold textF at hlen
  rw [cutS_mk (text_noslash _)] at hlen
  have h1 := rd_size (l := textZ (nu q)) (n := 300) (by have := hlen.1; rw [← ht] at hl; unfold textF at hl; dsimp only at this; omega)
  have h2 := rd_size (l := textZ (de q)) (n := 300) (by have := hlen.2; rw [← ht] at hl; unfold textF at hl; dsimp only at this; omega)
  unfold rdZ at h1 h2
  rw [readO_text] at h1 h2
  exact ⟨h1, h2⟩

set_option maxRecDepth 100000 in
set_option maxHeartbeats 4000000 in
theorem back_bad_ok {S : ByteArray} {l : List UInt8} {v : Int} {gq : Rat} {sa ta : Int} {la ma : List Int} {a1 b1 : Option Addr} {c1 d1 : Nat} {w : World} (hG : G ≤ w.heap.size) (ht : Tab w) (hm : Mx w) (h1 : FR w a1 c1 b1 d1 la ma) (hfa : (decide ((la.length : Int) ≤ 40) && decide ((ma.length : Int) ≤ 40)) = true) (hra : rightF sa la ta ma = false) (hS : S = ⟨l.toArray⟩) (hlen : l.length ≤ 300) (hf : readF l = some gq) (hv : -9223372036854775808 ≤ v ∧ v ≤ 9223372036854775807)  :
    Calls Tryz.prog 6 #[.agg #[.int .i64 sa, .slice a1 la.length c1, .int .i64 ta, .slice b1 ma.length d1], .int .i64 v, .string S] w fun e w' => e = .returned (.bool true) ∧ Below w.heap.size w w' := by
  have hsz : ¬ 300 < S.size := by rw [hS]; simp [ByteArray.size]; omega
  have hbl : decide (300 < S.size) = false := decide_eq_false hsz
  have hbl2 : decide ((300 : Int) < (S.size : Int)) = false := decide_eq_false (by omega)
  have HLN : Hid (l.length ≤ 1000) := by show _ ≤ _; omega
  have HRE : Hid (rfE l = 0) := by show _ = _; unfold rfE; rw [hf]; rfl
  have HV := Lib.hid hv
  have HS := Lib.hid hS; have HF := Lib.hid hf
  have HTX : Hid ((⟨(textZ (nu gq) ++ 47 :: textZ (de gq)).toArray⟩ : ByteArray) = S) := by show _ = _; rw [hS, ← readF_is hf]; rfl
  have hrs := read_sizes hf hlen
  have HZ1 : Hid (Sz (oN (some gq)) 300) := hrs.1
  have HZ2 : Hid (Sz (oD (some gq)) 300) := hrs.2
  clear hrs
  have HFa := Lib.hid hfa; have HRa := Lib.hid hra
  clear hfa hra hS hlen hf hsz hv
  have HT : Hid (Tab w) := ht
  have HM : Hid (Mx w) := hm
  have H1 : Hid (FR w a1 c1 b1 d1 la ma) := h1
  clear ht hm h1
  have M : Hid (Below w.heap.size w w) := Below.refl _ _
  go_enter Tryz.func6, Tryz.ntmps6
  go_upto_region 1 with fail
  obtain ⟨w1, hv⟩ : ∃ w_ : World, w_ = (w.alloc (.cells #[.int .i64 sa, .slice a1 la.length c1, .int .i64 ta, .slice b1 ma.length d1] 26)) := ⟨_, rfl⟩
  rw [← hv]
  replace M := Lib.hid (And.intro (hv ▸ bx1 w 26 #[.int .i64 sa, .slice a1 la.length c1, .int .i64 ta, .slice b1 ma.length d1]) (Goes.go M.out (hv ▸ below_alloc _ _ : Below w.heap.size w w1)))
  clear hv
  go_wp2_with fail
  refine (small_ok (G := G) (Nat.le_trans hG (M.out.2).size) (HT.out.keep (M.out.2)) (HM.out.keep (M.out.2))).mono ?_
  rintro e w2 ⟨rfl, hb⟩
  replace M := Lib.hid (Goes.go M.out hb)
  clear hb
  have y0 := (M.out.1).c4; have p0_0 := y0.1; have q0_0 := y0.2.1; have p0_1 := y0.2.2.1; have q0_1 := y0.2.2.2.1; have p0_2 := y0.2.2.2.2.1; have q0_2 := y0.2.2.2.2.2.1; have p0_3 := y0.2.2.2.2.2.2.1; have q0_3 := y0.2.2.2.2.2.2.2; clear y0
  go_wp2_with fail
  clear p0_0 q0_0 p0_1 q0_1 p0_2 q0_2 p0_3 q0_3
  refine (rfFew_ok (s := sa) (t := ta) (m := 40) (r := true) HFa.out).mono ?_
  rintro e w3 ⟨rfl, hb⟩
  replace M := Lib.hid (Goes.go M.out hb)
  clear hb
  go_wp2_with fail
  obtain ⟨z5, ez5⟩ : ∃ v_ : Int, v_ = (oN (some gq)) := ⟨_, rfl⟩
  obtain ⟨z6, ez6⟩ : ∃ v_ : Int, v_ = (oD (some gq)) := ⟨_, rfl⟩
  refine (fracRead_v (G := G) (S := S) (l := l) (o := (some gq)) (er := 0) (Nat.le_trans hG (M.out.2).size) (HT.out.keep (M.out.2)) (HM.out.keep (M.out.2)) HS.out HLN.out HF.out HRE.out).mono ?_
  rintro e w4 ⟨a_1, c_2, b_3, d_4, rfl, hd7, hd8, hb⟩
  rw [← ez5] at hd7 ⊢
  have Sz5 : Hid (Sz z5 300) := by show Sz z5 300; rw [ez5]; exact HZ1.out
  have Ez5 := Lib.hid ez5; clear ez5
  rw [← ez6] at hd8 ⊢
  have Sz6 : Hid (Sz z6 300) := by show Sz z6 300; rw [ez6]; exact HZ2.out
  have Ez6 := Lib.hid ez6; clear ez6
  replace M := Lib.hid (And.intro hd7 (And.intro hd8 (Goes.go M.out hb)))
  clear hb hd7 hd8
  go_upto_region 5 with fail
  obtain ⟨w5, hv⟩ : ∃ w_ : World, w_ = (w4.alloc (.cells #[.int .i64 (sg z5), .slice a_1 (ln z5) c_2, .int .i64 (sg z6), .slice b_3 (ln z6) d_4] 26)) := ⟨_, rfl⟩
  rw [← hv]
  have o1 : w.heap.size < w4.heap.size := ((M.out.2.2.1)).lt
  replace M := Lib.hid (And.intro (hv ▸ bx1 w4 26 #[.int .i64 (sg z5), .slice a_1 (ln z5) c_2, .int .i64 (sg z6), .slice b_3 (ln z6) d_4]) (Goes.go M.out (hv ▸ below_alloc _ _ : Below w4.heap.size w4 w5)))
  clear hv
  have y1 := (M.out.1).c4; have p1_0 := y1.1; have q1_0 := y1.2.1; have p1_1 := y1.2.2.1; have q1_1 := y1.2.2.2.1; have p1_2 := y1.2.2.2.2.1; have q1_2 := y1.2.2.2.2.2.1; have p1_3 := y1.2.2.2.2.2.2.1; have q1_3 := y1.2.2.2.2.2.2.2; clear y1
  go_wp2_with fail
  clear p1_0 q1_0 p1_1 q1_1 p1_2 q1_2 p1_3 q1_3
  refine (fracRight_bd (G := G) (x := z5) (y := z6) (b_ := true) (M.out.2.1) (M.out.2.2.1) (Sz.mono Sz5.out (by omega)) (Sz.mono Sz6.out (by omega)) (by rw [Ez6.out, Ez5.out]; exact rightP_rat gq)).mono ?_
  rintro e w6 ⟨rfl, hb⟩
  replace M := Lib.hid (Goes.go M.out hb)
  clear hb
  have y1 := (M.out.1).c4; have p1_0 := y1.1; have q1_0 := y1.2.1; have p1_1 := y1.2.2.1; have q1_1 := y1.2.2.2.1; have p1_2 := y1.2.2.2.2.1; have q1_2 := y1.2.2.2.2.2.1; have p1_3 := y1.2.2.2.2.2.2.1; have q1_3 := y1.2.2.2.2.2.2.2; clear y1
  go_wp2_with fail
  clear p1_0 q1_0 p1_1 q1_1 p1_2 q1_2 p1_3 q1_3
  refine (fracText_bd (G := G) (x := z5) (y := z6) (s := S) (M.out.2.1) (M.out.2.2.1) (Sz.mono Sz5.out (by omega)) (Sz.mono Sz6.out (by omega)) (HT.out.keep (M.out.2.2.2.2)) (by rw [Ez6.out, Ez5.out]; exact rightP_rat gq) (by rw [Ez6.out, Ez5.out]; exact HTX.out)).mono ?_
  rintro e w7 ⟨rfl, hb⟩
  replace M := Lib.hid (Goes.go M.out hb)
  clear hb
  have y0 := (M.out.2.2.2.1).c4; have p0_0 := y0.1; have q0_0 := y0.2.1; have p0_1 := y0.2.2.1; have q0_1 := y0.2.2.2.1; have p0_2 := y0.2.2.2.2.1; have q0_2 := y0.2.2.2.2.2.1; have p0_3 := y0.2.2.2.2.2.2.1; have q0_3 := y0.2.2.2.2.2.2.2; clear y0
  go_wp2_with fail
  clear p0_0 q0_0 p0_1 q0_1 p0_2 q0_2 p0_3 q0_3
  refine (fracText_none (s := sa) (t := ta) (l := la) (m := ma) (H1.out.keep (M.out.2.2.2.2)) rfl rfl (len_of5 HFa.out (by decide)).1 (len_of5 HFa.out (by decide)).2 HRa.out).mono ?_
  rintro e w8 ⟨rfl, hb⟩
  replace M := Lib.hid (Goes.go M.out hb)
  clear hb
  go_upto_region 8 with fail
  as_aux_lemma =>
   have y0 := (M.out.2.2.2.1).c4; have p0_0 := y0.1; have q0_0 := y0.2.1; have p0_1 := y0.2.2.1; have q0_1 := y0.2.2.2.1; have p0_2 := y0.2.2.2.2.1; have q0_2 := y0.2.2.2.2.2.1; have p0_3 := y0.2.2.2.2.2.2.1; have q0_3 := y0.2.2.2.2.2.2.2; clear y0
   go_wp2_with fail
   clear p0_0 q0_0 p0_1 q0_1 p0_2 q0_2 p0_3 q0_3
   refine (fracRight_len (s := sa) (t := ta) (l := la) (m := ma) (r := false) (H1.out.keep (M.out.2.2.2.2)) rfl rfl (len_of5 HFa.out (by decide)).1 (len_of5 HFa.out (by decide)).2 HRa.out).mono ?_
   rintro e w9 ⟨rfl, hb⟩
   replace M := Lib.hid (Goes.go M.out hb)
   clear hb
   go_wp2_with fail
   go_ret
   exact ⟨rfl, (M.out.2.2.2.2)⟩

set_option maxRecDepth 100000 in
set_option maxHeartbeats 4000000 in
theorem back_bad_no {S : ByteArray} {l : List UInt8} {v : Int} {sa ta : Int} {la ma : List Int} {a1 b1 : Option Addr} {c1 d1 : Nat} {w : World} (hG : G ≤ w.heap.size) (ht : Tab w) (hm : Mx w) (h1 : FR w a1 c1 b1 d1 la ma) (hfa : (decide ((la.length : Int) ≤ 40) && decide ((ma.length : Int) ≤ 40)) = true) (hra : rightF sa la ta ma = false) (hS : S = ⟨l.toArray⟩) (hlen : l.length ≤ 300) (hf : readF l = none) (hv : -9223372036854775808 ≤ v ∧ v ≤ 9223372036854775807)  :
    Calls Tryz.prog 6 #[.agg #[.int .i64 sa, .slice a1 la.length c1, .int .i64 ta, .slice b1 ma.length d1], .int .i64 v, .string S] w fun e w' => e = .returned (.bool true) ∧ Below w.heap.size w w' := by
  have hsz : ¬ 300 < S.size := by rw [hS]; simp [ByteArray.size]; omega
  have hbl : decide (300 < S.size) = false := decide_eq_false hsz
  have hbl2 : decide ((300 : Int) < (S.size : Int)) = false := decide_eq_false (by omega)
  have HLN : Hid (l.length ≤ 1000) := by show _ ≤ _; omega
  have HRE : Hid (rfE l = 2) := by show _ = _; unfold rfE; rw [hf]; rfl
  have HV := Lib.hid hv
  have HS := Lib.hid hS; have HF := Lib.hid hf
  have HFa := Lib.hid hfa; have HRa := Lib.hid hra
  clear hfa hra hS hlen hf hsz hv
  have HT : Hid (Tab w) := ht
  have HM : Hid (Mx w) := hm
  have H1 : Hid (FR w a1 c1 b1 d1 la ma) := h1
  clear ht hm h1
  have M : Hid (Below w.heap.size w w) := Below.refl _ _
  go_enter Tryz.func6, Tryz.ntmps6
  go_upto_region 1 with fail
  obtain ⟨w1, hv⟩ : ∃ w_ : World, w_ = (w.alloc (.cells #[.int .i64 sa, .slice a1 la.length c1, .int .i64 ta, .slice b1 ma.length d1] 26)) := ⟨_, rfl⟩
  rw [← hv]
  replace M := Lib.hid (And.intro (hv ▸ bx1 w 26 #[.int .i64 sa, .slice a1 la.length c1, .int .i64 ta, .slice b1 ma.length d1]) (Goes.go M.out (hv ▸ below_alloc _ _ : Below w.heap.size w w1)))
  clear hv
  go_wp2_with fail
  refine (small_ok (G := G) (Nat.le_trans hG (M.out.2).size) (HT.out.keep (M.out.2)) (HM.out.keep (M.out.2))).mono ?_
  rintro e w2 ⟨rfl, hb⟩
  replace M := Lib.hid (Goes.go M.out hb)
  clear hb
  have y0 := (M.out.1).c4; have p0_0 := y0.1; have q0_0 := y0.2.1; have p0_1 := y0.2.2.1; have q0_1 := y0.2.2.2.1; have p0_2 := y0.2.2.2.2.1; have q0_2 := y0.2.2.2.2.2.1; have p0_3 := y0.2.2.2.2.2.2.1; have q0_3 := y0.2.2.2.2.2.2.2; clear y0
  go_wp2_with fail
  clear p0_0 q0_0 p0_1 q0_1 p0_2 q0_2 p0_3 q0_3
  refine (rfFew_ok (s := sa) (t := ta) (m := 40) (r := true) HFa.out).mono ?_
  rintro e w3 ⟨rfl, hb⟩
  replace M := Lib.hid (Goes.go M.out hb)
  clear hb
  go_wp2_with fail
  obtain ⟨z5, ez5⟩ : ∃ v_ : Int, v_ = (oN none) := ⟨_, rfl⟩
  obtain ⟨z6, ez6⟩ : ∃ v_ : Int, v_ = (oD none) := ⟨_, rfl⟩
  refine (fracRead_v (G := G) (S := S) (l := l) (o := none) (er := 2) (Nat.le_trans hG (M.out.2).size) (HT.out.keep (M.out.2)) (HM.out.keep (M.out.2)) HS.out HLN.out HF.out HRE.out).mono ?_
  rintro e w4 ⟨a_1, c_2, b_3, d_4, rfl, hd7, hd8, hb⟩
  rw [← ez5] at hd7 ⊢
  have Sz5 : Hid (Sz z5 0) := by show Sz z5 0; rw [ez5]; exact (show Sz (oN none) 0 from by unfold Sz; decide)
  have Ez5 := Lib.hid ez5; clear ez5
  rw [← ez6] at hd8 ⊢
  have Sz6 : Hid (Sz z6 0) := by show Sz z6 0; rw [ez6]; exact (show Sz (oD none) 0 from by unfold Sz; decide)
  have Ez6 := Lib.hid ez6; clear ez6
  replace M := Lib.hid (And.intro hd7 (And.intro hd8 (Goes.go M.out hb)))
  clear hb hd7 hd8
  go_upto_region 5 with fail
  obtain ⟨w5, hv⟩ : ∃ w_ : World, w_ = (w4.alloc (.cells #[.int .i64 (sg z5), .slice a_1 (ln z5) c_2, .int .i64 (sg z6), .slice b_3 (ln z6) d_4] 26)) := ⟨_, rfl⟩
  rw [← hv]
  have o1 : w.heap.size < w4.heap.size := ((M.out.2.2.1)).lt
  replace M := Lib.hid (And.intro (hv ▸ bx1 w4 26 #[.int .i64 (sg z5), .slice a_1 (ln z5) c_2, .int .i64 (sg z6), .slice b_3 (ln z6) d_4]) (Goes.go M.out (hv ▸ below_alloc _ _ : Below w4.heap.size w4 w5)))
  clear hv
  have y1 := (M.out.1).c4; have p1_0 := y1.1; have q1_0 := y1.2.1; have p1_1 := y1.2.2.1; have q1_1 := y1.2.2.2.1; have p1_2 := y1.2.2.2.2.1; have q1_2 := y1.2.2.2.2.2.1; have p1_3 := y1.2.2.2.2.2.2.1; have q1_3 := y1.2.2.2.2.2.2.2; clear y1
  go_wp2_with fail
  clear p1_0 q1_0 p1_1 q1_1 p1_2 q1_2 p1_3 q1_3
  refine (rfsame_two (G := G) (x := z5) (y := z6) (u := 0) (v := 0) (M.out.2.1) (M.out.2.2.1) (bd_zero _ _ _) (bd_zero _ _ _) (Sz.mono Sz5.out (by omega)) (Sz.mono Sz6.out (by omega)) (by rw [Ez5.out]; rfl) (by rw [Ez6.out]; rfl)).mono ?_
  rintro e w6 ⟨rfl, hb⟩
  replace M := Lib.hid (Goes.go M.out hb)
  clear hb
  have y0 := (M.out.2.2.2.1).c4; have p0_0 := y0.1; have q0_0 := y0.2.1; have p0_1 := y0.2.2.1; have q0_1 := y0.2.2.2.1; have p0_2 := y0.2.2.2.2.1; have q0_2 := y0.2.2.2.2.2.1; have p0_3 := y0.2.2.2.2.2.2.1; have q0_3 := y0.2.2.2.2.2.2.2; clear y0
  go_wp2_with fail
  clear p0_0 q0_0 p0_1 q0_1 p0_2 q0_2 p0_3 q0_3
  refine (fracText_none (s := sa) (t := ta) (l := la) (m := ma) (H1.out.keep (M.out.2.2.2.2)) rfl rfl (len_of5 HFa.out (by decide)).1 (len_of5 HFa.out (by decide)).2 HRa.out).mono ?_
  rintro e w7 ⟨rfl, hb⟩
  replace M := Lib.hid (Goes.go M.out hb)
  clear hb
  go_upto_region 8 with fail
  as_aux_lemma =>
   have y0 := (M.out.2.2.2.1).c4; have p0_0 := y0.1; have q0_0 := y0.2.1; have p0_1 := y0.2.2.1; have q0_1 := y0.2.2.2.1; have p0_2 := y0.2.2.2.2.1; have q0_2 := y0.2.2.2.2.2.1; have p0_3 := y0.2.2.2.2.2.2.1; have q0_3 := y0.2.2.2.2.2.2.2; clear y0
   go_wp2_with fail
   clear p0_0 q0_0 p0_1 q0_1 p0_2 q0_2 p0_3 q0_3
   refine (fracRight_len (s := sa) (t := ta) (l := la) (m := ma) (r := false) (H1.out.keep (M.out.2.2.2.2)) rfl rfl (len_of5 HFa.out (by decide)).1 (len_of5 HFa.out (by decide)).2 HRa.out).mono ?_
   rintro e w8 ⟨rfl, hb⟩
   replace M := Lib.hid (Goes.go M.out hb)
   clear hb
   go_wp2_with fail
   go_ret
   exact ⟨rfl, (M.out.2.2.2.2)⟩

set_option maxRecDepth 100000 in
set_option maxHeartbeats 4000000 in
theorem back_zero_ok {S : ByteArray} {l : List UInt8} {v : Int} {gq : Rat} {q : Rat} {a1 b1 : Option Addr} {c1 d1 : Nat} {w : World} (hG : G ≤ w.heap.size) (ht : Tab w) (hm : Mx w) (h1 : FD G w a1 c1 b1 d1 q) (hq : Fz q 40) (hv0 : v = 0) (hS : S = ⟨l.toArray⟩) (hlen : l.length ≤ 300) (hf : readF l = some gq) (hv : -9223372036854775808 ≤ v ∧ v ≤ 9223372036854775807)  :
    Calls Tryz.prog 6 #[.agg #[.int .i64 (sg (nu q)), .slice a1 (ln (nu q)) c1, .int .i64 (sg (de q)), .slice b1 (ln (de q)) d1], .int .i64 v, .string S] w fun e w' => e = .returned (.bool true) ∧ Below w.heap.size w w' := by
  have hsz : ¬ 300 < S.size := by rw [hS]; simp [ByteArray.size]; omega
  have hbl : decide (300 < S.size) = false := decide_eq_false hsz
  have hbl2 : decide ((300 : Int) < (S.size : Int)) = false := decide_eq_false (by omega)
  have HLN : Hid (l.length ≤ 1000) := by show _ ≤ _; omega
  have HRE : Hid (rfE l = 0) := by show _ = _; unfold rfE; rw [hf]; rfl
  have HV := Lib.hid hv
  have HS := Lib.hid hS; have HF := Lib.hid hf
  have HTX : Hid ((⟨(textZ (nu gq) ++ 47 :: textZ (de gq)).toArray⟩ : ByteArray) = S) := by show _ = _; rw [hS, ← readF_is hf]; rfl
  have hrs := read_sizes hf hlen
  have HZ1 : Hid (Sz (oN (some gq)) 300) := hrs.1
  have HZ2 : Hid (Sz (oD (some gq)) 300) := hrs.2
  clear hrs
  obtain ⟨S2, hS2⟩ : ∃ s : ByteArray, (⟨(textF q).toArray⟩ : ByteArray) = s := ⟨_, rfl⟩
  have HS2 := Lib.hid hS2
  have htl := textZ_len hq.1 (by omega)
  have htl2 := textZ_len hq.2 (by omega)
  have HL2 : Hid ((textF q).length ≤ 1000) := by show _ ≤ _; unfold textF; simp; omega
  have HE2 : Hid (rfE (textF q) = 0) := by show _ = _; unfold rfE; rw [readF_text]; rfl
  have HR2 : Hid (readF (textF q) = some q) := readF_text q
  have HP2 : Hid (Rat.divInt (nu q) (de q) = q) := divInt_parts q
  have HQ := Lib.hid hq
  have HZ3 : Hid (Sz (oN (some q)) 40) := hq.1
  have HZ4 : Hid (Sz (oD (some q)) 40) := hq.2
  have e0 : (v == 0) = true := by rw [hv0]; rfl
  have e1 : (v != 0) = false := by rw [hv0]; rfl
  have HV0 : Hid (de q * v = 0) := by show _ = _; rw [hv0, Int.mul_zero]
  clear hS2 hq hv0 htl htl2 hS hlen hf hsz hv
  have HT : Hid (Tab w) := ht
  have HM : Hid (Mx w) := hm
  have H1 : Hid (FD G w a1 c1 b1 d1 q) := h1
  clear ht hm h1
  have M : Hid (Below w.heap.size w w) := Below.refl _ _
  go_enter Tryz.func6, Tryz.ntmps6
  go_upto_region 1 with fail
  obtain ⟨w1, hv⟩ : ∃ w_ : World, w_ = (w.alloc (.cells #[.int .i64 (sg (nu q)), .slice a1 (ln (nu q)) c1, .int .i64 (sg (de q)), .slice b1 (ln (de q)) d1] 26)) := ⟨_, rfl⟩
  rw [← hv]
  replace M := Lib.hid (And.intro (hv ▸ bx1 w 26 #[.int .i64 (sg (nu q)), .slice a1 (ln (nu q)) c1, .int .i64 (sg (de q)), .slice b1 (ln (de q)) d1]) (Goes.go M.out (hv ▸ below_alloc _ _ : Below w.heap.size w w1)))
  clear hv
  go_wp2_with fail
  refine (small_ok (G := G) (Nat.le_trans hG (M.out.2).size) (HT.out.keep (M.out.2)) (HM.out.keep (M.out.2))).mono ?_
  rintro e w2 ⟨rfl, hb⟩
  replace M := Lib.hid (Goes.go M.out hb)
  clear hb
  have y0 := (M.out.1).c4; have p0_0 := y0.1; have q0_0 := y0.2.1; have p0_1 := y0.2.2.1; have q0_1 := y0.2.2.2.1; have p0_2 := y0.2.2.2.2.1; have q0_2 := y0.2.2.2.2.2.1; have p0_3 := y0.2.2.2.2.2.2.1; have q0_3 := y0.2.2.2.2.2.2.2; clear y0
  go_wp2_with fail
  clear p0_0 q0_0 p0_1 q0_1 p0_2 q0_2 p0_3 q0_3
  refine (rfFew_ok (s := (sg (nu q))) (t := (sg (de q))) (m := 40) (r := true) (few_fz HQ.out rfl)).mono ?_
  rintro e w3 ⟨rfl, hb⟩
  replace M := Lib.hid (Goes.go M.out hb)
  clear hb
  go_wp2_with fail
  obtain ⟨z5, ez5⟩ : ∃ v_ : Int, v_ = (oN (some gq)) := ⟨_, rfl⟩
  obtain ⟨z6, ez6⟩ : ∃ v_ : Int, v_ = (oD (some gq)) := ⟨_, rfl⟩
  refine (fracRead_v (G := G) (S := S) (l := l) (o := (some gq)) (er := 0) (Nat.le_trans hG (M.out.2).size) (HT.out.keep (M.out.2)) (HM.out.keep (M.out.2)) HS.out HLN.out HF.out HRE.out).mono ?_
  rintro e w4 ⟨a_1, c_2, b_3, d_4, rfl, hd7, hd8, hb⟩
  rw [← ez5] at hd7 ⊢
  have Sz5 : Hid (Sz z5 300) := by show Sz z5 300; rw [ez5]; exact HZ1.out
  have Ez5 := Lib.hid ez5; clear ez5
  rw [← ez6] at hd8 ⊢
  have Sz6 : Hid (Sz z6 300) := by show Sz z6 300; rw [ez6]; exact HZ2.out
  have Ez6 := Lib.hid ez6; clear ez6
  replace M := Lib.hid (And.intro hd7 (And.intro hd8 (Goes.go M.out hb)))
  clear hb hd7 hd8
  go_upto_region 5 with fail
  obtain ⟨w5, hv⟩ : ∃ w_ : World, w_ = (w4.alloc (.cells #[.int .i64 (sg z5), .slice a_1 (ln z5) c_2, .int .i64 (sg z6), .slice b_3 (ln z6) d_4] 26)) := ⟨_, rfl⟩
  rw [← hv]
  have o1 : w.heap.size < w4.heap.size := ((M.out.2.2.1)).lt
  replace M := Lib.hid (And.intro (hv ▸ bx1 w4 26 #[.int .i64 (sg z5), .slice a_1 (ln z5) c_2, .int .i64 (sg z6), .slice b_3 (ln z6) d_4]) (Goes.go M.out (hv ▸ below_alloc _ _ : Below w4.heap.size w4 w5)))
  clear hv
  have y1 := (M.out.1).c4; have p1_0 := y1.1; have q1_0 := y1.2.1; have p1_1 := y1.2.2.1; have q1_1 := y1.2.2.2.1; have p1_2 := y1.2.2.2.2.1; have q1_2 := y1.2.2.2.2.2.1; have p1_3 := y1.2.2.2.2.2.2.1; have q1_3 := y1.2.2.2.2.2.2.2; clear y1
  go_wp2_with fail
  clear p1_0 q1_0 p1_1 q1_1 p1_2 q1_2 p1_3 q1_3
  refine (fracRight_bd (G := G) (x := z5) (y := z6) (b_ := true) (M.out.2.1) (M.out.2.2.1) (Sz.mono Sz5.out (by omega)) (Sz.mono Sz6.out (by omega)) (by rw [Ez6.out, Ez5.out]; exact rightP_rat gq)).mono ?_
  rintro e w6 ⟨rfl, hb⟩
  replace M := Lib.hid (Goes.go M.out hb)
  clear hb
  have y1 := (M.out.1).c4; have p1_0 := y1.1; have q1_0 := y1.2.1; have p1_1 := y1.2.2.1; have q1_1 := y1.2.2.2.1; have p1_2 := y1.2.2.2.2.1; have q1_2 := y1.2.2.2.2.2.1; have p1_3 := y1.2.2.2.2.2.2.1; have q1_3 := y1.2.2.2.2.2.2.2; clear y1
  go_wp2_with fail
  clear p1_0 q1_0 p1_1 q1_1 p1_2 q1_2 p1_3 q1_3
  refine (fracText_bd (G := G) (x := z5) (y := z6) (s := S) (M.out.2.1) (M.out.2.2.1) (Sz.mono Sz5.out (by omega)) (Sz.mono Sz6.out (by omega)) (HT.out.keep (M.out.2.2.2.2)) (by rw [Ez6.out, Ez5.out]; exact rightP_rat gq) (by rw [Ez6.out, Ez5.out]; exact HTX.out)).mono ?_
  rintro e w7 ⟨rfl, hb⟩
  replace M := Lib.hid (Goes.go M.out hb)
  clear hb
  have y0 := (M.out.2.2.2.1).c4; have p0_0 := y0.1; have q0_0 := y0.2.1; have p0_1 := y0.2.2.1; have q0_1 := y0.2.2.2.1; have p0_2 := y0.2.2.2.2.1; have q0_2 := y0.2.2.2.2.2.1; have p0_3 := y0.2.2.2.2.2.2.1; have q0_3 := y0.2.2.2.2.2.2.2; clear y0
  go_wp2_with fail
  clear p0_0 q0_0 p0_1 q0_1 p0_2 q0_2 p0_3 q0_3
  refine (fracText_lit (G := G) (q := q) (s := S2) (H1.out.keep (M.out.2.2.2.2)) (Fz.mono HQ.out (by omega)) (HT.out.keep (M.out.2.2.2.2)) HS2.out).mono ?_
  rintro e w8 ⟨rfl, hb⟩
  replace M := Lib.hid (Goes.go M.out hb)
  clear hb
  go_upto_region 8 with fail
  as_aux_lemma =>
   have y0 := (M.out.2.2.2.1).c4; have p0_0 := y0.1; have q0_0 := y0.2.1; have p0_1 := y0.2.2.1; have q0_1 := y0.2.2.2.1; have p0_2 := y0.2.2.2.2.1; have q0_2 := y0.2.2.2.2.2.1; have p0_3 := y0.2.2.2.2.2.2.1; have q0_3 := y0.2.2.2.2.2.2.2; clear y0
   go_wp2_with fail
   clear p0_0 q0_0 p0_1 q0_1 p0_2 q0_2 p0_3 q0_3
   refine (fracRight_ok (G := G) (q := q) (H1.out.keep (M.out.2.2.2.2)) (Fz.mono HQ.out (by omega))).mono ?_
   rintro e w9 ⟨rfl, hb⟩
   replace M := Lib.hid (Goes.go M.out hb)
   clear hb
   go_wp2_with fail
   obtain ⟨z13, ez13⟩ : ∃ v_ : Int, v_ = (oN (some q)) := ⟨_, rfl⟩
   obtain ⟨z14, ez14⟩ : ∃ v_ : Int, v_ = (oD (some q)) := ⟨_, rfl⟩
   refine (fracRead_v (G := G) (S := S2) (l := (textF q)) (o := (some q)) (er := 0) (Nat.le_trans hG (M.out.2.2.2.2).size) (HT.out.keep (M.out.2.2.2.2)) (HM.out.keep (M.out.2.2.2.2)) HS2.out.symm HL2.out HR2.out HE2.out).mono ?_
   rintro e w10 ⟨a_9, c_10, b_11, d_12, rfl, hd15, hd16, hb⟩
   rw [← ez13] at hd15 ⊢
   have Sz13 : Hid (Sz z13 40) := by show Sz z13 40; rw [ez13]; exact HZ3.out
   have Ez13 := Lib.hid ez13; clear ez13
   rw [← ez14] at hd16 ⊢
   have Sz14 : Hid (Sz z14 40) := by show Sz z14 40; rw [ez14]; exact HZ4.out
   have Ez14 := Lib.hid ez14; clear ez14
   replace M := Lib.hid (And.intro hd15 (And.intro hd16 (Goes.go M.out hb)))
   clear hb hd15 hd16
   go_upto_region 11 with fail
   obtain ⟨w11, hv⟩ : ∃ w_ : World, w_ = (w10.alloc (.cells #[.int .i64 (sg z13), .slice a_9 (ln z13) c_10, .int .i64 (sg z14), .slice b_11 (ln z14) d_12] 26)) := ⟨_, rfl⟩
   rw [← hv]
   have o2 : w4.heap.size < w10.heap.size := ((M.out.2.2.1)).lt
   replace M := Lib.hid (And.intro (hv ▸ bx1 w10 26 #[.int .i64 (sg z13), .slice a_9 (ln z13) c_10, .int .i64 (sg z14), .slice b_11 (ln z14) d_12]) (Goes.go M.out (hv ▸ below_alloc _ _ : Below w10.heap.size w10 w11)))
   clear hv
   as_aux_lemma =>
    have y0 := (M.out.2.2.2.2.2.2.1).c4; have p0_0 := y0.1; have q0_0 := y0.2.1; have p0_1 := y0.2.2.1; have q0_1 := y0.2.2.2.1; have p0_2 := y0.2.2.2.2.1; have q0_2 := y0.2.2.2.2.2.1; have p0_3 := y0.2.2.2.2.2.2.1; have q0_3 := y0.2.2.2.2.2.2.2; clear y0
    go_wp2_with fail
    clear p0_0 q0_0 p0_1 q0_1 p0_2 q0_2 p0_3 q0_3
    refine (new_is (G := G) (x := (nu q)) (y := (de q)) (q := q) (Nat.le_trans hG (M.out.2.2.2.2.2.2.2).size) (H1.out.keep (M.out.2.2.2.2.2.2.2)).n (H1.out.keep (M.out.2.2.2.2.2.2.2)).d (Sz.mono HQ.out.1 (by omega)) (Sz.mono HQ.out.2 (by omega)) (Int.ne_of_gt (de_pos q)) HP2.out).mono ?_
    rintro e w12 ⟨a_17, c_18, b_19, d_20, rfl, hd21, hb⟩
    replace M := Lib.hid (And.intro hd21 (Goes.go M.out hb))
    clear hb hd21
    go_upto_region 12 with fail
    obtain ⟨w13, hv⟩ : ∃ w_ : World, w_ = (w12.alloc (.cells #[.int .i64 (sg (nu q)), .slice a_17 (ln (nu q)) c_18, .int .i64 (sg (de q)), .slice b_19 (ln (de q)) d_20] 26)) := ⟨_, rfl⟩
    rw [← hv]
    have o3 : w10.heap.size < w12.heap.size := ((M.out.2.1)).lt
    replace M := Lib.hid (And.intro (hv ▸ bx1 w12 26 #[.int .i64 (sg (nu q)), .slice a_17 (ln (nu q)) c_18, .int .i64 (sg (de q)), .slice b_19 (ln (de q)) d_20]) (Goes.go M.out (hv ▸ below_alloc _ _ : Below w12.heap.size w12 w13)))
    clear hv
    replace M := Lib.hid (And.intro (M.out.1) (And.intro (M.out.2.1) (And.intro (M.out.2.2.1) (And.intro (M.out.2.2.2.1) (And.intro (M.out.2.2.2.2.1) (And.intro (M.out.2.2.2.2.2.2.2.2.1) (M.out.2.2.2.2.2.2.2.2.2)))))))
    go_cut [15, 16] (fun s15 s16 wx => ∃ (A29 : Nat), ∃ (a_22 : Option Addr), ∃ (c_23 : Nat), ∃ (a_25 : Option Addr), ∃ (c_26 : Nat), ∃ (z27 : Int), s15 = .pointer (some ⟨A29, 0, none⟩) ∧ s16 = .int .i64 0 ∧ Hid (z27 = ((nu q) * v)) ∧ Hid (Sz z27 44) ∧ w12.heap.size < A29 ∧ Hid (Bx wx A29 24 #[.int .i64 (sg z27), .slice a_25 (ln z27) c_26] ∧ BD G wx a_25 c_26 z27 ∧ BD G wx a_22 c_23 v ∧ FD G wx a_17 c_18 b_19 d_20 q ∧ BD G wx a_9 c_10 z13 ∧ BD G wx b_11 d_12 z14 ∧ Bx wx w.heap.size 26 #[.int .i64 (sg (nu q)), .slice a1 (ln (nu q)) c1, .int .i64 (sg (de q)), .slice b1 (ln (de q)) d1] ∧ Bx wx w10.heap.size 26 #[.int .i64 (sg z13), .slice a_9 (ln z13) c_10, .int .i64 (sg z14), .slice b_11 (ln z14) d_12] ∧ Bx wx w12.heap.size 26 #[.int .i64 (sg (nu q)), .slice a_17 (ln (nu q)) c_18, .int .i64 (sg (de q)), .slice b_19 (ln (de q)) d_20] ∧ Below w.heap.size w wx))
    case first =>
      obtain ⟨w14, hv⟩ : ∃ w_ : World, w_ = w13.drew := ⟨_, rfl⟩
      replace M := Lib.hid (Goes.go M.out (hv ▸ below_drew _ : Below w13.heap.size w13 w14))
      refine wp_region_held_drew (S := (fun w' => w'.cell? ⟨w.heap.size, 0, none⟩ = some (.int .i64 (sg (nu q))) ∧ w'.cell? ⟨w.heap.size, 1, none⟩ = some (.slice a1 (ln (nu q)) c1) ∧ w'.cell? ⟨w.heap.size, 2, none⟩ = some (.int .i64 (sg (de q))) ∧ w'.cell? ⟨w.heap.size, 3, none⟩ = some (.slice b1 (ln (de q)) d1))) (by kernel_rfl) (by rw [← hv]; exact ⟨(M.out.2.2.2.2.2.1).at.1 0, (M.out.2.2.2.2.2.1).at.1 1, (M.out.2.2.2.2.2.1).at.1 2, (M.out.2.2.2.2.2.1).at.1 3⟩) (fun hH30 => ?_)
      rw [← hv] at hH30 ⊢
      clear hv
      refine tk at0 ?_
      refine tk at1 ?_
      refine tk at2 ?_
      refine wpAnyH_ready (rs := [3, 8]) (by kernel_rfl) (by simp) ?_
      refine AllReadyH.cons at3 (fun K hK => ?_) ?_
      ·
        go_simp
        refine (bigOf_ok (G := G) v _ HV.out).mono ?_
        rintro e w15 ⟨a_31, c_32, rfl, hd33, hb⟩
        replace M := Lib.hid (And.intro hd33 (Goes.go M.out hb))
        clear hb hd33
        (try go_wp2_with fail)
        refine hK.out _ _ (⟨(M.out.2.2.2.2.2.2.1).at.1 0, (M.out.2.2.2.2.2.2.1).at.1 1, (M.out.2.2.2.2.2.2.1).at.1 2, (M.out.2.2.2.2.2.2.1).at.1 3⟩) (fun hH34 => ?_)
        clear hK K hH30
        (try simp only [Act.put, List.setIfInBounds_toArray, List.set_cons_zero, List.set_cons_succ])
        refine wpAnyH_ready (rs := [4, 8]) (by kernel_rfl) (by simp) ?_
        refine AllReadyH.cons at4 (fun K hK => ?_) ?_
        ·
          go_simp
          obtain ⟨z37, ez37⟩ : ∃ v_ : Int, v_ = ((nu q) * v) := ⟨_, rfl⟩
          refine (bigMul_ok (G := G) (x := (nu q)) (y := v) (H1.out.keep (M.out.2.2.2.2.2.2.2)).n (M.out.1) (Sz.mono HQ.out.1 (by omega)) (Sz.mono (sz_int (n := 0) HV.out) (by omega))).mono ?_
          rintro e w16 ⟨a_35, c_36, rfl, hd38, hb⟩
          rw [← ez37] at hd38 ⊢
          have Sz37 : Hid (Sz z37 44) := by show Sz z37 44; rw [ez37]; exact (Sz.mul HQ.out.1 (sz_int (n := 0) HV.out))
          have Ez37 := Lib.hid ez37; clear ez37
          replace M := Lib.hid (And.intro hd38 (Goes.go M.out hb))
          clear hb hd38
          (try go_wp2_with fail)
          refine hK.out _ _ (⟨(M.out.2.2.2.2.2.2.2.1).at.1 0, (M.out.2.2.2.2.2.2.2.1).at.1 1, (M.out.2.2.2.2.2.2.2.1).at.1 2, (M.out.2.2.2.2.2.2.2.1).at.1 3⟩) (fun hH39 => ?_)
          clear hK K hH34
          (try simp only [Act.put, List.setIfInBounds_toArray, List.set_cons_zero, List.set_cons_succ])
          refine tk at5 ?_
          refine tk at6 ?_
          refine tk at7 ?_
          refine wpAnyH_ready (rs := [8]) (by kernel_rfl) (by simp) ?_
          refine AllReadyH.cons at8 (fun K hK => ?_) AllReadyH.nil
          go_simp
          obtain ⟨w17, hv⟩ : ∃ w_ : World, w_ = (w16.alloc (.cells #[.int .i64 0, .slice none 0 0] 24)) := ⟨_, rfl⟩
          rw [← hv]
          have o4 : w12.heap.size < w16.heap.size := ((M.out.2.2.1)).lt
          replace M := Lib.hid (And.intro (hv ▸ bx1 w16 24 #[.int .i64 0, .slice none 0 0]) (Goes.go M.out (hv ▸ below_alloc _ _ : Below w16.heap.size w16 w17)))
          clear hv
          refine hK.out _ _ (⟨(M.out.2.2.2.2.2.2.2.2.1).at.1 0, (M.out.2.2.2.2.2.2.2.2.1).at.1 1, (M.out.2.2.2.2.2.2.2.2.1).at.1 2, (M.out.2.2.2.2.2.2.2.2.1).at.1 3⟩) (fun hH40 => ?_)
          clear hK K hH39
          (try simp only [Act.put, List.setIfInBounds_toArray, List.set_cons_zero, List.set_cons_succ])
          refine wpAnyH_ready (rs := [9]) (by kernel_rfl) (by simp) ?_
          refine AllReadyH.cons at9 (fun K hK => ?_) AllReadyH.nil
          have y4 := (M.out.1).c2; have p4_0 := y4.1; have q4_0 := y4.2.1; have p4_1 := y4.2.2.1; have q4_1 := y4.2.2.2; clear y4
          go_simp
          clear p4_0 q4_0 p4_1 q4_1
          obtain ⟨w18, hv⟩ : ∃ w_ : World, w_ = ((w17.setCell ⟨w16.heap.size, 0, none⟩ (.int .i64 (sg z37))).setCell ⟨w16.heap.size, 1, none⟩ (.slice a_35 (ln z37) c_36)) := ⟨_, rfl⟩
          rw [← hv]
          have og : w17.grownBy w18 (some w16.heap.size) := by rw [hv]; exact (only_setCell (only_setCell (World.grownBy.refl _ _) _) _)
          have hz : w.heap.size ≤ w16.heap.size := by omega
          have hk : Bx w18 w16.heap.size 24 #[.int .i64 (sg z37), .slice a_35 (ln z37) c_36] := by rw [hv]; exact (((M.out.1).set 0 _).set 1 _)
          have hbw : Below w.heap.size w w18 := by rw [hv]; exact (Below.setCell (Below.setCell (M.out.2.2.2.2.2.2.2.2.2) (by omega) _) (by omega) _)
          replace M := Lib.hid (And.intro hk (And.intro ((M.out.2.1).far (M.out.1) (by rfl) (by omega) og) (And.intro ((M.out.2.2.1).far (M.out.1) (by rfl) (by omega) og) (And.intro ((M.out.2.2.2.1).only og (by omega)) (And.intro ((M.out.2.2.2.2.1).far (M.out.1) (by rfl) (by omega) og) (And.intro ((M.out.2.2.2.2.2.1).only og (by omega)) (And.intro ((M.out.2.2.2.2.2.2.1).far (M.out.1) (by rfl) (by omega) og) (And.intro ((M.out.2.2.2.2.2.2.2.1).far (M.out.1) (by rfl) (by omega) og) (And.intro ((M.out.2.2.2.2.2.2.2.2.1).only og (by omega)) hbw)))))))))
          clear hk hbw og hv hz
          refine hK.out _ _ (⟨(M.out.2.2.2.2.2.2.2.2.1).at.1 0, (M.out.2.2.2.2.2.2.2.2.1).at.1 1, (M.out.2.2.2.2.2.2.2.2.1).at.1 2, (M.out.2.2.2.2.2.2.2.2.1).at.1 3⟩) (fun hH41 => ?_)
          clear hK K hH40
          (try simp only [Act.put, List.setIfInBounds_toArray, List.set_cons_zero, List.set_cons_succ])
          refine tk at10 ?_
          refine wpAnyH_done (by kernel_rfl) ?_ _
          clear hH41
          go_wp2_with fail
          go_meet
          exact ⟨w16.heap.size, a_31, c_32, a_35, c_36, z37, rfl, rfl, Ez37, Sz37, (by omega), (M.out.1), (M.out.2.1), (M.out.2.2.1), (M.out.2.2.2.2.1), (M.out.2.2.2.2.2.2.1), (M.out.2.2.2.2.2.2.2.1), (M.out.2.2.2.2.2.2.2.2.1), (M.out.2.2.2.2.2.1), (M.out.2.2.2.1), (M.out.2.2.2.2.2.2.2.2.2)⟩
        refine AllReadyH.cons at8 (fun K hK => ?_) AllReadyH.nil
        go_simp
        obtain ⟨w16, hv⟩ : ∃ w_ : World, w_ = (w15.alloc (.cells #[.int .i64 0, .slice none 0 0] 24)) := ⟨_, rfl⟩
        rw [← hv]
        have o4 : w12.heap.size < w15.heap.size := ((M.out.2.1)).lt
        replace M := Lib.hid (And.intro (hv ▸ bx1 w15 24 #[.int .i64 0, .slice none 0 0]) (Goes.go M.out (hv ▸ below_alloc _ _ : Below w15.heap.size w15 w16)))
        clear hv
        refine hK.out _ _ (⟨(M.out.2.2.2.2.2.2.2.1).at.1 0, (M.out.2.2.2.2.2.2.2.1).at.1 1, (M.out.2.2.2.2.2.2.2.1).at.1 2, (M.out.2.2.2.2.2.2.2.1).at.1 3⟩) (fun hH42 => ?_)
        clear hK K hH34
        (try simp only [Act.put, List.setIfInBounds_toArray, List.set_cons_zero, List.set_cons_succ])
        refine wpAnyH_ready (rs := [4]) (by kernel_rfl) (by simp) ?_
        refine AllReadyH.cons at4 (fun K hK => ?_) AllReadyH.nil
        go_simp
        obtain ⟨z45, ez45⟩ : ∃ v_ : Int, v_ = ((nu q) * v) := ⟨_, rfl⟩
        refine (bigMul_ok (G := G) (x := (nu q)) (y := v) (H1.out.keep (M.out.2.2.2.2.2.2.2.2)).n (M.out.2.1) (Sz.mono HQ.out.1 (by omega)) (Sz.mono (sz_int (n := 0) HV.out) (by omega))).mono ?_
        rintro e w17 ⟨a_43, c_44, rfl, hd46, hb⟩
        rw [← ez45] at hd46 ⊢
        have Sz45 : Hid (Sz z45 44) := by show Sz z45 44; rw [ez45]; exact (Sz.mul HQ.out.1 (sz_int (n := 0) HV.out))
        have Ez45 := Lib.hid ez45; clear ez45
        replace M := Lib.hid (And.intro hd46 (Goes.go M.out hb))
        clear hb hd46
        (try go_wp2_with fail)
        refine hK.out _ _ (⟨(M.out.2.2.2.2.2.2.2.2.1).at.1 0, (M.out.2.2.2.2.2.2.2.2.1).at.1 1, (M.out.2.2.2.2.2.2.2.2.1).at.1 2, (M.out.2.2.2.2.2.2.2.2.1).at.1 3⟩) (fun hH47 => ?_)
        clear hK K hH42
        (try simp only [Act.put, List.setIfInBounds_toArray, List.set_cons_zero, List.set_cons_succ])
        refine tk at5 ?_
        refine tk at6 ?_
        refine tk at7 ?_
        refine wpAnyH_ready (rs := [9]) (by kernel_rfl) (by simp) ?_
        refine AllReadyH.cons at9 (fun K hK => ?_) AllReadyH.nil
        have y4 := (M.out.2.1).c2; have p4_0 := y4.1; have q4_0 := y4.2.1; have p4_1 := y4.2.2.1; have q4_1 := y4.2.2.2; clear y4
        go_simp
        clear p4_0 q4_0 p4_1 q4_1
        obtain ⟨w18, hv⟩ : ∃ w_ : World, w_ = ((w17.setCell ⟨w15.heap.size, 0, none⟩ (.int .i64 (sg z45))).setCell ⟨w15.heap.size, 1, none⟩ (.slice a_43 (ln z45) c_44)) := ⟨_, rfl⟩
        rw [← hv]
        have og : w17.grownBy w18 (some w15.heap.size) := by rw [hv]; exact (only_setCell (only_setCell (World.grownBy.refl _ _) _) _)
        have hz : w.heap.size ≤ w15.heap.size := by omega
        have hk : Bx w18 w15.heap.size 24 #[.int .i64 (sg z45), .slice a_43 (ln z45) c_44] := by rw [hv]; exact (((M.out.2.1).set 0 _).set 1 _)
        have hbw : Below w.heap.size w w18 := by rw [hv]; exact (Below.setCell (Below.setCell (M.out.2.2.2.2.2.2.2.2.2) (by omega) _) (by omega) _)
        replace M := Lib.hid (And.intro ((M.out.1).far (M.out.2.1) (by rfl) (by omega) og) (And.intro hk (And.intro ((M.out.2.2.1).far (M.out.2.1) (by rfl) (by omega) og) (And.intro ((M.out.2.2.2.1).only og (by omega)) (And.intro ((M.out.2.2.2.2.1).far (M.out.2.1) (by rfl) (by omega) og) (And.intro ((M.out.2.2.2.2.2.1).only og (by omega)) (And.intro ((M.out.2.2.2.2.2.2.1).far (M.out.2.1) (by rfl) (by omega) og) (And.intro ((M.out.2.2.2.2.2.2.2.1).far (M.out.2.1) (by rfl) (by omega) og) (And.intro ((M.out.2.2.2.2.2.2.2.2.1).only og (by omega)) hbw)))))))))
        clear hk hbw og hv hz
        refine hK.out _ _ (⟨(M.out.2.2.2.2.2.2.2.2.1).at.1 0, (M.out.2.2.2.2.2.2.2.2.1).at.1 1, (M.out.2.2.2.2.2.2.2.2.1).at.1 2, (M.out.2.2.2.2.2.2.2.2.1).at.1 3⟩) (fun hH48 => ?_)
        clear hK K hH47
        (try simp only [Act.put, List.setIfInBounds_toArray, List.set_cons_zero, List.set_cons_succ])
        refine tk at10 ?_
        refine wpAnyH_done (by kernel_rfl) ?_ _
        clear hH48
        go_wp2_with fail
        go_meet
        exact ⟨w15.heap.size, a_31, c_32, a_43, c_44, z45, rfl, rfl, Ez45, Sz45, (by omega), (M.out.2.1), (M.out.1), (M.out.2.2.1), (M.out.2.2.2.2.1), (M.out.2.2.2.2.2.2.1), (M.out.2.2.2.2.2.2.2.1), (M.out.2.2.2.2.2.2.2.2.1), (M.out.2.2.2.2.2.1), (M.out.2.2.2.1), (M.out.2.2.2.2.2.2.2.2.2)⟩
      refine AllReadyH.cons at8 (fun K hK => ?_) AllReadyH.nil
      go_simp
      obtain ⟨w15, hv⟩ : ∃ w_ : World, w_ = (w14.alloc (.cells #[.int .i64 0, .slice none 0 0] 24)) := ⟨_, rfl⟩
      rw [← hv]
      have o4 : w12.heap.size < w14.heap.size := ((M.out.1)).lt
      replace M := Lib.hid (And.intro (hv ▸ bx1 w14 24 #[.int .i64 0, .slice none 0 0]) (Goes.go M.out (hv ▸ below_alloc _ _ : Below w14.heap.size w14 w15)))
      clear hv
      refine hK.out _ _ (⟨(M.out.2.2.2.2.2.2.1).at.1 0, (M.out.2.2.2.2.2.2.1).at.1 1, (M.out.2.2.2.2.2.2.1).at.1 2, (M.out.2.2.2.2.2.2.1).at.1 3⟩) (fun hH49 => ?_)
      clear hK K hH30
      (try simp only [Act.put, List.setIfInBounds_toArray, List.set_cons_zero, List.set_cons_succ])
      refine wpAnyH_ready (rs := [3]) (by kernel_rfl) (by simp) ?_
      refine AllReadyH.cons at3 (fun K hK => ?_) AllReadyH.nil
      go_simp
      refine (bigOf_ok (G := G) v _ HV.out).mono ?_
      rintro e w16 ⟨a_50, c_51, rfl, hd52, hb⟩
      replace M := Lib.hid (And.intro hd52 (Goes.go M.out hb))
      clear hb hd52
      (try go_wp2_with fail)
      refine hK.out _ _ (⟨(M.out.2.2.2.2.2.2.2.1).at.1 0, (M.out.2.2.2.2.2.2.2.1).at.1 1, (M.out.2.2.2.2.2.2.2.1).at.1 2, (M.out.2.2.2.2.2.2.2.1).at.1 3⟩) (fun hH53 => ?_)
      clear hK K hH49
      (try simp only [Act.put, List.setIfInBounds_toArray, List.set_cons_zero, List.set_cons_succ])
      refine wpAnyH_ready (rs := [4]) (by kernel_rfl) (by simp) ?_
      refine AllReadyH.cons at4 (fun K hK => ?_) AllReadyH.nil
      go_simp
      obtain ⟨z56, ez56⟩ : ∃ v_ : Int, v_ = ((nu q) * v) := ⟨_, rfl⟩
      refine (bigMul_ok (G := G) (x := (nu q)) (y := v) (H1.out.keep (M.out.2.2.2.2.2.2.2.2)).n (M.out.1) (Sz.mono HQ.out.1 (by omega)) (Sz.mono (sz_int (n := 0) HV.out) (by omega))).mono ?_
      rintro e w17 ⟨a_54, c_55, rfl, hd57, hb⟩
      rw [← ez56] at hd57 ⊢
      have Sz56 : Hid (Sz z56 44) := by show Sz z56 44; rw [ez56]; exact (Sz.mul HQ.out.1 (sz_int (n := 0) HV.out))
      have Ez56 := Lib.hid ez56; clear ez56
      replace M := Lib.hid (And.intro hd57 (Goes.go M.out hb))
      clear hb hd57
      (try go_wp2_with fail)
      refine hK.out _ _ (⟨(M.out.2.2.2.2.2.2.2.2.1).at.1 0, (M.out.2.2.2.2.2.2.2.2.1).at.1 1, (M.out.2.2.2.2.2.2.2.2.1).at.1 2, (M.out.2.2.2.2.2.2.2.2.1).at.1 3⟩) (fun hH58 => ?_)
      clear hK K hH53
      (try simp only [Act.put, List.setIfInBounds_toArray, List.set_cons_zero, List.set_cons_succ])
      refine tk at5 ?_
      refine tk at6 ?_
      refine tk at7 ?_
      refine wpAnyH_ready (rs := [9]) (by kernel_rfl) (by simp) ?_
      refine AllReadyH.cons at9 (fun K hK => ?_) AllReadyH.nil
      have y4 := (M.out.2.2.1).c2; have p4_0 := y4.1; have q4_0 := y4.2.1; have p4_1 := y4.2.2.1; have q4_1 := y4.2.2.2; clear y4
      go_simp
      clear p4_0 q4_0 p4_1 q4_1
      obtain ⟨w18, hv⟩ : ∃ w_ : World, w_ = ((w17.setCell ⟨w14.heap.size, 0, none⟩ (.int .i64 (sg z56))).setCell ⟨w14.heap.size, 1, none⟩ (.slice a_54 (ln z56) c_55)) := ⟨_, rfl⟩
      rw [← hv]
      have og : w17.grownBy w18 (some w14.heap.size) := by rw [hv]; exact (only_setCell (only_setCell (World.grownBy.refl _ _) _) _)
      have hz : w.heap.size ≤ w14.heap.size := by omega
      have hk : Bx w18 w14.heap.size 24 #[.int .i64 (sg z56), .slice a_54 (ln z56) c_55] := by rw [hv]; exact (((M.out.2.2.1).set 0 _).set 1 _)
      have hbw : Below w.heap.size w w18 := by rw [hv]; exact (Below.setCell (Below.setCell (M.out.2.2.2.2.2.2.2.2.2) (by omega) _) (by omega) _)
      replace M := Lib.hid (And.intro ((M.out.1).far (M.out.2.2.1) (by rfl) (by omega) og) (And.intro ((M.out.2.1).far (M.out.2.2.1) (by rfl) (by omega) og) (And.intro hk (And.intro ((M.out.2.2.2.1).only og (by omega)) (And.intro ((M.out.2.2.2.2.1).far (M.out.2.2.1) (by rfl) (by omega) og) (And.intro ((M.out.2.2.2.2.2.1).only og (by omega)) (And.intro ((M.out.2.2.2.2.2.2.1).far (M.out.2.2.1) (by rfl) (by omega) og) (And.intro ((M.out.2.2.2.2.2.2.2.1).far (M.out.2.2.1) (by rfl) (by omega) og) (And.intro ((M.out.2.2.2.2.2.2.2.2.1).only og (by omega)) hbw)))))))))
      clear hk hbw og hv hz
      refine hK.out _ _ (⟨(M.out.2.2.2.2.2.2.2.2.1).at.1 0, (M.out.2.2.2.2.2.2.2.2.1).at.1 1, (M.out.2.2.2.2.2.2.2.2.1).at.1 2, (M.out.2.2.2.2.2.2.2.2.1).at.1 3⟩) (fun hH59 => ?_)
      clear hK K hH58
      (try simp only [Act.put, List.setIfInBounds_toArray, List.set_cons_zero, List.set_cons_succ])
      refine tk at10 ?_
      refine wpAnyH_done (by kernel_rfl) ?_ _
      clear hH59
      go_wp2_with fail
      go_meet
      exact ⟨w14.heap.size, a_50, c_51, a_54, c_55, z56, rfl, rfl, Ez56, Sz56, (by omega), (M.out.2.2.1), (M.out.1), (M.out.2.1), (M.out.2.2.2.2.1), (M.out.2.2.2.2.2.2.1), (M.out.2.2.2.2.2.2.2.1), (M.out.2.2.2.2.2.2.2.2.1), (M.out.2.2.2.2.2.1), (M.out.2.2.2.1), (M.out.2.2.2.2.2.2.2.2.2)⟩
    case rest =>
      obtain ⟨A29, a_22, c_23, a_25, c_26, z27, rfl, rfl, Ez27, Sz27, oA29, M⟩ := hcut
      obtain ⟨w14, rfl⟩ : ∃ w_ : World, w_ = wc := ⟨_, rfl⟩
      go_upto_region 13 with fail
      replace M := Lib.hid (And.intro (M.out.1) (And.intro (M.out.2.1) (And.intro (M.out.2.2.2.1) (And.intro (M.out.2.2.2.2.1) (And.intro (M.out.2.2.2.2.2.1) (And.intro (M.out.2.2.2.2.2.2.1) (And.intro (M.out.2.2.2.2.2.2.2.1) (And.intro (M.out.2.2.2.2.2.2.2.2.1) (M.out.2.2.2.2.2.2.2.2.2)))))))))
      go_cut [17, 18] (fun s17 s18 wx => ∃ (A67 : Nat), ∃ (a_60 : Option Addr), ∃ (c_61 : Nat), ∃ (a_63 : Option Addr), ∃ (c_64 : Nat), ∃ (z65 : Int), s17 = .pointer (some ⟨A67, 0, none⟩) ∧ s18 = .int .i64 0 ∧ Hid (z65 = ((de q) * v)) ∧ Hid (Sz z65 44) ∧ A29 < A67 ∧ Hid (Bx wx A67 24 #[.int .i64 (sg z65), .slice a_63 (ln z65) c_64] ∧ BD G wx a_63 c_64 z65 ∧ BD G wx a_60 c_61 v ∧ BD G wx a_25 c_26 z27 ∧ FD G wx a_17 c_18 b_19 d_20 q ∧ BD G wx a_9 c_10 z13 ∧ BD G wx b_11 d_12 z14 ∧ Bx wx w.heap.size 26 #[.int .i64 (sg (nu q)), .slice a1 (ln (nu q)) c1, .int .i64 (sg (de q)), .slice b1 (ln (de q)) d1] ∧ Bx wx w10.heap.size 26 #[.int .i64 (sg z13), .slice a_9 (ln z13) c_10, .int .i64 (sg z14), .slice b_11 (ln z14) d_12] ∧ Bx wx w12.heap.size 26 #[.int .i64 (sg (nu q)), .slice a_17 (ln (nu q)) c_18, .int .i64 (sg (de q)), .slice b_19 (ln (de q)) d_20] ∧ Bx wx A29 24 #[.int .i64 (sg z27), .slice a_25 (ln z27) c_26] ∧ Below w.heap.size w wx))
      case first =>
        obtain ⟨w15, hv⟩ : ∃ w_ : World, w_ = w14.drew := ⟨_, rfl⟩
        replace M := Lib.hid (Goes.go M.out (hv ▸ below_drew _ : Below w14.heap.size w14 w15))
        refine wp_region_held_drew (S := (fun w' => w'.cell? ⟨w.heap.size, 0, none⟩ = some (.int .i64 (sg (nu q))) ∧ w'.cell? ⟨w.heap.size, 1, none⟩ = some (.slice a1 (ln (nu q)) c1) ∧ w'.cell? ⟨w.heap.size, 2, none⟩ = some (.int .i64 (sg (de q))) ∧ w'.cell? ⟨w.heap.size, 3, none⟩ = some (.slice b1 (ln (de q)) d1))) (by kernel_rfl) (by rw [← hv]; exact ⟨(M.out.2.2.2.2.2.1).at.1 0, (M.out.2.2.2.2.2.1).at.1 1, (M.out.2.2.2.2.2.1).at.1 2, (M.out.2.2.2.2.2.1).at.1 3⟩) (fun hH68 => ?_)
        rw [← hv] at hH68 ⊢
        clear hv
        refine tk at0 ?_
        refine tk at1 ?_
        refine tk at2 ?_
        refine wpAnyH_ready (rs := [3, 8]) (by kernel_rfl) (by simp) ?_
        refine AllReadyH.cons at3 (fun K hK => ?_) ?_
        ·
          go_simp
          refine (bigOf_ok (G := G) v _ HV.out).mono ?_
          rintro e w16 ⟨a_69, c_70, rfl, hd71, hb⟩
          replace M := Lib.hid (And.intro hd71 (Goes.go M.out hb))
          clear hb hd71
          (try go_wp2_with fail)
          refine hK.out _ _ (⟨(M.out.2.2.2.2.2.2.1).at.1 0, (M.out.2.2.2.2.2.2.1).at.1 1, (M.out.2.2.2.2.2.2.1).at.1 2, (M.out.2.2.2.2.2.2.1).at.1 3⟩) (fun hH72 => ?_)
          clear hK K hH68
          (try simp only [Act.put, List.setIfInBounds_toArray, List.set_cons_zero, List.set_cons_succ])
          refine wpAnyH_ready (rs := [4, 8]) (by kernel_rfl) (by simp) ?_
          refine AllReadyH.cons at4 (fun K hK => ?_) ?_
          ·
            go_simp
            obtain ⟨z75, ez75⟩ : ∃ v_ : Int, v_ = ((de q) * v) := ⟨_, rfl⟩
            refine (bigMul_ok (G := G) (x := (de q)) (y := v) (H1.out.keep (M.out.2.2.2.2.2.2.2.2.2)).d (M.out.1) (Sz.mono HQ.out.2 (by omega)) (Sz.mono (sz_int (n := 0) HV.out) (by omega))).mono ?_
            rintro e w17 ⟨a_73, c_74, rfl, hd76, hb⟩
            rw [← ez75] at hd76 ⊢
            have Sz75 : Hid (Sz z75 44) := by show Sz z75 44; rw [ez75]; exact (Sz.mul HQ.out.2 (sz_int (n := 0) HV.out))
            have Ez75 := Lib.hid ez75; clear ez75
            replace M := Lib.hid (And.intro hd76 (Goes.go M.out hb))
            clear hb hd76
            (try go_wp2_with fail)
            refine hK.out _ _ (⟨(M.out.2.2.2.2.2.2.2.1).at.1 0, (M.out.2.2.2.2.2.2.2.1).at.1 1, (M.out.2.2.2.2.2.2.2.1).at.1 2, (M.out.2.2.2.2.2.2.2.1).at.1 3⟩) (fun hH77 => ?_)
            clear hK K hH72
            (try simp only [Act.put, List.setIfInBounds_toArray, List.set_cons_zero, List.set_cons_succ])
            refine tk at5 ?_
            refine tk at6 ?_
            refine tk at7 ?_
            refine wpAnyH_ready (rs := [8]) (by kernel_rfl) (by simp) ?_
            refine AllReadyH.cons at8 (fun K hK => ?_) AllReadyH.nil
            go_simp
            obtain ⟨w18, hv⟩ : ∃ w_ : World, w_ = (w17.alloc (.cells #[.int .i64 0, .slice none 0 0] 24)) := ⟨_, rfl⟩
            rw [← hv]
            have o5 : A29 < w17.heap.size := ((M.out.2.2.1)).lt
            replace M := Lib.hid (And.intro (hv ▸ bx1 w17 24 #[.int .i64 0, .slice none 0 0]) (Goes.go M.out (hv ▸ below_alloc _ _ : Below w17.heap.size w17 w18)))
            clear hv
            refine hK.out _ _ (⟨(M.out.2.2.2.2.2.2.2.2.1).at.1 0, (M.out.2.2.2.2.2.2.2.2.1).at.1 1, (M.out.2.2.2.2.2.2.2.2.1).at.1 2, (M.out.2.2.2.2.2.2.2.2.1).at.1 3⟩) (fun hH78 => ?_)
            clear hK K hH77
            (try simp only [Act.put, List.setIfInBounds_toArray, List.set_cons_zero, List.set_cons_succ])
            refine wpAnyH_ready (rs := [9]) (by kernel_rfl) (by simp) ?_
            refine AllReadyH.cons at9 (fun K hK => ?_) AllReadyH.nil
            have y5 := (M.out.1).c2; have p5_0 := y5.1; have q5_0 := y5.2.1; have p5_1 := y5.2.2.1; have q5_1 := y5.2.2.2; clear y5
            go_simp
            clear p5_0 q5_0 p5_1 q5_1
            obtain ⟨w19, hv⟩ : ∃ w_ : World, w_ = ((w18.setCell ⟨w17.heap.size, 0, none⟩ (.int .i64 (sg z75))).setCell ⟨w17.heap.size, 1, none⟩ (.slice a_73 (ln z75) c_74)) := ⟨_, rfl⟩
            rw [← hv]
            have og : w18.grownBy w19 (some w17.heap.size) := by rw [hv]; exact (only_setCell (only_setCell (World.grownBy.refl _ _) _) _)
            have hz : w.heap.size ≤ w17.heap.size := by omega
            have hk : Bx w19 w17.heap.size 24 #[.int .i64 (sg z75), .slice a_73 (ln z75) c_74] := by rw [hv]; exact (((M.out.1).set 0 _).set 1 _)
            have hbw : Below w.heap.size w w19 := by rw [hv]; exact (Below.setCell (Below.setCell (M.out.2.2.2.2.2.2.2.2.2.2.2) (by omega) _) (by omega) _)
            replace M := Lib.hid (And.intro hk (And.intro ((M.out.2.1).far (M.out.1) (by rfl) (by omega) og) (And.intro ((M.out.2.2.1).far (M.out.1) (by rfl) (by omega) og) (And.intro ((M.out.2.2.2.1).only og (by omega)) (And.intro ((M.out.2.2.2.2.1).far (M.out.1) (by rfl) (by omega) og) (And.intro ((M.out.2.2.2.2.2.1).far (M.out.1) (by rfl) (by omega) og) (And.intro ((M.out.2.2.2.2.2.2.1).far (M.out.1) (by rfl) (by omega) og) (And.intro ((M.out.2.2.2.2.2.2.2.1).far (M.out.1) (by rfl) (by omega) og) (And.intro ((M.out.2.2.2.2.2.2.2.2.1).only og (by omega)) (And.intro ((M.out.2.2.2.2.2.2.2.2.2.1).only og (by omega)) (And.intro ((M.out.2.2.2.2.2.2.2.2.2.2.1).only og (by omega)) hbw)))))))))))
            clear hk hbw og hv hz
            refine hK.out _ _ (⟨(M.out.2.2.2.2.2.2.2.2.1).at.1 0, (M.out.2.2.2.2.2.2.2.2.1).at.1 1, (M.out.2.2.2.2.2.2.2.2.1).at.1 2, (M.out.2.2.2.2.2.2.2.2.1).at.1 3⟩) (fun hH79 => ?_)
            clear hK K hH78
            (try simp only [Act.put, List.setIfInBounds_toArray, List.set_cons_zero, List.set_cons_succ])
            refine tk at10 ?_
            refine wpAnyH_done (by kernel_rfl) ?_ _
            clear hH79
            go_wp2_with fail
            go_meet
            exact ⟨w17.heap.size, a_69, c_70, a_73, c_74, z75, rfl, rfl, Ez75, Sz75, (by omega), (M.out.1), (M.out.2.1), (M.out.2.2.1), (M.out.2.2.2.2.1), (M.out.2.2.2.2.2.1), (M.out.2.2.2.2.2.2.1), (M.out.2.2.2.2.2.2.2.1), (M.out.2.2.2.2.2.2.2.2.1), (M.out.2.2.2.2.2.2.2.2.2.1), (M.out.2.2.2.2.2.2.2.2.2.2.1), (M.out.2.2.2.1), (M.out.2.2.2.2.2.2.2.2.2.2.2)⟩
          refine AllReadyH.cons at8 (fun K hK => ?_) AllReadyH.nil
          go_simp
          obtain ⟨w17, hv⟩ : ∃ w_ : World, w_ = (w16.alloc (.cells #[.int .i64 0, .slice none 0 0] 24)) := ⟨_, rfl⟩
          rw [← hv]
          have o5 : A29 < w16.heap.size := ((M.out.2.1)).lt
          replace M := Lib.hid (And.intro (hv ▸ bx1 w16 24 #[.int .i64 0, .slice none 0 0]) (Goes.go M.out (hv ▸ below_alloc _ _ : Below w16.heap.size w16 w17)))
          clear hv
          refine hK.out _ _ (⟨(M.out.2.2.2.2.2.2.2.1).at.1 0, (M.out.2.2.2.2.2.2.2.1).at.1 1, (M.out.2.2.2.2.2.2.2.1).at.1 2, (M.out.2.2.2.2.2.2.2.1).at.1 3⟩) (fun hH80 => ?_)
          clear hK K hH72
          (try simp only [Act.put, List.setIfInBounds_toArray, List.set_cons_zero, List.set_cons_succ])
          refine wpAnyH_ready (rs := [4]) (by kernel_rfl) (by simp) ?_
          refine AllReadyH.cons at4 (fun K hK => ?_) AllReadyH.nil
          go_simp
          obtain ⟨z83, ez83⟩ : ∃ v_ : Int, v_ = ((de q) * v) := ⟨_, rfl⟩
          refine (bigMul_ok (G := G) (x := (de q)) (y := v) (H1.out.keep (M.out.2.2.2.2.2.2.2.2.2.2)).d (M.out.2.1) (Sz.mono HQ.out.2 (by omega)) (Sz.mono (sz_int (n := 0) HV.out) (by omega))).mono ?_
          rintro e w18 ⟨a_81, c_82, rfl, hd84, hb⟩
          rw [← ez83] at hd84 ⊢
          have Sz83 : Hid (Sz z83 44) := by show Sz z83 44; rw [ez83]; exact (Sz.mul HQ.out.2 (sz_int (n := 0) HV.out))
          have Ez83 := Lib.hid ez83; clear ez83
          replace M := Lib.hid (And.intro hd84 (Goes.go M.out hb))
          clear hb hd84
          (try go_wp2_with fail)
          refine hK.out _ _ (⟨(M.out.2.2.2.2.2.2.2.2.1).at.1 0, (M.out.2.2.2.2.2.2.2.2.1).at.1 1, (M.out.2.2.2.2.2.2.2.2.1).at.1 2, (M.out.2.2.2.2.2.2.2.2.1).at.1 3⟩) (fun hH85 => ?_)
          clear hK K hH80
          (try simp only [Act.put, List.setIfInBounds_toArray, List.set_cons_zero, List.set_cons_succ])
          refine tk at5 ?_
          refine tk at6 ?_
          refine tk at7 ?_
          refine wpAnyH_ready (rs := [9]) (by kernel_rfl) (by simp) ?_
          refine AllReadyH.cons at9 (fun K hK => ?_) AllReadyH.nil
          have y5 := (M.out.2.1).c2; have p5_0 := y5.1; have q5_0 := y5.2.1; have p5_1 := y5.2.2.1; have q5_1 := y5.2.2.2; clear y5
          go_simp
          clear p5_0 q5_0 p5_1 q5_1
          obtain ⟨w19, hv⟩ : ∃ w_ : World, w_ = ((w18.setCell ⟨w16.heap.size, 0, none⟩ (.int .i64 (sg z83))).setCell ⟨w16.heap.size, 1, none⟩ (.slice a_81 (ln z83) c_82)) := ⟨_, rfl⟩
          rw [← hv]
          have og : w18.grownBy w19 (some w16.heap.size) := by rw [hv]; exact (only_setCell (only_setCell (World.grownBy.refl _ _) _) _)
          have hz : w.heap.size ≤ w16.heap.size := by omega
          have hk : Bx w19 w16.heap.size 24 #[.int .i64 (sg z83), .slice a_81 (ln z83) c_82] := by rw [hv]; exact (((M.out.2.1).set 0 _).set 1 _)
          have hbw : Below w.heap.size w w19 := by rw [hv]; exact (Below.setCell (Below.setCell (M.out.2.2.2.2.2.2.2.2.2.2.2) (by omega) _) (by omega) _)
          replace M := Lib.hid (And.intro ((M.out.1).far (M.out.2.1) (by rfl) (by omega) og) (And.intro hk (And.intro ((M.out.2.2.1).far (M.out.2.1) (by rfl) (by omega) og) (And.intro ((M.out.2.2.2.1).only og (by omega)) (And.intro ((M.out.2.2.2.2.1).far (M.out.2.1) (by rfl) (by omega) og) (And.intro ((M.out.2.2.2.2.2.1).far (M.out.2.1) (by rfl) (by omega) og) (And.intro ((M.out.2.2.2.2.2.2.1).far (M.out.2.1) (by rfl) (by omega) og) (And.intro ((M.out.2.2.2.2.2.2.2.1).far (M.out.2.1) (by rfl) (by omega) og) (And.intro ((M.out.2.2.2.2.2.2.2.2.1).only og (by omega)) (And.intro ((M.out.2.2.2.2.2.2.2.2.2.1).only og (by omega)) (And.intro ((M.out.2.2.2.2.2.2.2.2.2.2.1).only og (by omega)) hbw)))))))))))
          clear hk hbw og hv hz
          refine hK.out _ _ (⟨(M.out.2.2.2.2.2.2.2.2.1).at.1 0, (M.out.2.2.2.2.2.2.2.2.1).at.1 1, (M.out.2.2.2.2.2.2.2.2.1).at.1 2, (M.out.2.2.2.2.2.2.2.2.1).at.1 3⟩) (fun hH86 => ?_)
          clear hK K hH85
          (try simp only [Act.put, List.setIfInBounds_toArray, List.set_cons_zero, List.set_cons_succ])
          refine tk at10 ?_
          refine wpAnyH_done (by kernel_rfl) ?_ _
          clear hH86
          go_wp2_with fail
          go_meet
          exact ⟨w16.heap.size, a_69, c_70, a_81, c_82, z83, rfl, rfl, Ez83, Sz83, (by omega), (M.out.2.1), (M.out.1), (M.out.2.2.1), (M.out.2.2.2.2.1), (M.out.2.2.2.2.2.1), (M.out.2.2.2.2.2.2.1), (M.out.2.2.2.2.2.2.2.1), (M.out.2.2.2.2.2.2.2.2.1), (M.out.2.2.2.2.2.2.2.2.2.1), (M.out.2.2.2.2.2.2.2.2.2.2.1), (M.out.2.2.2.1), (M.out.2.2.2.2.2.2.2.2.2.2.2)⟩
        refine AllReadyH.cons at8 (fun K hK => ?_) AllReadyH.nil
        go_simp
        obtain ⟨w16, hv⟩ : ∃ w_ : World, w_ = (w15.alloc (.cells #[.int .i64 0, .slice none 0 0] 24)) := ⟨_, rfl⟩
        rw [← hv]
        have o5 : A29 < w15.heap.size := ((M.out.1)).lt
        replace M := Lib.hid (And.intro (hv ▸ bx1 w15 24 #[.int .i64 0, .slice none 0 0]) (Goes.go M.out (hv ▸ below_alloc _ _ : Below w15.heap.size w15 w16)))
        clear hv
        refine hK.out _ _ (⟨(M.out.2.2.2.2.2.2.1).at.1 0, (M.out.2.2.2.2.2.2.1).at.1 1, (M.out.2.2.2.2.2.2.1).at.1 2, (M.out.2.2.2.2.2.2.1).at.1 3⟩) (fun hH87 => ?_)
        clear hK K hH68
        (try simp only [Act.put, List.setIfInBounds_toArray, List.set_cons_zero, List.set_cons_succ])
        refine wpAnyH_ready (rs := [3]) (by kernel_rfl) (by simp) ?_
        refine AllReadyH.cons at3 (fun K hK => ?_) AllReadyH.nil
        go_simp
        refine (bigOf_ok (G := G) v _ HV.out).mono ?_
        rintro e w17 ⟨a_88, c_89, rfl, hd90, hb⟩
        replace M := Lib.hid (And.intro hd90 (Goes.go M.out hb))
        clear hb hd90
        (try go_wp2_with fail)
        refine hK.out _ _ (⟨(M.out.2.2.2.2.2.2.2.1).at.1 0, (M.out.2.2.2.2.2.2.2.1).at.1 1, (M.out.2.2.2.2.2.2.2.1).at.1 2, (M.out.2.2.2.2.2.2.2.1).at.1 3⟩) (fun hH91 => ?_)
        clear hK K hH87
        (try simp only [Act.put, List.setIfInBounds_toArray, List.set_cons_zero, List.set_cons_succ])
        refine wpAnyH_ready (rs := [4]) (by kernel_rfl) (by simp) ?_
        refine AllReadyH.cons at4 (fun K hK => ?_) AllReadyH.nil
        go_simp
        obtain ⟨z94, ez94⟩ : ∃ v_ : Int, v_ = ((de q) * v) := ⟨_, rfl⟩
        refine (bigMul_ok (G := G) (x := (de q)) (y := v) (H1.out.keep (M.out.2.2.2.2.2.2.2.2.2.2)).d (M.out.1) (Sz.mono HQ.out.2 (by omega)) (Sz.mono (sz_int (n := 0) HV.out) (by omega))).mono ?_
        rintro e w18 ⟨a_92, c_93, rfl, hd95, hb⟩
        rw [← ez94] at hd95 ⊢
        have Sz94 : Hid (Sz z94 44) := by show Sz z94 44; rw [ez94]; exact (Sz.mul HQ.out.2 (sz_int (n := 0) HV.out))
        have Ez94 := Lib.hid ez94; clear ez94
        replace M := Lib.hid (And.intro hd95 (Goes.go M.out hb))
        clear hb hd95
        (try go_wp2_with fail)
        refine hK.out _ _ (⟨(M.out.2.2.2.2.2.2.2.2.1).at.1 0, (M.out.2.2.2.2.2.2.2.2.1).at.1 1, (M.out.2.2.2.2.2.2.2.2.1).at.1 2, (M.out.2.2.2.2.2.2.2.2.1).at.1 3⟩) (fun hH96 => ?_)
        clear hK K hH91
        (try simp only [Act.put, List.setIfInBounds_toArray, List.set_cons_zero, List.set_cons_succ])
        refine tk at5 ?_
        refine tk at6 ?_
        refine tk at7 ?_
        refine wpAnyH_ready (rs := [9]) (by kernel_rfl) (by simp) ?_
        refine AllReadyH.cons at9 (fun K hK => ?_) AllReadyH.nil
        have y5 := (M.out.2.2.1).c2; have p5_0 := y5.1; have q5_0 := y5.2.1; have p5_1 := y5.2.2.1; have q5_1 := y5.2.2.2; clear y5
        go_simp
        clear p5_0 q5_0 p5_1 q5_1
        obtain ⟨w19, hv⟩ : ∃ w_ : World, w_ = ((w18.setCell ⟨w15.heap.size, 0, none⟩ (.int .i64 (sg z94))).setCell ⟨w15.heap.size, 1, none⟩ (.slice a_92 (ln z94) c_93)) := ⟨_, rfl⟩
        rw [← hv]
        have og : w18.grownBy w19 (some w15.heap.size) := by rw [hv]; exact (only_setCell (only_setCell (World.grownBy.refl _ _) _) _)
        have hz : w.heap.size ≤ w15.heap.size := by omega
        have hk : Bx w19 w15.heap.size 24 #[.int .i64 (sg z94), .slice a_92 (ln z94) c_93] := by rw [hv]; exact (((M.out.2.2.1).set 0 _).set 1 _)
        have hbw : Below w.heap.size w w19 := by rw [hv]; exact (Below.setCell (Below.setCell (M.out.2.2.2.2.2.2.2.2.2.2.2) (by omega) _) (by omega) _)
        replace M := Lib.hid (And.intro ((M.out.1).far (M.out.2.2.1) (by rfl) (by omega) og) (And.intro ((M.out.2.1).far (M.out.2.2.1) (by rfl) (by omega) og) (And.intro hk (And.intro ((M.out.2.2.2.1).only og (by omega)) (And.intro ((M.out.2.2.2.2.1).far (M.out.2.2.1) (by rfl) (by omega) og) (And.intro ((M.out.2.2.2.2.2.1).far (M.out.2.2.1) (by rfl) (by omega) og) (And.intro ((M.out.2.2.2.2.2.2.1).far (M.out.2.2.1) (by rfl) (by omega) og) (And.intro ((M.out.2.2.2.2.2.2.2.1).far (M.out.2.2.1) (by rfl) (by omega) og) (And.intro ((M.out.2.2.2.2.2.2.2.2.1).only og (by omega)) (And.intro ((M.out.2.2.2.2.2.2.2.2.2.1).only og (by omega)) (And.intro ((M.out.2.2.2.2.2.2.2.2.2.2.1).only og (by omega)) hbw)))))))))))
        clear hk hbw og hv hz
        refine hK.out _ _ (⟨(M.out.2.2.2.2.2.2.2.2.1).at.1 0, (M.out.2.2.2.2.2.2.2.2.1).at.1 1, (M.out.2.2.2.2.2.2.2.2.1).at.1 2, (M.out.2.2.2.2.2.2.2.2.1).at.1 3⟩) (fun hH97 => ?_)
        clear hK K hH96
        (try simp only [Act.put, List.setIfInBounds_toArray, List.set_cons_zero, List.set_cons_succ])
        refine tk at10 ?_
        refine wpAnyH_done (by kernel_rfl) ?_ _
        clear hH97
        go_wp2_with fail
        go_meet
        exact ⟨w15.heap.size, a_88, c_89, a_92, c_93, z94, rfl, rfl, Ez94, Sz94, (by omega), (M.out.2.2.1), (M.out.1), (M.out.2.1), (M.out.2.2.2.2.1), (M.out.2.2.2.2.2.1), (M.out.2.2.2.2.2.2.1), (M.out.2.2.2.2.2.2.2.1), (M.out.2.2.2.2.2.2.2.2.1), (M.out.2.2.2.2.2.2.2.2.2.1), (M.out.2.2.2.2.2.2.2.2.2.2.1), (M.out.2.2.2.1), (M.out.2.2.2.2.2.2.2.2.2.2.2)⟩
      case rest =>
        obtain ⟨A67, a_60, c_61, a_63, c_64, z65, rfl, rfl, Ez65, Sz65, oA67, M⟩ := hcut
        obtain ⟨w15, rfl⟩ : ∃ w_ : World, w_ = wc := ⟨_, rfl⟩
        have y4 := (M.out.2.2.2.2.2.2.2.2.2.2.1).c2; have p4_0 := y4.1; have q4_0 := y4.2.1; have p4_1 := y4.2.2.1; have q4_1 := y4.2.2.2; clear y4
        have y5 := (M.out.1).c2; have p5_0 := y5.1; have q5_0 := y5.2.1; have p5_1 := y5.2.2.1; have q5_1 := y5.2.2.2; clear y5
        go_wp2_with fail
        clear p4_0 q4_0 p4_1 q4_1 p5_0 q5_0 p5_1 q5_1
        refine (new_zero (G := G) (x := z27) (y := z65) (Nat.le_trans hG (M.out.2.2.2.2.2.2.2.2.2.2.2).size) (M.out.2.2.2.1) (M.out.2.1) (Sz.mono Sz27.out (by omega)) (Sz.mono Sz65.out (by omega)) (by rw [Ez65.out]; exact HV0.out)).mono ?_
        rintro e w16 ⟨rfl, hb⟩
        replace M := Lib.hid (Goes.go M.out hb)
        clear hb
        go_upto_region 15 with fail
        obtain ⟨w17, hv⟩ : ∃ w_ : World, w_ = (w16.alloc (.cells #[.int .i64 0, .slice none 0 0, .int .i64 0, .slice none 0 0] 26)) := ⟨_, rfl⟩
        rw [← hv]
        have o6 : A67 < w16.heap.size := ((M.out.1)).lt
        replace M := Lib.hid (And.intro (hv ▸ bx1 w16 26 #[.int .i64 0, .slice none 0 0, .int .i64 0, .slice none 0 0]) (Goes.go M.out (hv ▸ below_alloc _ _ : Below w16.heap.size w16 w17)))
        clear hv
        as_aux_lemma =>
         have y2 := (M.out.2.2.2.2.2.2.2.2.2.1).c4; have p2_0 := y2.1; have q2_0 := y2.2.1; have p2_1 := y2.2.2.1; have q2_1 := y2.2.2.2.1; have p2_2 := y2.2.2.2.2.1; have q2_2 := y2.2.2.2.2.2.1; have p2_3 := y2.2.2.2.2.2.2.1; have q2_3 := y2.2.2.2.2.2.2.2; clear y2
         have y0 := (M.out.2.2.2.2.2.2.2.2.1).c4; have p0_0 := y0.1; have q0_0 := y0.2.1; have p0_1 := y0.2.2.1; have q0_1 := y0.2.2.2.1; have p0_2 := y0.2.2.2.2.1; have q0_2 := y0.2.2.2.2.2.1; have p0_3 := y0.2.2.2.2.2.2.1; have q0_3 := y0.2.2.2.2.2.2.2; clear y0
         go_wp2_with fail
         clear p2_0 q2_0 p2_1 q2_1 p2_2 q2_2 p2_3 q2_3 p0_0 q0_0 p0_1 q0_1 p0_2 q0_2 p0_3 q0_3
         replace M := Lib.hid (And.intro (M.out.1) (And.intro (M.out.2.2.2.2.2.1) (And.intro (M.out.2.2.2.2.2.2.1) (And.intro (M.out.2.2.2.2.2.2.2.1) (And.intro (M.out.2.2.2.2.2.2.2.2.1) (And.intro (M.out.2.2.2.2.2.2.2.2.2.2.1) (M.out.2.2.2.2.2.2.2.2.2.2.2.2)))))))
         refine (rfsame_two (G := G) (x := z13) (y := z14) (u := (nu q)) (v := (de q)) (M.out.2.2.1) (M.out.2.2.2.1) (H1.out.keep (M.out.2.2.2.2.2.2)).n (H1.out.keep (M.out.2.2.2.2.2.2)).d (Sz.mono Sz13.out (by omega)) (Sz.mono Sz14.out (by omega)) (by rw [Ez13.out]; rfl) (by rw [Ez14.out]; rfl)).mono ?_
         rintro e w18 ⟨rfl, hb⟩
         replace M := Lib.hid (Goes.go M.out hb)
         clear hb
         have y3 := (M.out.2.2.2.2.2.1).c4; have p3_0 := y3.1; have q3_0 := y3.2.1; have p3_1 := y3.2.2.1; have q3_1 := y3.2.2.2.1; have p3_2 := y3.2.2.2.2.1; have q3_2 := y3.2.2.2.2.2.1; have p3_3 := y3.2.2.2.2.2.2.1; have q3_3 := y3.2.2.2.2.2.2.2; clear y3
         have y0 := (M.out.2.2.2.2.1).c4; have p0_0 := y0.1; have q0_0 := y0.2.1; have p0_1 := y0.2.2.1; have q0_1 := y0.2.2.2.1; have p0_2 := y0.2.2.2.2.1; have q0_2 := y0.2.2.2.2.2.1; have p0_3 := y0.2.2.2.2.2.2.1; have q0_3 := y0.2.2.2.2.2.2.2; clear y0
         go_wp2_with fail
         clear p3_0 q3_0 p3_1 q3_1 p3_2 q3_2 p3_3 q3_3 p0_0 q0_0 p0_1 q0_1 p0_2 q0_2 p0_3 q0_3
         refine (rfsame_q (G := G) (q := q) (r := q) (M.out.2.1) (H1.out.keep (M.out.2.2.2.2.2.2)) (Fz.mono HQ.out (by omega)) rfl).mono ?_
         rintro e w19 ⟨rfl, hb⟩
         replace M := Lib.hid (Goes.go M.out hb)
         clear hb
         go_wp2_with fail
         go_ret
         exact ⟨rfl, (M.out.2.2.2.2.2.2)⟩

set_option maxRecDepth 100000 in
set_option maxHeartbeats 4000000 in
theorem back_zero_no {S : ByteArray} {l : List UInt8} {v : Int} {q : Rat} {a1 b1 : Option Addr} {c1 d1 : Nat} {w : World} (hG : G ≤ w.heap.size) (ht : Tab w) (hm : Mx w) (h1 : FD G w a1 c1 b1 d1 q) (hq : Fz q 40) (hv0 : v = 0) (hS : S = ⟨l.toArray⟩) (hlen : l.length ≤ 300) (hf : readF l = none) (hv : -9223372036854775808 ≤ v ∧ v ≤ 9223372036854775807)  :
    Calls Tryz.prog 6 #[.agg #[.int .i64 (sg (nu q)), .slice a1 (ln (nu q)) c1, .int .i64 (sg (de q)), .slice b1 (ln (de q)) d1], .int .i64 v, .string S] w fun e w' => e = .returned (.bool true) ∧ Below w.heap.size w w' := by
  have hsz : ¬ 300 < S.size := by rw [hS]; simp [ByteArray.size]; omega
  have hbl : decide (300 < S.size) = false := decide_eq_false hsz
  have hbl2 : decide ((300 : Int) < (S.size : Int)) = false := decide_eq_false (by omega)
  have HLN : Hid (l.length ≤ 1000) := by show _ ≤ _; omega
  have HRE : Hid (rfE l = 2) := by show _ = _; unfold rfE; rw [hf]; rfl
  have HV := Lib.hid hv
  have HS := Lib.hid hS; have HF := Lib.hid hf
  obtain ⟨S2, hS2⟩ : ∃ s : ByteArray, (⟨(textF q).toArray⟩ : ByteArray) = s := ⟨_, rfl⟩
  have HS2 := Lib.hid hS2
  have htl := textZ_len hq.1 (by omega)
  have htl2 := textZ_len hq.2 (by omega)
  have HL2 : Hid ((textF q).length ≤ 1000) := by show _ ≤ _; unfold textF; simp; omega
  have HE2 : Hid (rfE (textF q) = 0) := by show _ = _; unfold rfE; rw [readF_text]; rfl
  have HR2 : Hid (readF (textF q) = some q) := readF_text q
  have HP2 : Hid (Rat.divInt (nu q) (de q) = q) := divInt_parts q
  have HQ := Lib.hid hq
  have HZ3 : Hid (Sz (oN (some q)) 40) := hq.1
  have HZ4 : Hid (Sz (oD (some q)) 40) := hq.2
  have e0 : (v == 0) = true := by rw [hv0]; rfl
  have e1 : (v != 0) = false := by rw [hv0]; rfl
  have HV0 : Hid (de q * v = 0) := by show _ = _; rw [hv0, Int.mul_zero]
  clear hS2 hq hv0 htl htl2 hS hlen hf hsz hv
  have HT : Hid (Tab w) := ht
  have HM : Hid (Mx w) := hm
  have H1 : Hid (FD G w a1 c1 b1 d1 q) := h1
  clear ht hm h1
  have M : Hid (Below w.heap.size w w) := Below.refl _ _
  go_enter Tryz.func6, Tryz.ntmps6
  go_upto_region 1 with fail
  obtain ⟨w1, hv⟩ : ∃ w_ : World, w_ = (w.alloc (.cells #[.int .i64 (sg (nu q)), .slice a1 (ln (nu q)) c1, .int .i64 (sg (de q)), .slice b1 (ln (de q)) d1] 26)) := ⟨_, rfl⟩
  rw [← hv]
  replace M := Lib.hid (And.intro (hv ▸ bx1 w 26 #[.int .i64 (sg (nu q)), .slice a1 (ln (nu q)) c1, .int .i64 (sg (de q)), .slice b1 (ln (de q)) d1]) (Goes.go M.out (hv ▸ below_alloc _ _ : Below w.heap.size w w1)))
  clear hv
  go_wp2_with fail
  refine (small_ok (G := G) (Nat.le_trans hG (M.out.2).size) (HT.out.keep (M.out.2)) (HM.out.keep (M.out.2))).mono ?_
  rintro e w2 ⟨rfl, hb⟩
  replace M := Lib.hid (Goes.go M.out hb)
  clear hb
  have y0 := (M.out.1).c4; have p0_0 := y0.1; have q0_0 := y0.2.1; have p0_1 := y0.2.2.1; have q0_1 := y0.2.2.2.1; have p0_2 := y0.2.2.2.2.1; have q0_2 := y0.2.2.2.2.2.1; have p0_3 := y0.2.2.2.2.2.2.1; have q0_3 := y0.2.2.2.2.2.2.2; clear y0
  go_wp2_with fail
  clear p0_0 q0_0 p0_1 q0_1 p0_2 q0_2 p0_3 q0_3
  refine (rfFew_ok (s := (sg (nu q))) (t := (sg (de q))) (m := 40) (r := true) (few_fz HQ.out rfl)).mono ?_
  rintro e w3 ⟨rfl, hb⟩
  replace M := Lib.hid (Goes.go M.out hb)
  clear hb
  go_wp2_with fail
  obtain ⟨z5, ez5⟩ : ∃ v_ : Int, v_ = (oN none) := ⟨_, rfl⟩
  obtain ⟨z6, ez6⟩ : ∃ v_ : Int, v_ = (oD none) := ⟨_, rfl⟩
  refine (fracRead_v (G := G) (S := S) (l := l) (o := none) (er := 2) (Nat.le_trans hG (M.out.2).size) (HT.out.keep (M.out.2)) (HM.out.keep (M.out.2)) HS.out HLN.out HF.out HRE.out).mono ?_
  rintro e w4 ⟨a_1, c_2, b_3, d_4, rfl, hd7, hd8, hb⟩
  rw [← ez5] at hd7 ⊢
  have Sz5 : Hid (Sz z5 0) := by show Sz z5 0; rw [ez5]; exact (show Sz (oN none) 0 from by unfold Sz; decide)
  have Ez5 := Lib.hid ez5; clear ez5
  rw [← ez6] at hd8 ⊢
  have Sz6 : Hid (Sz z6 0) := by show Sz z6 0; rw [ez6]; exact (show Sz (oD none) 0 from by unfold Sz; decide)
  have Ez6 := Lib.hid ez6; clear ez6
  replace M := Lib.hid (And.intro hd7 (And.intro hd8 (Goes.go M.out hb)))
  clear hb hd7 hd8
  go_upto_region 5 with fail
  obtain ⟨w5, hv⟩ : ∃ w_ : World, w_ = (w4.alloc (.cells #[.int .i64 (sg z5), .slice a_1 (ln z5) c_2, .int .i64 (sg z6), .slice b_3 (ln z6) d_4] 26)) := ⟨_, rfl⟩
  rw [← hv]
  have o1 : w.heap.size < w4.heap.size := ((M.out.2.2.1)).lt
  replace M := Lib.hid (And.intro (hv ▸ bx1 w4 26 #[.int .i64 (sg z5), .slice a_1 (ln z5) c_2, .int .i64 (sg z6), .slice b_3 (ln z6) d_4]) (Goes.go M.out (hv ▸ below_alloc _ _ : Below w4.heap.size w4 w5)))
  clear hv
  have y1 := (M.out.1).c4; have p1_0 := y1.1; have q1_0 := y1.2.1; have p1_1 := y1.2.2.1; have q1_1 := y1.2.2.2.1; have p1_2 := y1.2.2.2.2.1; have q1_2 := y1.2.2.2.2.2.1; have p1_3 := y1.2.2.2.2.2.2.1; have q1_3 := y1.2.2.2.2.2.2.2; clear y1
  go_wp2_with fail
  clear p1_0 q1_0 p1_1 q1_1 p1_2 q1_2 p1_3 q1_3
  refine (rfsame_two (G := G) (x := z5) (y := z6) (u := 0) (v := 0) (M.out.2.1) (M.out.2.2.1) (bd_zero _ _ _) (bd_zero _ _ _) (Sz.mono Sz5.out (by omega)) (Sz.mono Sz6.out (by omega)) (by rw [Ez5.out]; rfl) (by rw [Ez6.out]; rfl)).mono ?_
  rintro e w6 ⟨rfl, hb⟩
  replace M := Lib.hid (Goes.go M.out hb)
  clear hb
  have y0 := (M.out.2.2.2.1).c4; have p0_0 := y0.1; have q0_0 := y0.2.1; have p0_1 := y0.2.2.1; have q0_1 := y0.2.2.2.1; have p0_2 := y0.2.2.2.2.1; have q0_2 := y0.2.2.2.2.2.1; have p0_3 := y0.2.2.2.2.2.2.1; have q0_3 := y0.2.2.2.2.2.2.2; clear y0
  go_wp2_with fail
  clear p0_0 q0_0 p0_1 q0_1 p0_2 q0_2 p0_3 q0_3
  refine (fracText_lit (G := G) (q := q) (s := S2) (H1.out.keep (M.out.2.2.2.2)) (Fz.mono HQ.out (by omega)) (HT.out.keep (M.out.2.2.2.2)) HS2.out).mono ?_
  rintro e w7 ⟨rfl, hb⟩
  replace M := Lib.hid (Goes.go M.out hb)
  clear hb
  go_upto_region 8 with fail
  as_aux_lemma =>
   have y0 := (M.out.2.2.2.1).c4; have p0_0 := y0.1; have q0_0 := y0.2.1; have p0_1 := y0.2.2.1; have q0_1 := y0.2.2.2.1; have p0_2 := y0.2.2.2.2.1; have q0_2 := y0.2.2.2.2.2.1; have p0_3 := y0.2.2.2.2.2.2.1; have q0_3 := y0.2.2.2.2.2.2.2; clear y0
   go_wp2_with fail
   clear p0_0 q0_0 p0_1 q0_1 p0_2 q0_2 p0_3 q0_3
   refine (fracRight_ok (G := G) (q := q) (H1.out.keep (M.out.2.2.2.2)) (Fz.mono HQ.out (by omega))).mono ?_
   rintro e w8 ⟨rfl, hb⟩
   replace M := Lib.hid (Goes.go M.out hb)
   clear hb
   go_wp2_with fail
   obtain ⟨z13, ez13⟩ : ∃ v_ : Int, v_ = (oN (some q)) := ⟨_, rfl⟩
   obtain ⟨z14, ez14⟩ : ∃ v_ : Int, v_ = (oD (some q)) := ⟨_, rfl⟩
   refine (fracRead_v (G := G) (S := S2) (l := (textF q)) (o := (some q)) (er := 0) (Nat.le_trans hG (M.out.2.2.2.2).size) (HT.out.keep (M.out.2.2.2.2)) (HM.out.keep (M.out.2.2.2.2)) HS2.out.symm HL2.out HR2.out HE2.out).mono ?_
   rintro e w9 ⟨a_9, c_10, b_11, d_12, rfl, hd15, hd16, hb⟩
   rw [← ez13] at hd15 ⊢
   have Sz13 : Hid (Sz z13 40) := by show Sz z13 40; rw [ez13]; exact HZ3.out
   have Ez13 := Lib.hid ez13; clear ez13
   rw [← ez14] at hd16 ⊢
   have Sz14 : Hid (Sz z14 40) := by show Sz z14 40; rw [ez14]; exact HZ4.out
   have Ez14 := Lib.hid ez14; clear ez14
   replace M := Lib.hid (And.intro hd15 (And.intro hd16 (Goes.go M.out hb)))
   clear hb hd15 hd16
   go_upto_region 11 with fail
   obtain ⟨w10, hv⟩ : ∃ w_ : World, w_ = (w9.alloc (.cells #[.int .i64 (sg z13), .slice a_9 (ln z13) c_10, .int .i64 (sg z14), .slice b_11 (ln z14) d_12] 26)) := ⟨_, rfl⟩
   rw [← hv]
   have o2 : w4.heap.size < w9.heap.size := ((M.out.2.2.1)).lt
   replace M := Lib.hid (And.intro (hv ▸ bx1 w9 26 #[.int .i64 (sg z13), .slice a_9 (ln z13) c_10, .int .i64 (sg z14), .slice b_11 (ln z14) d_12]) (Goes.go M.out (hv ▸ below_alloc _ _ : Below w9.heap.size w9 w10)))
   clear hv
   as_aux_lemma =>
    have y0 := (M.out.2.2.2.2.2.2.1).c4; have p0_0 := y0.1; have q0_0 := y0.2.1; have p0_1 := y0.2.2.1; have q0_1 := y0.2.2.2.1; have p0_2 := y0.2.2.2.2.1; have q0_2 := y0.2.2.2.2.2.1; have p0_3 := y0.2.2.2.2.2.2.1; have q0_3 := y0.2.2.2.2.2.2.2; clear y0
    go_wp2_with fail
    clear p0_0 q0_0 p0_1 q0_1 p0_2 q0_2 p0_3 q0_3
    refine (new_is (G := G) (x := (nu q)) (y := (de q)) (q := q) (Nat.le_trans hG (M.out.2.2.2.2.2.2.2).size) (H1.out.keep (M.out.2.2.2.2.2.2.2)).n (H1.out.keep (M.out.2.2.2.2.2.2.2)).d (Sz.mono HQ.out.1 (by omega)) (Sz.mono HQ.out.2 (by omega)) (Int.ne_of_gt (de_pos q)) HP2.out).mono ?_
    rintro e w11 ⟨a_17, c_18, b_19, d_20, rfl, hd21, hb⟩
    replace M := Lib.hid (And.intro hd21 (Goes.go M.out hb))
    clear hb hd21
    go_upto_region 12 with fail
    obtain ⟨w12, hv⟩ : ∃ w_ : World, w_ = (w11.alloc (.cells #[.int .i64 (sg (nu q)), .slice a_17 (ln (nu q)) c_18, .int .i64 (sg (de q)), .slice b_19 (ln (de q)) d_20] 26)) := ⟨_, rfl⟩
    rw [← hv]
    have o3 : w9.heap.size < w11.heap.size := ((M.out.2.1)).lt
    replace M := Lib.hid (And.intro (hv ▸ bx1 w11 26 #[.int .i64 (sg (nu q)), .slice a_17 (ln (nu q)) c_18, .int .i64 (sg (de q)), .slice b_19 (ln (de q)) d_20]) (Goes.go M.out (hv ▸ below_alloc _ _ : Below w11.heap.size w11 w12)))
    clear hv
    replace M := Lib.hid (And.intro (M.out.1) (And.intro (M.out.2.1) (And.intro (M.out.2.2.1) (And.intro (M.out.2.2.2.1) (And.intro (M.out.2.2.2.2.1) (And.intro (M.out.2.2.2.2.2.2.2.2.1) (M.out.2.2.2.2.2.2.2.2.2)))))))
    go_cut [15, 16] (fun s15 s16 wx => ∃ (A29 : Nat), ∃ (a_22 : Option Addr), ∃ (c_23 : Nat), ∃ (a_25 : Option Addr), ∃ (c_26 : Nat), ∃ (z27 : Int), s15 = .pointer (some ⟨A29, 0, none⟩) ∧ s16 = .int .i64 0 ∧ Hid (z27 = ((nu q) * v)) ∧ Hid (Sz z27 44) ∧ w11.heap.size < A29 ∧ Hid (Bx wx A29 24 #[.int .i64 (sg z27), .slice a_25 (ln z27) c_26] ∧ BD G wx a_25 c_26 z27 ∧ BD G wx a_22 c_23 v ∧ FD G wx a_17 c_18 b_19 d_20 q ∧ BD G wx a_9 c_10 z13 ∧ BD G wx b_11 d_12 z14 ∧ Bx wx w.heap.size 26 #[.int .i64 (sg (nu q)), .slice a1 (ln (nu q)) c1, .int .i64 (sg (de q)), .slice b1 (ln (de q)) d1] ∧ Bx wx w9.heap.size 26 #[.int .i64 (sg z13), .slice a_9 (ln z13) c_10, .int .i64 (sg z14), .slice b_11 (ln z14) d_12] ∧ Bx wx w11.heap.size 26 #[.int .i64 (sg (nu q)), .slice a_17 (ln (nu q)) c_18, .int .i64 (sg (de q)), .slice b_19 (ln (de q)) d_20] ∧ Below w.heap.size w wx))
    case first =>
      obtain ⟨w13, hv⟩ : ∃ w_ : World, w_ = w12.drew := ⟨_, rfl⟩
      replace M := Lib.hid (Goes.go M.out (hv ▸ below_drew _ : Below w12.heap.size w12 w13))
      refine wp_region_held_drew (S := (fun w' => w'.cell? ⟨w.heap.size, 0, none⟩ = some (.int .i64 (sg (nu q))) ∧ w'.cell? ⟨w.heap.size, 1, none⟩ = some (.slice a1 (ln (nu q)) c1) ∧ w'.cell? ⟨w.heap.size, 2, none⟩ = some (.int .i64 (sg (de q))) ∧ w'.cell? ⟨w.heap.size, 3, none⟩ = some (.slice b1 (ln (de q)) d1))) (by kernel_rfl) (by rw [← hv]; exact ⟨(M.out.2.2.2.2.2.1).at.1 0, (M.out.2.2.2.2.2.1).at.1 1, (M.out.2.2.2.2.2.1).at.1 2, (M.out.2.2.2.2.2.1).at.1 3⟩) (fun hH30 => ?_)
      rw [← hv] at hH30 ⊢
      clear hv
      refine tk at0 ?_
      refine tk at1 ?_
      refine tk at2 ?_
      refine wpAnyH_ready (rs := [3, 8]) (by kernel_rfl) (by simp) ?_
      refine AllReadyH.cons at3 (fun K hK => ?_) ?_
      ·
        go_simp
        refine (bigOf_ok (G := G) v _ HV.out).mono ?_
        rintro e w14 ⟨a_31, c_32, rfl, hd33, hb⟩
        replace M := Lib.hid (And.intro hd33 (Goes.go M.out hb))
        clear hb hd33
        (try go_wp2_with fail)
        refine hK.out _ _ (⟨(M.out.2.2.2.2.2.2.1).at.1 0, (M.out.2.2.2.2.2.2.1).at.1 1, (M.out.2.2.2.2.2.2.1).at.1 2, (M.out.2.2.2.2.2.2.1).at.1 3⟩) (fun hH34 => ?_)
        clear hK K hH30
        (try simp only [Act.put, List.setIfInBounds_toArray, List.set_cons_zero, List.set_cons_succ])
        refine wpAnyH_ready (rs := [4, 8]) (by kernel_rfl) (by simp) ?_
        refine AllReadyH.cons at4 (fun K hK => ?_) ?_
        ·
          go_simp
          obtain ⟨z37, ez37⟩ : ∃ v_ : Int, v_ = ((nu q) * v) := ⟨_, rfl⟩
          refine (bigMul_ok (G := G) (x := (nu q)) (y := v) (H1.out.keep (M.out.2.2.2.2.2.2.2)).n (M.out.1) (Sz.mono HQ.out.1 (by omega)) (Sz.mono (sz_int (n := 0) HV.out) (by omega))).mono ?_
          rintro e w15 ⟨a_35, c_36, rfl, hd38, hb⟩
          rw [← ez37] at hd38 ⊢
          have Sz37 : Hid (Sz z37 44) := by show Sz z37 44; rw [ez37]; exact (Sz.mul HQ.out.1 (sz_int (n := 0) HV.out))
          have Ez37 := Lib.hid ez37; clear ez37
          replace M := Lib.hid (And.intro hd38 (Goes.go M.out hb))
          clear hb hd38
          (try go_wp2_with fail)
          refine hK.out _ _ (⟨(M.out.2.2.2.2.2.2.2.1).at.1 0, (M.out.2.2.2.2.2.2.2.1).at.1 1, (M.out.2.2.2.2.2.2.2.1).at.1 2, (M.out.2.2.2.2.2.2.2.1).at.1 3⟩) (fun hH39 => ?_)
          clear hK K hH34
          (try simp only [Act.put, List.setIfInBounds_toArray, List.set_cons_zero, List.set_cons_succ])
          refine tk at5 ?_
          refine tk at6 ?_
          refine tk at7 ?_
          refine wpAnyH_ready (rs := [8]) (by kernel_rfl) (by simp) ?_
          refine AllReadyH.cons at8 (fun K hK => ?_) AllReadyH.nil
          go_simp
          obtain ⟨w16, hv⟩ : ∃ w_ : World, w_ = (w15.alloc (.cells #[.int .i64 0, .slice none 0 0] 24)) := ⟨_, rfl⟩
          rw [← hv]
          have o4 : w11.heap.size < w15.heap.size := ((M.out.2.2.1)).lt
          replace M := Lib.hid (And.intro (hv ▸ bx1 w15 24 #[.int .i64 0, .slice none 0 0]) (Goes.go M.out (hv ▸ below_alloc _ _ : Below w15.heap.size w15 w16)))
          clear hv
          refine hK.out _ _ (⟨(M.out.2.2.2.2.2.2.2.2.1).at.1 0, (M.out.2.2.2.2.2.2.2.2.1).at.1 1, (M.out.2.2.2.2.2.2.2.2.1).at.1 2, (M.out.2.2.2.2.2.2.2.2.1).at.1 3⟩) (fun hH40 => ?_)
          clear hK K hH39
          (try simp only [Act.put, List.setIfInBounds_toArray, List.set_cons_zero, List.set_cons_succ])
          refine wpAnyH_ready (rs := [9]) (by kernel_rfl) (by simp) ?_
          refine AllReadyH.cons at9 (fun K hK => ?_) AllReadyH.nil
          have y4 := (M.out.1).c2; have p4_0 := y4.1; have q4_0 := y4.2.1; have p4_1 := y4.2.2.1; have q4_1 := y4.2.2.2; clear y4
          go_simp
          clear p4_0 q4_0 p4_1 q4_1
          obtain ⟨w17, hv⟩ : ∃ w_ : World, w_ = ((w16.setCell ⟨w15.heap.size, 0, none⟩ (.int .i64 (sg z37))).setCell ⟨w15.heap.size, 1, none⟩ (.slice a_35 (ln z37) c_36)) := ⟨_, rfl⟩
          rw [← hv]
          have og : w16.grownBy w17 (some w15.heap.size) := by rw [hv]; exact (only_setCell (only_setCell (World.grownBy.refl _ _) _) _)
          have hz : w.heap.size ≤ w15.heap.size := by omega
          have hk : Bx w17 w15.heap.size 24 #[.int .i64 (sg z37), .slice a_35 (ln z37) c_36] := by rw [hv]; exact (((M.out.1).set 0 _).set 1 _)
          have hbw : Below w.heap.size w w17 := by rw [hv]; exact (Below.setCell (Below.setCell (M.out.2.2.2.2.2.2.2.2.2) (by omega) _) (by omega) _)
          replace M := Lib.hid (And.intro hk (And.intro ((M.out.2.1).far (M.out.1) (by rfl) (by omega) og) (And.intro ((M.out.2.2.1).far (M.out.1) (by rfl) (by omega) og) (And.intro ((M.out.2.2.2.1).only og (by omega)) (And.intro ((M.out.2.2.2.2.1).far (M.out.1) (by rfl) (by omega) og) (And.intro ((M.out.2.2.2.2.2.1).only og (by omega)) (And.intro ((M.out.2.2.2.2.2.2.1).far (M.out.1) (by rfl) (by omega) og) (And.intro ((M.out.2.2.2.2.2.2.2.1).far (M.out.1) (by rfl) (by omega) og) (And.intro ((M.out.2.2.2.2.2.2.2.2.1).only og (by omega)) hbw)))))))))
          clear hk hbw og hv hz
          refine hK.out _ _ (⟨(M.out.2.2.2.2.2.2.2.2.1).at.1 0, (M.out.2.2.2.2.2.2.2.2.1).at.1 1, (M.out.2.2.2.2.2.2.2.2.1).at.1 2, (M.out.2.2.2.2.2.2.2.2.1).at.1 3⟩) (fun hH41 => ?_)
          clear hK K hH40
          (try simp only [Act.put, List.setIfInBounds_toArray, List.set_cons_zero, List.set_cons_succ])
          refine tk at10 ?_
          refine wpAnyH_done (by kernel_rfl) ?_ _
          clear hH41
          go_wp2_with fail
          go_meet
          exact ⟨w15.heap.size, a_31, c_32, a_35, c_36, z37, rfl, rfl, Ez37, Sz37, (by omega), (M.out.1), (M.out.2.1), (M.out.2.2.1), (M.out.2.2.2.2.1), (M.out.2.2.2.2.2.2.1), (M.out.2.2.2.2.2.2.2.1), (M.out.2.2.2.2.2.2.2.2.1), (M.out.2.2.2.2.2.1), (M.out.2.2.2.1), (M.out.2.2.2.2.2.2.2.2.2)⟩
        refine AllReadyH.cons at8 (fun K hK => ?_) AllReadyH.nil
        go_simp
        obtain ⟨w15, hv⟩ : ∃ w_ : World, w_ = (w14.alloc (.cells #[.int .i64 0, .slice none 0 0] 24)) := ⟨_, rfl⟩
        rw [← hv]
        have o4 : w11.heap.size < w14.heap.size := ((M.out.2.1)).lt
        replace M := Lib.hid (And.intro (hv ▸ bx1 w14 24 #[.int .i64 0, .slice none 0 0]) (Goes.go M.out (hv ▸ below_alloc _ _ : Below w14.heap.size w14 w15)))
        clear hv
        refine hK.out _ _ (⟨(M.out.2.2.2.2.2.2.2.1).at.1 0, (M.out.2.2.2.2.2.2.2.1).at.1 1, (M.out.2.2.2.2.2.2.2.1).at.1 2, (M.out.2.2.2.2.2.2.2.1).at.1 3⟩) (fun hH42 => ?_)
        clear hK K hH34
        (try simp only [Act.put, List.setIfInBounds_toArray, List.set_cons_zero, List.set_cons_succ])
        refine wpAnyH_ready (rs := [4]) (by kernel_rfl) (by simp) ?_
        refine AllReadyH.cons at4 (fun K hK => ?_) AllReadyH.nil
        go_simp
        obtain ⟨z45, ez45⟩ : ∃ v_ : Int, v_ = ((nu q) * v) := ⟨_, rfl⟩
        refine (bigMul_ok (G := G) (x := (nu q)) (y := v) (H1.out.keep (M.out.2.2.2.2.2.2.2.2)).n (M.out.2.1) (Sz.mono HQ.out.1 (by omega)) (Sz.mono (sz_int (n := 0) HV.out) (by omega))).mono ?_
        rintro e w16 ⟨a_43, c_44, rfl, hd46, hb⟩
        rw [← ez45] at hd46 ⊢
        have Sz45 : Hid (Sz z45 44) := by show Sz z45 44; rw [ez45]; exact (Sz.mul HQ.out.1 (sz_int (n := 0) HV.out))
        have Ez45 := Lib.hid ez45; clear ez45
        replace M := Lib.hid (And.intro hd46 (Goes.go M.out hb))
        clear hb hd46
        (try go_wp2_with fail)
        refine hK.out _ _ (⟨(M.out.2.2.2.2.2.2.2.2.1).at.1 0, (M.out.2.2.2.2.2.2.2.2.1).at.1 1, (M.out.2.2.2.2.2.2.2.2.1).at.1 2, (M.out.2.2.2.2.2.2.2.2.1).at.1 3⟩) (fun hH47 => ?_)
        clear hK K hH42
        (try simp only [Act.put, List.setIfInBounds_toArray, List.set_cons_zero, List.set_cons_succ])
        refine tk at5 ?_
        refine tk at6 ?_
        refine tk at7 ?_
        refine wpAnyH_ready (rs := [9]) (by kernel_rfl) (by simp) ?_
        refine AllReadyH.cons at9 (fun K hK => ?_) AllReadyH.nil
        have y4 := (M.out.2.1).c2; have p4_0 := y4.1; have q4_0 := y4.2.1; have p4_1 := y4.2.2.1; have q4_1 := y4.2.2.2; clear y4
        go_simp
        clear p4_0 q4_0 p4_1 q4_1
        obtain ⟨w17, hv⟩ : ∃ w_ : World, w_ = ((w16.setCell ⟨w14.heap.size, 0, none⟩ (.int .i64 (sg z45))).setCell ⟨w14.heap.size, 1, none⟩ (.slice a_43 (ln z45) c_44)) := ⟨_, rfl⟩
        rw [← hv]
        have og : w16.grownBy w17 (some w14.heap.size) := by rw [hv]; exact (only_setCell (only_setCell (World.grownBy.refl _ _) _) _)
        have hz : w.heap.size ≤ w14.heap.size := by omega
        have hk : Bx w17 w14.heap.size 24 #[.int .i64 (sg z45), .slice a_43 (ln z45) c_44] := by rw [hv]; exact (((M.out.2.1).set 0 _).set 1 _)
        have hbw : Below w.heap.size w w17 := by rw [hv]; exact (Below.setCell (Below.setCell (M.out.2.2.2.2.2.2.2.2.2) (by omega) _) (by omega) _)
        replace M := Lib.hid (And.intro ((M.out.1).far (M.out.2.1) (by rfl) (by omega) og) (And.intro hk (And.intro ((M.out.2.2.1).far (M.out.2.1) (by rfl) (by omega) og) (And.intro ((M.out.2.2.2.1).only og (by omega)) (And.intro ((M.out.2.2.2.2.1).far (M.out.2.1) (by rfl) (by omega) og) (And.intro ((M.out.2.2.2.2.2.1).only og (by omega)) (And.intro ((M.out.2.2.2.2.2.2.1).far (M.out.2.1) (by rfl) (by omega) og) (And.intro ((M.out.2.2.2.2.2.2.2.1).far (M.out.2.1) (by rfl) (by omega) og) (And.intro ((M.out.2.2.2.2.2.2.2.2.1).only og (by omega)) hbw)))))))))
        clear hk hbw og hv hz
        refine hK.out _ _ (⟨(M.out.2.2.2.2.2.2.2.2.1).at.1 0, (M.out.2.2.2.2.2.2.2.2.1).at.1 1, (M.out.2.2.2.2.2.2.2.2.1).at.1 2, (M.out.2.2.2.2.2.2.2.2.1).at.1 3⟩) (fun hH48 => ?_)
        clear hK K hH47
        (try simp only [Act.put, List.setIfInBounds_toArray, List.set_cons_zero, List.set_cons_succ])
        refine tk at10 ?_
        refine wpAnyH_done (by kernel_rfl) ?_ _
        clear hH48
        go_wp2_with fail
        go_meet
        exact ⟨w14.heap.size, a_31, c_32, a_43, c_44, z45, rfl, rfl, Ez45, Sz45, (by omega), (M.out.2.1), (M.out.1), (M.out.2.2.1), (M.out.2.2.2.2.1), (M.out.2.2.2.2.2.2.1), (M.out.2.2.2.2.2.2.2.1), (M.out.2.2.2.2.2.2.2.2.1), (M.out.2.2.2.2.2.1), (M.out.2.2.2.1), (M.out.2.2.2.2.2.2.2.2.2)⟩
      refine AllReadyH.cons at8 (fun K hK => ?_) AllReadyH.nil
      go_simp
      obtain ⟨w14, hv⟩ : ∃ w_ : World, w_ = (w13.alloc (.cells #[.int .i64 0, .slice none 0 0] 24)) := ⟨_, rfl⟩
      rw [← hv]
      have o4 : w11.heap.size < w13.heap.size := ((M.out.1)).lt
      replace M := Lib.hid (And.intro (hv ▸ bx1 w13 24 #[.int .i64 0, .slice none 0 0]) (Goes.go M.out (hv ▸ below_alloc _ _ : Below w13.heap.size w13 w14)))
      clear hv
      refine hK.out _ _ (⟨(M.out.2.2.2.2.2.2.1).at.1 0, (M.out.2.2.2.2.2.2.1).at.1 1, (M.out.2.2.2.2.2.2.1).at.1 2, (M.out.2.2.2.2.2.2.1).at.1 3⟩) (fun hH49 => ?_)
      clear hK K hH30
      (try simp only [Act.put, List.setIfInBounds_toArray, List.set_cons_zero, List.set_cons_succ])
      refine wpAnyH_ready (rs := [3]) (by kernel_rfl) (by simp) ?_
      refine AllReadyH.cons at3 (fun K hK => ?_) AllReadyH.nil
      go_simp
      refine (bigOf_ok (G := G) v _ HV.out).mono ?_
      rintro e w15 ⟨a_50, c_51, rfl, hd52, hb⟩
      replace M := Lib.hid (And.intro hd52 (Goes.go M.out hb))
      clear hb hd52
      (try go_wp2_with fail)
      refine hK.out _ _ (⟨(M.out.2.2.2.2.2.2.2.1).at.1 0, (M.out.2.2.2.2.2.2.2.1).at.1 1, (M.out.2.2.2.2.2.2.2.1).at.1 2, (M.out.2.2.2.2.2.2.2.1).at.1 3⟩) (fun hH53 => ?_)
      clear hK K hH49
      (try simp only [Act.put, List.setIfInBounds_toArray, List.set_cons_zero, List.set_cons_succ])
      refine wpAnyH_ready (rs := [4]) (by kernel_rfl) (by simp) ?_
      refine AllReadyH.cons at4 (fun K hK => ?_) AllReadyH.nil
      go_simp
      obtain ⟨z56, ez56⟩ : ∃ v_ : Int, v_ = ((nu q) * v) := ⟨_, rfl⟩
      refine (bigMul_ok (G := G) (x := (nu q)) (y := v) (H1.out.keep (M.out.2.2.2.2.2.2.2.2)).n (M.out.1) (Sz.mono HQ.out.1 (by omega)) (Sz.mono (sz_int (n := 0) HV.out) (by omega))).mono ?_
      rintro e w16 ⟨a_54, c_55, rfl, hd57, hb⟩
      rw [← ez56] at hd57 ⊢
      have Sz56 : Hid (Sz z56 44) := by show Sz z56 44; rw [ez56]; exact (Sz.mul HQ.out.1 (sz_int (n := 0) HV.out))
      have Ez56 := Lib.hid ez56; clear ez56
      replace M := Lib.hid (And.intro hd57 (Goes.go M.out hb))
      clear hb hd57
      (try go_wp2_with fail)
      refine hK.out _ _ (⟨(M.out.2.2.2.2.2.2.2.2.1).at.1 0, (M.out.2.2.2.2.2.2.2.2.1).at.1 1, (M.out.2.2.2.2.2.2.2.2.1).at.1 2, (M.out.2.2.2.2.2.2.2.2.1).at.1 3⟩) (fun hH58 => ?_)
      clear hK K hH53
      (try simp only [Act.put, List.setIfInBounds_toArray, List.set_cons_zero, List.set_cons_succ])
      refine tk at5 ?_
      refine tk at6 ?_
      refine tk at7 ?_
      refine wpAnyH_ready (rs := [9]) (by kernel_rfl) (by simp) ?_
      refine AllReadyH.cons at9 (fun K hK => ?_) AllReadyH.nil
      have y4 := (M.out.2.2.1).c2; have p4_0 := y4.1; have q4_0 := y4.2.1; have p4_1 := y4.2.2.1; have q4_1 := y4.2.2.2; clear y4
      go_simp
      clear p4_0 q4_0 p4_1 q4_1
      obtain ⟨w17, hv⟩ : ∃ w_ : World, w_ = ((w16.setCell ⟨w13.heap.size, 0, none⟩ (.int .i64 (sg z56))).setCell ⟨w13.heap.size, 1, none⟩ (.slice a_54 (ln z56) c_55)) := ⟨_, rfl⟩
      rw [← hv]
      have og : w16.grownBy w17 (some w13.heap.size) := by rw [hv]; exact (only_setCell (only_setCell (World.grownBy.refl _ _) _) _)
      have hz : w.heap.size ≤ w13.heap.size := by omega
      have hk : Bx w17 w13.heap.size 24 #[.int .i64 (sg z56), .slice a_54 (ln z56) c_55] := by rw [hv]; exact (((M.out.2.2.1).set 0 _).set 1 _)
      have hbw : Below w.heap.size w w17 := by rw [hv]; exact (Below.setCell (Below.setCell (M.out.2.2.2.2.2.2.2.2.2) (by omega) _) (by omega) _)
      replace M := Lib.hid (And.intro ((M.out.1).far (M.out.2.2.1) (by rfl) (by omega) og) (And.intro ((M.out.2.1).far (M.out.2.2.1) (by rfl) (by omega) og) (And.intro hk (And.intro ((M.out.2.2.2.1).only og (by omega)) (And.intro ((M.out.2.2.2.2.1).far (M.out.2.2.1) (by rfl) (by omega) og) (And.intro ((M.out.2.2.2.2.2.1).only og (by omega)) (And.intro ((M.out.2.2.2.2.2.2.1).far (M.out.2.2.1) (by rfl) (by omega) og) (And.intro ((M.out.2.2.2.2.2.2.2.1).far (M.out.2.2.1) (by rfl) (by omega) og) (And.intro ((M.out.2.2.2.2.2.2.2.2.1).only og (by omega)) hbw)))))))))
      clear hk hbw og hv hz
      refine hK.out _ _ (⟨(M.out.2.2.2.2.2.2.2.2.1).at.1 0, (M.out.2.2.2.2.2.2.2.2.1).at.1 1, (M.out.2.2.2.2.2.2.2.2.1).at.1 2, (M.out.2.2.2.2.2.2.2.2.1).at.1 3⟩) (fun hH59 => ?_)
      clear hK K hH58
      (try simp only [Act.put, List.setIfInBounds_toArray, List.set_cons_zero, List.set_cons_succ])
      refine tk at10 ?_
      refine wpAnyH_done (by kernel_rfl) ?_ _
      clear hH59
      go_wp2_with fail
      go_meet
      exact ⟨w13.heap.size, a_50, c_51, a_54, c_55, z56, rfl, rfl, Ez56, Sz56, (by omega), (M.out.2.2.1), (M.out.1), (M.out.2.1), (M.out.2.2.2.2.1), (M.out.2.2.2.2.2.2.1), (M.out.2.2.2.2.2.2.2.1), (M.out.2.2.2.2.2.2.2.2.1), (M.out.2.2.2.2.2.1), (M.out.2.2.2.1), (M.out.2.2.2.2.2.2.2.2.2)⟩
    case rest =>
      obtain ⟨A29, a_22, c_23, a_25, c_26, z27, rfl, rfl, Ez27, Sz27, oA29, M⟩ := hcut
      obtain ⟨w13, rfl⟩ : ∃ w_ : World, w_ = wc := ⟨_, rfl⟩
      go_upto_region 13 with fail
      replace M := Lib.hid (And.intro (M.out.1) (And.intro (M.out.2.1) (And.intro (M.out.2.2.2.1) (And.intro (M.out.2.2.2.2.1) (And.intro (M.out.2.2.2.2.2.1) (And.intro (M.out.2.2.2.2.2.2.1) (And.intro (M.out.2.2.2.2.2.2.2.1) (And.intro (M.out.2.2.2.2.2.2.2.2.1) (M.out.2.2.2.2.2.2.2.2.2)))))))))
      go_cut [17, 18] (fun s17 s18 wx => ∃ (A67 : Nat), ∃ (a_60 : Option Addr), ∃ (c_61 : Nat), ∃ (a_63 : Option Addr), ∃ (c_64 : Nat), ∃ (z65 : Int), s17 = .pointer (some ⟨A67, 0, none⟩) ∧ s18 = .int .i64 0 ∧ Hid (z65 = ((de q) * v)) ∧ Hid (Sz z65 44) ∧ A29 < A67 ∧ Hid (Bx wx A67 24 #[.int .i64 (sg z65), .slice a_63 (ln z65) c_64] ∧ BD G wx a_63 c_64 z65 ∧ BD G wx a_60 c_61 v ∧ BD G wx a_25 c_26 z27 ∧ FD G wx a_17 c_18 b_19 d_20 q ∧ BD G wx a_9 c_10 z13 ∧ BD G wx b_11 d_12 z14 ∧ Bx wx w.heap.size 26 #[.int .i64 (sg (nu q)), .slice a1 (ln (nu q)) c1, .int .i64 (sg (de q)), .slice b1 (ln (de q)) d1] ∧ Bx wx w9.heap.size 26 #[.int .i64 (sg z13), .slice a_9 (ln z13) c_10, .int .i64 (sg z14), .slice b_11 (ln z14) d_12] ∧ Bx wx w11.heap.size 26 #[.int .i64 (sg (nu q)), .slice a_17 (ln (nu q)) c_18, .int .i64 (sg (de q)), .slice b_19 (ln (de q)) d_20] ∧ Bx wx A29 24 #[.int .i64 (sg z27), .slice a_25 (ln z27) c_26] ∧ Below w.heap.size w wx))
      case first =>
        obtain ⟨w14, hv⟩ : ∃ w_ : World, w_ = w13.drew := ⟨_, rfl⟩
        replace M := Lib.hid (Goes.go M.out (hv ▸ below_drew _ : Below w13.heap.size w13 w14))
        refine wp_region_held_drew (S := (fun w' => w'.cell? ⟨w.heap.size, 0, none⟩ = some (.int .i64 (sg (nu q))) ∧ w'.cell? ⟨w.heap.size, 1, none⟩ = some (.slice a1 (ln (nu q)) c1) ∧ w'.cell? ⟨w.heap.size, 2, none⟩ = some (.int .i64 (sg (de q))) ∧ w'.cell? ⟨w.heap.size, 3, none⟩ = some (.slice b1 (ln (de q)) d1))) (by kernel_rfl) (by rw [← hv]; exact ⟨(M.out.2.2.2.2.2.1).at.1 0, (M.out.2.2.2.2.2.1).at.1 1, (M.out.2.2.2.2.2.1).at.1 2, (M.out.2.2.2.2.2.1).at.1 3⟩) (fun hH68 => ?_)
        rw [← hv] at hH68 ⊢
        clear hv
        refine tk at0 ?_
        refine tk at1 ?_
        refine tk at2 ?_
        refine wpAnyH_ready (rs := [3, 8]) (by kernel_rfl) (by simp) ?_
        refine AllReadyH.cons at3 (fun K hK => ?_) ?_
        ·
          go_simp
          refine (bigOf_ok (G := G) v _ HV.out).mono ?_
          rintro e w15 ⟨a_69, c_70, rfl, hd71, hb⟩
          replace M := Lib.hid (And.intro hd71 (Goes.go M.out hb))
          clear hb hd71
          (try go_wp2_with fail)
          refine hK.out _ _ (⟨(M.out.2.2.2.2.2.2.1).at.1 0, (M.out.2.2.2.2.2.2.1).at.1 1, (M.out.2.2.2.2.2.2.1).at.1 2, (M.out.2.2.2.2.2.2.1).at.1 3⟩) (fun hH72 => ?_)
          clear hK K hH68
          (try simp only [Act.put, List.setIfInBounds_toArray, List.set_cons_zero, List.set_cons_succ])
          refine wpAnyH_ready (rs := [4, 8]) (by kernel_rfl) (by simp) ?_
          refine AllReadyH.cons at4 (fun K hK => ?_) ?_
          ·
            go_simp
            obtain ⟨z75, ez75⟩ : ∃ v_ : Int, v_ = ((de q) * v) := ⟨_, rfl⟩
            refine (bigMul_ok (G := G) (x := (de q)) (y := v) (H1.out.keep (M.out.2.2.2.2.2.2.2.2.2)).d (M.out.1) (Sz.mono HQ.out.2 (by omega)) (Sz.mono (sz_int (n := 0) HV.out) (by omega))).mono ?_
            rintro e w16 ⟨a_73, c_74, rfl, hd76, hb⟩
            rw [← ez75] at hd76 ⊢
            have Sz75 : Hid (Sz z75 44) := by show Sz z75 44; rw [ez75]; exact (Sz.mul HQ.out.2 (sz_int (n := 0) HV.out))
            have Ez75 := Lib.hid ez75; clear ez75
            replace M := Lib.hid (And.intro hd76 (Goes.go M.out hb))
            clear hb hd76
            (try go_wp2_with fail)
            refine hK.out _ _ (⟨(M.out.2.2.2.2.2.2.2.1).at.1 0, (M.out.2.2.2.2.2.2.2.1).at.1 1, (M.out.2.2.2.2.2.2.2.1).at.1 2, (M.out.2.2.2.2.2.2.2.1).at.1 3⟩) (fun hH77 => ?_)
            clear hK K hH72
            (try simp only [Act.put, List.setIfInBounds_toArray, List.set_cons_zero, List.set_cons_succ])
            refine tk at5 ?_
            refine tk at6 ?_
            refine tk at7 ?_
            refine wpAnyH_ready (rs := [8]) (by kernel_rfl) (by simp) ?_
            refine AllReadyH.cons at8 (fun K hK => ?_) AllReadyH.nil
            go_simp
            obtain ⟨w17, hv⟩ : ∃ w_ : World, w_ = (w16.alloc (.cells #[.int .i64 0, .slice none 0 0] 24)) := ⟨_, rfl⟩
            rw [← hv]
            have o5 : A29 < w16.heap.size := ((M.out.2.2.1)).lt
            replace M := Lib.hid (And.intro (hv ▸ bx1 w16 24 #[.int .i64 0, .slice none 0 0]) (Goes.go M.out (hv ▸ below_alloc _ _ : Below w16.heap.size w16 w17)))
            clear hv
            refine hK.out _ _ (⟨(M.out.2.2.2.2.2.2.2.2.1).at.1 0, (M.out.2.2.2.2.2.2.2.2.1).at.1 1, (M.out.2.2.2.2.2.2.2.2.1).at.1 2, (M.out.2.2.2.2.2.2.2.2.1).at.1 3⟩) (fun hH78 => ?_)
            clear hK K hH77
            (try simp only [Act.put, List.setIfInBounds_toArray, List.set_cons_zero, List.set_cons_succ])
            refine wpAnyH_ready (rs := [9]) (by kernel_rfl) (by simp) ?_
            refine AllReadyH.cons at9 (fun K hK => ?_) AllReadyH.nil
            have y5 := (M.out.1).c2; have p5_0 := y5.1; have q5_0 := y5.2.1; have p5_1 := y5.2.2.1; have q5_1 := y5.2.2.2; clear y5
            go_simp
            clear p5_0 q5_0 p5_1 q5_1
            obtain ⟨w18, hv⟩ : ∃ w_ : World, w_ = ((w17.setCell ⟨w16.heap.size, 0, none⟩ (.int .i64 (sg z75))).setCell ⟨w16.heap.size, 1, none⟩ (.slice a_73 (ln z75) c_74)) := ⟨_, rfl⟩
            rw [← hv]
            have og : w17.grownBy w18 (some w16.heap.size) := by rw [hv]; exact (only_setCell (only_setCell (World.grownBy.refl _ _) _) _)
            have hz : w.heap.size ≤ w16.heap.size := by omega
            have hk : Bx w18 w16.heap.size 24 #[.int .i64 (sg z75), .slice a_73 (ln z75) c_74] := by rw [hv]; exact (((M.out.1).set 0 _).set 1 _)
            have hbw : Below w.heap.size w w18 := by rw [hv]; exact (Below.setCell (Below.setCell (M.out.2.2.2.2.2.2.2.2.2.2.2) (by omega) _) (by omega) _)
            replace M := Lib.hid (And.intro hk (And.intro ((M.out.2.1).far (M.out.1) (by rfl) (by omega) og) (And.intro ((M.out.2.2.1).far (M.out.1) (by rfl) (by omega) og) (And.intro ((M.out.2.2.2.1).only og (by omega)) (And.intro ((M.out.2.2.2.2.1).far (M.out.1) (by rfl) (by omega) og) (And.intro ((M.out.2.2.2.2.2.1).far (M.out.1) (by rfl) (by omega) og) (And.intro ((M.out.2.2.2.2.2.2.1).far (M.out.1) (by rfl) (by omega) og) (And.intro ((M.out.2.2.2.2.2.2.2.1).far (M.out.1) (by rfl) (by omega) og) (And.intro ((M.out.2.2.2.2.2.2.2.2.1).only og (by omega)) (And.intro ((M.out.2.2.2.2.2.2.2.2.2.1).only og (by omega)) (And.intro ((M.out.2.2.2.2.2.2.2.2.2.2.1).only og (by omega)) hbw)))))))))))
            clear hk hbw og hv hz
            refine hK.out _ _ (⟨(M.out.2.2.2.2.2.2.2.2.1).at.1 0, (M.out.2.2.2.2.2.2.2.2.1).at.1 1, (M.out.2.2.2.2.2.2.2.2.1).at.1 2, (M.out.2.2.2.2.2.2.2.2.1).at.1 3⟩) (fun hH79 => ?_)
            clear hK K hH78
            (try simp only [Act.put, List.setIfInBounds_toArray, List.set_cons_zero, List.set_cons_succ])
            refine tk at10 ?_
            refine wpAnyH_done (by kernel_rfl) ?_ _
            clear hH79
            go_wp2_with fail
            go_meet
            exact ⟨w16.heap.size, a_69, c_70, a_73, c_74, z75, rfl, rfl, Ez75, Sz75, (by omega), (M.out.1), (M.out.2.1), (M.out.2.2.1), (M.out.2.2.2.2.1), (M.out.2.2.2.2.2.1), (M.out.2.2.2.2.2.2.1), (M.out.2.2.2.2.2.2.2.1), (M.out.2.2.2.2.2.2.2.2.1), (M.out.2.2.2.2.2.2.2.2.2.1), (M.out.2.2.2.2.2.2.2.2.2.2.1), (M.out.2.2.2.1), (M.out.2.2.2.2.2.2.2.2.2.2.2)⟩
          refine AllReadyH.cons at8 (fun K hK => ?_) AllReadyH.nil
          go_simp
          obtain ⟨w16, hv⟩ : ∃ w_ : World, w_ = (w15.alloc (.cells #[.int .i64 0, .slice none 0 0] 24)) := ⟨_, rfl⟩
          rw [← hv]
          have o5 : A29 < w15.heap.size := ((M.out.2.1)).lt
          replace M := Lib.hid (And.intro (hv ▸ bx1 w15 24 #[.int .i64 0, .slice none 0 0]) (Goes.go M.out (hv ▸ below_alloc _ _ : Below w15.heap.size w15 w16)))
          clear hv
          refine hK.out _ _ (⟨(M.out.2.2.2.2.2.2.2.1).at.1 0, (M.out.2.2.2.2.2.2.2.1).at.1 1, (M.out.2.2.2.2.2.2.2.1).at.1 2, (M.out.2.2.2.2.2.2.2.1).at.1 3⟩) (fun hH80 => ?_)
          clear hK K hH72
          (try simp only [Act.put, List.setIfInBounds_toArray, List.set_cons_zero, List.set_cons_succ])
          refine wpAnyH_ready (rs := [4]) (by kernel_rfl) (by simp) ?_
          refine AllReadyH.cons at4 (fun K hK => ?_) AllReadyH.nil
          go_simp
          obtain ⟨z83, ez83⟩ : ∃ v_ : Int, v_ = ((de q) * v) := ⟨_, rfl⟩
          refine (bigMul_ok (G := G) (x := (de q)) (y := v) (H1.out.keep (M.out.2.2.2.2.2.2.2.2.2.2)).d (M.out.2.1) (Sz.mono HQ.out.2 (by omega)) (Sz.mono (sz_int (n := 0) HV.out) (by omega))).mono ?_
          rintro e w17 ⟨a_81, c_82, rfl, hd84, hb⟩
          rw [← ez83] at hd84 ⊢
          have Sz83 : Hid (Sz z83 44) := by show Sz z83 44; rw [ez83]; exact (Sz.mul HQ.out.2 (sz_int (n := 0) HV.out))
          have Ez83 := Lib.hid ez83; clear ez83
          replace M := Lib.hid (And.intro hd84 (Goes.go M.out hb))
          clear hb hd84
          (try go_wp2_with fail)
          refine hK.out _ _ (⟨(M.out.2.2.2.2.2.2.2.2.1).at.1 0, (M.out.2.2.2.2.2.2.2.2.1).at.1 1, (M.out.2.2.2.2.2.2.2.2.1).at.1 2, (M.out.2.2.2.2.2.2.2.2.1).at.1 3⟩) (fun hH85 => ?_)
          clear hK K hH80
          (try simp only [Act.put, List.setIfInBounds_toArray, List.set_cons_zero, List.set_cons_succ])
          refine tk at5 ?_
          refine tk at6 ?_
          refine tk at7 ?_
          refine wpAnyH_ready (rs := [9]) (by kernel_rfl) (by simp) ?_
          refine AllReadyH.cons at9 (fun K hK => ?_) AllReadyH.nil
          have y5 := (M.out.2.1).c2; have p5_0 := y5.1; have q5_0 := y5.2.1; have p5_1 := y5.2.2.1; have q5_1 := y5.2.2.2; clear y5
          go_simp
          clear p5_0 q5_0 p5_1 q5_1
          obtain ⟨w18, hv⟩ : ∃ w_ : World, w_ = ((w17.setCell ⟨w15.heap.size, 0, none⟩ (.int .i64 (sg z83))).setCell ⟨w15.heap.size, 1, none⟩ (.slice a_81 (ln z83) c_82)) := ⟨_, rfl⟩
          rw [← hv]
          have og : w17.grownBy w18 (some w15.heap.size) := by rw [hv]; exact (only_setCell (only_setCell (World.grownBy.refl _ _) _) _)
          have hz : w.heap.size ≤ w15.heap.size := by omega
          have hk : Bx w18 w15.heap.size 24 #[.int .i64 (sg z83), .slice a_81 (ln z83) c_82] := by rw [hv]; exact (((M.out.2.1).set 0 _).set 1 _)
          have hbw : Below w.heap.size w w18 := by rw [hv]; exact (Below.setCell (Below.setCell (M.out.2.2.2.2.2.2.2.2.2.2.2) (by omega) _) (by omega) _)
          replace M := Lib.hid (And.intro ((M.out.1).far (M.out.2.1) (by rfl) (by omega) og) (And.intro hk (And.intro ((M.out.2.2.1).far (M.out.2.1) (by rfl) (by omega) og) (And.intro ((M.out.2.2.2.1).only og (by omega)) (And.intro ((M.out.2.2.2.2.1).far (M.out.2.1) (by rfl) (by omega) og) (And.intro ((M.out.2.2.2.2.2.1).far (M.out.2.1) (by rfl) (by omega) og) (And.intro ((M.out.2.2.2.2.2.2.1).far (M.out.2.1) (by rfl) (by omega) og) (And.intro ((M.out.2.2.2.2.2.2.2.1).far (M.out.2.1) (by rfl) (by omega) og) (And.intro ((M.out.2.2.2.2.2.2.2.2.1).only og (by omega)) (And.intro ((M.out.2.2.2.2.2.2.2.2.2.1).only og (by omega)) (And.intro ((M.out.2.2.2.2.2.2.2.2.2.2.1).only og (by omega)) hbw)))))))))))
          clear hk hbw og hv hz
          refine hK.out _ _ (⟨(M.out.2.2.2.2.2.2.2.2.1).at.1 0, (M.out.2.2.2.2.2.2.2.2.1).at.1 1, (M.out.2.2.2.2.2.2.2.2.1).at.1 2, (M.out.2.2.2.2.2.2.2.2.1).at.1 3⟩) (fun hH86 => ?_)
          clear hK K hH85
          (try simp only [Act.put, List.setIfInBounds_toArray, List.set_cons_zero, List.set_cons_succ])
          refine tk at10 ?_
          refine wpAnyH_done (by kernel_rfl) ?_ _
          clear hH86
          go_wp2_with fail
          go_meet
          exact ⟨w15.heap.size, a_69, c_70, a_81, c_82, z83, rfl, rfl, Ez83, Sz83, (by omega), (M.out.2.1), (M.out.1), (M.out.2.2.1), (M.out.2.2.2.2.1), (M.out.2.2.2.2.2.1), (M.out.2.2.2.2.2.2.1), (M.out.2.2.2.2.2.2.2.1), (M.out.2.2.2.2.2.2.2.2.1), (M.out.2.2.2.2.2.2.2.2.2.1), (M.out.2.2.2.2.2.2.2.2.2.2.1), (M.out.2.2.2.1), (M.out.2.2.2.2.2.2.2.2.2.2.2)⟩
        refine AllReadyH.cons at8 (fun K hK => ?_) AllReadyH.nil
        go_simp
        obtain ⟨w15, hv⟩ : ∃ w_ : World, w_ = (w14.alloc (.cells #[.int .i64 0, .slice none 0 0] 24)) := ⟨_, rfl⟩
        rw [← hv]
        have o5 : A29 < w14.heap.size := ((M.out.1)).lt
        replace M := Lib.hid (And.intro (hv ▸ bx1 w14 24 #[.int .i64 0, .slice none 0 0]) (Goes.go M.out (hv ▸ below_alloc _ _ : Below w14.heap.size w14 w15)))
        clear hv
        refine hK.out _ _ (⟨(M.out.2.2.2.2.2.2.1).at.1 0, (M.out.2.2.2.2.2.2.1).at.1 1, (M.out.2.2.2.2.2.2.1).at.1 2, (M.out.2.2.2.2.2.2.1).at.1 3⟩) (fun hH87 => ?_)
        clear hK K hH68
        (try simp only [Act.put, List.setIfInBounds_toArray, List.set_cons_zero, List.set_cons_succ])
        refine wpAnyH_ready (rs := [3]) (by kernel_rfl) (by simp) ?_
        refine AllReadyH.cons at3 (fun K hK => ?_) AllReadyH.nil
        go_simp
        refine (bigOf_ok (G := G) v _ HV.out).mono ?_
        rintro e w16 ⟨a_88, c_89, rfl, hd90, hb⟩
        replace M := Lib.hid (And.intro hd90 (Goes.go M.out hb))
        clear hb hd90
        (try go_wp2_with fail)
        refine hK.out _ _ (⟨(M.out.2.2.2.2.2.2.2.1).at.1 0, (M.out.2.2.2.2.2.2.2.1).at.1 1, (M.out.2.2.2.2.2.2.2.1).at.1 2, (M.out.2.2.2.2.2.2.2.1).at.1 3⟩) (fun hH91 => ?_)
        clear hK K hH87
        (try simp only [Act.put, List.setIfInBounds_toArray, List.set_cons_zero, List.set_cons_succ])
        refine wpAnyH_ready (rs := [4]) (by kernel_rfl) (by simp) ?_
        refine AllReadyH.cons at4 (fun K hK => ?_) AllReadyH.nil
        go_simp
        obtain ⟨z94, ez94⟩ : ∃ v_ : Int, v_ = ((de q) * v) := ⟨_, rfl⟩
        refine (bigMul_ok (G := G) (x := (de q)) (y := v) (H1.out.keep (M.out.2.2.2.2.2.2.2.2.2.2)).d (M.out.1) (Sz.mono HQ.out.2 (by omega)) (Sz.mono (sz_int (n := 0) HV.out) (by omega))).mono ?_
        rintro e w17 ⟨a_92, c_93, rfl, hd95, hb⟩
        rw [← ez94] at hd95 ⊢
        have Sz94 : Hid (Sz z94 44) := by show Sz z94 44; rw [ez94]; exact (Sz.mul HQ.out.2 (sz_int (n := 0) HV.out))
        have Ez94 := Lib.hid ez94; clear ez94
        replace M := Lib.hid (And.intro hd95 (Goes.go M.out hb))
        clear hb hd95
        (try go_wp2_with fail)
        refine hK.out _ _ (⟨(M.out.2.2.2.2.2.2.2.2.1).at.1 0, (M.out.2.2.2.2.2.2.2.2.1).at.1 1, (M.out.2.2.2.2.2.2.2.2.1).at.1 2, (M.out.2.2.2.2.2.2.2.2.1).at.1 3⟩) (fun hH96 => ?_)
        clear hK K hH91
        (try simp only [Act.put, List.setIfInBounds_toArray, List.set_cons_zero, List.set_cons_succ])
        refine tk at5 ?_
        refine tk at6 ?_
        refine tk at7 ?_
        refine wpAnyH_ready (rs := [9]) (by kernel_rfl) (by simp) ?_
        refine AllReadyH.cons at9 (fun K hK => ?_) AllReadyH.nil
        have y5 := (M.out.2.2.1).c2; have p5_0 := y5.1; have q5_0 := y5.2.1; have p5_1 := y5.2.2.1; have q5_1 := y5.2.2.2; clear y5
        go_simp
        clear p5_0 q5_0 p5_1 q5_1
        obtain ⟨w18, hv⟩ : ∃ w_ : World, w_ = ((w17.setCell ⟨w14.heap.size, 0, none⟩ (.int .i64 (sg z94))).setCell ⟨w14.heap.size, 1, none⟩ (.slice a_92 (ln z94) c_93)) := ⟨_, rfl⟩
        rw [← hv]
        have og : w17.grownBy w18 (some w14.heap.size) := by rw [hv]; exact (only_setCell (only_setCell (World.grownBy.refl _ _) _) _)
        have hz : w.heap.size ≤ w14.heap.size := by omega
        have hk : Bx w18 w14.heap.size 24 #[.int .i64 (sg z94), .slice a_92 (ln z94) c_93] := by rw [hv]; exact (((M.out.2.2.1).set 0 _).set 1 _)
        have hbw : Below w.heap.size w w18 := by rw [hv]; exact (Below.setCell (Below.setCell (M.out.2.2.2.2.2.2.2.2.2.2.2) (by omega) _) (by omega) _)
        replace M := Lib.hid (And.intro ((M.out.1).far (M.out.2.2.1) (by rfl) (by omega) og) (And.intro ((M.out.2.1).far (M.out.2.2.1) (by rfl) (by omega) og) (And.intro hk (And.intro ((M.out.2.2.2.1).only og (by omega)) (And.intro ((M.out.2.2.2.2.1).far (M.out.2.2.1) (by rfl) (by omega) og) (And.intro ((M.out.2.2.2.2.2.1).far (M.out.2.2.1) (by rfl) (by omega) og) (And.intro ((M.out.2.2.2.2.2.2.1).far (M.out.2.2.1) (by rfl) (by omega) og) (And.intro ((M.out.2.2.2.2.2.2.2.1).far (M.out.2.2.1) (by rfl) (by omega) og) (And.intro ((M.out.2.2.2.2.2.2.2.2.1).only og (by omega)) (And.intro ((M.out.2.2.2.2.2.2.2.2.2.1).only og (by omega)) (And.intro ((M.out.2.2.2.2.2.2.2.2.2.2.1).only og (by omega)) hbw)))))))))))
        clear hk hbw og hv hz
        refine hK.out _ _ (⟨(M.out.2.2.2.2.2.2.2.2.1).at.1 0, (M.out.2.2.2.2.2.2.2.2.1).at.1 1, (M.out.2.2.2.2.2.2.2.2.1).at.1 2, (M.out.2.2.2.2.2.2.2.2.1).at.1 3⟩) (fun hH97 => ?_)
        clear hK K hH96
        (try simp only [Act.put, List.setIfInBounds_toArray, List.set_cons_zero, List.set_cons_succ])
        refine tk at10 ?_
        refine wpAnyH_done (by kernel_rfl) ?_ _
        clear hH97
        go_wp2_with fail
        go_meet
        exact ⟨w14.heap.size, a_88, c_89, a_92, c_93, z94, rfl, rfl, Ez94, Sz94, (by omega), (M.out.2.2.1), (M.out.1), (M.out.2.1), (M.out.2.2.2.2.1), (M.out.2.2.2.2.2.1), (M.out.2.2.2.2.2.2.1), (M.out.2.2.2.2.2.2.2.1), (M.out.2.2.2.2.2.2.2.2.1), (M.out.2.2.2.2.2.2.2.2.2.1), (M.out.2.2.2.2.2.2.2.2.2.2.1), (M.out.2.2.2.1), (M.out.2.2.2.2.2.2.2.2.2.2.2)⟩
      case rest =>
        obtain ⟨A67, a_60, c_61, a_63, c_64, z65, rfl, rfl, Ez65, Sz65, oA67, M⟩ := hcut
        obtain ⟨w14, rfl⟩ : ∃ w_ : World, w_ = wc := ⟨_, rfl⟩
        have y4 := (M.out.2.2.2.2.2.2.2.2.2.2.1).c2; have p4_0 := y4.1; have q4_0 := y4.2.1; have p4_1 := y4.2.2.1; have q4_1 := y4.2.2.2; clear y4
        have y5 := (M.out.1).c2; have p5_0 := y5.1; have q5_0 := y5.2.1; have p5_1 := y5.2.2.1; have q5_1 := y5.2.2.2; clear y5
        go_wp2_with fail
        clear p4_0 q4_0 p4_1 q4_1 p5_0 q5_0 p5_1 q5_1
        refine (new_zero (G := G) (x := z27) (y := z65) (Nat.le_trans hG (M.out.2.2.2.2.2.2.2.2.2.2.2).size) (M.out.2.2.2.1) (M.out.2.1) (Sz.mono Sz27.out (by omega)) (Sz.mono Sz65.out (by omega)) (by rw [Ez65.out]; exact HV0.out)).mono ?_
        rintro e w15 ⟨rfl, hb⟩
        replace M := Lib.hid (Goes.go M.out hb)
        clear hb
        go_upto_region 15 with fail
        obtain ⟨w16, hv⟩ : ∃ w_ : World, w_ = (w15.alloc (.cells #[.int .i64 0, .slice none 0 0, .int .i64 0, .slice none 0 0] 26)) := ⟨_, rfl⟩
        rw [← hv]
        have o6 : A67 < w15.heap.size := ((M.out.1)).lt
        replace M := Lib.hid (And.intro (hv ▸ bx1 w15 26 #[.int .i64 0, .slice none 0 0, .int .i64 0, .slice none 0 0]) (Goes.go M.out (hv ▸ below_alloc _ _ : Below w15.heap.size w15 w16)))
        clear hv
        as_aux_lemma =>
         have y2 := (M.out.2.2.2.2.2.2.2.2.2.1).c4; have p2_0 := y2.1; have q2_0 := y2.2.1; have p2_1 := y2.2.2.1; have q2_1 := y2.2.2.2.1; have p2_2 := y2.2.2.2.2.1; have q2_2 := y2.2.2.2.2.2.1; have p2_3 := y2.2.2.2.2.2.2.1; have q2_3 := y2.2.2.2.2.2.2.2; clear y2
         have y0 := (M.out.2.2.2.2.2.2.2.2.1).c4; have p0_0 := y0.1; have q0_0 := y0.2.1; have p0_1 := y0.2.2.1; have q0_1 := y0.2.2.2.1; have p0_2 := y0.2.2.2.2.1; have q0_2 := y0.2.2.2.2.2.1; have p0_3 := y0.2.2.2.2.2.2.1; have q0_3 := y0.2.2.2.2.2.2.2; clear y0
         go_wp2_with fail
         clear p2_0 q2_0 p2_1 q2_1 p2_2 q2_2 p2_3 q2_3 p0_0 q0_0 p0_1 q0_1 p0_2 q0_2 p0_3 q0_3
         replace M := Lib.hid (And.intro (M.out.1) (And.intro (M.out.2.2.2.2.2.1) (And.intro (M.out.2.2.2.2.2.2.1) (And.intro (M.out.2.2.2.2.2.2.2.1) (And.intro (M.out.2.2.2.2.2.2.2.2.1) (And.intro (M.out.2.2.2.2.2.2.2.2.2.2.1) (M.out.2.2.2.2.2.2.2.2.2.2.2.2)))))))
         refine (rfsame_two (G := G) (x := z13) (y := z14) (u := (nu q)) (v := (de q)) (M.out.2.2.1) (M.out.2.2.2.1) (H1.out.keep (M.out.2.2.2.2.2.2)).n (H1.out.keep (M.out.2.2.2.2.2.2)).d (Sz.mono Sz13.out (by omega)) (Sz.mono Sz14.out (by omega)) (by rw [Ez13.out]; rfl) (by rw [Ez14.out]; rfl)).mono ?_
         rintro e w17 ⟨rfl, hb⟩
         replace M := Lib.hid (Goes.go M.out hb)
         clear hb
         have y3 := (M.out.2.2.2.2.2.1).c4; have p3_0 := y3.1; have q3_0 := y3.2.1; have p3_1 := y3.2.2.1; have q3_1 := y3.2.2.2.1; have p3_2 := y3.2.2.2.2.1; have q3_2 := y3.2.2.2.2.2.1; have p3_3 := y3.2.2.2.2.2.2.1; have q3_3 := y3.2.2.2.2.2.2.2; clear y3
         have y0 := (M.out.2.2.2.2.1).c4; have p0_0 := y0.1; have q0_0 := y0.2.1; have p0_1 := y0.2.2.1; have q0_1 := y0.2.2.2.1; have p0_2 := y0.2.2.2.2.1; have q0_2 := y0.2.2.2.2.2.1; have p0_3 := y0.2.2.2.2.2.2.1; have q0_3 := y0.2.2.2.2.2.2.2; clear y0
         go_wp2_with fail
         clear p3_0 q3_0 p3_1 q3_1 p3_2 q3_2 p3_3 q3_3 p0_0 q0_0 p0_1 q0_1 p0_2 q0_2 p0_3 q0_3
         refine (rfsame_q (G := G) (q := q) (r := q) (M.out.2.1) (H1.out.keep (M.out.2.2.2.2.2.2)) (Fz.mono HQ.out (by omega)) rfl).mono ?_
         rintro e w18 ⟨rfl, hb⟩
         replace M := Lib.hid (Goes.go M.out hb)
         clear hb
         go_wp2_with fail
         go_ret
         exact ⟨rfl, (M.out.2.2.2.2.2.2)⟩

set_option maxRecDepth 100000 in
set_option maxHeartbeats 4000000 in
theorem back_one_ok {S : ByteArray} {l : List UInt8} {v : Int} {gq : Rat} {q : Rat} {a1 b1 : Option Addr} {c1 d1 : Nat} {w : World} (hG : G ≤ w.heap.size) (ht : Tab w) (hm : Mx w) (h1 : FD G w a1 c1 b1 d1 q) (hq : Fz q 40) (hv0 : v ≠ 0) (hS : S = ⟨l.toArray⟩) (hlen : l.length ≤ 300) (hf : readF l = some gq) (hv : -9223372036854775808 ≤ v ∧ v ≤ 9223372036854775807)  :
    Calls Tryz.prog 6 #[.agg #[.int .i64 (sg (nu q)), .slice a1 (ln (nu q)) c1, .int .i64 (sg (de q)), .slice b1 (ln (de q)) d1], .int .i64 v, .string S] w fun e w' => e = .returned (.bool true) ∧ Below w.heap.size w w' := by
  have hsz : ¬ 300 < S.size := by rw [hS]; simp [ByteArray.size]; omega
  have hbl : decide (300 < S.size) = false := decide_eq_false hsz
  have hbl2 : decide ((300 : Int) < (S.size : Int)) = false := decide_eq_false (by omega)
  have HLN : Hid (l.length ≤ 1000) := by show _ ≤ _; omega
  have HRE : Hid (rfE l = 0) := by show _ = _; unfold rfE; rw [hf]; rfl
  have HV := Lib.hid hv
  have HS := Lib.hid hS; have HF := Lib.hid hf
  have HTX : Hid ((⟨(textZ (nu gq) ++ 47 :: textZ (de gq)).toArray⟩ : ByteArray) = S) := by show _ = _; rw [hS, ← readF_is hf]; rfl
  have hrs := read_sizes hf hlen
  have HZ1 : Hid (Sz (oN (some gq)) 300) := hrs.1
  have HZ2 : Hid (Sz (oD (some gq)) 300) := hrs.2
  clear hrs
  obtain ⟨S2, hS2⟩ : ∃ s : ByteArray, (⟨(textF q).toArray⟩ : ByteArray) = s := ⟨_, rfl⟩
  have HS2 := Lib.hid hS2
  have htl := textZ_len hq.1 (by omega)
  have htl2 := textZ_len hq.2 (by omega)
  have HL2 : Hid ((textF q).length ≤ 1000) := by show _ ≤ _; unfold textF; simp; omega
  have HE2 : Hid (rfE (textF q) = 0) := by show _ = _; unfold rfE; rw [readF_text]; rfl
  have HR2 : Hid (readF (textF q) = some q) := readF_text q
  have HP2 : Hid (Rat.divInt (nu q) (de q) = q) := divInt_parts q
  have HQ := Lib.hid hq
  have HZ3 : Hid (Sz (oN (some q)) 40) := hq.1
  have HZ4 : Hid (Sz (oD (some q)) 40) := hq.2
  have e0 : (v == 0) = false := by rw [beq_eq_false_iff_ne]; exact hv0
  have e1 : (v != 0) = true := by rw [bne_iff_ne]; exact hv0
  have HV0 : Hid (de q * v ≠ 0) := by
    show _ ≠ _
    intro h; have := de_pos q
    rcases Int.mul_eq_zero.1 h with h | h
    · omega
    · exact hv0 h
  have HV1 : Hid (Rat.divInt (nu q * v) (de q * v) = q) := by show _ = _; rw [Rat.divInt_mul_right hv0]; exact divInt_parts q
  clear hS2 hq hv0 htl htl2 hS hlen hf hsz hv
  have HT : Hid (Tab w) := ht
  have HM : Hid (Mx w) := hm
  have H1 : Hid (FD G w a1 c1 b1 d1 q) := h1
  clear ht hm h1
  have M : Hid (Below w.heap.size w w) := Below.refl _ _
  go_enter Tryz.func6, Tryz.ntmps6
  go_upto_region 1 with fail
  obtain ⟨w1, hv⟩ : ∃ w_ : World, w_ = (w.alloc (.cells #[.int .i64 (sg (nu q)), .slice a1 (ln (nu q)) c1, .int .i64 (sg (de q)), .slice b1 (ln (de q)) d1] 26)) := ⟨_, rfl⟩
  rw [← hv]
  replace M := Lib.hid (And.intro (hv ▸ bx1 w 26 #[.int .i64 (sg (nu q)), .slice a1 (ln (nu q)) c1, .int .i64 (sg (de q)), .slice b1 (ln (de q)) d1]) (Goes.go M.out (hv ▸ below_alloc _ _ : Below w.heap.size w w1)))
  clear hv
  go_wp2_with fail
  refine (small_ok (G := G) (Nat.le_trans hG (M.out.2).size) (HT.out.keep (M.out.2)) (HM.out.keep (M.out.2))).mono ?_
  rintro e w2 ⟨rfl, hb⟩
  replace M := Lib.hid (Goes.go M.out hb)
  clear hb
  have y0 := (M.out.1).c4; have p0_0 := y0.1; have q0_0 := y0.2.1; have p0_1 := y0.2.2.1; have q0_1 := y0.2.2.2.1; have p0_2 := y0.2.2.2.2.1; have q0_2 := y0.2.2.2.2.2.1; have p0_3 := y0.2.2.2.2.2.2.1; have q0_3 := y0.2.2.2.2.2.2.2; clear y0
  go_wp2_with fail
  clear p0_0 q0_0 p0_1 q0_1 p0_2 q0_2 p0_3 q0_3
  refine (rfFew_ok (s := (sg (nu q))) (t := (sg (de q))) (m := 40) (r := true) (few_fz HQ.out rfl)).mono ?_
  rintro e w3 ⟨rfl, hb⟩
  replace M := Lib.hid (Goes.go M.out hb)
  clear hb
  go_wp2_with fail
  obtain ⟨z5, ez5⟩ : ∃ v_ : Int, v_ = (oN (some gq)) := ⟨_, rfl⟩
  obtain ⟨z6, ez6⟩ : ∃ v_ : Int, v_ = (oD (some gq)) := ⟨_, rfl⟩
  refine (fracRead_v (G := G) (S := S) (l := l) (o := (some gq)) (er := 0) (Nat.le_trans hG (M.out.2).size) (HT.out.keep (M.out.2)) (HM.out.keep (M.out.2)) HS.out HLN.out HF.out HRE.out).mono ?_
  rintro e w4 ⟨a_1, c_2, b_3, d_4, rfl, hd7, hd8, hb⟩
  rw [← ez5] at hd7 ⊢
  have Sz5 : Hid (Sz z5 300) := by show Sz z5 300; rw [ez5]; exact HZ1.out
  have Ez5 := Lib.hid ez5; clear ez5
  rw [← ez6] at hd8 ⊢
  have Sz6 : Hid (Sz z6 300) := by show Sz z6 300; rw [ez6]; exact HZ2.out
  have Ez6 := Lib.hid ez6; clear ez6
  replace M := Lib.hid (And.intro hd7 (And.intro hd8 (Goes.go M.out hb)))
  clear hb hd7 hd8
  go_upto_region 5 with fail
  obtain ⟨w5, hv⟩ : ∃ w_ : World, w_ = (w4.alloc (.cells #[.int .i64 (sg z5), .slice a_1 (ln z5) c_2, .int .i64 (sg z6), .slice b_3 (ln z6) d_4] 26)) := ⟨_, rfl⟩
  rw [← hv]
  have o1 : w.heap.size < w4.heap.size := ((M.out.2.2.1)).lt
  replace M := Lib.hid (And.intro (hv ▸ bx1 w4 26 #[.int .i64 (sg z5), .slice a_1 (ln z5) c_2, .int .i64 (sg z6), .slice b_3 (ln z6) d_4]) (Goes.go M.out (hv ▸ below_alloc _ _ : Below w4.heap.size w4 w5)))
  clear hv
  have y1 := (M.out.1).c4; have p1_0 := y1.1; have q1_0 := y1.2.1; have p1_1 := y1.2.2.1; have q1_1 := y1.2.2.2.1; have p1_2 := y1.2.2.2.2.1; have q1_2 := y1.2.2.2.2.2.1; have p1_3 := y1.2.2.2.2.2.2.1; have q1_3 := y1.2.2.2.2.2.2.2; clear y1
  go_wp2_with fail
  clear p1_0 q1_0 p1_1 q1_1 p1_2 q1_2 p1_3 q1_3
  refine (fracRight_bd (G := G) (x := z5) (y := z6) (b_ := true) (M.out.2.1) (M.out.2.2.1) (Sz.mono Sz5.out (by omega)) (Sz.mono Sz6.out (by omega)) (by rw [Ez6.out, Ez5.out]; exact rightP_rat gq)).mono ?_
  rintro e w6 ⟨rfl, hb⟩
  replace M := Lib.hid (Goes.go M.out hb)
  clear hb
  have y1 := (M.out.1).c4; have p1_0 := y1.1; have q1_0 := y1.2.1; have p1_1 := y1.2.2.1; have q1_1 := y1.2.2.2.1; have p1_2 := y1.2.2.2.2.1; have q1_2 := y1.2.2.2.2.2.1; have p1_3 := y1.2.2.2.2.2.2.1; have q1_3 := y1.2.2.2.2.2.2.2; clear y1
  go_wp2_with fail
  clear p1_0 q1_0 p1_1 q1_1 p1_2 q1_2 p1_3 q1_3
  refine (fracText_bd (G := G) (x := z5) (y := z6) (s := S) (M.out.2.1) (M.out.2.2.1) (Sz.mono Sz5.out (by omega)) (Sz.mono Sz6.out (by omega)) (HT.out.keep (M.out.2.2.2.2)) (by rw [Ez6.out, Ez5.out]; exact rightP_rat gq) (by rw [Ez6.out, Ez5.out]; exact HTX.out)).mono ?_
  rintro e w7 ⟨rfl, hb⟩
  replace M := Lib.hid (Goes.go M.out hb)
  clear hb
  have y0 := (M.out.2.2.2.1).c4; have p0_0 := y0.1; have q0_0 := y0.2.1; have p0_1 := y0.2.2.1; have q0_1 := y0.2.2.2.1; have p0_2 := y0.2.2.2.2.1; have q0_2 := y0.2.2.2.2.2.1; have p0_3 := y0.2.2.2.2.2.2.1; have q0_3 := y0.2.2.2.2.2.2.2; clear y0
  go_wp2_with fail
  clear p0_0 q0_0 p0_1 q0_1 p0_2 q0_2 p0_3 q0_3
  refine (fracText_lit (G := G) (q := q) (s := S2) (H1.out.keep (M.out.2.2.2.2)) (Fz.mono HQ.out (by omega)) (HT.out.keep (M.out.2.2.2.2)) HS2.out).mono ?_
  rintro e w8 ⟨rfl, hb⟩
  replace M := Lib.hid (Goes.go M.out hb)
  clear hb
  go_upto_region 8 with fail
  as_aux_lemma =>
   have y0 := (M.out.2.2.2.1).c4; have p0_0 := y0.1; have q0_0 := y0.2.1; have p0_1 := y0.2.2.1; have q0_1 := y0.2.2.2.1; have p0_2 := y0.2.2.2.2.1; have q0_2 := y0.2.2.2.2.2.1; have p0_3 := y0.2.2.2.2.2.2.1; have q0_3 := y0.2.2.2.2.2.2.2; clear y0
   go_wp2_with fail
   clear p0_0 q0_0 p0_1 q0_1 p0_2 q0_2 p0_3 q0_3
   refine (fracRight_ok (G := G) (q := q) (H1.out.keep (M.out.2.2.2.2)) (Fz.mono HQ.out (by omega))).mono ?_
   rintro e w9 ⟨rfl, hb⟩
   replace M := Lib.hid (Goes.go M.out hb)
   clear hb
   go_wp2_with fail
   obtain ⟨z13, ez13⟩ : ∃ v_ : Int, v_ = (oN (some q)) := ⟨_, rfl⟩
   obtain ⟨z14, ez14⟩ : ∃ v_ : Int, v_ = (oD (some q)) := ⟨_, rfl⟩
   refine (fracRead_v (G := G) (S := S2) (l := (textF q)) (o := (some q)) (er := 0) (Nat.le_trans hG (M.out.2.2.2.2).size) (HT.out.keep (M.out.2.2.2.2)) (HM.out.keep (M.out.2.2.2.2)) HS2.out.symm HL2.out HR2.out HE2.out).mono ?_
   rintro e w10 ⟨a_9, c_10, b_11, d_12, rfl, hd15, hd16, hb⟩
   rw [← ez13] at hd15 ⊢
   have Sz13 : Hid (Sz z13 40) := by show Sz z13 40; rw [ez13]; exact HZ3.out
   have Ez13 := Lib.hid ez13; clear ez13
   rw [← ez14] at hd16 ⊢
   have Sz14 : Hid (Sz z14 40) := by show Sz z14 40; rw [ez14]; exact HZ4.out
   have Ez14 := Lib.hid ez14; clear ez14
   replace M := Lib.hid (And.intro hd15 (And.intro hd16 (Goes.go M.out hb)))
   clear hb hd15 hd16
   go_upto_region 11 with fail
   obtain ⟨w11, hv⟩ : ∃ w_ : World, w_ = (w10.alloc (.cells #[.int .i64 (sg z13), .slice a_9 (ln z13) c_10, .int .i64 (sg z14), .slice b_11 (ln z14) d_12] 26)) := ⟨_, rfl⟩
   rw [← hv]
   have o2 : w4.heap.size < w10.heap.size := ((M.out.2.2.1)).lt
   replace M := Lib.hid (And.intro (hv ▸ bx1 w10 26 #[.int .i64 (sg z13), .slice a_9 (ln z13) c_10, .int .i64 (sg z14), .slice b_11 (ln z14) d_12]) (Goes.go M.out (hv ▸ below_alloc _ _ : Below w10.heap.size w10 w11)))
   clear hv
   as_aux_lemma =>
    have y0 := (M.out.2.2.2.2.2.2.1).c4; have p0_0 := y0.1; have q0_0 := y0.2.1; have p0_1 := y0.2.2.1; have q0_1 := y0.2.2.2.1; have p0_2 := y0.2.2.2.2.1; have q0_2 := y0.2.2.2.2.2.1; have p0_3 := y0.2.2.2.2.2.2.1; have q0_3 := y0.2.2.2.2.2.2.2; clear y0
    go_wp2_with fail
    clear p0_0 q0_0 p0_1 q0_1 p0_2 q0_2 p0_3 q0_3
    refine (new_is (G := G) (x := (nu q)) (y := (de q)) (q := q) (Nat.le_trans hG (M.out.2.2.2.2.2.2.2).size) (H1.out.keep (M.out.2.2.2.2.2.2.2)).n (H1.out.keep (M.out.2.2.2.2.2.2.2)).d (Sz.mono HQ.out.1 (by omega)) (Sz.mono HQ.out.2 (by omega)) (Int.ne_of_gt (de_pos q)) HP2.out).mono ?_
    rintro e w12 ⟨a_17, c_18, b_19, d_20, rfl, hd21, hb⟩
    replace M := Lib.hid (And.intro hd21 (Goes.go M.out hb))
    clear hb hd21
    go_upto_region 12 with fail
    obtain ⟨w13, hv⟩ : ∃ w_ : World, w_ = (w12.alloc (.cells #[.int .i64 (sg (nu q)), .slice a_17 (ln (nu q)) c_18, .int .i64 (sg (de q)), .slice b_19 (ln (de q)) d_20] 26)) := ⟨_, rfl⟩
    rw [← hv]
    have o3 : w10.heap.size < w12.heap.size := ((M.out.2.1)).lt
    replace M := Lib.hid (And.intro (hv ▸ bx1 w12 26 #[.int .i64 (sg (nu q)), .slice a_17 (ln (nu q)) c_18, .int .i64 (sg (de q)), .slice b_19 (ln (de q)) d_20]) (Goes.go M.out (hv ▸ below_alloc _ _ : Below w12.heap.size w12 w13)))
    clear hv
    replace M := Lib.hid (And.intro (M.out.1) (And.intro (M.out.2.1) (And.intro (M.out.2.2.1) (And.intro (M.out.2.2.2.1) (And.intro (M.out.2.2.2.2.1) (And.intro (M.out.2.2.2.2.2.2.2.2.1) (M.out.2.2.2.2.2.2.2.2.2)))))))
    go_cut [15, 16] (fun s15 s16 wx => ∃ (A29 : Nat), ∃ (a_22 : Option Addr), ∃ (c_23 : Nat), ∃ (a_25 : Option Addr), ∃ (c_26 : Nat), ∃ (z27 : Int), s15 = .pointer (some ⟨A29, 0, none⟩) ∧ s16 = .int .i64 0 ∧ Hid (z27 = ((nu q) * v)) ∧ Hid (Sz z27 44) ∧ w12.heap.size < A29 ∧ Hid (Bx wx A29 24 #[.int .i64 (sg z27), .slice a_25 (ln z27) c_26] ∧ BD G wx a_25 c_26 z27 ∧ BD G wx a_22 c_23 v ∧ FD G wx a_17 c_18 b_19 d_20 q ∧ BD G wx a_9 c_10 z13 ∧ BD G wx b_11 d_12 z14 ∧ Bx wx w.heap.size 26 #[.int .i64 (sg (nu q)), .slice a1 (ln (nu q)) c1, .int .i64 (sg (de q)), .slice b1 (ln (de q)) d1] ∧ Bx wx w10.heap.size 26 #[.int .i64 (sg z13), .slice a_9 (ln z13) c_10, .int .i64 (sg z14), .slice b_11 (ln z14) d_12] ∧ Bx wx w12.heap.size 26 #[.int .i64 (sg (nu q)), .slice a_17 (ln (nu q)) c_18, .int .i64 (sg (de q)), .slice b_19 (ln (de q)) d_20] ∧ Below w.heap.size w wx))
    case first =>
      obtain ⟨w14, hv⟩ : ∃ w_ : World, w_ = w13.drew := ⟨_, rfl⟩
      replace M := Lib.hid (Goes.go M.out (hv ▸ below_drew _ : Below w13.heap.size w13 w14))
      refine wp_region_held_drew (S := (fun w' => w'.cell? ⟨w.heap.size, 0, none⟩ = some (.int .i64 (sg (nu q))) ∧ w'.cell? ⟨w.heap.size, 1, none⟩ = some (.slice a1 (ln (nu q)) c1) ∧ w'.cell? ⟨w.heap.size, 2, none⟩ = some (.int .i64 (sg (de q))) ∧ w'.cell? ⟨w.heap.size, 3, none⟩ = some (.slice b1 (ln (de q)) d1))) (by kernel_rfl) (by rw [← hv]; exact ⟨(M.out.2.2.2.2.2.1).at.1 0, (M.out.2.2.2.2.2.1).at.1 1, (M.out.2.2.2.2.2.1).at.1 2, (M.out.2.2.2.2.2.1).at.1 3⟩) (fun hH30 => ?_)
      rw [← hv] at hH30 ⊢
      clear hv
      refine tk at0 ?_
      refine tk at1 ?_
      refine tk at2 ?_
      refine wpAnyH_ready (rs := [3, 8]) (by kernel_rfl) (by simp) ?_
      refine AllReadyH.cons at3 (fun K hK => ?_) ?_
      ·
        go_simp
        refine (bigOf_ok (G := G) v _ HV.out).mono ?_
        rintro e w15 ⟨a_31, c_32, rfl, hd33, hb⟩
        replace M := Lib.hid (And.intro hd33 (Goes.go M.out hb))
        clear hb hd33
        (try go_wp2_with fail)
        refine hK.out _ _ (⟨(M.out.2.2.2.2.2.2.1).at.1 0, (M.out.2.2.2.2.2.2.1).at.1 1, (M.out.2.2.2.2.2.2.1).at.1 2, (M.out.2.2.2.2.2.2.1).at.1 3⟩) (fun hH34 => ?_)
        clear hK K hH30
        (try simp only [Act.put, List.setIfInBounds_toArray, List.set_cons_zero, List.set_cons_succ])
        refine wpAnyH_ready (rs := [4, 8]) (by kernel_rfl) (by simp) ?_
        refine AllReadyH.cons at4 (fun K hK => ?_) ?_
        ·
          go_simp
          obtain ⟨z37, ez37⟩ : ∃ v_ : Int, v_ = ((nu q) * v) := ⟨_, rfl⟩
          refine (bigMul_ok (G := G) (x := (nu q)) (y := v) (H1.out.keep (M.out.2.2.2.2.2.2.2)).n (M.out.1) (Sz.mono HQ.out.1 (by omega)) (Sz.mono (sz_int (n := 0) HV.out) (by omega))).mono ?_
          rintro e w16 ⟨a_35, c_36, rfl, hd38, hb⟩
          rw [← ez37] at hd38 ⊢
          have Sz37 : Hid (Sz z37 44) := by show Sz z37 44; rw [ez37]; exact (Sz.mul HQ.out.1 (sz_int (n := 0) HV.out))
          have Ez37 := Lib.hid ez37; clear ez37
          replace M := Lib.hid (And.intro hd38 (Goes.go M.out hb))
          clear hb hd38
          (try go_wp2_with fail)
          refine hK.out _ _ (⟨(M.out.2.2.2.2.2.2.2.1).at.1 0, (M.out.2.2.2.2.2.2.2.1).at.1 1, (M.out.2.2.2.2.2.2.2.1).at.1 2, (M.out.2.2.2.2.2.2.2.1).at.1 3⟩) (fun hH39 => ?_)
          clear hK K hH34
          (try simp only [Act.put, List.setIfInBounds_toArray, List.set_cons_zero, List.set_cons_succ])
          refine tk at5 ?_
          refine tk at6 ?_
          refine tk at7 ?_
          refine wpAnyH_ready (rs := [8]) (by kernel_rfl) (by simp) ?_
          refine AllReadyH.cons at8 (fun K hK => ?_) AllReadyH.nil
          go_simp
          obtain ⟨w17, hv⟩ : ∃ w_ : World, w_ = (w16.alloc (.cells #[.int .i64 0, .slice none 0 0] 24)) := ⟨_, rfl⟩
          rw [← hv]
          have o4 : w12.heap.size < w16.heap.size := ((M.out.2.2.1)).lt
          replace M := Lib.hid (And.intro (hv ▸ bx1 w16 24 #[.int .i64 0, .slice none 0 0]) (Goes.go M.out (hv ▸ below_alloc _ _ : Below w16.heap.size w16 w17)))
          clear hv
          refine hK.out _ _ (⟨(M.out.2.2.2.2.2.2.2.2.1).at.1 0, (M.out.2.2.2.2.2.2.2.2.1).at.1 1, (M.out.2.2.2.2.2.2.2.2.1).at.1 2, (M.out.2.2.2.2.2.2.2.2.1).at.1 3⟩) (fun hH40 => ?_)
          clear hK K hH39
          (try simp only [Act.put, List.setIfInBounds_toArray, List.set_cons_zero, List.set_cons_succ])
          refine wpAnyH_ready (rs := [9]) (by kernel_rfl) (by simp) ?_
          refine AllReadyH.cons at9 (fun K hK => ?_) AllReadyH.nil
          have y4 := (M.out.1).c2; have p4_0 := y4.1; have q4_0 := y4.2.1; have p4_1 := y4.2.2.1; have q4_1 := y4.2.2.2; clear y4
          go_simp
          clear p4_0 q4_0 p4_1 q4_1
          obtain ⟨w18, hv⟩ : ∃ w_ : World, w_ = ((w17.setCell ⟨w16.heap.size, 0, none⟩ (.int .i64 (sg z37))).setCell ⟨w16.heap.size, 1, none⟩ (.slice a_35 (ln z37) c_36)) := ⟨_, rfl⟩
          rw [← hv]
          have og : w17.grownBy w18 (some w16.heap.size) := by rw [hv]; exact (only_setCell (only_setCell (World.grownBy.refl _ _) _) _)
          have hz : w.heap.size ≤ w16.heap.size := by omega
          have hk : Bx w18 w16.heap.size 24 #[.int .i64 (sg z37), .slice a_35 (ln z37) c_36] := by rw [hv]; exact (((M.out.1).set 0 _).set 1 _)
          have hbw : Below w.heap.size w w18 := by rw [hv]; exact (Below.setCell (Below.setCell (M.out.2.2.2.2.2.2.2.2.2) (by omega) _) (by omega) _)
          replace M := Lib.hid (And.intro hk (And.intro ((M.out.2.1).far (M.out.1) (by rfl) (by omega) og) (And.intro ((M.out.2.2.1).far (M.out.1) (by rfl) (by omega) og) (And.intro ((M.out.2.2.2.1).only og (by omega)) (And.intro ((M.out.2.2.2.2.1).far (M.out.1) (by rfl) (by omega) og) (And.intro ((M.out.2.2.2.2.2.1).only og (by omega)) (And.intro ((M.out.2.2.2.2.2.2.1).far (M.out.1) (by rfl) (by omega) og) (And.intro ((M.out.2.2.2.2.2.2.2.1).far (M.out.1) (by rfl) (by omega) og) (And.intro ((M.out.2.2.2.2.2.2.2.2.1).only og (by omega)) hbw)))))))))
          clear hk hbw og hv hz
          refine hK.out _ _ (⟨(M.out.2.2.2.2.2.2.2.2.1).at.1 0, (M.out.2.2.2.2.2.2.2.2.1).at.1 1, (M.out.2.2.2.2.2.2.2.2.1).at.1 2, (M.out.2.2.2.2.2.2.2.2.1).at.1 3⟩) (fun hH41 => ?_)
          clear hK K hH40
          (try simp only [Act.put, List.setIfInBounds_toArray, List.set_cons_zero, List.set_cons_succ])
          refine tk at10 ?_
          refine wpAnyH_done (by kernel_rfl) ?_ _
          clear hH41
          go_wp2_with fail
          go_meet
          exact ⟨w16.heap.size, a_31, c_32, a_35, c_36, z37, rfl, rfl, Ez37, Sz37, (by omega), (M.out.1), (M.out.2.1), (M.out.2.2.1), (M.out.2.2.2.2.1), (M.out.2.2.2.2.2.2.1), (M.out.2.2.2.2.2.2.2.1), (M.out.2.2.2.2.2.2.2.2.1), (M.out.2.2.2.2.2.1), (M.out.2.2.2.1), (M.out.2.2.2.2.2.2.2.2.2)⟩
        refine AllReadyH.cons at8 (fun K hK => ?_) AllReadyH.nil
        go_simp
        obtain ⟨w16, hv⟩ : ∃ w_ : World, w_ = (w15.alloc (.cells #[.int .i64 0, .slice none 0 0] 24)) := ⟨_, rfl⟩
        rw [← hv]
        have o4 : w12.heap.size < w15.heap.size := ((M.out.2.1)).lt
        replace M := Lib.hid (And.intro (hv ▸ bx1 w15 24 #[.int .i64 0, .slice none 0 0]) (Goes.go M.out (hv ▸ below_alloc _ _ : Below w15.heap.size w15 w16)))
        clear hv
        refine hK.out _ _ (⟨(M.out.2.2.2.2.2.2.2.1).at.1 0, (M.out.2.2.2.2.2.2.2.1).at.1 1, (M.out.2.2.2.2.2.2.2.1).at.1 2, (M.out.2.2.2.2.2.2.2.1).at.1 3⟩) (fun hH42 => ?_)
        clear hK K hH34
        (try simp only [Act.put, List.setIfInBounds_toArray, List.set_cons_zero, List.set_cons_succ])
        refine wpAnyH_ready (rs := [4]) (by kernel_rfl) (by simp) ?_
        refine AllReadyH.cons at4 (fun K hK => ?_) AllReadyH.nil
        go_simp
        obtain ⟨z45, ez45⟩ : ∃ v_ : Int, v_ = ((nu q) * v) := ⟨_, rfl⟩
        refine (bigMul_ok (G := G) (x := (nu q)) (y := v) (H1.out.keep (M.out.2.2.2.2.2.2.2.2)).n (M.out.2.1) (Sz.mono HQ.out.1 (by omega)) (Sz.mono (sz_int (n := 0) HV.out) (by omega))).mono ?_
        rintro e w17 ⟨a_43, c_44, rfl, hd46, hb⟩
        rw [← ez45] at hd46 ⊢
        have Sz45 : Hid (Sz z45 44) := by show Sz z45 44; rw [ez45]; exact (Sz.mul HQ.out.1 (sz_int (n := 0) HV.out))
        have Ez45 := Lib.hid ez45; clear ez45
        replace M := Lib.hid (And.intro hd46 (Goes.go M.out hb))
        clear hb hd46
        (try go_wp2_with fail)
        refine hK.out _ _ (⟨(M.out.2.2.2.2.2.2.2.2.1).at.1 0, (M.out.2.2.2.2.2.2.2.2.1).at.1 1, (M.out.2.2.2.2.2.2.2.2.1).at.1 2, (M.out.2.2.2.2.2.2.2.2.1).at.1 3⟩) (fun hH47 => ?_)
        clear hK K hH42
        (try simp only [Act.put, List.setIfInBounds_toArray, List.set_cons_zero, List.set_cons_succ])
        refine tk at5 ?_
        refine tk at6 ?_
        refine tk at7 ?_
        refine wpAnyH_ready (rs := [9]) (by kernel_rfl) (by simp) ?_
        refine AllReadyH.cons at9 (fun K hK => ?_) AllReadyH.nil
        have y4 := (M.out.2.1).c2; have p4_0 := y4.1; have q4_0 := y4.2.1; have p4_1 := y4.2.2.1; have q4_1 := y4.2.2.2; clear y4
        go_simp
        clear p4_0 q4_0 p4_1 q4_1
        obtain ⟨w18, hv⟩ : ∃ w_ : World, w_ = ((w17.setCell ⟨w15.heap.size, 0, none⟩ (.int .i64 (sg z45))).setCell ⟨w15.heap.size, 1, none⟩ (.slice a_43 (ln z45) c_44)) := ⟨_, rfl⟩
        rw [← hv]
        have og : w17.grownBy w18 (some w15.heap.size) := by rw [hv]; exact (only_setCell (only_setCell (World.grownBy.refl _ _) _) _)
        have hz : w.heap.size ≤ w15.heap.size := by omega
        have hk : Bx w18 w15.heap.size 24 #[.int .i64 (sg z45), .slice a_43 (ln z45) c_44] := by rw [hv]; exact (((M.out.2.1).set 0 _).set 1 _)
        have hbw : Below w.heap.size w w18 := by rw [hv]; exact (Below.setCell (Below.setCell (M.out.2.2.2.2.2.2.2.2.2) (by omega) _) (by omega) _)
        replace M := Lib.hid (And.intro ((M.out.1).far (M.out.2.1) (by rfl) (by omega) og) (And.intro hk (And.intro ((M.out.2.2.1).far (M.out.2.1) (by rfl) (by omega) og) (And.intro ((M.out.2.2.2.1).only og (by omega)) (And.intro ((M.out.2.2.2.2.1).far (M.out.2.1) (by rfl) (by omega) og) (And.intro ((M.out.2.2.2.2.2.1).only og (by omega)) (And.intro ((M.out.2.2.2.2.2.2.1).far (M.out.2.1) (by rfl) (by omega) og) (And.intro ((M.out.2.2.2.2.2.2.2.1).far (M.out.2.1) (by rfl) (by omega) og) (And.intro ((M.out.2.2.2.2.2.2.2.2.1).only og (by omega)) hbw)))))))))
        clear hk hbw og hv hz
        refine hK.out _ _ (⟨(M.out.2.2.2.2.2.2.2.2.1).at.1 0, (M.out.2.2.2.2.2.2.2.2.1).at.1 1, (M.out.2.2.2.2.2.2.2.2.1).at.1 2, (M.out.2.2.2.2.2.2.2.2.1).at.1 3⟩) (fun hH48 => ?_)
        clear hK K hH47
        (try simp only [Act.put, List.setIfInBounds_toArray, List.set_cons_zero, List.set_cons_succ])
        refine tk at10 ?_
        refine wpAnyH_done (by kernel_rfl) ?_ _
        clear hH48
        go_wp2_with fail
        go_meet
        exact ⟨w15.heap.size, a_31, c_32, a_43, c_44, z45, rfl, rfl, Ez45, Sz45, (by omega), (M.out.2.1), (M.out.1), (M.out.2.2.1), (M.out.2.2.2.2.1), (M.out.2.2.2.2.2.2.1), (M.out.2.2.2.2.2.2.2.1), (M.out.2.2.2.2.2.2.2.2.1), (M.out.2.2.2.2.2.1), (M.out.2.2.2.1), (M.out.2.2.2.2.2.2.2.2.2)⟩
      refine AllReadyH.cons at8 (fun K hK => ?_) AllReadyH.nil
      go_simp
      obtain ⟨w15, hv⟩ : ∃ w_ : World, w_ = (w14.alloc (.cells #[.int .i64 0, .slice none 0 0] 24)) := ⟨_, rfl⟩
      rw [← hv]
      have o4 : w12.heap.size < w14.heap.size := ((M.out.1)).lt
      replace M := Lib.hid (And.intro (hv ▸ bx1 w14 24 #[.int .i64 0, .slice none 0 0]) (Goes.go M.out (hv ▸ below_alloc _ _ : Below w14.heap.size w14 w15)))
      clear hv
      refine hK.out _ _ (⟨(M.out.2.2.2.2.2.2.1).at.1 0, (M.out.2.2.2.2.2.2.1).at.1 1, (M.out.2.2.2.2.2.2.1).at.1 2, (M.out.2.2.2.2.2.2.1).at.1 3⟩) (fun hH49 => ?_)
      clear hK K hH30
      (try simp only [Act.put, List.setIfInBounds_toArray, List.set_cons_zero, List.set_cons_succ])
      refine wpAnyH_ready (rs := [3]) (by kernel_rfl) (by simp) ?_
      refine AllReadyH.cons at3 (fun K hK => ?_) AllReadyH.nil
      go_simp
      refine (bigOf_ok (G := G) v _ HV.out).mono ?_
      rintro e w16 ⟨a_50, c_51, rfl, hd52, hb⟩
      replace M := Lib.hid (And.intro hd52 (Goes.go M.out hb))
      clear hb hd52
      (try go_wp2_with fail)
      refine hK.out _ _ (⟨(M.out.2.2.2.2.2.2.2.1).at.1 0, (M.out.2.2.2.2.2.2.2.1).at.1 1, (M.out.2.2.2.2.2.2.2.1).at.1 2, (M.out.2.2.2.2.2.2.2.1).at.1 3⟩) (fun hH53 => ?_)
      clear hK K hH49
      (try simp only [Act.put, List.setIfInBounds_toArray, List.set_cons_zero, List.set_cons_succ])
      refine wpAnyH_ready (rs := [4]) (by kernel_rfl) (by simp) ?_
      refine AllReadyH.cons at4 (fun K hK => ?_) AllReadyH.nil
      go_simp
      obtain ⟨z56, ez56⟩ : ∃ v_ : Int, v_ = ((nu q) * v) := ⟨_, rfl⟩
      refine (bigMul_ok (G := G) (x := (nu q)) (y := v) (H1.out.keep (M.out.2.2.2.2.2.2.2.2)).n (M.out.1) (Sz.mono HQ.out.1 (by omega)) (Sz.mono (sz_int (n := 0) HV.out) (by omega))).mono ?_
      rintro e w17 ⟨a_54, c_55, rfl, hd57, hb⟩
      rw [← ez56] at hd57 ⊢
      have Sz56 : Hid (Sz z56 44) := by show Sz z56 44; rw [ez56]; exact (Sz.mul HQ.out.1 (sz_int (n := 0) HV.out))
      have Ez56 := Lib.hid ez56; clear ez56
      replace M := Lib.hid (And.intro hd57 (Goes.go M.out hb))
      clear hb hd57
      (try go_wp2_with fail)
      refine hK.out _ _ (⟨(M.out.2.2.2.2.2.2.2.2.1).at.1 0, (M.out.2.2.2.2.2.2.2.2.1).at.1 1, (M.out.2.2.2.2.2.2.2.2.1).at.1 2, (M.out.2.2.2.2.2.2.2.2.1).at.1 3⟩) (fun hH58 => ?_)
      clear hK K hH53
      (try simp only [Act.put, List.setIfInBounds_toArray, List.set_cons_zero, List.set_cons_succ])
      refine tk at5 ?_
      refine tk at6 ?_
      refine tk at7 ?_
      refine wpAnyH_ready (rs := [9]) (by kernel_rfl) (by simp) ?_
      refine AllReadyH.cons at9 (fun K hK => ?_) AllReadyH.nil
      have y4 := (M.out.2.2.1).c2; have p4_0 := y4.1; have q4_0 := y4.2.1; have p4_1 := y4.2.2.1; have q4_1 := y4.2.2.2; clear y4
      go_simp
      clear p4_0 q4_0 p4_1 q4_1
      obtain ⟨w18, hv⟩ : ∃ w_ : World, w_ = ((w17.setCell ⟨w14.heap.size, 0, none⟩ (.int .i64 (sg z56))).setCell ⟨w14.heap.size, 1, none⟩ (.slice a_54 (ln z56) c_55)) := ⟨_, rfl⟩
      rw [← hv]
      have og : w17.grownBy w18 (some w14.heap.size) := by rw [hv]; exact (only_setCell (only_setCell (World.grownBy.refl _ _) _) _)
      have hz : w.heap.size ≤ w14.heap.size := by omega
      have hk : Bx w18 w14.heap.size 24 #[.int .i64 (sg z56), .slice a_54 (ln z56) c_55] := by rw [hv]; exact (((M.out.2.2.1).set 0 _).set 1 _)
      have hbw : Below w.heap.size w w18 := by rw [hv]; exact (Below.setCell (Below.setCell (M.out.2.2.2.2.2.2.2.2.2) (by omega) _) (by omega) _)
      replace M := Lib.hid (And.intro ((M.out.1).far (M.out.2.2.1) (by rfl) (by omega) og) (And.intro ((M.out.2.1).far (M.out.2.2.1) (by rfl) (by omega) og) (And.intro hk (And.intro ((M.out.2.2.2.1).only og (by omega)) (And.intro ((M.out.2.2.2.2.1).far (M.out.2.2.1) (by rfl) (by omega) og) (And.intro ((M.out.2.2.2.2.2.1).only og (by omega)) (And.intro ((M.out.2.2.2.2.2.2.1).far (M.out.2.2.1) (by rfl) (by omega) og) (And.intro ((M.out.2.2.2.2.2.2.2.1).far (M.out.2.2.1) (by rfl) (by omega) og) (And.intro ((M.out.2.2.2.2.2.2.2.2.1).only og (by omega)) hbw)))))))))
      clear hk hbw og hv hz
      refine hK.out _ _ (⟨(M.out.2.2.2.2.2.2.2.2.1).at.1 0, (M.out.2.2.2.2.2.2.2.2.1).at.1 1, (M.out.2.2.2.2.2.2.2.2.1).at.1 2, (M.out.2.2.2.2.2.2.2.2.1).at.1 3⟩) (fun hH59 => ?_)
      clear hK K hH58
      (try simp only [Act.put, List.setIfInBounds_toArray, List.set_cons_zero, List.set_cons_succ])
      refine tk at10 ?_
      refine wpAnyH_done (by kernel_rfl) ?_ _
      clear hH59
      go_wp2_with fail
      go_meet
      exact ⟨w14.heap.size, a_50, c_51, a_54, c_55, z56, rfl, rfl, Ez56, Sz56, (by omega), (M.out.2.2.1), (M.out.1), (M.out.2.1), (M.out.2.2.2.2.1), (M.out.2.2.2.2.2.2.1), (M.out.2.2.2.2.2.2.2.1), (M.out.2.2.2.2.2.2.2.2.1), (M.out.2.2.2.2.2.1), (M.out.2.2.2.1), (M.out.2.2.2.2.2.2.2.2.2)⟩
    case rest =>
      obtain ⟨A29, a_22, c_23, a_25, c_26, z27, rfl, rfl, Ez27, Sz27, oA29, M⟩ := hcut
      obtain ⟨w14, rfl⟩ : ∃ w_ : World, w_ = wc := ⟨_, rfl⟩
      go_upto_region 13 with fail
      replace M := Lib.hid (And.intro (M.out.1) (And.intro (M.out.2.1) (And.intro (M.out.2.2.2.1) (And.intro (M.out.2.2.2.2.1) (And.intro (M.out.2.2.2.2.2.1) (And.intro (M.out.2.2.2.2.2.2.1) (And.intro (M.out.2.2.2.2.2.2.2.1) (And.intro (M.out.2.2.2.2.2.2.2.2.1) (M.out.2.2.2.2.2.2.2.2.2)))))))))
      go_cut [17, 18] (fun s17 s18 wx => ∃ (A67 : Nat), ∃ (a_60 : Option Addr), ∃ (c_61 : Nat), ∃ (a_63 : Option Addr), ∃ (c_64 : Nat), ∃ (z65 : Int), s17 = .pointer (some ⟨A67, 0, none⟩) ∧ s18 = .int .i64 0 ∧ Hid (z65 = ((de q) * v)) ∧ Hid (Sz z65 44) ∧ A29 < A67 ∧ Hid (Bx wx A67 24 #[.int .i64 (sg z65), .slice a_63 (ln z65) c_64] ∧ BD G wx a_63 c_64 z65 ∧ BD G wx a_60 c_61 v ∧ BD G wx a_25 c_26 z27 ∧ FD G wx a_17 c_18 b_19 d_20 q ∧ BD G wx a_9 c_10 z13 ∧ BD G wx b_11 d_12 z14 ∧ Bx wx w.heap.size 26 #[.int .i64 (sg (nu q)), .slice a1 (ln (nu q)) c1, .int .i64 (sg (de q)), .slice b1 (ln (de q)) d1] ∧ Bx wx w10.heap.size 26 #[.int .i64 (sg z13), .slice a_9 (ln z13) c_10, .int .i64 (sg z14), .slice b_11 (ln z14) d_12] ∧ Bx wx w12.heap.size 26 #[.int .i64 (sg (nu q)), .slice a_17 (ln (nu q)) c_18, .int .i64 (sg (de q)), .slice b_19 (ln (de q)) d_20] ∧ Bx wx A29 24 #[.int .i64 (sg z27), .slice a_25 (ln z27) c_26] ∧ Below w.heap.size w wx))
      case first =>
        obtain ⟨w15, hv⟩ : ∃ w_ : World, w_ = w14.drew := ⟨_, rfl⟩
        replace M := Lib.hid (Goes.go M.out (hv ▸ below_drew _ : Below w14.heap.size w14 w15))
        refine wp_region_held_drew (S := (fun w' => w'.cell? ⟨w.heap.size, 0, none⟩ = some (.int .i64 (sg (nu q))) ∧ w'.cell? ⟨w.heap.size, 1, none⟩ = some (.slice a1 (ln (nu q)) c1) ∧ w'.cell? ⟨w.heap.size, 2, none⟩ = some (.int .i64 (sg (de q))) ∧ w'.cell? ⟨w.heap.size, 3, none⟩ = some (.slice b1 (ln (de q)) d1))) (by kernel_rfl) (by rw [← hv]; exact ⟨(M.out.2.2.2.2.2.1).at.1 0, (M.out.2.2.2.2.2.1).at.1 1, (M.out.2.2.2.2.2.1).at.1 2, (M.out.2.2.2.2.2.1).at.1 3⟩) (fun hH68 => ?_)
        rw [← hv] at hH68 ⊢
        clear hv
        refine tk at0 ?_
        refine tk at1 ?_
        refine tk at2 ?_
        refine wpAnyH_ready (rs := [3, 8]) (by kernel_rfl) (by simp) ?_
        refine AllReadyH.cons at3 (fun K hK => ?_) ?_
        ·
          go_simp
          refine (bigOf_ok (G := G) v _ HV.out).mono ?_
          rintro e w16 ⟨a_69, c_70, rfl, hd71, hb⟩
          replace M := Lib.hid (And.intro hd71 (Goes.go M.out hb))
          clear hb hd71
          (try go_wp2_with fail)
          refine hK.out _ _ (⟨(M.out.2.2.2.2.2.2.1).at.1 0, (M.out.2.2.2.2.2.2.1).at.1 1, (M.out.2.2.2.2.2.2.1).at.1 2, (M.out.2.2.2.2.2.2.1).at.1 3⟩) (fun hH72 => ?_)
          clear hK K hH68
          (try simp only [Act.put, List.setIfInBounds_toArray, List.set_cons_zero, List.set_cons_succ])
          refine wpAnyH_ready (rs := [4, 8]) (by kernel_rfl) (by simp) ?_
          refine AllReadyH.cons at4 (fun K hK => ?_) ?_
          ·
            go_simp
            obtain ⟨z75, ez75⟩ : ∃ v_ : Int, v_ = ((de q) * v) := ⟨_, rfl⟩
            refine (bigMul_ok (G := G) (x := (de q)) (y := v) (H1.out.keep (M.out.2.2.2.2.2.2.2.2.2)).d (M.out.1) (Sz.mono HQ.out.2 (by omega)) (Sz.mono (sz_int (n := 0) HV.out) (by omega))).mono ?_
            rintro e w17 ⟨a_73, c_74, rfl, hd76, hb⟩
            rw [← ez75] at hd76 ⊢
            have Sz75 : Hid (Sz z75 44) := by show Sz z75 44; rw [ez75]; exact (Sz.mul HQ.out.2 (sz_int (n := 0) HV.out))
            have Ez75 := Lib.hid ez75; clear ez75
            replace M := Lib.hid (And.intro hd76 (Goes.go M.out hb))
            clear hb hd76
            (try go_wp2_with fail)
            refine hK.out _ _ (⟨(M.out.2.2.2.2.2.2.2.1).at.1 0, (M.out.2.2.2.2.2.2.2.1).at.1 1, (M.out.2.2.2.2.2.2.2.1).at.1 2, (M.out.2.2.2.2.2.2.2.1).at.1 3⟩) (fun hH77 => ?_)
            clear hK K hH72
            (try simp only [Act.put, List.setIfInBounds_toArray, List.set_cons_zero, List.set_cons_succ])
            refine tk at5 ?_
            refine tk at6 ?_
            refine tk at7 ?_
            refine wpAnyH_ready (rs := [8]) (by kernel_rfl) (by simp) ?_
            refine AllReadyH.cons at8 (fun K hK => ?_) AllReadyH.nil
            go_simp
            obtain ⟨w18, hv⟩ : ∃ w_ : World, w_ = (w17.alloc (.cells #[.int .i64 0, .slice none 0 0] 24)) := ⟨_, rfl⟩
            rw [← hv]
            have o5 : A29 < w17.heap.size := ((M.out.2.2.1)).lt
            replace M := Lib.hid (And.intro (hv ▸ bx1 w17 24 #[.int .i64 0, .slice none 0 0]) (Goes.go M.out (hv ▸ below_alloc _ _ : Below w17.heap.size w17 w18)))
            clear hv
            refine hK.out _ _ (⟨(M.out.2.2.2.2.2.2.2.2.1).at.1 0, (M.out.2.2.2.2.2.2.2.2.1).at.1 1, (M.out.2.2.2.2.2.2.2.2.1).at.1 2, (M.out.2.2.2.2.2.2.2.2.1).at.1 3⟩) (fun hH78 => ?_)
            clear hK K hH77
            (try simp only [Act.put, List.setIfInBounds_toArray, List.set_cons_zero, List.set_cons_succ])
            refine wpAnyH_ready (rs := [9]) (by kernel_rfl) (by simp) ?_
            refine AllReadyH.cons at9 (fun K hK => ?_) AllReadyH.nil
            have y5 := (M.out.1).c2; have p5_0 := y5.1; have q5_0 := y5.2.1; have p5_1 := y5.2.2.1; have q5_1 := y5.2.2.2; clear y5
            go_simp
            clear p5_0 q5_0 p5_1 q5_1
            obtain ⟨w19, hv⟩ : ∃ w_ : World, w_ = ((w18.setCell ⟨w17.heap.size, 0, none⟩ (.int .i64 (sg z75))).setCell ⟨w17.heap.size, 1, none⟩ (.slice a_73 (ln z75) c_74)) := ⟨_, rfl⟩
            rw [← hv]
            have og : w18.grownBy w19 (some w17.heap.size) := by rw [hv]; exact (only_setCell (only_setCell (World.grownBy.refl _ _) _) _)
            have hz : w.heap.size ≤ w17.heap.size := by omega
            have hk : Bx w19 w17.heap.size 24 #[.int .i64 (sg z75), .slice a_73 (ln z75) c_74] := by rw [hv]; exact (((M.out.1).set 0 _).set 1 _)
            have hbw : Below w.heap.size w w19 := by rw [hv]; exact (Below.setCell (Below.setCell (M.out.2.2.2.2.2.2.2.2.2.2.2) (by omega) _) (by omega) _)
            replace M := Lib.hid (And.intro hk (And.intro ((M.out.2.1).far (M.out.1) (by rfl) (by omega) og) (And.intro ((M.out.2.2.1).far (M.out.1) (by rfl) (by omega) og) (And.intro ((M.out.2.2.2.1).only og (by omega)) (And.intro ((M.out.2.2.2.2.1).far (M.out.1) (by rfl) (by omega) og) (And.intro ((M.out.2.2.2.2.2.1).far (M.out.1) (by rfl) (by omega) og) (And.intro ((M.out.2.2.2.2.2.2.1).far (M.out.1) (by rfl) (by omega) og) (And.intro ((M.out.2.2.2.2.2.2.2.1).far (M.out.1) (by rfl) (by omega) og) (And.intro ((M.out.2.2.2.2.2.2.2.2.1).only og (by omega)) (And.intro ((M.out.2.2.2.2.2.2.2.2.2.1).only og (by omega)) (And.intro ((M.out.2.2.2.2.2.2.2.2.2.2.1).only og (by omega)) hbw)))))))))))
            clear hk hbw og hv hz
            refine hK.out _ _ (⟨(M.out.2.2.2.2.2.2.2.2.1).at.1 0, (M.out.2.2.2.2.2.2.2.2.1).at.1 1, (M.out.2.2.2.2.2.2.2.2.1).at.1 2, (M.out.2.2.2.2.2.2.2.2.1).at.1 3⟩) (fun hH79 => ?_)
            clear hK K hH78
            (try simp only [Act.put, List.setIfInBounds_toArray, List.set_cons_zero, List.set_cons_succ])
            refine tk at10 ?_
            refine wpAnyH_done (by kernel_rfl) ?_ _
            clear hH79
            go_wp2_with fail
            go_meet
            exact ⟨w17.heap.size, a_69, c_70, a_73, c_74, z75, rfl, rfl, Ez75, Sz75, (by omega), (M.out.1), (M.out.2.1), (M.out.2.2.1), (M.out.2.2.2.2.1), (M.out.2.2.2.2.2.1), (M.out.2.2.2.2.2.2.1), (M.out.2.2.2.2.2.2.2.1), (M.out.2.2.2.2.2.2.2.2.1), (M.out.2.2.2.2.2.2.2.2.2.1), (M.out.2.2.2.2.2.2.2.2.2.2.1), (M.out.2.2.2.1), (M.out.2.2.2.2.2.2.2.2.2.2.2)⟩
          refine AllReadyH.cons at8 (fun K hK => ?_) AllReadyH.nil
          go_simp
          obtain ⟨w17, hv⟩ : ∃ w_ : World, w_ = (w16.alloc (.cells #[.int .i64 0, .slice none 0 0] 24)) := ⟨_, rfl⟩
          rw [← hv]
          have o5 : A29 < w16.heap.size := ((M.out.2.1)).lt
          replace M := Lib.hid (And.intro (hv ▸ bx1 w16 24 #[.int .i64 0, .slice none 0 0]) (Goes.go M.out (hv ▸ below_alloc _ _ : Below w16.heap.size w16 w17)))
          clear hv
          refine hK.out _ _ (⟨(M.out.2.2.2.2.2.2.2.1).at.1 0, (M.out.2.2.2.2.2.2.2.1).at.1 1, (M.out.2.2.2.2.2.2.2.1).at.1 2, (M.out.2.2.2.2.2.2.2.1).at.1 3⟩) (fun hH80 => ?_)
          clear hK K hH72
          (try simp only [Act.put, List.setIfInBounds_toArray, List.set_cons_zero, List.set_cons_succ])
          refine wpAnyH_ready (rs := [4]) (by kernel_rfl) (by simp) ?_
          refine AllReadyH.cons at4 (fun K hK => ?_) AllReadyH.nil
          go_simp
          obtain ⟨z83, ez83⟩ : ∃ v_ : Int, v_ = ((de q) * v) := ⟨_, rfl⟩
          refine (bigMul_ok (G := G) (x := (de q)) (y := v) (H1.out.keep (M.out.2.2.2.2.2.2.2.2.2.2)).d (M.out.2.1) (Sz.mono HQ.out.2 (by omega)) (Sz.mono (sz_int (n := 0) HV.out) (by omega))).mono ?_
          rintro e w18 ⟨a_81, c_82, rfl, hd84, hb⟩
          rw [← ez83] at hd84 ⊢
          have Sz83 : Hid (Sz z83 44) := by show Sz z83 44; rw [ez83]; exact (Sz.mul HQ.out.2 (sz_int (n := 0) HV.out))
          have Ez83 := Lib.hid ez83; clear ez83
          replace M := Lib.hid (And.intro hd84 (Goes.go M.out hb))
          clear hb hd84
          (try go_wp2_with fail)
          refine hK.out _ _ (⟨(M.out.2.2.2.2.2.2.2.2.1).at.1 0, (M.out.2.2.2.2.2.2.2.2.1).at.1 1, (M.out.2.2.2.2.2.2.2.2.1).at.1 2, (M.out.2.2.2.2.2.2.2.2.1).at.1 3⟩) (fun hH85 => ?_)
          clear hK K hH80
          (try simp only [Act.put, List.setIfInBounds_toArray, List.set_cons_zero, List.set_cons_succ])
          refine tk at5 ?_
          refine tk at6 ?_
          refine tk at7 ?_
          refine wpAnyH_ready (rs := [9]) (by kernel_rfl) (by simp) ?_
          refine AllReadyH.cons at9 (fun K hK => ?_) AllReadyH.nil
          have y5 := (M.out.2.1).c2; have p5_0 := y5.1; have q5_0 := y5.2.1; have p5_1 := y5.2.2.1; have q5_1 := y5.2.2.2; clear y5
          go_simp
          clear p5_0 q5_0 p5_1 q5_1
          obtain ⟨w19, hv⟩ : ∃ w_ : World, w_ = ((w18.setCell ⟨w16.heap.size, 0, none⟩ (.int .i64 (sg z83))).setCell ⟨w16.heap.size, 1, none⟩ (.slice a_81 (ln z83) c_82)) := ⟨_, rfl⟩
          rw [← hv]
          have og : w18.grownBy w19 (some w16.heap.size) := by rw [hv]; exact (only_setCell (only_setCell (World.grownBy.refl _ _) _) _)
          have hz : w.heap.size ≤ w16.heap.size := by omega
          have hk : Bx w19 w16.heap.size 24 #[.int .i64 (sg z83), .slice a_81 (ln z83) c_82] := by rw [hv]; exact (((M.out.2.1).set 0 _).set 1 _)
          have hbw : Below w.heap.size w w19 := by rw [hv]; exact (Below.setCell (Below.setCell (M.out.2.2.2.2.2.2.2.2.2.2.2) (by omega) _) (by omega) _)
          replace M := Lib.hid (And.intro ((M.out.1).far (M.out.2.1) (by rfl) (by omega) og) (And.intro hk (And.intro ((M.out.2.2.1).far (M.out.2.1) (by rfl) (by omega) og) (And.intro ((M.out.2.2.2.1).only og (by omega)) (And.intro ((M.out.2.2.2.2.1).far (M.out.2.1) (by rfl) (by omega) og) (And.intro ((M.out.2.2.2.2.2.1).far (M.out.2.1) (by rfl) (by omega) og) (And.intro ((M.out.2.2.2.2.2.2.1).far (M.out.2.1) (by rfl) (by omega) og) (And.intro ((M.out.2.2.2.2.2.2.2.1).far (M.out.2.1) (by rfl) (by omega) og) (And.intro ((M.out.2.2.2.2.2.2.2.2.1).only og (by omega)) (And.intro ((M.out.2.2.2.2.2.2.2.2.2.1).only og (by omega)) (And.intro ((M.out.2.2.2.2.2.2.2.2.2.2.1).only og (by omega)) hbw)))))))))))
          clear hk hbw og hv hz
          refine hK.out _ _ (⟨(M.out.2.2.2.2.2.2.2.2.1).at.1 0, (M.out.2.2.2.2.2.2.2.2.1).at.1 1, (M.out.2.2.2.2.2.2.2.2.1).at.1 2, (M.out.2.2.2.2.2.2.2.2.1).at.1 3⟩) (fun hH86 => ?_)
          clear hK K hH85
          (try simp only [Act.put, List.setIfInBounds_toArray, List.set_cons_zero, List.set_cons_succ])
          refine tk at10 ?_
          refine wpAnyH_done (by kernel_rfl) ?_ _
          clear hH86
          go_wp2_with fail
          go_meet
          exact ⟨w16.heap.size, a_69, c_70, a_81, c_82, z83, rfl, rfl, Ez83, Sz83, (by omega), (M.out.2.1), (M.out.1), (M.out.2.2.1), (M.out.2.2.2.2.1), (M.out.2.2.2.2.2.1), (M.out.2.2.2.2.2.2.1), (M.out.2.2.2.2.2.2.2.1), (M.out.2.2.2.2.2.2.2.2.1), (M.out.2.2.2.2.2.2.2.2.2.1), (M.out.2.2.2.2.2.2.2.2.2.2.1), (M.out.2.2.2.1), (M.out.2.2.2.2.2.2.2.2.2.2.2)⟩
        refine AllReadyH.cons at8 (fun K hK => ?_) AllReadyH.nil
        go_simp
        obtain ⟨w16, hv⟩ : ∃ w_ : World, w_ = (w15.alloc (.cells #[.int .i64 0, .slice none 0 0] 24)) := ⟨_, rfl⟩
        rw [← hv]
        have o5 : A29 < w15.heap.size := ((M.out.1)).lt
        replace M := Lib.hid (And.intro (hv ▸ bx1 w15 24 #[.int .i64 0, .slice none 0 0]) (Goes.go M.out (hv ▸ below_alloc _ _ : Below w15.heap.size w15 w16)))
        clear hv
        refine hK.out _ _ (⟨(M.out.2.2.2.2.2.2.1).at.1 0, (M.out.2.2.2.2.2.2.1).at.1 1, (M.out.2.2.2.2.2.2.1).at.1 2, (M.out.2.2.2.2.2.2.1).at.1 3⟩) (fun hH87 => ?_)
        clear hK K hH68
        (try simp only [Act.put, List.setIfInBounds_toArray, List.set_cons_zero, List.set_cons_succ])
        refine wpAnyH_ready (rs := [3]) (by kernel_rfl) (by simp) ?_
        refine AllReadyH.cons at3 (fun K hK => ?_) AllReadyH.nil
        go_simp
        refine (bigOf_ok (G := G) v _ HV.out).mono ?_
        rintro e w17 ⟨a_88, c_89, rfl, hd90, hb⟩
        replace M := Lib.hid (And.intro hd90 (Goes.go M.out hb))
        clear hb hd90
        (try go_wp2_with fail)
        refine hK.out _ _ (⟨(M.out.2.2.2.2.2.2.2.1).at.1 0, (M.out.2.2.2.2.2.2.2.1).at.1 1, (M.out.2.2.2.2.2.2.2.1).at.1 2, (M.out.2.2.2.2.2.2.2.1).at.1 3⟩) (fun hH91 => ?_)
        clear hK K hH87
        (try simp only [Act.put, List.setIfInBounds_toArray, List.set_cons_zero, List.set_cons_succ])
        refine wpAnyH_ready (rs := [4]) (by kernel_rfl) (by simp) ?_
        refine AllReadyH.cons at4 (fun K hK => ?_) AllReadyH.nil
        go_simp
        obtain ⟨z94, ez94⟩ : ∃ v_ : Int, v_ = ((de q) * v) := ⟨_, rfl⟩
        refine (bigMul_ok (G := G) (x := (de q)) (y := v) (H1.out.keep (M.out.2.2.2.2.2.2.2.2.2.2)).d (M.out.1) (Sz.mono HQ.out.2 (by omega)) (Sz.mono (sz_int (n := 0) HV.out) (by omega))).mono ?_
        rintro e w18 ⟨a_92, c_93, rfl, hd95, hb⟩
        rw [← ez94] at hd95 ⊢
        have Sz94 : Hid (Sz z94 44) := by show Sz z94 44; rw [ez94]; exact (Sz.mul HQ.out.2 (sz_int (n := 0) HV.out))
        have Ez94 := Lib.hid ez94; clear ez94
        replace M := Lib.hid (And.intro hd95 (Goes.go M.out hb))
        clear hb hd95
        (try go_wp2_with fail)
        refine hK.out _ _ (⟨(M.out.2.2.2.2.2.2.2.2.1).at.1 0, (M.out.2.2.2.2.2.2.2.2.1).at.1 1, (M.out.2.2.2.2.2.2.2.2.1).at.1 2, (M.out.2.2.2.2.2.2.2.2.1).at.1 3⟩) (fun hH96 => ?_)
        clear hK K hH91
        (try simp only [Act.put, List.setIfInBounds_toArray, List.set_cons_zero, List.set_cons_succ])
        refine tk at5 ?_
        refine tk at6 ?_
        refine tk at7 ?_
        refine wpAnyH_ready (rs := [9]) (by kernel_rfl) (by simp) ?_
        refine AllReadyH.cons at9 (fun K hK => ?_) AllReadyH.nil
        have y5 := (M.out.2.2.1).c2; have p5_0 := y5.1; have q5_0 := y5.2.1; have p5_1 := y5.2.2.1; have q5_1 := y5.2.2.2; clear y5
        go_simp
        clear p5_0 q5_0 p5_1 q5_1
        obtain ⟨w19, hv⟩ : ∃ w_ : World, w_ = ((w18.setCell ⟨w15.heap.size, 0, none⟩ (.int .i64 (sg z94))).setCell ⟨w15.heap.size, 1, none⟩ (.slice a_92 (ln z94) c_93)) := ⟨_, rfl⟩
        rw [← hv]
        have og : w18.grownBy w19 (some w15.heap.size) := by rw [hv]; exact (only_setCell (only_setCell (World.grownBy.refl _ _) _) _)
        have hz : w.heap.size ≤ w15.heap.size := by omega
        have hk : Bx w19 w15.heap.size 24 #[.int .i64 (sg z94), .slice a_92 (ln z94) c_93] := by rw [hv]; exact (((M.out.2.2.1).set 0 _).set 1 _)
        have hbw : Below w.heap.size w w19 := by rw [hv]; exact (Below.setCell (Below.setCell (M.out.2.2.2.2.2.2.2.2.2.2.2) (by omega) _) (by omega) _)
        replace M := Lib.hid (And.intro ((M.out.1).far (M.out.2.2.1) (by rfl) (by omega) og) (And.intro ((M.out.2.1).far (M.out.2.2.1) (by rfl) (by omega) og) (And.intro hk (And.intro ((M.out.2.2.2.1).only og (by omega)) (And.intro ((M.out.2.2.2.2.1).far (M.out.2.2.1) (by rfl) (by omega) og) (And.intro ((M.out.2.2.2.2.2.1).far (M.out.2.2.1) (by rfl) (by omega) og) (And.intro ((M.out.2.2.2.2.2.2.1).far (M.out.2.2.1) (by rfl) (by omega) og) (And.intro ((M.out.2.2.2.2.2.2.2.1).far (M.out.2.2.1) (by rfl) (by omega) og) (And.intro ((M.out.2.2.2.2.2.2.2.2.1).only og (by omega)) (And.intro ((M.out.2.2.2.2.2.2.2.2.2.1).only og (by omega)) (And.intro ((M.out.2.2.2.2.2.2.2.2.2.2.1).only og (by omega)) hbw)))))))))))
        clear hk hbw og hv hz
        refine hK.out _ _ (⟨(M.out.2.2.2.2.2.2.2.2.1).at.1 0, (M.out.2.2.2.2.2.2.2.2.1).at.1 1, (M.out.2.2.2.2.2.2.2.2.1).at.1 2, (M.out.2.2.2.2.2.2.2.2.1).at.1 3⟩) (fun hH97 => ?_)
        clear hK K hH96
        (try simp only [Act.put, List.setIfInBounds_toArray, List.set_cons_zero, List.set_cons_succ])
        refine tk at10 ?_
        refine wpAnyH_done (by kernel_rfl) ?_ _
        clear hH97
        go_wp2_with fail
        go_meet
        exact ⟨w15.heap.size, a_88, c_89, a_92, c_93, z94, rfl, rfl, Ez94, Sz94, (by omega), (M.out.2.2.1), (M.out.1), (M.out.2.1), (M.out.2.2.2.2.1), (M.out.2.2.2.2.2.1), (M.out.2.2.2.2.2.2.1), (M.out.2.2.2.2.2.2.2.1), (M.out.2.2.2.2.2.2.2.2.1), (M.out.2.2.2.2.2.2.2.2.2.1), (M.out.2.2.2.2.2.2.2.2.2.2.1), (M.out.2.2.2.1), (M.out.2.2.2.2.2.2.2.2.2.2.2)⟩
      case rest =>
        obtain ⟨A67, a_60, c_61, a_63, c_64, z65, rfl, rfl, Ez65, Sz65, oA67, M⟩ := hcut
        obtain ⟨w15, rfl⟩ : ∃ w_ : World, w_ = wc := ⟨_, rfl⟩
        have y4 := (M.out.2.2.2.2.2.2.2.2.2.2.1).c2; have p4_0 := y4.1; have q4_0 := y4.2.1; have p4_1 := y4.2.2.1; have q4_1 := y4.2.2.2; clear y4
        have y5 := (M.out.1).c2; have p5_0 := y5.1; have q5_0 := y5.2.1; have p5_1 := y5.2.2.1; have q5_1 := y5.2.2.2; clear y5
        go_wp2_with fail
        clear p4_0 q4_0 p4_1 q4_1 p5_0 q5_0 p5_1 q5_1
        refine (new_is (G := G) (x := z27) (y := z65) (q := q) (Nat.le_trans hG (M.out.2.2.2.2.2.2.2.2.2.2.2).size) (M.out.2.2.2.1) (M.out.2.1) (Sz.mono Sz27.out (by omega)) (Sz.mono Sz65.out (by omega)) (by rw [Ez65.out]; exact HV0.out) (by rw [Ez65.out, Ez27.out]; exact HV1.out)).mono ?_
        rintro e w16 ⟨a_98, c_99, b_100, d_101, rfl, hd102, hb⟩
        replace M := Lib.hid (And.intro hd102 (Goes.go M.out hb))
        clear hb hd102
        go_upto_region 15 with fail
        obtain ⟨w17, hv⟩ : ∃ w_ : World, w_ = (w16.alloc (.cells #[.int .i64 (sg (nu q)), .slice a_98 (ln (nu q)) c_99, .int .i64 (sg (de q)), .slice b_100 (ln (de q)) d_101] 26)) := ⟨_, rfl⟩
        rw [← hv]
        have o6 : A67 < w16.heap.size := ((M.out.2.1)).lt
        replace M := Lib.hid (And.intro (hv ▸ bx1 w16 26 #[.int .i64 (sg (nu q)), .slice a_98 (ln (nu q)) c_99, .int .i64 (sg (de q)), .slice b_100 (ln (de q)) d_101]) (Goes.go M.out (hv ▸ below_alloc _ _ : Below w16.heap.size w16 w17)))
        clear hv
        as_aux_lemma =>
         have y2 := (M.out.2.2.2.2.2.2.2.2.2.2.1).c4; have p2_0 := y2.1; have q2_0 := y2.2.1; have p2_1 := y2.2.2.1; have q2_1 := y2.2.2.2.1; have p2_2 := y2.2.2.2.2.1; have q2_2 := y2.2.2.2.2.2.1; have p2_3 := y2.2.2.2.2.2.2.1; have q2_3 := y2.2.2.2.2.2.2.2; clear y2
         have y0 := (M.out.2.2.2.2.2.2.2.2.2.1).c4; have p0_0 := y0.1; have q0_0 := y0.2.1; have p0_1 := y0.2.2.1; have q0_1 := y0.2.2.2.1; have p0_2 := y0.2.2.2.2.1; have q0_2 := y0.2.2.2.2.2.1; have p0_3 := y0.2.2.2.2.2.2.1; have q0_3 := y0.2.2.2.2.2.2.2; clear y0
         go_wp2_with fail
         clear p2_0 q2_0 p2_1 q2_1 p2_2 q2_2 p2_3 q2_3 p0_0 q0_0 p0_1 q0_1 p0_2 q0_2 p0_3 q0_3
         replace M := Lib.hid (And.intro (M.out.1) (And.intro (M.out.2.1) (And.intro (M.out.2.2.2.2.2.2.1) (And.intro (M.out.2.2.2.2.2.2.2.1) (And.intro (M.out.2.2.2.2.2.2.2.2.1) (And.intro (M.out.2.2.2.2.2.2.2.2.2.1) (And.intro (M.out.2.2.2.2.2.2.2.2.2.2.2.1) (M.out.2.2.2.2.2.2.2.2.2.2.2.2.2))))))))
         refine (rfsame_two (G := G) (x := z13) (y := z14) (u := (nu q)) (v := (de q)) (M.out.2.2.2.1) (M.out.2.2.2.2.1) (H1.out.keep (M.out.2.2.2.2.2.2.2)).n (H1.out.keep (M.out.2.2.2.2.2.2.2)).d (Sz.mono Sz13.out (by omega)) (Sz.mono Sz14.out (by omega)) (by rw [Ez13.out]; rfl) (by rw [Ez14.out]; rfl)).mono ?_
         rintro e w18 ⟨rfl, hb⟩
         replace M := Lib.hid (Goes.go M.out hb)
         clear hb
         have y3 := (M.out.2.2.2.2.2.2.1).c4; have p3_0 := y3.1; have q3_0 := y3.2.1; have p3_1 := y3.2.2.1; have q3_1 := y3.2.2.2.1; have p3_2 := y3.2.2.2.2.1; have q3_2 := y3.2.2.2.2.2.1; have p3_3 := y3.2.2.2.2.2.2.1; have q3_3 := y3.2.2.2.2.2.2.2; clear y3
         have y0 := (M.out.2.2.2.2.2.1).c4; have p0_0 := y0.1; have q0_0 := y0.2.1; have p0_1 := y0.2.2.1; have q0_1 := y0.2.2.2.1; have p0_2 := y0.2.2.2.2.1; have q0_2 := y0.2.2.2.2.2.1; have p0_3 := y0.2.2.2.2.2.2.1; have q0_3 := y0.2.2.2.2.2.2.2; clear y0
         go_wp2_with fail
         clear p3_0 q3_0 p3_1 q3_1 p3_2 q3_2 p3_3 q3_3 p0_0 q0_0 p0_1 q0_1 p0_2 q0_2 p0_3 q0_3
         refine (rfsame_q (G := G) (q := q) (r := q) (M.out.2.2.1) (H1.out.keep (M.out.2.2.2.2.2.2.2)) (Fz.mono HQ.out (by omega)) rfl).mono ?_
         rintro e w19 ⟨rfl, hb⟩
         replace M := Lib.hid (Goes.go M.out hb)
         clear hb
         have y6 := (M.out.1).c4; have p6_0 := y6.1; have q6_0 := y6.2.1; have p6_1 := y6.2.2.1; have q6_1 := y6.2.2.2.1; have p6_2 := y6.2.2.2.2.1; have q6_2 := y6.2.2.2.2.2.1; have p6_3 := y6.2.2.2.2.2.2.1; have q6_3 := y6.2.2.2.2.2.2.2; clear y6
         have y0 := (M.out.2.2.2.2.2.1).c4; have p0_0 := y0.1; have q0_0 := y0.2.1; have p0_1 := y0.2.2.1; have q0_1 := y0.2.2.2.1; have p0_2 := y0.2.2.2.2.1; have q0_2 := y0.2.2.2.2.2.1; have p0_3 := y0.2.2.2.2.2.2.1; have q0_3 := y0.2.2.2.2.2.2.2; clear y0
         go_wp2_with fail
         clear p6_0 q6_0 p6_1 q6_1 p6_2 q6_2 p6_3 q6_3 p0_0 q0_0 p0_1 q0_1 p0_2 q0_2 p0_3 q0_3
         replace M := Lib.hid (And.intro (M.out.2.1) (M.out.2.2.2.2.2.2.2))
         refine (rfsame_q (G := G) (q := q) (r := q) (M.out.1) (H1.out.keep (M.out.2)) (Fz.mono HQ.out (by omega)) rfl).mono ?_
         rintro e w20 ⟨rfl, hb⟩
         replace M := Lib.hid (Goes.go M.out hb)
         clear hb
         go_wp2_with fail
         go_ret
         exact ⟨rfl, (M.out.2)⟩

set_option maxRecDepth 100000 in
set_option maxHeartbeats 4000000 in
theorem back_one_no {S : ByteArray} {l : List UInt8} {v : Int} {q : Rat} {a1 b1 : Option Addr} {c1 d1 : Nat} {w : World} (hG : G ≤ w.heap.size) (ht : Tab w) (hm : Mx w) (h1 : FD G w a1 c1 b1 d1 q) (hq : Fz q 40) (hv0 : v ≠ 0) (hS : S = ⟨l.toArray⟩) (hlen : l.length ≤ 300) (hf : readF l = none) (hv : -9223372036854775808 ≤ v ∧ v ≤ 9223372036854775807)  :
    Calls Tryz.prog 6 #[.agg #[.int .i64 (sg (nu q)), .slice a1 (ln (nu q)) c1, .int .i64 (sg (de q)), .slice b1 (ln (de q)) d1], .int .i64 v, .string S] w fun e w' => e = .returned (.bool true) ∧ Below w.heap.size w w' := by
  have hsz : ¬ 300 < S.size := by rw [hS]; simp [ByteArray.size]; omega
  have hbl : decide (300 < S.size) = false := decide_eq_false hsz
  have hbl2 : decide ((300 : Int) < (S.size : Int)) = false := decide_eq_false (by omega)
  have HLN : Hid (l.length ≤ 1000) := by show _ ≤ _; omega
  have HRE : Hid (rfE l = 2) := by show _ = _; unfold rfE; rw [hf]; rfl
  have HV := Lib.hid hv
  have HS := Lib.hid hS; have HF := Lib.hid hf
  obtain ⟨S2, hS2⟩ : ∃ s : ByteArray, (⟨(textF q).toArray⟩ : ByteArray) = s := ⟨_, rfl⟩
  have HS2 := Lib.hid hS2
  have htl := textZ_len hq.1 (by omega)
  have htl2 := textZ_len hq.2 (by omega)
  have HL2 : Hid ((textF q).length ≤ 1000) := by show _ ≤ _; unfold textF; simp; omega
  have HE2 : Hid (rfE (textF q) = 0) := by show _ = _; unfold rfE; rw [readF_text]; rfl
  have HR2 : Hid (readF (textF q) = some q) := readF_text q
  have HP2 : Hid (Rat.divInt (nu q) (de q) = q) := divInt_parts q
  have HQ := Lib.hid hq
  have HZ3 : Hid (Sz (oN (some q)) 40) := hq.1
  have HZ4 : Hid (Sz (oD (some q)) 40) := hq.2
  have e0 : (v == 0) = false := by rw [beq_eq_false_iff_ne]; exact hv0
  have e1 : (v != 0) = true := by rw [bne_iff_ne]; exact hv0
  have HV0 : Hid (de q * v ≠ 0) := by
    show _ ≠ _
    intro h; have := de_pos q
    rcases Int.mul_eq_zero.1 h with h | h
    · omega
    · exact hv0 h
  have HV1 : Hid (Rat.divInt (nu q * v) (de q * v) = q) := by show _ = _; rw [Rat.divInt_mul_right hv0]; exact divInt_parts q
  clear hS2 hq hv0 htl htl2 hS hlen hf hsz hv
  have HT : Hid (Tab w) := ht
  have HM : Hid (Mx w) := hm
  have H1 : Hid (FD G w a1 c1 b1 d1 q) := h1
  clear ht hm h1
  have M : Hid (Below w.heap.size w w) := Below.refl _ _
  go_enter Tryz.func6, Tryz.ntmps6
  go_upto_region 1 with fail
  obtain ⟨w1, hv⟩ : ∃ w_ : World, w_ = (w.alloc (.cells #[.int .i64 (sg (nu q)), .slice a1 (ln (nu q)) c1, .int .i64 (sg (de q)), .slice b1 (ln (de q)) d1] 26)) := ⟨_, rfl⟩
  rw [← hv]
  replace M := Lib.hid (And.intro (hv ▸ bx1 w 26 #[.int .i64 (sg (nu q)), .slice a1 (ln (nu q)) c1, .int .i64 (sg (de q)), .slice b1 (ln (de q)) d1]) (Goes.go M.out (hv ▸ below_alloc _ _ : Below w.heap.size w w1)))
  clear hv
  go_wp2_with fail
  refine (small_ok (G := G) (Nat.le_trans hG (M.out.2).size) (HT.out.keep (M.out.2)) (HM.out.keep (M.out.2))).mono ?_
  rintro e w2 ⟨rfl, hb⟩
  replace M := Lib.hid (Goes.go M.out hb)
  clear hb
  have y0 := (M.out.1).c4; have p0_0 := y0.1; have q0_0 := y0.2.1; have p0_1 := y0.2.2.1; have q0_1 := y0.2.2.2.1; have p0_2 := y0.2.2.2.2.1; have q0_2 := y0.2.2.2.2.2.1; have p0_3 := y0.2.2.2.2.2.2.1; have q0_3 := y0.2.2.2.2.2.2.2; clear y0
  go_wp2_with fail
  clear p0_0 q0_0 p0_1 q0_1 p0_2 q0_2 p0_3 q0_3
  refine (rfFew_ok (s := (sg (nu q))) (t := (sg (de q))) (m := 40) (r := true) (few_fz HQ.out rfl)).mono ?_
  rintro e w3 ⟨rfl, hb⟩
  replace M := Lib.hid (Goes.go M.out hb)
  clear hb
  go_wp2_with fail
  obtain ⟨z5, ez5⟩ : ∃ v_ : Int, v_ = (oN none) := ⟨_, rfl⟩
  obtain ⟨z6, ez6⟩ : ∃ v_ : Int, v_ = (oD none) := ⟨_, rfl⟩
  refine (fracRead_v (G := G) (S := S) (l := l) (o := none) (er := 2) (Nat.le_trans hG (M.out.2).size) (HT.out.keep (M.out.2)) (HM.out.keep (M.out.2)) HS.out HLN.out HF.out HRE.out).mono ?_
  rintro e w4 ⟨a_1, c_2, b_3, d_4, rfl, hd7, hd8, hb⟩
  rw [← ez5] at hd7 ⊢
  have Sz5 : Hid (Sz z5 0) := by show Sz z5 0; rw [ez5]; exact (show Sz (oN none) 0 from by unfold Sz; decide)
  have Ez5 := Lib.hid ez5; clear ez5
  rw [← ez6] at hd8 ⊢
  have Sz6 : Hid (Sz z6 0) := by show Sz z6 0; rw [ez6]; exact (show Sz (oD none) 0 from by unfold Sz; decide)
  have Ez6 := Lib.hid ez6; clear ez6
  replace M := Lib.hid (And.intro hd7 (And.intro hd8 (Goes.go M.out hb)))
  clear hb hd7 hd8
  go_upto_region 5 with fail
  obtain ⟨w5, hv⟩ : ∃ w_ : World, w_ = (w4.alloc (.cells #[.int .i64 (sg z5), .slice a_1 (ln z5) c_2, .int .i64 (sg z6), .slice b_3 (ln z6) d_4] 26)) := ⟨_, rfl⟩
  rw [← hv]
  have o1 : w.heap.size < w4.heap.size := ((M.out.2.2.1)).lt
  replace M := Lib.hid (And.intro (hv ▸ bx1 w4 26 #[.int .i64 (sg z5), .slice a_1 (ln z5) c_2, .int .i64 (sg z6), .slice b_3 (ln z6) d_4]) (Goes.go M.out (hv ▸ below_alloc _ _ : Below w4.heap.size w4 w5)))
  clear hv
  have y1 := (M.out.1).c4; have p1_0 := y1.1; have q1_0 := y1.2.1; have p1_1 := y1.2.2.1; have q1_1 := y1.2.2.2.1; have p1_2 := y1.2.2.2.2.1; have q1_2 := y1.2.2.2.2.2.1; have p1_3 := y1.2.2.2.2.2.2.1; have q1_3 := y1.2.2.2.2.2.2.2; clear y1
  go_wp2_with fail
  clear p1_0 q1_0 p1_1 q1_1 p1_2 q1_2 p1_3 q1_3
  refine (rfsame_two (G := G) (x := z5) (y := z6) (u := 0) (v := 0) (M.out.2.1) (M.out.2.2.1) (bd_zero _ _ _) (bd_zero _ _ _) (Sz.mono Sz5.out (by omega)) (Sz.mono Sz6.out (by omega)) (by rw [Ez5.out]; rfl) (by rw [Ez6.out]; rfl)).mono ?_
  rintro e w6 ⟨rfl, hb⟩
  replace M := Lib.hid (Goes.go M.out hb)
  clear hb
  have y0 := (M.out.2.2.2.1).c4; have p0_0 := y0.1; have q0_0 := y0.2.1; have p0_1 := y0.2.2.1; have q0_1 := y0.2.2.2.1; have p0_2 := y0.2.2.2.2.1; have q0_2 := y0.2.2.2.2.2.1; have p0_3 := y0.2.2.2.2.2.2.1; have q0_3 := y0.2.2.2.2.2.2.2; clear y0
  go_wp2_with fail
  clear p0_0 q0_0 p0_1 q0_1 p0_2 q0_2 p0_3 q0_3
  refine (fracText_lit (G := G) (q := q) (s := S2) (H1.out.keep (M.out.2.2.2.2)) (Fz.mono HQ.out (by omega)) (HT.out.keep (M.out.2.2.2.2)) HS2.out).mono ?_
  rintro e w7 ⟨rfl, hb⟩
  replace M := Lib.hid (Goes.go M.out hb)
  clear hb
  go_upto_region 8 with fail
  as_aux_lemma =>
   have y0 := (M.out.2.2.2.1).c4; have p0_0 := y0.1; have q0_0 := y0.2.1; have p0_1 := y0.2.2.1; have q0_1 := y0.2.2.2.1; have p0_2 := y0.2.2.2.2.1; have q0_2 := y0.2.2.2.2.2.1; have p0_3 := y0.2.2.2.2.2.2.1; have q0_3 := y0.2.2.2.2.2.2.2; clear y0
   go_wp2_with fail
   clear p0_0 q0_0 p0_1 q0_1 p0_2 q0_2 p0_3 q0_3
   refine (fracRight_ok (G := G) (q := q) (H1.out.keep (M.out.2.2.2.2)) (Fz.mono HQ.out (by omega))).mono ?_
   rintro e w8 ⟨rfl, hb⟩
   replace M := Lib.hid (Goes.go M.out hb)
   clear hb
   go_wp2_with fail
   obtain ⟨z13, ez13⟩ : ∃ v_ : Int, v_ = (oN (some q)) := ⟨_, rfl⟩
   obtain ⟨z14, ez14⟩ : ∃ v_ : Int, v_ = (oD (some q)) := ⟨_, rfl⟩
   refine (fracRead_v (G := G) (S := S2) (l := (textF q)) (o := (some q)) (er := 0) (Nat.le_trans hG (M.out.2.2.2.2).size) (HT.out.keep (M.out.2.2.2.2)) (HM.out.keep (M.out.2.2.2.2)) HS2.out.symm HL2.out HR2.out HE2.out).mono ?_
   rintro e w9 ⟨a_9, c_10, b_11, d_12, rfl, hd15, hd16, hb⟩
   rw [← ez13] at hd15 ⊢
   have Sz13 : Hid (Sz z13 40) := by show Sz z13 40; rw [ez13]; exact HZ3.out
   have Ez13 := Lib.hid ez13; clear ez13
   rw [← ez14] at hd16 ⊢
   have Sz14 : Hid (Sz z14 40) := by show Sz z14 40; rw [ez14]; exact HZ4.out
   have Ez14 := Lib.hid ez14; clear ez14
   replace M := Lib.hid (And.intro hd15 (And.intro hd16 (Goes.go M.out hb)))
   clear hb hd15 hd16
   go_upto_region 11 with fail
   obtain ⟨w10, hv⟩ : ∃ w_ : World, w_ = (w9.alloc (.cells #[.int .i64 (sg z13), .slice a_9 (ln z13) c_10, .int .i64 (sg z14), .slice b_11 (ln z14) d_12] 26)) := ⟨_, rfl⟩
   rw [← hv]
   have o2 : w4.heap.size < w9.heap.size := ((M.out.2.2.1)).lt
   replace M := Lib.hid (And.intro (hv ▸ bx1 w9 26 #[.int .i64 (sg z13), .slice a_9 (ln z13) c_10, .int .i64 (sg z14), .slice b_11 (ln z14) d_12]) (Goes.go M.out (hv ▸ below_alloc _ _ : Below w9.heap.size w9 w10)))
   clear hv
   as_aux_lemma =>
    have y0 := (M.out.2.2.2.2.2.2.1).c4; have p0_0 := y0.1; have q0_0 := y0.2.1; have p0_1 := y0.2.2.1; have q0_1 := y0.2.2.2.1; have p0_2 := y0.2.2.2.2.1; have q0_2 := y0.2.2.2.2.2.1; have p0_3 := y0.2.2.2.2.2.2.1; have q0_3 := y0.2.2.2.2.2.2.2; clear y0
    go_wp2_with fail
    clear p0_0 q0_0 p0_1 q0_1 p0_2 q0_2 p0_3 q0_3
    refine (new_is (G := G) (x := (nu q)) (y := (de q)) (q := q) (Nat.le_trans hG (M.out.2.2.2.2.2.2.2).size) (H1.out.keep (M.out.2.2.2.2.2.2.2)).n (H1.out.keep (M.out.2.2.2.2.2.2.2)).d (Sz.mono HQ.out.1 (by omega)) (Sz.mono HQ.out.2 (by omega)) (Int.ne_of_gt (de_pos q)) HP2.out).mono ?_
    rintro e w11 ⟨a_17, c_18, b_19, d_20, rfl, hd21, hb⟩
    replace M := Lib.hid (And.intro hd21 (Goes.go M.out hb))
    clear hb hd21
    go_upto_region 12 with fail
    obtain ⟨w12, hv⟩ : ∃ w_ : World, w_ = (w11.alloc (.cells #[.int .i64 (sg (nu q)), .slice a_17 (ln (nu q)) c_18, .int .i64 (sg (de q)), .slice b_19 (ln (de q)) d_20] 26)) := ⟨_, rfl⟩
    rw [← hv]
    have o3 : w9.heap.size < w11.heap.size := ((M.out.2.1)).lt
    replace M := Lib.hid (And.intro (hv ▸ bx1 w11 26 #[.int .i64 (sg (nu q)), .slice a_17 (ln (nu q)) c_18, .int .i64 (sg (de q)), .slice b_19 (ln (de q)) d_20]) (Goes.go M.out (hv ▸ below_alloc _ _ : Below w11.heap.size w11 w12)))
    clear hv
    replace M := Lib.hid (And.intro (M.out.1) (And.intro (M.out.2.1) (And.intro (M.out.2.2.1) (And.intro (M.out.2.2.2.1) (And.intro (M.out.2.2.2.2.1) (And.intro (M.out.2.2.2.2.2.2.2.2.1) (M.out.2.2.2.2.2.2.2.2.2)))))))
    go_cut [15, 16] (fun s15 s16 wx => ∃ (A29 : Nat), ∃ (a_22 : Option Addr), ∃ (c_23 : Nat), ∃ (a_25 : Option Addr), ∃ (c_26 : Nat), ∃ (z27 : Int), s15 = .pointer (some ⟨A29, 0, none⟩) ∧ s16 = .int .i64 0 ∧ Hid (z27 = ((nu q) * v)) ∧ Hid (Sz z27 44) ∧ w11.heap.size < A29 ∧ Hid (Bx wx A29 24 #[.int .i64 (sg z27), .slice a_25 (ln z27) c_26] ∧ BD G wx a_25 c_26 z27 ∧ BD G wx a_22 c_23 v ∧ FD G wx a_17 c_18 b_19 d_20 q ∧ BD G wx a_9 c_10 z13 ∧ BD G wx b_11 d_12 z14 ∧ Bx wx w.heap.size 26 #[.int .i64 (sg (nu q)), .slice a1 (ln (nu q)) c1, .int .i64 (sg (de q)), .slice b1 (ln (de q)) d1] ∧ Bx wx w9.heap.size 26 #[.int .i64 (sg z13), .slice a_9 (ln z13) c_10, .int .i64 (sg z14), .slice b_11 (ln z14) d_12] ∧ Bx wx w11.heap.size 26 #[.int .i64 (sg (nu q)), .slice a_17 (ln (nu q)) c_18, .int .i64 (sg (de q)), .slice b_19 (ln (de q)) d_20] ∧ Below w.heap.size w wx))
    case first =>
      obtain ⟨w13, hv⟩ : ∃ w_ : World, w_ = w12.drew := ⟨_, rfl⟩
      replace M := Lib.hid (Goes.go M.out (hv ▸ below_drew _ : Below w12.heap.size w12 w13))
      refine wp_region_held_drew (S := (fun w' => w'.cell? ⟨w.heap.size, 0, none⟩ = some (.int .i64 (sg (nu q))) ∧ w'.cell? ⟨w.heap.size, 1, none⟩ = some (.slice a1 (ln (nu q)) c1) ∧ w'.cell? ⟨w.heap.size, 2, none⟩ = some (.int .i64 (sg (de q))) ∧ w'.cell? ⟨w.heap.size, 3, none⟩ = some (.slice b1 (ln (de q)) d1))) (by kernel_rfl) (by rw [← hv]; exact ⟨(M.out.2.2.2.2.2.1).at.1 0, (M.out.2.2.2.2.2.1).at.1 1, (M.out.2.2.2.2.2.1).at.1 2, (M.out.2.2.2.2.2.1).at.1 3⟩) (fun hH30 => ?_)
      rw [← hv] at hH30 ⊢
      clear hv
      refine tk at0 ?_
      refine tk at1 ?_
      refine tk at2 ?_
      refine wpAnyH_ready (rs := [3, 8]) (by kernel_rfl) (by simp) ?_
      refine AllReadyH.cons at3 (fun K hK => ?_) ?_
      ·
        go_simp
        refine (bigOf_ok (G := G) v _ HV.out).mono ?_
        rintro e w14 ⟨a_31, c_32, rfl, hd33, hb⟩
        replace M := Lib.hid (And.intro hd33 (Goes.go M.out hb))
        clear hb hd33
        (try go_wp2_with fail)
        refine hK.out _ _ (⟨(M.out.2.2.2.2.2.2.1).at.1 0, (M.out.2.2.2.2.2.2.1).at.1 1, (M.out.2.2.2.2.2.2.1).at.1 2, (M.out.2.2.2.2.2.2.1).at.1 3⟩) (fun hH34 => ?_)
        clear hK K hH30
        (try simp only [Act.put, List.setIfInBounds_toArray, List.set_cons_zero, List.set_cons_succ])
        refine wpAnyH_ready (rs := [4, 8]) (by kernel_rfl) (by simp) ?_
        refine AllReadyH.cons at4 (fun K hK => ?_) ?_
        ·
          go_simp
          obtain ⟨z37, ez37⟩ : ∃ v_ : Int, v_ = ((nu q) * v) := ⟨_, rfl⟩
          refine (bigMul_ok (G := G) (x := (nu q)) (y := v) (H1.out.keep (M.out.2.2.2.2.2.2.2)).n (M.out.1) (Sz.mono HQ.out.1 (by omega)) (Sz.mono (sz_int (n := 0) HV.out) (by omega))).mono ?_
          rintro e w15 ⟨a_35, c_36, rfl, hd38, hb⟩
          rw [← ez37] at hd38 ⊢
          have Sz37 : Hid (Sz z37 44) := by show Sz z37 44; rw [ez37]; exact (Sz.mul HQ.out.1 (sz_int (n := 0) HV.out))
          have Ez37 := Lib.hid ez37; clear ez37
          replace M := Lib.hid (And.intro hd38 (Goes.go M.out hb))
          clear hb hd38
          (try go_wp2_with fail)
          refine hK.out _ _ (⟨(M.out.2.2.2.2.2.2.2.1).at.1 0, (M.out.2.2.2.2.2.2.2.1).at.1 1, (M.out.2.2.2.2.2.2.2.1).at.1 2, (M.out.2.2.2.2.2.2.2.1).at.1 3⟩) (fun hH39 => ?_)
          clear hK K hH34
          (try simp only [Act.put, List.setIfInBounds_toArray, List.set_cons_zero, List.set_cons_succ])
          refine tk at5 ?_
          refine tk at6 ?_
          refine tk at7 ?_
          refine wpAnyH_ready (rs := [8]) (by kernel_rfl) (by simp) ?_
          refine AllReadyH.cons at8 (fun K hK => ?_) AllReadyH.nil
          go_simp
          obtain ⟨w16, hv⟩ : ∃ w_ : World, w_ = (w15.alloc (.cells #[.int .i64 0, .slice none 0 0] 24)) := ⟨_, rfl⟩
          rw [← hv]
          have o4 : w11.heap.size < w15.heap.size := ((M.out.2.2.1)).lt
          replace M := Lib.hid (And.intro (hv ▸ bx1 w15 24 #[.int .i64 0, .slice none 0 0]) (Goes.go M.out (hv ▸ below_alloc _ _ : Below w15.heap.size w15 w16)))
          clear hv
          refine hK.out _ _ (⟨(M.out.2.2.2.2.2.2.2.2.1).at.1 0, (M.out.2.2.2.2.2.2.2.2.1).at.1 1, (M.out.2.2.2.2.2.2.2.2.1).at.1 2, (M.out.2.2.2.2.2.2.2.2.1).at.1 3⟩) (fun hH40 => ?_)
          clear hK K hH39
          (try simp only [Act.put, List.setIfInBounds_toArray, List.set_cons_zero, List.set_cons_succ])
          refine wpAnyH_ready (rs := [9]) (by kernel_rfl) (by simp) ?_
          refine AllReadyH.cons at9 (fun K hK => ?_) AllReadyH.nil
          have y4 := (M.out.1).c2; have p4_0 := y4.1; have q4_0 := y4.2.1; have p4_1 := y4.2.2.1; have q4_1 := y4.2.2.2; clear y4
          go_simp
          clear p4_0 q4_0 p4_1 q4_1
          obtain ⟨w17, hv⟩ : ∃ w_ : World, w_ = ((w16.setCell ⟨w15.heap.size, 0, none⟩ (.int .i64 (sg z37))).setCell ⟨w15.heap.size, 1, none⟩ (.slice a_35 (ln z37) c_36)) := ⟨_, rfl⟩
          rw [← hv]
          have og : w16.grownBy w17 (some w15.heap.size) := by rw [hv]; exact (only_setCell (only_setCell (World.grownBy.refl _ _) _) _)
          have hz : w.heap.size ≤ w15.heap.size := by omega
          have hk : Bx w17 w15.heap.size 24 #[.int .i64 (sg z37), .slice a_35 (ln z37) c_36] := by rw [hv]; exact (((M.out.1).set 0 _).set 1 _)
          have hbw : Below w.heap.size w w17 := by rw [hv]; exact (Below.setCell (Below.setCell (M.out.2.2.2.2.2.2.2.2.2) (by omega) _) (by omega) _)
          replace M := Lib.hid (And.intro hk (And.intro ((M.out.2.1).far (M.out.1) (by rfl) (by omega) og) (And.intro ((M.out.2.2.1).far (M.out.1) (by rfl) (by omega) og) (And.intro ((M.out.2.2.2.1).only og (by omega)) (And.intro ((M.out.2.2.2.2.1).far (M.out.1) (by rfl) (by omega) og) (And.intro ((M.out.2.2.2.2.2.1).only og (by omega)) (And.intro ((M.out.2.2.2.2.2.2.1).far (M.out.1) (by rfl) (by omega) og) (And.intro ((M.out.2.2.2.2.2.2.2.1).far (M.out.1) (by rfl) (by omega) og) (And.intro ((M.out.2.2.2.2.2.2.2.2.1).only og (by omega)) hbw)))))))))
          clear hk hbw og hv hz
          refine hK.out _ _ (⟨(M.out.2.2.2.2.2.2.2.2.1).at.1 0, (M.out.2.2.2.2.2.2.2.2.1).at.1 1, (M.out.2.2.2.2.2.2.2.2.1).at.1 2, (M.out.2.2.2.2.2.2.2.2.1).at.1 3⟩) (fun hH41 => ?_)
          clear hK K hH40
          (try simp only [Act.put, List.setIfInBounds_toArray, List.set_cons_zero, List.set_cons_succ])
          refine tk at10 ?_
          refine wpAnyH_done (by kernel_rfl) ?_ _
          clear hH41
          go_wp2_with fail
          go_meet
          exact ⟨w15.heap.size, a_31, c_32, a_35, c_36, z37, rfl, rfl, Ez37, Sz37, (by omega), (M.out.1), (M.out.2.1), (M.out.2.2.1), (M.out.2.2.2.2.1), (M.out.2.2.2.2.2.2.1), (M.out.2.2.2.2.2.2.2.1), (M.out.2.2.2.2.2.2.2.2.1), (M.out.2.2.2.2.2.1), (M.out.2.2.2.1), (M.out.2.2.2.2.2.2.2.2.2)⟩
        refine AllReadyH.cons at8 (fun K hK => ?_) AllReadyH.nil
        go_simp
        obtain ⟨w15, hv⟩ : ∃ w_ : World, w_ = (w14.alloc (.cells #[.int .i64 0, .slice none 0 0] 24)) := ⟨_, rfl⟩
        rw [← hv]
        have o4 : w11.heap.size < w14.heap.size := ((M.out.2.1)).lt
        replace M := Lib.hid (And.intro (hv ▸ bx1 w14 24 #[.int .i64 0, .slice none 0 0]) (Goes.go M.out (hv ▸ below_alloc _ _ : Below w14.heap.size w14 w15)))
        clear hv
        refine hK.out _ _ (⟨(M.out.2.2.2.2.2.2.2.1).at.1 0, (M.out.2.2.2.2.2.2.2.1).at.1 1, (M.out.2.2.2.2.2.2.2.1).at.1 2, (M.out.2.2.2.2.2.2.2.1).at.1 3⟩) (fun hH42 => ?_)
        clear hK K hH34
        (try simp only [Act.put, List.setIfInBounds_toArray, List.set_cons_zero, List.set_cons_succ])
        refine wpAnyH_ready (rs := [4]) (by kernel_rfl) (by simp) ?_
        refine AllReadyH.cons at4 (fun K hK => ?_) AllReadyH.nil
        go_simp
        obtain ⟨z45, ez45⟩ : ∃ v_ : Int, v_ = ((nu q) * v) := ⟨_, rfl⟩
        refine (bigMul_ok (G := G) (x := (nu q)) (y := v) (H1.out.keep (M.out.2.2.2.2.2.2.2.2)).n (M.out.2.1) (Sz.mono HQ.out.1 (by omega)) (Sz.mono (sz_int (n := 0) HV.out) (by omega))).mono ?_
        rintro e w16 ⟨a_43, c_44, rfl, hd46, hb⟩
        rw [← ez45] at hd46 ⊢
        have Sz45 : Hid (Sz z45 44) := by show Sz z45 44; rw [ez45]; exact (Sz.mul HQ.out.1 (sz_int (n := 0) HV.out))
        have Ez45 := Lib.hid ez45; clear ez45
        replace M := Lib.hid (And.intro hd46 (Goes.go M.out hb))
        clear hb hd46
        (try go_wp2_with fail)
        refine hK.out _ _ (⟨(M.out.2.2.2.2.2.2.2.2.1).at.1 0, (M.out.2.2.2.2.2.2.2.2.1).at.1 1, (M.out.2.2.2.2.2.2.2.2.1).at.1 2, (M.out.2.2.2.2.2.2.2.2.1).at.1 3⟩) (fun hH47 => ?_)
        clear hK K hH42
        (try simp only [Act.put, List.setIfInBounds_toArray, List.set_cons_zero, List.set_cons_succ])
        refine tk at5 ?_
        refine tk at6 ?_
        refine tk at7 ?_
        refine wpAnyH_ready (rs := [9]) (by kernel_rfl) (by simp) ?_
        refine AllReadyH.cons at9 (fun K hK => ?_) AllReadyH.nil
        have y4 := (M.out.2.1).c2; have p4_0 := y4.1; have q4_0 := y4.2.1; have p4_1 := y4.2.2.1; have q4_1 := y4.2.2.2; clear y4
        go_simp
        clear p4_0 q4_0 p4_1 q4_1
        obtain ⟨w17, hv⟩ : ∃ w_ : World, w_ = ((w16.setCell ⟨w14.heap.size, 0, none⟩ (.int .i64 (sg z45))).setCell ⟨w14.heap.size, 1, none⟩ (.slice a_43 (ln z45) c_44)) := ⟨_, rfl⟩
        rw [← hv]
        have og : w16.grownBy w17 (some w14.heap.size) := by rw [hv]; exact (only_setCell (only_setCell (World.grownBy.refl _ _) _) _)
        have hz : w.heap.size ≤ w14.heap.size := by omega
        have hk : Bx w17 w14.heap.size 24 #[.int .i64 (sg z45), .slice a_43 (ln z45) c_44] := by rw [hv]; exact (((M.out.2.1).set 0 _).set 1 _)
        have hbw : Below w.heap.size w w17 := by rw [hv]; exact (Below.setCell (Below.setCell (M.out.2.2.2.2.2.2.2.2.2) (by omega) _) (by omega) _)
        replace M := Lib.hid (And.intro ((M.out.1).far (M.out.2.1) (by rfl) (by omega) og) (And.intro hk (And.intro ((M.out.2.2.1).far (M.out.2.1) (by rfl) (by omega) og) (And.intro ((M.out.2.2.2.1).only og (by omega)) (And.intro ((M.out.2.2.2.2.1).far (M.out.2.1) (by rfl) (by omega) og) (And.intro ((M.out.2.2.2.2.2.1).only og (by omega)) (And.intro ((M.out.2.2.2.2.2.2.1).far (M.out.2.1) (by rfl) (by omega) og) (And.intro ((M.out.2.2.2.2.2.2.2.1).far (M.out.2.1) (by rfl) (by omega) og) (And.intro ((M.out.2.2.2.2.2.2.2.2.1).only og (by omega)) hbw)))))))))
        clear hk hbw og hv hz
        refine hK.out _ _ (⟨(M.out.2.2.2.2.2.2.2.2.1).at.1 0, (M.out.2.2.2.2.2.2.2.2.1).at.1 1, (M.out.2.2.2.2.2.2.2.2.1).at.1 2, (M.out.2.2.2.2.2.2.2.2.1).at.1 3⟩) (fun hH48 => ?_)
        clear hK K hH47
        (try simp only [Act.put, List.setIfInBounds_toArray, List.set_cons_zero, List.set_cons_succ])
        refine tk at10 ?_
        refine wpAnyH_done (by kernel_rfl) ?_ _
        clear hH48
        go_wp2_with fail
        go_meet
        exact ⟨w14.heap.size, a_31, c_32, a_43, c_44, z45, rfl, rfl, Ez45, Sz45, (by omega), (M.out.2.1), (M.out.1), (M.out.2.2.1), (M.out.2.2.2.2.1), (M.out.2.2.2.2.2.2.1), (M.out.2.2.2.2.2.2.2.1), (M.out.2.2.2.2.2.2.2.2.1), (M.out.2.2.2.2.2.1), (M.out.2.2.2.1), (M.out.2.2.2.2.2.2.2.2.2)⟩
      refine AllReadyH.cons at8 (fun K hK => ?_) AllReadyH.nil
      go_simp
      obtain ⟨w14, hv⟩ : ∃ w_ : World, w_ = (w13.alloc (.cells #[.int .i64 0, .slice none 0 0] 24)) := ⟨_, rfl⟩
      rw [← hv]
      have o4 : w11.heap.size < w13.heap.size := ((M.out.1)).lt
      replace M := Lib.hid (And.intro (hv ▸ bx1 w13 24 #[.int .i64 0, .slice none 0 0]) (Goes.go M.out (hv ▸ below_alloc _ _ : Below w13.heap.size w13 w14)))
      clear hv
      refine hK.out _ _ (⟨(M.out.2.2.2.2.2.2.1).at.1 0, (M.out.2.2.2.2.2.2.1).at.1 1, (M.out.2.2.2.2.2.2.1).at.1 2, (M.out.2.2.2.2.2.2.1).at.1 3⟩) (fun hH49 => ?_)
      clear hK K hH30
      (try simp only [Act.put, List.setIfInBounds_toArray, List.set_cons_zero, List.set_cons_succ])
      refine wpAnyH_ready (rs := [3]) (by kernel_rfl) (by simp) ?_
      refine AllReadyH.cons at3 (fun K hK => ?_) AllReadyH.nil
      go_simp
      refine (bigOf_ok (G := G) v _ HV.out).mono ?_
      rintro e w15 ⟨a_50, c_51, rfl, hd52, hb⟩
      replace M := Lib.hid (And.intro hd52 (Goes.go M.out hb))
      clear hb hd52
      (try go_wp2_with fail)
      refine hK.out _ _ (⟨(M.out.2.2.2.2.2.2.2.1).at.1 0, (M.out.2.2.2.2.2.2.2.1).at.1 1, (M.out.2.2.2.2.2.2.2.1).at.1 2, (M.out.2.2.2.2.2.2.2.1).at.1 3⟩) (fun hH53 => ?_)
      clear hK K hH49
      (try simp only [Act.put, List.setIfInBounds_toArray, List.set_cons_zero, List.set_cons_succ])
      refine wpAnyH_ready (rs := [4]) (by kernel_rfl) (by simp) ?_
      refine AllReadyH.cons at4 (fun K hK => ?_) AllReadyH.nil
      go_simp
      obtain ⟨z56, ez56⟩ : ∃ v_ : Int, v_ = ((nu q) * v) := ⟨_, rfl⟩
      refine (bigMul_ok (G := G) (x := (nu q)) (y := v) (H1.out.keep (M.out.2.2.2.2.2.2.2.2)).n (M.out.1) (Sz.mono HQ.out.1 (by omega)) (Sz.mono (sz_int (n := 0) HV.out) (by omega))).mono ?_
      rintro e w16 ⟨a_54, c_55, rfl, hd57, hb⟩
      rw [← ez56] at hd57 ⊢
      have Sz56 : Hid (Sz z56 44) := by show Sz z56 44; rw [ez56]; exact (Sz.mul HQ.out.1 (sz_int (n := 0) HV.out))
      have Ez56 := Lib.hid ez56; clear ez56
      replace M := Lib.hid (And.intro hd57 (Goes.go M.out hb))
      clear hb hd57
      (try go_wp2_with fail)
      refine hK.out _ _ (⟨(M.out.2.2.2.2.2.2.2.2.1).at.1 0, (M.out.2.2.2.2.2.2.2.2.1).at.1 1, (M.out.2.2.2.2.2.2.2.2.1).at.1 2, (M.out.2.2.2.2.2.2.2.2.1).at.1 3⟩) (fun hH58 => ?_)
      clear hK K hH53
      (try simp only [Act.put, List.setIfInBounds_toArray, List.set_cons_zero, List.set_cons_succ])
      refine tk at5 ?_
      refine tk at6 ?_
      refine tk at7 ?_
      refine wpAnyH_ready (rs := [9]) (by kernel_rfl) (by simp) ?_
      refine AllReadyH.cons at9 (fun K hK => ?_) AllReadyH.nil
      have y4 := (M.out.2.2.1).c2; have p4_0 := y4.1; have q4_0 := y4.2.1; have p4_1 := y4.2.2.1; have q4_1 := y4.2.2.2; clear y4
      go_simp
      clear p4_0 q4_0 p4_1 q4_1
      obtain ⟨w17, hv⟩ : ∃ w_ : World, w_ = ((w16.setCell ⟨w13.heap.size, 0, none⟩ (.int .i64 (sg z56))).setCell ⟨w13.heap.size, 1, none⟩ (.slice a_54 (ln z56) c_55)) := ⟨_, rfl⟩
      rw [← hv]
      have og : w16.grownBy w17 (some w13.heap.size) := by rw [hv]; exact (only_setCell (only_setCell (World.grownBy.refl _ _) _) _)
      have hz : w.heap.size ≤ w13.heap.size := by omega
      have hk : Bx w17 w13.heap.size 24 #[.int .i64 (sg z56), .slice a_54 (ln z56) c_55] := by rw [hv]; exact (((M.out.2.2.1).set 0 _).set 1 _)
      have hbw : Below w.heap.size w w17 := by rw [hv]; exact (Below.setCell (Below.setCell (M.out.2.2.2.2.2.2.2.2.2) (by omega) _) (by omega) _)
      replace M := Lib.hid (And.intro ((M.out.1).far (M.out.2.2.1) (by rfl) (by omega) og) (And.intro ((M.out.2.1).far (M.out.2.2.1) (by rfl) (by omega) og) (And.intro hk (And.intro ((M.out.2.2.2.1).only og (by omega)) (And.intro ((M.out.2.2.2.2.1).far (M.out.2.2.1) (by rfl) (by omega) og) (And.intro ((M.out.2.2.2.2.2.1).only og (by omega)) (And.intro ((M.out.2.2.2.2.2.2.1).far (M.out.2.2.1) (by rfl) (by omega) og) (And.intro ((M.out.2.2.2.2.2.2.2.1).far (M.out.2.2.1) (by rfl) (by omega) og) (And.intro ((M.out.2.2.2.2.2.2.2.2.1).only og (by omega)) hbw)))))))))
      clear hk hbw og hv hz
      refine hK.out _ _ (⟨(M.out.2.2.2.2.2.2.2.2.1).at.1 0, (M.out.2.2.2.2.2.2.2.2.1).at.1 1, (M.out.2.2.2.2.2.2.2.2.1).at.1 2, (M.out.2.2.2.2.2.2.2.2.1).at.1 3⟩) (fun hH59 => ?_)
      clear hK K hH58
      (try simp only [Act.put, List.setIfInBounds_toArray, List.set_cons_zero, List.set_cons_succ])
      refine tk at10 ?_
      refine wpAnyH_done (by kernel_rfl) ?_ _
      clear hH59
      go_wp2_with fail
      go_meet
      exact ⟨w13.heap.size, a_50, c_51, a_54, c_55, z56, rfl, rfl, Ez56, Sz56, (by omega), (M.out.2.2.1), (M.out.1), (M.out.2.1), (M.out.2.2.2.2.1), (M.out.2.2.2.2.2.2.1), (M.out.2.2.2.2.2.2.2.1), (M.out.2.2.2.2.2.2.2.2.1), (M.out.2.2.2.2.2.1), (M.out.2.2.2.1), (M.out.2.2.2.2.2.2.2.2.2)⟩
    case rest =>
      obtain ⟨A29, a_22, c_23, a_25, c_26, z27, rfl, rfl, Ez27, Sz27, oA29, M⟩ := hcut
      obtain ⟨w13, rfl⟩ : ∃ w_ : World, w_ = wc := ⟨_, rfl⟩
      go_upto_region 13 with fail
      replace M := Lib.hid (And.intro (M.out.1) (And.intro (M.out.2.1) (And.intro (M.out.2.2.2.1) (And.intro (M.out.2.2.2.2.1) (And.intro (M.out.2.2.2.2.2.1) (And.intro (M.out.2.2.2.2.2.2.1) (And.intro (M.out.2.2.2.2.2.2.2.1) (And.intro (M.out.2.2.2.2.2.2.2.2.1) (M.out.2.2.2.2.2.2.2.2.2)))))))))
      go_cut [17, 18] (fun s17 s18 wx => ∃ (A67 : Nat), ∃ (a_60 : Option Addr), ∃ (c_61 : Nat), ∃ (a_63 : Option Addr), ∃ (c_64 : Nat), ∃ (z65 : Int), s17 = .pointer (some ⟨A67, 0, none⟩) ∧ s18 = .int .i64 0 ∧ Hid (z65 = ((de q) * v)) ∧ Hid (Sz z65 44) ∧ A29 < A67 ∧ Hid (Bx wx A67 24 #[.int .i64 (sg z65), .slice a_63 (ln z65) c_64] ∧ BD G wx a_63 c_64 z65 ∧ BD G wx a_60 c_61 v ∧ BD G wx a_25 c_26 z27 ∧ FD G wx a_17 c_18 b_19 d_20 q ∧ BD G wx a_9 c_10 z13 ∧ BD G wx b_11 d_12 z14 ∧ Bx wx w.heap.size 26 #[.int .i64 (sg (nu q)), .slice a1 (ln (nu q)) c1, .int .i64 (sg (de q)), .slice b1 (ln (de q)) d1] ∧ Bx wx w9.heap.size 26 #[.int .i64 (sg z13), .slice a_9 (ln z13) c_10, .int .i64 (sg z14), .slice b_11 (ln z14) d_12] ∧ Bx wx w11.heap.size 26 #[.int .i64 (sg (nu q)), .slice a_17 (ln (nu q)) c_18, .int .i64 (sg (de q)), .slice b_19 (ln (de q)) d_20] ∧ Bx wx A29 24 #[.int .i64 (sg z27), .slice a_25 (ln z27) c_26] ∧ Below w.heap.size w wx))
      case first =>
        obtain ⟨w14, hv⟩ : ∃ w_ : World, w_ = w13.drew := ⟨_, rfl⟩
        replace M := Lib.hid (Goes.go M.out (hv ▸ below_drew _ : Below w13.heap.size w13 w14))
        refine wp_region_held_drew (S := (fun w' => w'.cell? ⟨w.heap.size, 0, none⟩ = some (.int .i64 (sg (nu q))) ∧ w'.cell? ⟨w.heap.size, 1, none⟩ = some (.slice a1 (ln (nu q)) c1) ∧ w'.cell? ⟨w.heap.size, 2, none⟩ = some (.int .i64 (sg (de q))) ∧ w'.cell? ⟨w.heap.size, 3, none⟩ = some (.slice b1 (ln (de q)) d1))) (by kernel_rfl) (by rw [← hv]; exact ⟨(M.out.2.2.2.2.2.1).at.1 0, (M.out.2.2.2.2.2.1).at.1 1, (M.out.2.2.2.2.2.1).at.1 2, (M.out.2.2.2.2.2.1).at.1 3⟩) (fun hH68 => ?_)
        rw [← hv] at hH68 ⊢
        clear hv
        refine tk at0 ?_
        refine tk at1 ?_
        refine tk at2 ?_
        refine wpAnyH_ready (rs := [3, 8]) (by kernel_rfl) (by simp) ?_
        refine AllReadyH.cons at3 (fun K hK => ?_) ?_
        ·
          go_simp
          refine (bigOf_ok (G := G) v _ HV.out).mono ?_
          rintro e w15 ⟨a_69, c_70, rfl, hd71, hb⟩
          replace M := Lib.hid (And.intro hd71 (Goes.go M.out hb))
          clear hb hd71
          (try go_wp2_with fail)
          refine hK.out _ _ (⟨(M.out.2.2.2.2.2.2.1).at.1 0, (M.out.2.2.2.2.2.2.1).at.1 1, (M.out.2.2.2.2.2.2.1).at.1 2, (M.out.2.2.2.2.2.2.1).at.1 3⟩) (fun hH72 => ?_)
          clear hK K hH68
          (try simp only [Act.put, List.setIfInBounds_toArray, List.set_cons_zero, List.set_cons_succ])
          refine wpAnyH_ready (rs := [4, 8]) (by kernel_rfl) (by simp) ?_
          refine AllReadyH.cons at4 (fun K hK => ?_) ?_
          ·
            go_simp
            obtain ⟨z75, ez75⟩ : ∃ v_ : Int, v_ = ((de q) * v) := ⟨_, rfl⟩
            refine (bigMul_ok (G := G) (x := (de q)) (y := v) (H1.out.keep (M.out.2.2.2.2.2.2.2.2.2)).d (M.out.1) (Sz.mono HQ.out.2 (by omega)) (Sz.mono (sz_int (n := 0) HV.out) (by omega))).mono ?_
            rintro e w16 ⟨a_73, c_74, rfl, hd76, hb⟩
            rw [← ez75] at hd76 ⊢
            have Sz75 : Hid (Sz z75 44) := by show Sz z75 44; rw [ez75]; exact (Sz.mul HQ.out.2 (sz_int (n := 0) HV.out))
            have Ez75 := Lib.hid ez75; clear ez75
            replace M := Lib.hid (And.intro hd76 (Goes.go M.out hb))
            clear hb hd76
            (try go_wp2_with fail)
            refine hK.out _ _ (⟨(M.out.2.2.2.2.2.2.2.1).at.1 0, (M.out.2.2.2.2.2.2.2.1).at.1 1, (M.out.2.2.2.2.2.2.2.1).at.1 2, (M.out.2.2.2.2.2.2.2.1).at.1 3⟩) (fun hH77 => ?_)
            clear hK K hH72
            (try simp only [Act.put, List.setIfInBounds_toArray, List.set_cons_zero, List.set_cons_succ])
            refine tk at5 ?_
            refine tk at6 ?_
            refine tk at7 ?_
            refine wpAnyH_ready (rs := [8]) (by kernel_rfl) (by simp) ?_
            refine AllReadyH.cons at8 (fun K hK => ?_) AllReadyH.nil
            go_simp
            obtain ⟨w17, hv⟩ : ∃ w_ : World, w_ = (w16.alloc (.cells #[.int .i64 0, .slice none 0 0] 24)) := ⟨_, rfl⟩
            rw [← hv]
            have o5 : A29 < w16.heap.size := ((M.out.2.2.1)).lt
            replace M := Lib.hid (And.intro (hv ▸ bx1 w16 24 #[.int .i64 0, .slice none 0 0]) (Goes.go M.out (hv ▸ below_alloc _ _ : Below w16.heap.size w16 w17)))
            clear hv
            refine hK.out _ _ (⟨(M.out.2.2.2.2.2.2.2.2.1).at.1 0, (M.out.2.2.2.2.2.2.2.2.1).at.1 1, (M.out.2.2.2.2.2.2.2.2.1).at.1 2, (M.out.2.2.2.2.2.2.2.2.1).at.1 3⟩) (fun hH78 => ?_)
            clear hK K hH77
            (try simp only [Act.put, List.setIfInBounds_toArray, List.set_cons_zero, List.set_cons_succ])
            refine wpAnyH_ready (rs := [9]) (by kernel_rfl) (by simp) ?_
            refine AllReadyH.cons at9 (fun K hK => ?_) AllReadyH.nil
            have y5 := (M.out.1).c2; have p5_0 := y5.1; have q5_0 := y5.2.1; have p5_1 := y5.2.2.1; have q5_1 := y5.2.2.2; clear y5
            go_simp
            clear p5_0 q5_0 p5_1 q5_1
            obtain ⟨w18, hv⟩ : ∃ w_ : World, w_ = ((w17.setCell ⟨w16.heap.size, 0, none⟩ (.int .i64 (sg z75))).setCell ⟨w16.heap.size, 1, none⟩ (.slice a_73 (ln z75) c_74)) := ⟨_, rfl⟩
            rw [← hv]
            have og : w17.grownBy w18 (some w16.heap.size) := by rw [hv]; exact (only_setCell (only_setCell (World.grownBy.refl _ _) _) _)
            have hz : w.heap.size ≤ w16.heap.size := by omega
            have hk : Bx w18 w16.heap.size 24 #[.int .i64 (sg z75), .slice a_73 (ln z75) c_74] := by rw [hv]; exact (((M.out.1).set 0 _).set 1 _)
            have hbw : Below w.heap.size w w18 := by rw [hv]; exact (Below.setCell (Below.setCell (M.out.2.2.2.2.2.2.2.2.2.2.2) (by omega) _) (by omega) _)
            replace M := Lib.hid (And.intro hk (And.intro ((M.out.2.1).far (M.out.1) (by rfl) (by omega) og) (And.intro ((M.out.2.2.1).far (M.out.1) (by rfl) (by omega) og) (And.intro ((M.out.2.2.2.1).only og (by omega)) (And.intro ((M.out.2.2.2.2.1).far (M.out.1) (by rfl) (by omega) og) (And.intro ((M.out.2.2.2.2.2.1).far (M.out.1) (by rfl) (by omega) og) (And.intro ((M.out.2.2.2.2.2.2.1).far (M.out.1) (by rfl) (by omega) og) (And.intro ((M.out.2.2.2.2.2.2.2.1).far (M.out.1) (by rfl) (by omega) og) (And.intro ((M.out.2.2.2.2.2.2.2.2.1).only og (by omega)) (And.intro ((M.out.2.2.2.2.2.2.2.2.2.1).only og (by omega)) (And.intro ((M.out.2.2.2.2.2.2.2.2.2.2.1).only og (by omega)) hbw)))))))))))
            clear hk hbw og hv hz
            refine hK.out _ _ (⟨(M.out.2.2.2.2.2.2.2.2.1).at.1 0, (M.out.2.2.2.2.2.2.2.2.1).at.1 1, (M.out.2.2.2.2.2.2.2.2.1).at.1 2, (M.out.2.2.2.2.2.2.2.2.1).at.1 3⟩) (fun hH79 => ?_)
            clear hK K hH78
            (try simp only [Act.put, List.setIfInBounds_toArray, List.set_cons_zero, List.set_cons_succ])
            refine tk at10 ?_
            refine wpAnyH_done (by kernel_rfl) ?_ _
            clear hH79
            go_wp2_with fail
            go_meet
            exact ⟨w16.heap.size, a_69, c_70, a_73, c_74, z75, rfl, rfl, Ez75, Sz75, (by omega), (M.out.1), (M.out.2.1), (M.out.2.2.1), (M.out.2.2.2.2.1), (M.out.2.2.2.2.2.1), (M.out.2.2.2.2.2.2.1), (M.out.2.2.2.2.2.2.2.1), (M.out.2.2.2.2.2.2.2.2.1), (M.out.2.2.2.2.2.2.2.2.2.1), (M.out.2.2.2.2.2.2.2.2.2.2.1), (M.out.2.2.2.1), (M.out.2.2.2.2.2.2.2.2.2.2.2)⟩
          refine AllReadyH.cons at8 (fun K hK => ?_) AllReadyH.nil
          go_simp
          obtain ⟨w16, hv⟩ : ∃ w_ : World, w_ = (w15.alloc (.cells #[.int .i64 0, .slice none 0 0] 24)) := ⟨_, rfl⟩
          rw [← hv]
          have o5 : A29 < w15.heap.size := ((M.out.2.1)).lt
          replace M := Lib.hid (And.intro (hv ▸ bx1 w15 24 #[.int .i64 0, .slice none 0 0]) (Goes.go M.out (hv ▸ below_alloc _ _ : Below w15.heap.size w15 w16)))
          clear hv
          refine hK.out _ _ (⟨(M.out.2.2.2.2.2.2.2.1).at.1 0, (M.out.2.2.2.2.2.2.2.1).at.1 1, (M.out.2.2.2.2.2.2.2.1).at.1 2, (M.out.2.2.2.2.2.2.2.1).at.1 3⟩) (fun hH80 => ?_)
          clear hK K hH72
          (try simp only [Act.put, List.setIfInBounds_toArray, List.set_cons_zero, List.set_cons_succ])
          refine wpAnyH_ready (rs := [4]) (by kernel_rfl) (by simp) ?_
          refine AllReadyH.cons at4 (fun K hK => ?_) AllReadyH.nil
          go_simp
          obtain ⟨z83, ez83⟩ : ∃ v_ : Int, v_ = ((de q) * v) := ⟨_, rfl⟩
          refine (bigMul_ok (G := G) (x := (de q)) (y := v) (H1.out.keep (M.out.2.2.2.2.2.2.2.2.2.2)).d (M.out.2.1) (Sz.mono HQ.out.2 (by omega)) (Sz.mono (sz_int (n := 0) HV.out) (by omega))).mono ?_
          rintro e w17 ⟨a_81, c_82, rfl, hd84, hb⟩
          rw [← ez83] at hd84 ⊢
          have Sz83 : Hid (Sz z83 44) := by show Sz z83 44; rw [ez83]; exact (Sz.mul HQ.out.2 (sz_int (n := 0) HV.out))
          have Ez83 := Lib.hid ez83; clear ez83
          replace M := Lib.hid (And.intro hd84 (Goes.go M.out hb))
          clear hb hd84
          (try go_wp2_with fail)
          refine hK.out _ _ (⟨(M.out.2.2.2.2.2.2.2.2.1).at.1 0, (M.out.2.2.2.2.2.2.2.2.1).at.1 1, (M.out.2.2.2.2.2.2.2.2.1).at.1 2, (M.out.2.2.2.2.2.2.2.2.1).at.1 3⟩) (fun hH85 => ?_)
          clear hK K hH80
          (try simp only [Act.put, List.setIfInBounds_toArray, List.set_cons_zero, List.set_cons_succ])
          refine tk at5 ?_
          refine tk at6 ?_
          refine tk at7 ?_
          refine wpAnyH_ready (rs := [9]) (by kernel_rfl) (by simp) ?_
          refine AllReadyH.cons at9 (fun K hK => ?_) AllReadyH.nil
          have y5 := (M.out.2.1).c2; have p5_0 := y5.1; have q5_0 := y5.2.1; have p5_1 := y5.2.2.1; have q5_1 := y5.2.2.2; clear y5
          go_simp
          clear p5_0 q5_0 p5_1 q5_1
          obtain ⟨w18, hv⟩ : ∃ w_ : World, w_ = ((w17.setCell ⟨w15.heap.size, 0, none⟩ (.int .i64 (sg z83))).setCell ⟨w15.heap.size, 1, none⟩ (.slice a_81 (ln z83) c_82)) := ⟨_, rfl⟩
          rw [← hv]
          have og : w17.grownBy w18 (some w15.heap.size) := by rw [hv]; exact (only_setCell (only_setCell (World.grownBy.refl _ _) _) _)
          have hz : w.heap.size ≤ w15.heap.size := by omega
          have hk : Bx w18 w15.heap.size 24 #[.int .i64 (sg z83), .slice a_81 (ln z83) c_82] := by rw [hv]; exact (((M.out.2.1).set 0 _).set 1 _)
          have hbw : Below w.heap.size w w18 := by rw [hv]; exact (Below.setCell (Below.setCell (M.out.2.2.2.2.2.2.2.2.2.2.2) (by omega) _) (by omega) _)
          replace M := Lib.hid (And.intro ((M.out.1).far (M.out.2.1) (by rfl) (by omega) og) (And.intro hk (And.intro ((M.out.2.2.1).far (M.out.2.1) (by rfl) (by omega) og) (And.intro ((M.out.2.2.2.1).only og (by omega)) (And.intro ((M.out.2.2.2.2.1).far (M.out.2.1) (by rfl) (by omega) og) (And.intro ((M.out.2.2.2.2.2.1).far (M.out.2.1) (by rfl) (by omega) og) (And.intro ((M.out.2.2.2.2.2.2.1).far (M.out.2.1) (by rfl) (by omega) og) (And.intro ((M.out.2.2.2.2.2.2.2.1).far (M.out.2.1) (by rfl) (by omega) og) (And.intro ((M.out.2.2.2.2.2.2.2.2.1).only og (by omega)) (And.intro ((M.out.2.2.2.2.2.2.2.2.2.1).only og (by omega)) (And.intro ((M.out.2.2.2.2.2.2.2.2.2.2.1).only og (by omega)) hbw)))))))))))
          clear hk hbw og hv hz
          refine hK.out _ _ (⟨(M.out.2.2.2.2.2.2.2.2.1).at.1 0, (M.out.2.2.2.2.2.2.2.2.1).at.1 1, (M.out.2.2.2.2.2.2.2.2.1).at.1 2, (M.out.2.2.2.2.2.2.2.2.1).at.1 3⟩) (fun hH86 => ?_)
          clear hK K hH85
          (try simp only [Act.put, List.setIfInBounds_toArray, List.set_cons_zero, List.set_cons_succ])
          refine tk at10 ?_
          refine wpAnyH_done (by kernel_rfl) ?_ _
          clear hH86
          go_wp2_with fail
          go_meet
          exact ⟨w15.heap.size, a_69, c_70, a_81, c_82, z83, rfl, rfl, Ez83, Sz83, (by omega), (M.out.2.1), (M.out.1), (M.out.2.2.1), (M.out.2.2.2.2.1), (M.out.2.2.2.2.2.1), (M.out.2.2.2.2.2.2.1), (M.out.2.2.2.2.2.2.2.1), (M.out.2.2.2.2.2.2.2.2.1), (M.out.2.2.2.2.2.2.2.2.2.1), (M.out.2.2.2.2.2.2.2.2.2.2.1), (M.out.2.2.2.1), (M.out.2.2.2.2.2.2.2.2.2.2.2)⟩
        refine AllReadyH.cons at8 (fun K hK => ?_) AllReadyH.nil
        go_simp
        obtain ⟨w15, hv⟩ : ∃ w_ : World, w_ = (w14.alloc (.cells #[.int .i64 0, .slice none 0 0] 24)) := ⟨_, rfl⟩
        rw [← hv]
        have o5 : A29 < w14.heap.size := ((M.out.1)).lt
        replace M := Lib.hid (And.intro (hv ▸ bx1 w14 24 #[.int .i64 0, .slice none 0 0]) (Goes.go M.out (hv ▸ below_alloc _ _ : Below w14.heap.size w14 w15)))
        clear hv
        refine hK.out _ _ (⟨(M.out.2.2.2.2.2.2.1).at.1 0, (M.out.2.2.2.2.2.2.1).at.1 1, (M.out.2.2.2.2.2.2.1).at.1 2, (M.out.2.2.2.2.2.2.1).at.1 3⟩) (fun hH87 => ?_)
        clear hK K hH68
        (try simp only [Act.put, List.setIfInBounds_toArray, List.set_cons_zero, List.set_cons_succ])
        refine wpAnyH_ready (rs := [3]) (by kernel_rfl) (by simp) ?_
        refine AllReadyH.cons at3 (fun K hK => ?_) AllReadyH.nil
        go_simp
        refine (bigOf_ok (G := G) v _ HV.out).mono ?_
        rintro e w16 ⟨a_88, c_89, rfl, hd90, hb⟩
        replace M := Lib.hid (And.intro hd90 (Goes.go M.out hb))
        clear hb hd90
        (try go_wp2_with fail)
        refine hK.out _ _ (⟨(M.out.2.2.2.2.2.2.2.1).at.1 0, (M.out.2.2.2.2.2.2.2.1).at.1 1, (M.out.2.2.2.2.2.2.2.1).at.1 2, (M.out.2.2.2.2.2.2.2.1).at.1 3⟩) (fun hH91 => ?_)
        clear hK K hH87
        (try simp only [Act.put, List.setIfInBounds_toArray, List.set_cons_zero, List.set_cons_succ])
        refine wpAnyH_ready (rs := [4]) (by kernel_rfl) (by simp) ?_
        refine AllReadyH.cons at4 (fun K hK => ?_) AllReadyH.nil
        go_simp
        obtain ⟨z94, ez94⟩ : ∃ v_ : Int, v_ = ((de q) * v) := ⟨_, rfl⟩
        refine (bigMul_ok (G := G) (x := (de q)) (y := v) (H1.out.keep (M.out.2.2.2.2.2.2.2.2.2.2)).d (M.out.1) (Sz.mono HQ.out.2 (by omega)) (Sz.mono (sz_int (n := 0) HV.out) (by omega))).mono ?_
        rintro e w17 ⟨a_92, c_93, rfl, hd95, hb⟩
        rw [← ez94] at hd95 ⊢
        have Sz94 : Hid (Sz z94 44) := by show Sz z94 44; rw [ez94]; exact (Sz.mul HQ.out.2 (sz_int (n := 0) HV.out))
        have Ez94 := Lib.hid ez94; clear ez94
        replace M := Lib.hid (And.intro hd95 (Goes.go M.out hb))
        clear hb hd95
        (try go_wp2_with fail)
        refine hK.out _ _ (⟨(M.out.2.2.2.2.2.2.2.2.1).at.1 0, (M.out.2.2.2.2.2.2.2.2.1).at.1 1, (M.out.2.2.2.2.2.2.2.2.1).at.1 2, (M.out.2.2.2.2.2.2.2.2.1).at.1 3⟩) (fun hH96 => ?_)
        clear hK K hH91
        (try simp only [Act.put, List.setIfInBounds_toArray, List.set_cons_zero, List.set_cons_succ])
        refine tk at5 ?_
        refine tk at6 ?_
        refine tk at7 ?_
        refine wpAnyH_ready (rs := [9]) (by kernel_rfl) (by simp) ?_
        refine AllReadyH.cons at9 (fun K hK => ?_) AllReadyH.nil
        have y5 := (M.out.2.2.1).c2; have p5_0 := y5.1; have q5_0 := y5.2.1; have p5_1 := y5.2.2.1; have q5_1 := y5.2.2.2; clear y5
        go_simp
        clear p5_0 q5_0 p5_1 q5_1
        obtain ⟨w18, hv⟩ : ∃ w_ : World, w_ = ((w17.setCell ⟨w14.heap.size, 0, none⟩ (.int .i64 (sg z94))).setCell ⟨w14.heap.size, 1, none⟩ (.slice a_92 (ln z94) c_93)) := ⟨_, rfl⟩
        rw [← hv]
        have og : w17.grownBy w18 (some w14.heap.size) := by rw [hv]; exact (only_setCell (only_setCell (World.grownBy.refl _ _) _) _)
        have hz : w.heap.size ≤ w14.heap.size := by omega
        have hk : Bx w18 w14.heap.size 24 #[.int .i64 (sg z94), .slice a_92 (ln z94) c_93] := by rw [hv]; exact (((M.out.2.2.1).set 0 _).set 1 _)
        have hbw : Below w.heap.size w w18 := by rw [hv]; exact (Below.setCell (Below.setCell (M.out.2.2.2.2.2.2.2.2.2.2.2) (by omega) _) (by omega) _)
        replace M := Lib.hid (And.intro ((M.out.1).far (M.out.2.2.1) (by rfl) (by omega) og) (And.intro ((M.out.2.1).far (M.out.2.2.1) (by rfl) (by omega) og) (And.intro hk (And.intro ((M.out.2.2.2.1).only og (by omega)) (And.intro ((M.out.2.2.2.2.1).far (M.out.2.2.1) (by rfl) (by omega) og) (And.intro ((M.out.2.2.2.2.2.1).far (M.out.2.2.1) (by rfl) (by omega) og) (And.intro ((M.out.2.2.2.2.2.2.1).far (M.out.2.2.1) (by rfl) (by omega) og) (And.intro ((M.out.2.2.2.2.2.2.2.1).far (M.out.2.2.1) (by rfl) (by omega) og) (And.intro ((M.out.2.2.2.2.2.2.2.2.1).only og (by omega)) (And.intro ((M.out.2.2.2.2.2.2.2.2.2.1).only og (by omega)) (And.intro ((M.out.2.2.2.2.2.2.2.2.2.2.1).only og (by omega)) hbw)))))))))))
        clear hk hbw og hv hz
        refine hK.out _ _ (⟨(M.out.2.2.2.2.2.2.2.2.1).at.1 0, (M.out.2.2.2.2.2.2.2.2.1).at.1 1, (M.out.2.2.2.2.2.2.2.2.1).at.1 2, (M.out.2.2.2.2.2.2.2.2.1).at.1 3⟩) (fun hH97 => ?_)
        clear hK K hH96
        (try simp only [Act.put, List.setIfInBounds_toArray, List.set_cons_zero, List.set_cons_succ])
        refine tk at10 ?_
        refine wpAnyH_done (by kernel_rfl) ?_ _
        clear hH97
        go_wp2_with fail
        go_meet
        exact ⟨w14.heap.size, a_88, c_89, a_92, c_93, z94, rfl, rfl, Ez94, Sz94, (by omega), (M.out.2.2.1), (M.out.1), (M.out.2.1), (M.out.2.2.2.2.1), (M.out.2.2.2.2.2.1), (M.out.2.2.2.2.2.2.1), (M.out.2.2.2.2.2.2.2.1), (M.out.2.2.2.2.2.2.2.2.1), (M.out.2.2.2.2.2.2.2.2.2.1), (M.out.2.2.2.2.2.2.2.2.2.2.1), (M.out.2.2.2.1), (M.out.2.2.2.2.2.2.2.2.2.2.2)⟩
      case rest =>
        obtain ⟨A67, a_60, c_61, a_63, c_64, z65, rfl, rfl, Ez65, Sz65, oA67, M⟩ := hcut
        obtain ⟨w14, rfl⟩ : ∃ w_ : World, w_ = wc := ⟨_, rfl⟩
        have y4 := (M.out.2.2.2.2.2.2.2.2.2.2.1).c2; have p4_0 := y4.1; have q4_0 := y4.2.1; have p4_1 := y4.2.2.1; have q4_1 := y4.2.2.2; clear y4
        have y5 := (M.out.1).c2; have p5_0 := y5.1; have q5_0 := y5.2.1; have p5_1 := y5.2.2.1; have q5_1 := y5.2.2.2; clear y5
        go_wp2_with fail
        clear p4_0 q4_0 p4_1 q4_1 p5_0 q5_0 p5_1 q5_1
        refine (new_is (G := G) (x := z27) (y := z65) (q := q) (Nat.le_trans hG (M.out.2.2.2.2.2.2.2.2.2.2.2).size) (M.out.2.2.2.1) (M.out.2.1) (Sz.mono Sz27.out (by omega)) (Sz.mono Sz65.out (by omega)) (by rw [Ez65.out]; exact HV0.out) (by rw [Ez65.out, Ez27.out]; exact HV1.out)).mono ?_
        rintro e w15 ⟨a_98, c_99, b_100, d_101, rfl, hd102, hb⟩
        replace M := Lib.hid (And.intro hd102 (Goes.go M.out hb))
        clear hb hd102
        go_upto_region 15 with fail
        obtain ⟨w16, hv⟩ : ∃ w_ : World, w_ = (w15.alloc (.cells #[.int .i64 (sg (nu q)), .slice a_98 (ln (nu q)) c_99, .int .i64 (sg (de q)), .slice b_100 (ln (de q)) d_101] 26)) := ⟨_, rfl⟩
        rw [← hv]
        have o6 : A67 < w15.heap.size := ((M.out.2.1)).lt
        replace M := Lib.hid (And.intro (hv ▸ bx1 w15 26 #[.int .i64 (sg (nu q)), .slice a_98 (ln (nu q)) c_99, .int .i64 (sg (de q)), .slice b_100 (ln (de q)) d_101]) (Goes.go M.out (hv ▸ below_alloc _ _ : Below w15.heap.size w15 w16)))
        clear hv
        as_aux_lemma =>
         have y2 := (M.out.2.2.2.2.2.2.2.2.2.2.1).c4; have p2_0 := y2.1; have q2_0 := y2.2.1; have p2_1 := y2.2.2.1; have q2_1 := y2.2.2.2.1; have p2_2 := y2.2.2.2.2.1; have q2_2 := y2.2.2.2.2.2.1; have p2_3 := y2.2.2.2.2.2.2.1; have q2_3 := y2.2.2.2.2.2.2.2; clear y2
         have y0 := (M.out.2.2.2.2.2.2.2.2.2.1).c4; have p0_0 := y0.1; have q0_0 := y0.2.1; have p0_1 := y0.2.2.1; have q0_1 := y0.2.2.2.1; have p0_2 := y0.2.2.2.2.1; have q0_2 := y0.2.2.2.2.2.1; have p0_3 := y0.2.2.2.2.2.2.1; have q0_3 := y0.2.2.2.2.2.2.2; clear y0
         go_wp2_with fail
         clear p2_0 q2_0 p2_1 q2_1 p2_2 q2_2 p2_3 q2_3 p0_0 q0_0 p0_1 q0_1 p0_2 q0_2 p0_3 q0_3
         replace M := Lib.hid (And.intro (M.out.1) (And.intro (M.out.2.1) (And.intro (M.out.2.2.2.2.2.2.1) (And.intro (M.out.2.2.2.2.2.2.2.1) (And.intro (M.out.2.2.2.2.2.2.2.2.1) (And.intro (M.out.2.2.2.2.2.2.2.2.2.1) (And.intro (M.out.2.2.2.2.2.2.2.2.2.2.2.1) (M.out.2.2.2.2.2.2.2.2.2.2.2.2.2))))))))
         refine (rfsame_two (G := G) (x := z13) (y := z14) (u := (nu q)) (v := (de q)) (M.out.2.2.2.1) (M.out.2.2.2.2.1) (H1.out.keep (M.out.2.2.2.2.2.2.2)).n (H1.out.keep (M.out.2.2.2.2.2.2.2)).d (Sz.mono Sz13.out (by omega)) (Sz.mono Sz14.out (by omega)) (by rw [Ez13.out]; rfl) (by rw [Ez14.out]; rfl)).mono ?_
         rintro e w17 ⟨rfl, hb⟩
         replace M := Lib.hid (Goes.go M.out hb)
         clear hb
         have y3 := (M.out.2.2.2.2.2.2.1).c4; have p3_0 := y3.1; have q3_0 := y3.2.1; have p3_1 := y3.2.2.1; have q3_1 := y3.2.2.2.1; have p3_2 := y3.2.2.2.2.1; have q3_2 := y3.2.2.2.2.2.1; have p3_3 := y3.2.2.2.2.2.2.1; have q3_3 := y3.2.2.2.2.2.2.2; clear y3
         have y0 := (M.out.2.2.2.2.2.1).c4; have p0_0 := y0.1; have q0_0 := y0.2.1; have p0_1 := y0.2.2.1; have q0_1 := y0.2.2.2.1; have p0_2 := y0.2.2.2.2.1; have q0_2 := y0.2.2.2.2.2.1; have p0_3 := y0.2.2.2.2.2.2.1; have q0_3 := y0.2.2.2.2.2.2.2; clear y0
         go_wp2_with fail
         clear p3_0 q3_0 p3_1 q3_1 p3_2 q3_2 p3_3 q3_3 p0_0 q0_0 p0_1 q0_1 p0_2 q0_2 p0_3 q0_3
         refine (rfsame_q (G := G) (q := q) (r := q) (M.out.2.2.1) (H1.out.keep (M.out.2.2.2.2.2.2.2)) (Fz.mono HQ.out (by omega)) rfl).mono ?_
         rintro e w18 ⟨rfl, hb⟩
         replace M := Lib.hid (Goes.go M.out hb)
         clear hb
         have y6 := (M.out.1).c4; have p6_0 := y6.1; have q6_0 := y6.2.1; have p6_1 := y6.2.2.1; have q6_1 := y6.2.2.2.1; have p6_2 := y6.2.2.2.2.1; have q6_2 := y6.2.2.2.2.2.1; have p6_3 := y6.2.2.2.2.2.2.1; have q6_3 := y6.2.2.2.2.2.2.2; clear y6
         have y0 := (M.out.2.2.2.2.2.1).c4; have p0_0 := y0.1; have q0_0 := y0.2.1; have p0_1 := y0.2.2.1; have q0_1 := y0.2.2.2.1; have p0_2 := y0.2.2.2.2.1; have q0_2 := y0.2.2.2.2.2.1; have p0_3 := y0.2.2.2.2.2.2.1; have q0_3 := y0.2.2.2.2.2.2.2; clear y0
         go_wp2_with fail
         clear p6_0 q6_0 p6_1 q6_1 p6_2 q6_2 p6_3 q6_3 p0_0 q0_0 p0_1 q0_1 p0_2 q0_2 p0_3 q0_3
         replace M := Lib.hid (And.intro (M.out.2.1) (M.out.2.2.2.2.2.2.2))
         refine (rfsame_q (G := G) (q := q) (r := q) (M.out.1) (H1.out.keep (M.out.2)) (Fz.mono HQ.out (by omega)) rfl).mono ?_
         rintro e w19 ⟨rfl, hb⟩
         replace M := Lib.hid (Goes.go M.out hb)
         clear hb
         go_wp2_with fail
         go_ret
         exact ⟨rfl, (M.out.2)⟩

theorem back_walk {S : ByteArray} {v sa ta : Int} {la ma : List Int} {a1 b1 : Option Addr} {c1 d1 : Nat} {w : World} (hv_ : (Lit.int .i64 v).wf = true) (ht : Tab w) (hm : Mx w) (h1 : FR w a1 c1 b1 d1 la ma) :
    Calls Tryz.prog 6 #[.agg #[.int .i64 sa, .slice a1 la.length c1, .int .i64 ta, .slice b1 ma.length d1], .int .i64 v, .string S] w fun e w' => e = .returned (.bool true) ∧ Below w.heap.size w w' := by
  have hv : -9223372036854775808 ≤ v ∧ v ≤ 9223372036854775807 := by simpa [Lit.wf, IntKind.min, IntKind.max, IntKind.signed, IntKind.bits] using hv_
  cases hn : (!decide (300 < S.size) && (decide ((la.length : Int) ≤ 40) && decide ((ma.length : Int) ≤ 40))) with
  | false => exact back_not (G := w.heap.size) (Nat.le_refl _) ht hm h1 hn
  | true =>
    rw [Bool.and_eq_true] at hn
    obtain ⟨hs, hf⟩ := hn
    obtain ⟨l, hS⟩ : ∃ l : List UInt8, S = ⟨l.toArray⟩ := ⟨_, str_eta S⟩
    have hlen : l.length ≤ 300 := by
      have : ¬ 300 < S.size := by simpa using hs
      rw [hS] at this; simp [ByteArray.size] at this; omega
    cases hr : rightF sa la ta ma with
    | false =>
      cases ho : readF l with
      | some gq => exact back_bad_ok (G := w.heap.size) (Nat.le_refl _) ht hm h1 hf hr hS hlen ho hv
      | none => exact back_bad_no (G := w.heap.size) (Nat.le_refl _) ht hm h1 hf hr hS hlen ho hv
    | true =>
      obtain ⟨q, es, el, et, em, ba⟩ := fd_of_right h1 hr
      rw [el, em] at hf
      rw [es, el, et, em]
      simp only [Bool.and_eq_true] at hf
      have hq : Fz q 40 := ⟨few_sz_of hf.1 rfl, few_sz_of hf.2 rfl⟩
      by_cases h0 : v = 0
      · cases ho : readF l with
        | some gq => exact back_zero_ok (G := w.heap.size) (Nat.le_refl _) ht hm ba hq h0 hS hlen ho hv
        | none => exact back_zero_no (G := w.heap.size) (Nat.le_refl _) ht hm ba hq h0 hS hlen ho hv
      · cases ho : readF l with
        | some gq => exact back_one_ok (G := w.heap.size) (Nat.le_refl _) ht hm ba hq h0 hS hlen ho hv
        | none => exact back_one_no (G := w.heap.size) (Nat.le_refl _) ht hm ba hq h0 hS hlen ho hv

end Go.Proofs.YtcfmakpckdicjaaGreatDoor
