/- The walk of BigBack: whatever the arguments, it returns true. -/
import Derived.Test.YtlinegodpoihoaaDoorLaw04c
import Derived.Test.YtlinegodpoihoaaDoorBigRead3
namespace Go.Proofs.YtlinegodpoihoaaDoor
open Go.RowKit Go.Lib
variable {G : Nat}

theorem bigText_none {s : Int} {a : Option Addr} {n c : Nat} {l : List Int} {w : World} (h : RdZ w (.slice a n c) l) (hn : n ≤ 1099511627776) (hb : rightB s l = false) :
    Calls Tryd.prog 18 #[.agg #[.int .i64 s, .slice a n c]] w fun e w' => e = .returned (.string {data := #[]}) ∧ Below w.heap.size w w' := by
  have HH := Lib.hid h; have HN := Lib.hid hn; have HB := Lib.hid hb
  clear h hn hb
  go_enter Tryd.func18, Tryd.ntmps18
  go_upto_region 1 with fail
  obtain ⟨w1, hv⟩ : ∃ w_ : World, w_ = w.alloc (.cells #[.int .i64 s, .slice a n c] 24) := ⟨_, rfl⟩
  rw [← hv]
  have K : Hid (Bx w1 w.heap.size 24 #[.int .i64 s, .slice a n c]) := by show Bx _ _ _ _; rw [hv]; exact bx1 w _ _
  have HB1 : Hid (Below w.heap.size w w1) := by show Below _ _ _; rw [hv]; exact below_alloc _ _
  clear hv
  obtain ⟨p0, q0, p1, q1⟩ := K.out.c2
  go_wp2_with fail
  refine (bigRight_len (HH.out.keep HB1.out) HN.out HB.out).mono ?_
  rintro e w2 ⟨rfl, hb⟩
  have HB2 := Lib.hid (below_call HB1.out hb)
  clear hb p0 q0 p1 q1
  go_wp2_with fail
  go_ret
  exact ⟨rfl, HB2.out⟩
theorem str_eta (S : ByteArray) : S = ⟨S.data.toList.toArray⟩ := by cases S; simp
theorem cat_seven (l : List UInt8) : (⟨l.toArray⟩ : ByteArray) ++ {data := #[55]} = ⟨(l ++ [55]).toArray⟩ := ba_app l [55]

set_option maxRecDepth 100000 in
set_option maxHeartbeats 4000000 in
theorem back_not {S : ByteArray} {sa : Int} {la : List Int} {a1 : Option Addr} {c1 : Nat} {w : World} (hG : G ≤ w.heap.size) (ht : Tab w) (h1 : RdZ w (.slice a1 la.length c1) la) (hn : (!decide (400 < S.size) && decide ((la.length : Int) ≤ 60)) = false)  :
    Calls Tryd.prog 4 #[.agg #[.int .i64 sa, .slice a1 la.length c1], .string S] w fun e w' => e = .returned (.bool true) ∧ Below w.heap.size w w' := by
  obtain ⟨bl, hbl⟩ : ∃ b, decide (400 < S.size) = b := ⟨_, rfl⟩
  obtain ⟨fa, hfa⟩ : ∃ b, decide ((la.length : Int) ≤ 60) = b := ⟨_, rfl⟩
  rw [hbl, hfa] at hn
  have hbl2 : decide ((400 : Int) < (S.size : Int)) = bl := by rw [← hbl]; exact decide_eq_decide.2 (by omega)
  have HFa := Lib.hid hfa; have HN := Lib.hid hn
  clear hn hfa
  have HT : Hid (Tab w) := ht
  have H1 : Hid (RdZ w (.slice a1 la.length c1) la) := h1
  clear ht h1
  have M : Hid (Below w.heap.size w w) := Below.refl _ _
  go_enter Tryd.func4, Tryd.ntmps4
  go_upto_region 1 with fail
  obtain ⟨w1, hv⟩ : ∃ w_ : World, w_ = (w.alloc (.cells #[.int .i64 sa, .slice a1 la.length c1] 24)) := ⟨_, rfl⟩
  rw [← hv]
  replace M := Lib.hid (And.intro (hv ▸ bx1 w 24 #[.int .i64 sa, .slice a1 la.length c1]) (Goes.go M.out (hv ▸ below_alloc _ _ : Below w.heap.size w w1)))
  clear hv
  go_wp2_with fail
  refine (small_ok (G := G) (Nat.le_trans hG (M.out.2).size) (HT.out.keep (M.out.2))).mono ?_
  rintro e w2 ⟨rfl, hb⟩
  replace M := Lib.hid (Goes.go M.out hb)
  clear hb
  cases bl with
  | false =>
    obtain ⟨p0_0, q0_0, p0_1, q0_1⟩ := (M.out.1).c2
    go_wp2_with fail
    clear p0_0 q0_0 p0_1 q0_1
    refine (bigFew_ok (s := sa) (m := 60) (b := fa) HFa.out).mono ?_
    rintro e w3 ⟨rfl, hb⟩
    replace M := Lib.hid (Goes.go M.out hb)
    clear hb
    cases fa with
    | false =>
      go_wp2_with fail
      go_ret
      exact ⟨rfl, (M.out.2)⟩
    | true =>
      go_upto_region 4 with fail
      exact absurd HN.out (by decide)
  | true =>
    go_wp2_with fail
    go_ret
    exact ⟨rfl, (M.out.2)⟩

theorem rd_size {l : List UInt8} {n : Nat} (h : l.length ≤ n) : Sz (rdZ l) n := by
  unfold rdZ
  cases ho : readO l with
  | none => exact (show (digs 0).length ≤ n from Nat.zero_le _)
  | some z =>
    show Sz z n
    have ht : textZ z = l := by
      have := text_read (l := l) (by unfold rdE; rw [ho]; rfl)
      unfold rdZ at this; rw [ho] at this; exact this
    have h1 : decVal (decDigits z.natAbs) < 10 ^ (decDigits z.natAbs).length := decVal_lt _ (all_dec _)
    rw [decVal_dec] at h1
    have h2 : (decDigits z.natAbs).length ≤ n := by
      have : (textZ z).length ≤ n := by rw [ht]; exact h
      unfold textZ at this
      split at this
      · simp at this; omega
      · exact this
    refine digs_len_of_lt (Nat.lt_of_lt_of_le h1 ?_)
    exact Nat.le_trans (Nat.pow_le_pow_right (by decide) h2) (Nat.pow_le_pow_left (by decide) n)
theorem text_len {x : Int} (h : Sz x 60) : (textZ x).length ≤ 601 := by
  have := dec_len h (by omega)
  unfold textZ
  split
  · simp; omega
  · omega

set_option maxRecDepth 100000 in
set_option maxHeartbeats 8000000 in
theorem back_bad_ok {S : ByteArray} {l : List UInt8} {sa : Int} {la : List Int} {a1 : Option Addr} {c1 : Nat} {w : World} (hG : G ≤ w.heap.size) (ht : Tab w) (h1 : RdZ w (.slice a1 la.length c1) la) (hfa : decide ((la.length : Int) ≤ 60) = true) (hra : rightB sa la = false) (hS : S = ⟨l.toArray⟩) (hlen : l.length ≤ 400) (hf : rdE l = 0)  :
    Calls Tryd.prog 4 #[.agg #[.int .i64 sa, .slice a1 la.length c1], .string S] w fun e w' => e = .returned (.bool true) ∧ Below w.heap.size w w' := by
  have hsz : ¬ 400 < S.size := by rw [hS]; simp [ByteArray.size]; omega
  have hbl : decide (400 < S.size) = false := decide_eq_false hsz
  have hbl2 : decide ((400 : Int) < (S.size : Int)) = false := decide_eq_false (by omega)
  obtain ⟨zr, hzr⟩ : ∃ z, rdZ l = z := ⟨_, rfl⟩
  have HZR := Lib.hid hzr
  have HS := Lib.hid hS
  have HLN : Hid (l.length ≤ 1000000) := by show _ ≤ _; omega
  have HSZ : Hid (Sz zr 400) := by show Sz _ _; rw [← hzr]; exact rd_size hlen
  have HRE := Lib.hid hf
  have HTX : Hid ((⟨(textZ zr).toArray⟩ : ByteArray) = S) := by show _ = _; rw [← hzr, text_read hf, hS]
  have HFa := Lib.hid hfa; have HRa := Lib.hid hra
  clear hfa hra hS hlen hf hzr hsz
  have HT : Hid (Tab w) := ht
  have H1 : Hid (RdZ w (.slice a1 la.length c1) la) := h1
  clear ht h1
  have M : Hid (Below w.heap.size w w) := Below.refl _ _
  go_enter Tryd.func4, Tryd.ntmps4
  go_upto_region 1 with fail
  obtain ⟨w1, hv⟩ : ∃ w_ : World, w_ = (w.alloc (.cells #[.int .i64 sa, .slice a1 la.length c1] 24)) := ⟨_, rfl⟩
  rw [← hv]
  replace M := Lib.hid (And.intro (hv ▸ bx1 w 24 #[.int .i64 sa, .slice a1 la.length c1]) (Goes.go M.out (hv ▸ below_alloc _ _ : Below w.heap.size w w1)))
  clear hv
  go_wp2_with fail
  refine (small_ok (G := G) (Nat.le_trans hG (M.out.2).size) (HT.out.keep (M.out.2))).mono ?_
  rintro e w2 ⟨rfl, hb⟩
  replace M := Lib.hid (Goes.go M.out hb)
  clear hb
  obtain ⟨p0_0, q0_0, p0_1, q0_1⟩ := (M.out.1).c2
  go_wp2_with fail
  clear p0_0 q0_0 p0_1 q0_1
  refine (bigFew_ok (s := sa) (m := 60) (b := true) HFa.out).mono ?_
  rintro e w3 ⟨rfl, hb⟩
  replace M := Lib.hid (Goes.go M.out hb)
  clear hb
  go_wp2_with fail
  refine (bigRead_v (G := G) (S := S) (z := zr) (er := 0) HS.out HLN.out HZR.out HRE.out).mono ?_
  rintro e w4 ⟨a_1, c_2, rfl, hd3, hb⟩
  replace M := Lib.hid (And.intro hd3 (Goes.go M.out hb))
  clear hb hd3
  go_upto_region 5 with fail
  obtain ⟨w5, hv⟩ : ∃ w_ : World, w_ = (w4.alloc (.cells #[.int .i64 (sg zr), .slice a_1 (ln zr) c_2] 24)) := ⟨_, rfl⟩
  rw [← hv]
  have o1 : w.heap.size < w4.heap.size := ((M.out.2.1)).lt
  replace M := Lib.hid (And.intro (hv ▸ bx1 w4 24 #[.int .i64 (sg zr), .slice a_1 (ln zr) c_2]) (Goes.go M.out (hv ▸ below_alloc _ _ : Below w4.heap.size w4 w5)))
  clear hv
  obtain ⟨p1_0, q1_0, p1_1, q1_1⟩ := (M.out.1).c2
  go_wp2_with fail
  clear p1_0 q1_0 p1_1 q1_1
  refine (bigRight_ok (G := G) (z := zr) (M.out.2.1) (Sz.mono HSZ.out (by omega))).mono ?_
  rintro e w6 ⟨rfl, hb⟩
  replace M := Lib.hid (Goes.go M.out hb)
  clear hb
  obtain ⟨p1_0, q1_0, p1_1, q1_1⟩ := (M.out.1).c2
  go_wp2_with fail
  clear p1_0 q1_0 p1_1 q1_1
  refine (bigText_lit (G := G) (x := zr) (s := S) (M.out.2.1) (Sz.mono HSZ.out (by omega)) (HT.out.keep (M.out.2.2.2)) HTX.out).mono ?_
  rintro e w7 ⟨rfl, hb⟩
  replace M := Lib.hid (Goes.go M.out hb)
  clear hb
  obtain ⟨p0_0, q0_0, p0_1, q0_1⟩ := (M.out.2.2.1).c2
  go_wp2_with fail
  clear p0_0 q0_0 p0_1 q0_1
  refine (bigRight_len (s := sa) (b := false) (H1.out.keep (M.out.2.2.2)) (len_of HFa.out (by decide)) HRa.out).mono ?_
  rintro e w8 ⟨rfl, hb⟩
  replace M := Lib.hid (Goes.go M.out hb)
  clear hb
  obtain ⟨p0_0, q0_0, p0_1, q0_1⟩ := (M.out.2.2.1).c2
  go_wp2_with fail
  clear p0_0 q0_0 p0_1 q0_1
  refine (bigText_none (s := sa) (H1.out.keep (M.out.2.2.2)) (len_of HFa.out (by decide)) HRa.out).mono ?_
  rintro e w9 ⟨rfl, hb⟩
  replace M := Lib.hid (Goes.go M.out hb)
  clear hb
  go_wp2_with fail
  go_ret
  exact ⟨rfl, (M.out.2.2.2)⟩

set_option maxRecDepth 100000 in
set_option maxHeartbeats 8000000 in
theorem back_bad_no {S : ByteArray} {l : List UInt8} {sa : Int} {la : List Int} {a1 : Option Addr} {c1 : Nat} {w : World} (hG : G ≤ w.heap.size) (ht : Tab w) (h1 : RdZ w (.slice a1 la.length c1) la) (hfa : decide ((la.length : Int) ≤ 60) = true) (hra : rightB sa la = false) (hS : S = ⟨l.toArray⟩) (hlen : l.length ≤ 400) (hf : rdE l = 2)  :
    Calls Tryd.prog 4 #[.agg #[.int .i64 sa, .slice a1 la.length c1], .string S] w fun e w' => e = .returned (.bool true) ∧ Below w.heap.size w w' := by
  have hsz : ¬ 400 < S.size := by rw [hS]; simp [ByteArray.size]; omega
  have hbl : decide (400 < S.size) = false := decide_eq_false hsz
  have hbl2 : decide ((400 : Int) < (S.size : Int)) = false := decide_eq_false (by omega)
  obtain ⟨zr, hzr⟩ : ∃ z, rdZ l = z := ⟨_, rfl⟩
  have HZR := Lib.hid hzr
  have HS := Lib.hid hS
  have HLN : Hid (l.length ≤ 1000000) := by show _ ≤ _; omega
  have HSZ : Hid (Sz zr 400) := by show Sz _ _; rw [← hzr]; exact rd_size hlen
  have HRE := Lib.hid hf
  have HZ0 : Hid (zr = 0) := by show _ = _; rw [← hzr]; rcases read_cases l with h | h; rw [hf] at h; cases h; exact h.2
  have HFa := Lib.hid hfa; have HRa := Lib.hid hra
  clear hfa hra hS hlen hf hzr hsz
  have HT : Hid (Tab w) := ht
  have H1 : Hid (RdZ w (.slice a1 la.length c1) la) := h1
  clear ht h1
  have M : Hid (Below w.heap.size w w) := Below.refl _ _
  go_enter Tryd.func4, Tryd.ntmps4
  go_upto_region 1 with fail
  obtain ⟨w1, hv⟩ : ∃ w_ : World, w_ = (w.alloc (.cells #[.int .i64 sa, .slice a1 la.length c1] 24)) := ⟨_, rfl⟩
  rw [← hv]
  replace M := Lib.hid (And.intro (hv ▸ bx1 w 24 #[.int .i64 sa, .slice a1 la.length c1]) (Goes.go M.out (hv ▸ below_alloc _ _ : Below w.heap.size w w1)))
  clear hv
  go_wp2_with fail
  refine (small_ok (G := G) (Nat.le_trans hG (M.out.2).size) (HT.out.keep (M.out.2))).mono ?_
  rintro e w2 ⟨rfl, hb⟩
  replace M := Lib.hid (Goes.go M.out hb)
  clear hb
  obtain ⟨p0_0, q0_0, p0_1, q0_1⟩ := (M.out.1).c2
  go_wp2_with fail
  clear p0_0 q0_0 p0_1 q0_1
  refine (bigFew_ok (s := sa) (m := 60) (b := true) HFa.out).mono ?_
  rintro e w3 ⟨rfl, hb⟩
  replace M := Lib.hid (Goes.go M.out hb)
  clear hb
  go_wp2_with fail
  refine (bigRead_v (G := G) (S := S) (z := zr) (er := 2) HS.out HLN.out HZR.out HRE.out).mono ?_
  rintro e w4 ⟨a_1, c_2, rfl, hd3, hb⟩
  replace M := Lib.hid (And.intro hd3 (Goes.go M.out hb))
  clear hb hd3
  go_upto_region 5 with fail
  obtain ⟨w5, hv⟩ : ∃ w_ : World, w_ = (w4.alloc (.cells #[.int .i64 (sg zr), .slice a_1 (ln zr) c_2] 24)) := ⟨_, rfl⟩
  rw [← hv]
  have o1 : w.heap.size < w4.heap.size := ((M.out.2.1)).lt
  replace M := Lib.hid (And.intro (hv ▸ bx1 w4 24 #[.int .i64 (sg zr), .slice a_1 (ln zr) c_2]) (Goes.go M.out (hv ▸ below_alloc _ _ : Below w4.heap.size w4 w5)))
  clear hv
  obtain ⟨p1_0, q1_0, p1_1, q1_1⟩ := (M.out.1).c2
  go_wp2_with fail
  clear p1_0 q1_0 p1_1 q1_1
  refine (bigSame_is (G := G) (x := zr) (y := 0) (b := true) (M.out.2.1) (bd_zero _ _ _) (Sz.mono HSZ.out (by omega)) (Sz.mono (show Sz (0) 0 from by unfold Sz; decide) (by omega)) (eqZ_of HZ0.out)).mono ?_
  rintro e w6 ⟨rfl, hb⟩
  replace M := Lib.hid (Goes.go M.out hb)
  clear hb
  obtain ⟨p0_0, q0_0, p0_1, q0_1⟩ := (M.out.2.2.1).c2
  go_wp2_with fail
  clear p0_0 q0_0 p0_1 q0_1
  refine (bigRight_len (s := sa) (b := false) (H1.out.keep (M.out.2.2.2)) (len_of HFa.out (by decide)) HRa.out).mono ?_
  rintro e w7 ⟨rfl, hb⟩
  replace M := Lib.hid (Goes.go M.out hb)
  clear hb
  obtain ⟨p0_0, q0_0, p0_1, q0_1⟩ := (M.out.2.2.1).c2
  go_wp2_with fail
  clear p0_0 q0_0 p0_1 q0_1
  refine (bigText_none (s := sa) (H1.out.keep (M.out.2.2.2)) (len_of HFa.out (by decide)) HRa.out).mono ?_
  rintro e w8 ⟨rfl, hb⟩
  replace M := Lib.hid (Goes.go M.out hb)
  clear hb
  go_wp2_with fail
  go_ret
  exact ⟨rfl, (M.out.2.2.2)⟩

set_option maxRecDepth 100000 in
set_option maxHeartbeats 8000000 in
theorem back_zero_ok {S : ByteArray} {l : List UInt8} {x : Int} {a1 : Option Addr} {c1 : Nat} {w : World} (hG : G ≤ w.heap.size) (ht : Tab w) (h1 : BD G w a1 c1 x) (hx : Sz x 60) (hx0 : x = 0) (hS : S = ⟨l.toArray⟩) (hlen : l.length ≤ 400) (hf : rdE l = 0)  :
    Calls Tryd.prog 4 #[.agg #[.int .i64 (sg x), .slice a1 (ln x) c1], .string S] w fun e w' => e = .returned (.bool true) ∧ Below w.heap.size w w' := by
  have hsz : ¬ 400 < S.size := by rw [hS]; simp [ByteArray.size]; omega
  have hbl : decide (400 < S.size) = false := decide_eq_false hsz
  have hbl2 : decide ((400 : Int) < (S.size : Int)) = false := decide_eq_false (by omega)
  obtain ⟨zr, hzr⟩ : ∃ z, rdZ l = z := ⟨_, rfl⟩
  have HZR := Lib.hid hzr
  have HS := Lib.hid hS
  have HLN : Hid (l.length ≤ 1000000) := by show _ ≤ _; omega
  have HSZ : Hid (Sz zr 400) := by show Sz _ _; rw [← hzr]; exact rd_size hlen
  have HRE := Lib.hid hf
  have HTX : Hid ((⟨(textZ zr).toArray⟩ : ByteArray) = S) := by show _ = _; rw [← hzr, text_read hf, hS]
  obtain ⟨S2, hS2⟩ : ∃ s : ByteArray, (⟨(textZ x).toArray⟩ : ByteArray) = s := ⟨_, rfl⟩
  have HS2 := Lib.hid hS2
  have htl := text_len hx
  have HL2 : Hid ((textZ x).length ≤ 1000000) := by show _ ≤ _; omega
  have HX := Lib.hid hx
  have HE2 : Hid (rdE (textZ x) = 0) := by show _ = _; unfold rdE; rw [readO_text]; rfl
  have HR2 : Hid (rdZ (textZ x) = x) := by show _ = _; unfold rdZ; rw [readO_text]; rfl
  have e0 : (sg x == 0) = true := by rw [hx0]; rfl
  have e1 : (S2.toList == [48]) = true := by rw [← hS2, Lib.toList_data]; show (textZ x == [48]) = true; rw [hx0]; show (decDigits 0 == [48]) = true; rw [decDigits_one (by omega)]; rfl
  clear hx0 hS2 hx htl hS hlen hf hzr hsz
  have HT : Hid (Tab w) := ht
  have H1 : Hid (BD G w a1 c1 x) := h1
  clear ht h1
  have M : Hid (Below w.heap.size w w) := Below.refl _ _
  go_enter Tryd.func4, Tryd.ntmps4
  go_upto_region 1 with fail
  obtain ⟨w1, hv⟩ : ∃ w_ : World, w_ = (w.alloc (.cells #[.int .i64 (sg x), .slice a1 (ln x) c1] 24)) := ⟨_, rfl⟩
  rw [← hv]
  replace M := Lib.hid (And.intro (hv ▸ bx1 w 24 #[.int .i64 (sg x), .slice a1 (ln x) c1]) (Goes.go M.out (hv ▸ below_alloc _ _ : Below w.heap.size w w1)))
  clear hv
  go_wp2_with fail
  refine (small_ok (G := G) (Nat.le_trans hG (M.out.2).size) (HT.out.keep (M.out.2))).mono ?_
  rintro e w2 ⟨rfl, hb⟩
  replace M := Lib.hid (Goes.go M.out hb)
  clear hb
  obtain ⟨p0_0, q0_0, p0_1, q0_1⟩ := (M.out.1).c2
  go_wp2_with fail
  clear p0_0 q0_0 p0_1 q0_1
  refine (bigFew_ok (s := (sg x)) (m := 60) (b := true) (few_sz HX.out rfl)).mono ?_
  rintro e w3 ⟨rfl, hb⟩
  replace M := Lib.hid (Goes.go M.out hb)
  clear hb
  go_wp2_with fail
  refine (bigRead_v (G := G) (S := S) (z := zr) (er := 0) HS.out HLN.out HZR.out HRE.out).mono ?_
  rintro e w4 ⟨a_1, c_2, rfl, hd3, hb⟩
  replace M := Lib.hid (And.intro hd3 (Goes.go M.out hb))
  clear hb hd3
  go_upto_region 5 with fail
  obtain ⟨w5, hv⟩ : ∃ w_ : World, w_ = (w4.alloc (.cells #[.int .i64 (sg zr), .slice a_1 (ln zr) c_2] 24)) := ⟨_, rfl⟩
  rw [← hv]
  have o1 : w.heap.size < w4.heap.size := ((M.out.2.1)).lt
  replace M := Lib.hid (And.intro (hv ▸ bx1 w4 24 #[.int .i64 (sg zr), .slice a_1 (ln zr) c_2]) (Goes.go M.out (hv ▸ below_alloc _ _ : Below w4.heap.size w4 w5)))
  clear hv
  obtain ⟨p1_0, q1_0, p1_1, q1_1⟩ := (M.out.1).c2
  go_wp2_with fail
  clear p1_0 q1_0 p1_1 q1_1
  refine (bigRight_ok (G := G) (z := zr) (M.out.2.1) (Sz.mono HSZ.out (by omega))).mono ?_
  rintro e w6 ⟨rfl, hb⟩
  replace M := Lib.hid (Goes.go M.out hb)
  clear hb
  obtain ⟨p1_0, q1_0, p1_1, q1_1⟩ := (M.out.1).c2
  go_wp2_with fail
  clear p1_0 q1_0 p1_1 q1_1
  refine (bigText_lit (G := G) (x := zr) (s := S) (M.out.2.1) (Sz.mono HSZ.out (by omega)) (HT.out.keep (M.out.2.2.2)) HTX.out).mono ?_
  rintro e w7 ⟨rfl, hb⟩
  replace M := Lib.hid (Goes.go M.out hb)
  clear hb
  obtain ⟨p0_0, q0_0, p0_1, q0_1⟩ := (M.out.2.2.1).c2
  go_wp2_with fail
  clear p0_0 q0_0 p0_1 q0_1
  refine (bigRight_ok (G := G) (z := x) (H1.out.keep (M.out.2.2.2)) (Sz.mono HX.out (by omega))).mono ?_
  rintro e w8 ⟨rfl, hb⟩
  replace M := Lib.hid (Goes.go M.out hb)
  clear hb
  obtain ⟨p0_0, q0_0, p0_1, q0_1⟩ := (M.out.2.2.1).c2
  go_wp2_with fail
  clear p0_0 q0_0 p0_1 q0_1
  refine (bigText_lit (G := G) (x := x) (s := S2) (H1.out.keep (M.out.2.2.2)) (Sz.mono HX.out (by omega)) (HT.out.keep (M.out.2.2.2)) HS2.out).mono ?_
  rintro e w9 ⟨rfl, hb⟩
  replace M := Lib.hid (Goes.go M.out hb)
  clear hb
  go_wp2_with fail
  refine (bigRead_v (G := G) (S := S2) (z := x) (er := 0) HS2.out.symm HL2.out HR2.out HE2.out).mono ?_
  rintro e w10 ⟨a_4, c_5, rfl, hd6, hb⟩
  replace M := Lib.hid (And.intro hd6 (Goes.go M.out hb))
  clear hb hd6
  go_upto_region 11 with fail
  obtain ⟨w11, hv⟩ : ∃ w_ : World, w_ = (w10.alloc (.cells #[.int .i64 (sg x), .slice a_4 (ln x) c_5] 24)) := ⟨_, rfl⟩
  rw [← hv]
  have o2 : w4.heap.size < w10.heap.size := ((M.out.2.1)).lt
  replace M := Lib.hid (And.intro (hv ▸ bx1 w10 24 #[.int .i64 (sg x), .slice a_4 (ln x) c_5]) (Goes.go M.out (hv ▸ below_alloc _ _ : Below w10.heap.size w10 w11)))
  clear hv
  obtain ⟨p2_0, q2_0, p2_1, q2_1⟩ := (M.out.1).c2
  obtain ⟨p0_0, q0_0, p0_1, q0_1⟩ := (M.out.2.2.2.2.1).c2
  go_wp2_with fail
  clear p2_0 q2_0 p2_1 q2_1 p0_0 q0_0 p0_1 q0_1
  refine (bigSame_is (G := G) (x := x) (y := x) (b := true) (M.out.2.1) (H1.out.keep (M.out.2.2.2.2.2)) (Sz.mono HX.out (by omega)) (Sz.mono HX.out (by omega)) (eqZ_of rfl)).mono ?_
  rintro e w12 ⟨rfl, hb⟩
  replace M := Lib.hid (Goes.go M.out hb)
  clear hb
  obtain ⟨p0_0, q0_0, p0_1, q0_1⟩ := (M.out.2.2.2.2.1).c2
  go_wp2_with fail
  clear p0_0 q0_0 p0_1 q0_1
  go_ret
  exact ⟨rfl, (M.out.2.2.2.2.2)⟩

set_option maxRecDepth 100000 in
set_option maxHeartbeats 8000000 in
theorem back_zero_no {S : ByteArray} {l : List UInt8} {x : Int} {a1 : Option Addr} {c1 : Nat} {w : World} (hG : G ≤ w.heap.size) (ht : Tab w) (h1 : BD G w a1 c1 x) (hx : Sz x 60) (hx0 : x = 0) (hS : S = ⟨l.toArray⟩) (hlen : l.length ≤ 400) (hf : rdE l = 2)  :
    Calls Tryd.prog 4 #[.agg #[.int .i64 (sg x), .slice a1 (ln x) c1], .string S] w fun e w' => e = .returned (.bool true) ∧ Below w.heap.size w w' := by
  have hsz : ¬ 400 < S.size := by rw [hS]; simp [ByteArray.size]; omega
  have hbl : decide (400 < S.size) = false := decide_eq_false hsz
  have hbl2 : decide ((400 : Int) < (S.size : Int)) = false := decide_eq_false (by omega)
  obtain ⟨zr, hzr⟩ : ∃ z, rdZ l = z := ⟨_, rfl⟩
  have HZR := Lib.hid hzr
  have HS := Lib.hid hS
  have HLN : Hid (l.length ≤ 1000000) := by show _ ≤ _; omega
  have HSZ : Hid (Sz zr 400) := by show Sz _ _; rw [← hzr]; exact rd_size hlen
  have HRE := Lib.hid hf
  have HZ0 : Hid (zr = 0) := by show _ = _; rw [← hzr]; rcases read_cases l with h | h; rw [hf] at h; cases h; exact h.2
  obtain ⟨S2, hS2⟩ : ∃ s : ByteArray, (⟨(textZ x).toArray⟩ : ByteArray) = s := ⟨_, rfl⟩
  have HS2 := Lib.hid hS2
  have htl := text_len hx
  have HL2 : Hid ((textZ x).length ≤ 1000000) := by show _ ≤ _; omega
  have HX := Lib.hid hx
  have HE2 : Hid (rdE (textZ x) = 0) := by show _ = _; unfold rdE; rw [readO_text]; rfl
  have HR2 : Hid (rdZ (textZ x) = x) := by show _ = _; unfold rdZ; rw [readO_text]; rfl
  have e0 : (sg x == 0) = true := by rw [hx0]; rfl
  have e1 : (S2.toList == [48]) = true := by rw [← hS2, Lib.toList_data]; show (textZ x == [48]) = true; rw [hx0]; show (decDigits 0 == [48]) = true; rw [decDigits_one (by omega)]; rfl
  clear hx0 hS2 hx htl hS hlen hf hzr hsz
  have HT : Hid (Tab w) := ht
  have H1 : Hid (BD G w a1 c1 x) := h1
  clear ht h1
  have M : Hid (Below w.heap.size w w) := Below.refl _ _
  go_enter Tryd.func4, Tryd.ntmps4
  go_upto_region 1 with fail
  obtain ⟨w1, hv⟩ : ∃ w_ : World, w_ = (w.alloc (.cells #[.int .i64 (sg x), .slice a1 (ln x) c1] 24)) := ⟨_, rfl⟩
  rw [← hv]
  replace M := Lib.hid (And.intro (hv ▸ bx1 w 24 #[.int .i64 (sg x), .slice a1 (ln x) c1]) (Goes.go M.out (hv ▸ below_alloc _ _ : Below w.heap.size w w1)))
  clear hv
  go_wp2_with fail
  refine (small_ok (G := G) (Nat.le_trans hG (M.out.2).size) (HT.out.keep (M.out.2))).mono ?_
  rintro e w2 ⟨rfl, hb⟩
  replace M := Lib.hid (Goes.go M.out hb)
  clear hb
  obtain ⟨p0_0, q0_0, p0_1, q0_1⟩ := (M.out.1).c2
  go_wp2_with fail
  clear p0_0 q0_0 p0_1 q0_1
  refine (bigFew_ok (s := (sg x)) (m := 60) (b := true) (few_sz HX.out rfl)).mono ?_
  rintro e w3 ⟨rfl, hb⟩
  replace M := Lib.hid (Goes.go M.out hb)
  clear hb
  go_wp2_with fail
  refine (bigRead_v (G := G) (S := S) (z := zr) (er := 2) HS.out HLN.out HZR.out HRE.out).mono ?_
  rintro e w4 ⟨a_1, c_2, rfl, hd3, hb⟩
  replace M := Lib.hid (And.intro hd3 (Goes.go M.out hb))
  clear hb hd3
  go_upto_region 5 with fail
  obtain ⟨w5, hv⟩ : ∃ w_ : World, w_ = (w4.alloc (.cells #[.int .i64 (sg zr), .slice a_1 (ln zr) c_2] 24)) := ⟨_, rfl⟩
  rw [← hv]
  have o1 : w.heap.size < w4.heap.size := ((M.out.2.1)).lt
  replace M := Lib.hid (And.intro (hv ▸ bx1 w4 24 #[.int .i64 (sg zr), .slice a_1 (ln zr) c_2]) (Goes.go M.out (hv ▸ below_alloc _ _ : Below w4.heap.size w4 w5)))
  clear hv
  obtain ⟨p1_0, q1_0, p1_1, q1_1⟩ := (M.out.1).c2
  go_wp2_with fail
  clear p1_0 q1_0 p1_1 q1_1
  refine (bigSame_is (G := G) (x := zr) (y := 0) (b := true) (M.out.2.1) (bd_zero _ _ _) (Sz.mono HSZ.out (by omega)) (Sz.mono (show Sz (0) 0 from by unfold Sz; decide) (by omega)) (eqZ_of HZ0.out)).mono ?_
  rintro e w6 ⟨rfl, hb⟩
  replace M := Lib.hid (Goes.go M.out hb)
  clear hb
  obtain ⟨p0_0, q0_0, p0_1, q0_1⟩ := (M.out.2.2.1).c2
  go_wp2_with fail
  clear p0_0 q0_0 p0_1 q0_1
  refine (bigRight_ok (G := G) (z := x) (H1.out.keep (M.out.2.2.2)) (Sz.mono HX.out (by omega))).mono ?_
  rintro e w7 ⟨rfl, hb⟩
  replace M := Lib.hid (Goes.go M.out hb)
  clear hb
  obtain ⟨p0_0, q0_0, p0_1, q0_1⟩ := (M.out.2.2.1).c2
  go_wp2_with fail
  clear p0_0 q0_0 p0_1 q0_1
  refine (bigText_lit (G := G) (x := x) (s := S2) (H1.out.keep (M.out.2.2.2)) (Sz.mono HX.out (by omega)) (HT.out.keep (M.out.2.2.2)) HS2.out).mono ?_
  rintro e w8 ⟨rfl, hb⟩
  replace M := Lib.hid (Goes.go M.out hb)
  clear hb
  go_wp2_with fail
  refine (bigRead_v (G := G) (S := S2) (z := x) (er := 0) HS2.out.symm HL2.out HR2.out HE2.out).mono ?_
  rintro e w9 ⟨a_4, c_5, rfl, hd6, hb⟩
  replace M := Lib.hid (And.intro hd6 (Goes.go M.out hb))
  clear hb hd6
  go_upto_region 11 with fail
  obtain ⟨w10, hv⟩ : ∃ w_ : World, w_ = (w9.alloc (.cells #[.int .i64 (sg x), .slice a_4 (ln x) c_5] 24)) := ⟨_, rfl⟩
  rw [← hv]
  have o2 : w4.heap.size < w9.heap.size := ((M.out.2.1)).lt
  replace M := Lib.hid (And.intro (hv ▸ bx1 w9 24 #[.int .i64 (sg x), .slice a_4 (ln x) c_5]) (Goes.go M.out (hv ▸ below_alloc _ _ : Below w9.heap.size w9 w10)))
  clear hv
  obtain ⟨p2_0, q2_0, p2_1, q2_1⟩ := (M.out.1).c2
  obtain ⟨p0_0, q0_0, p0_1, q0_1⟩ := (M.out.2.2.2.2.1).c2
  go_wp2_with fail
  clear p2_0 q2_0 p2_1 q2_1 p0_0 q0_0 p0_1 q0_1
  refine (bigSame_is (G := G) (x := x) (y := x) (b := true) (M.out.2.1) (H1.out.keep (M.out.2.2.2.2.2)) (Sz.mono HX.out (by omega)) (Sz.mono HX.out (by omega)) (eqZ_of rfl)).mono ?_
  rintro e w11 ⟨rfl, hb⟩
  replace M := Lib.hid (Goes.go M.out hb)
  clear hb
  obtain ⟨p0_0, q0_0, p0_1, q0_1⟩ := (M.out.2.2.2.2.1).c2
  go_wp2_with fail
  clear p0_0 q0_0 p0_1 q0_1
  go_ret
  exact ⟨rfl, (M.out.2.2.2.2.2)⟩

set_option maxRecDepth 100000 in
set_option maxHeartbeats 8000000 in
theorem back_one_ok {S : ByteArray} {l : List UInt8} {x : Int} {a1 : Option Addr} {c1 : Nat} {w : World} (hG : G ≤ w.heap.size) (ht : Tab w) (h1 : BD G w a1 c1 x) (hx : Sz x 60) (hx0 : x ≠ 0) (hS : S = ⟨l.toArray⟩) (hlen : l.length ≤ 400) (hf : rdE l = 0)  :
    Calls Tryd.prog 4 #[.agg #[.int .i64 (sg x), .slice a1 (ln x) c1], .string S] w fun e w' => e = .returned (.bool true) ∧ Below w.heap.size w w' := by
  have hsz : ¬ 400 < S.size := by rw [hS]; simp [ByteArray.size]; omega
  have hbl : decide (400 < S.size) = false := decide_eq_false hsz
  have hbl2 : decide ((400 : Int) < (S.size : Int)) = false := decide_eq_false (by omega)
  obtain ⟨zr, hzr⟩ : ∃ z, rdZ l = z := ⟨_, rfl⟩
  have HZR := Lib.hid hzr
  have HS := Lib.hid hS
  have HLN : Hid (l.length ≤ 1000000) := by show _ ≤ _; omega
  have HSZ : Hid (Sz zr 400) := by show Sz _ _; rw [← hzr]; exact rd_size hlen
  have HRE := Lib.hid hf
  have HTX : Hid ((⟨(textZ zr).toArray⟩ : ByteArray) = S) := by show _ = _; rw [← hzr, text_read hf, hS]
  obtain ⟨S2, hS2⟩ : ∃ s : ByteArray, (⟨(textZ x).toArray⟩ : ByteArray) = s := ⟨_, rfl⟩
  have HS2 := Lib.hid hS2
  have htl := text_len hx
  have HL2 : Hid ((textZ x).length ≤ 1000000) := by show _ ≤ _; omega
  have HX := Lib.hid hx
  have HE2 : Hid (rdE (textZ x) = 0) := by show _ = _; unfold rdE; rw [readO_text]; rfl
  have HR2 : Hid (rdZ (textZ x) = x) := by show _ = _; unfold rdZ; rw [readO_text]; rfl
  have e0 : (sg x == 0) = false := by rw [beq_eq_false_iff_ne]; intro h; exact hx0 (by have := abs_sg x; rw [h, Int.zero_mul] at this; exact this)
  obtain ⟨s7, hs7⟩ : ∃ s, 7 * sg x = s := ⟨_, rfl⟩
  have hsr := sg_cases x
  have hs7b : -7 ≤ s7 ∧ s7 ≤ 7 := by rw [← hs7]; rcases hsr with h | h | h <;> rw [h] <;> decide
  have w7 : IntKind.i64.wrap (7 * sg x) = s7 := by rw [hs7]; exact IntWalk.i64_in _ (by omega)
  have hcat : ¬ 9223372036854775807 < S2.size + 1 := by rw [← hS2]; simp [ByteArray.size]; omega
  obtain ⟨S3, hS3⟩ : ∃ s : ByteArray, S2 ++ {data := #[55]} = s := ⟨_, rfl⟩
  obtain ⟨l3, hl3⟩ : ∃ s, textZ x ++ [55] = s := ⟨_, rfl⟩
  have HS3 : Hid (S3 = ⟨l3.toArray⟩) := by show _ = _; rw [← hS3, ← hl3, ← hS2]; exact cat_seven _
  have HL3 : Hid (l3.length ≤ 1000000) := by show _ ≤ _; rw [← hl3, List.length_append]; simp; omega
  have hr3 := readO_seven hx0
  obtain ⟨z7, hz7⟩ : ∃ z, x * 10 + s7 = z := ⟨_, rfl⟩
  have HZ7 := Lib.hid hz7
  have HE3 : Hid (rdE l3 = 0) := by show _ = _; rw [← hl3]; unfold rdE; rw [hr3]; rfl
  have HR3 : Hid (rdZ l3 = z7) := by show _ = _; rw [← hl3]; unfold rdZ; rw [hr3, ← hz7, ← hs7]; rfl
  have HS7 : Hid (-9223372036854775808 ≤ s7 ∧ s7 ≤ 9223372036854775807) := by show _ ∧ _; omega
  have HSZ7 : Hid (Sz z7 62) := by show Sz _ _; rw [← hz7]; exact Sz.add (n := 61) (Sz.mul (n := 60) (m := 1) hx (by unfold Sz; decide)) ((Sz.i64 HS7.out).mono (by omega))
  clear hx0 hS2 hx htl hsr hs7b hs7 hr3 hz7 hl3 hS hlen hf hzr hsz
  have HT : Hid (Tab w) := ht
  have H1 : Hid (BD G w a1 c1 x) := h1
  clear ht h1
  have M : Hid (Below w.heap.size w w) := Below.refl _ _
  go_enter Tryd.func4, Tryd.ntmps4
  go_upto_region 1 with fail
  obtain ⟨w1, hv⟩ : ∃ w_ : World, w_ = (w.alloc (.cells #[.int .i64 (sg x), .slice a1 (ln x) c1] 24)) := ⟨_, rfl⟩
  rw [← hv]
  replace M := Lib.hid (And.intro (hv ▸ bx1 w 24 #[.int .i64 (sg x), .slice a1 (ln x) c1]) (Goes.go M.out (hv ▸ below_alloc _ _ : Below w.heap.size w w1)))
  clear hv
  go_wp2_with fail
  refine (small_ok (G := G) (Nat.le_trans hG (M.out.2).size) (HT.out.keep (M.out.2))).mono ?_
  rintro e w2 ⟨rfl, hb⟩
  replace M := Lib.hid (Goes.go M.out hb)
  clear hb
  obtain ⟨p0_0, q0_0, p0_1, q0_1⟩ := (M.out.1).c2
  go_wp2_with fail
  clear p0_0 q0_0 p0_1 q0_1
  refine (bigFew_ok (s := (sg x)) (m := 60) (b := true) (few_sz HX.out rfl)).mono ?_
  rintro e w3 ⟨rfl, hb⟩
  replace M := Lib.hid (Goes.go M.out hb)
  clear hb
  go_wp2_with fail
  refine (bigRead_v (G := G) (S := S) (z := zr) (er := 0) HS.out HLN.out HZR.out HRE.out).mono ?_
  rintro e w4 ⟨a_1, c_2, rfl, hd3, hb⟩
  replace M := Lib.hid (And.intro hd3 (Goes.go M.out hb))
  clear hb hd3
  go_upto_region 5 with fail
  obtain ⟨w5, hv⟩ : ∃ w_ : World, w_ = (w4.alloc (.cells #[.int .i64 (sg zr), .slice a_1 (ln zr) c_2] 24)) := ⟨_, rfl⟩
  rw [← hv]
  have o1 : w.heap.size < w4.heap.size := ((M.out.2.1)).lt
  replace M := Lib.hid (And.intro (hv ▸ bx1 w4 24 #[.int .i64 (sg zr), .slice a_1 (ln zr) c_2]) (Goes.go M.out (hv ▸ below_alloc _ _ : Below w4.heap.size w4 w5)))
  clear hv
  obtain ⟨p1_0, q1_0, p1_1, q1_1⟩ := (M.out.1).c2
  go_wp2_with fail
  clear p1_0 q1_0 p1_1 q1_1
  refine (bigRight_ok (G := G) (z := zr) (M.out.2.1) (Sz.mono HSZ.out (by omega))).mono ?_
  rintro e w6 ⟨rfl, hb⟩
  replace M := Lib.hid (Goes.go M.out hb)
  clear hb
  obtain ⟨p1_0, q1_0, p1_1, q1_1⟩ := (M.out.1).c2
  go_wp2_with fail
  clear p1_0 q1_0 p1_1 q1_1
  refine (bigText_lit (G := G) (x := zr) (s := S) (M.out.2.1) (Sz.mono HSZ.out (by omega)) (HT.out.keep (M.out.2.2.2)) HTX.out).mono ?_
  rintro e w7 ⟨rfl, hb⟩
  replace M := Lib.hid (Goes.go M.out hb)
  clear hb
  obtain ⟨p0_0, q0_0, p0_1, q0_1⟩ := (M.out.2.2.1).c2
  go_wp2_with fail
  clear p0_0 q0_0 p0_1 q0_1
  refine (bigRight_ok (G := G) (z := x) (H1.out.keep (M.out.2.2.2)) (Sz.mono HX.out (by omega))).mono ?_
  rintro e w8 ⟨rfl, hb⟩
  replace M := Lib.hid (Goes.go M.out hb)
  clear hb
  obtain ⟨p0_0, q0_0, p0_1, q0_1⟩ := (M.out.2.2.1).c2
  go_wp2_with fail
  clear p0_0 q0_0 p0_1 q0_1
  refine (bigText_lit (G := G) (x := x) (s := S2) (H1.out.keep (M.out.2.2.2)) (Sz.mono HX.out (by omega)) (HT.out.keep (M.out.2.2.2)) HS2.out).mono ?_
  rintro e w9 ⟨rfl, hb⟩
  replace M := Lib.hid (Goes.go M.out hb)
  clear hb
  go_wp2_with fail
  refine (bigRead_v (G := G) (S := S2) (z := x) (er := 0) HS2.out.symm HL2.out HR2.out HE2.out).mono ?_
  rintro e w10 ⟨a_4, c_5, rfl, hd6, hb⟩
  replace M := Lib.hid (And.intro hd6 (Goes.go M.out hb))
  clear hb hd6
  go_upto_region 11 with fail
  obtain ⟨w11, hv⟩ : ∃ w_ : World, w_ = (w10.alloc (.cells #[.int .i64 (sg x), .slice a_4 (ln x) c_5] 24)) := ⟨_, rfl⟩
  rw [← hv]
  have o2 : w4.heap.size < w10.heap.size := ((M.out.2.1)).lt
  replace M := Lib.hid (And.intro (hv ▸ bx1 w10 24 #[.int .i64 (sg x), .slice a_4 (ln x) c_5]) (Goes.go M.out (hv ▸ below_alloc _ _ : Below w10.heap.size w10 w11)))
  clear hv
  obtain ⟨p2_0, q2_0, p2_1, q2_1⟩ := (M.out.1).c2
  obtain ⟨p0_0, q0_0, p0_1, q0_1⟩ := (M.out.2.2.2.2.1).c2
  go_wp2_with fail
  clear p2_0 q2_0 p2_1 q2_1 p0_0 q0_0 p0_1 q0_1
  refine (bigSame_is (G := G) (x := x) (y := x) (b := true) (M.out.2.1) (H1.out.keep (M.out.2.2.2.2.2)) (Sz.mono HX.out (by omega)) (Sz.mono HX.out (by omega)) (eqZ_of rfl)).mono ?_
  rintro e w12 ⟨rfl, hb⟩
  replace M := Lib.hid (Goes.go M.out hb)
  clear hb
  obtain ⟨p0_0, q0_0, p0_1, q0_1⟩ := (M.out.2.2.2.2.1).c2
  go_upto_region 15 with fail
  clear p0_0 q0_0 p0_1 q0_1
  replace M := Lib.hid (And.intro (M.out.2.2.2.2.1) (M.out.2.2.2.2.2))
  go_cut [11, 12] (fun s11 s12 wx => ∃ (A14 : Nat), ∃ (a_7 : Option Addr), ∃ (c_8 : Nat), ∃ (a_10 : Option Addr), ∃ (c_11 : Nat), ∃ (z12 : Int), s11 = .pointer (some ⟨A14, 0, none⟩) ∧ s12 = .int .i64 0 ∧ Hid (z12 = (x * 10)) ∧ Hid (Sz z12 61) ∧ w.heap.size < A14 ∧ Hid (Bx wx A14 24 #[.int .i64 (sg z12), .slice a_10 (ln z12) c_11] ∧ BD G wx a_10 c_11 z12 ∧ BD G wx a_7 c_8 10 ∧ Bx wx w.heap.size 24 #[.int .i64 (sg x), .slice a1 (ln x) c1] ∧ Below w.heap.size w wx))
  case first =>
    obtain ⟨w13, hv⟩ : ∃ w_ : World, w_ = w12.drew := ⟨_, rfl⟩
    replace M := Lib.hid (Goes.go M.out (hv ▸ below_drew _ : Below w12.heap.size w12 w13))
    refine wp_region_held_drew (S := (fun w' => w'.cell? ⟨w.heap.size, 0, none⟩ = some (.int .i64 (sg x)) ∧ w'.cell? ⟨w.heap.size, 1, none⟩ = some (.slice a1 (ln x) c1))) (by kernel_rfl) (by rw [← hv]; exact ⟨(M.out.1).at.1 0, (M.out.1).at.1 1⟩) (fun hH15 => ?_)
    rw [← hv] at hH15 ⊢
    clear hv
    refine tk at0 ?_
    refine wpAnyH_ready (rs := [1, 6]) (by kernel_rfl) (by simp) ?_
    refine AllReadyH.cons at1 (fun K hK => ?_) ?_
    ·
      go_simp
      refine (bigOf_ok (G := G) 10 _ (by omega)).mono ?_
      rintro e w14 ⟨a_16, c_17, rfl, hd18, hb⟩
      replace M := Lib.hid (And.intro hd18 (Goes.go M.out hb))
      clear hb hd18
      (try go_wp2_with fail)
      refine hK.out _ _ (⟨(M.out.2.1).at.1 0, (M.out.2.1).at.1 1⟩) (fun hH19 => ?_)
      clear hK K hH15
      (try simp only [Act.put, List.setIfInBounds_toArray, List.set_cons_zero, List.set_cons_succ])
      refine wpAnyH_ready (rs := [2, 6]) (by kernel_rfl) (by simp) ?_
      refine AllReadyH.cons at2 (fun K hK => ?_) ?_
      ·
        go_simp
        obtain ⟨z22, ez22⟩ : ∃ v_ : Int, v_ = (x * 10) := ⟨_, rfl⟩
        refine (bigMul_ok (G := G) (x := x) (y := 10) (H1.out.keep (M.out.2.2)) (M.out.1) (Sz.mono HX.out (by omega)) (Sz.mono (show Sz (10) 1 from by unfold Sz; decide) (by omega))).mono ?_
        rintro e w15 ⟨a_20, c_21, rfl, hd23, hb⟩
        rw [← ez22] at hd23 ⊢
        have Sz22 : Hid (Sz z22 61) := by show Sz z22 61; rw [ez22]; exact (Sz.mul HX.out (show Sz (10) 1 from by unfold Sz; decide))
        have Ez22 := Lib.hid ez22; clear ez22
        replace M := Lib.hid (And.intro hd23 (Goes.go M.out hb))
        clear hb hd23
        (try go_wp2_with fail)
        refine hK.out _ _ (⟨(M.out.2.2.1).at.1 0, (M.out.2.2.1).at.1 1⟩) (fun hH24 => ?_)
        clear hK K hH19
        (try simp only [Act.put, List.setIfInBounds_toArray, List.set_cons_zero, List.set_cons_succ])
        refine tk at3 ?_
        refine tk at4 ?_
        refine tk at5 ?_
        refine wpAnyH_ready (rs := [6]) (by kernel_rfl) (by simp) ?_
        refine AllReadyH.cons at6 (fun K hK => ?_) AllReadyH.nil
        go_simp
        obtain ⟨w16, hv⟩ : ∃ w_ : World, w_ = (w15.alloc (.cells #[.int .i64 0, .slice none 0 0] 24)) := ⟨_, rfl⟩
        rw [← hv]
        have o3 : w.heap.size < w15.heap.size := ((M.out.2.2.1)).lt
        replace M := Lib.hid (And.intro (hv ▸ bx1 w15 24 #[.int .i64 0, .slice none 0 0]) (Goes.go M.out (hv ▸ below_alloc _ _ : Below w15.heap.size w15 w16)))
        clear hv
        refine hK.out _ _ (⟨(M.out.2.2.2.1).at.1 0, (M.out.2.2.2.1).at.1 1⟩) (fun hH25 => ?_)
        clear hK K hH24
        (try simp only [Act.put, List.setIfInBounds_toArray, List.set_cons_zero, List.set_cons_succ])
        refine wpAnyH_ready (rs := [7]) (by kernel_rfl) (by simp) ?_
        refine AllReadyH.cons at7 (fun K hK => ?_) AllReadyH.nil
        obtain ⟨p3_0, q3_0, p3_1, q3_1⟩ := (M.out.1).c2
        go_simp
        clear p3_0 q3_0 p3_1 q3_1
        obtain ⟨w17, hv⟩ : ∃ w_ : World, w_ = ((w16.setCell ⟨w15.heap.size, 0, none⟩ (.int .i64 (sg z22))).setCell ⟨w15.heap.size, 1, none⟩ (.slice a_20 (ln z22) c_21)) := ⟨_, rfl⟩
        rw [← hv]
        have og : w16.grownBy w17 (some w15.heap.size) := by rw [hv]; exact (only_setCell (only_setCell (World.grownBy.refl _ _) _) _)
        have hz : w.heap.size ≤ w15.heap.size := by omega
        have hk : Bx w17 w15.heap.size 24 #[.int .i64 (sg z22), .slice a_20 (ln z22) c_21] := by rw [hv]; exact (((M.out.1).set 0 _).set 1 _)
        have hbw : Below w.heap.size w w17 := by rw [hv]; exact (Below.setCell (Below.setCell (M.out.2.2.2.2) (by omega) _) (by omega) _)
        replace M := Lib.hid (And.intro hk (And.intro ((M.out.2.1).far (M.out.1) (by rfl) (by omega) og) (And.intro ((M.out.2.2.1).far (M.out.1) (by rfl) (by omega) og) (And.intro ((M.out.2.2.2.1).only og (by omega)) hbw))))
        clear hk hbw og hv hz
        refine hK.out _ _ (⟨(M.out.2.2.2.1).at.1 0, (M.out.2.2.2.1).at.1 1⟩) (fun hH26 => ?_)
        clear hK K hH25
        (try simp only [Act.put, List.setIfInBounds_toArray, List.set_cons_zero, List.set_cons_succ])
        refine tk at8 ?_
        refine wpAnyH_done (by kernel_rfl) ?_ _
        clear hH26
        go_wp2_with fail
        go_meet
        exact ⟨w15.heap.size, a_16, c_17, a_20, c_21, z22, rfl, rfl, Ez22, Sz22, (by omega), (M.out.1), (M.out.2.1), (M.out.2.2.1), (M.out.2.2.2.1), (M.out.2.2.2.2)⟩
      refine AllReadyH.cons at6 (fun K hK => ?_) AllReadyH.nil
      go_simp
      obtain ⟨w15, hv⟩ : ∃ w_ : World, w_ = (w14.alloc (.cells #[.int .i64 0, .slice none 0 0] 24)) := ⟨_, rfl⟩
      rw [← hv]
      have o3 : w.heap.size < w14.heap.size := ((M.out.2.1)).lt
      replace M := Lib.hid (And.intro (hv ▸ bx1 w14 24 #[.int .i64 0, .slice none 0 0]) (Goes.go M.out (hv ▸ below_alloc _ _ : Below w14.heap.size w14 w15)))
      clear hv
      refine hK.out _ _ (⟨(M.out.2.2.1).at.1 0, (M.out.2.2.1).at.1 1⟩) (fun hH27 => ?_)
      clear hK K hH19
      (try simp only [Act.put, List.setIfInBounds_toArray, List.set_cons_zero, List.set_cons_succ])
      refine wpAnyH_ready (rs := [2]) (by kernel_rfl) (by simp) ?_
      refine AllReadyH.cons at2 (fun K hK => ?_) AllReadyH.nil
      go_simp
      obtain ⟨z30, ez30⟩ : ∃ v_ : Int, v_ = (x * 10) := ⟨_, rfl⟩
      refine (bigMul_ok (G := G) (x := x) (y := 10) (H1.out.keep (M.out.2.2.2)) (M.out.2.1) (Sz.mono HX.out (by omega)) (Sz.mono (show Sz (10) 1 from by unfold Sz; decide) (by omega))).mono ?_
      rintro e w16 ⟨a_28, c_29, rfl, hd31, hb⟩
      rw [← ez30] at hd31 ⊢
      have Sz30 : Hid (Sz z30 61) := by show Sz z30 61; rw [ez30]; exact (Sz.mul HX.out (show Sz (10) 1 from by unfold Sz; decide))
      have Ez30 := Lib.hid ez30; clear ez30
      replace M := Lib.hid (And.intro hd31 (Goes.go M.out hb))
      clear hb hd31
      (try go_wp2_with fail)
      refine hK.out _ _ (⟨(M.out.2.2.2.1).at.1 0, (M.out.2.2.2.1).at.1 1⟩) (fun hH32 => ?_)
      clear hK K hH27
      (try simp only [Act.put, List.setIfInBounds_toArray, List.set_cons_zero, List.set_cons_succ])
      refine tk at3 ?_
      refine tk at4 ?_
      refine tk at5 ?_
      refine wpAnyH_ready (rs := [7]) (by kernel_rfl) (by simp) ?_
      refine AllReadyH.cons at7 (fun K hK => ?_) AllReadyH.nil
      obtain ⟨p3_0, q3_0, p3_1, q3_1⟩ := (M.out.2.1).c2
      go_simp
      clear p3_0 q3_0 p3_1 q3_1
      obtain ⟨w17, hv⟩ : ∃ w_ : World, w_ = ((w16.setCell ⟨w14.heap.size, 0, none⟩ (.int .i64 (sg z30))).setCell ⟨w14.heap.size, 1, none⟩ (.slice a_28 (ln z30) c_29)) := ⟨_, rfl⟩
      rw [← hv]
      have og : w16.grownBy w17 (some w14.heap.size) := by rw [hv]; exact (only_setCell (only_setCell (World.grownBy.refl _ _) _) _)
      have hz : w.heap.size ≤ w14.heap.size := by omega
      have hk : Bx w17 w14.heap.size 24 #[.int .i64 (sg z30), .slice a_28 (ln z30) c_29] := by rw [hv]; exact (((M.out.2.1).set 0 _).set 1 _)
      have hbw : Below w.heap.size w w17 := by rw [hv]; exact (Below.setCell (Below.setCell (M.out.2.2.2.2) (by omega) _) (by omega) _)
      replace M := Lib.hid (And.intro ((M.out.1).far (M.out.2.1) (by rfl) (by omega) og) (And.intro hk (And.intro ((M.out.2.2.1).far (M.out.2.1) (by rfl) (by omega) og) (And.intro ((M.out.2.2.2.1).only og (by omega)) hbw))))
      clear hk hbw og hv hz
      refine hK.out _ _ (⟨(M.out.2.2.2.1).at.1 0, (M.out.2.2.2.1).at.1 1⟩) (fun hH33 => ?_)
      clear hK K hH32
      (try simp only [Act.put, List.setIfInBounds_toArray, List.set_cons_zero, List.set_cons_succ])
      refine tk at8 ?_
      refine wpAnyH_done (by kernel_rfl) ?_ _
      clear hH33
      go_wp2_with fail
      go_meet
      exact ⟨w14.heap.size, a_16, c_17, a_28, c_29, z30, rfl, rfl, Ez30, Sz30, (by omega), (M.out.2.1), (M.out.1), (M.out.2.2.1), (M.out.2.2.2.1), (M.out.2.2.2.2)⟩
    refine AllReadyH.cons at6 (fun K hK => ?_) AllReadyH.nil
    go_simp
    obtain ⟨w14, hv⟩ : ∃ w_ : World, w_ = (w13.alloc (.cells #[.int .i64 0, .slice none 0 0] 24)) := ⟨_, rfl⟩
    rw [← hv]
    have o3 : w.heap.size < w13.heap.size := ((M.out.1)).lt
    replace M := Lib.hid (And.intro (hv ▸ bx1 w13 24 #[.int .i64 0, .slice none 0 0]) (Goes.go M.out (hv ▸ below_alloc _ _ : Below w13.heap.size w13 w14)))
    clear hv
    refine hK.out _ _ (⟨(M.out.2.1).at.1 0, (M.out.2.1).at.1 1⟩) (fun hH34 => ?_)
    clear hK K hH15
    (try simp only [Act.put, List.setIfInBounds_toArray, List.set_cons_zero, List.set_cons_succ])
    refine wpAnyH_ready (rs := [1]) (by kernel_rfl) (by simp) ?_
    refine AllReadyH.cons at1 (fun K hK => ?_) AllReadyH.nil
    go_simp
    refine (bigOf_ok (G := G) 10 _ (by omega)).mono ?_
    rintro e w15 ⟨a_35, c_36, rfl, hd37, hb⟩
    replace M := Lib.hid (And.intro hd37 (Goes.go M.out hb))
    clear hb hd37
    (try go_wp2_with fail)
    refine hK.out _ _ (⟨(M.out.2.2.1).at.1 0, (M.out.2.2.1).at.1 1⟩) (fun hH38 => ?_)
    clear hK K hH34
    (try simp only [Act.put, List.setIfInBounds_toArray, List.set_cons_zero, List.set_cons_succ])
    refine wpAnyH_ready (rs := [2]) (by kernel_rfl) (by simp) ?_
    refine AllReadyH.cons at2 (fun K hK => ?_) AllReadyH.nil
    go_simp
    obtain ⟨z41, ez41⟩ : ∃ v_ : Int, v_ = (x * 10) := ⟨_, rfl⟩
    refine (bigMul_ok (G := G) (x := x) (y := 10) (H1.out.keep (M.out.2.2.2)) (M.out.1) (Sz.mono HX.out (by omega)) (Sz.mono (show Sz (10) 1 from by unfold Sz; decide) (by omega))).mono ?_
    rintro e w16 ⟨a_39, c_40, rfl, hd42, hb⟩
    rw [← ez41] at hd42 ⊢
    have Sz41 : Hid (Sz z41 61) := by show Sz z41 61; rw [ez41]; exact (Sz.mul HX.out (show Sz (10) 1 from by unfold Sz; decide))
    have Ez41 := Lib.hid ez41; clear ez41
    replace M := Lib.hid (And.intro hd42 (Goes.go M.out hb))
    clear hb hd42
    (try go_wp2_with fail)
    refine hK.out _ _ (⟨(M.out.2.2.2.1).at.1 0, (M.out.2.2.2.1).at.1 1⟩) (fun hH43 => ?_)
    clear hK K hH38
    (try simp only [Act.put, List.setIfInBounds_toArray, List.set_cons_zero, List.set_cons_succ])
    refine tk at3 ?_
    refine tk at4 ?_
    refine tk at5 ?_
    refine wpAnyH_ready (rs := [7]) (by kernel_rfl) (by simp) ?_
    refine AllReadyH.cons at7 (fun K hK => ?_) AllReadyH.nil
    obtain ⟨p3_0, q3_0, p3_1, q3_1⟩ := (M.out.2.2.1).c2
    go_simp
    clear p3_0 q3_0 p3_1 q3_1
    obtain ⟨w17, hv⟩ : ∃ w_ : World, w_ = ((w16.setCell ⟨w13.heap.size, 0, none⟩ (.int .i64 (sg z41))).setCell ⟨w13.heap.size, 1, none⟩ (.slice a_39 (ln z41) c_40)) := ⟨_, rfl⟩
    rw [← hv]
    have og : w16.grownBy w17 (some w13.heap.size) := by rw [hv]; exact (only_setCell (only_setCell (World.grownBy.refl _ _) _) _)
    have hz : w.heap.size ≤ w13.heap.size := by omega
    have hk : Bx w17 w13.heap.size 24 #[.int .i64 (sg z41), .slice a_39 (ln z41) c_40] := by rw [hv]; exact (((M.out.2.2.1).set 0 _).set 1 _)
    have hbw : Below w.heap.size w w17 := by rw [hv]; exact (Below.setCell (Below.setCell (M.out.2.2.2.2) (by omega) _) (by omega) _)
    replace M := Lib.hid (And.intro ((M.out.1).far (M.out.2.2.1) (by rfl) (by omega) og) (And.intro ((M.out.2.1).far (M.out.2.2.1) (by rfl) (by omega) og) (And.intro hk (And.intro ((M.out.2.2.2.1).only og (by omega)) hbw))))
    clear hk hbw og hv hz
    refine hK.out _ _ (⟨(M.out.2.2.2.1).at.1 0, (M.out.2.2.2.1).at.1 1⟩) (fun hH44 => ?_)
    clear hK K hH43
    (try simp only [Act.put, List.setIfInBounds_toArray, List.set_cons_zero, List.set_cons_succ])
    refine tk at8 ?_
    refine wpAnyH_done (by kernel_rfl) ?_ _
    clear hH44
    go_wp2_with fail
    go_meet
    exact ⟨w13.heap.size, a_35, c_36, a_39, c_40, z41, rfl, rfl, Ez41, Sz41, (by omega), (M.out.2.2.1), (M.out.1), (M.out.2.1), (M.out.2.2.2.1), (M.out.2.2.2.2)⟩
  case rest =>
    obtain ⟨A14, a_7, c_8, a_10, c_11, z12, rfl, rfl, Ez12, Sz12, oA14, M⟩ := hcut
    obtain ⟨w13, rfl⟩ : ∃ w_ : World, w_ = wc := ⟨_, rfl⟩
    go_upto_region 16 with fail
    replace M := Lib.hid (And.intro (M.out.1) (And.intro (M.out.2.1) (And.intro (M.out.2.2.2.1) (M.out.2.2.2.2))))
    go_cut [13, 14] (fun s13 s14 wx => ∃ (A52 : Nat), ∃ (a_45 : Option Addr), ∃ (c_46 : Nat), ∃ (a_48 : Option Addr), ∃ (c_49 : Nat), ∃ (z50 : Int), s13 = .pointer (some ⟨A52, 0, none⟩) ∧ s14 = .int .i64 0 ∧ Hid (z50 = (z12 + s7)) ∧ Hid (Sz z50 62) ∧ A14 < A52 ∧ Hid (Bx wx A52 24 #[.int .i64 (sg z50), .slice a_48 (ln z50) c_49] ∧ BD G wx a_48 c_49 z50 ∧ BD G wx a_45 c_46 s7 ∧ BD G wx a_10 c_11 z12 ∧ Bx wx w.heap.size 24 #[.int .i64 (sg x), .slice a1 (ln x) c1] ∧ Bx wx A14 24 #[.int .i64 (sg z12), .slice a_10 (ln z12) c_11] ∧ Below w.heap.size w wx))
    case first =>
      obtain ⟨w14, hv⟩ : ∃ w_ : World, w_ = w13.drew := ⟨_, rfl⟩
      replace M := Lib.hid (Goes.go M.out (hv ▸ below_drew _ : Below w13.heap.size w13 w14))
      refine wp_region_held_drew (S := (fun w' => w'.cell? ⟨w.heap.size, 0, none⟩ = some (.int .i64 (sg x)) ∧ w'.cell? ⟨w.heap.size, 1, none⟩ = some (.slice a1 (ln x) c1) ∧ w'.cell? ⟨A14, 0, none⟩ = some (.int .i64 (sg z12)) ∧ w'.cell? ⟨A14, 1, none⟩ = some (.slice a_10 (ln z12) c_11))) (by kernel_rfl) (by rw [← hv]; exact ⟨(M.out.2.2.1).at.1 0, (M.out.2.2.1).at.1 1, (M.out.1).at.1 0, (M.out.1).at.1 1⟩) (fun hH53 => ?_)
      rw [← hv] at hH53 ⊢
      clear hv
      refine tk at0 ?_
      refine tk at1 ?_
      refine tk at2 ?_
      refine tk at3 ?_
      refine wpAnyH_ready (rs := [4, 9]) (by kernel_rfl) (by simp) ?_
      refine AllReadyH.cons at4 (fun K hK => ?_) ?_
      ·
        go_simp
        refine (bigOf_ok (G := G) s7 _ HS7.out).mono ?_
        rintro e w15 ⟨a_54, c_55, rfl, hd56, hb⟩
        replace M := Lib.hid (And.intro hd56 (Goes.go M.out hb))
        clear hb hd56
        (try go_wp2_with fail)
        refine hK.out _ _ (⟨(M.out.2.2.2.1).at.1 0, (M.out.2.2.2.1).at.1 1, (M.out.2.1).at.1 0, (M.out.2.1).at.1 1⟩) (fun hH57 => ?_)
        clear hK K hH53
        (try simp only [Act.put, List.setIfInBounds_toArray, List.set_cons_zero, List.set_cons_succ])
        refine wpAnyH_ready (rs := [5, 9]) (by kernel_rfl) (by simp) ?_
        refine AllReadyH.cons at5 (fun K hK => ?_) ?_
        ·
          go_simp
          obtain ⟨z60, ez60⟩ : ∃ v_ : Int, v_ = (z12 + s7) := ⟨_, rfl⟩
          refine (bigAdd_ok (G := G) (x := z12) (y := s7) (M.out.2.2.1) (M.out.1) (Sz.mono Sz12.out (by omega)) (Sz.mono (Sz.i64 HS7.out) (by omega))).mono ?_
          rintro e w16 ⟨a_58, c_59, rfl, hd61, hb⟩
          rw [← ez60] at hd61 ⊢
          have Sz60 : Hid (Sz z60 62) := by show Sz z60 62; rw [ez60]; exact (Sz.add Sz12.out (Sz.mono (Sz.i64 HS7.out) (by omega)))
          have Ez60 := Lib.hid ez60; clear ez60
          replace M := Lib.hid (And.intro hd61 (Goes.go M.out hb))
          clear hb hd61
          (try go_wp2_with fail)
          refine hK.out _ _ (⟨(M.out.2.2.2.2.1).at.1 0, (M.out.2.2.2.2.1).at.1 1, (M.out.2.2.1).at.1 0, (M.out.2.2.1).at.1 1⟩) (fun hH62 => ?_)
          clear hK K hH57
          (try simp only [Act.put, List.setIfInBounds_toArray, List.set_cons_zero, List.set_cons_succ])
          refine tk at6 ?_
          refine tk at7 ?_
          refine tk at8 ?_
          refine wpAnyH_ready (rs := [9]) (by kernel_rfl) (by simp) ?_
          refine AllReadyH.cons at9 (fun K hK => ?_) AllReadyH.nil
          go_simp
          obtain ⟨w17, hv⟩ : ∃ w_ : World, w_ = (w16.alloc (.cells #[.int .i64 0, .slice none 0 0] 24)) := ⟨_, rfl⟩
          rw [← hv]
          have o4 : A14 < w16.heap.size := ((M.out.2.2.1)).lt
          replace M := Lib.hid (And.intro (hv ▸ bx1 w16 24 #[.int .i64 0, .slice none 0 0]) (Goes.go M.out (hv ▸ below_alloc _ _ : Below w16.heap.size w16 w17)))
          clear hv
          refine hK.out _ _ (⟨(M.out.2.2.2.2.2.1).at.1 0, (M.out.2.2.2.2.2.1).at.1 1, (M.out.2.2.2.1).at.1 0, (M.out.2.2.2.1).at.1 1⟩) (fun hH63 => ?_)
          clear hK K hH62
          (try simp only [Act.put, List.setIfInBounds_toArray, List.set_cons_zero, List.set_cons_succ])
          refine wpAnyH_ready (rs := [10]) (by kernel_rfl) (by simp) ?_
          refine AllReadyH.cons at10 (fun K hK => ?_) AllReadyH.nil
          obtain ⟨p4_0, q4_0, p4_1, q4_1⟩ := (M.out.1).c2
          go_simp
          clear p4_0 q4_0 p4_1 q4_1
          obtain ⟨w18, hv⟩ : ∃ w_ : World, w_ = ((w17.setCell ⟨w16.heap.size, 0, none⟩ (.int .i64 (sg z60))).setCell ⟨w16.heap.size, 1, none⟩ (.slice a_58 (ln z60) c_59)) := ⟨_, rfl⟩
          rw [← hv]
          have og : w17.grownBy w18 (some w16.heap.size) := by rw [hv]; exact (only_setCell (only_setCell (World.grownBy.refl _ _) _) _)
          have hz : w.heap.size ≤ w16.heap.size := by omega
          have hk : Bx w18 w16.heap.size 24 #[.int .i64 (sg z60), .slice a_58 (ln z60) c_59] := by rw [hv]; exact (((M.out.1).set 0 _).set 1 _)
          have hbw : Below w.heap.size w w18 := by rw [hv]; exact (Below.setCell (Below.setCell (M.out.2.2.2.2.2.2) (by omega) _) (by omega) _)
          replace M := Lib.hid (And.intro hk (And.intro ((M.out.2.1).far (M.out.1) (by rfl) (by omega) og) (And.intro ((M.out.2.2.1).far (M.out.1) (by rfl) (by omega) og) (And.intro ((M.out.2.2.2.1).only og (by omega)) (And.intro ((M.out.2.2.2.2.1).far (M.out.1) (by rfl) (by omega) og) (And.intro ((M.out.2.2.2.2.2.1).only og (by omega)) hbw))))))
          clear hk hbw og hv hz
          refine hK.out _ _ (⟨(M.out.2.2.2.2.2.1).at.1 0, (M.out.2.2.2.2.2.1).at.1 1, (M.out.2.2.2.1).at.1 0, (M.out.2.2.2.1).at.1 1⟩) (fun hH64 => ?_)
          clear hK K hH63
          (try simp only [Act.put, List.setIfInBounds_toArray, List.set_cons_zero, List.set_cons_succ])
          refine tk at11 ?_
          refine wpAnyH_done (by kernel_rfl) ?_ _
          clear hH64
          go_wp2_with fail
          go_meet
          exact ⟨w16.heap.size, a_54, c_55, a_58, c_59, z60, rfl, rfl, Ez60, Sz60, (by omega), (M.out.1), (M.out.2.1), (M.out.2.2.1), (M.out.2.2.2.2.1), (M.out.2.2.2.2.2.1), (M.out.2.2.2.1), (M.out.2.2.2.2.2.2)⟩
        refine AllReadyH.cons at9 (fun K hK => ?_) AllReadyH.nil
        go_simp
        obtain ⟨w16, hv⟩ : ∃ w_ : World, w_ = (w15.alloc (.cells #[.int .i64 0, .slice none 0 0] 24)) := ⟨_, rfl⟩
        rw [← hv]
        have o4 : A14 < w15.heap.size := ((M.out.2.1)).lt
        replace M := Lib.hid (And.intro (hv ▸ bx1 w15 24 #[.int .i64 0, .slice none 0 0]) (Goes.go M.out (hv ▸ below_alloc _ _ : Below w15.heap.size w15 w16)))
        clear hv
        refine hK.out _ _ (⟨(M.out.2.2.2.2.1).at.1 0, (M.out.2.2.2.2.1).at.1 1, (M.out.2.2.1).at.1 0, (M.out.2.2.1).at.1 1⟩) (fun hH65 => ?_)
        clear hK K hH57
        (try simp only [Act.put, List.setIfInBounds_toArray, List.set_cons_zero, List.set_cons_succ])
        refine wpAnyH_ready (rs := [5]) (by kernel_rfl) (by simp) ?_
        refine AllReadyH.cons at5 (fun K hK => ?_) AllReadyH.nil
        go_simp
        obtain ⟨z68, ez68⟩ : ∃ v_ : Int, v_ = (z12 + s7) := ⟨_, rfl⟩
        refine (bigAdd_ok (G := G) (x := z12) (y := s7) (M.out.2.2.2.1) (M.out.2.1) (Sz.mono Sz12.out (by omega)) (Sz.mono (Sz.i64 HS7.out) (by omega))).mono ?_
        rintro e w17 ⟨a_66, c_67, rfl, hd69, hb⟩
        rw [← ez68] at hd69 ⊢
        have Sz68 : Hid (Sz z68 62) := by show Sz z68 62; rw [ez68]; exact (Sz.add Sz12.out (Sz.mono (Sz.i64 HS7.out) (by omega)))
        have Ez68 := Lib.hid ez68; clear ez68
        replace M := Lib.hid (And.intro hd69 (Goes.go M.out hb))
        clear hb hd69
        (try go_wp2_with fail)
        refine hK.out _ _ (⟨(M.out.2.2.2.2.2.1).at.1 0, (M.out.2.2.2.2.2.1).at.1 1, (M.out.2.2.2.1).at.1 0, (M.out.2.2.2.1).at.1 1⟩) (fun hH70 => ?_)
        clear hK K hH65
        (try simp only [Act.put, List.setIfInBounds_toArray, List.set_cons_zero, List.set_cons_succ])
        refine tk at6 ?_
        refine tk at7 ?_
        refine tk at8 ?_
        refine wpAnyH_ready (rs := [10]) (by kernel_rfl) (by simp) ?_
        refine AllReadyH.cons at10 (fun K hK => ?_) AllReadyH.nil
        obtain ⟨p4_0, q4_0, p4_1, q4_1⟩ := (M.out.2.1).c2
        go_simp
        clear p4_0 q4_0 p4_1 q4_1
        obtain ⟨w18, hv⟩ : ∃ w_ : World, w_ = ((w17.setCell ⟨w15.heap.size, 0, none⟩ (.int .i64 (sg z68))).setCell ⟨w15.heap.size, 1, none⟩ (.slice a_66 (ln z68) c_67)) := ⟨_, rfl⟩
        rw [← hv]
        have og : w17.grownBy w18 (some w15.heap.size) := by rw [hv]; exact (only_setCell (only_setCell (World.grownBy.refl _ _) _) _)
        have hz : w.heap.size ≤ w15.heap.size := by omega
        have hk : Bx w18 w15.heap.size 24 #[.int .i64 (sg z68), .slice a_66 (ln z68) c_67] := by rw [hv]; exact (((M.out.2.1).set 0 _).set 1 _)
        have hbw : Below w.heap.size w w18 := by rw [hv]; exact (Below.setCell (Below.setCell (M.out.2.2.2.2.2.2) (by omega) _) (by omega) _)
        replace M := Lib.hid (And.intro ((M.out.1).far (M.out.2.1) (by rfl) (by omega) og) (And.intro hk (And.intro ((M.out.2.2.1).far (M.out.2.1) (by rfl) (by omega) og) (And.intro ((M.out.2.2.2.1).only og (by omega)) (And.intro ((M.out.2.2.2.2.1).far (M.out.2.1) (by rfl) (by omega) og) (And.intro ((M.out.2.2.2.2.2.1).only og (by omega)) hbw))))))
        clear hk hbw og hv hz
        refine hK.out _ _ (⟨(M.out.2.2.2.2.2.1).at.1 0, (M.out.2.2.2.2.2.1).at.1 1, (M.out.2.2.2.1).at.1 0, (M.out.2.2.2.1).at.1 1⟩) (fun hH71 => ?_)
        clear hK K hH70
        (try simp only [Act.put, List.setIfInBounds_toArray, List.set_cons_zero, List.set_cons_succ])
        refine tk at11 ?_
        refine wpAnyH_done (by kernel_rfl) ?_ _
        clear hH71
        go_wp2_with fail
        go_meet
        exact ⟨w15.heap.size, a_54, c_55, a_66, c_67, z68, rfl, rfl, Ez68, Sz68, (by omega), (M.out.2.1), (M.out.1), (M.out.2.2.1), (M.out.2.2.2.2.1), (M.out.2.2.2.2.2.1), (M.out.2.2.2.1), (M.out.2.2.2.2.2.2)⟩
      refine AllReadyH.cons at9 (fun K hK => ?_) AllReadyH.nil
      go_simp
      obtain ⟨w15, hv⟩ : ∃ w_ : World, w_ = (w14.alloc (.cells #[.int .i64 0, .slice none 0 0] 24)) := ⟨_, rfl⟩
      rw [← hv]
      have o4 : A14 < w14.heap.size := ((M.out.1)).lt
      replace M := Lib.hid (And.intro (hv ▸ bx1 w14 24 #[.int .i64 0, .slice none 0 0]) (Goes.go M.out (hv ▸ below_alloc _ _ : Below w14.heap.size w14 w15)))
      clear hv
      refine hK.out _ _ (⟨(M.out.2.2.2.1).at.1 0, (M.out.2.2.2.1).at.1 1, (M.out.2.1).at.1 0, (M.out.2.1).at.1 1⟩) (fun hH72 => ?_)
      clear hK K hH53
      (try simp only [Act.put, List.setIfInBounds_toArray, List.set_cons_zero, List.set_cons_succ])
      refine wpAnyH_ready (rs := [4]) (by kernel_rfl) (by simp) ?_
      refine AllReadyH.cons at4 (fun K hK => ?_) AllReadyH.nil
      go_simp
      refine (bigOf_ok (G := G) s7 _ HS7.out).mono ?_
      rintro e w16 ⟨a_73, c_74, rfl, hd75, hb⟩
      replace M := Lib.hid (And.intro hd75 (Goes.go M.out hb))
      clear hb hd75
      (try go_wp2_with fail)
      refine hK.out _ _ (⟨(M.out.2.2.2.2.1).at.1 0, (M.out.2.2.2.2.1).at.1 1, (M.out.2.2.1).at.1 0, (M.out.2.2.1).at.1 1⟩) (fun hH76 => ?_)
      clear hK K hH72
      (try simp only [Act.put, List.setIfInBounds_toArray, List.set_cons_zero, List.set_cons_succ])
      refine wpAnyH_ready (rs := [5]) (by kernel_rfl) (by simp) ?_
      refine AllReadyH.cons at5 (fun K hK => ?_) AllReadyH.nil
      go_simp
      obtain ⟨z79, ez79⟩ : ∃ v_ : Int, v_ = (z12 + s7) := ⟨_, rfl⟩
      refine (bigAdd_ok (G := G) (x := z12) (y := s7) (M.out.2.2.2.1) (M.out.1) (Sz.mono Sz12.out (by omega)) (Sz.mono (Sz.i64 HS7.out) (by omega))).mono ?_
      rintro e w17 ⟨a_77, c_78, rfl, hd80, hb⟩
      rw [← ez79] at hd80 ⊢
      have Sz79 : Hid (Sz z79 62) := by show Sz z79 62; rw [ez79]; exact (Sz.add Sz12.out (Sz.mono (Sz.i64 HS7.out) (by omega)))
      have Ez79 := Lib.hid ez79; clear ez79
      replace M := Lib.hid (And.intro hd80 (Goes.go M.out hb))
      clear hb hd80
      (try go_wp2_with fail)
      refine hK.out _ _ (⟨(M.out.2.2.2.2.2.1).at.1 0, (M.out.2.2.2.2.2.1).at.1 1, (M.out.2.2.2.1).at.1 0, (M.out.2.2.2.1).at.1 1⟩) (fun hH81 => ?_)
      clear hK K hH76
      (try simp only [Act.put, List.setIfInBounds_toArray, List.set_cons_zero, List.set_cons_succ])
      refine tk at6 ?_
      refine tk at7 ?_
      refine tk at8 ?_
      refine wpAnyH_ready (rs := [10]) (by kernel_rfl) (by simp) ?_
      refine AllReadyH.cons at10 (fun K hK => ?_) AllReadyH.nil
      obtain ⟨p4_0, q4_0, p4_1, q4_1⟩ := (M.out.2.2.1).c2
      go_simp
      clear p4_0 q4_0 p4_1 q4_1
      obtain ⟨w18, hv⟩ : ∃ w_ : World, w_ = ((w17.setCell ⟨w14.heap.size, 0, none⟩ (.int .i64 (sg z79))).setCell ⟨w14.heap.size, 1, none⟩ (.slice a_77 (ln z79) c_78)) := ⟨_, rfl⟩
      rw [← hv]
      have og : w17.grownBy w18 (some w14.heap.size) := by rw [hv]; exact (only_setCell (only_setCell (World.grownBy.refl _ _) _) _)
      have hz : w.heap.size ≤ w14.heap.size := by omega
      have hk : Bx w18 w14.heap.size 24 #[.int .i64 (sg z79), .slice a_77 (ln z79) c_78] := by rw [hv]; exact (((M.out.2.2.1).set 0 _).set 1 _)
      have hbw : Below w.heap.size w w18 := by rw [hv]; exact (Below.setCell (Below.setCell (M.out.2.2.2.2.2.2) (by omega) _) (by omega) _)
      replace M := Lib.hid (And.intro ((M.out.1).far (M.out.2.2.1) (by rfl) (by omega) og) (And.intro ((M.out.2.1).far (M.out.2.2.1) (by rfl) (by omega) og) (And.intro hk (And.intro ((M.out.2.2.2.1).only og (by omega)) (And.intro ((M.out.2.2.2.2.1).far (M.out.2.2.1) (by rfl) (by omega) og) (And.intro ((M.out.2.2.2.2.2.1).only og (by omega)) hbw))))))
      clear hk hbw og hv hz
      refine hK.out _ _ (⟨(M.out.2.2.2.2.2.1).at.1 0, (M.out.2.2.2.2.2.1).at.1 1, (M.out.2.2.2.1).at.1 0, (M.out.2.2.2.1).at.1 1⟩) (fun hH82 => ?_)
      clear hK K hH81
      (try simp only [Act.put, List.setIfInBounds_toArray, List.set_cons_zero, List.set_cons_succ])
      refine tk at11 ?_
      refine wpAnyH_done (by kernel_rfl) ?_ _
      clear hH82
      go_wp2_with fail
      go_meet
      exact ⟨w14.heap.size, a_73, c_74, a_77, c_78, z79, rfl, rfl, Ez79, Sz79, (by omega), (M.out.2.2.1), (M.out.1), (M.out.2.1), (M.out.2.2.2.2.1), (M.out.2.2.2.2.2.1), (M.out.2.2.2.1), (M.out.2.2.2.2.2.2)⟩
    case rest =>
      obtain ⟨A52, a_45, c_46, a_48, c_49, z50, rfl, rfl, Ez50, Sz50, oA52, M⟩ := hcut
      obtain ⟨w14, rfl⟩ : ∃ w_ : World, w_ = wc := ⟨_, rfl⟩
      go_wp2_with fail
      replace M := Lib.hid (And.intro (M.out.1) (And.intro (M.out.2.1) (M.out.2.2.2.2.2.2)))
      refine (bigRead_v (G := G) (S := S3) (z := z7) (er := 0) HS3.out HL3.out HR3.out HE3.out).mono ?_
      rintro e w15 ⟨a_83, c_84, rfl, hd85, hb⟩
      replace M := Lib.hid (And.intro hd85 (Goes.go M.out hb))
      clear hb hd85
      go_upto_region 18 with fail
      obtain ⟨w16, hv⟩ : ∃ w_ : World, w_ = (w15.alloc (.cells #[.int .i64 (sg z7), .slice a_83 (ln z7) c_84] 24)) := ⟨_, rfl⟩
      rw [← hv]
      have o5 : A52 < w15.heap.size := ((M.out.2.1)).lt
      replace M := Lib.hid (And.intro (hv ▸ bx1 w15 24 #[.int .i64 (sg z7), .slice a_83 (ln z7) c_84]) (Goes.go M.out (hv ▸ below_alloc _ _ : Below w15.heap.size w15 w16)))
      clear hv
      obtain ⟨p5_0, q5_0, p5_1, q5_1⟩ := (M.out.1).c2
      obtain ⟨p4_0, q4_0, p4_1, q4_1⟩ := (M.out.2.2.1).c2
      go_wp2_with fail
      clear p5_0 q5_0 p5_1 q5_1 p4_0 q4_0 p4_1 q4_1
      refine (bigSame_is (G := G) (x := z7) (y := z50) (b := true) (M.out.2.1) (M.out.2.2.2.1) (Sz.mono HSZ7.out (by omega)) (Sz.mono Sz50.out (by omega)) (eqZ_of (by rw [Ez50.out, Ez12.out]; exact HZ7.out.symm))).mono ?_
      rintro e w17 ⟨rfl, hb⟩
      replace M := Lib.hid (Goes.go M.out hb)
      clear hb
      go_wp2_with fail
      go_ret
      exact ⟨rfl, (M.out.2.2.2.2)⟩

set_option maxRecDepth 100000 in
set_option maxHeartbeats 8000000 in
theorem back_one_no {S : ByteArray} {l : List UInt8} {x : Int} {a1 : Option Addr} {c1 : Nat} {w : World} (hG : G ≤ w.heap.size) (ht : Tab w) (h1 : BD G w a1 c1 x) (hx : Sz x 60) (hx0 : x ≠ 0) (hS : S = ⟨l.toArray⟩) (hlen : l.length ≤ 400) (hf : rdE l = 2)  :
    Calls Tryd.prog 4 #[.agg #[.int .i64 (sg x), .slice a1 (ln x) c1], .string S] w fun e w' => e = .returned (.bool true) ∧ Below w.heap.size w w' := by
  have hsz : ¬ 400 < S.size := by rw [hS]; simp [ByteArray.size]; omega
  have hbl : decide (400 < S.size) = false := decide_eq_false hsz
  have hbl2 : decide ((400 : Int) < (S.size : Int)) = false := decide_eq_false (by omega)
  obtain ⟨zr, hzr⟩ : ∃ z, rdZ l = z := ⟨_, rfl⟩
  have HZR := Lib.hid hzr
  have HS := Lib.hid hS
  have HLN : Hid (l.length ≤ 1000000) := by show _ ≤ _; omega
  have HSZ : Hid (Sz zr 400) := by show Sz _ _; rw [← hzr]; exact rd_size hlen
  have HRE := Lib.hid hf
  have HZ0 : Hid (zr = 0) := by show _ = _; rw [← hzr]; rcases read_cases l with h | h; rw [hf] at h; cases h; exact h.2
  obtain ⟨S2, hS2⟩ : ∃ s : ByteArray, (⟨(textZ x).toArray⟩ : ByteArray) = s := ⟨_, rfl⟩
  have HS2 := Lib.hid hS2
  have htl := text_len hx
  have HL2 : Hid ((textZ x).length ≤ 1000000) := by show _ ≤ _; omega
  have HX := Lib.hid hx
  have HE2 : Hid (rdE (textZ x) = 0) := by show _ = _; unfold rdE; rw [readO_text]; rfl
  have HR2 : Hid (rdZ (textZ x) = x) := by show _ = _; unfold rdZ; rw [readO_text]; rfl
  have e0 : (sg x == 0) = false := by rw [beq_eq_false_iff_ne]; intro h; exact hx0 (by have := abs_sg x; rw [h, Int.zero_mul] at this; exact this)
  obtain ⟨s7, hs7⟩ : ∃ s, 7 * sg x = s := ⟨_, rfl⟩
  have hsr := sg_cases x
  have hs7b : -7 ≤ s7 ∧ s7 ≤ 7 := by rw [← hs7]; rcases hsr with h | h | h <;> rw [h] <;> decide
  have w7 : IntKind.i64.wrap (7 * sg x) = s7 := by rw [hs7]; exact IntWalk.i64_in _ (by omega)
  have hcat : ¬ 9223372036854775807 < S2.size + 1 := by rw [← hS2]; simp [ByteArray.size]; omega
  obtain ⟨S3, hS3⟩ : ∃ s : ByteArray, S2 ++ {data := #[55]} = s := ⟨_, rfl⟩
  obtain ⟨l3, hl3⟩ : ∃ s, textZ x ++ [55] = s := ⟨_, rfl⟩
  have HS3 : Hid (S3 = ⟨l3.toArray⟩) := by show _ = _; rw [← hS3, ← hl3, ← hS2]; exact cat_seven _
  have HL3 : Hid (l3.length ≤ 1000000) := by show _ ≤ _; rw [← hl3, List.length_append]; simp; omega
  have hr3 := readO_seven hx0
  obtain ⟨z7, hz7⟩ : ∃ z, x * 10 + s7 = z := ⟨_, rfl⟩
  have HZ7 := Lib.hid hz7
  have HE3 : Hid (rdE l3 = 0) := by show _ = _; rw [← hl3]; unfold rdE; rw [hr3]; rfl
  have HR3 : Hid (rdZ l3 = z7) := by show _ = _; rw [← hl3]; unfold rdZ; rw [hr3, ← hz7, ← hs7]; rfl
  have HS7 : Hid (-9223372036854775808 ≤ s7 ∧ s7 ≤ 9223372036854775807) := by show _ ∧ _; omega
  have HSZ7 : Hid (Sz z7 62) := by show Sz _ _; rw [← hz7]; exact Sz.add (n := 61) (Sz.mul (n := 60) (m := 1) hx (by unfold Sz; decide)) ((Sz.i64 HS7.out).mono (by omega))
  clear hx0 hS2 hx htl hsr hs7b hs7 hr3 hz7 hl3 hS hlen hf hzr hsz
  have HT : Hid (Tab w) := ht
  have H1 : Hid (BD G w a1 c1 x) := h1
  clear ht h1
  have M : Hid (Below w.heap.size w w) := Below.refl _ _
  go_enter Tryd.func4, Tryd.ntmps4
  go_upto_region 1 with fail
  obtain ⟨w1, hv⟩ : ∃ w_ : World, w_ = (w.alloc (.cells #[.int .i64 (sg x), .slice a1 (ln x) c1] 24)) := ⟨_, rfl⟩
  rw [← hv]
  replace M := Lib.hid (And.intro (hv ▸ bx1 w 24 #[.int .i64 (sg x), .slice a1 (ln x) c1]) (Goes.go M.out (hv ▸ below_alloc _ _ : Below w.heap.size w w1)))
  clear hv
  go_wp2_with fail
  refine (small_ok (G := G) (Nat.le_trans hG (M.out.2).size) (HT.out.keep (M.out.2))).mono ?_
  rintro e w2 ⟨rfl, hb⟩
  replace M := Lib.hid (Goes.go M.out hb)
  clear hb
  obtain ⟨p0_0, q0_0, p0_1, q0_1⟩ := (M.out.1).c2
  go_wp2_with fail
  clear p0_0 q0_0 p0_1 q0_1
  refine (bigFew_ok (s := (sg x)) (m := 60) (b := true) (few_sz HX.out rfl)).mono ?_
  rintro e w3 ⟨rfl, hb⟩
  replace M := Lib.hid (Goes.go M.out hb)
  clear hb
  go_wp2_with fail
  refine (bigRead_v (G := G) (S := S) (z := zr) (er := 2) HS.out HLN.out HZR.out HRE.out).mono ?_
  rintro e w4 ⟨a_1, c_2, rfl, hd3, hb⟩
  replace M := Lib.hid (And.intro hd3 (Goes.go M.out hb))
  clear hb hd3
  go_upto_region 5 with fail
  obtain ⟨w5, hv⟩ : ∃ w_ : World, w_ = (w4.alloc (.cells #[.int .i64 (sg zr), .slice a_1 (ln zr) c_2] 24)) := ⟨_, rfl⟩
  rw [← hv]
  have o1 : w.heap.size < w4.heap.size := ((M.out.2.1)).lt
  replace M := Lib.hid (And.intro (hv ▸ bx1 w4 24 #[.int .i64 (sg zr), .slice a_1 (ln zr) c_2]) (Goes.go M.out (hv ▸ below_alloc _ _ : Below w4.heap.size w4 w5)))
  clear hv
  obtain ⟨p1_0, q1_0, p1_1, q1_1⟩ := (M.out.1).c2
  go_wp2_with fail
  clear p1_0 q1_0 p1_1 q1_1
  refine (bigSame_is (G := G) (x := zr) (y := 0) (b := true) (M.out.2.1) (bd_zero _ _ _) (Sz.mono HSZ.out (by omega)) (Sz.mono (show Sz (0) 0 from by unfold Sz; decide) (by omega)) (eqZ_of HZ0.out)).mono ?_
  rintro e w6 ⟨rfl, hb⟩
  replace M := Lib.hid (Goes.go M.out hb)
  clear hb
  obtain ⟨p0_0, q0_0, p0_1, q0_1⟩ := (M.out.2.2.1).c2
  go_wp2_with fail
  clear p0_0 q0_0 p0_1 q0_1
  refine (bigRight_ok (G := G) (z := x) (H1.out.keep (M.out.2.2.2)) (Sz.mono HX.out (by omega))).mono ?_
  rintro e w7 ⟨rfl, hb⟩
  replace M := Lib.hid (Goes.go M.out hb)
  clear hb
  obtain ⟨p0_0, q0_0, p0_1, q0_1⟩ := (M.out.2.2.1).c2
  go_wp2_with fail
  clear p0_0 q0_0 p0_1 q0_1
  refine (bigText_lit (G := G) (x := x) (s := S2) (H1.out.keep (M.out.2.2.2)) (Sz.mono HX.out (by omega)) (HT.out.keep (M.out.2.2.2)) HS2.out).mono ?_
  rintro e w8 ⟨rfl, hb⟩
  replace M := Lib.hid (Goes.go M.out hb)
  clear hb
  go_wp2_with fail
  refine (bigRead_v (G := G) (S := S2) (z := x) (er := 0) HS2.out.symm HL2.out HR2.out HE2.out).mono ?_
  rintro e w9 ⟨a_4, c_5, rfl, hd6, hb⟩
  replace M := Lib.hid (And.intro hd6 (Goes.go M.out hb))
  clear hb hd6
  go_upto_region 11 with fail
  obtain ⟨w10, hv⟩ : ∃ w_ : World, w_ = (w9.alloc (.cells #[.int .i64 (sg x), .slice a_4 (ln x) c_5] 24)) := ⟨_, rfl⟩
  rw [← hv]
  have o2 : w4.heap.size < w9.heap.size := ((M.out.2.1)).lt
  replace M := Lib.hid (And.intro (hv ▸ bx1 w9 24 #[.int .i64 (sg x), .slice a_4 (ln x) c_5]) (Goes.go M.out (hv ▸ below_alloc _ _ : Below w9.heap.size w9 w10)))
  clear hv
  obtain ⟨p2_0, q2_0, p2_1, q2_1⟩ := (M.out.1).c2
  obtain ⟨p0_0, q0_0, p0_1, q0_1⟩ := (M.out.2.2.2.2.1).c2
  go_wp2_with fail
  clear p2_0 q2_0 p2_1 q2_1 p0_0 q0_0 p0_1 q0_1
  refine (bigSame_is (G := G) (x := x) (y := x) (b := true) (M.out.2.1) (H1.out.keep (M.out.2.2.2.2.2)) (Sz.mono HX.out (by omega)) (Sz.mono HX.out (by omega)) (eqZ_of rfl)).mono ?_
  rintro e w11 ⟨rfl, hb⟩
  replace M := Lib.hid (Goes.go M.out hb)
  clear hb
  obtain ⟨p0_0, q0_0, p0_1, q0_1⟩ := (M.out.2.2.2.2.1).c2
  go_upto_region 15 with fail
  clear p0_0 q0_0 p0_1 q0_1
  replace M := Lib.hid (And.intro (M.out.2.2.2.2.1) (M.out.2.2.2.2.2))
  go_cut [11, 12] (fun s11 s12 wx => ∃ (A14 : Nat), ∃ (a_7 : Option Addr), ∃ (c_8 : Nat), ∃ (a_10 : Option Addr), ∃ (c_11 : Nat), ∃ (z12 : Int), s11 = .pointer (some ⟨A14, 0, none⟩) ∧ s12 = .int .i64 0 ∧ Hid (z12 = (x * 10)) ∧ Hid (Sz z12 61) ∧ w.heap.size < A14 ∧ Hid (Bx wx A14 24 #[.int .i64 (sg z12), .slice a_10 (ln z12) c_11] ∧ BD G wx a_10 c_11 z12 ∧ BD G wx a_7 c_8 10 ∧ Bx wx w.heap.size 24 #[.int .i64 (sg x), .slice a1 (ln x) c1] ∧ Below w.heap.size w wx))
  case first =>
    obtain ⟨w12, hv⟩ : ∃ w_ : World, w_ = w11.drew := ⟨_, rfl⟩
    replace M := Lib.hid (Goes.go M.out (hv ▸ below_drew _ : Below w11.heap.size w11 w12))
    refine wp_region_held_drew (S := (fun w' => w'.cell? ⟨w.heap.size, 0, none⟩ = some (.int .i64 (sg x)) ∧ w'.cell? ⟨w.heap.size, 1, none⟩ = some (.slice a1 (ln x) c1))) (by kernel_rfl) (by rw [← hv]; exact ⟨(M.out.1).at.1 0, (M.out.1).at.1 1⟩) (fun hH15 => ?_)
    rw [← hv] at hH15 ⊢
    clear hv
    refine tk at0 ?_
    refine wpAnyH_ready (rs := [1, 6]) (by kernel_rfl) (by simp) ?_
    refine AllReadyH.cons at1 (fun K hK => ?_) ?_
    ·
      go_simp
      refine (bigOf_ok (G := G) 10 _ (by omega)).mono ?_
      rintro e w13 ⟨a_16, c_17, rfl, hd18, hb⟩
      replace M := Lib.hid (And.intro hd18 (Goes.go M.out hb))
      clear hb hd18
      (try go_wp2_with fail)
      refine hK.out _ _ (⟨(M.out.2.1).at.1 0, (M.out.2.1).at.1 1⟩) (fun hH19 => ?_)
      clear hK K hH15
      (try simp only [Act.put, List.setIfInBounds_toArray, List.set_cons_zero, List.set_cons_succ])
      refine wpAnyH_ready (rs := [2, 6]) (by kernel_rfl) (by simp) ?_
      refine AllReadyH.cons at2 (fun K hK => ?_) ?_
      ·
        go_simp
        obtain ⟨z22, ez22⟩ : ∃ v_ : Int, v_ = (x * 10) := ⟨_, rfl⟩
        refine (bigMul_ok (G := G) (x := x) (y := 10) (H1.out.keep (M.out.2.2)) (M.out.1) (Sz.mono HX.out (by omega)) (Sz.mono (show Sz (10) 1 from by unfold Sz; decide) (by omega))).mono ?_
        rintro e w14 ⟨a_20, c_21, rfl, hd23, hb⟩
        rw [← ez22] at hd23 ⊢
        have Sz22 : Hid (Sz z22 61) := by show Sz z22 61; rw [ez22]; exact (Sz.mul HX.out (show Sz (10) 1 from by unfold Sz; decide))
        have Ez22 := Lib.hid ez22; clear ez22
        replace M := Lib.hid (And.intro hd23 (Goes.go M.out hb))
        clear hb hd23
        (try go_wp2_with fail)
        refine hK.out _ _ (⟨(M.out.2.2.1).at.1 0, (M.out.2.2.1).at.1 1⟩) (fun hH24 => ?_)
        clear hK K hH19
        (try simp only [Act.put, List.setIfInBounds_toArray, List.set_cons_zero, List.set_cons_succ])
        refine tk at3 ?_
        refine tk at4 ?_
        refine tk at5 ?_
        refine wpAnyH_ready (rs := [6]) (by kernel_rfl) (by simp) ?_
        refine AllReadyH.cons at6 (fun K hK => ?_) AllReadyH.nil
        go_simp
        obtain ⟨w15, hv⟩ : ∃ w_ : World, w_ = (w14.alloc (.cells #[.int .i64 0, .slice none 0 0] 24)) := ⟨_, rfl⟩
        rw [← hv]
        have o3 : w.heap.size < w14.heap.size := ((M.out.2.2.1)).lt
        replace M := Lib.hid (And.intro (hv ▸ bx1 w14 24 #[.int .i64 0, .slice none 0 0]) (Goes.go M.out (hv ▸ below_alloc _ _ : Below w14.heap.size w14 w15)))
        clear hv
        refine hK.out _ _ (⟨(M.out.2.2.2.1).at.1 0, (M.out.2.2.2.1).at.1 1⟩) (fun hH25 => ?_)
        clear hK K hH24
        (try simp only [Act.put, List.setIfInBounds_toArray, List.set_cons_zero, List.set_cons_succ])
        refine wpAnyH_ready (rs := [7]) (by kernel_rfl) (by simp) ?_
        refine AllReadyH.cons at7 (fun K hK => ?_) AllReadyH.nil
        obtain ⟨p3_0, q3_0, p3_1, q3_1⟩ := (M.out.1).c2
        go_simp
        clear p3_0 q3_0 p3_1 q3_1
        obtain ⟨w16, hv⟩ : ∃ w_ : World, w_ = ((w15.setCell ⟨w14.heap.size, 0, none⟩ (.int .i64 (sg z22))).setCell ⟨w14.heap.size, 1, none⟩ (.slice a_20 (ln z22) c_21)) := ⟨_, rfl⟩
        rw [← hv]
        have og : w15.grownBy w16 (some w14.heap.size) := by rw [hv]; exact (only_setCell (only_setCell (World.grownBy.refl _ _) _) _)
        have hz : w.heap.size ≤ w14.heap.size := by omega
        have hk : Bx w16 w14.heap.size 24 #[.int .i64 (sg z22), .slice a_20 (ln z22) c_21] := by rw [hv]; exact (((M.out.1).set 0 _).set 1 _)
        have hbw : Below w.heap.size w w16 := by rw [hv]; exact (Below.setCell (Below.setCell (M.out.2.2.2.2) (by omega) _) (by omega) _)
        replace M := Lib.hid (And.intro hk (And.intro ((M.out.2.1).far (M.out.1) (by rfl) (by omega) og) (And.intro ((M.out.2.2.1).far (M.out.1) (by rfl) (by omega) og) (And.intro ((M.out.2.2.2.1).only og (by omega)) hbw))))
        clear hk hbw og hv hz
        refine hK.out _ _ (⟨(M.out.2.2.2.1).at.1 0, (M.out.2.2.2.1).at.1 1⟩) (fun hH26 => ?_)
        clear hK K hH25
        (try simp only [Act.put, List.setIfInBounds_toArray, List.set_cons_zero, List.set_cons_succ])
        refine tk at8 ?_
        refine wpAnyH_done (by kernel_rfl) ?_ _
        clear hH26
        go_wp2_with fail
        go_meet
        exact ⟨w14.heap.size, a_16, c_17, a_20, c_21, z22, rfl, rfl, Ez22, Sz22, (by omega), (M.out.1), (M.out.2.1), (M.out.2.2.1), (M.out.2.2.2.1), (M.out.2.2.2.2)⟩
      refine AllReadyH.cons at6 (fun K hK => ?_) AllReadyH.nil
      go_simp
      obtain ⟨w14, hv⟩ : ∃ w_ : World, w_ = (w13.alloc (.cells #[.int .i64 0, .slice none 0 0] 24)) := ⟨_, rfl⟩
      rw [← hv]
      have o3 : w.heap.size < w13.heap.size := ((M.out.2.1)).lt
      replace M := Lib.hid (And.intro (hv ▸ bx1 w13 24 #[.int .i64 0, .slice none 0 0]) (Goes.go M.out (hv ▸ below_alloc _ _ : Below w13.heap.size w13 w14)))
      clear hv
      refine hK.out _ _ (⟨(M.out.2.2.1).at.1 0, (M.out.2.2.1).at.1 1⟩) (fun hH27 => ?_)
      clear hK K hH19
      (try simp only [Act.put, List.setIfInBounds_toArray, List.set_cons_zero, List.set_cons_succ])
      refine wpAnyH_ready (rs := [2]) (by kernel_rfl) (by simp) ?_
      refine AllReadyH.cons at2 (fun K hK => ?_) AllReadyH.nil
      go_simp
      obtain ⟨z30, ez30⟩ : ∃ v_ : Int, v_ = (x * 10) := ⟨_, rfl⟩
      refine (bigMul_ok (G := G) (x := x) (y := 10) (H1.out.keep (M.out.2.2.2)) (M.out.2.1) (Sz.mono HX.out (by omega)) (Sz.mono (show Sz (10) 1 from by unfold Sz; decide) (by omega))).mono ?_
      rintro e w15 ⟨a_28, c_29, rfl, hd31, hb⟩
      rw [← ez30] at hd31 ⊢
      have Sz30 : Hid (Sz z30 61) := by show Sz z30 61; rw [ez30]; exact (Sz.mul HX.out (show Sz (10) 1 from by unfold Sz; decide))
      have Ez30 := Lib.hid ez30; clear ez30
      replace M := Lib.hid (And.intro hd31 (Goes.go M.out hb))
      clear hb hd31
      (try go_wp2_with fail)
      refine hK.out _ _ (⟨(M.out.2.2.2.1).at.1 0, (M.out.2.2.2.1).at.1 1⟩) (fun hH32 => ?_)
      clear hK K hH27
      (try simp only [Act.put, List.setIfInBounds_toArray, List.set_cons_zero, List.set_cons_succ])
      refine tk at3 ?_
      refine tk at4 ?_
      refine tk at5 ?_
      refine wpAnyH_ready (rs := [7]) (by kernel_rfl) (by simp) ?_
      refine AllReadyH.cons at7 (fun K hK => ?_) AllReadyH.nil
      obtain ⟨p3_0, q3_0, p3_1, q3_1⟩ := (M.out.2.1).c2
      go_simp
      clear p3_0 q3_0 p3_1 q3_1
      obtain ⟨w16, hv⟩ : ∃ w_ : World, w_ = ((w15.setCell ⟨w13.heap.size, 0, none⟩ (.int .i64 (sg z30))).setCell ⟨w13.heap.size, 1, none⟩ (.slice a_28 (ln z30) c_29)) := ⟨_, rfl⟩
      rw [← hv]
      have og : w15.grownBy w16 (some w13.heap.size) := by rw [hv]; exact (only_setCell (only_setCell (World.grownBy.refl _ _) _) _)
      have hz : w.heap.size ≤ w13.heap.size := by omega
      have hk : Bx w16 w13.heap.size 24 #[.int .i64 (sg z30), .slice a_28 (ln z30) c_29] := by rw [hv]; exact (((M.out.2.1).set 0 _).set 1 _)
      have hbw : Below w.heap.size w w16 := by rw [hv]; exact (Below.setCell (Below.setCell (M.out.2.2.2.2) (by omega) _) (by omega) _)
      replace M := Lib.hid (And.intro ((M.out.1).far (M.out.2.1) (by rfl) (by omega) og) (And.intro hk (And.intro ((M.out.2.2.1).far (M.out.2.1) (by rfl) (by omega) og) (And.intro ((M.out.2.2.2.1).only og (by omega)) hbw))))
      clear hk hbw og hv hz
      refine hK.out _ _ (⟨(M.out.2.2.2.1).at.1 0, (M.out.2.2.2.1).at.1 1⟩) (fun hH33 => ?_)
      clear hK K hH32
      (try simp only [Act.put, List.setIfInBounds_toArray, List.set_cons_zero, List.set_cons_succ])
      refine tk at8 ?_
      refine wpAnyH_done (by kernel_rfl) ?_ _
      clear hH33
      go_wp2_with fail
      go_meet
      exact ⟨w13.heap.size, a_16, c_17, a_28, c_29, z30, rfl, rfl, Ez30, Sz30, (by omega), (M.out.2.1), (M.out.1), (M.out.2.2.1), (M.out.2.2.2.1), (M.out.2.2.2.2)⟩
    refine AllReadyH.cons at6 (fun K hK => ?_) AllReadyH.nil
    go_simp
    obtain ⟨w13, hv⟩ : ∃ w_ : World, w_ = (w12.alloc (.cells #[.int .i64 0, .slice none 0 0] 24)) := ⟨_, rfl⟩
    rw [← hv]
    have o3 : w.heap.size < w12.heap.size := ((M.out.1)).lt
    replace M := Lib.hid (And.intro (hv ▸ bx1 w12 24 #[.int .i64 0, .slice none 0 0]) (Goes.go M.out (hv ▸ below_alloc _ _ : Below w12.heap.size w12 w13)))
    clear hv
    refine hK.out _ _ (⟨(M.out.2.1).at.1 0, (M.out.2.1).at.1 1⟩) (fun hH34 => ?_)
    clear hK K hH15
    (try simp only [Act.put, List.setIfInBounds_toArray, List.set_cons_zero, List.set_cons_succ])
    refine wpAnyH_ready (rs := [1]) (by kernel_rfl) (by simp) ?_
    refine AllReadyH.cons at1 (fun K hK => ?_) AllReadyH.nil
    go_simp
    refine (bigOf_ok (G := G) 10 _ (by omega)).mono ?_
    rintro e w14 ⟨a_35, c_36, rfl, hd37, hb⟩
    replace M := Lib.hid (And.intro hd37 (Goes.go M.out hb))
    clear hb hd37
    (try go_wp2_with fail)
    refine hK.out _ _ (⟨(M.out.2.2.1).at.1 0, (M.out.2.2.1).at.1 1⟩) (fun hH38 => ?_)
    clear hK K hH34
    (try simp only [Act.put, List.setIfInBounds_toArray, List.set_cons_zero, List.set_cons_succ])
    refine wpAnyH_ready (rs := [2]) (by kernel_rfl) (by simp) ?_
    refine AllReadyH.cons at2 (fun K hK => ?_) AllReadyH.nil
    go_simp
    obtain ⟨z41, ez41⟩ : ∃ v_ : Int, v_ = (x * 10) := ⟨_, rfl⟩
    refine (bigMul_ok (G := G) (x := x) (y := 10) (H1.out.keep (M.out.2.2.2)) (M.out.1) (Sz.mono HX.out (by omega)) (Sz.mono (show Sz (10) 1 from by unfold Sz; decide) (by omega))).mono ?_
    rintro e w15 ⟨a_39, c_40, rfl, hd42, hb⟩
    rw [← ez41] at hd42 ⊢
    have Sz41 : Hid (Sz z41 61) := by show Sz z41 61; rw [ez41]; exact (Sz.mul HX.out (show Sz (10) 1 from by unfold Sz; decide))
    have Ez41 := Lib.hid ez41; clear ez41
    replace M := Lib.hid (And.intro hd42 (Goes.go M.out hb))
    clear hb hd42
    (try go_wp2_with fail)
    refine hK.out _ _ (⟨(M.out.2.2.2.1).at.1 0, (M.out.2.2.2.1).at.1 1⟩) (fun hH43 => ?_)
    clear hK K hH38
    (try simp only [Act.put, List.setIfInBounds_toArray, List.set_cons_zero, List.set_cons_succ])
    refine tk at3 ?_
    refine tk at4 ?_
    refine tk at5 ?_
    refine wpAnyH_ready (rs := [7]) (by kernel_rfl) (by simp) ?_
    refine AllReadyH.cons at7 (fun K hK => ?_) AllReadyH.nil
    obtain ⟨p3_0, q3_0, p3_1, q3_1⟩ := (M.out.2.2.1).c2
    go_simp
    clear p3_0 q3_0 p3_1 q3_1
    obtain ⟨w16, hv⟩ : ∃ w_ : World, w_ = ((w15.setCell ⟨w12.heap.size, 0, none⟩ (.int .i64 (sg z41))).setCell ⟨w12.heap.size, 1, none⟩ (.slice a_39 (ln z41) c_40)) := ⟨_, rfl⟩
    rw [← hv]
    have og : w15.grownBy w16 (some w12.heap.size) := by rw [hv]; exact (only_setCell (only_setCell (World.grownBy.refl _ _) _) _)
    have hz : w.heap.size ≤ w12.heap.size := by omega
    have hk : Bx w16 w12.heap.size 24 #[.int .i64 (sg z41), .slice a_39 (ln z41) c_40] := by rw [hv]; exact (((M.out.2.2.1).set 0 _).set 1 _)
    have hbw : Below w.heap.size w w16 := by rw [hv]; exact (Below.setCell (Below.setCell (M.out.2.2.2.2) (by omega) _) (by omega) _)
    replace M := Lib.hid (And.intro ((M.out.1).far (M.out.2.2.1) (by rfl) (by omega) og) (And.intro ((M.out.2.1).far (M.out.2.2.1) (by rfl) (by omega) og) (And.intro hk (And.intro ((M.out.2.2.2.1).only og (by omega)) hbw))))
    clear hk hbw og hv hz
    refine hK.out _ _ (⟨(M.out.2.2.2.1).at.1 0, (M.out.2.2.2.1).at.1 1⟩) (fun hH44 => ?_)
    clear hK K hH43
    (try simp only [Act.put, List.setIfInBounds_toArray, List.set_cons_zero, List.set_cons_succ])
    refine tk at8 ?_
    refine wpAnyH_done (by kernel_rfl) ?_ _
    clear hH44
    go_wp2_with fail
    go_meet
    exact ⟨w12.heap.size, a_35, c_36, a_39, c_40, z41, rfl, rfl, Ez41, Sz41, (by omega), (M.out.2.2.1), (M.out.1), (M.out.2.1), (M.out.2.2.2.1), (M.out.2.2.2.2)⟩
  case rest =>
    obtain ⟨A14, a_7, c_8, a_10, c_11, z12, rfl, rfl, Ez12, Sz12, oA14, M⟩ := hcut
    obtain ⟨w12, rfl⟩ : ∃ w_ : World, w_ = wc := ⟨_, rfl⟩
    go_upto_region 16 with fail
    replace M := Lib.hid (And.intro (M.out.1) (And.intro (M.out.2.1) (And.intro (M.out.2.2.2.1) (M.out.2.2.2.2))))
    go_cut [13, 14] (fun s13 s14 wx => ∃ (A52 : Nat), ∃ (a_45 : Option Addr), ∃ (c_46 : Nat), ∃ (a_48 : Option Addr), ∃ (c_49 : Nat), ∃ (z50 : Int), s13 = .pointer (some ⟨A52, 0, none⟩) ∧ s14 = .int .i64 0 ∧ Hid (z50 = (z12 + s7)) ∧ Hid (Sz z50 62) ∧ A14 < A52 ∧ Hid (Bx wx A52 24 #[.int .i64 (sg z50), .slice a_48 (ln z50) c_49] ∧ BD G wx a_48 c_49 z50 ∧ BD G wx a_45 c_46 s7 ∧ BD G wx a_10 c_11 z12 ∧ Bx wx w.heap.size 24 #[.int .i64 (sg x), .slice a1 (ln x) c1] ∧ Bx wx A14 24 #[.int .i64 (sg z12), .slice a_10 (ln z12) c_11] ∧ Below w.heap.size w wx))
    case first =>
      obtain ⟨w13, hv⟩ : ∃ w_ : World, w_ = w12.drew := ⟨_, rfl⟩
      replace M := Lib.hid (Goes.go M.out (hv ▸ below_drew _ : Below w12.heap.size w12 w13))
      refine wp_region_held_drew (S := (fun w' => w'.cell? ⟨w.heap.size, 0, none⟩ = some (.int .i64 (sg x)) ∧ w'.cell? ⟨w.heap.size, 1, none⟩ = some (.slice a1 (ln x) c1) ∧ w'.cell? ⟨A14, 0, none⟩ = some (.int .i64 (sg z12)) ∧ w'.cell? ⟨A14, 1, none⟩ = some (.slice a_10 (ln z12) c_11))) (by kernel_rfl) (by rw [← hv]; exact ⟨(M.out.2.2.1).at.1 0, (M.out.2.2.1).at.1 1, (M.out.1).at.1 0, (M.out.1).at.1 1⟩) (fun hH53 => ?_)
      rw [← hv] at hH53 ⊢
      clear hv
      refine tk at0 ?_
      refine tk at1 ?_
      refine tk at2 ?_
      refine tk at3 ?_
      refine wpAnyH_ready (rs := [4, 9]) (by kernel_rfl) (by simp) ?_
      refine AllReadyH.cons at4 (fun K hK => ?_) ?_
      ·
        go_simp
        refine (bigOf_ok (G := G) s7 _ HS7.out).mono ?_
        rintro e w14 ⟨a_54, c_55, rfl, hd56, hb⟩
        replace M := Lib.hid (And.intro hd56 (Goes.go M.out hb))
        clear hb hd56
        (try go_wp2_with fail)
        refine hK.out _ _ (⟨(M.out.2.2.2.1).at.1 0, (M.out.2.2.2.1).at.1 1, (M.out.2.1).at.1 0, (M.out.2.1).at.1 1⟩) (fun hH57 => ?_)
        clear hK K hH53
        (try simp only [Act.put, List.setIfInBounds_toArray, List.set_cons_zero, List.set_cons_succ])
        refine wpAnyH_ready (rs := [5, 9]) (by kernel_rfl) (by simp) ?_
        refine AllReadyH.cons at5 (fun K hK => ?_) ?_
        ·
          go_simp
          obtain ⟨z60, ez60⟩ : ∃ v_ : Int, v_ = (z12 + s7) := ⟨_, rfl⟩
          refine (bigAdd_ok (G := G) (x := z12) (y := s7) (M.out.2.2.1) (M.out.1) (Sz.mono Sz12.out (by omega)) (Sz.mono (Sz.i64 HS7.out) (by omega))).mono ?_
          rintro e w15 ⟨a_58, c_59, rfl, hd61, hb⟩
          rw [← ez60] at hd61 ⊢
          have Sz60 : Hid (Sz z60 62) := by show Sz z60 62; rw [ez60]; exact (Sz.add Sz12.out (Sz.mono (Sz.i64 HS7.out) (by omega)))
          have Ez60 := Lib.hid ez60; clear ez60
          replace M := Lib.hid (And.intro hd61 (Goes.go M.out hb))
          clear hb hd61
          (try go_wp2_with fail)
          refine hK.out _ _ (⟨(M.out.2.2.2.2.1).at.1 0, (M.out.2.2.2.2.1).at.1 1, (M.out.2.2.1).at.1 0, (M.out.2.2.1).at.1 1⟩) (fun hH62 => ?_)
          clear hK K hH57
          (try simp only [Act.put, List.setIfInBounds_toArray, List.set_cons_zero, List.set_cons_succ])
          refine tk at6 ?_
          refine tk at7 ?_
          refine tk at8 ?_
          refine wpAnyH_ready (rs := [9]) (by kernel_rfl) (by simp) ?_
          refine AllReadyH.cons at9 (fun K hK => ?_) AllReadyH.nil
          go_simp
          obtain ⟨w16, hv⟩ : ∃ w_ : World, w_ = (w15.alloc (.cells #[.int .i64 0, .slice none 0 0] 24)) := ⟨_, rfl⟩
          rw [← hv]
          have o4 : A14 < w15.heap.size := ((M.out.2.2.1)).lt
          replace M := Lib.hid (And.intro (hv ▸ bx1 w15 24 #[.int .i64 0, .slice none 0 0]) (Goes.go M.out (hv ▸ below_alloc _ _ : Below w15.heap.size w15 w16)))
          clear hv
          refine hK.out _ _ (⟨(M.out.2.2.2.2.2.1).at.1 0, (M.out.2.2.2.2.2.1).at.1 1, (M.out.2.2.2.1).at.1 0, (M.out.2.2.2.1).at.1 1⟩) (fun hH63 => ?_)
          clear hK K hH62
          (try simp only [Act.put, List.setIfInBounds_toArray, List.set_cons_zero, List.set_cons_succ])
          refine wpAnyH_ready (rs := [10]) (by kernel_rfl) (by simp) ?_
          refine AllReadyH.cons at10 (fun K hK => ?_) AllReadyH.nil
          obtain ⟨p4_0, q4_0, p4_1, q4_1⟩ := (M.out.1).c2
          go_simp
          clear p4_0 q4_0 p4_1 q4_1
          obtain ⟨w17, hv⟩ : ∃ w_ : World, w_ = ((w16.setCell ⟨w15.heap.size, 0, none⟩ (.int .i64 (sg z60))).setCell ⟨w15.heap.size, 1, none⟩ (.slice a_58 (ln z60) c_59)) := ⟨_, rfl⟩
          rw [← hv]
          have og : w16.grownBy w17 (some w15.heap.size) := by rw [hv]; exact (only_setCell (only_setCell (World.grownBy.refl _ _) _) _)
          have hz : w.heap.size ≤ w15.heap.size := by omega
          have hk : Bx w17 w15.heap.size 24 #[.int .i64 (sg z60), .slice a_58 (ln z60) c_59] := by rw [hv]; exact (((M.out.1).set 0 _).set 1 _)
          have hbw : Below w.heap.size w w17 := by rw [hv]; exact (Below.setCell (Below.setCell (M.out.2.2.2.2.2.2) (by omega) _) (by omega) _)
          replace M := Lib.hid (And.intro hk (And.intro ((M.out.2.1).far (M.out.1) (by rfl) (by omega) og) (And.intro ((M.out.2.2.1).far (M.out.1) (by rfl) (by omega) og) (And.intro ((M.out.2.2.2.1).only og (by omega)) (And.intro ((M.out.2.2.2.2.1).far (M.out.1) (by rfl) (by omega) og) (And.intro ((M.out.2.2.2.2.2.1).only og (by omega)) hbw))))))
          clear hk hbw og hv hz
          refine hK.out _ _ (⟨(M.out.2.2.2.2.2.1).at.1 0, (M.out.2.2.2.2.2.1).at.1 1, (M.out.2.2.2.1).at.1 0, (M.out.2.2.2.1).at.1 1⟩) (fun hH64 => ?_)
          clear hK K hH63
          (try simp only [Act.put, List.setIfInBounds_toArray, List.set_cons_zero, List.set_cons_succ])
          refine tk at11 ?_
          refine wpAnyH_done (by kernel_rfl) ?_ _
          clear hH64
          go_wp2_with fail
          go_meet
          exact ⟨w15.heap.size, a_54, c_55, a_58, c_59, z60, rfl, rfl, Ez60, Sz60, (by omega), (M.out.1), (M.out.2.1), (M.out.2.2.1), (M.out.2.2.2.2.1), (M.out.2.2.2.2.2.1), (M.out.2.2.2.1), (M.out.2.2.2.2.2.2)⟩
        refine AllReadyH.cons at9 (fun K hK => ?_) AllReadyH.nil
        go_simp
        obtain ⟨w15, hv⟩ : ∃ w_ : World, w_ = (w14.alloc (.cells #[.int .i64 0, .slice none 0 0] 24)) := ⟨_, rfl⟩
        rw [← hv]
        have o4 : A14 < w14.heap.size := ((M.out.2.1)).lt
        replace M := Lib.hid (And.intro (hv ▸ bx1 w14 24 #[.int .i64 0, .slice none 0 0]) (Goes.go M.out (hv ▸ below_alloc _ _ : Below w14.heap.size w14 w15)))
        clear hv
        refine hK.out _ _ (⟨(M.out.2.2.2.2.1).at.1 0, (M.out.2.2.2.2.1).at.1 1, (M.out.2.2.1).at.1 0, (M.out.2.2.1).at.1 1⟩) (fun hH65 => ?_)
        clear hK K hH57
        (try simp only [Act.put, List.setIfInBounds_toArray, List.set_cons_zero, List.set_cons_succ])
        refine wpAnyH_ready (rs := [5]) (by kernel_rfl) (by simp) ?_
        refine AllReadyH.cons at5 (fun K hK => ?_) AllReadyH.nil
        go_simp
        obtain ⟨z68, ez68⟩ : ∃ v_ : Int, v_ = (z12 + s7) := ⟨_, rfl⟩
        refine (bigAdd_ok (G := G) (x := z12) (y := s7) (M.out.2.2.2.1) (M.out.2.1) (Sz.mono Sz12.out (by omega)) (Sz.mono (Sz.i64 HS7.out) (by omega))).mono ?_
        rintro e w16 ⟨a_66, c_67, rfl, hd69, hb⟩
        rw [← ez68] at hd69 ⊢
        have Sz68 : Hid (Sz z68 62) := by show Sz z68 62; rw [ez68]; exact (Sz.add Sz12.out (Sz.mono (Sz.i64 HS7.out) (by omega)))
        have Ez68 := Lib.hid ez68; clear ez68
        replace M := Lib.hid (And.intro hd69 (Goes.go M.out hb))
        clear hb hd69
        (try go_wp2_with fail)
        refine hK.out _ _ (⟨(M.out.2.2.2.2.2.1).at.1 0, (M.out.2.2.2.2.2.1).at.1 1, (M.out.2.2.2.1).at.1 0, (M.out.2.2.2.1).at.1 1⟩) (fun hH70 => ?_)
        clear hK K hH65
        (try simp only [Act.put, List.setIfInBounds_toArray, List.set_cons_zero, List.set_cons_succ])
        refine tk at6 ?_
        refine tk at7 ?_
        refine tk at8 ?_
        refine wpAnyH_ready (rs := [10]) (by kernel_rfl) (by simp) ?_
        refine AllReadyH.cons at10 (fun K hK => ?_) AllReadyH.nil
        obtain ⟨p4_0, q4_0, p4_1, q4_1⟩ := (M.out.2.1).c2
        go_simp
        clear p4_0 q4_0 p4_1 q4_1
        obtain ⟨w17, hv⟩ : ∃ w_ : World, w_ = ((w16.setCell ⟨w14.heap.size, 0, none⟩ (.int .i64 (sg z68))).setCell ⟨w14.heap.size, 1, none⟩ (.slice a_66 (ln z68) c_67)) := ⟨_, rfl⟩
        rw [← hv]
        have og : w16.grownBy w17 (some w14.heap.size) := by rw [hv]; exact (only_setCell (only_setCell (World.grownBy.refl _ _) _) _)
        have hz : w.heap.size ≤ w14.heap.size := by omega
        have hk : Bx w17 w14.heap.size 24 #[.int .i64 (sg z68), .slice a_66 (ln z68) c_67] := by rw [hv]; exact (((M.out.2.1).set 0 _).set 1 _)
        have hbw : Below w.heap.size w w17 := by rw [hv]; exact (Below.setCell (Below.setCell (M.out.2.2.2.2.2.2) (by omega) _) (by omega) _)
        replace M := Lib.hid (And.intro ((M.out.1).far (M.out.2.1) (by rfl) (by omega) og) (And.intro hk (And.intro ((M.out.2.2.1).far (M.out.2.1) (by rfl) (by omega) og) (And.intro ((M.out.2.2.2.1).only og (by omega)) (And.intro ((M.out.2.2.2.2.1).far (M.out.2.1) (by rfl) (by omega) og) (And.intro ((M.out.2.2.2.2.2.1).only og (by omega)) hbw))))))
        clear hk hbw og hv hz
        refine hK.out _ _ (⟨(M.out.2.2.2.2.2.1).at.1 0, (M.out.2.2.2.2.2.1).at.1 1, (M.out.2.2.2.1).at.1 0, (M.out.2.2.2.1).at.1 1⟩) (fun hH71 => ?_)
        clear hK K hH70
        (try simp only [Act.put, List.setIfInBounds_toArray, List.set_cons_zero, List.set_cons_succ])
        refine tk at11 ?_
        refine wpAnyH_done (by kernel_rfl) ?_ _
        clear hH71
        go_wp2_with fail
        go_meet
        exact ⟨w14.heap.size, a_54, c_55, a_66, c_67, z68, rfl, rfl, Ez68, Sz68, (by omega), (M.out.2.1), (M.out.1), (M.out.2.2.1), (M.out.2.2.2.2.1), (M.out.2.2.2.2.2.1), (M.out.2.2.2.1), (M.out.2.2.2.2.2.2)⟩
      refine AllReadyH.cons at9 (fun K hK => ?_) AllReadyH.nil
      go_simp
      obtain ⟨w14, hv⟩ : ∃ w_ : World, w_ = (w13.alloc (.cells #[.int .i64 0, .slice none 0 0] 24)) := ⟨_, rfl⟩
      rw [← hv]
      have o4 : A14 < w13.heap.size := ((M.out.1)).lt
      replace M := Lib.hid (And.intro (hv ▸ bx1 w13 24 #[.int .i64 0, .slice none 0 0]) (Goes.go M.out (hv ▸ below_alloc _ _ : Below w13.heap.size w13 w14)))
      clear hv
      refine hK.out _ _ (⟨(M.out.2.2.2.1).at.1 0, (M.out.2.2.2.1).at.1 1, (M.out.2.1).at.1 0, (M.out.2.1).at.1 1⟩) (fun hH72 => ?_)
      clear hK K hH53
      (try simp only [Act.put, List.setIfInBounds_toArray, List.set_cons_zero, List.set_cons_succ])
      refine wpAnyH_ready (rs := [4]) (by kernel_rfl) (by simp) ?_
      refine AllReadyH.cons at4 (fun K hK => ?_) AllReadyH.nil
      go_simp
      refine (bigOf_ok (G := G) s7 _ HS7.out).mono ?_
      rintro e w15 ⟨a_73, c_74, rfl, hd75, hb⟩
      replace M := Lib.hid (And.intro hd75 (Goes.go M.out hb))
      clear hb hd75
      (try go_wp2_with fail)
      refine hK.out _ _ (⟨(M.out.2.2.2.2.1).at.1 0, (M.out.2.2.2.2.1).at.1 1, (M.out.2.2.1).at.1 0, (M.out.2.2.1).at.1 1⟩) (fun hH76 => ?_)
      clear hK K hH72
      (try simp only [Act.put, List.setIfInBounds_toArray, List.set_cons_zero, List.set_cons_succ])
      refine wpAnyH_ready (rs := [5]) (by kernel_rfl) (by simp) ?_
      refine AllReadyH.cons at5 (fun K hK => ?_) AllReadyH.nil
      go_simp
      obtain ⟨z79, ez79⟩ : ∃ v_ : Int, v_ = (z12 + s7) := ⟨_, rfl⟩
      refine (bigAdd_ok (G := G) (x := z12) (y := s7) (M.out.2.2.2.1) (M.out.1) (Sz.mono Sz12.out (by omega)) (Sz.mono (Sz.i64 HS7.out) (by omega))).mono ?_
      rintro e w16 ⟨a_77, c_78, rfl, hd80, hb⟩
      rw [← ez79] at hd80 ⊢
      have Sz79 : Hid (Sz z79 62) := by show Sz z79 62; rw [ez79]; exact (Sz.add Sz12.out (Sz.mono (Sz.i64 HS7.out) (by omega)))
      have Ez79 := Lib.hid ez79; clear ez79
      replace M := Lib.hid (And.intro hd80 (Goes.go M.out hb))
      clear hb hd80
      (try go_wp2_with fail)
      refine hK.out _ _ (⟨(M.out.2.2.2.2.2.1).at.1 0, (M.out.2.2.2.2.2.1).at.1 1, (M.out.2.2.2.1).at.1 0, (M.out.2.2.2.1).at.1 1⟩) (fun hH81 => ?_)
      clear hK K hH76
      (try simp only [Act.put, List.setIfInBounds_toArray, List.set_cons_zero, List.set_cons_succ])
      refine tk at6 ?_
      refine tk at7 ?_
      refine tk at8 ?_
      refine wpAnyH_ready (rs := [10]) (by kernel_rfl) (by simp) ?_
      refine AllReadyH.cons at10 (fun K hK => ?_) AllReadyH.nil
      obtain ⟨p4_0, q4_0, p4_1, q4_1⟩ := (M.out.2.2.1).c2
      go_simp
      clear p4_0 q4_0 p4_1 q4_1
      obtain ⟨w17, hv⟩ : ∃ w_ : World, w_ = ((w16.setCell ⟨w13.heap.size, 0, none⟩ (.int .i64 (sg z79))).setCell ⟨w13.heap.size, 1, none⟩ (.slice a_77 (ln z79) c_78)) := ⟨_, rfl⟩
      rw [← hv]
      have og : w16.grownBy w17 (some w13.heap.size) := by rw [hv]; exact (only_setCell (only_setCell (World.grownBy.refl _ _) _) _)
      have hz : w.heap.size ≤ w13.heap.size := by omega
      have hk : Bx w17 w13.heap.size 24 #[.int .i64 (sg z79), .slice a_77 (ln z79) c_78] := by rw [hv]; exact (((M.out.2.2.1).set 0 _).set 1 _)
      have hbw : Below w.heap.size w w17 := by rw [hv]; exact (Below.setCell (Below.setCell (M.out.2.2.2.2.2.2) (by omega) _) (by omega) _)
      replace M := Lib.hid (And.intro ((M.out.1).far (M.out.2.2.1) (by rfl) (by omega) og) (And.intro ((M.out.2.1).far (M.out.2.2.1) (by rfl) (by omega) og) (And.intro hk (And.intro ((M.out.2.2.2.1).only og (by omega)) (And.intro ((M.out.2.2.2.2.1).far (M.out.2.2.1) (by rfl) (by omega) og) (And.intro ((M.out.2.2.2.2.2.1).only og (by omega)) hbw))))))
      clear hk hbw og hv hz
      refine hK.out _ _ (⟨(M.out.2.2.2.2.2.1).at.1 0, (M.out.2.2.2.2.2.1).at.1 1, (M.out.2.2.2.1).at.1 0, (M.out.2.2.2.1).at.1 1⟩) (fun hH82 => ?_)
      clear hK K hH81
      (try simp only [Act.put, List.setIfInBounds_toArray, List.set_cons_zero, List.set_cons_succ])
      refine tk at11 ?_
      refine wpAnyH_done (by kernel_rfl) ?_ _
      clear hH82
      go_wp2_with fail
      go_meet
      exact ⟨w13.heap.size, a_73, c_74, a_77, c_78, z79, rfl, rfl, Ez79, Sz79, (by omega), (M.out.2.2.1), (M.out.1), (M.out.2.1), (M.out.2.2.2.2.1), (M.out.2.2.2.2.2.1), (M.out.2.2.2.1), (M.out.2.2.2.2.2.2)⟩
    case rest =>
      obtain ⟨A52, a_45, c_46, a_48, c_49, z50, rfl, rfl, Ez50, Sz50, oA52, M⟩ := hcut
      obtain ⟨w13, rfl⟩ : ∃ w_ : World, w_ = wc := ⟨_, rfl⟩
      go_wp2_with fail
      replace M := Lib.hid (And.intro (M.out.1) (And.intro (M.out.2.1) (M.out.2.2.2.2.2.2)))
      refine (bigRead_v (G := G) (S := S3) (z := z7) (er := 0) HS3.out HL3.out HR3.out HE3.out).mono ?_
      rintro e w14 ⟨a_83, c_84, rfl, hd85, hb⟩
      replace M := Lib.hid (And.intro hd85 (Goes.go M.out hb))
      clear hb hd85
      go_upto_region 18 with fail
      obtain ⟨w15, hv⟩ : ∃ w_ : World, w_ = (w14.alloc (.cells #[.int .i64 (sg z7), .slice a_83 (ln z7) c_84] 24)) := ⟨_, rfl⟩
      rw [← hv]
      have o5 : A52 < w14.heap.size := ((M.out.2.1)).lt
      replace M := Lib.hid (And.intro (hv ▸ bx1 w14 24 #[.int .i64 (sg z7), .slice a_83 (ln z7) c_84]) (Goes.go M.out (hv ▸ below_alloc _ _ : Below w14.heap.size w14 w15)))
      clear hv
      obtain ⟨p5_0, q5_0, p5_1, q5_1⟩ := (M.out.1).c2
      obtain ⟨p4_0, q4_0, p4_1, q4_1⟩ := (M.out.2.2.1).c2
      go_wp2_with fail
      clear p5_0 q5_0 p5_1 q5_1 p4_0 q4_0 p4_1 q4_1
      refine (bigSame_is (G := G) (x := z7) (y := z50) (b := true) (M.out.2.1) (M.out.2.2.2.1) (Sz.mono HSZ7.out (by omega)) (Sz.mono Sz50.out (by omega)) (eqZ_of (by rw [Ez50.out, Ez12.out]; exact HZ7.out.symm))).mono ?_
      rintro e w16 ⟨rfl, hb⟩
      replace M := Lib.hid (Goes.go M.out hb)
      clear hb
      go_wp2_with fail
      go_ret
      exact ⟨rfl, (M.out.2.2.2.2)⟩

theorem back_walk {S : ByteArray} {sa : Int} {la : List Int} {a1 : Option Addr} {c1 : Nat} {w : World} (ht : Tab w) (h1 : RdZ w (.slice a1 la.length c1) la) (k1 : la.length ≤ c1) :
    Calls Tryd.prog 4 #[.agg #[.int .i64 sa, .slice a1 la.length c1], .string S] w fun e w' => e = .returned (.bool true) ∧ Below w.heap.size w w' := by
  cases hn : (!decide (400 < S.size) && decide ((la.length : Int) ≤ 60)) with
  | false => exact back_not (G := w.heap.size) (Nat.le_refl _) ht h1 hn
  | true =>
    simp only [Bool.and_eq_true] at hn
    obtain ⟨hs, hf⟩ := hn
    obtain ⟨l, hS⟩ : ∃ l : List UInt8, S = ⟨l.toArray⟩ := ⟨_, str_eta S⟩
    have hlen : l.length ≤ 400 := by
      have : ¬ 400 < S.size := by simpa using hs
      rw [hS] at this; simp [ByteArray.size] at this; omega
    cases hr : rightB sa la with
    | false =>
      rcases read_cases l with h | ⟨h, -⟩
      · exact back_bad_ok (G := w.heap.size) (Nat.le_refl _) ht h1 hf hr hS hlen h
      · exact back_bad_no (G := w.heap.size) (Nat.le_refl _) ht h1 hf hr hS hlen h
    | true =>
      obtain ⟨x, ea, la_, ba⟩ := bd_of_right h1 k1 hr
      rw [la_] at hf
      rw [la_, ea]
      have hx := few_sz_of (n := 60) hf rfl
      by_cases h0 : x = 0
      · rcases read_cases l with h | ⟨h, -⟩
        · exact back_zero_ok (G := w.heap.size) (Nat.le_refl _) ht ba hx h0 hS hlen h
        · exact back_zero_no (G := w.heap.size) (Nat.le_refl _) ht ba hx h0 hS hlen h
      · rcases read_cases l with h | ⟨h, -⟩
        · exact back_one_ok (G := w.heap.size) (Nat.le_refl _) ht ba hx h0 hS hlen h
        · exact back_one_no (G := w.heap.size) (Nat.le_refl _) ht ba hx h0 hS hlen h

end Go.Proofs.YtlinegodpoihoaaDoor
