/- The walk of ScaleTells: whatever the arguments, it returns true. -/
import Derived.Test.YtpjpkcelajbfnaaScaleJ
namespace Go.Proofs.Ytpjpkcelajbfnaa
open Go.RowKit
variable {G : Nat}

theorem few_is {v1 v2 : Value} {cs : List Ct} {rs : List Rc} {b : Bool} {w : World} (h1 : CtIn w v1 cs) (h2 : RcIn w v2 rs) (hb : fewB cs.length rs.length = b) :
    Calls Try.prog 9 #[v1, v2] w fun e w' => e = .returned (.bool b) ∧ w = w' := by
  rw [← hb]; exact few_ok h1 h2
theorem few_len {n m : Nat} (h : fewB n m = true) : n ≤ 120 ∧ m ≤ 60 := by simpa [fewB] using h
theorem scFind_v {v : Value} {cs : List Ct} {sc day i : Int} {b : Bool} {w : World} (h : CtIn w v cs) (hn : cs.length ≤ 1099511627776) (hi : (((findC cs sc day).getD 0 : Nat) : Int) = i) (hb : (findC cs sc day).isSome = b) :
    Calls Try.prog 10 #[v, .int .i64 sc, .int .i64 day] w fun e w' => e = .returned (.tuple #[.int .i64 i, .bool b]) ∧ Below w.heap.size w w' := by
  rw [← hi, ← hb]; exact scFind_ok v cs sc day w h hn
theorem rcFind_v {v : Value} {cs : List Ct} {sc day i : Int} {b : Bool} {w : World} (h : CtIn w v cs) (hn : cs.length ≤ 1099511627776) (hi : (((findC cs sc day).getD 0 : Nat) : Int) = i) (hb : (findC cs sc day).isSome = b) :
    Calls Try.prog 11 #[v, .int .i64 sc, .int .i64 day] w fun e w' => e = .returned (.tuple #[.int .i64 i, .bool b]) ∧ Below w.heap.size w w' := by
  rw [← hi, ← hb]; exact rcFind_ok v cs sc day w h hn
theorem rcRec_at {v : Value} {rs : List Rc} {sc day : Int} {b : Bool} {w : World} (h : RcIn w v rs) (hn : rs.length ≤ 1099511627776) (hf : recalledB rs sc day = b) :
    Calls Try.prog 20 #[v, .int .i64 sc, .int .i64 day] w fun e w' => e = .returned (.bool b) ∧ Below w.heap.size w w' := by
  rw [← hf]; exact rcRecalled_ok _ rs sc day w h hn
theorem scError_v {s f u n p d rd day : Int} {b_ : Bool} {w : World} (hG : G ≤ w.heap.size) (he : hasE ⟨s, f, u, n, p, d⟩ rd day = b_) :
    Calls Try.prog 12 #[.agg #[.int .i64 s, .int .i64 f, .int .i64 u, .int .i64 n, .int .i64 p, .int .i64 d], .int .i64 rd, .int .i64 day] w fun e w' => ∃ a c b d', e = .returned (.tuple #[.agg #[.int .i64 (sg (oN (errO ⟨s, f, u, n, p, d⟩ rd day))), .slice a (ln (oN (errO ⟨s, f, u, n, p, d⟩ rd day))) c, .int .i64 (sg (oD (errO ⟨s, f, u, n, p, d⟩ rd day))), .slice b (ln (oD (errO ⟨s, f, u, n, p, d⟩ rd day))) d'], .bool b_]) ∧ BD G w' a c (oN (errO ⟨s, f, u, n, p, d⟩ rd day)) ∧ BD G w' b d' (oD (errO ⟨s, f, u, n, p, d⟩ rd day)) ∧ Below w.heap.size w w' := by
  rw [← he]; exact scError_all hG
theorem rcError_v {s f u n p d rd day : Int} {b_ : Bool} {w : World} (hG : G ≤ w.heap.size) (he : hasE ⟨s, f, u, n, p, d⟩ rd day = b_) :
    Calls Try.prog 13 #[.agg #[.int .i64 s, .int .i64 f, .int .i64 u, .int .i64 n, .int .i64 p, .int .i64 d], .int .i64 rd, .int .i64 day] w fun e w' => ∃ a c b d', e = .returned (.tuple #[.agg #[.int .i64 (sg (oN (errO ⟨s, f, u, n, p, d⟩ rd day))), .slice a (ln (oN (errO ⟨s, f, u, n, p, d⟩ rd day))) c, .int .i64 (sg (oD (errO ⟨s, f, u, n, p, d⟩ rd day))), .slice b (ln (oD (errO ⟨s, f, u, n, p, d⟩ rd day))) d'], .bool b_]) ∧ BD G w' a c (oN (errO ⟨s, f, u, n, p, d⟩ rd day)) ∧ BD G w' b d' (oD (errO ⟨s, f, u, n, p, d⟩ rd day)) ∧ Below w.heap.size w w' := by
  rw [← he]; exact rcError_all hG

theorem scInterval_v {v1 v2 : Value} {cs : List Ct} {rs : List Rc} {sc rd day : Int} {b_ : Bool} {w : World} (h1 : CtIn w v1 cs) (h2 : RcIn w v2 rs) (hn1 : cs.length ≤ 1099511627776) (hn2 : rs.length ≤ 1099511627776) (hG : G ≤ w.heap.size) (hi : hasI cs rs sc rd day = b_) :
    Calls Try.prog 14 #[v1, v2, .int .i64 sc, .int .i64 rd, .int .i64 day] w fun e w' => ∃ a c b d a' c' b' d', e = .returned (.tuple #[.agg #[.int .i64 (sg (oN (loO cs rs sc rd day))), .slice a (ln (oN (loO cs rs sc rd day))) c, .int .i64 (sg (oD (loO cs rs sc rd day))), .slice b (ln (oD (loO cs rs sc rd day))) d], .agg #[.int .i64 (sg (oN (hiO cs rs sc rd day))), .slice a' (ln (oN (hiO cs rs sc rd day))) c', .int .i64 (sg (oD (hiO cs rs sc rd day))), .slice b' (ln (oD (hiO cs rs sc rd day))) d'], .bool b_]) ∧ BD G w' a c (oN (loO cs rs sc rd day)) ∧ BD G w' b d (oD (loO cs rs sc rd day)) ∧ BD G w' a' c' (oN (hiO cs rs sc rd day)) ∧ BD G w' b' d' (oD (hiO cs rs sc rd day)) ∧ Below w.heap.size w w' := by
  rw [← hi]; exact scInterval_all h1 h2 hn1 hn2 hG

theorem rcInterval_v {v1 v2 : Value} {cs : List Ct} {rs : List Rc} {sc rd day : Int} {b_ : Bool} {w : World} (h1 : CtIn w v1 cs) (h2 : RcIn w v2 rs) (hn1 : cs.length ≤ 1099511627776) (hn2 : rs.length ≤ 1099511627776) (hG : G ≤ w.heap.size) (hi : hasI cs rs sc rd day = b_) :
    Calls Try.prog 15 #[v1, v2, .int .i64 sc, .int .i64 rd, .int .i64 day] w fun e w' => ∃ a c b d a' c' b' d', e = .returned (.tuple #[.agg #[.int .i64 (sg (oN (loO cs rs sc rd day))), .slice a (ln (oN (loO cs rs sc rd day))) c, .int .i64 (sg (oD (loO cs rs sc rd day))), .slice b (ln (oD (loO cs rs sc rd day))) d], .agg #[.int .i64 (sg (oN (hiO cs rs sc rd day))), .slice a' (ln (oN (hiO cs rs sc rd day))) c', .int .i64 (sg (oD (hiO cs rs sc rd day))), .slice b' (ln (oD (hiO cs rs sc rd day))) d'], .bool b_]) ∧ BD G w' a c (oN (loO cs rs sc rd day)) ∧ BD G w' b d (oD (loO cs rs sc rd day)) ∧ BD G w' a' c' (oN (hiO cs rs sc rd day)) ∧ BD G w' b' d' (oD (hiO cs rs sc rd day)) ∧ Below w.heap.size w w' := by
  rw [← hi]; exact rcInterval_all h1 h2 hn1 hn2 hG

theorem rfsame_two {x y u v : Int} {a1 b1 a2 b2 : Option Addr} {c1 d1 c2 d2 : Nat} {w : World} (h1 : BD G w a1 c1 x) (k1 : BD G w b1 d1 y) (h2 : BD G w a2 c2 u) (k2 : BD G w b2 d2 v) (hx : Sz x 1099511627776) (hy : Sz y 1099511627776) (e1 : x = u) (e2 : y = v) :
    Calls Try.prog 16 #[.agg #[.int .i64 (sg x), .slice a1 (ln x) c1, .int .i64 (sg y), .slice b1 (ln y) d1], .agg #[.int .i64 (sg u), .slice a2 (ln u) c2, .int .i64 (sg v), .slice b2 (ln v) d2]] w fun e w' => e = .returned (.bool true) ∧ Below w.heap.size w w' := by
  subst e1 e2; exact rfsame_eq h1 k1 h2 k2 hx hy

set_option maxHeartbeats 4000000 in
theorem tells_not {v1 v2 : Value} {cs : List Ct} {rs : List Rc} {sc rd day s f u n p d : Int} {w : World} (hG : G ≤ w.heap.size) (h1 : CtIn w v1 cs) (h2 : RcIn w v2 rs) (hf : fewB cs.length rs.length = false) :
    Calls Try.prog 3 #[v1, v2, .int .i64 sc, .int .i64 rd, .int .i64 day, .agg #[.int .i64 s, .int .i64 f, .int .i64 u, .int .i64 n, .int .i64 p, .int .i64 d]] w fun e w' => e = .returned (.bool true) ∧ Below w.heap.size w w' := by
  have HF := Lib.hid hf; clear hf
  have H1 : Hid (CtIn w v1 cs) := h1
  have H2 : Hid (RcIn w v2 rs) := h2
  clear h1 h2
  have M : Hid (Below w.heap.size w w) := Below.refl _ _
  go_enter Try.func3, Try.ntmps3
  go_upto_region 1 with fail
  obtain ⟨w1, hv⟩ : ∃ x, x = (w.alloc (.cells #[.int .i64 s, .int .i64 f, .int .i64 u, .int .i64 n, .int .i64 p, .int .i64 d] 25)) := ⟨_, rfl⟩
  rw [← hv]
  replace M := Lib.hid (And.intro (hv ▸ bx1 w 25 #[.int .i64 s, .int .i64 f, .int .i64 u, .int .i64 n, .int .i64 p, .int .i64 d]) (Goes.go M.out (hv ▸ below_alloc _ _ : Below w.heap.size w w1)))
  clear hv
  go_wp2_with fail
  refine (sane_ok _ (Nat.le_trans hG (M.out.2).size)).mono ?_
  rintro e w2 ⟨rfl, hb⟩
  replace M := Lib.hid (Goes.go M.out hb)
  clear hb
  go_wp2_with fail
  refine (few_is (b := false) (H1.out.keep (M.out.2)) (H2.out.keep (M.out.2)) HF.out).mono ?_
  rintro e _ ⟨rfl, rfl⟩
  go_wp2_with fail
  go_ret
  exact ⟨rfl, (M.out.2)⟩

set_option maxHeartbeats 4000000 in
theorem tells_few {v1 v2 : Value} {cs : List Ct} {rs : List Rc} {sc rd day s f u n p d : Int} {w : World} (hG : G ≤ w.heap.size) (h1 : CtIn w v1 cs) (h2 : RcIn w v2 rs) (hf : fewB cs.length rs.length = true) :
    Calls Try.prog 3 #[v1, v2, .int .i64 sc, .int .i64 rd, .int .i64 day, .agg #[.int .i64 s, .int .i64 f, .int .i64 u, .int .i64 n, .int .i64 p, .int .i64 d]] w fun e w' => e = .returned (.bool true) ∧ Below w.heap.size w w' := by
  have hl := few_len hf
  have HF := Lib.hid hf; clear hf
  obtain ⟨fi, hfi⟩ : ∃ x : Int, (((findC cs sc day).getD 0 : Nat) : Int) = x := ⟨_, rfl⟩
  obtain ⟨fb, hfb⟩ : ∃ x : Bool, (findC cs sc day).isSome = x := ⟨_, rfl⟩
  obtain ⟨eb, heb⟩ : ∃ x : Bool, hasE ⟨s, f, u, n, p, d⟩ rd day = x := ⟨_, rfl⟩
  obtain ⟨ib, hib⟩ : ∃ x : Bool, hasI cs rs sc rd day = x := ⟨_, rfl⟩
  obtain ⟨qb, hqb⟩ : ∃ x : Bool, rightC ⟨s, f, u, n, p, d⟩ = x := ⟨_, rfl⟩
  obtain ⟨rb, hrb⟩ : ∃ x : Bool, recalledB rs sc day = x := ⟨_, rfl⟩
  have HFI := Lib.hid hfi; have HFB := Lib.hid hfb; have HEB := Lib.hid heb; have HIB := Lib.hid hib; have HQB := Lib.hid hqb; have HRB := Lib.hid hrb
  clear hfi hfb heb hib hqb hrb
  have H1 : Hid (CtIn w v1 cs) := h1
  have H2 : Hid (RcIn w v2 rs) := h2
  clear h1 h2
  have M : Hid (Below w.heap.size w w) := Below.refl _ _
  go_enter Try.func3, Try.ntmps3
  go_upto_region 1 with fail
  obtain ⟨w1, hv⟩ : ∃ x, x = (w.alloc (.cells #[.int .i64 s, .int .i64 f, .int .i64 u, .int .i64 n, .int .i64 p, .int .i64 d] 25)) := ⟨_, rfl⟩
  rw [← hv]
  replace M := Lib.hid (And.intro (hv ▸ bx1 w 25 #[.int .i64 s, .int .i64 f, .int .i64 u, .int .i64 n, .int .i64 p, .int .i64 d]) (Goes.go M.out (hv ▸ below_alloc _ _ : Below w.heap.size w w1)))
  clear hv
  go_wp2_with fail
  refine (sane_ok _ (Nat.le_trans hG (M.out.2).size)).mono ?_
  rintro e w2 ⟨rfl, hb⟩
  replace M := Lib.hid (Goes.go M.out hb)
  clear hb
  go_wp2_with fail
  refine (few_is (b := true) (H1.out.keep (M.out.2)) (H2.out.keep (M.out.2)) HF.out).mono ?_
  rintro e _ ⟨rfl, rfl⟩
  go_wp2_with fail
  refine (scFind_v (sc := sc) (day := day) (i := fi) (b := fb) (H1.out.keep (M.out.2)) (by omega) HFI.out HFB.out).mono ?_
  rintro e w3 ⟨rfl, hb⟩
  replace M := Lib.hid (Goes.go M.out hb)
  clear hb
  go_wp2_with fail
  refine (rcFind_v (sc := sc) (day := day) (i := fi) (b := fb) (H1.out.keep (M.out.2)) (by omega) HFI.out HFB.out).mono ?_
  rintro e w4 ⟨rfl, hb⟩
  replace M := Lib.hid (Goes.go M.out hb)
  clear hb
  obtain ⟨p0_0, q0_0, p0_1, q0_1, p0_2, q0_2, p0_3, q0_3, p0_4, q0_4, p0_5, q0_5⟩ := (M.out.1).c6
  go_wp2_with fail
  clear p0_0 q0_0 p0_1 q0_1 p0_2 q0_2 p0_3 q0_3 p0_4 q0_4 p0_5 q0_5
  obtain ⟨z5, ez5⟩ : ∃ x : Int, x = (oN (errO ⟨s, f, u, n, p, d⟩ rd day)) := ⟨_, rfl⟩
  obtain ⟨z6, ez6⟩ : ∃ x : Int, x = (oD (errO ⟨s, f, u, n, p, d⟩ rd day)) := ⟨_, rfl⟩
  refine (scError_v (s := s) (f := f) (u := u) (n := n) (p := p) (d := d) (rd := rd) (day := day) (b_ := eb) (Nat.le_trans hG (M.out.2).size) HEB.out).mono ?_
  rintro e w5 ⟨a_1, c_2, b_3, d_4, rfl, hd7, hd8, hb⟩
  rw [← ez5] at hd7 ⊢
  have Sz5 : Hid (Sz z5 9) := by show Sz z5 9; rw [ez5]; exact (errO_size _ _ _).1
  have Ez5 := Lib.hid ez5; clear ez5
  rw [← ez6] at hd8 ⊢
  have Sz6 : Hid (Sz z6 9) := by show Sz z6 9; rw [ez6]; exact (errO_size _ _ _).2
  have Ez6 := Lib.hid ez6; clear ez6
  replace M := Lib.hid (And.intro hd7 (And.intro hd8 (Goes.go M.out hb)))
  clear hb hd7 hd8
  go_upto_region 7 with fail
  obtain ⟨w6, hv⟩ : ∃ x, x = (w5.alloc (.cells #[.int .i64 (sg z5), .slice a_1 (ln z5) c_2, .int .i64 (sg z6), .slice b_3 (ln z6) d_4] 34)) := ⟨_, rfl⟩
  rw [← hv]
  have o1 : w.heap.size < w5.heap.size := ((M.out.2.2.1)).lt
  replace M := Lib.hid (And.intro (hv ▸ bx1 w5 34 #[.int .i64 (sg z5), .slice a_1 (ln z5) c_2, .int .i64 (sg z6), .slice b_3 (ln z6) d_4]) (Goes.go M.out (hv ▸ below_alloc _ _ : Below w5.heap.size w5 w6)))
  clear hv
  obtain ⟨p0_0, q0_0, p0_1, q0_1, p0_2, q0_2, p0_3, q0_3, p0_4, q0_4, p0_5, q0_5⟩ := (M.out.2.2.2.1).c6
  go_wp2_with fail
  clear p0_0 q0_0 p0_1 q0_1 p0_2 q0_2 p0_3 q0_3 p0_4 q0_4 p0_5 q0_5
  obtain ⟨z13, ez13⟩ : ∃ x : Int, x = (oN (errO ⟨s, f, u, n, p, d⟩ rd day)) := ⟨_, rfl⟩
  obtain ⟨z14, ez14⟩ : ∃ x : Int, x = (oD (errO ⟨s, f, u, n, p, d⟩ rd day)) := ⟨_, rfl⟩
  refine (rcError_v (s := s) (f := f) (u := u) (n := n) (p := p) (d := d) (rd := rd) (day := day) (b_ := eb) (Nat.le_trans hG (M.out.2.2.2.2).size) HEB.out).mono ?_
  rintro e w7 ⟨a_9, c_10, b_11, d_12, rfl, hd15, hd16, hb⟩
  rw [← ez13] at hd15 ⊢
  have Sz13 : Hid (Sz z13 9) := by show Sz z13 9; rw [ez13]; exact (errO_size _ _ _).1
  have Ez13 := Lib.hid ez13; clear ez13
  rw [← ez14] at hd16 ⊢
  have Sz14 : Hid (Sz z14 9) := by show Sz z14 9; rw [ez14]; exact (errO_size _ _ _).2
  have Ez14 := Lib.hid ez14; clear ez14
  replace M := Lib.hid (And.intro hd15 (And.intro hd16 (Goes.go M.out hb)))
  clear hb hd15 hd16
  go_upto_region 8 with fail
  obtain ⟨w8, hv⟩ : ∃ x, x = (w7.alloc (.cells #[.int .i64 (sg z13), .slice a_9 (ln z13) c_10, .int .i64 (sg z14), .slice b_11 (ln z14) d_12] 34)) := ⟨_, rfl⟩
  rw [← hv]
  have o2 : w5.heap.size < w7.heap.size := ((M.out.2.2.1)).lt
  replace M := Lib.hid (And.intro (hv ▸ bx1 w7 34 #[.int .i64 (sg z13), .slice a_9 (ln z13) c_10, .int .i64 (sg z14), .slice b_11 (ln z14) d_12]) (Goes.go M.out (hv ▸ below_alloc _ _ : Below w7.heap.size w7 w8)))
  clear hv
  go_wp2_with fail
  obtain ⟨z25, ez25⟩ : ∃ x : Int, x = (oN (loO cs rs sc rd day)) := ⟨_, rfl⟩
  obtain ⟨z26, ez26⟩ : ∃ x : Int, x = (oD (loO cs rs sc rd day)) := ⟨_, rfl⟩
  obtain ⟨z27, ez27⟩ : ∃ x : Int, x = (oN (hiO cs rs sc rd day)) := ⟨_, rfl⟩
  obtain ⟨z28, ez28⟩ : ∃ x : Int, x = (oD (hiO cs rs sc rd day)) := ⟨_, rfl⟩
  refine (scInterval_v (sc := sc) (rd := rd) (day := day) (b_ := ib) (H1.out.keep (M.out.2.2.2.2.2.2.2)) (H2.out.keep (M.out.2.2.2.2.2.2.2)) (by omega) (by omega) (Nat.le_trans hG (M.out.2.2.2.2.2.2.2).size) HIB.out).mono ?_
  rintro e w9 ⟨a_17, c_18, b_19, d_20, a_21, c_22, b_23, d_24, rfl, hd29, hd30, hd31, hd32, hb⟩
  rw [← ez25] at hd29 ⊢
  have Sz25 : Hid (Sz z25 14) := by show Sz z25 14; rw [ez25]; exact (lo_sizes _ _ _ _ _).1
  have Ez25 := Lib.hid ez25; clear ez25
  rw [← ez26] at hd30 ⊢
  have Sz26 : Hid (Sz z26 14) := by show Sz z26 14; rw [ez26]; exact (lo_sizes _ _ _ _ _).2
  have Ez26 := Lib.hid ez26; clear ez26
  rw [← ez27] at hd31 ⊢
  have Sz27 : Hid (Sz z27 14) := by show Sz z27 14; rw [ez27]; exact (hi_sizes _ _ _ _ _).1
  have Ez27 := Lib.hid ez27; clear ez27
  rw [← ez28] at hd32 ⊢
  have Sz28 : Hid (Sz z28 14) := by show Sz z28 14; rw [ez28]; exact (hi_sizes _ _ _ _ _).2
  have Ez28 := Lib.hid ez28; clear ez28
  replace M := Lib.hid (And.intro hd29 (And.intro hd30 (And.intro hd31 (And.intro hd32 (Goes.go M.out hb)))))
  clear hb hd29 hd30 hd31 hd32
  go_upto_region 9 with fail
  obtain ⟨w10, hv⟩ : ∃ x, x = ((w9.alloc (.cells #[.int .i64 (sg z25), .slice a_17 (ln z25) c_18, .int .i64 (sg z26), .slice b_19 (ln z26) d_20] 34)).alloc (.cells #[.int .i64 (sg z27), .slice a_21 (ln z27) c_22, .int .i64 (sg z28), .slice b_23 (ln z28) d_24] 34)) := ⟨_, rfl⟩
  rw [← hv]
  have o3 : w7.heap.size < w9.heap.size := ((M.out.2.2.2.2.1)).lt
  have hbx := bx2 w9 34 34 #[.int .i64 (sg z25), .slice a_17 (ln z25) c_18, .int .i64 (sg z26), .slice b_19 (ln z26) d_20] #[.int .i64 (sg z27), .slice a_21 (ln z27) c_22, .int .i64 (sg z28), .slice b_23 (ln z28) d_24]
  rw [← hv] at hbx
  have hbn : Below w9.heap.size w9 w10 := by rw [hv]; exact (Below.alloc (Below.alloc (Below.refl _ _) (by simp) _) (by simp) _)
  replace M := Lib.hid (And.intro hbx.2 (And.intro hbx.1 (Goes.go M.out hbn)))
  clear hbx hbn
  clear hv
  go_wp2_with fail
  obtain ⟨z41, ez41⟩ : ∃ x : Int, x = (oN (loO cs rs sc rd day)) := ⟨_, rfl⟩
  obtain ⟨z42, ez42⟩ : ∃ x : Int, x = (oD (loO cs rs sc rd day)) := ⟨_, rfl⟩
  obtain ⟨z43, ez43⟩ : ∃ x : Int, x = (oN (hiO cs rs sc rd day)) := ⟨_, rfl⟩
  obtain ⟨z44, ez44⟩ : ∃ x : Int, x = (oD (hiO cs rs sc rd day)) := ⟨_, rfl⟩
  refine (rcInterval_v (sc := sc) (rd := rd) (day := day) (b_ := ib) (H1.out.keep (M.out.2.2.2.2.2.2.2.2.2.2.2.2.2)) (H2.out.keep (M.out.2.2.2.2.2.2.2.2.2.2.2.2.2)) (by omega) (by omega) (Nat.le_trans hG (M.out.2.2.2.2.2.2.2.2.2.2.2.2.2).size) HIB.out).mono ?_
  rintro e w11 ⟨a_33, c_34, b_35, d_36, a_37, c_38, b_39, d_40, rfl, hd45, hd46, hd47, hd48, hb⟩
  rw [← ez41] at hd45 ⊢
  have Sz41 : Hid (Sz z41 14) := by show Sz z41 14; rw [ez41]; exact (lo_sizes _ _ _ _ _).1
  have Ez41 := Lib.hid ez41; clear ez41
  rw [← ez42] at hd46 ⊢
  have Sz42 : Hid (Sz z42 14) := by show Sz z42 14; rw [ez42]; exact (lo_sizes _ _ _ _ _).2
  have Ez42 := Lib.hid ez42; clear ez42
  rw [← ez43] at hd47 ⊢
  have Sz43 : Hid (Sz z43 14) := by show Sz z43 14; rw [ez43]; exact (hi_sizes _ _ _ _ _).1
  have Ez43 := Lib.hid ez43; clear ez43
  rw [← ez44] at hd48 ⊢
  have Sz44 : Hid (Sz z44 14) := by show Sz z44 14; rw [ez44]; exact (hi_sizes _ _ _ _ _).2
  have Ez44 := Lib.hid ez44; clear ez44
  replace M := Lib.hid (And.intro hd45 (And.intro hd46 (And.intro hd47 (And.intro hd48 (Goes.go M.out hb)))))
  clear hb hd45 hd46 hd47 hd48
  go_upto_region 10 with fail
  obtain ⟨w12, hv⟩ : ∃ x, x = ((w11.alloc (.cells #[.int .i64 (sg z41), .slice a_33 (ln z41) c_34, .int .i64 (sg z42), .slice b_35 (ln z42) d_36] 34)).alloc (.cells #[.int .i64 (sg z43), .slice a_37 (ln z43) c_38, .int .i64 (sg z44), .slice b_39 (ln z44) d_40] 34)) := ⟨_, rfl⟩
  rw [← hv]
  have o5 : w9.heap.size + 1 < w11.heap.size := ((M.out.2.2.2.2.1)).lt
  have hbx := bx2 w11 34 34 #[.int .i64 (sg z41), .slice a_33 (ln z41) c_34, .int .i64 (sg z42), .slice b_35 (ln z42) d_36] #[.int .i64 (sg z43), .slice a_37 (ln z43) c_38, .int .i64 (sg z44), .slice b_39 (ln z44) d_40]
  rw [← hv] at hbx
  have hbn : Below w11.heap.size w11 w12 := by rw [hv]; exact (Below.alloc (Below.alloc (Below.refl _ _) (by simp) _) (by simp) _)
  replace M := Lib.hid (And.intro hbx.2 (And.intro hbx.1 (Goes.go M.out hbn)))
  clear hbx hbn
  clear hv
  obtain ⟨p1_0, q1_0, p1_1, q1_1, p1_2, q1_2, p1_3, q1_3⟩ := (M.out.2.2.2.2.2.2.2.2.2.2.2.2.2.2.2.1).c4
  obtain ⟨p2_0, q2_0, p2_1, q2_1, p2_2, q2_2, p2_3, q2_3⟩ := (M.out.2.2.2.2.2.2.2.2.2.2.2.2.1).c4
  go_wp2_with fail
  clear p1_0 q1_0 p1_1 q1_1 p1_2 q1_2 p1_3 q1_3 p2_0 q2_0 p2_1 q2_1 p2_2 q2_2 p2_3 q2_3
  refine (rfsame_two (x := z5) (y := z6) (u := z13) (v := z14) (M.out.2.2.2.2.2.2.2.2.2.2.2.2.2.2.2.2.1) (M.out.2.2.2.2.2.2.2.2.2.2.2.2.2.2.2.2.2.1) (M.out.2.2.2.2.2.2.2.2.2.2.2.2.2.1) (M.out.2.2.2.2.2.2.2.2.2.2.2.2.2.2.1) (Sz.mono Sz5.out (by omega)) (Sz.mono Sz6.out (by omega)) (Ez5.out.trans Ez13.out.symm) (Ez6.out.trans Ez14.out.symm)).mono ?_
  rintro e w13 ⟨rfl, hb⟩
  replace M := Lib.hid (Goes.go M.out hb)
  clear hb
  obtain ⟨p3_0, q3_0, p3_1, q3_1, p3_2, q3_2, p3_3, q3_3⟩ := (M.out.2.2.2.2.2.2.2.1).c4
  obtain ⟨p5_0, q5_0, p5_1, q5_1, p5_2, q5_2, p5_3, q5_3⟩ := (M.out.2.1).c4
  go_wp2_with fail
  clear p3_0 q3_0 p3_1 q3_1 p3_2 q3_2 p3_3 q3_3 p5_0 q5_0 p5_1 q5_1 p5_2 q5_2 p5_3 q5_3
  refine (rfsame_two (x := z25) (y := z26) (u := z41) (v := z42) (M.out.2.2.2.2.2.2.2.2.1) (M.out.2.2.2.2.2.2.2.2.2.1) (M.out.2.2.1) (M.out.2.2.2.1) (Sz.mono Sz25.out (by omega)) (Sz.mono Sz26.out (by omega)) (Ez25.out.trans Ez41.out.symm) (Ez26.out.trans Ez42.out.symm)).mono ?_
  rintro e w14 ⟨rfl, hb⟩
  replace M := Lib.hid (Goes.go M.out hb)
  clear hb
  obtain ⟨p4_0, q4_0, p4_1, q4_1, p4_2, q4_2, p4_3, q4_3⟩ := (M.out.2.2.2.2.2.2.1).c4
  obtain ⟨p6_0, q6_0, p6_1, q6_1, p6_2, q6_2, p6_3, q6_3⟩ := (M.out.1).c4
  go_wp2_with fail
  clear p4_0 q4_0 p4_1 q4_1 p4_2 q4_2 p4_3 q4_3 p6_0 q6_0 p6_1 q6_1 p6_2 q6_2 p6_3 q6_3
  refine (rfsame_two (x := z27) (y := z28) (u := z43) (v := z44) (M.out.2.2.2.2.2.2.2.2.2.2.1) (M.out.2.2.2.2.2.2.2.2.2.2.2.1) (M.out.2.2.2.2.1) (M.out.2.2.2.2.2.1) (Sz.mono Sz27.out (by omega)) (Sz.mono Sz28.out (by omega)) (Ez27.out.trans Ez43.out.symm) (Ez28.out.trans Ez44.out.symm)).mono ?_
  rintro e w15 ⟨rfl, hb⟩
  replace M := Lib.hid (Goes.go M.out hb)
  clear hb
  go_wp2_with fail
  obtain ⟨w16, hv⟩ : ∃ x, x = w15.drew := ⟨_, rfl⟩
  replace M := Lib.hid (Goes.go M.out (hv ▸ below_drew _ : Below w15.heap.size w15 w16))
  refine wp_region_held_drew (S := (fun w' => w'.cell? ⟨w.heap.size, 0, none⟩ = some (.int .i64 s) ∧ w'.cell? ⟨w.heap.size, 1, none⟩ = some (.int .i64 f) ∧ w'.cell? ⟨w.heap.size, 2, none⟩ = some (.int .i64 u) ∧ w'.cell? ⟨w.heap.size, 3, none⟩ = some (.int .i64 n) ∧ w'.cell? ⟨w.heap.size, 4, none⟩ = some (.int .i64 p) ∧ w'.cell? ⟨w.heap.size, 5, none⟩ = some (.int .i64 d))) (by kernel_rfl) (by rw [← hv]; exact ⟨(M.out.2.2.2.2.2.2.2.2.2.2.2.2.2.2.2.2.2.2.1).at.1 0, (M.out.2.2.2.2.2.2.2.2.2.2.2.2.2.2.2.2.2.2.1).at.1 1, (M.out.2.2.2.2.2.2.2.2.2.2.2.2.2.2.2.2.2.2.1).at.1 2, (M.out.2.2.2.2.2.2.2.2.2.2.2.2.2.2.2.2.2.2.1).at.1 3, (M.out.2.2.2.2.2.2.2.2.2.2.2.2.2.2.2.2.2.2.1).at.1 4, (M.out.2.2.2.2.2.2.2.2.2.2.2.2.2.2.2.2.2.2.1).at.1 5⟩) (fun hH49 => ?_)
  rw [← hv] at hH49 ⊢
  clear hv
  refine tk at0 ?_
  refine tk at1 ?_
  refine tk at2 ?_
  refine tk at4 ?_
  refine wpAnyH_ready (rs := [3]) (by kernel_rfl) (by simp) ?_
  refine AllReadyH.cons at3 (fun K hK => ?_) AllReadyH.nil
  go_simp
  refine (scRight_is (s := s) (f := f) (u := u) (n := n) (p := p) (d := d) (b := qb) HQB.out _).mono ?_
  rintro e w17 ⟨rfl, hb⟩
  replace M := Lib.hid (Goes.go M.out hb)
  clear hb
  (try go_wp2_with fail)
  refine hK.out _ _ (⟨(M.out.2.2.2.2.2.2.2.2.2.2.2.2.2.2.2.2.2.2.1).at.1 0, (M.out.2.2.2.2.2.2.2.2.2.2.2.2.2.2.2.2.2.2.1).at.1 1, (M.out.2.2.2.2.2.2.2.2.2.2.2.2.2.2.2.2.2.2.1).at.1 2, (M.out.2.2.2.2.2.2.2.2.2.2.2.2.2.2.2.2.2.2.1).at.1 3, (M.out.2.2.2.2.2.2.2.2.2.2.2.2.2.2.2.2.2.2.1).at.1 4, (M.out.2.2.2.2.2.2.2.2.2.2.2.2.2.2.2.2.2.2.1).at.1 5⟩) (fun hH50 => ?_)
  clear hK K hH49
  (try simp only [Act.put, List.setIfInBounds_toArray, List.set_cons_zero, List.set_cons_succ])
  refine wpAnyH_ready (rs := [5]) (by kernel_rfl) (by simp) ?_
  refine AllReadyH.cons at5 (fun K hK => ?_) AllReadyH.nil
  go_simp
  refine (right_is (s := s) (f := f) (u := u) (n := n) (p := p) (d := d) (b := qb) HQB.out _).mono ?_
  rintro e w18 ⟨rfl, hb⟩
  replace M := Lib.hid (Goes.go M.out hb)
  clear hb
  (try go_wp2_with fail)
  refine hK.out _ _ (⟨(M.out.2.2.2.2.2.2.2.2.2.2.2.2.2.2.2.2.2.2.1).at.1 0, (M.out.2.2.2.2.2.2.2.2.2.2.2.2.2.2.2.2.2.2.1).at.1 1, (M.out.2.2.2.2.2.2.2.2.2.2.2.2.2.2.2.2.2.2.1).at.1 2, (M.out.2.2.2.2.2.2.2.2.2.2.2.2.2.2.2.2.2.2.1).at.1 3, (M.out.2.2.2.2.2.2.2.2.2.2.2.2.2.2.2.2.2.2.1).at.1 4, (M.out.2.2.2.2.2.2.2.2.2.2.2.2.2.2.2.2.2.2.1).at.1 5⟩) (fun hH51 => ?_)
  clear hK K hH50
  (try simp only [Act.put, List.setIfInBounds_toArray, List.set_cons_zero, List.set_cons_succ])
  refine tk at6 ?_
  refine tk at7 ?_
  refine tk at8 ?_
  refine tk at9 ?_
  refine tk at10 ?_
  refine tk at11 ?_
  refine tk at13 ?_
  refine tk at14 ?_
  refine tk at15 ?_
  refine wpAnyH_ready (rs := [12]) (by kernel_rfl) (by simp) ?_
  refine AllReadyH.cons at12 (fun K hK => ?_) AllReadyH.nil
  go_simp
  refine (scRec_at (sc := sc) (day := day) (b := rb) (H2.out.keep (M.out.2.2.2.2.2.2.2.2.2.2.2.2.2.2.2.2.2.2.2)) (by omega) HRB.out).mono ?_
  rintro e w19 ⟨rfl, hb⟩
  replace M := Lib.hid (Goes.go M.out hb)
  clear hb
  (try go_wp2_with fail)
  refine hK.out _ _ (⟨(M.out.2.2.2.2.2.2.2.2.2.2.2.2.2.2.2.2.2.2.1).at.1 0, (M.out.2.2.2.2.2.2.2.2.2.2.2.2.2.2.2.2.2.2.1).at.1 1, (M.out.2.2.2.2.2.2.2.2.2.2.2.2.2.2.2.2.2.2.1).at.1 2, (M.out.2.2.2.2.2.2.2.2.2.2.2.2.2.2.2.2.2.2.1).at.1 3, (M.out.2.2.2.2.2.2.2.2.2.2.2.2.2.2.2.2.2.2.1).at.1 4, (M.out.2.2.2.2.2.2.2.2.2.2.2.2.2.2.2.2.2.2.1).at.1 5⟩) (fun hH52 => ?_)
  clear hK K hH51
  (try simp only [Act.put, List.setIfInBounds_toArray, List.set_cons_zero, List.set_cons_succ])
  refine wpAnyH_ready (rs := [16]) (by kernel_rfl) (by simp) ?_
  refine AllReadyH.cons at16 (fun K hK => ?_) AllReadyH.nil
  go_simp
  refine (rcRec_at (sc := sc) (day := day) (b := rb) (H2.out.keep (M.out.2.2.2.2.2.2.2.2.2.2.2.2.2.2.2.2.2.2.2)) (by omega) HRB.out).mono ?_
  rintro e w20 ⟨rfl, hb⟩
  replace M := Lib.hid (Goes.go M.out hb)
  clear hb
  (try go_wp2_with fail)
  refine hK.out _ _ (⟨(M.out.2.2.2.2.2.2.2.2.2.2.2.2.2.2.2.2.2.2.1).at.1 0, (M.out.2.2.2.2.2.2.2.2.2.2.2.2.2.2.2.2.2.2.1).at.1 1, (M.out.2.2.2.2.2.2.2.2.2.2.2.2.2.2.2.2.2.2.1).at.1 2, (M.out.2.2.2.2.2.2.2.2.2.2.2.2.2.2.2.2.2.2.1).at.1 3, (M.out.2.2.2.2.2.2.2.2.2.2.2.2.2.2.2.2.2.2.1).at.1 4, (M.out.2.2.2.2.2.2.2.2.2.2.2.2.2.2.2.2.2.2.1).at.1 5⟩) (fun hH53 => ?_)
  clear hK K hH52
  (try simp only [Act.put, List.setIfInBounds_toArray, List.set_cons_zero, List.set_cons_succ])
  refine tk at17 ?_
  refine tk at18 ?_
  refine tk at19 ?_
  refine wpAnyH_done (by kernel_rfl) ?_ _
  clear hH53
  go_wp2_with fail
  go_ret
  exact ⟨rfl, (M.out.2.2.2.2.2.2.2.2.2.2.2.2.2.2.2.2.2.2.2)⟩

theorem tells_walk {v1 v2 : Value} {cs : List Ct} {rs : List Rc} {sc rd day s f u n p d : Int} {w : World} (h1 : CtIn w v1 cs) (h2 : RcIn w v2 rs) :
    Calls Try.prog 3 #[v1, v2, .int .i64 sc, .int .i64 rd, .int .i64 day, .agg #[.int .i64 s, .int .i64 f, .int .i64 u, .int .i64 n, .int .i64 p, .int .i64 d]] w fun e w' => e = .returned (.bool true) ∧ Below w.heap.size w w' := by
  cases hf : fewB cs.length rs.length with
  | false => exact tells_not (G := 0) (Nat.zero_le _) h1 h2 hf
  | true => exact tells_few (G := 0) (Nat.zero_le _) h1 h2 hf

end Go.Proofs.Ytpjpkcelajbfnaa
