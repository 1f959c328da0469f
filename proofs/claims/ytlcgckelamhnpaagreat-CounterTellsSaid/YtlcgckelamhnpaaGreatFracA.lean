/- Walks: fractions: which are right; making. -/
import Derived.Test.YtlcgckelamhnpaaGreatFd
set_option maxRecDepth 100000
set_option maxHeartbeats 4000000
namespace Go.Proofs.YtlcgckelamhnpaaGreat
open Go.RowKit
variable {G : Nat}
def oneB (x : Int) : Bool := decide (x = 1)
theorem one_ok {x : Int} {a1 : Option Addr} {c1 : Nat} {w : World} (h1 : BD G w a1 c1 x) (hX : Sz x 1099511627776) :
 Calls Tryz.prog 69 #[.agg #[.int .i64 (sg x), .slice a1 (ln x) c1]] w fun e w' => e = .returned (.bool (oneB x)) ∧ Below w.heap.size w w' := by
 have H1 := hI h1; have HX := hI hX; clear h1 hX
 by_cases hr : -9223372036854775808 ≤ x ∧ x ≤ 9223372036854775807
 · have HR := hI (intRes_yes hr)
   by_cases h : x = 1
   · have HO : Hid (oneB x = true) := by show _ = _; rw [oneB, decide_eq_true_eq]; exact h
     have e1 : (x == 1) = true := by rw [beq_iff_eq]; exact h
     clear h hr; go_enter Tryz.func69, Tryz.ntmps69
     go_wp2_with fail
     refine (bigInt_ok (H1.out.keep (by go_grown)) HX.out).mono ?_; rintro e w1 ⟨rfl, hb⟩; have HB : Hid (Below w.heap.size w w1) := below_call (by go_grown) hb; clear hb; rw [HR.out]; go_wp2_with fail
     go_ret
     exact ⟨ret_bool HO.out.symm, HB.out⟩
   · have HO : Hid (oneB x = false) := by show _ = _; rw [oneB, decide_eq_false_iff_not]; exact h
     have e1 : (x == 1) = false := by rw [beq_eq_false_iff_ne]; exact h
     clear h hr; go_enter Tryz.func69, Tryz.ntmps69
     go_wp2_with fail
     refine (bigInt_ok (H1.out.keep (by go_grown)) HX.out).mono ?_; rintro e w1 ⟨rfl, hb⟩; have HB : Hid (Below w.heap.size w w1) := below_call (by go_grown) hb; clear hb; rw [HR.out]; go_wp2_with fail
     go_ret
     exact ⟨ret_bool HO.out.symm, HB.out⟩
 · have HR := hI (intRes_no hr)
   have HO : Hid (oneB x = false) := by show _ = _; rw [oneB, decide_eq_false_iff_not]; omega
   clear hr; go_enter Tryz.func69, Tryz.ntmps69
   go_wp2_with fail
   refine (bigInt_ok (H1.out.keep (by go_grown)) HX.out).mono ?_; rintro e w1 ⟨rfl, hb⟩; have HB : Hid (Below w.heap.size w w1) := below_call (by go_grown) hb; clear hb; rw [HR.out]; go_wp2_with fail
   go_ret
   exact ⟨ret_bool HO.out.symm, HB.out⟩
theorem times_ok {x y : Int} {a1 a2 : Option Addr} {c1 c2 : Nat} {w : World} (h1 : BD G w a1 c1 x) (h2 : BD G w a2 c2 y) (hx : Sz x 549755813888) (hy : Sz y 549755813888) :
 Calls Tryz.prog 66 #[.agg #[.int .i64 (sg x), .slice a1 (ln x) c1], .agg #[.int .i64 (sg y), .slice a2 (ln y) c2]] w fun e w' => ∃ a c, e = .returned (.agg #[.int .i64 (sg (x * y)), .slice a (ln (x * y)) c]) ∧ BD G w' a c (x * y) ∧ Below w.heap.size w w' := by
 have HX := hI hx; have HY := hI hy; have H1 := hI h1; have H2 := hI h2; clear hx hy h1 h2
 go_enter Tryz.func66, Tryz.ntmps66
 go_wp2_with fail
 refine (bigMul_ok (H1.out.keep (by go_grown)) (H2.out.keep (by go_grown)) HX.out HY.out).mono ?_; rintro e w1 ⟨a3, c3, rfl, hd3, hb⟩; refine kp3W hb fun K0 K1 K2 => ?_; have hb' : Below w.heap.size w w1 := below_call (by go_grown) hb; have HB := hI hb'; replace H1 := kdW H1 hb'; replace H2 := kdW H2 hb'; clear hb hb'; have Hd3 := hI hd3; clear hd3; refine K0.out.w2 fun aa ab ac ad z0 => ?_; refine K1.out.w2 fun ae af ag ah z1 => ?_; refine K2.out.w2 fun ai aj ak al z2 => ?_; go_wp2_with fail
 clear aa ab ac ad z0 ae af ag ah z1 ai aj ak al z2; refine bodyPost_ret (results_box1 rfl _ _ (w.heap.size + 1 + 1) 34 _ _ _ rfl ((K2.out.set2 _ _).keep (below_alloc _ _)) Tryz.underlying34 rfl (by kernel_rfl)) rfl ?_; refine ⟨a3, c3, rfl, ?_, ?_⟩
 · exact ((Hd3.out.far0 K2.out zb2 (only_setCell (only_setCell (World.grownBy.refl _ _) _) _)).keep (below_alloc _ _))
 · exact (Below.alloc (Below.setCell (Below.setCell HB.out (by simp; try omega) _) (by simp; try omega) _) (by have := HB.out.size; simp [World.setCell]; omega) _)
theorem bigGcd_is {x y g : Int} {a1 a2 : Option Addr} {c1 c2 : Nat} {w : World} (h1 : BD G w a1 c1 x) (h2 : BD G w a2 c2 y) (hx : Sz x 549755813888) (hy : Sz y 549755813888) (hg : ((Nat.gcd x.natAbs y.natAbs : Nat) : Int) = g) :
 Calls Tryz.prog 68 #[.agg #[.int .i64 (sg x), .slice a1 (ln x) c1], .agg #[.int .i64 (sg y), .slice a2 (ln y) c2]] w fun e w' => ∃ a c, e = .returned (.tuple #[.agg #[.int .i64 (sg g), .slice a (ln g) c], .int .i64 0]) ∧ BD G w' a c g ∧ Below w.heap.size w w' := by
 subst hg; exact bigGcd_ok h1 h2 hx hy
theorem bigDiv_exact {x y q : Int} {a1 a2 : Option Addr} {c1 c2 : Nat} {w : World} (h1 : BD G w a1 c1 x) (h2 : BD G w a2 c2 y) (hx : Sz x 549755813888) (hy : Sz y 549755813888) (hy0 : 0 < y) (h : x = y * q) :
 Calls Tryz.prog 115 #[.agg #[.int .i64 (sg x), .slice a1 (ln x) c1], .agg #[.int .i64 (sg y), .slice a2 (ln y) c2]] w fun e w' => ∃ a c b d, e = .returned (.tuple #[.agg #[.int .i64 (sg q), .slice a (ln q) c], .agg #[.int .i64 (sg 0), .slice b (ln 0) d], .int .i64 0]) ∧ BD G w' a c q ∧ BD G w' b d 0 ∧ Below w.heap.size w w' := by
 have := bigDiv_ok h1 h2 hx hy (by omega); have hu := dv_unique (x := x) (y := y) (q := q) (r := 0) (by omega) (.inl ⟨by omega, hy0⟩)
 rwa [hu.1, hu.2] at this
theorem new_pos {x y : Int} {a1 a2 : Option Addr} {c1 c2 : Nat} {w : World} (h1 : BD G w a1 c1 x) (h2 : BD G w a2 c2 y) (hx : Sz x 549755813888) (hy : Sz y 549755813888) (hs : 0 < y) :
 Calls Tryz.prog 79 #[.agg #[.int .i64 (sg x), .slice a1 (ln x) c1], .agg #[.int .i64 (sg y), .slice a2 (ln y) c2]] w fun e w' => ∃ a c b d, e = .returned (.tuple #[.agg #[.int .i64 (sg (nu (Rat.divInt x y))), .slice a (ln (nu (Rat.divInt x y))) c, .int .i64 (sg (de (Rat.divInt x y))), .slice b (ln (de (Rat.divInt x y))) d], .int .i64 0]) ∧ FD G w' a c b d (Rat.divInt x y) ∧ Below w.heap.size w w' := by
 have HX := hI hx; have HY := hI hy; have H1 := hI h1; have H2 := hI h2; have e1 : (sg y == 0) = false := by rw [sg_pos hs]; rfl
 have e2 : decide (sg y < 0) = false := by rw [sg_pos hs]; rfl
 obtain ⟨g, hg0, hg, he1, he2⟩ := new_parts (x := x) hs; obtain ⟨r, hr⟩ : ∃ r, r = Rat.divInt x y := ⟨_, rfl⟩; rw [← hr] at he1 he2 ⊢; have HG := hI hg; have HG0 := hI hg0; have HE1 := hI he1; have HE2 := hI he2; have HGS : Hid (Sz g 549755813888) := hy.le (by rw [← hg]; have := Nat.gcd_le_right (m := x.natAbs) (n := y.natAbs) (by omega); omega); clear hx hy h1 h2 hg hg0 he1 he2 hr hs
 go_enter Tryz.func79, Tryz.ntmps79
 go_wp2_with fail
 refine (bigRight_ok (z := x) (H1.out.keep (by go_grown)) (HX.out.mono (by omega))).mono ?_; rintro e w1 ⟨rfl, hb⟩; refine kp3W hb fun K0 K1 K2 => ?_; have hb' : Below w.heap.size w w1 := below_call (by go_grown) hb; have HB := hI hb'; replace H1 := kdW H1 hb'; replace H2 := kdW H2 hb'; clear hb hb'; refine K0.out.w2 fun aa ab ac ad z0 => ?_; refine K1.out.w2 fun ae af ag ah z1 => ?_; refine K2.out.w4 fun ai aj ak al am ao ap aq z2 => ?_; go_wp2_with fail
 refine (bigRight_ok (z := y) (H2.out.keep (by go_grown)) (HY.out.mono (by omega))).mono ?_; rintro e w2 ⟨rfl, hb⟩; clear aa ab ac ad z0 ae af ag ah z1 ai aj ak al am ao ap aq z2; have hb' := below_call (w1 := w1) (by go_grown) hb; replace K0 := kbW K0 hb'; replace K1 := kbW K1 hb'; replace K2 := kbW K2 hb'; replace HB := hI (below_call HB.out hb'); replace H1 := kdW H1 hb'; replace H2 := kdW H2 hb'; clear hb hb'; refine K0.out.w2 fun aa ab ac ad z0 => ?_; refine K1.out.w2 fun ae af ag ah z1 => ?_; refine K2.out.w4 fun ai aj ak al am ao ap aq z2 => ?_; go_wp2_with fail
 refine (bigGcd_is (H1.out.keep (by go_grown)) (H2.out.keep (by go_grown)) HX.out HY.out HG.out).mono ?_; rintro e w3 ⟨a3, c3, rfl, hd3, hb⟩; clear aa ab ac ad z0 ae af ag ah z1 ai aj ak al am ao ap aq z2; have hb' := below_call (w1 := w2) (by go_grown) hb; replace K0 := kbW K0 hb'; replace K1 := kbW K1 hb'; replace K2 := kbW K2 hb'; replace HB := hI (below_call HB.out hb'); replace H1 := kdW H1 hb'; replace H2 := kdW H2 hb'; clear hb hb'; have Hd3 := hI hd3; clear hd3; refine K0.out.w2 fun aa ab ac ad z0 => ?_; refine K1.out.w2 fun ae af ag ah z1 => ?_; refine K2.out.w4 fun ai aj ak al am ao ap aq z2 => ?_; go_wp2_with fail
 refine (bigDiv_exact (q := nu r) (H1.out.keep (by go_grown)) (Hd3.out.keep (by go_grown)) HX.out HGS.out HG0.out HE1.out).mono ?_; rintro e w4 ⟨a4, c4, b4, d4, rfl, hd4, -, hb⟩; clear aa ab ac ad z0 ae af ag ah z1 ai aj ak al am ao ap aq z2; have hb' := below_call (w1 := w3) (by go_grown) hb; replace K0 := kbW K0 hb'; replace K1 := kbW K1 hb'; replace K2 := kbW K2 hb'; replace HB := hI (below_call HB.out hb'); have K3 := hI ((Bx.new w3 34 #[.int .i64 (sg g), .slice a3 (ln g) c3]).keep hb); replace H1 := kdW H1 hb'; replace H2 := kdW H2 hb'; replace Hd3 := hI (Hd3.out.keep hb'); clear hb hb'; have Hd4 := hI hd4; clear hd4; refine K0.out.w2 fun aa ab ac ad z0 => ?_; refine K1.out.w2 fun ae af ag ah z1 => ?_; refine K2.out.w4 fun ai aj ak al am ao ap aq z2 => ?_; refine K3.out.w2 fun ar au av aw z3 => ?_; go_wp2_with fail
 refine (bigDiv_exact (q := de r) (H2.out.keep (by go_grown)) (Hd3.out.keep (by go_grown)) HY.out HGS.out HG0.out HE2.out).mono ?_; rintro e w5 ⟨a5, c5, b5, d5, rfl, hd5, -, hb⟩; clear aa ab ac ad z0 ae af ag ah z1 ai aj ak al am ao ap aq z2 ar au av aw z3; have hb' := below_call (w1 := w4) (by go_grown) hb; replace K0 := kbW K0 hb'; replace K1 := kbW K1 hb'; replace K2 := kbW K2 hb'; replace K3 := kbW K3 hb'; replace HB := hI (below_call HB.out hb'); have hnb := bx2 w4 34 34 #[.int .i64 (sg (nu r)), .slice a4 (ln (nu r)) c4] #[.int .i64 (sg 0), .slice b4 (ln 0) d4]; obtain ⟨k4, k5⟩ := hnb; have K4 := hI (k4.keep hb); have K5 := hI (k5.keep hb); clear k4 k5; replace H1 := kdW H1 hb'; replace H2 := kdW H2 hb'; replace Hd3 := hI (Hd3.out.keep hb'); replace Hd4 := hI (Hd4.out.keep hb'); clear hb hb'; have Hd5 := hI hd5; clear hd5; refine K0.out.w2 fun aa ab ac ad z0 => ?_; refine K1.out.w2 fun ae af ag ah z1 => ?_; refine K2.out.w4 fun ai aj ak al am ao ap aq z2 => ?_; refine K3.out.w2 fun ar au av aw z3 => ?_; refine K4.out.w2 fun ax ay az ba z4 => ?_; refine K5.out.w2 fun bb bc bd bf z5 => ?_; go_wp2_with fail
 have HF : Hid (FD G w5 a4 c4 a5 c5 r) := FD.mk Hd4.out Hd5.out; clear aa ab ac ad z0 ae af ag ah z1 ai aj ak al am ao ap aq z2 ar au av aw z3 ax ay az ba z4 bb bc bd bf z5; refine bodyPost_ret (results_box2 rfl _ _ (w.heap.size + 1 + 1) 36 _ _ _ rfl (((K2.out.set4 _ _ _ _).keep (below_alloc _ _)).keep (below_alloc _ _)) Tryz.underlying36 rfl (by kernel_rfl)) rfl ?_; refine ⟨a4, c4, a5, c5, rfl, ?_, ?_⟩
 · exact (((HF.out.far0 K2.out zb4 (only_setCell (only_setCell (only_setCell (only_setCell (World.grownBy.refl _ _) _) _) _) _)).keep (below_alloc _ _)).keep (below_alloc _ _))
 · exact (Below.alloc (Below.alloc (Below.setCell (Below.setCell (Below.setCell (Below.setCell HB.out (by simp; try omega) _) (by simp; try omega) _) (by simp; try omega) _) (by simp; try omega) _) (by have := HB.out.size; simp [World.setCell]; omega) _) (by have := HB.out.size; simp [World.setCell]; omega) _)
end Go.Proofs.YtlcgckelamhnpaaGreat
