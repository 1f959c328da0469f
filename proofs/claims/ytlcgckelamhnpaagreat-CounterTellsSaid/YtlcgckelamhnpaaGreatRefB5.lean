/- Walks of the verifier's reference: comparing fractions. -/
import Derived.Test.YtlcgckelamhnpaaGreatFd
import Derived.Test.YtlcgckelamhnpaaGreatRefS
set_option maxRecDepth 100000
set_option maxHeartbeats 8000000
namespace Go.Proofs.YtlcgckelamhnpaaGreat
open Go.RowKit
variable {G : Nat}
theorem samebig_ok {x y : Int} {a1 a2 : Option Addr} {c1 c2 : Nat} {w : World} (h1 : BD G w a1 c1 x) (h2 : BD G w a2 c2 y) (hx : Sz x 1099511627776) (hy : Sz y 1099511627776) :
 Calls Tryz.prog 52 #[.agg #[.int .i64 (sg x), .slice a1 (ln x) c1], .agg #[.int .i64 (sg y), .slice a2 (ln y) c2]] w fun e w' => e = .returned (.bool (eqZ x y)) ∧ Below w.heap.size w w' := by
 have H1 := hI h1; have H2 := hI h2; have hlb : ln x ≤ 1099511627776 := hx; have hlb2 : ln y ≤ 1099511627776 := hy; clear h1 h2 hx hy; go_enter Tryz.func52, Tryz.ntmps52
 by_cases hs : sg x = sg y
 · by_cases hl : ln x = ln y
   · have e1 : (sg x != sg y) = false := by rw [hs]; simp
     have e2 : ((ln x : Int) != (ln y : Int)) = false := by rw [hl]; simp
     have HS := hI hs; have HL := hI hl; clear hs hl; go_wp2_with fail
     refine nmW ((w.alloc (.cells #[.int .i64 (sg x), .slice a1 (ln x) c1] 34)).alloc (.cells #[.int .i64 (sg y), .slice a2 (ln y) c2] 34)) fun w0 hw0 => ?_; have hbx := bx2 w 34 34 #[.int .i64 (sg x), .slice a1 (ln x) c1] #[.int .i64 (sg y), .slice a2 (ln y) c2]; have HB : Hid (Below w.heap.size w w0) := by show Below _ _ _; rw [hw0]; go_grown
     rw [← hw0] at hbx ⊢; have K0 := hI hbx.1; have K1 := hI hbx.2; clear hw0 hbx; have p1 : w0.cell? ⟨w.heap.size, 1, none⟩ = some (.slice a1 (ln x) c1) := K0.out.at.1 1; have p2 : w0.cell? ⟨w.heap.size + 1, 1, none⟩ = some (.slice a2 (ln y) c2) := K1.out.at.1 1; go_loopw [5] (fun i wr => ∃ k nd : Nat, k ≤ ln x ∧ i = .int .i64 k ∧ wr = w0.drewN nd ∧ Hid ((digs x.natAbs).take k = (digs y.natAbs).take k)) (fun i _ => ln x - (intOf i).toNat)
     case atStart => exact ⟨0, 0, Nat.zero_le _, rfl, rfl, rfl⟩
     case round =>
      obtain ⟨k, nd, hk, rfl, rfl, HT⟩ := hrel
      by_cases hlt : k < ln x
      · have hlt2 : k < ln y := by rw [← HL.out]; exact hlt
        obtain ⟨b, off, rfl, hb, hcell⟩ := (H1.out.rd.keep HB.out).at (k := k) hlt; obtain ⟨b2, off2, rfl, hb2, hcell2⟩ := (H2.out.rd.keep HB.out).at (k := k) hlt2; obtain ⟨d, hd⟩ : ∃ d, d = (digs x.natAbs)[k]'hlt := ⟨_, rfl⟩; obtain ⟨d2, hd2⟩ : ∃ d, d = (digs y.natAbs)[k]'hlt2 := ⟨_, rfl⟩; rw [← hd] at hcell; rw [← hd2] at hcell2; have hki : (k : Int) < (ln x : Int) := by omega
        have hki2 : (k : Int) < (ln y : Int) := by omega
        by_cases hdd : d = d2
        · have e3 : ((d : Int) != (d2 : Int)) = false := by rw [hdd]; simp
          have HT2 : Hid ((digs x.natAbs).take (k + 1) = (digs y.natAbs).take (k + 1)) := by
           show _ = _
           rw [List.take_succ_eq_append_getElem hlt, List.take_succ_eq_append_getElem hlt2, HT.out, ← hd, ← hd2, hdd]
          clear hd hd2 hdd; go_wp2_with fail
          go_quiet (fail)
          go_wp2_with fail
          go_roundw
          case rel => exact ⟨k + 1, _, by omega, by go_num, rfl, HT2⟩
          case measure => simp [intOf]; omega
        · have e3 : ((d : Int) != (d2 : Int)) = true := by rw [bne_iff_ne]; omega
          have HO := hI (eqZ_digit (x := x) (y := y) (k := k) (by rw [List.getElem?_eq_getElem hlt, List.getElem?_eq_getElem hlt2, ← hd, ← hd2]; intro h; exact hdd (Option.some.inj h))); clear hd hd2 hdd; go_wp2_with fail
          go_quiet (fail)
          go_wp2_with fail
          go_ret
          exact ⟨ret_bool HO.out.symm, by first | exact below_drewN HB.out _ | exact below_drewN (below_drewN HB.out _) _⟩
      · have HO := hI (eqZ_true HS.out (by
         have := HT.out
         rwa [List.take_of_length_le (by show ln x ≤ k; omega), List.take_of_length_le (by show ln y ≤ k; rw [← HL.out]; omega)] at this))
        go_wp2_with fail
        go_ret
        exact ⟨ret_bool HO.out.symm, below_drewN HB.out _⟩
   · have HO := hI (eqZ_len hl)
     have e1 : (sg x != sg y) = false := by rw [hs]; simp
     have e2 : ((ln x : Int) != (ln y : Int)) = true := by rw [bne_iff_ne]; omega
     clear hs hl; go_wp2_with fail
     go_ret
     exact ⟨ret_bool HO.out.symm, by go_grown⟩
 · have HO := hI (eqZ_sign hs)
   have e1 : (sg x != sg y) = true := by rw [bne_iff_ne]; exact hs
   clear hs; go_wp2_with fail
   go_ret
   exact ⟨ret_bool HO.out.symm, by go_grown⟩
theorem rfsame_no {x y u v : Int} {a1 b1 a2 b2 : Option Addr} {c1 d1 c2 d2 : Nat} {w : World} (h1 : BD G w a1 c1 x) (k1 : BD G w b1 d1 y) (h2 : BD G w a2 c2 u) (k2 : BD G w b2 d2 v) (hx : Sz x 1099511627776) (hy : Sz y 1099511627776) (hu : Sz u 1099511627776) (hv : Sz v 1099511627776) (he : eqZ x u = false) :
 Calls Tryz.prog 27 #[.agg #[.int .i64 (sg x), .slice a1 (ln x) c1, .int .i64 (sg y), .slice b1 (ln y) d1], .agg #[.int .i64 (sg u), .slice a2 (ln u) c2, .int .i64 (sg v), .slice b2 (ln v) d2]] w fun e w' => e = .returned (.bool (eqZ x u && eqZ y v)) ∧ Below w.heap.size w w' := by
 have HX := hI hx; have HY := hI hy; have HU := hI hu; have HV := hI hv; have H1 := hI h1; have K1_ := hI k1; have H2 := hI h2; have K2_ := hI k2; have HE := hI he; have HO : Hid (false = (eqZ x u && eqZ y v)) := by show _ = _; rw [he]; rfl
 clear hx hy hu hv h1 k1 h2 k2 he
 go_enter Tryz.func27, Tryz.ntmps27
 go_wp2_with fail
 refine (samebig_ok (x := x) (y := u) (H1.out.keep (by go_grown)) (H2.out.keep (by go_grown)) HX.out HU.out).mono ?_; rintro e w1 ⟨rfl, hb⟩; refine kp2W hb fun K0 K1 => ?_; have hb' : Below w.heap.size w w1 := below_call (by go_grown) hb; have HB := hI hb'; replace H1 := kdW H1 hb'; replace K1_ := hI (K1_.out.keep hb'); replace H2 := kdW H2 hb'; replace K2_ := hI (K2_.out.keep hb'); clear hb hb'; refine K0.out.w4 fun aa ab ac ad ae af ag ah z0 => ?_; refine K1.out.w4 fun ai aj ak al am ao ap aq z1 => ?_; rw [HE.out]; go_wp2_with fail
 go_ret
 exact ⟨ret_bool HO.out, HB.out⟩
theorem rfsame_yes {x y u v : Int} {a1 b1 a2 b2 : Option Addr} {c1 d1 c2 d2 : Nat} {w : World} (h1 : BD G w a1 c1 x) (k1 : BD G w b1 d1 y) (h2 : BD G w a2 c2 u) (k2 : BD G w b2 d2 v) (hx : Sz x 1099511627776) (hy : Sz y 1099511627776) (hu : Sz u 1099511627776) (hv : Sz v 1099511627776) (he : eqZ x u = true) :
 Calls Tryz.prog 27 #[.agg #[.int .i64 (sg x), .slice a1 (ln x) c1, .int .i64 (sg y), .slice b1 (ln y) d1], .agg #[.int .i64 (sg u), .slice a2 (ln u) c2, .int .i64 (sg v), .slice b2 (ln v) d2]] w fun e w' => e = .returned (.bool (eqZ x u && eqZ y v)) ∧ Below w.heap.size w w' := by
 have HX := hI hx; have HY := hI hy; have HU := hI hu; have HV := hI hv; have H1 := hI h1; have K1_ := hI k1; have H2 := hI h2; have K2_ := hI k2; have HE := hI he; have HO : Hid (eqZ y v = (eqZ x u && eqZ y v)) := by show _ = _; rw [he]; rfl
 clear hx hy hu hv h1 k1 h2 k2 he
 go_enter Tryz.func27, Tryz.ntmps27
 go_wp2_with fail
 refine (samebig_ok (x := x) (y := u) (H1.out.keep (by go_grown)) (H2.out.keep (by go_grown)) HX.out HU.out).mono ?_; rintro e w1 ⟨rfl, hb⟩; refine kp2W hb fun K0 K1 => ?_; have hb' : Below w.heap.size w w1 := below_call (by go_grown) hb; have HB := hI hb'; replace H1 := kdW H1 hb'; replace K1_ := hI (K1_.out.keep hb'); replace H2 := kdW H2 hb'; replace K2_ := hI (K2_.out.keep hb'); clear hb hb'; refine K0.out.w4 fun aa ab ac ad ae af ag ah z0 => ?_; refine K1.out.w4 fun ai aj ak al am ao ap aq z1 => ?_; rw [HE.out]; go_wp2_with fail
 refine (samebig_ok (x := y) (y := v) (K1_.out.keep (by go_grown)) (K2_.out.keep (by go_grown)) HY.out HV.out).mono ?_; rintro e w2 ⟨rfl, hb⟩; clear aa ab ac ad ae af ag ah z0 ai aj ak al am ao ap aq z1; have hb' := below_call (w1 := w1) (by go_grown) hb; replace K0 := kbW K0 hb'; replace K1 := kbW K1 hb'; replace HB := hI (below_call HB.out hb'); replace H1 := kdW H1 hb'; replace K1_ := hI (K1_.out.keep hb'); replace H2 := kdW H2 hb'; replace K2_ := hI (K2_.out.keep hb'); clear hb hb'; refine K0.out.w4 fun aa ab ac ad ae af ag ah z0 => ?_; refine K1.out.w4 fun ai aj ak al am ao ap aq z1 => ?_; go_wp2_with fail
 go_ret
 exact ⟨ret_bool HO.out, HB.out⟩
theorem rfsame_ok {x y u v : Int} {a1 b1 a2 b2 : Option Addr} {c1 d1 c2 d2 : Nat} {w : World} (h1 : BD G w a1 c1 x) (k1 : BD G w b1 d1 y) (h2 : BD G w a2 c2 u) (k2 : BD G w b2 d2 v) (hx : Sz x 1099511627776) (hy : Sz y 1099511627776) (hu : Sz u 1099511627776) (hv : Sz v 1099511627776) :
 Calls Tryz.prog 27 #[.agg #[.int .i64 (sg x), .slice a1 (ln x) c1, .int .i64 (sg y), .slice b1 (ln y) d1], .agg #[.int .i64 (sg u), .slice a2 (ln u) c2, .int .i64 (sg v), .slice b2 (ln v) d2]] w fun e w' => e = .returned (.bool (eqZ x u && eqZ y v)) ∧ Below w.heap.size w w' := by
 rcases Bool.eq_false_or_eq_true (eqZ x u) with h | h
 · exact rfsame_yes h1 k1 h2 k2 hx hy hu hv h
 · exact rfsame_no h1 k1 h2 k2 hx hy hu hv h
end Go.Proofs.YtlcgckelamhnpaaGreat
