/- Walks of the verifier's reference: comparing fractions. -/
import Derived.Test.YtcfmakpckdicjaaGreatDoorBase
import Derived.Test.YtcfmakpckdicjaaGreatDoorBigSpec
import Derived.Test.YtcfmakpckdicjaaGreatDoorBigA
import Derived.Test.YtcfmakpckdicjaaGreatDoorBigB
import Derived.Test.YtcfmakpckdicjaaGreatDoorBigC
import Derived.Test.YtcfmakpckdicjaaGreatDoorBigD
import Derived.Test.YtcfmakpckdicjaaGreatDoorBigQ
import Derived.Test.YtcfmakpckdicjaaGreatDoorFracA
import Derived.Test.YtcfmakpckdicjaaGreatDoorRefS
import Derived.Test.YtcfmakpckdicjaaGreatDoorProg
import Derived.WalkKit
import Derived.WalkSpells
import Derived.WalkLawsBesides
import Derived.Handy
import Derived.Lib.Hide
import Derived.Lib.Strings
import Derived.Lib.Builder
import Derived.BigQuiet
import Derived.OwnWalk
import Derived.Laws.BitsLemmas
import Derived.WalkSmall
import Derived.Deep.QuietTactic
import Derived.StillTailTactics
import Derived.Maps.AppendAt
import Derived.IntWalk
import Derived.Deep.RegionHeld3
import Derived.Deep.DeepFit
import Derived.Deep.LoopGhost
namespace Go.Proofs.YtcfmakpckdicjaaGreatDoor
open Go.RowKit
variable {G : Nat}

set_option maxRecDepth 100000 in
set_option maxHeartbeats 8000000 in
theorem samebig_ok {x y : Int} {a1 a2 : Option Addr} {c1 c2 : Nat} {w : World} (h1 : BD G w a1 c1 x) (h2 : BD G w a2 c2 y) (hx : Sz x 1099511627776) (hy : Sz y 1099511627776) :
    Calls Tryz.prog 42 #[.agg #[.int .i64 (sg x), .slice a1 (ln x) c1], .agg #[.int .i64 (sg y), .slice a2 (ln y) c2]] w fun e w' => e = .returned (.bool (eqZ x y)) ∧ Below w.heap.size w w' := by
  have H1 := Lib.hid h1
  have H2 := Lib.hid h2
  have hlb : ln x ≤ 1099511627776 := hx
  have hlb2 : ln y ≤ 1099511627776 := hy
  clear h1 h2 hx hy
  go_enter Tryz.func42, Tryz.ntmps42
  by_cases hs : sg x = sg y
  · by_cases hl : ln x = ln y
    · have e1 : (sg x != sg y) = false := by rw [hs]; simp
      have e2 : ((ln x : Int) != (ln y : Int)) = false := by rw [hl]; simp
      have HS := Lib.hid hs
      have HL := Lib.hid hl
      clear hs hl
      go_wp2_with fail
      obtain ⟨w0, hw0⟩ : ∃ w0, w0 = (w.alloc (.cells #[.int .i64 (sg x), .slice a1 (ln x) c1] 24)).alloc (.cells #[.int .i64 (sg y), .slice a2 (ln y) c2] 24) := ⟨_, rfl⟩
      have hbx := bx2 w 24 24 #[.int .i64 (sg x), .slice a1 (ln x) c1] #[.int .i64 (sg y), .slice a2 (ln y) c2]
      have HB : Hid (Below w.heap.size w w0) := by show Below _ _ _; rw [hw0]; go_grown
      rw [← hw0] at hbx ⊢
      have K0 := Lib.hid hbx.1
      have K1 := Lib.hid hbx.2
      clear hw0 hbx
      have p1 : w0.cell? ⟨w.heap.size, 1, none⟩ = some (.slice a1 (ln x) c1) := K0.out.at.1 1
      have p2 : w0.cell? ⟨w.heap.size + 1, 1, none⟩ = some (.slice a2 (ln y) c2) := K1.out.at.1 1
      go_loopw [5] (fun i wr => ∃ k nd : Nat, k ≤ ln x ∧ i = .int .i64 k ∧ wr = w0.drewN nd ∧ Hid ((digs x.natAbs).take k = (digs y.natAbs).take k)) (fun i _ => ln x - (intOf i).toNat)
      case atStart => exact ⟨0, 0, Nat.zero_le _, rfl, rfl, rfl⟩
      case round =>
        obtain ⟨k, nd, hk, rfl, rfl, HT⟩ := hrel
        by_cases hlt : k < ln x
        · have hlt2 : k < ln y := by rw [← HL.out]; exact hlt
          obtain ⟨b, off, rfl, hb, hcell⟩ := (H1.out.rd.keep HB.out).at (k := k) hlt
          obtain ⟨b2, off2, rfl, hb2, hcell2⟩ := (H2.out.rd.keep HB.out).at (k := k) hlt2
          obtain ⟨d, hd⟩ : ∃ d, d = (digs x.natAbs)[k]'hlt := ⟨_, rfl⟩
          obtain ⟨d2, hd2⟩ : ∃ d, d = (digs y.natAbs)[k]'hlt2 := ⟨_, rfl⟩
          rw [← hd] at hcell
          rw [← hd2] at hcell2
          have hki : (k : Int) < (ln x : Int) := by omega
          have hki2 : (k : Int) < (ln y : Int) := by omega
          by_cases hdd : d = d2
          · have e3 : ((d : Int) != (d2 : Int)) = false := by rw [hdd]; simp
            have HT2 : Hid ((digs x.natAbs).take (k + 1) = (digs y.natAbs).take (k + 1)) := by
              show _ = _
              rw [List.take_succ_eq_append_getElem hlt, List.take_succ_eq_append_getElem hlt2, HT.out, ← hd, ← hd2, hdd]
            clear hd hd2 hdd
            go_wp2_with fail
            go_quiet (fail)
            go_wp2_with fail
            go_roundw
            case rel => exact ⟨k + 1, _, by omega, by go_num, rfl, HT2⟩
            case measure => simp [intOf]; omega
          · have e3 : ((d : Int) != (d2 : Int)) = true := by rw [bne_iff_ne]; omega
            have HO := Lib.hid (eqZ_digit (x := x) (y := y) (k := k) (by rw [List.getElem?_eq_getElem hlt, List.getElem?_eq_getElem hlt2, ← hd, ← hd2]; intro h; exact hdd (Option.some.inj h)))
            clear hd hd2 hdd
            go_wp2_with fail
            go_quiet (fail)
            go_wp2_with fail
            go_ret
            exact ⟨ret_bool HO.out.symm, by first | exact below_drewN HB.out _ | exact below_drewN (below_drewN HB.out _) _⟩
        · have HO := Lib.hid (eqZ_true HS.out (by
            have := HT.out
            rwa [List.take_of_length_le (by show ln x ≤ k; omega), List.take_of_length_le (by show ln y ≤ k; rw [← HL.out]; omega)] at this))
          go_wp2_with fail
          go_ret
          exact ⟨ret_bool HO.out.symm, below_drewN HB.out _⟩
    · have HO := Lib.hid (eqZ_len hl)
      have e1 : (sg x != sg y) = false := by rw [hs]; simp
      have e2 : ((ln x : Int) != (ln y : Int)) = true := by rw [bne_iff_ne]; omega
      clear hs hl
      go_wp2_with fail
      go_ret
      exact ⟨ret_bool HO.out.symm, by go_grown⟩
  · have HO := Lib.hid (eqZ_sign hs)
    have e1 : (sg x != sg y) = true := by rw [bne_iff_ne]; exact hs
    clear hs
    go_wp2_with fail
    go_ret
    exact ⟨ret_bool HO.out.symm, by go_grown⟩
set_option maxRecDepth 100000 in
set_option maxHeartbeats 4000000 in
theorem rfsame_no {x y u v : Int} {a1 b1 a2 b2 : Option Addr} {c1 d1 c2 d2 : Nat} {w : World} (h1 : BD G w a1 c1 x) (k1 : BD G w b1 d1 y) (h2 : BD G w a2 c2 u) (k2 : BD G w b2 d2 v) (hx : Sz x 1099511627776) (hy : Sz y 1099511627776) (hu : Sz u 1099511627776) (hv : Sz v 1099511627776) (he : eqZ x u = false) :
  Calls Tryz.prog 14 #[.agg #[.int .i64 (sg x), .slice a1 (ln x) c1, .int .i64 (sg y), .slice b1 (ln y) d1], .agg #[.int .i64 (sg u), .slice a2 (ln u) c2, .int .i64 (sg v), .slice b2 (ln v) d2]] w fun e w' => e = .returned (.bool (eqZ x u && eqZ y v)) ∧ Below w.heap.size w w' := by
 have HX := Lib.hid hx
 have HY := Lib.hid hy
 have HU := Lib.hid hu
 have HV := Lib.hid hv
 have H1 := Lib.hid h1
 have K1_ := Lib.hid k1
 have H2 := Lib.hid h2
 have K2_ := Lib.hid k2
 have HE := Lib.hid he
 have HO : Hid (false = (eqZ x u && eqZ y v)) := by show _ = _; rw [he]; rfl
 clear hx hy hu hv h1 k1 h2 k2 he

 go_enter Tryz.func14, Tryz.ntmps14
 go_wp2_with fail
 refine (samebig_ok (x := x) (y := u) (H1.out.keep (by go_grown)) (H2.out.keep (by go_grown)) HX.out HU.out).mono ?_
 rintro e w1 ⟨rfl, hb⟩
 have hbx := bx2 w 26 26 #[.int .i64 (sg x), .slice a1 (ln x) c1, .int .i64 (sg y), .slice b1 (ln y) d1] #[.int .i64 (sg u), .slice a2 (ln u) c2, .int .i64 (sg v), .slice b2 (ln v) d2]
 obtain ⟨k0, k1⟩ := hbx
 have K0 := Lib.hid (k0.keep hb)
 have K1 := Lib.hid (k1.keep hb)
 clear k0 k1
 have hb' : Below w.heap.size w w1 := below_call (by go_grown) hb
 have HB := Lib.hid hb'
 replace H1 := Lib.hid (H1.out.keep hb')
 replace K1_ := Lib.hid (K1_.out.keep hb')
 replace H2 := Lib.hid (H2.out.keep hb')
 replace K2_ := Lib.hid (K2_.out.keep hb')
 clear hb hb'
 refine K0.out.w4 fun aa ab ac ad ae af ag ah z0 => ?_
 refine K1.out.w4 fun ai aj ak al am ao ap aq z1 => ?_
 rw [HE.out]
 go_wp2_with fail
 go_ret
 exact ⟨ret_bool HO.out, HB.out⟩
set_option maxRecDepth 100000 in
set_option maxHeartbeats 4000000 in
theorem rfsame_yes {x y u v : Int} {a1 b1 a2 b2 : Option Addr} {c1 d1 c2 d2 : Nat} {w : World} (h1 : BD G w a1 c1 x) (k1 : BD G w b1 d1 y) (h2 : BD G w a2 c2 u) (k2 : BD G w b2 d2 v) (hx : Sz x 1099511627776) (hy : Sz y 1099511627776) (hu : Sz u 1099511627776) (hv : Sz v 1099511627776) (he : eqZ x u = true) :
  Calls Tryz.prog 14 #[.agg #[.int .i64 (sg x), .slice a1 (ln x) c1, .int .i64 (sg y), .slice b1 (ln y) d1], .agg #[.int .i64 (sg u), .slice a2 (ln u) c2, .int .i64 (sg v), .slice b2 (ln v) d2]] w fun e w' => e = .returned (.bool (eqZ x u && eqZ y v)) ∧ Below w.heap.size w w' := by
 have HX := Lib.hid hx
 have HY := Lib.hid hy
 have HU := Lib.hid hu
 have HV := Lib.hid hv
 have H1 := Lib.hid h1
 have K1_ := Lib.hid k1
 have H2 := Lib.hid h2
 have K2_ := Lib.hid k2
 have HE := Lib.hid he
 have HO : Hid (eqZ y v = (eqZ x u && eqZ y v)) := by show _ = _; rw [he]; rfl
 clear hx hy hu hv h1 k1 h2 k2 he

 go_enter Tryz.func14, Tryz.ntmps14
 go_wp2_with fail
 refine (samebig_ok (x := x) (y := u) (H1.out.keep (by go_grown)) (H2.out.keep (by go_grown)) HX.out HU.out).mono ?_
 rintro e w1 ⟨rfl, hb⟩
 have hbx := bx2 w 26 26 #[.int .i64 (sg x), .slice a1 (ln x) c1, .int .i64 (sg y), .slice b1 (ln y) d1] #[.int .i64 (sg u), .slice a2 (ln u) c2, .int .i64 (sg v), .slice b2 (ln v) d2]
 obtain ⟨k0, k1⟩ := hbx
 have K0 := Lib.hid (k0.keep hb)
 have K1 := Lib.hid (k1.keep hb)
 clear k0 k1
 have hb' : Below w.heap.size w w1 := below_call (by go_grown) hb
 have HB := Lib.hid hb'
 replace H1 := Lib.hid (H1.out.keep hb')
 replace K1_ := Lib.hid (K1_.out.keep hb')
 replace H2 := Lib.hid (H2.out.keep hb')
 replace K2_ := Lib.hid (K2_.out.keep hb')
 clear hb hb'
 refine K0.out.w4 fun aa ab ac ad ae af ag ah z0 => ?_
 refine K1.out.w4 fun ai aj ak al am ao ap aq z1 => ?_
 rw [HE.out]
 go_wp2_with fail
 refine (samebig_ok (x := y) (y := v) (K1_.out.keep (by go_grown)) (K2_.out.keep (by go_grown)) HY.out HV.out).mono ?_
 rintro e w2 ⟨rfl, hb⟩
 clear aa ab ac ad ae af ag ah z0 ai aj ak al am ao ap aq z1
 have hb' := below_call (w1 := w1) (by go_grown) hb
 replace K0 := Lib.hid (K0.out.keep hb')
 replace K1 := Lib.hid (K1.out.keep hb')
 replace HB := Lib.hid (below_call HB.out hb')
 replace H1 := Lib.hid (H1.out.keep hb')
 replace K1_ := Lib.hid (K1_.out.keep hb')
 replace H2 := Lib.hid (H2.out.keep hb')
 replace K2_ := Lib.hid (K2_.out.keep hb')
 clear hb hb'
 refine K0.out.w4 fun aa ab ac ad ae af ag ah z0 => ?_
 refine K1.out.w4 fun ai aj ak al am ao ap aq z1 => ?_
 go_wp2_with fail
 go_ret
 exact ⟨ret_bool HO.out, HB.out⟩
theorem rfsame_ok {x y u v : Int} {a1 b1 a2 b2 : Option Addr} {c1 d1 c2 d2 : Nat} {w : World} (h1 : BD G w a1 c1 x) (k1 : BD G w b1 d1 y) (h2 : BD G w a2 c2 u) (k2 : BD G w b2 d2 v) (hx : Sz x 1099511627776) (hy : Sz y 1099511627776) (hu : Sz u 1099511627776) (hv : Sz v 1099511627776) :
    Calls Tryz.prog 14 #[.agg #[.int .i64 (sg x), .slice a1 (ln x) c1, .int .i64 (sg y), .slice b1 (ln y) d1], .agg #[.int .i64 (sg u), .slice a2 (ln u) c2, .int .i64 (sg v), .slice b2 (ln v) d2]] w fun e w' => e = .returned (.bool (eqZ x u && eqZ y v)) ∧ Below w.heap.size w w' := by
  rcases Bool.eq_false_or_eq_true (eqZ x u) with h | h
  · exact rfsame_yes h1 k1 h2 k2 hx hy hu hv h
  · exact rfsame_no h1 k1 h2 k2 hx hy hu hv h
theorem rfsame_eq {x y : Int} {a1 b1 a2 b2 : Option Addr} {c1 d1 c2 d2 : Nat} {w : World} (h1 : BD G w a1 c1 x) (k1 : BD G w b1 d1 y) (h2 : BD G w a2 c2 x) (k2 : BD G w b2 d2 y) (hx : Sz x 1099511627776) (hy : Sz y 1099511627776) :
  Calls Tryz.prog 14 #[.agg #[.int .i64 (sg x), .slice a1 (ln x) c1, .int .i64 (sg y), .slice b1 (ln y) d1], .agg #[.int .i64 (sg x), .slice a2 (ln x) c2, .int .i64 (sg y), .slice b2 (ln y) d2]] w fun e w' => e = .returned (.bool true) ∧ Below w.heap.size w w' := by
 have := rfsame_ok h1 k1 h2 k2 hx hy hx hy
 have e1 : (eqZ x x && eqZ y y) = true := by simp [eqZ]
 rwa [e1] at this
theorem rfsame_two {x y u v : Int} {a1 b1 a2 b2 : Option Addr} {c1 d1 c2 d2 : Nat} {w : World} (h1 : BD G w a1 c1 x) (k1 : BD G w b1 d1 y) (h2 : BD G w a2 c2 u) (k2 : BD G w b2 d2 v) (hx : Sz x 1099511627776) (hy : Sz y 1099511627776) (e1 : x = u) (e2 : y = v) :
  Calls Tryz.prog 14 #[.agg #[.int .i64 (sg x), .slice a1 (ln x) c1, .int .i64 (sg y), .slice b1 (ln y) d1], .agg #[.int .i64 (sg u), .slice a2 (ln u) c2, .int .i64 (sg v), .slice b2 (ln v) d2]] w fun e w' => e = .returned (.bool true) ∧ Below w.heap.size w w' := by
 subst e1 e2; exact rfsame_eq h1 k1 h2 k2 hx hy
theorem samebig_is {x y : Int} {b : Bool} {a1 a2 : Option Addr} {c1 c2 : Nat} {w : World} (h1 : BD G w a1 c1 x) (h2 : BD G w a2 c2 y) (hx : Sz x 1099511627776) (hy : Sz y 1099511627776) (he : eqZ x y = b) :
  Calls Tryz.prog 42 #[.agg #[.int .i64 (sg x), .slice a1 (ln x) c1], .agg #[.int .i64 (sg y), .slice a2 (ln y) c2]] w fun e w' => e = .returned (.bool b) ∧ Below w.heap.size w w' := by
 rw [← he]; exact samebig_ok h1 h2 hx hy
end Go.Proofs.YtcfmakpckdicjaaGreatDoor
