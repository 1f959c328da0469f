/- What the law looks up: the least and the most that a meter can show, reading by reading. -/
import Derived.Test.YtlcgckelamhnpaaBase
import Derived.Test.YtlcgckelamhnpaaBigSpec
import Derived.Test.YtlcgckelamhnpaaBigB
import Derived.Test.YtlcgckelamhnpaaBigC
import Derived.Test.YtlcgckelamhnpaaBigD
import Derived.Test.YtlcgckelamhnpaaBigK
import Derived.Test.YtlcgckelamhnpaaBigQ
import Derived.Test.YtlcgckelamhnpaaFd
import Derived.Test.YtlcgckelamhnpaaHeld
import Derived.Test.YtlcgckelamhnpaaAw
import Derived.Test.YtlcgckelamhnpaaFracC
import Derived.Test.YtlcgckelamhnpaaFz
import Derived.Test.YtlcgckelamhnpaaFracR
import Derived.Test.YtlcgckelamhnpaaRw
import Derived.Test.YtlcgckelamhnpaaScaleE
import Derived.Test.YtlcgckelamhnpaaScaleI
import Derived.Test.YtlcgckelamhnpaaCtLaws
import Derived.Test.YtlcgckelamhnpaaCtA
import Derived.Test.YtlcgckelamhnpaaCtC
import Derived.Test.YtlcgckelamhnpaaCtE
import Derived.Test.YtlcgckelamhnpaaCtL
import Derived.Test.YtlcgckelamhnpaaCtHist
import Derived.Test.YtlcgckelamhnpaaDag
import Derived.Test.YtlcgckelamhnpaaProg
import Derived.Test.YtlcgckelamhnpaaShelf
import Derived.WalkKit
import Derived.WalkSpells
import Derived.WalkLawsBesides
import Derived.Handy
import Derived.Lib.Hide
import Derived.Lib.Strings
import Derived.Lib.Builder
import Derived.BigQuiet
import Derived.OwnWalk
import Derived.Laws.BitsLemmas
import Derived.WalkSmall
import Derived.Deep.QuietTactic
import Derived.StillTailTactics
import Derived.Maps.AppendAt
import Derived.IntWalk
import Derived.Deep.RegionHeld3
import Derived.Deep.DeepFit
import Derived.Deep.LoopGhost
import Derived.Deep.DeepCutAuto
import Derived.Lib.ItoaNum
import Derived.Lib.Repeat
import Derived.Lib.AppendIntMem
import Derived.Sort.OwnSorted
import Derived.Shelf.Strings.SlTrimAscii
import Derived.Lib.ConvBytes
import Derived.Lib.CutLaws
import Derived.Shelf.Strings.Builder1
import Derived.ArgAppend
namespace Go.Proofs.Ytlcgckelamhnpaa
open Go.RowKit Go.Lib
variable {G : Nat}

set_option maxRecDepth 100000 in
set_option maxHeartbeats 4000000 in
theorem ctLow {q : Nat} {day : Int} {qv : Rat} {nm : ByteArray} {am ar ac aq : Option Addr} {nn cm nr cr cc cq : Nat} {ms : List Mt} {rs : List Rg} {cs : List Ct} {rr : List Rc} {w : World} (hG : G ≤ w.heap.size) (hm : RdMt G w am nn cm ms) (hr : RdRg G w ar nr cr rs) (hc : CtIn w (.slice ac cs.length cc) cs) (hq : RcIn w (.slice aq rr.length cq) rr) (_hsz : nm.size ≤ 1000) (_hnn : nn ≤ 1000) (_hnr : nr ≤ 1000) (_hcl : cs.length ≤ 1000) (_hrl : rr.length ≤ 1000) (hqn : q < nn) (hv : leastQ (marksL (ivOf cs rr) ms rs (q : Int)) day = qv) :
  Calls Try.prog 49 #[.agg #[.string nm, .slice am nn cm, .slice ar nr cr], .slice ac cs.length cc, .slice aq rr.length cq, .int .i64 (q : Int), .int .i64 day] w fun e w' => ∃ x0 x1 x2 x3, e = .returned (.agg #[x0, x1, x2, x3]) ∧ FQ G w' x0 x1 x2 x3 qv ∧ Below w.heap.size w w' := by
 have HQ_ := Lib.hid hv; clear hv
 have HM : Hid (RdMt G w am nn cm ms) := hm
 have HR : Hid (RdRg G w ar nr cr rs) := hr
 have HC : Hid (CtIn w (.slice ac cs.length cc) cs) := hc
 have HQ : Hid (RcIn w (.slice aq rr.length cq) rr) := hq
 clear hm hr hc hq
 have M : Hid (Below w.heap.size w w) := Below.refl _ _
 go_enter Try.func49, Try.ntmps49
 go_upto_region 1 with fail
 refine nmW ((w.alloc (.cells #[.string nm, .slice am nn cm, .slice ar nr cr] 25)).alloc (.cells #[.int .i64 0, .slice none 0 0, .int .i64 0, .slice none 0 0] 38)) fun w1 hv => ?_
 rw [← hv]
 replace M := al2W hv M
 clear hv
 go_wp2_with fail
 refine nmW (α := Rat) ((0 : Int) : Rat) fun q5 eq5 => ?_
 refine (fqInt (G := G) (x := 0) (by decide)).mono ?_
 rintro e w2 ⟨x_1, x_2, x_3, x_4, rfl, hd6, hb⟩
 rw [← eq5] at hd6
 have Sq5 : Hid (Fz q5 4) := by show Fz q5 4; rw [eq5]; exact (Fz.int64 (by decide))
 have Eq5 := Lib.hid eq5; clear eq5
 replace M := adM hd6 hb M
 clear hb hd6
 refine cj4 (TQ.st (M.out.1)) fun aa ab ad ae => ?_
 go_upto_region 2 with fail
 clear aa ab ad ae
 refine nmW (w2.alloc (.cells #[x_1, x_2, x_3, x_4] 38)) fun w3 hv => ?_
 rw [← hv]
 have ow2_ : w.heap.size + 1 < w2.heap.size := ((J1 M).1).lt
 replace M := alM hv M
 clear hv
 go_wp2_with fail
 go_loopw [12] (fun i12 wr => ∃ (k : Nat) (qs : Rat) (g0 : Value) (g1 : Value) (g2 : Value) (g3 : Value), i12 = .int .i64 (k : Int) ∧ Hid (k ≤ nr) ∧ Hid ((rs.take k).foldl (lowF (ivOf cs rr) ms (q : Int) day) 0 = qs) ∧ Hid (Fz qs 60) ∧ Hid (Bx wr w2.heap.size 38 #[g0, g1, g2, g3] ∧ FQ G wr g0 g1 g2 g3 qs ∧ Bx wr (w.heap.size + 1) 38 #[.int .i64 0, .slice none 0 0, .int .i64 0, .slice none 0 0] ∧ Bx wr w.heap.size 25 #[.string nm, .slice am nn cm, .slice ar nr cr] ∧ Below w.heap.size w wr)) (fun i12 _ => nr - (RowKit.intOf i12).toNat)
 case atStart =>
  exact ⟨0, q5, x_1, x_2, x_3, x_4, rfl, (by show _ ≤ _; omega), (Lib.hid (by rw [Eq5.out]; rfl)), (Lib.hid (Fz.mono Sq5.out (by omega))), Lib.hid (aI (M.out.1) (aI (J1 M).1 (aI (J2 M).1 (aI (J3 M).1 (J4 M)))))⟩
 case round =>
  obtain ⟨w4, rfl⟩ : ∃ x, x = wr := ⟨_, rfl⟩
  clear M
  obtain ⟨k, qs, g0, g1, g2, g3, rfl, hk, HV, HSq, M⟩ := hrel
  have hk := hk.out
  by_cases hlt : k < nr
  ·
   have e1_0 : decide (k < nr) = true := decide_eq_true (by omega)
   have e1_1 : decide ((k : Int) < (nr : Int)) = true := decide_eq_true (by omega)
   have e1_i : (k : Int) < (nr : Int) := by omega
   obtain ⟨br, ofr, rfl, hb_⟩ := RdL.ptr HR.out (by omega : 0 < nr)
   have hbkbr := Lib.hid hb_
   have hkl_ : k < rs.length := by rw [HR.out.len]; exact hlt
   obtain ⟨x_, hx_⟩ : ∃ x, rs[k]? = some x := ⟨rs[k], List.getElem?_eq_getElem hkl_⟩
   obtain ⟨xm, xd, xc⟩ := x_
   have HRx : Hid (Row w br (ofr + k * 3) [.int .i64 xm, .int .i64 xd, .int .i64 xc]) := hb_.row hx_
   have HEx := Lib.hid hx_
   have hlx := hkl_
   clear hx_ hb_ hkl_
   by_cases hm_ : (q : Int) = xm
   ·
    subst hm_
    by_cases hd_ : day < xd
    ·
     have ed : decide (day < xd) = true := decide_eq_true (by omega)
     have edi : day < xd := by omega
     have HSK := Lib.hid hd_; clear hd_
     refine cj3 (J3 M).1.d3 fun af ag ah => ?_
     have z0 : w.heap.size < w4.heap.size := (J3 M).1.lt
     refine cj3 (HRx.out.keep (J4 M)).c3 fun r0_0 r0_1 r0_2 => ?_
     go_upto_region 6 with fail
     clear af ag ah z0 r0_0 r0_1 r0_2
     refine nmW (w4.alloc (.cells #[.int .i64 (q : Int), .int .i64 xd, .int .i64 xc] 29)) fun w5 hv => ?_
     rw [← hv]
     have ow3_ : w2.heap.size < w4.heap.size := ((M.out.1)).lt
     replace M := alM hv M
     clear hv
     refine cj3 (M.out.1).d3 fun ai aj ak => ?_
     go_wp2_with fail
     clear ai aj ak
     go_roundw
     case rel => exact ⟨(k + 1), qs, g0, g1, g2, g3, by go_num, (by show _ ≤ _; omega), (Lib.hid (by rw [foldl_next HEx.out, HV.out]; exact low_skip (fun h_ => by have h2_ := HSK.out; have h3_ := h_.2; simp only at h2_ h3_; omega))), (Lib.hid (by have h_ := HSq.out; exact h_)), Lib.hid (aI (J1 M).1 (aI (J2 M).1 (aI (J3 M).1 (aI (J4 M).1 (J5 M)))))⟩
     case measure => simp [RowKit.intOf] <;> omega
    ·
     have ed : decide (day < xd) = false := decide_eq_false (by omega)
     have edi : ¬ day < xd := by omega
     have HSK := Lib.hid hd_; clear hd_
     obtain ⟨bm, ofm, rfl, hb_⟩ := RdL.ptr HM.out (by omega : 0 < nn)
     have hbkbm := Lib.hid hb_
     have hkl_ : q < ms.length := by rw [HM.out.len]; exact hqn
     obtain ⟨z_, hx_⟩ : ∃ x, ms[q]? = some x := ⟨ms[q], List.getElem?_eq_getElem hkl_⟩
     obtain ⟨zs, zf, zu⟩ := z_
     have HRz : Hid (Row w bm (ofm + q * 3) [.int .i64 zs, .int .i64 zf, .int .i64 zu]) := hb_.row hx_
     have HEz := Lib.hid hx_
     have hlz := hkl_
     clear hx_ hb_ hkl_
     have HMT : Hid ((mtAt ms (q : Int)).s = zs) := by show (ms.getD _ _).s = _; rw [show ((q : Int)).toNat = q from rfl, getD_of HEz.out]
     obtain ⟨ol, hol_⟩ : ∃ o, loO cs rr zs xc xd = o := ⟨_, rfl⟩
     have HOL := Lib.hid hol_; clear hol_
     obtain ⟨oh, hoh_⟩ : ∃ o, hiO cs rr zs xc xd = o := ⟨_, rfl⟩
     have HOH := Lib.hid hoh_; clear hoh_
     obtain ⟨bv, hbv_⟩ : ∃ o, hasI cs rr zs xc xd = o := ⟨_, rfl⟩
     have HBV := Lib.hid hbv_; clear hbv_
     refine cj3 (J3 M).1.d3 fun af ag ah => ?_
     have z0 : w.heap.size < w4.heap.size := (J3 M).1.lt
     refine cj3 (HRx.out.keep (J4 M)).c3 fun r0_0 r0_1 r0_2 => ?_
     go_upto_region 6 with fail
     clear af ag ah z0 r0_0 r0_1 r0_2
     refine nmW (w4.alloc (.cells #[.int .i64 (q : Int), .int .i64 xd, .int .i64 xc] 29)) fun w5 hv => ?_
     rw [← hv]
     have ow3_ : w2.heap.size < w4.heap.size := ((M.out.1)).lt
     replace M := alM hv M
     clear hv
     refine cj3 (M.out.1).d3 fun ai aj ak => ?_
     go_upto_region 7 with fail
     clear ai aj ak
     go_cut [14, 15, 16] (fun s14 s15 s16 wx => ∃ (A17 : Nat), ∃ (A18 : Nat), ∃ (x_7 : Value), ∃ (x_8 : Value), ∃ (x_9 : Value), ∃ (x_10 : Value), ∃ (x_11 : Value), ∃ (x_12 : Value), ∃ (x_13 : Value), ∃ (x_14 : Value), s14 = .pointer (some ⟨A17, 0, none⟩) ∧ s15 = .pointer (some ⟨A18, 0, none⟩) ∧ s16 = .bool bv ∧ w4.heap.size < A17 ∧ (w4.heap.size < A18 ∧ A17 ≠ A18) ∧ Hid (Bx wx A17 38 #[x_7, x_8, x_9, x_10] ∧ Bx wx A18 38 #[x_11, x_12, x_13, x_14] ∧ OQ G wx x_7 x_8 x_9 x_10 ol ∧ OQ G wx x_11 x_12 x_13 x_14 oh ∧ FQ G wx g0 g1 g2 g3 qs ∧ Bx wx w.heap.size 25 #[.string nm, .slice (some ⟨bm, ofm, none⟩) nn cm, .slice (some ⟨br, ofr, none⟩) nr cr] ∧ Bx wx (w.heap.size + 1) 38 #[.int .i64 0, .slice none 0 0, .int .i64 0, .slice none 0 0] ∧ Bx wx w2.heap.size 38 #[g0, g1, g2, g3] ∧ Bx wx w4.heap.size 29 #[.int .i64 (q : Int), .int .i64 xd, .int .i64 xc] ∧ Below w.heap.size w wx))
     case first =>
      refine nmW w5.drew fun w6 hv => ?_
      replace M := drM hv M
      refine wp_region_held_drew (S := (fun w' => w'.cell? ⟨w.heap.size, 0, none⟩ = some (.string nm) ∧ w'.cell? ⟨w.heap.size, 1, none⟩ = some (.slice (some ⟨bm, ofm, none⟩) nn cm) ∧ w'.cell? ⟨w.heap.size, 2, none⟩ = some (.slice (some ⟨br, ofr, none⟩) nr cr) ∧ w'.cell? ⟨w4.heap.size, 0, none⟩ = some (.int .i64 (q : Int)) ∧ w'.cell? ⟨w4.heap.size, 1, none⟩ = some (.int .i64 xd) ∧ w'.cell? ⟨w4.heap.size, 2, none⟩ = some (.int .i64 xc) ∧ w'.cell? ⟨bm, ofm + q * 3, none⟩ = some (.int .i64 zs) ∧ w'.cell? ⟨bm, ofm + q * 3 + 1, none⟩ = some (.int .i64 zf) ∧ w'.cell? ⟨bm, ofm + q * 3 + 2, none⟩ = some (.int .i64 zu))) (by kernel_rfl) (by rw [← hv]; exact ((J4 M).1.t3 ((M.out.1).t3 ((HRz.out.keep (J5 M)).c3)))) (fun hH19 => ?_)
      rw [← hv] at hH19 ⊢
      clear hv
      have Mb_ := M
      have lb0_ : w.heap.size < w6.heap.size := ((J4 M).1).lt
      have lb1_ : w.heap.size + 1 < w6.heap.size := ((J3 M).1).lt
      have lb2_ : w2.heap.size < w6.heap.size := ((J1 M).1).lt
      have lb3_ : w4.heap.size < w6.heap.size := ((M.out.1)).lt
      refine tk at0 ?_
      refine tk at1 ?_
      refine tk at2 ?_
      refine tk at3 ?_
      refine tk at4 ?_
      refine tk at5 ?_
      refine tk at6 ?_
      refine tk at7 ?_
      refine tk at8 ?_
      refine tk at9 ?_
      refine tk at10 ?_
      refine tk at11 ?_
      refine wpAnyH_abs (fun X_ a0_ hX_ ha0_ => ?_)
      clear hH19
      have hD9 : ∀ (wk_ : World) (x_20 : Value) (x_21 : Value) (x_22 : Value) (x_23 : Value) (x_24 : Value) (x_25 : Value) (x_26 : Value) (x_27 : Value) (A17_ : Nat) (A18_ : Nat), w6.heap.size ≤ A17_ → w6.heap.size ≤ A18_ → A17_ ≠ A18_ → Hid (Bx wk_ A18_ 38 #[x_24, x_25, x_26, x_27] ∧ Bx wk_ A17_ 38 #[x_20, x_21, x_22, x_23] ∧ OQ G wk_ x_20 x_21 x_22 x_23 ol ∧ OQ G wk_ x_24 x_25 x_26 x_27 oh ∧ Below w6.heap.size w6 wk_) → X_ 0 #[true, true, true, true, true, true, true, true, true, true, true, true, true, true, true, true, true, true, true, true, true, true] (Act.put (Act.put (Act.put (Act.put (Act.put (Act.put (Act.put (Act.put a0_ (some 53) (.tuple #[.agg #[x_20, x_21, x_22, x_23], .agg #[x_24, x_25, x_26, x_27], .bool bv])) (some 40) (.tuple #[.agg #[x_20, x_21, x_22, x_23], .agg #[x_24, x_25, x_26, x_27], .bool bv])) (some 54) (.agg #[x_20, x_21, x_22, x_23])) (some 55) (.agg #[x_24, x_25, x_26, x_27])) (some 56) (.bool bv)) (some 14) (.pointer (some ⟨A17_, 0, none⟩))) (some 15) (.pointer (some ⟨A18_, 0, none⟩))) (some 16) (.bool bv)) wk_ := by
       intro wk_ x_20 x_21 x_22 x_23 x_24 x_25 x_26 x_27 A17_ A18_ c0_ c1_ c2_ rel_
       subst hX_ ha0_
       have M := Lib.hid (aI rel_.out.1 (aI rel_.out.2.1 (aI rel_.out.2.2.1 (aI rel_.out.2.2.2.1 (aI rel_.out.2.2.2.2 (Goes.go Mb_.out rel_.out.2.2.2.2))))))
       clear rel_
       have hH30 : (fun w' => w'.cell? ⟨w.heap.size, 0, none⟩ = some (.string nm) ∧ w'.cell? ⟨w.heap.size, 1, none⟩ = some (.slice (some ⟨bm, ofm, none⟩) nn cm) ∧ w'.cell? ⟨w.heap.size, 2, none⟩ = some (.slice (some ⟨br, ofr, none⟩) nr cr) ∧ w'.cell? ⟨w4.heap.size, 0, none⟩ = some (.int .i64 (q : Int)) ∧ w'.cell? ⟨w4.heap.size, 1, none⟩ = some (.int .i64 xd) ∧ w'.cell? ⟨w4.heap.size, 2, none⟩ = some (.int .i64 xc) ∧ w'.cell? ⟨bm, ofm + q * 3, none⟩ = some (.int .i64 zs) ∧ w'.cell? ⟨bm, ofm + q * 3 + 1, none⟩ = some (.int .i64 zf) ∧ w'.cell? ⟨bm, ofm + q * 3 + 2, none⟩ = some (.int .i64 zu)) wk_ := ((J9 M).1.t3 ((J5 M).1.t3 ((HRz.out.keep (J10 M)).c3)))
       (try simp only [Act.put, List.setIfInBounds_toArray, List.set_cons_zero, List.set_cons_succ])
       refine wpAnyH_done (by kernel_rfl) ?_ _
       clear hH30
       go_wp2_with fail
       go_meet
       exact ⟨A17_, A18_, x_20, x_21, x_22, x_23, x_24, x_25, x_26, x_27, rfl, rfl, rfl, (by omega), (by omega), (J1 M).1, (M.out.1), (J2 M).1, (J3 M).1, (J7 M).1, (J9 M).1, (J8 M).1, (J6 M).1, (J5 M).1, (J10 M)⟩
      simp only [ha0_, Act.put, List.setIfInBounds_toArray, List.set_cons_zero, List.set_cons_succ] at hD9
      have hD8 : ∀ (wk_ : World) (x_20 : Value) (x_21 : Value) (x_22 : Value) (x_23 : Value) (x_24 : Value) (x_25 : Value) (x_26 : Value) (x_27 : Value) (A17_ : Nat) (A18_ : Nat), w6.heap.size ≤ A17_ → w6.heap.size ≤ A18_ → A17_ ≠ A18_ → Hid (Bx wk_ A18_ 38 #[.int .i64 0, .slice none 0 0, .int .i64 0, .slice none 0 0] ∧ Bx wk_ A17_ 38 #[x_20, x_21, x_22, x_23] ∧ OQ G wk_ x_20 x_21 x_22 x_23 ol ∧ OQ G wk_ x_24 x_25 x_26 x_27 oh ∧ Below w6.heap.size w6 wk_) → X_ 2 #[true, true, true, true, true, true, true, true, true, true, true, true, true, true, true, true, true, true, true, true, false, false] (Act.put (Act.put (Act.put (Act.put (Act.put (Act.put (Act.put a0_ (some 53) (.tuple #[.agg #[x_20, x_21, x_22, x_23], .agg #[x_24, x_25, x_26, x_27], .bool bv])) (some 40) (.tuple #[.agg #[x_20, x_21, x_22, x_23], .agg #[x_24, x_25, x_26, x_27], .bool bv])) (some 54) (.agg #[x_20, x_21, x_22, x_23])) (some 55) (.agg #[x_24, x_25, x_26, x_27])) (some 56) (.bool bv)) (some 14) (.pointer (some ⟨A17_, 0, none⟩))) (some 15) (.pointer (some ⟨A18_, 0, none⟩))) wk_ := by
       intro wk_ x_20 x_21 x_22 x_23 x_24 x_25 x_26 x_27 A17_ A18_ c0_ c1_ c2_ rel_
       subst hX_ ha0_
       have M := Lib.hid (aI rel_.out.1 (aI rel_.out.2.1 (aI rel_.out.2.2.1 (aI rel_.out.2.2.2.1 (aI rel_.out.2.2.2.2 (Goes.go Mb_.out rel_.out.2.2.2.2))))))
       clear rel_
       have hH31 : (fun w' => w'.cell? ⟨w.heap.size, 0, none⟩ = some (.string nm) ∧ w'.cell? ⟨w.heap.size, 1, none⟩ = some (.slice (some ⟨bm, ofm, none⟩) nn cm) ∧ w'.cell? ⟨w.heap.size, 2, none⟩ = some (.slice (some ⟨br, ofr, none⟩) nr cr) ∧ w'.cell? ⟨w4.heap.size, 0, none⟩ = some (.int .i64 (q : Int)) ∧ w'.cell? ⟨w4.heap.size, 1, none⟩ = some (.int .i64 xd) ∧ w'.cell? ⟨w4.heap.size, 2, none⟩ = some (.int .i64 xc) ∧ w'.cell? ⟨bm, ofm + q * 3, none⟩ = some (.int .i64 zs) ∧ w'.cell? ⟨bm, ofm + q * 3 + 1, none⟩ = some (.int .i64 zf) ∧ w'.cell? ⟨bm, ofm + q * 3 + 2, none⟩ = some (.int .i64 zu)) wk_ := ((J9 M).1.t3 ((J5 M).1.t3 ((HRz.out.keep (J10 M)).c3)))
       (try simp only [Act.put, List.setIfInBounds_toArray, List.set_cons_zero, List.set_cons_succ])
       have lw_ := ((J4 M).1).size
       have l17_ := ((J1 M).1).lt
       have l18_ := ((M.out.1)).lt
       refine wpAnyH_ready (rs := [20]) (by kernel_rfl) (by simp) ?_
       refine AllReadyH.cons at20 (fun K hK => ?_) AllReadyH.nil
       refine cj8 (M.out.1).c4 fun al ao ap au av aw ax ay => ?_
       refine cj4 (TQ.st (J3 M).1) fun az ba bb bc => ?_
       go_simp
       clear al ao ap au av aw ax ay az ba bb bc
       have hz : w.heap.size ≤ A18_ := by omega
       refine st4W (x_24) (x_25) (x_26) (x_27) (M.out.1) (J10 M) hz fun w7 hv og hk hbw => ?_
       rw [← hv]
       replace M := Lib.hid (aI hk (aI ((J1 M).1.only og (by omega)) (aI ((J2 M).1.far (M.out.1) (by rfl) (by omega) og) (aI ((J3 M).1.far (M.out.1) (by rfl) (by omega) og) (aI (show Below w6.heap.size w6 w7 from by rw [hv]; exact (Below.setCell (Below.setCell (Below.setCell (Below.setCell (J4 M).1 (by omega) _) (by omega) _) (by omega) _) (by omega) _)) (aI ((J5 M).1.only og (by omega)) (aI ((J6 M).1.only og (by omega)) (aI ((J7 M).1.far (M.out.1) (by rfl) (by omega) og) (aI ((J8 M).1.only og (by omega)) (aI ((J9 M).1.only og (by omega)) hbw))))))))))
       clear hk hbw og hv hz
       refine hK.out _ _ (((J9 M).1.t3 ((J5 M).1.t3 ((HRz.out.keep (J10 M)).c3)))) (fun hH32 => ?_)
       clear hK K hH31
       (try simp only [Act.put, List.setIfInBounds_toArray, List.set_cons_zero, List.set_cons_succ])
       refine tk at21 ?_
       exact at_node (by kernel_rfl) (hD9 w7 x_20 x_21 x_22 x_23 x_24 x_25 x_26 x_27 A17_ A18_ (by omega) (by omega) (by omega) (Lib.hid ⟨(M.out.1), (J1 M).1, (J2 M).1, (J3 M).1, (J4 M).1⟩))
      simp only [ha0_, Act.put, List.setIfInBounds_toArray, List.set_cons_zero, List.set_cons_succ] at hD8
      have hD7 : ∀ (wk_ : World) (x_20 : Value) (x_21 : Value) (x_22 : Value) (x_23 : Value) (x_24 : Value) (x_25 : Value) (x_26 : Value) (x_27 : Value) (A17_ : Nat) (A18_ : Nat), w6.heap.size ≤ A17_ → w6.heap.size ≤ A18_ → A17_ ≠ A18_ → Hid (Bx wk_ A18_ 38 #[.int .i64 0, .slice none 0 0, .int .i64 0, .slice none 0 0] ∧ Bx wk_ A17_ 38 #[.int .i64 0, .slice none 0 0, .int .i64 0, .slice none 0 0] ∧ OQ G wk_ x_20 x_21 x_22 x_23 ol ∧ OQ G wk_ x_24 x_25 x_26 x_27 oh ∧ Below w6.heap.size w6 wk_) → X_ 3 #[true, true, true, true, true, true, true, true, true, true, true, true, true, true, true, true, true, true, true, false, false, false] (Act.put (Act.put (Act.put (Act.put (Act.put (Act.put (Act.put a0_ (some 53) (.tuple #[.agg #[x_20, x_21, x_22, x_23], .agg #[x_24, x_25, x_26, x_27], .bool bv])) (some 40) (.tuple #[.agg #[x_20, x_21, x_22, x_23], .agg #[x_24, x_25, x_26, x_27], .bool bv])) (some 54) (.agg #[x_20, x_21, x_22, x_23])) (some 55) (.agg #[x_24, x_25, x_26, x_27])) (some 56) (.bool bv)) (some 14) (.pointer (some ⟨A17_, 0, none⟩))) (some 15) (.pointer (some ⟨A18_, 0, none⟩))) wk_ := by
       intro wk_ x_20 x_21 x_22 x_23 x_24 x_25 x_26 x_27 A17_ A18_ c0_ c1_ c2_ rel_
       subst hX_ ha0_
       have M := Lib.hid (aI rel_.out.1 (aI rel_.out.2.1 (aI rel_.out.2.2.1 (aI rel_.out.2.2.2.1 (aI rel_.out.2.2.2.2 (Goes.go Mb_.out rel_.out.2.2.2.2))))))
       clear rel_
       have hH33 : (fun w' => w'.cell? ⟨w.heap.size, 0, none⟩ = some (.string nm) ∧ w'.cell? ⟨w.heap.size, 1, none⟩ = some (.slice (some ⟨bm, ofm, none⟩) nn cm) ∧ w'.cell? ⟨w.heap.size, 2, none⟩ = some (.slice (some ⟨br, ofr, none⟩) nr cr) ∧ w'.cell? ⟨w4.heap.size, 0, none⟩ = some (.int .i64 (q : Int)) ∧ w'.cell? ⟨w4.heap.size, 1, none⟩ = some (.int .i64 xd) ∧ w'.cell? ⟨w4.heap.size, 2, none⟩ = some (.int .i64 xc) ∧ w'.cell? ⟨bm, ofm + q * 3, none⟩ = some (.int .i64 zs) ∧ w'.cell? ⟨bm, ofm + q * 3 + 1, none⟩ = some (.int .i64 zf) ∧ w'.cell? ⟨bm, ofm + q * 3 + 2, none⟩ = some (.int .i64 zu)) wk_ := ((J9 M).1.t3 ((J5 M).1.t3 ((HRz.out.keep (J10 M)).c3)))
       (try simp only [Act.put, List.setIfInBounds_toArray, List.set_cons_zero, List.set_cons_succ])
       have lw_ := ((J4 M).1).size
       have l17_ := ((J1 M).1).lt
       have l18_ := ((M.out.1)).lt
       refine wpAnyH_ready (rs := [19]) (by kernel_rfl) (by simp) ?_
       refine AllReadyH.cons at19 (fun K hK => ?_) AllReadyH.nil
       refine cj8 (J1 M).1.c4 fun bd bf bg bh bi bj bk bl => ?_
       refine cj4 (TQ.st (J2 M).1) fun bn bo bp bq => ?_
       go_simp
       clear bd bf bg bh bi bj bk bl bn bo bp bq
       have hz : w.heap.size ≤ A17_ := by omega
       refine st4W (x_20) (x_21) (x_22) (x_23) (J1 M).1 (J10 M) hz fun w7 hv og hk hbw => ?_
       rw [← hv]
       replace M := Lib.hid (aI ((M.out.1).only og (by omega)) (aI hk (aI ((J2 M).1.far (J1 M).1 (by rfl) (by omega) og) (aI ((J3 M).1.far (J1 M).1 (by rfl) (by omega) og) (aI (show Below w6.heap.size w6 w7 from by rw [hv]; exact (Below.setCell (Below.setCell (Below.setCell (Below.setCell (J4 M).1 (by omega) _) (by omega) _) (by omega) _) (by omega) _)) (aI ((J5 M).1.only og (by omega)) (aI ((J6 M).1.only og (by omega)) (aI ((J7 M).1.far (J1 M).1 (by rfl) (by omega) og) (aI ((J8 M).1.only og (by omega)) (aI ((J9 M).1.only og (by omega)) hbw))))))))))
       clear hk hbw og hv hz
       refine hK.out _ _ (((J9 M).1.t3 ((J5 M).1.t3 ((HRz.out.keep (J10 M)).c3)))) (fun hH34 => ?_)
       clear hK K hH33
       (try simp only [Act.put, List.setIfInBounds_toArray, List.set_cons_zero, List.set_cons_succ])
       exact at_node (by kernel_rfl) (hD8 w7 x_20 x_21 x_22 x_23 x_24 x_25 x_26 x_27 A17_ A18_ (by omega) (by omega) (by omega) (Lib.hid ⟨(M.out.1), (J1 M).1, (J2 M).1, (J3 M).1, (J4 M).1⟩))
      simp only [ha0_, Act.put, List.setIfInBounds_toArray, List.set_cons_zero, List.set_cons_succ] at hD7
      have hD4 : ∀ (wk_ : World) (x_20 : Value) (x_21 : Value) (x_22 : Value) (x_23 : Value) (x_24 : Value) (x_25 : Value) (x_26 : Value) (x_27 : Value) (A17_ : Nat), w6.heap.size ≤ A17_ → Hid (Bx wk_ A17_ 38 #[.int .i64 0, .slice none 0 0, .int .i64 0, .slice none 0 0] ∧ OQ G wk_ x_20 x_21 x_22 x_23 ol ∧ OQ G wk_ x_24 x_25 x_26 x_27 oh ∧ Below w6.heap.size w6 wk_) → X_ 4 #[true, true, true, true, true, true, true, true, true, true, true, true, true, true, true, true, true, true, false, false, false, false] (Act.put (Act.put (Act.put (Act.put (Act.put (Act.put a0_ (some 53) (.tuple #[.agg #[x_20, x_21, x_22, x_23], .agg #[x_24, x_25, x_26, x_27], .bool bv])) (some 40) (.tuple #[.agg #[x_20, x_21, x_22, x_23], .agg #[x_24, x_25, x_26, x_27], .bool bv])) (some 54) (.agg #[x_20, x_21, x_22, x_23])) (some 55) (.agg #[x_24, x_25, x_26, x_27])) (some 56) (.bool bv)) (some 14) (.pointer (some ⟨A17_, 0, none⟩))) wk_ := by
       intro wk_ x_20 x_21 x_22 x_23 x_24 x_25 x_26 x_27 A17_ c0_ rel_
       subst hX_ ha0_
       have M := Lib.hid (aI rel_.out.1 (aI rel_.out.2.1 (aI rel_.out.2.2.1 (aI rel_.out.2.2.2 (Goes.go Mb_.out rel_.out.2.2.2)))))
       clear rel_
       have hH35 : (fun w' => w'.cell? ⟨w.heap.size, 0, none⟩ = some (.string nm) ∧ w'.cell? ⟨w.heap.size, 1, none⟩ = some (.slice (some ⟨bm, ofm, none⟩) nn cm) ∧ w'.cell? ⟨w.heap.size, 2, none⟩ = some (.slice (some ⟨br, ofr, none⟩) nr cr) ∧ w'.cell? ⟨w4.heap.size, 0, none⟩ = some (.int .i64 (q : Int)) ∧ w'.cell? ⟨w4.heap.size, 1, none⟩ = some (.int .i64 xd) ∧ w'.cell? ⟨w4.heap.size, 2, none⟩ = some (.int .i64 xc) ∧ w'.cell? ⟨bm, ofm + q * 3, none⟩ = some (.int .i64 zs) ∧ w'.cell? ⟨bm, ofm + q * 3 + 1, none⟩ = some (.int .i64 zf) ∧ w'.cell? ⟨bm, ofm + q * 3 + 2, none⟩ = some (.int .i64 zu)) wk_ := ((J8 M).1.t3 ((J4 M).1.t3 ((HRz.out.keep (J9 M)).c3)))
       (try simp only [Act.put, List.setIfInBounds_toArray, List.set_cons_zero, List.set_cons_succ])
       have lw_ := ((J3 M).1).size
       have l17_ := ((M.out.1)).lt
       refine wpAnyH_ready (rs := [18]) (by kernel_rfl) (by simp) ?_
       refine AllReadyH.cons at18 (fun K hK => ?_) AllReadyH.nil
       go_simp
       refine nmW (wk_.alloc (.cells #[.int .i64 0, .slice none 0 0, .int .i64 0, .slice none 0 0] 38)) fun w7 hv => ?_
       rw [← hv]
       have ow5_ : A17_ < wk_.heap.size := ((M.out.1)).lt
       replace M := alM hv M
       clear hv
       refine hK.out _ _ (((J9 M).1.t3 ((J5 M).1.t3 ((HRz.out.keep (J10 M)).c3)))) (fun hH36 => ?_)
       clear hK K hH35
       (try simp only [Act.put, List.setIfInBounds_toArray, List.set_cons_zero, List.set_cons_succ])
       exact at_node (by kernel_rfl) (hD7 w7 x_20 x_21 x_22 x_23 x_24 x_25 x_26 x_27 A17_ wk_.heap.size (by omega) (by omega) (by omega) (Lib.hid ⟨(M.out.1), (J1 M).1, (J2 M).1, (J3 M).1, (J4 M).1⟩))
      simp only [ha0_, Act.put, List.setIfInBounds_toArray, List.set_cons_zero, List.set_cons_succ] at hD4
      have hD5 : ∀ (wk_ : World) (x_20 : Value) (x_21 : Value) (x_22 : Value) (x_23 : Value) (x_24 : Value) (x_25 : Value) (x_26 : Value) (x_27 : Value) (A18_ : Nat), w6.heap.size ≤ A18_ → Hid (Bx wk_ A18_ 38 #[.int .i64 0, .slice none 0 0, .int .i64 0, .slice none 0 0] ∧ OQ G wk_ x_20 x_21 x_22 x_23 ol ∧ OQ G wk_ x_24 x_25 x_26 x_27 oh ∧ Below w6.heap.size w6 wk_) → X_ 4 #[true, true, true, true, true, true, true, true, true, true, true, true, true, true, true, true, true, false, true, false, false, false] (Act.put (Act.put (Act.put (Act.put (Act.put (Act.put a0_ (some 53) (.tuple #[.agg #[x_20, x_21, x_22, x_23], .agg #[x_24, x_25, x_26, x_27], .bool bv])) (some 40) (.tuple #[.agg #[x_20, x_21, x_22, x_23], .agg #[x_24, x_25, x_26, x_27], .bool bv])) (some 54) (.agg #[x_20, x_21, x_22, x_23])) (some 55) (.agg #[x_24, x_25, x_26, x_27])) (some 56) (.bool bv)) (some 15) (.pointer (some ⟨A18_, 0, none⟩))) wk_ := by
       intro wk_ x_20 x_21 x_22 x_23 x_24 x_25 x_26 x_27 A18_ c0_ rel_
       subst hX_ ha0_
       have M := Lib.hid (aI rel_.out.1 (aI rel_.out.2.1 (aI rel_.out.2.2.1 (aI rel_.out.2.2.2 (Goes.go Mb_.out rel_.out.2.2.2)))))
       clear rel_
       have hH37 : (fun w' => w'.cell? ⟨w.heap.size, 0, none⟩ = some (.string nm) ∧ w'.cell? ⟨w.heap.size, 1, none⟩ = some (.slice (some ⟨bm, ofm, none⟩) nn cm) ∧ w'.cell? ⟨w.heap.size, 2, none⟩ = some (.slice (some ⟨br, ofr, none⟩) nr cr) ∧ w'.cell? ⟨w4.heap.size, 0, none⟩ = some (.int .i64 (q : Int)) ∧ w'.cell? ⟨w4.heap.size, 1, none⟩ = some (.int .i64 xd) ∧ w'.cell? ⟨w4.heap.size, 2, none⟩ = some (.int .i64 xc) ∧ w'.cell? ⟨bm, ofm + q * 3, none⟩ = some (.int .i64 zs) ∧ w'.cell? ⟨bm, ofm + q * 3 + 1, none⟩ = some (.int .i64 zf) ∧ w'.cell? ⟨bm, ofm + q * 3 + 2, none⟩ = some (.int .i64 zu)) wk_ := ((J8 M).1.t3 ((J4 M).1.t3 ((HRz.out.keep (J9 M)).c3)))
       (try simp only [Act.put, List.setIfInBounds_toArray, List.set_cons_zero, List.set_cons_succ])
       have lw_ := ((J3 M).1).size
       have l18_ := ((M.out.1)).lt
       refine wpAnyH_ready (rs := [17]) (by kernel_rfl) (by simp) ?_
       refine AllReadyH.cons at17 (fun K hK => ?_) AllReadyH.nil
       go_simp
       refine nmW (wk_.alloc (.cells #[.int .i64 0, .slice none 0 0, .int .i64 0, .slice none 0 0] 38)) fun w7 hv => ?_
       rw [← hv]
       have ow5_ : A18_ < wk_.heap.size := ((M.out.1)).lt
       replace M := alM hv M
       clear hv
       refine hK.out _ _ (((J9 M).1.t3 ((J5 M).1.t3 ((HRz.out.keep (J10 M)).c3)))) (fun hH38 => ?_)
       clear hK K hH37
       (try simp only [Act.put, List.setIfInBounds_toArray, List.set_cons_zero, List.set_cons_succ])
       exact at_node (by kernel_rfl) (hD7 w7 x_20 x_21 x_22 x_23 x_24 x_25 x_26 x_27 wk_.heap.size A18_ (by omega) (by omega) (by omega) (Lib.hid ⟨(J1 M).1, (M.out.1), (J2 M).1, (J3 M).1, (J4 M).1⟩))
      simp only [ha0_, Act.put, List.setIfInBounds_toArray, List.set_cons_zero, List.set_cons_succ] at hD5
      have hD6 : ∀ (wk_ : World) (A17_ : Nat) (A18_ : Nat), w6.heap.size ≤ A17_ → w6.heap.size ≤ A18_ → A17_ ≠ A18_ → Hid (Bx wk_ A18_ 38 #[.int .i64 0, .slice none 0 0, .int .i64 0, .slice none 0 0] ∧ Bx wk_ A17_ 38 #[.int .i64 0, .slice none 0 0, .int .i64 0, .slice none 0 0] ∧ Below w6.heap.size w6 wk_) → X_ 8 #[true, true, true, true, true, true, true, true, true, true, true, true, false, false, false, false, false, true, true, false, false, false] (Act.put (Act.put a0_ (some 14) (.pointer (some ⟨A17_, 0, none⟩))) (some 15) (.pointer (some ⟨A18_, 0, none⟩))) wk_ := by
       intro wk_ A17_ A18_ c0_ c1_ c2_ rel_
       subst hX_ ha0_
       have M := Lib.hid (aI rel_.out.1 (aI rel_.out.2.1 (aI rel_.out.2.2 (Goes.go Mb_.out rel_.out.2.2))))
       clear rel_
       have hH39 : (fun w' => w'.cell? ⟨w.heap.size, 0, none⟩ = some (.string nm) ∧ w'.cell? ⟨w.heap.size, 1, none⟩ = some (.slice (some ⟨bm, ofm, none⟩) nn cm) ∧ w'.cell? ⟨w.heap.size, 2, none⟩ = some (.slice (some ⟨br, ofr, none⟩) nr cr) ∧ w'.cell? ⟨w4.heap.size, 0, none⟩ = some (.int .i64 (q : Int)) ∧ w'.cell? ⟨w4.heap.size, 1, none⟩ = some (.int .i64 xd) ∧ w'.cell? ⟨w4.heap.size, 2, none⟩ = some (.int .i64 xc) ∧ w'.cell? ⟨bm, ofm + q * 3, none⟩ = some (.int .i64 zs) ∧ w'.cell? ⟨bm, ofm + q * 3 + 1, none⟩ = some (.int .i64 zf) ∧ w'.cell? ⟨bm, ofm + q * 3 + 2, none⟩ = some (.int .i64 zu)) wk_ := ((J7 M).1.t3 ((J3 M).1.t3 ((HRz.out.keep (J8 M)).c3)))
       (try simp only [Act.put, List.setIfInBounds_toArray, List.set_cons_zero, List.set_cons_succ])
       have lw_ := ((J2 M).1).size
       have l17_ := ((J1 M).1).lt
       have l18_ := ((M.out.1)).lt
       refine wpAnyH_ready (rs := [12]) (by kernel_rfl) (by simp) ?_
       refine AllReadyH.cons at12 (fun K hK => ?_) AllReadyH.nil
       go_simp
       refine (iv_u (G := G) (sc := zs) (rd := xc) (day := xd) (lo := ol) (hi := oh) (b_ := bv) (Nat.le_trans hG (J8 M).size) (HC.out.keep (J8 M)) (HQ.out.keep (J8 M)) (by omega) (by omega) HOL.out HOH.out HBV.out).mono ?_
       rintro e w7 ⟨x_40, x_41, x_42, x_43, x_44, x_45, x_46, x_47, rfl, hd48, hd49, hb⟩
       replace M := ad2M hd48 hd49 hb M
       clear hb hd48 hd49
       (try go_wp2_with fail)
       refine hK.out _ _ (((J9 M).1.t3 ((J5 M).1.t3 ((HRz.out.keep (J10 M)).c3)))) (fun hH50 => ?_)
       clear hK K hH39
       (try simp only [Act.put, List.setIfInBounds_toArray, List.set_cons_zero, List.set_cons_succ])
       refine tk at13 ?_
       refine tk at14 ?_
       refine tk at15 ?_
       refine tk at16 ?_
       exact at_node (by kernel_rfl) (hD7 w7 x_40 x_41 x_42 x_43 x_44 x_45 x_46 x_47 A17_ A18_ (by omega) (by omega) (by omega) (Lib.hid ⟨(J2 M).1, (J3 M).1, (M.out.1), (J1 M).1, (J4 M).1⟩))
      simp only [ha0_, Act.put, List.setIfInBounds_toArray, List.set_cons_zero, List.set_cons_succ] at hD6
      have hD1 : ∀ (wk_ : World) (x_20 : Value) (x_21 : Value) (x_22 : Value) (x_23 : Value) (x_24 : Value) (x_25 : Value) (x_26 : Value) (x_27 : Value), Hid (OQ G wk_ x_20 x_21 x_22 x_23 ol ∧ OQ G wk_ x_24 x_25 x_26 x_27 oh ∧ Below w6.heap.size w6 wk_) → X_ 5 #[true, true, true, true, true, true, true, true, true, true, true, true, true, true, true, true, true, false, false, false, false, false] (Act.put (Act.put (Act.put (Act.put (Act.put a0_ (some 53) (.tuple #[.agg #[x_20, x_21, x_22, x_23], .agg #[x_24, x_25, x_26, x_27], .bool bv])) (some 40) (.tuple #[.agg #[x_20, x_21, x_22, x_23], .agg #[x_24, x_25, x_26, x_27], .bool bv])) (some 54) (.agg #[x_20, x_21, x_22, x_23])) (some 55) (.agg #[x_24, x_25, x_26, x_27])) (some 56) (.bool bv)) wk_ := by
       intro wk_ x_20 x_21 x_22 x_23 x_24 x_25 x_26 x_27 rel_
       subst hX_ ha0_
       have M := Lib.hid (aI rel_.out.1 (aI rel_.out.2.1 (aI rel_.out.2.2 (Goes.go Mb_.out rel_.out.2.2))))
       clear rel_
       have hH51 : (fun w' => w'.cell? ⟨w.heap.size, 0, none⟩ = some (.string nm) ∧ w'.cell? ⟨w.heap.size, 1, none⟩ = some (.slice (some ⟨bm, ofm, none⟩) nn cm) ∧ w'.cell? ⟨w.heap.size, 2, none⟩ = some (.slice (some ⟨br, ofr, none⟩) nr cr) ∧ w'.cell? ⟨w4.heap.size, 0, none⟩ = some (.int .i64 (q : Int)) ∧ w'.cell? ⟨w4.heap.size, 1, none⟩ = some (.int .i64 xd) ∧ w'.cell? ⟨w4.heap.size, 2, none⟩ = some (.int .i64 xc) ∧ w'.cell? ⟨bm, ofm + q * 3, none⟩ = some (.int .i64 zs) ∧ w'.cell? ⟨bm, ofm + q * 3 + 1, none⟩ = some (.int .i64 zf) ∧ w'.cell? ⟨bm, ofm + q * 3 + 2, none⟩ = some (.int .i64 zu)) wk_ := ((J7 M).1.t3 ((J3 M).1.t3 ((HRz.out.keep (J8 M)).c3)))
       (try simp only [Act.put, List.setIfInBounds_toArray, List.set_cons_zero, List.set_cons_succ])
       have lw_ := ((J2 M).1).size
       refine wpAnyH_ready (rs := [17, 18]) (by kernel_rfl) (by simp) ?_
       refine AllReadyH.cons at17 (fun K hK => ?_) ?_
       ·
        go_simp
        refine nmW (wk_.alloc (.cells #[.int .i64 0, .slice none 0 0, .int .i64 0, .slice none 0 0] 38)) fun w7 hv => ?_
        rw [← hv]
        have ow4_ : w4.heap.size < wk_.heap.size := ((J3 M).1).lt
        replace M := alM hv M
        clear hv
        refine hK.out _ _ (((J8 M).1.t3 ((J4 M).1.t3 ((HRz.out.keep (J9 M)).c3)))) (fun hH52 => ?_)
        clear hK K hH51
        (try simp only [Act.put, List.setIfInBounds_toArray, List.set_cons_zero, List.set_cons_succ])
        exact at_node (by kernel_rfl) (hD4 w7 x_20 x_21 x_22 x_23 x_24 x_25 x_26 x_27 wk_.heap.size (by omega) (Lib.hid ⟨(M.out.1), (J1 M).1, (J2 M).1, (J3 M).1⟩))
       refine AllReadyH.cons at18 (fun K hK => ?_) AllReadyH.nil
       go_simp
       refine nmW (wk_.alloc (.cells #[.int .i64 0, .slice none 0 0, .int .i64 0, .slice none 0 0] 38)) fun w7 hv => ?_
       rw [← hv]
       have ow4_ : w4.heap.size < wk_.heap.size := ((J3 M).1).lt
       replace M := alM hv M
       clear hv
       refine hK.out _ _ (((J8 M).1.t3 ((J4 M).1.t3 ((HRz.out.keep (J9 M)).c3)))) (fun hH53 => ?_)
       clear hK K hH51
       (try simp only [Act.put, List.setIfInBounds_toArray, List.set_cons_zero, List.set_cons_succ])
       exact at_node (by kernel_rfl) (hD5 w7 x_20 x_21 x_22 x_23 x_24 x_25 x_26 x_27 wk_.heap.size (by omega) (Lib.hid ⟨(M.out.1), (J1 M).1, (J2 M).1, (J3 M).1⟩))
      simp only [ha0_, Act.put, List.setIfInBounds_toArray, List.set_cons_zero, List.set_cons_succ] at hD1
      have hD2 : ∀ (wk_ : World) (A17_ : Nat), w6.heap.size ≤ A17_ → Hid (Bx wk_ A17_ 38 #[.int .i64 0, .slice none 0 0, .int .i64 0, .slice none 0 0] ∧ Below w6.heap.size w6 wk_) → X_ 9 #[true, true, true, true, true, true, true, true, true, true, true, true, false, false, false, false, false, true, false, false, false, false] (Act.put a0_ (some 14) (.pointer (some ⟨A17_, 0, none⟩))) wk_ := by
       intro wk_ A17_ c0_ rel_
       subst hX_ ha0_
       have M := Lib.hid (aI rel_.out.1 (aI rel_.out.2 (Goes.go Mb_.out rel_.out.2)))
       clear rel_
       have hH54 : (fun w' => w'.cell? ⟨w.heap.size, 0, none⟩ = some (.string nm) ∧ w'.cell? ⟨w.heap.size, 1, none⟩ = some (.slice (some ⟨bm, ofm, none⟩) nn cm) ∧ w'.cell? ⟨w.heap.size, 2, none⟩ = some (.slice (some ⟨br, ofr, none⟩) nr cr) ∧ w'.cell? ⟨w4.heap.size, 0, none⟩ = some (.int .i64 (q : Int)) ∧ w'.cell? ⟨w4.heap.size, 1, none⟩ = some (.int .i64 xd) ∧ w'.cell? ⟨w4.heap.size, 2, none⟩ = some (.int .i64 xc) ∧ w'.cell? ⟨bm, ofm + q * 3, none⟩ = some (.int .i64 zs) ∧ w'.cell? ⟨bm, ofm + q * 3 + 1, none⟩ = some (.int .i64 zf) ∧ w'.cell? ⟨bm, ofm + q * 3 + 2, none⟩ = some (.int .i64 zu)) wk_ := ((J6 M).1.t3 ((J2 M).1.t3 ((HRz.out.keep (J7 M)).c3)))
       (try simp only [Act.put, List.setIfInBounds_toArray, List.set_cons_zero, List.set_cons_succ])
       have lw_ := ((J1 M).1).size
       have l17_ := ((M.out.1)).lt
       refine wpAnyH_ready (rs := [12, 18]) (by kernel_rfl) (by simp) ?_
       refine AllReadyH.cons at12 (fun K hK => ?_) ?_
       ·
        go_simp
        refine (iv_u (G := G) (sc := zs) (rd := xc) (day := xd) (lo := ol) (hi := oh) (b_ := bv) (Nat.le_trans hG (J7 M).size) (HC.out.keep (J7 M)) (HQ.out.keep (J7 M)) (by omega) (by omega) HOL.out HOH.out HBV.out).mono ?_
        rintro e w7 ⟨x_55, x_56, x_57, x_58, x_59, x_60, x_61, x_62, rfl, hd63, hd64, hb⟩
        replace M := ad2M hd63 hd64 hb M
        clear hb hd63 hd64
        (try go_wp2_with fail)
        refine hK.out _ _ (((J8 M).1.t3 ((J4 M).1.t3 ((HRz.out.keep (J9 M)).c3)))) (fun hH65 => ?_)
        clear hK K hH54
        (try simp only [Act.put, List.setIfInBounds_toArray, List.set_cons_zero, List.set_cons_succ])
        refine tk at13 ?_
        refine tk at14 ?_
        refine tk at15 ?_
        refine tk at16 ?_
        exact at_node (by kernel_rfl) (hD4 w7 x_55 x_56 x_57 x_58 x_59 x_60 x_61 x_62 A17_ (by omega) (Lib.hid ⟨(J2 M).1, (M.out.1), (J1 M).1, (J3 M).1⟩))
       refine AllReadyH.cons at18 (fun K hK => ?_) AllReadyH.nil
       go_simp
       refine nmW (wk_.alloc (.cells #[.int .i64 0, .slice none 0 0, .int .i64 0, .slice none 0 0] 38)) fun w7 hv => ?_
       rw [← hv]
       have ow5_ : A17_ < wk_.heap.size := ((M.out.1)).lt
       replace M := alM hv M
       clear hv
       refine hK.out _ _ (((J7 M).1.t3 ((J3 M).1.t3 ((HRz.out.keep (J8 M)).c3)))) (fun hH66 => ?_)
       clear hK K hH54
       (try simp only [Act.put, List.setIfInBounds_toArray, List.set_cons_zero, List.set_cons_succ])
       exact at_node (by kernel_rfl) (hD6 w7 A17_ wk_.heap.size (by omega) (by omega) (by omega) (Lib.hid ⟨(M.out.1), (J1 M).1, (J2 M).1⟩))
      simp only [ha0_, Act.put, List.setIfInBounds_toArray, List.set_cons_zero, List.set_cons_succ] at hD2
      have hD3 : ∀ (wk_ : World) (A18_ : Nat), w6.heap.size ≤ A18_ → Hid (Bx wk_ A18_ 38 #[.int .i64 0, .slice none 0 0, .int .i64 0, .slice none 0 0] ∧ Below w6.heap.size w6 wk_) → X_ 9 #[true, true, true, true, true, true, true, true, true, true, true, true, false, false, false, false, false, false, true, false, false, false] (Act.put a0_ (some 15) (.pointer (some ⟨A18_, 0, none⟩))) wk_ := by
       intro wk_ A18_ c0_ rel_
       subst hX_ ha0_
       have M := Lib.hid (aI rel_.out.1 (aI rel_.out.2 (Goes.go Mb_.out rel_.out.2)))
       clear rel_
       have hH67 : (fun w' => w'.cell? ⟨w.heap.size, 0, none⟩ = some (.string nm) ∧ w'.cell? ⟨w.heap.size, 1, none⟩ = some (.slice (some ⟨bm, ofm, none⟩) nn cm) ∧ w'.cell? ⟨w.heap.size, 2, none⟩ = some (.slice (some ⟨br, ofr, none⟩) nr cr) ∧ w'.cell? ⟨w4.heap.size, 0, none⟩ = some (.int .i64 (q : Int)) ∧ w'.cell? ⟨w4.heap.size, 1, none⟩ = some (.int .i64 xd) ∧ w'.cell? ⟨w4.heap.size, 2, none⟩ = some (.int .i64 xc) ∧ w'.cell? ⟨bm, ofm + q * 3, none⟩ = some (.int .i64 zs) ∧ w'.cell? ⟨bm, ofm + q * 3 + 1, none⟩ = some (.int .i64 zf) ∧ w'.cell? ⟨bm, ofm + q * 3 + 2, none⟩ = some (.int .i64 zu)) wk_ := ((J6 M).1.t3 ((J2 M).1.t3 ((HRz.out.keep (J7 M)).c3)))
       (try simp only [Act.put, List.setIfInBounds_toArray, List.set_cons_zero, List.set_cons_succ])
       have lw_ := ((J1 M).1).size
       have l18_ := ((M.out.1)).lt
       refine wpAnyH_ready (rs := [12, 17]) (by kernel_rfl) (by simp) ?_
       refine AllReadyH.cons at12 (fun K hK => ?_) ?_
       ·
        go_simp
        refine (iv_u (G := G) (sc := zs) (rd := xc) (day := xd) (lo := ol) (hi := oh) (b_ := bv) (Nat.le_trans hG (J7 M).size) (HC.out.keep (J7 M)) (HQ.out.keep (J7 M)) (by omega) (by omega) HOL.out HOH.out HBV.out).mono ?_
        rintro e w7 ⟨x_68, x_69, x_70, x_71, x_72, x_73, x_74, x_75, rfl, hd76, hd77, hb⟩
        replace M := ad2M hd76 hd77 hb M
        clear hb hd76 hd77
        (try go_wp2_with fail)
        refine hK.out _ _ (((J8 M).1.t3 ((J4 M).1.t3 ((HRz.out.keep (J9 M)).c3)))) (fun hH78 => ?_)
        clear hK K hH67
        (try simp only [Act.put, List.setIfInBounds_toArray, List.set_cons_zero, List.set_cons_succ])
        refine tk at13 ?_
        refine tk at14 ?_
        refine tk at15 ?_
        refine tk at16 ?_
        exact at_node (by kernel_rfl) (hD5 w7 x_68 x_69 x_70 x_71 x_72 x_73 x_74 x_75 A18_ (by omega) (Lib.hid ⟨(J2 M).1, (M.out.1), (J1 M).1, (J3 M).1⟩))
       refine AllReadyH.cons at17 (fun K hK => ?_) AllReadyH.nil
       go_simp
       refine nmW (wk_.alloc (.cells #[.int .i64 0, .slice none 0 0, .int .i64 0, .slice none 0 0] 38)) fun w7 hv => ?_
       rw [← hv]
       have ow5_ : A18_ < wk_.heap.size := ((M.out.1)).lt
       replace M := alM hv M
       clear hv
       refine hK.out _ _ (((J7 M).1.t3 ((J3 M).1.t3 ((HRz.out.keep (J8 M)).c3)))) (fun hH79 => ?_)
       clear hK K hH67
       (try simp only [Act.put, List.setIfInBounds_toArray, List.set_cons_zero, List.set_cons_succ])
       exact at_node (by kernel_rfl) (hD6 w7 wk_.heap.size A18_ (by omega) (by omega) (by omega) (Lib.hid ⟨(J1 M).1, (M.out.1), (J2 M).1⟩))
      simp only [ha0_, Act.put, List.setIfInBounds_toArray, List.set_cons_zero, List.set_cons_succ] at hD3
      have hD0 : ∀ (wk_ : World) , Hid (Below w6.heap.size w6 wk_) → X_ 10 #[true, true, true, true, true, true, true, true, true, true, true, true, false, false, false, false, false, false, false, false, false, false] a0_ wk_ := by
       intro wk_ rel_
       subst hX_ ha0_
       have M := Lib.hid (aI rel_.out (Goes.go Mb_.out rel_.out))
       clear rel_
       have hH80 : (fun w' => w'.cell? ⟨w.heap.size, 0, none⟩ = some (.string nm) ∧ w'.cell? ⟨w.heap.size, 1, none⟩ = some (.slice (some ⟨bm, ofm, none⟩) nn cm) ∧ w'.cell? ⟨w.heap.size, 2, none⟩ = some (.slice (some ⟨br, ofr, none⟩) nr cr) ∧ w'.cell? ⟨w4.heap.size, 0, none⟩ = some (.int .i64 (q : Int)) ∧ w'.cell? ⟨w4.heap.size, 1, none⟩ = some (.int .i64 xd) ∧ w'.cell? ⟨w4.heap.size, 2, none⟩ = some (.int .i64 xc) ∧ w'.cell? ⟨bm, ofm + q * 3, none⟩ = some (.int .i64 zs) ∧ w'.cell? ⟨bm, ofm + q * 3 + 1, none⟩ = some (.int .i64 zf) ∧ w'.cell? ⟨bm, ofm + q * 3 + 2, none⟩ = some (.int .i64 zu)) wk_ := ((J5 M).1.t3 ((J1 M).1.t3 ((HRz.out.keep (J6 M)).c3)))
       (try simp only [Act.put, List.setIfInBounds_toArray, List.set_cons_zero, List.set_cons_succ])
       have lw_ := ((M.out.1)).size
       refine wpAnyH_ready (rs := [12, 17, 18]) (by kernel_rfl) (by simp) ?_
       refine AllReadyH.cons at12 (fun K hK => ?_) ?_
       ·
        go_simp
        refine (iv_u (G := G) (sc := zs) (rd := xc) (day := xd) (lo := ol) (hi := oh) (b_ := bv) (Nat.le_trans hG (J6 M).size) (HC.out.keep (J6 M)) (HQ.out.keep (J6 M)) (by omega) (by omega) HOL.out HOH.out HBV.out).mono ?_
        rintro e w7 ⟨x_81, x_82, x_83, x_84, x_85, x_86, x_87, x_88, rfl, hd89, hd90, hb⟩
        replace M := ad2M hd89 hd90 hb M
        clear hb hd89 hd90
        (try go_wp2_with fail)
        refine hK.out _ _ (((J7 M).1.t3 ((J3 M).1.t3 ((HRz.out.keep (J8 M)).c3)))) (fun hH91 => ?_)
        clear hK K hH80
        (try simp only [Act.put, List.setIfInBounds_toArray, List.set_cons_zero, List.set_cons_succ])
        refine tk at13 ?_
        refine tk at14 ?_
        refine tk at15 ?_
        refine tk at16 ?_
        exact at_node (by kernel_rfl) (hD1 w7 x_81 x_82 x_83 x_84 x_85 x_86 x_87 x_88 (Lib.hid ⟨(M.out.1), (J1 M).1, (J2 M).1⟩))
       refine AllReadyH.cons at17 (fun K hK => ?_) ?_
       ·
        go_simp
        refine nmW (wk_.alloc (.cells #[.int .i64 0, .slice none 0 0, .int .i64 0, .slice none 0 0] 38)) fun w7 hv => ?_
        rw [← hv]
        have ow4_ : w4.heap.size < wk_.heap.size := ((J1 M).1).lt
        replace M := alM hv M
        clear hv
        refine hK.out _ _ (((J6 M).1.t3 ((J2 M).1.t3 ((HRz.out.keep (J7 M)).c3)))) (fun hH92 => ?_)
        clear hK K hH80
        (try simp only [Act.put, List.setIfInBounds_toArray, List.set_cons_zero, List.set_cons_succ])
        exact at_node (by kernel_rfl) (hD2 w7 wk_.heap.size (by omega) (Lib.hid ⟨(M.out.1), (J1 M).1⟩))
       refine AllReadyH.cons at18 (fun K hK => ?_) AllReadyH.nil
       go_simp
       refine nmW (wk_.alloc (.cells #[.int .i64 0, .slice none 0 0, .int .i64 0, .slice none 0 0] 38)) fun w7 hv => ?_
       rw [← hv]
       have ow4_ : w4.heap.size < wk_.heap.size := ((J1 M).1).lt
       replace M := alM hv M
       clear hv
       refine hK.out _ _ (((J6 M).1.t3 ((J2 M).1.t3 ((HRz.out.keep (J7 M)).c3)))) (fun hH93 => ?_)
       clear hK K hH80
       (try simp only [Act.put, List.setIfInBounds_toArray, List.set_cons_zero, List.set_cons_succ])
       exact at_node (by kernel_rfl) (hD3 w7 wk_.heap.size (by omega) (Lib.hid ⟨(M.out.1), (J1 M).1⟩))
      simp only [ha0_, Act.put, List.setIfInBounds_toArray, List.set_cons_zero, List.set_cons_succ] at hD0
      subst hX_ ha0_
      exact at_node (by kernel_rfl) (hD0 w6 (Lib.hid (Below.refl _ _)))
     case rest =>
      obtain ⟨A17, A18, x_7, x_8, x_9, x_10, x_11, x_12, x_13, x_14, rfl, rfl, rfl, oA17, oA18, M⟩ := hcut
      obtain ⟨w6, rfl⟩ : ∃ w_ : World, w_ = wc := ⟨_, rfl⟩
      go_upto_region 8 with fail
      rcases hiv_ : ivl cs rr zs xc xd with _ | ⟨ilo, ihi⟩
      ·
       obtain rfl : ol = none := by rw [← HOL.out]; unfold loO; rw [hiv_]; rfl
       obtain rfl : oh = none := by rw [← HOH.out]; unfold hiO; rw [hiv_]; rfl
       obtain rfl : bv = false := by rw [← HBV.out]; unfold hasI; rw [hiv_]; rfl
       have HIV := Lib.hid hiv_; clear hiv_
       go_wp2_with fail
       go_roundw
       case rel => exact ⟨(k + 1), qs, g0, g1, g2, g3, by go_num, (by show _ ≤ _; omega), (Lib.hid (by rw [foldl_next HEx.out, HV.out]; exact low_no HMT.out HIV.out)), (Lib.hid (by have h_ := HSq.out; exact h_)), Lib.hid (aI (J7 M).1 (aI (J4 M).1 (aI (J6 M).1 (aI (J5 M).1 (J9 M)))))⟩
       case measure => simp [RowKit.intOf] <;> omega
      ·
       obtain rfl : ol = (some ilo) := by rw [← HOL.out]; unfold loO; rw [hiv_]; rfl
       obtain rfl : oh = (some ihi) := by rw [← HOH.out]; unfold hiO; rw [hiv_]; rfl
       obtain rfl : bv = true := by rw [← HBV.out]; unfold hasI; rw [hiv_]; rfl
       have hz_ := ivl_size hiv_
       have HZl : Hid (Fz ilo 60) := hz_.1.mono (by omega); have HZh : Hid (Fz ihi 60) := hz_.2.mono (by omega)
       have HIV := Lib.hid hiv_; clear hiv_ hz_
       obtain ⟨kv, hkv_⟩ : ∃ k, ordQ ilo qs = k := ⟨_, rfl⟩
       obtain ⟨t1, ht1_⟩ : ∃ b, decide (qs < ilo) = b := ⟨_, rfl⟩
       have hk1_ : decide (0 < kv) = t1 := by rw [← ht1_, ← hkv_, ordQ_gt0]
       have HKV := Lib.hid hkv_; have HT1 := Lib.hid ht1_; clear hkv_ ht1_
       refine cj4 (M.out.1).d4 fun bd bg bi bk => ?_
       refine cj4 (J7 M).1.d4 fun bs bt bu bw => ?_
       go_wp2_with fail
       clear bd bg bi bk bs bt bu bw
       refine (fqCompare (G := G) (q := ilo) (r := qs) (k := kv) (J2 M).1 (J4 M).1 (Fz.mono HZl.out (by omega)) (Fz.mono HSq.out (by omega)) HKV.out).mono ?_
       rintro e w7 ⟨rfl, hb⟩
       replace M := gnM hb M
       clear hb
       cases t1 with
       | false =>
        go_wp2_with fail
        go_roundw
        case rel => exact ⟨(k + 1), qs, g0, g1, g2, g3, by go_num, (by show _ ≤ _; omega), (Lib.hid (by rw [foldl_next HEx.out, HV.out]; exact (low_yes rfl (by have h_ := HSK.out; simp only; omega) HMT.out HIV.out HT1.out).trans rfl)), (Lib.hid (by have h_ := HSq.out; exact h_)), Lib.hid (aI (J7 M).1 (aI (J4 M).1 (aI (J6 M).1 (aI (J5 M).1 (J9 M)))))⟩
        case measure => simp [RowKit.intOf] <;> omega
       | true =>
        refine cj4 (M.out.1).d4 fun bd bg bi bk => ?_
        refine cj8 (J7 M).1.c4 fun bs bx bt bz bu ca bw cb => ?_
        refine cj4 (TQ.st (J2 M).1) fun cd ce cf cg => ?_
        go_upto_region 4 with fail
        clear bd bg bi bk bs bx bt bz bu ca bw cb cd ce cf cg
        have hz : w.heap.size ≤ w2.heap.size := by omega
        refine st4W (x_7) (x_8) (x_9) (x_10) (J7 M).1 (J9 M) hz fun w8 hv og hk hbw => ?_
        rw [← hv]
        replace M := Lib.hid (aI ((M.out.1).only og (by omega)) (aI ((J1 M).1.only og (by omega)) (aI ((J2 M).1.far (J7 M).1 (by rfl) (by omega) og) (aI ((J3 M).1.far (J7 M).1 (by rfl) (by omega) og) (aI ((J4 M).1.far (J7 M).1 (by rfl) (by omega) og) (aI ((J5 M).1.only og (by omega)) (aI ((J6 M).1.only og (by omega)) (aI hk (aI ((J8 M).1.only og (by omega)) hbw)))))))))
        clear hk hbw og hv hz
        go_wp2_with fail
        go_roundw
        case rel => exact ⟨(k + 1), ilo, x_7, x_8, x_9, x_10, by go_num, (by show _ ≤ _; omega), (Lib.hid (by rw [foldl_next HEx.out, HV.out]; exact (low_yes rfl (by have h_ := HSK.out; simp only; omega) HMT.out HIV.out HT1.out).trans rfl)), (Lib.hid (by have h_ := HZl.out; exact h_)), Lib.hid (aI (J7 M).1 (aI (J2 M).1 (aI (J6 M).1 (aI (J5 M).1 (J9 M)))))⟩
        case measure => simp [RowKit.intOf] <;> omega
   ·
    have n1_ : (xm != (q : Int)) = true := bne_iff_ne.2 (Ne.symm hm_)
    have HNE := Lib.hid hm_; clear hm_
    refine cj3 (J3 M).1.d3 fun af ag ah => ?_
    have z0 : w.heap.size < w4.heap.size := (J3 M).1.lt
    refine cj3 (HRx.out.keep (J4 M)).c3 fun r0_0 r0_1 r0_2 => ?_
    go_upto_region 6 with fail
    clear af ag ah z0 r0_0 r0_1 r0_2
    refine nmW (w4.alloc (.cells #[.int .i64 xm, .int .i64 xd, .int .i64 xc] 29)) fun w5 hv => ?_
    rw [← hv]
    have ow3_ : w2.heap.size < w4.heap.size := ((M.out.1)).lt
    replace M := alM hv M
    clear hv
    refine cj3 (M.out.1).d3 fun ai aj ak => ?_
    go_wp2_with fail
    clear ai aj ak
    go_roundw
    case rel => exact ⟨(k + 1), qs, g0, g1, g2, g3, by go_num, (by show _ ≤ _; omega), (Lib.hid (by rw [foldl_next HEx.out, HV.out]; exact low_skip (fun h_ => HNE.out h_.1.symm))), (Lib.hid (by have h_ := HSq.out; exact h_)), Lib.hid (aI (J1 M).1 (aI (J2 M).1 (aI (J3 M).1 (aI (J4 M).1 (J5 M)))))⟩
    case measure => simp [RowKit.intOf] <;> omega
  ·
   have e1_0 : decide (k < nr) = false := decide_eq_false (by omega)
   have e1_1 : decide ((k : Int) < (nr : Int)) = false := decide_eq_false (by omega)
   have e1_i : ¬ (k : Int) < (nr : Int) := by omega
   have HE : Hid (leastQ (marksL (ivOf cs rr) ms rs (q : Int)) day = qs) := by show _ = _; rw [← HV.out, take_all (by rw [HR.out.len]; omega), low_is]
   refine cj3 (J3 M).1.d3 fun af ag ah => ?_
   refine cj4 (M.out.1).d4 fun bs bt bu bw => ?_
   refine cj8 (J2 M).1.c4 fun ch ci cj ck cl cn co cp => ?_
   refine cj4 (TQ.st (J1 M).1) fun ct cu cv cw => ?_
   go_wp2_with fail
   clear af ag ah bs bt bu bw ch ci cj ck cl cn co cp ct cu cv cw
   have hz : w.heap.size ≤ w.heap.size + 1 := by omega
   refine st4W (g0) (g1) (g2) (g3) (J2 M).1 (J4 M) hz fun w5 hv og hk hbw => ?_
   rw [← hv]
   replace M := Lib.hid (aI ((M.out.1).only og (by omega)) (aI ((J1 M).1.far (J2 M).1 (by rfl) (by omega) og) (aI hk (aI ((J3 M).1.only og (by omega)) hbw))))
   clear hk hbw og hv hz
   have hqe_ := HE.out.symm.trans HQ_.out
   subst hqe_
   refine bodyPost_ret (results_box1 rfl _ _ (w.heap.size + 1) 38 _ _ _ rfl (J2 M).1 Try.underlying38 rfl (by kernel_rfl)) rfl ?_
   exact ⟨g0, g1, g2, g3, rfl, (J1 M).1, (J4 M)⟩
set_option maxRecDepth 100000 in
set_option maxHeartbeats 4000000 in
theorem ctHigh {q : Nat} {day : Int} {qv : Rat} {b_ : Bool} {nm : ByteArray} {am ar ac aq : Option Addr} {nn cm nr cr cc cq : Nat} {ms : List Mt} {rs : List Rg} {cs : List Ct} {rr : List Rc} {w : World} (hG : G ≤ w.heap.size) (hm : RdMt G w am nn cm ms) (hr : RdRg G w ar nr cr rs) (hc : CtIn w (.slice ac cs.length cc) cs) (hq : RcIn w (.slice aq rr.length cq) rr) (_hsz : nm.size ≤ 1000) (_hnn : nn ≤ 1000) (_hnr : nr ≤ 1000) (_hcl : cs.length ≤ 1000) (_hrl : rr.length ≤ 1000) (hqn : q < nn) (hv : mostO (marksL (ivOf cs rr) ms rs (q : Int)) day = opt b_ qv) (h0 : b_ = false → qv = 0) :
  Calls Try.prog 26 #[.agg #[.string nm, .slice am nn cm, .slice ar nr cr], .slice ac cs.length cc, .slice aq rr.length cq, .int .i64 (q : Int), .int .i64 day] w fun e w' => ∃ x0 x1 x2 x3, e = .returned (.tuple #[.agg #[x0, x1, x2, x3], .bool b_]) ∧ FQ G w' x0 x1 x2 x3 qv ∧ Below w.heap.size w w' := by
 have HQ_ := Lib.hid hv; have HQ0 := Lib.hid h0; clear hv h0
 have HM : Hid (RdMt G w am nn cm ms) := hm
 have HR : Hid (RdRg G w ar nr cr rs) := hr
 have HC : Hid (CtIn w (.slice ac cs.length cc) cs) := hc
 have HQ : Hid (RcIn w (.slice aq rr.length cq) rr) := hq
 clear hm hr hc hq
 have M : Hid (Below w.heap.size w w) := Below.refl _ _
 go_enter Try.func26, Try.ntmps26
 go_upto_region 1 with fail
 refine nmW ((w.alloc (.cells #[.string nm, .slice am nn cm, .slice ar nr cr] 25)).alloc (.cells #[.int .i64 0, .slice none 0 0, .int .i64 0, .slice none 0 0] 38)) fun w1 hv => ?_
 rw [← hv]
 replace M := al2W hv M
 clear hv
 go_wp2_with fail
 refine nmW (α := Rat) ((0 : Int) : Rat) fun q5 eq5 => ?_
 refine (fqInt (G := G) (x := 0) (by decide)).mono ?_
 rintro e w2 ⟨x_1, x_2, x_3, x_4, rfl, hd6, hb⟩
 rw [← eq5] at hd6
 have Sq5 : Hid (Fz q5 4) := by show Fz q5 4; rw [eq5]; exact (Fz.int64 (by decide))
 have Eq5 := Lib.hid eq5; clear eq5
 replace M := adM hd6 hb M
 clear hb hd6
 refine cj4 (TQ.st (M.out.1)) fun aa ab ad ae => ?_
 go_upto_region 2 with fail
 clear aa ab ad ae
 refine nmW (w2.alloc (.cells #[x_1, x_2, x_3, x_4] 38)) fun w3 hv => ?_
 rw [← hv]
 have ow2_ : w.heap.size + 1 < w2.heap.size := ((J1 M).1).lt
 replace M := alM hv M
 clear hv
 go_wp2_with fail
 go_loopw [13, 14] (fun i13 i14 wr => ∃ (k : Nat) (qs : Rat) (bo : Bool) (g0 : Value) (g1 : Value) (g2 : Value) (g3 : Value), i13 = .bool bo ∧ i14 = .int .i64 (k : Int) ∧ Hid (k ≤ nr) ∧ Hid ((rs.take k).foldl (highF (ivOf cs rr) ms (q : Int) day) none = opt bo qs) ∧ Hid (bo = false → qs = 0) ∧ Hid (Fz qs 60) ∧ Hid (Bx wr w2.heap.size 38 #[g0, g1, g2, g3] ∧ FQ G wr g0 g1 g2 g3 qs ∧ Bx wr (w.heap.size + 1) 38 #[.int .i64 0, .slice none 0 0, .int .i64 0, .slice none 0 0] ∧ Bx wr w.heap.size 25 #[.string nm, .slice am nn cm, .slice ar nr cr] ∧ Below w.heap.size w wr)) (fun i13 i14 _ => nr - (RowKit.intOf i14).toNat)
 case atStart =>
  exact ⟨0, q5, false, x_1, x_2, x_3, x_4, rfl, rfl, (by show _ ≤ _; omega), (Lib.hid rfl), (Lib.hid (fun _ => by rw [Eq5.out]; rfl)), (Lib.hid (Fz.mono Sq5.out (by omega))), Lib.hid (aI (M.out.1) (aI (J1 M).1 (aI (J2 M).1 (aI (J3 M).1 (J4 M)))))⟩
 case round =>
  obtain ⟨w4, rfl⟩ : ∃ x, x = wr := ⟨_, rfl⟩
  clear M
  obtain ⟨k, qs, bo, g0, g1, g2, g3, rfl, rfl, hk, HV, HV0, HSq, M⟩ := hrel
  have hk := hk.out
  by_cases hlt : k < nr
  ·
   have e1_0 : decide (k < nr) = true := decide_eq_true (by omega)
   have e1_1 : decide ((k : Int) < (nr : Int)) = true := decide_eq_true (by omega)
   have e1_i : (k : Int) < (nr : Int) := by omega
   obtain ⟨br, ofr, rfl, hb_⟩ := RdL.ptr HR.out (by omega : 0 < nr)
   have hbkbr := Lib.hid hb_
   have hkl_ : k < rs.length := by rw [HR.out.len]; exact hlt
   obtain ⟨x_, hx_⟩ : ∃ x, rs[k]? = some x := ⟨rs[k], List.getElem?_eq_getElem hkl_⟩
   obtain ⟨xm, xd, xc⟩ := x_
   have HRx : Hid (Row w br (ofr + k * 3) [.int .i64 xm, .int .i64 xd, .int .i64 xc]) := hb_.row hx_
   have HEx := Lib.hid hx_
   have hlx := hkl_
   clear hx_ hb_ hkl_
   by_cases hm_ : (q : Int) = xm
   ·
    subst hm_
    by_cases hd_ : xd < day
    ·
     have ed : decide (xd < day) = true := decide_eq_true (by omega)
     have edi : xd < day := by omega
     have HSK := Lib.hid hd_; clear hd_
     refine cj3 (J3 M).1.d3 fun af ag ah => ?_
     have z0 : w.heap.size < w4.heap.size := (J3 M).1.lt
     refine cj3 (HRx.out.keep (J4 M)).c3 fun r0_0 r0_1 r0_2 => ?_
     go_upto_region 7 with fail
     clear af ag ah z0 r0_0 r0_1 r0_2
     refine nmW (w4.alloc (.cells #[.int .i64 (q : Int), .int .i64 xd, .int .i64 xc] 29)) fun w5 hv => ?_
     rw [← hv]
     have ow3_ : w2.heap.size < w4.heap.size := ((M.out.1)).lt
     replace M := alM hv M
     clear hv
     refine cj3 (M.out.1).d3 fun ai aj ak => ?_
     go_wp2_with fail
     clear ai aj ak
     go_roundw
     case rel => exact ⟨(k + 1), qs, bo, g0, g1, g2, g3, rfl, by go_num, (by show _ ≤ _; omega), (Lib.hid (by rw [foldl_next HEx.out, HV.out]; exact high_skip (fun h_ => by have h2_ := HSK.out; have h3_ := h_.2; simp only at h2_ h3_; omega))), HV0, (Lib.hid (by have h_ := HSq.out; exact h_)), Lib.hid (aI (J1 M).1 (aI (J2 M).1 (aI (J3 M).1 (aI (J4 M).1 (J5 M)))))⟩
     case measure => simp [RowKit.intOf] <;> omega
    ·
     have ed : decide (xd < day) = false := decide_eq_false (by omega)
     have edi : ¬ xd < day := by omega
     have HSK := Lib.hid hd_; clear hd_
     obtain ⟨bm, ofm, rfl, hb_⟩ := RdL.ptr HM.out (by omega : 0 < nn)
     have hbkbm := Lib.hid hb_
     have hkl_ : q < ms.length := by rw [HM.out.len]; exact hqn
     obtain ⟨z_, hx_⟩ : ∃ x, ms[q]? = some x := ⟨ms[q], List.getElem?_eq_getElem hkl_⟩
     obtain ⟨zs, zf, zu⟩ := z_
     have HRz : Hid (Row w bm (ofm + q * 3) [.int .i64 zs, .int .i64 zf, .int .i64 zu]) := hb_.row hx_
     have HEz := Lib.hid hx_
     have hlz := hkl_
     clear hx_ hb_ hkl_
     have HMT : Hid ((mtAt ms (q : Int)).s = zs) := by show (ms.getD _ _).s = _; rw [show ((q : Int)).toNat = q from rfl, getD_of HEz.out]
     obtain ⟨ol, hol_⟩ : ∃ o, loO cs rr zs xc xd = o := ⟨_, rfl⟩
     have HOL := Lib.hid hol_; clear hol_
     obtain ⟨oh, hoh_⟩ : ∃ o, hiO cs rr zs xc xd = o := ⟨_, rfl⟩
     have HOH := Lib.hid hoh_; clear hoh_
     obtain ⟨bv, hbv_⟩ : ∃ o, hasI cs rr zs xc xd = o := ⟨_, rfl⟩
     have HBV := Lib.hid hbv_; clear hbv_
     refine cj3 (J3 M).1.d3 fun af ag ah => ?_
     have z0 : w.heap.size < w4.heap.size := (J3 M).1.lt
     refine cj3 (HRx.out.keep (J4 M)).c3 fun r0_0 r0_1 r0_2 => ?_
     go_upto_region 7 with fail
     clear af ag ah z0 r0_0 r0_1 r0_2
     refine nmW (w4.alloc (.cells #[.int .i64 (q : Int), .int .i64 xd, .int .i64 xc] 29)) fun w5 hv => ?_
     rw [← hv]
     have ow3_ : w2.heap.size < w4.heap.size := ((M.out.1)).lt
     replace M := alM hv M
     clear hv
     refine cj3 (M.out.1).d3 fun ai aj ak => ?_
     go_upto_region 8 with fail
     clear ai aj ak
     go_cut [16, 17, 18] (fun s16 s17 s18 wx => ∃ (A17 : Nat), ∃ (A18 : Nat), ∃ (x_7 : Value), ∃ (x_8 : Value), ∃ (x_9 : Value), ∃ (x_10 : Value), ∃ (x_11 : Value), ∃ (x_12 : Value), ∃ (x_13 : Value), ∃ (x_14 : Value), s16 = .pointer (some ⟨A17, 0, none⟩) ∧ s17 = .pointer (some ⟨A18, 0, none⟩) ∧ s18 = .bool bv ∧ w4.heap.size < A17 ∧ (w4.heap.size < A18 ∧ A17 ≠ A18) ∧ Hid (Bx wx A17 38 #[x_7, x_8, x_9, x_10] ∧ Bx wx A18 38 #[x_11, x_12, x_13, x_14] ∧ OQ G wx x_7 x_8 x_9 x_10 ol ∧ OQ G wx x_11 x_12 x_13 x_14 oh ∧ FQ G wx g0 g1 g2 g3 qs ∧ Bx wx w.heap.size 25 #[.string nm, .slice (some ⟨bm, ofm, none⟩) nn cm, .slice (some ⟨br, ofr, none⟩) nr cr] ∧ Bx wx (w.heap.size + 1) 38 #[.int .i64 0, .slice none 0 0, .int .i64 0, .slice none 0 0] ∧ Bx wx w2.heap.size 38 #[g0, g1, g2, g3] ∧ Bx wx w4.heap.size 29 #[.int .i64 (q : Int), .int .i64 xd, .int .i64 xc] ∧ Below w.heap.size w wx))
     case first =>
      refine nmW w5.drew fun w6 hv => ?_
      replace M := drM hv M
      refine wp_region_held_drew (S := (fun w' => w'.cell? ⟨w.heap.size, 0, none⟩ = some (.string nm) ∧ w'.cell? ⟨w.heap.size, 1, none⟩ = some (.slice (some ⟨bm, ofm, none⟩) nn cm) ∧ w'.cell? ⟨w.heap.size, 2, none⟩ = some (.slice (some ⟨br, ofr, none⟩) nr cr) ∧ w'.cell? ⟨w4.heap.size, 0, none⟩ = some (.int .i64 (q : Int)) ∧ w'.cell? ⟨w4.heap.size, 1, none⟩ = some (.int .i64 xd) ∧ w'.cell? ⟨w4.heap.size, 2, none⟩ = some (.int .i64 xc) ∧ w'.cell? ⟨bm, ofm + q * 3, none⟩ = some (.int .i64 zs) ∧ w'.cell? ⟨bm, ofm + q * 3 + 1, none⟩ = some (.int .i64 zf) ∧ w'.cell? ⟨bm, ofm + q * 3 + 2, none⟩ = some (.int .i64 zu))) (by kernel_rfl) (by rw [← hv]; exact ((J4 M).1.t3 ((M.out.1).t3 ((HRz.out.keep (J5 M)).c3)))) (fun hH19 => ?_)
      rw [← hv] at hH19 ⊢
      clear hv
      have Mb_ := M
      have lb0_ : w.heap.size < w6.heap.size := ((J4 M).1).lt
      have lb1_ : w.heap.size + 1 < w6.heap.size := ((J3 M).1).lt
      have lb2_ : w2.heap.size < w6.heap.size := ((J1 M).1).lt
      have lb3_ : w4.heap.size < w6.heap.size := ((M.out.1)).lt
      refine tk at0 ?_
      refine tk at1 ?_
      refine tk at2 ?_
      refine tk at3 ?_
      refine tk at4 ?_
      refine tk at5 ?_
      refine tk at6 ?_
      refine tk at7 ?_
      refine tk at8 ?_
      refine tk at9 ?_
      refine tk at10 ?_
      refine tk at11 ?_
      refine wpAnyH_abs (fun X_ a0_ hX_ ha0_ => ?_)
      clear hH19
      have hD9 : ∀ (wk_ : World) (x_20 : Value) (x_21 : Value) (x_22 : Value) (x_23 : Value) (x_24 : Value) (x_25 : Value) (x_26 : Value) (x_27 : Value) (A17_ : Nat) (A18_ : Nat), w6.heap.size ≤ A17_ → w6.heap.size ≤ A18_ → A17_ ≠ A18_ → Hid (Bx wk_ A18_ 38 #[x_24, x_25, x_26, x_27] ∧ Bx wk_ A17_ 38 #[x_20, x_21, x_22, x_23] ∧ OQ G wk_ x_20 x_21 x_22 x_23 ol ∧ OQ G wk_ x_24 x_25 x_26 x_27 oh ∧ Below w6.heap.size w6 wk_) → X_ 0 #[true, true, true, true, true, true, true, true, true, true, true, true, true, true, true, true, true, true, true, true, true, true] (Act.put (Act.put (Act.put (Act.put (Act.put (Act.put (Act.put (Act.put a0_ (some 55) (.tuple #[.agg #[x_20, x_21, x_22, x_23], .agg #[x_24, x_25, x_26, x_27], .bool bv])) (some 42) (.tuple #[.agg #[x_20, x_21, x_22, x_23], .agg #[x_24, x_25, x_26, x_27], .bool bv])) (some 56) (.agg #[x_20, x_21, x_22, x_23])) (some 57) (.agg #[x_24, x_25, x_26, x_27])) (some 58) (.bool bv)) (some 16) (.pointer (some ⟨A17_, 0, none⟩))) (some 17) (.pointer (some ⟨A18_, 0, none⟩))) (some 18) (.bool bv)) wk_ := by
       intro wk_ x_20 x_21 x_22 x_23 x_24 x_25 x_26 x_27 A17_ A18_ c0_ c1_ c2_ rel_
       subst hX_ ha0_
       have M := Lib.hid (aI rel_.out.1 (aI rel_.out.2.1 (aI rel_.out.2.2.1 (aI rel_.out.2.2.2.1 (aI rel_.out.2.2.2.2 (Goes.go Mb_.out rel_.out.2.2.2.2))))))
       clear rel_
       have hH30 : (fun w' => w'.cell? ⟨w.heap.size, 0, none⟩ = some (.string nm) ∧ w'.cell? ⟨w.heap.size, 1, none⟩ = some (.slice (some ⟨bm, ofm, none⟩) nn cm) ∧ w'.cell? ⟨w.heap.size, 2, none⟩ = some (.slice (some ⟨br, ofr, none⟩) nr cr) ∧ w'.cell? ⟨w4.heap.size, 0, none⟩ = some (.int .i64 (q : Int)) ∧ w'.cell? ⟨w4.heap.size, 1, none⟩ = some (.int .i64 xd) ∧ w'.cell? ⟨w4.heap.size, 2, none⟩ = some (.int .i64 xc) ∧ w'.cell? ⟨bm, ofm + q * 3, none⟩ = some (.int .i64 zs) ∧ w'.cell? ⟨bm, ofm + q * 3 + 1, none⟩ = some (.int .i64 zf) ∧ w'.cell? ⟨bm, ofm + q * 3 + 2, none⟩ = some (.int .i64 zu)) wk_ := ((J9 M).1.t3 ((J5 M).1.t3 ((HRz.out.keep (J10 M)).c3)))
       (try simp only [Act.put, List.setIfInBounds_toArray, List.set_cons_zero, List.set_cons_succ])
       refine wpAnyH_done (by kernel_rfl) ?_ _
       clear hH30
       go_wp2_with fail
       go_meet
       exact ⟨A17_, A18_, x_20, x_21, x_22, x_23, x_24, x_25, x_26, x_27, rfl, rfl, rfl, (by omega), (by omega), (J1 M).1, (M.out.1), (J2 M).1, (J3 M).1, (J7 M).1, (J9 M).1, (J8 M).1, (J6 M).1, (J5 M).1, (J10 M)⟩
      simp only [ha0_, Act.put, List.setIfInBounds_toArray, List.set_cons_zero, List.set_cons_succ] at hD9
      have hD8 : ∀ (wk_ : World) (x_20 : Value) (x_21 : Value) (x_22 : Value) (x_23 : Value) (x_24 : Value) (x_25 : Value) (x_26 : Value) (x_27 : Value) (A17_ : Nat) (A18_ : Nat), w6.heap.size ≤ A17_ → w6.heap.size ≤ A18_ → A17_ ≠ A18_ → Hid (Bx wk_ A18_ 38 #[.int .i64 0, .slice none 0 0, .int .i64 0, .slice none 0 0] ∧ Bx wk_ A17_ 38 #[x_20, x_21, x_22, x_23] ∧ OQ G wk_ x_20 x_21 x_22 x_23 ol ∧ OQ G wk_ x_24 x_25 x_26 x_27 oh ∧ Below w6.heap.size w6 wk_) → X_ 2 #[true, true, true, true, true, true, true, true, true, true, true, true, true, true, true, true, true, true, true, true, false, false] (Act.put (Act.put (Act.put (Act.put (Act.put (Act.put (Act.put a0_ (some 55) (.tuple #[.agg #[x_20, x_21, x_22, x_23], .agg #[x_24, x_25, x_26, x_27], .bool bv])) (some 42) (.tuple #[.agg #[x_20, x_21, x_22, x_23], .agg #[x_24, x_25, x_26, x_27], .bool bv])) (some 56) (.agg #[x_20, x_21, x_22, x_23])) (some 57) (.agg #[x_24, x_25, x_26, x_27])) (some 58) (.bool bv)) (some 16) (.pointer (some ⟨A17_, 0, none⟩))) (some 17) (.pointer (some ⟨A18_, 0, none⟩))) wk_ := by
       intro wk_ x_20 x_21 x_22 x_23 x_24 x_25 x_26 x_27 A17_ A18_ c0_ c1_ c2_ rel_
       subst hX_ ha0_
       have M := Lib.hid (aI rel_.out.1 (aI rel_.out.2.1 (aI rel_.out.2.2.1 (aI rel_.out.2.2.2.1 (aI rel_.out.2.2.2.2 (Goes.go Mb_.out rel_.out.2.2.2.2))))))
       clear rel_
       have hH31 : (fun w' => w'.cell? ⟨w.heap.size, 0, none⟩ = some (.string nm) ∧ w'.cell? ⟨w.heap.size, 1, none⟩ = some (.slice (some ⟨bm, ofm, none⟩) nn cm) ∧ w'.cell? ⟨w.heap.size, 2, none⟩ = some (.slice (some ⟨br, ofr, none⟩) nr cr) ∧ w'.cell? ⟨w4.heap.size, 0, none⟩ = some (.int .i64 (q : Int)) ∧ w'.cell? ⟨w4.heap.size, 1, none⟩ = some (.int .i64 xd) ∧ w'.cell? ⟨w4.heap.size, 2, none⟩ = some (.int .i64 xc) ∧ w'.cell? ⟨bm, ofm + q * 3, none⟩ = some (.int .i64 zs) ∧ w'.cell? ⟨bm, ofm + q * 3 + 1, none⟩ = some (.int .i64 zf) ∧ w'.cell? ⟨bm, ofm + q * 3 + 2, none⟩ = some (.int .i64 zu)) wk_ := ((J9 M).1.t3 ((J5 M).1.t3 ((HRz.out.keep (J10 M)).c3)))
       (try simp only [Act.put, List.setIfInBounds_toArray, List.set_cons_zero, List.set_cons_succ])
       have lw_ := ((J4 M).1).size
       have l17_ := ((J1 M).1).lt
       have l18_ := ((M.out.1)).lt
       refine wpAnyH_ready (rs := [20]) (by kernel_rfl) (by simp) ?_
       refine AllReadyH.cons at20 (fun K hK => ?_) AllReadyH.nil
       refine cj8 (M.out.1).c4 fun al ao ap au av aw ax ay => ?_
       refine cj4 (TQ.st (J3 M).1) fun az ba bb bc => ?_
       go_simp
       clear al ao ap au av aw ax ay az ba bb bc
       have hz : w.heap.size ≤ A18_ := by omega
       refine st4W (x_24) (x_25) (x_26) (x_27) (M.out.1) (J10 M) hz fun w7 hv og hk hbw => ?_
       rw [← hv]
       replace M := Lib.hid (aI hk (aI ((J1 M).1.only og (by omega)) (aI ((J2 M).1.far (M.out.1) (by rfl) (by omega) og) (aI ((J3 M).1.far (M.out.1) (by rfl) (by omega) og) (aI (show Below w6.heap.size w6 w7 from by rw [hv]; exact (Below.setCell (Below.setCell (Below.setCell (Below.setCell (J4 M).1 (by omega) _) (by omega) _) (by omega) _) (by omega) _)) (aI ((J5 M).1.only og (by omega)) (aI ((J6 M).1.only og (by omega)) (aI ((J7 M).1.far (M.out.1) (by rfl) (by omega) og) (aI ((J8 M).1.only og (by omega)) (aI ((J9 M).1.only og (by omega)) hbw))))))))))
       clear hk hbw og hv hz
       refine hK.out _ _ (((J9 M).1.t3 ((J5 M).1.t3 ((HRz.out.keep (J10 M)).c3)))) (fun hH32 => ?_)
       clear hK K hH31
       (try simp only [Act.put, List.setIfInBounds_toArray, List.set_cons_zero, List.set_cons_succ])
       refine tk at21 ?_
       exact at_node (by kernel_rfl) (hD9 w7 x_20 x_21 x_22 x_23 x_24 x_25 x_26 x_27 A17_ A18_ (by omega) (by omega) (by omega) (Lib.hid ⟨(M.out.1), (J1 M).1, (J2 M).1, (J3 M).1, (J4 M).1⟩))
      simp only [ha0_, Act.put, List.setIfInBounds_toArray, List.set_cons_zero, List.set_cons_succ] at hD8
      have hD7 : ∀ (wk_ : World) (x_20 : Value) (x_21 : Value) (x_22 : Value) (x_23 : Value) (x_24 : Value) (x_25 : Value) (x_26 : Value) (x_27 : Value) (A17_ : Nat) (A18_ : Nat), w6.heap.size ≤ A17_ → w6.heap.size ≤ A18_ → A17_ ≠ A18_ → Hid (Bx wk_ A18_ 38 #[.int .i64 0, .slice none 0 0, .int .i64 0, .slice none 0 0] ∧ Bx wk_ A17_ 38 #[.int .i64 0, .slice none 0 0, .int .i64 0, .slice none 0 0] ∧ OQ G wk_ x_20 x_21 x_22 x_23 ol ∧ OQ G wk_ x_24 x_25 x_26 x_27 oh ∧ Below w6.heap.size w6 wk_) → X_ 3 #[true, true, true, true, true, true, true, true, true, true, true, true, true, true, true, true, true, true, true, false, false, false] (Act.put (Act.put (Act.put (Act.put (Act.put (Act.put (Act.put a0_ (some 55) (.tuple #[.agg #[x_20, x_21, x_22, x_23], .agg #[x_24, x_25, x_26, x_27], .bool bv])) (some 42) (.tuple #[.agg #[x_20, x_21, x_22, x_23], .agg #[x_24, x_25, x_26, x_27], .bool bv])) (some 56) (.agg #[x_20, x_21, x_22, x_23])) (some 57) (.agg #[x_24, x_25, x_26, x_27])) (some 58) (.bool bv)) (some 16) (.pointer (some ⟨A17_, 0, none⟩))) (some 17) (.pointer (some ⟨A18_, 0, none⟩))) wk_ := by
       intro wk_ x_20 x_21 x_22 x_23 x_24 x_25 x_26 x_27 A17_ A18_ c0_ c1_ c2_ rel_
       subst hX_ ha0_
       have M := Lib.hid (aI rel_.out.1 (aI rel_.out.2.1 (aI rel_.out.2.2.1 (aI rel_.out.2.2.2.1 (aI rel_.out.2.2.2.2 (Goes.go Mb_.out rel_.out.2.2.2.2))))))
       clear rel_
       have hH33 : (fun w' => w'.cell? ⟨w.heap.size, 0, none⟩ = some (.string nm) ∧ w'.cell? ⟨w.heap.size, 1, none⟩ = some (.slice (some ⟨bm, ofm, none⟩) nn cm) ∧ w'.cell? ⟨w.heap.size, 2, none⟩ = some (.slice (some ⟨br, ofr, none⟩) nr cr) ∧ w'.cell? ⟨w4.heap.size, 0, none⟩ = some (.int .i64 (q : Int)) ∧ w'.cell? ⟨w4.heap.size, 1, none⟩ = some (.int .i64 xd) ∧ w'.cell? ⟨w4.heap.size, 2, none⟩ = some (.int .i64 xc) ∧ w'.cell? ⟨bm, ofm + q * 3, none⟩ = some (.int .i64 zs) ∧ w'.cell? ⟨bm, ofm + q * 3 + 1, none⟩ = some (.int .i64 zf) ∧ w'.cell? ⟨bm, ofm + q * 3 + 2, none⟩ = some (.int .i64 zu)) wk_ := ((J9 M).1.t3 ((J5 M).1.t3 ((HRz.out.keep (J10 M)).c3)))
       (try simp only [Act.put, List.setIfInBounds_toArray, List.set_cons_zero, List.set_cons_succ])
       have lw_ := ((J4 M).1).size
       have l17_ := ((J1 M).1).lt
       have l18_ := ((M.out.1)).lt
       refine wpAnyH_ready (rs := [19]) (by kernel_rfl) (by simp) ?_
       refine AllReadyH.cons at19 (fun K hK => ?_) AllReadyH.nil
       refine cj8 (J1 M).1.c4 fun bd bf bg bh bi bj bk bl => ?_
       refine cj4 (TQ.st (J2 M).1) fun bn bp bq bs => ?_
       go_simp
       clear bd bf bg bh bi bj bk bl bn bp bq bs
       have hz : w.heap.size ≤ A17_ := by omega
       refine st4W (x_20) (x_21) (x_22) (x_23) (J1 M).1 (J10 M) hz fun w7 hv og hk hbw => ?_
       rw [← hv]
       replace M := Lib.hid (aI ((M.out.1).only og (by omega)) (aI hk (aI ((J2 M).1.far (J1 M).1 (by rfl) (by omega) og) (aI ((J3 M).1.far (J1 M).1 (by rfl) (by omega) og) (aI (show Below w6.heap.size w6 w7 from by rw [hv]; exact (Below.setCell (Below.setCell (Below.setCell (Below.setCell (J4 M).1 (by omega) _) (by omega) _) (by omega) _) (by omega) _)) (aI ((J5 M).1.only og (by omega)) (aI ((J6 M).1.only og (by omega)) (aI ((J7 M).1.far (J1 M).1 (by rfl) (by omega) og) (aI ((J8 M).1.only og (by omega)) (aI ((J9 M).1.only og (by omega)) hbw))))))))))
       clear hk hbw og hv hz
       refine hK.out _ _ (((J9 M).1.t3 ((J5 M).1.t3 ((HRz.out.keep (J10 M)).c3)))) (fun hH34 => ?_)
       clear hK K hH33
       (try simp only [Act.put, List.setIfInBounds_toArray, List.set_cons_zero, List.set_cons_succ])
       exact at_node (by kernel_rfl) (hD8 w7 x_20 x_21 x_22 x_23 x_24 x_25 x_26 x_27 A17_ A18_ (by omega) (by omega) (by omega) (Lib.hid ⟨(M.out.1), (J1 M).1, (J2 M).1, (J3 M).1, (J4 M).1⟩))
      simp only [ha0_, Act.put, List.setIfInBounds_toArray, List.set_cons_zero, List.set_cons_succ] at hD7
      have hD4 : ∀ (wk_ : World) (x_20 : Value) (x_21 : Value) (x_22 : Value) (x_23 : Value) (x_24 : Value) (x_25 : Value) (x_26 : Value) (x_27 : Value) (A17_ : Nat), w6.heap.size ≤ A17_ → Hid (Bx wk_ A17_ 38 #[.int .i64 0, .slice none 0 0, .int .i64 0, .slice none 0 0] ∧ OQ G wk_ x_20 x_21 x_22 x_23 ol ∧ OQ G wk_ x_24 x_25 x_26 x_27 oh ∧ Below w6.heap.size w6 wk_) → X_ 4 #[true, true, true, true, true, true, true, true, true, true, true, true, true, true, true, true, true, true, false, false, false, false] (Act.put (Act.put (Act.put (Act.put (Act.put (Act.put a0_ (some 55) (.tuple #[.agg #[x_20, x_21, x_22, x_23], .agg #[x_24, x_25, x_26, x_27], .bool bv])) (some 42) (.tuple #[.agg #[x_20, x_21, x_22, x_23], .agg #[x_24, x_25, x_26, x_27], .bool bv])) (some 56) (.agg #[x_20, x_21, x_22, x_23])) (some 57) (.agg #[x_24, x_25, x_26, x_27])) (some 58) (.bool bv)) (some 16) (.pointer (some ⟨A17_, 0, none⟩))) wk_ := by
       intro wk_ x_20 x_21 x_22 x_23 x_24 x_25 x_26 x_27 A17_ c0_ rel_
       subst hX_ ha0_
       have M := Lib.hid (aI rel_.out.1 (aI rel_.out.2.1 (aI rel_.out.2.2.1 (aI rel_.out.2.2.2 (Goes.go Mb_.out rel_.out.2.2.2)))))
       clear rel_
       have hH35 : (fun w' => w'.cell? ⟨w.heap.size, 0, none⟩ = some (.string nm) ∧ w'.cell? ⟨w.heap.size, 1, none⟩ = some (.slice (some ⟨bm, ofm, none⟩) nn cm) ∧ w'.cell? ⟨w.heap.size, 2, none⟩ = some (.slice (some ⟨br, ofr, none⟩) nr cr) ∧ w'.cell? ⟨w4.heap.size, 0, none⟩ = some (.int .i64 (q : Int)) ∧ w'.cell? ⟨w4.heap.size, 1, none⟩ = some (.int .i64 xd) ∧ w'.cell? ⟨w4.heap.size, 2, none⟩ = some (.int .i64 xc) ∧ w'.cell? ⟨bm, ofm + q * 3, none⟩ = some (.int .i64 zs) ∧ w'.cell? ⟨bm, ofm + q * 3 + 1, none⟩ = some (.int .i64 zf) ∧ w'.cell? ⟨bm, ofm + q * 3 + 2, none⟩ = some (.int .i64 zu)) wk_ := ((J8 M).1.t3 ((J4 M).1.t3 ((HRz.out.keep (J9 M)).c3)))
       (try simp only [Act.put, List.setIfInBounds_toArray, List.set_cons_zero, List.set_cons_succ])
       have lw_ := ((J3 M).1).size
       have l17_ := ((M.out.1)).lt
       refine wpAnyH_ready (rs := [18]) (by kernel_rfl) (by simp) ?_
       refine AllReadyH.cons at18 (fun K hK => ?_) AllReadyH.nil
       go_simp
       refine nmW (wk_.alloc (.cells #[.int .i64 0, .slice none 0 0, .int .i64 0, .slice none 0 0] 38)) fun w7 hv => ?_
       rw [← hv]
       have ow5_ : A17_ < wk_.heap.size := ((M.out.1)).lt
       replace M := alM hv M
       clear hv
       refine hK.out _ _ (((J9 M).1.t3 ((J5 M).1.t3 ((HRz.out.keep (J10 M)).c3)))) (fun hH36 => ?_)
       clear hK K hH35
       (try simp only [Act.put, List.setIfInBounds_toArray, List.set_cons_zero, List.set_cons_succ])
       exact at_node (by kernel_rfl) (hD7 w7 x_20 x_21 x_22 x_23 x_24 x_25 x_26 x_27 A17_ wk_.heap.size (by omega) (by omega) (by omega) (Lib.hid ⟨(M.out.1), (J1 M).1, (J2 M).1, (J3 M).1, (J4 M).1⟩))
      simp only [ha0_, Act.put, List.setIfInBounds_toArray, List.set_cons_zero, List.set_cons_succ] at hD4
      have hD5 : ∀ (wk_ : World) (x_20 : Value) (x_21 : Value) (x_22 : Value) (x_23 : Value) (x_24 : Value) (x_25 : Value) (x_26 : Value) (x_27 : Value) (A18_ : Nat), w6.heap.size ≤ A18_ → Hid (Bx wk_ A18_ 38 #[.int .i64 0, .slice none 0 0, .int .i64 0, .slice none 0 0] ∧ OQ G wk_ x_20 x_21 x_22 x_23 ol ∧ OQ G wk_ x_24 x_25 x_26 x_27 oh ∧ Below w6.heap.size w6 wk_) → X_ 4 #[true, true, true, true, true, true, true, true, true, true, true, true, true, true, true, true, true, false, true, false, false, false] (Act.put (Act.put (Act.put (Act.put (Act.put (Act.put a0_ (some 55) (.tuple #[.agg #[x_20, x_21, x_22, x_23], .agg #[x_24, x_25, x_26, x_27], .bool bv])) (some 42) (.tuple #[.agg #[x_20, x_21, x_22, x_23], .agg #[x_24, x_25, x_26, x_27], .bool bv])) (some 56) (.agg #[x_20, x_21, x_22, x_23])) (some 57) (.agg #[x_24, x_25, x_26, x_27])) (some 58) (.bool bv)) (some 17) (.pointer (some ⟨A18_, 0, none⟩))) wk_ := by
       intro wk_ x_20 x_21 x_22 x_23 x_24 x_25 x_26 x_27 A18_ c0_ rel_
       subst hX_ ha0_
       have M := Lib.hid (aI rel_.out.1 (aI rel_.out.2.1 (aI rel_.out.2.2.1 (aI rel_.out.2.2.2 (Goes.go Mb_.out rel_.out.2.2.2)))))
       clear rel_
       have hH37 : (fun w' => w'.cell? ⟨w.heap.size, 0, none⟩ = some (.string nm) ∧ w'.cell? ⟨w.heap.size, 1, none⟩ = some (.slice (some ⟨bm, ofm, none⟩) nn cm) ∧ w'.cell? ⟨w.heap.size, 2, none⟩ = some (.slice (some ⟨br, ofr, none⟩) nr cr) ∧ w'.cell? ⟨w4.heap.size, 0, none⟩ = some (.int .i64 (q : Int)) ∧ w'.cell? ⟨w4.heap.size, 1, none⟩ = some (.int .i64 xd) ∧ w'.cell? ⟨w4.heap.size, 2, none⟩ = some (.int .i64 xc) ∧ w'.cell? ⟨bm, ofm + q * 3, none⟩ = some (.int .i64 zs) ∧ w'.cell? ⟨bm, ofm + q * 3 + 1, none⟩ = some (.int .i64 zf) ∧ w'.cell? ⟨bm, ofm + q * 3 + 2, none⟩ = some (.int .i64 zu)) wk_ := ((J8 M).1.t3 ((J4 M).1.t3 ((HRz.out.keep (J9 M)).c3)))
       (try simp only [Act.put, List.setIfInBounds_toArray, List.set_cons_zero, List.set_cons_succ])
       have lw_ := ((J3 M).1).size
       have l18_ := ((M.out.1)).lt
       refine wpAnyH_ready (rs := [17]) (by kernel_rfl) (by simp) ?_
       refine AllReadyH.cons at17 (fun K hK => ?_) AllReadyH.nil
       go_simp
       refine nmW (wk_.alloc (.cells #[.int .i64 0, .slice none 0 0, .int .i64 0, .slice none 0 0] 38)) fun w7 hv => ?_
       rw [← hv]
       have ow5_ : A18_ < wk_.heap.size := ((M.out.1)).lt
       replace M := alM hv M
       clear hv
       refine hK.out _ _ (((J9 M).1.t3 ((J5 M).1.t3 ((HRz.out.keep (J10 M)).c3)))) (fun hH38 => ?_)
       clear hK K hH37
       (try simp only [Act.put, List.setIfInBounds_toArray, List.set_cons_zero, List.set_cons_succ])
       exact at_node (by kernel_rfl) (hD7 w7 x_20 x_21 x_22 x_23 x_24 x_25 x_26 x_27 wk_.heap.size A18_ (by omega) (by omega) (by omega) (Lib.hid ⟨(J1 M).1, (M.out.1), (J2 M).1, (J3 M).1, (J4 M).1⟩))
      simp only [ha0_, Act.put, List.setIfInBounds_toArray, List.set_cons_zero, List.set_cons_succ] at hD5
      have hD6 : ∀ (wk_ : World) (A17_ : Nat) (A18_ : Nat), w6.heap.size ≤ A17_ → w6.heap.size ≤ A18_ → A17_ ≠ A18_ → Hid (Bx wk_ A18_ 38 #[.int .i64 0, .slice none 0 0, .int .i64 0, .slice none 0 0] ∧ Bx wk_ A17_ 38 #[.int .i64 0, .slice none 0 0, .int .i64 0, .slice none 0 0] ∧ Below w6.heap.size w6 wk_) → X_ 8 #[true, true, true, true, true, true, true, true, true, true, true, true, false, false, false, false, false, true, true, false, false, false] (Act.put (Act.put a0_ (some 16) (.pointer (some ⟨A17_, 0, none⟩))) (some 17) (.pointer (some ⟨A18_, 0, none⟩))) wk_ := by
       intro wk_ A17_ A18_ c0_ c1_ c2_ rel_
       subst hX_ ha0_
       have M := Lib.hid (aI rel_.out.1 (aI rel_.out.2.1 (aI rel_.out.2.2 (Goes.go Mb_.out rel_.out.2.2))))
       clear rel_
       have hH39 : (fun w' => w'.cell? ⟨w.heap.size, 0, none⟩ = some (.string nm) ∧ w'.cell? ⟨w.heap.size, 1, none⟩ = some (.slice (some ⟨bm, ofm, none⟩) nn cm) ∧ w'.cell? ⟨w.heap.size, 2, none⟩ = some (.slice (some ⟨br, ofr, none⟩) nr cr) ∧ w'.cell? ⟨w4.heap.size, 0, none⟩ = some (.int .i64 (q : Int)) ∧ w'.cell? ⟨w4.heap.size, 1, none⟩ = some (.int .i64 xd) ∧ w'.cell? ⟨w4.heap.size, 2, none⟩ = some (.int .i64 xc) ∧ w'.cell? ⟨bm, ofm + q * 3, none⟩ = some (.int .i64 zs) ∧ w'.cell? ⟨bm, ofm + q * 3 + 1, none⟩ = some (.int .i64 zf) ∧ w'.cell? ⟨bm, ofm + q * 3 + 2, none⟩ = some (.int .i64 zu)) wk_ := ((J7 M).1.t3 ((J3 M).1.t3 ((HRz.out.keep (J8 M)).c3)))
       (try simp only [Act.put, List.setIfInBounds_toArray, List.set_cons_zero, List.set_cons_succ])
       have lw_ := ((J2 M).1).size
       have l17_ := ((J1 M).1).lt
       have l18_ := ((M.out.1)).lt
       refine wpAnyH_ready (rs := [12]) (by kernel_rfl) (by simp) ?_
       refine AllReadyH.cons at12 (fun K hK => ?_) AllReadyH.nil
       go_simp
       refine (iv_u (G := G) (sc := zs) (rd := xc) (day := xd) (lo := ol) (hi := oh) (b_ := bv) (Nat.le_trans hG (J8 M).size) (HC.out.keep (J8 M)) (HQ.out.keep (J8 M)) (by omega) (by omega) HOL.out HOH.out HBV.out).mono ?_
       rintro e w7 ⟨x_40, x_41, x_42, x_43, x_44, x_45, x_46, x_47, rfl, hd48, hd49, hb⟩
       replace M := ad2M hd48 hd49 hb M
       clear hb hd48 hd49
       (try go_wp2_with fail)
       refine hK.out _ _ (((J9 M).1.t3 ((J5 M).1.t3 ((HRz.out.keep (J10 M)).c3)))) (fun hH50 => ?_)
       clear hK K hH39
       (try simp only [Act.put, List.setIfInBounds_toArray, List.set_cons_zero, List.set_cons_succ])
       refine tk at13 ?_
       refine tk at14 ?_
       refine tk at15 ?_
       refine tk at16 ?_
       exact at_node (by kernel_rfl) (hD7 w7 x_40 x_41 x_42 x_43 x_44 x_45 x_46 x_47 A17_ A18_ (by omega) (by omega) (by omega) (Lib.hid ⟨(J2 M).1, (J3 M).1, (M.out.1), (J1 M).1, (J4 M).1⟩))
      simp only [ha0_, Act.put, List.setIfInBounds_toArray, List.set_cons_zero, List.set_cons_succ] at hD6
      have hD1 : ∀ (wk_ : World) (x_20 : Value) (x_21 : Value) (x_22 : Value) (x_23 : Value) (x_24 : Value) (x_25 : Value) (x_26 : Value) (x_27 : Value), Hid (OQ G wk_ x_20 x_21 x_22 x_23 ol ∧ OQ G wk_ x_24 x_25 x_26 x_27 oh ∧ Below w6.heap.size w6 wk_) → X_ 5 #[true, true, true, true, true, true, true, true, true, true, true, true, true, true, true, true, true, false, false, false, false, false] (Act.put (Act.put (Act.put (Act.put (Act.put a0_ (some 55) (.tuple #[.agg #[x_20, x_21, x_22, x_23], .agg #[x_24, x_25, x_26, x_27], .bool bv])) (some 42) (.tuple #[.agg #[x_20, x_21, x_22, x_23], .agg #[x_24, x_25, x_26, x_27], .bool bv])) (some 56) (.agg #[x_20, x_21, x_22, x_23])) (some 57) (.agg #[x_24, x_25, x_26, x_27])) (some 58) (.bool bv)) wk_ := by
       intro wk_ x_20 x_21 x_22 x_23 x_24 x_25 x_26 x_27 rel_
       subst hX_ ha0_
       have M := Lib.hid (aI rel_.out.1 (aI rel_.out.2.1 (aI rel_.out.2.2 (Goes.go Mb_.out rel_.out.2.2))))
       clear rel_
       have hH51 : (fun w' => w'.cell? ⟨w.heap.size, 0, none⟩ = some (.string nm) ∧ w'.cell? ⟨w.heap.size, 1, none⟩ = some (.slice (some ⟨bm, ofm, none⟩) nn cm) ∧ w'.cell? ⟨w.heap.size, 2, none⟩ = some (.slice (some ⟨br, ofr, none⟩) nr cr) ∧ w'.cell? ⟨w4.heap.size, 0, none⟩ = some (.int .i64 (q : Int)) ∧ w'.cell? ⟨w4.heap.size, 1, none⟩ = some (.int .i64 xd) ∧ w'.cell? ⟨w4.heap.size, 2, none⟩ = some (.int .i64 xc) ∧ w'.cell? ⟨bm, ofm + q * 3, none⟩ = some (.int .i64 zs) ∧ w'.cell? ⟨bm, ofm + q * 3 + 1, none⟩ = some (.int .i64 zf) ∧ w'.cell? ⟨bm, ofm + q * 3 + 2, none⟩ = some (.int .i64 zu)) wk_ := ((J7 M).1.t3 ((J3 M).1.t3 ((HRz.out.keep (J8 M)).c3)))
       (try simp only [Act.put, List.setIfInBounds_toArray, List.set_cons_zero, List.set_cons_succ])
       have lw_ := ((J2 M).1).size
       refine wpAnyH_ready (rs := [17, 18]) (by kernel_rfl) (by simp) ?_
       refine AllReadyH.cons at17 (fun K hK => ?_) ?_
       ·
        go_simp
        refine nmW (wk_.alloc (.cells #[.int .i64 0, .slice none 0 0, .int .i64 0, .slice none 0 0] 38)) fun w7 hv => ?_
        rw [← hv]
        have ow4_ : w4.heap.size < wk_.heap.size := ((J3 M).1).lt
        replace M := alM hv M
        clear hv
        refine hK.out _ _ (((J8 M).1.t3 ((J4 M).1.t3 ((HRz.out.keep (J9 M)).c3)))) (fun hH52 => ?_)
        clear hK K hH51
        (try simp only [Act.put, List.setIfInBounds_toArray, List.set_cons_zero, List.set_cons_succ])
        exact at_node (by kernel_rfl) (hD4 w7 x_20 x_21 x_22 x_23 x_24 x_25 x_26 x_27 wk_.heap.size (by omega) (Lib.hid ⟨(M.out.1), (J1 M).1, (J2 M).1, (J3 M).1⟩))
       refine AllReadyH.cons at18 (fun K hK => ?_) AllReadyH.nil
       go_simp
       refine nmW (wk_.alloc (.cells #[.int .i64 0, .slice none 0 0, .int .i64 0, .slice none 0 0] 38)) fun w7 hv => ?_
       rw [← hv]
       have ow4_ : w4.heap.size < wk_.heap.size := ((J3 M).1).lt
       replace M := alM hv M
       clear hv
       refine hK.out _ _ (((J8 M).1.t3 ((J4 M).1.t3 ((HRz.out.keep (J9 M)).c3)))) (fun hH53 => ?_)
       clear hK K hH51
       (try simp only [Act.put, List.setIfInBounds_toArray, List.set_cons_zero, List.set_cons_succ])
       exact at_node (by kernel_rfl) (hD5 w7 x_20 x_21 x_22 x_23 x_24 x_25 x_26 x_27 wk_.heap.size (by omega) (Lib.hid ⟨(M.out.1), (J1 M).1, (J2 M).1, (J3 M).1⟩))
      simp only [ha0_, Act.put, List.setIfInBounds_toArray, List.set_cons_zero, List.set_cons_succ] at hD1
      have hD2 : ∀ (wk_ : World) (A17_ : Nat), w6.heap.size ≤ A17_ → Hid (Bx wk_ A17_ 38 #[.int .i64 0, .slice none 0 0, .int .i64 0, .slice none 0 0] ∧ Below w6.heap.size w6 wk_) → X_ 9 #[true, true, true, true, true, true, true, true, true, true, true, true, false, false, false, false, false, true, false, false, false, false] (Act.put a0_ (some 16) (.pointer (some ⟨A17_, 0, none⟩))) wk_ := by
       intro wk_ A17_ c0_ rel_
       subst hX_ ha0_
       have M := Lib.hid (aI rel_.out.1 (aI rel_.out.2 (Goes.go Mb_.out rel_.out.2)))
       clear rel_
       have hH54 : (fun w' => w'.cell? ⟨w.heap.size, 0, none⟩ = some (.string nm) ∧ w'.cell? ⟨w.heap.size, 1, none⟩ = some (.slice (some ⟨bm, ofm, none⟩) nn cm) ∧ w'.cell? ⟨w.heap.size, 2, none⟩ = some (.slice (some ⟨br, ofr, none⟩) nr cr) ∧ w'.cell? ⟨w4.heap.size, 0, none⟩ = some (.int .i64 (q : Int)) ∧ w'.cell? ⟨w4.heap.size, 1, none⟩ = some (.int .i64 xd) ∧ w'.cell? ⟨w4.heap.size, 2, none⟩ = some (.int .i64 xc) ∧ w'.cell? ⟨bm, ofm + q * 3, none⟩ = some (.int .i64 zs) ∧ w'.cell? ⟨bm, ofm + q * 3 + 1, none⟩ = some (.int .i64 zf) ∧ w'.cell? ⟨bm, ofm + q * 3 + 2, none⟩ = some (.int .i64 zu)) wk_ := ((J6 M).1.t3 ((J2 M).1.t3 ((HRz.out.keep (J7 M)).c3)))
       (try simp only [Act.put, List.setIfInBounds_toArray, List.set_cons_zero, List.set_cons_succ])
       have lw_ := ((J1 M).1).size
       have l17_ := ((M.out.1)).lt
       refine wpAnyH_ready (rs := [12, 18]) (by kernel_rfl) (by simp) ?_
       refine AllReadyH.cons at12 (fun K hK => ?_) ?_
       ·
        go_simp
        refine (iv_u (G := G) (sc := zs) (rd := xc) (day := xd) (lo := ol) (hi := oh) (b_ := bv) (Nat.le_trans hG (J7 M).size) (HC.out.keep (J7 M)) (HQ.out.keep (J7 M)) (by omega) (by omega) HOL.out HOH.out HBV.out).mono ?_
        rintro e w7 ⟨x_55, x_56, x_57, x_58, x_59, x_60, x_61, x_62, rfl, hd63, hd64, hb⟩
        replace M := ad2M hd63 hd64 hb M
        clear hb hd63 hd64
        (try go_wp2_with fail)
        refine hK.out _ _ (((J8 M).1.t3 ((J4 M).1.t3 ((HRz.out.keep (J9 M)).c3)))) (fun hH65 => ?_)
        clear hK K hH54
        (try simp only [Act.put, List.setIfInBounds_toArray, List.set_cons_zero, List.set_cons_succ])
        refine tk at13 ?_
        refine tk at14 ?_
        refine tk at15 ?_
        refine tk at16 ?_
        exact at_node (by kernel_rfl) (hD4 w7 x_55 x_56 x_57 x_58 x_59 x_60 x_61 x_62 A17_ (by omega) (Lib.hid ⟨(J2 M).1, (M.out.1), (J1 M).1, (J3 M).1⟩))
       refine AllReadyH.cons at18 (fun K hK => ?_) AllReadyH.nil
       go_simp
       refine nmW (wk_.alloc (.cells #[.int .i64 0, .slice none 0 0, .int .i64 0, .slice none 0 0] 38)) fun w7 hv => ?_
       rw [← hv]
       have ow5_ : A17_ < wk_.heap.size := ((M.out.1)).lt
       replace M := alM hv M
       clear hv
       refine hK.out _ _ (((J7 M).1.t3 ((J3 M).1.t3 ((HRz.out.keep (J8 M)).c3)))) (fun hH66 => ?_)
       clear hK K hH54
       (try simp only [Act.put, List.setIfInBounds_toArray, List.set_cons_zero, List.set_cons_succ])
       exact at_node (by kernel_rfl) (hD6 w7 A17_ wk_.heap.size (by omega) (by omega) (by omega) (Lib.hid ⟨(M.out.1), (J1 M).1, (J2 M).1⟩))
      simp only [ha0_, Act.put, List.setIfInBounds_toArray, List.set_cons_zero, List.set_cons_succ] at hD2
      have hD3 : ∀ (wk_ : World) (A18_ : Nat), w6.heap.size ≤ A18_ → Hid (Bx wk_ A18_ 38 #[.int .i64 0, .slice none 0 0, .int .i64 0, .slice none 0 0] ∧ Below w6.heap.size w6 wk_) → X_ 9 #[true, true, true, true, true, true, true, true, true, true, true, true, false, false, false, false, false, false, true, false, false, false] (Act.put a0_ (some 17) (.pointer (some ⟨A18_, 0, none⟩))) wk_ := by
       intro wk_ A18_ c0_ rel_
       subst hX_ ha0_
       have M := Lib.hid (aI rel_.out.1 (aI rel_.out.2 (Goes.go Mb_.out rel_.out.2)))
       clear rel_
       have hH67 : (fun w' => w'.cell? ⟨w.heap.size, 0, none⟩ = some (.string nm) ∧ w'.cell? ⟨w.heap.size, 1, none⟩ = some (.slice (some ⟨bm, ofm, none⟩) nn cm) ∧ w'.cell? ⟨w.heap.size, 2, none⟩ = some (.slice (some ⟨br, ofr, none⟩) nr cr) ∧ w'.cell? ⟨w4.heap.size, 0, none⟩ = some (.int .i64 (q : Int)) ∧ w'.cell? ⟨w4.heap.size, 1, none⟩ = some (.int .i64 xd) ∧ w'.cell? ⟨w4.heap.size, 2, none⟩ = some (.int .i64 xc) ∧ w'.cell? ⟨bm, ofm + q * 3, none⟩ = some (.int .i64 zs) ∧ w'.cell? ⟨bm, ofm + q * 3 + 1, none⟩ = some (.int .i64 zf) ∧ w'.cell? ⟨bm, ofm + q * 3 + 2, none⟩ = some (.int .i64 zu)) wk_ := ((J6 M).1.t3 ((J2 M).1.t3 ((HRz.out.keep (J7 M)).c3)))
       (try simp only [Act.put, List.setIfInBounds_toArray, List.set_cons_zero, List.set_cons_succ])
       have lw_ := ((J1 M).1).size
       have l18_ := ((M.out.1)).lt
       refine wpAnyH_ready (rs := [12, 17]) (by kernel_rfl) (by simp) ?_
       refine AllReadyH.cons at12 (fun K hK => ?_) ?_
       ·
        go_simp
        refine (iv_u (G := G) (sc := zs) (rd := xc) (day := xd) (lo := ol) (hi := oh) (b_ := bv) (Nat.le_trans hG (J7 M).size) (HC.out.keep (J7 M)) (HQ.out.keep (J7 M)) (by omega) (by omega) HOL.out HOH.out HBV.out).mono ?_
        rintro e w7 ⟨x_68, x_69, x_70, x_71, x_72, x_73, x_74, x_75, rfl, hd76, hd77, hb⟩
        replace M := ad2M hd76 hd77 hb M
        clear hb hd76 hd77
        (try go_wp2_with fail)
        refine hK.out _ _ (((J8 M).1.t3 ((J4 M).1.t3 ((HRz.out.keep (J9 M)).c3)))) (fun hH78 => ?_)
        clear hK K hH67
        (try simp only [Act.put, List.setIfInBounds_toArray, List.set_cons_zero, List.set_cons_succ])
        refine tk at13 ?_
        refine tk at14 ?_
        refine tk at15 ?_
        refine tk at16 ?_
        exact at_node (by kernel_rfl) (hD5 w7 x_68 x_69 x_70 x_71 x_72 x_73 x_74 x_75 A18_ (by omega) (Lib.hid ⟨(J2 M).1, (M.out.1), (J1 M).1, (J3 M).1⟩))
       refine AllReadyH.cons at17 (fun K hK => ?_) AllReadyH.nil
       go_simp
       refine nmW (wk_.alloc (.cells #[.int .i64 0, .slice none 0 0, .int .i64 0, .slice none 0 0] 38)) fun w7 hv => ?_
       rw [← hv]
       have ow5_ : A18_ < wk_.heap.size := ((M.out.1)).lt
       replace M := alM hv M
       clear hv
       refine hK.out _ _ (((J7 M).1.t3 ((J3 M).1.t3 ((HRz.out.keep (J8 M)).c3)))) (fun hH79 => ?_)
       clear hK K hH67
       (try simp only [Act.put, List.setIfInBounds_toArray, List.set_cons_zero, List.set_cons_succ])
       exact at_node (by kernel_rfl) (hD6 w7 wk_.heap.size A18_ (by omega) (by omega) (by omega) (Lib.hid ⟨(J1 M).1, (M.out.1), (J2 M).1⟩))
      simp only [ha0_, Act.put, List.setIfInBounds_toArray, List.set_cons_zero, List.set_cons_succ] at hD3
      have hD0 : ∀ (wk_ : World) , Hid (Below w6.heap.size w6 wk_) → X_ 10 #[true, true, true, true, true, true, true, true, true, true, true, true, false, false, false, false, false, false, false, false, false, false] a0_ wk_ := by
       intro wk_ rel_
       subst hX_ ha0_
       have M := Lib.hid (aI rel_.out (Goes.go Mb_.out rel_.out))
       clear rel_
       have hH80 : (fun w' => w'.cell? ⟨w.heap.size, 0, none⟩ = some (.string nm) ∧ w'.cell? ⟨w.heap.size, 1, none⟩ = some (.slice (some ⟨bm, ofm, none⟩) nn cm) ∧ w'.cell? ⟨w.heap.size, 2, none⟩ = some (.slice (some ⟨br, ofr, none⟩) nr cr) ∧ w'.cell? ⟨w4.heap.size, 0, none⟩ = some (.int .i64 (q : Int)) ∧ w'.cell? ⟨w4.heap.size, 1, none⟩ = some (.int .i64 xd) ∧ w'.cell? ⟨w4.heap.size, 2, none⟩ = some (.int .i64 xc) ∧ w'.cell? ⟨bm, ofm + q * 3, none⟩ = some (.int .i64 zs) ∧ w'.cell? ⟨bm, ofm + q * 3 + 1, none⟩ = some (.int .i64 zf) ∧ w'.cell? ⟨bm, ofm + q * 3 + 2, none⟩ = some (.int .i64 zu)) wk_ := ((J5 M).1.t3 ((J1 M).1.t3 ((HRz.out.keep (J6 M)).c3)))
       (try simp only [Act.put, List.setIfInBounds_toArray, List.set_cons_zero, List.set_cons_succ])
       have lw_ := ((M.out.1)).size
       refine wpAnyH_ready (rs := [12, 17, 18]) (by kernel_rfl) (by simp) ?_
       refine AllReadyH.cons at12 (fun K hK => ?_) ?_
       ·
        go_simp
        refine (iv_u (G := G) (sc := zs) (rd := xc) (day := xd) (lo := ol) (hi := oh) (b_ := bv) (Nat.le_trans hG (J6 M).size) (HC.out.keep (J6 M)) (HQ.out.keep (J6 M)) (by omega) (by omega) HOL.out HOH.out HBV.out).mono ?_
        rintro e w7 ⟨x_81, x_82, x_83, x_84, x_85, x_86, x_87, x_88, rfl, hd89, hd90, hb⟩
        replace M := ad2M hd89 hd90 hb M
        clear hb hd89 hd90
        (try go_wp2_with fail)
        refine hK.out _ _ (((J7 M).1.t3 ((J3 M).1.t3 ((HRz.out.keep (J8 M)).c3)))) (fun hH91 => ?_)
        clear hK K hH80
        (try simp only [Act.put, List.setIfInBounds_toArray, List.set_cons_zero, List.set_cons_succ])
        refine tk at13 ?_
        refine tk at14 ?_
        refine tk at15 ?_
        refine tk at16 ?_
        exact at_node (by kernel_rfl) (hD1 w7 x_81 x_82 x_83 x_84 x_85 x_86 x_87 x_88 (Lib.hid ⟨(M.out.1), (J1 M).1, (J2 M).1⟩))
       refine AllReadyH.cons at17 (fun K hK => ?_) ?_
       ·
        go_simp
        refine nmW (wk_.alloc (.cells #[.int .i64 0, .slice none 0 0, .int .i64 0, .slice none 0 0] 38)) fun w7 hv => ?_
        rw [← hv]
        have ow4_ : w4.heap.size < wk_.heap.size := ((J1 M).1).lt
        replace M := alM hv M
        clear hv
        refine hK.out _ _ (((J6 M).1.t3 ((J2 M).1.t3 ((HRz.out.keep (J7 M)).c3)))) (fun hH92 => ?_)
        clear hK K hH80
        (try simp only [Act.put, List.setIfInBounds_toArray, List.set_cons_zero, List.set_cons_succ])
        exact at_node (by kernel_rfl) (hD2 w7 wk_.heap.size (by omega) (Lib.hid ⟨(M.out.1), (J1 M).1⟩))
       refine AllReadyH.cons at18 (fun K hK => ?_) AllReadyH.nil
       go_simp
       refine nmW (wk_.alloc (.cells #[.int .i64 0, .slice none 0 0, .int .i64 0, .slice none 0 0] 38)) fun w7 hv => ?_
       rw [← hv]
       have ow4_ : w4.heap.size < wk_.heap.size := ((J1 M).1).lt
       replace M := alM hv M
       clear hv
       refine hK.out _ _ (((J6 M).1.t3 ((J2 M).1.t3 ((HRz.out.keep (J7 M)).c3)))) (fun hH93 => ?_)
       clear hK K hH80
       (try simp only [Act.put, List.setIfInBounds_toArray, List.set_cons_zero, List.set_cons_succ])
       exact at_node (by kernel_rfl) (hD3 w7 wk_.heap.size (by omega) (Lib.hid ⟨(M.out.1), (J1 M).1⟩))
      simp only [ha0_, Act.put, List.setIfInBounds_toArray, List.set_cons_zero, List.set_cons_succ] at hD0
      subst hX_ ha0_
      exact at_node (by kernel_rfl) (hD0 w6 (Lib.hid (Below.refl _ _)))
     case rest =>
      obtain ⟨A17, A18, x_7, x_8, x_9, x_10, x_11, x_12, x_13, x_14, rfl, rfl, rfl, oA17, oA18, M⟩ := hcut
      obtain ⟨w6, rfl⟩ : ∃ w_ : World, w_ = wc := ⟨_, rfl⟩
      go_upto_region 9 with fail
      rcases hiv_ : ivl cs rr zs xc xd with _ | ⟨ilo, ihi⟩
      ·
       obtain rfl : ol = none := by rw [← HOL.out]; unfold loO; rw [hiv_]; rfl
       obtain rfl : oh = none := by rw [← HOH.out]; unfold hiO; rw [hiv_]; rfl
       obtain rfl : bv = false := by rw [← HBV.out]; unfold hasI; rw [hiv_]; rfl
       have HIV := Lib.hid hiv_; clear hiv_
       go_wp2_with fail
       go_roundw
       case rel => exact ⟨(k + 1), qs, bo, g0, g1, g2, g3, rfl, by go_num, (by show _ ≤ _; omega), (Lib.hid (by rw [foldl_next HEx.out, HV.out]; exact high_no HMT.out HIV.out)), HV0, (Lib.hid (by have h_ := HSq.out; exact h_)), Lib.hid (aI (J7 M).1 (aI (J4 M).1 (aI (J6 M).1 (aI (J5 M).1 (J9 M)))))⟩
       case measure => simp [RowKit.intOf] <;> omega
      ·
       obtain rfl : ol = (some ilo) := by rw [← HOL.out]; unfold loO; rw [hiv_]; rfl
       obtain rfl : oh = (some ihi) := by rw [← HOH.out]; unfold hiO; rw [hiv_]; rfl
       obtain rfl : bv = true := by rw [← HBV.out]; unfold hasI; rw [hiv_]; rfl
       have hz_ := ivl_size hiv_
       have HZl : Hid (Fz ilo 60) := hz_.1.mono (by omega); have HZh : Hid (Fz ihi 60) := hz_.2.mono (by omega)
       have HIV := Lib.hid hiv_; clear hiv_ hz_
       rcases Bool.eq_false_or_eq_true bo with hbo_ | hbo_
       ·
        subst hbo_
        obtain ⟨kv, hkv_⟩ : ∃ k, ordQ ihi qs = k := ⟨_, rfl⟩
        obtain ⟨t1, ht1_⟩ : ∃ b, decide (ihi < qs) = b := ⟨_, rfl⟩
        have hk1_ : decide (kv < 0) = t1 := by rw [← ht1_, ← hkv_, ordQ_lt0]
        have HKV := Lib.hid hkv_; have HT1 := Lib.hid ht1_; clear hkv_ ht1_
        refine cj4 (J1 M).1.d4 fun al ap av ax => ?_
        refine cj4 (J7 M).1.d4 fun bt bu bw bx => ?_
        go_wp2_with fail
        clear al ap av ax bt bu bw bx
        refine (fqCompare (G := G) (q := ihi) (r := qs) (k := kv) (J3 M).1 (J4 M).1 (Fz.mono HZh.out (by omega)) (Fz.mono HSq.out (by omega)) HKV.out).mono ?_
        rintro e w7 ⟨rfl, hb⟩
        replace M := gnM hb M
        clear hb
        cases t1 with
        | false =>
         go_wp2_with fail
         go_roundw
         case rel => exact ⟨(k + 1), qs, true, g0, g1, g2, g3, rfl, by go_num, (by show _ ≤ _; omega), (Lib.hid (by rw [foldl_next HEx.out, HV.out]; exact (high_yes rfl (by have h_ := HSK.out; simp only; omega) HMT.out HIV.out HT1.out).trans rfl)), (Lib.hid (fun h_ => by cases h_)), (Lib.hid (by have h_ := HSq.out; exact h_)), Lib.hid (aI (J7 M).1 (aI (J4 M).1 (aI (J6 M).1 (aI (J5 M).1 (J9 M)))))⟩
         case measure => simp [RowKit.intOf] <;> omega
        | true =>
         refine cj4 (J1 M).1.d4 fun al ap av ax => ?_
         refine cj8 (J7 M).1.c4 fun bt bz bu ca bw cb bx cd => ?_
         refine cj4 (TQ.st (J3 M).1) fun ce cf cg ch => ?_
         go_upto_region 11 with fail
         clear al ap av ax bt bz bu ca bw cb bx cd ce cf cg ch
         have hz : w.heap.size ≤ w2.heap.size := by omega
         refine st4W (x_11) (x_12) (x_13) (x_14) (J7 M).1 (J9 M) hz fun w8 hv og hk hbw => ?_
         rw [← hv]
         replace M := Lib.hid (aI ((M.out.1).only og (by omega)) (aI ((J1 M).1.only og (by omega)) (aI ((J2 M).1.far (J7 M).1 (by rfl) (by omega) og) (aI ((J3 M).1.far (J7 M).1 (by rfl) (by omega) og) (aI ((J4 M).1.far (J7 M).1 (by rfl) (by omega) og) (aI ((J5 M).1.only og (by omega)) (aI ((J6 M).1.only og (by omega)) (aI hk (aI ((J8 M).1.only og (by omega)) hbw)))))))))
         clear hk hbw og hv hz
         go_wp2_with fail
         go_roundw
         case rel => exact ⟨(k + 1), ihi, true, x_11, x_12, x_13, x_14, rfl, by go_num, (by show _ ≤ _; omega), (Lib.hid (by rw [foldl_next HEx.out, HV.out]; exact (high_yes rfl (by have h_ := HSK.out; simp only; omega) HMT.out HIV.out HT1.out).trans rfl)), (Lib.hid (fun h_ => by cases h_)), (Lib.hid (by have h_ := HZh.out; exact h_)), Lib.hid (aI (J7 M).1 (aI (J3 M).1 (aI (J6 M).1 (aI (J5 M).1 (J9 M)))))⟩
         case measure => simp [RowKit.intOf] <;> omega
       ·
        subst hbo_
        refine cj4 (J1 M).1.d4 fun al ap av ax => ?_
        refine cj8 (J7 M).1.c4 fun bt bz bu ca bw cb bx cd => ?_
        refine cj4 (TQ.st (J3 M).1) fun ce cf cg ch => ?_
        go_upto_region 11 with fail
        clear al ap av ax bt bz bu ca bw cb bx cd ce cf cg ch
        have hz : w.heap.size ≤ w2.heap.size := by omega
        refine st4W (x_11) (x_12) (x_13) (x_14) (J7 M).1 (J9 M) hz fun w7 hv og hk hbw => ?_
        rw [← hv]
        replace M := Lib.hid (aI ((M.out.1).only og (by omega)) (aI ((J1 M).1.only og (by omega)) (aI ((J2 M).1.far (J7 M).1 (by rfl) (by omega) og) (aI ((J3 M).1.far (J7 M).1 (by rfl) (by omega) og) (aI ((J4 M).1.far (J7 M).1 (by rfl) (by omega) og) (aI ((J5 M).1.only og (by omega)) (aI ((J6 M).1.only og (by omega)) (aI hk (aI ((J8 M).1.only og (by omega)) hbw)))))))))
        clear hk hbw og hv hz
        go_wp2_with fail
        go_roundw
        case rel => exact ⟨(k + 1), ihi, true, x_11, x_12, x_13, x_14, rfl, by go_num, (by show _ ≤ _; omega), (Lib.hid (by rw [foldl_next HEx.out, HV.out]; exact high_first rfl (by have h_ := HSK.out; simp only; omega) HMT.out HIV.out)), (Lib.hid (fun h_ => by cases h_)), (Lib.hid (by have h_ := HZh.out; exact h_)), Lib.hid (aI (J7 M).1 (aI (J3 M).1 (aI (J6 M).1 (aI (J5 M).1 (J9 M)))))⟩
        case measure => simp [RowKit.intOf] <;> omega
   ·
    have n1_ : (xm != (q : Int)) = true := bne_iff_ne.2 (Ne.symm hm_)
    have HNE := Lib.hid hm_; clear hm_
    refine cj3 (J3 M).1.d3 fun af ag ah => ?_
    have z0 : w.heap.size < w4.heap.size := (J3 M).1.lt
    refine cj3 (HRx.out.keep (J4 M)).c3 fun r0_0 r0_1 r0_2 => ?_
    go_upto_region 7 with fail
    clear af ag ah z0 r0_0 r0_1 r0_2
    refine nmW (w4.alloc (.cells #[.int .i64 xm, .int .i64 xd, .int .i64 xc] 29)) fun w5 hv => ?_
    rw [← hv]
    have ow3_ : w2.heap.size < w4.heap.size := ((M.out.1)).lt
    replace M := alM hv M
    clear hv
    refine cj3 (M.out.1).d3 fun ai aj ak => ?_
    go_wp2_with fail
    clear ai aj ak
    go_roundw
    case rel => exact ⟨(k + 1), qs, bo, g0, g1, g2, g3, rfl, by go_num, (by show _ ≤ _; omega), (Lib.hid (by rw [foldl_next HEx.out, HV.out]; exact high_skip (fun h_ => HNE.out h_.1.symm))), HV0, (Lib.hid (by have h_ := HSq.out; exact h_)), Lib.hid (aI (J1 M).1 (aI (J2 M).1 (aI (J3 M).1 (aI (J4 M).1 (J5 M)))))⟩
    case measure => simp [RowKit.intOf] <;> omega
  ·
   have e1_0 : decide (k < nr) = false := decide_eq_false (by omega)
   have e1_1 : decide ((k : Int) < (nr : Int)) = false := decide_eq_false (by omega)
   have e1_i : ¬ (k : Int) < (nr : Int) := by omega
   have HE : Hid (mostO (marksL (ivOf cs rr) ms rs (q : Int)) day = opt bo qs) := by show _ = _; rw [← HV.out, take_all (by rw [HR.out.len]; omega), high_is]
   refine cj3 (J3 M).1.d3 fun af ag ah => ?_
   refine cj4 (M.out.1).d4 fun bt bu bw bx => ?_
   refine cj8 (J2 M).1.c4 fun ci cj ck cl cn co cp ct => ?_
   refine cj4 (TQ.st (J1 M).1) fun cu cv cw cx => ?_
   go_wp2_with fail
   clear af ag ah bt bu bw bx ci cj ck cl cn co cp ct cu cv cw cx
   have hz : w.heap.size ≤ w.heap.size + 1 := by omega
   refine st4W (g0) (g1) (g2) (g3) (J2 M).1 (J4 M) hz fun w5 hv og hk hbw => ?_
   rw [← hv]
   replace M := Lib.hid (aI ((M.out.1).only og (by omega)) (aI ((J1 M).1.far (J2 M).1 (by rfl) (by omega) og) (aI hk (aI ((J3 M).1.only og (by omega)) hbw))))
   clear hk hbw og hv hz
   obtain ⟨hbe_, hqe_⟩ := opt_eq (HE.out.symm.trans HQ_.out) HV0.out HQ0.out
   subst hbe_ hqe_
   refine bodyPost_ret (results_box2 rfl _ _ (w.heap.size + 1) 38 _ _ _ rfl (J2 M).1 Try.underlying38 rfl (by kernel_rfl)) rfl ?_
   exact ⟨g0, g1, g2, g3, rfl, (J1 M).1, (J4 M)⟩
theorem ctLow_l {q : Nat} {day : Int} {qv : Rat} {nm : ByteArray} {am ar ac aq : Option Addr} {nn cm nr cr kc cc kq cq : Nat} {ms : List Mt} {rs : List Rg} {cs : List Ct} {rr : List Rc} {w : World} (hG : G ≤ w.heap.size) (hm : RdMt G w am nn cm ms) (hr : RdRg G w ar nr cr rs) (hc : CtS w ac kc cc cs) (hq : RcS w aq kq cq rr) (hsz : nm.size ≤ 1000) (hnn : nn ≤ 1000) (hnr : nr ≤ 1000) (hcl : kc ≤ 1000) (hrl : kq ≤ 1000) (hqn : q < nn) (hv : leastQ (marksL (ivOf cs rr) ms rs (q : Int)) day = qv) :
  Calls Try.prog 49 #[.agg #[.string nm, .slice am nn cm, .slice ar nr cr], .slice ac kc cc, .slice aq kq cq, .int .i64 (q : Int), .int .i64 day] w fun e w' => ∃ x0 x1 x2 x3, e = .returned (.agg #[x0, x1, x2, x3]) ∧ FQ G w' x0 x1 x2 x3 qv ∧ Below w.heap.size w w' := by
 have h1 := hc.len
 have h2 := hq.len
 subst h1 h2
 exact ctLow hG hm hr hc hq hsz hnn hnr hcl hrl hqn hv
theorem ctHigh_l {q : Nat} {day : Int} {qv : Rat} {b_ : Bool} {nm : ByteArray} {am ar ac aq : Option Addr} {nn cm nr cr kc cc kq cq : Nat} {ms : List Mt} {rs : List Rg} {cs : List Ct} {rr : List Rc} {w : World} (hG : G ≤ w.heap.size) (hm : RdMt G w am nn cm ms) (hr : RdRg G w ar nr cr rs) (hc : CtS w ac kc cc cs) (hq : RcS w aq kq cq rr) (hsz : nm.size ≤ 1000) (hnn : nn ≤ 1000) (hnr : nr ≤ 1000) (hcl : kc ≤ 1000) (hrl : kq ≤ 1000) (hqn : q < nn) (hv : mostO (marksL (ivOf cs rr) ms rs (q : Int)) day = opt b_ qv) (h0 : b_ = false → qv = 0) :
  Calls Try.prog 26 #[.agg #[.string nm, .slice am nn cm, .slice ar nr cr], .slice ac kc cc, .slice aq kq cq, .int .i64 (q : Int), .int .i64 day] w fun e w' => ∃ x0 x1 x2 x3, e = .returned (.tuple #[.agg #[x0, x1, x2, x3], .bool b_]) ∧ FQ G w' x0 x1 x2 x3 qv ∧ Below w.heap.size w w' := by
 have h1 := hc.len
 have h2 := hq.len
 subst h1 h2
 exact ctHigh hG hm hr hc hq hsz hnn hnr hcl hrl hqn hv h0
end Go.Proofs.Ytlcgckelamhnpaa
