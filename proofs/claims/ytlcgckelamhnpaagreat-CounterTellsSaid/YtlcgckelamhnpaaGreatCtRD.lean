/- The reference: what Between returns. -/
import Derived.Test.YtlcgckelamhnpaaGreatCtRB
import Derived.Test.YtlcgckelamhnpaaGreatCtN
import Derived.Test.YtlcgckelamhnpaaGreatRefY
set_option maxRecDepth 100000
set_option maxHeartbeats 4000000
namespace Go.Proofs.YtlcgckelamhnpaaGreat
open Go.RowKit Go.Lib
variable {G : Nat}
theorem cntLoZ (cs : List Ct) (rr : List Rc) (ms : List Mt) (rs : List Rg) (m a b : Int) : Fz (cntLo (marksL (ivOf cs rr) ms rs m) a b) 130 := by
 unfold cntLo; have h := highZ cs rr ms rs m a
 cases e : mostO (marksL (ivOf cs rr) ms rs m) a with
 | none => exact (Fz.int64 (x := 0) (by decide)).mono (by omega)
 | some q => rw [e] at h; exact (Fz.maxQ ((Fz.sub (lowZ cs rr ms rs m b) h).mono (by omega)) ((Fz.int64 (x := 0) (by decide)).mono (by omega)))
theorem rSub_no {u0 u1 u2 u3 v0 v1 v2 v3 : Value} {w : World} (h1 : OQ G w u0 u1 u2 u3 none) :
 Calls Tryz.prog 48 #[.agg #[u0, u1, u2, u3], .agg #[v0, v1, v2, v3]] w fun e w' => e = .returned (.tuple #[.agg #[.int .i64 0, .slice none 0 0, .int .i64 0, .slice none 0 0], .int .i64 1]) ∧ Below w.heap.size w w' := by
 have h0_ : True := trivial; have H1 : Hid (OQ G w u0 u1 u2 u3 none) := h1; clear h1; have M : Hid (Below w.heap.size w w) := Below.refl _ _; go_enter Tryz.func48, Tryz.ntmps48
 go_upto_region 1 with fail
 generalize hv : World.alloc (World.alloc (World.alloc w _) _) _ = w1; replace M := al3W hv.symm M; clear hv; refine (Y2 M).D4 fun aa ab ac ad => ?_; go_wp2_with fail
 clear aa ab ac ad; refine (fyRight_ok (o := none) (b_ := false) (oq_fx (H1.out.keep (J3 M))) (by decide) (by decide) rfl).mono ?_; rintro e w2 ⟨rfl, hb⟩; replace M := gnM hb M; clear hb; refine cj8 (Y0 M).c4 fun ae af ag ah ai aj ak al => ?_; go_wp2_with fail
 clear ae af ag ah ai aj ak al; refine st4V (.int .i64 0) (.slice none 0 0) (.int .i64 0) (.slice none 0 0) (Y0 M) (J3 M) fun w3 hv og hk hbw => ?_; rw [← hv]; replace M := hI (aI hk (aI ((Y1 M).o og) (aI ((Y2 M).o og) hbw))); clear hk hbw og hv; refine bodyPost_ret (results_box2 rfl _ _ (w.heap.size + 1 + 1) 36 _ _ _ rfl (Y0 M) Tryz.underlying36 rfl (by kernel_rfl)) rfl ?_; exact ⟨rfl, (J3 M)⟩
theorem rOne {nm : ByteArray} {am ar ac aq : Option Addr} {nn cm nr cr cc cq : Nat} {ms : List Mt} {rs : List Rg} {cs : List Ct} {rr : List Rc} {mi : Nat} {da db : Int} {lo_ : Rat} {hi : Option Rat} {b_ : Bool} {w : World} (hG : G ≤ w.heap.size) (hm : RdMt G w am nn cm ms) (hr : RdRg G w ar nr cr rs) (hc : CtIn w (.slice ac cs.length cc) cs) (hq : RcIn w (.slice aq rr.length cq) rr) (_hsz : nm.size ≤ 1000) (_hnn : nn ≤ 1000) (_hnr : nr ≤ 1000) (_hcl : cs.length ≤ 1000) (_hrl : rr.length ≤ 1000) (hfm : RgIn ms.length rs) (hlo : cntLo (marksL (ivOf cs rr) ms rs (mi : Int)) da db = lo_) (hhi : cntHi (marksL (ivOf cs rr) ms rs (mi : Int)) da db = hi) (hb : hi.isSome = b_) :
 Calls Tryz.prog 25 #[.agg #[.string nm, .slice am nn cm, .slice ar nr cr], .slice ac cs.length cc, .slice aq rr.length cq, .int .i64 (mi : Int), .int .i64 da, .int .i64 db] w fun e w' => ∃ x0 x1 x2 x3 x4 x5 x6 x7, e = .returned (.tuple #[.agg #[x0, x1, x2, x3, x4, x5, x6, x7], .bool b_]) ∧ FQ G w' x0 x1 x2 x3 lo_ ∧ OQ G w' x4 x5 x6 x7 hi ∧ Below w.heap.size w w' := by
 have HFM := hI hfm; have HLO_ := hI hlo; have HHI_ := hI hhi; have HBB := hI hb; clear hfm hlo hhi hb; have HM : Hid (RdMt G w am nn cm ms) := hm; have HR : Hid (RdRg G w ar nr cr rs) := hr; have HC : Hid (CtIn w (.slice ac cs.length cc) cs) := hc; have HQ : Hid (RcIn w (.slice aq rr.length cq) rr) := hq; clear hm hr hc hq; have M : Hid (Below w.heap.size w w) := Below.refl _ _; go_enter Tryz.func25, Tryz.ntmps25
 go_upto_region 1 with fail
 generalize hv : World.alloc (World.alloc w _) _ = w1; replace M := al2W hv.symm M; clear hv; go_wp2_with fail
 refine nmW (α := Rat) ((0 : Int) : Rat) fun q5 eq5 => ?_; refine (rqInt (G := G) (x := 0) (by decide)).mono ?_; rintro e w2 ⟨x_1, x_2, x_3, x_4, rfl, hd6, hb⟩; rw [← eq5] at hd6; have Sq5 := szW eq5 (n := 4) (Fz.int64 (by decide)); have Eq5 := hI eq5; clear eq5; replace M := adM hd6 hb M; clear hb hd6; refine cj4 (TQ.st (Y0 M)) fun aa ab ad ae => ?_; go_upto_region 2 with fail
 clear aa ab ad ae; generalize hv : World.alloc w2 _ = w3; have ow2_ := ((Y1 M)).lt; replace M := alM hv.symm M; clear hv; refine (Y0 M).D4 fun af ag ah ai => ?_; have z2 := (Y0 M).lt; refine cj4 (TQ.st (Y1 M)) fun aa ab ad ae => ?_; go_upto_region 3 with fail
 clear af ag ah ai z2 aa ab ad ae; generalize hv : World.alloc w3 _ = w4; have ow3_ := (Y0 M).lt; replace M := alM hv.symm M; clear hv; refine (Y1 M).D4 fun af ag ah ai => ?_; have z2 : w2.heap.size < w4.heap.size := (Y1 M).lt; refine cj4 (TQ.st (Y2 M)) fun aa ab ad ae => ?_; go_upto_region 4 with fail
 clear af ag ah ai z2 aa ab ad ae; generalize hv : World.alloc w4 _ = w5; have ow4_ := (Y0 M).lt; replace M := alM hv.symm M; clear hv; go_wp2_with fail
 replace M := hI (aI (Y0 M) (aI (Y1 M) (aI (Y3 M) (aI (Y4 M) (aI (Y5 M) (J6 M)))))); go_loopw [17, 18] (fun i17 i18 wr => ∃ (k : Nat) (fl : Rat) (lo : Rat) (oh : Option Rat) (bo : Bool) (f0 : Value) (f1 : Value) (f2 : Value) (f3 : Value) (l0 : Value) (l1 : Value) (l2 : Value) (l3 : Value) (h0 : Value) (h1 : Value) (h2 : Value) (h3 : Value), i17 = .bool bo ∧ i18 = .int .i64 (k : Int) ∧ Hid (k ≤ nr) ∧ Hid ((rs.take k).foldl (lowF (ivOf cs rr) ms (mi : Int) da) 0 = fl) ∧ Hid ((rs.take k).foldl (highF (ivOf cs rr) ms (mi : Int) db) none = oh) ∧ Hid ((rs.take k).foldl (outF (ivOf cs rr) ms rs (mi : Int) da db) 0 = lo) ∧ Hid (oh.isSome = bo) ∧ Hid (Fz fl 60) ∧ Hid (Oz oh 60) ∧ Hid (Fz lo 121) ∧ Hid (Bx wr w3.heap.size 36 #[f0, f1, f2, f3] ∧ Bx wr w4.heap.size 38 #[l0, l1, l2, l3, h0, h1, h2, h3] ∧ FQ G wr f0 f1 f2 f3 fl ∧ FQ G wr l0 l1 l2 l3 lo ∧ OQ G wr h0 h1 h2 h3 oh ∧ Bx wr (w.heap.size + 1) 38 #[.int .i64 0, .slice none 0 0, .int .i64 0, .slice none 0 0, .int .i64 0, .slice none 0 0, .int .i64 0, .slice none 0 0] ∧ Bx wr w.heap.size 25 #[.string nm, .slice am nn cm, .slice ar nr cr] ∧ Below w.heap.size w wr)) (fun i17 i18 _ => nr - (RowKit.intOf i18).toNat)
 case atStart =>
  exact ⟨0, q5, q5, none, false, x_1, x_2, x_3, x_4, x_1, x_2, x_3, x_4, (.int .i64 0), (.slice none 0 0), (.int .i64 0), (.slice none 0 0), rfl, rfl, (by show _ ≤ _; omega), (hI (by rw [Eq5.out]; rfl)), (hI rfl), (hI (by rw [Eq5.out]; rfl)), (hI rfl), (hI (Fz.mono Sq5.out (by omega))), (hI Oz.none_), (hI (Fz.mono Sq5.out (by omega))), hI (aI (Y1 M) (aI (Y0 M) (aI (Y2 M) (aI (Y2 M) (aI (oq_none _ _ _ _ _) (aI (Y3 M) (aI (Y4 M) (J5 M))))))))⟩
 case round =>
  obtain ⟨w6, rfl⟩ : ∃ x, x = wr := ⟨_, rfl⟩; clear M; obtain ⟨k, fl, lo, oh, bo, f0, f1, f2, f3, l0, l1, l2, l3, h0, h1, h2, h3, rfl, rfl, hk, HFL, HHI, HLO, HBO, HZf, HZo, HZl, M⟩ := hrel; have hk := hk.out
  by_cases hlt : k < nr
  ·
   refine ltW (show k < nr by omega) fun e1_0 e1_1 e1_i => ?_; obtain ⟨br, ofr, rfl, hb_⟩ := RdL.ptr HR.out (by omega : 0 < nr); have hbkbr := hI hb_; have hkl_ : k < rs.length := by rw [HR.out.len]; exact hlt
   obtain ⟨x_, hx_⟩ : ∃ x, rs[k]? = some x := ⟨rs[k], List.getElem?_eq_getElem hkl_⟩; obtain ⟨xm, xd, xc⟩ := x_; have HRx : Hid (Row w br (ofr + k * 3) [.int .i64 xm, .int .i64 xd, .int .i64 xc]) := hb_.row hx_; have HEx := hI hx_; have hlx := hkl_; clear hx_ hb_ hkl_; have hx_ := HFM.out k _ HEx.out; obtain ⟨q, hq_⟩ : ∃ q : Nat, xm = (q : Int) := ⟨xm.toNat, by have := hx_.1; simp only at this; omega⟩; subst hq_; have hqn : q < nn := by have h_ := hx_.2; have h2_ := HM.out.len; simp only at h_; omega
   clear hx_; obtain ⟨bm, ofm, rfl, hb_⟩ := RdL.ptr HM.out (by omega : 0 < nn); have hbkbm := hI hb_; have hkl_ : q < ms.length := by rw [HM.out.len]; exact hqn
   obtain ⟨z_, hx_⟩ : ∃ x, ms[q]? = some x := ⟨ms[q], List.getElem?_eq_getElem hkl_⟩; obtain ⟨zs, zf, zu⟩ := z_; have HRz : Hid (Row w bm (ofm + q * 3) [.int .i64 zs, .int .i64 zf, .int .i64 zu]) := hb_.row hx_; have HEz := hI hx_; have hlz := hkl_; clear hx_ hb_ hkl_; have HMTx : Hid ((mtAt ms (q : Int)).s = zs) := by show (ms.getD _ _).s = _; rw [show ((q : Int)).toNat = q from rfl, getD_of HEz.out]
   obtain ⟨olx, hol_⟩ : ∃ o, loO cs rr zs xc xd = o := ⟨_, rfl⟩; have HOLx := hI hol_; clear hol_; obtain ⟨ohx, hoh_⟩ : ∃ o, hiO cs rr zs xc xd = o := ⟨_, rfl⟩; have HOHx := hI hoh_; clear hoh_; obtain ⟨bvx, hbv_⟩ : ∃ o, hasI cs rr zs xc xd = o := ⟨_, rfl⟩; have HBVx := hI hbv_; clear hbv_; have hkr_ : k < nr := hlt; refine (Y6 M).D3 fun aj ak al => ?_; go_wp2_with fail
   clear aj ak al; refine (rInterval (G := G) (yd := xd) (yc := xc) (vs := zs) (vf := zf) (vu := zu) (ol := olx) (oh := ohx) (bv := bvx) (nm := nm) (Nat.le_trans hG (J7 M).size) (HM.out.keep (J7 M)) (HR.out.keep (J7 M)) (HC.out.keep (J7 M)) (HQ.out.keep (J7 M)) (by omega) (by omega) (by omega) (by omega) (by omega) hkr_ hqn HEx.out HEz.out HOLx.out HOHx.out HBVx.out).mono ?_; rintro e w7 ⟨x_7, x_8, x_9, x_10, x_11, x_12, x_13, x_14, rfl, hd15, hd16, hb⟩; replace M := ad2M hd15 hd16 hb M; clear hb hd15 hd16; refine cj4 (TQ.st (Y0 M)) fun ao ap au av => ?_; refine cj4 (TQ.st (Y1 M)) fun aw ax ay az => ?_; go_upto_region 9 with fail
   clear ao ap au av aw ax ay az; generalize hv : World.alloc (World.alloc w7 _) _ = w8; have ow5_ := ((Y3 M)).lt; replace M := al2W hv.symm M; clear hv; rcases hiv_ : ivl cs rr zs xc xd with _ | ⟨xlo, xhi⟩
   ·
    obtain rfl : olx = none := by rw [← HOLx.out]; unfold loO; rw [hiv_]; rfl
    obtain rfl : ohx = none := by rw [← HOHx.out]; unfold hiO; rw [hiv_]; rfl
    obtain rfl : bvx = false := by rw [← HBVx.out]; unfold hasI; rw [hiv_]; rfl
    have HIVx := hI hiv_; clear hiv_; go_wp2_with fail
    go_roundw
    case rel => exact ⟨(k + 1), fl, lo, oh, bo, f0, f1, f2, f3, l0, l1, l2, l3, h0, h1, h2, h3, rfl, by go_num, (by show _ ≤ _; omega), (hI (by rw [foldl_next HEx.out, HFL.out]; exact low_none HMTx.out HIVx.out)), (hI (by rw [foldl_next HEx.out, HHI.out]; exact high_none HMTx.out HIVx.out)), (hI (by rw [foldl_next HEx.out, HLO.out]; exact outP_none HMTx.out HIVx.out)), HBO, (hI (by have h_ := HZf.out; exact h_)), HZo, (hI (by have h_ := HZl.out; exact h_)), hI (aI (Y4 M) (aI (Y5 M) (aI (Y6 M) (aI (Y7 M) (aI (Y8 M) (aI (Y9 M) (aI (Y10 M) (J11 M))))))))⟩
    case measure => simp [RowKit.intOf] <;> omega
   ·
    obtain rfl : olx = (some xlo) := by rw [← HOLx.out]; unfold loO; rw [hiv_]; rfl
    obtain rfl : ohx = (some xhi) := by rw [← HOHx.out]; unfold hiO; rw [hiv_]; rfl
    obtain rfl : bvx = true := by rw [← HBVx.out]; unfold hasI; rw [hiv_]; rfl
    have hz_ := ivl_size hiv_; have HZxl : Hid (Fz xlo 60) := hz_.1.mono (by omega); have HZxh : Hid (Fz xhi 60) := hz_.2.mono (by omega); have HIVx := hI hiv_; clear hiv_ hz_
    by_cases hqm_ : (q : Int) = (mi : Int)
    ·
     have n0_ : ((q : Int) != (mi : Int)) = false := by rw [hqm_]; simp
     have HQM := hI hqm_; have HMTm : Hid ((mtAt ms (mi : Int)).s = zs) := by show _ = _; rw [← hqm_]; exact HMTx.out
     clear hqm_; refine (Y10 M).D3 fun aj ak al => ?_; refine cj3 (HRx.out.keep (J11 M)).c3 fun r0_0 r0_1 r0_2 => ?_; go_upto_region 10 with fail
     clear aj ak al r0_0 r0_1 r0_2; go_cut [73] (fun s_ wx => ∃ (n1 : Bool), s_ = .bool n1 ∧ Hid (lowB da xd fl xlo = n1) ∧ Hid (Bx wx (w7.heap.size + 1) 36 #[x_11, x_12, x_13, x_14] ∧ Bx wx w7.heap.size 36 #[x_7, x_8, x_9, x_10] ∧ OQ G wx x_7 x_8 x_9 x_10 (some xlo) ∧ OQ G wx x_11 x_12 x_13 x_14 (some xhi) ∧ Bx wx w3.heap.size 36 #[f0, f1, f2, f3] ∧ Bx wx w4.heap.size 38 #[l0, l1, l2, l3, h0, h1, h2, h3] ∧ FQ G wx f0 f1 f2 f3 fl ∧ FQ G wx l0 l1 l2 l3 lo ∧ OQ G wx h0 h1 h2 h3 oh ∧ Bx wx (w.heap.size + 1) 38 #[.int .i64 0, .slice none 0 0, .int .i64 0, .slice none 0 0, .int .i64 0, .slice none 0 0, .int .i64 0, .slice none 0 0] ∧ Bx wx w.heap.size 25 #[.string nm, .slice (some ⟨bm, ofm, none⟩) nn cm, .slice (some ⟨br, ofr, none⟩) nr cr] ∧ Below w.heap.size w wx))
     case first =>
      by_cases c1_ : xd ≤ da
      ·
       refine dtW (show xd ≤ da by omega) fun c1 c1i => ?_; obtain ⟨kv, hkv_⟩ : ∃ k, ordQ xlo fl = k := ⟨_, rfl⟩; obtain ⟨t1, ht1_⟩ : ∃ b, decide (fl < xlo) = b := ⟨_, rfl⟩; have hk1_ : decide (0 < kv) = t1 := by rw [← ht1_, ← hkv_, ordQ_gt0]
       have HKV := hI hkv_; have HT1 := hI ht1_; clear hkv_ ht1_; have HBQ : Hid (lowB da xd fl xlo = t1) := by show _ = _; unfold lowB; rw [decide_eq_true c1i, Bool.true_and]; exact HT1.out
       refine (Y10 M).D3 fun aj ak al => ?_; refine (Y1 M).D4 fun ba bb bc bd => ?_; refine (Y4 M).D4 fun bf bg bh bi => ?_; refine cj3 (HRx.out.keep (J11 M)).c3 fun r0_0 r0_1 r0_2 => ?_; go_wp2_with fail
       clear aj ak al ba bb bc bd bf bg bh bi r0_0 r0_1 r0_2; refine (rqCompare (G := G) (q := xlo) (r := fl) (k := kv) (Y2 M) (Y6 M) (Fz.mono HZxl.out (by omega)) (Fz.mono HZf.out (by omega)) HKV.out).mono ?_; rintro e w9 ⟨rfl, hb⟩; replace M := gnM hb M; clear hb; go_wp2_with fail
       go_meet
       exact ⟨_, rfl, hI HBQ.out, hI ⟨(Y0 M), (Y1 M), (Y2 M), (Y3 M), (Y4 M), (Y5 M), (Y6 M), (Y7 M), (Y8 M), (Y9 M), (Y10 M), (J11 M)⟩⟩
      ·
       refine dfW (show ¬ xd ≤ da by omega) fun c1 c1i => ?_; have HBQ : Hid (lowB da xd fl xlo = false) := by show _ = _; unfold lowB; rw [decide_eq_false (show ¬ xd ≤ da by omega)]; rfl
       refine (Y10 M).D3 fun aj ak al => ?_; refine cj3 (HRx.out.keep (J11 M)).c3 fun r0_0 r0_1 r0_2 => ?_; go_wp2_with fail
       clear aj ak al r0_0 r0_1 r0_2; go_meet
       exact ⟨_, rfl, hI HBQ.out, hI ⟨(Y0 M), (Y1 M), (Y2 M), (Y3 M), (Y4 M), (Y5 M), (Y6 M), (Y7 M), (Y8 M), (Y9 M), (Y10 M), (J11 M)⟩⟩
     case rest =>
      obtain ⟨n1, rfl, En1, M⟩ := hcut; obtain ⟨w9, rfl⟩ : ∃ w_ : World, w_ = wc := ⟨_, rfl⟩; go_upto_if 73 with fail
      go_cut [17] (fun s_ wx => ∃ (g0 : Value) (g1 : Value) (g2 : Value) (g3 : Value) (fl2 : Rat) (bo1 : Bool), s_ = .bool bo1 ∧ Hid ((if n1 = true then xlo else fl) = fl2) ∧ Hid (Fz fl2 60) ∧ Hid (bo = bo1) ∧ Hid (Bx wx w3.heap.size 36 #[g0, g1, g2, g3] ∧ FQ G wx g0 g1 g2 g3 fl2 ∧ Bx wx (w7.heap.size + 1) 36 #[x_11, x_12, x_13, x_14] ∧ Bx wx w7.heap.size 36 #[x_7, x_8, x_9, x_10] ∧ OQ G wx x_7 x_8 x_9 x_10 (some xlo) ∧ OQ G wx x_11 x_12 x_13 x_14 (some xhi) ∧ Bx wx w4.heap.size 38 #[l0, l1, l2, l3, h0, h1, h2, h3] ∧ FQ G wx l0 l1 l2 l3 lo ∧ OQ G wx h0 h1 h2 h3 oh ∧ Bx wx (w.heap.size + 1) 38 #[.int .i64 0, .slice none 0 0, .int .i64 0, .slice none 0 0, .int .i64 0, .slice none 0 0, .int .i64 0, .slice none 0 0] ∧ Bx wx w.heap.size 25 #[.string nm, .slice (some ⟨bm, ofm, none⟩) nn cm, .slice (some ⟨br, ofr, none⟩) nr cr] ∧ Below w.heap.size w wx))
      case first =>
       cases n1 with
       | false =>
        go_wp2_with fail
        go_meet
        exact ⟨f0, f1, f2, f3, fl, bo, rfl, hI (rfl), hI (by have h_ := HZf.out; exact h_), hI (rfl), hI ⟨(Y4 M), (Y6 M), (Y0 M), (Y1 M), (Y2 M), (Y3 M), (Y5 M), (Y7 M), (Y8 M), (Y9 M), (Y10 M), (J11 M)⟩⟩
       | true =>
        refine (Y1 M).D4 fun ba bb bc bd => ?_; refine cj8 (Y4 M).c4 fun bf bj bg bk bh bl bi bn => ?_; refine cj4 (TQ.st (Y2 M)) fun ao ap au av => ?_; go_wp2_with fail
        clear ba bb bc bd bf bj bg bk bh bl bi bn ao ap au av; refine st4V (x_7) (x_8) (x_9) (x_10) (Y4 M) (J11 M) fun w10 hv og hk hbw => ?_; rw [← hv]; replace M := hI (aI ((Y0 M).o og) (aI ((Y1 M).o og) (aI ((Y2 M).f (Y4 M) og) (aI ((Y3 M).f (Y4 M) og) (aI hk (aI ((Y5 M).o og) (aI ((Y6 M).f (Y4 M) og) (aI ((Y7 M).f (Y4 M) og) (aI ((Y8 M).f (Y4 M) og) (aI ((Y9 M).o og) (aI ((Y10 M).o og) hbw))))))))))); clear hk hbw og hv; go_meet
        exact ⟨x_7, x_8, x_9, x_10, xlo, bo, rfl, hI (rfl), hI (by have h_ := HZxl.out; exact h_), hI (rfl), hI ⟨(Y4 M), (Y2 M), (Y0 M), (Y1 M), (Y2 M), (Y3 M), (Y5 M), (Y7 M), (Y8 M), (Y9 M), (Y10 M), (J11 M)⟩⟩
      case rest =>
       obtain ⟨g0, g1, g2, g3, fl2, bo1, rfl, HF2, HZ2, HB1, M⟩ := hcut; obtain ⟨w10, rfl⟩ : ∃ w_ : World, w_ = wc := ⟨_, rfl⟩; obtain rfl := HB1.out; go_upto_region 12 with fail
       go_cut [93] (fun s_ wx => ∃ (n2 : Bool), s_ = .bool n2 ∧ Hid (highB db xd oh xhi = n2) ∧ Hid (Bx wx w3.heap.size 36 #[g0, g1, g2, g3] ∧ FQ G wx g0 g1 g2 g3 fl2 ∧ Bx wx (w7.heap.size + 1) 36 #[x_11, x_12, x_13, x_14] ∧ Bx wx w7.heap.size 36 #[x_7, x_8, x_9, x_10] ∧ OQ G wx x_7 x_8 x_9 x_10 (some xlo) ∧ OQ G wx x_11 x_12 x_13 x_14 (some xhi) ∧ Bx wx w4.heap.size 38 #[l0, l1, l2, l3, h0, h1, h2, h3] ∧ FQ G wx l0 l1 l2 l3 lo ∧ OQ G wx h0 h1 h2 h3 oh ∧ Bx wx (w.heap.size + 1) 38 #[.int .i64 0, .slice none 0 0, .int .i64 0, .slice none 0 0, .int .i64 0, .slice none 0 0, .int .i64 0, .slice none 0 0] ∧ Bx wx w.heap.size 25 #[.string nm, .slice (some ⟨bm, ofm, none⟩) nn cm, .slice (some ⟨br, ofr, none⟩) nr cr] ∧ Below w.heap.size w wx))
       case first =>
        by_cases c2_ : db ≤ xd
        ·
         refine dtW (show db ≤ xd by omega) fun c2 c2i => ?_; rcases oh with _ | hq
         ·
          have hbo_ := HBO.out; subst hbo_; have HBQ : Hid (highB db xd none xhi = true) := by show _ = _; unfold highB; rw [decide_eq_true (show db ≤ xd by omega)]; rfl
          refine (Y10 M).D3 fun aj ak al => ?_; refine cj3 (HRx.out.keep (J11 M)).c3 fun r0_0 r0_1 r0_2 => ?_; go_wp2_with fail
          clear aj ak al r0_0 r0_1 r0_2; go_meet
          exact ⟨_, rfl, hI HBQ.out, hI ⟨(Y0 M), (Y1 M), (Y2 M), (Y3 M), (Y4 M), (Y5 M), (Y6 M), (Y7 M), (Y8 M), (Y9 M), (Y10 M), (J11 M)⟩⟩
         ·
          have hbo_ := HBO.out; subst hbo_; have HZq : Hid (Fz hq 60) := HZo.out; obtain ⟨kv, hkv_⟩ : ∃ k, ordQ xhi hq = k := ⟨_, rfl⟩; obtain ⟨t1, ht1_⟩ : ∃ b, decide (xhi < hq) = b := ⟨_, rfl⟩; have hk1_ : decide (kv < 0) = t1 := by rw [← ht1_, ← hkv_, ordQ_lt0]
          have HKV := hI hkv_; have HT1 := hI ht1_; clear hkv_ ht1_; have HBQ : Hid (highB db xd (some hq) xhi = t1) := by show _ = _; unfold highB; rw [decide_eq_true (show db ≤ xd by omega), Bool.true_and]; exact HT1.out
          refine (Y10 M).D3 fun aj ak al => ?_; refine (Y2 M).D4 fun bp bq bs bt => ?_; refine (Y6 M).D8 fun bu bw bx bz ca cb cd ce => ?_; refine cj3 (HRx.out.keep (J11 M)).c3 fun r0_0 r0_1 r0_2 => ?_; go_wp2_with fail
          clear aj ak al bp bq bs bt bu bw bx bz ca cb cd ce r0_0 r0_1 r0_2; refine (rqCompare (G := G) (q := xhi) (r := hq) (k := kv) (Y5 M) (Y8 M) (Fz.mono HZxh.out (by omega)) (Fz.mono HZq.out (by omega)) HKV.out).mono ?_; rintro e w11 ⟨rfl, hb⟩; replace M := gnM hb M; clear hb; go_wp2_with fail
          go_meet
          exact ⟨_, rfl, hI HBQ.out, hI ⟨(Y0 M), (Y1 M), (Y2 M), (Y3 M), (Y4 M), (Y5 M), (Y6 M), (Y7 M), (Y8 M), (Y9 M), (Y10 M), (J11 M)⟩⟩
        ·
         refine dfW (show ¬ db ≤ xd by omega) fun c2 c2i => ?_; have HBQ : Hid (highB db xd oh xhi = false) := by show _ = _; unfold highB; rw [decide_eq_false (show ¬ db ≤ xd by omega)]; rfl
         refine (Y10 M).D3 fun aj ak al => ?_; refine cj3 (HRx.out.keep (J11 M)).c3 fun r0_0 r0_1 r0_2 => ?_; go_wp2_with fail
         clear aj ak al r0_0 r0_1 r0_2; go_meet
         exact ⟨_, rfl, hI HBQ.out, hI ⟨(Y0 M), (Y1 M), (Y2 M), (Y3 M), (Y4 M), (Y5 M), (Y6 M), (Y7 M), (Y8 M), (Y9 M), (Y10 M), (J11 M)⟩⟩
       case rest =>
        obtain ⟨n2, rfl, En2, M⟩ := hcut; obtain ⟨w11, rfl⟩ : ∃ w_ : World, w_ = wc := ⟨_, rfl⟩; go_upto_if 93 with fail
        go_cut [17] (fun s_ wx => ∃ (ho0 : Value) (ho1 : Value) (ho2 : Value) (ho3 : Value) (oh2 : Option Rat) (bo2 : Bool), s_ = .bool bo2 ∧ Hid ((if n2 = true then some xhi else oh) = oh2) ∧ Hid (oh2.isSome = bo2) ∧ Hid (Oz oh2 60) ∧ Hid (Bx wx w4.heap.size 38 #[l0, l1, l2, l3, ho0, ho1, ho2, ho3] ∧ OQ G wx ho0 ho1 ho2 ho3 oh2 ∧ Bx wx w3.heap.size 36 #[g0, g1, g2, g3] ∧ FQ G wx g0 g1 g2 g3 fl2 ∧ Bx wx (w7.heap.size + 1) 36 #[x_11, x_12, x_13, x_14] ∧ Bx wx w7.heap.size 36 #[x_7, x_8, x_9, x_10] ∧ OQ G wx x_7 x_8 x_9 x_10 (some xlo) ∧ OQ G wx x_11 x_12 x_13 x_14 (some xhi) ∧ FQ G wx l0 l1 l2 l3 lo ∧ Bx wx (w.heap.size + 1) 38 #[.int .i64 0, .slice none 0 0, .int .i64 0, .slice none 0 0, .int .i64 0, .slice none 0 0, .int .i64 0, .slice none 0 0] ∧ Bx wx w.heap.size 25 #[.string nm, .slice (some ⟨bm, ofm, none⟩) nn cm, .slice (some ⟨br, ofr, none⟩) nr cr] ∧ Below w.heap.size w wx))
        case first =>
         cases n2 with
         | false =>
          go_wp2_with fail
          go_meet
          exact ⟨h0, h1, h2, h3, oh, bo, rfl, hI (rfl), hI (HBO.out), hI (show Oz _ _ from HZo.out), hI ⟨(Y6 M), (Y8 M), (Y0 M), (Y1 M), (Y2 M), (Y3 M), (Y4 M), (Y5 M), (Y7 M), (Y9 M), (Y10 M), (J11 M)⟩⟩
         | true =>
          refine (Y2 M).D4 fun bp bq bs bt => ?_; refine cj16 (Y6 M).c8 fun bu cf bw cg bx ch bz ci ca cj cb ck cd cl ce cn => ?_; refine cj4 (TQ.st (Y5 M)) fun aw ax ay az => ?_; go_upto_region 14 with fail
          clear bp bq bs bt bu cf bw cg bx ch bz ci ca cj cb ck cd cl ce cn aw ax ay az; generalize hv : World.setCell (World.setCell (World.setCell (World.setCell w11 _ _) _ _) _ _) _ _ = w12; have og : w11.grownBy w12 (some w4.heap.size) := by rw [← hv]; exact (only_setCell (only_setCell (only_setCell (only_setCell gW _) _) _) _)
          have hz : w.heap.size ≤ w4.heap.size := by omega
          have hk : Bx w12 w4.heap.size 38 #[l0, l1, l2, l3, x_11, x_12, x_13, x_14] := by rw [← hv]; exact (((((Y6 M).set 4 _).set 5 _).set 6 _).set 7 _)
          have hbw : Below w.heap.size w w12 := by rw [← hv]; exact (Below.setCell (Below.setCell (Below.setCell (Below.setCell (J11 M) (by omega) _) (by omega) _) (by omega) _) (by omega) _)
          replace M := hI (aI ((Y0 M).o og) (aI ((Y1 M).f (Y6 M) og) (aI ((Y2 M).o og) (aI ((Y3 M).o og) (aI ((Y4 M).f (Y6 M) og) (aI ((Y5 M).f (Y6 M) og) (aI hk (aI ((Y7 M).f (Y6 M) og) (aI ((Y8 M).f (Y6 M) og) (aI ((Y9 M).o og) (aI ((Y10 M).o og) hbw))))))))))); clear hk hbw og hv hz; go_wp2_with fail
          go_meet
          exact ⟨x_11, x_12, x_13, x_14, (some xhi), true, rfl, hI (rfl), hI (rfl), hI (show Oz _ _ from HZxh.out), hI ⟨(Y6 M), (Y5 M), (Y0 M), (Y1 M), (Y2 M), (Y3 M), (Y4 M), (Y5 M), (Y7 M), (Y9 M), (Y10 M), (J11 M)⟩⟩
        case rest =>
         obtain ⟨ho0, ho1, ho2, ho3, oh2, bo2, rfl, HH2, HB2, HO2, M⟩ := hcut; obtain ⟨w12, rfl⟩ : ∃ w_ : World, w_ = wc := ⟨_, rfl⟩; go_wp2_with fail
         go_loopw [22] (fun i22 wr => ∃ (j : Nat) (lw : Rat) (wc0 : Value) (wc1 : Value) (wc2 : Value) (wc3 : Value), i22 = .int .i64 (j : Int) ∧ Hid (j ≤ nr) ∧ Hid ((rs.take j).foldl (inF (ivOf cs rr) ms (mi : Int) da db xd xlo) lo = lw) ∧ Hid (Fz lw 121) ∧ Hid (Bx wr w4.heap.size 38 #[wc0, wc1, wc2, wc3, ho0, ho1, ho2, ho3] ∧ FQ G wr wc0 wc1 wc2 wc3 lw ∧ OQ G wr ho0 ho1 ho2 ho3 oh2 ∧ Bx wr w3.heap.size 36 #[g0, g1, g2, g3] ∧ FQ G wr g0 g1 g2 g3 fl2 ∧ Bx wr (w7.heap.size + 1) 36 #[x_11, x_12, x_13, x_14] ∧ Bx wr w7.heap.size 36 #[x_7, x_8, x_9, x_10] ∧ OQ G wr x_7 x_8 x_9 x_10 (some xlo) ∧ OQ G wr x_11 x_12 x_13 x_14 (some xhi) ∧ Bx wr (w.heap.size + 1) 38 #[.int .i64 0, .slice none 0 0, .int .i64 0, .slice none 0 0, .int .i64 0, .slice none 0 0, .int .i64 0, .slice none 0 0] ∧ Bx wr w.heap.size 25 #[.string nm, .slice (some ⟨bm, ofm, none⟩) nn cm, .slice (some ⟨br, ofr, none⟩) nr cr] ∧ Below w.heap.size w wr)) (fun i22 _ => nr - (RowKit.intOf i22).toNat)
         case atStart =>
          exact ⟨0, lo, l0, l1, l2, l3, rfl, (by show _ ≤ _; omega), (hI rfl), (hI HZl.out), hI (aI (Y0 M) (aI (Y8 M) (aI (Y1 M) (aI (Y2 M) (aI (Y3 M) (aI (Y4 M) (aI (Y5 M) (aI (Y6 M) (aI (Y7 M) (aI (Y9 M) (aI (Y10 M) (J11 M))))))))))))⟩
         case round =>
          obtain ⟨w13, rfl⟩ : ∃ x, x = wr := ⟨_, rfl⟩; clear M; obtain ⟨j, lw, wc0, wc1, wc2, wc3, rfl, hj, HIN, HZw, M⟩ := hrel; have hj := hj.out
          by_cases hlt2 : j < nr
          ·
           refine ltW (show j < nr by omega) fun e2_0 e2_1 e2_i => ?_; have hb_ := hbkbr.out; have hkl_ : j < rs.length := by rw [HR.out.len]; exact hlt2
           obtain ⟨y_, hx_⟩ : ∃ x, rs[j]? = some x := ⟨rs[j], List.getElem?_eq_getElem hkl_⟩; obtain ⟨ym, yd, yc⟩ := y_; have HRy : Hid (Row w br (ofr + j * 3) [.int .i64 ym, .int .i64 yd, .int .i64 yc]) := hb_.row hx_; have HEy := hI hx_; have hly := hkl_; clear hx_ hb_ hkl_; have hx_ := HFM.out j _ HEy.out; obtain ⟨p, hq_⟩ : ∃ q : Nat, ym = (q : Int) := ⟨ym.toNat, by have := hx_.1; simp only at this; omega⟩; subst hq_; have hpn : p < nn := by have h_ := hx_.2; have h2_ := HM.out.len; simp only at h_; omega
           clear hx_; have hb_ := hbkbm.out; have hkl_ : p < ms.length := by rw [HM.out.len]; exact hpn
           obtain ⟨v_, hx_⟩ : ∃ x, ms[p]? = some x := ⟨ms[p], List.getElem?_eq_getElem hkl_⟩; obtain ⟨vs, vf, vu⟩ := v_; have HRv : Hid (Row w bm (ofm + p * 3) [.int .i64 vs, .int .i64 vf, .int .i64 vu]) := hb_.row hx_; have HEv := hI hx_; have hlv := hkl_; clear hx_ hb_ hkl_; have HMTy : Hid ((mtAt ms (p : Int)).s = vs) := by show (ms.getD _ _).s = _; rw [show ((p : Int)).toNat = p from rfl, getD_of HEv.out]
           obtain ⟨oly, hol_⟩ : ∃ o, loO cs rr vs yc yd = o := ⟨_, rfl⟩; have HOLy := hI hol_; clear hol_; obtain ⟨ohy, hoh_⟩ : ∃ o, hiO cs rr vs yc yd = o := ⟨_, rfl⟩; have HOHy := hI hoh_; clear hoh_; obtain ⟨bvy, hbv_⟩ : ∃ o, hasI cs rr vs yc yd = o := ⟨_, rfl⟩; have HBVy := hI hbv_; clear hbv_; have hjr_ : j < nr := hlt2; refine (Y10 M).D3 fun aj ak al => ?_; go_wp2_with fail
           clear aj ak al; refine (rInterval (G := G) (yd := yd) (yc := yc) (vs := vs) (vf := vf) (vu := vu) (ol := oly) (oh := ohy) (bv := bvy) (nm := nm) (Nat.le_trans hG (J11 M).size) (HM.out.keep (J11 M)) (HR.out.keep (J11 M)) (HC.out.keep (J11 M)) (HQ.out.keep (J11 M)) (by omega) (by omega) (by omega) (by omega) (by omega) hjr_ hpn HEy.out HEv.out HOLy.out HOHy.out HBVy.out).mono ?_; rintro e w14 ⟨x_17, x_18, x_19, x_20, x_21, x_22, x_23, x_24, rfl, hd25, hd26, hb⟩; replace M := ad2M hd25 hd26 hb M; clear hb hd25 hd26; refine cj4 (TQ.st (Y0 M)) fun co cp ct cu => ?_; refine cj4 (TQ.st (Y1 M)) fun cv cw cx cy => ?_; go_upto_region 19 with fail
           clear co cp ct cu cv cw cx cy; generalize hv : World.alloc (World.alloc w14 _) _ = w15; have ow7_ := ((Y7 M)).lt; replace M := al2W hv.symm M; clear hv; rcases hiv_ : ivl cs rr vs yc yd with _ | ⟨ylo, yhi⟩
           ·
            obtain rfl : oly = none := by rw [← HOLy.out]; unfold loO; rw [hiv_]; rfl
            obtain rfl : ohy = none := by rw [← HOHy.out]; unfold hiO; rw [hiv_]; rfl
            obtain rfl : bvy = false := by rw [← HBVy.out]; unfold hasI; rw [hiv_]; rfl
            have HIVy := hI hiv_; clear hiv_; go_wp2_with fail
            go_roundw
            case rel => exact ⟨(j + 1), lw, wc0, wc1, wc2, wc3, by go_num, (by show _ ≤ _; omega), (hI (by rw [foldl_next HEy.out, HIN.out]; exact inP_none HMTy.out HIVy.out)), (hI (by have h_ := HZw.out; exact h_)), hI (aI (Y4 M) (aI (Y5 M) (aI (Y6 M) (aI (Y7 M) (aI (Y8 M) (aI (Y9 M) (aI (Y10 M) (aI (Y11 M) (aI (Y12 M) (aI (Y13 M) (aI (Y14 M) (J15 M))))))))))))⟩
            case measure => simp [RowKit.intOf] <;> omega
           ·
            obtain rfl : oly = (some ylo) := by rw [← HOLy.out]; unfold loO; rw [hiv_]; rfl
            obtain rfl : ohy = (some yhi) := by rw [← HOHy.out]; unfold hiO; rw [hiv_]; rfl
            obtain rfl : bvy = true := by rw [← HBVy.out]; unfold hasI; rw [hiv_]; rfl
            have hz_ := ivl_size hiv_; have HZyl : Hid (Fz ylo 60) := hz_.1.mono (by omega); have HZyh : Hid (Fz yhi 60) := hz_.2.mono (by omega); have HIVy := hI hiv_; clear hiv_ hz_
            by_cases hpm_ : (p : Int) = (mi : Int)
            ·
             have n3_ : ((p : Int) != (mi : Int)) = false := by rw [hpm_]; simp
             have HPM := hI hpm_; have he_ : vs = zs := by rw [← HMTy.out, ← HMTm.out, hpm_]
             have HIVz : Hid (ivl cs rr zs yc yd = some (ylo, yhi)) := by show _ = _; rw [← he_]; exact HIVy.out
             clear hpm_ he_
             by_cases c3_ : db < xd
             ·
              refine dtW (show db < xd by omega) fun c3 c3i => ?_; refine (Y14 M).D3 fun aj ak al => ?_; refine cj3 (HRy.out.keep (J15 M)).c3 fun r2_0 r2_1 r2_2 => ?_; refine cj3 (HRx.out.keep (J15 M)).c3 fun r0_0 r0_1 r0_2 => ?_; go_wp2_with fail
              clear aj ak al r2_0 r2_1 r2_2 r0_0 r0_1 r0_2; go_roundw
              case rel => exact ⟨(j + 1), lw, wc0, wc1, wc2, wc3, by go_num, (by show _ ≤ _; omega), (hI (by rw [foldl_next HEy.out, HIN.out]; exact inP_skip (fun h_ => by have h2_ := h_.2.1; omega))), (hI (by have h_ := HZw.out; exact h_)), hI (aI (Y4 M) (aI (Y5 M) (aI (Y6 M) (aI (Y7 M) (aI (Y8 M) (aI (Y9 M) (aI (Y10 M) (aI (Y11 M) (aI (Y12 M) (aI (Y13 M) (aI (Y14 M) (J15 M))))))))))))⟩
              case measure => simp [RowKit.intOf] <;> omega
             ·
              refine dfW (show ¬ db < xd by omega) fun c3 c3i => ?_
              by_cases c4_ : yd < da
              ·
               refine dtW (show yd < da by omega) fun c4 c4i => ?_; refine (Y14 M).D3 fun aj ak al => ?_; refine cj3 (HRy.out.keep (J15 M)).c3 fun r2_0 r2_1 r2_2 => ?_; refine cj3 (HRx.out.keep (J15 M)).c3 fun r0_0 r0_1 r0_2 => ?_; go_wp2_with fail
               clear aj ak al r2_0 r2_1 r2_2 r0_0 r0_1 r0_2; go_roundw
               case rel => exact ⟨(j + 1), lw, wc0, wc1, wc2, wc3, by go_num, (by show _ ≤ _; omega), (hI (by rw [foldl_next HEy.out, HIN.out]; exact inP_skip (fun h_ => by have h2_ := h_.2.2; simp only at h2_; omega))), (hI (by have h_ := HZw.out; exact h_)), hI (aI (Y4 M) (aI (Y5 M) (aI (Y6 M) (aI (Y7 M) (aI (Y8 M) (aI (Y9 M) (aI (Y10 M) (aI (Y11 M) (aI (Y12 M) (aI (Y13 M) (aI (Y14 M) (J15 M))))))))))))⟩
               case measure => simp [RowKit.intOf] <;> omega
              ·
               refine dfW (show ¬ yd < da by omega) fun c4 c4i => ?_; refine (Y14 M).D3 fun aj ak al => ?_; refine (Y10 M).D4 fun ba bb bc bd => ?_; refine (Y0 M).D4 fun cz dc dd de => ?_; refine cj3 (HRy.out.keep (J15 M)).c3 fun r2_0 r2_1 r2_2 => ?_; refine cj3 (HRx.out.keep (J15 M)).c3 fun r0_0 r0_1 r0_2 => ?_; go_wp2_with fail
               clear aj ak al ba bb bc bd cz dc dd de r2_0 r2_1 r2_2 r0_0 r0_1 r0_2; refine nmW (α := Rat) (xlo - yhi) fun q31 eq31 => ?_; refine (rqSub (G := G) (q := xlo) (r := yhi) (Y11 M) (Y3 M) (Fz.mono HZxl.out (by omega)) (Fz.mono HZyh.out (by omega))).mono ?_; rintro e w16 ⟨x_27, x_28, x_29, x_30, rfl, hd32, hb⟩; rw [← eq31] at hd32; have Sq31 := szW eq31 (n := 121) (Fz.sub HZxl.out HZyh.out); have Eq31 := hI eq31; clear eq31; replace M := adM hd32 hb M; clear hb hd32; refine cj4 (TQ.st (Y0 M)) fun df dg dh di => ?_; go_upto_region 21 with fail
               clear df dg dh di; generalize hv : World.alloc w16 _ = w17; have ow9_ := ((Y1 M)).lt; replace M := alM hv.symm M; clear hv; obtain ⟨kw, hkw_⟩ : ∃ k, ordQ q31 lw = k := ⟨_, rfl⟩; obtain ⟨t3, ht3_⟩ : ∃ b, decide (lw < q31) = b := ⟨_, rfl⟩; have hk3_ : decide (0 < kw) = t3 := by rw [← ht3_, ← hkw_, ordQ_gt0]
               have HT3 : Hid (decide (lw < xlo - yhi) = t3) := by show _ = _; rw [← ht3_, Eq31.out]
               have HKW := hI hkw_; clear hkw_ ht3_; refine (Y0 M).D4 fun dj dk dl dm => ?_; refine (Y6 M).D8 fun bu bw bx bz ca cb cd ce => ?_; go_wp2_with fail
               clear dj dk dl dm bu bw bx bz ca cb cd ce; refine (rqCompare (G := G) (q := q31) (r := lw) (k := kw) (Y1 M) (Y7 M) (Fz.mono Sq31.out (by omega)) (Fz.mono HZw.out (by omega)) HKW.out).mono ?_; rintro e w18 ⟨rfl, hb⟩; replace M := gnM hb M; clear hb
               cases t3 with
               | false =>
                go_wp2_with fail
                go_roundw
                case rel => exact ⟨(j + 1), lw, wc0, wc1, wc2, wc3, by go_num, (by show _ ≤ _; omega), (hI (by rw [foldl_next HEy.out, HIN.out]; exact (inP_yes HPM.out (by omega) (by simp only; omega) HMTm.out HIVz.out HT3.out).trans (by rfl))), (hI (by have h_ := HZw.out; exact h_)), hI (aI (Y6 M) (aI (Y7 M) (aI (Y8 M) (aI (Y9 M) (aI (Y10 M) (aI (Y11 M) (aI (Y12 M) (aI (Y13 M) (aI (Y14 M) (aI (Y15 M) (aI (Y16 M) (J17 M))))))))))))⟩
                case measure => simp [RowKit.intOf] <;> omega
               | true =>
                refine (Y0 M).D4 fun dj dk dl dm => ?_; refine cj16 (Y6 M).c8 fun bu cf bw cg bx ch bz ci ca cj cb ck cd cl ce cn => ?_; refine cj4 (TQ.st (Y1 M)) fun df dg dh di => ?_; go_upto_region 17 with fail
                clear dj dk dl dm bu cf bw cg bx ch bz ci ca cj cb ck cd cl ce cn df dg dh di; generalize hv : World.setCell (World.setCell (World.setCell (World.setCell w18 _ _) _ _) _ _) _ _ = w19; have og : w18.grownBy w19 (some w4.heap.size) := by rw [← hv]; exact (only_setCell (only_setCell (only_setCell (only_setCell gW _) _) _) _)
                have hz : w.heap.size ≤ w4.heap.size := by omega
                have hk : Bx w19 w4.heap.size 38 #[x_27, x_28, x_29, x_30, ho0, ho1, ho2, ho3] := by rw [← hv]; exact (((((Y6 M).set 0 _).set 1 _).set 2 _).set 3 _)
                have hbw : Below w.heap.size w w19 := by rw [← hv]; exact (Below.setCell (Below.setCell (Below.setCell (Below.setCell (J17 M) (by omega) _) (by omega) _) (by omega) _) (by omega) _)
                replace M := hI (aI ((Y0 M).o og) (aI ((Y1 M).f (Y6 M) og) (aI ((Y2 M).o og) (aI ((Y3 M).o og) (aI ((Y4 M).f (Y6 M) og) (aI ((Y5 M).f (Y6 M) og) (aI hk (aI ((Y7 M).f (Y6 M) og) (aI ((Y8 M).f (Y6 M) og) (aI ((Y9 M).o og) (aI ((Y10 M).f (Y6 M) og) (aI ((Y11 M).o og) (aI ((Y12 M).o og) (aI ((Y13 M).f (Y6 M) og) (aI ((Y14 M).f (Y6 M) og) (aI ((Y15 M).o og) (aI ((Y16 M).o og) hbw))))))))))))))))); clear hk hbw og hv hz; go_wp2_with fail
                go_roundw
                case rel => exact ⟨(j + 1), q31, x_27, x_28, x_29, x_30, by go_num, (by show _ ≤ _; omega), (hI (by rw [foldl_next HEy.out, HIN.out]; exact (inP_yes HPM.out (by omega) (by simp only; omega) HMTm.out HIVz.out HT3.out).trans (by rw [Eq31.out]; rfl))), (hI (by have h_ := Sq31.out; exact h_)), hI (aI (Y6 M) (aI (Y1 M) (aI (Y8 M) (aI (Y9 M) (aI (Y10 M) (aI (Y11 M) (aI (Y12 M) (aI (Y13 M) (aI (Y14 M) (aI (Y15 M) (aI (Y16 M) (J17 M))))))))))))⟩
                case measure => simp [RowKit.intOf] <;> omega
            ·
             have n3_ : ((p : Int) != (mi : Int)) = true := bne_iff_ne.2 hpm_; have HNP := hI hpm_; clear hpm_; refine (Y14 M).D3 fun aj ak al => ?_; refine cj3 (HRy.out.keep (J15 M)).c3 fun r2_0 r2_1 r2_2 => ?_; go_wp2_with fail
             clear aj ak al r2_0 r2_1 r2_2; go_roundw
             case rel => exact ⟨(j + 1), lw, wc0, wc1, wc2, wc3, by go_num, (by show _ ≤ _; omega), (hI (by rw [foldl_next HEy.out, HIN.out]; exact inP_skip (fun h_ => HNP.out h_.1))), (hI (by have h_ := HZw.out; exact h_)), hI (aI (Y4 M) (aI (Y5 M) (aI (Y6 M) (aI (Y7 M) (aI (Y8 M) (aI (Y9 M) (aI (Y10 M) (aI (Y11 M) (aI (Y12 M) (aI (Y13 M) (aI (Y14 M) (J15 M))))))))))))⟩
             case measure => simp [RowKit.intOf] <;> omega
          ·
           refine geW (show ¬ j < nr by omega) fun e2_0 e2_1 e2_i => ?_; have HIE : Hid (rs.foldl (inF (ivOf cs rr) ms (mi : Int) da db xd xlo) lo = lw) := by show _ = _; rw [← HIN.out, take_all (by rw [HR.out.len]; omega)]
           refine (Y10 M).D3 fun aj ak al => ?_; go_wp2_with fail
           clear aj ak al; go_roundw
           case rel => exact ⟨(k + 1), fl2, lw, oh2, bo2, g0, g1, g2, g3, wc0, wc1, wc2, wc3, ho0, ho1, ho2, ho3, rfl, by go_num, (by show _ ≤ _; omega), (hI (by rw [foldl_next HEx.out, HFL.out]; exact (low_b HQM.out HMTx.out HIVx.out En1.out).trans HF2.out)), (hI (by rw [foldl_next HEx.out, HHI.out]; exact (high_b HQM.out HMTx.out HIVx.out En2.out).trans HH2.out)), (hI (by rw [foldl_next HEx.out, HLO.out]; exact outP_yes HQM.out HMTm.out HIVx.out HIE.out)), HB2, (hI (by have h_ := HZ2.out; exact h_)), HO2, (hI (by have h_ := HZw.out; exact h_)), hI (aI (Y3 M) (aI (Y0 M) (aI (Y4 M) (aI (Y1 M) (aI (Y2 M) (aI (Y9 M) (aI (Y10 M) (J11 M))))))))⟩
           case measure => simp [RowKit.intOf] <;> omega
    ·
     have n0_ : ((q : Int) != (mi : Int)) = true := bne_iff_ne.2 hqm_; have HNM := hI hqm_; clear hqm_; refine (Y10 M).D3 fun aj ak al => ?_; refine cj3 (HRx.out.keep (J11 M)).c3 fun r0_0 r0_1 r0_2 => ?_; go_wp2_with fail
     clear aj ak al r0_0 r0_1 r0_2; go_roundw
     case rel => exact ⟨(k + 1), fl, lo, oh, bo, f0, f1, f2, f3, l0, l1, l2, l3, h0, h1, h2, h3, rfl, by go_num, (by show _ ≤ _; omega), (hI (by rw [foldl_next HEx.out, HFL.out]; exact low_skip (fun h_ => HNM.out h_.1))), (hI (by rw [foldl_next HEx.out, HHI.out]; exact high_skip (fun h_ => HNM.out h_.1))), (hI (by rw [foldl_next HEx.out, HLO.out]; exact outP_skip (fun h_ => HNM.out h_))), HBO, (hI (by have h_ := HZf.out; exact h_)), HZo, (hI (by have h_ := HZl.out; exact h_)), hI (aI (Y4 M) (aI (Y5 M) (aI (Y6 M) (aI (Y7 M) (aI (Y8 M) (aI (Y9 M) (aI (Y10 M) (J11 M))))))))⟩
     case measure => simp [RowKit.intOf] <;> omega
  ·
   refine geW (show ¬ k < nr by omega) fun e1_0 e1_1 e1_i => ?_; have hta_ : rs.take k = rs := take_all (by rw [HR.out.len]; omega); have HF_ : Hid (leastQ (marksL (ivOf cs rr) ms rs (mi : Int)) da = fl) := by show _ = _; rw [← HFL.out, hta_, low_is]
   have HH_ : Hid (mostO (marksL (ivOf cs rr) ms rs (mi : Int)) db = oh) := by show _ = _; rw [← HHI.out, hta_, high_is]
   have HL_ : Hid (cntLo (marksL (ivOf cs rr) ms rs (mi : Int)) da db = lo) := by show _ = _; rw [← HLO.out, hta_, pairs_is (ivOk cs rr)]
   clear hta_; refine (Y6 M).D3 fun aj ak al => ?_; go_upto_region 23 with fail
   clear aj ak al; have HHX : Hid (oh.map (· - fl) = hi) := by show _ = _; rw [← HHI_.out]; unfold cntHi; rw [HH_.out, HF_.out]
   rcases oh with _ | hq
   ·
    have hbo_ := HBO.out; subst hbo_; refine (Y1 M).D8 fun bu bw bx bz ca cb cd ce => ?_; refine (Y0 M).D4 fun bf bg bh bi => ?_; go_wp2_with fail
    clear bu bw bx bz ca cb cd ce bf bg bh bi; refine (rSub_no (G := G) (Y4 M)).mono ?_; rintro e w7 ⟨rfl, hb⟩; replace M := gnM hb M; clear hb; refine cj16 (Y1 M).c8 fun bu cf bw cg bx ch bz ci ca cj cb ck cd cl ce cn => ?_; go_upto_region 24 with fail
    clear bu cf bw cg bx ch bz ci ca cj cb ck cd cl ce cn; generalize hv : World.setCell (World.setCell (World.setCell (World.setCell w7 _ _) _ _) _ _) _ _ = w8; have og : w7.grownBy w8 (some w4.heap.size) := by rw [← hv]; exact (only_setCell (only_setCell (only_setCell (only_setCell gW _) _) _) _)
    have hz : w.heap.size ≤ w4.heap.size := by omega
    have hk : Bx w8 w4.heap.size 38 #[l0, l1, l2, l3, .int .i64 0, .slice none 0 0, .int .i64 0, .slice none 0 0] := by rw [← hv]; exact (((((Y1 M).set 4 _).set 5 _).set 6 _).set 7 _)
    have hbw : Below w.heap.size w w8 := by rw [← hv]; exact (Below.setCell (Below.setCell (Below.setCell (Below.setCell (J7 M) (by omega) _) (by omega) _) (by omega) _) (by omega) _)
    replace M := hI (aI ((Y0 M).o og) (aI hk (aI ((Y2 M).f (Y1 M) og) (aI ((Y3 M).f (Y1 M) og) (aI ((Y4 M).f (Y1 M) og) (aI ((Y5 M).o og) (aI ((Y6 M).o og) hbw))))))); clear hk hbw og hv hz; refine (Y1 M).D8 fun bu bw bx bz ca cb cd ce => ?_; refine cj16 (Y5 M).c8 fun dn dp dq dr ds dt du dv dw dx dy dz ea eb ec ed => ?_; refine cj4 (TQ.st (Y3 M)) fun ee ef eg eh => ?_; go_wp2_with fail
    clear bu bw bx bz ca cb cd ce dn dp dq dr ds dt du dv dw dx dy dz ea eb ec ed ee ef eg eh; refine st8V (l0) (l1) (l2) (l3) (.int .i64 0) (.slice none 0 0) (.int .i64 0) (.slice none 0 0) (Y5 M) (J7 M) fun w9 hv og hk hbw => ?_; rw [← hv]; replace M := hI (aI ((Y0 M).o og) (aI ((Y1 M).o og) (aI ((Y2 M).f (Y5 M) og) (aI ((Y3 M).f (Y5 M) og) (aI ((Y4 M).f (Y5 M) og) (aI hk (aI ((Y6 M).o og) hbw))))))); clear hk hbw og hv; have hbb_ : b_ = false := by rw [← HBB.out, ← HHX.out]; rfl
    subst hbb_; refine bodyPost_ret (results_box2 rfl _ _ (w.heap.size + 1) 38 _ _ _ rfl (Y5 M) Tryz.underlying38 rfl (by kernel_rfl)) rfl ?_; exact ⟨l0, l1, l2, l3, (.int .i64 0), (.slice none 0 0), (.int .i64 0), (.slice none 0 0), rfl, (by have h_ := (Y3 M); rw [show lo = lo_ from HL_.out.symm.trans HLO_.out] at h_; exact h_), (by have h_ : hi = none := HHX.out.symm; subst h_; exact oq_none _ _ _ _ _), (J7 M)⟩
   ·
    have hbo_ := HBO.out; subst hbo_; have HZq : Hid (Fz hq 60) := HZo.out; refine (Y1 M).D8 fun bu bw bx bz ca cb cd ce => ?_; refine (Y0 M).D4 fun bf bg bh bi => ?_; go_wp2_with fail
    clear bu bw bx bz ca cb cd ce bf bg bh bi; refine nmW (α := Rat) (hq - fl) fun q37 eq37 => ?_; refine (rqSub (G := G) (q := hq) (r := fl) (Y4 M) (Y2 M) (Fz.mono HZq.out (by omega)) (Fz.mono HZf.out (by omega))).mono ?_; rintro e w7 ⟨x_33, x_34, x_35, x_36, rfl, hd38, hb⟩; rw [← eq37] at hd38; have Sq37 := szW eq37 (n := 121) (Fz.sub HZq.out HZf.out); have Eq37 := hI eq37; clear eq37; replace M := adM hd38 hb M; clear hb hd38; refine cj16 (Y2 M).c8 fun bu cf bw cg bx ch bz ci ca cj cb ck cd cl ce cn => ?_; refine cj4 (TQ.st (Y0 M)) fun ei ej ek el => ?_; go_upto_region 24 with fail
    clear bu cf bw cg bx ch bz ci ca cj cb ck cd cl ce cn ei ej ek el; generalize hv : World.setCell (World.setCell (World.setCell (World.setCell w7 _ _) _ _) _ _) _ _ = w8; have og : w7.grownBy w8 (some w4.heap.size) := by rw [← hv]; exact (only_setCell (only_setCell (only_setCell (only_setCell gW _) _) _) _)
    have hz : w.heap.size ≤ w4.heap.size := by omega
    have hk : Bx w8 w4.heap.size 38 #[l0, l1, l2, l3, x_33, x_34, x_35, x_36] := by rw [← hv]; exact (((((Y2 M).set 4 _).set 5 _).set 6 _).set 7 _)
    have hbw : Below w.heap.size w w8 := by rw [← hv]; exact (Below.setCell (Below.setCell (Below.setCell (Below.setCell (J8 M) (by omega) _) (by omega) _) (by omega) _) (by omega) _)
    replace M := hI (aI ((Y0 M).f (Y2 M) og) (aI ((Y1 M).o og) (aI hk (aI ((Y3 M).f (Y2 M) og) (aI ((Y4 M).f (Y2 M) og) (aI ((Y5 M).f (Y2 M) og) (aI ((Y6 M).o og) (aI ((Y7 M).o og) hbw)))))))); clear hk hbw og hv hz; refine (Y2 M).D8 fun bu bw bx bz ca cb cd ce => ?_; refine cj16 (Y6 M).c8 fun dn dp dq dr ds dt du dv dw dx dy dz ea eb ec ed => ?_; refine cj4 (TQ.st (Y4 M)) fun ee ef eg eh => ?_; refine cj4 (TQ.st (Y0 M)) fun ei ej ek el => ?_; go_wp2_with fail
    clear bu bw bx bz ca cb cd ce dn dp dq dr ds dt du dv dw dx dy dz ea eb ec ed ee ef eg eh ei ej ek el; refine st8V (l0) (l1) (l2) (l3) (x_33) (x_34) (x_35) (x_36) (Y6 M) (J8 M) fun w9 hv og hk hbw => ?_; rw [← hv]; replace M := hI (aI ((Y0 M).f (Y6 M) og) (aI ((Y1 M).o og) (aI ((Y2 M).o og) (aI ((Y3 M).f (Y6 M) og) (aI ((Y4 M).f (Y6 M) og) (aI ((Y5 M).f (Y6 M) og) (aI hk (aI ((Y7 M).o og) hbw)))))))); clear hk hbw og hv; have hbb_ : b_ = true := by rw [← HBB.out, ← HHX.out]; rfl
    subst hbb_; refine bodyPost_ret (results_box2 rfl _ _ (w.heap.size + 1) 38 _ _ _ rfl (Y6 M) Tryz.underlying38 rfl (by kernel_rfl)) rfl ?_; exact ⟨l0, l1, l2, l3, x_33, x_34, x_35, x_36, rfl, (by have h_ := (Y4 M); rw [show lo = lo_ from HL_.out.symm.trans HLO_.out] at h_; exact h_), (by have h_ : hi = some (hq - fl) := HHX.out.symm; subst h_; have h2_ := (Y0 M); rw [Eq37.out] at h2_; exact h2_), (J8 M)⟩
theorem piece_r {iv : Iv} {ms : List Mt} {rs : List Rg} {k : Nat} {z : Mt} {a b fa fb : Int} (hz : ms[k]? = some z) (ha : max a z.f = fa) (hb : min b z.u = fb) : pieceM iv ms rs a b k = pieceL (marksL iv ms rs (k : Nat)) fa fb := by
 unfold pieceM; rw [getD_of hz, ha, hb]
theorem cntHiZ {cs : List Ct} {rr : List Rc} {ms : List Mt} {rs : List Rg} {m a b : Int} {q : Rat} (h : cntHi (marksL (ivOf cs rr) ms rs m) a b = some q) : Fz q 130 := by
 unfold cntHi at h; have h1 := highZ cs rr ms rs m b
 cases e : mostO (marksL (ivOf cs rr) ms rs m) b with
 | none => rw [e] at h; cases h
 | some g => rw [e] at h h1; cases h; exact (Fz.sub h1 (lowZ cs rr ms rs m a)).mono (by omega)
theorem rFirst {nm : ByteArray} {am ar : Option Addr} {nn cm nr cr : Nat} {ms : List Mt} {ys yf yu : Int} {w : World} (hm : RdMt G w am nn cm ms) (_hn : 0 < nn) (_hnn : nn ≤ 1000) (hy : ms[0]? = some ⟨ys, yf, yu⟩) :
 Calls Tryz.prog 22 #[.agg #[.string nm, .slice am nn cm, .slice ar nr cr]] w fun e w' => e = .returned (.int .i64 yf) ∧ Below w.heap.size w w' := by
 have HY := hI hy; clear hy; have HM : Hid (RdMt G w am nn cm ms) := hm; clear hm; have M : Hid (Below w.heap.size w w) := Below.refl _ _; go_enter Tryz.func22, Tryz.ntmps22
 go_upto_region 1 with fail
 generalize hv : World.alloc w _ = w1; replace M := alM hv.symm M; clear hv; obtain ⟨bm, ofm, rfl, hb_⟩ := RdL.ptr HM.out (by omega : 0 < nn); have hbkbm := hI hb_; have hkl_ : 0 < ms.length := by rw [HM.out.len]; omega
 obtain ⟨z_, hx_⟩ : ∃ x, ms[0]? = some x := ⟨ms[0], List.getElem?_eq_getElem hkl_⟩; obtain ⟨zs, zf, zu⟩ := z_; have HRz : Hid (Row w bm (ofm + 0 * 3) [.int .i64 zs, .int .i64 zf, .int .i64 zu]) := hb_.row hx_; have HEz := hI hx_; have hlz := hkl_; clear hx_ hb_ hkl_; have he_ := Option.some.inj (HEz.out.symm.trans HY.out); simp only [Mt.mk.injEq] at he_; obtain ⟨rfl, rfl, rfl⟩ := he_; refine (Y0 M).D3 fun aa ab ac => ?_; refine cj3 (HRz.out.keep (J1 M)).c3 fun r0_0 r0_1 r0_2 => ?_; go_wp2_with fail
 clear aa ab ac r0_0 r0_1 r0_2; go_ret
 exact ⟨rfl, (J1 M)⟩
theorem rLast {nm : ByteArray} {am ar : Option Addr} {nn cm nr cr : Nat} {ms : List Mt} {ys yf yu : Int} {w : World} (hm : RdMt G w am nn cm ms) (_hn : 0 < nn) (_hnn : nn ≤ 1000) (hy : ms[nn - 1]? = some ⟨ys, yf, yu⟩) :
 Calls Tryz.prog 23 #[.agg #[.string nm, .slice am nn cm, .slice ar nr cr]] w fun e w' => e = .returned (.int .i64 yu) ∧ Below w.heap.size w w' := by
 have HY := hI hy; clear hy; have HM : Hid (RdMt G w am nn cm ms) := hm; clear hm; have M : Hid (Below w.heap.size w w) := Below.refl _ _; go_enter Tryz.func23, Tryz.ntmps23
 go_upto_region 1 with fail
 generalize hv : World.alloc w _ = w1; replace M := alM hv.symm M; clear hv; have hix0 : (0 : Int) ≤ (nn : Int) - 1 := by omega
 have hix1 : (nn : Int) - 1 < (nn : Int) := by omega
 have hix2 : ((nn : Int) - 1).toNat = nn - 1 := by omega
 have hix3 : IntKind.i64.wrap ((nn : Int) - 1) = (nn : Int) - 1 := by rw [IntKind.wrap_i64]; omega
 have hix4 : (1 : Int) ≤ (nn : Int) := by omega
 obtain ⟨bm, ofm, rfl, hb_⟩ := RdL.ptr HM.out (by omega : 0 < nn); have hbkbm := hI hb_; have hkl_ : (nn - 1) < ms.length := by rw [HM.out.len]; omega
 obtain ⟨z_, hx_⟩ : ∃ x, ms[(nn - 1)]? = some x := ⟨ms[(nn - 1)], List.getElem?_eq_getElem hkl_⟩; obtain ⟨zs, zf, zu⟩ := z_; have HRz : Hid (Row w bm (ofm + (nn - 1) * 3) [.int .i64 zs, .int .i64 zf, .int .i64 zu]) := hb_.row hx_; have HEz := hI hx_; have hlz := hkl_; clear hx_ hb_ hkl_; have he_ := Option.some.inj (HEz.out.symm.trans HY.out); simp only [Mt.mk.injEq] at he_; obtain ⟨rfl, rfl, rfl⟩ := he_; refine (Y0 M).D3 fun aa ab ac => ?_; refine cj3 (HRz.out.keep (J1 M)).c3 fun r0_0 r0_1 r0_2 => ?_; go_wp2_with fail
 clear aa ab ac r0_0 r0_1 r0_2; go_ret
 exact ⟨rfl, (J1 M)⟩
theorem rBetween {nm : ByteArray} {am ar ac aq : Option Addr} {nn cm nr cr cc cq : Nat} {ms : List Mt} {rs : List Rg} {cs : List Ct} {rr : List Rc} {nb big : Bool} {da db er : Int} {o : Option (Rat × Rat)} {ol oh : Option Rat} {w : World} (hG : G ≤ w.heap.size) (hm : RdMt G w am nn cm ms) (hr : RdRg G w ar nr cr rs) (hc : CtIn w (.slice ac cs.length cc) cs) (hq : RcIn w (.slice aq rr.length cq) rr) (_hsz : nm.size ≤ 1000) (_hnn : nn ≤ 1000) (_hnr : nr ≤ 1000) (_hcl : cs.length ≤ 1000) (_hrl : rr.length ≤ 1000) (hnb : nameOk nm.data.toList = nb) (hbg : bigB ms rs cs.length rr.length = big) (he : betw (ivOf cs rr) nb big ms rs da db = (er, o)) (hl : o.map Prod.fst = ol) (hh : o.map Prod.snd = oh) :
 Calls Tryz.prog 8 #[.agg #[.string nm, .slice am nn cm, .slice ar nr cr], .slice ac cs.length cc, .slice aq rr.length cq, .int .i64 da, .int .i64 db] w fun e w' => ∃ x0 x1 x2 x3 x4 x5 x6 x7, e = .returned (.tuple #[.agg #[x0, x1, x2, x3, x4, x5, x6, x7], .int .i64 er]) ∧ OQ G w' x0 x1 x2 x3 ol ∧ OQ G w' x4 x5 x6 x7 oh ∧ Oz ol 200000 ∧ Oz oh 200000 ∧ Below w.heap.size w w' := by
 obtain ⟨ce, hce_⟩ : ∃ e, checkE (ivOf cs rr) nb big ms rs = e := ⟨_, rfl⟩; have HCE := hI hce_; have HE := hI he; have HLO := hI hl; have HHI := hI hh; have HNB := hI hnb; have HBG := hI hbg; clear hce_ he hl hh hnb hbg; have HM : Hid (RdMt G w am nn cm ms) := hm; have HR : Hid (RdRg G w ar nr cr rs) := hr; have HC : Hid (CtIn w (.slice ac cs.length cc) cs) := hc; have HQ : Hid (RcIn w (.slice aq rr.length cq) rr) := hq; clear hm hr hc hq; have M : Hid (Below w.heap.size w w) := Below.refl _ _; go_enter Tryz.func8, Tryz.ntmps8
 go_upto_region 1 with fail
 generalize hv : World.alloc (World.alloc w _) _ = w1; replace M := al2W hv.symm M; clear hv; refine (Y1 M).D3 fun aa ab ad => ?_; go_wp2_with fail
 clear aa ab ad; refine (rCheck (G := G) (nm := nm) (nb := nb) (big := big) (er := ce) (Nat.le_trans hG (J2 M).size) (HM.out.keep (J2 M)) (HR.out.keep (J2 M)) (HC.out.keep (J2 M)) (HQ.out.keep (J2 M)) (by omega) (by omega) (by omega) (by omega) (by omega) HNB.out HBG.out HCE.out).mono ?_; rintro e w2 ⟨rfl, hb⟩; replace M := gnM hb M; clear hb; go_upto_region 2 with fail
 by_cases hem_ : ce = 0
 ·
  subst hem_; have HFM : Hid (RgIn ms.length rs) := rgIn_of (check_zero.1 HCE.out).1; go_upto_region 4 with fail
  by_cases c1_ : db < da
  ·
   refine dtW (show db < da by omega) fun c1 c1i => ?_; have HR_ := hI (betw_1 HCE.out c1i); refine cj16 (Y0 M).c8 fun ae af ag ah ai aj ak al ao ap au av aw ax ay az => ?_; go_wp2_with fail
   clear ae af ag ah ai aj ak al ao ap au av aw ax ay az; refine st8V (.int .i64 0) (.slice none 0 0) (.int .i64 0) (.slice none 0 0) (.int .i64 0) (.slice none 0 0) (.int .i64 0) (.slice none 0 0) (Y0 M) (J2 M) fun w3 hv og hk hbw => ?_; rw [← hv]; replace M := hI (aI hk (aI ((Y1 M).o og) hbw)); clear hk hbw og hv; obtain ⟨rfl, rfl, rfl⟩ := b_end HE.out HLO.out HHI.out HR_.out; refine bodyPost_ret (results_box2 rfl _ _ (w.heap.size + 1) 38 _ _ _ rfl (Y0 M) Tryz.underlying38 rfl (by kernel_rfl)) rfl ?_; exact ⟨_, _, _, _, _, _, _, _, rfl, oq_none _ _ _ _ _, oq_none _ _ _ _ _, Oz.none_, Oz.none_, (J2 M)⟩
  ·
   refine dfW (show ¬ db < da by omega) fun c1 c1i => ?_; go_upto_region 6 with fail
   by_cases hn0 : nn = 0
   ·
    have en1_ : ((nn : Int) == 0) = true := by simp [hn0]
    have HR_ := hI (betw_4 HCE.out c1i (.inl (by have := HM.out.len; omega))); refine (Y1 M).D3 fun aa ab ad => ?_; refine cj16 (Y0 M).c8 fun ae af ag ah ai aj ak al ao ap au av aw ax ay az => ?_; go_wp2_with fail
    clear aa ab ad ae af ag ah ai aj ak al ao ap au av aw ax ay az; refine st8V (.int .i64 0) (.slice none 0 0) (.int .i64 0) (.slice none 0 0) (.int .i64 0) (.slice none 0 0) (.int .i64 0) (.slice none 0 0) (Y0 M) (J2 M) fun w3 hv og hk hbw => ?_; rw [← hv]; replace M := hI (aI hk (aI ((Y1 M).o og) hbw)); clear hk hbw og hv; obtain ⟨rfl, rfl, rfl⟩ := b_end HE.out HLO.out HHI.out HR_.out; refine bodyPost_ret (results_box2 rfl _ _ (w.heap.size + 1) 38 _ _ _ rfl (Y0 M) Tryz.underlying38 rfl (by kernel_rfl)) rfl ?_; exact ⟨_, _, _, _, _, _, _, _, rfl, oq_none _ _ _ _ _, oq_none _ _ _ _ _, Oz.none_, Oz.none_, (J2 M)⟩
   ·
    have en1_ : ((nn : Int) == 0) = false := by simp [hn0]
    have hnp_ : 0 < nn := by omega
    have hly_ : 0 < ms.length := by have := HM.out.len; omega
    obtain ⟨y_, hy_⟩ : ∃ x, ms[0]? = some x := ⟨ms[0], List.getElem?_eq_getElem hly_⟩; obtain ⟨ys, yf, yu⟩ := y_; have HEy := hI hy_; clear hy_ hly_; have hlv_ : (nn - 1) < ms.length := by have := HM.out.len; omega
    obtain ⟨v_, hv_⟩ : ∃ x, ms[nn - 1]? = some x := ⟨ms[nn - 1], List.getElem?_eq_getElem hlv_⟩; obtain ⟨vs, vf, vu⟩ := v_; have HEv := hI hv_; clear hv_ hlv_
    by_cases c2_ : da < yf
    ·
     refine dtW (show da < yf by omega) fun c2 c2i => ?_; have HR_ := hI (betw_4 HCE.out c1i (.inr (.inl (by rw [getD_of HEy.out]; exact c2i)))); refine (Y1 M).D3 fun aa ab ad => ?_; go_wp2_with fail
     clear aa ab ad; refine (rFirst (G := G) (nm := nm) (ys := ys) (yf := yf) (yu := yu) (HM.out.keep (J2 M)) hnp_ (by omega) HEy.out).mono ?_; rintro e w3 ⟨rfl, hb⟩; replace M := gnM hb M; clear hb; refine cj16 (Y0 M).c8 fun ae af ag ah ai aj ak al ao ap au av aw ax ay az => ?_; go_wp2_with fail
     clear ae af ag ah ai aj ak al ao ap au av aw ax ay az; refine st8V (.int .i64 0) (.slice none 0 0) (.int .i64 0) (.slice none 0 0) (.int .i64 0) (.slice none 0 0) (.int .i64 0) (.slice none 0 0) (Y0 M) (J2 M) fun w4 hv og hk hbw => ?_; rw [← hv]; replace M := hI (aI hk (aI ((Y1 M).o og) hbw)); clear hk hbw og hv; obtain ⟨rfl, rfl, rfl⟩ := b_end HE.out HLO.out HHI.out HR_.out; refine bodyPost_ret (results_box2 rfl _ _ (w.heap.size + 1) 38 _ _ _ rfl (Y0 M) Tryz.underlying38 rfl (by kernel_rfl)) rfl ?_; exact ⟨_, _, _, _, _, _, _, _, rfl, oq_none _ _ _ _ _, oq_none _ _ _ _ _, Oz.none_, Oz.none_, (J2 M)⟩
    ·
     refine dfW (show ¬ da < yf by omega) fun c2 c2i => ?_
     by_cases c3_ : vu < db
     ·
      refine dtW (show vu < db by omega) fun c3 c3i => ?_; have HR_ := hI (betw_4 HCE.out c1i (.inr (.inr (by rw [HM.out.len, getD_of HEv.out]; exact c3i)))); refine (Y1 M).D3 fun aa ab ad => ?_; go_wp2_with fail
      clear aa ab ad; refine (rFirst (G := G) (nm := nm) (ys := ys) (yf := yf) (yu := yu) (HM.out.keep (J2 M)) hnp_ (by omega) HEy.out).mono ?_; rintro e w3 ⟨rfl, hb⟩; replace M := gnM hb M; clear hb; refine (Y1 M).D3 fun aa ab ad => ?_; go_wp2_with fail
      clear aa ab ad; refine (rLast (G := G) (nm := nm) (ys := vs) (yf := vf) (yu := vu) (HM.out.keep (J2 M)) hnp_ (by omega) HEv.out).mono ?_; rintro e w4 ⟨rfl, hb⟩; replace M := gnM hb M; clear hb; refine cj16 (Y0 M).c8 fun ae af ag ah ai aj ak al ao ap au av aw ax ay az => ?_; go_wp2_with fail
      clear ae af ag ah ai aj ak al ao ap au av aw ax ay az; refine st8V (.int .i64 0) (.slice none 0 0) (.int .i64 0) (.slice none 0 0) (.int .i64 0) (.slice none 0 0) (.int .i64 0) (.slice none 0 0) (Y0 M) (J2 M) fun w5 hv og hk hbw => ?_; rw [← hv]; replace M := hI (aI hk (aI ((Y1 M).o og) hbw)); clear hk hbw og hv; obtain ⟨rfl, rfl, rfl⟩ := b_end HE.out HLO.out HHI.out HR_.out; refine bodyPost_ret (results_box2 rfl _ _ (w.heap.size + 1) 38 _ _ _ rfl (Y0 M) Tryz.underlying38 rfl (by kernel_rfl)) rfl ?_; exact ⟨_, _, _, _, _, _, _, _, rfl, oq_none _ _ _ _ _, oq_none _ _ _ _ _, Oz.none_, Oz.none_, (J2 M)⟩
     ·
      refine dfW (show ¬ vu < db by omega) fun c3 c3i => ?_; have HDO : Hid (DaysOk ms da db) := ⟨by omega, by have := HM.out.len; omega, by rw [getD_of HEy.out]; exact Int.not_lt.1 c2i, by rw [HM.out.len, getD_of HEv.out]; exact Int.not_lt.1 c3i⟩; refine (Y1 M).D3 fun aa ab ad => ?_; go_wp2_with fail
      clear aa ab ad; refine (rFirst (G := G) (nm := nm) (ys := ys) (yf := yf) (yu := yu) (HM.out.keep (J2 M)) hnp_ (by omega) HEy.out).mono ?_; rintro e w3 ⟨rfl, hb⟩; replace M := gnM hb M; clear hb; refine (Y1 M).D3 fun aa ab ad => ?_; go_wp2_with fail
      clear aa ab ad; refine (rLast (G := G) (nm := nm) (ys := vs) (yf := vf) (yu := vu) (HM.out.keep (J2 M)) hnp_ (by omega) HEv.out).mono ?_; rintro e w4 ⟨rfl, hb⟩; replace M := gnM hb M; clear hb; go_wp2_with fail
      refine nmW (α := Rat) ((0 : Int) : Rat) fun q5 eq5 => ?_; refine (rqInt (G := G) (x := 0) (by decide)).mono ?_; rintro e w5 ⟨x_1, x_2, x_3, x_4, rfl, hd6, hb⟩; rw [← eq5] at hd6; have Sq5 := szW eq5 (n := 4) (Fz.int64 (by decide)); have Eq5 := hI eq5; clear eq5; replace M := adM hd6 hb M; clear hb hd6; go_wp2_with fail
      refine nmW (α := Rat) ((0 : Int) : Rat) fun q11 eq11 => ?_; refine (rqInt (G := G) (x := 0) (by decide)).mono ?_; rintro e w6 ⟨x_7, x_8, x_9, x_10, rfl, hd12, hb⟩; rw [← eq11] at hd12; have Sq11 := szW eq11 (n := 4) (Fz.int64 (by decide)); have Eq11 := hI eq11; clear eq11; replace M := adM hd12 hb M; clear hb hd12; refine cj4 (TQ.st (Y1 M)) fun ba bb bc bd => ?_; refine cj4 (TQ.st (Y0 M)) fun bf bg bh bi => ?_; go_upto_region 9 with fail
      clear ba bb bc bd bf bg bh bi; generalize hv : World.alloc w6 _ = w7; have ow2_ := ((Y2 M)).lt; replace M := alM hv.symm M; clear hv; go_wp2_with fail
      go_loopw [14] (fun i14 wr => ∃ (k : Nat) (sl : Rat) (sh : Rat) (g0 : Value) (g1 : Value) (g2 : Value) (g3 : Value) (g4 : Value) (g5 : Value) (g6 : Value) (g7 : Value), i14 = .int .i64 (k : Int) ∧ Hid (k ≤ nn) ∧ Hid (btw (pieceM (ivOf cs rr) ms rs da db) k = some (sl, sh)) ∧ Hid (Fz sl (10 + 131 * k)) ∧ Hid (Fz sh (10 + 131 * k)) ∧ Hid (Bx wr w6.heap.size 38 #[g0, g1, g2, g3, g4, g5, g6, g7] ∧ FQ G wr g0 g1 g2 g3 sl ∧ FQ G wr g4 g5 g6 g7 sh ∧ Bx wr (w.heap.size + 1) 38 #[.int .i64 0, .slice none 0 0, .int .i64 0, .slice none 0 0, .int .i64 0, .slice none 0 0, .int .i64 0, .slice none 0 0] ∧ Bx wr w.heap.size 25 #[.string nm, .slice am nn cm, .slice ar nr cr] ∧ Below w.heap.size w wr)) (fun i14 _ => nn - (RowKit.intOf i14).toNat)
      case atStart =>
       exact ⟨0, q5, q11, x_1, x_2, x_3, x_4, x_7, x_8, x_9, x_10, rfl, (by show _ ≤ _; omega), (hI (by rw [Eq5.out, Eq11.out]; rfl)), (hI (Fz.mono Sq5.out (by omega))), (hI (Fz.mono Sq11.out (by omega))), hI (aI (Y0 M) (aI (Y2 M) (aI (Y1 M) (aI (Y3 M) (aI (Y4 M) (J5 M))))))⟩
      case round =>
       obtain ⟨w8, rfl⟩ : ∃ x, x = wr := ⟨_, rfl⟩; clear M; obtain ⟨k, sl, sh, g0, g1, g2, g3, g4, g5, g6, g7, rfl, hk, HBT, HSl, HSh, M⟩ := hrel; have hk := hk.out
       by_cases hlt : k < nn
       ·
        refine ltW (show k < nn by omega) fun e5_0 e5_1 e5_i => ?_; obtain ⟨bm, ofm, rfl, hb_⟩ := RdL.ptr HM.out (by omega : 0 < nn); have hbkbm := hI hb_; have hkl_ : k < ms.length := by rw [HM.out.len]; exact hlt
        obtain ⟨z_, hx_⟩ : ∃ x, ms[k]? = some x := ⟨ms[k], List.getElem?_eq_getElem hkl_⟩; obtain ⟨zs, zf, zu⟩ := z_; have HRz : Hid (Row w bm (ofm + k * 3) [.int .i64 zs, .int .i64 zf, .int .i64 zu]) := hb_.row hx_; have HEz := hI hx_; have hlz := hkl_; clear hx_ hb_ hkl_; obtain ⟨fa, hfa_⟩ : ∃ x, max da zf = x := ⟨_, rfl⟩; obtain ⟨fb, hfb_⟩ : ∃ x, min db zu = x := ⟨_, rfl⟩; have HPI := hI (piece_r (iv := ivOf cs rr) (rs := rs) (a := da) (b := db) HEz.out hfa_ hfb_)
        by_cases c6_ : fb ≤ fa
        ·
         refine dtW (show fb ≤ fa by omega) fun c6 c6i => ?_; have HB2 := hI (btw_skip HBT.out HPI.out c6i); refine (Y4 M).D3 fun aa ab ad => ?_; refine cj3 (HRz.out.keep (J5 M)).c3 fun r0_0 r0_1 r0_2 => ?_; go_wp2_with fail
         clear aa ab ad r0_0 r0_1 r0_2; go_roundw
         case rel => exact ⟨(k + 1), sl, sh, g0, g1, g2, g3, g4, g5, g6, g7, by go_num, (by show _ ≤ _; omega), HB2, (hI (HSl.out.mono (by omega))), (hI (HSh.out.mono (by omega))), hI (aI (Y0 M) (aI (Y1 M) (aI (Y2 M) (aI (Y3 M) (aI (Y4 M) (J5 M))))))⟩
         case measure => simp [RowKit.intOf] <;> omega
        ·
         refine dfW (show ¬ fb ≤ fa by omega) fun c6 c6i => ?_; rcases ho_ : cntHi (marksL (ivOf cs rr) ms rs (k : Int)) fa fb with _ | hi_
         ·
          have HO := hI ho_; have HR_ : Hid (betw (ivOf cs rr) nb big ms rs da db = (17, none)) := betw_r HCE.out HDO.out (btw_free (by have := HM.out.len; omega) HPI.out c6i ho_) rfl; clear ho_; refine (Y4 M).D3 fun aa ab ad => ?_; refine cj3 (HRz.out.keep (J5 M)).c3 fun r0_0 r0_1 r0_2 => ?_; go_wp2_with fail
          clear aa ab ad r0_0 r0_1 r0_2; refine (rOne (G := G) (nm := nm) (da := fa) (db := fb) (lo_ := (cntLo (marksL (ivOf cs rr) ms rs (k : Int)) fa fb)) (hi := none) (b_ := false) (Nat.le_trans hG (J5 M).size) (HM.out.keep (J5 M)) (HR.out.keep (J5 M)) (HC.out.keep (J5 M)) (HQ.out.keep (J5 M)) (by omega) (by omega) (by omega) (by omega) (by omega) HFM.out rfl HO.out rfl).mono ?_; rintro e w9 ⟨x_13, x_14, x_15, x_16, x_17, x_18, x_19, x_20, rfl, hd21, hd22, hb⟩; replace M := ad2M hd21 hd22 hb M; clear hb hd21 hd22; refine cj4 (TQ.st (Y0 M)) fun bj bk bl bn => ?_; refine cj4 (TQ.st (Y1 M)) fun bo bp bq br => ?_; go_upto_region 16 with fail
          clear bj bk bl bn bo bp bq br; generalize hv : World.alloc w9 _ = w10; have ow3_ := ((Y2 M)).lt; replace M := alM hv.symm M; clear hv; refine cj16 (Y6 M).c8 fun ae af ag ah ai aj ak al ao ap au av aw ax ay az => ?_; go_wp2_with fail
          clear ae af ag ah ai aj ak al ao ap au av aw ax ay az; refine st8V (.int .i64 0) (.slice none 0 0) (.int .i64 0) (.slice none 0 0) (.int .i64 0) (.slice none 0 0) (.int .i64 0) (.slice none 0 0) (Y6 M) (J8 M) fun w11 hv og hk hbw => ?_; rw [← hv]; replace M := hI (aI ((Y0 M).o og) (aI ((Y1 M).f (Y6 M) og) (aI ((Y2 M).f (Y6 M) og) (aI ((Y3 M).o og) (aI ((Y4 M).f (Y6 M) og) (aI ((Y5 M).f (Y6 M) og) (aI hk (aI ((Y7 M).o og) hbw)))))))); clear hk hbw og hv; obtain ⟨rfl, rfl, rfl⟩ := b_end HE.out HLO.out HHI.out HR_.out; refine bodyPost_ret (results_box2 rfl _ _ (w.heap.size + 1) 38 _ _ _ rfl (Y6 M) Tryz.underlying38 rfl (by kernel_rfl)) rfl ?_; exact ⟨_, _, _, _, _, _, _, _, rfl, oq_none _ _ _ _ _, oq_none _ _ _ _ _, Oz.none_, Oz.none_, (J8 M)⟩
         ·
          have HO := hI ho_; obtain ⟨lo_, hlo_⟩ : ∃ q, cntLo (marksL (ivOf cs rr) ms rs (k : Int)) fa fb = q := ⟨_, rfl⟩; have HLo := hI hlo_; have HB2 := hI (btw_some_ HBT.out HPI.out c6i hlo_ ho_); have HZl : Hid (Fz lo_ 130) := by show Fz _ _; rw [← hlo_]; exact cntLoZ _ _ _ _ _ _ _
          have HZh : Hid (Fz hi_ 130) := cntHiZ ho_; clear ho_ hlo_; refine (Y4 M).D3 fun aa ab ad => ?_; refine cj3 (HRz.out.keep (J5 M)).c3 fun r0_0 r0_1 r0_2 => ?_; go_wp2_with fail
          clear aa ab ad r0_0 r0_1 r0_2; refine (rOne (G := G) (nm := nm) (da := fa) (db := fb) (lo_ := lo_) (hi := (some hi_)) (b_ := true) (Nat.le_trans hG (J5 M).size) (HM.out.keep (J5 M)) (HR.out.keep (J5 M)) (HC.out.keep (J5 M)) (HQ.out.keep (J5 M)) (by omega) (by omega) (by omega) (by omega) (by omega) HFM.out HLo.out HO.out rfl).mono ?_; rintro e w9 ⟨x_23, x_24, x_25, x_26, x_27, x_28, x_29, x_30, rfl, hd31, hd32, hb⟩; replace M := ad2M hd31 hd32 hb M; clear hb hd31 hd32; refine cj4 (TQ.st (Y0 M)) fun bs bt bu bv => ?_; refine cj4 (TQ.st (Y1 M)) fun bw bx bz ca => ?_; go_upto_region 16 with fail
          clear bs bt bu bv bw bx bz ca; generalize hv : World.alloc w9 _ = w10; have ow3_ := ((Y2 M)).lt; replace M := alM hv.symm M; clear hv; refine (Y3 M).D8 fun cb cd cf cg ch ci cj ck => ?_; refine (Y0 M).D8 fun cl cn co cp ct cu cv cw => ?_; go_wp2_with fail
          clear cb cd cf cg ch ci cj ck cl cn co cp ct cu cv cw; refine nmW (α := Rat) (sl + lo_) fun q37 eq37 => ?_; refine (rqAdd (G := G) (q := sl) (r := lo_) (Y4 M) (Y1 M) (Fz.mono (show Fz sl 131010 from HSl.out.mono (by omega)) (by omega)) (Fz.mono HZl.out (by omega))).mono ?_; rintro e w11 ⟨x_33, x_34, x_35, x_36, rfl, hd38, hb⟩; rw [← eq37] at hd38; have Sq37 := szW eq37 (n := 131141) (Fz.add (show Fz sl 131010 from HSl.out.mono (by omega)) HZl.out); have Eq37 := hI eq37; clear eq37; replace M := adM hd38 hb M; clear hb hd38; refine cj16 (Y4 M).c8 fun cb cx cd cy cf cz cg dc ch dd ci de cj df ck dg => ?_; refine cj4 (TQ.st (Y0 M)) fun dh di dj dk => ?_; go_upto_region 19 with fail
          clear cb cx cd cy cf cz cg dc ch dd ci de cj df ck dg dh di dj dk; generalize hv : World.setCell (World.setCell (World.setCell (World.setCell w11 _ _) _ _) _ _) _ _ = w12; have og : w11.grownBy w12 (some w6.heap.size) := by rw [← hv]; exact (only_setCell (only_setCell (only_setCell (only_setCell gW _) _) _) _)
          have hz : w.heap.size ≤ w6.heap.size := by omega
          have hk : Bx w12 w6.heap.size 38 #[x_33, x_34, x_35, x_36, g4, g5, g6, g7] := by rw [← hv]; exact (((((Y4 M).set 0 _).set 1 _).set 2 _).set 3 _)
          have hbw : Below w.heap.size w w12 := by rw [← hv]; exact (Below.setCell (Below.setCell (Below.setCell (Below.setCell (J9 M) (by omega) _) (by omega) _) (by omega) _) (by omega) _)
          replace M := hI (aI ((Y0 M).f (Y4 M) og) (aI ((Y1 M).o og) (aI ((Y2 M).f (Y4 M) og) (aI ((Y3 M).f (Y4 M) og) (aI hk (aI ((Y5 M).f (Y4 M) og) (aI ((Y6 M).f (Y4 M) og) (aI ((Y7 M).o og) (aI ((Y8 M).o og) hbw))))))))); clear hk hbw og hv hz; refine (Y4 M).D8 fun cb cd cf cg ch ci cj ck => ?_; refine (Y1 M).D8 fun cl cn co cp ct cu cv cw => ?_; go_wp2_with fail
          clear cb cd cf cg ch ci cj ck cl cn co cp ct cu cv cw; refine nmW (α := Rat) (sh + hi_) fun q43 eq43 => ?_; refine (rqAdd (G := G) (q := sh) (r := hi_) (Y6 M) (Y3 M) (Fz.mono (show Fz sh 131010 from HSh.out.mono (by omega)) (by omega)) (Fz.mono HZh.out (by omega))).mono ?_; rintro e w13 ⟨x_39, x_40, x_41, x_42, rfl, hd44, hb⟩; rw [← eq43] at hd44; have Sq43 := szW eq43 (n := 131141) (Fz.add (show Fz sh 131010 from HSh.out.mono (by omega)) HZh.out); have Eq43 := hI eq43; clear eq43; replace M := adM hd44 hb M; clear hb hd44; refine cj16 (Y5 M).c8 fun cb cx cd cy cf cz cg dc ch dd ci de cj df ck dg => ?_; refine cj4 (TQ.st (Y0 M)) fun dl dm dn dp => ?_; go_upto_region 11 with fail
          clear cb cx cd cy cf cz cg dc ch dd ci de cj df ck dg dl dm dn dp; generalize hv : World.setCell (World.setCell (World.setCell (World.setCell w13 _ _) _ _) _ _) _ _ = w14; have og : w13.grownBy w14 (some w6.heap.size) := by rw [← hv]; exact (only_setCell (only_setCell (only_setCell (only_setCell gW _) _) _) _)
          have hz : w.heap.size ≤ w6.heap.size := by omega
          have hk : Bx w14 w6.heap.size 38 #[x_33, x_34, x_35, x_36, x_39, x_40, x_41, x_42] := by rw [← hv]; exact (((((Y5 M).set 4 _).set 5 _).set 6 _).set 7 _)
          have hbw : Below w.heap.size w w14 := by rw [← hv]; exact (Below.setCell (Below.setCell (Below.setCell (Below.setCell (J10 M) (by omega) _) (by omega) _) (by omega) _) (by omega) _)
          replace M := hI (aI ((Y0 M).f (Y5 M) og) (aI ((Y1 M).f (Y5 M) og) (aI ((Y2 M).o og) (aI ((Y3 M).f (Y5 M) og) (aI ((Y4 M).f (Y5 M) og) (aI hk (aI ((Y6 M).f (Y5 M) og) (aI ((Y7 M).f (Y5 M) og) (aI ((Y8 M).o og) (aI ((Y9 M).o og) hbw)))))))))); clear hk hbw og hv hz; go_wp2_with fail
          go_roundw
          case rel => exact ⟨(k + 1), q37, q43, x_33, x_34, x_35, x_36, x_39, x_40, x_41, x_42, by go_num, (by show _ ≤ _; omega), (hI (by rw [Eq37.out, Eq43.out]; exact HB2.out)), (hI (by rw [Eq37.out]; exact (Fz.add HSl.out HZl.out).mono (by omega))), (hI (by rw [Eq43.out]; exact (Fz.add HSh.out HZh.out).mono (by omega))), hI (aI (Y5 M) (aI (Y1 M) (aI (Y0 M) (aI (Y8 M) (aI (Y9 M) (J10 M))))))⟩
          case measure => simp [RowKit.intOf] <;> omega
       ·
        refine geW (show ¬ k < nn by omega) fun e5_0 e5_1 e5_i => ?_; have HR_ : Hid (betw (ivOf cs rr) nb big ms rs da db = (0, some (sl, sh))) := betw_r HCE.out HDO.out (show btw (pieceM (ivOf cs rr) ms rs da db) ms.length = some (sl, sh) from by rw [HM.out.len, show nn = k by omega]; exact HBT.out) rfl; refine (Y4 M).D3 fun aa ab ad => ?_; refine (Y0 M).D8 fun cb cd cf cg ch ci cj ck => ?_; refine cj16 (Y3 M).c8 fun ae af ag ah ai aj ak al ao ap au av aw ax ay az => ?_; refine cj4 (TQ.st (Y1 M)) fun dq dr ds dt => ?_; refine cj4 (TQ.st (Y2 M)) fun du dv dw dx => ?_; go_wp2_with fail
        clear aa ab ad cb cd cf cg ch ci cj ck ae af ag ah ai aj ak al ao ap au av aw ax ay az dq dr ds dt du dv dw dx; refine st8V (g0) (g1) (g2) (g3) (g4) (g5) (g6) (g7) (Y3 M) (J5 M) fun w9 hv og hk hbw => ?_; rw [← hv]; replace M := hI (aI ((Y0 M).o og) (aI ((Y1 M).f (Y3 M) og) (aI ((Y2 M).f (Y3 M) og) (aI hk (aI ((Y4 M).o og) hbw))))); clear hk hbw og hv; obtain ⟨rfl, rfl, rfl⟩ := b_end HE.out HLO.out HHI.out HR_.out; refine bodyPost_ret (results_box2 rfl _ _ (w.heap.size + 1) 38 _ _ _ rfl (Y3 M) Tryz.underlying38 rfl (by kernel_rfl)) rfl ?_; exact ⟨g0, g1, g2, g3, g4, g5, g6, g7, rfl, (Y1 M), (Y2 M), HSl.out.mono (by omega), HSh.out.mono (by omega), (J5 M)⟩
 ·
  have em2_ : (ce != 0) = true := bne_iff_ne.2 hem_; have em3_ : ¬ ce = 0 := hem_; have HR_ := hI (betw_c (a := da) (b := db) HCE.out em3_); refine cj16 (Y0 M).c8 fun ae af ag ah ai aj ak al ao ap au av aw ax ay az => ?_; go_wp2_with fail
  clear ae af ag ah ai aj ak al ao ap au av aw ax ay az; refine st8V (.int .i64 0) (.slice none 0 0) (.int .i64 0) (.slice none 0 0) (.int .i64 0) (.slice none 0 0) (.int .i64 0) (.slice none 0 0) (Y0 M) (J2 M) fun w3 hv og hk hbw => ?_; rw [← hv]; replace M := hI (aI hk (aI ((Y1 M).o og) hbw)); clear hk hbw og hv; obtain ⟨rfl, rfl, rfl⟩ := b_end HE.out HLO.out HHI.out HR_.out; refine bodyPost_ret (results_box2 rfl _ _ (w.heap.size + 1) 38 _ _ _ rfl (Y0 M) Tryz.underlying38 rfl (by kernel_rfl)) rfl ?_; exact ⟨_, _, _, _, _, _, _, _, rfl, oq_none _ _ _ _ _, oq_none _ _ _ _ _, Oz.none_, Oz.none_, (J2 M)⟩
end Go.Proofs.YtlcgckelamhnpaaGreat
