/- The reference: what Allowed returns. -/
import Derived.Test.YtlcgckelamhnpaaGreatCtRB
import Derived.Test.YtlcgckelamhnpaaGreatCtN
import Derived.Test.YtlcgckelamhnpaaGreatRefY
set_option maxRecDepth 100000
set_option maxHeartbeats 4000000
namespace Go.Proofs.YtlcgckelamhnpaaGreat
open Go.RowKit Go.Lib
variable {G : Nat}
theorem rqSign {u0 u1 u2 u3 : Value} {q : Rat} {k : Int} {w : World} (h1 : FQ G w u0 u1 u2 u3 q) (hx : Fz q 549755813888) (hk : sg (nu q) = k) :
 Calls Tryz.prog 35 #[.agg #[u0, u1, u2, u3]] w fun e w' => e = .returned (.int .i64 k) ∧ Below w.heap.size w w' := by
 obtain ⟨a1, c1, b1, d1, rfl, rfl, rfl, rfl, k1⟩ := h1.ex; rw [← hk]; exact rfsign_ok (G := G) k1 hx
theorem read_in {nb big : Bool} {ms : List Mt} {rs : List Rg} (h : formedE nb big ms rs = 0) {k : Nat} {r : Rg} (hk : rs[k]? = some r) : (mtAt ms r.m).f ≤ r.d ∧ r.d ≤ (mtAt ms r.m).u := by
 have h1 := (formed_zero.1 h).2.2.2 k (List.getElem?_eq_some_iff.1 hk).1; unfold rErr at h1; rw [hk] at h1
 have h1' : (if (decide (r.m < 0) || decide ((ms.length : Int) ≤ r.m) || decide (r.c < 0) || decide (1099511627776 < r.c)) = true then 1
   else if (decide (r.d < (mtAt ms r.m).f) || decide ((mtAt ms r.m).u < r.d)) = true then 18 else _) = (0 : Int) := h1
 split at h1'
 · cases h1'
 · split at h1'
   · cases h1'
   · rename_i h2
     simp only [Bool.or_eq_true, decide_eq_true_eq, not_or] at h2
     omega
theorem valB_low {vs : List (Option Rat)} {i : Nat} {q : Rat} (h : vs[i]? = some (some q)) (ht : decide (q < 0) = true) : valB vs i = false := by
 unfold valB; rw [h]
 show (decide (0 ≤ q) && _) = false
 rw [decide_eq_false (show ¬ 0 ≤ q from Rat.not_le.2 (of_decide_eq_true ht)), Bool.false_and]
theorem listB_len {m : Mt} {vs : List (Option Rat)} (h : ¬ (vs.length : Int) = m.u - m.f + 1) : listB m vs = false := by unfold listB; rw [decide_eq_false h]; rfl
theorem listB_val {m : Mt} {vs : List (Option Rat)} {k : Nat} (hk : k < vs.length) (h : valB vs k = false) : listB m vs = false := by unfold listB; rw [range_no hk h]; simp
theorem listB_yes {m : Mt} {vs : List (Option Rat)} (h0 : (vs.length : Int) = m.u - m.f + 1) (h1 : (List.range vs.length).all (valB vs) = true) : listB m vs = true := by unfold listB; rw [decide_eq_true h0, h1]; rfl
def listK (ms : List Mt) (H : List (List (Option Rat))) (i : Nat) : Bool := listB (ms.getD i ⟨0, 0, 0⟩) (H.getD i [])
theorem listK_is {ms : List Mt} {H : List (List (Option Rat))} {k : Nat} {m : Mt} {vs : List (Option Rat)} {b : Bool} (hz : ms[k]? = some m) (hy : H.getD k [] = vs) (h : listB m vs = b) : listK ms H k = b := by unfold listK; rw [getD_of hz, hy]; exact h
theorem listK_at {ms : List Mt} {H : List (List (Option Rat))} {n q : Nat} {m : Mt} {vs : List (Option Rat)} (h : (List.range n).all (listK ms H) = true) (hq : q < n) (hz : ms[q]? = some m) (hy : H.getD q [] = vs) : (vs.length : Int) = m.u - m.f + 1 ∧ (List.range vs.length).all (valB vs) = true := by
 have h1 := range_prev h hq; unfold listK listB at h1; rw [getD_of hz, hy, Bool.and_eq_true, decide_eq_true_eq] at h1; exact h1
theorem allowR_list {iv : Iv} {nb big : Bool} {ms : List Mt} {rs : List Rg} {H : List (List (Option Rat))} {k : Nat} (hf : formedE nb big ms rs = 0) (hl : H.length = ms.length) (hin : RgIn ms.length rs) (hk : k < ms.length) (h : listK ms H k = false) : allowB iv nb big ms rs H = false := by
 rw [allowR hf hl hin]
 show ((List.range ms.length).all (listK ms H) && _) = false
 rw [range_no hk h]; rfl
theorem allowR_read {iv : Iv} {nb big : Bool} {ms : List Mt} {rs : List Rg} {H : List (List (Option Rat))} {i : Nat} {x : Rg} (hf : formedE nb big ms rs = 0) (hl : H.length = ms.length) (hin : RgIn ms.length rs) (hx : rs[i]? = some x) (h : readB iv ms H x = false) : allowB iv nb big ms rs H = false := by
 rw [allowR hf hl hin, allH_at hx h, Bool.and_false]
theorem allowR_yes {iv : Iv} {nb big : Bool} {ms : List Mt} {rs : List Rg} {H : List (List (Option Rat))} (hf : formedE nb big ms rs = 0) (hl : H.length = ms.length) (hin : RgIn ms.length rs) (h1 : (List.range ms.length).all (listK ms H) = true) (h2 : rs.all (readB iv ms H) = true) : allowB iv nb big ms rs H = true := by
 rw [allowR hf hl hin]
 show ((List.range ms.length).all (listK ms H) && _) = true
 rw [h1, h2]; rfl
theorem readB_none {cs : List Ct} {rr : List Rc} {ms : List Mt} {H : List (List (Option Rat))} {q : Nat} {xd xc zs : Int} (hz : (mtAt ms (q : Int)).s = zs) (h : ivl cs rr zs xc xd = none) : readB (ivOf cs rr) ms H ⟨(q : Int), xd, xc⟩ = true := by
 unfold readB ivOf; simp only [hz, h]
theorem readB_some {cs : List Ct} {rr : List Rc} {ms : List Mt} {H : List (List (Option Rat))} {q j : Nat} {xd xc zs zf zu : Int} {lo hi v : Rat} {vs : List (Option Rat)} {t3 t4 : Bool} (hz : ms[q]? = some ⟨zs, zf, zu⟩) (hj : xd = zf + (j : Int)) (h : ivl cs rr zs xc xd = some (lo, hi)) (hy : H.getD q [] = vs) (hv : vs[j]? = some (some v)) (h3 : decide (v < lo) = t3) (h4 : decide (hi < v) = t4) : readB (ivOf cs rr) ms H ⟨(q : Int), xd, xc⟩ = (!t3 && !t4) := by
 have e : mtAt ms (q : Int) = ⟨zs, zf, zu⟩ := getD_of hz; unfold readB ivOf; simp only [e, h]; refine inB_is (q := v) hj ?_ ?_
 · show (H.getD q [])[j]? = _; rw [hy]; exact hv
 · show (decide (lo ≤ v) && decide (v ≤ hi)) = _
   rw [← h3, ← h4, ← decide_not, ← decide_not, decide_eq_decide.2 (Rat.not_lt (a := v) (b := lo)), decide_eq_decide.2 (Rat.not_lt (a := hi) (b := v))]
theorem rAllowed {nm : ByteArray} {am ar ac aq : Option Addr} {nn cm nr cr cc cq : Nat} {ms : List Mt} {rs : List Rg} {cs : List Ct} {rr : List Rc} {ah : Option Addr} {nh ch : Nat} {H : List HdX} {nb big b_ : Bool} {w : World} (hG : G ≤ w.heap.size) (hm : RdMt G w am nn cm ms) (hr : RdRg G w ar nr cr rs) (hc : CtIn w (.slice ac cs.length cc) cs) (hq : RcIn w (.slice aq rr.length cq) rr) (_hsz : nm.size ≤ 1000) (_hnn : nn ≤ 1000) (_hnr : nr ≤ 1000) (_hcl : cs.length ≤ 1000) (_hrl : rr.length ≤ 1000) (hh : RdHX G w ah nh ch H) (hzx : XZL H 60) (hlx : LenX H 1000) (hnb : nameOk nm.data.toList = nb) (hbg : bigB ms rs cs.length rr.length = big) (hb : allowB (ivOf cs rr) nb big ms rs (H.map HdX.vs) = b_) :
 Calls Tryz.prog 13 #[.agg #[.string nm, .slice am nn cm, .slice ar nr cr], .slice ac cs.length cc, .slice aq rr.length cq, .slice ah nh ch] w fun e w' => e = .returned (.bool b_) ∧ Below w.heap.size w w' := by
 obtain ⟨fe, hfe_⟩ : ∃ e, formedE nb big ms rs = e := ⟨_, rfl⟩; have HFE := hI hfe_; have HB := hI hb; have HNB := hI hnb; have HBG := hI hbg; have HZXL := hI hzx; have HLX := hI hlx; clear hfe_ hb hnb hbg hzx hlx; have HM : Hid (RdMt G w am nn cm ms) := hm; have HR : Hid (RdRg G w ar nr cr rs) := hr; have HC : Hid (CtIn w (.slice ac cs.length cc) cs) := hc; have HQ : Hid (RcIn w (.slice aq rr.length cq) rr) := hq; have HHX : Hid (RdHX G w ah nh ch H) := hh; clear hm hr hc hq hh; have M : Hid (Below w.heap.size w w) := Below.refl _ _; go_enter Tryz.func13, Tryz.ntmps13
 go_upto_region 1 with fail
 generalize hv : World.alloc w _ = w1; replace M := alM hv.symm M; clear hv
 by_cases hem_ : fe = 0
 ·
  subst hem_; have HFM : Hid (RgIn ms.length rs) := rgIn_of HFE.out
  by_cases hln_ : nh = nn
  ·
   have n2_ : ((nh : Int) != (nn : Int)) = false := by rw [hln_]; simp
   have HLL : Hid ((H.map HdX.vs).length = ms.length) := by show _ = _; rw [List.length_map, HHX.out.len, HM.out.len]; exact hln_
   have HLN := hI hln_; clear hln_; refine (Y0 M).D3 fun aa ab ad => ?_; go_wp2_with fail
   clear aa ab ad; refine (rFormed (G := G) (nm := nm) (nb := nb) (big := big) (er := 0) (Nat.le_trans hG (J1 M).size) (HM.out.keep (J1 M)) (HR.out.keep (J1 M)) (HC.out.keep (J1 M)) (HQ.out.keep (J1 M)) (by omega) (by omega) (by omega) (by omega) (by omega) HNB.out HBG.out HFE.out).mono ?_; rintro e w2 ⟨rfl, hb⟩; replace M := gnM hb M; clear hb; refine (Y0 M).D3 fun aa ab ad => ?_; go_wp2_with fail
   clear aa ab ad; go_loopw [9] (fun i9 wr => ∃ (k : Nat), i9 = .int .i64 (k : Int) ∧ Hid (k ≤ nh) ∧ Hid ((List.range k).all (listK ms (H.map HdX.vs)) = true) ∧ Hid (Bx wr w.heap.size 25 #[.string nm, .slice am nn cm, .slice ar nr cr] ∧ Below w.heap.size w wr)) (fun i9 _ => nh - (RowKit.intOf i9).toNat)
   case atStart =>
    exact ⟨0, rfl, (by show _ ≤ _; omega), (hI rfl), hI (aI (Y0 M) (J1 M))⟩
   case round =>
    obtain ⟨w3, rfl⟩ : ∃ x, x = wr := ⟨_, rfl⟩; clear M; obtain ⟨k, rfl, hk, HA, M⟩ := hrel; have hk := hk.out
    by_cases hlt : k < nh
    ·
     refine ltW (show k < nh by omega) fun e1_0 e1_1 e1_i => ?_; have hkn_ : k < nn := by have h_ := HLN.out; omega
     obtain ⟨bh, ofh, rfl, hb_⟩ := RdL.ptr HHX.out (by omega : 0 < nh); have hbkbh := hI hb_; have hkl_ : k < H.length := by rw [HHX.out.len]; exact hlt
     obtain ⟨y_, hx_⟩ : ∃ x, H[k]? = some x := ⟨H[k], List.getElem?_eq_getElem hkl_⟩; obtain ⟨ya, yn, yc, yl⟩ := y_; have HRy : Hid (Row w bh (ofh + k) [.slice ya yn yc]) := by have h_ := hb_.row hx_; rw [show k * El.sz HdX = k from Nat.mul_one _] at h_; exact h_
     have HDy : Hid (RdX G w ya yn yc yl) := hb_.ok hx_; have HEy := hI hx_; have HZy : Hid (XZ yl 60) := HZXL.out _ (List.mem_of_getElem? hx_); have hny : yn ≤ 1000 := by have h_ := HLX.out _ (List.mem_of_getElem? hx_); have h2_ := (HDy.out).len; simp only at h_; omega
     clear hx_ hb_ hkl_; obtain ⟨bm, ofm, rfl, hb_⟩ := RdL.ptr HM.out (by omega : 0 < nn); have hbkbm := hI hb_; have hkl_ : k < ms.length := by rw [HM.out.len]; exact hkn_
     obtain ⟨z_, hx_⟩ : ∃ x, ms[k]? = some x := ⟨ms[k], List.getElem?_eq_getElem hkl_⟩; obtain ⟨zs, zf, zu⟩ := z_; have HRz : Hid (Row w bm (ofm + k * 3) [.int .i64 zs, .int .i64 zf, .int .i64 zu]) := hb_.row hx_; have HEz := hI hx_; have hlz := hkl_; clear hx_ hb_ hkl_; have hkm_ : k < ms.length := by rw [HM.out.len]; exact hkn_
     have hmz_ := mErr_zero hkm_ ((formed_zero.1 HFE.out).2.2.1 k hkm_); rw [getD_of HEz.out] at hmz_; simp only at hmz_; have hzf0 : 0 ≤ zf := hmz_.1; have hzfu : zf ≤ zu := by omega
     have hzu : zu ≤ 100000 := hmz_.2.2.1; clear hmz_; have hws_ : IntKind.i64.wrap (zu - zf) = zu - zf := by rw [IntKind.wrap_i64]; omega
     have hwt_ : IntKind.i64.wrap (zu - zf + 1) = zu - zf + 1 := by rw [IntKind.wrap_i64]; omega
     have HZX := HZy; have HYV : Hid ((H.map HdX.vs).getD k [] = (yl.map XC.o)) := hv_at HEy.out
     by_cases hly_ : (yn : Int) = zu - zf + 1
     ·
      have n1_ : ((yn : Int) != zu - zf + 1) = false := by rw [hly_]; simp
      have HLY := hI hly_; clear hly_; go_wp2_with fail
      refine nmW w3.drew fun w4 hv => ?_; replace M := drM hv M; refine rgW (S := (fun w' => w'.cell? ⟨w.heap.size, 0, none⟩ = some (.string nm) ∧ w'.cell? ⟨w.heap.size, 1, none⟩ = some (.slice (some ⟨bm, ofm, none⟩) nn cm) ∧ w'.cell? ⟨w.heap.size, 2, none⟩ = some (.slice ar nr cr) ∧ w'.cell? ⟨bh, ofh + k, none⟩ = some (.slice ya yn yc) ∧ w'.cell? ⟨bm, ofm + k * 3, none⟩ = some (.int .i64 zs) ∧ w'.cell? ⟨bm, ofm + k * 3 + 1, none⟩ = some (.int .i64 zf) ∧ w'.cell? ⟨bm, ofm + k * 3 + 2, none⟩ = some (.int .i64 zu))) hv ((Y0 M).t3 ((HRy.out.keep (J1 M)).t1 ((HRz.out.keep (J1 M)).c3))) fun hH1 => ?_; clear hv; refine tk8 at0 at1 at2 at3 at4 at5 at6 at7 ?_; refine tk8 at8 at9 at10 at11 at12 at13 at14 at15 ?_; refine tk4 at16 at17 at18 at19 ?_; refine dnW ?_; clear hH1; go_wp2_with fail
      go_loopw [10] (fun i10 wr => ∃ (j : Nat), i10 = .int .i64 (j : Int) ∧ Hid (j ≤ yn) ∧ Hid ((List.range j).all (valB (yl.map XC.o)) = true) ∧ Hid (Bx wr w.heap.size 25 #[.string nm, .slice (some ⟨bm, ofm, none⟩) nn cm, .slice ar nr cr] ∧ Below w.heap.size w wr)) (fun i10 _ => yn - (RowKit.intOf i10).toNat)
      case atStart =>
       exact ⟨0, rfl, (by show _ ≤ _; omega), (hI rfl), hI (aI (Y0 M) (J1 M))⟩
      case round =>
       obtain ⟨w5, rfl⟩ : ∃ x, x = wr := ⟨_, rfl⟩; clear M; obtain ⟨j, rfl, hj, HV, M⟩ := hrel; have hj := hj.out
       by_cases hlt2 : j < yn
       ·
        refine ltW (show j < yn by omega) fun e2_0 e2_1 e2_i => ?_; obtain ⟨bv, ofv, rfl, hb_⟩ := RdL.ptr HDy.out (by omega : 0 < yn); have hbkbv := hI hb_; have hkl_ : j < yl.length := by rw [HDy.out.len]; exact hlt2
        obtain ⟨x_, hx_⟩ : ∃ x, yl[j]? = some x := ⟨yl[j], List.getElem?_eq_getElem hkl_⟩; obtain ⟨xu0, xu1, xu2, xu3, xa, xb, xo⟩ := x_; have HRx : Hid (Row w bv (ofv + j * 4) [xu0, xu1, xu2, xu3]) := hb_.row hx_; have HKx : Hid (XOk G w xu0 xu1 xu2 xu3 xa xb xo) := hb_.ok hx_; have HEx := hI hx_; have hz_ := HZX.out _ (List.mem_of_getElem? hx_); have hzxa : xa ≤ 60 := hz_.1; have hzxb : xb ≤ 60 := hz_.2.1; have HZx := hI hz_.2.2; have HVx : Hid ((yl.map XC.o)[j]? = some xo) := x_at hx_; clear hx_ hb_ hkl_ hz_; have hlv_ : j < (yl.map XC.o).length := by rw [List.length_map, HDy.out.len]; exact hlt2
        rcases xo with _ | xq
        ·
         have HFx : Hid (FX w xu0 xu1 xu2 xu3 xa xb none) := HKx.out.fx; have HNO : Hid (allowB (ivOf cs rr) nb big ms rs (H.map HdX.vs) = false) := allowR_list HFE.out HLL.out HFM.out hkm_ (listK_is HEz.out HYV.out (listB_val hlv_ (valB_none HVx.out))); have yr0 := (HRy.out.keep (J1 M)).c1; have r0_0 := yr0; clear yr0; refine cj4 (HRx.out.keep (J1 M)).c4 fun r2_0 r2_1 r2_2 r2_3 => ?_; go_wp2_with fail
         clear r0_0 r2_0 r2_1 r2_2 r2_3; refine (fyRight_ok (o := none) (b_ := false) (HFx.out.keep (J1 M)) (by omega) (by omega) rfl).mono ?_; rintro e w6 ⟨rfl, hb⟩; replace M := gnM hb M; clear hb; go_wp2_with fail
         go_ret
         exact ⟨by rw [← HB.out, HNO.out] <;> rfl, (J1 M)⟩
        ·
         have HQx : Hid (FQ G w xu0 xu1 xu2 xu3 xq) := HKx.out.1; have HFx : Hid (Fz xq 60) := HZx.out _ rfl; obtain ⟨ks, hks_⟩ : ∃ k, sg (nu xq) = k := ⟨_, rfl⟩; obtain ⟨t1, ht1_⟩ : ∃ b, decide (xq < 0) = b := ⟨_, rfl⟩; have hk1_ : decide (ks < 0) = t1 := by rw [← ht1_, ← hks_]; exact decide_eq_decide.2 (sg_neg_iff _)
         have HKS := hI hks_; have HT1 := hI ht1_; clear hks_ ht1_; have HNO : Hid (t1 = true → allowB (ivOf cs rr) nb big ms rs (H.map HdX.vs) = false) := fun h_ => allowR_list HFE.out HLL.out HFM.out hkm_ (listK_is HEz.out HYV.out (listB_val hlv_ (valB_low HVx.out (HT1.out.trans h_))))
         have yr0 := (HRy.out.keep (J1 M)).c1; have r0_0 := yr0; clear yr0; refine cj4 (HRx.out.keep (J1 M)).c4 fun r2_0 r2_1 r2_2 r2_3 => ?_; go_wp2_with fail
         clear r0_0 r2_0 r2_1 r2_2 r2_3; refine (rqRight (G := G) (q := xq) (HQx.out.keep (J1 M)) (Fz.mono HFx.out (by omega))).mono ?_; rintro e w6 ⟨rfl, hb⟩; replace M := gnM hb M; clear hb; have yr0 := (HRy.out.keep (J1 M)).c1; have r0_0 := yr0; clear yr0; refine cj4 (HRx.out.keep (J1 M)).c4 fun r2_0 r2_1 r2_2 r2_3 => ?_; go_wp2_with fail
         clear r0_0 r2_0 r2_1 r2_2 r2_3; refine (rqSign (G := G) (q := xq) (k := ks) (HQx.out.keep (J1 M)) (Fz.mono HFx.out (by omega)) HKS.out).mono ?_; rintro e w7 ⟨rfl, hb⟩; replace M := gnM hb M; clear hb
         cases t1 with
         | false =>
          go_upto_region 13 with fail
          clear HNO
          by_cases hk0 : 0 < j
          ·
           have e0_0 : decide (0 < j) = true := decide_eq_true (by omega); have e0_1 : decide (0 < (j : Int)) = true := decide_eq_true (by omega); have e0_i : 0 < (j : Int) := by omega
           have hix0 : (0 : Int) ≤ (j : Int) - 1 := by omega
           have hix1 : (j : Int) - 1 < (yn : Int) := by omega
           have hix2 : ((j : Int) - 1).toNat = j - 1 := by omega
           have hix3 : IntKind.i64.wrap ((j : Int) - 1) = (j : Int) - 1 := by rw [IntKind.wrap_i64]; omega
           have hix4 : (1 : Int) ≤ (j : Int) := by omega
           have hmx_ : max ((j : Int) - 1) 0 = (j : Int) - 1 := by omega
           have hb_ := hbkbv.out; have hkl_ : (j - 1) < yl.length := by rw [HDy.out.len]; omega
           obtain ⟨p_, hx_⟩ : ∃ x, yl[(j - 1)]? = some x := ⟨yl[(j - 1)], List.getElem?_eq_getElem hkl_⟩; obtain ⟨pu0, pu1, pu2, pu3, pa, pb, po⟩ := p_; have HRp : Hid (Row w bv (ofv + (j - 1) * 4) [pu0, pu1, pu2, pu3]) := hb_.row hx_; have HKp : Hid (XOk G w pu0 pu1 pu2 pu3 pa pb po) := hb_.ok hx_; have HEp := hI hx_; have hz_ := HZX.out _ (List.mem_of_getElem? hx_); have hzpa : pa ≤ 60 := hz_.1; have hzpb : pb ≤ 60 := hz_.2.1; have HZp := hI hz_.2.2; have HVp : Hid ((yl.map XC.o)[(j - 1)]? = some po) := x_at hx_; clear hx_ hb_ hkl_ hz_; obtain ⟨pq, hpq_⟩ := val_some HV.out (show j - 1 < j by omega); obtain rfl : po = some pq := Option.some.inj (HVp.out.symm.trans hpq_); clear hpq_; have HQp : Hid (FQ G w pu0 pu1 pu2 pu3 pq) := HKp.out.1; have HFp : Hid (Fz pq 60) := HZp.out _ rfl; obtain ⟨kv, hkv_⟩ : ∃ k, ordQ pq xq = k := ⟨_, rfl⟩; obtain ⟨t2, ht2_⟩ : ∃ b, decide (xq < pq) = b := ⟨_, rfl⟩; have hk2_ : decide (0 < kv) = t2 := by rw [← ht2_, ← hkv_, ordQ_gt0]
           have HKV := hI hkv_; have HT2 := hI ht2_; clear hkv_ ht2_; have HVB := hI (valB_next HVx.out hk0 HVp.out HT1.out HT2.out); have HNO : Hid ((!false && !t2) = false → allowB (ivOf cs rr) nb big ms rs (H.map HdX.vs) = false) := fun h_ => allowR_list HFE.out HLL.out HFM.out hkm_ (listK_is HEz.out HYV.out (listB_val hlv_ (HVB.out.trans h_)))
           go_wp2_with fail
           refine nmW w7.drew fun w8 hv => ?_; replace M := drM hv M; refine rgW (S := (fun w' => w'.cell? ⟨bh, ofh + k, none⟩ = some (.slice (some ⟨bv, ofv, none⟩) yn yc) ∧ w'.cell? ⟨bv, ofv + (j - 1) * 4, none⟩ = some (pu0) ∧ w'.cell? ⟨bv, ofv + (j - 1) * 4 + 1, none⟩ = some (pu1) ∧ w'.cell? ⟨bv, ofv + (j - 1) * 4 + 2, none⟩ = some (pu2) ∧ w'.cell? ⟨bv, ofv + (j - 1) * 4 + 3, none⟩ = some (pu3) ∧ w'.cell? ⟨bv, ofv + j * 4, none⟩ = some (xu0) ∧ w'.cell? ⟨bv, ofv + j * 4 + 1, none⟩ = some (xu1) ∧ w'.cell? ⟨bv, ofv + j * 4 + 2, none⟩ = some (xu2) ∧ w'.cell? ⟨bv, ofv + j * 4 + 3, none⟩ = some (xu3))) hv ((HRy.out.keep (J1 M)).t1 ((HRp.out.keep (J1 M)).t4 ((HRx.out.keep (J1 M)).c4))) fun hH2 => ?_; clear hv; refine tk8 at0 at1 at2 at3 at4 at5 at6 at7 ?_; refine tk8 at8 at9 at10 at11 at12 at13 at14 at15 ?_; refine tk2 at16 at17 ?_; refine tk at18 ?_; refine roW at19 fun K hK => ?_; go_simp; refine (rqCompare (G := G) (q := pq) (r := xq) (k := kv) (HQp.out.keep (J1 M)) (HQx.out.keep (J1 M)) (Fz.mono HFp.out (by omega)) (Fz.mono HFx.out (by omega)) HKV.out).mono ?_; rintro e w9 ⟨rfl, hb⟩; replace M := gnM hb M; clear hb; (try go_wp2_with fail)
           refine hK.out _ _ (((HRy.out.keep (J1 M)).t1 ((HRp.out.keep (J1 M)).t4 ((HRx.out.keep (J1 M)).c4)))) (fun hH3 => ?_); clear hK K hH2; (try simp only [Act.put, kq])
           refine tk2 at20 at21 ?_; refine dnW ?_; clear hH3
           cases t2 with
           | false =>
            go_wp2_with fail
            go_roundw
            case rel => exact ⟨(j + 1), by go_num, (by show _ ≤ _; omega), (hI (range_next HV.out HVB.out)), hI (aI (Y0 M) (J1 M))⟩
            case measure => simp [RowKit.intOf] <;> omega
           | true =>
            go_wp2_with fail
            go_ret
            exact ⟨by rw [← HB.out, (HNO.out (by first | rfl | trivial))] <;> rfl, (J1 M)⟩
          ·
           have e0_0 : decide (0 < j) = false := decide_eq_false (by omega); have e0_1 : decide (0 < (j : Int)) = false := decide_eq_false (by omega); have e0_i : ¬ 0 < (j : Int) := by omega
           have HVB := hI (valB_zero HVx.out (show j = 0 by omega) HT1.out); go_wp2_with fail
           refine nmW w7.drew fun w8 hv => ?_; replace M := drM hv M; refine wp_region_held_drew (S := (fun _ => True)) (by kernel_rfl) trivial (fun hH4 => ?_); rw [← hv]; clear hv; refine tk2 at0 at1 ?_; refine tk at2 ?_; refine tu8 at3 at4 at5 at6 at7 at8 at9 at10 ?_; refine tu8 at11 at12 at13 at14 at15 at16 at17 at18 ?_; refine roW at19 fun K hK => ?_; rw [if_neg]
           rotate_left
           focus (intro h; exact Bool.noConfusion h)
           refine hK.out _ _ hH4 (fun _ => ?_); clear hK K; (try simp only [Act.put, kq])
           refine tu at20 ?_; refine tk at21 ?_; refine dnW ?_; clear hH4; go_wp2_with fail
           go_roundw
           case rel => exact ⟨(j + 1), by go_num, (by show _ ≤ _; omega), (hI (range_next HV.out HVB.out)), hI (aI (Y0 M) (J1 M))⟩
           case measure => simp [RowKit.intOf] <;> omega
         | true =>
          go_wp2_with fail
          go_ret
          exact ⟨by rw [← HB.out, (HNO.out (by first | rfl | trivial))] <;> rfl, (J1 M)⟩
       ·
        refine geW (show ¬ j < yn by omega) fun e2_0 e2_1 e2_i => ?_; have HKK : Hid (listK ms (H.map HdX.vs) k = true) := listK_is HEz.out HYV.out (listB_yes (by rw [List.length_map, HDy.out.len]; exact HLY.out) (by rw [List.length_map, HDy.out.len, show yn = j by omega]; exact HV.out)); have yr0 := (HRy.out.keep (J1 M)).c1; have r0_0 := yr0; clear yr0; go_wp2_with fail
        clear r0_0; go_roundw
        case rel => exact ⟨(k + 1), by go_num, (by show _ ≤ _; omega), (hI (range_next HA.out HKK.out)), hI (aI (Y0 M) (J1 M))⟩
        case measure => simp [RowKit.intOf] <;> omega
     ·
      have n1_ : ((yn : Int) != zu - zf + 1) = true := bne_iff_ne.2 hly_; have HNO : Hid (allowB (ivOf cs rr) nb big ms rs (H.map HdX.vs) = false) := allowR_list HFE.out HLL.out HFM.out hkm_ (listK_is HEz.out HYV.out (listB_len (by rw [List.length_map, HDy.out.len]; exact hly_))); clear hly_; go_wp2_with fail
      refine nmW w3.drew fun w4 hv => ?_; replace M := drM hv M; refine rgW (S := (fun w' => w'.cell? ⟨w.heap.size, 0, none⟩ = some (.string nm) ∧ w'.cell? ⟨w.heap.size, 1, none⟩ = some (.slice (some ⟨bm, ofm, none⟩) nn cm) ∧ w'.cell? ⟨w.heap.size, 2, none⟩ = some (.slice ar nr cr) ∧ w'.cell? ⟨bh, ofh + k, none⟩ = some (.slice ya yn yc) ∧ w'.cell? ⟨bm, ofm + k * 3, none⟩ = some (.int .i64 zs) ∧ w'.cell? ⟨bm, ofm + k * 3 + 1, none⟩ = some (.int .i64 zf) ∧ w'.cell? ⟨bm, ofm + k * 3 + 2, none⟩ = some (.int .i64 zu))) hv ((Y0 M).t3 ((HRy.out.keep (J1 M)).t1 ((HRz.out.keep (J1 M)).c3))) fun hH5 => ?_; clear hv; refine tk8 at0 at1 at2 at3 at4 at5 at6 at7 ?_; refine tk8 at8 at9 at10 at11 at12 at13 at14 at15 ?_; refine tk4 at16 at17 at18 at19 ?_; refine dnW ?_; clear hH5; go_wp2_with fail
      go_ret
      exact ⟨by rw [← HB.out, HNO.out] <;> rfl, (J1 M)⟩
    ·
     refine geW (show ¬ k < nh by omega) fun e1_0 e1_1 e1_i => ?_; have HAL : Hid ((List.range ms.length).all (listK ms (H.map HdX.vs)) = true) := by show _ = _; rw [HM.out.len, show nn = k by have h_ := HLN.out; omega]; exact HA.out
     go_wp2_with fail
     go_loopw [11] (fun i11 wr => ∃ (i : Nat), i11 = .int .i64 (i : Int) ∧ Hid (i ≤ nr) ∧ Hid ((rs.take i).all (readB (ivOf cs rr) ms (H.map HdX.vs)) = true) ∧ Hid (Bx wr w.heap.size 25 #[.string nm, .slice am nn cm, .slice ar nr cr] ∧ Below w.heap.size w wr)) (fun i11 _ => nr - (RowKit.intOf i11).toNat)
     case atStart =>
      exact ⟨0, rfl, (by show _ ≤ _; omega), (hI rfl), hI (aI (Y0 M) (J1 M))⟩
     case round =>
      obtain ⟨w4, rfl⟩ : ∃ x, x = wr := ⟨_, rfl⟩; clear M; obtain ⟨i, rfl, hi, HRD, M⟩ := hrel; have hi := hi.out
      by_cases hlt4 : i < nr
      ·
       refine ltW (show i < nr by omega) fun e4_0 e4_1 e4_i => ?_; obtain ⟨br, ofr, rfl, hb_⟩ := RdL.ptr HR.out (by omega : 0 < nr); have hbkbr := hI hb_; have hkl_ : i < rs.length := by rw [HR.out.len]; exact hlt4
       obtain ⟨x_, hx_⟩ : ∃ x, rs[i]? = some x := ⟨rs[i], List.getElem?_eq_getElem hkl_⟩; obtain ⟨xm, xd, xc⟩ := x_; have HRx : Hid (Row w br (ofr + i * 3) [.int .i64 xm, .int .i64 xd, .int .i64 xc]) := hb_.row hx_; have HEx := hI hx_; have hlx := hkl_; clear hx_ hb_ hkl_; have hx_ := HFM.out i _ HEx.out; obtain ⟨q, hq_⟩ : ∃ q : Nat, xm = (q : Int) := ⟨xm.toNat, by have := hx_.1; simp only at this; omega⟩; subst hq_; have hqn : q < nn := by have h_ := hx_.2; have h2_ := HM.out.len; simp only at h_; omega
       clear hx_; obtain ⟨bm, ofm, rfl, hb_⟩ := RdL.ptr HM.out (by omega : 0 < nn); have hbkbm := hI hb_; have hkl_ : q < ms.length := by rw [HM.out.len]; exact hqn
       obtain ⟨z_, hx_⟩ : ∃ x, ms[q]? = some x := ⟨ms[q], List.getElem?_eq_getElem hkl_⟩; obtain ⟨zs, zf, zu⟩ := z_; have HRz : Hid (Row w bm (ofm + q * 3) [.int .i64 zs, .int .i64 zf, .int .i64 zu]) := hb_.row hx_; have HEz := hI hx_; have hlz := hkl_; clear hx_ hb_ hkl_; have HMTx : Hid ((mtAt ms (q : Int)).s = zs) := by show (ms.getD _ _).s = _; rw [show ((q : Int)).toNat = q from rfl, getD_of HEz.out]
       obtain ⟨olx, hol_⟩ : ∃ o, loO cs rr zs xc xd = o := ⟨_, rfl⟩; have HOLx := hI hol_; clear hol_; obtain ⟨ohx, hoh_⟩ : ∃ o, hiO cs rr zs xc xd = o := ⟨_, rfl⟩; have HOHx := hI hoh_; clear hoh_; obtain ⟨bvx, hbv_⟩ : ∃ o, hasI cs rr zs xc xd = o := ⟨_, rfl⟩; have HBVx := hI hbv_; clear hbv_; have hir_ : i < nr := hlt4; have hqh_ : q < nh := by have h_ := HLN.out; omega
       obtain ⟨bh, ofh, rfl, hb_⟩ := RdL.ptr HHX.out (by omega : 0 < nh); have hbkbh := hI hb_; have hkl_ : q < H.length := by rw [HHX.out.len]; exact hqh_
       obtain ⟨y_, hx_⟩ : ∃ x, H[q]? = some x := ⟨H[q], List.getElem?_eq_getElem hkl_⟩; obtain ⟨ya, yn, yc, yl⟩ := y_; have HRy : Hid (Row w bh (ofh + q) [.slice ya yn yc]) := by have h_ := hb_.row hx_; rw [show q * El.sz HdX = q from Nat.mul_one _] at h_; exact h_
       have HDy : Hid (RdX G w ya yn yc yl) := hb_.ok hx_; have HEy := hI hx_; have HZy : Hid (XZ yl 60) := HZXL.out _ (List.mem_of_getElem? hx_); have hny : yn ≤ 1000 := by have h_ := HLX.out _ (List.mem_of_getElem? hx_); have h2_ := (HDy.out).len; simp only at h_; omega
       clear hx_ hb_ hkl_; have HYV : Hid ((H.map HdX.vs).getD q [] = (yl.map XC.o)) := hv_at HEy.out; have hlk_ := listK_at HAL.out (show q < ms.length by rw [HM.out.len]; exact hqn) HEz.out HYV.out; have hin_ := read_in HFE.out HEx.out; rw [show mtAt ms (q : Int) = (⟨zs, zf, zu⟩ : Mt) from getD_of HEz.out] at hin_; simp only at hin_; have hmz_ := mErr_zero (show q < ms.length by rw [HM.out.len]; exact hqn) ((formed_zero.1 HFE.out).2.2.1 q (by rw [HM.out.len]; exact hqn)); rw [getD_of HEz.out] at hmz_; simp only at hmz_; have hlq_ : (yn : Int) = zu - zf + 1 := by have h_ := hlk_.1; rwa [List.length_map, HDy.out.len] at h_
       obtain ⟨j0, hj0_⟩ : ∃ j : Nat, xd = zf + (j : Int) := ⟨(xd - zf).toNat, by omega⟩; have hjv_ : j0 < yn := by omega
       have hjx0 : (0 : Int) ≤ (j0 : Int) := by omega
       have hjx1 : (j0 : Int) < (yn : Int) := by omega
       have hjx2 : xd - zf = (j0 : Int) := by omega
       have hjx3 : IntKind.i64.wrap (j0 : Int) = (j0 : Int) := by rw [IntKind.wrap_i64]; omega
       have HJ0 := hI hj0_; clear hj0_ hlq_ hmz_ hin_; have HZX := HZy; obtain ⟨bv, ofv, rfl, hb_⟩ := RdL.ptr HDy.out (by omega : 0 < yn); have hbkbv := hI hb_; have hkl_ : j0 < yl.length := by rw [HDy.out.len]; omega
       obtain ⟨v_, hx_⟩ : ∃ x, yl[j0]? = some x := ⟨yl[j0], List.getElem?_eq_getElem hkl_⟩; obtain ⟨vu0, vu1, vu2, vu3, va, vb, vo⟩ := v_; have HRv : Hid (Row w bv (ofv + j0 * 4) [vu0, vu1, vu2, vu3]) := hb_.row hx_; have HKv : Hid (XOk G w vu0 vu1 vu2 vu3 va vb vo) := hb_.ok hx_; have HEv := hI hx_; have hz_ := HZX.out _ (List.mem_of_getElem? hx_); have hzva : va ≤ 60 := hz_.1; have hzvb : vb ≤ 60 := hz_.2.1; have HZv := hI hz_.2.2; have HVv : Hid ((yl.map XC.o)[j0]? = some vo) := x_at hx_; clear hx_ hb_ hkl_ hz_; obtain ⟨vq, hvq_⟩ := val_some hlk_.2 (show j0 < (yl.map XC.o).length by rw [List.length_map, HDy.out.len]; exact hjv_); obtain rfl : vo = some vq := Option.some.inj (HVv.out.symm.trans hvq_); clear hvq_ hlk_; have HQv : Hid (FQ G w vu0 vu1 vu2 vu3 vq) := HKv.out.1; have HFv : Hid (Fz vq 60) := HZv.out _ rfl; refine (Y0 M).D3 fun aa ab ad => ?_; have z0 := (Y0 M).lt; refine cj3 (HRx.out.keep (J1 M)).c3 fun r0_0 r0_1 r0_2 => ?_; go_upto_region 19 with fail
       clear aa ab ad z0 r0_0 r0_1 r0_2; generalize hv : World.alloc w4 _ = w5; have ow1_ := (Y0 M).lt; replace M := alM hv.symm M; clear hv; refine (Y1 M).D3 fun aa ab ad => ?_; go_wp2_with fail
       clear aa ab ad; refine (rInterval (G := G) (yd := xd) (yc := xc) (vs := zs) (vf := zf) (vu := zu) (ol := olx) (oh := ohx) (bv := bvx) (nm := nm) (Nat.le_trans hG (J2 M).size) (HM.out.keep (J2 M)) (HR.out.keep (J2 M)) (HC.out.keep (J2 M)) (HQ.out.keep (J2 M)) (by omega) (by omega) (by omega) (by omega) (by omega) hir_ hqn HEx.out HEz.out HOLx.out HOHx.out HBVx.out).mono ?_; rintro e w6 ⟨x_6, x_7, x_8, x_9, x_10, x_11, x_12, x_13, rfl, hd14, hd15, hb⟩; replace M := ad2M hd14 hd15 hb M; clear hb hd14 hd15; refine cj4 (TQ.st (Y0 M)) fun ae af ag ai => ?_; refine cj4 (TQ.st (Y1 M)) fun aj ak al ao => ?_; go_wp2_with fail
       clear ae af ag ai aj ak al ao; generalize hv : World.alloc (World.alloc w6 _) _ = w7; have ow2_ := ((Y2 M)).lt; replace M := al2W hv.symm M; clear hv; refine nmW w7.drew fun w8 hv => ?_; replace M := drM hv M; refine rgW (S := (fun w' => w'.cell? ⟨w.heap.size, 0, none⟩ = some (.string nm) ∧ w'.cell? ⟨w.heap.size, 1, none⟩ = some (.slice (some ⟨bm, ofm, none⟩) nn cm) ∧ w'.cell? ⟨w.heap.size, 2, none⟩ = some (.slice (some ⟨br, ofr, none⟩) nr cr) ∧ w'.cell? ⟨w4.heap.size, 0, none⟩ = some (.int .i64 (q : Int)) ∧ w'.cell? ⟨w4.heap.size, 1, none⟩ = some (.int .i64 xd) ∧ w'.cell? ⟨w4.heap.size, 2, none⟩ = some (.int .i64 xc) ∧ w'.cell? ⟨bh, ofh + q, none⟩ = some (.slice (some ⟨bv, ofv, none⟩) yn yc) ∧ w'.cell? ⟨bm, ofm + q * 3, none⟩ = some (.int .i64 zs) ∧ w'.cell? ⟨bm, ofm + q * 3 + 1, none⟩ = some (.int .i64 zf) ∧ w'.cell? ⟨bm, ofm + q * 3 + 2, none⟩ = some (.int .i64 zu) ∧ w'.cell? ⟨bv, ofv + j0 * 4, none⟩ = some (vu0) ∧ w'.cell? ⟨bv, ofv + j0 * 4 + 1, none⟩ = some (vu1) ∧ w'.cell? ⟨bv, ofv + j0 * 4 + 2, none⟩ = some (vu2) ∧ w'.cell? ⟨bv, ofv + j0 * 4 + 3, none⟩ = some (vu3))) hv ((Y5 M).t3 ((Y4 M).t3 ((HRy.out.keep (J6 M)).t1 ((HRz.out.keep (J6 M)).t3 ((HRv.out.keep (J6 M)).c4))))) fun hH16 => ?_; clear hv; refine tk8 at0 at1 at2 at3 at4 at5 at6 at7 ?_; refine tk8 at8 at9 at10 at11 at12 at13 at14 at15 ?_; refine tk at16 ?_; refine roW at17 fun K hK => ?_; go_simp; generalize hv : World.alloc w8 _ = w9; have ow4_ := (Y0 M).lt; replace M := alM hv.symm M; clear hv; refine hK.out _ _ (((Y6 M).t3 ((Y5 M).t3 ((HRy.out.keep (J7 M)).t1 ((HRz.out.keep (J7 M)).t3 ((HRv.out.keep (J7 M)).c4)))))) (fun hH17 => ?_); clear hK K hH16; (try simp only [Act.put, kq])
       refine roW at18 fun K hK => ?_; refine cj8 (Y0 M).c4 fun ap au av aw ax ay az ba => ?_; refine cj4 (TQ.st (HQv.out.keep (J7 M))) fun bb bc bd bf => ?_; go_simp; clear ap au av aw ax ay az ba bb bc bd bf; refine st4V (vu0) (vu1) (vu2) (vu3) (Y0 M) (J7 M) fun w10 hv og hk hbw => ?_; rw [← hv]; replace M := hI (aI hk (aI ((Y1 M).o og) (aI ((Y2 M).o og) (aI ((Y3 M).f (Y0 M) og) (aI ((Y4 M).f (Y0 M) og) (aI ((Y5 M).o og) (aI ((Y6 M).o og) hbw))))))); clear hk hbw og hv; refine hK.out _ _ (((Y6 M).t3 ((Y5 M).t3 ((HRy.out.keep (J7 M)).t1 ((HRz.out.keep (J7 M)).t3 ((HRv.out.keep (J7 M)).c4)))))) (fun hH18 => ?_); clear hK K hH17; (try simp only [Act.put, kq])
       refine dnW ?_; clear hH18; go_upto_region 21 with fail
       rcases hiv_ : ivl cs rr zs xc xd with _ | ⟨xlo, xhi⟩
       ·
        obtain rfl : olx = none := by rw [← HOLx.out]; unfold loO; rw [hiv_]; rfl
        obtain rfl : ohx = none := by rw [← HOHx.out]; unfold hiO; rw [hiv_]; rfl
        obtain rfl : bvx = false := by rw [← HBVx.out]; unfold hasI; rw [hiv_]; rfl
        have HIVx := hI hiv_; clear hiv_; have HRB : Hid (readB (ivOf cs rr) ms (H.map HdX.vs) ⟨(q : Int), xd, xc⟩ = true) := readB_none HMTx.out HIVx.out; go_wp2_with fail
        go_roundw
        case rel => exact ⟨(i + 1), by go_num, (by show _ ≤ _; omega), (hI (allH_take HRD.out HEx.out HRB.out)), hI (aI (Y6 M) (J7 M))⟩
        case measure => simp [RowKit.intOf] <;> omega
       ·
        obtain rfl : olx = (some xlo) := by rw [← HOLx.out]; unfold loO; rw [hiv_]; rfl
        obtain rfl : ohx = (some xhi) := by rw [← HOHx.out]; unfold hiO; rw [hiv_]; rfl
        obtain rfl : bvx = true := by rw [← HBVx.out]; unfold hasI; rw [hiv_]; rfl
        have hz_ := ivl_size hiv_; have HZxl : Hid (Fz xlo 60) := hz_.1.mono (by omega); have HZxh : Hid (Fz xhi 60) := hz_.2.mono (by omega); have HIVx := hI hiv_; clear hiv_ hz_; obtain ⟨kv, hkv_⟩ : ∃ k, ordQ vq xlo = k := ⟨_, rfl⟩; obtain ⟨t3, ht3_⟩ : ∃ b, decide (vq < xlo) = b := ⟨_, rfl⟩; have ht3i_ : decide (kv < 0) = t3 := by rw [← ht3_, ← hkv_, ordQ_lt0]
        have HKV := hI hkv_; have HT3 := hI ht3_; clear hkv_ ht3_; obtain ⟨kw, hkw_⟩ : ∃ k, ordQ vq xhi = k := ⟨_, rfl⟩; obtain ⟨t4, ht4_⟩ : ∃ b, decide (xhi < vq) = b := ⟨_, rfl⟩; have ht4i_ : decide (0 < kw) = t4 := by rw [← ht4_, ← hkw_, ordQ_gt0]
        have HKW := hI hkw_; have HT4 := hI ht4_; clear hkw_ ht4_; have HRB : Hid (readB (ivOf cs rr) ms (H.map HdX.vs) ⟨(q : Int), xd, xc⟩ = (!t3 && !t4)) := readB_some HEz.out HJ0.out HIVx.out HYV.out HVv.out HT3.out HT4.out; have HNO : Hid ((!t3 && !t4) = false → allowB (ivOf cs rr) nb big ms rs (H.map HdX.vs) = false) := fun h_ => allowR_read HFE.out HLL.out HFM.out HEx.out (HRB.out.trans h_)
        refine (Y0 M).D4 fun ap av ax az => ?_; refine (Y2 M).D4 fun bg bi bj bk => ?_; go_wp2_with fail
        clear ap av ax az bg bi bj bk; refine (rqCompare (G := G) (q := vq) (r := xlo) (k := kv) (HQv.out.keep (J7 M)) (Y3 M) (Fz.mono HFv.out (by omega)) (Fz.mono HZxl.out (by omega)) HKV.out).mono ?_; rintro e w11 ⟨rfl, hb⟩; replace M := gnM hb M; clear hb
        cases t3 with
        | false =>
         refine (Y0 M).D4 fun ap av ax az => ?_; refine (Y1 M).D4 fun bl bn bo bp => ?_; go_wp2_with fail
         clear ap av ax az bl bn bo bp; refine (rqCompare (G := G) (q := vq) (r := xhi) (k := kw) (HQv.out.keep (J7 M)) (Y4 M) (Fz.mono HFv.out (by omega)) (Fz.mono HZxh.out (by omega)) HKW.out).mono ?_; rintro e w12 ⟨rfl, hb⟩; replace M := gnM hb M; clear hb
         cases t4 with
         | false =>
          go_wp2_with fail
          go_roundw
          case rel => exact ⟨(i + 1), by go_num, (by show _ ≤ _; omega), (hI (allH_take HRD.out HEx.out HRB.out)), hI (aI (Y6 M) (J7 M))⟩
          case measure => simp [RowKit.intOf] <;> omega
         | true =>
          go_wp2_with fail
          go_ret
          exact ⟨by rw [← HB.out, (HNO.out (by first | rfl | trivial))] <;> rfl, (J7 M)⟩
        | true =>
         go_wp2_with fail
         go_ret
         exact ⟨by rw [← HB.out, (HNO.out (by first | rfl | trivial))] <;> rfl, (J7 M)⟩
      ·
       refine geW (show ¬ i < nr by omega) fun e4_0 e4_1 e4_i => ?_; have HYES : Hid (allowB (ivOf cs rr) nb big ms rs (H.map HdX.vs) = true) := allowR_yes HFE.out HLL.out HFM.out HAL.out (by have h_ := HRD.out; rwa [List.take_of_length_le (by rw [HR.out.len]; omega)] at h_); refine (Y0 M).D3 fun aa ab ad => ?_; go_wp2_with fail
       clear aa ab ad; go_ret
       exact ⟨by rw [← HB.out, HYES.out] <;> rfl, (J1 M)⟩
  ·
   have n2_ : ((nh : Int) != (nn : Int)) = true := bne_iff_ne.2 (by omega); have HNO : Hid (allowB (ivOf cs rr) nb big ms rs (H.map HdX.vs) = false) := allow_len (by rw [List.length_map, HHX.out.len, HM.out.len]; exact hln_); clear hln_; refine (Y0 M).D3 fun aa ab ad => ?_; go_wp2_with fail
   clear aa ab ad; refine (rFormed (G := G) (nm := nm) (nb := nb) (big := big) (er := 0) (Nat.le_trans hG (J1 M).size) (HM.out.keep (J1 M)) (HR.out.keep (J1 M)) (HC.out.keep (J1 M)) (HQ.out.keep (J1 M)) (by omega) (by omega) (by omega) (by omega) (by omega) HNB.out HBG.out HFE.out).mono ?_; rintro e w2 ⟨rfl, hb⟩; replace M := gnM hb M; clear hb; refine (Y0 M).D3 fun aa ab ad => ?_; go_wp2_with fail
   clear aa ab ad; go_ret
   exact ⟨by rw [← HB.out, HNO.out] <;> rfl, (J1 M)⟩
 ·
  have em2_ : (fe != 0) = true := bne_iff_ne.2 hem_; have HNO : Hid (allowB (ivOf cs rr) nb big ms rs (H.map HdX.vs) = false) := allow_fe HFE.out hem_; clear hem_; refine (Y0 M).D3 fun aa ab ad => ?_; go_wp2_with fail
  clear aa ab ad; refine (rFormed (G := G) (nm := nm) (nb := nb) (big := big) (er := fe) (Nat.le_trans hG (J1 M).size) (HM.out.keep (J1 M)) (HR.out.keep (J1 M)) (HC.out.keep (J1 M)) (HQ.out.keep (J1 M)) (by omega) (by omega) (by omega) (by omega) (by omega) HNB.out HBG.out HFE.out).mono ?_; rintro e w2 ⟨rfl, hb⟩; replace M := gnM hb M; clear hb; go_wp2_with fail
  go_ret
  exact ⟨by rw [← HB.out, HNO.out] <;> rfl, (J1 M)⟩
end Go.Proofs.YtlcgckelamhnpaaGreat
