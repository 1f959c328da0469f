/- The reference: which stations are formed well. -/
import Derived.Test.YtlcgckelamhnpaaGreatCtD
import Derived.Test.YtlcgckelamhnpaaGreatLexRefN
set_option maxRecDepth 100000
set_option maxHeartbeats 4000000
namespace Go.Proofs.YtlcgckelamhnpaaGreat
open Go.RowKit Go.Lib
variable {G : Nat}
theorem ctNameR {s : ByteArray} {b_ : Bool} {w : World} (hs : s.size ≤ 1000) (hb : nameOk s.data.toList = b_) :
 Calls Tryz.prog 56 #[.string s] w fun e w' => e = .returned (.bool b_) ∧ Below w.heap.size w w' := by
 refine (refNameN s w (by unfold maxLen; omega)).mono ?_; rintro e w' ⟨rfl, rfl⟩; exact ⟨by rw [hb], Below.refl _ _⟩
theorem after_yes {x y : Rg} (h : y.m < x.m ∨ (x.m = y.m ∧ y.d < x.d)) : afterB x y = true := by
 unfold afterB; simp only [Bool.or_eq_true, Bool.and_eq_true, decide_eq_true_eq]; exact h
theorem after_no {x y : Rg} (h : ¬ (y.m < x.m ∨ (x.m = y.m ∧ y.d < x.d))) : afterB x y = false := by
 cases e : afterB x y with
 | false => rfl
 | true => unfold afterB at e; simp only [Bool.or_eq_true, Bool.and_eq_true, decide_eq_true_eq] at e; exact absurd e h
theorem rErr_5' {ms : List Mt} {l : List Rg} {k q : Nat} {d c s f u : Int} {y : Rg} (h0 : 0 < k) (hx : l[k]? = some ⟨(q : Int), d, c⟩) (h2 : ¬ (ms.length : Int) ≤ q) (h3 : ¬ c < 0) (h4 : ¬ 1099511627776 < c) (hy : ms[q]? = some ⟨s, f, u⟩) (h5 : ¬ d < f) (h6 : ¬ u < d) (hk : l[k - 1]? = some y) (ha : afterB ⟨(q : Int), d, c⟩ y = false) : rErr ms l k = 5 := by
 obtain ⟨j, rfl⟩ : ∃ j, k = j + 1 := ⟨k - 1, by omega⟩; exact rErr_5 hx h2 h3 h4 hy h5 h6 (by rwa [show j + 1 - 1 = j by omega] at hk) ha
theorem formed_nb {big : Bool} {ms : List Mt} {rs : List Rg} : formedE false big ms rs = 11 := by unfold formedE; rw [if_pos rfl]
theorem formed_bg {ms : List Mt} {rs : List Rg} : formedE true true ms rs = 6 := by unfold formedE; rw [if_neg (by simp), if_pos rfl]
theorem formed_mt {ms : List Mt} {rs : List Rg} {k : Nat} {e : Int} (hk : k < ms.length) (h : ∀ j, j < k → mErr ms j = 0) (h1 : mErr ms k = e) (h0 : ¬ e = 0) : formedE true false ms rs = e := by
 have h2 : firstE (mErr ms) ms.length = e := by rw [firstE_at hk h (by rw [h1]; exact h0), h1]
 unfold formedE; rw [if_neg (by simp), if_neg (by simp), if_neg (by rw [h2]; exact h0), h2]
theorem formed_rd {ms : List Mt} {rs : List Rg} {k : Nat} {e : Int} (hm : ∀ j, j < ms.length → mErr ms j = 0) (hk : k < rs.length) (h : ∀ j, j < k → rErr ms rs j = 0) (h1 : rErr ms rs k = e) (h0 : ¬ e = 0) : formedE true false ms rs = e := by
 have h2 : firstE (rErr ms rs) rs.length = e := by rw [firstE_at hk h (by rw [h1]; exact h0), h1]
 unfold formedE; rw [if_neg (by simp), if_neg (by simp), if_pos (firstE_zero.2 hm), h2]
theorem formed_ok {ms : List Mt} {rs : List Rg} (hm : ∀ j, j < ms.length → mErr ms j = 0) (hr : ∀ j, j < rs.length → rErr ms rs j = 0) : formedE true false ms rs = 0 := formed_zero.2 ⟨rfl, rfl, hm, hr⟩
theorem rReading {nm : ByteArray} {am ar : Option Addr} {nn cm nr cr : Nat} {ms : List Mt} {rs : List Rg} {k : Nat} {er : Int} {w : World} (_hG : G ≤ w.heap.size) (hm : RdMt G w am nn cm ms) (hr : RdRg G w ar nr cr rs) (_hnn : nn ≤ 1000) (_hnr : nr ≤ 1000) (hk : k < nr) (he : rErr ms rs k = er) :
 Calls Tryz.prog 57 #[.agg #[.string nm, .slice am nn cm, .slice ar nr cr], .int .i64 (k : Int)] w fun e w' => e = .returned (.int .i64 er) ∧ Below w.heap.size w w' := by
 have HE := hI he; clear he; have HM : Hid (RdMt G w am nn cm ms) := hm; have HR : Hid (RdRg G w ar nr cr rs) := hr; clear hm hr; have M : Hid (Below w.heap.size w w) := Below.refl _ _; go_enter Tryz.func57, Tryz.ntmps57
 go_upto_region 1 with fail
 generalize hv : World.alloc w _ = w1; replace M := alM hv.symm M; clear hv; obtain ⟨br, ofr, rfl, hb_⟩ := RdL.ptr HR.out (by omega : 0 < nr); have hbkbr := hI hb_; have hkl_ : k < rs.length := by rw [HR.out.len]; exact hk
 obtain ⟨x_, hx_⟩ : ∃ x, rs[k]? = some x := ⟨rs[k], List.getElem?_eq_getElem hkl_⟩; obtain ⟨xm, xd, xc⟩ := x_; have HRx : Hid (Row w br (ofr + k * 3) [.int .i64 xm, .int .i64 xd, .int .i64 xc]) := hb_.row hx_; have HEx := hI hx_; have hlx := hkl_; clear hx_ hb_ hkl_
 by_cases c11_ : xm < 0
 ·
  refine dtW (show xm < 0 by omega) fun c11 c11i => ?_; have HMK : Hid (rErr ms rs k = 1) := rErr_1 HEx.out (.inl c11i); refine (Y0 M).D3 fun aa ab ac => ?_; have z0 := (Y0 M).lt; refine cj3 (HRx.out.keep (J1 M)).c3 fun r0_0 r0_1 r0_2 => ?_; go_upto_region 2 with fail
  clear aa ab ac z0 r0_0 r0_1 r0_2; generalize hv : World.alloc w1 _ = w2; have ow1_ := (Y0 M).lt; replace M := alM hv.symm M; clear hv; refine (Y0 M).D3 fun ad ae af => ?_; go_wp2_with fail
  clear ad ae af; go_ret
  exact ⟨by rw [← HE.out, HMK.out] <;> rfl, (J2 M)⟩
 ·
  refine dfW (show ¬ xm < 0 by omega) fun c11 c11i => ?_
  by_cases c12_ : (nn : Int) ≤ xm
  ·
   refine dtW (show (nn : Int) ≤ xm by omega) fun c12 c12i => ?_; have HMK : Hid (rErr ms rs k = 1) := rErr_1 HEx.out (.inr (.inl (by have := HM.out.len; omega))); refine (Y0 M).D3 fun aa ab ac => ?_; have z0 := (Y0 M).lt; refine cj3 (HRx.out.keep (J1 M)).c3 fun r0_0 r0_1 r0_2 => ?_; go_upto_region 2 with fail
   clear aa ab ac z0 r0_0 r0_1 r0_2; generalize hv : World.alloc w1 _ = w2; have ow1_ := (Y0 M).lt; replace M := alM hv.symm M; clear hv; refine (Y0 M).D3 fun ad ae af => ?_; refine (Y1 M).D3 fun aa ab ac => ?_; go_wp2_with fail
   clear ad ae af aa ab ac; go_ret
   exact ⟨by rw [← HE.out, HMK.out] <;> rfl, (J2 M)⟩
  ·
   refine dfW (show ¬ (nn : Int) ≤ xm by omega) fun c12 c12i => ?_
   by_cases c13_ : xc < 0
   ·
    refine dtW (show xc < 0 by omega) fun c13 c13i => ?_; have HMK : Hid (rErr ms rs k = 1) := rErr_1 HEx.out (.inr (.inr (.inl c13i))); refine (Y0 M).D3 fun aa ab ac => ?_; have z0 := (Y0 M).lt; refine cj3 (HRx.out.keep (J1 M)).c3 fun r0_0 r0_1 r0_2 => ?_; go_upto_region 2 with fail
    clear aa ab ac z0 r0_0 r0_1 r0_2; generalize hv : World.alloc w1 _ = w2; have ow1_ := (Y0 M).lt; replace M := alM hv.symm M; clear hv; refine (Y0 M).D3 fun ad ae af => ?_; refine (Y1 M).D3 fun aa ab ac => ?_; go_wp2_with fail
    clear ad ae af aa ab ac; go_ret
    exact ⟨by rw [← HE.out, HMK.out] <;> rfl, (J2 M)⟩
   ·
    refine dfW (show ¬ xc < 0 by omega) fun c13 c13i => ?_
    by_cases c14_ : 1099511627776 < xc
    ·
     refine dtW (show 1099511627776 < xc by omega) fun c14 c14i => ?_; have HMK : Hid (rErr ms rs k = 1) := rErr_1 HEx.out (.inr (.inr (.inr c14i))); refine (Y0 M).D3 fun aa ab ac => ?_; have z0 := (Y0 M).lt; refine cj3 (HRx.out.keep (J1 M)).c3 fun r0_0 r0_1 r0_2 => ?_; go_upto_region 2 with fail
     clear aa ab ac z0 r0_0 r0_1 r0_2; generalize hv : World.alloc w1 _ = w2; have ow1_ := (Y0 M).lt; replace M := alM hv.symm M; clear hv; refine (Y0 M).D3 fun ad ae af => ?_; refine (Y1 M).D3 fun aa ab ac => ?_; go_wp2_with fail
     clear ad ae af aa ab ac; go_ret
     exact ⟨by rw [← HE.out, HMK.out] <;> rfl, (J2 M)⟩
    ·
     refine dfW (show ¬ 1099511627776 < xc by omega) fun c14 c14i => ?_; obtain ⟨q, hq_⟩ : ∃ q : Nat, xm = (q : Int) := ⟨xm.toNat, by omega⟩; subst hq_; have hqn : q < nn := by omega
     obtain ⟨bm, ofm, rfl, hb_⟩ := RdL.ptr HM.out (by omega : 0 < nn); have hbkbm := hI hb_; have hkl_ : q < ms.length := by rw [HM.out.len]; exact hqn
     obtain ⟨z_, hx_⟩ : ∃ x, ms[q]? = some x := ⟨ms[q], List.getElem?_eq_getElem hkl_⟩; obtain ⟨zs, zf, zu⟩ := z_; have HRz : Hid (Row w bm (ofm + q * 3) [.int .i64 zs, .int .i64 zf, .int .i64 zu]) := hb_.row hx_; have HEz := hI hx_; have hlz := hkl_; clear hx_ hb_ hkl_
     by_cases c15_ : xd < zf
     ·
      refine dtW (show xd < zf by omega) fun c15 c15i => ?_; have HMK : Hid (rErr ms rs k = 18) := rErr_18 HEx.out (by have := HM.out.len; omega) c13i c14i HEz.out (.inl c15i); refine (Y0 M).D3 fun aa ab ac => ?_; have z0 := (Y0 M).lt; refine cj3 (HRx.out.keep (J1 M)).c3 fun r0_0 r0_1 r0_2 => ?_; go_upto_region 2 with fail
      clear aa ab ac z0 r0_0 r0_1 r0_2; generalize hv : World.alloc w1 _ = w2; have ow1_ := (Y0 M).lt; replace M := alM hv.symm M; clear hv; refine (Y0 M).D3 fun ad ae af => ?_; refine (Y1 M).D3 fun aa ab ac => ?_; go_wp2_with fail
      clear ad ae af aa ab ac; refine nmW w2.drew fun w3 hv => ?_; replace M := drM hv M; refine rgW (S := (fun w' => w'.cell? ⟨w.heap.size, 0, none⟩ = some (.string nm) ∧ w'.cell? ⟨w.heap.size, 1, none⟩ = some (.slice (some ⟨bm, ofm, none⟩) nn cm) ∧ w'.cell? ⟨w.heap.size, 2, none⟩ = some (.slice (some ⟨br, ofr, none⟩) nr cr) ∧ w'.cell? ⟨w1.heap.size, 0, none⟩ = some (.int .i64 (q : Int)) ∧ w'.cell? ⟨w1.heap.size, 1, none⟩ = some (.int .i64 xd) ∧ w'.cell? ⟨w1.heap.size, 2, none⟩ = some (.int .i64 xc) ∧ w'.cell? ⟨bm, ofm + q * 3, none⟩ = some (.int .i64 zs) ∧ w'.cell? ⟨bm, ofm + q * 3 + 1, none⟩ = some (.int .i64 zf) ∧ w'.cell? ⟨bm, ofm + q * 3 + 2, none⟩ = some (.int .i64 zu))) hv ((Y1 M).t3 ((Y0 M).t3 ((HRz.out.keep (J2 M)).c3))) fun hH1 => ?_; clear hv; refine tk8 at0 at1 at2 at3 at4 at5 at6 at7 ?_; refine tk2 at8 at9 ?_; refine tk at10 ?_; refine tu8 at11 at12 at13 at14 at15 at16 at17 at18 ?_; refine tu2 at19 at20 ?_; refine tk at21 ?_; refine dnW ?_; clear hH1; go_wp2_with fail
      go_ret
      exact ⟨by rw [← HE.out, HMK.out] <;> rfl, (J2 M)⟩
     ·
      refine dfW (show ¬ xd < zf by omega) fun c15 c15i => ?_
      by_cases c16_ : zu < xd
      ·
       refine dtW (show zu < xd by omega) fun c16 c16i => ?_; have HMK : Hid (rErr ms rs k = 18) := rErr_18 HEx.out (by have := HM.out.len; omega) c13i c14i HEz.out (.inr c16i); refine (Y0 M).D3 fun aa ab ac => ?_; have z0 := (Y0 M).lt; refine cj3 (HRx.out.keep (J1 M)).c3 fun r0_0 r0_1 r0_2 => ?_; go_upto_region 2 with fail
       clear aa ab ac z0 r0_0 r0_1 r0_2; generalize hv : World.alloc w1 _ = w2; have ow1_ := (Y0 M).lt; replace M := alM hv.symm M; clear hv; refine (Y0 M).D3 fun ad ae af => ?_; refine (Y1 M).D3 fun aa ab ac => ?_; go_wp2_with fail
       clear ad ae af aa ab ac; refine nmW w2.drew fun w3 hv => ?_; replace M := drM hv M; refine rgW (S := (fun w' => w'.cell? ⟨w.heap.size, 0, none⟩ = some (.string nm) ∧ w'.cell? ⟨w.heap.size, 1, none⟩ = some (.slice (some ⟨bm, ofm, none⟩) nn cm) ∧ w'.cell? ⟨w.heap.size, 2, none⟩ = some (.slice (some ⟨br, ofr, none⟩) nr cr) ∧ w'.cell? ⟨w1.heap.size, 0, none⟩ = some (.int .i64 (q : Int)) ∧ w'.cell? ⟨w1.heap.size, 1, none⟩ = some (.int .i64 xd) ∧ w'.cell? ⟨w1.heap.size, 2, none⟩ = some (.int .i64 xc) ∧ w'.cell? ⟨bm, ofm + q * 3, none⟩ = some (.int .i64 zs) ∧ w'.cell? ⟨bm, ofm + q * 3 + 1, none⟩ = some (.int .i64 zf) ∧ w'.cell? ⟨bm, ofm + q * 3 + 2, none⟩ = some (.int .i64 zu))) hv ((Y1 M).t3 ((Y0 M).t3 ((HRz.out.keep (J2 M)).c3))) fun hH2 => ?_; clear hv; refine tk8 at0 at1 at2 at3 at4 at5 at6 at7 ?_; refine tk8 at8 at9 at10 at11 at12 at13 at14 at15 ?_; refine tk4 at16 at17 at18 at19 ?_; refine tk2 at20 at21 ?_; refine dnW ?_; clear hH2; go_wp2_with fail
       go_ret
       exact ⟨by rw [← HE.out, HMK.out] <;> rfl, (J2 M)⟩
      ·
       refine dfW (show ¬ zu < xd by omega) fun c16 c16i => ?_
       by_cases hk0 : k = 0
       ·
        have hk1_ : ((k : Int) == 0) = true := by simp [hk0]
        have HK0 := hI hk0; clear hk0; have HMK : Hid (rErr ms rs k = 0) := rErr_0 HEx.out (by have := HM.out.len; omega) c13i c14i HEz.out c15i c16i (fun h => by have h_ := HK0.out; omega); refine (Y0 M).D3 fun aa ab ac => ?_; have z0 := (Y0 M).lt; refine cj3 (HRx.out.keep (J1 M)).c3 fun r0_0 r0_1 r0_2 => ?_; go_upto_region 2 with fail
        clear aa ab ac z0 r0_0 r0_1 r0_2; generalize hv : World.alloc w1 _ = w2; have ow1_ := (Y0 M).lt; replace M := alM hv.symm M; clear hv; refine (Y0 M).D3 fun ad ae af => ?_; refine (Y1 M).D3 fun aa ab ac => ?_; go_wp2_with fail
        clear ad ae af aa ab ac; refine nmW w2.drew fun w3 hv => ?_; replace M := drM hv M; refine rgW (S := (fun w' => w'.cell? ⟨w.heap.size, 0, none⟩ = some (.string nm) ∧ w'.cell? ⟨w.heap.size, 1, none⟩ = some (.slice (some ⟨bm, ofm, none⟩) nn cm) ∧ w'.cell? ⟨w.heap.size, 2, none⟩ = some (.slice (some ⟨br, ofr, none⟩) nr cr) ∧ w'.cell? ⟨w1.heap.size, 0, none⟩ = some (.int .i64 (q : Int)) ∧ w'.cell? ⟨w1.heap.size, 1, none⟩ = some (.int .i64 xd) ∧ w'.cell? ⟨w1.heap.size, 2, none⟩ = some (.int .i64 xc) ∧ w'.cell? ⟨bm, ofm + q * 3, none⟩ = some (.int .i64 zs) ∧ w'.cell? ⟨bm, ofm + q * 3 + 1, none⟩ = some (.int .i64 zf) ∧ w'.cell? ⟨bm, ofm + q * 3 + 2, none⟩ = some (.int .i64 zu))) hv ((Y1 M).t3 ((Y0 M).t3 ((HRz.out.keep (J2 M)).c3))) fun hH3 => ?_; clear hv; refine tk8 at0 at1 at2 at3 at4 at5 at6 at7 ?_; refine tk8 at8 at9 at10 at11 at12 at13 at14 at15 ?_; refine tk4 at16 at17 at18 at19 ?_; refine tk2 at20 at21 ?_; refine dnW ?_; clear hH3; go_wp2_with fail
        go_ret
        exact ⟨by rw [← HE.out, HMK.out] <;> rfl, (J2 M)⟩
       ·
        have hk1_ : ((k : Int) == 0) = false := by simp [hk0]
        have hkp : 0 < k := by omega
        have hix0 : (0 : Int) ≤ (k : Int) - 1 := by omega
        have hix1 : (k : Int) - 1 < (nr : Int) := by omega
        have hix2 : ((k : Int) - 1).toNat = k - 1 := by omega
        have hix3 : IntKind.i64.wrap ((k : Int) - 1) = (k : Int) - 1 := by rw [IntKind.wrap_i64]; omega
        have hix4 : (1 : Int) ≤ (k : Int) := by omega
        have hmx_ : max ((k : Int) - 1) 0 = (k : Int) - 1 := by omega
        have hb_ := hbkbr.out; have hkl_ : (k - 1) < rs.length := by rw [HR.out.len]; omega
        obtain ⟨y_, hx_⟩ : ∃ x, rs[(k - 1)]? = some x := ⟨rs[(k - 1)], List.getElem?_eq_getElem hkl_⟩; obtain ⟨ym, yd, yc⟩ := y_; have HRy : Hid (Row w br (ofr + (k - 1) * 3) [.int .i64 ym, .int .i64 yd, .int .i64 yc]) := hb_.row hx_; have HEy := hI hx_; have hly := hkl_; clear hx_ hb_ hkl_
        by_cases d1_ : (q : Int) < ym
        ·
         refine dtW (show (q : Int) < ym by omega) fun d1 d1i => ?_; have HMK : Hid (rErr ms rs k = 5) := rErr_5' hkp HEx.out (by have := HM.out.len; omega) c13i c14i HEz.out c15i c16i HEy.out (after_no (by simp only; omega)); refine (Y0 M).D3 fun aa ab ac => ?_; have z0 := (Y0 M).lt; refine cj3 (HRx.out.keep (J1 M)).c3 fun r0_0 r0_1 r0_2 => ?_; go_upto_region 2 with fail
         clear aa ab ac z0 r0_0 r0_1 r0_2; generalize hv : World.alloc w1 _ = w2; have ow1_ := (Y0 M).lt; replace M := alM hv.symm M; clear hv; refine (Y0 M).D3 fun ad ae af => ?_; refine (Y1 M).D3 fun aa ab ac => ?_; go_wp2_with fail
         clear ad ae af aa ab ac; refine nmW w2.drew fun w3 hv => ?_; replace M := drM hv M; refine rgW (S := (fun w' => w'.cell? ⟨w.heap.size, 0, none⟩ = some (.string nm) ∧ w'.cell? ⟨w.heap.size, 1, none⟩ = some (.slice (some ⟨bm, ofm, none⟩) nn cm) ∧ w'.cell? ⟨w.heap.size, 2, none⟩ = some (.slice (some ⟨br, ofr, none⟩) nr cr) ∧ w'.cell? ⟨w1.heap.size, 0, none⟩ = some (.int .i64 (q : Int)) ∧ w'.cell? ⟨w1.heap.size, 1, none⟩ = some (.int .i64 xd) ∧ w'.cell? ⟨w1.heap.size, 2, none⟩ = some (.int .i64 xc) ∧ w'.cell? ⟨bm, ofm + q * 3, none⟩ = some (.int .i64 zs) ∧ w'.cell? ⟨bm, ofm + q * 3 + 1, none⟩ = some (.int .i64 zf) ∧ w'.cell? ⟨bm, ofm + q * 3 + 2, none⟩ = some (.int .i64 zu))) hv ((Y1 M).t3 ((Y0 M).t3 ((HRz.out.keep (J2 M)).c3))) fun hH4 => ?_; clear hv; refine tk8 at0 at1 at2 at3 at4 at5 at6 at7 ?_; refine tk8 at8 at9 at10 at11 at12 at13 at14 at15 ?_; refine tk4 at16 at17 at18 at19 ?_; refine tk2 at20 at21 ?_; refine dnW ?_; clear hH4; refine (Y1 M).D3 fun aa ab ac => ?_; have z0 : w.heap.size < w3.heap.size := (Y1 M).lt; refine cj3 (HRy.out.keep (J2 M)).c3 fun r2_0 r2_1 r2_2 => ?_; go_upto_region 9 with fail
         clear aa ab ac z0 r2_0 r2_1 r2_2; generalize hv : World.alloc w3 _ = w4; have ow2_ := (Y0 M).lt; replace M := alM hv.symm M; clear hv; refine (Y1 M).D3 fun ad ae af => ?_; refine (Y0 M).D3 fun ag ah ai => ?_; go_wp2_with fail
         clear ad ae af ag ah ai; go_ret
         exact ⟨by rw [← HE.out, HMK.out] <;> rfl, (J3 M)⟩
        ·
         refine dfW (show ¬ (q : Int) < ym by omega) fun d1 d1i => ?_
         by_cases d2_ : ym = (q : Int)
         ·
          subst d2_
          by_cases d3_ : xd ≤ yd
          ·
           refine dtW (show xd ≤ yd by omega) fun d3 d3i => ?_; have HMK : Hid (rErr ms rs k = 5) := rErr_5' hkp HEx.out (by have := HM.out.len; omega) c13i c14i HEz.out c15i c16i HEy.out (after_no (by simp only; omega)); refine (Y0 M).D3 fun aa ab ac => ?_; have z0 := (Y0 M).lt; refine cj3 (HRx.out.keep (J1 M)).c3 fun r0_0 r0_1 r0_2 => ?_; go_upto_region 2 with fail
           clear aa ab ac z0 r0_0 r0_1 r0_2; generalize hv : World.alloc w1 _ = w2; have ow1_ := (Y0 M).lt; replace M := alM hv.symm M; clear hv; refine (Y0 M).D3 fun ad ae af => ?_; refine (Y1 M).D3 fun aa ab ac => ?_; go_wp2_with fail
           clear ad ae af aa ab ac; refine nmW w2.drew fun w3 hv => ?_; replace M := drM hv M; refine rgW (S := (fun w' => w'.cell? ⟨w.heap.size, 0, none⟩ = some (.string nm) ∧ w'.cell? ⟨w.heap.size, 1, none⟩ = some (.slice (some ⟨bm, ofm, none⟩) nn cm) ∧ w'.cell? ⟨w.heap.size, 2, none⟩ = some (.slice (some ⟨br, ofr, none⟩) nr cr) ∧ w'.cell? ⟨w1.heap.size, 0, none⟩ = some (.int .i64 (q : Int)) ∧ w'.cell? ⟨w1.heap.size, 1, none⟩ = some (.int .i64 xd) ∧ w'.cell? ⟨w1.heap.size, 2, none⟩ = some (.int .i64 xc) ∧ w'.cell? ⟨bm, ofm + q * 3, none⟩ = some (.int .i64 zs) ∧ w'.cell? ⟨bm, ofm + q * 3 + 1, none⟩ = some (.int .i64 zf) ∧ w'.cell? ⟨bm, ofm + q * 3 + 2, none⟩ = some (.int .i64 zu))) hv ((Y1 M).t3 ((Y0 M).t3 ((HRz.out.keep (J2 M)).c3))) fun hH5 => ?_; clear hv; refine tk8 at0 at1 at2 at3 at4 at5 at6 at7 ?_; refine tk8 at8 at9 at10 at11 at12 at13 at14 at15 ?_; refine tk4 at16 at17 at18 at19 ?_; refine tk2 at20 at21 ?_; refine dnW ?_; clear hH5; refine (Y1 M).D3 fun aa ab ac => ?_; have z0 : w.heap.size < w3.heap.size := (Y1 M).lt; refine cj3 (HRy.out.keep (J2 M)).c3 fun r2_0 r2_1 r2_2 => ?_; go_upto_region 9 with fail
           clear aa ab ac z0 r2_0 r2_1 r2_2; generalize hv : World.alloc w3 _ = w4; have ow2_ := (Y0 M).lt; replace M := alM hv.symm M; clear hv; refine (Y1 M).D3 fun ad ae af => ?_; refine (Y0 M).D3 fun ag ah ai => ?_; go_wp2_with fail
           clear ad ae af ag ah ai; go_ret
           exact ⟨by rw [← HE.out, HMK.out] <;> rfl, (J3 M)⟩
          ·
           refine dfW (show ¬ xd ≤ yd by omega) fun d3 d3i => ?_; have HMK : Hid (rErr ms rs k = 0) := rErr_0 HEx.out (by have := HM.out.len; omega) c13i c14i HEz.out c15i c16i (fun _ => by rw [getD_of HEy.out]; exact after_yes (.inr ⟨rfl, by show yd < xd; omega⟩)); refine (Y0 M).D3 fun aa ab ac => ?_; have z0 := (Y0 M).lt; refine cj3 (HRx.out.keep (J1 M)).c3 fun r0_0 r0_1 r0_2 => ?_; go_upto_region 2 with fail
           clear aa ab ac z0 r0_0 r0_1 r0_2; generalize hv : World.alloc w1 _ = w2; have ow1_ := (Y0 M).lt; replace M := alM hv.symm M; clear hv; refine (Y0 M).D3 fun ad ae af => ?_; refine (Y1 M).D3 fun aa ab ac => ?_; go_wp2_with fail
           clear ad ae af aa ab ac; refine nmW w2.drew fun w3 hv => ?_; replace M := drM hv M; refine rgW (S := (fun w' => w'.cell? ⟨w.heap.size, 0, none⟩ = some (.string nm) ∧ w'.cell? ⟨w.heap.size, 1, none⟩ = some (.slice (some ⟨bm, ofm, none⟩) nn cm) ∧ w'.cell? ⟨w.heap.size, 2, none⟩ = some (.slice (some ⟨br, ofr, none⟩) nr cr) ∧ w'.cell? ⟨w1.heap.size, 0, none⟩ = some (.int .i64 (q : Int)) ∧ w'.cell? ⟨w1.heap.size, 1, none⟩ = some (.int .i64 xd) ∧ w'.cell? ⟨w1.heap.size, 2, none⟩ = some (.int .i64 xc) ∧ w'.cell? ⟨bm, ofm + q * 3, none⟩ = some (.int .i64 zs) ∧ w'.cell? ⟨bm, ofm + q * 3 + 1, none⟩ = some (.int .i64 zf) ∧ w'.cell? ⟨bm, ofm + q * 3 + 2, none⟩ = some (.int .i64 zu))) hv ((Y1 M).t3 ((Y0 M).t3 ((HRz.out.keep (J2 M)).c3))) fun hH6 => ?_; clear hv; refine tk8 at0 at1 at2 at3 at4 at5 at6 at7 ?_; refine tk8 at8 at9 at10 at11 at12 at13 at14 at15 ?_; refine tk4 at16 at17 at18 at19 ?_; refine tk2 at20 at21 ?_; refine dnW ?_; clear hH6; refine (Y1 M).D3 fun aa ab ac => ?_; have z0 : w.heap.size < w3.heap.size := (Y1 M).lt; refine cj3 (HRy.out.keep (J2 M)).c3 fun r2_0 r2_1 r2_2 => ?_; go_upto_region 9 with fail
           clear aa ab ac z0 r2_0 r2_1 r2_2; generalize hv : World.alloc w3 _ = w4; have ow2_ := (Y0 M).lt; replace M := alM hv.symm M; clear hv; refine (Y1 M).D3 fun ad ae af => ?_; refine (Y0 M).D3 fun ag ah ai => ?_; go_wp2_with fail
           clear ad ae af ag ah ai; go_ret
           exact ⟨by rw [← HE.out, HMK.out] <;> rfl, (J3 M)⟩
         ·
          have d2e_ : ((q : Int) == ym) = false := beq_false_of_ne (Ne.symm d2_); have HMK : Hid (rErr ms rs k = 0) := rErr_0 HEx.out (by have := HM.out.len; omega) c13i c14i HEz.out c15i c16i (fun _ => by rw [getD_of HEy.out]; exact after_yes (.inl (by show ym < (q : Int); omega))); refine (Y0 M).D3 fun aa ab ac => ?_; have z0 := (Y0 M).lt; refine cj3 (HRx.out.keep (J1 M)).c3 fun r0_0 r0_1 r0_2 => ?_; go_upto_region 2 with fail
          clear aa ab ac z0 r0_0 r0_1 r0_2; generalize hv : World.alloc w1 _ = w2; have ow1_ := (Y0 M).lt; replace M := alM hv.symm M; clear hv; refine (Y0 M).D3 fun ad ae af => ?_; refine (Y1 M).D3 fun aa ab ac => ?_; go_wp2_with fail
          clear ad ae af aa ab ac; refine nmW w2.drew fun w3 hv => ?_; replace M := drM hv M; refine rgW (S := (fun w' => w'.cell? ⟨w.heap.size, 0, none⟩ = some (.string nm) ∧ w'.cell? ⟨w.heap.size, 1, none⟩ = some (.slice (some ⟨bm, ofm, none⟩) nn cm) ∧ w'.cell? ⟨w.heap.size, 2, none⟩ = some (.slice (some ⟨br, ofr, none⟩) nr cr) ∧ w'.cell? ⟨w1.heap.size, 0, none⟩ = some (.int .i64 (q : Int)) ∧ w'.cell? ⟨w1.heap.size, 1, none⟩ = some (.int .i64 xd) ∧ w'.cell? ⟨w1.heap.size, 2, none⟩ = some (.int .i64 xc) ∧ w'.cell? ⟨bm, ofm + q * 3, none⟩ = some (.int .i64 zs) ∧ w'.cell? ⟨bm, ofm + q * 3 + 1, none⟩ = some (.int .i64 zf) ∧ w'.cell? ⟨bm, ofm + q * 3 + 2, none⟩ = some (.int .i64 zu))) hv ((Y1 M).t3 ((Y0 M).t3 ((HRz.out.keep (J2 M)).c3))) fun hH7 => ?_; clear hv; refine tk8 at0 at1 at2 at3 at4 at5 at6 at7 ?_; refine tk8 at8 at9 at10 at11 at12 at13 at14 at15 ?_; refine tk4 at16 at17 at18 at19 ?_; refine tk2 at20 at21 ?_; refine dnW ?_; clear hH7; refine (Y1 M).D3 fun aa ab ac => ?_; have z0 : w.heap.size < w3.heap.size := (Y1 M).lt; refine cj3 (HRy.out.keep (J2 M)).c3 fun r2_0 r2_1 r2_2 => ?_; go_upto_region 9 with fail
          clear aa ab ac z0 r2_0 r2_1 r2_2; generalize hv : World.alloc w3 _ = w4; have ow2_ := (Y0 M).lt; replace M := alM hv.symm M; clear hv; refine (Y1 M).D3 fun ad ae af => ?_; refine (Y0 M).D3 fun ag ah ai => ?_; go_wp2_with fail
          clear ad ae af ag ah ai; go_ret
          exact ⟨by rw [← HE.out, HMK.out] <;> rfl, (J3 M)⟩
theorem rFormed {nm : ByteArray} {am ar ac aq : Option Addr} {nn cm nr cr cc cq : Nat} {ms : List Mt} {rs : List Rg} {cs : List Ct} {rr : List Rc} {nb big : Bool} {er : Int} {w : World} (hG : G ≤ w.heap.size) (hm : RdMt G w am nn cm ms) (hr : RdRg G w ar nr cr rs) (hc : CtIn w (.slice ac cs.length cc) cs) (hq : RcIn w (.slice aq rr.length cq) rr) (_hsz : nm.size ≤ 1000) (_hnn : nn ≤ 1000) (_hnr : nr ≤ 1000) (_hcl : cs.length ≤ 1000) (_hrl : rr.length ≤ 1000) (hnb : nameOk nm.data.toList = nb) (hbg : bigB ms rs cs.length rr.length = big) (he : formedE nb big ms rs = er) :
 Calls Tryz.prog 30 #[.agg #[.string nm, .slice am nn cm, .slice ar nr cr], .slice ac cs.length cc, .slice aq rr.length cq] w fun e w' => e = .returned (.int .i64 er) ∧ Below w.heap.size w w' := by
 have HE := hI he; have HNB := hI hnb; have HBG := hI hbg; clear he hnb hbg; have HM : Hid (RdMt G w am nn cm ms) := hm; have HR : Hid (RdRg G w ar nr cr rs) := hr; have HC : Hid (CtIn w (.slice ac cs.length cc) cs) := hc; have HQ : Hid (RcIn w (.slice aq rr.length cq) rr) := hq; clear hm hr hc hq; have M : Hid (Below w.heap.size w w) := Below.refl _ _; go_enter Tryz.func30, Tryz.ntmps30
 go_upto_region 1 with fail
 generalize hv : World.alloc w _ = w1; replace M := alM hv.symm M; clear hv; refine (Y0 M).D3 fun aa ab ad => ?_; go_wp2_with fail
 clear aa ab ad; refine (ctNameR (s := nm) (b_ := nb) (by omega) HNB.out).mono ?_; rintro e w2 ⟨rfl, hb⟩; replace M := gnM hb M; clear hb
 cases nb with
 | false =>
  go_wp2_with fail
  go_ret
  exact ⟨by rw [← HE.out, formed_nb] <;> rfl, (J1 M)⟩
 | true =>
  go_upto_region 3 with fail
  by_cases c1_ : 20 < nn
  ·
   have c1_0 : decide (20 < nn) = true := decide_eq_true (by omega); have c1_1 : decide (20 < (nn : Int)) = true := decide_eq_true (by omega); have c1_i : 20 < (nn : Int) := by omega
   obtain rfl : big = true := by rw [← HBG.out, formed_big]; simp only [Bool.or_eq_true, decide_eq_true_eq]; have h1_ := HM.out.len; have h2_ := HR.out.len; omega
   refine (Y0 M).D3 fun aa ab ad => ?_; go_wp2_with fail
   clear aa ab ad; go_ret
   exact ⟨by rw [← HE.out, formed_bg] <;> rfl, (J1 M)⟩
  ·
   have c1_0 : decide (20 < nn) = false := decide_eq_false (by omega); have c1_1 : decide (20 < (nn : Int)) = false := decide_eq_false (by omega); have c1_i : ¬ 20 < (nn : Int) := by omega
   by_cases c2_ : 400 < nr
   ·
    have c2_0 : decide (400 < nr) = true := decide_eq_true (by omega); have c2_1 : decide (400 < (nr : Int)) = true := decide_eq_true (by omega); have c2_i : 400 < (nr : Int) := by omega
    obtain rfl : big = true := by rw [← HBG.out, formed_big]; simp only [Bool.or_eq_true, decide_eq_true_eq]; have h1_ := HM.out.len; have h2_ := HR.out.len; omega
    refine (Y0 M).D3 fun aa ab ad => ?_; go_wp2_with fail
    clear aa ab ad; go_ret
    exact ⟨by rw [← HE.out, formed_bg] <;> rfl, (J1 M)⟩
   ·
    have c2_0 : decide (400 < nr) = false := decide_eq_false (by omega); have c2_1 : decide (400 < (nr : Int)) = false := decide_eq_false (by omega); have c2_i : ¬ 400 < (nr : Int) := by omega
    by_cases c3_ : 100 < cs.length
    ·
     have c3_0 : decide (100 < cs.length) = true := decide_eq_true (by omega); have c3_1 : decide (100 < (cs.length : Int)) = true := decide_eq_true (by omega); have c3_i : 100 < (cs.length : Int) := by omega
     obtain rfl : big = true := by rw [← HBG.out, formed_big]; simp only [Bool.or_eq_true, decide_eq_true_eq]; have h1_ := HM.out.len; have h2_ := HR.out.len; omega
     refine (Y0 M).D3 fun aa ab ad => ?_; go_wp2_with fail
     clear aa ab ad; go_ret
     exact ⟨by rw [← HE.out, formed_bg] <;> rfl, (J1 M)⟩
    ·
     have c3_0 : decide (100 < cs.length) = false := decide_eq_false (by omega); have c3_1 : decide (100 < (cs.length : Int)) = false := decide_eq_false (by omega); have c3_i : ¬ 100 < (cs.length : Int) := by omega
     by_cases c4_ : 30 < rr.length
     ·
      have c4_0 : decide (30 < rr.length) = true := decide_eq_true (by omega); have c4_1 : decide (30 < (rr.length : Int)) = true := decide_eq_true (by omega); have c4_i : 30 < (rr.length : Int) := by omega
      obtain rfl : big = true := by rw [← HBG.out, formed_big]; simp only [Bool.or_eq_true, decide_eq_true_eq]; have h1_ := HM.out.len; have h2_ := HR.out.len; omega
      refine (Y0 M).D3 fun aa ab ad => ?_; go_wp2_with fail
      clear aa ab ad; go_ret
      exact ⟨by rw [← HE.out, formed_bg] <;> rfl, (J1 M)⟩
     ·
      have c4_0 : decide (30 < rr.length) = false := decide_eq_false (by omega); have c4_1 : decide (30 < (rr.length : Int)) = false := decide_eq_false (by omega); have c4_i : ¬ 30 < (rr.length : Int) := by omega
      obtain rfl : big = false := by rw [← HBG.out, formed_big]; simp only [Bool.or_eq_false_iff, decide_eq_false_iff_not]; have h1_ := HM.out.len; have h2_ := HR.out.len; omega
      refine (Y0 M).D3 fun aa ab ad => ?_; go_wp2_with fail
      clear aa ab ad; go_loopw [7] (fun i7 wr => ∃ (k : Nat), i7 = .int .i64 (k : Int) ∧ Hid (k ≤ nn) ∧ Hid (∀ j, j < k → mErr ms j = 0) ∧ Hid (Bx wr w.heap.size 25 #[.string nm, .slice am nn cm, .slice ar nr cr] ∧ Below w.heap.size w wr)) (fun i7 _ => nn - (RowKit.intOf i7).toNat)
      case atStart =>
       exact ⟨0, rfl, (by show _ ≤ _; omega), (hI (fun j hj => absurd hj (by omega))), hI (aI (Y0 M) (J1 M))⟩
      case round =>
       obtain ⟨w3, rfl⟩ : ∃ x, x = wr := ⟨_, rfl⟩; clear M; obtain ⟨k, rfl, hk, HZk, M⟩ := hrel; have hk := hk.out
       by_cases hlt : k < nn
       ·
        refine ltW (show k < nn by omega) fun e1_0 e1_1 e1_i => ?_; obtain ⟨bm, ofm, rfl, hb_⟩ := RdL.ptr HM.out (by omega : 0 < nn); have hbkbm := hI hb_; have hkl_ : k < ms.length := by rw [HM.out.len]; exact hlt
        obtain ⟨x_, hx_⟩ : ∃ x, ms[k]? = some x := ⟨ms[k], List.getElem?_eq_getElem hkl_⟩; obtain ⟨xs, xf, xu⟩ := x_; have HRx : Hid (Row w bm (ofm + k * 3) [.int .i64 xs, .int .i64 xf, .int .i64 xu]) := hb_.row hx_; have HEx := hI hx_; have hlx := hkl_; clear hx_ hb_ hkl_
        by_cases c1_ : xs < 0
        ·
         refine dtW (show xs < 0 by omega) fun c1 c1i => ?_; have HMK : Hid (mErr ms k = 1) := mErr_1 HEx.out c1i; refine (Y0 M).D3 fun aa ab ad => ?_; have z0 := (Y0 M).lt; refine cj3 (HRx.out.keep (J1 M)).c3 fun r0_0 r0_1 r0_2 => ?_; go_upto_region 9 with fail
         clear aa ab ad z0 r0_0 r0_1 r0_2; generalize hv : World.alloc w3 _ = w4; have ow1_ := (Y0 M).lt; replace M := alM hv.symm M; clear hv; refine (Y0 M).D3 fun ae af ag => ?_; go_wp2_with fail
         clear ae af ag; go_ret
         exact ⟨by rw [← HE.out, (formed_mt (by have := HM.out.len; omega) HZk.out HMK.out (by decide))] <;> rfl, (J2 M)⟩
        ·
         refine dfW (show ¬ xs < 0 by omega) fun c1 c1i => ?_
         by_cases c2_ : xf < 0
         ·
          refine dtW (show xf < 0 by omega) fun c2 c2i => ?_; have HMK : Hid (mErr ms k = 18) := mErr_18 HEx.out c1i (.inl c2i); refine (Y0 M).D3 fun aa ab ad => ?_; have z0 := (Y0 M).lt; refine cj3 (HRx.out.keep (J1 M)).c3 fun r0_0 r0_1 r0_2 => ?_; go_upto_region 9 with fail
          clear aa ab ad z0 r0_0 r0_1 r0_2; generalize hv : World.alloc w3 _ = w4; have ow1_ := (Y0 M).lt; replace M := alM hv.symm M; clear hv; refine (Y0 M).D3 fun ae af ag => ?_; go_wp2_with fail
          clear ae af ag; refine nmW w4.drew fun w5 hv => ?_; replace M := drM hv M; refine rg3W hv (Y0 M) fun hH1 => ?_; clear hv; refine tk4 at0 at1 at2 at3 ?_; refine tu4 at4 at5 at6 at7 ?_; refine tu at8 ?_; refine tk2 at9 at10 ?_; refine tu2 at11 at12 ?_; refine tu at13 ?_; refine tk2 at14 at15 ?_; refine tu8 at16 at17 at18 at19 at20 at21 at22 at23 ?_; refine tu4 at24 at25 at26 at27 ?_; refine tu2 at28 at29 ?_; refine tu at30 ?_; refine tk at31 ?_; refine dnW ?_; clear hH1; go_wp2_with fail
          go_ret
          exact ⟨by rw [← HE.out, (formed_mt (by have := HM.out.len; omega) HZk.out HMK.out (by decide))] <;> rfl, (J2 M)⟩
         ·
          refine dfW (show ¬ xf < 0 by omega) fun c2 c2i => ?_
          by_cases c3_ : xu ≤ xf
          ·
           refine dtW (show xu ≤ xf by omega) fun c3 c3i => ?_; have HMK : Hid (mErr ms k = 18) := mErr_18 HEx.out c1i (.inr (.inl c3i)); refine (Y0 M).D3 fun aa ab ad => ?_; have z0 := (Y0 M).lt; refine cj3 (HRx.out.keep (J1 M)).c3 fun r0_0 r0_1 r0_2 => ?_; go_upto_region 9 with fail
           clear aa ab ad z0 r0_0 r0_1 r0_2; generalize hv : World.alloc w3 _ = w4; have ow1_ := (Y0 M).lt; replace M := alM hv.symm M; clear hv; refine (Y0 M).D3 fun ae af ag => ?_; go_wp2_with fail
           clear ae af ag; refine nmW w4.drew fun w5 hv => ?_; replace M := drM hv M; refine rg3W hv (Y0 M) fun hH2 => ?_; clear hv; refine tk8 at0 at1 at2 at3 at4 at5 at6 at7 ?_; refine tk2 at8 at9 ?_; refine tk at10 ?_; refine tu2 at11 at12 ?_; refine tu at13 ?_; refine tk2 at14 at15 ?_; refine tu8 at16 at17 at18 at19 at20 at21 at22 at23 ?_; refine tu4 at24 at25 at26 at27 ?_; refine tu2 at28 at29 ?_; refine tu at30 ?_; refine tk at31 ?_; refine dnW ?_; clear hH2; go_wp2_with fail
           go_ret
           exact ⟨by rw [← HE.out, (formed_mt (by have := HM.out.len; omega) HZk.out HMK.out (by decide))] <;> rfl, (J2 M)⟩
          ·
           refine dfW (show ¬ xu ≤ xf by omega) fun c3 c3i => ?_
           by_cases c4_ : 100000 < xu
           ·
            refine dtW (show 100000 < xu by omega) fun c4 c4i => ?_; have HMK : Hid (mErr ms k = 18) := mErr_18 HEx.out c1i (.inr (.inr (.inl c4i))); refine (Y0 M).D3 fun aa ab ad => ?_; have z0 := (Y0 M).lt; refine cj3 (HRx.out.keep (J1 M)).c3 fun r0_0 r0_1 r0_2 => ?_; go_upto_region 9 with fail
            clear aa ab ad z0 r0_0 r0_1 r0_2; generalize hv : World.alloc w3 _ = w4; have ow1_ := (Y0 M).lt; replace M := alM hv.symm M; clear hv; refine (Y0 M).D3 fun ae af ag => ?_; go_wp2_with fail
            clear ae af ag; refine nmW w4.drew fun w5 hv => ?_; replace M := drM hv M; refine rg3W hv (Y0 M) fun hH3 => ?_; clear hv; refine tk8 at0 at1 at2 at3 at4 at5 at6 at7 ?_; refine tk8 at8 at9 at10 at11 at12 at13 at14 at15 ?_; refine tu8 at16 at17 at18 at19 at20 at21 at22 at23 ?_; refine tu4 at24 at25 at26 at27 ?_; refine tu2 at28 at29 ?_; refine tu at30 ?_; refine tk at31 ?_; refine dnW ?_; clear hH3; go_wp2_with fail
            go_ret
            exact ⟨by rw [← HE.out, (formed_mt (by have := HM.out.len; omega) HZk.out HMK.out (by decide))] <;> rfl, (J2 M)⟩
           ·
            refine dfW (show ¬ 100000 < xu by omega) fun c4 c4i => ?_
            by_cases hk0 : 0 < k
            ·
             have e2_0 : decide (0 < k) = true := decide_eq_true (by omega); have e2_1 : decide (0 < (k : Int)) = true := decide_eq_true (by omega); have e2_i : 0 < (k : Int) := by omega
             have hix0 : (0 : Int) ≤ (k : Int) - 1 := by omega
             have hix1 : (k : Int) - 1 < (nn : Int) := by omega
             have hix2 : ((k : Int) - 1).toNat = k - 1 := by omega
             have hix3 : IntKind.i64.wrap ((k : Int) - 1) = (k : Int) - 1 := by rw [IntKind.wrap_i64]; omega
             have hix4 : (1 : Int) ≤ (k : Int) := by omega
             have hmx_ : max ((k : Int) - 1) 0 = (k : Int) - 1 := by omega
             have hb_ := hbkbm.out; have hkl_ : (k - 1) < ms.length := by rw [HM.out.len]; omega
             obtain ⟨y_, hx_⟩ : ∃ x, ms[(k - 1)]? = some x := ⟨ms[(k - 1)], List.getElem?_eq_getElem hkl_⟩; obtain ⟨ys, yf, yu⟩ := y_; have HRy : Hid (Row w bm (ofm + (k - 1) * 3) [.int .i64 ys, .int .i64 yf, .int .i64 yu]) := hb_.row hx_; have HEy := hI hx_; have hly := hkl_; clear hx_ hb_ hkl_
             by_cases c5_ : xf = yu
             ·
              have c5 : (xf != yu) = false := by simpa using c5_
              have HC5 := hI c5_; clear c5_; have HMK : Hid (mErr ms k = 0) := mErr_0 HEx.out c1i c2i c3i c4i (fun _ => by rw [getD_of HEy.out]; exact HC5.out.symm); refine (Y0 M).D3 fun aa ab ad => ?_; have z0 := (Y0 M).lt; refine cj3 (HRx.out.keep (J1 M)).c3 fun r0_0 r0_1 r0_2 => ?_; go_upto_region 9 with fail
              clear aa ab ad z0 r0_0 r0_1 r0_2; generalize hv : World.alloc w3 _ = w4; have ow1_ := (Y0 M).lt; replace M := alM hv.symm M; clear hv; refine (Y0 M).D3 fun ae af ag => ?_; go_wp2_with fail
              clear ae af ag; refine nmW w4.drew fun w5 hv => ?_; replace M := drM hv M; refine rgW (S := (fun w' => w'.cell? ⟨w.heap.size, 0, none⟩ = some (.string nm) ∧ w'.cell? ⟨w.heap.size, 1, none⟩ = some (.slice (some ⟨bm, ofm, none⟩) nn cm) ∧ w'.cell? ⟨w.heap.size, 2, none⟩ = some (.slice ar nr cr) ∧ w'.cell? ⟨w3.heap.size, 0, none⟩ = some (.int .i64 xs) ∧ w'.cell? ⟨w3.heap.size, 1, none⟩ = some (.int .i64 xf) ∧ w'.cell? ⟨w3.heap.size, 2, none⟩ = some (.int .i64 xu) ∧ w'.cell? ⟨bm, ofm + (k - 1) * 3, none⟩ = some (.int .i64 ys) ∧ w'.cell? ⟨bm, ofm + (k - 1) * 3 + 1, none⟩ = some (.int .i64 yf) ∧ w'.cell? ⟨bm, ofm + (k - 1) * 3 + 2, none⟩ = some (.int .i64 yu))) hv ((Y1 M).t3 ((Y0 M).t3 ((HRy.out.keep (J2 M)).c3))) fun hH4 => ?_; clear hv; refine tk8 at0 at1 at2 at3 at4 at5 at6 at7 ?_; refine tk8 at8 at9 at10 at11 at12 at13 at14 at15 ?_; refine tk8 at16 at17 at18 at19 at20 at21 at22 at23 ?_; refine tk8 at24 at25 at26 at27 at28 at29 at30 at31 ?_; refine dnW ?_; clear hH4; go_wp2_with fail
              go_roundw
              case rel => exact ⟨(k + 1), by go_num, (by show _ ≤ _; omega), (hI (step_zero HZk.out HMK.out)), hI (aI (Y1 M) (J2 M))⟩
              case measure => simp [RowKit.intOf] <;> omega
             ·
              have c5 : (xf != yu) = true := by simpa using c5_
              have HC5 := hI c5_; clear c5_; have HMK : Hid (mErr ms k = 18) := mErr_18 HEx.out c1i (.inr (.inr (.inr ⟨by omega, by rw [getD_of HEy.out]; exact fun h => HC5.out h.symm⟩))); refine (Y0 M).D3 fun aa ab ad => ?_; have z0 := (Y0 M).lt; refine cj3 (HRx.out.keep (J1 M)).c3 fun r0_0 r0_1 r0_2 => ?_; go_upto_region 9 with fail
              clear aa ab ad z0 r0_0 r0_1 r0_2; generalize hv : World.alloc w3 _ = w4; have ow1_ := (Y0 M).lt; replace M := alM hv.symm M; clear hv; refine (Y0 M).D3 fun ae af ag => ?_; go_wp2_with fail
              clear ae af ag; refine nmW w4.drew fun w5 hv => ?_; replace M := drM hv M; refine rgW (S := (fun w' => w'.cell? ⟨w.heap.size, 0, none⟩ = some (.string nm) ∧ w'.cell? ⟨w.heap.size, 1, none⟩ = some (.slice (some ⟨bm, ofm, none⟩) nn cm) ∧ w'.cell? ⟨w.heap.size, 2, none⟩ = some (.slice ar nr cr) ∧ w'.cell? ⟨w3.heap.size, 0, none⟩ = some (.int .i64 xs) ∧ w'.cell? ⟨w3.heap.size, 1, none⟩ = some (.int .i64 xf) ∧ w'.cell? ⟨w3.heap.size, 2, none⟩ = some (.int .i64 xu) ∧ w'.cell? ⟨bm, ofm + (k - 1) * 3, none⟩ = some (.int .i64 ys) ∧ w'.cell? ⟨bm, ofm + (k - 1) * 3 + 1, none⟩ = some (.int .i64 yf) ∧ w'.cell? ⟨bm, ofm + (k - 1) * 3 + 2, none⟩ = some (.int .i64 yu))) hv ((Y1 M).t3 ((Y0 M).t3 ((HRy.out.keep (J2 M)).c3))) fun hH5 => ?_; clear hv; refine tk8 at0 at1 at2 at3 at4 at5 at6 at7 ?_; refine tk8 at8 at9 at10 at11 at12 at13 at14 at15 ?_; refine tk8 at16 at17 at18 at19 at20 at21 at22 at23 ?_; refine tk8 at24 at25 at26 at27 at28 at29 at30 at31 ?_; refine dnW ?_; clear hH5; go_wp2_with fail
              go_ret
              exact ⟨by rw [← HE.out, (formed_mt (by have := HM.out.len; omega) HZk.out HMK.out (by decide))] <;> rfl, (J2 M)⟩
            ·
             have e2_0 : decide (0 < k) = false := decide_eq_false (by omega); have e2_1 : decide (0 < (k : Int)) = false := decide_eq_false (by omega); have e2_i : ¬ 0 < (k : Int) := by omega
             have HMK : Hid (mErr ms k = 0) := mErr_0 HEx.out c1i c2i c3i c4i (fun h => absurd h hk0); refine (Y0 M).D3 fun aa ab ad => ?_; have z0 := (Y0 M).lt; refine cj3 (HRx.out.keep (J1 M)).c3 fun r0_0 r0_1 r0_2 => ?_; go_upto_region 9 with fail
             clear aa ab ad z0 r0_0 r0_1 r0_2; generalize hv : World.alloc w3 _ = w4; have ow1_ := (Y0 M).lt; replace M := alM hv.symm M; clear hv; refine (Y0 M).D3 fun ae af ag => ?_; go_wp2_with fail
             clear ae af ag; refine nmW w4.drew fun w5 hv => ?_; replace M := drM hv M; refine rg3W hv (Y0 M) fun hH6 => ?_; clear hv; refine tk8 at0 at1 at2 at3 at4 at5 at6 at7 ?_; refine tk8 at8 at9 at10 at11 at12 at13 at14 at15 ?_; refine tk2 at16 at17 ?_; refine tk at18 ?_; refine tu8 at19 at20 at21 at22 at23 at24 at25 at26 ?_; refine tu2 at27 at28 ?_; refine tu at29 ?_; refine tk2 at30 at31 ?_; refine dnW ?_; clear hH6; go_wp2_with fail
             go_roundw
             case rel => exact ⟨(k + 1), by go_num, (by show _ ≤ _; omega), (hI (step_zero HZk.out HMK.out)), hI (aI (Y1 M) (J2 M))⟩
             case measure => simp [RowKit.intOf] <;> omega
       ·
        refine geW (show ¬ k < nn by omega) fun e1_0 e1_1 e1_i => ?_; have HMZ : Hid (∀ j, j < ms.length → mErr ms j = 0) := fun j hj => HZk.out j (by have := HM.out.len; omega)
        refine (Y0 M).D3 fun aa ab ad => ?_; go_wp2_with fail
        clear aa ab ad; go_loopw [9] (fun i9 wr => ∃ (j : Nat), i9 = .int .i64 (j : Int) ∧ Hid (j ≤ nr) ∧ Hid (∀ i, i < j → rErr ms rs i = 0) ∧ Hid (Bx wr w.heap.size 25 #[.string nm, .slice am nn cm, .slice ar nr cr] ∧ Below w.heap.size w wr)) (fun i9 _ => nr - (RowKit.intOf i9).toNat)
        case atStart =>
         exact ⟨0, rfl, (by show _ ≤ _; omega), (hI (fun j hj => absurd hj (by omega))), hI (aI (Y0 M) (J1 M))⟩
        case round =>
         obtain ⟨w4, rfl⟩ : ∃ x, x = wr := ⟨_, rfl⟩; clear M; obtain ⟨j, rfl, hj, HZj, M⟩ := hrel; have hj := hj.out
         by_cases hlt2 : j < nr
         ·
          refine ltW (show j < nr by omega) fun e6_0 e6_1 e6_i => ?_; obtain ⟨ec, hec_⟩ : ∃ e, rErr ms rs j = e := ⟨_, rfl⟩; have HEC := hI hec_; clear hec_
          by_cases hc0_ : ec = 0
          ·
           subst hc0_; refine (Y0 M).D3 fun aa ab ad => ?_; go_wp2_with fail
           clear aa ab ad; refine (rReading (G := G) (nm := nm) (er := 0) (Nat.le_trans hG (J1 M).size) (HM.out.keep (J1 M)) (HR.out.keep (J1 M)) (by omega) (by omega) (by omega) HEC.out).mono ?_; rintro e w5 ⟨rfl, hb⟩; replace M := gnM hb M; clear hb; go_wp2_with fail
           go_roundw
           case rel => exact ⟨(j + 1), by go_num, (by show _ ≤ _; omega), (hI (step_zero HZj.out HEC.out)), hI (aI (Y0 M) (J1 M))⟩
           case measure => simp [RowKit.intOf] <;> omega
          ·
           have m0_ : (ec != 0) = true := bne_iff_ne.2 hc0_; have HC0 := hI hc0_; clear hc0_; refine (Y0 M).D3 fun aa ab ad => ?_; go_wp2_with fail
           clear aa ab ad; refine (rReading (G := G) (nm := nm) (er := ec) (Nat.le_trans hG (J1 M).size) (HM.out.keep (J1 M)) (HR.out.keep (J1 M)) (by omega) (by omega) (by omega) HEC.out).mono ?_; rintro e w5 ⟨rfl, hb⟩; replace M := gnM hb M; clear hb; go_wp2_with fail
           go_ret
           exact ⟨by rw [← HE.out, (formed_rd HMZ.out (by have := HR.out.len; omega) HZj.out HEC.out HC0.out)] <;> rfl, (J1 M)⟩
         ·
          refine geW (show ¬ j < nr by omega) fun e6_0 e6_1 e6_i => ?_; refine (Y0 M).D3 fun aa ab ad => ?_; go_wp2_with fail
          clear aa ab ad; go_ret
          exact ⟨by rw [← HE.out, (formed_ok HMZ.out (fun i hi => HZj.out i (by have := HR.out.len; omega)))] <;> rfl, (J1 M)⟩
end Go.Proofs.YtlcgckelamhnpaaGreat
