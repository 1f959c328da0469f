/- Stations: which are formed well. -/
import Derived.Test.YtlcgckelamhnpaaGreatCtC
import Derived.Test.YtlcgckelamhnpaaGreatLexCore
set_option maxRecDepth 100000
set_option maxHeartbeats 4000000
namespace Go.Proofs.YtlcgckelamhnpaaGreat
open Go.RowKit Go.Lib
variable {G : Nat}
theorem ctName {s : ByteArray} {b_ : Bool} {w : World} (hs : s.size ≤ 1000) (hb : nameOk s.data.toList = b_) :
 Calls Tryz.prog 53 #[.string s] w fun e w' => e = .returned (.bool b_) ∧ Below w.heap.size w w' := by
 refine (name_any s w (by unfold maxLen; omega)).mono ?_; rintro e w' ⟨rfl, rfl⟩; exact ⟨by rw [hb], Below.refl _ _⟩
theorem mtAt_of {ms : List Mt} {q : Nat} {y : Mt} (h : ms[q]? = some y) : mtAt ms (q : Int) = y := by
 unfold mtAt; rw [Int.toNat_natCast]; exact getD_of h
theorem rErr_1 {ms : List Mt} {l : List Rg} {k : Nat} {m d c : Int} (hx : l[k]? = some ⟨m, d, c⟩) (h : m < 0 ∨ (ms.length : Int) ≤ m ∨ c < 0 ∨ 1099511627776 < c) : rErr ms l k = 1 := by
 unfold rErr; rw [hx]; show (if _ then _ else _) = _; rw [if_pos]; simp only [Bool.or_eq_true, decide_eq_true_eq]; rcases h with h | h | h | h
 · exact .inl (.inl (.inl h))
 · exact .inl (.inl (.inr h))
 · exact .inl (.inr h)
 · exact .inr h
theorem rErr_pass {ms : List Mt} {l : List Rg} {k : Nat} {m d c : Int} (hx : l[k]? = some ⟨m, d, c⟩) (h1 : ¬ m < 0) (h2 : ¬ (ms.length : Int) ≤ m) (h3 : ¬ c < 0) (h4 : ¬ 1099511627776 < c) :
 rErr ms l k = (if (decide (d < (mtAt ms m).f) || decide ((mtAt ms m).u < d)) = true then 18 else if (decide (0 < k) && !afterB ⟨m, d, c⟩ (l.getD (k - 1) ⟨0, 0, 0⟩)) = true then 5 else 0) := by
 unfold rErr; rw [hx]; show (if _ then _ else _) = _; rw [if_neg]; simp only [Bool.or_eq_true, decide_eq_true_eq]; rintro (((h | h) | h) | h)
 · exact h1 h
 · exact h2 h
 · exact h3 h
 · exact h4 h
theorem rErr_18 {ms : List Mt} {l : List Rg} {k q : Nat} {d c s f u : Int} (hx : l[k]? = some ⟨(q : Int), d, c⟩) (h2 : ¬ (ms.length : Int) ≤ q) (h3 : ¬ c < 0) (h4 : ¬ 1099511627776 < c) (hy : ms[q]? = some ⟨s, f, u⟩) (h : d < f ∨ u < d) : rErr ms l k = 18 := by
 rw [rErr_pass hx (by omega) h2 h3 h4, mtAt_of hy, if_pos]; simp only [Bool.or_eq_true, decide_eq_true_eq]; exact h
theorem rErr_5 {ms : List Mt} {l : List Rg} {k q : Nat} {d c s f u : Int} {y : Rg} (hx : l[k + 1]? = some ⟨(q : Int), d, c⟩) (h2 : ¬ (ms.length : Int) ≤ q) (h3 : ¬ c < 0) (h4 : ¬ 1099511627776 < c) (hy : ms[q]? = some ⟨s, f, u⟩) (h5 : ¬ d < f) (h6 : ¬ u < d) (hk : l[k]? = some y) (ha : afterB ⟨(q : Int), d, c⟩ y = false) : rErr ms l (k + 1) = 5 := by
 rw [rErr_pass hx (by omega) h2 h3 h4, mtAt_of hy, if_neg (by simp only [Bool.or_eq_true, decide_eq_true_eq]; exact fun h => h.elim h5 h6), if_pos]; rw [show k + 1 - 1 = k by omega, getD_of hk, ha]; simp
theorem rErr_0 {ms : List Mt} {l : List Rg} {k q : Nat} {d c s f u : Int} (hx : l[k]? = some ⟨(q : Int), d, c⟩) (h2 : ¬ (ms.length : Int) ≤ q) (h3 : ¬ c < 0) (h4 : ¬ 1099511627776 < c) (hy : ms[q]? = some ⟨s, f, u⟩) (h5 : ¬ d < f) (h6 : ¬ u < d) (ha : 0 < k → afterB ⟨(q : Int), d, c⟩ (l.getD (k - 1) ⟨0, 0, 0⟩) = true) : rErr ms l k = 0 := by
 rw [rErr_pass hx (by omega) h2 h3 h4, mtAt_of hy, if_neg (by simp only [Bool.or_eq_true, decide_eq_true_eq]; exact fun h => h.elim h5 h6), if_neg]
 by_cases hk : 0 < k
 · rw [ha hk]; simp
 · simp [hk]
theorem formed_big {ms : List Mt} {rs : List Rg} {nc nr : Nat} : bigB ms rs nc nr = (decide (20 < ms.length) || (decide (400 < rs.length) || (decide (100 < nc) || decide (30 < nr)))) := rfl
theorem ctFormed {nm : ByteArray} {am ar ac aq : Option Addr} {nn cm nr cr cc cq : Nat} {ms : List Mt} {rs : List Rg} {cs : List Ct} {rr : List Rc} {nb big : Bool} {er : Int} {w : World} (_hG : G ≤ w.heap.size) (hm : RdMt G w am nn cm ms) (hr : RdRg G w ar nr cr rs) (hc : CtIn w (.slice ac cs.length cc) cs) (hq : RcIn w (.slice aq rr.length cq) rr) (_hsz : nm.size ≤ 1000) (_hnn : nn ≤ 1000) (_hnr : nr ≤ 1000) (_hcl : cs.length ≤ 1000) (_hrl : rr.length ≤ 1000) (hnb : nameOk nm.data.toList = nb) (hbg : bigB ms rs cs.length rr.length = big) (he : formedE nb big ms rs = er) :
 Calls Tryz.prog 28 #[.agg #[.string nm, .slice am nn cm, .slice ar nr cr], .slice ac cs.length cc, .slice aq rr.length cq] w fun e w' => e = .returned (.int .i64 er) ∧ Below w.heap.size w w' := by
 obtain ⟨em, hem_⟩ : ∃ e, firstE (mErr ms) ms.length = e := ⟨_, rfl⟩; have HEM := hI hem_; have HE := hI he; have HNB := hI hnb; have HBG := hI hbg; clear hem_ he hnb hbg; have HM : Hid (RdMt G w am nn cm ms) := hm; have HR : Hid (RdRg G w ar nr cr rs) := hr; have HC : Hid (CtIn w (.slice ac cs.length cc) cs) := hc; have HQ : Hid (RcIn w (.slice aq rr.length cq) rr) := hq; clear hm hr hc hq; have M : Hid (Below w.heap.size w w) := Below.refl _ _; go_enter Tryz.func28, Tryz.ntmps28
 go_upto_region 1 with fail
 generalize hv : World.alloc w _ = w1; replace M := alM hv.symm M; clear hv; refine (Y0 M).D3 fun aa ab ad => ?_; go_wp2_with fail
 clear aa ab ad; refine (ctName (s := nm) (b_ := nb) (by omega) HNB.out).mono ?_; rintro e w2 ⟨rfl, hb⟩; replace M := gnM hb M; clear hb
 cases nb with
 | false =>
  go_wp2_with fail
  go_ret
  exact ⟨by rw [← HE.out]; unfold formedE; rw [if_pos rfl] <;> rfl, (J1 M)⟩
 | true =>
  go_upto_region 3 with fail
  by_cases c1_ : 20 < nn
  ·
   have c1_0 : decide (20 < nn) = true := decide_eq_true (by omega); have c1_1 : decide (20 < (nn : Int)) = true := decide_eq_true (by omega); have c1_i : 20 < (nn : Int) := by omega
   have HBG2 : Hid (big = true) := by show _ = _; rw [← HBG.out, formed_big]; simp only [Bool.or_eq_true, decide_eq_true_eq]; have h1_ := HM.out.len; have h2_ := HR.out.len; omega
   refine (Y0 M).D3 fun aa ab ad => ?_; go_wp2_with fail
   clear aa ab ad; go_ret
   exact ⟨by rw [← HE.out]; unfold formedE; rw [if_neg (by simp), if_pos HBG2.out] <;> rfl, (J1 M)⟩
  ·
   have c1_0 : decide (20 < nn) = false := decide_eq_false (by omega); have c1_1 : decide (20 < (nn : Int)) = false := decide_eq_false (by omega); have c1_i : ¬ 20 < (nn : Int) := by omega
   by_cases c2_ : 400 < nr
   ·
    have c2_0 : decide (400 < nr) = true := decide_eq_true (by omega); have c2_1 : decide (400 < (nr : Int)) = true := decide_eq_true (by omega); have c2_i : 400 < (nr : Int) := by omega
    have HBG2 : Hid (big = true) := by show _ = _; rw [← HBG.out, formed_big]; simp only [Bool.or_eq_true, decide_eq_true_eq]; have h1_ := HM.out.len; have h2_ := HR.out.len; omega
    refine (Y0 M).D3 fun aa ab ad => ?_; go_wp2_with fail
    clear aa ab ad; go_ret
    exact ⟨by rw [← HE.out]; unfold formedE; rw [if_neg (by simp), if_pos HBG2.out] <;> rfl, (J1 M)⟩
   ·
    have c2_0 : decide (400 < nr) = false := decide_eq_false (by omega); have c2_1 : decide (400 < (nr : Int)) = false := decide_eq_false (by omega); have c2_i : ¬ 400 < (nr : Int) := by omega
    by_cases c3_ : 100 < cs.length
    ·
     have c3_0 : decide (100 < cs.length) = true := decide_eq_true (by omega); have c3_1 : decide (100 < (cs.length : Int)) = true := decide_eq_true (by omega); have c3_i : 100 < (cs.length : Int) := by omega
     have HBG2 : Hid (big = true) := by show _ = _; rw [← HBG.out, formed_big]; simp only [Bool.or_eq_true, decide_eq_true_eq]; have h1_ := HM.out.len; have h2_ := HR.out.len; omega
     refine (Y0 M).D3 fun aa ab ad => ?_; go_wp2_with fail
     clear aa ab ad; go_ret
     exact ⟨by rw [← HE.out]; unfold formedE; rw [if_neg (by simp), if_pos HBG2.out] <;> rfl, (J1 M)⟩
    ·
     have c3_0 : decide (100 < cs.length) = false := decide_eq_false (by omega); have c3_1 : decide (100 < (cs.length : Int)) = false := decide_eq_false (by omega); have c3_i : ¬ 100 < (cs.length : Int) := by omega
     by_cases c4_ : 30 < rr.length
     ·
      have c4_0 : decide (30 < rr.length) = true := decide_eq_true (by omega); have c4_1 : decide (30 < (rr.length : Int)) = true := decide_eq_true (by omega); have c4_i : 30 < (rr.length : Int) := by omega
      have HBG2 : Hid (big = true) := by show _ = _; rw [← HBG.out, formed_big]; simp only [Bool.or_eq_true, decide_eq_true_eq]; have h1_ := HM.out.len; have h2_ := HR.out.len; omega
      refine (Y0 M).D3 fun aa ab ad => ?_; go_wp2_with fail
      clear aa ab ad; go_ret
      exact ⟨by rw [← HE.out]; unfold formedE; rw [if_neg (by simp), if_pos HBG2.out] <;> rfl, (J1 M)⟩
     ·
      have c4_0 : decide (30 < rr.length) = false := decide_eq_false (by omega); have c4_1 : decide (30 < (rr.length : Int)) = false := decide_eq_false (by omega); have c4_i : ¬ 30 < (rr.length : Int) := by omega
      have HBG2 : Hid (big = false) := by show _ = _; rw [← HBG.out, formed_big]; simp only [Bool.or_eq_false_iff, decide_eq_false_iff_not]; have h1_ := HM.out.len; have h2_ := HR.out.len; omega
      refine (Y0 M).D3 fun aa ab ad => ?_; go_upto_region 5 with fail
      clear aa ab ad
      by_cases hem_ : em = 0
      ·
       subst hem_; refine (Y0 M).D3 fun aa ab ad => ?_; go_wp2_with fail
       clear aa ab ad; refine (ctMeters (G := G) (er := 0) (HM.out.keep (J1 M)) (by omega) HEM.out).mono ?_; rintro e w3 ⟨rfl, hb⟩; replace M := gnM hb M; clear hb; refine (Y0 M).D3 fun aa ab ad => ?_; go_wp2_with fail
       clear aa ab ad; go_loopw [46] (fun i46 wr => ∃ (k : Nat), i46 = .int .i64 (k : Int) ∧ Hid (k ≤ nr) ∧ Hid (∀ j, j < k → rErr ms rs j = 0) ∧ Hid (Bx wr w.heap.size 25 #[.string nm, .slice am nn cm, .slice ar nr cr] ∧ Below w.heap.size w wr)) (fun i46 _ => nr - (RowKit.intOf i46).toNat)
       case atStart =>
        exact ⟨0, rfl, (by show _ ≤ _; omega), (hI (fun j hj => absurd hj (by omega))), hI (aI (Y0 M) (J1 M))⟩
       case round =>
        obtain ⟨w4, rfl⟩ : ∃ x, x = wr := ⟨_, rfl⟩; clear M; obtain ⟨k, rfl, hk, HZk, M⟩ := hrel; have hk := hk.out
        by_cases hlt : k < nr
        ·
         refine ltW (show k < nr by omega) fun e1_0 e1_1 e1_i => ?_; obtain ⟨br, ofr, rfl, hb_⟩ := RdL.ptr HR.out (by omega : 0 < nr); have hbkbr := hI hb_; have hkl_ : k < rs.length := by rw [HR.out.len]; exact hlt
         obtain ⟨x_, hx_⟩ : ∃ x, rs[k]? = some x := ⟨rs[k], List.getElem?_eq_getElem hkl_⟩; obtain ⟨xm, xd, xc⟩ := x_; have HRx : Hid (Row w br (ofr + k * 3) [.int .i64 xm, .int .i64 xd, .int .i64 xc]) := hb_.row hx_; have HEx := hI hx_; have hlx := hkl_; clear hx_ hb_ hkl_
         by_cases c11_ : xm < 0
         ·
          refine dtW (show xm < 0 by omega) fun c11 c11i => ?_; have HMK : Hid (rErr ms rs k = 1) := rErr_1 HEx.out (.inl c11i); refine cj3 (HRx.out.keep (J1 M)).c3 fun r0_0 r0_1 r0_2 => ?_; go_upto_region 11 with fail
          clear r0_0 r0_1 r0_2; generalize hv : World.alloc w4 _ = w5; have ow1_ := (Y0 M).lt; replace M := alM hv.symm M; clear hv; refine (Y0 M).D3 fun ae af ag => ?_; go_wp2_with fail
          clear ae af ag; go_ret
          exact ⟨by rw [← HE.out]; unfold formedE; rw [if_neg (by simp), if_neg (by simp [HBG2.out]), if_pos HEM.out, firstE_at (by have := HR.out.len; omega) HZk.out (by rw [HMK.out]; decide), HMK.out] <;> rfl, (J2 M)⟩
         ·
          refine dfW (show ¬ xm < 0 by omega) fun c11 c11i => ?_
          by_cases c12_ : (nn : Int) ≤ xm
          ·
           refine dtW (show (nn : Int) ≤ xm by omega) fun c12 c12i => ?_; have HMK : Hid (rErr ms rs k = 1) := rErr_1 HEx.out (.inr (.inl (by have := HM.out.len; omega))); refine cj3 (HRx.out.keep (J1 M)).c3 fun r0_0 r0_1 r0_2 => ?_; go_upto_region 11 with fail
           clear r0_0 r0_1 r0_2; generalize hv : World.alloc w4 _ = w5; have ow1_ := (Y0 M).lt; replace M := alM hv.symm M; clear hv; refine (Y0 M).D3 fun ae af ag => ?_; refine (Y1 M).D3 fun aa ab ad => ?_; go_wp2_with fail
           clear ae af ag aa ab ad; go_ret
           exact ⟨by rw [← HE.out]; unfold formedE; rw [if_neg (by simp), if_neg (by simp [HBG2.out]), if_pos HEM.out, firstE_at (by have := HR.out.len; omega) HZk.out (by rw [HMK.out]; decide), HMK.out] <;> rfl, (J2 M)⟩
          ·
           refine dfW (show ¬ (nn : Int) ≤ xm by omega) fun c12 c12i => ?_
           by_cases c13_ : xc < 0
           ·
            refine dtW (show xc < 0 by omega) fun c13 c13i => ?_; have HMK : Hid (rErr ms rs k = 1) := rErr_1 HEx.out (.inr (.inr (.inl c13i))); refine cj3 (HRx.out.keep (J1 M)).c3 fun r0_0 r0_1 r0_2 => ?_; go_upto_region 11 with fail
            clear r0_0 r0_1 r0_2; generalize hv : World.alloc w4 _ = w5; have ow1_ := (Y0 M).lt; replace M := alM hv.symm M; clear hv; refine (Y0 M).D3 fun ae af ag => ?_; refine (Y1 M).D3 fun aa ab ad => ?_; go_wp2_with fail
            clear ae af ag aa ab ad; go_ret
            exact ⟨by rw [← HE.out]; unfold formedE; rw [if_neg (by simp), if_neg (by simp [HBG2.out]), if_pos HEM.out, firstE_at (by have := HR.out.len; omega) HZk.out (by rw [HMK.out]; decide), HMK.out] <;> rfl, (J2 M)⟩
           ·
            refine dfW (show ¬ xc < 0 by omega) fun c13 c13i => ?_
            by_cases c14_ : 1099511627776 < xc
            ·
             refine dtW (show 1099511627776 < xc by omega) fun c14 c14i => ?_; have HMK : Hid (rErr ms rs k = 1) := rErr_1 HEx.out (.inr (.inr (.inr c14i))); refine cj3 (HRx.out.keep (J1 M)).c3 fun r0_0 r0_1 r0_2 => ?_; go_upto_region 11 with fail
             clear r0_0 r0_1 r0_2; generalize hv : World.alloc w4 _ = w5; have ow1_ := (Y0 M).lt; replace M := alM hv.symm M; clear hv; refine (Y0 M).D3 fun ae af ag => ?_; refine (Y1 M).D3 fun aa ab ad => ?_; go_wp2_with fail
             clear ae af ag aa ab ad; go_ret
             exact ⟨by rw [← HE.out]; unfold formedE; rw [if_neg (by simp), if_neg (by simp [HBG2.out]), if_pos HEM.out, firstE_at (by have := HR.out.len; omega) HZk.out (by rw [HMK.out]; decide), HMK.out] <;> rfl, (J2 M)⟩
            ·
             refine dfW (show ¬ 1099511627776 < xc by omega) fun c14 c14i => ?_; obtain ⟨q, hq_⟩ : ∃ q : Nat, xm = (q : Int) := ⟨xm.toNat, by omega⟩; subst hq_; have hqn : q < nn := by omega
             obtain ⟨bm, ofm, rfl, hb_⟩ := RdL.ptr HM.out (by omega : 0 < nn); have hbkbm := hI hb_; have hkl_ : q < ms.length := by rw [HM.out.len]; exact hqn
             obtain ⟨z_, hx_⟩ : ∃ x, ms[q]? = some x := ⟨ms[q], List.getElem?_eq_getElem hkl_⟩; obtain ⟨zs, zf, zu⟩ := z_; have HRz : Hid (Row w bm (ofm + q * 3) [.int .i64 zs, .int .i64 zf, .int .i64 zu]) := hb_.row hx_; have HEz := hI hx_; have hlz := hkl_; clear hx_ hb_ hkl_
             by_cases c15_ : xd < zf
             ·
              refine dtW (show xd < zf by omega) fun c15 c15i => ?_; have HMK : Hid (rErr ms rs k = 18) := rErr_18 HEx.out (by have := HM.out.len; omega) c13i c14i HEz.out (.inl c15i); refine cj3 (HRx.out.keep (J1 M)).c3 fun r0_0 r0_1 r0_2 => ?_; go_upto_region 11 with fail
              clear r0_0 r0_1 r0_2; generalize hv : World.alloc w4 _ = w5; have ow1_ := (Y0 M).lt; replace M := alM hv.symm M; clear hv; refine (Y0 M).D3 fun ae af ag => ?_; have z1 := (Y0 M).lt; refine (Y1 M).D3 fun aa ab ad => ?_; have z0 : w.heap.size < w5.heap.size := (Y1 M).lt; refine cj3 (HRz.out.keep (J2 M)).c3 fun r1_0 r1_1 r1_2 => ?_; go_upto_region 14 with fail
              clear ae af ag z1 aa ab ad z0 r1_0 r1_1 r1_2; generalize hv : World.alloc w5 _ = w6; have ow2_ := (Y0 M).lt; replace M := alM hv.symm M; clear hv; refine (Y1 M).D3 fun ae af ag => ?_; refine (Y0 M).D3 fun ah ai aj => ?_; go_wp2_with fail
              clear ae af ag ah ai aj; go_ret
              exact ⟨by rw [← HE.out]; unfold formedE; rw [if_neg (by simp), if_neg (by simp [HBG2.out]), if_pos HEM.out, firstE_at (by have := HR.out.len; omega) HZk.out (by rw [HMK.out]; decide), HMK.out] <;> rfl, (J3 M)⟩
             ·
              refine dfW (show ¬ xd < zf by omega) fun c15 c15i => ?_
              by_cases c16_ : zu < xd
              ·
               refine dtW (show zu < xd by omega) fun c16 c16i => ?_; have HMK : Hid (rErr ms rs k = 18) := rErr_18 HEx.out (by have := HM.out.len; omega) c13i c14i HEz.out (.inr c16i); refine cj3 (HRx.out.keep (J1 M)).c3 fun r0_0 r0_1 r0_2 => ?_; go_upto_region 11 with fail
               clear r0_0 r0_1 r0_2; generalize hv : World.alloc w4 _ = w5; have ow1_ := (Y0 M).lt; replace M := alM hv.symm M; clear hv; refine (Y0 M).D3 fun ae af ag => ?_; have z1 := (Y0 M).lt; refine (Y1 M).D3 fun aa ab ad => ?_; have z0 : w.heap.size < w5.heap.size := (Y1 M).lt; refine cj3 (HRz.out.keep (J2 M)).c3 fun r1_0 r1_1 r1_2 => ?_; go_upto_region 14 with fail
               clear ae af ag z1 aa ab ad z0 r1_0 r1_1 r1_2; generalize hv : World.alloc w5 _ = w6; have ow2_ := (Y0 M).lt; replace M := alM hv.symm M; clear hv; refine (Y1 M).D3 fun ae af ag => ?_; refine (Y0 M).D3 fun ah ai aj => ?_; go_wp2_with fail
               clear ae af ag ah ai aj; go_ret
               exact ⟨by rw [← HE.out]; unfold formedE; rw [if_neg (by simp), if_neg (by simp [HBG2.out]), if_pos HEM.out, firstE_at (by have := HR.out.len; omega) HZk.out (by rw [HMK.out]; decide), HMK.out] <;> rfl, (J3 M)⟩
              ·
               refine dfW (show ¬ zu < xd by omega) fun c16 c16i => ?_
               by_cases hk0 : 0 < k
               ·
                have e2_0 : decide (0 < k) = true := decide_eq_true (by omega); have e2_1 : decide (0 < (k : Int)) = true := decide_eq_true (by omega); have e2_i : 0 < (k : Int) := by omega
                have hix0 : (0 : Int) ≤ (k : Int) - 1 := by omega
                have hix1 : (k : Int) - 1 < (nr : Int) := by omega
                have hix2 : ((k : Int) - 1).toNat = k - 1 := by omega
                have hix3 : IntKind.i64.wrap ((k : Int) - 1) = (k : Int) - 1 := by rw [IntKind.wrap_i64]; omega
                have hix4 : (1 : Int) ≤ (k : Int) := by omega
                have hb_ := hbkbr.out; have hkl_ : (k - 1) < rs.length := by rw [HR.out.len]; omega
                obtain ⟨y_, hx_⟩ : ∃ x, rs[(k - 1)]? = some x := ⟨rs[(k - 1)], List.getElem?_eq_getElem hkl_⟩; obtain ⟨ym, yd, yc⟩ := y_; have HRy : Hid (Row w br (ofr + (k - 1) * 3) [.int .i64 ym, .int .i64 yd, .int .i64 yc]) := hb_.row hx_; have HEy := hI hx_; have hly := hkl_; clear hx_ hb_ hkl_; rcases Bool.eq_false_or_eq_true (afterB ⟨(q : Int), xd, xc⟩ ⟨ym, yd, yc⟩) with ha_ | ha_
                ·
                 have HAF := hI ha_; clear ha_; have HMK : Hid (rErr ms rs k = 0) := rErr_0 HEx.out (by have := HM.out.len; omega) c13i c14i HEz.out c15i c16i (fun _ => by rw [getD_of HEy.out]; exact HAF.out); refine cj3 (HRx.out.keep (J1 M)).c3 fun r0_0 r0_1 r0_2 => ?_; go_upto_region 11 with fail
                 clear r0_0 r0_1 r0_2; generalize hv : World.alloc w4 _ = w5; have ow1_ := (Y0 M).lt; replace M := alM hv.symm M; clear hv; refine (Y0 M).D3 fun ae af ag => ?_; have z1 := (Y0 M).lt; refine (Y1 M).D3 fun aa ab ad => ?_; have z0 : w.heap.size < w5.heap.size := (Y1 M).lt; refine cj3 (HRz.out.keep (J2 M)).c3 fun r1_0 r1_1 r1_2 => ?_; go_upto_region 14 with fail
                 clear ae af ag z1 aa ab ad z0 r1_0 r1_1 r1_2; generalize hv : World.alloc w5 _ = w6; have ow2_ := (Y0 M).lt; replace M := alM hv.symm M; clear hv; refine (Y1 M).D3 fun ae af ag => ?_; refine (Y0 M).D3 fun ah ai aj => ?_; go_wp2_with fail
                 clear ae af ag ah ai aj; refine nmW w6.drew fun w7 hv => ?_; replace M := drM hv M; refine rgW (S := (fun w' => w'.cell? ⟨w.heap.size, 0, none⟩ = some (.string nm) ∧ w'.cell? ⟨w.heap.size, 1, none⟩ = some (.slice (some ⟨bm, ofm, none⟩) nn cm) ∧ w'.cell? ⟨w.heap.size, 2, none⟩ = some (.slice (some ⟨br, ofr, none⟩) nr cr) ∧ w'.cell? ⟨w4.heap.size, 0, none⟩ = some (.int .i64 (q : Int)) ∧ w'.cell? ⟨w4.heap.size, 1, none⟩ = some (.int .i64 xd) ∧ w'.cell? ⟨w4.heap.size, 2, none⟩ = some (.int .i64 xc) ∧ w'.cell? ⟨br, ofr + (k - 1) * 3, none⟩ = some (.int .i64 ym) ∧ w'.cell? ⟨br, ofr + (k - 1) * 3 + 1, none⟩ = some (.int .i64 yd) ∧ w'.cell? ⟨br, ofr + (k - 1) * 3 + 2, none⟩ = some (.int .i64 yc))) hv ((Y2 M).t3 ((Y1 M).t3 ((HRy.out.keep (J3 M)).c3))) fun hH1 => ?_; clear hv; refine tk8 at0 at1 at2 at3 at4 at5 at6 at7 ?_; refine tk2 at8 at9 ?_; refine roW at10 fun K hK => ?_; go_simp; refine (ctAfter (xm := (q : Int)) (xd := xd) (xc := xc) (ym := ym) (yd := yd) (yc := yc) (b_ := true) HAF.out).mono ?_; rintro e w8 ⟨rfl, hb⟩; replace M := gnM hb M; clear hb; (try go_wp2_with fail)
                 refine hK.out _ _ (((Y2 M).t3 ((Y1 M).t3 ((HRy.out.keep (J3 M)).c3)))) (fun hH2 => ?_); clear hK K hH1; (try simp only [Act.put, kq])
                 refine tk2 at11 at12 ?_; refine tk at13 ?_; refine dnW ?_; clear hH2; go_wp2_with fail
                 go_roundw
                 case rel => exact ⟨(k + 1), by go_num, (by show _ ≤ _; omega), (hI (step_zero HZk.out HMK.out)), hI (aI (Y2 M) (J3 M))⟩
                 case measure => simp [RowKit.intOf] <;> omega
                ·
                 have HAF := hI ha_; clear ha_
                 have HMK : Hid (rErr ms rs k = 5) := by
                  obtain ⟨j, rfl⟩ : ∃ j, k = j + 1 := ⟨k - 1, by omega⟩; exact rErr_5 HEx.out (by have := HM.out.len; omega) c13i c14i HEz.out c15i c16i (by have h_ := HEy.out; rwa [show j + 1 - 1 = j by omega] at h_) HAF.out
                 refine cj3 (HRx.out.keep (J1 M)).c3 fun r0_0 r0_1 r0_2 => ?_; go_upto_region 11 with fail
                 clear r0_0 r0_1 r0_2; generalize hv : World.alloc w4 _ = w5; have ow1_ := (Y0 M).lt; replace M := alM hv.symm M; clear hv; refine (Y0 M).D3 fun ae af ag => ?_; have z1 := (Y0 M).lt; refine (Y1 M).D3 fun aa ab ad => ?_; have z0 : w.heap.size < w5.heap.size := (Y1 M).lt; refine cj3 (HRz.out.keep (J2 M)).c3 fun r1_0 r1_1 r1_2 => ?_; go_upto_region 14 with fail
                 clear ae af ag z1 aa ab ad z0 r1_0 r1_1 r1_2; generalize hv : World.alloc w5 _ = w6; have ow2_ := (Y0 M).lt; replace M := alM hv.symm M; clear hv; refine (Y1 M).D3 fun ae af ag => ?_; refine (Y0 M).D3 fun ah ai aj => ?_; go_wp2_with fail
                 clear ae af ag ah ai aj; refine nmW w6.drew fun w7 hv => ?_; replace M := drM hv M; refine rgW (S := (fun w' => w'.cell? ⟨w.heap.size, 0, none⟩ = some (.string nm) ∧ w'.cell? ⟨w.heap.size, 1, none⟩ = some (.slice (some ⟨bm, ofm, none⟩) nn cm) ∧ w'.cell? ⟨w.heap.size, 2, none⟩ = some (.slice (some ⟨br, ofr, none⟩) nr cr) ∧ w'.cell? ⟨w4.heap.size, 0, none⟩ = some (.int .i64 (q : Int)) ∧ w'.cell? ⟨w4.heap.size, 1, none⟩ = some (.int .i64 xd) ∧ w'.cell? ⟨w4.heap.size, 2, none⟩ = some (.int .i64 xc) ∧ w'.cell? ⟨br, ofr + (k - 1) * 3, none⟩ = some (.int .i64 ym) ∧ w'.cell? ⟨br, ofr + (k - 1) * 3 + 1, none⟩ = some (.int .i64 yd) ∧ w'.cell? ⟨br, ofr + (k - 1) * 3 + 2, none⟩ = some (.int .i64 yc))) hv ((Y2 M).t3 ((Y1 M).t3 ((HRy.out.keep (J3 M)).c3))) fun hH3 => ?_; clear hv; refine tk8 at0 at1 at2 at3 at4 at5 at6 at7 ?_; refine tk2 at8 at9 ?_; refine roW at10 fun K hK => ?_; go_simp; refine (ctAfter (xm := (q : Int)) (xd := xd) (xc := xc) (ym := ym) (yd := yd) (yc := yc) (b_ := false) HAF.out).mono ?_; rintro e w8 ⟨rfl, hb⟩; replace M := gnM hb M; clear hb; (try go_wp2_with fail)
                 refine hK.out _ _ (((Y2 M).t3 ((Y1 M).t3 ((HRy.out.keep (J3 M)).c3)))) (fun hH4 => ?_); clear hK K hH3; (try simp only [Act.put, kq])
                 refine tk2 at11 at12 ?_; refine tk at13 ?_; refine dnW ?_; clear hH4; go_wp2_with fail
                 go_ret
                 exact ⟨by rw [← HE.out]; unfold formedE; rw [if_neg (by simp), if_neg (by simp [HBG2.out]), if_pos HEM.out, firstE_at (by have := HR.out.len; omega) HZk.out (by rw [HMK.out]; decide), HMK.out] <;> rfl, (J3 M)⟩
               ·
                have e2_0 : decide (0 < k) = false := decide_eq_false (by omega); have e2_1 : decide (0 < (k : Int)) = false := decide_eq_false (by omega); have e2_i : ¬ 0 < (k : Int) := by omega
                have HMK : Hid (rErr ms rs k = 0) := rErr_0 HEx.out (by have := HM.out.len; omega) c13i c14i HEz.out c15i c16i (fun h => absurd h hk0); refine cj3 (HRx.out.keep (J1 M)).c3 fun r0_0 r0_1 r0_2 => ?_; go_upto_region 11 with fail
                clear r0_0 r0_1 r0_2; generalize hv : World.alloc w4 _ = w5; have ow1_ := (Y0 M).lt; replace M := alM hv.symm M; clear hv; refine (Y0 M).D3 fun ae af ag => ?_; have z1 := (Y0 M).lt; refine (Y1 M).D3 fun aa ab ad => ?_; have z0 : w.heap.size < w5.heap.size := (Y1 M).lt; refine cj3 (HRz.out.keep (J2 M)).c3 fun r1_0 r1_1 r1_2 => ?_; go_upto_region 14 with fail
                clear ae af ag z1 aa ab ad z0 r1_0 r1_1 r1_2; generalize hv : World.alloc w5 _ = w6; have ow2_ := (Y0 M).lt; replace M := alM hv.symm M; clear hv; refine (Y1 M).D3 fun ae af ag => ?_; refine (Y0 M).D3 fun ah ai aj => ?_; go_wp2_with fail
                clear ae af ag ah ai aj; refine nmW w6.drew fun w7 hv => ?_; replace M := drM hv M; refine wp_region_held_drew (S := (fun _ => True)) (by kernel_rfl) trivial (fun hH5 => ?_); rw [← hv]; clear hv; refine tk2 at0 at1 ?_; refine tk at2 ?_; refine tu4 at3 at4 at5 at6 ?_; refine tu2 at7 at8 ?_; refine tu at9 ?_; refine roW at10 fun K hK => ?_; rw [if_neg]
                rotate_left
                focus (intro h; exact Bool.noConfusion h)
                refine hK.out _ _ hH5 (fun _ => ?_); clear hK K; (try simp only [Act.put, kq])
                refine tu at11 ?_; refine tk2 at12 at13 ?_; refine dnW ?_; clear hH5; go_wp2_with fail
                go_roundw
                case rel => exact ⟨(k + 1), by go_num, (by show _ ≤ _; omega), (hI (step_zero HZk.out HMK.out)), hI (aI (Y2 M) (J3 M))⟩
                case measure => simp [RowKit.intOf] <;> omega
        ·
         refine geW (show ¬ k < nr by omega) fun e1_0 e1_1 e1_i => ?_; have HRZ : Hid (firstE (rErr ms rs) rs.length = 0) := firstE_zero.2 (fun j hj => HZk.out j (by have := HR.out.len; omega)); go_wp2_with fail
         go_ret
         exact ⟨by rw [← HE.out]; unfold formedE; rw [if_neg (by simp), if_neg (by simp [HBG2.out]), if_pos HEM.out, HRZ.out] <;> rfl, (J1 M)⟩
      ·
       have em1_ : (em == 0) = false := beq_false_of_ne hem_; have em2_ : (em != 0) = true := bne_iff_ne.2 hem_; have em3_ : ¬ em = 0 := hem_; refine (Y0 M).D3 fun aa ab ad => ?_; go_wp2_with fail
       clear aa ab ad; refine (ctMeters (G := G) (er := em) (HM.out.keep (J1 M)) (by omega) HEM.out).mono ?_; rintro e w3 ⟨rfl, hb⟩; replace M := gnM hb M; clear hb; go_wp2_with fail
       go_ret
       exact ⟨by rw [← HE.out]; unfold formedE; rw [if_neg (by simp), if_neg (by simp [HBG2.out]), if_neg (show ¬ firstE (mErr ms) ms.length = 0 by rw [HEM.out]; exact em3_), HEM.out] <;> rfl, (J1 M)⟩
end Go.Proofs.YtlcgckelamhnpaaGreat
