/- CounterTells: whatever the arguments, it returns true. -/
import Derived.Test.YtlcgckelamhnpaaGreatCtRD
import Derived.Test.YtlcgckelamhnpaaGreatCtRE
set_option maxRecDepth 100000
set_option maxHeartbeats 4000000
namespace Go.Proofs.YtlcgckelamhnpaaGreat
open Go.RowKit Go.Lib
variable {G : Nat}
theorem ctFits {ms_ mf mu : Int} {vl : List XC} {va : Option Addr} {vn vc : Nat} {l : List MkC} {a : Option Addr} {n c : Nat} {b_ : Bool} {w : World} (hG : G ≤ w.heap.size) (h : RdM G w a n c l) (hv : RdX G w va vn vc vl) (_hn : n ≤ 1000000) (_hvn : vn ≤ 1000000) (hz : MkZ l 60) (hzx : XZ vl 60) (_hf : 0 ≤ mf) (_hfu : mf ≤ mu) (_hu : mu ≤ 1000000) (hin : ∀ x ∈ (l.map MkC.mk'), mf ≤ x.d ∧ x.d ≤ mu) (hmo : ∀ x ∈ l, x.lo ≤ x.hi) (hb : fitsB (⟨ms_, mf, mu⟩ : Mt) (l.map MkC.mk') (vl.map XC.o) = b_) :
 Calls Tryz.prog 33 #[.agg #[.int .i64 ms_, .int .i64 mf, .int .i64 mu], .slice a n c, .slice va vn vc] w fun e w' => e = .returned (.bool b_) ∧ Below w.heap.size w w' := by
 have HZ := hI hz; have HZX := hI hzx; have HB := hI hb; have HMO := hI hmo; have HIN : Hid (∀ x ∈ l, mf ≤ x.d ∧ x.d ≤ mu) := fun x hx => hin x.mk' (List.mem_map.2 ⟨x, hx, rfl⟩)
 clear hz hzx hb hin hmo; have HL : Hid (RdM G w a n c l) := h; have HVL : Hid (RdX G w va vn vc vl) := hv; clear h hv; have M : Hid (Below w.heap.size w w) := Below.refl _ _; go_enter Tryz.func33, Tryz.ntmps33
 go_upto_region 1 with fail
 generalize hv : World.alloc w _ = w1; replace M := alM hv.symm M; clear hv; have hws_ : IntKind.i64.wrap (mu - mf) = mu - mf := by rw [IntKind.wrap_i64]; omega
 have hwt_ : IntKind.i64.wrap (mu - mf + 1) = mu - mf + 1 := by rw [IntKind.wrap_i64]; omega
 by_cases hln_ : (vn : Int) = mu - mf + 1
 ·
  have n1_ : ((vn : Int) != mu - mf + 1) = false := by rw [hln_]; simp
  have HLN := hI hln_; clear hln_; refine (Y0 M).D3 fun aa ab ac => ?_; go_wp2_with fail
  clear aa ab ac; go_loopw [22] (fun i22 wr => ∃ (k : Nat), i22 = .int .i64 (k : Int) ∧ Hid (k ≤ vn) ∧ Hid ((List.range k).all (valB (vl.map XC.o)) = true) ∧ Hid (Bx wr w.heap.size 49 #[.int .i64 ms_, .int .i64 mf, .int .i64 mu] ∧ Below w.heap.size w wr)) (fun i22 _ => vn - (RowKit.intOf i22).toNat)
  case atStart =>
   exact ⟨0, rfl, (by show _ ≤ _; omega), (hI rfl), hI (aI (Y0 M) (J1 M))⟩
  case round =>
   obtain ⟨w2, rfl⟩ : ∃ x, x = wr := ⟨_, rfl⟩; clear M; obtain ⟨k, rfl, hk, HA, M⟩ := hrel; have hk := hk.out
   by_cases hlt : k < vn
   ·
    refine ltW (show k < vn by omega) fun e1_0 e1_1 e1_i => ?_; obtain ⟨bv, ofv, rfl, hb_⟩ := RdL.ptr HVL.out (by omega : 0 < vn); have hbkbv := hI hb_; have hkl_ : k < vl.length := by rw [HVL.out.len]; exact hlt
    obtain ⟨x_, hx_⟩ : ∃ x, vl[k]? = some x := ⟨vl[k], List.getElem?_eq_getElem hkl_⟩; obtain ⟨xu0, xu1, xu2, xu3, xa, xb, xo⟩ := x_; have HRx : Hid (Row w bv (ofv + k * 4) [xu0, xu1, xu2, xu3]) := hb_.row hx_; have HKx : Hid (XOk G w xu0 xu1 xu2 xu3 xa xb xo) := hb_.ok hx_; have HEx := hI hx_; have hz_ := HZX.out _ (List.mem_of_getElem? hx_); have hzxa : xa ≤ 60 := hz_.1; have hzxb : xb ≤ 60 := hz_.2.1; have HZx := hI hz_.2.2; have HVx : Hid ((vl.map XC.o)[k]? = some xo) := x_at hx_; clear hx_ hb_ hkl_ hz_; have hlv_ : k < (vl.map XC.o).length := by rw [List.length_map, HVL.out.len]; exact hlt
    rcases xo with _ | xq
    ·
     have HFx : Hid (FX w xu0 xu1 xu2 xu3 xa xb none) := HKx.out.fx; have HNO := hI (fits_val (m := (⟨ms_, mf, mu⟩ : Mt)) (l := (l.map MkC.mk')) hlv_ (valB_none HVx.out)); refine cj4 (FX.st (HFx.out.keep (J1 M))) fun ad ae af ag => ?_; refine cj4 (HRx.out.keep (J1 M)).c4 fun r0_0 r0_1 r0_2 r0_3 => ?_; go_wp2_with fail
     clear ad ae af ag r0_0 r0_1 r0_2 r0_3; generalize hv : World.alloc w2 _ = w3; have ow1_ := (Y0 M).lt; replace M := alM hv.symm M; clear hv; refine nmW w3.drew fun w4 hv => ?_; replace M := drM hv M; refine rg4W hv (Y0 M) fun hH1 => ?_; clear hv; refine tk at0 ?_; refine roW at1 fun K hK => ?_; go_simp; refine (fxRight_ok (o := none) (b_ := false) (HFx.out.keep (J2 M)) (by omega) (by omega) rfl).mono ?_; rintro e w5 ⟨rfl, hb⟩; replace M := gnM hb M; clear hb; (try go_wp2_with fail)
     refine hK.out _ _ ((Y0 M).d4) (fun hH2 => ?_); clear hK K hH1; (try simp only [Act.put, kq])
     refine tk2 at2 at3 ?_; refine tu at4 ?_; refine roW at5 fun K hK => ?_; rw [if_neg]
     rotate_left
     focus (intro h; exact Bool.noConfusion h)
     refine hK.out _ _ hH2 (fun _ => ?_); clear hK K; (try simp only [Act.put, kq])
     refine tu at6 ?_; refine tk2 at7 at8 ?_; refine tu8 at9 at10 at11 at12 at13 at14 at15 at16 ?_; refine tu at17 ?_; refine roW at18 fun K hK => ?_; rw [if_neg]
     rotate_left
     focus (intro h; exact Bool.noConfusion h)
     refine hK.out _ _ hH2 (fun _ => ?_); clear hK K; (try simp only [Act.put, kq])
     refine tu2 at19 at20 ?_; refine tk at21 ?_; refine dnW ?_; clear hH2; go_wp2_with fail
     go_ret
     exact ⟨by rw [← HB.out, HNO.out] <;> rfl, (J2 M)⟩
    ·
     have HQx : Hid (FQ G w xu0 xu1 xu2 xu3 xq) := HKx.out.1; have HFx : Hid (Fz xq 60) := HZx.out _ rfl; obtain ⟨ks, hks_⟩ : ∃ k, sg (nu xq) = k := ⟨_, rfl⟩; obtain ⟨t1, ht1_⟩ : ∃ b, decide (xq < 0) = b := ⟨_, rfl⟩; have hk1_ : decide (ks < 0) = t1 := by rw [← ht1_, ← hks_]; exact decide_eq_decide.2 (sg_neg_iff _)
     have HKS := hI hks_; have HT1 := hI ht1_; clear hks_ ht1_
     by_cases hk0 : 0 < k
     ·
      have e0_0 : decide (0 < k) = true := decide_eq_true (by omega); have e0_1 : decide (0 < (k : Int)) = true := decide_eq_true (by omega); have e0_i : 0 < (k : Int) := by omega
      have hix0 : (0 : Int) ≤ (k : Int) - 1 := by omega
      have hix1 : (k : Int) - 1 < (vn : Int) := by omega
      have hix2 : ((k : Int) - 1).toNat = k - 1 := by omega
      have hix3 : IntKind.i64.wrap ((k : Int) - 1) = (k : Int) - 1 := by rw [IntKind.wrap_i64]; omega
      have hix4 : (1 : Int) ≤ (k : Int) := by omega
      have hb_ := hbkbv.out; have hkl_ : (k - 1) < vl.length := by rw [HVL.out.len]; omega
      obtain ⟨y_, hx_⟩ : ∃ x, vl[(k - 1)]? = some x := ⟨vl[(k - 1)], List.getElem?_eq_getElem hkl_⟩; obtain ⟨yu0, yu1, yu2, yu3, ya, yb, yo⟩ := y_; have HRy : Hid (Row w bv (ofv + (k - 1) * 4) [yu0, yu1, yu2, yu3]) := hb_.row hx_; have HKy : Hid (XOk G w yu0 yu1 yu2 yu3 ya yb yo) := hb_.ok hx_; have HEy := hI hx_; have hz_ := HZX.out _ (List.mem_of_getElem? hx_); have hzya : ya ≤ 60 := hz_.1; have hzyb : yb ≤ 60 := hz_.2.1; have HZy := hI hz_.2.2; have HVy : Hid ((vl.map XC.o)[(k - 1)]? = some yo) := x_at hx_; clear hx_ hb_ hkl_ hz_; obtain ⟨yq, hyq_⟩ := val_some HA.out (show k - 1 < k by omega); obtain rfl : yo = some yq := Option.some.inj (HVy.out.symm.trans hyq_); clear hyq_; have HQy : Hid (FQ G w yu0 yu1 yu2 yu3 yq) := HKy.out.1; have HFy : Hid (Fz yq 60) := HZy.out _ rfl; obtain ⟨kv, hkv_⟩ : ∃ k, ordQ xq yq = k := ⟨_, rfl⟩; obtain ⟨t2, ht2_⟩ : ∃ b, decide (xq < yq) = b := ⟨_, rfl⟩; have hk2_ : decide (kv < 0) = t2 := by rw [← ht2_, ← hkv_, ordQ_lt0]
      have HKV := hI hkv_; have HT2 := hI ht2_; clear hkv_ ht2_; have HVB := hI (valB_next HVx.out hk0 HVy.out HT1.out HT2.out); have HNO : Hid ((!t1 && !t2) = false → fitsB (⟨ms_, mf, mu⟩ : Mt) (l.map MkC.mk') (vl.map XC.o) = false) := fun h_ => fits_val hlv_ (HVB.out.trans h_)
      cases t1 with
      | false =>
       refine cj4 (TQ.st (HQx.out.keep (J1 M))) fun ad ae af ag => ?_; refine cj4 (HRx.out.keep (J1 M)).c4 fun r0_0 r0_1 r0_2 r0_3 => ?_; go_wp2_with fail
       clear ad ae af ag r0_0 r0_1 r0_2 r0_3; generalize hv : World.alloc w2 _ = w3; have ow1_ := (Y0 M).lt; replace M := alM hv.symm M; clear hv; refine nmW w3.drew fun w4 hv => ?_; replace M := drM hv M; refine rgW (S := (fun w' => w'.cell? ⟨w2.heap.size, 0, none⟩ = some (xu0) ∧ w'.cell? ⟨w2.heap.size, 1, none⟩ = some (xu1) ∧ w'.cell? ⟨w2.heap.size, 2, none⟩ = some (xu2) ∧ w'.cell? ⟨w2.heap.size, 3, none⟩ = some (xu3) ∧ w'.cell? ⟨bv, ofv + (k - 1) * 4, none⟩ = some (yu0) ∧ w'.cell? ⟨bv, ofv + (k - 1) * 4 + 1, none⟩ = some (yu1) ∧ w'.cell? ⟨bv, ofv + (k - 1) * 4 + 2, none⟩ = some (yu2) ∧ w'.cell? ⟨bv, ofv + (k - 1) * 4 + 3, none⟩ = some (yu3))) hv ((Y0 M).t4 ((HRy.out.keep (J2 M)).c4)) fun hH3 => ?_; clear hv; refine tk at0 ?_; refine roW at1 fun K hK => ?_; go_simp; refine (fqRight (G := G) (q := xq) (HQx.out.keep (J2 M)) (Fz.mono HFx.out (by omega))).mono ?_; rintro e w5 ⟨rfl, hb⟩; replace M := gnM hb M; clear hb; (try go_wp2_with fail)
       refine hK.out _ _ (((Y0 M).t4 ((HRy.out.keep (J2 M)).c4))) (fun hH4 => ?_); clear hK K hH3; (try simp only [Act.put, kq])
       refine tk2 at2 at3 ?_; refine tk at4 ?_; refine roW at5 fun K hK => ?_; go_simp; refine (fqSign (G := G) (q := xq) (k := ks) (Nat.le_trans hG (J2 M).size) (HQx.out.keep (J2 M)) (Fz.mono HFx.out (by omega)) HKS.out).mono ?_; rintro e w6 ⟨rfl, hb⟩; replace M := gnM hb M; clear hb; (try go_wp2_with fail)
       refine hK.out _ _ (((Y0 M).t4 ((HRy.out.keep (J2 M)).c4))) (fun hH5 => ?_); clear hK K hH4; (try simp only [Act.put, kq])
       refine tk8 at6 at7 at8 at9 at10 at11 at12 at13 ?_; refine tk4 at14 at15 at16 at17 ?_; refine roW at18 fun K hK => ?_; go_simp; refine (fqCompare (G := G) (q := xq) (r := yq) (k := kv) (HQx.out.keep (J2 M)) (HQy.out.keep (J2 M)) (Fz.mono HFx.out (by omega)) (Fz.mono HFy.out (by omega)) HKV.out).mono ?_; rintro e w7 ⟨rfl, hb⟩; replace M := gnM hb M; clear hb; (try go_wp2_with fail)
       refine hK.out _ _ (((Y0 M).t4 ((HRy.out.keep (J2 M)).c4))) (fun hH6 => ?_); clear hK K hH5; (try simp only [Act.put, kq])
       refine tk2 at19 at20 ?_; refine tk at21 ?_; refine dnW ?_; clear hH6
       cases t2 with
       | false =>
        go_wp2_with fail
        go_roundw
        case rel => exact ⟨(k + 1), by go_num, (by show _ ≤ _; omega), (hI (range_next HA.out HVB.out)), hI (aI (Y1 M) (J2 M))⟩
        case measure => simp [RowKit.intOf] <;> omega
       | true =>
        go_wp2_with fail
        go_ret
        exact ⟨by rw [← HB.out, (HNO.out rfl)] <;> rfl, (J2 M)⟩
      | true =>
       refine cj4 (TQ.st (HQx.out.keep (J1 M))) fun ad ae af ag => ?_; refine cj4 (HRx.out.keep (J1 M)).c4 fun r0_0 r0_1 r0_2 r0_3 => ?_; go_wp2_with fail
       clear ad ae af ag r0_0 r0_1 r0_2 r0_3; generalize hv : World.alloc w2 _ = w3; have ow1_ := (Y0 M).lt; replace M := alM hv.symm M; clear hv; refine nmW w3.drew fun w4 hv => ?_; replace M := drM hv M; refine rg4W hv (Y0 M) fun hH7 => ?_; clear hv; refine tk at0 ?_; refine roW at1 fun K hK => ?_; go_simp; refine (fqRight (G := G) (q := xq) (HQx.out.keep (J2 M)) (Fz.mono HFx.out (by omega))).mono ?_; rintro e w5 ⟨rfl, hb⟩; replace M := gnM hb M; clear hb; (try go_wp2_with fail)
       refine hK.out _ _ ((Y0 M).d4) (fun hH8 => ?_); clear hK K hH7; (try simp only [Act.put, kq])
       refine tk2 at2 at3 ?_; refine tk at4 ?_; refine roW at5 fun K hK => ?_; go_simp; refine (fqSign (G := G) (q := xq) (k := ks) (Nat.le_trans hG (J2 M).size) (HQx.out.keep (J2 M)) (Fz.mono HFx.out (by omega)) HKS.out).mono ?_; rintro e w6 ⟨rfl, hb⟩; replace M := gnM hb M; clear hb; (try go_wp2_with fail)
       refine hK.out _ _ ((Y0 M).d4) (fun hH9 => ?_); clear hK K hH8; (try simp only [Act.put, kq])
       refine tk2 at6 at7 ?_; refine tk at8 ?_; refine tu8 at9 at10 at11 at12 at13 at14 at15 at16 ?_; refine tu at17 ?_; refine roW at18 fun K hK => ?_; rw [if_neg]
       rotate_left
       focus (intro h; exact Bool.noConfusion h)
       refine hK.out _ _ hH9 (fun _ => ?_); clear hK K; (try simp only [Act.put, kq])
       refine tu2 at19 at20 ?_; refine tk at21 ?_; refine dnW ?_; clear hH9; go_wp2_with fail
       go_ret
       exact ⟨by rw [← HB.out, (HNO.out rfl)] <;> rfl, (J2 M)⟩
     ·
      have e0_0 : decide (0 < k) = false := decide_eq_false (by omega); have e0_1 : decide (0 < (k : Int)) = false := decide_eq_false (by omega); have e0_i : ¬ 0 < (k : Int) := by omega
      have HVB := hI (valB_zero HVx.out (show k = 0 by omega) HT1.out); have HNO : Hid ((!t1) = false → fitsB (⟨ms_, mf, mu⟩ : Mt) (l.map MkC.mk') (vl.map XC.o) = false) := fun h_ => fits_val hlv_ (HVB.out.trans h_)
      cases t1 with
      | false =>
       refine cj4 (TQ.st (HQx.out.keep (J1 M))) fun ad ae af ag => ?_; refine cj4 (HRx.out.keep (J1 M)).c4 fun r0_0 r0_1 r0_2 r0_3 => ?_; go_wp2_with fail
       clear ad ae af ag r0_0 r0_1 r0_2 r0_3; generalize hv : World.alloc w2 _ = w3; have ow1_ := (Y0 M).lt; replace M := alM hv.symm M; clear hv; refine nmW w3.drew fun w4 hv => ?_; replace M := drM hv M; refine rg4W hv (Y0 M) fun hH10 => ?_; clear hv; refine tk at0 ?_; refine roW at1 fun K hK => ?_; go_simp; refine (fqRight (G := G) (q := xq) (HQx.out.keep (J2 M)) (Fz.mono HFx.out (by omega))).mono ?_; rintro e w5 ⟨rfl, hb⟩; replace M := gnM hb M; clear hb; (try go_wp2_with fail)
       refine hK.out _ _ ((Y0 M).d4) (fun hH11 => ?_); clear hK K hH10; (try simp only [Act.put, kq])
       refine tk2 at2 at3 ?_; refine tk at4 ?_; refine roW at5 fun K hK => ?_; go_simp; refine (fqSign (G := G) (q := xq) (k := ks) (Nat.le_trans hG (J2 M).size) (HQx.out.keep (J2 M)) (Fz.mono HFx.out (by omega)) HKS.out).mono ?_; rintro e w6 ⟨rfl, hb⟩; replace M := gnM hb M; clear hb; (try go_wp2_with fail)
       refine hK.out _ _ ((Y0 M).d4) (fun hH12 => ?_); clear hK K hH11; (try simp only [Act.put, kq])
       refine tk4 at6 at7 at8 at9 ?_; refine tk2 at10 at11 ?_; refine tu4 at12 at13 at14 at15 ?_; refine tu2 at16 at17 ?_; refine roW at18 fun K hK => ?_; rw [if_neg]
       rotate_left
       focus (intro h; exact Bool.noConfusion h)
       refine hK.out _ _ hH12 (fun _ => ?_); clear hK K; (try simp only [Act.put, kq])
       refine tu at19 ?_; refine tk2 at20 at21 ?_; refine dnW ?_; clear hH12; go_wp2_with fail
       go_roundw
       case rel => exact ⟨(k + 1), by go_num, (by show _ ≤ _; omega), (hI (range_next HA.out HVB.out)), hI (aI (Y1 M) (J2 M))⟩
       case measure => simp [RowKit.intOf] <;> omega
      | true =>
       refine cj4 (TQ.st (HQx.out.keep (J1 M))) fun ad ae af ag => ?_; refine cj4 (HRx.out.keep (J1 M)).c4 fun r0_0 r0_1 r0_2 r0_3 => ?_; go_wp2_with fail
       clear ad ae af ag r0_0 r0_1 r0_2 r0_3; generalize hv : World.alloc w2 _ = w3; have ow1_ := (Y0 M).lt; replace M := alM hv.symm M; clear hv; refine nmW w3.drew fun w4 hv => ?_; replace M := drM hv M; refine rg4W hv (Y0 M) fun hH13 => ?_; clear hv; refine tk at0 ?_; refine roW at1 fun K hK => ?_; go_simp; refine (fqRight (G := G) (q := xq) (HQx.out.keep (J2 M)) (Fz.mono HFx.out (by omega))).mono ?_; rintro e w5 ⟨rfl, hb⟩; replace M := gnM hb M; clear hb; (try go_wp2_with fail)
       refine hK.out _ _ ((Y0 M).d4) (fun hH14 => ?_); clear hK K hH13; (try simp only [Act.put, kq])
       refine tk2 at2 at3 ?_; refine tk at4 ?_; refine roW at5 fun K hK => ?_; go_simp; refine (fqSign (G := G) (q := xq) (k := ks) (Nat.le_trans hG (J2 M).size) (HQx.out.keep (J2 M)) (Fz.mono HFx.out (by omega)) HKS.out).mono ?_; rintro e w6 ⟨rfl, hb⟩; replace M := gnM hb M; clear hb; (try go_wp2_with fail)
       refine hK.out _ _ ((Y0 M).d4) (fun hH15 => ?_); clear hK K hH14; (try simp only [Act.put, kq])
       refine tk2 at6 at7 ?_; refine tk at8 ?_; refine tu8 at9 at10 at11 at12 at13 at14 at15 at16 ?_; refine tu at17 ?_; refine roW at18 fun K hK => ?_; rw [if_neg]
       rotate_left
       focus (intro h; exact Bool.noConfusion h)
       refine hK.out _ _ hH15 (fun _ => ?_); clear hK K; (try simp only [Act.put, kq])
       refine tu2 at19 at20 ?_; refine tk at21 ?_; refine dnW ?_; clear hH15; go_wp2_with fail
       go_ret
       exact ⟨by rw [← HB.out, (HNO.out rfl)] <;> rfl, (J2 M)⟩
   ·
    refine geW (show ¬ k < vn by omega) fun e1_0 e1_1 e1_i => ?_; have HAA : Hid ((List.range (vl.map XC.o).length).all (valB (vl.map XC.o)) = true) := by show _ = _; rw [List.length_map, HVL.out.len, show vn = k by omega]; exact HA.out
    go_wp2_with fail
    go_loopw [52] (fun i52 wr => ∃ (j : Nat), i52 = .int .i64 (j : Int) ∧ Hid (j ≤ n) ∧ Hid (((l.map MkC.mk').take j).all (inB (⟨ms_, mf, mu⟩ : Mt) (vl.map XC.o)) = true) ∧ Hid (Bx wr w.heap.size 49 #[.int .i64 ms_, .int .i64 mf, .int .i64 mu] ∧ Below w.heap.size w wr)) (fun i52 _ => n - (RowKit.intOf i52).toNat)
    case atStart =>
     exact ⟨0, rfl, (by show _ ≤ _; omega), (hI rfl), hI (aI (Y0 M) (J1 M))⟩
    case round =>
     obtain ⟨w3, rfl⟩ : ∃ x, x = wr := ⟨_, rfl⟩; clear M; obtain ⟨j, rfl, hj, HJ, M⟩ := hrel; have hj := hj.out
     by_cases hlt2 : j < n
     ·
      refine ltW (show j < n by omega) fun e2_0 e2_1 e2_i => ?_; obtain ⟨b2, off2, rfl, hb_⟩ := RdL.ptr HL.out (by omega : 0 < n); have hkl_ : j < l.length := by rw [HL.out.len]; exact hlt2
      obtain ⟨y_, hx_⟩ : ∃ x, l[j]? = some x := ⟨l[j], List.getElem?_eq_getElem hkl_⟩; obtain ⟨yd, yu0, yu1, yu2, yu3, ylo, yv0, yv1, yv2, yv3, yhi⟩ := y_; have HRy : Hid (Row w b2 (off2 + j * 9) [.int .i64 yd, yu0, yu1, yu2, yu3, yv0, yv1, yv2, yv3]) := hb_.row hx_; have HQy : Hid (FQ G w yu0 yu1 yu2 yu3 ylo) := (hb_.ok hx_).1; have HSy : Hid (FQ G w yv0 yv1 yv2 yv3 yhi) := (hb_.ok hx_).2; have HEy := hI hx_; have hz_ := HZ.out _ (List.mem_of_getElem? hx_); have HZy1 : Hid (Fz ylo 60) := hz_.1; have HZy2 : Hid (Fz yhi 60) := hz_.2; have HMy : Hid ((l.map MkC.mk')[j]? = some ⟨yd, ylo, yhi⟩) := by show _ = _; rw [List.getElem?_map, hx_]; rfl
      clear hx_ hb_ hkl_ hz_; have hin_ := HIN.out _ (List.mem_of_getElem? HEy.out); simp only at hin_; obtain ⟨j0, hj0_⟩ : ∃ j : Nat, yd = mf + (j : Int) := ⟨(yd - mf).toNat, by omega⟩; subst hj0_; have hjv_ : j0 < vn := by have h_ := HLN.out; omega
      clear hin_; have HOL : Hid (ylo ≤ yhi) := HMO.out _ (List.mem_of_getElem? HEy.out); have hjx0 : (0 : Int) ≤ (j0 : Int) := by omega
      have hjx1 : (j0 : Int) < (vn : Int) := by omega
      have hjx2 : mf + (j0 : Int) - mf = (j0 : Int) := by omega
      have hjx3 : IntKind.i64.wrap (j0 : Int) = (j0 : Int) := by rw [IntKind.wrap_i64]; omega
      obtain ⟨bv, ofv, rfl, hb_⟩ := RdL.ptr HVL.out (by omega : 0 < vn); have hbkbv := hI hb_; have hkl_ : j0 < vl.length := by rw [HVL.out.len]; omega
      obtain ⟨x_, hx_⟩ : ∃ x, vl[j0]? = some x := ⟨vl[j0], List.getElem?_eq_getElem hkl_⟩; obtain ⟨xu0, xu1, xu2, xu3, xa, xb, xo⟩ := x_; have HRx : Hid (Row w bv (ofv + j0 * 4) [xu0, xu1, xu2, xu3]) := hb_.row hx_; have HKx : Hid (XOk G w xu0 xu1 xu2 xu3 xa xb xo) := hb_.ok hx_; have HEx := hI hx_; have hz_ := HZX.out _ (List.mem_of_getElem? hx_); have hzxa : xa ≤ 60 := hz_.1; have hzxb : xb ≤ 60 := hz_.2.1; have HZx := hI hz_.2.2; have HVx : Hid ((vl.map XC.o)[j0]? = some xo) := x_at hx_; clear hx_ hb_ hkl_ hz_; obtain ⟨xq, hxq_⟩ := val_some HAA.out (show j0 < (vl.map XC.o).length by rw [List.length_map, HVL.out.len]; exact hjv_); obtain rfl : xo = some xq := Option.some.inj (HVx.out.symm.trans hxq_); clear hxq_; have HQx : Hid (FQ G w xu0 xu1 xu2 xu3 xq) := HKx.out.1; have HFx : Hid (Fz xq 60) := HZx.out _ rfl; obtain ⟨t1, ht1_⟩ : ∃ b, (decide (ylo ≤ xq) && decide (xq ≤ yhi)) = b := ⟨_, rfl⟩; have HT1 := hI ht1_; clear ht1_; have HIB := hI (inB_is (m := (⟨ms_, mf, mu⟩ : Mt)) (x := ⟨mf + (j0 : Int), ylo, yhi⟩) rfl HVx.out HT1.out); have HNO : Hid (t1 = false → fitsB (⟨ms_, mf, mu⟩ : Mt) (l.map MkC.mk') (vl.map XC.o) = false) := fun h_ => fits_in (all_no HMy.out (HIB.out.trans h_))
      cases t1 with
      | false =>
       refine cj4 (TQ.st (HQy.out.keep (J1 M))) fun ah ai aj ak => ?_; refine cj4 (TQ.st (HSy.out.keep (J1 M))) fun al am ao ap => ?_; refine cj9 (HRy.out.keep (J1 M)).c9 fun r0_0 r0_1 r0_2 r0_3 r0_4 r0_5 r0_6 r0_7 r0_8 => ?_; go_wp2_with fail
       clear ah ai aj ak al am ao ap r0_0 r0_1 r0_2 r0_3 r0_4 r0_5 r0_6 r0_7 r0_8; generalize hv : World.alloc w3 _ = w4; have ow1_ := (Y0 M).lt; replace M := alM hv.symm M; clear hv; refine nmW w4.drew fun w5 hv => ?_; replace M := drM hv M; refine rgW (S := (fun w' => w'.cell? ⟨w.heap.size, 0, none⟩ = some (.int .i64 ms_) ∧ w'.cell? ⟨w.heap.size, 1, none⟩ = some (.int .i64 mf) ∧ w'.cell? ⟨w.heap.size, 2, none⟩ = some (.int .i64 mu) ∧ w'.cell? ⟨w3.heap.size, 0, none⟩ = some (.int .i64 (mf + (j0 : Int))) ∧ w'.cell? ⟨w3.heap.size, 1, none⟩ = some (yu0) ∧ w'.cell? ⟨w3.heap.size, 2, none⟩ = some (yu1) ∧ w'.cell? ⟨w3.heap.size, 3, none⟩ = some (yu2) ∧ w'.cell? ⟨w3.heap.size, 4, none⟩ = some (yu3) ∧ w'.cell? ⟨w3.heap.size, 5, none⟩ = some (yv0) ∧ w'.cell? ⟨w3.heap.size, 6, none⟩ = some (yv1) ∧ w'.cell? ⟨w3.heap.size, 7, none⟩ = some (yv2) ∧ w'.cell? ⟨w3.heap.size, 8, none⟩ = some (yv3) ∧ w'.cell? ⟨bv, ofv + j0 * 4, none⟩ = some (xu0) ∧ w'.cell? ⟨bv, ofv + j0 * 4 + 1, none⟩ = some (xu1) ∧ w'.cell? ⟨bv, ofv + j0 * 4 + 2, none⟩ = some (xu2) ∧ w'.cell? ⟨bv, ofv + j0 * 4 + 3, none⟩ = some (xu3))) hv ((Y1 M).t3 ((Y0 M).t9 ((HRx.out.keep (J2 M)).c4))) fun hH16 => ?_; clear hv; refine tk8 at0 at1 at2 at3 at4 at5 at6 at7 ?_; refine tk4 at8 at9 at10 at11 ?_; refine tk at12 ?_; refine roW at13 fun K hK => ?_; go_simp; refine (spHas_q (G := G) (p := ylo) (q := yhi) (x := xq) (b_ := false) (Nat.le_trans hG (J2 M).size) (HQy.out.keep (J2 M)) (HSy.out.keep (J2 M)) (Fz.mono HZy1.out (by omega)) (Fz.mono HZy2.out (by omega)) HOL.out (HQx.out.keep (J2 M)) (Fz.mono HFx.out (by omega)) HT1.out).mono ?_; rintro e w6 ⟨rfl, hb⟩; replace M := gnM hb M; clear hb; (try go_wp2_with fail)
       refine hK.out _ _ (((Y1 M).t3 ((Y0 M).t9 ((HRx.out.keep (J2 M)).c4)))) (fun hH17 => ?_); clear hK K hH16; (try simp only [Act.put, kq])
       refine tk at14 ?_; refine dnW ?_; clear hH17; go_wp2_with fail
       go_ret
       exact ⟨by rw [← HB.out, (HNO.out trivial)] <;> rfl, (J2 M)⟩
      | true =>
       refine cj4 (TQ.st (HQy.out.keep (J1 M))) fun ah ai aj ak => ?_; refine cj4 (TQ.st (HSy.out.keep (J1 M))) fun al am ao ap => ?_; refine cj9 (HRy.out.keep (J1 M)).c9 fun r0_0 r0_1 r0_2 r0_3 r0_4 r0_5 r0_6 r0_7 r0_8 => ?_; go_wp2_with fail
       clear ah ai aj ak al am ao ap r0_0 r0_1 r0_2 r0_3 r0_4 r0_5 r0_6 r0_7 r0_8; generalize hv : World.alloc w3 _ = w4; have ow1_ := (Y0 M).lt; replace M := alM hv.symm M; clear hv; refine nmW w4.drew fun w5 hv => ?_; replace M := drM hv M; refine rgW (S := (fun w' => w'.cell? ⟨w.heap.size, 0, none⟩ = some (.int .i64 ms_) ∧ w'.cell? ⟨w.heap.size, 1, none⟩ = some (.int .i64 mf) ∧ w'.cell? ⟨w.heap.size, 2, none⟩ = some (.int .i64 mu) ∧ w'.cell? ⟨w3.heap.size, 0, none⟩ = some (.int .i64 (mf + (j0 : Int))) ∧ w'.cell? ⟨w3.heap.size, 1, none⟩ = some (yu0) ∧ w'.cell? ⟨w3.heap.size, 2, none⟩ = some (yu1) ∧ w'.cell? ⟨w3.heap.size, 3, none⟩ = some (yu2) ∧ w'.cell? ⟨w3.heap.size, 4, none⟩ = some (yu3) ∧ w'.cell? ⟨w3.heap.size, 5, none⟩ = some (yv0) ∧ w'.cell? ⟨w3.heap.size, 6, none⟩ = some (yv1) ∧ w'.cell? ⟨w3.heap.size, 7, none⟩ = some (yv2) ∧ w'.cell? ⟨w3.heap.size, 8, none⟩ = some (yv3) ∧ w'.cell? ⟨bv, ofv + j0 * 4, none⟩ = some (xu0) ∧ w'.cell? ⟨bv, ofv + j0 * 4 + 1, none⟩ = some (xu1) ∧ w'.cell? ⟨bv, ofv + j0 * 4 + 2, none⟩ = some (xu2) ∧ w'.cell? ⟨bv, ofv + j0 * 4 + 3, none⟩ = some (xu3))) hv ((Y1 M).t3 ((Y0 M).t9 ((HRx.out.keep (J2 M)).c4))) fun hH18 => ?_; clear hv; refine tk8 at0 at1 at2 at3 at4 at5 at6 at7 ?_; refine tk4 at8 at9 at10 at11 ?_; refine tk at12 ?_; refine roW at13 fun K hK => ?_; go_simp; refine (spHas_q (G := G) (p := ylo) (q := yhi) (x := xq) (b_ := true) (Nat.le_trans hG (J2 M).size) (HQy.out.keep (J2 M)) (HSy.out.keep (J2 M)) (Fz.mono HZy1.out (by omega)) (Fz.mono HZy2.out (by omega)) HOL.out (HQx.out.keep (J2 M)) (Fz.mono HFx.out (by omega)) HT1.out).mono ?_; rintro e w6 ⟨rfl, hb⟩; replace M := gnM hb M; clear hb; (try go_wp2_with fail)
       refine hK.out _ _ (((Y1 M).t3 ((Y0 M).t9 ((HRx.out.keep (J2 M)).c4)))) (fun hH19 => ?_); clear hK K hH18; (try simp only [Act.put, kq])
       refine tk at14 ?_; refine dnW ?_; clear hH19; go_wp2_with fail
       go_roundw
       case rel => exact ⟨(j + 1), by go_num, (by show _ ≤ _; omega), (hI (all_next HMy.out HJ.out HIB.out)), hI (aI (Y1 M) (J2 M))⟩
       case measure => simp [RowKit.intOf] <;> omega
     ·
      refine geW (show ¬ j < n by omega) fun e2_0 e2_1 e2_i => ?_; have HYES : Hid (fitsB (⟨ms_, mf, mu⟩ : Mt) (l.map MkC.mk') (vl.map XC.o) = true) := fits_yes (by rw [List.length_map, HVL.out.len]; exact HLN.out) HAA.out (by have h_ := HJ.out; rw [List.take_of_length_le (by rw [List.length_map, HL.out.len]; omega)] at h_; exact h_); go_wp2_with fail
      go_ret
      exact ⟨by rw [← HB.out, HYES.out] <;> rfl, (J1 M)⟩
 ·
  have n1_ : ((vn : Int) != mu - mf + 1) = true := bne_iff_ne.2 hln_; have HNO := hI (fits_len (l := (l.map MkC.mk')) (m := (⟨ms_, mf, mu⟩ : Mt)) (vs := (vl.map XC.o)) (by rw [List.length_map, HVL.out.len]; exact hln_)); clear hln_; refine (Y0 M).D3 fun aa ab ac => ?_; go_wp2_with fail
  clear aa ab ac; go_ret
  exact ⟨by rw [← HB.out, HNO.out] <;> rfl, (J1 M)⟩
theorem ctAllowed {nm : ByteArray} {am ar ac aq : Option Addr} {nn cm nr cr cc cq : Nat} {ms : List Mt} {rs : List Rg} {cs : List Ct} {rr : List Rc} {ah : Option Addr} {nh ch : Nat} {H : List HdX} {nb big b_ : Bool} {w : World} (hG : G ≤ w.heap.size) (hm : RdMt G w am nn cm ms) (hr : RdRg G w ar nr cr rs) (hc : CtIn w (.slice ac cs.length cc) cs) (hq : RcIn w (.slice aq rr.length cq) rr) (_hsz : nm.size ≤ 1000) (_hnn : nn ≤ 1000) (_hnr : nr ≤ 1000) (_hcl : cs.length ≤ 1000) (_hrl : rr.length ≤ 1000) (hh : RdHX G w ah nh ch H) (hzx : XZL H 60) (hlx : LenX H 1000) (hnb : nameOk nm.data.toList = nb) (hbg : bigB ms rs cs.length rr.length = big) (hb : allowB (ivOf cs rr) nb big ms rs (H.map HdX.vs) = b_) :
 Calls Tryz.prog 12 #[.agg #[.string nm, .slice am nn cm, .slice ar nr cr], .slice ac cs.length cc, .slice aq rr.length cq, .slice ah nh ch] w fun e w' => e = .returned (.bool b_) ∧ Below w.heap.size w w' := by
 obtain ⟨fe, hfe_⟩ : ∃ e, formedE nb big ms rs = e := ⟨_, rfl⟩; have HFE := hI hfe_; have HB := hI hb; have HNB := hI hnb; have HBG := hI hbg; have HZXL := hI hzx; have HLX := hI hlx; clear hfe_ hb hnb hbg hzx hlx; have HM : Hid (RdMt G w am nn cm ms) := hm; have HR : Hid (RdRg G w ar nr cr rs) := hr; have HC : Hid (CtIn w (.slice ac cs.length cc) cs) := hc; have HQ : Hid (RcIn w (.slice aq rr.length cq) rr) := hq; have HHX : Hid (RdHX G w ah nh ch H) := hh; clear hm hr hc hq hh; have M : Hid (Below w.heap.size w w) := Below.refl _ _; go_enter Tryz.func12, Tryz.ntmps12
 go_upto_region 1 with fail
 generalize hv : World.alloc w _ = w1; replace M := alM hv.symm M; clear hv
 by_cases hem_ : fe = 0
 ·
  subst hem_; have HFM : Hid (RgIn ms.length rs) := rgIn_of HFE.out
  by_cases hln_ : nh = nn
  ·
   have n2_ : ((nh : Int) != (nn : Int)) = false := by rw [hln_]; simp
   have HLN := hI hln_; clear hln_; refine (Y0 M).D3 fun aa ab ad => ?_; go_wp2_with fail
   clear aa ab ad; refine (ctFormed (G := G) (nm := nm) (nb := nb) (big := big) (er := 0) (Nat.le_trans hG (J1 M).size) (HM.out.keep (J1 M)) (HR.out.keep (J1 M)) (HC.out.keep (J1 M)) (HQ.out.keep (J1 M)) (by omega) (by omega) (by omega) (by omega) (by omega) HNB.out HBG.out HFE.out).mono ?_; rintro e w2 ⟨rfl, hb⟩; replace M := gnM hb M; clear hb; refine (Y0 M).D3 fun aa ab ad => ?_; go_wp2_with fail
   clear aa ab ad; refine (ctMarks (G := G) (nm := nm) (Nat.le_trans hG (J1 M).size) (HM.out.keep (J1 M)) (HR.out.keep (J1 M)) (HC.out.keep (J1 M)) (HQ.out.keep (J1 M)) (by omega) (by omega) (by omega) (by omega) (by omega) HFM.out).mono ?_; rintro e w3 ⟨a_1, L_2, rfl, hd3, hu4, hu5, hb⟩; replace M := adM hd3 hb M; clear hb hd3; replace hu4 := hI hu4; replace hu5 := hI hu5; refine (Y1 M).D3 fun aa ab ad => ?_; go_wp2_with fail
   clear aa ab ad; replace M := hI (aI (Y0 M) (J2 M)); go_loopw [32] (fun i32 wr => ∃ (k : Nat), i32 = .int .i64 (k : Int) ∧ Hid (k ≤ nn) ∧ Hid ((List.range k).all (fitK (ivOf cs rr) ms rs (H.map HdX.vs)) = true) ∧ Hid (RdH G wr a_1 nn nn L_2 ∧ Below w.heap.size w wr)) (fun i32 _ => nn - (RowKit.intOf i32).toNat)
   case atStart =>
    exact ⟨0, rfl, (by show _ ≤ _; omega), (hI rfl), hI (aI (Y0 M) (J1 M))⟩
   case round =>
    obtain ⟨w4, rfl⟩ : ∃ x, x = wr := ⟨_, rfl⟩; clear M; obtain ⟨k, rfl, hk, HA, M⟩ := hrel; have hk := hk.out
    by_cases hlt : k < nn
    ·
     refine ltW (show k < nn by omega) fun e1_0 e1_1 e1_i => ?_; obtain ⟨bx, offx, rfl, -⟩ := RdL.ptr (Y0 M) (by omega : 0 < nn); have hkl_ : k < L_2.length := by rw [(Y0 M).len]; omega
     obtain ⟨x_, hx_⟩ : ∃ x, L_2[k]? = some x := ⟨L_2[k], List.getElem?_eq_getElem hkl_⟩; obtain ⟨xa, xn, xc, xl⟩ := x_; have HEx := hI hx_; have HZx : Hid (MkZ xl 60) := hu5.out _ (List.mem_of_getElem? hx_); have hnx : xn ≤ 1000 := by have h_ := (lenL_of hu4.out (by have := HR.out.len; omega)) _ (List.mem_of_getElem? hx_); have h2_ : xl.length = xn := (RdL.oksC (Y0 M) _ (List.mem_of_getElem? hx_) : RdM G w4 xa xn xc xl).len; simp only at h_; omega
     clear hx_ hkl_; obtain ⟨bm, ofm, rfl, hb_⟩ := RdL.ptr HM.out (by omega : 0 < nn); have hbkbm := hI hb_; have hkl_ : k < ms.length := by rw [HM.out.len]; exact hlt
     obtain ⟨z_, hx_⟩ : ∃ x, ms[k]? = some x := ⟨ms[k], List.getElem?_eq_getElem hkl_⟩; obtain ⟨zs, zf, zu⟩ := z_; have HRz : Hid (Row w bm (ofm + k * 3) [.int .i64 zs, .int .i64 zf, .int .i64 zu]) := hb_.row hx_; have HEz := hI hx_; have hlz := hkl_; clear hx_ hb_ hkl_; have hkh_ : k < nh := by have h_ := HLN.out; omega
     obtain ⟨bh, ofh, rfl, hb_⟩ := RdL.ptr HHX.out (by omega : 0 < nh); have hbkbh := hI hb_; have hkl_ : k < H.length := by rw [HHX.out.len]; exact hkh_
     obtain ⟨y_, hx_⟩ : ∃ x, H[k]? = some x := ⟨H[k], List.getElem?_eq_getElem hkl_⟩; obtain ⟨ya, yn, yc, yl⟩ := y_; have HRy : Hid (Row w bh (ofh + k) [.slice ya yn yc]) := by have h_ := hb_.row hx_; rw [show k * El.sz HdX = k from Nat.mul_one _] at h_; exact h_
     have HDy : Hid (RdX G w ya yn yc yl) := hb_.ok hx_; have HEy := hI hx_; have HZy : Hid (XZ yl 60) := HZXL.out _ (List.mem_of_getElem? hx_); have hny : yn ≤ 1000 := by have h_ := HLX.out _ (List.mem_of_getElem? hx_); have h2_ := (HDy.out).len; simp only at h_; omega
     clear hx_ hb_ hkl_; have hkm_ : k < ms.length := by rw [HM.out.len]; exact hlt
     have hmz_ := mErr_zero hkm_ ((formed_zero.1 HFE.out).2.2.1 k hkm_); rw [getD_of HEz.out] at hmz_; simp only at hmz_; have hzf0 : 0 ≤ zf := hmz_.1; have hzfu : zf ≤ zu := by omega
     have hzu : zu ≤ 100000 := hmz_.2.2.1; clear hmz_; obtain ⟨t1, ht1_⟩ : ∃ b, fitsB (⟨zs, zf, zu⟩ : Mt) (xl.map MkC.mk') (yl.map XC.o) = b := ⟨_, rfl⟩; have HAT := hI (at_of hu4.out HEx.out); have HFK : Hid (fitK (ivOf cs rr) ms rs (H.map HdX.vs) k = t1) := by show fitsB _ _ _ = _; rw [getD_of HEz.out, ← HAT.out, hv_at HEy.out]; exact ht1_
     have HT1 := hI ht1_; clear ht1_; have HIN : Hid (∀ y ∈ xl.map MkC.mk', zf ≤ y.d ∧ y.d ≤ zu) := fun y hy => by have h_ := marks_in (iv := (ivOf cs rr)) HFE.out y (by rw [← HAT.out]; exact hy); rw [getD_of HEz.out] at h_; exact h_
     have HMO : Hid (∀ y ∈ xl, y.lo ≤ y.hi) := fun y hy => (marks_ok (ivOk cs rr) ms rs (k : Nat) y.mk' (by rw [← HAT.out]; exact List.mem_map.2 ⟨y, hy, rfl⟩)).2
     have HNO : Hid (t1 = false → allowB (ivOf cs rr) nb big ms rs (H.map HdX.vs) = false) := fun h_ => allow_no hkm_ (HFK.out.trans h_)
     clear hkm_
     cases t1 with
     | false =>
      refine cj3 (HRz.out.keep (J1 M)).c3 fun r1_0 r1_1 r1_2 => ?_; go_wp2_with fail
      clear r1_0 r1_1 r1_2; generalize hv : World.alloc w4 _ = w5; have ow1_ : w.heap.size ≤ w4.heap.size := ((J1 M)).size; replace M := alM hv.symm M; clear hv; refine nmW w5.drew fun w6 hv => ?_; replace M := drM hv M; refine rgW (S := (fun w' => w'.cell? ⟨w4.heap.size, 0, none⟩ = some (.int .i64 zs) ∧ w'.cell? ⟨w4.heap.size, 1, none⟩ = some (.int .i64 zf) ∧ w'.cell? ⟨w4.heap.size, 2, none⟩ = some (.int .i64 zu) ∧ w'.cell? ⟨bx, offx + k, none⟩ = some (.slice xa xn xc) ∧ w'.cell? ⟨bh, ofh + k, none⟩ = some (.slice ya yn yc))) hv ((Y0 M).t3 ((show Row w6 bx (offx + k) [.slice xa xn xc] from (RdH.row_ (Y1 M) HEx.out)).t1 ((HRy.out.keep (J2 M)).c1))) fun hH6 => ?_; clear hv; refine tk8 at0 at1 at2 at3 at4 at5 at6 at7 ?_; refine tk at8 ?_; refine roW at9 fun K hK => ?_; go_simp; refine (ctFits (G := G) (ms_ := zs) (mf := zf) (mu := zu) (b_ := false) (Nat.le_trans hG (J2 M).size) (show RdM G w6 xa xn xc xl from (RdL.oksC (Y1 M) _ (List.mem_of_getElem? HEx.out))) (HDy.out.keep (J2 M)) (by omega) (by omega) HZx.out HZy.out (by omega) (by omega) (by omega) HIN.out HMO.out HT1.out).mono ?_; rintro e w7 ⟨rfl, hb⟩; replace M := gnM hb M; clear hb; (try go_wp2_with fail)
      refine hK.out _ _ (((Y0 M).t3 ((show Row w7 bx (offx + k) [.slice xa xn xc] from (RdH.row_ (Y1 M) HEx.out)).t1 ((HRy.out.keep (J2 M)).c1)))) (fun hH7 => ?_); clear hK K hH6; (try simp only [Act.put, kq])
      refine tk at10 ?_; refine dnW ?_; clear hH7; go_wp2_with fail
      go_ret
      exact ⟨by rw [← HB.out, (HNO.out trivial)] <;> rfl, (J2 M)⟩
     | true =>
      refine cj3 (HRz.out.keep (J1 M)).c3 fun r1_0 r1_1 r1_2 => ?_; go_wp2_with fail
      clear r1_0 r1_1 r1_2; generalize hv : World.alloc w4 _ = w5; have ow1_ : w.heap.size ≤ w4.heap.size := ((J1 M)).size; replace M := alM hv.symm M; clear hv; refine nmW w5.drew fun w6 hv => ?_; replace M := drM hv M; refine rgW (S := (fun w' => w'.cell? ⟨w4.heap.size, 0, none⟩ = some (.int .i64 zs) ∧ w'.cell? ⟨w4.heap.size, 1, none⟩ = some (.int .i64 zf) ∧ w'.cell? ⟨w4.heap.size, 2, none⟩ = some (.int .i64 zu) ∧ w'.cell? ⟨bx, offx + k, none⟩ = some (.slice xa xn xc) ∧ w'.cell? ⟨bh, ofh + k, none⟩ = some (.slice ya yn yc))) hv ((Y0 M).t3 ((show Row w6 bx (offx + k) [.slice xa xn xc] from (RdH.row_ (Y1 M) HEx.out)).t1 ((HRy.out.keep (J2 M)).c1))) fun hH8 => ?_; clear hv; refine tk8 at0 at1 at2 at3 at4 at5 at6 at7 ?_; refine tk at8 ?_; refine roW at9 fun K hK => ?_; go_simp; refine (ctFits (G := G) (ms_ := zs) (mf := zf) (mu := zu) (b_ := true) (Nat.le_trans hG (J2 M).size) (show RdM G w6 xa xn xc xl from (RdL.oksC (Y1 M) _ (List.mem_of_getElem? HEx.out))) (HDy.out.keep (J2 M)) (by omega) (by omega) HZx.out HZy.out (by omega) (by omega) (by omega) HIN.out HMO.out HT1.out).mono ?_; rintro e w7 ⟨rfl, hb⟩; replace M := gnM hb M; clear hb; (try go_wp2_with fail)
      refine hK.out _ _ (((Y0 M).t3 ((show Row w7 bx (offx + k) [.slice xa xn xc] from (RdH.row_ (Y1 M) HEx.out)).t1 ((HRy.out.keep (J2 M)).c1)))) (fun hH9 => ?_); clear hK K hH8; (try simp only [Act.put, kq])
      refine tk at10 ?_; refine dnW ?_; clear hH9; go_wp2_with fail
      go_roundw
      case rel => exact ⟨(k + 1), by go_num, (by show _ ≤ _; omega), (hI (range_next HA.out HFK.out)), hI (aI (Y1 M) (J2 M))⟩
      case measure => simp [RowKit.intOf] <;> omega
    ·
     refine geW (show ¬ k < nn by omega) fun e1_0 e1_1 e1_i => ?_; have HYES : Hid (allowB (ivOf cs rr) nb big ms rs (H.map HdX.vs) = true) := allow_yes HFE.out (by rw [List.length_map, HHX.out.len, HM.out.len]; exact HLN.out) (by rw [HM.out.len, show nn = k by omega]; exact HA.out); go_wp2_with fail
     go_ret
     exact ⟨by rw [← HB.out, HYES.out] <;> rfl, (J1 M)⟩
  ·
   have n2_ : ((nh : Int) != (nn : Int)) = true := bne_iff_ne.2 (by omega); have HNO : Hid (allowB (ivOf cs rr) nb big ms rs (H.map HdX.vs) = false) := allow_len (by rw [List.length_map, HHX.out.len, HM.out.len]; exact hln_); clear hln_; refine (Y0 M).D3 fun aa ab ad => ?_; go_wp2_with fail
   clear aa ab ad; refine (ctFormed (G := G) (nm := nm) (nb := nb) (big := big) (er := 0) (Nat.le_trans hG (J1 M).size) (HM.out.keep (J1 M)) (HR.out.keep (J1 M)) (HC.out.keep (J1 M)) (HQ.out.keep (J1 M)) (by omega) (by omega) (by omega) (by omega) (by omega) HNB.out HBG.out HFE.out).mono ?_; rintro e w2 ⟨rfl, hb⟩; replace M := gnM hb M; clear hb; refine (Y0 M).D3 fun aa ab ad => ?_; go_wp2_with fail
   clear aa ab ad; go_ret
   exact ⟨by rw [← HB.out, HNO.out] <;> rfl, (J1 M)⟩
 ·
  have em2_ : (fe != 0) = true := bne_iff_ne.2 hem_; have HNO : Hid (allowB (ivOf cs rr) nb big ms rs (H.map HdX.vs) = false) := allow_fe HFE.out hem_; clear hem_; refine (Y0 M).D3 fun aa ab ad => ?_; go_wp2_with fail
  clear aa ab ad; refine (ctFormed (G := G) (nm := nm) (nb := nb) (big := big) (er := fe) (Nat.le_trans hG (J1 M).size) (HM.out.keep (J1 M)) (HR.out.keep (J1 M)) (HC.out.keep (J1 M)) (HQ.out.keep (J1 M)) (by omega) (by omega) (by omega) (by omega) (by omega) HNB.out HBG.out HFE.out).mono ?_; rintro e w2 ⟨rfl, hb⟩; replace M := gnM hb M; clear hb; go_wp2_with fail
  go_ret
  exact ⟨by rw [← HB.out, HNO.out] <;> rfl, (J1 M)⟩
theorem ctAllowed_l {nm : ByteArray} {am ar ac aq : Option Addr} {nn cm nr cr kc cc kq cq : Nat} {ms : List Mt} {rs : List Rg} {cs : List Ct} {rr : List Rc} {ah : Option Addr} {nh ch : Nat} {H : List HdX} {nb big b_ : Bool} {w : World} (hG : G ≤ w.heap.size) (hm : RdMt G w am nn cm ms) (hr : RdRg G w ar nr cr rs) (hc : CtS w ac kc cc cs) (hq : RcS w aq kq cq rr) (hsz : nm.size ≤ 1000) (hnn : nn ≤ 1000) (hnr : nr ≤ 1000) (hcl : kc ≤ 1000) (hrl : kq ≤ 1000) (hh : RdHX G w ah nh ch H) (hzx : XZL H 60) (hlx : LenX H 1000) (hnb : nameOk nm.data.toList = nb) (hbg : bigB ms rs cs.length rr.length = big) (hb : allowB (ivOf cs rr) nb big ms rs (H.map HdX.vs) = b_) :
 Calls Tryz.prog 12 #[.agg #[.string nm, .slice am nn cm, .slice ar nr cr], .slice ac kc cc, .slice aq kq cq, .slice ah nh ch] w fun e w' => e = .returned (.bool b_) ∧ Below w.heap.size w w' := by
 have h1 := hc.len; have h2 := hq.len; subst h1 h2; exact ctAllowed hG hm hr hc hq hsz hnn hnr hcl hrl hh hzx hlx hnb hbg hb
def few4 (x : XC) : Bool := decide (x.n ≤ 4) && decide (x.m ≤ 4)
def few25 (h : HdX) : Bool := decide (h.l.length ≤ 25) && h.l.all few4
def fewHB (H : List HdX) : Bool := (H.take 6).all few25 && decide (H.length ≤ 5)
theorem fewH_no {H : List HdX} {k : Nat} {z : HdX} (hz : H[k]? = some z) (hk : k < 6) (h : few25 z = false) : fewHB H = false := by
 unfold fewHB; rw [List.all_eq_false.2 ⟨z, List.mem_of_getElem? (show (H.take 6)[k]? = some z by rw [List.getElem?_take, if_pos hk, hz]), by rw [h]; simp⟩]; rfl
theorem fewH_end {H : List HdX} {k : Nat} (h : (H.take k).all few25 = true) (hk : H.length ≤ k ∨ 6 ≤ k) {t : Bool} (ht : decide (H.length ≤ 5) = t) : fewHB H = t := by
 have h5 : (H.take 6).all few25 = true := by
  rw [List.all_eq_true] at h ⊢
  intro z hz
  apply h
  obtain ⟨i, hi⟩ := List.getElem?_of_mem hz; rw [List.getElem?_take] at hi
  split at hi
  · have hl := (List.getElem?_eq_some_iff.1 hi).1
    exact List.mem_of_getElem? (show (H.take k)[i]? = some z by rw [List.getElem?_take, if_pos (by omega), hi])
  · cases hi
 unfold fewHB; rw [h5, ht]; rfl
theorem few_lenX {z : HdX} (h : ¬ z.l.length ≤ 25) : few25 z = false := by unfold few25; rw [decide_eq_false h]; rfl
theorem few_noX {z : HdX} (h : z.l.all few4 = false) : few25 z = false := by unfold few25; rw [h, Bool.and_false]
theorem few_yesX {z : HdX} (h0 : z.l.length ≤ 25) (h : z.l.all few4 = true) : few25 z = true := by unfold few25; rw [decide_eq_true h0, h]; rfl
theorem fewH_z {H : List HdX} (h : fewHB H = true) : H.length ≤ 5 ∧ LenX H 1000 ∧ ∀ x ∈ H, ∀ y ∈ x.l, y.n ≤ 4 ∧ y.m ≤ 4 := by
 unfold fewHB at h; rw [Bool.and_eq_true, decide_eq_true_eq, List.all_eq_true] at h; have hm : ∀ x ∈ H, few25 x = true := fun x hx => h.1 x (by rw [List.take_of_length_le (by omega)]; exact hx)
 refine ⟨h.2, fun x hx => ?_, fun x hx y hy => ?_⟩
 · have := hm x hx
   unfold few25 at this; rw [Bool.and_eq_true, decide_eq_true_eq] at this
   omega
 · have := hm x hx
   unfold few25 at this; rw [Bool.and_eq_true, List.all_eq_true] at this; have := this.2 y hy; unfold few4 at this
   simpa using this
theorem XOk.shape {w : World} {u0 u1 u2 u3 : Value} {n m : Nat} {o : Option Rat} (h : XOk G w u0 u1 u2 u3 n m o) : ∃ s a c t b d, u0 = .int .i64 s ∧ u1 = .slice a n c ∧ u2 = .int .i64 t ∧ u3 = .slice b m d := by
 cases o with
 | some q =>
  obtain ⟨⟨a, c, b, d, h0, h1, h2, h3, -⟩, hn, hm⟩ := h; exact ⟨_, a, c, _, b, d, h0, by rw [hn]; exact h1, h2, by rw [hm]; exact h3⟩
 | none =>
  obtain ⟨w0, -, ⟨s, a, c, t, b, d, l, k, h0, h1, h2, h3, -⟩, -⟩ := h; exact ⟨s, a, c, t, b, d, h0, h1, h2, h3⟩
theorem xFew_ok {u0 u1 u2 u3 : Value} {n m : Nat} {o : Option Rat} {r : Bool} {w : World} (h : XOk G w u0 u1 u2 u3 n m o) (hr : (decide (n ≤ 4) && decide (m ≤ 4)) = r) :
 Calls Tryz.prog 16 #[.agg #[u0, u1, u2, u3], .int .i64 4] w fun e w' => e = .returned (.bool r) ∧ Below w.heap.size w w' := by
 obtain ⟨s, a, c, t, b, d, rfl, rfl, rfl, rfl⟩ := h.shape; refine rfFew_ok ?_; rw [← hr, decide_eq_decide.2 (show (n : Int) ≤ 4 ↔ n ≤ 4 by omega), decide_eq_decide.2 (show (m : Int) ≤ 4 ↔ m ≤ 4 by omega)]
theorem XOk.fz {w : World} {u0 u1 u2 u3 : Value} {n m N : Nat} {q : Rat} (h : XOk G w u0 u1 u2 u3 n m (some q)) (hn : n ≤ N) (hm : m ≤ N) : Fz q N := ⟨show ln _ ≤ N from h.2.1 ▸ hn, show ln _ ≤ N from h.2.2 ▸ hm⟩
theorem few_xz {w : World} {a : Option Addr} {n c : Nat} {H : List HdX} (hh : RdHX G w a n c H) (h : ∀ x ∈ H, ∀ y ∈ x.l, y.n ≤ 4 ∧ y.m ≤ 4) : XZL H 60 := fun x hx y hy => by
 have h1 := h x hx y hy; have h2 : RdX G w x.a x.n x.c x.l := RdL.oksC hh x hx; have h3 : XOk G w y.u0 y.u1 y.u2 y.u3 y.n y.m y.o := RdL.oksC h2 y hy; exact ⟨by omega, by omega, fun q hq => by rw [hq] at h3; exact h3.fz (by omega) (by omega)⟩
theorem ctFewH {a : Option Addr} {n c : Nat} {H : List HdX} {b_ : Bool} {w : World} (_hG : G ≤ w.heap.size) (hh : RdHX G w a n c H) (_hn : n ≤ 9223372036854775807) (hb : fewHB H = b_) :
 Calls Tryz.prog 6 #[.slice a n c] w fun e w' => e = .returned (.bool b_) ∧ Below w.heap.size w w' := by
 have HB := hI hb; clear hb; have HHX : Hid (RdHX G w a n c H) := hh; clear hh; have M : Hid (Below w.heap.size w w) := Below.refl _ _; go_enter Tryz.func6, Tryz.ntmps6
 go_wp2_with fail
 go_loopw [3] (fun i3 wr => ∃ (k : Nat), i3 = .int .i64 (k : Int) ∧ Hid (k ≤ n) ∧ Hid ((H.take k).all few25 = true) ∧ Hid (Below w.heap.size w wr)) (fun i3 _ => n - (RowKit.intOf i3).toNat)
 case atStart =>
  exact ⟨0, rfl, (by show _ ≤ _; omega), (hI rfl), hI M.out⟩
 case round =>
  obtain ⟨w1, rfl⟩ : ∃ x, x = wr := ⟨_, rfl⟩; clear M; obtain ⟨k, rfl, hk, HA, M⟩ := hrel; have hk := hk.out
  by_cases hlt : k < n
  ·
   refine ltW (show k < n by omega) fun e1_0 e1_1 e1_i => ?_
   by_cases h6_ : k < 6
   ·
    have e6_0 : decide (k < 6) = true := decide_eq_true (by omega); have e6_1 : decide ((k : Int) < 6) = true := decide_eq_true (by omega); have e6_i : (k : Int) < 6 := by omega
    obtain ⟨bh, ofh, rfl, hb_⟩ := RdL.ptr HHX.out (by omega : 0 < n); have hkl_ : k < H.length := by rw [HHX.out.len]; exact hlt
    obtain ⟨y_, hx_⟩ : ∃ x, H[k]? = some x := ⟨H[k], List.getElem?_eq_getElem hkl_⟩; obtain ⟨ya, yn, yc, yl⟩ := y_; have HRy : Hid (Row w bh (ofh + k) [.slice ya yn yc]) := by have h_ := hb_.row hx_; rw [show k * El.sz HdX = k from Nat.mul_one _] at h_; exact h_
    have HDy : Hid (RdX G w ya yn yc yl) := hb_.ok hx_; have HEy := hI hx_; clear hx_ hb_ hkl_
    by_cases h25_ : 25 < yn
    ·
     have e25_0 : decide (25 < yn) = true := decide_eq_true (by omega); have e25_1 : decide (25 < (yn : Int)) = true := decide_eq_true (by omega); have e25_i : 25 < (yn : Int) := by omega
     have HNO : Hid (fewHB H = false) := fewH_no HEy.out h6_ (few_lenX (by rw [HDy.out.len]; omega)); have yr0 := (HRy.out.keep M.out).c1; have r0_0 := yr0; clear yr0; go_wp2_with fail
     clear r0_0; go_ret
     exact ⟨by rw [← HB.out, HNO.out] <;> rfl, M.out⟩
    ·
     have e25_0 : decide (25 < yn) = false := decide_eq_false (by omega); have e25_1 : decide (25 < (yn : Int)) = false := decide_eq_false (by omega); have e25_i : ¬ 25 < (yn : Int) := by omega
     have yr0 := (HRy.out.keep M.out).c1; have r0_0 := yr0; clear yr0; go_wp2_with fail
     clear r0_0; go_loopw [4] (fun i4 wr => ∃ (j : Nat), i4 = .int .i64 (j : Int) ∧ Hid (j ≤ yn) ∧ Hid ((yl.take j).all few4 = true) ∧ Hid (Below w.heap.size w wr)) (fun i4 _ => yn - (RowKit.intOf i4).toNat)
     case atStart =>
      exact ⟨0, rfl, (by show _ ≤ _; omega), (hI rfl), hI M.out⟩
     case round =>
      obtain ⟨w2, rfl⟩ : ∃ x, x = wr := ⟨_, rfl⟩; clear M; obtain ⟨j, rfl, hj, HJ, M⟩ := hrel; have hj := hj.out
      by_cases hlt2 : j < yn
      ·
       refine ltW (show j < yn by omega) fun e2_0 e2_1 e2_i => ?_; obtain ⟨bv, ofv, rfl, hb_⟩ := RdL.ptr HDy.out (by omega : 0 < yn); have hkl_ : j < yl.length := by rw [HDy.out.len]; exact hlt2
       obtain ⟨x_, hx_⟩ : ∃ x, yl[j]? = some x := ⟨yl[j], List.getElem?_eq_getElem hkl_⟩; obtain ⟨xu0, xu1, xu2, xu3, xa, xb, xo⟩ := x_; have HRx : Hid (Row w bv (ofv + j * 4) [xu0, xu1, xu2, xu3]) := hb_.row hx_; have HKx : Hid (XOk G w xu0 xu1 xu2 xu3 xa xb xo) := hb_.ok hx_; have HEx := hI hx_; clear hx_ hb_ hkl_; obtain ⟨t1, ht1⟩ : ∃ b, (decide (xa ≤ 4) && decide (xb ≤ 4)) = b := ⟨_, rfl⟩; have HT1 := hI ht1; clear ht1; have HF4 : Hid (few4 ⟨xu0, xu1, xu2, xu3, xa, xb, xo⟩ = t1) := HT1.out; have HNO : Hid (t1 = false → fewHB H = false) := fun h_ => fewH_no HEy.out h6_ (few_noX (all_no HEx.out (HF4.out.trans h_)))
       have yr0 := (HRy.out.keep M.out).c1; have r0_0 := yr0; clear yr0; refine cj4 (HRx.out.keep M.out).c4 fun r1_0 r1_1 r1_2 r1_3 => ?_; go_wp2_with fail
       clear r0_0 r1_0 r1_1 r1_2 r1_3; refine (xFew_ok (HKx.out.keep M.out) HT1.out).mono ?_; rintro e w3 ⟨rfl, hb⟩; replace M := gnM hb M; clear hb
       cases t1 with
       | false =>
        go_wp2_with fail
        go_ret
        exact ⟨by rw [← HB.out, (HNO.out trivial)] <;> rfl, M.out⟩
       | true =>
        go_wp2_with fail
        go_roundw
        case rel => exact ⟨(j + 1), by go_num, (by show _ ≤ _; omega), (hI (all_next HEx.out HJ.out HF4.out)), hI M.out⟩
        case measure => simp [RowKit.intOf] <;> omega
      ·
       refine geW (show ¬ j < yn by omega) fun e2_0 e2_1 e2_i => ?_; have HFY : Hid (few25 ⟨ya, yn, yc, yl⟩ = true) := few_yesX (by show yl.length ≤ 25; rw [HDy.out.len]; omega) (by have h_ := HJ.out; rw [List.take_of_length_le (by rw [HDy.out.len]; omega)] at h_; exact h_); have yr0 := (HRy.out.keep M.out).c1; have r0_0 := yr0; clear yr0; go_wp2_with fail
       clear r0_0; go_roundw
       case rel => exact ⟨(k + 1), by go_num, (by show _ ≤ _; omega), (hI (all_next HEy.out HA.out HFY.out)), hI M.out⟩
       case measure => simp [RowKit.intOf] <;> omega
   ·
    have e6_0 : decide (k < 6) = false := decide_eq_false (by omega); have e6_1 : decide ((k : Int) < 6) = false := decide_eq_false (by omega); have e6_i : ¬ (k : Int) < 6 := by omega
    have HEND := hI (fun t (ht : decide (H.length ≤ 5) = t) => fewH_end (k := k) HA.out (.inr (by omega)) ht); obtain ⟨t4, ht4⟩ : ∃ b, decide (n ≤ 5) = b := ⟨_, rfl⟩; have ht4i : decide ((n : Int) ≤ 5) = t4 := by rw [← ht4]; exact decide_eq_decide.2 (by omega)
    have HFIN : Hid (fewHB H = t4) := HEND.out t4 (by rw [HHX.out.len]; exact ht4); clear ht4; go_wp2_with fail
    go_ret
    exact ⟨by rw [← HB.out, HFIN.out] <;> rfl, M.out⟩
  ·
   refine geW (show ¬ k < n by omega) fun e1_0 e1_1 e1_i => ?_; have HEND := hI (fun t (ht : decide (H.length ≤ 5) = t) => fewH_end (k := k) HA.out (.inl (by rw [HHX.out.len]; omega)) ht); obtain ⟨t4, ht4⟩ : ∃ b, decide (n ≤ 5) = b := ⟨_, rfl⟩; have ht4i : decide ((n : Int) ≤ 5) = t4 := by rw [← ht4]; exact decide_eq_decide.2 (by omega)
   have HFIN : Hid (fewHB H = t4) := HEND.out t4 (by rw [HHX.out.len]; exact ht4); clear ht4; go_wp2_with fail
   go_ret
   exact ⟨by rw [← HB.out, HFIN.out] <;> rfl, M.out⟩
theorem rCheck_l {nm : ByteArray} {am ar ac aq : Option Addr} {nn cm nr cr kc cc kq cq : Nat} {ms : List Mt} {rs : List Rg} {cs : List Ct} {rr : List Rc} {nb big : Bool} {er : Int} {w : World} (hG : G ≤ w.heap.size) (hm : RdMt G w am nn cm ms) (hr : RdRg G w ar nr cr rs) (hc : CtS w ac kc cc cs) (hq : RcS w aq kq cq rr) (hsz : nm.size ≤ 1000) (hnn : nn ≤ 1000) (hnr : nr ≤ 1000) (hcl : kc ≤ 1000) (hrl : kq ≤ 1000) (hnb : nameOk nm.data.toList = nb) (hbg : bigB ms rs cs.length rr.length = big) (he : checkE (ivOf cs rr) nb big ms rs = er) :
 Calls Tryz.prog 11 #[.agg #[.string nm, .slice am nn cm, .slice ar nr cr], .slice ac kc cc, .slice aq kq cq] w fun e w' => e = .returned (.int .i64 er) ∧ Below w.heap.size w w' := by
 have h1 := hc.len; have h2 := hq.len; subst h1 h2; exact rCheck hG hm hr hc hq hsz hnn hnr hcl hrl hnb hbg he
theorem rBetween_l {nm : ByteArray} {am ar ac aq : Option Addr} {nn cm nr cr kc cc kq cq : Nat} {ms : List Mt} {rs : List Rg} {cs : List Ct} {rr : List Rc} {nb big : Bool} {da db er : Int} {o : Option (Rat × Rat)} {ol oh : Option Rat} {w : World} (hG : G ≤ w.heap.size) (hm : RdMt G w am nn cm ms) (hr : RdRg G w ar nr cr rs) (hc : CtS w ac kc cc cs) (hq : RcS w aq kq cq rr) (hsz : nm.size ≤ 1000) (hnn : nn ≤ 1000) (hnr : nr ≤ 1000) (hcl : kc ≤ 1000) (hrl : kq ≤ 1000) (hnb : nameOk nm.data.toList = nb) (hbg : bigB ms rs cs.length rr.length = big) (he : betw (ivOf cs rr) nb big ms rs da db = (er, o)) (hl : o.map Prod.fst = ol) (hh : o.map Prod.snd = oh) :
 Calls Tryz.prog 8 #[.agg #[.string nm, .slice am nn cm, .slice ar nr cr], .slice ac kc cc, .slice aq kq cq, .int .i64 da, .int .i64 db] w fun e w' => ∃ x0 x1 x2 x3 x4 x5 x6 x7, e = .returned (.tuple #[.agg #[x0, x1, x2, x3, x4, x5, x6, x7], .int .i64 er]) ∧ OQ G w' x0 x1 x2 x3 ol ∧ OQ G w' x4 x5 x6 x7 oh ∧ Oz ol 200000 ∧ Oz oh 200000 ∧ Below w.heap.size w w' := by
 have h1 := hc.len; have h2 := hq.len; subst h1 h2; exact rBetween hG hm hr hc hq hsz hnn hnr hcl hrl hnb hbg he hl hh
theorem rAllowed_l {nm : ByteArray} {am ar ac aq : Option Addr} {nn cm nr cr kc cc kq cq : Nat} {ms : List Mt} {rs : List Rg} {cs : List Ct} {rr : List Rc} {ah : Option Addr} {nh ch : Nat} {H : List HdX} {nb big b_ : Bool} {w : World} (hG : G ≤ w.heap.size) (hm : RdMt G w am nn cm ms) (hr : RdRg G w ar nr cr rs) (hc : CtS w ac kc cc cs) (hq : RcS w aq kq cq rr) (hsz : nm.size ≤ 1000) (hnn : nn ≤ 1000) (hnr : nr ≤ 1000) (hcl : kc ≤ 1000) (hrl : kq ≤ 1000) (hh : RdHX G w ah nh ch H) (hzx : XZL H 60) (hlx : LenX H 1000) (hnb : nameOk nm.data.toList = nb) (hbg : bigB ms rs cs.length rr.length = big) (hb : allowB (ivOf cs rr) nb big ms rs (H.map HdX.vs) = b_) :
 Calls Tryz.prog 13 #[.agg #[.string nm, .slice am nn cm, .slice ar nr cr], .slice ac kc cc, .slice aq kq cq, .slice ah nh ch] w fun e w' => e = .returned (.bool b_) ∧ Below w.heap.size w w' := by
 have h1 := hc.len; have h2 := hq.len; subst h1 h2; exact rAllowed hG hm hr hc hq hsz hnn hnr hcl hrl hh hzx hlx hnb hbg hb
theorem ctTells {nm : ByteArray} {am ar ac aq : Option Addr} {nn cm nr cr kc cc kq cq : Nat} {ms : List Mt} {rs : List Rg} {cs : List Ct} {rr : List Rc} {ah : Option Addr} {nh ch : Nat} {H : List HdX} {da db : Int} {w : World} (hG : G ≤ w.heap.size) (hm : RdMt G w am nn cm ms) (hr : RdRg G w ar nr cr rs) (hc : CtS w ac kc cc cs) (hq : RcS w aq kq cq rr) (hh : RdHX G w ah nh ch H) (_hnh : nh ≤ 9223372036854775807)  :
 Calls Tryz.prog 3 #[.agg #[.string nm, .slice am nn cm, .slice ar nr cr], .slice ac kc cc, .slice aq kq cq, .slice ah nh ch, .int .i64 da, .int .i64 db] w fun e w' => e = .returned (.bool true) ∧ Below w.heap.size w w' := by
 obtain ⟨⟨e1, o1⟩, hb1_⟩ : ∃ p, betw (ivOf cs rr) (nameOk nm.data.toList) (bigB ms rs cs.length rr.length) ms rs da db = p := ⟨_, rfl⟩; obtain ⟨l1, hl1_⟩ : ∃ q, o1.map Prod.fst = q := ⟨_, rfl⟩; obtain ⟨g1, hg1_⟩ : ∃ q, o1.map Prod.snd = q := ⟨_, rfl⟩; have HE1 := hI hb1_; have HL1 := hI hl1_; have HG1 := hI hg1_; clear hb1_ hl1_ hg1_; obtain ⟨c1, hc1_⟩ : ∃ k, checkE (ivOf cs rr) (nameOk nm.data.toList) (bigB ms rs cs.length rr.length) ms rs = k := ⟨_, rfl⟩; obtain ⟨al, hal_⟩ : ∃ b, allowB (ivOf cs rr) (nameOk nm.data.toList) (bigB ms rs cs.length rr.length) ms rs (H.map HdX.vs) = b := ⟨_, rfl⟩; have HC1 := hI hc1_; have HAL := hI hal_; clear hc1_ hal_; have hee_ : (e1 != e1) = false := by simp
 have hcc_ : (c1 == c1) = true := by simp
 have haa_ : (al == al) = true := by simp
 have HM : Hid (RdMt G w am nn cm ms) := hm; have HR : Hid (RdRg G w ar nr cr rs) := hr; have HC : Hid (CtS w ac kc cc cs) := hc; have HQ : Hid (RcS w aq kq cq rr) := hq; have HHX : Hid (RdHX G w ah nh ch H) := hh; clear hm hr hc hq hh; have M : Hid (Below w.heap.size w w) := Below.refl _ _; go_enter Tryz.func3, Tryz.ntmps3
 go_upto_region 1 with fail
 generalize hv : World.alloc w _ = w1; replace M := alM hv.symm M; clear hv; go_wp2_with fail
 refine (ctSane (G := G) (Nat.le_trans hG (J1 M).size)).mono ?_; rintro e w2 ⟨rfl, hb⟩; replace M := gnM hb M; clear hb; go_upto_region 2 with fail
 rcases Bool.eq_false_or_eq_true (fewCt nn nr nm.size kc kq) with hfw_ | hfw_
 ·
  have HFW : Hid (fewCt nn nr nm.size kc kq = true) := hfw_; have hln_ := fewCt_len hfw_; have hnn := hln_.1; have hnr := hln_.2.1; have hsz := hln_.2.2.1; have hkc := hln_.2.2.2.1; have hkq := hln_.2.2.2.2; clear hln_; rcases Bool.eq_false_or_eq_true (fewHB H) with hfh_ | hfh_
  ·
   have HFH : Hid (fewHB H = true) := hfh_; have hz_ := fewH_z hfh_; have HLX : Hid (LenX H 1000) := hz_.2.1; have HZXL : Hid (XZL H 60) := few_xz HHX.out hz_.2.2; clear hfh_ hz_; refine (Y0 M).D3 fun aa ab ad => ?_; go_wp2_with fail
   clear aa ab ad; refine (ctFew (nm := nm) (b_ := true) HFW.out).mono ?_; rintro e w3 ⟨rfl, hb⟩; replace M := gnM hb M; clear hb; go_wp2_with fail
   refine (ctFewH (G := G) (b_ := true) (Nat.le_trans hG (J1 M).size) (HHX.out.keep (J1 M)) (by omega) HFH.out).mono ?_; rintro e w4 ⟨rfl, hb⟩; replace M := gnM hb M; clear hb; refine (Y0 M).D3 fun aa ab ad => ?_; go_wp2_with fail
   clear aa ab ad; refine (ctBetween_l (G := G) (nm := nm) (nb := (nameOk nm.data.toList)) (big := (bigB ms rs cs.length rr.length)) (da := da) (db := db) (er := e1) (ol := l1) (oh := g1) (Nat.le_trans hG (J1 M).size) (HM.out.keep (J1 M)) (HR.out.keep (J1 M)) (HC.out.keep (J1 M)) (HQ.out.keep (J1 M)) (by omega) (by omega) (by omega) (by omega) (by omega) rfl rfl HE1.out HL1.out HG1.out).mono ?_; rintro e w5 ⟨x_1, x_2, x_3, x_4, x_5, x_6, x_7, x_8, rfl, hd9, hd10, hu11, hu12, hb⟩; replace M := ad2M hd9 hd10 hb M; clear hb hd9 hd10; replace hu11 := hI hu11; replace hu12 := hI hu12; refine cj4 (TQ.st (Y0 M)) fun ae af ag ai => ?_; refine cj4 (TQ.st (Y1 M)) fun aj ak ao ap => ?_; go_upto_region 5 with fail
   clear ae af ag ai aj ak ao ap; generalize hv : World.alloc w5 _ = w6; have ow1_ := ((Y2 M)).lt; replace M := alM hv.symm M; clear hv; refine (Y3 M).D3 fun aa ab ad => ?_; go_wp2_with fail
   clear aa ab ad; refine (rBetween_l (G := G) (nm := nm) (nb := (nameOk nm.data.toList)) (big := (bigB ms rs cs.length rr.length)) (da := da) (db := db) (er := e1) (ol := l1) (oh := g1) (Nat.le_trans hG (J4 M).size) (HM.out.keep (J4 M)) (HR.out.keep (J4 M)) (HC.out.keep (J4 M)) (HQ.out.keep (J4 M)) (by omega) (by omega) (by omega) (by omega) (by omega) rfl rfl HE1.out HL1.out HG1.out).mono ?_; rintro e w7 ⟨x_13, x_14, x_15, x_16, x_17, x_18, x_19, x_20, rfl, hd21, hd22, hu23, hu24, hb⟩; replace M := ad2M hd21 hd22 hb M; clear hb hd21 hd22; replace hu23 := hI hu23; replace hu24 := hI hu24; refine cj4 (TQ.st (Y0 M)) fun au av aw ax => ?_; refine cj4 (TQ.st (Y1 M)) fun ay az ba bb => ?_; go_upto_region 6 with fail
   clear au av aw ax ay az ba bb; generalize hv : World.alloc w7 _ = w8; have ow2_ := ((Y2 M)).lt; replace M := alM hv.symm M; clear hv; refine (Y3 M).D8 fun bc bd bf bg bh bi bj bk => ?_; refine (Y0 M).D8 fun bl bm bn bo bp bq br bs => ?_; go_wp2_with fail
   clear bc bd bf bg bh bi bj bk bl bm bn bo bp bq br bs; refine (ctSame_o (G := G) (o1 := l1) (o2 := g1) (o3 := l1) (o4 := g1) (b_ := true) (Y4 M) (Y5 M) (Y1 M) (Y2 M) (Oz.mono hu23.out (by omega)) (Oz.mono hu24.out (by omega)) (Oz.mono hu23.out (by omega)) (Oz.mono hu24.out (by omega)) (by simp)).mono ?_; rintro e w9 ⟨rfl, hb⟩; replace M := gnM hb M; clear hb; go_wp2_with fail
   replace M := hI (aI (Y6 M) (J7 M)); refine nmW w9.drew fun w10 hv => ?_; replace M := drM hv M; refine rg3W hv (Y0 M) fun hH25 => ?_; clear hv; refine tk8 at0 at1 at2 at3 at4 at6 at7 at8 ?_; refine roW at5 fun K hK => ?_; go_simp; refine (ctCheck_l (G := G) (nm := nm) (nb := (nameOk nm.data.toList)) (big := (bigB ms rs cs.length rr.length)) (er := c1) (Nat.le_trans hG (J1 M).size) (HM.out.keep (J1 M)) (HR.out.keep (J1 M)) (HC.out.keep (J1 M)) (HQ.out.keep (J1 M)) (by omega) (by omega) (by omega) (by omega) (by omega) rfl rfl HC1.out).mono ?_; rintro e w11 ⟨rfl, hb⟩; replace M := gnM hb M; clear hb; (try go_wp2_with fail)
   refine hK.out _ _ ((Y0 M).d3) (fun hH26 => ?_); clear hK K hH25; (try simp only [Act.put, kq])
   refine roW at9 fun K hK => ?_; go_simp; refine (rCheck_l (G := G) (nm := nm) (nb := (nameOk nm.data.toList)) (big := (bigB ms rs cs.length rr.length)) (er := c1) (Nat.le_trans hG (J1 M).size) (HM.out.keep (J1 M)) (HR.out.keep (J1 M)) (HC.out.keep (J1 M)) (HQ.out.keep (J1 M)) (by omega) (by omega) (by omega) (by omega) (by omega) rfl rfl HC1.out).mono ?_; rintro e w12 ⟨rfl, hb⟩; replace M := gnM hb M; clear hb; (try go_wp2_with fail)
   refine hK.out _ _ ((Y0 M).d3) (fun hH27 => ?_); clear hK K hH26; (try simp only [Act.put, kq])
   refine tk8 at10 at11 at12 at13 at14 at15 at16 at18 ?_; refine tk2 at19 at20 ?_; refine tk at21 ?_; refine roW at17 fun K hK => ?_; go_simp; refine (ctAllowed_l (G := G) (nm := nm) (nb := (nameOk nm.data.toList)) (big := (bigB ms rs cs.length rr.length)) (b_ := al) (Nat.le_trans hG (J1 M).size) (HM.out.keep (J1 M)) (HR.out.keep (J1 M)) (HC.out.keep (J1 M)) (HQ.out.keep (J1 M)) (by omega) (by omega) (by omega) (by omega) (by omega) (HHX.out.keep (J1 M)) HZXL.out HLX.out rfl rfl HAL.out).mono ?_; rintro e w13 ⟨rfl, hb⟩; replace M := gnM hb M; clear hb; (try go_wp2_with fail)
   refine hK.out _ _ ((Y0 M).d3) (fun hH28 => ?_); clear hK K hH27; (try simp only [Act.put, kq])
   refine roW at22 fun K hK => ?_; go_simp; refine (rAllowed_l (G := G) (nm := nm) (nb := (nameOk nm.data.toList)) (big := (bigB ms rs cs.length rr.length)) (b_ := al) (Nat.le_trans hG (J1 M).size) (HM.out.keep (J1 M)) (HR.out.keep (J1 M)) (HC.out.keep (J1 M)) (HQ.out.keep (J1 M)) (by omega) (by omega) (by omega) (by omega) (by omega) (HHX.out.keep (J1 M)) HZXL.out HLX.out rfl rfl HAL.out).mono ?_; rintro e w14 ⟨rfl, hb⟩; replace M := gnM hb M; clear hb; (try go_wp2_with fail)
   refine hK.out _ _ ((Y0 M).d3) (fun hH29 => ?_); clear hK K hH28; (try simp only [Act.put, kq])
   refine tk2 at23 at24 ?_; refine tk at25 ?_; refine dnW ?_; clear hH29; go_wp2_with fail
   go_ret
   exact ⟨by rfl, (J1 M)⟩
  ·
   have HFH : Hid (fewHB H = false) := hfh_; clear hfh_; refine (Y0 M).D3 fun aa ab ad => ?_; go_wp2_with fail
   clear aa ab ad; refine (ctFew (nm := nm) (b_ := true) HFW.out).mono ?_; rintro e w3 ⟨rfl, hb⟩; replace M := gnM hb M; clear hb; go_wp2_with fail
   refine (ctFewH (G := G) (b_ := false) (Nat.le_trans hG (J1 M).size) (HHX.out.keep (J1 M)) (by omega) HFH.out).mono ?_; rintro e w4 ⟨rfl, hb⟩; replace M := gnM hb M; clear hb; go_wp2_with fail
   go_ret
   exact ⟨by rfl, (J1 M)⟩
 ·
  have HFW : Hid (fewCt nn nr nm.size kc kq = false) := hfw_; refine (Y0 M).D3 fun aa ab ad => ?_; go_wp2_with fail
  clear aa ab ad; refine (ctFew (nm := nm) (b_ := false) HFW.out).mono ?_; rintro e w3 ⟨rfl, hb⟩; replace M := gnM hb M; clear hb; go_wp2_with fail
  go_ret
  exact ⟨by rfl, (J1 M)⟩
end Go.Proofs.YtlcgckelamhnpaaGreat
