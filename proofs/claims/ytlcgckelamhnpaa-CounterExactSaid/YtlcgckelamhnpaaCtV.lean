/- What the law counts in a history. -/
import Derived.Test.YtlcgckelamhnpaaBase
import Derived.Test.YtlcgckelamhnpaaBigSpec
import Derived.Test.YtlcgckelamhnpaaBigB
import Derived.Test.YtlcgckelamhnpaaBigC
import Derived.Test.YtlcgckelamhnpaaBigD
import Derived.Test.YtlcgckelamhnpaaBigK
import Derived.Test.YtlcgckelamhnpaaBigQ
import Derived.Test.YtlcgckelamhnpaaFd
import Derived.Test.YtlcgckelamhnpaaHeld
import Derived.Test.YtlcgckelamhnpaaAw
import Derived.Test.YtlcgckelamhnpaaFz
import Derived.Test.YtlcgckelamhnpaaFracR
import Derived.Test.YtlcgckelamhnpaaRw
import Derived.Test.YtlcgckelamhnpaaScaleE
import Derived.Test.YtlcgckelamhnpaaCtLaws
import Derived.Test.YtlcgckelamhnpaaCtA
import Derived.Test.YtlcgckelamhnpaaCtC
import Derived.Test.YtlcgckelamhnpaaCtE
import Derived.Test.YtlcgckelamhnpaaCtL
import Derived.Test.YtlcgckelamhnpaaCtHist
import Derived.Test.YtlcgckelamhnpaaCtU
import Derived.Test.YtlcgckelamhnpaaProg
import Derived.Test.YtlcgckelamhnpaaShelf
import Derived.WalkKit
import Derived.WalkSpells
import Derived.WalkLawsBesides
import Derived.Handy
import Derived.Lib.Hide
import Derived.Lib.Strings
import Derived.Lib.Builder
import Derived.BigQuiet
import Derived.OwnWalk
import Derived.Laws.BitsLemmas
import Derived.WalkSmall
import Derived.Deep.QuietTactic
import Derived.StillTailTactics
import Derived.Maps.AppendAt
import Derived.IntWalk
import Derived.Deep.RegionHeld3
import Derived.Deep.DeepFit
import Derived.Deep.LoopGhost
import Derived.Deep.DeepCutAuto
import Derived.Lib.ItoaNum
import Derived.Lib.Repeat
import Derived.Lib.AppendIntMem
import Derived.Sort.OwnSorted
import Derived.Shelf.Strings.SlTrimAscii
import Derived.Lib.ConvBytes
import Derived.Lib.CutLaws
import Derived.Shelf.Strings.Builder1
import Derived.ArgAppend
namespace Go.Proofs.Ytlcgckelamhnpaa
open Go.RowKit Go.Lib
variable {G : Nat}

set_option maxRecDepth 100000 in
set_option maxHeartbeats 4000000 in
theorem ctCnt {nm : ByteArray} {am ar ah : Option Addr} {nn cm nr cr nh ch : Nat} {ms : List Mt} {H : List HdX} {Hq : List (List Rat)} {da db : Int} {qv : Rat} {w : World} (_hG : G ≤ w.heap.size) (hm : RdMt G w am nn cm ms) (hh : RdHX G w ah nh ch H) (_hnn : nn ≤ 1000) (hzx : XZL H 60) (hlx : LenX H 1000) (hmt : MtZ ms 900) (hhq : H.map HdX.vs = Hq.map (List.map some)) (hhl : nh = nn) (_hd0 : 0 ≤ da) (_hd1 : da ≤ db) (_hd2 : db ≤ 200000) (hv : cntA ms Hq da db = qv) :
  Calls Try.prog 22 #[.agg #[.string nm, .slice am nn cm, .slice ar nr cr], .slice ah nh ch, .int .i64 da, .int .i64 db] w fun e w' => ∃ x0 x1 x2 x3, e = .returned (.agg #[x0, x1, x2, x3]) ∧ FQ G w' x0 x1 x2 x3 qv ∧ Fz qv 130000 ∧ Below w.heap.size w w' := by
 have HMT := Lib.hid hmt; have HZXL := Lib.hid hzx; have HLX := Lib.hid hlx; have HHQ := Lib.hid hhq; have HHL := Lib.hid hhl; have HQ_ := Lib.hid hv; clear hmt hzx hlx hhq hhl hv
 have HM : Hid (RdMt G w am nn cm ms) := hm
 have HHX : Hid (RdHX G w ah nh ch H) := hh
 clear hm hh
 have M : Hid (Below w.heap.size w w) := Below.refl _ _
 go_enter Try.func22, Try.ntmps22
 go_upto_region 1 with fail
 refine nmW ((w.alloc (.cells #[.string nm, .slice am nn cm, .slice ar nr cr] 25)).alloc (.cells #[.int .i64 0, .slice none 0 0, .int .i64 0, .slice none 0 0] 38)) fun w1 hv => ?_
 rw [← hv]
 replace M := al2W hv M
 clear hv
 go_wp2_with fail
 refine nmW (α := Rat) ((0 : Int) : Rat) fun q5 eq5 => ?_
 refine (fqInt (G := G) (x := 0) (by decide)).mono ?_
 rintro e w2 ⟨x_1, x_2, x_3, x_4, rfl, hd6, hb⟩
 rw [← eq5] at hd6
 have Sq5 : Hid (Fz q5 4) := by show Fz q5 4; rw [eq5]; exact (Fz.int64 (by decide))
 have Eq5 := Lib.hid eq5; clear eq5
 replace M := adM hd6 hb M
 clear hb hd6
 refine cj4 (TQ.st (M.out.1)) fun aa ab ac ad => ?_
 go_upto_region 2 with fail
 clear aa ab ac ad
 refine nmW (w2.alloc (.cells #[x_1, x_2, x_3, x_4] 38)) fun w3 hv => ?_
 rw [← hv]
 have ow2_ : w.heap.size + 1 < w2.heap.size := ((J1 M).1).lt
 replace M := alM hv M
 clear hv
 go_wp2_with fail
 go_loopw [10] (fun i10 wr => ∃ (k : Nat) (qs : Rat) (g0 : Value) (g1 : Value) (g2 : Value) (g3 : Value), i10 = .int .i64 (k : Int) ∧ Hid (k ≤ nn) ∧ Hid (cntS (cntF ms Hq da db) k = qs) ∧ Hid (Fz qs (10 + 125 * k)) ∧ Hid (Bx wr w2.heap.size 38 #[g0, g1, g2, g3] ∧ FQ G wr g0 g1 g2 g3 qs ∧ Bx wr (w.heap.size + 1) 38 #[.int .i64 0, .slice none 0 0, .int .i64 0, .slice none 0 0] ∧ Bx wr w.heap.size 25 #[.string nm, .slice am nn cm, .slice ar nr cr] ∧ Below w.heap.size w wr)) (fun i10 _ => nn - (RowKit.intOf i10).toNat)
 case atStart =>
  exact ⟨0, q5, x_1, x_2, x_3, x_4, rfl, (by show _ ≤ _; omega), (Lib.hid (by rw [Eq5.out]; rfl)), (Lib.hid (Fz.mono Sq5.out (by omega))), Lib.hid (aI (M.out.1) (aI (J1 M).1 (aI (J2 M).1 (aI (J3 M).1 (J4 M)))))⟩
 case round =>
  obtain ⟨w4, rfl⟩ : ∃ x, x = wr := ⟨_, rfl⟩
  clear M
  obtain ⟨k, qs, g0, g1, g2, g3, rfl, hk, HV, HSq, M⟩ := hrel
  have hk := hk.out
  by_cases hlt : k < nn
  ·
   have e1_0 : decide (k < nn) = true := decide_eq_true (by omega)
   have e1_1 : decide ((k : Int) < (nn : Int)) = true := decide_eq_true (by omega)
   have e1_i : (k : Int) < (nn : Int) := by omega
   have hkh_ : k < nh := by have h_ := HHL.out; omega
   have e1h_0 : decide (k < nh) = true := decide_eq_true (by omega)
   have e1h_1 : decide ((k : Int) < (nh : Int)) = true := decide_eq_true (by omega)
   have e1h_i : (k : Int) < (nh : Int) := by omega
   obtain ⟨bz, ofz, rfl, hb_⟩ := RdL.ptr HM.out (by omega : 0 < nn)
   have hbkbz := Lib.hid hb_
   have hkl_ : k < ms.length := by rw [HM.out.len]; exact hlt
   obtain ⟨z_, hx_⟩ : ∃ x, ms[k]? = some x := ⟨ms[k], List.getElem?_eq_getElem hkl_⟩
   obtain ⟨zs, zf, zu⟩ := z_
   have HRz : Hid (Row w bz (ofz + k * 3) [.int .i64 zs, .int .i64 zf, .int .i64 zu]) := hb_.row hx_
   have HEz := Lib.hid hx_
   have hlz := hkl_
   clear hx_ hb_ hkl_
   have hmz_ := HMT.out _ _ HEz.out
   simp only at hmz_
   have hzf0 : 0 ≤ zf := hmz_.1
   have hzfu : zf ≤ zu := hmz_.2.1
   have hzu : zu ≤ 900 := hmz_.2.2
   clear hmz_
   obtain ⟨bh, ofh, rfl, hb_⟩ := RdL.ptr HHX.out (by omega : 0 < nh)
   have hbkbh := Lib.hid hb_
   have hkl_ : k < H.length := by rw [HHX.out.len]; exact hkh_
   obtain ⟨y_, hx_⟩ : ∃ x, H[k]? = some x := ⟨H[k], List.getElem?_eq_getElem hkl_⟩
   obtain ⟨ya, yn, yc, yl⟩ := y_
   have HRy : Hid (Row w bh (ofh + k) [.slice ya yn yc]) := by have h_ := hb_.row hx_; rw [show k * El.sz HdX = k from Nat.mul_one _] at h_; exact h_
   have HDy : Hid (RdX G w ya yn yc yl) := hb_.ok hx_
   have HEy := Lib.hid hx_
   have HZy : Hid (XZ yl 60) := HZXL.out _ (List.mem_of_getElem? hx_)
   have hny : yn ≤ 1000 := by have h_ := HLX.out _ (List.mem_of_getElem? hx_); have h2_ := (HDy.out).len; simp only at h_; omega
   clear hx_ hb_ hkl_
   obtain ⟨fa, hfa_⟩ : ∃ x, max da zf = x := ⟨_, rfl⟩
   obtain ⟨fb, hfb_⟩ : ∃ x, min db zu = x := ⟨_, rfl⟩
   have hfa1 : zf ≤ fa := by omega
   have hfa2 : fa ≤ 200000 := by omega
   have hfb1 : fb ≤ 900 := by omega
   have hfb2 : 0 ≤ fb := by omega
   have HFA := Lib.hid hfa_; have HFB := Lib.hid hfb_
   have hwa_ : IntKind.i64.wrap (fa - zf) = fa - zf := by rw [IntKind.wrap_i64]; omega
   have hwb_ : IntKind.i64.wrap (fb - zf) = fb - zf := by rw [IntKind.wrap_i64]; omega
   have HRO := Lib.hid (hist_row HHQ.out HEy.out)
   have HRL := Lib.hid ((hist_len HRO.out).trans HDy.out.len)
   have HFK : Hid (cntF ms Hq da db k = cntM ⟨zs, zf, zu⟩ (Hq.getD k []) da db) := by show cntM _ _ _ _ = _; rw [getD_of HEz.out]
   by_cases c6_ : (fa - zf) < (fb - zf)
   ·
    have c6 : decide ((fa - zf) < (fb - zf)) = true := decide_eq_true (by omega)
    have c6i : (fa - zf) < (fb - zf) := by omega
    have hge_ : decide (0 ≤ fa - zf) = true := decide_eq_true (by omega)
    by_cases c7_ : (fb - zf) < (yn : Int)
    ·
     have c7 : decide ((fb - zf) < (yn : Int)) = true := decide_eq_true (by omega)
     have c7i : (fb - zf) < (yn : Int) := by omega
     obtain ⟨jb, hjb_⟩ : ∃ j : Nat, fb - zf = (j : Int) := ⟨(fb - zf).toNat, by omega⟩
     obtain ⟨ja, hja_⟩ : ∃ j : Nat, fa - zf = (j : Int) := ⟨(fa - zf).toNat, by omega⟩
     have hjb1 : jb < yn := by omega
     have hja1 : ja < yn := by omega
     have hxb0 : (0 : Int) ≤ fb - zf := by omega
     have hxb3 : zf ≤ fb := by omega
     have hxb1 : fb - zf < (yn : Int) := by omega
     have hxb2 : (fb - zf).toNat = jb := by omega
     have hxa0 : (0 : Int) ≤ fa - zf := by omega
     have hxa1 : fa - zf < (yn : Int) := by omega
     have hxa2 : (fa - zf).toNat = ja := by omega
     have HJB := Lib.hid hjb_; have HJA := Lib.hid hja_; clear hjb_ hja_
     have HZX := HZy
     obtain ⟨bv, ofv, rfl, hb_⟩ := RdL.ptr HDy.out (by omega : 0 < yn)
     have hbkbv := Lib.hid hb_
     have hkl_ : jb < yl.length := by rw [HDy.out.len]; exact hjb1
     obtain ⟨u_, hx_⟩ : ∃ x, yl[jb]? = some x := ⟨yl[jb], List.getElem?_eq_getElem hkl_⟩
     obtain ⟨uu0, uu1, uu2, uu3, ua, ub, uo⟩ := u_
     have HRu : Hid (Row w bv (ofv + jb * 4) [uu0, uu1, uu2, uu3]) := hb_.row hx_
     have HKu : Hid (XOk G w uu0 uu1 uu2 uu3 ua ub uo) := hb_.ok hx_
     have HEu := Lib.hid hx_
     have hz_ := HZX.out _ (List.mem_of_getElem? hx_)
     have hzua : ua ≤ 60 := hz_.1
     have hzub : ub ≤ 60 := hz_.2.1
     have HZu := Lib.hid hz_.2.2
     have HVu : Hid ((yl.map XC.o)[jb]? = some uo) := x_at hx_
     clear hx_ hb_ hkl_ hz_
     have hb_ := hbkbv.out
     have hkl_ : ja < yl.length := by rw [HDy.out.len]; exact hja1
     obtain ⟨v_, hx_⟩ : ∃ x, yl[ja]? = some x := ⟨yl[ja], List.getElem?_eq_getElem hkl_⟩
     obtain ⟨vu0, vu1, vu2, vu3, va, vb, vo⟩ := v_
     have HRv : Hid (Row w bv (ofv + ja * 4) [vu0, vu1, vu2, vu3]) := hb_.row hx_
     have HKv : Hid (XOk G w vu0 vu1 vu2 vu3 va vb vo) := hb_.ok hx_
     have HEv := Lib.hid hx_
     have hz_ := HZX.out _ (List.mem_of_getElem? hx_)
     have hzva : va ≤ 60 := hz_.1
     have hzvb : vb ≤ 60 := hz_.2.1
     have HZv := Lib.hid hz_.2.2
     have HVv : Hid ((yl.map XC.o)[ja]? = some vo) := x_at hx_
     clear hx_ hb_ hkl_ hz_
     obtain ⟨uq, huo_, hud_⟩ := hist_val HRO.out HVu.out
     subst huo_
     have HGu := Lib.hid hud_; clear hud_
     have HQu : Hid (FQ G w uu0 uu1 uu2 uu3 uq) := HKu.out.1
     have HFu : Hid (Fz uq 60) := HZu.out _ rfl
     obtain ⟨vq, hvo_, hvd_⟩ := hist_val HRO.out HVv.out
     subst hvo_
     have HGv := Lib.hid hvd_; clear hvd_
     have HQv : Hid (FQ G w vu0 vu1 vu2 vu3 vq) := HKv.out.1
     have HFv : Hid (Fz vq 60) := HZv.out _ rfl
     have HCY := Lib.hid (cntM_yes (m := ⟨zs, zf, zu⟩) HFA.out HFB.out HRL.out (show fa - zf < fb - zf by omega) (show fb - zf < (yn : Int) by omega) HJA.out HJB.out HGu.out HGv.out)
     refine cj3 (J3 M).1.d3 fun ae af ag => ?_
     go_wp2_with fail
     clear ae af ag
     refine nmW w4.drew fun w5 hv => ?_
     replace M := drM hv M
     refine wp_region_held_drew (S := (fun w' => w'.cell? ⟨w.heap.size, 0, none⟩ = some (.string nm) ∧ w'.cell? ⟨w.heap.size, 1, none⟩ = some (.slice (some ⟨bz, ofz, none⟩) nn cm) ∧ w'.cell? ⟨w.heap.size, 2, none⟩ = some (.slice ar nr cr) ∧ w'.cell? ⟨bz, ofz + k * 3, none⟩ = some (.int .i64 zs) ∧ w'.cell? ⟨bz, ofz + k * 3 + 1, none⟩ = some (.int .i64 zf) ∧ w'.cell? ⟨bz, ofz + k * 3 + 2, none⟩ = some (.int .i64 zu))) (by kernel_rfl) (by rw [← hv]; exact ((J3 M).1.t3 ((HRz.out.keep (J4 M)).c3))) (fun hH7 => ?_)
     rw [← hv] at hH7 ⊢
     clear hv
     refine tk at0 ?_
     refine tk at1 ?_
     refine tk at2 ?_
     refine tk at3 ?_
     refine tk at4 ?_
     refine tk at5 ?_
     refine tk at6 ?_
     refine tk at7 ?_
     refine tk at8 ?_
     refine tk at9 ?_
     refine tk at10 ?_
     refine tk at11 ?_
     refine tk at12 ?_
     refine tk at13 ?_
     refine tk at14 ?_
     refine tk at15 ?_
     refine wpAnyH_done (by kernel_rfl) ?_ _
     clear hH7
     go_wp2_with fail
     refine nmW w5.drew fun w6 hv => ?_
     replace M := drM hv M
     refine wp_region_held_drew (S := (fun w' => w'.cell? ⟨w.heap.size, 0, none⟩ = some (.string nm) ∧ w'.cell? ⟨w.heap.size, 1, none⟩ = some (.slice (some ⟨bz, ofz, none⟩) nn cm) ∧ w'.cell? ⟨w.heap.size, 2, none⟩ = some (.slice ar nr cr) ∧ w'.cell? ⟨bz, ofz + k * 3, none⟩ = some (.int .i64 zs) ∧ w'.cell? ⟨bz, ofz + k * 3 + 1, none⟩ = some (.int .i64 zf) ∧ w'.cell? ⟨bz, ofz + k * 3 + 2, none⟩ = some (.int .i64 zu))) (by kernel_rfl) (by rw [← hv]; exact ((J3 M).1.t3 ((HRz.out.keep (J4 M)).c3))) (fun hH8 => ?_)
     rw [← hv] at hH8 ⊢
     clear hv
     refine tk at0 ?_
     refine tk at1 ?_
     refine tk at2 ?_
     refine tk at3 ?_
     refine tk at4 ?_
     refine tk at5 ?_
     refine tk at6 ?_
     refine tk at7 ?_
     refine tk at8 ?_
     refine tk at9 ?_
     refine tk at10 ?_
     refine tk at11 ?_
     refine tk at12 ?_
     refine tk at13 ?_
     refine tk at14 ?_
     refine tk at15 ?_
     refine wpAnyH_done (by kernel_rfl) ?_ _
     clear hH8
     have yr1 := (HRy.out.keep (J4 M)).c1; have r1_0 := yr1; clear yr1
     go_upto_region 8 with fail
     clear r1_0
     go_cut [13, 14] (fun s13 s14 wx => ∃ (A15 : Nat), ∃ (x_9 : Value), ∃ (x_10 : Value), ∃ (x_11 : Value), ∃ (x_12 : Value), ∃ (q13 : Rat), s13 = .pointer (some ⟨A15, 0, none⟩) ∧ s14 = .int .i64 0 ∧ Hid (q13 = (uq - vq)) ∧ Hid (Fz q13 121) ∧ w2.heap.size < A15 ∧ Hid (Bx wx A15 38 #[x_9, x_10, x_11, x_12] ∧ FQ G wx x_9 x_10 x_11 x_12 q13 ∧ FQ G wx g0 g1 g2 g3 qs ∧ Bx wx w.heap.size 25 #[.string nm, .slice (some ⟨bz, ofz, none⟩) nn cm, .slice ar nr cr] ∧ Bx wx (w.heap.size + 1) 38 #[.int .i64 0, .slice none 0 0, .int .i64 0, .slice none 0 0] ∧ Bx wx w2.heap.size 38 #[g0, g1, g2, g3] ∧ Below w.heap.size w wx))
     case first =>
      refine nmW w6.drew fun w7 hv => ?_
      replace M := drM hv M
      refine wp_region_held_drew (S := (fun w' => w'.cell? ⟨bh, ofh + k, none⟩ = some (.slice (some ⟨bv, ofv, none⟩) yn yc) ∧ w'.cell? ⟨bv, ofv + jb * 4, none⟩ = some (uu0) ∧ w'.cell? ⟨bv, ofv + jb * 4 + 1, none⟩ = some (uu1) ∧ w'.cell? ⟨bv, ofv + jb * 4 + 2, none⟩ = some (uu2) ∧ w'.cell? ⟨bv, ofv + jb * 4 + 3, none⟩ = some (uu3) ∧ w'.cell? ⟨bv, ofv + ja * 4, none⟩ = some (vu0) ∧ w'.cell? ⟨bv, ofv + ja * 4 + 1, none⟩ = some (vu1) ∧ w'.cell? ⟨bv, ofv + ja * 4 + 2, none⟩ = some (vu2) ∧ w'.cell? ⟨bv, ofv + ja * 4 + 3, none⟩ = some (vu3))) (by kernel_rfl) (by rw [← hv]; exact ((HRy.out.keep (J4 M)).t1 ((HRu.out.keep (J4 M)).t4 ((HRv.out.keep (J4 M)).c4)))) (fun hH16 => ?_)
      rw [← hv] at hH16 ⊢
      clear hv
      refine tk at0 ?_
      refine tk at1 ?_
      refine tk at2 ?_
      refine tk at3 ?_
      refine tk at4 ?_
      refine tk at5 ?_
      refine tk at6 ?_
      refine tk at7 ?_
      refine tk at8 ?_
      refine tk at9 ?_
      refine tk at10 ?_
      refine tk at11 ?_
      refine tk at12 ?_
      refine tk at13 ?_
      refine wpAnyH_ready (rs := [14, 18]) (by kernel_rfl) (by simp) ?_
      refine AllReadyH.cons at14 (fun K hK => ?_) ?_
      ·
       go_simp
       refine nmW (α := Rat) (uq - vq) fun q21 eq21 => ?_
       refine (fqSub (G := G) (q := uq) (r := vq) (HQu.out.keep (J4 M)) (HQv.out.keep (J4 M)) (Fz.mono HFu.out (by omega)) (Fz.mono HFv.out (by omega))).mono ?_
       rintro e w8 ⟨x_17, x_18, x_19, x_20, rfl, hd22, hb⟩
       rw [← eq21] at hd22
       have Sq21 : Hid (Fz q21 121) := by show Fz q21 121; rw [eq21]; exact (Fz.sub HFu.out HFv.out)
       have Eq21 := Lib.hid eq21; clear eq21
       replace M := adM hd22 hb M
       clear hb hd22
       (try go_wp2_with fail)
       refine hK.out _ _ (((HRy.out.keep (J5 M)).t1 ((HRu.out.keep (J5 M)).t4 ((HRv.out.keep (J5 M)).c4)))) (fun hH23 => ?_)
       clear hK K hH16
       (try simp only [Act.put, List.setIfInBounds_toArray, List.set_cons_zero, List.set_cons_succ])
       refine tk at15 ?_
       refine tk at16 ?_
       refine tk at17 ?_
       refine wpAnyH_ready (rs := [18]) (by kernel_rfl) (by simp) ?_
       refine AllReadyH.cons at18 (fun K hK => ?_) AllReadyH.nil
       go_simp
       refine nmW (w8.alloc (.cells #[.int .i64 0, .slice none 0 0, .int .i64 0, .slice none 0 0] 38)) fun w9 hv => ?_
       rw [← hv]
       have ow3_ : w2.heap.size < w8.heap.size := ((J1 M).1).lt
       replace M := alM hv M
       clear hv
       refine hK.out _ _ (((HRy.out.keep (J6 M)).t1 ((HRu.out.keep (J6 M)).t4 ((HRv.out.keep (J6 M)).c4)))) (fun hH24 => ?_)
       clear hK K hH23
       (try simp only [Act.put, List.setIfInBounds_toArray, List.set_cons_zero, List.set_cons_succ])
       refine wpAnyH_ready (rs := [19]) (by kernel_rfl) (by simp) ?_
       refine AllReadyH.cons at19 (fun K hK => ?_) AllReadyH.nil
       refine cj8 (M.out.1).c4 fun ai aj ak al ao ap aq au => ?_
       refine cj4 (TQ.st (J1 M).1) fun av aw ax ay => ?_
       go_simp
       clear ai aj ak al ao ap aq au av aw ax ay
       have hz : w.heap.size ≤ w8.heap.size := by omega
       refine st4W (x_17) (x_18) (x_19) (x_20) (M.out.1) (J6 M) hz fun w10 hv og hk hbw => ?_
       rw [← hv]
       replace M := Lib.hid (aI hk (aI ((J1 M).1.far (M.out.1) (by rfl) (by omega) og) (aI ((J2 M).1.only og (by omega)) (aI ((J3 M).1.far (M.out.1) (by rfl) (by omega) og) (aI ((J4 M).1.only og (by omega)) (aI ((J5 M).1.only og (by omega)) hbw))))))
       clear hk hbw og hv hz
       refine hK.out _ _ (((HRy.out.keep (J6 M)).t1 ((HRu.out.keep (J6 M)).t4 ((HRv.out.keep (J6 M)).c4)))) (fun hH25 => ?_)
       clear hK K hH24
       (try simp only [Act.put, List.setIfInBounds_toArray, List.set_cons_zero, List.set_cons_succ])
       refine tk at20 ?_
       refine wpAnyH_done (by kernel_rfl) ?_ _
       clear hH25
       go_wp2_with fail
       go_meet
       exact ⟨w8.heap.size, x_17, x_18, x_19, x_20, q21, rfl, rfl, Eq21, Sq21, (by omega), (M.out.1), (J1 M).1, (J3 M).1, (J5 M).1, (J4 M).1, (J2 M).1, (J6 M)⟩
      refine AllReadyH.cons at18 (fun K hK => ?_) AllReadyH.nil
      go_simp
      refine nmW (w7.alloc (.cells #[.int .i64 0, .slice none 0 0, .int .i64 0, .slice none 0 0] 38)) fun w8 hv => ?_
      rw [← hv]
      have ow3_ : w2.heap.size < w7.heap.size := ((M.out.1)).lt
      replace M := alM hv M
      clear hv
      refine hK.out _ _ (((HRy.out.keep (J5 M)).t1 ((HRu.out.keep (J5 M)).t4 ((HRv.out.keep (J5 M)).c4)))) (fun hH26 => ?_)
      clear hK K hH16
      (try simp only [Act.put, List.setIfInBounds_toArray, List.set_cons_zero, List.set_cons_succ])
      refine wpAnyH_ready (rs := [14]) (by kernel_rfl) (by simp) ?_
      refine AllReadyH.cons at14 (fun K hK => ?_) AllReadyH.nil
      go_simp
      refine nmW (α := Rat) (uq - vq) fun q31 eq31 => ?_
      refine (fqSub (G := G) (q := uq) (r := vq) (HQu.out.keep (J5 M)) (HQv.out.keep (J5 M)) (Fz.mono HFu.out (by omega)) (Fz.mono HFv.out (by omega))).mono ?_
      rintro e w9 ⟨x_27, x_28, x_29, x_30, rfl, hd32, hb⟩
      rw [← eq31] at hd32
      have Sq31 : Hid (Fz q31 121) := by show Fz q31 121; rw [eq31]; exact (Fz.sub HFu.out HFv.out)
      have Eq31 := Lib.hid eq31; clear eq31
      replace M := adM hd32 hb M
      clear hb hd32
      (try go_wp2_with fail)
      refine hK.out _ _ (((HRy.out.keep (J6 M)).t1 ((HRu.out.keep (J6 M)).t4 ((HRv.out.keep (J6 M)).c4)))) (fun hH33 => ?_)
      clear hK K hH26
      (try simp only [Act.put, List.setIfInBounds_toArray, List.set_cons_zero, List.set_cons_succ])
      refine tk at15 ?_
      refine tk at16 ?_
      refine tk at17 ?_
      refine wpAnyH_ready (rs := [19]) (by kernel_rfl) (by simp) ?_
      refine AllReadyH.cons at19 (fun K hK => ?_) AllReadyH.nil
      refine cj8 (J1 M).1.c4 fun ai aj ak al ao ap aq au => ?_
      refine cj4 (TQ.st (M.out.1)) fun az ba bb bc => ?_
      go_simp
      clear ai aj ak al ao ap aq au az ba bb bc
      have hz : w.heap.size ≤ w7.heap.size := by omega
      refine st4W (x_27) (x_28) (x_29) (x_30) (J1 M).1 (J6 M) hz fun w10 hv og hk hbw => ?_
      rw [← hv]
      replace M := Lib.hid (aI ((M.out.1).far (J1 M).1 (by rfl) (by omega) og) (aI hk (aI ((J2 M).1.only og (by omega)) (aI ((J3 M).1.far (J1 M).1 (by rfl) (by omega) og) (aI ((J4 M).1.only og (by omega)) (aI ((J5 M).1.only og (by omega)) hbw))))))
      clear hk hbw og hv hz
      refine hK.out _ _ (((HRy.out.keep (J6 M)).t1 ((HRu.out.keep (J6 M)).t4 ((HRv.out.keep (J6 M)).c4)))) (fun hH34 => ?_)
      clear hK K hH33
      (try simp only [Act.put, List.setIfInBounds_toArray, List.set_cons_zero, List.set_cons_succ])
      refine tk at20 ?_
      refine wpAnyH_done (by kernel_rfl) ?_ _
      clear hH34
      go_wp2_with fail
      go_meet
      exact ⟨w7.heap.size, x_27, x_28, x_29, x_30, q31, rfl, rfl, Eq31, Sq31, (by omega), (J1 M).1, (M.out.1), (J3 M).1, (J5 M).1, (J4 M).1, (J2 M).1, (J6 M)⟩
     case rest =>
      obtain ⟨A15, x_9, x_10, x_11, x_12, q13, rfl, rfl, Eq13, Sq13, oA15, M⟩ := hcut
      obtain ⟨w7, rfl⟩ : ∃ w_ : World, w_ = wc := ⟨_, rfl⟩
      refine cj4 (J5 M).1.d4 fun bd bf bg bi => ?_
      refine cj4 (M.out.1).d4 fun ai ak ao aq => ?_
      go_wp2_with fail
      clear bd bf bg bi ai ak ao aq
      refine nmW (α := Rat) (qs + q13) fun q39 eq39 => ?_
      refine (fqAdd (G := G) (q := qs) (r := q13) (J2 M).1 (J1 M).1 (Fz.mono (show Fz qs 130000 from HSq.out.mono (by omega)) (by omega)) (Fz.mono Sq13.out (by omega))).mono ?_
      rintro e w8 ⟨x_35, x_36, x_37, x_38, rfl, hd40, hb⟩
      rw [← eq39] at hd40
      have Sq39 : Hid (Fz q39 130122) := by show Fz q39 130122; rw [eq39]; exact (Fz.add (show Fz qs 130000 from HSq.out.mono (by omega)) Sq13.out)
      have Eq39 := Lib.hid eq39; clear eq39
      replace M := adM hd40 hb M
      clear hb hd40
      refine cj8 (J6 M).1.c4 fun bd bj bf bk bg bl bi bm => ?_
      refine cj4 (TQ.st (M.out.1)) fun bn bo bp bq => ?_
      go_upto_region 4 with fail
      clear bd bj bf bk bg bl bi bm bn bo bp bq
      have hz : w.heap.size ≤ w2.heap.size := by omega
      refine st4W (x_35) (x_36) (x_37) (x_38) (J6 M).1 (J7 M) hz fun w9 hv og hk hbw => ?_
      rw [← hv]
      replace M := Lib.hid (aI ((M.out.1).far (J6 M).1 (by rfl) (by omega) og) (aI ((J1 M).1.only og (by omega)) (aI ((J2 M).1.far (J6 M).1 (by rfl) (by omega) og) (aI ((J3 M).1.far (J6 M).1 (by rfl) (by omega) og) (aI ((J4 M).1.only og (by omega)) (aI ((J5 M).1.only og (by omega)) (aI hk hbw)))))))
      clear hk hbw og hv hz
      go_wp2_with fail
      go_roundw
      case rel => exact ⟨(k + 1), q39, x_35, x_36, x_37, x_38, by go_num, (by show _ ≤ _; omega), (Lib.hid (cntS_next HV.out (HFK.out.trans HCY.out) (by rw [Eq39.out, Eq13.out]))), (Lib.hid (by rw [Eq39.out, Eq13.out]; exact (Fz.add HSq.out (Fz.sub HFu.out HFv.out)).mono (by omega))), Lib.hid (aI (J6 M).1 (aI (M.out.1) (aI (J5 M).1 (aI (J4 M).1 (J7 M)))))⟩
      case measure => simp [RowKit.intOf] <;> omega
    ·
     have c7 : decide ((fb - zf) < (yn : Int)) = false := decide_eq_false (by omega)
     have c7i : ¬ (fb - zf) < (yn : Int) := by omega
     have HCZ := Lib.hid (cntM_zero (m := ⟨zs, zf, zu⟩) HFA.out HFB.out HRL.out (show ¬ (fa - zf < fb - zf ∧ fb - zf < (yn : Int)) by omega))
     refine cj3 (J3 M).1.d3 fun ae af ag => ?_
     go_wp2_with fail
     clear ae af ag
     refine nmW w4.drew fun w5 hv => ?_
     replace M := drM hv M
     refine wp_region_held_drew (S := (fun w' => w'.cell? ⟨w.heap.size, 0, none⟩ = some (.string nm) ∧ w'.cell? ⟨w.heap.size, 1, none⟩ = some (.slice (some ⟨bz, ofz, none⟩) nn cm) ∧ w'.cell? ⟨w.heap.size, 2, none⟩ = some (.slice ar nr cr) ∧ w'.cell? ⟨bz, ofz + k * 3, none⟩ = some (.int .i64 zs) ∧ w'.cell? ⟨bz, ofz + k * 3 + 1, none⟩ = some (.int .i64 zf) ∧ w'.cell? ⟨bz, ofz + k * 3 + 2, none⟩ = some (.int .i64 zu))) (by kernel_rfl) (by rw [← hv]; exact ((J3 M).1.t3 ((HRz.out.keep (J4 M)).c3))) (fun hH41 => ?_)
     rw [← hv] at hH41 ⊢
     clear hv
     refine tk at0 ?_
     refine tk at1 ?_
     refine tk at2 ?_
     refine tk at3 ?_
     refine tk at4 ?_
     refine tk at5 ?_
     refine tk at6 ?_
     refine tk at7 ?_
     refine tk at8 ?_
     refine tk at9 ?_
     refine tk at10 ?_
     refine tk at11 ?_
     refine tk at12 ?_
     refine tk at13 ?_
     refine tk at14 ?_
     refine tk at15 ?_
     refine wpAnyH_done (by kernel_rfl) ?_ _
     clear hH41
     go_wp2_with fail
     refine nmW w5.drew fun w6 hv => ?_
     replace M := drM hv M
     refine wp_region_held_drew (S := (fun w' => w'.cell? ⟨w.heap.size, 0, none⟩ = some (.string nm) ∧ w'.cell? ⟨w.heap.size, 1, none⟩ = some (.slice (some ⟨bz, ofz, none⟩) nn cm) ∧ w'.cell? ⟨w.heap.size, 2, none⟩ = some (.slice ar nr cr) ∧ w'.cell? ⟨bz, ofz + k * 3, none⟩ = some (.int .i64 zs) ∧ w'.cell? ⟨bz, ofz + k * 3 + 1, none⟩ = some (.int .i64 zf) ∧ w'.cell? ⟨bz, ofz + k * 3 + 2, none⟩ = some (.int .i64 zu))) (by kernel_rfl) (by rw [← hv]; exact ((J3 M).1.t3 ((HRz.out.keep (J4 M)).c3))) (fun hH42 => ?_)
     rw [← hv] at hH42 ⊢
     clear hv
     refine tk at0 ?_
     refine tk at1 ?_
     refine tk at2 ?_
     refine tk at3 ?_
     refine tk at4 ?_
     refine tk at5 ?_
     refine tk at6 ?_
     refine tk at7 ?_
     refine tk at8 ?_
     refine tk at9 ?_
     refine tk at10 ?_
     refine tk at11 ?_
     refine tk at12 ?_
     refine tk at13 ?_
     refine tk at14 ?_
     refine tk at15 ?_
     refine wpAnyH_done (by kernel_rfl) ?_ _
     clear hH42
     have yr1 := (HRy.out.keep (J4 M)).c1; have r1_0 := yr1; clear yr1
     go_wp2_with fail
     clear r1_0
     go_roundw
     case rel => exact ⟨(k + 1), qs, g0, g1, g2, g3, by go_num, (by show _ ≤ _; omega), (Lib.hid (cntS_next HV.out (HFK.out.trans HCZ.out) (Rat.add_zero _))), (Lib.hid (HSq.out.mono (by omega))), Lib.hid (aI (M.out.1) (aI (J1 M).1 (aI (J2 M).1 (aI (J3 M).1 (J4 M)))))⟩
     case measure => simp [RowKit.intOf] <;> omega
   ·
    have c6 : decide ((fa - zf) < (fb - zf)) = false := decide_eq_false (by omega)
    have c6i : ¬ (fa - zf) < (fb - zf) := by omega
    have HCZ := Lib.hid (cntM_zero (m := ⟨zs, zf, zu⟩) HFA.out HFB.out HRL.out (show ¬ (fa - zf < fb - zf ∧ fb - zf < (yn : Int)) by omega))
    refine cj3 (J3 M).1.d3 fun ae af ag => ?_
    go_wp2_with fail
    clear ae af ag
    refine nmW w4.drew fun w5 hv => ?_
    replace M := drM hv M
    refine wp_region_held_drew (S := (fun w' => w'.cell? ⟨w.heap.size, 0, none⟩ = some (.string nm) ∧ w'.cell? ⟨w.heap.size, 1, none⟩ = some (.slice (some ⟨bz, ofz, none⟩) nn cm) ∧ w'.cell? ⟨w.heap.size, 2, none⟩ = some (.slice ar nr cr) ∧ w'.cell? ⟨bz, ofz + k * 3, none⟩ = some (.int .i64 zs) ∧ w'.cell? ⟨bz, ofz + k * 3 + 1, none⟩ = some (.int .i64 zf) ∧ w'.cell? ⟨bz, ofz + k * 3 + 2, none⟩ = some (.int .i64 zu))) (by kernel_rfl) (by rw [← hv]; exact ((J3 M).1.t3 ((HRz.out.keep (J4 M)).c3))) (fun hH43 => ?_)
    rw [← hv] at hH43 ⊢
    clear hv
    refine tk at0 ?_
    refine tk at1 ?_
    refine tk at2 ?_
    refine tk at3 ?_
    refine tk at4 ?_
    refine tk at5 ?_
    refine tk at6 ?_
    refine tk at7 ?_
    refine tk at8 ?_
    refine tk at9 ?_
    refine tk at10 ?_
    refine tk at11 ?_
    refine tk at12 ?_
    refine tk at13 ?_
    refine tk at14 ?_
    refine tk at15 ?_
    refine wpAnyH_done (by kernel_rfl) ?_ _
    clear hH43
    go_wp2_with fail
    refine nmW w5.drew fun w6 hv => ?_
    replace M := drM hv M
    refine wp_region_held_drew (S := (fun w' => w'.cell? ⟨w.heap.size, 0, none⟩ = some (.string nm) ∧ w'.cell? ⟨w.heap.size, 1, none⟩ = some (.slice (some ⟨bz, ofz, none⟩) nn cm) ∧ w'.cell? ⟨w.heap.size, 2, none⟩ = some (.slice ar nr cr) ∧ w'.cell? ⟨bz, ofz + k * 3, none⟩ = some (.int .i64 zs) ∧ w'.cell? ⟨bz, ofz + k * 3 + 1, none⟩ = some (.int .i64 zf) ∧ w'.cell? ⟨bz, ofz + k * 3 + 2, none⟩ = some (.int .i64 zu))) (by kernel_rfl) (by rw [← hv]; exact ((J3 M).1.t3 ((HRz.out.keep (J4 M)).c3))) (fun hH44 => ?_)
    rw [← hv] at hH44 ⊢
    clear hv
    refine tk at0 ?_
    refine tk at1 ?_
    refine tk at2 ?_
    refine tk at3 ?_
    refine tk at4 ?_
    refine tk at5 ?_
    refine tk at6 ?_
    refine tk at7 ?_
    refine tk at8 ?_
    refine tk at9 ?_
    refine tk at10 ?_
    refine tk at11 ?_
    refine tk at12 ?_
    refine tk at13 ?_
    refine tk at14 ?_
    refine tk at15 ?_
    refine wpAnyH_done (by kernel_rfl) ?_ _
    clear hH44
    go_wp2_with fail
    go_roundw
    case rel => exact ⟨(k + 1), qs, g0, g1, g2, g3, by go_num, (by show _ ≤ _; omega), (Lib.hid (cntS_next HV.out (HFK.out.trans HCZ.out) (Rat.add_zero _))), (Lib.hid (HSq.out.mono (by omega))), Lib.hid (aI (M.out.1) (aI (J1 M).1 (aI (J2 M).1 (aI (J3 M).1 (J4 M)))))⟩
    case measure => simp [RowKit.intOf] <;> omega
  ·
   have e1_0 : decide (k < nn) = false := decide_eq_false (by omega)
   have e1_1 : decide ((k : Int) < (nn : Int)) = false := decide_eq_false (by omega)
   have e1_i : ¬ (k : Int) < (nn : Int) := by omega
   have HEND : Hid (cntA ms Hq da db = qs) := by show cntS _ _ = _; rw [HM.out.len, show nn = k by omega]; exact HV.out
   refine cj3 (J3 M).1.d3 fun ae af ag => ?_
   refine cj4 (M.out.1).d4 fun bd bf bg bi => ?_
   refine cj8 (J2 M).1.c4 fun br bs bt bu bw bx ca cb => ?_
   refine cj4 (TQ.st (J1 M).1) fun cc cd ce cf => ?_
   go_wp2_with fail
   clear ae af ag bd bf bg bi br bs bt bu bw bx ca cb cc cd ce cf
   have hz : w.heap.size ≤ w.heap.size + 1 := by omega
   refine st4W (g0) (g1) (g2) (g3) (J2 M).1 (J4 M) hz fun w5 hv og hk hbw => ?_
   rw [← hv]
   replace M := Lib.hid (aI ((M.out.1).only og (by omega)) (aI ((J1 M).1.far (J2 M).1 (by rfl) (by omega) og) (aI hk (aI ((J3 M).1.only og (by omega)) hbw))))
   clear hk hbw og hv hz
   have hqe_ := HEND.out.symm.trans HQ_.out
   subst hqe_
   refine bodyPost_ret (results_box1 rfl _ _ (w.heap.size + 1) 38 _ _ _ rfl (J2 M).1 Try.underlying38 rfl (by kernel_rfl)) rfl ?_
   exact ⟨g0, g1, g2, g3, rfl, (J1 M).1, (HSq.out.mono (by omega)), (J4 M)⟩
end Go.Proofs.Ytlcgckelamhnpaa
