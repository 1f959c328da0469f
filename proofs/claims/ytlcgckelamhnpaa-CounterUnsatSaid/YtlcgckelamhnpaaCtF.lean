/- What the readings say of each meter. -/
import Derived.Test.YtlcgckelamhnpaaBase
import Derived.Test.YtlcgckelamhnpaaBigSpec
import Derived.Test.YtlcgckelamhnpaaBigB
import Derived.Test.YtlcgckelamhnpaaBigC
import Derived.Test.YtlcgckelamhnpaaBigD
import Derived.Test.YtlcgckelamhnpaaBigK
import Derived.Test.YtlcgckelamhnpaaBigQ
import Derived.Test.YtlcgckelamhnpaaFd
import Derived.Test.YtlcgckelamhnpaaHeld
import Derived.Test.YtlcgckelamhnpaaAw
import Derived.Test.YtlcgckelamhnpaaFz
import Derived.Test.YtlcgckelamhnpaaFracR
import Derived.Test.YtlcgckelamhnpaaRefF
import Derived.Test.YtlcgckelamhnpaaRw
import Derived.Test.YtlcgckelamhnpaaScaleE
import Derived.Test.YtlcgckelamhnpaaScaleI
import Derived.Test.YtlcgckelamhnpaaCtLaws
import Derived.Test.YtlcgckelamhnpaaCtA
import Derived.Test.YtlcgckelamhnpaaCtE
import Derived.Test.YtlcgckelamhnpaaProg
import Derived.Test.YtlcgckelamhnpaaShelf
import Derived.WalkKit
import Derived.WalkSpells
import Derived.WalkLawsBesides
import Derived.Handy
import Derived.Lib.Hide
import Derived.Lib.Strings
import Derived.Lib.Builder
import Derived.BigQuiet
import Derived.OwnWalk
import Derived.Laws.BitsLemmas
import Derived.WalkSmall
import Derived.Deep.QuietTactic
import Derived.StillTailTactics
import Derived.Maps.AppendAt
import Derived.IntWalk
import Derived.Deep.RegionHeld3
import Derived.Deep.DeepFit
import Derived.Deep.LoopGhost
import Derived.Deep.DeepCutAuto
import Derived.Lib.ItoaNum
import Derived.Lib.Repeat
import Derived.Lib.AppendIntMem
import Derived.Sort.OwnSorted
import Derived.Shelf.Strings.SlTrimAscii
import Derived.Lib.ConvBytes
import Derived.Lib.CutLaws
import Derived.Shelf.Strings.Builder1
namespace Go.Proofs.Ytlcgckelamhnpaa
open Go.RowKit Go.Lib
variable {G : Nat}

set_option maxRecDepth 100000 in
set_option maxHeartbeats 4000000 in
theorem ctMarks {nm : ByteArray} {am ar ac aq : Option Addr} {nn cm nr cr cc cq : Nat} {ms : List Mt} {rs : List Rg} {cs : List Ct} {rr : List Rc} {w : World} (hG : G ≤ w.heap.size) (hm : RdMt G w am nn cm ms) (hr : RdRg G w ar nr cr rs) (hc : CtIn w (.slice ac cs.length cc) cs) (hq : RcIn w (.slice aq rr.length cq) rr) (_hsz : nm.size ≤ 1000) (_hnn : nn ≤ 1000) (_hnr : nr ≤ 1000) (_hcl : cs.length ≤ 1000) (_hrl : rr.length ≤ 1000) (hfm : RgIn ms.length rs) :
  Calls Try.prog 30 #[.agg #[.string nm, .slice am nn cm, .slice ar nr cr], .slice ac cs.length cc, .slice aq rr.length cq] w fun e w' => ∃ a2 L, e = .returned (.slice a2 nn nn) ∧ RdH G w' a2 nn nn L ∧ L.map (fun x => x.l.map MkC.mk') = (List.range nn).map (fun i => marksL (ivOf cs rr) ms rs (i : Nat)) ∧ (∀ x ∈ L, MkZ x.l 60) ∧ Below w.heap.size w w' := by
 have HFM := Lib.hid hfm; clear hfm
 have HM : Hid (RdMt G w am nn cm ms) := hm
 have HR : Hid (RdRg G w ar nr cr rs) := hr
 have HC : Hid (CtIn w (.slice ac cs.length cc) cs) := hc
 have HQ : Hid (RcIn w (.slice aq rr.length cq) rr) := hq
 clear hm hr hc hq
 have M : Hid (Below w.heap.size w w) := Below.refl _ _
 go_enter Try.func30, Try.ntmps30
 go_upto_region 1 with fail
 refine nmW (w.alloc (.cells #[.string nm, .slice am nn cm, .slice ar nr cr] 25)) fun w1 hv => ?_
 rw [← hv]
 replace M := alM hv M
 clear hv
 refine cj3 (M.out.1).d3 fun aa ab ad => ?_
 go_upto_region 2 with (at_make; go_must (refine wpList_mkhd rfl _ _ rfl w1 nn _ _ rfl rfl rfl rfl (by omega) (Nat.le_trans hG (J1 M).size) ?_; intro w2 ho hb))
 clear aa ab ad
 have hwB : w.heap.size ≤ w1.heap.size := (J1 M).size
 replace M := Lib.hid (aI ho (aI (RwsM.nil (n := nn) w2 (Nat.le_trans hG (J1 M).size)) (Goes.go M.out hb)))
 clear ho hb
 refine cj3 (J2 M).1.d3 fun aa ab ad => ?_
 go_wp2_with fail
 clear aa ab ad
 go_loopw [20] (fun i20 wr => ∃ (k : Nat) (hs : List HV) (ls : List (List MkC)), i20 = .int .i64 (k : Int) ∧ Hid (k ≤ nr) ∧ Hid (hs.length = nn) ∧ Hid (MksOk (ivOf cs rr) ms rs k ls) ∧ Hid (OwH G w1.heap.size wr w1.heap.size 0 hs ∧ RwsM G w1.heap.size wr hs ls ∧ Bx wr w.heap.size 25 #[.string nm, .slice am nn cm, .slice ar nr cr] ∧ Below w.heap.size w wr)) (fun i20 _ => nr - (RowKit.intOf i20).toNat)
 case atStart =>
  exact ⟨0, (List.replicate nn ⟨.slice none 0 0⟩), (List.replicate nn []), rfl, (by show _ ≤ _; omega), (Lib.hid (by simp)), (Lib.hid MksOk.zero), Lib.hid (aI (M.out.1) (aI (J1 M).1 (aI (J2 M).1 (J3 M))))⟩
 case round =>
  obtain ⟨w3, rfl⟩ : ∃ x, x = wr := ⟨_, rfl⟩
  clear M
  obtain ⟨k, hs, ls, rfl, hk, HHL, HMO, M⟩ := hrel
  have hk := hk.out
  by_cases hlt : k < nr
  ·
   have e1_0 : decide (k < nr) = true := decide_eq_true (by omega)
   have e1_1 : decide ((k : Int) < (nr : Int)) = true := decide_eq_true (by omega)
   have e1_i : (k : Int) < (nr : Int) := by omega
   obtain ⟨br, ofr, rfl, hb_⟩ := RdL.ptr HR.out (by omega : 0 < nr)
   have hbkbr := Lib.hid hb_
   have hkl_ : k < rs.length := by rw [HR.out.len]; exact hlt
   obtain ⟨x_, hx_⟩ : ∃ x, rs[k]? = some x := ⟨rs[k], List.getElem?_eq_getElem hkl_⟩
   obtain ⟨xm, xd, xc⟩ := x_
   have HRx : Hid (Row w br (ofr + k * 3) [.int .i64 xm, .int .i64 xd, .int .i64 xc]) := hb_.row hx_
   have HEx := Lib.hid hx_
   have hlx := hkl_
   clear hx_ hb_ hkl_
   have hx_ := HFM.out k _ HEx.out
   obtain ⟨q, hq_⟩ : ∃ q : Nat, xm = (q : Int) := ⟨xm.toNat, by have := hx_.1; simp only at this; omega⟩
   subst hq_
   have hqn : q < nn := by have h_ := hx_.2; have h2_ := HM.out.len; simp only at h_; omega
   clear hx_
   obtain ⟨bm, ofm, rfl, hb_⟩ := RdL.ptr HM.out (by omega : 0 < nn)
   have hbkbm := Lib.hid hb_
   have hkl_ : q < ms.length := by rw [HM.out.len]; exact hqn
   obtain ⟨z_, hx_⟩ : ∃ x, ms[q]? = some x := ⟨ms[q], List.getElem?_eq_getElem hkl_⟩
   obtain ⟨zs, zf, zu⟩ := z_
   have HRz : Hid (Row w bm (ofm + q * 3) [.int .i64 zs, .int .i64 zf, .int .i64 zu]) := hb_.row hx_
   have HEz := Lib.hid hx_
   have hlz := hkl_
   clear hx_ hb_ hkl_
   rcases hiv_ : ivl cs rr zs xc xd with _ | ⟨ilo, ihi⟩
   ·
    have HIV := Lib.hid hiv_; clear hiv_
    refine cj3 (HRx.out.keep (J3 M)).c3 fun r0_0 r0_1 r0_2 => ?_
    go_upto_region 5 with fail
    clear r0_0 r0_1 r0_2
    refine nmW (w3.alloc (.cells #[.int .i64 (q : Int), .int .i64 xd, .int .i64 xc] 29)) fun w4 hv => ?_
    rw [← hv]
    have ow1_ : w.heap.size < w3.heap.size := ((J2 M).1).lt
    replace M := alM hv M
    clear hv
    go_cut [10, 11, 12] (fun s10 s11 s12 wx => ∃ (A11 : Nat), ∃ (A12 : Nat), ∃ (x_1 : Value), ∃ (x_2 : Value), ∃ (x_3 : Value), ∃ (x_4 : Value), ∃ (x_5 : Value), ∃ (x_6 : Value), ∃ (x_7 : Value), ∃ (x_8 : Value), s10 = .pointer (some ⟨A11, 0, none⟩) ∧ s11 = .pointer (some ⟨A12, 0, none⟩) ∧ s12 = .bool false ∧ w3.heap.size < A11 ∧ (w3.heap.size < A12 ∧ A11 ≠ A12) ∧ Hid (Bx wx A11 38 #[x_1, x_2, x_3, x_4] ∧ Bx wx A12 38 #[x_5, x_6, x_7, x_8] ∧ OQ G wx x_1 x_2 x_3 x_4 none ∧ OQ G wx x_5 x_6 x_7 x_8 none ∧ OwH G w1.heap.size wx w1.heap.size 0 hs ∧ RwsM G w1.heap.size wx hs ls ∧ Bx wx w.heap.size 25 #[.string nm, .slice (some ⟨bm, ofm, none⟩) nn cm, .slice (some ⟨br, ofr, none⟩) nr cr] ∧ Bx wx w3.heap.size 29 #[.int .i64 (q : Int), .int .i64 xd, .int .i64 xc] ∧ Below w.heap.size w wx))
    case first =>
     refine nmW w4.drew fun w5 hv => ?_
     replace M := drM hv M
     refine wp_region_held_drew (S := (fun w' => w'.cell? ⟨w.heap.size, 0, none⟩ = some (.string nm) ∧ w'.cell? ⟨w.heap.size, 1, none⟩ = some (.slice (some ⟨bm, ofm, none⟩) nn cm) ∧ w'.cell? ⟨w.heap.size, 2, none⟩ = some (.slice (some ⟨br, ofr, none⟩) nr cr) ∧ w'.cell? ⟨w3.heap.size, 0, none⟩ = some (.int .i64 (q : Int)) ∧ w'.cell? ⟨w3.heap.size, 1, none⟩ = some (.int .i64 xd) ∧ w'.cell? ⟨w3.heap.size, 2, none⟩ = some (.int .i64 xc) ∧ w'.cell? ⟨bm, ofm + q * 3, none⟩ = some (.int .i64 zs) ∧ w'.cell? ⟨bm, ofm + q * 3 + 1, none⟩ = some (.int .i64 zf) ∧ w'.cell? ⟨bm, ofm + q * 3 + 2, none⟩ = some (.int .i64 zu))) (by kernel_rfl) (by rw [← hv]; exact ((J3 M).1.t3 ((M.out.1).t3 ((HRz.out.keep (J4 M)).c3)))) (fun hH13 => ?_)
     rw [← hv] at hH13 ⊢
     clear hv
     refine tk at0 ?_
     refine tk at1 ?_
     refine tk at2 ?_
     refine tk at3 ?_
     refine tk at4 ?_
     refine tk at5 ?_
     refine tk at6 ?_
     refine tk at7 ?_
     refine tk at8 ?_
     refine tk at9 ?_
     refine tk at10 ?_
     refine tk at11 ?_
     refine tk at12 ?_
     refine wpAnyH_ready (rs := [13, 18, 19]) (by kernel_rfl) (by simp) ?_
     refine AllReadyH.cons at13 (fun K hK => ?_) ?_
     ·
      go_simp
      refine (iv_u (G := G) (sc := zs) (rd := xc) (day := xd) (lo := none) (hi := none) (b_ := false) (Nat.le_trans hG (J4 M).size) (HC.out.keep (J4 M)) (HQ.out.keep (J4 M)) (by omega) (by omega) (by unfold loO; rw [HIV.out]; rfl) (by unfold hiO; rw [HIV.out]; rfl) (by unfold hasI; rw [HIV.out]; rfl)).mono ?_
      rintro e w6 ⟨x_14, x_15, x_16, x_17, x_18, x_19, x_20, x_21, rfl, hd22, hd23, hb⟩
      replace M := ad2M hd22 hd23 hb M
      clear hb hd22 hd23
      (try go_wp2_with fail)
      refine hK.out _ _ (((J5 M).1.t3 ((J2 M).1.t3 ((HRz.out.keep (J6 M)).c3)))) (fun hH24 => ?_)
      clear hK K hH13
      (try simp only [Act.put, List.setIfInBounds_toArray, List.set_cons_zero, List.set_cons_succ])
      refine tk at14 ?_
      refine tk at15 ?_
      refine tk at16 ?_
      refine tk at17 ?_
      refine wpAnyH_ready (rs := [18, 19]) (by kernel_rfl) (by simp) ?_
      refine AllReadyH.cons at18 (fun K hK => ?_) ?_
      ·
       go_simp
       refine nmW (w6.alloc (.cells #[.int .i64 0, .slice none 0 0, .int .i64 0, .slice none 0 0] 38)) fun w7 hv => ?_
       rw [← hv]
       have ow2_ : w3.heap.size < w6.heap.size := ((J2 M).1).lt
       replace M := alM hv M
       clear hv
       refine hK.out _ _ (((J6 M).1.t3 ((J3 M).1.t3 ((HRz.out.keep (J7 M)).c3)))) (fun hH25 => ?_)
       clear hK K hH24
       (try simp only [Act.put, List.setIfInBounds_toArray, List.set_cons_zero, List.set_cons_succ])
       refine wpAnyH_ready (rs := [19]) (by kernel_rfl) (by simp) ?_
       refine AllReadyH.cons at19 (fun K hK => ?_) AllReadyH.nil
       go_simp
       refine nmW (w7.alloc (.cells #[.int .i64 0, .slice none 0 0, .int .i64 0, .slice none 0 0] 38)) fun w8 hv => ?_
       rw [← hv]
       have ow3_ : w6.heap.size < w7.heap.size := ((M.out.1)).lt
       replace M := alM hv M
       clear hv
       refine hK.out _ _ (((J7 M).1.t3 ((J4 M).1.t3 ((HRz.out.keep (J8 M)).c3)))) (fun hH26 => ?_)
       clear hK K hH25
       (try simp only [Act.put, List.setIfInBounds_toArray, List.set_cons_zero, List.set_cons_succ])
       refine wpAnyH_ready (rs := [20]) (by kernel_rfl) (by simp) ?_
       refine AllReadyH.cons at20 (fun K hK => ?_) AllReadyH.nil
       refine cj8 (J1 M).1.c4 fun ae af ag ah ai aj ak al => ?_
       refine cj4 (TQ.st (J2 M).1) fun ao ap au av => ?_
       go_simp
       clear ae af ag ah ai aj ak al ao ap au av
       have hz : w.heap.size ≤ w6.heap.size := by omega
       refine st4W (x_14) (x_15) (x_16) (x_17) (J1 M).1 (J8 M) hz fun w9 hv og hk hbw => ?_
       rw [← hv]
       replace M := Lib.hid (aI ((M.out.1).only og (by omega)) (aI hk (aI ((J2 M).1.far (J1 M).1 (by rfl) (by omega) og) (aI ((J3 M).1.far (J1 M).1 (by rfl) (by omega) og) (aI ((J4 M).1.only og (by omega)) (aI ((J5 M).1.far (J1 M).1 (by rfl) (by omega) og) (aI ((J6 M).1.far (J1 M).1 (by rfl) (by omega) og) (aI ((J7 M).1.only og (by omega)) hbw))))))))
       clear hk hbw og hv hz
       refine hK.out _ _ (((J7 M).1.t3 ((J4 M).1.t3 ((HRz.out.keep (J8 M)).c3)))) (fun hH27 => ?_)
       clear hK K hH26
       (try simp only [Act.put, List.setIfInBounds_toArray, List.set_cons_zero, List.set_cons_succ])
       refine wpAnyH_ready (rs := [21]) (by kernel_rfl) (by simp) ?_
       refine AllReadyH.cons at21 (fun K hK => ?_) AllReadyH.nil
       refine cj8 (M.out.1).c4 fun aw ax ay az ba bb bc bd => ?_
       refine cj4 (TQ.st (J3 M).1) fun bf bg bh bi => ?_
       go_simp
       clear aw ax ay az ba bb bc bd bf bg bh bi
       have hz : w.heap.size ≤ w7.heap.size := by omega
       refine st4W (x_18) (x_19) (x_20) (x_21) (M.out.1) (J8 M) hz fun w10 hv og hk hbw => ?_
       rw [← hv]
       replace M := Lib.hid (aI hk (aI ((J1 M).1.only og (by omega)) (aI ((J2 M).1.far (M.out.1) (by rfl) (by omega) og) (aI ((J3 M).1.far (M.out.1) (by rfl) (by omega) og) (aI ((J4 M).1.only og (by omega)) (aI ((J5 M).1.far (M.out.1) (by rfl) (by omega) og) (aI ((J6 M).1.far (M.out.1) (by rfl) (by omega) og) (aI ((J7 M).1.only og (by omega)) hbw))))))))
       clear hk hbw og hv hz
       refine hK.out _ _ (((J7 M).1.t3 ((J4 M).1.t3 ((HRz.out.keep (J8 M)).c3)))) (fun hH28 => ?_)
       clear hK K hH27
       (try simp only [Act.put, List.setIfInBounds_toArray, List.set_cons_zero, List.set_cons_succ])
       refine tk at22 ?_
       refine wpAnyH_done (by kernel_rfl) ?_ _
       clear hH28
       go_wp2_with fail
       go_meet
       exact ⟨w6.heap.size, w7.heap.size, x_14, x_15, x_16, x_17, x_18, x_19, x_20, x_21, rfl, rfl, rfl, (by omega), (by omega), (J1 M).1, (M.out.1), (J2 M).1, (J3 M).1, (J5 M).1, (J6 M).1, (J7 M).1, (J4 M).1, (J8 M)⟩
      refine AllReadyH.cons at19 (fun K hK => ?_) AllReadyH.nil
      go_simp
      refine nmW (w6.alloc (.cells #[.int .i64 0, .slice none 0 0, .int .i64 0, .slice none 0 0] 38)) fun w7 hv => ?_
      rw [← hv]
      have ow2_ : w3.heap.size < w6.heap.size := ((J2 M).1).lt
      replace M := alM hv M
      clear hv
      refine hK.out _ _ (((J6 M).1.t3 ((J3 M).1.t3 ((HRz.out.keep (J7 M)).c3)))) (fun hH29 => ?_)
      clear hK K hH24
      (try simp only [Act.put, List.setIfInBounds_toArray, List.set_cons_zero, List.set_cons_succ])
      refine wpAnyH_ready (rs := [18]) (by kernel_rfl) (by simp) ?_
      refine AllReadyH.cons at18 (fun K hK => ?_) AllReadyH.nil
      go_simp
      refine nmW (w7.alloc (.cells #[.int .i64 0, .slice none 0 0, .int .i64 0, .slice none 0 0] 38)) fun w8 hv => ?_
      rw [← hv]
      have ow3_ : w6.heap.size < w7.heap.size := ((M.out.1)).lt
      replace M := alM hv M
      clear hv
      refine hK.out _ _ (((J7 M).1.t3 ((J4 M).1.t3 ((HRz.out.keep (J8 M)).c3)))) (fun hH30 => ?_)
      clear hK K hH29
      (try simp only [Act.put, List.setIfInBounds_toArray, List.set_cons_zero, List.set_cons_succ])
      refine wpAnyH_ready (rs := [20]) (by kernel_rfl) (by simp) ?_
      refine AllReadyH.cons at20 (fun K hK => ?_) AllReadyH.nil
      refine cj8 (M.out.1).c4 fun aw ax ay az ba bb bc bd => ?_
      refine cj4 (TQ.st (J2 M).1) fun ao ap au av => ?_
      go_simp
      clear aw ax ay az ba bb bc bd ao ap au av
      have hz : w.heap.size ≤ w7.heap.size := by omega
      refine st4W (x_14) (x_15) (x_16) (x_17) (M.out.1) (J8 M) hz fun w9 hv og hk hbw => ?_
      rw [← hv]
      replace M := Lib.hid (aI hk (aI ((J1 M).1.only og (by omega)) (aI ((J2 M).1.far (M.out.1) (by rfl) (by omega) og) (aI ((J3 M).1.far (M.out.1) (by rfl) (by omega) og) (aI ((J4 M).1.only og (by omega)) (aI ((J5 M).1.far (M.out.1) (by rfl) (by omega) og) (aI ((J6 M).1.far (M.out.1) (by rfl) (by omega) og) (aI ((J7 M).1.only og (by omega)) hbw))))))))
      clear hk hbw og hv hz
      refine hK.out _ _ (((J7 M).1.t3 ((J4 M).1.t3 ((HRz.out.keep (J8 M)).c3)))) (fun hH31 => ?_)
      clear hK K hH30
      (try simp only [Act.put, List.setIfInBounds_toArray, List.set_cons_zero, List.set_cons_succ])
      refine wpAnyH_ready (rs := [21]) (by kernel_rfl) (by simp) ?_
      refine AllReadyH.cons at21 (fun K hK => ?_) AllReadyH.nil
      refine cj8 (J1 M).1.c4 fun ae af ag ah ai aj ak al => ?_
      refine cj4 (TQ.st (J3 M).1) fun bf bg bh bi => ?_
      go_simp
      clear ae af ag ah ai aj ak al bf bg bh bi
      have hz : w.heap.size ≤ w6.heap.size := by omega
      refine st4W (x_18) (x_19) (x_20) (x_21) (J1 M).1 (J8 M) hz fun w10 hv og hk hbw => ?_
      rw [← hv]
      replace M := Lib.hid (aI ((M.out.1).only og (by omega)) (aI hk (aI ((J2 M).1.far (J1 M).1 (by rfl) (by omega) og) (aI ((J3 M).1.far (J1 M).1 (by rfl) (by omega) og) (aI ((J4 M).1.only og (by omega)) (aI ((J5 M).1.far (J1 M).1 (by rfl) (by omega) og) (aI ((J6 M).1.far (J1 M).1 (by rfl) (by omega) og) (aI ((J7 M).1.only og (by omega)) hbw))))))))
      clear hk hbw og hv hz
      refine hK.out _ _ (((J7 M).1.t3 ((J4 M).1.t3 ((HRz.out.keep (J8 M)).c3)))) (fun hH32 => ?_)
      clear hK K hH31
      (try simp only [Act.put, List.setIfInBounds_toArray, List.set_cons_zero, List.set_cons_succ])
      refine tk at22 ?_
      refine wpAnyH_done (by kernel_rfl) ?_ _
      clear hH32
      go_wp2_with fail
      go_meet
      exact ⟨w7.heap.size, w6.heap.size, x_14, x_15, x_16, x_17, x_18, x_19, x_20, x_21, rfl, rfl, rfl, (by omega), (by omega), (M.out.1), (J1 M).1, (J2 M).1, (J3 M).1, (J5 M).1, (J6 M).1, (J7 M).1, (J4 M).1, (J8 M)⟩
     refine AllReadyH.cons at18 (fun K hK => ?_) ?_
     ·
      go_simp
      refine nmW (w5.alloc (.cells #[.int .i64 0, .slice none 0 0, .int .i64 0, .slice none 0 0] 38)) fun w6 hv => ?_
      rw [← hv]
      have ow2_ : w3.heap.size < w5.heap.size := ((M.out.1)).lt
      replace M := alM hv M
      clear hv
      refine hK.out _ _ (((J4 M).1.t3 ((J1 M).1.t3 ((HRz.out.keep (J5 M)).c3)))) (fun hH33 => ?_)
      clear hK K hH13
      (try simp only [Act.put, List.setIfInBounds_toArray, List.set_cons_zero, List.set_cons_succ])
      refine wpAnyH_ready (rs := [13, 19]) (by kernel_rfl) (by simp) ?_
      refine AllReadyH.cons at13 (fun K hK => ?_) ?_
      ·
       go_simp
       refine (iv_u (G := G) (sc := zs) (rd := xc) (day := xd) (lo := none) (hi := none) (b_ := false) (Nat.le_trans hG (J5 M).size) (HC.out.keep (J5 M)) (HQ.out.keep (J5 M)) (by omega) (by omega) (by unfold loO; rw [HIV.out]; rfl) (by unfold hiO; rw [HIV.out]; rfl) (by unfold hasI; rw [HIV.out]; rfl)).mono ?_
       rintro e w7 ⟨x_34, x_35, x_36, x_37, x_38, x_39, x_40, x_41, rfl, hd42, hd43, hb⟩
       replace M := ad2M hd42 hd43 hb M
       clear hb hd42 hd43
       (try go_wp2_with fail)
       refine hK.out _ _ (((J6 M).1.t3 ((J3 M).1.t3 ((HRz.out.keep (J7 M)).c3)))) (fun hH44 => ?_)
       clear hK K hH33
       (try simp only [Act.put, List.setIfInBounds_toArray, List.set_cons_zero, List.set_cons_succ])
       refine tk at14 ?_
       refine tk at15 ?_
       refine tk at16 ?_
       refine tk at17 ?_
       refine wpAnyH_ready (rs := [19]) (by kernel_rfl) (by simp) ?_
       refine AllReadyH.cons at19 (fun K hK => ?_) AllReadyH.nil
       go_simp
       refine nmW (w7.alloc (.cells #[.int .i64 0, .slice none 0 0, .int .i64 0, .slice none 0 0] 38)) fun w8 hv => ?_
       rw [← hv]
       have ow3_ : w5.heap.size < w7.heap.size := ((J2 M).1).lt
       replace M := alM hv M
       clear hv
       refine hK.out _ _ (((J7 M).1.t3 ((J4 M).1.t3 ((HRz.out.keep (J8 M)).c3)))) (fun hH45 => ?_)
       clear hK K hH44
       (try simp only [Act.put, List.setIfInBounds_toArray, List.set_cons_zero, List.set_cons_succ])
       refine wpAnyH_ready (rs := [20]) (by kernel_rfl) (by simp) ?_
       refine AllReadyH.cons at20 (fun K hK => ?_) AllReadyH.nil
       refine cj8 (J3 M).1.c4 fun ae af ag ah ai aj ak al => ?_
       refine cj4 (TQ.st (J1 M).1) fun bj bk bl bn => ?_
       go_simp
       clear ae af ag ah ai aj ak al bj bk bl bn
       have hz : w.heap.size ≤ w5.heap.size := by omega
       refine st4W (x_34) (x_35) (x_36) (x_37) (J3 M).1 (J8 M) hz fun w9 hv og hk hbw => ?_
       rw [← hv]
       replace M := Lib.hid (aI ((M.out.1).only og (by omega)) (aI ((J1 M).1.far (J3 M).1 (by rfl) (by omega) og) (aI ((J2 M).1.far (J3 M).1 (by rfl) (by omega) og) (aI hk (aI ((J4 M).1.only og (by omega)) (aI ((J5 M).1.far (J3 M).1 (by rfl) (by omega) og) (aI ((J6 M).1.far (J3 M).1 (by rfl) (by omega) og) (aI ((J7 M).1.only og (by omega)) hbw))))))))
       clear hk hbw og hv hz
       refine hK.out _ _ (((J7 M).1.t3 ((J4 M).1.t3 ((HRz.out.keep (J8 M)).c3)))) (fun hH46 => ?_)
       clear hK K hH45
       (try simp only [Act.put, List.setIfInBounds_toArray, List.set_cons_zero, List.set_cons_succ])
       refine wpAnyH_ready (rs := [21]) (by kernel_rfl) (by simp) ?_
       refine AllReadyH.cons at21 (fun K hK => ?_) AllReadyH.nil
       refine cj8 (M.out.1).c4 fun aw ax ay az ba bb bc bd => ?_
       refine cj4 (TQ.st (J2 M).1) fun bo bp bq bs => ?_
       go_simp
       clear aw ax ay az ba bb bc bd bo bp bq bs
       have hz : w.heap.size ≤ w7.heap.size := by omega
       refine st4W (x_38) (x_39) (x_40) (x_41) (M.out.1) (J8 M) hz fun w10 hv og hk hbw => ?_
       rw [← hv]
       replace M := Lib.hid (aI hk (aI ((J1 M).1.far (M.out.1) (by rfl) (by omega) og) (aI ((J2 M).1.far (M.out.1) (by rfl) (by omega) og) (aI ((J3 M).1.only og (by omega)) (aI ((J4 M).1.only og (by omega)) (aI ((J5 M).1.far (M.out.1) (by rfl) (by omega) og) (aI ((J6 M).1.far (M.out.1) (by rfl) (by omega) og) (aI ((J7 M).1.only og (by omega)) hbw))))))))
       clear hk hbw og hv hz
       refine hK.out _ _ (((J7 M).1.t3 ((J4 M).1.t3 ((HRz.out.keep (J8 M)).c3)))) (fun hH47 => ?_)
       clear hK K hH46
       (try simp only [Act.put, List.setIfInBounds_toArray, List.set_cons_zero, List.set_cons_succ])
       refine tk at22 ?_
       refine wpAnyH_done (by kernel_rfl) ?_ _
       clear hH47
       go_wp2_with fail
       go_meet
       exact ⟨w5.heap.size, w7.heap.size, x_34, x_35, x_36, x_37, x_38, x_39, x_40, x_41, rfl, rfl, rfl, (by omega), (by omega), (J3 M).1, (M.out.1), (J1 M).1, (J2 M).1, (J5 M).1, (J6 M).1, (J7 M).1, (J4 M).1, (J8 M)⟩
      refine AllReadyH.cons at19 (fun K hK => ?_) AllReadyH.nil
      go_simp
      refine nmW (w6.alloc (.cells #[.int .i64 0, .slice none 0 0, .int .i64 0, .slice none 0 0] 38)) fun w7 hv => ?_
      rw [← hv]
      have ow3_ : w5.heap.size < w6.heap.size := ((M.out.1)).lt
      replace M := alM hv M
      clear hv
      refine hK.out _ _ (((J5 M).1.t3 ((J2 M).1.t3 ((HRz.out.keep (J6 M)).c3)))) (fun hH48 => ?_)
      clear hK K hH33
      (try simp only [Act.put, List.setIfInBounds_toArray, List.set_cons_zero, List.set_cons_succ])
      refine wpAnyH_ready (rs := [13]) (by kernel_rfl) (by simp) ?_
      refine AllReadyH.cons at13 (fun K hK => ?_) AllReadyH.nil
      go_simp
      refine (iv_u (G := G) (sc := zs) (rd := xc) (day := xd) (lo := none) (hi := none) (b_ := false) (Nat.le_trans hG (J6 M).size) (HC.out.keep (J6 M)) (HQ.out.keep (J6 M)) (by omega) (by omega) (by unfold loO; rw [HIV.out]; rfl) (by unfold hiO; rw [HIV.out]; rfl) (by unfold hasI; rw [HIV.out]; rfl)).mono ?_
      rintro e w8 ⟨x_49, x_50, x_51, x_52, x_53, x_54, x_55, x_56, rfl, hd57, hd58, hb⟩
      replace M := ad2M hd57 hd58 hb M
      clear hb hd57 hd58
      (try go_wp2_with fail)
      refine hK.out _ _ (((J7 M).1.t3 ((J4 M).1.t3 ((HRz.out.keep (J8 M)).c3)))) (fun hH59 => ?_)
      clear hK K hH48
      (try simp only [Act.put, List.setIfInBounds_toArray, List.set_cons_zero, List.set_cons_succ])
      refine tk at14 ?_
      refine tk at15 ?_
      refine tk at16 ?_
      refine tk at17 ?_
      refine wpAnyH_ready (rs := [20]) (by kernel_rfl) (by simp) ?_
      refine AllReadyH.cons at20 (fun K hK => ?_) AllReadyH.nil
      refine cj8 (J3 M).1.c4 fun ae af ag ah ai aj ak al => ?_
      refine cj4 (TQ.st (M.out.1)) fun bt bu bv bw => ?_
      go_simp
      clear ae af ag ah ai aj ak al bt bu bv bw
      have hz : w.heap.size ≤ w5.heap.size := by omega
      refine st4W (x_49) (x_50) (x_51) (x_52) (J3 M).1 (J8 M) hz fun w9 hv og hk hbw => ?_
      rw [← hv]
      replace M := Lib.hid (aI ((M.out.1).far (J3 M).1 (by rfl) (by omega) og) (aI ((J1 M).1.far (J3 M).1 (by rfl) (by omega) og) (aI ((J2 M).1.only og (by omega)) (aI hk (aI ((J4 M).1.only og (by omega)) (aI ((J5 M).1.far (J3 M).1 (by rfl) (by omega) og) (aI ((J6 M).1.far (J3 M).1 (by rfl) (by omega) og) (aI ((J7 M).1.only og (by omega)) hbw))))))))
      clear hk hbw og hv hz
      refine hK.out _ _ (((J7 M).1.t3 ((J4 M).1.t3 ((HRz.out.keep (J8 M)).c3)))) (fun hH60 => ?_)
      clear hK K hH59
      (try simp only [Act.put, List.setIfInBounds_toArray, List.set_cons_zero, List.set_cons_succ])
      refine wpAnyH_ready (rs := [21]) (by kernel_rfl) (by simp) ?_
      refine AllReadyH.cons at21 (fun K hK => ?_) AllReadyH.nil
      refine cj8 (J2 M).1.c4 fun aw ax ay az ba bb bc bd => ?_
      refine cj4 (TQ.st (J1 M).1) fun bz ca cb cd => ?_
      go_simp
      clear aw ax ay az ba bb bc bd bz ca cb cd
      have hz : w.heap.size ≤ w6.heap.size := by omega
      refine st4W (x_53) (x_54) (x_55) (x_56) (J2 M).1 (J8 M) hz fun w10 hv og hk hbw => ?_
      rw [← hv]
      replace M := Lib.hid (aI ((M.out.1).far (J2 M).1 (by rfl) (by omega) og) (aI ((J1 M).1.far (J2 M).1 (by rfl) (by omega) og) (aI hk (aI ((J3 M).1.only og (by omega)) (aI ((J4 M).1.only og (by omega)) (aI ((J5 M).1.far (J2 M).1 (by rfl) (by omega) og) (aI ((J6 M).1.far (J2 M).1 (by rfl) (by omega) og) (aI ((J7 M).1.only og (by omega)) hbw))))))))
      clear hk hbw og hv hz
      refine hK.out _ _ (((J7 M).1.t3 ((J4 M).1.t3 ((HRz.out.keep (J8 M)).c3)))) (fun hH61 => ?_)
      clear hK K hH60
      (try simp only [Act.put, List.setIfInBounds_toArray, List.set_cons_zero, List.set_cons_succ])
      refine tk at22 ?_
      refine wpAnyH_done (by kernel_rfl) ?_ _
      clear hH61
      go_wp2_with fail
      go_meet
      exact ⟨w5.heap.size, w6.heap.size, x_49, x_50, x_51, x_52, x_53, x_54, x_55, x_56, rfl, rfl, rfl, (by omega), (by omega), (J3 M).1, (J2 M).1, (M.out.1), (J1 M).1, (J5 M).1, (J6 M).1, (J7 M).1, (J4 M).1, (J8 M)⟩
     refine AllReadyH.cons at19 (fun K hK => ?_) AllReadyH.nil
     go_simp
     refine nmW (w5.alloc (.cells #[.int .i64 0, .slice none 0 0, .int .i64 0, .slice none 0 0] 38)) fun w6 hv => ?_
     rw [← hv]
     have ow2_ : w3.heap.size < w5.heap.size := ((M.out.1)).lt
     replace M := alM hv M
     clear hv
     refine hK.out _ _ (((J4 M).1.t3 ((J1 M).1.t3 ((HRz.out.keep (J5 M)).c3)))) (fun hH62 => ?_)
     clear hK K hH13
     (try simp only [Act.put, List.setIfInBounds_toArray, List.set_cons_zero, List.set_cons_succ])
     refine wpAnyH_ready (rs := [13, 18]) (by kernel_rfl) (by simp) ?_
     refine AllReadyH.cons at13 (fun K hK => ?_) ?_
     ·
      go_simp
      refine (iv_u (G := G) (sc := zs) (rd := xc) (day := xd) (lo := none) (hi := none) (b_ := false) (Nat.le_trans hG (J5 M).size) (HC.out.keep (J5 M)) (HQ.out.keep (J5 M)) (by omega) (by omega) (by unfold loO; rw [HIV.out]; rfl) (by unfold hiO; rw [HIV.out]; rfl) (by unfold hasI; rw [HIV.out]; rfl)).mono ?_
      rintro e w7 ⟨x_63, x_64, x_65, x_66, x_67, x_68, x_69, x_70, rfl, hd71, hd72, hb⟩
      replace M := ad2M hd71 hd72 hb M
      clear hb hd71 hd72
      (try go_wp2_with fail)
      refine hK.out _ _ (((J6 M).1.t3 ((J3 M).1.t3 ((HRz.out.keep (J7 M)).c3)))) (fun hH73 => ?_)
      clear hK K hH62
      (try simp only [Act.put, List.setIfInBounds_toArray, List.set_cons_zero, List.set_cons_succ])
      refine tk at14 ?_
      refine tk at15 ?_
      refine tk at16 ?_
      refine tk at17 ?_
      refine wpAnyH_ready (rs := [18]) (by kernel_rfl) (by simp) ?_
      refine AllReadyH.cons at18 (fun K hK => ?_) AllReadyH.nil
      go_simp
      refine nmW (w7.alloc (.cells #[.int .i64 0, .slice none 0 0, .int .i64 0, .slice none 0 0] 38)) fun w8 hv => ?_
      rw [← hv]
      have ow3_ : w5.heap.size < w7.heap.size := ((J2 M).1).lt
      replace M := alM hv M
      clear hv
      refine hK.out _ _ (((J7 M).1.t3 ((J4 M).1.t3 ((HRz.out.keep (J8 M)).c3)))) (fun hH74 => ?_)
      clear hK K hH73
      (try simp only [Act.put, List.setIfInBounds_toArray, List.set_cons_zero, List.set_cons_succ])
      refine wpAnyH_ready (rs := [20]) (by kernel_rfl) (by simp) ?_
      refine AllReadyH.cons at20 (fun K hK => ?_) AllReadyH.nil
      refine cj8 (M.out.1).c4 fun aw ax ay az ba bb bc bd => ?_
      refine cj4 (TQ.st (J1 M).1) fun ce cf cg ch => ?_
      go_simp
      clear aw ax ay az ba bb bc bd ce cf cg ch
      have hz : w.heap.size ≤ w7.heap.size := by omega
      refine st4W (x_63) (x_64) (x_65) (x_66) (M.out.1) (J8 M) hz fun w9 hv og hk hbw => ?_
      rw [← hv]
      replace M := Lib.hid (aI hk (aI ((J1 M).1.far (M.out.1) (by rfl) (by omega) og) (aI ((J2 M).1.far (M.out.1) (by rfl) (by omega) og) (aI ((J3 M).1.only og (by omega)) (aI ((J4 M).1.only og (by omega)) (aI ((J5 M).1.far (M.out.1) (by rfl) (by omega) og) (aI ((J6 M).1.far (M.out.1) (by rfl) (by omega) og) (aI ((J7 M).1.only og (by omega)) hbw))))))))
      clear hk hbw og hv hz
      refine hK.out _ _ (((J7 M).1.t3 ((J4 M).1.t3 ((HRz.out.keep (J8 M)).c3)))) (fun hH75 => ?_)
      clear hK K hH74
      (try simp only [Act.put, List.setIfInBounds_toArray, List.set_cons_zero, List.set_cons_succ])
      refine wpAnyH_ready (rs := [21]) (by kernel_rfl) (by simp) ?_
      refine AllReadyH.cons at21 (fun K hK => ?_) AllReadyH.nil
      refine cj8 (J3 M).1.c4 fun ae af ag ah ai aj ak al => ?_
      refine cj4 (TQ.st (J2 M).1) fun ci cj ck cl => ?_
      go_simp
      clear ae af ag ah ai aj ak al ci cj ck cl
      have hz : w.heap.size ≤ w5.heap.size := by omega
      refine st4W (x_67) (x_68) (x_69) (x_70) (J3 M).1 (J8 M) hz fun w10 hv og hk hbw => ?_
      rw [← hv]
      replace M := Lib.hid (aI ((M.out.1).only og (by omega)) (aI ((J1 M).1.far (J3 M).1 (by rfl) (by omega) og) (aI ((J2 M).1.far (J3 M).1 (by rfl) (by omega) og) (aI hk (aI ((J4 M).1.only og (by omega)) (aI ((J5 M).1.far (J3 M).1 (by rfl) (by omega) og) (aI ((J6 M).1.far (J3 M).1 (by rfl) (by omega) og) (aI ((J7 M).1.only og (by omega)) hbw))))))))
      clear hk hbw og hv hz
      refine hK.out _ _ (((J7 M).1.t3 ((J4 M).1.t3 ((HRz.out.keep (J8 M)).c3)))) (fun hH76 => ?_)
      clear hK K hH75
      (try simp only [Act.put, List.setIfInBounds_toArray, List.set_cons_zero, List.set_cons_succ])
      refine tk at22 ?_
      refine wpAnyH_done (by kernel_rfl) ?_ _
      clear hH76
      go_wp2_with fail
      go_meet
      exact ⟨w7.heap.size, w5.heap.size, x_63, x_64, x_65, x_66, x_67, x_68, x_69, x_70, rfl, rfl, rfl, (by omega), (by omega), (M.out.1), (J3 M).1, (J1 M).1, (J2 M).1, (J5 M).1, (J6 M).1, (J7 M).1, (J4 M).1, (J8 M)⟩
     refine AllReadyH.cons at18 (fun K hK => ?_) AllReadyH.nil
     go_simp
     refine nmW (w6.alloc (.cells #[.int .i64 0, .slice none 0 0, .int .i64 0, .slice none 0 0] 38)) fun w7 hv => ?_
     rw [← hv]
     have ow3_ : w5.heap.size < w6.heap.size := ((M.out.1)).lt
     replace M := alM hv M
     clear hv
     refine hK.out _ _ (((J5 M).1.t3 ((J2 M).1.t3 ((HRz.out.keep (J6 M)).c3)))) (fun hH77 => ?_)
     clear hK K hH62
     (try simp only [Act.put, List.setIfInBounds_toArray, List.set_cons_zero, List.set_cons_succ])
     refine wpAnyH_ready (rs := [13]) (by kernel_rfl) (by simp) ?_
     refine AllReadyH.cons at13 (fun K hK => ?_) AllReadyH.nil
     go_simp
     refine (iv_u (G := G) (sc := zs) (rd := xc) (day := xd) (lo := none) (hi := none) (b_ := false) (Nat.le_trans hG (J6 M).size) (HC.out.keep (J6 M)) (HQ.out.keep (J6 M)) (by omega) (by omega) (by unfold loO; rw [HIV.out]; rfl) (by unfold hiO; rw [HIV.out]; rfl) (by unfold hasI; rw [HIV.out]; rfl)).mono ?_
     rintro e w8 ⟨x_78, x_79, x_80, x_81, x_82, x_83, x_84, x_85, rfl, hd86, hd87, hb⟩
     replace M := ad2M hd86 hd87 hb M
     clear hb hd86 hd87
     (try go_wp2_with fail)
     refine hK.out _ _ (((J7 M).1.t3 ((J4 M).1.t3 ((HRz.out.keep (J8 M)).c3)))) (fun hH88 => ?_)
     clear hK K hH77
     (try simp only [Act.put, List.setIfInBounds_toArray, List.set_cons_zero, List.set_cons_succ])
     refine tk at14 ?_
     refine tk at15 ?_
     refine tk at16 ?_
     refine tk at17 ?_
     refine wpAnyH_ready (rs := [20]) (by kernel_rfl) (by simp) ?_
     refine AllReadyH.cons at20 (fun K hK => ?_) AllReadyH.nil
     refine cj8 (J2 M).1.c4 fun aw ax ay az ba bb bc bd => ?_
     refine cj4 (TQ.st (M.out.1)) fun cn co cp ct => ?_
     go_simp
     clear aw ax ay az ba bb bc bd cn co cp ct
     have hz : w.heap.size ≤ w6.heap.size := by omega
     refine st4W (x_78) (x_79) (x_80) (x_81) (J2 M).1 (J8 M) hz fun w9 hv og hk hbw => ?_
     rw [← hv]
     replace M := Lib.hid (aI ((M.out.1).far (J2 M).1 (by rfl) (by omega) og) (aI ((J1 M).1.far (J2 M).1 (by rfl) (by omega) og) (aI hk (aI ((J3 M).1.only og (by omega)) (aI ((J4 M).1.only og (by omega)) (aI ((J5 M).1.far (J2 M).1 (by rfl) (by omega) og) (aI ((J6 M).1.far (J2 M).1 (by rfl) (by omega) og) (aI ((J7 M).1.only og (by omega)) hbw))))))))
     clear hk hbw og hv hz
     refine hK.out _ _ (((J7 M).1.t3 ((J4 M).1.t3 ((HRz.out.keep (J8 M)).c3)))) (fun hH89 => ?_)
     clear hK K hH88
     (try simp only [Act.put, List.setIfInBounds_toArray, List.set_cons_zero, List.set_cons_succ])
     refine wpAnyH_ready (rs := [21]) (by kernel_rfl) (by simp) ?_
     refine AllReadyH.cons at21 (fun K hK => ?_) AllReadyH.nil
     refine cj8 (J3 M).1.c4 fun ae af ag ah ai aj ak al => ?_
     refine cj4 (TQ.st (J1 M).1) fun cu cv cw cx => ?_
     go_simp
     clear ae af ag ah ai aj ak al cu cv cw cx
     have hz : w.heap.size ≤ w5.heap.size := by omega
     refine st4W (x_82) (x_83) (x_84) (x_85) (J3 M).1 (J8 M) hz fun w10 hv og hk hbw => ?_
     rw [← hv]
     replace M := Lib.hid (aI ((M.out.1).far (J3 M).1 (by rfl) (by omega) og) (aI ((J1 M).1.far (J3 M).1 (by rfl) (by omega) og) (aI ((J2 M).1.only og (by omega)) (aI hk (aI ((J4 M).1.only og (by omega)) (aI ((J5 M).1.far (J3 M).1 (by rfl) (by omega) og) (aI ((J6 M).1.far (J3 M).1 (by rfl) (by omega) og) (aI ((J7 M).1.only og (by omega)) hbw))))))))
     clear hk hbw og hv hz
     refine hK.out _ _ (((J7 M).1.t3 ((J4 M).1.t3 ((HRz.out.keep (J8 M)).c3)))) (fun hH90 => ?_)
     clear hK K hH89
     (try simp only [Act.put, List.setIfInBounds_toArray, List.set_cons_zero, List.set_cons_succ])
     refine tk at22 ?_
     refine wpAnyH_done (by kernel_rfl) ?_ _
     clear hH90
     go_wp2_with fail
     go_meet
     exact ⟨w6.heap.size, w5.heap.size, x_78, x_79, x_80, x_81, x_82, x_83, x_84, x_85, rfl, rfl, rfl, (by omega), (by omega), (J2 M).1, (J3 M).1, (M.out.1), (J1 M).1, (J5 M).1, (J6 M).1, (J7 M).1, (J4 M).1, (J8 M)⟩
    case rest =>
     obtain ⟨A11, A12, x_1, x_2, x_3, x_4, x_5, x_6, x_7, x_8, rfl, rfl, rfl, oA11, oA12, M⟩ := hcut
     obtain ⟨w5, rfl⟩ : ∃ w_ : World, w_ = wc := ⟨_, rfl⟩
     go_wp2_with fail
     go_roundw
     case rel => exact ⟨(k + 1), hs, ls, by go_num, (by show _ ≤ _; omega), HHL, (Lib.hid (HMO.out.no HEx.out HEz.out HIV.out)), Lib.hid (aI (J4 M).1 (aI (J5 M).1 (aI (J6 M).1 (J8 M))))⟩
     case measure => simp [RowKit.intOf] <;> omega
   ·
    have hz_ := ivl_size hiv_
    have HZl : Hid (Fz ilo 14) := hz_.1; have HZh : Hid (Fz ihi 14) := hz_.2
    have HIV := Lib.hid hiv_; clear hiv_ hz_
    refine cj3 (HRx.out.keep (J3 M)).c3 fun r0_0 r0_1 r0_2 => ?_
    go_upto_region 5 with fail
    clear r0_0 r0_1 r0_2
    refine nmW (w3.alloc (.cells #[.int .i64 (q : Int), .int .i64 xd, .int .i64 xc] 29)) fun w4 hv => ?_
    rw [← hv]
    have ow1_ : w.heap.size < w3.heap.size := ((J2 M).1).lt
    replace M := alM hv M
    clear hv
    go_cut [10, 11, 12] (fun s10 s11 s12 wx => ∃ (A101 : Nat), ∃ (A102 : Nat), ∃ (x_91 : Value), ∃ (x_92 : Value), ∃ (x_93 : Value), ∃ (x_94 : Value), ∃ (x_95 : Value), ∃ (x_96 : Value), ∃ (x_97 : Value), ∃ (x_98 : Value), s10 = .pointer (some ⟨A101, 0, none⟩) ∧ s11 = .pointer (some ⟨A102, 0, none⟩) ∧ s12 = .bool true ∧ w3.heap.size < A101 ∧ (w3.heap.size < A102 ∧ A101 ≠ A102) ∧ Hid (Bx wx A101 38 #[x_91, x_92, x_93, x_94] ∧ Bx wx A102 38 #[x_95, x_96, x_97, x_98] ∧ OQ G wx x_91 x_92 x_93 x_94 (some ilo) ∧ OQ G wx x_95 x_96 x_97 x_98 (some ihi) ∧ OwH G w1.heap.size wx w1.heap.size 0 hs ∧ RwsM G w1.heap.size wx hs ls ∧ Bx wx w.heap.size 25 #[.string nm, .slice (some ⟨bm, ofm, none⟩) nn cm, .slice (some ⟨br, ofr, none⟩) nr cr] ∧ Bx wx w3.heap.size 29 #[.int .i64 (q : Int), .int .i64 xd, .int .i64 xc] ∧ Below w.heap.size w wx))
    case first =>
     refine nmW w4.drew fun w5 hv => ?_
     replace M := drM hv M
     refine wp_region_held_drew (S := (fun w' => w'.cell? ⟨w.heap.size, 0, none⟩ = some (.string nm) ∧ w'.cell? ⟨w.heap.size, 1, none⟩ = some (.slice (some ⟨bm, ofm, none⟩) nn cm) ∧ w'.cell? ⟨w.heap.size, 2, none⟩ = some (.slice (some ⟨br, ofr, none⟩) nr cr) ∧ w'.cell? ⟨w3.heap.size, 0, none⟩ = some (.int .i64 (q : Int)) ∧ w'.cell? ⟨w3.heap.size, 1, none⟩ = some (.int .i64 xd) ∧ w'.cell? ⟨w3.heap.size, 2, none⟩ = some (.int .i64 xc) ∧ w'.cell? ⟨bm, ofm + q * 3, none⟩ = some (.int .i64 zs) ∧ w'.cell? ⟨bm, ofm + q * 3 + 1, none⟩ = some (.int .i64 zf) ∧ w'.cell? ⟨bm, ofm + q * 3 + 2, none⟩ = some (.int .i64 zu))) (by kernel_rfl) (by rw [← hv]; exact ((J3 M).1.t3 ((M.out.1).t3 ((HRz.out.keep (J4 M)).c3)))) (fun hH103 => ?_)
     rw [← hv] at hH103 ⊢
     clear hv
     refine tk at0 ?_
     refine tk at1 ?_
     refine tk at2 ?_
     refine tk at3 ?_
     refine tk at4 ?_
     refine tk at5 ?_
     refine tk at6 ?_
     refine tk at7 ?_
     refine tk at8 ?_
     refine tk at9 ?_
     refine tk at10 ?_
     refine tk at11 ?_
     refine tk at12 ?_
     refine wpAnyH_ready (rs := [13, 18, 19]) (by kernel_rfl) (by simp) ?_
     refine AllReadyH.cons at13 (fun K hK => ?_) ?_
     ·
      go_simp
      refine (iv_u (G := G) (sc := zs) (rd := xc) (day := xd) (lo := (some ilo)) (hi := (some ihi)) (b_ := true) (Nat.le_trans hG (J4 M).size) (HC.out.keep (J4 M)) (HQ.out.keep (J4 M)) (by omega) (by omega) (by unfold loO; rw [HIV.out]; rfl) (by unfold hiO; rw [HIV.out]; rfl) (by unfold hasI; rw [HIV.out]; rfl)).mono ?_
      rintro e w6 ⟨x_104, x_105, x_106, x_107, x_108, x_109, x_110, x_111, rfl, hd112, hd113, hb⟩
      replace M := ad2M hd112 hd113 hb M
      clear hb hd112 hd113
      (try go_wp2_with fail)
      refine hK.out _ _ (((J5 M).1.t3 ((J2 M).1.t3 ((HRz.out.keep (J6 M)).c3)))) (fun hH114 => ?_)
      clear hK K hH103
      (try simp only [Act.put, List.setIfInBounds_toArray, List.set_cons_zero, List.set_cons_succ])
      refine tk at14 ?_
      refine tk at15 ?_
      refine tk at16 ?_
      refine tk at17 ?_
      refine wpAnyH_ready (rs := [18, 19]) (by kernel_rfl) (by simp) ?_
      refine AllReadyH.cons at18 (fun K hK => ?_) ?_
      ·
       go_simp
       refine nmW (w6.alloc (.cells #[.int .i64 0, .slice none 0 0, .int .i64 0, .slice none 0 0] 38)) fun w7 hv => ?_
       rw [← hv]
       have ow2_ : w3.heap.size < w6.heap.size := ((J2 M).1).lt
       replace M := alM hv M
       clear hv
       refine hK.out _ _ (((J6 M).1.t3 ((J3 M).1.t3 ((HRz.out.keep (J7 M)).c3)))) (fun hH115 => ?_)
       clear hK K hH114
       (try simp only [Act.put, List.setIfInBounds_toArray, List.set_cons_zero, List.set_cons_succ])
       refine wpAnyH_ready (rs := [19]) (by kernel_rfl) (by simp) ?_
       refine AllReadyH.cons at19 (fun K hK => ?_) AllReadyH.nil
       go_simp
       refine nmW (w7.alloc (.cells #[.int .i64 0, .slice none 0 0, .int .i64 0, .slice none 0 0] 38)) fun w8 hv => ?_
       rw [← hv]
       have ow3_ : w6.heap.size < w7.heap.size := ((M.out.1)).lt
       replace M := alM hv M
       clear hv
       refine hK.out _ _ (((J7 M).1.t3 ((J4 M).1.t3 ((HRz.out.keep (J8 M)).c3)))) (fun hH116 => ?_)
       clear hK K hH115
       (try simp only [Act.put, List.setIfInBounds_toArray, List.set_cons_zero, List.set_cons_succ])
       refine wpAnyH_ready (rs := [20]) (by kernel_rfl) (by simp) ?_
       refine AllReadyH.cons at20 (fun K hK => ?_) AllReadyH.nil
       refine cj8 (J1 M).1.c4 fun ae af ag ah ai aj ak al => ?_
       refine cj4 (TQ.st (J2 M).1) fun cy cz da db => ?_
       go_simp
       clear ae af ag ah ai aj ak al cy cz da db
       have hz : w.heap.size ≤ w6.heap.size := by omega
       refine st4W (x_104) (x_105) (x_106) (x_107) (J1 M).1 (J8 M) hz fun w9 hv og hk hbw => ?_
       rw [← hv]
       replace M := Lib.hid (aI ((M.out.1).only og (by omega)) (aI hk (aI ((J2 M).1.far (J1 M).1 (by rfl) (by omega) og) (aI ((J3 M).1.far (J1 M).1 (by rfl) (by omega) og) (aI ((J4 M).1.only og (by omega)) (aI ((J5 M).1.far (J1 M).1 (by rfl) (by omega) og) (aI ((J6 M).1.far (J1 M).1 (by rfl) (by omega) og) (aI ((J7 M).1.only og (by omega)) hbw))))))))
       clear hk hbw og hv hz
       refine hK.out _ _ (((J7 M).1.t3 ((J4 M).1.t3 ((HRz.out.keep (J8 M)).c3)))) (fun hH117 => ?_)
       clear hK K hH116
       (try simp only [Act.put, List.setIfInBounds_toArray, List.set_cons_zero, List.set_cons_succ])
       refine wpAnyH_ready (rs := [21]) (by kernel_rfl) (by simp) ?_
       refine AllReadyH.cons at21 (fun K hK => ?_) AllReadyH.nil
       refine cj8 (M.out.1).c4 fun aw ax ay az ba bb bc bd => ?_
       refine cj4 (TQ.st (J3 M).1) fun dc dd de df => ?_
       go_simp
       clear aw ax ay az ba bb bc bd dc dd de df
       have hz : w.heap.size ≤ w7.heap.size := by omega
       refine st4W (x_108) (x_109) (x_110) (x_111) (M.out.1) (J8 M) hz fun w10 hv og hk hbw => ?_
       rw [← hv]
       replace M := Lib.hid (aI hk (aI ((J1 M).1.only og (by omega)) (aI ((J2 M).1.far (M.out.1) (by rfl) (by omega) og) (aI ((J3 M).1.far (M.out.1) (by rfl) (by omega) og) (aI ((J4 M).1.only og (by omega)) (aI ((J5 M).1.far (M.out.1) (by rfl) (by omega) og) (aI ((J6 M).1.far (M.out.1) (by rfl) (by omega) og) (aI ((J7 M).1.only og (by omega)) hbw))))))))
       clear hk hbw og hv hz
       refine hK.out _ _ (((J7 M).1.t3 ((J4 M).1.t3 ((HRz.out.keep (J8 M)).c3)))) (fun hH118 => ?_)
       clear hK K hH117
       (try simp only [Act.put, List.setIfInBounds_toArray, List.set_cons_zero, List.set_cons_succ])
       refine tk at22 ?_
       refine wpAnyH_done (by kernel_rfl) ?_ _
       clear hH118
       go_wp2_with fail
       go_meet
       exact ⟨w6.heap.size, w7.heap.size, x_104, x_105, x_106, x_107, x_108, x_109, x_110, x_111, rfl, rfl, rfl, (by omega), (by omega), (J1 M).1, (M.out.1), (J2 M).1, (J3 M).1, (J5 M).1, (J6 M).1, (J7 M).1, (J4 M).1, (J8 M)⟩
      refine AllReadyH.cons at19 (fun K hK => ?_) AllReadyH.nil
      go_simp
      refine nmW (w6.alloc (.cells #[.int .i64 0, .slice none 0 0, .int .i64 0, .slice none 0 0] 38)) fun w7 hv => ?_
      rw [← hv]
      have ow2_ : w3.heap.size < w6.heap.size := ((J2 M).1).lt
      replace M := alM hv M
      clear hv
      refine hK.out _ _ (((J6 M).1.t3 ((J3 M).1.t3 ((HRz.out.keep (J7 M)).c3)))) (fun hH119 => ?_)
      clear hK K hH114
      (try simp only [Act.put, List.setIfInBounds_toArray, List.set_cons_zero, List.set_cons_succ])
      refine wpAnyH_ready (rs := [18]) (by kernel_rfl) (by simp) ?_
      refine AllReadyH.cons at18 (fun K hK => ?_) AllReadyH.nil
      go_simp
      refine nmW (w7.alloc (.cells #[.int .i64 0, .slice none 0 0, .int .i64 0, .slice none 0 0] 38)) fun w8 hv => ?_
      rw [← hv]
      have ow3_ : w6.heap.size < w7.heap.size := ((M.out.1)).lt
      replace M := alM hv M
      clear hv
      refine hK.out _ _ (((J7 M).1.t3 ((J4 M).1.t3 ((HRz.out.keep (J8 M)).c3)))) (fun hH120 => ?_)
      clear hK K hH119
      (try simp only [Act.put, List.setIfInBounds_toArray, List.set_cons_zero, List.set_cons_succ])
      refine wpAnyH_ready (rs := [20]) (by kernel_rfl) (by simp) ?_
      refine AllReadyH.cons at20 (fun K hK => ?_) AllReadyH.nil
      refine cj8 (M.out.1).c4 fun aw ax ay az ba bb bc bd => ?_
      refine cj4 (TQ.st (J2 M).1) fun cy cz da db => ?_
      go_simp
      clear aw ax ay az ba bb bc bd cy cz da db
      have hz : w.heap.size ≤ w7.heap.size := by omega
      refine st4W (x_104) (x_105) (x_106) (x_107) (M.out.1) (J8 M) hz fun w9 hv og hk hbw => ?_
      rw [← hv]
      replace M := Lib.hid (aI hk (aI ((J1 M).1.only og (by omega)) (aI ((J2 M).1.far (M.out.1) (by rfl) (by omega) og) (aI ((J3 M).1.far (M.out.1) (by rfl) (by omega) og) (aI ((J4 M).1.only og (by omega)) (aI ((J5 M).1.far (M.out.1) (by rfl) (by omega) og) (aI ((J6 M).1.far (M.out.1) (by rfl) (by omega) og) (aI ((J7 M).1.only og (by omega)) hbw))))))))
      clear hk hbw og hv hz
      refine hK.out _ _ (((J7 M).1.t3 ((J4 M).1.t3 ((HRz.out.keep (J8 M)).c3)))) (fun hH121 => ?_)
      clear hK K hH120
      (try simp only [Act.put, List.setIfInBounds_toArray, List.set_cons_zero, List.set_cons_succ])
      refine wpAnyH_ready (rs := [21]) (by kernel_rfl) (by simp) ?_
      refine AllReadyH.cons at21 (fun K hK => ?_) AllReadyH.nil
      refine cj8 (J1 M).1.c4 fun ae af ag ah ai aj ak al => ?_
      refine cj4 (TQ.st (J3 M).1) fun dc dd de df => ?_
      go_simp
      clear ae af ag ah ai aj ak al dc dd de df
      have hz : w.heap.size ≤ w6.heap.size := by omega
      refine st4W (x_108) (x_109) (x_110) (x_111) (J1 M).1 (J8 M) hz fun w10 hv og hk hbw => ?_
      rw [← hv]
      replace M := Lib.hid (aI ((M.out.1).only og (by omega)) (aI hk (aI ((J2 M).1.far (J1 M).1 (by rfl) (by omega) og) (aI ((J3 M).1.far (J1 M).1 (by rfl) (by omega) og) (aI ((J4 M).1.only og (by omega)) (aI ((J5 M).1.far (J1 M).1 (by rfl) (by omega) og) (aI ((J6 M).1.far (J1 M).1 (by rfl) (by omega) og) (aI ((J7 M).1.only og (by omega)) hbw))))))))
      clear hk hbw og hv hz
      refine hK.out _ _ (((J7 M).1.t3 ((J4 M).1.t3 ((HRz.out.keep (J8 M)).c3)))) (fun hH122 => ?_)
      clear hK K hH121
      (try simp only [Act.put, List.setIfInBounds_toArray, List.set_cons_zero, List.set_cons_succ])
      refine tk at22 ?_
      refine wpAnyH_done (by kernel_rfl) ?_ _
      clear hH122
      go_wp2_with fail
      go_meet
      exact ⟨w7.heap.size, w6.heap.size, x_104, x_105, x_106, x_107, x_108, x_109, x_110, x_111, rfl, rfl, rfl, (by omega), (by omega), (M.out.1), (J1 M).1, (J2 M).1, (J3 M).1, (J5 M).1, (J6 M).1, (J7 M).1, (J4 M).1, (J8 M)⟩
     refine AllReadyH.cons at18 (fun K hK => ?_) ?_
     ·
      go_simp
      refine nmW (w5.alloc (.cells #[.int .i64 0, .slice none 0 0, .int .i64 0, .slice none 0 0] 38)) fun w6 hv => ?_
      rw [← hv]
      have ow2_ : w3.heap.size < w5.heap.size := ((M.out.1)).lt
      replace M := alM hv M
      clear hv
      refine hK.out _ _ (((J4 M).1.t3 ((J1 M).1.t3 ((HRz.out.keep (J5 M)).c3)))) (fun hH123 => ?_)
      clear hK K hH103
      (try simp only [Act.put, List.setIfInBounds_toArray, List.set_cons_zero, List.set_cons_succ])
      refine wpAnyH_ready (rs := [13, 19]) (by kernel_rfl) (by simp) ?_
      refine AllReadyH.cons at13 (fun K hK => ?_) ?_
      ·
       go_simp
       refine (iv_u (G := G) (sc := zs) (rd := xc) (day := xd) (lo := (some ilo)) (hi := (some ihi)) (b_ := true) (Nat.le_trans hG (J5 M).size) (HC.out.keep (J5 M)) (HQ.out.keep (J5 M)) (by omega) (by omega) (by unfold loO; rw [HIV.out]; rfl) (by unfold hiO; rw [HIV.out]; rfl) (by unfold hasI; rw [HIV.out]; rfl)).mono ?_
       rintro e w7 ⟨x_124, x_125, x_126, x_127, x_128, x_129, x_130, x_131, rfl, hd132, hd133, hb⟩
       replace M := ad2M hd132 hd133 hb M
       clear hb hd132 hd133
       (try go_wp2_with fail)
       refine hK.out _ _ (((J6 M).1.t3 ((J3 M).1.t3 ((HRz.out.keep (J7 M)).c3)))) (fun hH134 => ?_)
       clear hK K hH123
       (try simp only [Act.put, List.setIfInBounds_toArray, List.set_cons_zero, List.set_cons_succ])
       refine tk at14 ?_
       refine tk at15 ?_
       refine tk at16 ?_
       refine tk at17 ?_
       refine wpAnyH_ready (rs := [19]) (by kernel_rfl) (by simp) ?_
       refine AllReadyH.cons at19 (fun K hK => ?_) AllReadyH.nil
       go_simp
       refine nmW (w7.alloc (.cells #[.int .i64 0, .slice none 0 0, .int .i64 0, .slice none 0 0] 38)) fun w8 hv => ?_
       rw [← hv]
       have ow3_ : w5.heap.size < w7.heap.size := ((J2 M).1).lt
       replace M := alM hv M
       clear hv
       refine hK.out _ _ (((J7 M).1.t3 ((J4 M).1.t3 ((HRz.out.keep (J8 M)).c3)))) (fun hH135 => ?_)
       clear hK K hH134
       (try simp only [Act.put, List.setIfInBounds_toArray, List.set_cons_zero, List.set_cons_succ])
       refine wpAnyH_ready (rs := [20]) (by kernel_rfl) (by simp) ?_
       refine AllReadyH.cons at20 (fun K hK => ?_) AllReadyH.nil
       refine cj8 (J3 M).1.c4 fun ae af ag ah ai aj ak al => ?_
       refine cj4 (TQ.st (J1 M).1) fun dg dh di dj => ?_
       go_simp
       clear ae af ag ah ai aj ak al dg dh di dj
       have hz : w.heap.size ≤ w5.heap.size := by omega
       refine st4W (x_124) (x_125) (x_126) (x_127) (J3 M).1 (J8 M) hz fun w9 hv og hk hbw => ?_
       rw [← hv]
       replace M := Lib.hid (aI ((M.out.1).only og (by omega)) (aI ((J1 M).1.far (J3 M).1 (by rfl) (by omega) og) (aI ((J2 M).1.far (J3 M).1 (by rfl) (by omega) og) (aI hk (aI ((J4 M).1.only og (by omega)) (aI ((J5 M).1.far (J3 M).1 (by rfl) (by omega) og) (aI ((J6 M).1.far (J3 M).1 (by rfl) (by omega) og) (aI ((J7 M).1.only og (by omega)) hbw))))))))
       clear hk hbw og hv hz
       refine hK.out _ _ (((J7 M).1.t3 ((J4 M).1.t3 ((HRz.out.keep (J8 M)).c3)))) (fun hH136 => ?_)
       clear hK K hH135
       (try simp only [Act.put, List.setIfInBounds_toArray, List.set_cons_zero, List.set_cons_succ])
       refine wpAnyH_ready (rs := [21]) (by kernel_rfl) (by simp) ?_
       refine AllReadyH.cons at21 (fun K hK => ?_) AllReadyH.nil
       refine cj8 (M.out.1).c4 fun aw ax ay az ba bb bc bd => ?_
       refine cj4 (TQ.st (J2 M).1) fun dk dl dm dn => ?_
       go_simp
       clear aw ax ay az ba bb bc bd dk dl dm dn
       have hz : w.heap.size ≤ w7.heap.size := by omega
       refine st4W (x_128) (x_129) (x_130) (x_131) (M.out.1) (J8 M) hz fun w10 hv og hk hbw => ?_
       rw [← hv]
       replace M := Lib.hid (aI hk (aI ((J1 M).1.far (M.out.1) (by rfl) (by omega) og) (aI ((J2 M).1.far (M.out.1) (by rfl) (by omega) og) (aI ((J3 M).1.only og (by omega)) (aI ((J4 M).1.only og (by omega)) (aI ((J5 M).1.far (M.out.1) (by rfl) (by omega) og) (aI ((J6 M).1.far (M.out.1) (by rfl) (by omega) og) (aI ((J7 M).1.only og (by omega)) hbw))))))))
       clear hk hbw og hv hz
       refine hK.out _ _ (((J7 M).1.t3 ((J4 M).1.t3 ((HRz.out.keep (J8 M)).c3)))) (fun hH137 => ?_)
       clear hK K hH136
       (try simp only [Act.put, List.setIfInBounds_toArray, List.set_cons_zero, List.set_cons_succ])
       refine tk at22 ?_
       refine wpAnyH_done (by kernel_rfl) ?_ _
       clear hH137
       go_wp2_with fail
       go_meet
       exact ⟨w5.heap.size, w7.heap.size, x_124, x_125, x_126, x_127, x_128, x_129, x_130, x_131, rfl, rfl, rfl, (by omega), (by omega), (J3 M).1, (M.out.1), (J1 M).1, (J2 M).1, (J5 M).1, (J6 M).1, (J7 M).1, (J4 M).1, (J8 M)⟩
      refine AllReadyH.cons at19 (fun K hK => ?_) AllReadyH.nil
      go_simp
      refine nmW (w6.alloc (.cells #[.int .i64 0, .slice none 0 0, .int .i64 0, .slice none 0 0] 38)) fun w7 hv => ?_
      rw [← hv]
      have ow3_ : w5.heap.size < w6.heap.size := ((M.out.1)).lt
      replace M := alM hv M
      clear hv
      refine hK.out _ _ (((J5 M).1.t3 ((J2 M).1.t3 ((HRz.out.keep (J6 M)).c3)))) (fun hH138 => ?_)
      clear hK K hH123
      (try simp only [Act.put, List.setIfInBounds_toArray, List.set_cons_zero, List.set_cons_succ])
      refine wpAnyH_ready (rs := [13]) (by kernel_rfl) (by simp) ?_
      refine AllReadyH.cons at13 (fun K hK => ?_) AllReadyH.nil
      go_simp
      refine (iv_u (G := G) (sc := zs) (rd := xc) (day := xd) (lo := (some ilo)) (hi := (some ihi)) (b_ := true) (Nat.le_trans hG (J6 M).size) (HC.out.keep (J6 M)) (HQ.out.keep (J6 M)) (by omega) (by omega) (by unfold loO; rw [HIV.out]; rfl) (by unfold hiO; rw [HIV.out]; rfl) (by unfold hasI; rw [HIV.out]; rfl)).mono ?_
      rintro e w8 ⟨x_139, x_140, x_141, x_142, x_143, x_144, x_145, x_146, rfl, hd147, hd148, hb⟩
      replace M := ad2M hd147 hd148 hb M
      clear hb hd147 hd148
      (try go_wp2_with fail)
      refine hK.out _ _ (((J7 M).1.t3 ((J4 M).1.t3 ((HRz.out.keep (J8 M)).c3)))) (fun hH149 => ?_)
      clear hK K hH138
      (try simp only [Act.put, List.setIfInBounds_toArray, List.set_cons_zero, List.set_cons_succ])
      refine tk at14 ?_
      refine tk at15 ?_
      refine tk at16 ?_
      refine tk at17 ?_
      refine wpAnyH_ready (rs := [20]) (by kernel_rfl) (by simp) ?_
      refine AllReadyH.cons at20 (fun K hK => ?_) AllReadyH.nil
      refine cj8 (J3 M).1.c4 fun ae af ag ah ai aj ak al => ?_
      refine cj4 (TQ.st (M.out.1)) fun dp dq dr ds => ?_
      go_simp
      clear ae af ag ah ai aj ak al dp dq dr ds
      have hz : w.heap.size ≤ w5.heap.size := by omega
      refine st4W (x_139) (x_140) (x_141) (x_142) (J3 M).1 (J8 M) hz fun w9 hv og hk hbw => ?_
      rw [← hv]
      replace M := Lib.hid (aI ((M.out.1).far (J3 M).1 (by rfl) (by omega) og) (aI ((J1 M).1.far (J3 M).1 (by rfl) (by omega) og) (aI ((J2 M).1.only og (by omega)) (aI hk (aI ((J4 M).1.only og (by omega)) (aI ((J5 M).1.far (J3 M).1 (by rfl) (by omega) og) (aI ((J6 M).1.far (J3 M).1 (by rfl) (by omega) og) (aI ((J7 M).1.only og (by omega)) hbw))))))))
      clear hk hbw og hv hz
      refine hK.out _ _ (((J7 M).1.t3 ((J4 M).1.t3 ((HRz.out.keep (J8 M)).c3)))) (fun hH150 => ?_)
      clear hK K hH149
      (try simp only [Act.put, List.setIfInBounds_toArray, List.set_cons_zero, List.set_cons_succ])
      refine wpAnyH_ready (rs := [21]) (by kernel_rfl) (by simp) ?_
      refine AllReadyH.cons at21 (fun K hK => ?_) AllReadyH.nil
      refine cj8 (J2 M).1.c4 fun aw ax ay az ba bb bc bd => ?_
      refine cj4 (TQ.st (J1 M).1) fun dt du dv dw => ?_
      go_simp
      clear aw ax ay az ba bb bc bd dt du dv dw
      have hz : w.heap.size ≤ w6.heap.size := by omega
      refine st4W (x_143) (x_144) (x_145) (x_146) (J2 M).1 (J8 M) hz fun w10 hv og hk hbw => ?_
      rw [← hv]
      replace M := Lib.hid (aI ((M.out.1).far (J2 M).1 (by rfl) (by omega) og) (aI ((J1 M).1.far (J2 M).1 (by rfl) (by omega) og) (aI hk (aI ((J3 M).1.only og (by omega)) (aI ((J4 M).1.only og (by omega)) (aI ((J5 M).1.far (J2 M).1 (by rfl) (by omega) og) (aI ((J6 M).1.far (J2 M).1 (by rfl) (by omega) og) (aI ((J7 M).1.only og (by omega)) hbw))))))))
      clear hk hbw og hv hz
      refine hK.out _ _ (((J7 M).1.t3 ((J4 M).1.t3 ((HRz.out.keep (J8 M)).c3)))) (fun hH151 => ?_)
      clear hK K hH150
      (try simp only [Act.put, List.setIfInBounds_toArray, List.set_cons_zero, List.set_cons_succ])
      refine tk at22 ?_
      refine wpAnyH_done (by kernel_rfl) ?_ _
      clear hH151
      go_wp2_with fail
      go_meet
      exact ⟨w5.heap.size, w6.heap.size, x_139, x_140, x_141, x_142, x_143, x_144, x_145, x_146, rfl, rfl, rfl, (by omega), (by omega), (J3 M).1, (J2 M).1, (M.out.1), (J1 M).1, (J5 M).1, (J6 M).1, (J7 M).1, (J4 M).1, (J8 M)⟩
     refine AllReadyH.cons at19 (fun K hK => ?_) AllReadyH.nil
     go_simp
     refine nmW (w5.alloc (.cells #[.int .i64 0, .slice none 0 0, .int .i64 0, .slice none 0 0] 38)) fun w6 hv => ?_
     rw [← hv]
     have ow2_ : w3.heap.size < w5.heap.size := ((M.out.1)).lt
     replace M := alM hv M
     clear hv
     refine hK.out _ _ (((J4 M).1.t3 ((J1 M).1.t3 ((HRz.out.keep (J5 M)).c3)))) (fun hH152 => ?_)
     clear hK K hH103
     (try simp only [Act.put, List.setIfInBounds_toArray, List.set_cons_zero, List.set_cons_succ])
     refine wpAnyH_ready (rs := [13, 18]) (by kernel_rfl) (by simp) ?_
     refine AllReadyH.cons at13 (fun K hK => ?_) ?_
     ·
      go_simp
      refine (iv_u (G := G) (sc := zs) (rd := xc) (day := xd) (lo := (some ilo)) (hi := (some ihi)) (b_ := true) (Nat.le_trans hG (J5 M).size) (HC.out.keep (J5 M)) (HQ.out.keep (J5 M)) (by omega) (by omega) (by unfold loO; rw [HIV.out]; rfl) (by unfold hiO; rw [HIV.out]; rfl) (by unfold hasI; rw [HIV.out]; rfl)).mono ?_
      rintro e w7 ⟨x_153, x_154, x_155, x_156, x_157, x_158, x_159, x_160, rfl, hd161, hd162, hb⟩
      replace M := ad2M hd161 hd162 hb M
      clear hb hd161 hd162
      (try go_wp2_with fail)
      refine hK.out _ _ (((J6 M).1.t3 ((J3 M).1.t3 ((HRz.out.keep (J7 M)).c3)))) (fun hH163 => ?_)
      clear hK K hH152
      (try simp only [Act.put, List.setIfInBounds_toArray, List.set_cons_zero, List.set_cons_succ])
      refine tk at14 ?_
      refine tk at15 ?_
      refine tk at16 ?_
      refine tk at17 ?_
      refine wpAnyH_ready (rs := [18]) (by kernel_rfl) (by simp) ?_
      refine AllReadyH.cons at18 (fun K hK => ?_) AllReadyH.nil
      go_simp
      refine nmW (w7.alloc (.cells #[.int .i64 0, .slice none 0 0, .int .i64 0, .slice none 0 0] 38)) fun w8 hv => ?_
      rw [← hv]
      have ow3_ : w5.heap.size < w7.heap.size := ((J2 M).1).lt
      replace M := alM hv M
      clear hv
      refine hK.out _ _ (((J7 M).1.t3 ((J4 M).1.t3 ((HRz.out.keep (J8 M)).c3)))) (fun hH164 => ?_)
      clear hK K hH163
      (try simp only [Act.put, List.setIfInBounds_toArray, List.set_cons_zero, List.set_cons_succ])
      refine wpAnyH_ready (rs := [20]) (by kernel_rfl) (by simp) ?_
      refine AllReadyH.cons at20 (fun K hK => ?_) AllReadyH.nil
      refine cj8 (M.out.1).c4 fun aw ax ay az ba bb bc bd => ?_
      refine cj4 (TQ.st (J1 M).1) fun dx dy dz ea => ?_
      go_simp
      clear aw ax ay az ba bb bc bd dx dy dz ea
      have hz : w.heap.size ≤ w7.heap.size := by omega
      refine st4W (x_153) (x_154) (x_155) (x_156) (M.out.1) (J8 M) hz fun w9 hv og hk hbw => ?_
      rw [← hv]
      replace M := Lib.hid (aI hk (aI ((J1 M).1.far (M.out.1) (by rfl) (by omega) og) (aI ((J2 M).1.far (M.out.1) (by rfl) (by omega) og) (aI ((J3 M).1.only og (by omega)) (aI ((J4 M).1.only og (by omega)) (aI ((J5 M).1.far (M.out.1) (by rfl) (by omega) og) (aI ((J6 M).1.far (M.out.1) (by rfl) (by omega) og) (aI ((J7 M).1.only og (by omega)) hbw))))))))
      clear hk hbw og hv hz
      refine hK.out _ _ (((J7 M).1.t3 ((J4 M).1.t3 ((HRz.out.keep (J8 M)).c3)))) (fun hH165 => ?_)
      clear hK K hH164
      (try simp only [Act.put, List.setIfInBounds_toArray, List.set_cons_zero, List.set_cons_succ])
      refine wpAnyH_ready (rs := [21]) (by kernel_rfl) (by simp) ?_
      refine AllReadyH.cons at21 (fun K hK => ?_) AllReadyH.nil
      refine cj8 (J3 M).1.c4 fun ae af ag ah ai aj ak al => ?_
      refine cj4 (TQ.st (J2 M).1) fun eb ec ed ee => ?_
      go_simp
      clear ae af ag ah ai aj ak al eb ec ed ee
      have hz : w.heap.size ≤ w5.heap.size := by omega
      refine st4W (x_157) (x_158) (x_159) (x_160) (J3 M).1 (J8 M) hz fun w10 hv og hk hbw => ?_
      rw [← hv]
      replace M := Lib.hid (aI ((M.out.1).only og (by omega)) (aI ((J1 M).1.far (J3 M).1 (by rfl) (by omega) og) (aI ((J2 M).1.far (J3 M).1 (by rfl) (by omega) og) (aI hk (aI ((J4 M).1.only og (by omega)) (aI ((J5 M).1.far (J3 M).1 (by rfl) (by omega) og) (aI ((J6 M).1.far (J3 M).1 (by rfl) (by omega) og) (aI ((J7 M).1.only og (by omega)) hbw))))))))
      clear hk hbw og hv hz
      refine hK.out _ _ (((J7 M).1.t3 ((J4 M).1.t3 ((HRz.out.keep (J8 M)).c3)))) (fun hH166 => ?_)
      clear hK K hH165
      (try simp only [Act.put, List.setIfInBounds_toArray, List.set_cons_zero, List.set_cons_succ])
      refine tk at22 ?_
      refine wpAnyH_done (by kernel_rfl) ?_ _
      clear hH166
      go_wp2_with fail
      go_meet
      exact ⟨w7.heap.size, w5.heap.size, x_153, x_154, x_155, x_156, x_157, x_158, x_159, x_160, rfl, rfl, rfl, (by omega), (by omega), (M.out.1), (J3 M).1, (J1 M).1, (J2 M).1, (J5 M).1, (J6 M).1, (J7 M).1, (J4 M).1, (J8 M)⟩
     refine AllReadyH.cons at18 (fun K hK => ?_) AllReadyH.nil
     go_simp
     refine nmW (w6.alloc (.cells #[.int .i64 0, .slice none 0 0, .int .i64 0, .slice none 0 0] 38)) fun w7 hv => ?_
     rw [← hv]
     have ow3_ : w5.heap.size < w6.heap.size := ((M.out.1)).lt
     replace M := alM hv M
     clear hv
     refine hK.out _ _ (((J5 M).1.t3 ((J2 M).1.t3 ((HRz.out.keep (J6 M)).c3)))) (fun hH167 => ?_)
     clear hK K hH152
     (try simp only [Act.put, List.setIfInBounds_toArray, List.set_cons_zero, List.set_cons_succ])
     refine wpAnyH_ready (rs := [13]) (by kernel_rfl) (by simp) ?_
     refine AllReadyH.cons at13 (fun K hK => ?_) AllReadyH.nil
     go_simp
     refine (iv_u (G := G) (sc := zs) (rd := xc) (day := xd) (lo := (some ilo)) (hi := (some ihi)) (b_ := true) (Nat.le_trans hG (J6 M).size) (HC.out.keep (J6 M)) (HQ.out.keep (J6 M)) (by omega) (by omega) (by unfold loO; rw [HIV.out]; rfl) (by unfold hiO; rw [HIV.out]; rfl) (by unfold hasI; rw [HIV.out]; rfl)).mono ?_
     rintro e w8 ⟨x_168, x_169, x_170, x_171, x_172, x_173, x_174, x_175, rfl, hd176, hd177, hb⟩
     replace M := ad2M hd176 hd177 hb M
     clear hb hd176 hd177
     (try go_wp2_with fail)
     refine hK.out _ _ (((J7 M).1.t3 ((J4 M).1.t3 ((HRz.out.keep (J8 M)).c3)))) (fun hH178 => ?_)
     clear hK K hH167
     (try simp only [Act.put, List.setIfInBounds_toArray, List.set_cons_zero, List.set_cons_succ])
     refine tk at14 ?_
     refine tk at15 ?_
     refine tk at16 ?_
     refine tk at17 ?_
     refine wpAnyH_ready (rs := [20]) (by kernel_rfl) (by simp) ?_
     refine AllReadyH.cons at20 (fun K hK => ?_) AllReadyH.nil
     refine cj8 (J2 M).1.c4 fun aw ax ay az ba bb bc bd => ?_
     refine cj4 (TQ.st (M.out.1)) fun ef eg eh ei => ?_
     go_simp
     clear aw ax ay az ba bb bc bd ef eg eh ei
     have hz : w.heap.size ≤ w6.heap.size := by omega
     refine st4W (x_168) (x_169) (x_170) (x_171) (J2 M).1 (J8 M) hz fun w9 hv og hk hbw => ?_
     rw [← hv]
     replace M := Lib.hid (aI ((M.out.1).far (J2 M).1 (by rfl) (by omega) og) (aI ((J1 M).1.far (J2 M).1 (by rfl) (by omega) og) (aI hk (aI ((J3 M).1.only og (by omega)) (aI ((J4 M).1.only og (by omega)) (aI ((J5 M).1.far (J2 M).1 (by rfl) (by omega) og) (aI ((J6 M).1.far (J2 M).1 (by rfl) (by omega) og) (aI ((J7 M).1.only og (by omega)) hbw))))))))
     clear hk hbw og hv hz
     refine hK.out _ _ (((J7 M).1.t3 ((J4 M).1.t3 ((HRz.out.keep (J8 M)).c3)))) (fun hH179 => ?_)
     clear hK K hH178
     (try simp only [Act.put, List.setIfInBounds_toArray, List.set_cons_zero, List.set_cons_succ])
     refine wpAnyH_ready (rs := [21]) (by kernel_rfl) (by simp) ?_
     refine AllReadyH.cons at21 (fun K hK => ?_) AllReadyH.nil
     refine cj8 (J3 M).1.c4 fun ae af ag ah ai aj ak al => ?_
     refine cj4 (TQ.st (J1 M).1) fun ej ek el em => ?_
     go_simp
     clear ae af ag ah ai aj ak al ej ek el em
     have hz : w.heap.size ≤ w5.heap.size := by omega
     refine st4W (x_172) (x_173) (x_174) (x_175) (J3 M).1 (J8 M) hz fun w10 hv og hk hbw => ?_
     rw [← hv]
     replace M := Lib.hid (aI ((M.out.1).far (J3 M).1 (by rfl) (by omega) og) (aI ((J1 M).1.far (J3 M).1 (by rfl) (by omega) og) (aI ((J2 M).1.only og (by omega)) (aI hk (aI ((J4 M).1.only og (by omega)) (aI ((J5 M).1.far (J3 M).1 (by rfl) (by omega) og) (aI ((J6 M).1.far (J3 M).1 (by rfl) (by omega) og) (aI ((J7 M).1.only og (by omega)) hbw))))))))
     clear hk hbw og hv hz
     refine hK.out _ _ (((J7 M).1.t3 ((J4 M).1.t3 ((HRz.out.keep (J8 M)).c3)))) (fun hH180 => ?_)
     clear hK K hH179
     (try simp only [Act.put, List.setIfInBounds_toArray, List.set_cons_zero, List.set_cons_succ])
     refine tk at22 ?_
     refine wpAnyH_done (by kernel_rfl) ?_ _
     clear hH180
     go_wp2_with fail
     go_meet
     exact ⟨w6.heap.size, w5.heap.size, x_168, x_169, x_170, x_171, x_172, x_173, x_174, x_175, rfl, rfl, rfl, (by omega), (by omega), (J2 M).1, (J3 M).1, (M.out.1), (J1 M).1, (J5 M).1, (J6 M).1, (J7 M).1, (J4 M).1, (J8 M)⟩
    case rest =>
     obtain ⟨A101, A102, x_91, x_92, x_93, x_94, x_95, x_96, x_97, x_98, rfl, rfl, rfl, oA101, oA102, M⟩ := hcut
     obtain ⟨w5, rfl⟩ : ∃ w_ : World, w_ = wc := ⟨_, rfl⟩
     go_upto_region 7 with fail
     obtain ⟨xv, hxv_⟩ : ∃ x, hs[q]? = some x := ⟨hs[q]'(by have := HHL.out; omega), List.getElem?_eq_getElem _⟩
     obtain ⟨lq, hlq_⟩ : ∃ l, ls[q]? = some l := ⟨ls[q]'(by have h_ := HHL.out; have h2_ := ((J5 M).1).len; omega), List.getElem?_eq_getElem _⟩
     obtain ⟨vq⟩ := xv
     obtain ⟨aq_, cq_, hvq_, -⟩ := OwV.rdl (((J5 M).1).own q _ _ hxv_ hlq_) rfl
     have hvq2_ : vq = .slice aq_ lq.length cq_ := hvq_
     subst hvq2_
     have hlk_ : lq.length ≤ k := (HMO.out q lq hlq_).2.1
     obtain ⟨P_, R_, hbo_, hcl_⟩ := OwB.openH (J4 M).1 hxv_
     have HXV := Lib.hid hxv_; have HLQ := Lib.hid hlq_; have HCL := Lib.hid hcl_; clear hxv_ hlq_ hcl_ hvq_
     replace M := Lib.hid (aI (show Bo w5 w1.heap.size q P_ R_ 75 [.slice aq_ lq.length cq_] from hbo_) (aI (M.out.1) (aI (J1 M).1 (aI (J2 M).1 (aI (J3 M).1 (aI (J5 M).1 (aI (J6 M).1 (aI (J7 M).1 (J8 M)))))))))
     clear hbo_
     go_wp2_with fail
     refine nmW w5.drew fun w6 hv => ?_
     replace M := drM hv M
     refine wp_region_held_drew (S := (fun w' => w'.cell? ⟨w3.heap.size, 0, none⟩ = some (.int .i64 (q : Int)) ∧ w'.cell? ⟨w3.heap.size, 1, none⟩ = some (.int .i64 xd) ∧ w'.cell? ⟨w3.heap.size, 2, none⟩ = some (.int .i64 xc) ∧ w'.cell? ⟨A101, 0, none⟩ = some (x_91) ∧ w'.cell? ⟨A101, 1, none⟩ = some (x_92) ∧ w'.cell? ⟨A101, 2, none⟩ = some (x_93) ∧ w'.cell? ⟨A101, 3, none⟩ = some (x_94) ∧ w'.cell? ⟨A102, 0, none⟩ = some (x_95) ∧ w'.cell? ⟨A102, 1, none⟩ = some (x_96) ∧ w'.cell? ⟨A102, 2, none⟩ = some (x_97) ∧ w'.cell? ⟨A102, 3, none⟩ = some (x_98))) (by kernel_rfl) (by rw [← hv]; exact ((J7 M).1.t3 ((J1 M).1.t4 ((J2 M).1.d4)))) (fun hH181 => ?_)
     rw [← hv] at hH181 ⊢
     clear hv
     refine tk at0 ?_
     refine tk at1 ?_
     refine tk at2 ?_
     refine tk at3 ?_
     refine tk at4 ?_
     refine tk at5 ?_
     refine tk at6 ?_
     refine tk at8 ?_
     refine tk at9 ?_
     refine tk at10 ?_
     refine tk at11 ?_
     refine tk at12 ?_
     refine wpAnyH_ready (rs := [7, 13]) (by kernel_rfl) (by simp) ?_
     refine AllReadyH.cons at7 (fun K hK => ?_) ?_
     ·
      have en := (M.out.1).d1
      go_simp
      clear en
      refine hK.out _ _ (((J7 M).1.t3 ((J1 M).1.t4 ((J2 M).1.d4)))) (fun hH182 => ?_)
      clear hK K hH181
      (try simp only [Act.put, List.setIfInBounds_toArray, List.set_cons_zero, List.set_cons_succ])
      refine wpAnyH_ready (rs := [13]) (by kernel_rfl) (by simp) ?_
      refine AllReadyH.cons at13 (fun K hK => ?_) AllReadyH.nil
      go_simp
      refine nmW (w6.alloc (.cells #[.int .i64 xd, x_91, x_92, x_93, x_94, x_95, x_96, x_97, x_98] 97)) fun w7 hv => ?_
      rw [← hv]
      have ow5_ : A102 < w6.heap.size := ((J2 M).1).lt
      replace M := alM hv M
      clear hv
      refine hK.out _ _ (((J8 M).1.t3 ((J2 M).1.t4 ((J3 M).1.d4)))) (fun hH183 => ?_)
      clear hK K hH182
      (try simp only [Act.put, List.setIfInBounds_toArray, List.set_cons_zero, List.set_cons_succ])
      refine wpAnyH_ready (rs := [14]) (by kernel_rfl) (by simp) ?_
      refine AllReadyH.cons at14 (fun K hK => ?_) AllReadyH.nil
      rw [if_pos (by rfl)]
      refine wp_push_atM (RwsM.own (J6 M).1 q _ _ HXV.out HLQ.out) rfl elemMk (⟨xd, x_91, x_92, x_93, x_94, ilo, x_95, x_96, x_97, x_98, ihi⟩ : MkC) (M.out.1) rfl ⟨(J4 M).1, (J5 M).1⟩ (by rfl) (by omega) (by omega) (Nat.le_of_lt ((J1 M).1).lt) rfl rfl rfl (fun vv_184 w8 ho_ hg_ hv_ => ?_)
      have hM_ := Lib.hid (aI ((J1 M).1.grownT (RwsM.own (J6 M).1 q _ _ HXV.out HLQ.out).own (by rfl) hg_) (aI ((J2 M).1.grownT (RwsM.own (J6 M).1 q _ _ HXV.out HLQ.out).own (by rfl) hg_) (aI ((J3 M).1.grownT (RwsM.own (J6 M).1 q _ _ HXV.out HLQ.out).own (by rfl) hg_) (aI ((J4 M).1.grown (RwsM.own (J6 M).1 q _ _ HXV.out HLQ.out).own (by rfl) (J6 M).1.leG hg_) (aI ((J5 M).1.grown (RwsM.own (J6 M).1 q _ _ HXV.out HLQ.out).own (by rfl) (J6 M).1.leG hg_) (aI (RwsM.push (J6 M).1 HXV.out HLQ.out ho_ hg_ hv_) (aI ((J7 M).1.grownT (RwsM.own (J6 M).1 q _ _ HXV.out HLQ.out).own (by rfl) hg_) (aI ((J8 M).1.grownT (RwsM.own (J6 M).1 q _ _ HXV.out HLQ.out).own (by rfl) hg_) (below_grown (J9 M) (RwsM.own (J6 M).1 q _ _ HXV.out HLQ.out).own (by omega) (J9 M).size hg_)))))))))
      obtain ⟨an_vv_184, cn_vv_184, hvn_, -⟩ := OwV.rdl ho_ (show _ = lq.length + 1 by simp)
      subst hvn_
      replace M := hM_
      clear hM_ ho_ hg_ hv_
      refine hK.out _ _ (((J7 M).1.t3 ((J1 M).1.t4 ((J2 M).1.d4)))) (fun hH185 => ?_)
      clear hK K hH183
      (try simp only [Act.put, List.setIfInBounds_toArray, List.set_cons_zero, List.set_cons_succ])
      refine tk at15 ?_
      refine wpAnyH_ready (rs := [16]) (by kernel_rfl) (by simp) ?_
      refine AllReadyH.cons at16 (fun K hK => ?_) AllReadyH.nil
      refine cj2 (M.out.1).c1 fun en eo => ?_
      go_simp
      clear en eo
      refine nmW (w8.setCell ⟨w1.heap.size, q, none⟩ (.slice an_vv_184 (lq.length + 1) cn_vv_184)) fun w9 hv => ?_
      rw [← hv]
      have og : w8.grownBy w9 (some w1.heap.size) := by rw [hv]; exact (only_setCell (World.grownBy.refl _ _) _)
      have hz : w.heap.size ≤ w1.heap.size := by omega
      have hk : Bo w9 w1.heap.size q P_ R_ 75 [.slice an_vv_184 (lq.length + 1) cn_vv_184] := by rw [hv]; exact ((M.out.1).set 0 (show 0 < 1 by omega) _)
      have hbw : Below w.heap.size w w9 := by rw [hv]; exact (Below.setCell (J8 M) (by omega) _)
      replace M := Lib.hid (aI hk (aI ((J1 M).1.only og (Bx.ne_ty (J1 M).1 (M.out.1).bx (by rfl))) (aI ((J2 M).1.only og (Bx.ne_ty (J2 M).1 (M.out.1).bx (by rfl))) (aI ((J3 M).1.far (M.out.1).bx (by rfl) (by omega) og) (aI ((J4 M).1.far (M.out.1).bx (by rfl) (by omega) og) (aI ((J5 M).1.far (M.out.1).bx (by rfl) (by omega) og) (aI ((J6 M).1.only og (Bx.ne_ty (J6 M).1 (M.out.1).bx (by rfl))) (aI ((J7 M).1.only og (Bx.ne_ty (J7 M).1 (M.out.1).bx (by rfl))) hbw))))))))
      clear hk hbw og hv hz
      refine hK.out _ _ (((J7 M).1.t3 ((J1 M).1.t4 ((J2 M).1.d4)))) (fun hH186 => ?_)
      clear hK K hH185
      (try simp only [Act.put, List.setIfInBounds_toArray, List.set_cons_zero, List.set_cons_succ])
      refine wpAnyH_done (by kernel_rfl) ?_ _
      clear hH186
      go_wp2_with fail
      go_roundw
      case rel => exact ⟨(k + 1), (hs.set q ⟨.slice an_vv_184 (lq.length + 1) cn_vv_184⟩), (ls.set q (lq ++ [(⟨xd, x_91, x_92, x_93, x_94, ilo, x_95, x_96, x_97, x_98, ihi⟩ : MkC)])), by go_num, (by show _ ≤ _; omega), (Lib.hid (by rw [List.length_set]; exact HHL.out)), (Lib.hid (MksOk.yes HMO.out HEx.out HEz.out HIV.out rfl ⟨HZl.out.mono (by omega), HZh.out.mono (by omega)⟩ HLQ.out)), Lib.hid (aI (HCL.out _ _ (M.out.1) rfl) (aI (J5 M).1 (aI (J6 M).1 (J8 M))))⟩
      case measure => simp [RowKit.intOf] <;> omega
     refine AllReadyH.cons at13 (fun K hK => ?_) AllReadyH.nil
     go_simp
     refine nmW (w6.alloc (.cells #[.int .i64 xd, x_91, x_92, x_93, x_94, x_95, x_96, x_97, x_98] 97)) fun w7 hv => ?_
     rw [← hv]
     have ow5_ : A102 < w6.heap.size := ((J2 M).1).lt
     replace M := alM hv M
     clear hv
     refine hK.out _ _ (((J8 M).1.t3 ((J2 M).1.t4 ((J3 M).1.d4)))) (fun hH187 => ?_)
     clear hK K hH181
     (try simp only [Act.put, List.setIfInBounds_toArray, List.set_cons_zero, List.set_cons_succ])
     refine wpAnyH_ready (rs := [7]) (by kernel_rfl) (by simp) ?_
     refine AllReadyH.cons at7 (fun K hK => ?_) AllReadyH.nil
     have en := (J1 M).1.d1
     go_simp
     clear en
     refine hK.out _ _ (((J8 M).1.t3 ((J2 M).1.t4 ((J3 M).1.d4)))) (fun hH188 => ?_)
     clear hK K hH187
     (try simp only [Act.put, List.setIfInBounds_toArray, List.set_cons_zero, List.set_cons_succ])
     refine wpAnyH_ready (rs := [14]) (by kernel_rfl) (by simp) ?_
     refine AllReadyH.cons at14 (fun K hK => ?_) AllReadyH.nil
     rw [if_pos (by rfl)]
     refine wp_push_atM (RwsM.own (J6 M).1 q _ _ HXV.out HLQ.out) rfl elemMk (⟨xd, x_91, x_92, x_93, x_94, ilo, x_95, x_96, x_97, x_98, ihi⟩ : MkC) (M.out.1) rfl ⟨(J4 M).1, (J5 M).1⟩ (by rfl) (by omega) (by omega) (Nat.le_of_lt ((J1 M).1).lt) rfl rfl rfl (fun vv_189 w8 ho_ hg_ hv_ => ?_)
     have hM_ := Lib.hid (aI ((J1 M).1.grownT (RwsM.own (J6 M).1 q _ _ HXV.out HLQ.out).own (by rfl) hg_) (aI ((J2 M).1.grownT (RwsM.own (J6 M).1 q _ _ HXV.out HLQ.out).own (by rfl) hg_) (aI ((J3 M).1.grownT (RwsM.own (J6 M).1 q _ _ HXV.out HLQ.out).own (by rfl) hg_) (aI ((J4 M).1.grown (RwsM.own (J6 M).1 q _ _ HXV.out HLQ.out).own (by rfl) (J6 M).1.leG hg_) (aI ((J5 M).1.grown (RwsM.own (J6 M).1 q _ _ HXV.out HLQ.out).own (by rfl) (J6 M).1.leG hg_) (aI (RwsM.push (J6 M).1 HXV.out HLQ.out ho_ hg_ hv_) (aI ((J7 M).1.grownT (RwsM.own (J6 M).1 q _ _ HXV.out HLQ.out).own (by rfl) hg_) (aI ((J8 M).1.grownT (RwsM.own (J6 M).1 q _ _ HXV.out HLQ.out).own (by rfl) hg_) (below_grown (J9 M) (RwsM.own (J6 M).1 q _ _ HXV.out HLQ.out).own (by omega) (J9 M).size hg_)))))))))
     obtain ⟨an_vv_189, cn_vv_189, hvn_, -⟩ := OwV.rdl ho_ (show _ = lq.length + 1 by simp)
     subst hvn_
     replace M := hM_
     clear hM_ ho_ hg_ hv_
     refine hK.out _ _ (((J7 M).1.t3 ((J1 M).1.t4 ((J2 M).1.d4)))) (fun hH190 => ?_)
     clear hK K hH188
     (try simp only [Act.put, List.setIfInBounds_toArray, List.set_cons_zero, List.set_cons_succ])
     refine tk at15 ?_
     refine wpAnyH_ready (rs := [16]) (by kernel_rfl) (by simp) ?_
     refine AllReadyH.cons at16 (fun K hK => ?_) AllReadyH.nil
     refine cj2 (M.out.1).c1 fun en eo => ?_
     go_simp
     clear en eo
     refine nmW (w8.setCell ⟨w1.heap.size, q, none⟩ (.slice an_vv_189 (lq.length + 1) cn_vv_189)) fun w9 hv => ?_
     rw [← hv]
     have og : w8.grownBy w9 (some w1.heap.size) := by rw [hv]; exact (only_setCell (World.grownBy.refl _ _) _)
     have hz : w.heap.size ≤ w1.heap.size := by omega
     have hk : Bo w9 w1.heap.size q P_ R_ 75 [.slice an_vv_189 (lq.length + 1) cn_vv_189] := by rw [hv]; exact ((M.out.1).set 0 (show 0 < 1 by omega) _)
     have hbw : Below w.heap.size w w9 := by rw [hv]; exact (Below.setCell (J8 M) (by omega) _)
     replace M := Lib.hid (aI hk (aI ((J1 M).1.only og (Bx.ne_ty (J1 M).1 (M.out.1).bx (by rfl))) (aI ((J2 M).1.only og (Bx.ne_ty (J2 M).1 (M.out.1).bx (by rfl))) (aI ((J3 M).1.far (M.out.1).bx (by rfl) (by omega) og) (aI ((J4 M).1.far (M.out.1).bx (by rfl) (by omega) og) (aI ((J5 M).1.far (M.out.1).bx (by rfl) (by omega) og) (aI ((J6 M).1.only og (Bx.ne_ty (J6 M).1 (M.out.1).bx (by rfl))) (aI ((J7 M).1.only og (Bx.ne_ty (J7 M).1 (M.out.1).bx (by rfl))) hbw))))))))
     clear hk hbw og hv hz
     refine hK.out _ _ (((J7 M).1.t3 ((J1 M).1.t4 ((J2 M).1.d4)))) (fun hH191 => ?_)
     clear hK K hH190
     (try simp only [Act.put, List.setIfInBounds_toArray, List.set_cons_zero, List.set_cons_succ])
     refine wpAnyH_done (by kernel_rfl) ?_ _
     clear hH191
     go_wp2_with fail
     go_roundw
     case rel => exact ⟨(k + 1), (hs.set q ⟨.slice an_vv_189 (lq.length + 1) cn_vv_189⟩), (ls.set q (lq ++ [(⟨xd, x_91, x_92, x_93, x_94, ilo, x_95, x_96, x_97, x_98, ihi⟩ : MkC)])), by go_num, (by show _ ≤ _; omega), (Lib.hid (by rw [List.length_set]; exact HHL.out)), (Lib.hid (MksOk.yes HMO.out HEx.out HEz.out HIV.out rfl ⟨HZl.out.mono (by omega), HZh.out.mono (by omega)⟩ HLQ.out)), Lib.hid (aI (HCL.out _ _ (M.out.1) rfl) (aI (J5 M).1 (aI (J6 M).1 (J8 M))))⟩
     case measure => simp [RowKit.intOf] <;> omega
  ·
   have e1_0 : decide (k < nr) = false := decide_eq_false (by omega)
   have e1_1 : decide ((k : Int) < (nr : Int)) = false := decide_eq_false (by omega)
   have e1_i : ¬ (k : Int) < (nr : Int) := by omega
   have HKN : Hid (rs.length = k) := by show _ = _; have := HR.out.len; omega
   go_wp2_with fail
   obtain ⟨L, hL1_, hL2_, hL3_⟩ := marks_end (n := nn) (M.out.1) (J1 M).1 HHL.out (by rw [HKN.out]; exact HMO.out)
   go_ret
   exact ⟨_, rfl, L, hL1_, hL2_, hL3_, (J3 M)⟩
end Go.Proofs.Ytlcgckelamhnpaa
