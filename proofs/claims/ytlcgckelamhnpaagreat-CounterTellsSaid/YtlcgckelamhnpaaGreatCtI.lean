/- Stations: what Between returns. -/
import Derived.Test.YtlcgckelamhnpaaGreatCtD
import Derived.Test.YtlcgckelamhnpaaGreatCtF
import Derived.Test.YtlcgckelamhnpaaGreatScaleP
set_option maxRecDepth 100000
set_option maxHeartbeats 4000000
namespace Go.Proofs.YtlcgckelamhnpaaGreat
open Go.RowKit Go.Lib
variable {G : Nat}
def possL (l : List MkC) : Bool := possB (l.map MkC.mk')
def LenL (l : List HdM) (n : Nat) : Prop := ∀ x ∈ l, x.l.length ≤ n
def MkZL (l : List HdM) (n : Nat) : Prop := ∀ x ∈ l, MkZ x.l n
theorem all_next {α : Type} {p : α → Bool} {l : List α} {k : Nat} {x : α} (hx : l[k]? = some x) (h : (l.take k).all p = true) (h1 : p x = true) : (l.take (k + 1)).all p = true := by
 rw [take_snoc_at hx, List.all_append, h]; simp [h1]
theorem all_no {α : Type} {p : α → Bool} {l : List α} {k : Nat} {x : α} (hx : l[k]? = some x) (h1 : p x = false) : l.all p = false := by
 rw [List.all_eq_false]; exact ⟨x, List.mem_of_getElem? hx, by rw [h1]; simp⟩
def markB (l : List MkC) (y : MkC) : Bool := match mostO (l.map MkC.mk') y.d with | none => true | some h => !decide (h < leastQ (l.map MkC.mk') y.d)
theorem possL_all (l : List MkC) : possL l = l.all (markB l) := by
 unfold possL possB; rw [List.all_map]; rfl
theorem most_at {l : List MkC} {k : Nat} {x : MkC} (h : l[k]? = some x) : ∃ o, mostO (l.map MkC.mk') x.d = some o := by
 have h1 := most_some (l := l.map MkC.mk') (day := x.d) |>.2 ⟨x.mk', List.mem_map.2 ⟨x, List.mem_of_getElem? h, rfl⟩, Int.le_refl _⟩
 cases e : mostO (l.map MkC.mk') x.d with
 | none => rw [e] at h1; cases h1
 | some o => exact ⟨o, rfl⟩
theorem ctPossible {l : List HdM} {a : Option Addr} {n c : Nat} {b_ : Bool} {w : World} (hG : G ≤ w.heap.size) (h : RdH G w a n c l) (_hn : n ≤ 1000) (hz : MkZL l 60) (hl : LenL l 1000) (hb : l.all (fun x => possL x.l) = b_) :
 Calls Tryz.prog 29 #[.slice a n c] w fun e w' => e = .returned (.bool b_) ∧ Below w.heap.size w w' := by
 have HZ := hI hz; have HLN := hI hl; have HB := hI hb; clear hz hl hb; have HL : Hid (RdH G w a n c l) := h; clear h; have M : Hid (Below w.heap.size w w) := Below.refl _ _; go_enter Tryz.func29, Tryz.ntmps29
 go_wp2_with fail
 go_loopw [11] (fun i11 wr => ∃ (k : Nat), i11 = .int .i64 (k : Int) ∧ Hid (k ≤ n) ∧ Hid ((l.take k).all (fun x => possL x.l) = true) ∧ Hid (Below w.heap.size w wr)) (fun i11 _ => n - (RowKit.intOf i11).toNat)
 case atStart =>
  exact ⟨0, rfl, (by show _ ≤ _; omega), (hI rfl), hI M.out⟩
 case round =>
  obtain ⟨w1, rfl⟩ : ∃ x, x = wr := ⟨_, rfl⟩; clear M; obtain ⟨k, rfl, hk, HA, M⟩ := hrel; have hk := hk.out
  by_cases hlt : k < n
  ·
   refine ltW (show k < n by omega) fun e1_0 e1_1 e1_i => ?_; obtain ⟨b, off, rfl, hb_⟩ := RdL.ptr HL.out (by omega : 0 < n); have hkl_ : k < l.length := by rw [HL.out.len]; exact hlt
   obtain ⟨x_, hx_⟩ : ∃ x, l[k]? = some x := ⟨l[k], List.getElem?_eq_getElem hkl_⟩; obtain ⟨xa, xn, xc, xl⟩ := x_; have HRx : Hid (Row w b (off + k) [.slice xa xn xc]) := by have h_ := hb_.row hx_; rw [show k * El.sz HdM = k from Nat.mul_one _] at h_; exact h_
   have HDx : Hid (RdM G w xa xn xc xl) := hb_.ok hx_; have HEx := hI hx_; have HZx : Hid (MkZ xl 60) := HZ.out _ (List.mem_of_getElem? hx_); have hnx : xn ≤ 1000 := by have h_ := HLN.out _ (List.mem_of_getElem? hx_); have h2_ := (HDx.out).len; simp only at h_; omega
   clear hx_ hb_ hkl_; have yr0 := (HRx.out.keep M.out).c1; have r0_0 := yr0; clear yr0; go_wp2_with fail
   clear r0_0; go_loopw [17] (fun i17 wr => ∃ (j : Nat), i17 = .int .i64 (j : Int) ∧ Hid (j ≤ xn) ∧ Hid ((xl.take j).all (markB xl) = true) ∧ Hid (Below w.heap.size w wr)) (fun i17 _ => xn - (RowKit.intOf i17).toNat)
   case atStart =>
    exact ⟨0, rfl, (by show _ ≤ _; omega), (hI rfl), hI M.out⟩
   case round =>
    obtain ⟨w2, rfl⟩ : ∃ x, x = wr := ⟨_, rfl⟩; clear M; obtain ⟨j, rfl, hj, HJ, M⟩ := hrel; have hj := hj.out
    by_cases hlt2 : j < xn
    ·
     refine ltW (show j < xn by omega) fun e2_0 e2_1 e2_i => ?_; obtain ⟨b2, off2, rfl, hb_⟩ := RdL.ptr HDx.out (by omega : 0 < xn); have hkl_ : j < xl.length := by rw [HDx.out.len]; exact hlt2
     obtain ⟨y_, hx_⟩ : ∃ x, xl[j]? = some x := ⟨xl[j], List.getElem?_eq_getElem hkl_⟩; obtain ⟨yd, yu0, yu1, yu2, yu3, ylo, yv0, yv1, yv2, yv3, yhi⟩ := y_; have HRy : Hid (Row w b2 (off2 + j * 9) [.int .i64 yd, yu0, yu1, yu2, yu3, yv0, yv1, yv2, yv3]) := hb_.row hx_; have HQy : Hid (FQ G w yu0 yu1 yu2 yu3 ylo) := (hb_.ok hx_).1; have HSy : Hid (FQ G w yv0 yv1 yv2 yv3 yhi) := (hb_.ok hx_).2; have HEy := hI hx_; have hz_ := HZx.out _ (List.mem_of_getElem? hx_); have HZy1 : Hid (Fz ylo 60) := hz_.1; have HZy2 : Hid (Fz yhi 60) := hz_.2; have HMy : Hid ((xl.map MkC.mk')[j]? = some ⟨yd, ylo, yhi⟩) := by show _ = _; rw [List.getElem?_map, hx_]; rfl
     clear hx_ hb_ hkl_ hz_; obtain ⟨oh, hoh_⟩ := most_at HEy.out; obtain ⟨ql, hql_⟩ : ∃ q, leastQ (xl.map MkC.mk') yd = q := ⟨_, rfl⟩; obtain ⟨kv, hkv_⟩ : ∃ k, ordQ ql oh = k := ⟨_, rfl⟩; obtain ⟨t1, ht1_⟩ : ∃ b, decide (oh < ql) = b := ⟨_, rfl⟩; have hk1_ : decide (0 < kv) = t1 := by rw [← ht1_, ← hkv_, ordQ_gt0]
     have HZo : Hid (Fz oh 60) := by have h_ := most_oz HZx.out yd; rw [show mostO (xl.map MkC.mk') yd = some oh from hoh_] at h_; exact h_
     have HZq : Hid (Fz ql 60) := by show Fz _ _; rw [← hql_]; exact least_fz HZx.out (by omega) yd
     have HMB : Hid (markB xl ⟨yd, yu0, yu1, yu2, yu3, ylo, yv0, yv1, yv2, yv3, yhi⟩ = !t1) := by show _ = _; unfold markB; simp only; rw [show mostO (xl.map MkC.mk') yd = some oh from hoh_]; show (!decide (oh < leastQ (xl.map MkC.mk') yd)) = _; rw [hql_, ht1_]
     have HOH : Hid (mostO (xl.map MkC.mk') yd = some oh) := hoh_; have HQL := hI hql_; have HKV := hI hkv_; have HT1 := hI ht1_; clear hoh_ hql_ hkv_ ht1_; refine cj4 (TQ.st (HQy.out.keep M.out)) fun aa ab ac ad => ?_; refine cj4 (TQ.st (HSy.out.keep M.out)) fun ae af ag ah => ?_; refine cj9 (HRy.out.keep M.out).c9 fun r1_0 r1_1 r1_2 r1_3 r1_4 r1_5 r1_6 r1_7 r1_8 => ?_; go_upto_region 7 with fail
     clear aa ab ac ad ae af ag ah r1_0 r1_1 r1_2 r1_3 r1_4 r1_5 r1_6 r1_7 r1_8; generalize hv : World.alloc w2 _ = w3; have ow0_ : w.heap.size ≤ w2.heap.size := (M.out).size; replace M := alM hv.symm M; clear hv; refine (Y0 M).D9 fun ai aj ak al am ao ap aq ar => ?_; go_wp2_with fail
     clear ai aj ak al am ao ap aq ar; refine (ctMost (G := G) (day := yd) (o := (some oh)) (b_ := true) (Nat.le_trans hG (J1 M).size) (HDx.out.keep (J1 M)) (by omega) HZx.out HOH.out rfl).mono ?_; rintro e w4 ⟨x_1, x_2, x_3, x_4, rfl, hd5, hb⟩; replace M := adM hd5 hb M; clear hb hd5; refine cj4 (TQ.st (Y0 M)) fun au av aw ax => ?_; go_wp2_with fail
     clear au av aw ax; generalize hv : World.alloc w4 _ = w5; have ow1_ := ((Y1 M)).lt; replace M := alM hv.symm M; clear hv; refine nmW w5.drew fun w6 hv => ?_; replace M := drM hv M; refine rgW (S := (fun w' => w'.cell? ⟨w2.heap.size, 0, none⟩ = some (.int .i64 yd) ∧ w'.cell? ⟨w2.heap.size, 1, none⟩ = some (yu0) ∧ w'.cell? ⟨w2.heap.size, 2, none⟩ = some (yu1) ∧ w'.cell? ⟨w2.heap.size, 3, none⟩ = some (yu2) ∧ w'.cell? ⟨w2.heap.size, 4, none⟩ = some (yu3) ∧ w'.cell? ⟨w2.heap.size, 5, none⟩ = some (yv0) ∧ w'.cell? ⟨w2.heap.size, 6, none⟩ = some (yv1) ∧ w'.cell? ⟨w2.heap.size, 7, none⟩ = some (yv2) ∧ w'.cell? ⟨w2.heap.size, 8, none⟩ = some (yv3) ∧ w'.cell? ⟨w4.heap.size, 0, none⟩ = some (x_1) ∧ w'.cell? ⟨w4.heap.size, 1, none⟩ = some (x_2) ∧ w'.cell? ⟨w4.heap.size, 2, none⟩ = some (x_3) ∧ w'.cell? ⟨w4.heap.size, 3, none⟩ = some (x_4))) hv ((Y2 M).t9 ((Y0 M).d4)) fun hH11 => ?_; clear hv; refine tk4 at0 at1 at2 at4 ?_; refine roW at3 fun K hK => ?_; go_simp; refine (ctLeast (G := G) (day := yd) (q := ql) (Nat.le_trans hG (J3 M).size) (HDx.out.keep (J3 M)) (by omega) HZx.out HQL.out).mono ?_; rintro e w7 ⟨x_12, x_13, x_14, x_15, rfl, hd16, hb⟩; replace M := adM hd16 hb M; clear hb hd16; (try go_wp2_with fail)
     refine hK.out _ _ (((Y3 M).t9 ((Y1 M).d4))) (fun hH17 => ?_); clear hK K hH11; (try simp only [Act.put, kq])
     refine roW at5 fun K hK => ?_; go_simp; refine (fqCompare (G := G) (q := ql) (r := oh) (k := kv) (Y0 M) (Y2 M) (Fz.mono HZq.out (by omega)) (Fz.mono HZo.out (by omega)) HKV.out).mono ?_; rintro e w8 ⟨rfl, hb⟩; replace M := gnM hb M; clear hb; (try go_wp2_with fail)
     refine hK.out _ _ (((Y3 M).t9 ((Y1 M).d4))) (fun hH18 => ?_); clear hK K hH17; (try simp only [Act.put, kq])
     refine tk at6 ?_; refine dnW ?_; clear hH18
     cases t1 with
     | false =>
      go_wp2_with fail
      go_roundw
      case rel => exact ⟨(j + 1), by go_num, (by show _ ≤ _; omega), (hI (all_next HEy.out HJ.out HMB.out)), hI (J4 M)⟩
      case measure => simp [RowKit.intOf] <;> omega
     | true =>
      go_wp2_with fail
      go_ret
      exact ⟨by rw [← HB.out, all_no HEx.out (show possL xl = false by rw [possL_all]; exact all_no HEy.out HMB.out)] <;> rfl, (J4 M)⟩
    ·
     refine geW (show ¬ j < xn by omega) fun e2_0 e2_1 e2_i => ?_; have HXA : Hid (possL xl = true) := by show _ = _; rw [possL_all]; have h_ := HJ.out; rw [List.take_of_length_le (by rw [HDx.out.len]; omega)] at h_; exact h_
     go_wp2_with fail
     go_roundw
     case rel => exact ⟨(k + 1), by go_num, (by show _ ≤ _; omega), (hI (all_next HEx.out HA.out HXA.out)), hI M.out⟩
     case measure => simp [RowKit.intOf] <;> omega
  ·
   refine geW (show ¬ k < n by omega) fun e1_0 e1_1 e1_i => ?_; have HT : Hid (b_ = true) := by show _ = _; rw [← HB.out]; rw [List.take_of_length_le (by rw [HL.out.len]; omega)] at HA; exact HA.out
   go_wp2_with fail
   go_ret
   exact ⟨by rw [HT.out] <;> rfl, M.out⟩
theorem rgIn_of {nb big : Bool} {ms : List Mt} {rs : List Rg} (h : formedE nb big ms rs = 0) : RgIn ms.length rs := by
 intro k x hx
 have hk := (List.getElem?_eq_some_iff.1 hx).1; have h1 := (formed_zero.1 h).2.2.2 k hk; unfold rErr at h1; rw [hx] at h1; have h2 : (if (decide (x.m < 0) || decide ((ms.length : Int) ≤ x.m) || decide (x.c < 0) || decide (1099511627776 < x.c)) = true then 1 else _) = (0 : Int) := h1
 by_cases hc : (decide (x.m < 0) || decide ((ms.length : Int) ≤ x.m) || decide (x.c < 0) || decide (1099511627776 < x.c)) = true
 · rw [if_pos hc] at h2; cases h2
 · simp only [Bool.or_eq_true, decide_eq_true_eq, not_or] at hc
   omega
theorem poss_of {L : List HdM} {nn : Nat} {iv : Iv} {ms : List Mt} {rs : List Rg} (hl : L.map (fun x => x.l.map MkC.mk') = (List.range nn).map (fun i => marksL iv ms rs (i : Nat))) (hn : ms.length = nn) : L.all (fun x => possL x.l) = possA iv ms rs := by
 subst hn; have h := congrArg (fun z => z.all possB) hl; simp only [List.all_map] at h; exact h
theorem lenL_of {L : List HdM} {nn : Nat} {iv : Iv} {ms : List Mt} {rs : List Rg} (hl : L.map (fun x => x.l.map MkC.mk') = (List.range nn).map (fun i => marksL iv ms rs (i : Nat))) (hr : rs.length ≤ 1000) : LenL L 1000 := by
 intro x hx
 have h1 : x.l.map MkC.mk' ∈ L.map (fun x => x.l.map MkC.mk') := List.mem_map.2 ⟨x, hx, rfl⟩; rw [hl] at h1; obtain ⟨i, -, h2⟩ := List.mem_map.1 h1; have h3 := congrArg List.length h2; rw [List.length_map] at h3; rw [← h3]; unfold marksL; exact Nat.le_trans (Nat.le_trans (List.length_filterMap_le _ _) (List.length_filter_le _ _)) hr
theorem at_of {L : List HdM} {nn k : Nat} {iv : Iv} {ms : List Mt} {rs : List Rg} {x : HdM} (hl : L.map (fun x => x.l.map MkC.mk') = (List.range nn).map (fun i => marksL iv ms rs (i : Nat))) (hx : L[k]? = some x) : x.l.map MkC.mk' = marksL iv ms rs (k : Nat) := by
 have h := congrArg (fun z => z[k]?) hl; simp only [List.getElem?_map, hx, Option.map_some] at h
 cases hr : (List.range nn)[k]? with
 | none => rw [hr] at h; cases h
 | some j =>
  rw [hr] at h; obtain ⟨h1, h2⟩ := List.getElem?_eq_some_iff.1 hr; rw [List.getElem_range] at h2; subst h2; exact Option.some.inj h
theorem check_e {iv : Iv} {nb big : Bool} {ms : List Mt} {rs : List Rg} {fe : Int} (h : formedE nb big ms rs = fe) (h0 : ¬ fe = 0) : checkE iv nb big ms rs = fe := by
 unfold checkE; rw [h, if_neg h0]
theorem check_p {iv : Iv} {nb big : Bool} {ms : List Mt} {rs : List Rg} {pa : Bool} (h : formedE nb big ms rs = 0) (hp : possA iv ms rs = pa) : checkE iv nb big ms rs = if pa = true then 0 else 16 := by
 unfold checkE; rw [h, if_pos rfl, hp]
theorem ctCheck {nm : ByteArray} {am ar ac aq : Option Addr} {nn cm nr cr cc cq : Nat} {ms : List Mt} {rs : List Rg} {cs : List Ct} {rr : List Rc} {nb big : Bool} {er : Int} {w : World} (hG : G ≤ w.heap.size) (hm : RdMt G w am nn cm ms) (hr : RdRg G w ar nr cr rs) (hc : CtIn w (.slice ac cs.length cc) cs) (hq : RcIn w (.slice aq rr.length cq) rr) (_hsz : nm.size ≤ 1000) (_hnn : nn ≤ 1000) (_hnr : nr ≤ 1000) (_hcl : cs.length ≤ 1000) (_hrl : rr.length ≤ 1000) (hnb : nameOk nm.data.toList = nb) (hbg : bigB ms rs cs.length rr.length = big) (he : checkE (ivOf cs rr) nb big ms rs = er) :
 Calls Tryz.prog 10 #[.agg #[.string nm, .slice am nn cm, .slice ar nr cr], .slice ac cs.length cc, .slice aq rr.length cq] w fun e w' => e = .returned (.int .i64 er) ∧ Below w.heap.size w w' := by
 obtain ⟨fe, hfe_⟩ : ∃ e, formedE nb big ms rs = e := ⟨_, rfl⟩; obtain ⟨pa, hpa_⟩ : ∃ b, possA (ivOf cs rr) ms rs = b := ⟨_, rfl⟩; have HFE := hI hfe_; have HPA := hI hpa_; have HE := hI he; have HNB := hI hnb; have HBG := hI hbg; clear hfe_ hpa_ he hnb hbg; have HM : Hid (RdMt G w am nn cm ms) := hm; have HR : Hid (RdRg G w ar nr cr rs) := hr; have HC : Hid (CtIn w (.slice ac cs.length cc) cs) := hc; have HQ : Hid (RcIn w (.slice aq rr.length cq) rr) := hq; clear hm hr hc hq; have M : Hid (Below w.heap.size w w) := Below.refl _ _; go_enter Tryz.func10, Tryz.ntmps10
 go_upto_region 1 with fail
 generalize hv : World.alloc w _ = w1; replace M := alM hv.symm M; clear hv; refine (Y0 M).D3 fun aa ab ad => ?_; go_wp2_with fail
 clear aa ab ad; refine (ctFormed (G := G) (nm := nm) (nb := nb) (big := big) (er := fe) (Nat.le_trans hG (J1 M).size) (HM.out.keep (J1 M)) (HR.out.keep (J1 M)) (HC.out.keep (J1 M)) (HQ.out.keep (J1 M)) (by omega) (by omega) (by omega) (by omega) (by omega) HNB.out HBG.out HFE.out).mono ?_; rintro e w2 ⟨rfl, hb⟩; replace M := gnM hb M; clear hb; go_upto_region 2 with fail
 by_cases hem_ : fe = 0
 ·
  subst hem_; have HFM : Hid (RgIn ms.length rs) := rgIn_of HFE.out; refine (Y0 M).D3 fun aa ab ad => ?_; go_wp2_with fail
  clear aa ab ad; refine (ctMarks (G := G) (nm := nm) (Nat.le_trans hG (J1 M).size) (HM.out.keep (J1 M)) (HR.out.keep (J1 M)) (HC.out.keep (J1 M)) (HQ.out.keep (J1 M)) (by omega) (by omega) (by omega) (by omega) (by omega) HFM.out).mono ?_; rintro e w3 ⟨a_1, L_2, rfl, hd3, hu4, hu5, hb⟩; replace M := adM hd3 hb M; clear hb hd3; replace hu4 := hI hu4; replace hu5 := hI hu5; go_wp2_with fail
  refine (ctPossible (G := G) (b_ := pa) (Nat.le_trans hG (J2 M).size) (Y0 M) (by omega) (fun x hx => hu5.out x hx) (lenL_of hu4.out (by have := HR.out.len; omega)) ((poss_of hu4.out HM.out.len).trans HPA.out)).mono ?_; rintro e w4 ⟨rfl, hb⟩; replace M := gnM hb M; clear hb
  cases pa with
  | false =>
   go_wp2_with fail
   go_ret
   exact ⟨by rw [← HE.out, check_p HFE.out HPA.out] <;> rfl, (J2 M)⟩
  | true =>
   go_wp2_with fail
   go_ret
   exact ⟨by rw [← HE.out, check_p HFE.out HPA.out] <;> rfl, (J2 M)⟩
 ·
  have em1_ : (fe == 0) = false := beq_false_of_ne hem_; have em2_ : (fe != 0) = true := bne_iff_ne.2 hem_; have em3_ : ¬ fe = 0 := hem_; go_wp2_with fail
  go_ret
  exact ⟨by rw [← HE.out, check_e HFE.out em3_] <;> rfl, (J1 M)⟩
theorem RdL.oksC {α : Type} [El α] {w : World} {a : Option Addr} {n c : Nat} {l : List α} (h : RdL G w a n c l) : ∀ x ∈ l, El.ok G w x := by
 intro x hx
 rcases h.cases with ⟨rfl, rfl⟩ | ⟨b, off, rfl, h0, hl, hc, hb⟩
 · cases hx
 · exact hb.oks x hx
theorem RdH.row_ {w : World} {b off n c k : Nat} {l : List HdM} {x : HdM} (h : RdH G w (some ⟨b, off, none⟩) n c l) (hk : l[k]? = some x) : Row w b (off + k) (El.cells x) := by
 have hn : 0 < n := by
  have h1 := (List.getElem?_eq_some_iff.1 hk).1; have h2 := h.len
  omega
 obtain ⟨b', off', he, hb⟩ := h.ptr hn
 cases he
 have h_ := hb.row hk; rw [show k * El.sz HdM = k from Nat.mul_one _] at h_; exact h_
theorem ivOk (cs : List Ct) (rr : List Rc) : IvOk (ivOf cs rr) := by
 intro s c d p hp
 obtain ⟨l, h⟩ := p; obtain ⟨g, hg, -, -, hin, hc, rfl, rfl⟩ := ivl_some hp; have he := errQ_nonneg hc hin; have h0 : 0 ≤ c := by simp [inR] at hin; omega
 refine ⟨lo_nonneg, Rat.le_trans (lo_le he h0) ?_⟩
 show (c : Rat) ≤ hiQ _ _
 unfold hiQ
 grind
theorem poss_at {cs : List Ct} {rr : List Rc} {nb big : Bool} {ms : List Mt} {rs : List Rg} (hc : checkE (ivOf cs rr) nb big ms rs = 0) {k : Nat} (hk : k < ms.length) : Poss (marksL (ivOf cs rr) ms rs (k : Nat)) :=
 (possA_iff (ivOk cs rr)).1 (check_zero.1 hc).2 k hk
theorem cnt_at {cs : List Ct} {rr : List Rc} {nb big : Bool} {ms : List Mt} {rs : List Rg} {L : List HdM} {nn k : Nat} {x : HdM} {fa fb : Int} {h : Rat} (hc : checkE (ivOf cs rr) nb big ms rs = 0) (hl : L.map (fun x => x.l.map MkC.mk') = (List.range nn).map (fun i => marksL (ivOf cs rr) ms rs (i : Nat))) (hx : L[k]? = some x) (hk : k < ms.length) (hf : fa ≤ fb) (e : cntHi (x.l.map MkC.mk') fa fb = some h) : cntLo (x.l.map MkC.mk') fa fb ≤ h := by
 rw [at_of hl hx] at e ⊢; exact cnt_ok (poss_at hc hk) (marks_ok (ivOk cs rr) ms rs _) hf e
theorem piece_at {iv : Iv} {ms : List Mt} {rs : List Rg} {L : List HdM} {nn k : Nat} {x : HdM} {z : Mt} {a b fa fb : Int} (hl : L.map (fun x => x.l.map MkC.mk') = (List.range nn).map (fun i => marksL iv ms rs (i : Nat))) (hx : L[k]? = some x) (hz : ms[k]? = some z) (ha : max a z.f = fa) (hb : min b z.u = fb) : pieceM iv ms rs a b k = pieceL (x.l.map MkC.mk') fa fb := by
 unfold pieceM; rw [getD_of hz, ha, hb, at_of hl hx]
theorem btw_skip {P : Nat → Option (Rat × Rat)} {k : Nat} {x y : Rat} {l : List Mk} {fa fb : Int} (h : btw P k = some (x, y)) (hp : P k = pieceL l fa fb) (hf : fb ≤ fa) : btw P (k + 1) = some (x, y) := by
 rw [btw_mk h (show P k = some (0, 0) by rw [hp]; unfold pieceL; rw [if_pos hf])]; rw [Rat.add_zero, Rat.add_zero]
theorem btw_free {P : Nat → Option (Rat × Rat)} {k n : Nat} {l : List Mk} {fa fb : Int} (hk : k < n) (hp : P k = pieceL l fa fb) (hf : ¬ fb ≤ fa) (h : cntHi l fa fb = none) : btw P n = none :=
 btw_none hk (by rw [hp]; unfold pieceL; rw [if_neg hf, h]; rfl)
theorem btw_some_ {P : Nat → Option (Rat × Rat)} {k : Nat} {x y lo hi : Rat} {l : List Mk} {fa fb : Int} (h : btw P k = some (x, y)) (hp : P k = pieceL l fa fb) (hf : ¬ fb ≤ fa) (h1 : cntLo l fa fb = lo) (h2 : cntHi l fa fb = some hi) : btw P (k + 1) = some (x + lo, y + hi) :=
 btw_mk h (by rw [hp]; unfold pieceL; rw [if_neg hf, h2, h1]; rfl)
theorem cntLo_fz {l : List MkC} (hz : MkZ l 60) (a b : Int) : Fz (cntLo (l.map MkC.mk') a b) 130 := by
 unfold cntLo; have h1 := most_oz hz a
 cases e : mostO (l.map MkC.mk') a with
 | none => exact (Fz.int64 (x := 0) (by decide)).mono (by omega)
 | some h =>
  rw [e] at h1; exact Fz.maxQ ((Fz.sub (least_fz hz (by omega) b) h1).mono (by omega)) ((Fz.int64 (x := 0) (by decide)).mono (by omega))
theorem cntHi_fz {l : List MkC} (hz : MkZ l 60) {a b : Int} {q : Rat} (h : cntHi (l.map MkC.mk') a b = some q) : Fz q 130 := by
 unfold cntHi at h; have h1 := most_oz hz b
 cases e : mostO (l.map MkC.mk') b with
 | none => rw [e] at h; cases h
 | some g =>
  rw [e] at h h1
  cases h
  exact (Fz.sub h1 (least_fz hz (by omega) a)).mono (by omega)
theorem b_end {X : Int × Option (Rat × Rat)} {er er' : Int} {o o' : Option (Rat × Rat)} {ol oh : Option Rat} (he : X = (er, o)) (hl : o.map Prod.fst = ol) (hh : o.map Prod.snd = oh) (h : X = (er', o')) : er = er' ∧ ol = o'.map Prod.fst ∧ oh = o'.map Prod.snd := by
 rw [he] at h; cases h; exact ⟨rfl, hl.symm, hh.symm⟩
theorem betw_c {iv : Iv} {nb big : Bool} {ms : List Mt} {rs : List Rg} {a b ce : Int} (h : checkE iv nb big ms rs = ce) (h0 : ¬ ce = 0) : betw iv nb big ms rs a b = (ce, none) := by
 unfold betw; rw [h, if_neg h0]
theorem betw_1 {iv : Iv} {nb big : Bool} {ms : List Mt} {rs : List Rg} {a b : Int} (h : checkE iv nb big ms rs = 0) (h1 : b < a) : betw iv nb big ms rs a b = (1, none) := by
 unfold betw; rw [if_pos h, if_pos h1]
theorem betw_4 {iv : Iv} {nb big : Bool} {ms : List Mt} {rs : List Rg} {a b : Int} (h : checkE iv nb big ms rs = 0) (h1 : ¬ b < a) (h2 : ms.length = 0 ∨ a < (ms.getD 0 ⟨0, 0, 0⟩).f ∨ (ms.getD (ms.length - 1) ⟨0, 0, 0⟩).u < b) : betw iv nb big ms rs a b = (4, none) := by
 unfold betw; rw [if_pos h, if_neg h1, if_pos h2]
def bRes : Option (Rat × Rat) → Int × Option (Rat × Rat)
 | none => (17, none)
 | some x => (0, some x)
theorem betw_r {iv : Iv} {nb big : Bool} {ms : List Mt} {rs : List Rg} {a b : Int} {z : Int × Option (Rat × Rat)} (h : checkE iv nb big ms rs = 0) (hd : DaysOk ms a b) {x : Option (Rat × Rat)} (h1 : btw (pieceM iv ms rs a b) ms.length = x) (h2 : bRes x = z) : betw iv nb big ms rs a b = z := by
 rw [betw_ok h hd, h1]; cases x <;> exact h2
theorem ctBetween {nm : ByteArray} {am ar ac aq : Option Addr} {nn cm nr cr cc cq : Nat} {ms : List Mt} {rs : List Rg} {cs : List Ct} {rr : List Rc} {nb big : Bool} {da db er : Int} {o : Option (Rat × Rat)} {ol oh : Option Rat} {w : World} (hG : G ≤ w.heap.size) (hm : RdMt G w am nn cm ms) (hr : RdRg G w ar nr cr rs) (hc : CtIn w (.slice ac cs.length cc) cs) (hq : RcIn w (.slice aq rr.length cq) rr) (_hsz : nm.size ≤ 1000) (_hnn : nn ≤ 1000) (_hnr : nr ≤ 1000) (_hcl : cs.length ≤ 1000) (_hrl : rr.length ≤ 1000) (hnb : nameOk nm.data.toList = nb) (hbg : bigB ms rs cs.length rr.length = big) (he : betw (ivOf cs rr) nb big ms rs da db = (er, o)) (hl : o.map Prod.fst = ol) (hh : o.map Prod.snd = oh) :
 Calls Tryz.prog 7 #[.agg #[.string nm, .slice am nn cm, .slice ar nr cr], .slice ac cs.length cc, .slice aq rr.length cq, .int .i64 da, .int .i64 db] w fun e w' => ∃ x0 x1 x2 x3 x4 x5 x6 x7, e = .returned (.tuple #[.agg #[x0, x1, x2, x3, x4, x5, x6, x7], .int .i64 er]) ∧ OQ G w' x0 x1 x2 x3 ol ∧ OQ G w' x4 x5 x6 x7 oh ∧ Oz ol 200000 ∧ Oz oh 200000 ∧ Below w.heap.size w w' := by
 obtain ⟨ce, hce_⟩ : ∃ e, checkE (ivOf cs rr) nb big ms rs = e := ⟨_, rfl⟩; have HCE := hI hce_; have HE := hI he; have HLO := hI hl; have HHI := hI hh; have HNB := hI hnb; have HBG := hI hbg; clear hce_ he hl hh hnb hbg; have HM : Hid (RdMt G w am nn cm ms) := hm; have HR : Hid (RdRg G w ar nr cr rs) := hr; have HC : Hid (CtIn w (.slice ac cs.length cc) cs) := hc; have HQ : Hid (RcIn w (.slice aq rr.length cq) rr) := hq; clear hm hr hc hq; have M : Hid (Below w.heap.size w w) := Below.refl _ _; go_enter Tryz.func7, Tryz.ntmps7
 go_upto_region 1 with fail
 generalize hv : World.alloc (World.alloc w _) _ = w1; replace M := al2W hv.symm M; clear hv; refine (Y1 M).D3 fun aa ab ad => ?_; go_wp2_with fail
 clear aa ab ad; refine (ctCheck (G := G) (nm := nm) (nb := nb) (big := big) (er := ce) (Nat.le_trans hG (J2 M).size) (HM.out.keep (J2 M)) (HR.out.keep (J2 M)) (HC.out.keep (J2 M)) (HQ.out.keep (J2 M)) (by omega) (by omega) (by omega) (by omega) (by omega) HNB.out HBG.out HCE.out).mono ?_; rintro e w2 ⟨rfl, hb⟩; replace M := gnM hb M; clear hb; go_upto_region 2 with fail
 by_cases hem_ : ce = 0
 ·
  subst hem_; have HFM : Hid (RgIn ms.length rs) := rgIn_of (check_zero.1 HCE.out).1; refine (Y1 M).D3 fun aa ab ad => ?_; go_upto_region 5 with fail
  clear aa ab ad
  by_cases c1_ : db < da
  ·
   refine dtW (show db < da by omega) fun c1 c1i => ?_; have HR_ := hI (betw_1 HCE.out c1i); refine cj16 (Y0 M).c8 fun ae af ag ah ai aj ak al ao ap au av aw ax ay az => ?_; go_wp2_with fail
   clear ae af ag ah ai aj ak al ao ap au av aw ax ay az; refine st8V (.int .i64 0) (.slice none 0 0) (.int .i64 0) (.slice none 0 0) (.int .i64 0) (.slice none 0 0) (.int .i64 0) (.slice none 0 0) (Y0 M) (J2 M) fun w3 hv og hk hbw => ?_; rw [← hv]; replace M := hI (aI hk (aI ((Y1 M).o og) hbw)); clear hk hbw og hv; obtain ⟨rfl, rfl, rfl⟩ := b_end HE.out HLO.out HHI.out HR_.out; refine bodyPost_ret (results_box2 rfl _ _ (w.heap.size + 1) 38 _ _ _ rfl (Y0 M) Tryz.underlying38 rfl (by kernel_rfl)) rfl ?_; exact ⟨_, _, _, _, _, _, _, _, rfl, oq_none _ _ _ _ _, oq_none _ _ _ _ _, Oz.none_, Oz.none_, (J2 M)⟩
  ·
   refine dfW (show ¬ db < da by omega) fun c1 c1i => ?_; go_upto_region 7 with fail
   by_cases hn0 : nn = 0
   ·
    have en1_ : ((nn : Int) == 0) = true := by simp [hn0]
    have HR_ := hI (betw_4 HCE.out c1i (.inl (by have := HM.out.len; omega))); refine cj16 (Y0 M).c8 fun ae af ag ah ai aj ak al ao ap au av aw ax ay az => ?_; go_wp2_with fail
    clear ae af ag ah ai aj ak al ao ap au av aw ax ay az; refine st8V (.int .i64 0) (.slice none 0 0) (.int .i64 0) (.slice none 0 0) (.int .i64 0) (.slice none 0 0) (.int .i64 0) (.slice none 0 0) (Y0 M) (J2 M) fun w3 hv og hk hbw => ?_; rw [← hv]; replace M := hI (aI hk (aI ((Y1 M).o og) hbw)); clear hk hbw og hv; obtain ⟨rfl, rfl, rfl⟩ := b_end HE.out HLO.out HHI.out HR_.out; refine bodyPost_ret (results_box2 rfl _ _ (w.heap.size + 1) 38 _ _ _ rfl (Y0 M) Tryz.underlying38 rfl (by kernel_rfl)) rfl ?_; exact ⟨_, _, _, _, _, _, _, _, rfl, oq_none _ _ _ _ _, oq_none _ _ _ _ _, Oz.none_, Oz.none_, (J2 M)⟩
   ·
    have en1_ : ((nn : Int) == 0) = false := by simp [hn0]
    have hix5 : (0 : Int) < (nn : Int) := by omega
    have hnp_ : 0 < nn := by omega
    obtain ⟨bm, ofm, rfl, hb_⟩ := RdL.ptr HM.out (by omega : 0 < nn); have hbkbm := hI hb_; have hkl_ : 0 < ms.length := by rw [HM.out.len]; exact hnp_
    obtain ⟨y_, hx_⟩ : ∃ x, ms[0]? = some x := ⟨ms[0], List.getElem?_eq_getElem hkl_⟩; obtain ⟨ys, yf, yu⟩ := y_; have HRy : Hid (Row w bm (ofm + 0 * 3) [.int .i64 ys, .int .i64 yf, .int .i64 yu]) := hb_.row hx_; have HEy := hI hx_; have hly := hkl_; clear hx_ hb_ hkl_
    by_cases c2_ : da < yf
    ·
     refine dtW (show da < yf by omega) fun c2 c2i => ?_; have HR_ := hI (betw_4 HCE.out c1i (.inr (.inl (by rw [getD_of HEy.out]; exact c2i)))); refine (Y1 M).D3 fun aa ab ad => ?_; refine cj16 (Y0 M).c8 fun ae af ag ah ai aj ak al ao ap au av aw ax ay az => ?_; refine cj3 (HRy.out.keep (J2 M)).c3 fun r0_0 r0_1 r0_2 => ?_; go_wp2_with fail
     clear aa ab ad ae af ag ah ai aj ak al ao ap au av aw ax ay az r0_0 r0_1 r0_2; refine st8V (.int .i64 0) (.slice none 0 0) (.int .i64 0) (.slice none 0 0) (.int .i64 0) (.slice none 0 0) (.int .i64 0) (.slice none 0 0) (Y0 M) (J2 M) fun w3 hv og hk hbw => ?_; rw [← hv]; replace M := hI (aI hk (aI ((Y1 M).o og) hbw)); clear hk hbw og hv; obtain ⟨rfl, rfl, rfl⟩ := b_end HE.out HLO.out HHI.out HR_.out; refine bodyPost_ret (results_box2 rfl _ _ (w.heap.size + 1) 38 _ _ _ rfl (Y0 M) Tryz.underlying38 rfl (by kernel_rfl)) rfl ?_; exact ⟨_, _, _, _, _, _, _, _, rfl, oq_none _ _ _ _ _, oq_none _ _ _ _ _, Oz.none_, Oz.none_, (J2 M)⟩
    ·
     refine dfW (show ¬ da < yf by omega) fun c2 c2i => ?_; have hix0 : (0 : Int) ≤ (nn : Int) - 1 := by omega
     have hix1 : (nn : Int) - 1 < (nn : Int) := by omega
     have hix2 : ((nn : Int) - 1).toNat = nn - 1 := by omega
     have hix3 : IntKind.i64.wrap ((nn : Int) - 1) = (nn : Int) - 1 := by rw [IntKind.wrap_i64]; omega
     have hix4 : (1 : Int) ≤ (nn : Int) := by omega
     have hb_ := hbkbm.out; have hkl_ : (nn - 1) < ms.length := by rw [HM.out.len]; omega
     obtain ⟨v_, hx_⟩ : ∃ x, ms[(nn - 1)]? = some x := ⟨ms[(nn - 1)], List.getElem?_eq_getElem hkl_⟩; obtain ⟨vs, vf, vu⟩ := v_; have HRv : Hid (Row w bm (ofm + (nn - 1) * 3) [.int .i64 vs, .int .i64 vf, .int .i64 vu]) := hb_.row hx_; have HEv := hI hx_; have hlv := hkl_; clear hx_ hb_ hkl_
     by_cases c3_ : vu < db
     ·
      refine dtW (show vu < db by omega) fun c3 c3i => ?_; have HR_ := hI (betw_4 HCE.out c1i (.inr (.inr (by rw [HM.out.len, getD_of HEv.out]; exact c3i)))); refine (Y1 M).D3 fun aa ab ad => ?_; refine cj16 (Y0 M).c8 fun ae af ag ah ai aj ak al ao ap au av aw ax ay az => ?_; refine cj3 (HRy.out.keep (J2 M)).c3 fun r0_0 r0_1 r0_2 => ?_; refine cj3 (HRv.out.keep (J2 M)).c3 fun r1_0 r1_1 r1_2 => ?_; go_wp2_with fail
      clear aa ab ad ae af ag ah ai aj ak al ao ap au av aw ax ay az r0_0 r0_1 r0_2 r1_0 r1_1 r1_2; refine st8V (.int .i64 0) (.slice none 0 0) (.int .i64 0) (.slice none 0 0) (.int .i64 0) (.slice none 0 0) (.int .i64 0) (.slice none 0 0) (Y0 M) (J2 M) fun w3 hv og hk hbw => ?_; rw [← hv]; replace M := hI (aI hk (aI ((Y1 M).o og) hbw)); clear hk hbw og hv; obtain ⟨rfl, rfl, rfl⟩ := b_end HE.out HLO.out HHI.out HR_.out; refine bodyPost_ret (results_box2 rfl _ _ (w.heap.size + 1) 38 _ _ _ rfl (Y0 M) Tryz.underlying38 rfl (by kernel_rfl)) rfl ?_; exact ⟨_, _, _, _, _, _, _, _, rfl, oq_none _ _ _ _ _, oq_none _ _ _ _ _, Oz.none_, Oz.none_, (J2 M)⟩
     ·
      refine dfW (show ¬ vu < db by omega) fun c3 c3i => ?_; have HDO : Hid (DaysOk ms da db) := ⟨by omega, by have := HM.out.len; omega, by rw [getD_of HEy.out]; exact Int.not_lt.1 c2i, by rw [HM.out.len, getD_of HEv.out]; exact Int.not_lt.1 c3i⟩; refine (Y1 M).D3 fun aa ab ad => ?_; refine cj3 (HRy.out.keep (J2 M)).c3 fun r0_0 r0_1 r0_2 => ?_; refine cj3 (HRv.out.keep (J2 M)).c3 fun r1_0 r1_1 r1_2 => ?_; go_wp2_with fail
      clear aa ab ad r0_0 r0_1 r0_2 r1_0 r1_1 r1_2; refine nmW (α := Rat) ((0 : Int) : Rat) fun q5 eq5 => ?_; refine (fqInt (G := G) (x := 0) (by decide)).mono ?_; rintro e w3 ⟨x_1, x_2, x_3, x_4, rfl, hd6, hb⟩; rw [← eq5] at hd6; have Sq5 := szW eq5 (n := 4) (Fz.int64 (by decide)); have Eq5 := hI eq5; clear eq5; replace M := adM hd6 hb M; clear hb hd6; go_wp2_with fail
      refine (spPoint_q (G := G) (q := q5) (Nat.le_trans hG (J3 M).size) (Y0 M) (Fz.mono Sq5.out (by omega))).mono ?_; rintro e w4 ⟨x_7, x_8, x_9, x_10, x_11, x_12, x_13, x_14, rfl, hd15, hd16, hb⟩; replace M := ad2M hd15 hd16 hb M; clear hb hd15 hd16; refine cj4 (TQ.st (Y0 M)) fun ba bb bc bd => ?_; refine cj4 (TQ.st (Y1 M)) fun bf bg bh bi => ?_; go_upto_region 10 with fail
      clear ba bb bc bd bf bg bh bi; generalize hv : World.alloc w4 _ = w5; have ow2_ := ((Y3 M)).lt; replace M := alM hv.symm M; clear hv; refine (Y5 M).D3 fun aa ab ad => ?_; go_wp2_with fail
      clear aa ab ad; refine (ctMarks (G := G) (nm := nm) (Nat.le_trans hG (J6 M).size) (HM.out.keep (J6 M)) (HR.out.keep (J6 M)) (HC.out.keep (J6 M)) (HQ.out.keep (J6 M)) (by omega) (by omega) (by omega) (by omega) (by omega) HFM.out).mono ?_; rintro e w6 ⟨a_17, L_18, rfl, hd19, hu20, hu21, hb⟩; replace M := adM hd19 hb M; clear hb hd19; replace hu20 := hI hu20; replace hu21 := hI hu21; go_wp2_with fail
      replace M := hI (aI (Y0 M) (aI (Y1 M) (aI (Y2 M) (aI (Y3 M) (aI (Y5 M) (aI (Y6 M) (J7 M))))))); go_loopw [68] (fun i68 wr => ∃ (k : Nat) (sl : Rat) (sh : Rat) (g0 : Value) (g1 : Value) (g2 : Value) (g3 : Value) (g4 : Value) (g5 : Value) (g6 : Value) (g7 : Value), i68 = .int .i64 (k : Int) ∧ Hid (k ≤ nn) ∧ Hid (btw (pieceM (ivOf cs rr) ms rs da db) k = some (sl, sh)) ∧ Hid (Fz sl (10 + 131 * k)) ∧ Hid (Fz sh (10 + 131 * k)) ∧ Hid (sl ≤ sh) ∧ Hid (Bx wr w4.heap.size 38 #[g0, g1, g2, g3, g4, g5, g6, g7] ∧ FQ G wr g0 g1 g2 g3 sl ∧ FQ G wr g4 g5 g6 g7 sh ∧ RdH G wr a_17 nn nn L_18 ∧ Bx wr (w.heap.size + 1) 38 #[.int .i64 0, .slice none 0 0, .int .i64 0, .slice none 0 0, .int .i64 0, .slice none 0 0, .int .i64 0, .slice none 0 0] ∧ Bx wr w.heap.size 25 #[.string nm, .slice (some ⟨bm, ofm, none⟩) nn cm, .slice ar nr cr] ∧ Below w.heap.size w wr)) (fun i68 _ => nn - (RowKit.intOf i68).toNat)
      case atStart =>
       exact ⟨0, q5, q5, x_7, x_8, x_9, x_10, x_11, x_12, x_13, x_14, rfl, (by show _ ≤ _; omega), (hI (by rw [Eq5.out]; rfl)), (hI (Fz.mono Sq5.out (by omega))), (hI (Fz.mono Sq5.out (by omega))), (hI (by show _ ≤ _; exact Rat.le_refl)), hI (aI (Y1 M) (aI (Y2 M) (aI (Y3 M) (aI (Y0 M) (aI (Y4 M) (aI (Y5 M) (J6 M)))))))⟩
      case round =>
       obtain ⟨w7, rfl⟩ : ∃ x, x = wr := ⟨_, rfl⟩; clear M; obtain ⟨k, sl, sh, g0, g1, g2, g3, g4, g5, g6, g7, rfl, hk, HBT, HSl, HSh, HOr, M⟩ := hrel; have hk := hk.out
       by_cases hlt : k < nn
       ·
        refine ltW (show k < nn by omega) fun e5_0 e5_1 e5_i => ?_; obtain ⟨bx, offx, rfl, -⟩ := RdL.ptr (Y3 M) (by omega : 0 < nn); have hkl_ : k < L_18.length := by rw [(Y3 M).len]; omega
        obtain ⟨x_, hx_⟩ : ∃ x, L_18[k]? = some x := ⟨L_18[k], List.getElem?_eq_getElem hkl_⟩; obtain ⟨xa, xn, xc, xl⟩ := x_; have HEx := hI hx_; have HZx : Hid (MkZ xl 60) := hu21.out _ (List.mem_of_getElem? hx_); have hnx : xn ≤ 1000 := by have h_ := (lenL_of hu20.out (by have := HR.out.len; omega)) _ (List.mem_of_getElem? hx_); have h2_ : xl.length = xn := (RdL.oksC (Y3 M) _ (List.mem_of_getElem? hx_) : RdM G w7 xa xn xc xl).len; simp only at h_; omega
        clear hx_ hkl_; have hb_ := hbkbm.out; have hkl_ : k < ms.length := by rw [HM.out.len]; exact hlt
        obtain ⟨z_, hx_⟩ : ∃ x, ms[k]? = some x := ⟨ms[k], List.getElem?_eq_getElem hkl_⟩; obtain ⟨zs, zf, zu⟩ := z_; have HRz : Hid (Row w bm (ofm + k * 3) [.int .i64 zs, .int .i64 zf, .int .i64 zu]) := hb_.row hx_; have HEz := hI hx_; have hlz := hkl_; clear hx_ hb_ hkl_; obtain ⟨fa, hfa_⟩ : ∃ x, max da zf = x := ⟨_, rfl⟩; obtain ⟨fb, hfb_⟩ : ∃ x, min db zu = x := ⟨_, rfl⟩; have HPI := hI (piece_at (a := da) (b := db) hu20.out HEx.out HEz.out hfa_ hfb_)
        by_cases c6_ : fb ≤ fa
        ·
         refine dtW (show fb ≤ fa by omega) fun c6 c6i => ?_; have HB2 := hI (btw_skip HBT.out HPI.out c6i); have yr2 := (show Row w7 bx (offx + k) [.slice xa xn xc] from (RdH.row_ (Y3 M) HEx.out)).c1; have r2_0 := yr2; clear yr2; go_wp2_with fail
         clear r2_0; refine nmW w7.drew fun w8 hv => ?_; replace M := drM hv M; refine rgW (S := (fun w' => w'.cell? ⟨w.heap.size, 0, none⟩ = some (.string nm) ∧ w'.cell? ⟨w.heap.size, 1, none⟩ = some (.slice (some ⟨bm, ofm, none⟩) nn cm) ∧ w'.cell? ⟨w.heap.size, 2, none⟩ = some (.slice ar nr cr) ∧ w'.cell? ⟨bm, ofm + k * 3, none⟩ = some (.int .i64 zs) ∧ w'.cell? ⟨bm, ofm + k * 3 + 1, none⟩ = some (.int .i64 zf) ∧ w'.cell? ⟨bm, ofm + k * 3 + 2, none⟩ = some (.int .i64 zu))) hv ((Y5 M).t3 ((HRz.out.keep (J6 M)).c3)) fun hH22 => ?_; clear hv; refine tk8 at0 at1 at2 at3 at4 at5 at6 at7 ?_; refine tk8 at8 at9 at10 at11 at12 at13 at14 at15 ?_; refine tk2 at16 at17 ?_; refine dnW ?_; clear hH22; go_wp2_with fail
         go_roundw
         case rel => exact ⟨(k + 1), sl, sh, g0, g1, g2, g3, g4, g5, g6, g7, by go_num, (by show _ ≤ _; omega), HB2, (hI (HSl.out.mono (by omega))), (hI (HSh.out.mono (by omega))), HOr, hI (aI (Y0 M) (aI (Y1 M) (aI (Y2 M) (aI (Y3 M) (aI (Y4 M) (aI (Y5 M) (J6 M)))))))⟩
         case measure => simp [RowKit.intOf] <;> omega
        ·
         refine dfW (show ¬ fb ≤ fa by omega) fun c6 c6i => ?_; rcases ho_ : cntHi (xl.map MkC.mk') fa fb with _ | hi_
         ·
          have HO := hI ho_; have HR_ : Hid (betw (ivOf cs rr) nb big ms rs da db = (17, none)) := betw_r HCE.out HDO.out (btw_free (by have := HM.out.len; omega) HPI.out c6i ho_) rfl; clear ho_; have yr2 := (show Row w7 bx (offx + k) [.slice xa xn xc] from (RdH.row_ (Y3 M) HEx.out)).c1; have r2_0 := yr2; clear yr2; go_wp2_with fail
          clear r2_0; refine nmW w7.drew fun w8 hv => ?_; replace M := drM hv M; refine rgW (S := (fun w' => w'.cell? ⟨w.heap.size, 0, none⟩ = some (.string nm) ∧ w'.cell? ⟨w.heap.size, 1, none⟩ = some (.slice (some ⟨bm, ofm, none⟩) nn cm) ∧ w'.cell? ⟨w.heap.size, 2, none⟩ = some (.slice ar nr cr) ∧ w'.cell? ⟨bm, ofm + k * 3, none⟩ = some (.int .i64 zs) ∧ w'.cell? ⟨bm, ofm + k * 3 + 1, none⟩ = some (.int .i64 zf) ∧ w'.cell? ⟨bm, ofm + k * 3 + 2, none⟩ = some (.int .i64 zu))) hv ((Y5 M).t3 ((HRz.out.keep (J6 M)).c3)) fun hH23 => ?_; clear hv; refine tk8 at0 at1 at2 at3 at4 at5 at6 at7 ?_; refine tk8 at8 at9 at10 at11 at12 at13 at14 at15 ?_; refine tk2 at16 at17 ?_; refine dnW ?_; clear hH23; go_wp2_with fail
          refine (ctCounted (G := G) (da := fa) (db := fb) (lo := (cntLo (xl.map MkC.mk') fa fb)) (hi := none) (b_ := false) (Nat.le_trans hG (J6 M).size) (show RdM G w8 xa xn xc xl from (RdL.oksC (Y3 M) _ (List.mem_of_getElem? HEx.out))) (by omega) HZx.out rfl HO.out rfl).mono ?_; rintro e w9 ⟨x_24, x_25, x_26, x_27, x_28, x_29, x_30, x_31, rfl, hd32, hd33, hb⟩; replace M := ad2M hd32 hd33 hb M; clear hb hd32 hd33; refine cj4 (TQ.st (Y0 M)) fun bj bk bl bn => ?_; refine cj4 (TQ.st (Y1 M)) fun bo bp bq br => ?_; go_upto_region 16 with fail
          clear bj bk bl bn bo bp bq br; generalize hv : World.alloc w9 _ = w10; have ow3_ := ((Y2 M)).lt; replace M := alM hv.symm M; clear hv; refine cj16 (Y7 M).c8 fun ae af ag ah ai aj ak al ao ap au av aw ax ay az => ?_; go_wp2_with fail
          clear ae af ag ah ai aj ak al ao ap au av aw ax ay az; refine st8V (.int .i64 0) (.slice none 0 0) (.int .i64 0) (.slice none 0 0) (.int .i64 0) (.slice none 0 0) (.int .i64 0) (.slice none 0 0) (Y7 M) (J9 M) fun w11 hv og hk hbw => ?_; rw [← hv]; replace M := hI (aI ((Y0 M).o og) (aI ((Y1 M).f (Y7 M) og) (aI ((Y2 M).f (Y7 M) og) (aI ((Y3 M).o og) (aI ((Y4 M).f (Y7 M) og) (aI ((Y5 M).f (Y7 M) og) (aI ((Y6 M).f (Y7 M) og) (aI hk (aI ((Y8 M).o og) hbw))))))))); clear hk hbw og hv; obtain ⟨rfl, rfl, rfl⟩ := b_end HE.out HLO.out HHI.out HR_.out; refine bodyPost_ret (results_box2 rfl _ _ (w.heap.size + 1) 38 _ _ _ rfl (Y7 M) Tryz.underlying38 rfl (by kernel_rfl)) rfl ?_; exact ⟨_, _, _, _, _, _, _, _, rfl, oq_none _ _ _ _ _, oq_none _ _ _ _ _, Oz.none_, Oz.none_, (J9 M)⟩
         ·
          have HO := hI ho_; obtain ⟨lo_, hlo_⟩ : ∃ q, cntLo (xl.map MkC.mk') fa fb = q := ⟨_, rfl⟩; have HLo := hI hlo_; have HB2 := hI (btw_some_ HBT.out HPI.out c6i hlo_ ho_); have HZl : Hid (Fz lo_ 130) := by show Fz _ _; rw [← hlo_]; exact cntLo_fz HZx.out _ _
          have HZh : Hid (Fz hi_ 130) := cntHi_fz HZx.out ho_; have HNN : Hid (lo_ ≤ hi_) := by show _ ≤ _; rw [← hlo_]; exact cnt_at HCE.out hu20.out HEx.out (by have := HM.out.len; omega) (by omega) ho_
          clear ho_ hlo_; have yr2 := (show Row w7 bx (offx + k) [.slice xa xn xc] from (RdH.row_ (Y3 M) HEx.out)).c1; have r2_0 := yr2; clear yr2; go_wp2_with fail
          clear r2_0; refine nmW w7.drew fun w8 hv => ?_; replace M := drM hv M; refine rgW (S := (fun w' => w'.cell? ⟨w.heap.size, 0, none⟩ = some (.string nm) ∧ w'.cell? ⟨w.heap.size, 1, none⟩ = some (.slice (some ⟨bm, ofm, none⟩) nn cm) ∧ w'.cell? ⟨w.heap.size, 2, none⟩ = some (.slice ar nr cr) ∧ w'.cell? ⟨bm, ofm + k * 3, none⟩ = some (.int .i64 zs) ∧ w'.cell? ⟨bm, ofm + k * 3 + 1, none⟩ = some (.int .i64 zf) ∧ w'.cell? ⟨bm, ofm + k * 3 + 2, none⟩ = some (.int .i64 zu))) hv ((Y5 M).t3 ((HRz.out.keep (J6 M)).c3)) fun hH34 => ?_; clear hv; refine tk8 at0 at1 at2 at3 at4 at5 at6 at7 ?_; refine tk8 at8 at9 at10 at11 at12 at13 at14 at15 ?_; refine tk2 at16 at17 ?_; refine dnW ?_; clear hH34; go_wp2_with fail
          refine (ctCounted (G := G) (da := fa) (db := fb) (lo := lo_) (hi := (some hi_)) (b_ := true) (Nat.le_trans hG (J6 M).size) (show RdM G w8 xa xn xc xl from (RdL.oksC (Y3 M) _ (List.mem_of_getElem? HEx.out))) (by omega) HZx.out HLo.out HO.out rfl).mono ?_; rintro e w9 ⟨x_35, x_36, x_37, x_38, x_39, x_40, x_41, x_42, rfl, hd43, hd44, hb⟩; replace M := ad2M hd43 hd44 hb M; clear hb hd43 hd44; refine cj4 (TQ.st (Y0 M)) fun bs bt bu bv => ?_; refine cj4 (TQ.st (Y1 M)) fun bw bz ca cb => ?_; go_upto_region 16 with fail
          clear bs bt bu bv bw bz ca cb; generalize hv : World.alloc w9 _ = w10; have ow3_ := ((Y2 M)).lt; replace M := alM hv.symm M; clear hv; refine (Y3 M).D8 fun cd cf cg ch ci cj ck cl => ?_; refine (Y0 M).D8 fun cn co cp ct cu cv cw cx => ?_; go_wp2_with fail
          clear cd cf cg ch ci cj ck cl cn co cp ct cu cv cw cx; refine nmW (α := Rat) (sl + lo_) fun q53 eq53 => ?_; refine nmW (α := Rat) (sh + hi_) fun q54 eq54 => ?_; refine (spAdd_q (G := G) (p := sl) (q := sh) (r := lo_) (s := hi_) (Nat.le_trans hG (J9 M).size) (Y4 M) (Y5 M) (Y1 M) (Y2 M) (Fz.mono (show Fz sl 131010 from HSl.out.mono (by omega)) (by omega)) (Fz.mono (show Fz sh 131010 from HSh.out.mono (by omega)) (by omega)) (Fz.mono HZl.out (by omega)) (Fz.mono HZh.out (by omega)) HOr.out HNN.out).mono ?_; rintro e w11 ⟨x_45, x_46, x_47, x_48, x_49, x_50, x_51, x_52, rfl, hd55, hd56, hb⟩; rw [← eq53] at hd55; have Sq53 := szW eq53 (n := 131141) (Fz.add (show Fz sl 131010 from HSl.out.mono (by omega)) HZl.out); have Eq53 := hI eq53; clear eq53; rw [← eq54] at hd56; have Sq54 := szW eq54 (n := 131141) (Fz.add (show Fz sh 131010 from HSh.out.mono (by omega)) HZh.out); have Eq54 := hI eq54; clear eq54; replace M := ad2M hd55 hd56 hb M; clear hb hd55 hd56; refine cj16 (Y5 M).c8 fun cd cy cf cz cg dc ch dd ci de cj df ck dg cl dh => ?_; refine cj4 (TQ.st (Y0 M)) fun di dj dk dl => ?_; refine cj4 (TQ.st (Y1 M)) fun dm dn dp dq => ?_; go_upto_region 19 with fail
          clear cd cy cf cz cg dc ch dd ci de cj df ck dg cl dh di dj dk dl dm dn dp dq; refine st8V (x_45) (x_46) (x_47) (x_48) (x_49) (x_50) (x_51) (x_52) (Y5 M) (J11 M) fun w12 hv og hk hbw => ?_; rw [← hv]; replace M := hI (aI ((Y0 M).f (Y5 M) og) (aI ((Y1 M).f (Y5 M) og) (aI ((Y2 M).o og) (aI ((Y3 M).f (Y5 M) og) (aI ((Y4 M).f (Y5 M) og) (aI hk (aI ((Y6 M).f (Y5 M) og) (aI ((Y7 M).f (Y5 M) og) (aI ((Y8 M).f (Y5 M) og) (aI ((Y9 M).o og) (aI ((Y10 M).o og) hbw))))))))))); clear hk hbw og hv; go_wp2_with fail
          go_roundw
          case rel => exact ⟨(k + 1), q53, q54, x_45, x_46, x_47, x_48, x_49, x_50, x_51, x_52, by go_num, (by show _ ≤ _; omega), (hI (by rw [Eq53.out, Eq54.out]; exact HB2.out)), (hI (by rw [Eq53.out]; exact (Fz.add HSl.out HZl.out).mono (by omega))), (hI (by rw [Eq54.out]; exact (Fz.add HSh.out HZh.out).mono (by omega))), (hI (by rw [Eq53.out, Eq54.out]; exact q_add_le HOr.out HNN.out)), hI (aI (Y5 M) (aI (Y0 M) (aI (Y1 M) (aI (Y8 M) (aI (Y9 M) (aI (Y10 M) (J11 M)))))))⟩
          case measure => simp [RowKit.intOf] <;> omega
       ·
        refine geW (show ¬ k < nn by omega) fun e5_0 e5_1 e5_i => ?_; have HR_ : Hid (betw (ivOf cs rr) nb big ms rs da db = (0, some (sl, sh))) := betw_r HCE.out HDO.out (show btw (pieceM (ivOf cs rr) ms rs da db) ms.length = some (sl, sh) from by rw [HM.out.len, show nn = k by omega]; exact HBT.out) rfl; refine (Y0 M).D8 fun cd cf cg ch ci cj ck cl => ?_; refine cj16 (Y4 M).c8 fun ae af ag ah ai aj ak al ao ap au av aw ax ay az => ?_; refine cj4 (TQ.st (Y1 M)) fun dr ds dt du => ?_; refine cj4 (TQ.st (Y2 M)) fun dv dw dx dy => ?_; go_wp2_with fail
        clear cd cf cg ch ci cj ck cl ae af ag ah ai aj ak al ao ap au av aw ax ay az dr ds dt du dv dw dx dy; refine st8V (g0) (g1) (g2) (g3) (g4) (g5) (g6) (g7) (Y4 M) (J6 M) fun w8 hv og hk hbw => ?_; rw [← hv]; replace M := hI (aI ((Y0 M).o og) (aI ((Y1 M).f (Y4 M) og) (aI ((Y2 M).f (Y4 M) og) (aI ((Y3 M).f (Y4 M) og) (aI hk (aI ((Y5 M).o og) hbw)))))); clear hk hbw og hv; obtain ⟨rfl, rfl, rfl⟩ := b_end HE.out HLO.out HHI.out HR_.out; refine bodyPost_ret (results_box2 rfl _ _ (w.heap.size + 1) 38 _ _ _ rfl (Y4 M) Tryz.underlying38 rfl (by kernel_rfl)) rfl ?_; exact ⟨g0, g1, g2, g3, g4, g5, g6, g7, rfl, (Y1 M), (Y2 M), HSl.out.mono (by omega), HSh.out.mono (by omega), (J6 M)⟩
 ·
  have em1_ : (ce == 0) = false := beq_false_of_ne hem_; have em2_ : (ce != 0) = true := bne_iff_ne.2 hem_; have em3_ : ¬ ce = 0 := hem_; have HR_ := hI (betw_c (a := da) (b := db) HCE.out em3_); refine cj16 (Y0 M).c8 fun ae af ag ah ai aj ak al ao ap au av aw ax ay az => ?_; go_wp2_with fail
  clear ae af ag ah ai aj ak al ao ap au av aw ax ay az; refine st8V (.int .i64 0) (.slice none 0 0) (.int .i64 0) (.slice none 0 0) (.int .i64 0) (.slice none 0 0) (.int .i64 0) (.slice none 0 0) (Y0 M) (J2 M) fun w3 hv og hk hbw => ?_; rw [← hv]; replace M := hI (aI hk (aI ((Y1 M).o og) hbw)); clear hk hbw og hv; obtain ⟨rfl, rfl, rfl⟩ := b_end HE.out HLO.out HHI.out HR_.out; refine bodyPost_ret (results_box2 rfl _ _ (w.heap.size + 1) 38 _ _ _ rfl (Y0 M) Tryz.underlying38 rfl (by kernel_rfl)) rfl ?_; exact ⟨_, _, _, _, _, _, _, _, rfl, oq_none _ _ _ _ _, oq_none _ _ _ _ _, Oz.none_, Oz.none_, (J2 M)⟩
end Go.Proofs.YtlcgckelamhnpaaGreat
