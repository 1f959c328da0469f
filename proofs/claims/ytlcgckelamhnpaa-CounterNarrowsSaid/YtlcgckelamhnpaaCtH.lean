/- Stations: what Check returns. -/
import Derived.Test.YtlcgckelamhnpaaBase
import Derived.Test.YtlcgckelamhnpaaBigSpec
import Derived.Test.YtlcgckelamhnpaaBigB
import Derived.Test.YtlcgckelamhnpaaBigC
import Derived.Test.YtlcgckelamhnpaaBigD
import Derived.Test.YtlcgckelamhnpaaBigQ
import Derived.Test.YtlcgckelamhnpaaFd
import Derived.Test.YtlcgckelamhnpaaHeld
import Derived.Test.YtlcgckelamhnpaaAw
import Derived.Test.YtlcgckelamhnpaaFracC
import Derived.Test.YtlcgckelamhnpaaFz
import Derived.Test.YtlcgckelamhnpaaFracR
import Derived.Test.YtlcgckelamhnpaaRw
import Derived.Test.YtlcgckelamhnpaaScaleE
import Derived.Test.YtlcgckelamhnpaaCtLaws
import Derived.Test.YtlcgckelamhnpaaCtA
import Derived.Test.YtlcgckelamhnpaaCtC
import Derived.Test.YtlcgckelamhnpaaLexSpec
import Derived.Test.YtlcgckelamhnpaaCtD
import Derived.Test.YtlcgckelamhnpaaCtE
import Derived.Test.YtlcgckelamhnpaaCtF
import Derived.Test.YtlcgckelamhnpaaProg
import Derived.Test.YtlcgckelamhnpaaShelf
import Derived.WalkKit
import Derived.WalkSpells
import Derived.WalkLawsBesides
import Derived.Handy
import Derived.Lib.Hide
import Derived.Lib.Strings
import Derived.Lib.Builder
import Derived.BigQuiet
import Derived.OwnWalk
import Derived.Laws.BitsLemmas
import Derived.WalkSmall
import Derived.Deep.QuietTactic
import Derived.StillTailTactics
import Derived.Maps.AppendAt
import Derived.IntWalk
import Derived.Deep.RegionHeld3
import Derived.Deep.DeepFit
import Derived.Deep.LoopGhost
import Derived.Deep.DeepCutAuto
import Derived.Lib.ItoaNum
import Derived.Lib.Repeat
import Derived.Lib.AppendIntMem
import Derived.Sort.OwnSorted
import Derived.Shelf.Strings.SlTrimAscii
import Derived.Lib.ConvBytes
import Derived.Lib.CutLaws
import Derived.Shelf.Strings.Builder1
import Derived.ArgAppend
namespace Go.Proofs.Ytlcgckelamhnpaa
open Go.RowKit Go.Lib
variable {G : Nat}

def possL (l : List MkC) : Bool := possB (l.map MkC.mk')
def LenL (l : List HdM) (n : Nat) : Prop := ∀ x ∈ l, x.l.length ≤ n
def MkZL (l : List HdM) (n : Nat) : Prop := ∀ x ∈ l, MkZ x.l n
theorem all_next {α : Type} {p : α → Bool} {l : List α} {k : Nat} {x : α} (hx : l[k]? = some x) (h : (l.take k).all p = true) (h1 : p x = true) : (l.take (k + 1)).all p = true := by
 rw [take_snoc_at hx, List.all_append, h]; simp [h1]
theorem all_no {α : Type} {p : α → Bool} {l : List α} {k : Nat} {x : α} (hx : l[k]? = some x) (h1 : p x = false) : l.all p = false := by
 rw [List.all_eq_false]; exact ⟨x, List.mem_of_getElem? hx, by rw [h1]; simp⟩
/-- One mark of a list: nothing contradicts it. -/
def markB (l : List MkC) (y : MkC) : Bool := match mostO (l.map MkC.mk') y.d with | none => true | some h => !decide (h < leastQ (l.map MkC.mk') y.d)
theorem possL_all (l : List MkC) : possL l = l.all (markB l) := by
 unfold possL possB
 rw [List.all_map]; rfl
theorem most_at {l : List MkC} {k : Nat} {x : MkC} (h : l[k]? = some x) : ∃ o, mostO (l.map MkC.mk') x.d = some o := by
 have h1 := most_some (l := l.map MkC.mk') (day := x.d) |>.2 ⟨x.mk', List.mem_map.2 ⟨x, List.mem_of_getElem? h, rfl⟩, Int.le_refl _⟩
 cases e : mostO (l.map MkC.mk') x.d with
 | none => rw [e] at h1; cases h1
 | some o => exact ⟨o, rfl⟩
set_option maxRecDepth 100000 in
set_option maxHeartbeats 4000000 in
theorem ctPossible {l : List HdM} {a : Option Addr} {n c : Nat} {b_ : Bool} {w : World} (hG : G ≤ w.heap.size) (h : RdH G w a n c l) (_hn : n ≤ 1000) (hz : MkZL l 60) (hl : LenL l 1000) (hb : l.all (fun x => possL x.l) = b_) :
  Calls Try.prog 33 #[.slice a n c] w fun e w' => e = .returned (.bool b_) ∧ Below w.heap.size w w' := by
 have HZ := Lib.hid hz; have HLN := Lib.hid hl; have HB := Lib.hid hb; clear hz hl hb
 have HL : Hid (RdH G w a n c l) := h
 clear h
 have M : Hid (Below w.heap.size w w) := Below.refl _ _
 go_enter Try.func33, Try.ntmps33
 go_wp2_with fail
 go_loopw [11] (fun i11 wr => ∃ (k : Nat), i11 = .int .i64 (k : Int) ∧ Hid (k ≤ n) ∧ Hid ((l.take k).all (fun x => possL x.l) = true) ∧ Hid (Below w.heap.size w wr)) (fun i11 _ => n - (RowKit.intOf i11).toNat)
 case atStart =>
  exact ⟨0, rfl, (by show _ ≤ _; omega), (Lib.hid rfl), Lib.hid M.out⟩
 case round =>
  obtain ⟨w1, rfl⟩ : ∃ x, x = wr := ⟨_, rfl⟩
  clear M
  obtain ⟨k, rfl, hk, HA, M⟩ := hrel
  have hk := hk.out
  by_cases hlt : k < n
  ·
   have e1_0 : decide (k < n) = true := decide_eq_true (by omega)
   have e1_1 : decide ((k : Int) < (n : Int)) = true := decide_eq_true (by omega)
   have e1_i : (k : Int) < (n : Int) := by omega
   obtain ⟨b, off, rfl, hb_⟩ := RdL.ptr HL.out (by omega : 0 < n)
   have hkl_ : k < l.length := by rw [HL.out.len]; exact hlt
   obtain ⟨x_, hx_⟩ : ∃ x, l[k]? = some x := ⟨l[k], List.getElem?_eq_getElem hkl_⟩
   obtain ⟨xa, xn, xc, xl⟩ := x_
   have HRx : Hid (Row w b (off + k) [.slice xa xn xc]) := by have h_ := hb_.row hx_; rw [show k * El.sz HdM = k from Nat.mul_one _] at h_; exact h_
   have HDx : Hid (RdM G w xa xn xc xl) := hb_.ok hx_
   have HEx := Lib.hid hx_
   have HZx : Hid (MkZ xl 60) := HZ.out _ (List.mem_of_getElem? hx_)
   have hnx : xn ≤ 1000 := by have h_ := HLN.out _ (List.mem_of_getElem? hx_); have h2_ := (HDx.out).len; simp only at h_; omega
   clear hx_ hb_ hkl_
   have yr0 := (HRx.out.keep M.out).c1; have r0_0 := yr0; clear yr0
   go_wp2_with fail
   clear r0_0
   go_loopw [17] (fun i17 wr => ∃ (j : Nat), i17 = .int .i64 (j : Int) ∧ Hid (j ≤ xn) ∧ Hid ((xl.take j).all (markB xl) = true) ∧ Hid (Below w.heap.size w wr)) (fun i17 _ => xn - (RowKit.intOf i17).toNat)
   case atStart =>
    exact ⟨0, rfl, (by show _ ≤ _; omega), (Lib.hid rfl), Lib.hid M.out⟩
   case round =>
    obtain ⟨w2, rfl⟩ : ∃ x, x = wr := ⟨_, rfl⟩
    clear M
    obtain ⟨j, rfl, hj, HJ, M⟩ := hrel
    have hj := hj.out
    by_cases hlt2 : j < xn
    ·
     have e2_0 : decide (j < xn) = true := decide_eq_true (by omega)
     have e2_1 : decide ((j : Int) < (xn : Int)) = true := decide_eq_true (by omega)
     have e2_i : (j : Int) < (xn : Int) := by omega
     obtain ⟨b2, off2, rfl, hb_⟩ := RdL.ptr HDx.out (by omega : 0 < xn)
     have hkl_ : j < xl.length := by rw [HDx.out.len]; exact hlt2
     obtain ⟨y_, hx_⟩ : ∃ x, xl[j]? = some x := ⟨xl[j], List.getElem?_eq_getElem hkl_⟩
     obtain ⟨yd, yu0, yu1, yu2, yu3, ylo, yv0, yv1, yv2, yv3, yhi⟩ := y_
     have HRy : Hid (Row w b2 (off2 + j * 9) [.int .i64 yd, yu0, yu1, yu2, yu3, yv0, yv1, yv2, yv3]) := hb_.row hx_
     have HQy : Hid (FQ G w yu0 yu1 yu2 yu3 ylo) := (hb_.ok hx_).1
     have HSy : Hid (FQ G w yv0 yv1 yv2 yv3 yhi) := (hb_.ok hx_).2
     have HEy := Lib.hid hx_
     have hz_ := HZx.out _ (List.mem_of_getElem? hx_)
     have HZy1 : Hid (Fz ylo 60) := hz_.1
     have HZy2 : Hid (Fz yhi 60) := hz_.2
     have HMy : Hid ((xl.map MkC.mk')[j]? = some ⟨yd, ylo, yhi⟩) := by show _ = _; rw [List.getElem?_map, hx_]; rfl
     clear hx_ hb_ hkl_ hz_
     obtain ⟨oh, hoh_⟩ := most_at HEy.out
     obtain ⟨ql, hql_⟩ : ∃ q, leastQ (xl.map MkC.mk') yd = q := ⟨_, rfl⟩
     obtain ⟨kv, hkv_⟩ : ∃ k, ordQ ql oh = k := ⟨_, rfl⟩
     obtain ⟨t1, ht1_⟩ : ∃ b, decide (oh < ql) = b := ⟨_, rfl⟩
     have hk1_ : decide (0 < kv) = t1 := by rw [← ht1_, ← hkv_, ordQ_gt0]
     have HZo : Hid (Fz oh 60) := by have h_ := most_oz HZx.out yd; rw [show mostO (xl.map MkC.mk') yd = some oh from hoh_] at h_; exact h_
     have HZq : Hid (Fz ql 60) := by show Fz _ _; rw [← hql_]; exact least_fz HZx.out (by omega) yd
     have HMB : Hid (markB xl ⟨yd, yu0, yu1, yu2, yu3, ylo, yv0, yv1, yv2, yv3, yhi⟩ = !t1) := by show _ = _; unfold markB; simp only; rw [show mostO (xl.map MkC.mk') yd = some oh from hoh_]; show (!decide (oh < leastQ (xl.map MkC.mk') yd)) = _; rw [hql_, ht1_]
     have HOH : Hid (mostO (xl.map MkC.mk') yd = some oh) := hoh_
     have HQL := Lib.hid hql_; have HKV := Lib.hid hkv_; have HT1 := Lib.hid ht1_; clear hoh_ hql_ hkv_ ht1_
     refine cj4 (TQ.st (HQy.out.keep M.out)) fun aa ab ac ad => ?_
     refine cj4 (TQ.st (HSy.out.keep M.out)) fun ae af ag ah => ?_
     refine cj9 (HRy.out.keep M.out).c9 fun r1_0 r1_1 r1_2 r1_3 r1_4 r1_5 r1_6 r1_7 r1_8 => ?_
     go_upto_region 7 with fail
     clear aa ab ac ad ae af ag ah r1_0 r1_1 r1_2 r1_3 r1_4 r1_5 r1_6 r1_7 r1_8
     refine nmW (w2.alloc (.cells #[.int .i64 yd, yu0, yu1, yu2, yu3, yv0, yv1, yv2, yv3] 97)) fun w3 hv => ?_
     rw [← hv]
     have ow0_ : w.heap.size ≤ w2.heap.size := (M.out).size
     replace M := alM hv M
     clear hv
     refine cj9 (M.out.1).d9 fun ai aj ak al am ao ap aq ar => ?_
     go_wp2_with fail
     clear ai aj ak al am ao ap aq ar
     refine (ctMost (G := G) (day := yd) (o := (some oh)) (b_ := true) (Nat.le_trans hG (J1 M).size) (HDx.out.keep (J1 M)) (by omega) HZx.out HOH.out rfl).mono ?_
     rintro e w4 ⟨x_1, x_2, x_3, x_4, rfl, hd5, hb⟩
     replace M := adM hd5 hb M
     clear hb hd5
     refine cj4 (TQ.st (M.out.1)) fun au av aw ax => ?_
     go_wp2_with fail
     clear au av aw ax
     refine nmW (w4.alloc (.cells #[x_1, x_2, x_3, x_4] 38)) fun w5 hv => ?_
     rw [← hv]
     have ow1_ : w2.heap.size < w4.heap.size := ((J1 M).1).lt
     replace M := alM hv M
     clear hv
     refine nmW w5.drew fun w6 hv => ?_
     replace M := drM hv M
     refine wp_region_held_drew (S := (fun w' => w'.cell? ⟨w2.heap.size, 0, none⟩ = some (.int .i64 yd) ∧ w'.cell? ⟨w2.heap.size, 1, none⟩ = some (yu0) ∧ w'.cell? ⟨w2.heap.size, 2, none⟩ = some (yu1) ∧ w'.cell? ⟨w2.heap.size, 3, none⟩ = some (yu2) ∧ w'.cell? ⟨w2.heap.size, 4, none⟩ = some (yu3) ∧ w'.cell? ⟨w2.heap.size, 5, none⟩ = some (yv0) ∧ w'.cell? ⟨w2.heap.size, 6, none⟩ = some (yv1) ∧ w'.cell? ⟨w2.heap.size, 7, none⟩ = some (yv2) ∧ w'.cell? ⟨w2.heap.size, 8, none⟩ = some (yv3) ∧ w'.cell? ⟨w4.heap.size, 0, none⟩ = some (x_1) ∧ w'.cell? ⟨w4.heap.size, 1, none⟩ = some (x_2) ∧ w'.cell? ⟨w4.heap.size, 2, none⟩ = some (x_3) ∧ w'.cell? ⟨w4.heap.size, 3, none⟩ = some (x_4))) (by kernel_rfl) (by rw [← hv]; exact ((J2 M).1.t9 ((M.out.1).d4))) (fun hH11 => ?_)
     rw [← hv] at hH11 ⊢
     clear hv
     refine tk at0 ?_
     refine tk at1 ?_
     refine tk at2 ?_
     refine tk at4 ?_
     refine wpAnyH_ready (rs := [3]) (by kernel_rfl) (by simp) ?_
     refine AllReadyH.cons at3 (fun K hK => ?_) AllReadyH.nil
     go_simp
     refine (ctLeast (G := G) (day := yd) (q := ql) (Nat.le_trans hG (J3 M).size) (HDx.out.keep (J3 M)) (by omega) HZx.out HQL.out).mono ?_
     rintro e w7 ⟨x_12, x_13, x_14, x_15, rfl, hd16, hb⟩
     replace M := adM hd16 hb M
     clear hb hd16
     (try go_wp2_with fail)
     refine hK.out _ _ (((J3 M).1.t9 ((J1 M).1.d4))) (fun hH17 => ?_)
     clear hK K hH11
     (try simp only [Act.put, List.setIfInBounds_toArray, List.set_cons_zero, List.set_cons_succ])
     refine wpAnyH_ready (rs := [5]) (by kernel_rfl) (by simp) ?_
     refine AllReadyH.cons at5 (fun K hK => ?_) AllReadyH.nil
     go_simp
     refine (fqCompare (G := G) (q := ql) (r := oh) (k := kv) (M.out.1) (J2 M).1 (Fz.mono HZq.out (by omega)) (Fz.mono HZo.out (by omega)) HKV.out).mono ?_
     rintro e w8 ⟨rfl, hb⟩
     replace M := gnM hb M
     clear hb
     (try go_wp2_with fail)
     refine hK.out _ _ (((J3 M).1.t9 ((J1 M).1.d4))) (fun hH18 => ?_)
     clear hK K hH17
     (try simp only [Act.put, List.setIfInBounds_toArray, List.set_cons_zero, List.set_cons_succ])
     refine tk at6 ?_
     refine wpAnyH_done (by kernel_rfl) ?_ _
     clear hH18
     cases t1 with
     | false =>
      go_wp2_with fail
      go_roundw
      case rel => exact ⟨(j + 1), by go_num, (by show _ ≤ _; omega), (Lib.hid (all_next HEy.out HJ.out HMB.out)), Lib.hid (J4 M)⟩
      case measure => simp [RowKit.intOf] <;> omega
     | true =>
      go_wp2_with fail
      go_ret
      exact ⟨by rw [← HB.out, all_no HEx.out (show possL xl = false by rw [possL_all]; exact all_no HEy.out HMB.out)] <;> rfl, (J4 M)⟩
    ·
     have e2_0 : decide (j < xn) = false := decide_eq_false (by omega)
     have e2_1 : decide ((j : Int) < (xn : Int)) = false := decide_eq_false (by omega)
     have e2_i : ¬ (j : Int) < (xn : Int) := by omega
     have HXA : Hid (possL xl = true) := by show _ = _; rw [possL_all]; have h_ := HJ.out; rw [List.take_of_length_le (by rw [HDx.out.len]; omega)] at h_; exact h_
     go_wp2_with fail
     go_roundw
     case rel => exact ⟨(k + 1), by go_num, (by show _ ≤ _; omega), (Lib.hid (all_next HEx.out HA.out HXA.out)), Lib.hid M.out⟩
     case measure => simp [RowKit.intOf] <;> omega
  ·
   have e1_0 : decide (k < n) = false := decide_eq_false (by omega)
   have e1_1 : decide ((k : Int) < (n : Int)) = false := decide_eq_false (by omega)
   have e1_i : ¬ (k : Int) < (n : Int) := by omega
   have HT : Hid (b_ = true) := by show _ = _; rw [← HB.out]; rw [List.take_of_length_le (by rw [HL.out.len]; omega)] at HA; exact HA.out
   go_wp2_with fail
   go_ret
   exact ⟨by rw [HT.out] <;> rfl, M.out⟩
end Go.Proofs.Ytlcgckelamhnpaa
namespace Go.Proofs.Ytlcgckelamhnpaa
open Go.RowKit Go.Lib
variable {G : Nat}

theorem rgIn_of {nb big : Bool} {ms : List Mt} {rs : List Rg} (h : formedE nb big ms rs = 0) : RgIn ms.length rs := by
  intro k x hx
  have hk := (List.getElem?_eq_some_iff.1 hx).1
  have h1 := (formed_zero.1 h).2.2.2 k hk
  unfold rErr at h1
  rw [hx] at h1
  have h2 : (if (decide (x.m < 0) || decide ((ms.length : Int) ≤ x.m) || decide (x.c < 0) || decide (1099511627776 < x.c)) = true then 1 else _) = (0 : Int) := h1
  by_cases hc : (decide (x.m < 0) || decide ((ms.length : Int) ≤ x.m) || decide (x.c < 0) || decide (1099511627776 < x.c)) = true
  · rw [if_pos hc] at h2; cases h2
  · simp only [Bool.or_eq_true, decide_eq_true_eq, not_or] at hc
    omega
theorem poss_of {L : List HdM} {nn : Nat} {iv : Iv} {ms : List Mt} {rs : List Rg} (hl : L.map (fun x => x.l.map MkC.mk') = (List.range nn).map (fun i => marksL iv ms rs (i : Nat))) (hn : ms.length = nn) : L.all (fun x => possL x.l) = possA iv ms rs := by
 subst hn
 have h := congrArg (fun z => z.all possB) hl
 simp only [List.all_map] at h
 exact h
theorem lenL_of {L : List HdM} {nn : Nat} {iv : Iv} {ms : List Mt} {rs : List Rg} (hl : L.map (fun x => x.l.map MkC.mk') = (List.range nn).map (fun i => marksL iv ms rs (i : Nat))) (hr : rs.length ≤ 1000) : LenL L 1000 := by
 intro x hx
 have h1 : x.l.map MkC.mk' ∈ L.map (fun x => x.l.map MkC.mk') := List.mem_map.2 ⟨x, hx, rfl⟩
 rw [hl] at h1
 obtain ⟨i, -, h2⟩ := List.mem_map.1 h1
 have h3 := congrArg List.length h2
 rw [List.length_map] at h3
 rw [← h3]
 unfold marksL
 exact Nat.le_trans (Nat.le_trans (List.length_filterMap_le _ _) (List.length_filter_le _ _)) hr
theorem at_of {L : List HdM} {nn k : Nat} {iv : Iv} {ms : List Mt} {rs : List Rg} {x : HdM} (hl : L.map (fun x => x.l.map MkC.mk') = (List.range nn).map (fun i => marksL iv ms rs (i : Nat))) (hx : L[k]? = some x) : x.l.map MkC.mk' = marksL iv ms rs (k : Nat) := by
 have h := congrArg (fun z => z[k]?) hl
 simp only [List.getElem?_map, hx, Option.map_some] at h
 cases hr : (List.range nn)[k]? with
 | none => rw [hr] at h; cases h
 | some j =>
  rw [hr] at h
  obtain ⟨h1, h2⟩ := List.getElem?_eq_some_iff.1 hr
  rw [List.getElem_range] at h2
  subst h2
  exact Option.some.inj h
theorem check_e {iv : Iv} {nb big : Bool} {ms : List Mt} {rs : List Rg} {fe : Int} (h : formedE nb big ms rs = fe) (h0 : ¬ fe = 0) : checkE iv nb big ms rs = fe := by
 unfold checkE; rw [h, if_neg h0]
theorem check_p {iv : Iv} {nb big : Bool} {ms : List Mt} {rs : List Rg} {pa : Bool} (h : formedE nb big ms rs = 0) (hp : possA iv ms rs = pa) : checkE iv nb big ms rs = if pa = true then 0 else 16 := by
 unfold checkE; rw [h, if_pos rfl, hp]
set_option maxRecDepth 100000 in
set_option maxHeartbeats 4000000 in
theorem ctCheck {nm : ByteArray} {am ar ac aq : Option Addr} {nn cm nr cr cc cq : Nat} {ms : List Mt} {rs : List Rg} {cs : List Ct} {rr : List Rc} {nb big : Bool} {er : Int} {w : World} (hG : G ≤ w.heap.size) (hm : RdMt G w am nn cm ms) (hr : RdRg G w ar nr cr rs) (hc : CtIn w (.slice ac cs.length cc) cs) (hq : RcIn w (.slice aq rr.length cq) rr) (_hsz : nm.size ≤ 1000) (_hnn : nn ≤ 1000) (_hnr : nr ≤ 1000) (_hcl : cs.length ≤ 1000) (_hrl : rr.length ≤ 1000) (hnb : nameOk nm.data.toList = nb) (hbg : bigB ms rs cs.length rr.length = big) (he : checkE (ivOf cs rr) nb big ms rs = er) :
  Calls Try.prog 10 #[.agg #[.string nm, .slice am nn cm, .slice ar nr cr], .slice ac cs.length cc, .slice aq rr.length cq] w fun e w' => e = .returned (.int .i64 er) ∧ Below w.heap.size w w' := by
 obtain ⟨fe, hfe_⟩ : ∃ e, formedE nb big ms rs = e := ⟨_, rfl⟩
 obtain ⟨pa, hpa_⟩ : ∃ b, possA (ivOf cs rr) ms rs = b := ⟨_, rfl⟩
 have HFE := Lib.hid hfe_; have HPA := Lib.hid hpa_; have HE := Lib.hid he; have HNB := Lib.hid hnb; have HBG := Lib.hid hbg; clear hfe_ hpa_ he hnb hbg
 have HM : Hid (RdMt G w am nn cm ms) := hm
 have HR : Hid (RdRg G w ar nr cr rs) := hr
 have HC : Hid (CtIn w (.slice ac cs.length cc) cs) := hc
 have HQ : Hid (RcIn w (.slice aq rr.length cq) rr) := hq
 clear hm hr hc hq
 have M : Hid (Below w.heap.size w w) := Below.refl _ _
 go_enter Try.func10, Try.ntmps10
 go_upto_region 1 with fail
 refine nmW (w.alloc (.cells #[.string nm, .slice am nn cm, .slice ar nr cr] 25)) fun w1 hv => ?_
 rw [← hv]
 replace M := alM hv M
 clear hv
 refine cj3 (M.out.1).d3 fun aa ab ad => ?_
 go_wp2_with fail
 clear aa ab ad
 refine (ctFormed (G := G) (nm := nm) (nb := nb) (big := big) (er := fe) (Nat.le_trans hG (J1 M).size) (HM.out.keep (J1 M)) (HR.out.keep (J1 M)) (HC.out.keep (J1 M)) (HQ.out.keep (J1 M)) (by omega) (by omega) (by omega) (by omega) (by omega) HNB.out HBG.out HFE.out).mono ?_
 rintro e w2 ⟨rfl, hb⟩
 replace M := gnM hb M
 clear hb
 go_upto_region 2 with fail
 by_cases hem_ : fe = 0
 ·
  subst hem_
  have HFM : Hid (RgIn ms.length rs) := rgIn_of HFE.out
  refine cj3 (M.out.1).d3 fun aa ab ad => ?_
  go_wp2_with fail
  clear aa ab ad
  refine (ctMarks (G := G) (nm := nm) (Nat.le_trans hG (J1 M).size) (HM.out.keep (J1 M)) (HR.out.keep (J1 M)) (HC.out.keep (J1 M)) (HQ.out.keep (J1 M)) (by omega) (by omega) (by omega) (by omega) (by omega) HFM.out).mono ?_
  rintro e w3 ⟨a_1, L_2, rfl, hd3, hu4, hu5, hb⟩
  replace M := adM hd3 hb M
  clear hb hd3
  replace hu4 := Lib.hid hu4
  replace hu5 := Lib.hid hu5
  go_wp2_with fail
  refine (ctPossible (G := G) (b_ := pa) (Nat.le_trans hG (J2 M).size) (M.out.1) (by omega) (fun x hx => hu5.out x hx) (lenL_of hu4.out (by have := HR.out.len; omega)) ((poss_of hu4.out HM.out.len).trans HPA.out)).mono ?_
  rintro e w4 ⟨rfl, hb⟩
  replace M := gnM hb M
  clear hb
  cases pa with
  | false =>
   go_wp2_with fail
   go_ret
   exact ⟨by rw [← HE.out, check_p HFE.out HPA.out] <;> rfl, (J2 M)⟩
  | true =>
   go_wp2_with fail
   go_ret
   exact ⟨by rw [← HE.out, check_p HFE.out HPA.out] <;> rfl, (J2 M)⟩
 ·
  have em1_ : (fe == 0) = false := beq_false_of_ne hem_
  have em2_ : (fe != 0) = true := bne_iff_ne.2 hem_
  have em3_ : ¬ fe = 0 := hem_
  go_wp2_with fail
  go_ret
  exact ⟨by rw [← HE.out, check_e HFE.out em3_] <;> rfl, (J1 M)⟩
end Go.Proofs.Ytlcgckelamhnpaa
